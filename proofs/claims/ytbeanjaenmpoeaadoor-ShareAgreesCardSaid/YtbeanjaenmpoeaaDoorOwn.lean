/- Slices that the call itself appends to, row by row; strings and integers as rows of one cell. -/
import Derived.Test.YtbeanjaenmpoeaaDoorBase
import Derived.OwnWalk
namespace Go.Proofs.YtbeanjaenmpoeaaDoor
open Go.RowKit

/-- The slice value v holds the rows zs, in a block of the call's own (from block 'base' on). -/
def OwnR (w : World) (base k : Nat) (E : TypeId) (v : Value) (zs : List (List Value)) : Prop := w.ownsRow base E k v zs.length zs.flatten ∧ ∀ z ∈ zs, z.length = k

theorem OwnR.nil_ (w : World) (base k : Nat) (E : TypeId) : OwnR w base k E (.slice none 0 0) [] := ⟨World.ownsRow_nil w base E k, by simp⟩
theorem OwnR.keep {w w' : World} {base k : Nat} {E : TypeId} {v : Value} {zs : List (List Value)} (h : OwnR w base k E v zs) (hb : Below w.heap.size w w') : OwnR w' base k E v zs := by
  obtain ⟨⟨hl, hh⟩, hz⟩ := h
  refine ⟨⟨hl, ?_⟩, hz⟩
  rcases hh with h0 | ⟨g, cap, cur, hv, hg, hc, r⟩
  · exact .inl h0
  · have hlt : g < w.heap.size := (Array.getElem?_eq_some_iff.1 hc).1
    exact .inr ⟨g, cap, cur, hv, hg, (hb.block g hlt).trans hc, r⟩
theorem flat_get {k : Nat} : ∀ {zs : List (List Value)}, (∀ z ∈ zs, z.length = k) → ∀ {j : Nat} {z : List Value}, zs[j]? = some z → ∀ {i : Nat} {v : Value}, z[i]? = some v → zs.flatten[j * k + i]? = some v := by
  intro zs
  induction zs with
  | nil => intro _ j z hz; simp at hz
  | cons y ys ih =>
    intro hk j z hz i v hv
    have hy : y.length = k := hk y (by simp)
    cases j with
    | zero =>
      simp only [List.getElem?_cons_zero, Option.some.injEq] at hz
      subst hz
      have hi : i < y.length := (List.getElem?_eq_some_iff.1 hv).1
      rw [List.flatten_cons, List.getElem?_append_left (by omega)]
      simpa using hv
    | succ j =>
      rw [List.getElem?_cons_succ] at hz
      rw [List.flatten_cons, List.getElem?_append_right (by rw [hy, Nat.succ_mul]; omega)]
      have := ih (fun z hz => hk z (by simp [hz])) hz hv
      rw [show (j + 1) * k + i - y.length = j * k + i by rw [hy, Nat.succ_mul]; omega]
      exact this
theorem OwnR.rws {w : World} {base k : Nat} {E : TypeId} {v : Value} {zs : List (List Value)} (h : OwnR w base k E v zs) : ∃ A c, v = .slice A zs.length c ∧ Rws w k A zs.length zs := by
  obtain ⟨hown, hz⟩ := h
  have hh := hown.2
  rcases hh with ⟨rfl, h0⟩ | ⟨g, cap, cur, rfl, hg, hc, _⟩
  · have : zs = [] := List.eq_nil_of_length_eq_zero h0
    subst this
    exact ⟨none, 0, rfl, Rws.nil_⟩
  · have hlt : g < w.heap.size := (Array.getElem?_eq_some_iff.1 hc).1
    refine ⟨_, _, rfl, rfl, hz, fun _ => ⟨g, 0, rfl, hlt, fun j z hj i v hv => ?_⟩⟩
    have := hown.cells (g := g) rfl _ v (flat_get hz hj hv)
    rw [Addr.add_mid] at this
    rw [show 0 + j * k + i = 0 + (j * k + i) by omega]
    exact this
theorem OwnR.lt {w : World} {base k : Nat} {E : TypeId} {v : Value} {zs : List (List Value)} (h : OwnR w base k E v zs) : ∀ g, v.ownBlock = some g → base ≤ g := fun g hg => (h.1.lt g hg).1

section
variable {P : Program} {ops : Array Oper} {Q : Exit → Act → World → Prop} {a : Act} {w : World} {rest : List Oper} {o : Oper}
/-- 'out = append(out, x)': x lies as one row in a block of its own. -/
theorem wpList_append_one (hgd : o.guard = none) (s x : Operand) (t : TypeId)
    (ho : o.op = .call { callee := .builtin .append, args := #[s, x], argTypes := #[t, t] })
    (e : TypeId) (i : TypeInfo) (z : Value) (size bytes : Nat) (ht : P.underlying t = some (.slice e)) (hi : P.info? e = some i) (hz : i.zero = some z)
    (hsize : i.size = size) (hby : i.bytes = bytes) (hzs : z.cells.size = size) (hsz : 0 < size)
    (w0 : World) (hB : Below w0.heap.size w0 w) (v : Value) (zs : List (List Value)) (hs : a.eval s = v) (hown : OwnR w w0.heap.size size e v zs)
    (g c : Nat) (row : List Value) (hx : a.eval x = .slice (some ⟨g, 0, none⟩) 1 c) (hrow : w.rangeAt g 0 row) (hl : row.length = size) (h1 : ∀ u ∈ row, u.oneCell' = true)
    (h63 : zs.length + 1 ≤ maxLen) (hbytes : (zs.length + 1) * bytes ≤ 140737488355328)
    (h : ∀ v' w', OwnR w' w0.heap.size size e v' (zs ++ [row]) → Below w0.heap.size w0 w' → w.grownBy w' v.ownBlock → wpList P ops Q rest (a.put o.dst v') w') : wpList P ops Q (o :: rest) a w := by
  refine wpList_append_own w hgd s x t ho w0.heap.size e i z size bytes ht hi hz hsize hby hzs hsz v zs.length zs.flatten hs hown.1 ⟨g, 0, none⟩ 1 c row hx (by rw [hl, Nat.one_mul])
    (fun j u hu => by rw [Addr.add_mid]; exact hrow j u hu) h1 h63 hbytes hB.size ?_
  intro v' w' hown' hg _
  refine h v' w' ⟨by simpa [List.length_append, List.flatten_append] using hown', fun z hz => ?_⟩ (hB.grown hg hB.size hown.lt) hg
  rcases List.mem_append.1 hz with hz | hz
  · exact hown.2 z hz
  · simp only [List.mem_singleton] at hz
    subst hz
    exact hl
end

/-- One part as large as the whole fills it. -/
theorem fill_one (n : Nat) (zs cs : Array Value) (h0 : zs.size = n) (h1 : cs.size = n) : Instr.fill (fun j => some (j * n, n)) zs [(0, .agg cs)] = some cs := by
  unfold Instr.fill
  simp only [Nat.zero_mul, Value.cells, h1, h0, Nat.zero_add, Nat.lt_irrefl, decide_false, ne_eq, not_true_eq_false, Bool.or_self, Bool.false_eq_true, if_false, gt_iff_lt, Bool.or_false]
  unfold Instr.fill
  congr 1
  obtain ⟨l⟩ := cs
  have key : ∀ (l : List Value) (off : Nat) (z : Array Value), off + l.length = z.size →
      (l.zipIdx off).foldl (fun cs (x : Value × Nat) => cs.setIfInBounds x.2 x.1) z = ((z.toList.take off) ++ l).toArray := by
    intro l
    induction l with
    | nil =>
      intro off z h
      simp only [List.length_nil, Nat.add_zero] at h
      rw [List.take_of_length_le (by simp; omega)]
      simp
    | cons y ys ih =>
      intro off z h
      simp only [List.length_cons] at h
      rw [List.zipIdx_cons, List.foldl_cons, ih (off + 1) _ (by simp; omega)]
      congr 1
      simp only [Array.toList_setIfInBounds]
      rw [List.take_add_one, List.take_set, List.set_eq_of_length_le (by simp; omega), List.getElem?_set_self (by simp; omega)]
      simp
  have := key l 0 zs (by simp at h1; omega)
  simp only [List.take_zero, List.nil_append] at this
  rw [← Array.foldl_toList, Array.toList_zipIdx]
  simpa using this
end Go.Proofs.YtbeanjaenmpoeaaDoor
