/- Choose: the server's names in another order; what is chosen is the first one that both have. -/
import Derived.Test.YtfoegpacjkcidaaDoorChD
import Derived.Test.YtfoegpacjkcidaaDoorKeyEq
namespace Go.Proofs.YtfoegpacjkcidaaDoor
open Go.RowKit Go.ChangeShapes Go.WideShapes Go.Deep

theorem has_rev (m : List ByteArray) (x : ByteArray) : has m.reverse x = has m x := by unfold has; rw [List.any_reverse]
theorem fO_rev (L M : List (List ByteArray)) (i : Nat) : fO L (M.map List.reverse) i = fO L M i := by
  unfold fO
  have : (M.map List.reverse).getD i [] = (M.getD i []).reverse := by
    rw [List.getD_eq_getElem?_getD, List.getD_eq_getElem?_getD, List.getElem?_map]
    cases M[i]? <;> rfl
  rw [this]
  congr 1
  funext x
  exact has_rev _ _
theorem fK_rev (L M : List (List ByteArray)) : fK L (M.map List.reverse) = fK L M := by
  have key : ∀ n i, fGo L (M.map List.reverse) n i = fGo L M n i := by
    intro n
    induction n with
    | zero => intro i; rfl
    | succ n ih => intro i; unfold fGo; rw [fO_rev, ih]
  exact key 8 0
theorem fOut_rev (L M : List (List ByteArray)) (k : Nat) : fOut L (M.map List.reverse) k = fOut L M k := by
  unfold fOut fN
  simp only [fO_rev]
theorem rev_lens {M : List (List ByteArray)} (h : ∀ l ∈ M, l.length ≤ 1000000) : ∀ l ∈ M.map List.reverse, l.length ≤ 1000000 := by
  intro l hl
  obtain ⟨m, hm, rfl⟩ := List.mem_map.1 hl
  rw [List.length_reverse]; exact h m hm
/-- The chosen one: where it stands in the client's list, and that none ahead of it is in the server's. -/
theorem fO_place {L M : List (List ByteArray)} {k : Nat} {l m : List ByteArray} (h8 : fK L M = 8) (hk : k < 8) (hl : L[k]? = some l) (hm : M[k]? = some m) :
    ∃ (x : ByteArray) (p : Nat), (fOut L M 8)[k]? = some x ∧ l[p]? = some x ∧ has l x = true ∧ has m x = true ∧ ∀ (j : Nat) y, j < p → l[j]? = some y → has m y = false := by
  have hs := fK_eight.1 h8 k hk
  have hfo : fO L M k = l.find? (has m) := by unfold fO; rw [List.getD_eq_getElem?_getD, List.getD_eq_getElem?_getD, hl, hm]; rfl
  obtain ⟨x, hx⟩ := Option.isSome_iff_exists.1 hs
  rw [hfo] at hx
  obtain ⟨h1, aa, bs, h2, h3⟩ := List.find?_eq_some_iff_append.1 hx
  refine ⟨x, aa.length, ?_, ?_, ?_, h1, ?_⟩
  · rw [fOut_get _ _ _ hk, if_pos hk]
    unfold fN; rw [hfo, hx]; rfl
  · rw [h2, List.getElem?_append_right (Nat.le_refl _), Nat.sub_self]; rfl
  · unfold has
    rw [List.any_eq_true]
    exact ⟨x, by rw [h2]; simp, beqS_iff.2 rfl⟩
  · intro j y hj hy
    rw [h2, List.getElem?_append_left hj] at hy
    have := h3 y (List.mem_of_getElem? hy)
    simpa using this
theorem fOut_small {L M : List (List ByteArray)} (h : ∀ l ∈ L, ∀ s ∈ l, s.size ≤ 9223372036854775807) (k : Nat) : ∀ x ∈ fOut L M k, x.size ≤ 9223372036854775807 := by
  intro x hx
  unfold fOut at hx
  obtain ⟨i, hi, rfl⟩ := List.mem_map.1 hx
  split
  · unfold fN
    cases hq : fO L M i with
    | none => decide
    | some y =>
      have hy := List.mem_of_find?_eq_some hq
      rw [List.getD_eq_getElem?_getD] at hy
      cases hl : L[i]? with
      | none => rw [hl] at hy; cases hy
      | some l => rw [hl] at hy; exact h l (List.mem_of_getElem? hl) y hy
  · decide
def chDs : List TypeDesc := [.string, .string, .string, .string, .string, .string, .string, .string]
theorem ch_flat : flatDesc Tryd.prog 6 28 = some chDs := by kernel_rfl
theorem ch_noBlank : noBlank Tryd.prog 6 28 = true := by kernel_rfl
theorem ch_key : Tryd.prog.keyTypeAt 8 28 = true := by kernel_rfl
theorem ch_cells : Tryd.prog.cellsOf 28 = chDs.length := by kernel_rfl
theorem ch_guard : Tryd.prog.eqGuardType Tryd.prog.depth 28 = false := by kernel_rfl
theorem ch_ok {X : List ByteArray} (h8 : X.length = 8) (hs : ∀ x ∈ X, x.size ≤ 9223372036854775807) : allOk chDs (X.map Value.string) := by
  refine ⟨by rw [List.length_map, h8]; rfl, fun i d v hd hv => ?_⟩
  have hd' : d = .string := by
    have := List.mem_of_getElem? hd
    unfold chDs at this
    simpa using this
  subst hd'
  rw [List.getElem?_map] at hv
  cases hq : X[i]? with
  | none => rw [hq] at hv; cases hv
  | some x =>
    rw [hq] at hv
    injection hv with hv
    subst hv
    exact ⟨x, rfl, by unfold maxLen; exact hs x (List.mem_of_getElem? hq)⟩
theorem eql_ch {X Y : List ByteArray} (hx8 : X.length = 8) (hx : ∀ x ∈ X, x.size ≤ 9223372036854775807) (hy8 : Y.length = 8) (hy : ∀ x ∈ Y, x.size ≤ 9223372036854775807) (q : Bool) (hq : q = true ↔ X.map Value.string = Y.map Value.string) (w : World) :
    (binOp .eql 28 (.agg (X.map Value.string).toArray) (.agg (Y.map Value.string).toArray)).run Tryd.prog w = .ok (.bool q) w :=
  eql_flat Tryd.underlying28 ch_cells ch_flat ch_noBlank ch_key (by decide) _ _ (ch_ok hx8 hx) (ch_ok hy8 hy) q hq w
theorem own_apart {W : World} {B B' k k' : Nat} {E E' : TypeId} {v v' : Value} {xs ys : List (List Value)} (h : OwnR W B k E v xs) (h' : OwnR W B' k' E' v' ys) (hE : E ≠ E') : v.ownBlock = none ∨ v.ownBlock ≠ v'.ownBlock := by
  rcases h.1.2 with ⟨rfl, _⟩ | ⟨g, cap, cur, rfl, _, hc, _⟩
  · exact .inl rfl
  · right
    rcases h'.1.2 with ⟨rfl, _⟩ | ⟨g', cap', cur', rfl, _, hc', _⟩
    · intro e; cases e
    · intro e
      injection e with e
      simp only at e
      subst e
      rw [hc] at hc'
      injection hc' with hc'
      injection hc' with _ hc'
      exact hE hc'
theorem OwnR.grow {W W' : World} {B k : Nat} {E : TypeId} {v : Value} {xs : List (List Value)} {row : Option Nat} (h : OwnR W B k E v xs) (hg : W.grownBy W' row) (hne : v.ownBlock = none ∨ v.ownBlock ≠ row) : OwnR W' B k E v xs := ⟨h.1.kept hg hne, h.2⟩
theorem OwnR.base {W : World} {B B' k : Nat} {E : TypeId} {v : Value} {xs : List (List Value)} (h : OwnR W B k E v xs) (hb : B' ≤ B) : OwnR W B' k E v xs := ⟨⟨h.1.1, h.1.2.imp id (fun ⟨g, cap, cur, e, hg, r⟩ => ⟨g, cap, cur, e, Nat.le_trans hb hg, r⟩)⟩, h.2⟩
theorem OwnS.grow {W W' : World} {B : Nat} {v : Value} {xs : List ByteArray} {row : Option Nat} (h : OwnS W B v xs) (hg : W.grownBy W' row) (hne : v.ownBlock = none ∨ v.ownBlock ≠ row) : OwnS W' B v xs := OwnR.grow h hg hne
theorem OwnS.base {W : World} {B B' : Nat} {v : Value} {xs : List ByteArray} (h : OwnS W B v xs) (hb : B' ≤ B) : OwnS W B' v xs := OwnR.base h hb
/-- The turned lists so far. -/
structure TurnK (w9 W : World) (t : Value) (TS : List Value) (M : List (List ByteArray)) (k : Nat) : Prop where
  o : OwnR W w9.heap.size 1 22 t (TS.map fun v => [v])
  n : TS.length = k
  at_ : ∀ (j : Nat) v m, TS[j]? = some v → M[j]? = some m → OwnS W w9.heap.size v m.reverse
  b : Below w9.heap.size w9 W
theorem TurnK.next {w9 W W3 W4 W5 : World} {t t' T : Value} {TS : List Value} {M : List (List ByteArray)} {k : Nat} {m : List ByteArray} (h : TurnK w9 W t TS M k) (hm : M[k]? = some m) (h3 : Below W.heap.size W W3) (hT : OwnS W3 w9.heap.size T m.reverse) (h4 : Below W3.heap.size W3 W4)
    (ho : OwnR W5 w9.heap.size 1 22 t' ((TS.map fun v => [v]) ++ [[T]])) (hb : Below w9.heap.size w9 W5) (hg : W4.grownBy W5 t.ownBlock) : TurnK w9 W5 t' (TS ++ [T]) M (k + 1) := by
  have ht := (h.o.keep h3).keep h4
  refine ⟨by simpa using ho, by simp [h.n], fun j v m' hv hm' => ?_, hb⟩
  by_cases hj : j < TS.length
  · rw [List.getElem?_append_left hj] at hv
    have h1 := ((h.at_ j v m' hv hm').keep h3).keep h4
    exact h1.grow hg (own_apart h1 ht (by decide))
  · have hj2 : j = k := by
      have := (List.getElem?_eq_some_iff.1 hv).1
      simp at this
      have := h.n
      omega
    subst hj2
    rw [List.getElem?_append_right (by rw [h.n]; exact Nat.le_refl _), h.n, Nat.sub_self] at hv
    injection hv with hv
    subst hv
    rw [hm] at hm'
    injection hm' with hm'
    subst hm'
    have h1 := hT.keep h4
    exact h1.grow hg (own_apart h1 ht (by decide))
theorem TurnK.done {w9 W : World} {t : Value} {TS : List Value} {M : List (List ByteArray)} (h : TurnK w9 W t TS M 8) (h8 : M.length = 8) : ∃ g c, t = .slice (some ⟨g, 0, none⟩) 8 c ∧ Vls W (some ⟨g, 0, none⟩) 8 TS ∧ Pf W TS (M.map List.reverse) := by
  have h1 := h.o
  obtain ⟨A, c, e, hr⟩ := OwnR.rws h1
  have hn := h.n
  rcases h1.1.2 with ⟨_, h0⟩ | ⟨g, cap, cur, e2, _⟩
  · simp [hn] at h0
  · rw [e] at e2
    injection e2 with e3 e4 e5
    rw [List.length_map, hn] at e hr
    subst e3
    refine ⟨g, c, e, hr, hn, by rw [List.length_map, h8], fun i v l hv hl => ?_⟩
    rw [List.getElem?_map] at hl
    cases hq : M[i]? with
    | none => rw [hq] at hl; cases hl
    | some m =>
      rw [hq] at hl
      injection hl with hl
      subst hl
      exact (h.at_ i v m hv hq).strF.strV
theorem pf_one {w : World} {V : List Value} {L : List (List ByteArray)} (h : Pf w V L) : V.toArray.all (·.oneCell') = true := by
  rw [List.all_toArray, List.all_eq_true]
  intro v hv
  obtain ⟨i, hi, rfl⟩ := List.getElem_of_mem hv
  obtain ⟨A, n, c, l, e, _⟩ := h.get (i := i) (by rw [← h.v8]; exact hi)
  rw [List.getElem?_eq_getElem hi] at e
  injection e with e
  rw [e]; rfl
theorem drop_rev {m : List ByteArray} {j : Nat} {y : ByteArray} (h : m[j]? = some y) : (m.drop j).reverse = (m.drop (j + 1)).reverse ++ [y] := by
  obtain ⟨hj, hy⟩ := List.getElem?_eq_some_iff.1 h
  rw [List.drop_eq_getElem_cons hj, hy, List.reverse_cons]
theorem sl_info : (Tryd.prog.info? 22).map (fun i => (i.zero, i.size, i.bytes)) = some (some (.slice none 0 0), 1, 24) := by kernel_rfl
section
variable {ops : Array Oper} {Q : Exit → Act → World → Prop} {a : Act} {rest : List Oper} {o : Oper}
theorem append_turned (hgd : o.guard = none) (s x : Operand) (ho : o.op = .call { callee := .builtin .append, args := #[s, x], argTypes := #[34, 34] })
    {w9 wo wz : World} {t : Value} {At : Option Addr} {nt ct c : Nat} {TS : List Value} {M : List (List ByteArray)} {k : Nat} {m : List ByteArray} (hs : a.eval s = t) (hx : a.eval x = .slice (some ⟨wz.heap.size, 0, none⟩) 1 c)
    (hK : TurnK w9 wo t TS M k) (hk : k < 8) (hm : M[k]? = some m) (h3 : Below wo.heap.size wo wz) (hT : OwnS wz w9.heap.size (.slice At nt ct) m.reverse)
    (h : ∀ v' W', TurnK w9 W' v' (TS ++ [.slice At nt ct]) M (k + 1) → wpList Tryd.prog ops Q rest (a.put o.dst v') W') : wpList Tryd.prog ops Q (o :: rest) a (wz.alloc (.cells #[.slice At nt ct] 22)) := by
  obtain ⟨j0, hj0, hy0, hy1, hy2⟩ := info_parts sl_info
  have hg4 := below_got wz (.cells #[.slice At nt ct] 22)
  have hBt := hK.b.trans ((h3.trans (hg4.mono h3.size)).mono hK.b.size)
  have hTn := hK.n
  refine wpList_append_one hgd s x 34 ho 22 j0 (.slice none 0 0) 1 24 Tryd.underlying34 hj0 hy0 hy1 hy2 rfl (by decide) w9 hBt t (TS.map fun v => [v]) hs ((hK.o.keep h3).keep hg4) wz.heap.size c [.slice At nt ct] hx ?_ rfl ?_ ?_ ?_ ?_
  · exact rangeAt_list (cs := [.slice At nt ct]) (heap_new wz (.cells #[.slice At nt ct] 22))
  · intro u hu
    simp only [List.mem_singleton] at hu
    subst hu; rfl
  · rw [List.length_map]; unfold maxLen; omega
  · rw [List.length_map]; omega
  · intro v' W' hO hB hg
    exact h v' W' (hK.next hm h3 hT hg4 hO hB hg)
end
end Go.Proofs.YtfoegpacjkcidaaDoor
