/- The places of an error. -/
import Derived.Test.YtfoegpacjkcidaaDoorFlC
import Derived.Test.YtfoegpacjkcidaaDoorStr
import Derived.Deep.DeepCutAuto
namespace Go.Proofs.YtfoegpacjkcidaaDoor
open Go.RowKit

section
variable {P : Program} {ops : Array Oper} {Q : Exit → Act → World → Prop} {a : Act} {w : World} {rest : List Oper} {o : Oper}
/-- 'out = append(out, x)', whatever the number of the first block of the call's own. -/
theorem wpList_append_at (hgd : o.guard = none) (s x : Operand) (t : TypeId)
    (ho : o.op = .call { callee := .builtin .append, args := #[s, x], argTypes := #[t, t] })
    (e : TypeId) (i : TypeInfo) (z : Value) (size bytes : Nat) (ht : P.underlying t = some (.slice e)) (hi : P.info? e = some i) (hz : i.zero = some z)
    (hsize : i.size = size) (hby : i.bytes = bytes) (hzs : z.cells.size = size) (hsz : 0 < size)
    (base : Nat) (hB : base ≤ w.heap.size) (v : Value) (zs : List (List Value)) (hs : a.eval s = v) (hown : OwnR w base size e v zs)
    (g c : Nat) (row : List Value) (hx : a.eval x = .slice (some ⟨g, 0, none⟩) 1 c) (hrow : w.rangeAt g 0 row) (hl : row.length = size) (h1 : ∀ u ∈ row, u.oneCell' = true)
    (h63 : zs.length + 1 ≤ maxLen) (hbytes : (zs.length + 1) * bytes ≤ 140737488355328)
    (h : ∀ v' w', OwnR w' base size e v' (zs ++ [row]) → Below base w w' → wpList P ops Q rest (a.put o.dst v') w') : wpList P ops Q (o :: rest) a w := by
  refine wpList_append_own w hgd s x t ho base e i z size bytes ht hi hz hsize hby hzs hsz v zs.length zs.flatten hs hown.1 ⟨g, 0, none⟩ 1 c row hx (by rw [hl, Nat.one_mul])
    (fun j u hu => by rw [Addr.add_mid]; exact hrow j u hu) h1 h63 hbytes hB ?_
  intro v' w' hown' hg _
  refine h v' w' ⟨by simpa [List.length_append, List.flatten_append] using hown', fun z hz => ?_⟩ ((Below.refl base w).grown hg hB hown.lt)
  rcases List.mem_append.1 hz with hz | hz
  · exact hown.2 z hz
  · simp only [List.mem_singleton] at hz
    subst hz
    exact hl
end
theorem OwnR.from_ {w w' : World} {base k : Nat} {E : TypeId} {v : Value} {zs : List (List Value)} (h : OwnR w base k E v zs) (hb : ∀ g, base ≤ g → g < w.heap.size → w'.heap[g]? = w.heap[g]?) : OwnR w' base k E v zs := by
  obtain ⟨⟨hl, hh⟩, hz⟩ := h
  refine ⟨⟨hl, ?_⟩, hz⟩
  rcases hh with h0 | ⟨g, cap, cur, hv, hg, hc, r⟩
  · exact .inl h0
  · have hlt : g < w.heap.size := (Array.getElem?_eq_some_iff.1 hc).1
    exact .inr ⟨g, cap, cur, hv, hg, (hb g hg hlt).trans hc, r⟩
theorem SetIn.block {w w' : World} {t : Addr} {x : Value} (h : SetIn w t x w') {g : Nat} (hg : g ≠ t.block) (hlt : g < w.heap.size) : w'.heap[g]? = w.heap[g]? := by
  obtain ⟨W, hb, rfl⟩ := h
  exact (Below.heap_setCell W t x g hg).trans (hb.block g hlt)

theorem OwnR.setIn {w w' : World} {base k : Nat} {E : TypeId} {v x : Value} {t : Addr} {zs : List (List Value)} (h : OwnR w base k E v zs) (hq : SetIn w t x w') (ht : t.block < base) : OwnR w' base k E v zs :=
  h.from_ fun g hg hlt => hq.block (by omega) hlt

/-- What the round of Path keeps. -/
structure PSt (w0 w : World) (v : Value) (p : List ByteArray) : Prop where
  own : OwnR w (w0.heap.size + 1) 1 9 v (p.map sv)
  size : w0.heap.size + 1 ≤ w.heap.size
  cell : ∃ old, w.cell? ⟨w0.heap.size, 0, none⟩ = some old
  free : w.frozen? ⟨w0.heap.size, 0, none⟩ = false
  below : Below w0.heap.size w0 w
theorem frozen_setIn {w w' : World} {b o : Nat} {x old : Value} (h : SetIn w ⟨b, o, none⟩ x w') (ht : w.cell? ⟨b, o, none⟩ = some old) (hf : w.frozen? ⟨b, o, none⟩ = false) : w'.frozen? ⟨b, o, none⟩ = false := by
  obtain ⟨W, hb, rfl⟩ := h
  have hlt : b < w.heap.size := block_lt_of_cell ht
  rw [World.frozen?_setCell]
  exact (hb.frozen (p := ⟨b, o, none⟩) hlt).trans hf
theorem PSt.set {w0 w w' : World} {v x : Value} {p : List ByteArray} (h : PSt w0 w v p) (hq : SetIn w ⟨w0.heap.size, 0, none⟩ x w') : PSt w0 w' v p ∧ w'.cell? ⟨w0.heap.size, 0, none⟩ = some x := by
  obtain ⟨old, hc⟩ := h.cell
  have hx := hq.cell hc
  exact ⟨⟨h.own.setIn hq (by simp), Nat.le_trans h.size hq.size, ⟨_, hx⟩, frozen_setIn hq hc h.free, hq.below h.below (by have := h.size; omega) (Nat.le_refl _)⟩, hx⟩
theorem PSt.keep {w0 w w' : World} {v : Value} {p : List ByteArray} (h : PSt w0 w v p) (hb : Below w.heap.size w w') : PSt w0 w' v p := by
  have hlt : w0.heap.size < w.heap.size := h.size
  obtain ⟨old, hc⟩ := h.cell
  exact ⟨h.own.keep hb, Nat.le_trans h.size hb.size, ⟨old, (hb.cell (p := ⟨w0.heap.size, 0, none⟩) hlt).trans hc⟩, (hb.frozen (p := ⟨w0.heap.size, 0, none⟩) hlt).trans h.free, h.below.trans (hb.mono (by omega))⟩
theorem PSt.put {w0 w w' : World} {v v' : Value} {p : List ByteArray} {s : ByteArray} (h : PSt w0 w v p) (hown : OwnR w' (w0.heap.size + 1) 1 9 v' (p.map sv ++ [sv s])) (hb : Below (w0.heap.size + 1) w w') : PSt w0 w' v' (p ++ [s]) := by
  obtain ⟨old, hc⟩ := h.cell
  exact ⟨by rw [List.map_append]; exact hown, Nat.le_trans h.size (by have := hb.size; have := h.size; omega), ⟨old, (hb.cell (p := ⟨w0.heap.size, 0, none⟩) (by simp)).trans hc⟩, (hb.frozen (p := ⟨w0.heap.size, 0, none⟩) (by simp)).trans h.free, h.below.trans (hb.mono (by omega))⟩
/-- The places, as a slice of the call's own. -/
def Places (w : World) (p : List ByteArray) (r : Ending) (w' : World) : Prop := ∃ v, r = .returned v ∧ OwnS w' w.heap.size v p ∧ Below w.heap.size w w'
theorem PSt.out {w0 w : World} {v : Value} {p : List ByteArray} (h : PSt w0 w v p) : Places w0 p (.returned v) w := by
  refine ⟨v, rfl, ?_, h.below⟩
  obtain ⟨⟨hl, hh⟩, hz⟩ := h.own
  refine ⟨⟨hl, ?_⟩, hz⟩
  rcases hh with h0 | ⟨g, cap, cur, hv, hg, hc, r⟩
  · exact .inl h0
  · exact .inr ⟨g, cap, cur, hv, by omega, hc, r⟩

theorem path_nil (w : World) :
    Calls Tryd.prog 41 #[.nilIface] w (Places w []) := by
  have hS : PSt w (w.alloc (.cells #[.pointer none] 76)) (.slice none 0 0) [] :=
    ⟨OwnR.nil_ _ _ _ _, by simp, ⟨.pointer none, by simp⟩, by simp, (Below.refl _ _).alloc (Nat.le_refl _) _⟩
  have hS := Lib.hid hS
  go_enter Tryd.func41, Tryd.ntmps41
  go_wp2
  refine wp_loop_rounds 1 ?_
  rw [rounds_succ]
  go_wp2
  go_ret
  exact hS.out.out
set_option maxRecDepth 100000 in
set_option maxHeartbeats 2000000 in
theorem path_any (o : Option Int) (p : List ByteArray) (v : Value) (w : World) (hp : p.length ≤ 1000000) (H : isErr w o p v) (G : ETy w) :
    Calls Tryd.prog 41 #[v] w (Places w p) := by
  obtain ⟨i0, hi, hz0, hz1, hz2⟩ := info_parts str_info
  have hS : PSt w (w.alloc (.cells #[.pointer none] 76)) (.slice none 0 0) [] :=
    ⟨OwnR.nil_ _ _ _ _, by simp, ⟨.pointer none, by simp⟩, by simp, (Below.refl _ _).alloc (Nat.le_refl _) _⟩
  have hS := Lib.hid hS
  have G := Lib.hid G
  have H := Lib.hid H
  go_enter Tryd.func41, Tryd.ntmps41
  go_wp2
  go_loopg [0, 3] p.length (fun k x out wr => ∃ q pre : List ByteArray, Hid (p = pre ++ q) ∧ Hid (q.length = k) ∧ Hid (isErr w o q x) ∧ Hid (PSt w wr out pre))
  case atStart => exact ⟨p, [], rfl, rfl, H, hS⟩
  case round =>
    obtain ⟨q, pre, hpq, hq, hE, hS⟩ := hrel
    cases q with
    | nil =>
      have e := hE.out
      cases o with
      | none =>
        simp only [isErr] at e
        subst e
        have hfin := Lib.hid (show Places w p (.returned u3) wr by rw [hpq.out, List.append_nil]; exact hS.out.out)
        clear hE hS
        go_wp2
        go_ret
        exact hfin.out
      | some m =>
        simp only [isErr] at e
        subst e
        obtain ⟨old, hc⟩ := hS.out.cell
        have cA := Lib.hid (AsF_miss m ⟨w.heap.size, 0, none⟩ old wr (G.out.keep hS.out.below) hc hS.out.free)
        clear hE hc
        go_wp2_with (go_at_call 53; refine cA.out.mono ?_; rintro r w1 ⟨rfl, hb⟩)
        have hfin := Lib.hid (show Places w p (.returned u3) w1 by rw [hpq.out, List.append_nil]; exact (hS.out.keep hb).out)
        go_ret
        exact hfin.out
    | cons s q =>
      obtain ⟨b, v', rfl, hlt, c0, c1, hE'⟩ := hE.out
      obtain ⟨old, hc⟩ := hS.out.cell
      have cA := Lib.hid (AsF_hit ⟨b, 0, none⟩ ⟨w.heap.size, 0, none⟩ old wr (G.out.keep hS.out.below) hc hS.out.free)
      have hE' := Lib.hid hE'
      have C0 := Lib.hid c0
      have C1 := Lib.hid c1
      clear hE hc c0 c1
      go_upto_region 4 with (go_at_call 53; refine cA.out.mono ?_; rintro r w1 ⟨rfl, hb⟩; obtain ⟨hS1, hf1⟩ := hS.out.set hb; have d0 := (hS1.below.cell (p := ⟨b, 0, none⟩) hlt).trans C0.out; have d1 := (hS1.below.cell (p := ⟨b, 1, none⟩) hlt).trans C1.out; have hS1 := Lib.hid hS1; have hf1' := Lib.hid hf1)
      have hb1 := Lib.hid ((Below.refl w1.heap.size w1).alloc (Nat.le_refl _) (.cells #[.string s] 9))
      have hx := Lib.hid (rangeAt_list (cs := [.string s]) (heap_new w1 (.cells #[.string s] 9)))
      have hpl := Lib.hid (show pre.length + 1 ≤ 1000000 by have := congrArg List.length hpq.out; simp at this; omega)
      have hown := hS1.out.own.keep hb1.out
      go_upto_region 5 with (refine wpList_append_at rfl _ _ 22 rfl 9 i0 (.string ByteArray.empty) 1 16 Tryd.underlying22 hi hz0 hz1 hz2 rfl (by decide) (w.heap.size + 1) ?c1 _ _ rfl hown w1.heap.size 1 (sv s) rfl hx.out rfl ?c2 ?c3 ?c4 ?_)
      case c1 => have := hS1.out.size; simp; omega
      case c2 => intro u hu; simp [sv] at hu; subst hu; rfl
      case c3 => have := hpl.out; unfold maxLen; simp; omega
      case c4 => have := hpl.out; simp; omega
      intro v2 w2 hown2 hb2
      have hS2 := Lib.hid ((hS1.out.keep hb1.out).put hown2 hb2)
      have d1' := (hS2.out.below.cell (p := ⟨b, 1, none⟩) hlt).trans C1.out
      have hf2 := (hb2.cell (p := ⟨w.heap.size, 0, none⟩) (by simp)).trans ((hb1.out.cell (p := ⟨w.heap.size, 0, none⟩) hS1.out.size).trans hf1'.out)
      clear hown hown2 hf1 d0 d1 hb hb2
      go_wp2
      go_roundg q.length
      case measure => have := hq.out; simp at this; omega
      case rel => exact ⟨q, pre ++ [s], by unfold Hid; rw [hpq.out]; simp, rfl, hE', hS2⟩
end Go.Proofs.YtfoegpacjkcidaaDoor
