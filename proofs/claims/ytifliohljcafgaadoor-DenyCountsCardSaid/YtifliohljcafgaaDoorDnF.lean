/- Deny: gates. -/
import Derived.Test.YtifliohljcafgaaDoorDnD
import Derived.Test.YtifliohljcafgaaDoorDnE
import Derived.Test.YtifliohljcafgaaDoorClS
import Derived.BigQuiet
import Derived.Deep.QuietTactic
namespace Go.Proofs.YtifliohljcafgaaDoor
open Go.RowKit

/-- Block g is a gate. -/
def GateB (w : World) (g : Nat) (A B : Option Addr) (n c m d : Nat) (l f : Int) : Prop := w.heap[g]? = some (.cells #[.slice A n c, .slice B m d, .int .i64 l, .int .i64 f] 56 (0, 0))
theorem GateB.lt {w : World} {g : Nat} {A B : Option Addr} {n c m d : Nat} {l f : Int} (h : GateB w g A B n c m d l f) : g < w.heap.size := (Array.getElem?_eq_some_iff.1 h).1
theorem GateB.keep {w w' : World} {g : Nat} {A B : Option Addr} {n c m d : Nat} {l f : Int} (h : GateB w g A B n c m d l f) (hb : Below w.heap.size w w') : GateB w' g A B n c m d l f := (hb.block g h.lt).trans h
theorem GateB.cells {w : World} {g : Nat} {A B : Option Addr} {n c m d : Nat} {l f : Int} (h : GateB w g A B n c m d l f) : w.cell? ⟨g, 1, none⟩ = some (.slice B m d) ∧ w.cell? ⟨g, 2, none⟩ = some (.int .i64 l) ∧ w.cell? ⟨g, 3, none⟩ = some (.int .i64 f) ∧ w.frozen? ⟨g, 3, none⟩ = false :=
  ⟨cell_of_row _ _ 1 _ _ _ h, cell_of_row _ _ 2 _ _ _ h, cell_of_row _ _ 3 _ _ _ h, frozen_of_row w g 3 _ _ h⟩
theorem GateB.put {w : World} {g : Nat} {A B : Option Addr} {n c m d : Nat} {l f : Int} (h : GateB w g A B n c m d l f) (f' : Int) : GateB (w.setCell ⟨g, 3, none⟩ (.int .i64 f')) g A B n c m d l f' := by
  unfold GateB
  rw [heap_setCell_same w g 3 _ _ _ h]
  rfl
theorem below_grow' (w : World) (o : Obj) : Below w.heap.size w (w.alloc o) := (Below.refl _ _).alloc (Nat.le_refl _) o
theorem failures_any (g : Nat) (A B : Option Addr) (n c m d : Nat) (l f : Int) (w : World) (H : GateB w g A B n c m d l f) :
    Calls Tryd.prog 12 #[.pointer (some ⟨g, 0, none⟩)] w fun r w' => r = .returned (.int .i64 f) ∧ w = w' := by
  obtain ⟨_, _, c3, _⟩ := H.cells
  clear H
  go_enter Tryd.func12, Tryd.ntmps12
  go_wp2
  go_ret
  exact ⟨rfl, rfl⟩
theorem full_any (g : Nat) (A B : Option Addr) (n c m d : Nat) (l f : Int) (w : World) (H : GateB w g A B n c m d l f) :
    Calls Tryd.prog 13 #[.pointer (some ⟨g, 0, none⟩)] w fun r w' => r = .returned (.bool (decide (l ≤ f))) ∧ ∃ q, w' = w.drewN q := by
  obtain ⟨_, c2, c3, _⟩ := H.cells
  clear H
  go_enter Tryd.func13, Tryd.ntmps13
  go_wp2_with fail
  go_quiet (fail)
  go_wp2_with fail
  go_ret
  exact ⟨rfl, _, rfl⟩
theorem fail_any (g : Nat) (A B : Option Addr) (n c m d : Nat) (l f : Int) (w : World) (H : GateB w g A B n c m d l f) (h0 : 0 ≤ f) (h1 : f ≤ 1000000) (hlf : f < l) :
    Calls Tryd.prog 10 #[.pointer (some ⟨g, 0, none⟩)] w fun r w' => r = .returned (.bool (decide (l ≤ f + 1))) ∧ ∃ q1 q2, w' = ((w.drewN q1).setCell ⟨g, 3, none⟩ (.int .i64 (f + 1))).drewN q2 := by
  have cF := full_any g A B n c m d l f w H
  rw [decide_eq_false (by omega)] at cF
  have cG := Lib.hid (fun q => full_any g A B n c m d l (f + 1) ((w.drewN q).setCell ⟨g, 3, none⟩ (.int .i64 (f + 1))) ((H.keep (drewN_below q)).put (f + 1)))
  obtain ⟨_, c2, c3, c4⟩ := H.cells
  have cF := Lib.hid cF
  clear H hlf
  go_enter Tryd.func10, Tryd.ntmps10
  go_wp2_with (first
    | (go_at_call 13; (with_reducible refine cF.out.mono ?_); rintro r w3 ⟨rfl, q3, rfl⟩)
    | (go_at_call 13; (with_reducible refine (cG.out _).mono ?_); rintro r w4 ⟨rfl, q4, rfl⟩))
  go_ret
  exact ⟨rfl, _, _, rfl⟩
theorem fail_gate {w : World} {g : Nat} {A B : Option Addr} {n c m d : Nat} {l f : Int} (H : GateB w g A B n c m d l f) (q1 q2 : Nat) : GateB (((w.drewN q1).setCell ⟨g, 3, none⟩ (.int .i64 (f + 1))).drewN q2) g A B n c m d l (f + 1) :=
  ((H.keep (drewN_below q1)).put (f + 1)).keep (drewN_below q2)
theorem fail_below {w0 w : World} {g : Nat} (hb : Below w0.heap.size w0 w) (hg : w0.heap.size ≤ g) (v : Value) (q1 q2 : Nat) : Below w0.heap.size w0 (((w.drewN q1).setCell ⟨g, 3, none⟩ v).drewN q2) := by
  have h1 : Below w0.heap.size w0 ((w.drewN q1).setCell ⟨g, 3, none⟩ v) := (hb.trans (Below.mono (drewN_below q1) hb.size)).setCell hg v
  exact h1.trans (Below.mono (drewN_below q2) h1.size)
theorem algsG_any (ss : List ByteArray) (g : Nat) (A B : Option Addr) (n c m d : Nat) (l f : Int) (w : World) (H : GateB w g A B n c m d l f) (K : Strs w B m ss) (hm : m ≤ 1000000) :
    Calls Tryd.prog 19 #[.pointer (some ⟨g, 0, none⟩)] w fun r w' => ∃ A' c', r = .returned (.slice A' m c') ∧ Strs w' A' m ss ∧ Below w.heap.size w w' := by
  obtain ⟨c1, _, _, _⟩ := H.cells
  have hl := K.len
  have cC := Lib.hid (cloneS_any ss B m d w hm K)
  have hl := Lib.hid hl
  clear H K
  go_enter Tryd.func19, Tryd.ntmps19
  go_wp2_with (go_at_call 22; refine cC.out.mono ?_; rintro r w4 ⟨v4, rfl, ho4, hb4⟩; obtain ⟨A4, c4, rfl, hS⟩ := ho4.strs; rw [hl.out] at hS ⊢; have hS := Lib.hid hS; have hB := Lib.hid hb4; clear ho4 hb4)
  go_ret
  exact ⟨_, _, rfl, hS.out, hB.out⟩
/-- What New hands back. -/
def NewR (w : World) (gs : List Gr) (ss : List ByteArray) (l : Int) (r : Ending) (w' : World) : Prop :=
  if denyE gs ss l = 0 then ∃ g A n c B m d, r = .returned (.tuple #[.pointer (some ⟨g, 0, none⟩), .nilIface]) ∧ GateB w' g A B n c m d l 0 ∧ Grs w' A n gs ∧ Strs w' B m ss ∧ w.heap.size ≤ g ∧ Below w.heap.size w w'
  else ∃ T u, r = .returned (.tuple #[.pointer none, .iface T u]) ∧ isErr w' (some (denyE gs ss l)) [denyS, denyW gs ss l] (.iface T u) ∧ Below w.heap.size w w'
set_option maxRecDepth 100000 in
set_option maxHeartbeats 2000000 in
theorem new_any (gs : List Gr) (ss : List ByteArray) (l : Int) (A B : Option Addr) (n c m d : Nat) (w : World) (hc : n ≤ c) (hn : c ≤ 9223372036854775807) (hd : m ≤ d) (hm : d ≤ 9223372036854775807) (hn1 : n ≤ 1000000) (hm1 : m ≤ 1000000)
    (H : Grs w A n gs) (hg : ∀ x ∈ gs, x.1.size ≤ 9223372036854775807) (K : Strs w B m ss) (hs : ∀ s ∈ ss, s.size ≤ 9223372036854775807) :
    Calls Tryd.prog 6 #[.slice A n c, .slice B m d, .int .i64 l] w (NewR w gs ss l) := by
  have cC := dnCheck_any gs ss l A B n c m d w hc hn hd hm H hg K hs
  by_cases h0 : denyE gs ss l = 0
  · have cC := Lib.hid (Calls.mono cC (fun r w' h => (show r = .returned .nilIface ∧ Below w.heap.size w w' by unfold DnR at h; rwa [if_pos h0] at h)))
    have cG := Lib.hid (fun W (h : Below w.heap.size w W) => cloneG_any gs A n c W hn1 (H.keep h))
    have cS := Lib.hid (fun W (h : Below w.heap.size w W) => cloneS_any ss B m d W hm1 (K.keep h))
    have h0 := Lib.hid h0
    clear H K hg hs
    go_enter Tryd.func6, Tryd.ntmps6
    go_wp2_with (first
      | (go_at_call 20; (with_reducible refine cC.out.mono ?_); rintro r w3 ⟨rfl, hb3⟩; have hB3 := Lib.hid hb3; clear hb3)
      | (go_at_call 21; (with_reducible refine (cG.out _ hB3.out).mono ?_); rintro r w4 ⟨v4, rfl, ho4, hb4⟩; obtain ⟨A4, c4, rfl, hG4⟩ := OwnR.rws ho4; generalize hn4 : (gs.map grv).length = n4 at hG4 ⊢; have hG4 := Lib.hid (show Grs w4 A4 n4 gs from hG4); have hB4 := Lib.hid (hB3.out.trans (hb4.mono hB3.out.size)); clear ho4 hb4 hn4)
      | (go_at_call 22; (with_reducible refine (cS.out _ hB4.out).mono ?_); rintro r w5 ⟨v5, rfl, ho5, hb5⟩; obtain ⟨A5, c5, rfl, hS5⟩ := ho5.strs; generalize hn5 : ss.length = n5 at hS5 ⊢; have hS5 := Lib.hid hS5; have hG5 := Lib.hid (hG4.out.keep hb5); have hB5 := Lib.hid (hB4.out.trans (hb5.mono hB4.out.size)); clear ho5 hb5 hn5)
      | (refine wpList_build_as 56 _ rfl rfl #[.slice A4 n4 c4, .slice A5 n5 c5, .int .i64 l, .int .i64 0] (by kernel_rfl) ?_)
      | (refine wpList_box_row 56 _ rfl rfl #[.slice A4 n4 c4, .slice A5 n5 c5, .int .i64 l, .int .i64 0] rfl ?_))
    go_ret2
    unfold NewR
    rw [if_pos h0.out]
    have hb6 := below_grow' w5 (.cells #[.slice A4 n4 c4, .slice A5 n5 c5, .int .i64 l, .int .i64 0] 56)
    exact ⟨w5.heap.size, _, _, _, _, _, _, rfl, heap_new _ _, hG5.out.keep hb6, hS5.out.keep hb6, hB5.out.size, hB5.out.trans (hb6.mono hB5.out.size)⟩
  · have cC := Lib.hid (Calls.mono cC (fun r w' h => (show ∃ T u, r = .returned (.iface T u) ∧ isErr w' (some (denyE gs ss l)) [denyS, denyW gs ss l] (.iface T u) ∧ Below w.heap.size w w' by unfold DnR at h; rwa [if_neg h0] at h)))
    have h0 := Lib.hid h0
    clear H K hg hs
    go_enter Tryd.func6, Tryd.ntmps6
    go_wp2_with (go_at_call 20; (with_reducible refine cC.out.mono ?_); rintro r w3 ⟨T3, u3, rfl, hE3, hb3⟩; have hE3 := Lib.hid hE3; have hB3 := Lib.hid hb3; clear hb3)
    go_ret2
    unfold NewR
    rw [if_neg h0.out]
    exact ⟨_, _, rfl, hE3.out, hB3.out⟩
end Go.Proofs.YtifliohljcafgaaDoor
