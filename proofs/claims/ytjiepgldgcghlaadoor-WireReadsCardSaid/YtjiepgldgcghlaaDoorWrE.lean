/- The reader's take. -/
import Derived.Test.YtjiepgldgcghlaaDoorWrD
import Derived.Deep.DeepCutAuto
namespace Go.Proofs.YtjiepgldgcghlaaDoor
open Go.RowKit

section
variable (g : Nat) (s : ByteArray) (k : Nat) (f : Nat)
def fv (f : Nat) : Value := .func (.func f) #[] #[]
set_option maxHeartbeats 1000000 in
theorem take_err (e skip n : Int) (w : World) (h : RD w g s k e) (he : e ≠ 0) :
    Calls Tryd.prog 54 #[.pointer (some ⟨g, 0, none⟩), .int .i64 skip, .int .i64 n, fv f] w fun r w' => r = .returned (.string ⟨#[]⟩) ∧ w = w' := by
  have cE := Lib.hid (err_any g s k e w h)
  have hb : (e != 0) = true := by rw [bne_iff_ne]; exact he
  clear he h
  go_enter Tryd.func54, Tryd.ntmps54
  go_wp2_with (go_at_call 13; refine cE.out.mono ?_; rintro r w1 ⟨rfl, rfl⟩)
  go_ret
  exact ⟨rfl, rfl⟩
set_option maxHeartbeats 1000000 in
theorem take_nil (skip n : Int) (w : World) :
    Calls Tryd.prog 54 #[.pointer none, .int .i64 skip, .int .i64 n, fv f] w fun r w' => r = .returned (.string ⟨#[]⟩) ∧ w = w' := by
  go_enter Tryd.func54, Tryd.ntmps54
  go_wp2_with (go_at_call 13; refine (err_nil _).mono ?_; rintro r w1 ⟨rfl, rfl⟩)
  go_ret
  exact ⟨rfl, rfl⟩
set_option maxHeartbeats 1000000 in
theorem take_short (skip : Nat) (n : Int) (w : World) (h : RD w g s k 0) (hs : s.size ≤ 1000000) (hk : k ≤ s.size) (hsk : skip ≤ 1000) (hn : n ≤ 1000000000000) (hsh : n < 0 ∨ ((s.size - k : Nat) : Int) < skip + n) :
    Calls Tryd.prog 54 #[.pointer (some ⟨g, 0, none⟩), .int .i64 skip, .int .i64 n, fv f] w fun r w' => r = .returned (.string ⟨#[]⟩) ∧ RD w' g s k 4 ∧ Chg w w' g := by
  have cE := Lib.hid (err_any g s k 0 w h)
  have cL := Lib.hid (left_any g s k 0 w h hs hk)
  by_cases hneg : n < 0
  · obtain ⟨_, _, c2, _, z2⟩ := h.cells
    have hR := Lib.hid (h.err 4)
    have hC := Lib.hid ((Chg.refl w (Nat.le_of_lt h.lt)).setCell 2 (.int .i64 4))
    clear h hsh
    go_enter Tryd.func54, Tryd.ntmps54
    go_wp2_with (go_at_call 13; refine cE.out.mono ?_; rintro r w1 ⟨rfl, rfl⟩)
    go_ret
    exact ⟨rfl, hR.out, hC.out⟩
  · have hsh : ((s.size - k : Nat) : Int) < skip + n := by omega
    generalize s.size - k = L at cL hsh
    have h0 : 0 ≤ n := by omega
    have hh := Lib.hid h
    clear h hneg
    go_enter Tryd.func54, Tryd.ntmps54
    go_wp2_with (first
      | (go_at_call 13; refine cE.out.mono ?_; rintro r w1 ⟨rfl, rfl⟩)
      | (go_at_call 14; refine cL.out.mono ?_; rintro r w1 ⟨rfl, q, rfl⟩
         obtain ⟨_, _, c2, _, z2⟩ := (hh.out.keep (drewN_below q)).cells
         have hR := Lib.hid ((hh.out.keep (drewN_below q)).err 4)
         have hC := Lib.hid ((chg_of (drewN_below q) (Nat.le_of_lt hh.out.lt)).setCell 2 (.int .i64 4))))
    go_ret
    exact ⟨rfl, hR.out, hC.out⟩
set_option maxHeartbeats 2000000 in
theorem take_may (skip m : Nat) (b : Bool) (w : World) (h : RD w g s k 0) (hs : s.size ≤ 1000000) (hk : k ≤ s.size) (hsk : skip ≤ 1000) (hm : k + skip + m ≤ s.size)
    (eg : ∀ args w, (callFunc f args).run Tryd.prog w = .ok (.enter f args) w)
    (hmay : ∀ W, Calls Tryd.prog f #[.string (s.extract (k + skip) (k + skip + m))] W fun r w' => r = .returned (.bool b) ∧ W = w') :
    Calls Tryd.prog 54 #[.pointer (some ⟨g, 0, none⟩), .int .i64 skip, .int .i64 m, fv f] w fun r w' =>
      r = .returned (.string (if b then s.extract (k + skip) (k + skip + m) else ⟨#[]⟩)) ∧ RD w' g s (if b then k + skip + m else k) (if b then 0 else 3) ∧ Chg w w' g := by
  have cE := Lib.hid (err_any g s k 0 w h)
  have cL := left_any g s k 0 w h hs hk
  obtain ⟨L, hL⟩ : ∃ L, L = s.size - k := ⟨_, rfl⟩
  rw [← hL] at cL
  have cL := Lib.hid cL
  have hL1 : (skip : Int) + m ≤ L := by omega
  have hL2 : L ≤ 1000000 := by omega
  clear hL
  have hh := Lib.hid h
  have hM := Lib.hid hmay
  clear hmay h
  have e1 : IntKind.i64.wrap ((k : Int) + (skip : Int)) = ((k + skip : Nat) : Int) := by rw [IntWalk.i64_in _ (by omega)]; omega
  have e2 : IntKind.i64.wrap (((k + skip : Nat) : Int) + (m : Int)) = ((k + skip + m : Nat) : Int) := by rw [IntWalk.i64_in _ (by omega)]; omega
  have l1 : (0 : Int) ≤ ((k + skip : Nat) : Int) := by omega
  have l2 : ((k + skip : Nat) : Int) ≤ ((k + skip + m : Nat) : Int) := by omega
  have l3 : ((k + skip + m : Nat) : Int) ≤ (s.size : Int) := by omega
  unfold fv
  have e3 : (k : Int) + ((skip : Int) + (m : Int)) = ((k + skip + m : Nat) : Int) := by omega
  have e3H := Lib.hid e3
  clear e3
  cases b
  · go_enter Tryd.func54, Tryd.ntmps54
    go_upto_region 6 with (first
      | (go_at_call 13; refine cE.out.mono ?_; rintro r w1 ⟨rfl, rfl⟩)
      | (go_at_call 14; refine cL.out.mono ?_; rintro r w1 ⟨rfl, q, rfl⟩
         obtain ⟨c0, c1, c2, z1, z2⟩ := (hh.out.keep (drewN_below q)).cells
         have hR := hh.out.keep (drewN_below q)
         have hC := chg_of (drewN_below q) (Nat.le_of_lt hh.out.lt)
         generalize w.drewN q = w2 at hR hC c0 c1 c2 z1 z2 ⊢
         have hR2 := Lib.hid hR
         have hC2 := Lib.hid hC
         clear hR hC))
    go_quiet (fail)
    go_wp2_with fail
    refine (hM.out _).mono ?_
    rintro r w3 ⟨rfl, rfl⟩
    have hR3 := hR2.out.keep (drewN_below nq)
    have hC3 := hC2.out.trans (chg_of (drewN_below nq) (Nat.le_of_lt hR2.out.lt))
    generalize w2.drewN nq = w3 at hR3 hC3 ⊢
    clear c0 c1 c2 z1 z2 hR2 hC2
    obtain ⟨c0, c1, c2, z1, z2⟩ := hR3.cells
    have hRn := Lib.hid (hR3.err 3)
    have hCn := Lib.hid (hC3.setCell 2 (.int .i64 3))
    clear hR3 hC3
    go_wp2_with fail
    go_ret
    exact ⟨rfl, hRn.out, hCn.out⟩
  · go_enter Tryd.func54, Tryd.ntmps54
    go_upto_region 6 with (first
      | (go_at_call 13; refine cE.out.mono ?_; rintro r w1 ⟨rfl, rfl⟩)
      | (go_at_call 14; refine cL.out.mono ?_; rintro r w1 ⟨rfl, q, rfl⟩
         obtain ⟨c0, c1, c2, z1, z2⟩ := (hh.out.keep (drewN_below q)).cells
         have hR := hh.out.keep (drewN_below q)
         have hC := chg_of (drewN_below q) (Nat.le_of_lt hh.out.lt)
         generalize w.drewN q = w2 at hR hC c0 c1 c2 z1 z2 ⊢
         have hR2 := Lib.hid hR
         have hC2 := Lib.hid hC
         clear hR hC))
    go_quiet (fail)
    go_wp2_with fail
    refine (hM.out _).mono ?_
    rintro r w3 ⟨rfl, rfl⟩
    have hR3 := hR2.out.keep (drewN_below nq)
    have hC3 := hC2.out.trans (chg_of (drewN_below nq) (Nat.le_of_lt hR2.out.lt))
    generalize w2.drewN nq = w3 at hR3 hC3 ⊢
    clear c0 c1 c2 z1 z2 hR2 hC2
    obtain ⟨c0, c1, c2, z1, z2⟩ := hR3.cells
    have hRn := Lib.hid (show RD (w3.setCell ⟨g, 1, none⟩ (.int .i64 ((k : Int) + ((skip : Int) + (m : Int))))) g s (k + skip + m) 0 by rw [e3H.out]; exact hR3.at_ _)
    have hCn := Lib.hid (hC3.setCell 1 (.int .i64 ((k : Int) + ((skip : Int) + (m : Int)))))
    clear hR3 hC3 e1 e2
    go_wp2_with fail
    go_ret
    exact ⟨rfl, hRn.out, hCn.out⟩
end
end Go.Proofs.YtjiepgldgcghlaaDoor
