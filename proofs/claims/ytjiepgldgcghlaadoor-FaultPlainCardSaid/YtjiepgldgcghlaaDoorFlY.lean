/- The walks of FaultPlain and FaultOdd. -/
import Derived.Test.YtjiepgldgcghlaaDoorFlX
namespace Go.Proofs.YtjiepgldgcghlaaDoor
open Go.RowKit

set_option maxRecDepth 100000 in
set_option maxHeartbeats 4000000 in
theorem law_faultPlain (n : Int) (w : World) (G : ETy w) :
    Calls Tryd.prog 5 #[.int .i64 n] w fun r w' => r = .returned (.bool true) ∧ Below w.heap.size w w' := by
  have aw := Lib.hid (fun W (h : Below w.heap.size w W) => awake05_any W (G.keep h))
  have cN := Lib.hid (fun W (h : Below w.heap.size w W) => code_num n [] (.iface 27 (.int .i64 n)) W rfl (G.keep h))
  have cP := Lib.hid (fun W (h : Below w.heap.size w W) => path_any (some n) [] (.iface 27 (.int .i64 n)) W (by decide) rfl (G.keep h))
  have hR := Lib.hid (Below.refl w.heap.size w)
  obtain ⟨rs, hrs⟩ : ∃ t, t = reasonR n := ⟨_, rfl⟩
  have cR := fun W (h : Below w.heap.size w W) => reason_of (cN.out W h)
  have cO := fun W => reasonOf_any n W
  have cQ := fun W => refReason_any n W
  rw [← hrs] at cR cQ cO
  have hI : ∃ q : Bool, ((n != 0) = q) ∧ ∀ W, Calls Tryd.prog 20 #[.iface 27 (.int .i64 n), .int .i64 n] W fun r w' => r = .returned (.bool q) ∧ W = w' := by
    by_cases h0 : n = 0
    · subst h0
      exact ⟨false, rfl, fun W => fIs_zero _ _ W⟩
    · refine ⟨true, by rw [bne_iff_ne]; exact h0, fun W => ?_⟩
      have := fIs_num n n [] (.iface 27 (.int .i64 n)) W rfl h0
      rwa [beq_self_eq_true] at this
  obtain ⟨q, hq, cI⟩ := hI
  have cR := Lib.hid cR
  have cO := Lib.hid cO
  have cQ := Lib.hid cQ
  have cI := Lib.hid cI
  clear hrs G
  go_enter Tryd.func5, Tryd.ntmps5
  go_wp2_with fail
  refine (cN.out w hR.out).mono ?_
  rintro r w1 ⟨rfl, hb⟩
  have hW1 := Lib.hid hb
  clear hb
  go_wp2_with fail
  refine (cP.out w1 hW1.out).mono ?_
  intro r w2 hP
  obtain ⟨A3, k3, c3, rfl, hk3, _, hb⟩ := hP.strs
  obtain rfl : k3 = 0 := hk3.out
  have hW2 := Lib.hid (hW1.out.trans (hb.mono hW1.out.size))
  clear hb
  go_wp2_with fail
  refine (cR.out w2 hW2.out).mono ?_
  rintro r w3 ⟨rfl, hb⟩
  have hW3 := Lib.hid (hW2.out.trans (hb.mono hW2.out.size))
  clear hb
  go_wp2_with fail
  refine (cQ.out w3).mono ?_
  rintro r w4 ⟨rfl, hb⟩
  have hW4 := Lib.hid (hW3.out.trans (hb.mono hW3.out.size))
  clear hb
  go_wp2_with fail
  refine (cO.out w4).mono ?_
  rintro r w5 ⟨rfl, rfl⟩
  go_wp2_with fail
  refine (cQ.out w4).mono ?_
  rintro r w5 ⟨rfl, hb⟩
  have hW5 := Lib.hid (hW4.out.trans (hb.mono hW4.out.size))
  clear hb
  go_wp2_with fail
  refine (aw.out w5 hW5.out).mono ?_
  rintro r w6 ⟨rfl, hb⟩
  have hW6 := Lib.hid (hW5.out.trans (hb.mono hW5.out.size))
  clear hb
  go_wp2_with fail
  refine (cI.out w6).mono ?_
  rintro r w7 ⟨rfl, rfl⟩
  go_wp2_with fail
  refine (error_nil w6).mono ?_
  rintro r w7 ⟨rfl, rfl⟩
  go_wp2
  go_ret
  exact ⟨rfl, hW6.out⟩
end Go.Proofs.YtjiepgldgcghlaaDoor
