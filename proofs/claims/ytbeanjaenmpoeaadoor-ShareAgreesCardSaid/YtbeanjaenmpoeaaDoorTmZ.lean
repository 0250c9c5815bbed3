/- The sort of at most 12 numbers, told by what the insertion sort does. -/
import Derived.Test.YtbeanjaenmpoeaaDoorTmY
import Derived.Deep.DeepCutAuto
namespace Go.Proofs.YtbeanjaenmpoeaaDoor
open Go.RowKit

set_option maxRecDepth 100000 in
set_option maxHeartbeats 4000000 in
theorem pdq_small (a : Addr) (n c : Nat) (lim : Int) (fv : Value) (w : World) (R : World → Prop) (hn : n ≤ 12)
    (hI : Calls Tryd.prog 91 #[.slice (some a) n c, .int .i64 0, .int .i64 n, fv] w fun r w' => r = .returned (.tuple #[]) ∧ R w') :
    Calls Tryd.prog 64 #[.slice (some a) n c, .int .i64 0, .int .i64 n, .int .i64 lim, fv] w fun r w' => r = .returned (.tuple #[]) ∧ R w' := by
  have hI := Lib.hid hI
  go_enter Tryd.func64, Tryd.ntmps64
  go_wp2_with fail
  refine wp_loop_rounds 1 ?_
  rw [rounds_succ]
  go_wp2_with (go_at_call 91; refine hI.out.mono ?_; rintro r w1 ⟨rfl, hR⟩)
  (try simp only [Exit.inBlock, Exit.then])
  refine bodyPost_ret (results_none rfl _ _ _) rfl ?_
  exact ⟨rfl, hR⟩
theorem sortFunc_small (a : Addr) (n c : Nat) (fv : Value) (w : World) (R : World → Prop) (hn : n ≤ 12)
    (hI : Calls Tryd.prog 91 #[.slice (some a) n c, .int .i64 0, .int .i64 n, fv] w fun r w' => r = .returned (.tuple #[]) ∧ R w') :
    Calls Tryd.prog 50 #[.slice (some a) n c, fv] w fun r w' => r = .returned (.tuple #[]) ∧ R w' := by
  have cP := Lib.hid (fun lim => pdq_small a n c lim fv w R hn hI)
  have cB := Lib.hid (Tryd.bits_Len (n : Int) w (by omega) (by omega))
  clear hI
  go_enter Tryd.func50, Tryd.ntmps50
  go_wp2_with (first
    | (go_at_call 65; refine cB.out.mono ?_; rintro r w1 ⟨rfl, rfl⟩)
    | (go_at_call 64; refine (cP.out _).mono ?_; rintro r w1 ⟨rfl, hR⟩))
  go_end0
  exact ⟨rfl, hR⟩
end Go.Proofs.YtbeanjaenmpoeaaDoor
