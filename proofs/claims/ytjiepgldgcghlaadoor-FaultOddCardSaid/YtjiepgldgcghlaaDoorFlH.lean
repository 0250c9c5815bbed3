/- The references of the fault laws. -/
import Derived.Test.YtjiepgldgcghlaaDoorFlG
import Derived.Test.YtjiepgldgcghlaaDoorStr
namespace Go.Proofs.YtjiepgldgcghlaaDoor
open Go.RowKit

set_option maxHeartbeats 2000000 in
theorem refReason_any (n : Int) (w : World) :
    Calls Tryd.prog 26 #[.int .i64 n] w fun r w' => r = .returned (.int .i64 (reasonR n)) ∧ Below w.heap.size w w' := by
  by_cases h : 0 ≤ n ∧ n < 15
  · have h : n = 0 ∨ n = 1 ∨ n = 2 ∨ n = 3 ∨ n = 4 ∨ n = 5 ∨ n = 6 ∨ n = 7 ∨ n = 8 ∨ n = 9 ∨ n = 10 ∨ n = 11 ∨ n = 12 ∨ n = 13 ∨ n = 14 := by omega
    rcases h with rfl | rfl | rfl | rfl | rfl | rfl | rfl | rfl | rfl | rfl | rfl | rfl | rfl | rfl | rfl
    all_goals
      go_enter Tryd.func26, Tryd.ntmps26
      go_wp2
      go_ret
      exact ⟨rfl, (Below.refl _ _).alloc (Nat.le_refl _) _⟩
  · have hr := Lib.hid (show reasonR n = 11 by unfold reasonR; rw [if_neg h])
    rcases outside h with h | ⟨h, h2⟩
    all_goals
      go_enter Tryd.func26, Tryd.ntmps26
      go_wp2
      go_ret
      exact ⟨ret_int hr.out.symm, (Below.refl _ _).alloc (Nat.le_refl _) _⟩
set_option maxRecDepth 100000 in
set_option maxHeartbeats 2000000 in
theorem refText_any (p : List ByteArray) (A : Option Addr) (k c : Nat) (n : Int) (w : World) (hk : k ≤ 9223372036854775807) (hp : (preS p).size ≤ 1000000) (H : Strs w A k p) :
    Calls Tryd.prog 25 #[.slice A k c, .int .i64 n] w fun r w' => r = .returned (.string (preS p ++ nameOf n)) ∧ Below w.heap.size w w' := by
  have hlen := Lib.hid H.len
  have hp := Lib.hid hp
  have HH := Lib.hid H
  have hB := Lib.hid (fun (w : World) (o : Obj) => (Below.refl w.heap.size w).alloc (Nat.le_refl _) o)
  go_enter Tryd.func25, Tryd.ntmps25
  go_wp2
  go_loop [6, 7] (fun s i => ∃ k' : Nat, ∃ u : ByteArray, k' ≤ k ∧ i = .int .i64 k' ∧ s = .string u ∧ Hid (u = preS (p.take k'))) (fun _ i => k - (intOf i).toNat)
  case atStart => exact ⟨0, _, by omega, rfl, rfl, by simp [Hid, preS]⟩
  case round =>
    obtain ⟨k', u, hk', rfl, rfl, hu⟩ := hrel
    by_cases hlt : k' < k
    · obtain ⟨b, off, x, rfl, hb, hx, hc⟩ := HH.out.at_ hlt
      have hstep : preS (p.take (k' + 1)) = u ++ x ++ sepS := by rw [take_succ_of hx, preS_snoc, hu.out]
      have hroom : (preS (p.take (k' + 1))).size ≤ 1000000 := by
        have := preS_le (p.take (k' + 1)) (p.drop (k' + 1))
        rw [List.take_append_drop] at this
        exact Nat.le_trans this hp.out
      rw [hstep] at hroom
      have h2 : (u ++ x ++ sepS).size = u.size + x.size + 2 := by simp only [ByteArray.size_append]; rfl
      have hroom : u.size + x.size + 2 ≤ 1000000 := by omega
      clear h2
      have hstep := Lib.hid hstep
      clear hx
      go_wp2
      go_round
      case rel => exact ⟨k' + 1, u ++ x ++ sepS, by omega, by go_num, rfl, hstep.out.symm⟩
      case measure => simp [intOf]; omega
    · have hfin := Lib.hid (show preS p = u by rw [hu.out, List.take_of_length_le (by rw [hlen.out]; omega)])
      have husz : u.size ≤ 1000000 := by rw [← hfin.out]; exact hp.out
      by_cases h : 0 ≤ n ∧ n < 15
      · have h : n = 0 ∨ n = 1 ∨ n = 2 ∨ n = 3 ∨ n = 4 ∨ n = 5 ∨ n = 6 ∨ n = 7 ∨ n = 8 ∨ n = 9 ∨ n = 10 ∨ n = 11 ∨ n = 12 ∨ n = 13 ∨ n = 14 := by omega
        rcases h with rfl | rfl | rfl | rfl | rfl | rfl | rfl | rfl | rfl | rfl | rfl | rfl | rfl | rfl | rfl
        all_goals
          go_wp2
          go_ret
          exact ⟨by rw [hfin.out]; rfl, hB.out _ _⟩
      · have hr := Lib.hid (show nameOf n = ⟨#[117, 110, 107, 110, 111, 119, 110]⟩ by unfold nameOf; rw [if_neg h])
        rcases outside h with h | ⟨h, h2⟩
        all_goals
          go_wp2
          go_ret
          exact ⟨by rw [hfin.out, hr.out]; rfl, hB.out _ _⟩
end Go.Proofs.YtjiepgldgcghlaaDoor
