/- Once, Without, Same, few: the walks of the functions on lists of names that cut, append or compare. -/
import Derived.Test.YtifliohljcafgaaDoorNmA
import Derived.RegionTactic
import Derived.BigQuiet
import Derived.Deep.QuietTactic
namespace Go.Proofs.YtifliohljcafgaaDoor
open Go.RowKit

/-- No name stands twice. -/
def once (ss : List ByteArray) : Bool := (List.range ss.length).all fun i => !has (ss.take i) (ss.getD i ByteArray.empty)
def onceTo (ss : List ByteArray) (k : Nat) : Bool := (List.range k).all fun i => !has (ss.take i) (ss.getD i ByteArray.empty)
theorem onceTo_succ (ss : List ByteArray) (k : Nat) : onceTo ss (k + 1) = (onceTo ss k && !has (ss.take k) (ss.getD k ByteArray.empty)) := by
  unfold onceTo; rw [List.range_succ, List.all_append]; simp
theorem once_bad {ss : List ByteArray} {k : Nat} (hk : k < ss.length) (h : has (ss.take k) (ss.getD k ByteArray.empty) = true) : once ss = false := by
  unfold once
  rw [List.all_eq_false]
  exact ⟨k, List.mem_range.2 hk, by rw [h]; decide⟩
set_option maxHeartbeats 400000 in
theorem nmOnce_any (ss : List ByteArray) (A : Option Addr) (n c : Nat) (w : World) (hc : n ≤ c) (hn : c ≤ 9223372036854775807) (H : Strs w A n ss) :
    Calls Tryd.prog 51 #[.slice A n c] w fun r w' => r = .returned (.bool (once ss)) ∧ w = w' := by
  have hlen := Lib.hid H.len
  have HH := Lib.hid H
  go_enter Tryd.func51, Tryd.ntmps51
  go_wp2
  go_loop [3, 4, 7] (fun _ _ i => ∃ k : Nat, k ≤ n ∧ i = .int .i64 k ∧ Hid (onceTo ss k = true)) (fun _ _ i => n - (intOf i).toNat)
  case atStart => exact ⟨0, by omega, rfl, by simp [Hid, onceTo]⟩
  case round =>
    obtain ⟨k, hk, rfl, hf⟩ := hrel
    by_cases hlt : k < n
    · obtain ⟨b, off, x, rfl, hb, hx, hcell⟩ := H.at_ hlt
      have hxd : ss.getD k ByteArray.empty = x := by rw [List.getD_eq_getElem?_getD, hx]; rfl
      have hcall := nmHas_any (ss.take k) (some ⟨b, off, none⟩) k c x w (by omega) (H.take_ hk)
      cases he : has (ss.take k) x with
      | true =>
        rw [he] at hcall
        have he := Lib.hid he
        have hxd := Lib.hid hxd
        have hcall := Lib.hid hcall
        have hx := Lib.hid hx
        go_wp2_with (go_at_call 27; refine hcall.out.mono ?_; rintro r w1 ⟨rfl, rfl⟩)
        go_ret
        exact ⟨ret_bool (once_bad (k := k) (by rw [hlen.out]; exact hlt) (by rw [hxd.out]; exact he.out)).symm, rfl⟩
      | false =>
        rw [he] at hcall
        have he := Lib.hid he
        have hxd := Lib.hid hxd
        have hcall := Lib.hid hcall
        have hx := Lib.hid hx
        go_wp2_with (go_at_call 27; refine hcall.out.mono ?_; rintro r w1 ⟨rfl, rfl⟩)
        go_round
        case rel => exact ⟨k + 1, by omega, by go_num, (by unfold Hid; rw [onceTo_succ, hf.out, hxd.out, he.out]; rfl)⟩
        case measure => simp [intOf]; omega
    · go_wp2
      go_ret
      exact ⟨ret_bool (by have : k = ss.length := by rw [hlen.out]; omega
                          rw [this] at hf; exact hf.out.symm), rfl⟩


end Go.Proofs.YtifliohljcafgaaDoor
