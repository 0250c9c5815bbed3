/- The walks of the small functions on lists of names. -/
import Derived.Test.YtifliohljcafgaaDoorStr
namespace Go.Proofs.YtifliohljcafgaaDoor
open Go.RowKit

theorem beqS (x s : ByteArray) : (x == s) = (x.toList == s.toList) := beq_toListBytes x s
theorem bs_ext {x y : ByteArray} (h : x.toList = y.toList) : x = y := by
  rw [ByteArray.toList_eq, ByteArray.toList_eq] at h
  cases x; cases y
  simp only [ByteArray.mk.injEq]
  exact Array.toList_inj.1 h
theorem bs_eq {x y : ByteArray} (h : (x.toList == y.toList) = true) : x = y := bs_ext (by simpa using h)
theorem bs_ne {x y : ByteArray} (h : (x.toList == y.toList) = false) : x ≠ y := by
  rintro rfl
  simp at h
theorem beqS_iff {x y : ByteArray} : (x == y) = true ↔ x = y := ⟨fun h => bs_eq ((beqS x y).symm.trans h), fun h => by subst h; rw [beqS]; simp⟩

set_option maxHeartbeats 400000 in
theorem refHas_any (ss : List ByteArray) (A : Option Addr) (n c : Nat) (s : ByteArray) (w : World) (hn : n ≤ 9223372036854775807) (H : Strs w A n ss) :
    Calls Tryd.prog 31 #[.slice A n c, .string s] w fun r w' => r = .returned (.bool (has ss s)) ∧ w = w' := by
  have hlen := Lib.hid H.len
  go_enter Tryd.func31, Tryd.ntmps31
  go_wp2
  go_loop [5] (fun i => ∃ k : Nat, k ≤ n ∧ i = .int .i64 k ∧ Hid (((ss.take k).any (· == s)) = false)) (fun i => n - (intOf i).toNat)
  case atStart => exact ⟨0, by omega, rfl, by simp [Hid]⟩
  case round =>
    obtain ⟨k, hk, rfl, hf⟩ := hrel
    by_cases hlt : k < n
    · obtain ⟨b, off, x, rfl, hb, hx, hc⟩ := H.at_ hlt
      have hx := Lib.hid hx
      cases he : (x.toList == s.toList) with
      | true =>
        have hq := Lib.hid (show (x == s) = true by rw [beqS, he])
        go_wp2
        go_ret
        exact ⟨ret_bool (any_hit _ hx.out hq.out).symm, rfl⟩
      | false =>
        have hq := Lib.hid (show (x == s) = false by rw [beqS, he])
        go_wp2
        go_round
        case rel => exact ⟨k + 1, by omega, by go_num, (by unfold Hid; rw [any_take_succ _ hx.out, hf.out, hq.out]; rfl)⟩
        case measure => simp [intOf]; omega
    · go_wp2
      go_ret
      exact ⟨ret_bool (any_whole (n := k) (by rw [hlen.out]; omega) hf.out).symm, rfl⟩

set_option maxHeartbeats 400000 in
theorem indexS_any (ss : List ByteArray) (A : Option Addr) (n c : Nat) (s : ByteArray) (w : World) (hn : n ≤ 9223372036854775807) (H : Strs w A n ss) :
    Calls Tryd.prog 57 #[.slice A n c, .string s] w fun r w' => r = .returned (.int .i64 (idx (· == s) ss)) ∧ w = w' := by
  have hlen := Lib.hid H.len
  go_enter Tryd.func57, Tryd.ntmps57
  go_wp2
  go_loop [5, 8] (fun _ i => ∃ k : Nat, k ≤ n ∧ i = .int .i64 k ∧ Hid (((ss.take k).any (· == s)) = false)) (fun _ i => n - (intOf i).toNat)
  case atStart => exact ⟨0, by omega, rfl, by simp [Hid]⟩
  case round =>
    obtain ⟨k, hk, rfl, hf⟩ := hrel
    by_cases hlt : k < n
    · obtain ⟨b, off, x, rfl, hb, hx, hc⟩ := H.at_ hlt
      have hx := Lib.hid hx
      cases he : (s.toList == x.toList) with
      | true =>
        have hq := Lib.hid (show (x == s) = true by rw [beqS, BEq.comm, he])
        go_wp2
        go_ret
        exact ⟨ret_int (idx_hit hx.out hq.out hf.out).symm, rfl⟩
      | false =>
        have hq := Lib.hid (show (x == s) = false by rw [beqS, BEq.comm, he])
        go_wp2
        go_round
        case rel => exact ⟨k + 1, by omega, by go_num, (by unfold Hid; rw [any_take_succ _ hx.out, hf.out, hq.out]; rfl)⟩
        case measure => simp [intOf]; omega
    · go_wp2
      go_ret
      exact ⟨ret_int (idx_miss (any_whole (n := k) (by rw [hlen.out]; omega) hf.out)).symm, rfl⟩

theorem idx_nonneg {α : Type} (p : α → Bool) (l : List α) : decide (0 ≤ idx p l) = l.any p := by
  rcases idx_cases p l with ⟨h, h2⟩ | ⟨k, x, h, hx, hp, _⟩
  · rw [h, h2]; rfl
  · rw [h, any_hit p hx hp]; simp
set_option maxHeartbeats 400000 in
theorem containsS_any (ss : List ByteArray) (A : Option Addr) (n c : Nat) (s : ByteArray) (w : World) (hn : n ≤ 9223372036854775807) (H : Strs w A n ss) :
    Calls Tryd.prog 43 #[.slice A n c, .string s] w fun r w' => r = .returned (.bool (has ss s)) ∧ w = w' := by
  have HH := Lib.hid H
  go_enter Tryd.func43, Tryd.ntmps43
  go_wp2_with (go_at_call 57; refine (indexS_any ss A n c s _ hn HH.out).mono ?_; rintro r w1 ⟨rfl, rfl⟩)
  go_ret
  exact ⟨ret_bool (idx_nonneg _ _), rfl⟩

set_option maxHeartbeats 400000 in
theorem nmHas_any (ss : List ByteArray) (A : Option Addr) (n c : Nat) (s : ByteArray) (w : World) (hn : n ≤ 9223372036854775807) (H : Strs w A n ss) :
    Calls Tryd.prog 27 #[.slice A n c, .string s] w fun r w' => r = .returned (.bool (has ss s)) ∧ w = w' := by
  have HH := Lib.hid H
  go_enter Tryd.func27, Tryd.ntmps27
  go_wp2_with (go_at_call 43; refine (containsS_any ss A n c s _ hn HH.out).mono ?_; rintro r w1 ⟨rfl, rfl⟩)
  go_ret
  exact ⟨rfl, rfl⟩

/-- The first of ss that is in ts, and whether there is one. -/
def firstV (ss ts : List ByteArray) : Value := match ss.find? (has ts) with | some s => .tuple #[.string s, .bool true] | none => .tuple #[.string ByteArray.empty, .bool false]
theorem find_hit {α : Type} {p : α → Bool} {l : List α} {k : Nat} {x : α} (h : l[k]? = some x) (hp : p x = true) (hm : (l.take k).any p = false) : l.find? p = some x := by
  rw [List.find?_eq_some_iff_append]
  have hk : k < l.length := (List.getElem?_eq_some_iff.1 h).1
  refine ⟨hp, l.take k, l.drop (k + 1), ?_, fun y hy => ?_⟩
  · have h0 := List.take_append_drop k l
    rw [List.drop_eq_getElem_cons hk, (List.getElem?_eq_some_iff.1 h).2] at h0
    exact h0.symm
  · rw [List.any_eq_false] at hm
    simpa using hm y hy
theorem find_miss {α : Type} {p : α → Bool} {l : List α} (hm : l.any p = false) : l.find? p = none := by
  rw [List.find?_eq_none]
  rw [List.any_eq_false] at hm
  intro x hx
  simpa using hm x hx


end Go.Proofs.YtifliohljcafgaaDoor
