/- Right, Ahead and Split, the program's and the reference's. -/
import Derived.Test.YtjiepgldgcghlaaLnD
namespace Go.Proofs.Ytjiepgldgcghlaa
open Go.RowKit

theorem prefix_begins (s p : ByteArray) : Lib.hasPrefix s.data.toList p.data.toList = beginsB s p := by
  unfold Lib.hasPrefix beginsB
  rw [← bsl, ← bsl, Bool.eq_iff_iff, List.isPrefixOf_iff_prefix, List.prefix_iff_eq_take, bsl_len, beq_iff_eq]
  exact eq_comm
def ssh : ByteArray := ⟨#[83, 83, 72, 45]⟩
def rightB (s : ByteArray) (n : Nat) : Bool := decide (n = s.size) && decide (s.size ≤ 253) && beginsB s pfx && decide (8 < s.size)
def aheadB (s : ByteArray) (n : Nat) : Bool := decide (n = s.size) && decide (s.size ≤ 253) && !beginsB s ssh

set_option maxHeartbeats 400000 in
theorem right_any (s : ByteArray) (n : Nat) (w : World) (hs : s.size ≤ 1000000) (h : PL s n) :
    Calls Try.prog 13 #[.string s] w fun r w' => r = .returned (.bool (rightB s n)) ∧ w = w' := by
  have cA := all_any s n w (by omega) h
  have cP := Try.strings_HasPrefix s pfx w
  rw [prefix_begins] at cP
  have hr : rightB s n = (decide (n = s.size) && decide (s.size ≤ 253) && beginsB s pfx && decide (8 < s.size)) := rfl
  cases hb : (decide (n = s.size) && decide (s.size ≤ 253)) <;> cases hq : beginsB s pfx <;> by_cases h8 : 8 < s.size
  all_goals
    rw [hb] at cA
    rw [hq] at cP
    rw [hb, hq] at hr
    have cA := Lib.hid cA
    have cP := Lib.hid cP
    have hR := Lib.hid hr
    clear hb hq h hr
    go_enter Try.func13, Try.ntmps13
    go_wp2_with (first
      | (go_at_call 21; refine cA.out.mono ?_; rintro r w1 ⟨rfl, rfl⟩)
      | (go_at_call 25; refine cP.out.mono ?_; rintro r w1 ⟨rfl, rfl⟩))
    all_goals (go_ret; exact ⟨ret_bool (by rw [hR.out]; simp <;> omega), rfl⟩)

set_option maxHeartbeats 400000 in
theorem ahead_any (s : ByteArray) (n : Nat) (w : World) (hs : s.size ≤ 1000000) (h : PL s n) :
    Calls Try.prog 14 #[.string s] w fun r w' => r = .returned (.bool (aheadB s n)) ∧ w = w' := by
  have cA := all_any s n w (by omega) h
  have cP := Try.strings_HasPrefix s ssh w
  rw [prefix_begins] at cP
  have hr : aheadB s n = (decide (n = s.size) && decide (s.size ≤ 253) && !beginsB s ssh) := rfl
  cases hb : (decide (n = s.size) && decide (s.size ≤ 253)) <;> cases hq : beginsB s ssh
  all_goals
    rw [hb] at cA
    rw [hq] at cP
    rw [hb, hq] at hr
    have cA := Lib.hid cA
    have cP := Lib.hid cP
    have hR := Lib.hid hr
    clear hb hq h hr
    go_enter Try.func14, Try.ntmps14
    go_wp2_with (first
      | (go_at_call 21; refine cA.out.mono ?_; rintro r w1 ⟨rfl, rfl⟩)
      | (go_at_call 25; refine cP.out.mono ?_; rintro r w1 ⟨rfl, rfl⟩))
    all_goals (go_ret; exact ⟨ret_bool (by rw [hR.out]; simp), rfl⟩)

set_option maxHeartbeats 400000 in
theorem refRight_any (s : ByteArray) (n : Nat) (w : World) (hs : s.size ≤ 1000000) (h : PL s n) :
    Calls Try.prog 16 #[.string s] w fun r w' => r = .returned (.bool (rightB s n)) ∧ w = w' := by
  have cA := refPlain_any s n w (by omega) h
  have cP := begins_any s pfx w (by omega) (by decide)
  have hr : rightB s n = (decide (n = s.size) && decide (s.size ≤ 253) && beginsB s pfx && decide (8 < s.size)) := rfl
  cases hb : decide (n = s.size) <;> cases hq : beginsB s pfx <;> by_cases h8 : 8 < s.size <;> by_cases h253 : s.size ≤ 253
  all_goals
    rw [hb] at cA
    rw [hq] at cP
    rw [hb, hq] at hr
    have cA := Lib.hid cA
    have cP := Lib.hid cP
    have hR := Lib.hid hr
    clear hb hq h hr
    go_enter Try.func16, Try.ntmps16
    go_wp2_with (first
      | (go_at_call 23; refine cA.out.mono ?_; rintro r w1 ⟨rfl, rfl⟩)
      | (go_at_call 19; refine cP.out.mono ?_; rintro r w1 ⟨rfl, rfl⟩))
    all_goals (go_ret; exact ⟨ret_bool (by rw [hR.out]; simp <;> omega), rfl⟩)

set_option maxHeartbeats 400000 in
theorem refAhead_any (s : ByteArray) (n : Nat) (w : World) (hs : s.size ≤ 1000000) (h : PL s n) :
    Calls Try.prog 17 #[.string s] w fun r w' => r = .returned (.bool (aheadB s n)) ∧ w = w' := by
  have cA := refPlain_any s n w (by omega) h
  have cP := begins_any s ssh w (by omega) (by decide)
  have hr : aheadB s n = (decide (n = s.size) && decide (s.size ≤ 253) && !beginsB s ssh) := rfl
  cases hb : decide (n = s.size) <;> cases hq : beginsB s ssh <;> by_cases h253 : s.size ≤ 253
  all_goals
    rw [hb] at cA
    rw [hq] at cP
    rw [hb, hq] at hr
    have cA := Lib.hid cA
    have cP := Lib.hid cP
    have hR := Lib.hid hr
    clear hb hq h hr
    go_enter Try.func17, Try.ntmps17
    go_wp2_with (first
      | (go_at_call 23; refine cA.out.mono ?_; rintro r w1 ⟨rfl, rfl⟩)
      | (go_at_call 19; refine cP.out.mono ?_; rintro r w1 ⟨rfl, rfl⟩))
    all_goals (go_ret; exact ⟨ret_bool (by rw [hR.out]; simp <;> omega), rfl⟩)

/-! ### Cut at the first blank -/
def cutA (r : ByteArray) : ByteArray := if 0 ≤ blk r then r.extract 0 (blk r).toNat else r
def cutB (r : ByteArray) : ByteArray := if 0 ≤ blk r then r.extract ((blk r).toNat + 1) r.size else ⟨#[]⟩
theorem blk_cases (r : ByteArray) : (blk r = -1) ∨ ∃ k : Nat, blk r = k ∧ k < r.size := by
  have h := Lib.indexByte_ge r.data.toList 32
  rcases (show blk r = -1 ∨ 0 ≤ blk r by unfold blk; omega) with h | h
  · exact .inl h
  · obtain ⟨k, hk⟩ := Int.eq_ofNat_of_zero_le h
    right
    refine ⟨k, hk, ?_⟩
    have := (Lib.indexByte_some (l := r.data.toList) (c := 32) (o := k) hk).1
    have := (List.getElem?_eq_some_iff.1 this).1
    rw [← bsl, bsl_len] at this
    exact this
theorem blankS_eq : blankS = ⟨#[32]⟩ := rfl

set_option maxHeartbeats 400000 in
theorem slCut_any (r : ByteArray) (w : World) (hr : r.size ≤ 1000000) :
    Calls Try.prog 27 #[.string r, .string ⟨#[32]⟩] w fun e w' => e = .returned (.tuple #[.string (cutA r), .string (cutB r), .bool (decide (0 ≤ blk r))]) ∧ Below w.heap.size w w' := by
  have cI := Try.stringslite_Index_one r 32 w
  rcases blk_cases r with h | ⟨k, h, hk⟩
  · have hv : cutA r = r ∧ cutB r = ⟨#[]⟩ ∧ decide (0 ≤ blk r) = false := by
      unfold cutA cutB; rw [h]; exact ⟨rfl, rfl, rfl⟩
    rw [show Lib.indexByte r.data.toList 32 = -1 from h] at cI
    have cI := Lib.hid cI
    have hv := Lib.hid hv
    clear h
    go_enter Try.func27, Try.ntmps27
    go_wp2_with (go_at_call 29; refine cI.out.mono ?_; rintro e w1 ⟨rfl, rfl⟩)
    go_ret3
    exact ⟨by rw [hv.out.1, hv.out.2.1, hv.out.2.2]; rfl, Below.refl _ _⟩
  · have hv : cutA r = r.extract 0 k ∧ cutB r = r.extract (k + 1) r.size ∧ decide (0 ≤ blk r) = true := by
      unfold cutA cutB; rw [h, if_pos (by omega), if_pos (by omega), Int.toNat_natCast]; exact ⟨rfl, rfl, decide_eq_true (by omega)⟩
    rw [show Lib.indexByte r.data.toList 32 = k from h] at cI
    have cI := Lib.hid cI
    have hv := Lib.hid hv
    have k0 : (0 : Int) ≤ (k : Int) := by omega
    have k1 : (k : Int) ≤ (r.size : Int) := by omega
    have k2 : (k : Int) + 1 ≤ (r.size : Int) := by omega
    have k3 : IntKind.i64.wrap ((k : Int) + 1) = (k : Int) + 1 := IntWalk.i64_in _ (by omega)
    have k4 : ((k : Int) + 1).toNat = k + 1 := by omega
    have k5 : (0 : Int) ≤ (k : Int) + 1 := by omega
    clear h
    go_enter Try.func27, Try.ntmps27
    go_wp2_with (go_at_call 29; refine cI.out.mono ?_; rintro e w1 ⟨rfl, rfl⟩)
    go_quiet (fail)
    go_wp2
    go_ret3
    exact ⟨by rw [hv.out.1, hv.out.2.1, hv.out.2.2]; rfl, drewN_below _⟩

set_option maxHeartbeats 400000 in
theorem cut_any (r : ByteArray) (w : World) (hr : r.size ≤ 1000000) :
    Calls Try.prog 24 #[.string r, .string ⟨#[32]⟩] w fun e w' => e = .returned (.tuple #[.string (cutA r), .string (cutB r), .bool (decide (0 ≤ blk r))]) ∧ Below w.heap.size w w' := by
  have c := Lib.hid (slCut_any r w hr)
  go_enter Try.func24, Try.ntmps24
  go_wp2_with (go_at_call 27; refine c.out.mono ?_; rintro e w1 ⟨rfl, hb⟩)
  go_ret3
  exact ⟨rfl, hb⟩

def splitV (s : ByteArray) (n : Nat) : Value := if rightB s n then .tuple #[.string (cutA (s.extract 8 s.size)), .string (cutB (s.extract 8 s.size)), .bool true] else .tuple #[.string ⟨#[]⟩, .string ⟨#[]⟩, .bool false]
theorem splitV_no {s : ByteArray} {n : Nat} (h : rightB s n = false) : splitV s n = .tuple #[.string ⟨#[]⟩, .string ⟨#[]⟩, .bool false] := by unfold splitV; rw [h]; rfl
theorem splitV_yes {s : ByteArray} {n : Nat} (h : rightB s n = true) : splitV s n = .tuple #[.string (cutA (s.extract 8 s.size)), .string (cutB (s.extract 8 s.size)), .bool true] := by unfold splitV; rw [h]; rfl
theorem right_size {s : ByteArray} {n : Nat} (h : rightB s n = true) : 8 < s.size := by
  unfold rightB at h; simp only [Bool.and_eq_true, decide_eq_true_eq] at h; exact h.2

set_option maxHeartbeats 400000 in
theorem split_any (s : ByteArray) (n : Nat) (w : World) (hs : s.size ≤ 1000000) (h : PL s n) :
    Calls Try.prog 12 #[.string s] w fun r w' => r = .returned (splitV s n) ∧ Below w.heap.size w w' := by
  have cR := right_any s n w hs h
  cases hr : rightB s n with
  | false =>
    rw [hr] at cR
    have cR := Lib.hid cR
    have hr := Lib.hid hr
    clear h
    go_enter Try.func12, Try.ntmps12
    go_wp2_with (go_at_call 13; refine cR.out.mono ?_; rintro e w1 ⟨rfl, rfl⟩)
    go_ret3
    exact ⟨by rw [splitV_no hr.out]; rfl, Below.refl _ _⟩
  | true =>
    rw [hr] at cR
    have cC := Lib.hid (cut_any (s.extract 8 s.size) w (by rw [ByteArray.size_extract]; omega))
    have h8 := right_size hr
    have cR := Lib.hid cR
    have hr := Lib.hid hr
    clear h
    go_enter Try.func12, Try.ntmps12
    go_wp2_with (first
      | (go_at_call 13; refine cR.out.mono ?_; rintro e w1 ⟨rfl, rfl⟩)
      | (go_at_call 24; refine cC.out.mono ?_; rintro e w1 ⟨rfl, hb⟩))
    go_ret3
    exact ⟨by rw [splitV_yes hr.out]; rfl, hb⟩

set_option maxHeartbeats 400000 in
theorem refSplit_any (s : ByteArray) (n : Nat) (w : World) (hs : s.size ≤ 1000000) (h : PL s n) :
    Calls Try.prog 15 #[.string s] w fun r w' => r = .returned (splitV s n) ∧ Below w.heap.size w w' := by
  have cR := refRight_any s n w hs h
  cases hr : rightB s n with
  | false =>
    rw [hr] at cR
    have cR := Lib.hid cR
    have hr := Lib.hid hr
    clear h
    go_enter Try.func15, Try.ntmps15
    go_wp2_with (go_at_call 16; refine cR.out.mono ?_; rintro e w1 ⟨rfl, rfl⟩)
    go_ret3
    exact ⟨by rw [splitV_no hr.out]; rfl, Below.refl _ _⟩
  | true =>
    rw [hr] at cR
    have h8 := right_size hr
    have hv := splitV_yes hr
    have cB := blank_any (s.extract 8 s.size) w (by rw [ByteArray.size_extract]; omega)
    have hz : (s.extract 8 s.size).size = s.size - 8 := by rw [ByteArray.size_extract]; omega
    rcases blk_cases (s.extract 8 s.size) with hb | ⟨k, hb, hk⟩
    · have hv' : cutA (s.extract 8 s.size) = s.extract 8 s.size ∧ cutB (s.extract 8 s.size) = ⟨#[]⟩ := by
        unfold cutA cutB; rw [hb]; exact ⟨rfl, rfl⟩
      rw [hv'.1, hv'.2] at hv
      rw [hb] at cB
      have cR := Lib.hid cR
      have cB := Lib.hid cB
      have hv := Lib.hid hv
      clear h hr hb hv' hz
      go_enter Try.func15, Try.ntmps15
      go_wp2_with (first
        | (go_at_call 16; refine cR.out.mono ?_; rintro e w1 ⟨rfl, rfl⟩)
        | (go_at_call 22; refine cB.out.mono ?_; rintro e w1 ⟨rfl, rfl⟩))
      go_ret3
      exact ⟨by rw [hv.out]; rfl, Below.refl _ _⟩
    · have hv' : cutA (s.extract 8 s.size) = (s.extract 8 s.size).extract 0 k ∧ cutB (s.extract 8 s.size) = (s.extract 8 s.size).extract (k + 1) (s.extract 8 s.size).size := by
        unfold cutA cutB; rw [hb, if_pos (by omega), if_pos (by omega), Int.toNat_natCast]; exact ⟨rfl, rfl⟩
      rw [hv'.1, hv'.2] at hv
      rw [hb] at cB
      obtain ⟨r, hR⟩ : ∃ r, r = s.extract 8 s.size := ⟨_, rfl⟩
      rw [← hR] at hv cB hk hz
      have k0 : (0 : Int) ≤ (k : Int) := by omega
      have k1 : (k : Int) ≤ (r.size : Int) := by omega
      have k2 : (k : Int) + 1 ≤ (r.size : Int) := by omega
      have k3 : IntKind.i64.wrap ((k : Int) + 1) = (k : Int) + 1 := IntWalk.i64_in _ (by omega)
      have k4 : ((k : Int) + 1).toNat = k + 1 := by omega
      have k5 : (0 : Int) ≤ (k : Int) + 1 := by omega
      have hR' := Lib.hid hR
      have cR := Lib.hid cR
      have cB := Lib.hid cB
      have hv := Lib.hid hv
      clear h hr hb hv' hz hR
      go_enter Try.func15, Try.ntmps15
      go_wp2_with (go_at_call 16; refine cR.out.mono ?_; rintro e w1 ⟨rfl, rfl⟩)
      rw [← hR'.out]
      refine cB.out.mono ?_
      rintro e w1 ⟨rfl, rfl⟩
      go_wp2_with fail
      go_quiet (fail)
      go_wp2
      go_ret3
      exact ⟨by rw [hv.out]; rfl, drewN_below _⟩
end Go.Proofs.Ytjiepgldgcghlaa
