/- Which strings are names, which are users'. -/
import Derived.Test.YtifliohljcafgaaDoorBs
import Derived.Test.YtifliohljcafgaaDoorLst
import Derived.Test.YtifliohljcafgaaDoorBase
import Derived.Test.YtifliohljcafgaaDoorShelf
import Derived.Lib.IndexAny
namespace Go.Proofs.YtifliohljcafgaaDoor
open Go.RowKit

def byteOk (b : UInt8) : Bool := decide (33 ≤ (b.toNat : Int)) && decide ((b.toNat : Int) ≤ 126)
def nameOk (b : UInt8) : Bool := byteOk b && !((b.toNat : Int) == 44)
def userB (s : ByteArray) : Bool := s.toList.all byteOk && decide (1 ≤ s.size) && decide (s.size ≤ 64)
def nmOkB (s : ByteArray) : Bool := s.toList.all nameOk && decide (1 ≤ s.size) && decide (s.size ≤ 64)
theorem bytes_miss {p : UInt8 → Bool} {s : ByteArray} {k : Nat} (h : k < s.size) (hp : p s[k] = false) : s.toList.all p = false := by
  rw [List.all_eq_false]
  exact ⟨s[k], List.mem_of_getElem? (bsl_get h), by rw [hp]; decide⟩
theorem bytes_step {p : UInt8 → Bool} {s : ByteArray} {k : Nat} (h : k < s.size) (hf : (s.toList.take k).all p = true) (hp : p s[k] = true) : (s.toList.take (k + 1)).all p = true := by
  rw [all_take_succ p (bsl_get h), hf, hp]; rfl
theorem bytes_all {p : UInt8 → Bool} {s : ByteArray} (hf : (s.toList.take s.size).all p = true) : s.toList.all p = true := by
  rwa [List.take_of_length_le (by rw [bsl_len]; exact Nat.le_refl _)] at hf
theorem right_comma (s : ByteArray) : s.toList.all nameOk = (s.toList.all byteOk && !(decide (0 ≤ Lib.indexByte s.data.toList 44))) := by
  rw [← Lib.contains_iff_indexByte, ← bsl]
  generalize s.toList = l
  induction l with
  | nil => rfl
  | cons b l ih =>
    rw [List.all_cons, List.all_cons, ih, List.contains_cons]
    have : ((b.toNat : Int) == 44) = ((44 : UInt8) == b) := by
      rw [Bool.eq_iff_iff, beq_iff_eq, beq_iff_eq]
      constructor
      · intro h; exact (UInt8.toNat.inj (by have : (44 : UInt8).toNat = 44 := rfl; omega))
      · rintro rfl; rfl
    unfold nameOk
    rw [this]
    cases byteOk b <;> cases ((44 : UInt8) == b) <;> cases l.all byteOk <;> cases l.contains 44 <;> rfl
set_option maxHeartbeats 1000000 in
theorem user_any (s : ByteArray) (w : World) (hs : s.size ≤ 9223372036854775807) :
    Calls Tryd.prog 50 #[.string s] w fun r w' => r = .returned (.bool (userB s)) ∧ w = w' := by
  go_enter Tryd.func50, Tryd.ntmps50
  go_wp2
  go_loop [3, 6] (fun _ i => ∃ k : Nat, k ≤ s.size ∧ i = .int .i64 k ∧ Hid ((s.toList.take k).all byteOk = true)) (fun _ i => s.size - (intOf i).toNat)
  case atStart => exact ⟨0, by omega, rfl, by simp [Hid]⟩
  case round =>
    obtain ⟨k, hk, rfl, hf⟩ := hrel
    by_cases hlt : k < s.size
    · have hst := Lib.hid (fun h => bytes_step hlt hf.out h)
      have hms := Lib.hid (fun (h : byteOk s[k] = false) => (show userB s = false by unfold userB; rw [bytes_miss hlt h]; rfl))
      have hl1 : (0 : Int) ≤ (k : Int) := by omega
      have hl2 : (k : Int) < (s.size : Int) := by omega
      by_cases h1 : (s[k].toNat : Int) < 33
      · have h1' : (s[k].toNat : Int) ≤ 32 := by omega
        have hr := Lib.hid (hms.out (by unfold byteOk; rw [decide_eq_false (by omega)]; rfl))
        go_wp2
        go_ret
        exact ⟨ret_bool hr.out.symm, rfl⟩
      · have h1' : ¬ (s[k].toNat : Int) ≤ 32 := by omega
        by_cases h2 : 126 < (s[k].toNat : Int)
        · have hr := Lib.hid (hms.out (by unfold byteOk; rw [decide_eq_false (p := (s[k].toNat : Int) ≤ 126) (by omega), Bool.and_false]))
          go_wp2
          go_ret
          exact ⟨ret_bool hr.out.symm, rfl⟩
        · have e1 : byteOk s[k] = true := by unfold byteOk; rw [decide_eq_true (by omega), decide_eq_true (by omega)]; rfl
          have hn := Lib.hid (hst.out e1)
          clear e1
          go_wp2
          go_round
          case rel => exact ⟨k + 1, by omega, by go_num, hn⟩
          case measure => simp [intOf]; omega
    · obtain rfl : k = s.size := by omega
      have ha := bytes_all hf.out
      by_cases h5 : 1 ≤ s.size
      · by_cases h6 : s.size ≤ 64
        · have hr := Lib.hid (show userB s = true by unfold userB; rw [ha, decide_eq_true h5, decide_eq_true h6]; rfl)
          have i5 : (1 : Int) ≤ (s.size : Int) := by omega
          have i5' : (0 : Int) < (s.size : Int) := by omega
          have i6 : (s.size : Int) ≤ 64 := by omega
          go_wp2
          go_ret
          exact ⟨(by rw [hr.out]; first | rfl | (simp; omega)), rfl⟩
        · have hr := Lib.hid (show userB s = false by unfold userB; rw [decide_eq_false h6, Bool.and_false])
          have i5 : (1 : Int) ≤ (s.size : Int) := by omega
          have i5' : (0 : Int) < (s.size : Int) := by omega
          have i6 : ¬ (s.size : Int) ≤ 64 := by omega
          go_wp2
          go_ret
          exact ⟨(by rw [hr.out]; first | rfl | (simp; omega)), rfl⟩
      · have hr := Lib.hid (show userB s = false by unfold userB; rw [decide_eq_false h5, Bool.and_false, Bool.false_and])
        have i5 : ¬ (1 : Int) ≤ (s.size : Int) := by omega
        have i5' : ¬ (0 : Int) < (s.size : Int) := by omega
        go_wp2
        go_ret
        exact ⟨(by rw [hr.out]; first | rfl | (simp; omega)), rfl⟩
set_option maxHeartbeats 1000000 in
theorem refUser_any (s : ByteArray) (w : World) (hs : s.size ≤ 9223372036854775807) :
    Calls Tryd.prog 28 #[.string s] w fun r w' => r = .returned (.bool (userB s)) ∧ w = w' := by
  go_enter Tryd.func28, Tryd.ntmps28
  go_wp2
  go_loop [3] (fun i => ∃ k : Nat, k ≤ s.size ∧ i = .int .i64 k ∧ Hid ((s.toList.take k).all byteOk = true)) (fun i => s.size - (intOf i).toNat)
  case atStart => exact ⟨0, by omega, rfl, by simp [Hid]⟩
  case round =>
    obtain ⟨k, hk, rfl, hf⟩ := hrel
    by_cases hlt : k < s.size
    · have hst := Lib.hid (fun h => bytes_step hlt hf.out h)
      have hms := Lib.hid (fun (h : byteOk s[k] = false) => (show userB s = false by unfold userB; rw [bytes_miss hlt h]; rfl))
      have hl1 : (0 : Int) ≤ (k : Int) := by omega
      have hl2 : (k : Int) < (s.size : Int) := by omega
      by_cases h1 : (s[k].toNat : Int) < 33
      · have h1' : (s[k].toNat : Int) ≤ 32 := by omega
        have hr := Lib.hid (hms.out (by unfold byteOk; rw [decide_eq_false (by omega)]; rfl))
        go_wp2
        go_ret
        exact ⟨ret_bool hr.out.symm, rfl⟩
      · have h1' : ¬ (s[k].toNat : Int) ≤ 32 := by omega
        by_cases h2 : 126 < (s[k].toNat : Int)
        · have hr := Lib.hid (hms.out (by unfold byteOk; rw [decide_eq_false (p := (s[k].toNat : Int) ≤ 126) (by omega), Bool.and_false]))
          go_wp2
          go_ret
          exact ⟨ret_bool hr.out.symm, rfl⟩
        · have e1 : byteOk s[k] = true := by unfold byteOk; rw [decide_eq_true (by omega), decide_eq_true (by omega)]; rfl
          have hn := Lib.hid (hst.out e1)
          clear e1
          go_wp2
          go_round
          case rel => exact ⟨k + 1, by omega, by go_num, hn⟩
          case measure => simp [intOf]; omega
    · obtain rfl : k = s.size := by omega
      have ha := bytes_all hf.out
      by_cases h5 : 1 ≤ s.size
      · by_cases h6 : s.size ≤ 64
        · have hr := Lib.hid (show userB s = true by unfold userB; rw [ha, decide_eq_true h5, decide_eq_true h6]; rfl)
          have i5 : (1 : Int) ≤ (s.size : Int) := by omega
          have i5' : (0 : Int) < (s.size : Int) := by omega
          have i6 : (s.size : Int) ≤ 64 := by omega
          go_wp2
          go_ret
          exact ⟨(by rw [hr.out]; first | rfl | (simp; omega)), rfl⟩
        · have hr := Lib.hid (show userB s = false by unfold userB; rw [decide_eq_false h6, Bool.and_false])
          have i5 : (1 : Int) ≤ (s.size : Int) := by omega
          have i5' : (0 : Int) < (s.size : Int) := by omega
          have i6 : ¬ (s.size : Int) ≤ 64 := by omega
          go_wp2
          go_ret
          exact ⟨(by rw [hr.out]; first | rfl | (simp; omega)), rfl⟩
      · have hr := Lib.hid (show userB s = false by unfold userB; rw [decide_eq_false h5, Bool.and_false, Bool.false_and])
        have i5 : ¬ (1 : Int) ≤ (s.size : Int) := by omega
        have i5' : ¬ (0 : Int) < (s.size : Int) := by omega
        go_wp2
        go_ret
        exact ⟨(by rw [hr.out]; first | rfl | (simp; omega)), rfl⟩
set_option maxHeartbeats 1000000 in
theorem refRight04_any (s : ByteArray) (w : World) (hs : s.size ≤ 9223372036854775807) :
    Calls Tryd.prog 44 #[.string s] w fun r w' => r = .returned (.bool (nmOkB s)) ∧ w = w' := by
  go_enter Tryd.func44, Tryd.ntmps44
  go_wp2
  go_loop [3] (fun i => ∃ k : Nat, k ≤ s.size ∧ i = .int .i64 k ∧ Hid ((s.toList.take k).all nameOk = true)) (fun i => s.size - (intOf i).toNat)
  case atStart => exact ⟨0, by omega, rfl, by simp [Hid]⟩
  case round =>
    obtain ⟨k, hk, rfl, hf⟩ := hrel
    by_cases hlt : k < s.size
    · have hst := Lib.hid (fun h => bytes_step hlt hf.out h)
      have hms := Lib.hid (fun (h : nameOk s[k] = false) => (show nmOkB s = false by unfold nmOkB; rw [bytes_miss hlt h]; rfl))
      have hl1 : (0 : Int) ≤ (k : Int) := by omega
      have hl2 : (k : Int) < (s.size : Int) := by omega
      by_cases h1 : (s[k].toNat : Int) < 33
      · have h1' : (s[k].toNat : Int) ≤ 32 := by omega
        have hr := Lib.hid (hms.out (by unfold nameOk byteOk; rw [decide_eq_false (by omega)]; rfl))
        go_wp2
        go_ret
        exact ⟨ret_bool hr.out.symm, rfl⟩
      · have h1' : ¬ (s[k].toNat : Int) ≤ 32 := by omega
        by_cases h2 : 126 < (s[k].toNat : Int)
        · have hr := Lib.hid (hms.out (by unfold nameOk byteOk; rw [decide_eq_false (p := (s[k].toNat : Int) ≤ 126) (by omega), Bool.and_false]; rfl))
          go_wp2
          go_ret
          exact ⟨ret_bool hr.out.symm, rfl⟩
        · have e1 : byteOk s[k] = true := by unfold byteOk; rw [decide_eq_true (by omega), decide_eq_true (by omega)]; rfl
          cases h3 : ((s[k].toNat : Int) == 44) with
          | true =>
            have hr := Lib.hid (hms.out (by unfold nameOk; rw [h3, e1]; rfl))
            clear e1
            go_wp2
            go_ret
            exact ⟨ret_bool hr.out.symm, rfl⟩
          | false =>
            have hn := Lib.hid (hst.out (by unfold nameOk; rw [h3, e1]; rfl))
            clear e1
            go_wp2
            go_round
            case rel => exact ⟨k + 1, by omega, by go_num, hn⟩
            case measure => simp [intOf]; omega
    · obtain rfl : k = s.size := by omega
      have ha := bytes_all hf.out
      by_cases h5 : 1 ≤ s.size
      · by_cases h6 : s.size ≤ 64
        · have hr := Lib.hid (show nmOkB s = true by unfold nmOkB; rw [ha, decide_eq_true h5, decide_eq_true h6]; rfl)
          have i5 : (1 : Int) ≤ (s.size : Int) := by omega
          have i5' : (0 : Int) < (s.size : Int) := by omega
          have i6 : (s.size : Int) ≤ 64 := by omega
          go_wp2
          go_ret
          exact ⟨(by rw [hr.out]; first | rfl | (simp; omega)), rfl⟩
        · have hr := Lib.hid (show nmOkB s = false by unfold nmOkB; rw [decide_eq_false h6, Bool.and_false])
          have i5 : (1 : Int) ≤ (s.size : Int) := by omega
          have i5' : (0 : Int) < (s.size : Int) := by omega
          have i6 : ¬ (s.size : Int) ≤ 64 := by omega
          go_wp2
          go_ret
          exact ⟨(by rw [hr.out]; first | rfl | (simp; omega)), rfl⟩
      · have hr := Lib.hid (show nmOkB s = false by unfold nmOkB; rw [decide_eq_false h5, Bool.and_false, Bool.false_and])
        have i5 : ¬ (1 : Int) ≤ (s.size : Int) := by omega
        have i5' : ¬ (0 : Int) < (s.size : Int) := by omega
        go_wp2
        go_ret
        exact ⟨(by rw [hr.out]; first | rfl | (simp; omega)), rfl⟩
set_option maxHeartbeats 1000000 in
theorem right_any (s : ByteArray) (w : World) (hs : s.size ≤ 9223372036854775807) :
    Calls Tryd.prog 66 #[.string s] w fun r w' => r = .returned (.bool (nmOkB s)) ∧ w = w' := by
  have cC := Lib.hid (fun W => Tryd.strings_Contains_one s 44 W)
  go_enter Tryd.func66, Tryd.ntmps66
  go_wp2
  go_loop [3, 6] (fun _ i => ∃ k : Nat, k ≤ s.size ∧ i = .int .i64 k ∧ Hid ((s.toList.take k).all byteOk = true)) (fun _ i => s.size - (intOf i).toNat)
  case atStart => exact ⟨0, by omega, rfl, by simp [Hid]⟩
  case round =>
    obtain ⟨k, hk, rfl, hf⟩ := hrel
    by_cases hlt : k < s.size
    · have hst := Lib.hid (fun h => bytes_step hlt hf.out h)
      have hms := Lib.hid (fun (h : byteOk s[k] = false) => (show nmOkB s = false by unfold nmOkB; rw [right_comma, bytes_miss hlt h]; rfl))
      have hl1 : (0 : Int) ≤ (k : Int) := by omega
      have hl2 : (k : Int) < (s.size : Int) := by omega
      by_cases h1 : (s[k].toNat : Int) < 33
      · have h1' : (s[k].toNat : Int) ≤ 32 := by omega
        have hr := Lib.hid (hms.out (by unfold byteOk; rw [decide_eq_false (by omega)]; rfl))
        go_wp2
        go_ret
        exact ⟨ret_bool hr.out.symm, rfl⟩
      · have h1' : ¬ (s[k].toNat : Int) ≤ 32 := by omega
        by_cases h2 : 126 < (s[k].toNat : Int)
        · have hr := Lib.hid (hms.out (by unfold byteOk; rw [decide_eq_false (p := (s[k].toNat : Int) ≤ 126) (by omega), Bool.and_false]))
          go_wp2
          go_ret
          exact ⟨ret_bool hr.out.symm, rfl⟩
        · have e1 : byteOk s[k] = true := by unfold byteOk; rw [decide_eq_true (by omega), decide_eq_true (by omega)]; rfl
          have hn := Lib.hid (hst.out e1)
          clear e1
          go_wp2
          go_round
          case rel => exact ⟨k + 1, by omega, by go_num, hn⟩
          case measure => simp [intOf]; omega
    · obtain rfl : k = s.size := by omega
      have ha := bytes_all hf.out
      have hrc := right_comma s
      rw [ha, Bool.true_and] at hrc
      by_cases h5 : 1 ≤ s.size
      · have hl : (s.toList == []) = false := by
          rw [beq_eq_false_iff_ne]
          intro e
          have := congrArg List.length e
          rw [bsl_len] at this
          have h0 : s.size = 0 := this
          omega
        have hl2 : s.toList.isEmpty = false := by
          cases hq : s.toList with
          | nil => rw [hq] at hl; cases hl
          | cons x r => rfl
        have hl3 : (!s.toList.isEmpty) = true := by rw [hl2]; rfl
        by_cases h6 : s.size ≤ 64
        · have hr := Lib.hid (show nmOkB s = !(decide (0 ≤ Lib.indexByte s.data.toList 44)) by unfold nmOkB; rw [hrc, decide_eq_true h5, decide_eq_true h6, Bool.and_true, Bool.and_true])
          have i6 : (s.size : Int) ≤ 64 := by omega
          clear hrc ha
          go_wp2_with (go_at_call 71; refine (cC.out _).mono ?_; rintro r w4 ⟨rfl, rfl⟩)
          go_ret
          exact ⟨ret_bool hr.out.symm, rfl⟩
        · have hr := Lib.hid (show nmOkB s = false by unfold nmOkB; rw [decide_eq_false h6, Bool.and_false])
          have i6 : ¬ (s.size : Int) ≤ 64 := by omega
          clear hrc ha
          go_wp2_with (go_at_call 71; refine (cC.out _).mono ?_; rintro r w4 ⟨rfl, rfl⟩)
          go_ret
          exact ⟨ret_bool hr.out.symm, rfl⟩
      · have hr := Lib.hid (show nmOkB s = false by unfold nmOkB; rw [decide_eq_false h5, Bool.and_false, Bool.false_and])
        have h0 : s.toList = [] := by rw [← List.length_eq_zero_iff, bsl_len]; omega
        have he : s = ⟨#[]⟩ := bs_ext (by rw [h0, bsl])
        clear hrc ha h5 h0
        subst he
        go_wp2
        go_ret
        exact ⟨ret_bool hr.out.symm, rfl⟩
end Go.Proofs.YtifliohljcafgaaDoor
