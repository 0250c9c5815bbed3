/- The reference's Scan. -/
import Derived.Test.YtjiepgldgcghlaaLnA
import Derived.Test.YtjiepgldgcghlaaBs
namespace Go.Proofs.Ytjiepgldgcghlaa
open Go.RowKit

def beginsB (s t : ByteArray) : Bool := s.toList.take t.size == t.toList
set_option maxHeartbeats 400000 in
theorem begins_any (s t : ByteArray) (w : World) (hs : s.size ≤ 9223372036854775807) (ht : t.size ≤ 9223372036854775807) :
    Calls Try.prog 19 #[.string s, .string t] w fun r w' => r = .returned (.bool (beginsB s t)) ∧ w = w' := by
  by_cases h : t.size ≤ s.size
  · have hb := Lib.hid (show ((s.extract 0 t.size).toList == t.toList) = beginsB s t by unfold beginsB; rw [bsl_head])
    go_enter Try.func19, Try.ntmps19
    go_wp2_with fail
    go_ret
    exact ⟨ret_bool hb.out, rfl⟩
  · have hb := Lib.hid (show beginsB s t = false by
      unfold beginsB
      rw [beq_eq_false_iff_ne]
      intro e
      have := congrArg List.length e
      rw [List.length_take, bsl_len, bsl_len] at this
      omega)
    go_enter Try.func19, Try.ntmps19
    go_wp2_with fail
    go_ret
    exact ⟨ret_bool hb.out.symm, rfl⟩

theorem rest_facts {s : ByteArray} {k : Nat} (hk : k ≤ s.size) :
    ((s.extract k s.size).toList.isEmpty = decide (k = s.size)) ∧
    (((s.extract k s.size).toList == [13]) = (decide (bt s k = 13) && decide (k + 1 = s.size))) ∧
    (beginsB (s.extract k s.size) ⟨#[13, 10]⟩ = (decide (bt s k = 13) && decide (bt s (k + 1) = 10))) := by
  have h2 : (⟨#[13, 10]⟩ : ByteArray).size = 2 := rfl
  have h3 : (⟨#[13, 10]⟩ : ByteArray).toList = [13, 10] := by rw [bsl]
  unfold beginsB
  rw [h2, h3, bsl_tail]
  rcases Nat.lt_or_ge k s.size with h | h
  · rw [bsl_cons h, bt_at h]
    rcases Nat.lt_or_ge (k + 1) s.size with h1 | h1
    · rw [bsl_cons h1, bt_at h1]
      refine ⟨by simp; omega, by simp; omega, ?_⟩
      rw [Bool.eq_iff_iff]
      simp [← UInt8.toNat_inj]
      omega
    · rw [bsl_end h1]
      have hb : bt s (k + 1) = -1 := by unfold bt; rw [dif_neg (by omega)]
      rw [hb]
      refine ⟨by simp; omega, ?_, by simp⟩
      rw [Bool.eq_iff_iff]
      simp [← UInt8.toNat_inj]
      omega
  · rw [bsl_end h]
    have hb : bt s k = -1 := by unfold bt; rw [dif_neg (by omega)]
    rw [hb]
    exact ⟨by simp; omega, by simp, by simp⟩

set_option maxHeartbeats 1000000 in
theorem refScan_any (s : ByteArray) (n : Nat) (w : World) (hs : s.size ≤ 1000000) (h : PL s n) :
    Calls Try.prog 9 #[.string s] w fun r w' => r = .returned (scanV s n) ∧ w = w' := by
  obtain ⟨hle, hp, hq⟩ := h
  have hP := Lib.hid hp
  have hQ := Lib.hid hq
  clear hp hq
  go_enter Try.func9, Try.ntmps9
  go_wp2_with fail
  go_loop [5] (fun i => ∃ k : Nat, k ≤ n ∧ i = .int .i64 k) (fun i => s.size - (intOf i).toNat)
  case atStart => exact ⟨0, by omega, rfl⟩
  case round =>
    obtain ⟨k, hk, rfl⟩ := hrel
    by_cases hkn : k < n
    · have hlt : k < s.size := by omega
      have h1 := hP.out k hkn
      rw [bt_at hlt] at h1
      simp only [plainB, Bool.and_eq_true, decide_eq_true_eq] at h1
      obtain ⟨h1, h2⟩ := h1
      go_wp2_with fail
      go_round
      case rel => exact ⟨k + 1, by omega, by go_num⟩
      case measure => simp [intOf]; omega
    obtain rfl : k = n := by omega
    clear hk hkn
    have hF := rest_facts hle
    obtain ⟨f1, f2, f3⟩ := hF
    have cB := begins_any (s.extract k s.size) ⟨#[13, 10]⟩ w (by rw [ByteArray.size_extract]; omega) (by decide)
    -- the test of the loop
    have hstop : k < s.size → 32 ≤ (bt s k) → ¬ (bt s k) ≤ 126 := by
      intro hlt h32 h126
      have := hQ.out hlt
      simp [plainB, h32, h126] at this
    by_cases h253 : 253 < k
    · have hv := Lib.hid (show scanV s k = lnErr 11 by unfold scanV; rw [if_pos h253])
      clear f1 f2 f3 cB
      by_cases hlt : k < s.size
      · have hst := hstop hlt
        rw [bt_at hlt] at hst
        clear hstop
        by_cases h32 : 32 ≤ (s[k].toNat : Int)
        · have h126 := hst h32
          clear hst
          go_wp2_with fail
          go_ret3
          exact ⟨by rw [hv.out]; rfl, rfl⟩
        · clear hst
          go_wp2_with fail
          go_ret3
          exact ⟨by rw [hv.out]; rfl, rfl⟩
      · clear hstop
        go_wp2_with fail
        go_ret3
        exact ⟨by rw [hv.out]; rfl, rfl⟩
    by_cases hsz : k = s.size
    · have hv := Lib.hid (show scanV s k = lnErr 4 by unfold scanV; rw [if_neg h253, if_pos hsz])
      rw [decide_eq_true hsz] at f1
      have hlt : ¬ k < s.size := by omega
      clear hstop f2 f3 cB hsz
      go_wp2_with fail
      go_ret3
      exact ⟨by rw [hv.out]; rfl, rfl⟩
    have hlt : k < s.size := by omega
    have hst := hstop hlt
    clear hstop
    have hv0 : scanV s k = if bt s k ≠ 13 then lnErr 11 else if k + 1 = s.size then lnErr 4 else if bt s (k + 1) ≠ 10 then lnErr 11 else .tuple #[.string (s.extract 0 k), .int .i64 (k + 2 : Nat), .int .i64 0] := by
      unfold scanV; rw [if_neg h253, if_neg hsz]
    rw [decide_eq_false hsz] at f1
    have hl1 : k + 1 = s.size → bt s (k + 1) = -1 := by intro e; unfold bt; rw [dif_neg (by omega)]
    rcases (show (bt s k ≠ 13) ∨ (bt s k = 13 ∧ k + 1 = s.size) ∨ (bt s k = 13 ∧ k + 1 ≠ s.size ∧ bt s (k + 1) ≠ 10) ∨ (bt s k = 13 ∧ k + 1 ≠ s.size ∧ bt s (k + 1) = 10) by omega) with h | ⟨h, h'⟩ | ⟨h, h', h''⟩ | ⟨h, h', h''⟩
    all_goals
      simp only [h, ne_eq, not_true_eq_false, not_false_eq_true, if_true, if_false, decide_true, decide_false, Bool.true_and, Bool.false_and, *] at hv0 f2 f3
      have hv := Lib.hid hv0
      rw [f3] at cB
      have cB := Lib.hid cB
      rw [bt_at hlt] at hst h
      try rw [h] at hst
      clear hv0 f3 hl1 hsz
      by_cases h32 : 32 ≤ (s[k].toNat : Int)
      · have h126 := hst (by omega)
        have h126' : ¬ (s[k].toNat : Int) ≤ 126 := by omega
        clear hst h126
        first
        | (exfalso; omega)
        | (clear h
           go_wp2_with (go_at_call 19; refine cB.out.mono ?_; rintro r w1 ⟨rfl, rfl⟩)
           go_ret3
           exact ⟨by rw [hv.out]; rfl, rfl⟩)
      · clear hst h
        go_wp2_with (go_at_call 19; refine cB.out.mono ?_; rintro r w1 ⟨rfl, rfl⟩)
        go_ret3
        exact ⟨by rw [hv.out]; rfl, rfl⟩
end Go.Proofs.Ytjiepgldgcghlaa
