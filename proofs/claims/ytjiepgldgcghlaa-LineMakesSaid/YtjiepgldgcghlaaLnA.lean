/- Versions' lines: the walks. -/
import Derived.Test.YtjiepgldgcghlaaProg
import Derived.Test.YtjiepgldgcghlaaBase
import Derived.Test.YtjiepgldgcghlaaLst
import Derived.BigQuiet
import Derived.Deep.QuietTactic
import Derived.WalkMore
namespace Go.Proofs.Ytjiepgldgcghlaa
open Go.RowKit

/-- A plain byte. -/
def plainB (x : Int) : Bool := decide (32 ≤ x) && decide (x ≤ 126)

set_option maxHeartbeats 400000 in
theorem plain_any (x : Int) (w : World) :
    Calls Try.prog 18 #[.int .u8 x] w fun r w' => r = .returned (.bool (plainB x)) ∧ w = w' := by
  by_cases h : 32 ≤ x
  · have h1 := Lib.hid (show plainB x = decide (x ≤ 126) by simp [plainB, h])
    go_enter Try.func18, Try.ntmps18
    go_wp2
    go_ret
    exact ⟨ret_bool h1.out.symm, rfl⟩
  · have h1 := Lib.hid (show plainB x = false by simp [plainB, h])
    go_enter Try.func18, Try.ntmps18
    go_wp2
    go_ret
    exact ⟨ret_bool h1.out.symm, rfl⟩

/-- The byte at a place; -1 behind the end. -/
def bt (s : ByteArray) (i : Nat) : Int := if h : i < s.size then (s[i].toNat : Int) else -1
theorem bt_at {s : ByteArray} {i : Nat} (h : i < s.size) : bt s i = (s[i].toNat : Int) := by unfold bt; rw [dif_pos h]
/-- The plain bytes at the beginning are n. -/
def PL (s : ByteArray) (n : Nat) : Prop := n ≤ s.size ∧ (∀ i, i < n → plainB (bt s i) = true) ∧ (n < s.size → plainB (bt s n) = false)
theorem exists_PL (s : ByteArray) : ∃ n, PL s n := by
  have : ∀ k, k ≤ s.size → (∃ n, PL s n) ∨ (∀ i, i < k → plainB (bt s i) = true) := by
    intro k
    induction k with
    | zero => intro _; right; intro i hi; omega
    | succ k ih =>
      intro hk
      rcases ih (by omega) with h | h
      · exact .inl h
      · cases hp : plainB (bt s k) with
        | false => exact .inl ⟨k, by omega, h, fun _ => hp⟩
        | true =>
          right
          intro i hi
          by_cases e : i = k
          · subst e; exact hp
          · exact h i (by omega)
  rcases this s.size (Nat.le_refl _) with h | h
  · exact h
  · exact ⟨s.size, Nat.le_refl _, h, fun hh => by omega⟩

set_option maxHeartbeats 400000 in
theorem refPlain_any (s : ByteArray) (n : Nat) (w : World) (hs : s.size ≤ 9223372036854775807) (h : PL s n) :
    Calls Try.prog 23 #[.string s] w fun r w' => r = .returned (.bool (decide (n = s.size))) ∧ w = w' := by
  obtain ⟨hle, hp, hq⟩ := h
  have hP := Lib.hid hp
  have hQ := Lib.hid hq
  clear hp hq
  go_enter Try.func23, Try.ntmps23
  go_wp2
  go_loop [3] (fun i => ∃ k : Nat, k ≤ n ∧ i = .int .i64 k) (fun i => s.size - (intOf i).toNat)
  case atStart => exact ⟨0, by omega, rfl⟩
  case round =>
    obtain ⟨k, hk, rfl⟩ := hrel
    by_cases hlt : k < s.size
    · by_cases hkn : k < n
      · have h1 := hP.out k hkn
        rw [bt_at hlt] at h1
        simp only [plainB, Bool.and_eq_true, decide_eq_true_eq] at h1
        obtain ⟨h1, h2⟩ := h1
        go_wp2
        go_round
        case rel => exact ⟨k + 1, by omega, by go_num⟩
        case measure => simp [intOf]; omega
      · obtain rfl : k = n := by omega
        have h1 := hQ.out hlt
        rw [bt_at hlt] at h1
        have hne := Lib.hid (show decide (k = s.size) = false from decide_eq_false (by omega))
        by_cases h2 : 32 ≤ (s[k].toNat : Int)
        · have h3 : 126 < (s[k].toNat : Int) := by simp [plainB] at h1; omega
          clear h1 hle hk
          go_wp2
          go_ret
          exact ⟨ret_bool hne.out.symm, rfl⟩
        · clear h1 hle hk
          go_wp2
          go_ret
          exact ⟨ret_bool hne.out.symm, rfl⟩
    · have hne := Lib.hid (show decide (n = s.size) = true from decide_eq_true (by omega))
      go_wp2
      go_ret
      exact ⟨ret_bool hne.out.symm, rfl⟩

set_option maxHeartbeats 400000 in
theorem all_any (s : ByteArray) (n : Nat) (w : World) (hs : s.size ≤ 9223372036854775807) (h : PL s n) :
    Calls Try.prog 21 #[.string s] w fun r w' => r = .returned (.bool (decide (n = s.size) && decide (s.size ≤ 253))) ∧ w = w' := by
  obtain ⟨hle, hp, hq⟩ := h
  have hP := Lib.hid hp
  have hQ := Lib.hid hq
  clear hp hq
  go_enter Try.func21, Try.ntmps21
  go_wp2
  go_loop [3, 6] (fun _ i => ∃ k : Nat, k ≤ n ∧ i = .int .i64 k) (fun _ i => s.size - (intOf i).toNat)
  case atStart => exact ⟨0, by omega, rfl⟩
  case round =>
    obtain ⟨k, hk, rfl⟩ := hrel
    by_cases hlt : k < s.size
    · by_cases hkn : k < n
      · have h1 := hP.out k hkn
        rw [bt_at hlt] at h1
        have c1 := plain_any (s[k].toNat : Int) w
        rw [h1] at c1
        have c1 := Lib.hid c1
        clear h1
        go_wp2_with (go_at_call 18; refine c1.out.mono ?_; rintro r w1 ⟨rfl, rfl⟩)
        go_round
        case rel => exact ⟨k + 1, by omega, by go_num⟩
        case measure => simp [intOf]; omega
      · obtain rfl : k = n := by omega
        have h1 := hQ.out hlt
        rw [bt_at hlt] at h1
        have c1 := plain_any (s[k].toNat : Int) w
        rw [h1] at c1
        have c1 := Lib.hid c1
        have hne := Lib.hid (show decide (k = s.size) = false from decide_eq_false (by omega))
        clear h1 hle hk
        go_wp2_with (go_at_call 18; refine c1.out.mono ?_; rintro r w1 ⟨rfl, rfl⟩)
        go_ret
        exact ⟨ret_bool (by rw [hne.out]; rfl), rfl⟩
    · have hne := Lib.hid (show decide (n = s.size) = true from decide_eq_true (by omega))
      go_wp2
      go_ret
      exact ⟨ret_bool (by rw [hne.out, Bool.true_and]; exact decide_eq_decide.2 (by omega)), rfl⟩

def lnErr (e : Int) : Value := .tuple #[.string ByteArray.empty, .int .i64 0, .int .i64 e]
/-- What Scan answers, where n bytes at the beginning are plain. -/
def scanV (s : ByteArray) (n : Nat) : Value :=
  if 253 < n then lnErr 11 else if n = s.size then lnErr 4 else if bt s n ≠ 13 then lnErr 11 else if n + 1 = s.size then lnErr 4 else if bt s (n + 1) ≠ 10 then lnErr 11
  else .tuple #[.string (s.extract 0 n), .int .i64 (n + 2 : Nat), .int .i64 0]

set_option maxHeartbeats 1000000 in
theorem scan_any (s : ByteArray) (n : Nat) (w : World) (hs : s.size ≤ 1000000) (h : PL s n) :
    Calls Try.prog 8 #[.string s] w fun r w' => r = .returned (scanV s n) ∧ w = w' := by
  obtain ⟨hle, hp, hq⟩ := h
  have hP := Lib.hid hp
  have hQ := Lib.hid hq
  clear hp hq
  go_enter Try.func8, Try.ntmps8
  go_wp2_with fail
  go_step3
  go_wp2_with fail
  go_step3
  go_wp2_with fail
  go_loop [5] (fun i => ∃ k : Nat, k ≤ n ∧ k ≤ 254 ∧ i = .int .i64 k) (fun i => 255 - (intOf i).toNat)
  case atStart => exact ⟨0, by omega, by omega, rfl⟩
  case round =>
    obtain ⟨k, hk, hk2, rfl⟩ := hrel
    by_cases h253 : 253 < k
    · have hv := Lib.hid (show scanV s n = lnErr 11 by unfold scanV; rw [if_pos (by omega)])
      go_wp2_with fail
      (try rw [Exit.noGoto_ret])
      go_ret3
      exact ⟨by rw [hv.out]; rfl, rfl⟩
    by_cases hsz : k = s.size
    · have hv := Lib.hid (show scanV s n = lnErr 4 by unfold scanV; rw [if_neg (by omega), if_pos (by omega)])
      have hsz' : ((k : Int) == (s.size : Int)) = true := by rw [beq_iff_eq]; omega
      clear hsz
      go_wp2_with fail
      (try rw [Exit.noGoto_ret])
      go_ret3
      exact ⟨by rw [hv.out]; rfl, rfl⟩
    have hlt : k < s.size := by omega
    have hne1 : ((k : Int) == (s.size : Int)) = false := by rw [beq_eq_false_iff_ne]; omega
    by_cases hkn : k < n
    · have h1 := hP.out k hkn
      rw [bt_at hlt] at h1
      have c1 := plain_any (s[k].toNat : Int) w
      rw [h1] at c1
      have c1 := Lib.hid c1
      clear h1
      go_wp2_with (go_at_call 18; refine c1.out.mono ?_; rintro r w1 ⟨rfl, rfl⟩)
      go_round
      case rel => exact ⟨k + 1, by omega, by omega, by go_num⟩
      case measure => simp [intOf]; omega
    obtain rfl : k = n := by omega
    have h1 := hQ.out hlt
    rw [bt_at hlt] at h1
    have c1 := plain_any (s[k].toNat : Int) w
    rw [h1] at c1
    have c1 := Lib.hid c1
    clear h1 hk hkn hsz
    have hv0 : scanV s k = if bt s k ≠ 13 then lnErr 11 else if k + 1 = s.size then lnErr 4 else if bt s (k + 1) ≠ 10 then lnErr 11 else .tuple #[.string (s.extract 0 k), .int .i64 (k + 2 : Nat), .int .i64 0] := by
      unfold scanV; rw [if_neg (by omega), if_neg (by omega)]
    rw [bt_at hlt] at hv0
    by_cases h13 : (s[k].toNat : Int) = 13
    · have b13 : ((s[k].toNat : Int) != 13) = false := by rw [bne_eq_false_iff_eq]; exact h13
      rw [if_neg (by simpa using h13)] at hv0
      clear h13
      by_cases h1s : k + 1 = s.size
      · rw [if_pos h1s] at hv0
        have hv := Lib.hid hv0
        have e1 : ((k : Int) + 1 == (s.size : Int)) = true := by rw [beq_iff_eq]; omega
        clear hv0 h1s
        go_wp2_with (go_at_call 18; refine c1.out.mono ?_; rintro r w1 ⟨rfl, rfl⟩)
        (try rw [Exit.noGoto_ret])
        go_ret3
        exact ⟨by rw [hv.out]; rfl, rfl⟩
      · rw [if_neg h1s] at hv0
        have hlt1 : k + 1 < s.size := by omega
        rw [bt_at hlt1] at hv0
        have e1 : ((k : Int) + 1 == (s.size : Int)) = false := by rw [beq_eq_false_iff_ne]; omega
        clear h1s
        by_cases h10 : (s[k + 1].toNat : Int) = 10
        · have b10 : ((s[k + 1].toNat : Int) != 10) = false := by rw [bne_eq_false_iff_eq]; exact h10
          rw [if_neg (by simpa using h10)] at hv0
          have hv := Lib.hid hv0
          clear hv0 h10
          go_wp2_with (go_at_call 18; refine c1.out.mono ?_; rintro r w1 ⟨rfl, rfl⟩)
          (try rw [Exit.noGoto_ret])
          go_ret3
          exact ⟨by rw [hv.out]; rfl, rfl⟩
        · have b10 : ((s[k + 1].toNat : Int) != 10) = true := by rw [bne_iff_ne]; exact h10
          rw [if_pos (by simpa using h10)] at hv0
          have hv := Lib.hid hv0
          clear hv0 h10
          go_wp2_with (go_at_call 18; refine c1.out.mono ?_; rintro r w1 ⟨rfl, rfl⟩)
          (try rw [Exit.noGoto_ret])
          go_ret3
          exact ⟨by rw [hv.out]; rfl, rfl⟩
    · have b13 : ((s[k].toNat : Int) != 13) = true := by rw [bne_iff_ne]; exact h13
      rw [if_pos (by simpa using h13)] at hv0
      have hv := Lib.hid hv0
      clear hv0 h13
      go_wp2_with (go_at_call 18; refine c1.out.mono ?_; rintro r w1 ⟨rfl, rfl⟩)
      (try rw [Exit.noGoto_ret])
      go_ret3
      exact ⟨by rw [hv.out]; rfl, rfl⟩

end Go.Proofs.Ytjiepgldgcghlaa
