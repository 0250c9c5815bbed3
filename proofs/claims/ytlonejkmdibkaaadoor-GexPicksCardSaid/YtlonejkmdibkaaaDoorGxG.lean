/- Gex: the reference's Pick. -/
import Derived.Test.YtlonejkmdibkaaaDoorGxB
namespace Go.Proofs.YtlonejkmdibkaaaDoor
open Go.RowKit

def upTo (lo hi : Int) : Nat → Nat
  | 0 => 0
  | k + 1 => if upTo lo hi k = 0 ∧ lo ≤ 1024 * ((k : Int) + 1) ∧ 1024 * ((k : Int) + 1) ≤ hi then k + 1 else upTo lo hi k
def dnTo (lo hi : Int) (q : Nat) : Nat → Nat
  | 0 => q
  | j + 1 => if dnTo lo hi q j = 0 ∧ lo ≤ 4096 - 1024 * (j : Int) ∧ 4096 - 1024 * (j : Int) ≤ hi then 4 - j else dnTo lo hi q j
theorem upTo_le (lo hi : Int) : ∀ k, upTo lo hi k ≤ k
  | 0 => Nat.le_refl _
  | k + 1 => by
    have := upTo_le lo hi k
    unfold upTo
    split <;> omega
theorem dnTo_le (lo hi : Int) (q : Nat) (hq : q ≤ 4) : ∀ k, dnTo lo hi q k ≤ 4
  | 0 => hq
  | k + 1 => by
    have := dnTo_le lo hi q hq k
    unfold dnTo
    split <;> omega
theorem upTo_four (lo hi : Int) : upTo lo hi 4 = upK lo hi := by
  simp only [upTo, upK]
  by_cases h1 : lo ≤ 1024 ∧ 1024 ≤ hi
  · simp [h1.1, h1.2]
  · by_cases h2 : lo ≤ 2048 ∧ 2048 ≤ hi
    · simp [h1, h2.1, h2.2]
    · by_cases h3 : lo ≤ 3072 ∧ 3072 ≤ hi
      · simp [h1, h2, h3.1, h3.2]
      · simp [h1, h2, h3]
theorem dnTo_four (lo hi : Int) (q : Nat) : dnTo lo hi q 4 = if q = 0 then dnK lo hi else q := by
  simp only [dnTo, dnK]
  by_cases hq : q = 0
  · subst hq
    by_cases h1 : lo ≤ 4096 ∧ 4096 ≤ hi
    · simp [h1.1, h1.2]
    · by_cases h2 : lo ≤ 3072 ∧ 3072 ≤ hi
      · simp [h1, h2.1, h2.2]
      · by_cases h3 : lo ≤ 2048 ∧ 2048 ≤ hi
        · simp [h1, h2, h3.1, h3.2]
        · simp [h1, h2, h3]
  · simp [hq]
set_option maxHeartbeats 2000000 in
theorem refPick_any (a b c : Int) (w : World) :
    Calls Tryd.prog 37 #[.int .i64 a, .int .i64 b, .int .i64 c] w fun r w' => r = .returned (.int .i64 ((1024 * pickK a b c : Nat) : Int)) ∧ w = w' := by
  have cR := Lib.hid (fun W => refRight_any a b c W)
  have hk : pickK a b c = if rightB a b c then (if upK b c = 0 then dnK a c else upK b c) else 0 := rfl
  cases hr : rightB a b c with
  | false =>
    rw [hr] at hk cR
    have hk := Lib.hid (show pickK a b c = 0 from hk)
    go_enter Tryd.func37, Tryd.ntmps37
    go_wp2_with (go_at_call 39; refine (cR.out _).mono ?_; rintro r w4 ⟨rfl, rfl⟩)
    go_ret
    exact ⟨ret_int (by rw [hk.out]; rfl), rfl⟩
  | true =>
    rw [hr] at hk cR
    rw [if_pos rfl] at hk
    have hK := Lib.hid hk
    clear hk hr
    have hul := upK_le b c
    go_enter Tryd.func37, Tryd.ntmps37
    go_wp2_with (go_at_call 39; refine (cR.out _).mono ?_; rintro r w4 ⟨rfl, rfl⟩)
    go_loop [7, 8] (fun s i => ∃ k q : Nat, k ≤ 4 ∧ q ≤ 4 ∧ i = .int .i64 (1024 * ((k : Int) + 1)) ∧ s = .int .i64 (1024 * (q : Int)) ∧ Hid (upTo b c k = q)) (fun _ i => 6144 - (intOf i).toNat)
    case atStart => exact ⟨0, 0, by omega, by omega, rfl, rfl, rfl⟩
    case round =>
      obtain ⟨k, q, hk4, hq4, rfl, rfl, hq⟩ := hrel
      by_cases hlt : k < 4
      · have hst := Lib.hid (show upTo b c (k + 1) = if q = 0 ∧ b ≤ 1024 * ((k : Int) + 1) ∧ 1024 * ((k : Int) + 1) ≤ c then k + 1 else q by rw [← hq.out]; rfl)
        have i1 : 1024 * ((k : Int) + 1) ≤ 4096 := by omega
        by_cases h1 : b ≤ 1024 * ((k : Int) + 1)
        · by_cases h2 : 1024 * ((k : Int) + 1) ≤ c
          · by_cases h3 : q = 0
            · subst h3
              have hst := Lib.hid (hst.out.trans (if_pos ⟨rfl, h1, h2⟩))
              go_wp2
              go_round
              case rel => exact ⟨k + 1, k + 1, by omega, by omega, by go_num, by go_num, hst⟩
              case measure => simp [intOf]; omega
            · have hst := Lib.hid (hst.out.trans (if_neg (fun h => h3 h.1)))
              have hne : (1024 * (q : Int) == 0) = false := beq_eq_false_iff_ne.2 (by omega)
              go_wp2
              go_round
              case rel => exact ⟨k + 1, q, by omega, by omega, by go_num, by go_num, hst⟩
              case measure => simp [intOf]; omega
          · have hst := Lib.hid (hst.out.trans (if_neg (fun h => h2 h.2.2)))
            go_wp2
            go_round
            case rel => exact ⟨k + 1, q, by omega, by omega, by go_num, by go_num, hst⟩
            case measure => simp [intOf]; omega
        · have hst := Lib.hid (hst.out.trans (if_neg (fun h => h1 h.2.1)))
          go_wp2
          go_round
          case rel => exact ⟨k + 1, q, by omega, by omega, by go_num, by go_num, hst⟩
          case measure => simp [intOf]; omega
      · obtain rfl : k = 4 := by omega
        have hU := Lib.hid (show upK b c = q by rw [← upTo_four]; exact hq.out)
        go_wp2
        go_loop [7, 9] (fun s i => ∃ j t : Nat, j ≤ 4 ∧ t ≤ 4 ∧ i = .int .i64 (4096 - 1024 * (j : Int)) ∧ s = .int .i64 (1024 * (t : Int)) ∧ Hid (dnTo a c q j = t)) (fun _ i => (intOf i).toNat)
        case atStart => exact ⟨0, q, by omega, by omega, rfl, rfl, rfl⟩
        case round =>
          obtain ⟨j, t, hj4, ht4, rfl, rfl, ht⟩ := hrel
          by_cases hlt2 : j < 4
          · have hst := Lib.hid (show dnTo a c q (j + 1) = if t = 0 ∧ a ≤ 4096 - 1024 * (j : Int) ∧ 4096 - 1024 * (j : Int) ≤ c then 4 - j else t by rw [← ht.out]; rfl)
            have i1 : 1024 ≤ 4096 - 1024 * (j : Int) := by omega
            by_cases h1 : a ≤ 4096 - 1024 * (j : Int)
            · by_cases h2 : 4096 - 1024 * (j : Int) ≤ c
              · by_cases h3 : t = 0
                · subst h3
                  have hst := Lib.hid (hst.out.trans (if_pos ⟨rfl, h1, h2⟩))
                  go_wp2
                  go_round
                  case rel => exact ⟨j + 1, 4 - j, by omega, by omega, congrArg (Value.int .i64) (by omega), congrArg (Value.int .i64) (by omega), hst⟩
                  case measure => simp [intOf]; omega
                · have hst := Lib.hid (hst.out.trans (if_neg (fun h => h3 h.1)))
                  have hne : (1024 * (t : Int) == 0) = false := beq_eq_false_iff_ne.2 (by omega)
                  go_wp2
                  go_round
                  case rel => exact ⟨j + 1, t, by omega, by omega, congrArg (Value.int .i64) (by omega), rfl, hst⟩
                  case measure => simp [intOf]; omega
              · have hst := Lib.hid (hst.out.trans (if_neg (fun h => h2 h.2.2)))
                go_wp2
                go_round
                case rel => exact ⟨j + 1, t, by omega, by omega, congrArg (Value.int .i64) (by omega), rfl, hst⟩
                case measure => simp [intOf]; omega
            · have hst := Lib.hid (hst.out.trans (if_neg (fun h => h1 h.2.1)))
              go_wp2
              go_round
              case rel => exact ⟨j + 1, t, by omega, by omega, congrArg (Value.int .i64) (by omega), rfl, hst⟩
              case measure => simp [intOf]; omega
          · obtain rfl : j = 4 := by omega
            have hF := Lib.hid (show pickK a b c = t by rw [hK.out, ← ht.out, dnTo_four, hU.out])
            have i2 : 4096 - 1024 * ((4 : Nat) : Int) < 1024 := by omega
            go_wp2
            go_ret
            exact ⟨ret_int (by rw [hF.out]), rfl⟩
end Go.Proofs.YtlonejkmdibkaaaDoor
