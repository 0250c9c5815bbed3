/- Gex: how many bits a whole number has. -/
import Derived.Test.YtlonejkmdibkaaaDoorWrB
namespace Go.Proofs.YtlonejkmdibkaaaDoor
open Go.RowKit

def lz (n : Int) : Int := if 128 ≤ n then 0 else if 64 ≤ n then 1 else if 32 ≤ n then 2 else if 16 ≤ n then 3 else if 8 ≤ n then 4 else if 4 ≤ n then 5 else if 2 ≤ n then 6 else if 1 ≤ n then 7 else 8
theorem lz_two {n : Int} (h1 : 1 ≤ n) (h2 : n < 128) : lz (2 * n) = lz n - 1 := by
  unfold lz; repeat' split
  all_goals omega
theorem lz_big {n : Int} (h : 128 ≤ n) : lz n = 0 := by unfold lz; rw [if_pos h]
theorem lz_range (n : Int) : 0 ≤ lz n ∧ lz n ≤ 8 := by
  unfold lz; repeat' split
  all_goals omega
theorem lz_pos {n : Int} (h : 1 ≤ n) : lz n ≤ 7 := by
  unfold lz; repeat' split
  all_goals omega
/-- The bits of a number without zeros ahead, and of any. -/
def bitsT (t : ByteArray) : Int := if h : 0 < t.size then 8 * t.size - lz (t[0].toNat) else 0
def bitsI (s : ByteArray) : Int := bitsT (plainS s)
theorem bitsT_pos {t : ByteArray} (h : 0 < t.size) : bitsT t = 8 * t.size - lz (t[0].toNat) := by unfold bitsT; rw [dif_pos h]
theorem bitsT_nil {t : ByteArray} (h : ¬ 0 < t.size) : bitsT t = 0 := by unfold bitsT; rw [dif_neg h]
theorem dropZero_first : ∀ (l : List UInt8) (b : UInt8) (r : List UInt8), l.dropWhile (· == 0) = b :: r → b ≠ 0
  | [], _, _, h => by simp at h
  | x :: l, b, r, h => by
    rw [List.dropWhile_cons] at h
    split at h
    · exact dropZero_first l b r h
    · rename_i hx
      injection h with h1 _
      rw [← h1]
      simpa using hx
theorem plainS_first {s : ByteArray} (h : 0 < (plainS s).size) : 1 ≤ ((plainS s)[0].toNat : Int) := by
  have h1 := bsl_cons h
  rw [List.drop_zero, plainS_list] at h1
  have h2 := dropZero_first _ _ _ h1
  have h3 : (plainS s)[0].toNat ≠ 0 := fun e => h2 (UInt8.toNat.inj (by simpa using e))
  omega
theorem bitsI_range (s : ByteArray) (hs : s.size ≤ 1000000) : 0 ≤ bitsI s ∧ bitsI s ≤ 8000000 := by
  have h := plainS_size s
  unfold bitsI
  by_cases hp : 0 < (plainS s).size
  · have h1 := lz_pos (plainS_first hp)
    have h2 := lz_range ((plainS s)[0].toNat)
    rw [bitsT_pos hp]; omega
  · rw [bitsT_nil hp]; omega

set_option maxHeartbeats 1000000 in
theorem refBits_any (s : ByteArray) (w : World) (hs : s.size ≤ 1000000) :
    Calls Tryd.prog 81 #[.string s] w fun r w' => r = .returned (.int .i64 (bitsI s)) ∧ w = w' := by
  have c := Lib.hid (refPlain_any s w hs)
  have hf := @plainS_first s
  have hz := plainS_size s
  unfold bitsI
  generalize plainS s = t at c hf hz ⊢
  have hz : t.size ≤ 1000000 := by omega
  by_cases hp : 0 < t.size
  · have hr := Lib.hid (bitsT_pos hp)
    have hb := hf hp
    have hb2 : (t[0].toNat : Int) < 256 := by have := t[0].toNat_lt; omega
    clear hf
    generalize hq : (t[0].toNat : Int) = b at hr hb hb2
    go_enter Tryd.func81, Tryd.ntmps81
    go_wp2_with (go_at_call 82; refine c.out.mono ?_; rintro r w1 ⟨rfl, rfl⟩)
    go_loop [3, 4] (fun n v => ∃ q m : Int, 1 ≤ q ∧ q < 256 ∧ 0 ≤ m ∧ m ≤ 8000000 ∧ n = .int .i64 m ∧ v = .int .i64 q ∧ Hid (m - lz q = 8 * t.size - lz b)) (fun _ v => 256 - (intOf v).toNat)
    case atStart => exact ⟨b, 8 * t.size, hb, hb2, by omega, by omega, by go_num, by simp [hq], rfl⟩
    case round =>
      obtain ⟨q, m, hq1, hq2, hm0, hm1, rfl, rfl, hm⟩ := hrel
      by_cases hlt : q < 128
      · have hn := Lib.hid (show (m - 1) - lz (2 * q) = 8 * t.size - lz b by rw [lz_two hq1 hlt]; have := hm.out; omega)
        have hm2 : 1 ≤ m := by have h1 := lz_pos hq1; have h2 := lz_range q; have h3 := lz_pos hb; have h4 := hm.out; have : lz q ≥ 1 := by { unfold lz; repeat' split; all_goals omega }; omega
        go_wp2
        go_round
        case rel => exact ⟨2 * q, m - 1, by omega, by omega, by omega, by omega, by go_num, by go_num, hn⟩
        case measure => simp [intOf]; omega
      · have hn := Lib.hid (show m = bitsT t by rw [hr.out]; have := hm.out; rw [lz_big (by omega)] at this; omega)
        go_wp2
        go_ret
        exact ⟨ret_int hn.out, rfl⟩
  · have hr := Lib.hid (bitsT_nil hp)
    clear hf
    go_enter Tryd.func81, Tryd.ntmps81
    go_wp2_with (go_at_call 82; refine c.out.mono ?_; rintro r w1 ⟨rfl, rfl⟩)
    go_ret
    exact ⟨ret_int hr.out.symm, rfl⟩
end Go.Proofs.YtlonejkmdibkaaaDoor
