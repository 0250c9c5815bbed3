/- LinePieces: what more bytes change. -/
import Derived.Test.YtjiepgldgcghlaaLnD
namespace Go.Proofs.Ytjiepgldgcghlaa
open Go.RowKit

theorem extract_app {s t : ByteArray} {p : Nat} (h : p ≤ s.size) : (s ++ t).extract 0 p = s.extract 0 p := by
  apply bs_ext
  rw [bsl_head, bsl_head, bsl_app, List.take_append_of_le_length (by rw [bsl_len]; exact h)]
/-- The three ways of Scan, and what more bytes behind make of them. -/
theorem scan_app {s t : ByteArray} {p q : Nat} (hp : PL s p) (hq : PL (s ++ t) q) :
    (scanV s p = lnErr 4) ∨ (scanV s p = lnErr 11 ∧ scanV (s ++ t) q = lnErr 11) ∨
    (p ≤ 253 ∧ p + 2 ≤ s.size ∧ bt s p = 13 ∧ scanV s p = .tuple #[.string (s.extract 0 p), .int .i64 (p + 2 : Nat), .int .i64 0] ∧ scanV (s ++ t) q = .tuple #[.string (s.extract 0 p), .int .i64 (p + 2 : Nat), .int .i64 0]) := by
  have hst : (s ++ t).size = s.size + t.size := ByteArray.size_append
  by_cases h253 : 253 < p
  · right; left
    have hpq : p ≤ q := by
      rcases Nat.lt_or_ge p s.size with h | h
      · rw [PL_unique (PL_app_lt hp h) hq]; exact Nat.le_refl _
      · exact PL_app_ge hp (Nat.le_antisymm hp.1 h) hq
    unfold scanV
    rw [if_pos h253, if_pos (by omega)]
    exact ⟨rfl, rfl⟩
  by_cases hsz : p = s.size
  · left; unfold scanV; rw [if_neg h253, if_pos hsz]
  have hlt : p < s.size := by have := hp.1; omega
  have hpq : q = p := (PL_unique (PL_app_lt hp hlt) hq).symm
  subst hpq
  have hb : bt (s ++ t) q = bt s q := bt_app hlt
  by_cases h13 : bt s q = 13
  · by_cases h1 : q + 1 = s.size
    · left; unfold scanV; rw [if_neg h253, if_neg hsz, if_neg (by simpa using h13), if_pos h1]
    · have hb1 : bt (s ++ t) (q + 1) = bt s (q + 1) := bt_app (by omega)
      by_cases h10 : bt s (q + 1) = 10
      · right; right
        refine ⟨by omega, by omega, h13, ?_, ?_⟩
        · unfold scanV; rw [if_neg h253, if_neg hsz, if_neg (by simpa using h13), if_neg h1, if_neg (by simpa using h10)]
        · unfold scanV; rw [if_neg h253, if_neg (by omega), hb, if_neg (by simpa using h13), if_neg (by omega), hb1, if_neg (by simpa using h10), extract_app (by omega)]
      · right; left
        refine ⟨?_, ?_⟩
        · unfold scanV; rw [if_neg h253, if_neg hsz, if_neg (by simpa using h13), if_neg h1, if_pos (by simpa using h10)]
        · unfold scanV; rw [if_neg h253, if_neg (by omega), hb, if_neg (by simpa using h13), if_neg (by omega), hb1, if_pos (by simpa using h10)]
  · right; left
    refine ⟨?_, ?_⟩
    · unfold scanV; rw [if_neg h253, if_neg hsz, if_pos (by simpa using h13)]
    · unfold scanV; rw [if_neg h253, if_neg (by omega), hb, if_pos (by simpa using h13)]
theorem scan_cut {s : ByteArray} {p m : Nat} (hp : PL s p) (h253 : p ≤ 253) (hs : p + 2 ≤ s.size) (h13 : bt s p = 13) (hm : m < p + 2) : scanV (s.extract 0 m) (min p m) = lnErr 4 := by
  have hz : (s.extract 0 m).size = m := by rw [ByteArray.size_extract]; omega
  unfold scanV
  rw [if_neg (by omega), hz]
  by_cases h : m ≤ p
  · rw [if_pos (by omega)]
  · have e : min p m = p := by omega
    rw [e, if_neg (by omega), bt_cut (by omega) (by omega), if_neg (by simpa using h13), if_pos (by omega)]

set_option maxHeartbeats 1000000 in
theorem law_linePieces (s t : ByteArray) (x : Int) (w : World) (hs : s.size ≤ 9223372036854775807) (ht : t.size ≤ 9223372036854775807) (hx0 : 0 ≤ x) (hx1 : x ≤ 65535) :
    Calls Try.prog 4 #[.string s, .string t, .int .u16 x] w fun r w' => r = .returned (.bool true) ∧ Below w.heap.size w w' := by
  have aw := Lib.hid (awake_any w)
  by_cases h6 : 600 < s.size
  · go_enter Try.func4, Try.ntmps4
    go_wp2_with (go_at_call 7; refine aw.out.mono ?_; rintro r w1 ⟨rfl, rfl⟩)
    go_ret
    exact ⟨rfl, Below.refl _ _⟩
  by_cases h7 : 100 < t.size
  · go_enter Try.func4, Try.ntmps4
    go_wp2_with (go_at_call 7; refine aw.out.mono ?_; rintro r w1 ⟨rfl, rfl⟩)
    go_ret
    exact ⟨rfl, Below.refl _ _⟩
  obtain ⟨p, hp⟩ := exists_PL s
  obtain ⟨q, hq⟩ := exists_PL (s ++ t)
  have cP := scan_any s p w (by omega) hp
  have cQ := scan_any (s ++ t) q w (by rw [ByteArray.size_append]; omega) hq
  rcases scan_app hp hq with h | ⟨h, h'⟩ | ⟨h253, h2, h13, h, h'⟩
  · rw [h] at cP
    obtain ⟨a, b, e, hv⟩ := scanV_form (s ++ t) q
    rw [hv] at cQ
    unfold lnErr at cP
    have cP := Lib.hid cP
    have cQ := Lib.hid cQ
    clear h hv hp hq
    go_enter Try.func4, Try.ntmps4
    go_wp2_with fail
    refine cP.out.mono ?_
    rintro r w1 ⟨rfl, rfl⟩
    go_wp2_with fail
    refine cQ.out.mono ?_
    rintro r w1 ⟨rfl, rfl⟩
    go_wp2_with (go_at_call 7; refine aw.out.mono ?_; rintro r w1 ⟨rfl, rfl⟩)
    go_ret
    exact ⟨rfl, Below.refl _ _⟩
  · rw [h] at cP
    rw [h'] at cQ
    unfold lnErr at cP cQ
    have cP := Lib.hid cP
    have cQ := Lib.hid cQ
    clear h h' hp hq
    go_enter Try.func4, Try.ntmps4
    go_wp2_with fail
    refine cP.out.mono ?_
    rintro r w1 ⟨rfl, rfl⟩
    go_wp2_with fail
    refine cQ.out.mono ?_
    rintro r w1 ⟨rfl, rfl⟩
    go_wp2_with (go_at_call 7; refine aw.out.mono ?_; rintro r w1 ⟨rfl, rfl⟩)
    go_ret
    exact ⟨rfl, Below.refl _ _⟩
  · rw [h] at cP
    rw [h'] at cQ
    have hm0 : 0 ≤ x % ((p : Int) + 2) := Int.emod_nonneg _ (by omega)
    have hm1 : x % ((p : Int) + 2) < (p : Int) + 2 := Int.emod_lt_of_pos _ (by omega)
    have hcut := PL_cut hp (m := (x % ((p : Int) + 2)).toNat) (by omega)
    have hsc := scan_cut hp h253 h2 h13 (m := (x % ((p : Int) + 2)).toNat) (by omega)
    have cC := scan_any (s.extract 0 (x % ((p : Int) + 2)).toNat) _ w (by rw [ByteArray.size_extract]; omega) hcut
    rw [hsc] at cC
    unfold lnErr at cC
    have cP := Lib.hid cP
    have cQ := Lib.hid cQ
    have cC := Lib.hid cC
    have e2 : ((p + 2 : Nat) : Int) = (p : Int) + 2 := by omega
    rw [e2] at cP cQ
    have hm2 : x % ((p : Int) + 2) ≤ (s.size : Int) := by omega
    clear h h' hp hq hcut hsc h13 e2
    go_enter Try.func4, Try.ntmps4
    go_wp2_with fail
    refine cP.out.mono ?_
    rintro r w1 ⟨rfl, rfl⟩
    go_wp2_with fail
    refine cQ.out.mono ?_
    rintro r w1 ⟨rfl, rfl⟩
    go_wp2_with fail
    refine cC.out.mono ?_
    rintro r w1 ⟨rfl, rfl⟩
    go_wp2_with (go_at_call 7; refine aw.out.mono ?_; rintro r w1 ⟨rfl, rfl⟩)
    go_ret
    exact ⟨rfl, Below.refl _ _⟩
end Go.Proofs.Ytjiepgldgcghlaa
