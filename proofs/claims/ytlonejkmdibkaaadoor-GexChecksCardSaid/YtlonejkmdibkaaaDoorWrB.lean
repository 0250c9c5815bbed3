/- A whole number without its zeros; its one form. -/
import Derived.Test.YtlonejkmdibkaaaDoorWrA
namespace Go.Proofs.YtlonejkmdibkaaaDoor
open Go.RowKit

def plainS (s : ByteArray) : ByteArray := ⟨(s.toList.dropWhile (· == 0)).toArray⟩
theorem plainS_list (s : ByteArray) : (plainS s).toList = s.toList.dropWhile (· == 0) := by rw [bsl]; rfl
theorem plainS_of {s t : ByteArray} (h : t.toList.dropWhile (· == 0) = s.toList.dropWhile (· == 0)) (ht : t.toList.dropWhile (· == 0) = t.toList) : t = plainS s := by
  apply bs_ext
  rw [plainS_list, ← h, ht]
theorem plainS_size (s : ByteArray) : (plainS s).size ≤ s.size := by
  rw [← bsl_len, ← bsl_len, plainS_list]
  exact (List.dropWhile_sublist _).length_le
theorem drop_first {t : ByteArray} (h : 0 < t.size) (h0 : (t[0]'h == 0) = true) : (t.extract 1 t.size).toList.dropWhile (· == 0) = t.toList.dropWhile (· == 0) := by
  have hc := bsl_cons (s := t) (k := 0) h
  rw [List.drop_zero] at hc
  rw [bsl_tail, hc, List.dropWhile_cons, h0, if_pos rfl]
  rfl
theorem stays {t : ByteArray} (h : 0 < t.size) (h0 : (t[0]'h == 0) = false) : t.toList.dropWhile (· == 0) = t.toList := by
  have hc := bsl_cons (s := t) (k := 0) h
  rw [List.drop_zero] at hc
  rw [hc, List.dropWhile_cons, h0, if_neg (by decide)]
theorem stays_nil {t : ByteArray} (h : t.size = 0) : t.toList.dropWhile (· == 0) = t.toList := by
  have : t.toList = [] := by rw [← List.length_eq_zero_iff, bsl_len]; exact h
  rw [this]; rfl
theorem byte0 {b : UInt8} : (((b.toNat : Int) == 0) = (b == 0)) := by
  rw [Bool.eq_iff_iff, beq_iff_eq, beq_iff_eq]
  constructor
  · intro h; exact UInt8.toNat_inj.1 (by simpa using h)
  · rintro rfl; rfl
set_option maxRecDepth 100000 in
set_option maxHeartbeats 1000000 in
theorem trimByte_any (s : ByteArray) (w : World) (hs : s.size ≤ 1000000) :
    Calls Tryd.prog 132 #[.string s, .int .u8 0] w fun r w' => r = .returned (.string (plainS s)) ∧ w = w' := by
  go_enter Tryd.func132, Tryd.ntmps132
  go_wp2
  go_loop [0] (fun v => ∃ t : ByteArray, t.size ≤ s.size ∧ v = .string t ∧ Hid (t.toList.dropWhile (· == 0) = s.toList.dropWhile (· == 0))) (fun v => match v with | .string t => t.size | _ => 0)
  case atStart => exact ⟨s, Nat.le_refl _, rfl, rfl⟩
  case round =>
    obtain ⟨t, ht, rfl, hf⟩ := hrel
    by_cases hp : 0 < t.size
    · cases h0 : (t[0] == 0) with
      | true =>
        have hn := Lib.hid ((drop_first hp h0).trans hf.out)
        have hb : ((t[0].toNat : Int) == 0) = true := by rw [byte0]; exact h0
        have hz : (t.extract 1 t.size).size < t.size := by rw [ByteArray.size_extract]; omega
        have hz := Lib.hid hz
        clear h0
        go_wp2
        go_round
        case rel => exact ⟨t.extract 1 t.size, by have := hz.out; omega, rfl, hn⟩
        case measure => exact hz.out
      | false =>
        have hr := Lib.hid (plainS_of hf.out (stays hp h0))
        have hb : ((t[0].toNat : Int) == 0) = false := by rw [byte0]; exact h0
        clear h0
        go_wp2
        go_ret
        exact ⟨ret_str hr.out, rfl⟩
    · have hr := Lib.hid (plainS_of hf.out (stays_nil (by omega)))
      go_wp2
      go_ret
      exact ⟨ret_str hr.out, rfl⟩
set_option maxRecDepth 100000 in
set_option maxHeartbeats 1000000 in
theorem refPlain_any (s : ByteArray) (w : World) (hs : s.size ≤ 1000000) :
    Calls Tryd.prog 82 #[.string s] w fun r w' => r = .returned (.string (plainS s)) ∧ w = w' := by
  go_enter Tryd.func82, Tryd.ntmps82
  go_wp2
  go_loop [0] (fun v => ∃ t : ByteArray, t.size ≤ s.size ∧ v = .string t ∧ Hid (t.toList.dropWhile (· == 0) = s.toList.dropWhile (· == 0))) (fun v => match v with | .string t => t.size | _ => 0)
  case atStart => exact ⟨s, Nat.le_refl _, rfl, rfl⟩
  case round =>
    obtain ⟨t, ht, rfl, hf⟩ := hrel
    by_cases hp : 0 < t.size
    · cases h0 : (t[0] == 0) with
      | true =>
        have hn := Lib.hid ((drop_first hp h0).trans hf.out)
        have hb : ((t[0].toNat : Int) == 0) = true := by rw [byte0]; exact h0
        have hz : (t.extract 1 t.size).size < t.size := by rw [ByteArray.size_extract]; omega
        have hz := Lib.hid hz
        clear h0
        go_wp2
        go_round
        case rel => exact ⟨t.extract 1 t.size, by have := hz.out; omega, rfl, hn⟩
        case measure => exact hz.out
      | false =>
        have hr := Lib.hid (plainS_of hf.out (stays hp h0))
        have hb : ((t[0].toNat : Int) == 0) = false := by rw [byte0]; exact h0
        clear h0
        go_wp2
        go_ret
        exact ⟨ret_str hr.out, rfl⟩
    · have hr := Lib.hid (plainS_of hf.out (stays_nil (by omega)))
      go_wp2
      go_ret
      exact ⟨ret_str hr.out, rfl⟩
set_option maxRecDepth 100000 in
theorem trimLeft_any (s : ByteArray) (w : World) (hs : s.size ≤ 1000000) :
    Calls Tryd.prog 119 #[.string s, .string ⟨#[0]⟩] w fun r w' => r = .returned (.string (plainS s)) ∧ w = w' := by
  have c := Lib.hid (trimByte_any s w hs)
  by_cases h : s.size = 0
  · have hr := Lib.hid (plainS_of (s := s) rfl (stays_nil h))
    have hl : s.toList = [] := by rw [← List.length_eq_zero_iff, bsl_len]; exact h
    have he : s = ⟨#[]⟩ := bs_ext (by rw [hl, bsl])
    subst he
    go_enter Tryd.func119, Tryd.ntmps119
    go_wp2_with (go_at_call 132; refine c.out.mono ?_; rintro r w1 ⟨rfl, rfl⟩)
    go_ret
    exact ⟨ret_str hr.out, rfl⟩
  · have hl : (s.toList == []) = false := by
      rw [beq_eq_false_iff_ne]
      intro e
      exact h (by rw [← bsl_len, e]; rfl)
    have hl2 : s.toList.isEmpty = false := by
      cases hq : s.toList with
      | nil => rw [hq] at hl; cases hl
      | cons x r => rfl
    go_enter Tryd.func119, Tryd.ntmps119
    go_wp2_with (go_at_call 132; refine c.out.mono ?_; rintro r w1 ⟨rfl, rfl⟩)
    go_ret
    exact ⟨rfl, rfl⟩
theorem plain_any (s : ByteArray) (w : World) (hs : s.size ≤ 1000000) :
    Calls Tryd.prog 102 #[.string s] w fun r w' => r = .returned (.string (plainS s)) ∧ w = w' := by
  have c := Lib.hid (trimLeft_any s w hs)
  go_enter Tryd.func102, Tryd.ntmps102
  go_wp2_with (go_at_call 119; refine c.out.mono ?_; rintro r w1 ⟨rfl, rfl⟩)
  go_ret
  exact ⟨rfl, rfl⟩
end Go.Proofs.YtlonejkmdibkaaaDoor
