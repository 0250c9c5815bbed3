/- The reader's Byte, Bool, Bytes, U32; what stands in bytes that were put one behind the other. -/
import Derived.Test.YtjiepgldgcghlaaDoorWrF
namespace Go.Proofs.YtjiepgldgcghlaaDoor
open Go.RowKit

theorem sub_of {Y p m r : ByteArray} {k : Nat} (hY : Y = p ++ (m ++ r)) (hk : p.size = k) : Y.extract k (k + m.size) = m := by
  subst hY hk
  apply bs_ext
  rw [bsl_ext, bsl_app, bsl_app, List.take_append, List.drop_append, ← bsl_len, ← bsl_len, List.take_of_length_le (by omega), List.drop_of_length_le (by omega), List.nil_append, Nat.sub_self, List.drop_zero, Nat.add_sub_cancel_left, List.take_left']
  rfl
theorem lenAt_of {Y p m r : ByteArray} {k : Nat} (hY : Y = p ++ (textS m ++ r)) (hk : p.size = k) (hm : m.size ≤ 1000000) : lenAt Y k = m.size := by
  have h1 : Y.extract k (k + (u32S m.size).size) = u32S m.size := sub_of (r := m ++ r) (by rw [hY]; unfold textS; apply bs_ext; simp only [bsl_app, List.append_assoc]) hk
  rw [u32S_size] at h1
  unfold lenAt
  rw [h1, numb_u32S _ (by omega) (by omega)]
  omega
theorem txt_of {Y p m r : ByteArray} {k : Nat} (hY : Y = p ++ (textS m ++ r)) (hk : p.size = k) : Y.extract (k + 4) (k + 4 + m.size) = m :=
  sub_of (p := p ++ u32S m.size) (r := r) (by rw [hY]; unfold textS; apply bs_ext; simp only [bsl_app, List.append_assoc]) (by rw [ByteArray.size_append, u32S_size, hk])

/-- The first byte, or 0. -/
def firstN (t : ByteArray) : Int := if h : 0 < t.size then ((t[0]'h).toNat : Int) else 0
theorem firstN_byte (n : Int) (h0 : 0 ≤ n) (h1 : n < 256) : firstN (byteS n) = n := by
  unfold firstN
  rw [dif_pos (by rw [byteS_size]; decide)]
  exact byte_nat n h0 h1
theorem rByte_of {g : Nat} {w : World} {t : ByteArray} {Q : World → Prop}
    (c : Calls Tryd.prog 54 #[.pointer (some ⟨g, 0, none⟩), .int .i64 0, .int .i64 1, fv 55] w fun r w' => r = .returned (.string t) ∧ Q w') :
    Calls Tryd.prog 31 #[.pointer (some ⟨g, 0, none⟩)] w fun r w' => r = .returned (.int .u8 (firstN t)) ∧ Q w' := by
  rcases empty_or t with rfl | ⟨h0, h1, h2⟩
  · have c := Lib.hid c
    go_enter Tryd.func31, Tryd.ntmps31
    go_wp2_with (go_at_call 54; refine c.out.mono ?_; rintro r w1 ⟨rfl, hQ⟩; have hQ := Lib.hid hQ)
    go_ret
    exact ⟨rfl, hQ.out⟩
  · have c := Lib.hid c
    have hv := Lib.hid (show ((t[0]'h0).toNat : Int) = firstN t by unfold firstN; rw [dif_pos h0])
    go_enter Tryd.func31, Tryd.ntmps31
    go_wp2_with (go_at_call 54; refine c.out.mono ?_; rintro r w1 ⟨rfl, hQ⟩; have hQ := Lib.hid hQ)
    go_ret
    exact ⟨congrArg (fun x => Ending.returned (Value.int .u8 x)) hv.out, hQ.out⟩
theorem bool1_any (t : ByteArray) (w : World) (h0 : 0 < t.size) :
    Calls Tryd.prog 56 #[.string t] w fun r w' => r = .returned (.bool (decide (firstN t ≤ 1))) ∧ w = w' := by
  have hv := Lib.hid (show ((t[0]'h0).toNat : Int) = firstN t by unfold firstN; rw [dif_pos h0])
  go_enter Tryd.func56, Tryd.ntmps56
  go_wp2
  go_ret
  exact ⟨congrArg (fun x => Ending.returned (Value.bool (decide (x ≤ 1)))) hv.out, rfl⟩
theorem eg_bool1 : ∀ args w, (callFunc 56 args).run Tryd.prog w = .ok (.enter 56 args) w := by intro args w; kernel_rfl
theorem rBool_of {g : Nat} {w : World} {t : ByteArray} {Q : World → Prop}
    (c : Calls Tryd.prog 54 #[.pointer (some ⟨g, 0, none⟩), .int .i64 0, .int .i64 1, fv 56] w fun r w' => r = .returned (.string t) ∧ Q w') :
    Calls Tryd.prog 33 #[.pointer (some ⟨g, 0, none⟩)] w fun r w' => r = .returned (.bool (t.toList == [1])) ∧ Q w' := by
  have c := Lib.hid c
  go_enter Tryd.func33, Tryd.ntmps33
  go_wp2_with (go_at_call 54; refine c.out.mono ?_; rintro r w1 ⟨rfl, hQ⟩; have hQ := Lib.hid hQ)
  go_ret
  exact ⟨rfl, hQ.out⟩
theorem rU32_of {g : Nat} {w : World} {t : ByteArray} {Q : World → Prop} (ht : t.size ≤ 4)
    (c : Calls Tryd.prog 54 #[.pointer (some ⟨g, 0, none⟩), .int .i64 0, .int .i64 4, fv 55] w fun r w' => r = .returned (.string t) ∧ Q w') :
    Calls Tryd.prog 35 #[.pointer (some ⟨g, 0, none⟩)] w fun r w' => r = .returned (.int .u32 (numb t.toList)) ∧ Q w' := by
  have c := Lib.hid c
  have cN := Lib.hid (fun W => number_any t W ht)
  go_enter Tryd.func35, Tryd.ntmps35
  go_wp2_with (first
    | (go_at_call 54; refine c.out.mono ?_; rintro r w1 ⟨rfl, hQ⟩; have hQ := Lib.hid hQ)
    | (go_at_call 57; refine (cN.out _).mono ?_; rintro r w2 ⟨rfl, rfl⟩))
  go_ret
  exact ⟨rfl, hQ.out⟩
end Go.Proofs.YtjiepgldgcghlaaDoor
