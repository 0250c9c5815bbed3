/- Bytes on the wire: numbers as four bytes, and back; a whole number without its zeros. -/
import Derived.Test.YtjiepgldgcghlaaDoorProg
import Derived.Test.YtjiepgldgcghlaaDoorBase
import Derived.Test.YtjiepgldgcghlaaDoorBs
import Derived.Laws.BytesArg
import Derived.Laws.BitsLemmas
import Derived.IntWalk
namespace Go.Proofs.YtjiepgldgcghlaaDoor
open Go.RowKit

theorem ret_str {a b : ByteArray} (h : a = b) : Ending.returned (.string a) = .returned (.string b) := by rw [h]
/-! ### Numbers -/
def u32S (n : Int) : ByteArray := strOfNums [n / 16777216, n / 65536 % 256, n / 256 % 256, n % 256]
theorem u32S_size (n : Int) : (u32S n).size = 4 := by unfold u32S; rw [strOfNums_size]; rfl
def numb (l : List UInt8) : Int := l.foldl (fun (a : Int) b => a * 256 + b.toNat) 0
theorem numb_snoc (l : List UInt8) (b : UInt8) : numb (l ++ [b]) = numb l * 256 + b.toNat := by unfold numb; rw [List.foldl_append]; rfl
theorem byte_nat (n : Int) (h0 : 0 ≤ n) (h1 : n < 256) : ((UInt8.ofNat n.toNat).toNat : Int) = n := by
  rw [UInt8.toNat_ofNat_of_lt' (by show n.toNat < 2 ^ 8; omega)]
  omega
theorem numb_u32S (n : Int) (h0 : 0 ≤ n) (h1 : n < 4294967296) : numb (u32S n).toList = n := by
  have hl : (u32S n).toList = [UInt8.ofNat (n / 16777216).toNat, UInt8.ofNat (n / 65536 % 256).toNat, UInt8.ofNat (n / 256 % 256).toNat, UInt8.ofNat (n % 256).toNat] := by rw [bsl]; rfl
  rw [hl]
  unfold numb
  simp only [List.foldl_cons, List.foldl_nil]
  rw [byte_nat _ (by omega) (by omega), byte_nat _ (by omega) (by omega), byte_nat _ (by omega) (by omega), byte_nat _ (by omega) (by omega)]
  omega
theorem numb_lt3 {l : List UInt8} (h : l.length ≤ 3) : 0 ≤ numb l ∧ numb l < 16777216 := by
  match l, h with
  | [], _ => exact ⟨by decide, by decide⟩
  | [a], _ => have := a.toNat_lt; simp only [numb, List.foldl_cons, List.foldl_nil]; omega
  | [a, b], _ => have := a.toNat_lt; have := b.toNat_lt; simp only [numb, List.foldl_cons, List.foldl_nil]; omega
  | [a, b, c], _ => have := a.toNat_lt; have := b.toNat_lt; have := c.toNat_lt; simp only [numb, List.foldl_cons, List.foldl_nil]; omega
theorem numb_lt {l : List UInt8} (h : l.length ≤ 4) : 0 ≤ numb l ∧ numb l < 4294967296 := by
  match l, h with
  | [], _ => exact ⟨by decide, by decide⟩
  | [a], _ => have := a.toNat_lt; simp only [numb, List.foldl_cons, List.foldl_nil]; omega
  | [a, b], _ => have := a.toNat_lt; have := b.toNat_lt; simp only [numb, List.foldl_cons, List.foldl_nil]; omega
  | [a, b, c], _ => have := a.toNat_lt; have := b.toNat_lt; have := c.toNat_lt; simp only [numb, List.foldl_cons, List.foldl_nil]; omega
  | [a, b, c, d], _ => have := a.toNat_lt; have := b.toNat_lt; have := c.toNat_lt; have := d.toNat_lt; simp only [numb, List.foldl_cons, List.foldl_nil]; omega

theorem conv_str (w : World) (xs : List Int) : (convert 81 9 (.slice (some ⟨w.heap.size, 0, none⟩) xs.length xs.length)).run Tryd.prog (w.alloc (.cells (xs.map (Value.int .u8)).toArray 5)) = .ok (.string (strOfNums xs)) (w.alloc (.cells (xs.map (Value.int .u8)).toArray 5)) :=
  run_convert_bytes_arg _ 81 5 Tryd.underlying81 Tryd.underlying5 w.heap.size 0 xs.length xs.length xs rfl (fun i hi => by
    rw [Nat.zero_add, World.cell?_alloc_at _ _ _ _ rfl]
    simp [List.getElem?_eq_getElem hi, List.getD_eq_getElem?_getD]) 9 Tryd.underlying9

set_option maxRecDepth 100000 in
theorem u32_any (n : Int) (w : World) (h0 : 0 ≤ n) (h1 : n < 4294967296) :
    Calls Tryd.prog 46 #[.int .u32 n] w fun r w' => r = .returned (.string (u32S n)) ∧ Below w.heap.size w w' := by
  have kc : (convert 81 9 (.slice (some ⟨w.heap.size, 0, none⟩) 4 4)).run Tryd.prog (w.alloc (.cells #[.int .u8 (n / 16777216), .int .u8 (n / 65536 % 256), .int .u8 (n / 256 % 256), .int .u8 (n % 256)] 5)) = .ok (.string (u32S n)) (w.alloc (.cells #[.int .u8 (n / 16777216), .int .u8 (n / 65536 % 256), .int .u8 (n / 256 % 256), .int .u8 (n % 256)] 5)) :=
    conv_str w [n / 16777216, n / 65536 % 256, n / 256 % 256, n % 256]
  go_enter Tryd.func46, Tryd.ntmps46
  go_wp2
  go_ret
  exact ⟨rfl, (Below.refl _ _).alloc (Nat.le_refl _) _⟩
set_option maxRecDepth 100000 in
theorem refU32_any (n : Int) (w : World) (h0 : 0 ≤ n) (h1 : n < 4294967296) :
    Calls Tryd.prog 70 #[.int .i64 n] w fun r w' => r = .returned (.string (u32S n)) ∧ Below w.heap.size w w' := by
  have e : n / 16777216 % 256 = n / 16777216 := by omega
  have kc : (convert 81 9 (.slice (some ⟨w.heap.size, 0, none⟩) 4 4)).run Tryd.prog (w.alloc (.cells #[.int .u8 (n / 16777216 % 256), .int .u8 (n / 65536 % 256), .int .u8 (n / 256 % 256), .int .u8 (n % 256)] 5)) = .ok (.string (u32S n)) (w.alloc (.cells #[.int .u8 (n / 16777216 % 256), .int .u8 (n / 65536 % 256), .int .u8 (n / 256 % 256), .int .u8 (n % 256)] 5)) := by
    rw [e]
    exact conv_str w [n / 16777216, n / 65536 % 256, n / 256 % 256, n % 256]
  clear e
  go_enter Tryd.func70, Tryd.ntmps70
  go_wp2
  go_ret
  exact ⟨rfl, (Below.refl _ _).alloc (Nat.le_refl _) _⟩
def byteS (n : Int) : ByteArray := strOfNums [n]
theorem byteS_size (n : Int) : (byteS n).size = 1 := by unfold byteS; rw [strOfNums_size]; rfl
set_option maxRecDepth 100000 in
theorem byte_any (n : Int) (w : World) (h0 : 0 ≤ n) (h1 : n < 256) :
    Calls Tryd.prog 43 #[.int .u8 n] w fun r w' => r = .returned (.string (byteS n)) ∧ Below w.heap.size w w' := by
  have kc : (convert 81 9 (.slice (some ⟨w.heap.size, 0, none⟩) 1 1)).run Tryd.prog (w.alloc (.cells #[.int .u8 n] 5)) = .ok (.string (byteS n)) (w.alloc (.cells #[.int .u8 n] 5)) :=
    conv_str w [n]
  go_enter Tryd.func43, Tryd.ntmps43
  go_wp2
  go_ret
  exact ⟨rfl, (Below.refl _ _).alloc (Nat.le_refl _) _⟩
set_option maxRecDepth 100000 in
theorem refByte_any (n : Int) (w : World) (h0 : 0 ≤ n) (h1 : n < 256) :
    Calls Tryd.prog 69 #[.int .u8 n] w fun r w' => r = .returned (.string (byteS n)) ∧ Below w.heap.size w w' := by
  have kc : (convert 81 9 (.slice (some ⟨w.heap.size, 0, none⟩) 1 1)).run Tryd.prog (w.alloc (.cells #[.int .u8 n] 5)) = .ok (.string (byteS n)) (w.alloc (.cells #[.int .u8 n] 5)) :=
    conv_str w [n]
  go_enter Tryd.func69, Tryd.ntmps69
  go_wp2
  go_ret
  exact ⟨rfl, (Below.refl _ _).alloc (Nat.le_refl _) _⟩
theorem bool_any (b : Bool) (w : World) :
    Calls Tryd.prog 44 #[.bool b] w fun r w' => r = .returned (.string (byteS (if b then 1 else 0))) ∧ Below w.heap.size w w' := by
  cases b
  · have c := Lib.hid (byte_any 0 w (by decide) (by decide))
    go_enter Tryd.func44, Tryd.ntmps44
    go_wp2_with (go_at_call 43; refine c.out.mono ?_; rintro r w1 ⟨rfl, hb⟩)
    go_ret
    exact ⟨rfl, hb⟩
  · have c := Lib.hid (byte_any 1 w (by decide) (by decide))
    go_enter Tryd.func44, Tryd.ntmps44
    go_wp2_with (go_at_call 43; refine c.out.mono ?_; rintro r w1 ⟨rfl, hb⟩)
    go_ret
    exact ⟨rfl, hb⟩
theorem take_snoc_bytes {s : ByteArray} {k : Nat} (h : k < s.size) : s.toList.take (k + 1) = s.toList.take k ++ [s[k]] := by
  rw [List.take_add_one, bsl_get h]; rfl
theorem or_byte (q : Int) (b : UInt8) (h0 : 0 ≤ q) (h1 : q < 16777216) : bits .or .u32 (q * 256) ((b.toNat : Int) % 4294967296) = q * 256 + b.toNat := by
  have hb : (b.toNat : Int) < 256 := by have := b.toNat_lt; omega
  rw [Int.emod_eq_of_lt (by omega) (by omega)]
  exact bits_join .u32 32 (by decide) (fun n a c => IntWalk.u32_in n ⟨a, by omega⟩) 8 _ _ (by omega) (by omega) (by omega) (by omega) (by omega) (by omega)
set_option maxRecDepth 100000 in
set_option maxHeartbeats 1000000 in
theorem number_any (s : ByteArray) (w : World) (hs : s.size ≤ 4) :
    Calls Tryd.prog 57 #[.string s] w fun r w' => r = .returned (.int .u32 (numb s.toList)) ∧ w = w' := by
  go_enter Tryd.func57, Tryd.ntmps57
  go_wp2
  go_loop [3, 4, 7] (fun m _ i => ∃ k : Nat, ∃ q : Int, k ≤ s.size ∧ 0 ≤ q ∧ i = .int .i64 k ∧ m = .int .u32 q ∧ Hid (q = numb (s.toList.take k))) (fun _ _ i => s.size - (intOf i).toNat)
  case atStart => exact ⟨0, 0, by omega, by omega, rfl, rfl, by simp [Hid, numb]⟩
  case round =>
    obtain ⟨k, q, hk, h0, rfl, rfl, hq⟩ := hrel
    by_cases hlt : k < s.size
    · have hq1 : q < 16777216 := by
        rw [hq.out]
        exact (numb_lt3 (by rw [List.length_take]; omega)).2
      have hstep := Lib.hid (show q * 256 + s[k].toNat = numb (s.toList.take (k + 1)) by rw [take_snoc_bytes hlt, numb_snoc, hq.out])
      have hor := Lib.hid (or_byte q s[k] h0 hq1)
      go_wp2
      go_round
      case rel => exact ⟨k + 1, q * 256 + s[k].toNat, by omega, by omega, by go_num, by rw [hor.out], hstep⟩
      case measure => simp [intOf]; omega
    · go_wp2
      go_ret
      exact ⟨ret_int (by rw [hq.out, List.take_of_length_le (by rw [bsl_len]; omega)]), rfl⟩
set_option maxRecDepth 100000 in
set_option maxHeartbeats 1000000 in
theorem value_any (s : ByteArray) (w : World) (hs : s.size ≤ 4) :
    Calls Tryd.prog 58 #[.string s] w fun r w' => r = .returned (.int .i64 (numb s.toList)) ∧ w = w' := by
  go_enter Tryd.func58, Tryd.ntmps58
  go_wp2
  go_loop [3, 4] (fun m i => ∃ k : Nat, ∃ q : Int, k ≤ s.size ∧ 0 ≤ q ∧ i = .int .i64 k ∧ m = .int .i64 q ∧ Hid (q = numb (s.toList.take k))) (fun _ i => s.size - (intOf i).toNat)
  case atStart => exact ⟨0, 0, by omega, by omega, rfl, rfl, by simp [Hid, numb]⟩
  case round =>
    obtain ⟨k, q, hk, h0, rfl, rfl, hq⟩ := hrel
    by_cases hlt : k < s.size
    · have hq1 : q < 16777216 := by
        rw [hq.out]
        exact (numb_lt3 (by rw [List.length_take]; omega)).2
      have hb : (s[k].toNat : Int) < 256 := by have := s[k].toNat_lt; omega
      have hstep := Lib.hid (show 256 * q + s[k].toNat = numb (s.toList.take (k + 1)) by rw [take_snoc_bytes hlt, numb_snoc, hq.out]; omega)
      go_wp2
      go_round
      case rel => exact ⟨k + 1, 256 * q + s[k].toNat, by omega, by omega, by go_num, rfl, hstep⟩
      case measure => simp [intOf]; omega
    · go_wp2
      go_ret
      exact ⟨ret_int (by rw [hq.out, List.take_of_length_le (by rw [bsl_len]; omega)]), rfl⟩
/-! ### Texts -/
def textS (s : ByteArray) : ByteArray := u32S s.size ++ s
theorem textS_size (s : ByteArray) : (textS s).size = s.size + 4 := by unfold textS; rw [ByteArray.size_append, u32S_size]; omega
set_option maxRecDepth 100000 in
theorem text_any (s : ByteArray) (w : World) (hs : s.size ≤ 1000000) :
    Calls Tryd.prog 11 #[.string s] w fun r w' => r = .returned (.string (textS s)) ∧ Below w.heap.size w w' := by
  have hz := u32S_size s.size
  have c := u32_any s.size w (by omega) (by omega)
  obtain ⟨u, hu⟩ : ∃ u, u = u32S s.size := ⟨_, rfl⟩
  rw [← hu] at c hz
  have hU := Lib.hid (show textS s = u ++ s by rw [hu]; rfl)
  clear hu
  have c := Lib.hid c
  have hz : u.size ≤ 4 := by omega
  go_enter Tryd.func11, Tryd.ntmps11
  go_wp2_with (go_at_call 46; refine c.out.mono ?_; rintro r w1 ⟨rfl, hb⟩)
  go_ret
  exact ⟨ret_str hU.out.symm, hb⟩
set_option maxRecDepth 100000 in
theorem refText_any (s : ByteArray) (w : World) (hs : s.size ≤ 1000000) :
    Calls Tryd.prog 60 #[.string s] w fun r w' => r = .returned (.string (textS s)) ∧ Below w.heap.size w w' := by
  have hz := u32S_size s.size
  have c := refU32_any s.size w (by omega) (by omega)
  obtain ⟨u, hu⟩ : ∃ u, u = u32S s.size := ⟨_, rfl⟩
  rw [← hu] at c hz
  have hU := Lib.hid (show textS s = u ++ s by rw [hu]; rfl)
  clear hu
  have c := Lib.hid c
  have hz : u.size ≤ 4 := by omega
  go_enter Tryd.func60, Tryd.ntmps60
  go_wp2_with (go_at_call 70; refine c.out.mono ?_; rintro r w1 ⟨rfl, hb⟩)
  go_ret
  exact ⟨ret_str hU.out.symm, hb⟩
end Go.Proofs.YtjiepgldgcghlaaDoor
