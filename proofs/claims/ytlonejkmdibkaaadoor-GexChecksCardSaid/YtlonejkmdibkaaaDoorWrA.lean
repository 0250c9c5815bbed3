/- Bytes on the wire: numbers as four bytes, and back; a whole number without its zeros. -/
import Derived.Test.YtlonejkmdibkaaaDoorProg
import Derived.Test.YtlonejkmdibkaaaDoorBase
import Derived.Test.YtlonejkmdibkaaaDoorBs
import Derived.Laws.BytesArg
import Derived.Laws.BitsLemmas
import Derived.IntWalk
namespace Go.Proofs.YtlonejkmdibkaaaDoor
open Go.RowKit

theorem ret_str {a b : ByteArray} (h : a = b) : Ending.returned (.string a) = .returned (.string b) := by rw [h]
/-! ### Numbers -/
def u32S (n : Int) : ByteArray := strOfNums [n / 16777216, n / 65536 % 256, n / 256 % 256, n % 256]
theorem u32S_size (n : Int) : (u32S n).size = 4 := by unfold u32S; rw [strOfNums_size]; rfl
def numb (l : List UInt8) : Int := l.foldl (fun (a : Int) b => a * 256 + b.toNat) 0
theorem numb_snoc (l : List UInt8) (b : UInt8) : numb (l ++ [b]) = numb l * 256 + b.toNat := by unfold numb; rw [List.foldl_append]; rfl
theorem byte_nat (n : Int) (h0 : 0 ≤ n) (h1 : n < 256) : ((UInt8.ofNat n.toNat).toNat : Int) = n := by
  rw [UInt8.toNat_ofNat_of_lt' (by show n.toNat < 2 ^ 8; omega)]
  omega
theorem numb_u32S (n : Int) (h0 : 0 ≤ n) (h1 : n < 4294967296) : numb (u32S n).toList = n := by
  have hl : (u32S n).toList = [UInt8.ofNat (n / 16777216).toNat, UInt8.ofNat (n / 65536 % 256).toNat, UInt8.ofNat (n / 256 % 256).toNat, UInt8.ofNat (n % 256).toNat] := by rw [bsl]; rfl
  rw [hl]
  unfold numb
  simp only [List.foldl_cons, List.foldl_nil]
  rw [byte_nat _ (by omega) (by omega), byte_nat _ (by omega) (by omega), byte_nat _ (by omega) (by omega), byte_nat _ (by omega) (by omega)]
  omega
theorem numb_lt3 {l : List UInt8} (h : l.length ≤ 3) : 0 ≤ numb l ∧ numb l < 16777216 := by
  match l, h with
  | [], _ => exact ⟨by decide, by decide⟩
  | [a], _ => have := a.toNat_lt; simp only [numb, List.foldl_cons, List.foldl_nil]; omega
  | [a, b], _ => have := a.toNat_lt; have := b.toNat_lt; simp only [numb, List.foldl_cons, List.foldl_nil]; omega
  | [a, b, c], _ => have := a.toNat_lt; have := b.toNat_lt; have := c.toNat_lt; simp only [numb, List.foldl_cons, List.foldl_nil]; omega
theorem numb_lt {l : List UInt8} (h : l.length ≤ 4) : 0 ≤ numb l ∧ numb l < 4294967296 := by
  match l, h with
  | [], _ => exact ⟨by decide, by decide⟩
  | [a], _ => have := a.toNat_lt; simp only [numb, List.foldl_cons, List.foldl_nil]; omega
  | [a, b], _ => have := a.toNat_lt; have := b.toNat_lt; simp only [numb, List.foldl_cons, List.foldl_nil]; omega
  | [a, b, c], _ => have := a.toNat_lt; have := b.toNat_lt; have := c.toNat_lt; simp only [numb, List.foldl_cons, List.foldl_nil]; omega
  | [a, b, c, d], _ => have := a.toNat_lt; have := b.toNat_lt; have := c.toNat_lt; have := d.toNat_lt; simp only [numb, List.foldl_cons, List.foldl_nil]; omega

theorem conv_str (w : World) (xs : List Int) : (convert 104 9 (.slice (some ⟨w.heap.size, 0, none⟩) xs.length xs.length)).run Tryd.prog (w.alloc (.cells (xs.map (Value.int .u8)).toArray 5)) = .ok (.string (strOfNums xs)) (w.alloc (.cells (xs.map (Value.int .u8)).toArray 5)) :=
  run_convert_bytes_arg _ 104 5 Tryd.underlying104 Tryd.underlying5 w.heap.size 0 xs.length xs.length xs rfl (fun i hi => by
    rw [Nat.zero_add, World.cell?_alloc_at _ _ _ _ rfl]
    simp [List.getElem?_eq_getElem hi, List.getD_eq_getElem?_getD]) 9 Tryd.underlying9

set_option maxRecDepth 100000 in
theorem u32_any (n : Int) (w : World) (h0 : 0 ≤ n) (h1 : n < 4294967296) :
    Calls Tryd.prog 65 #[.int .u32 n] w fun r w' => r = .returned (.string (u32S n)) ∧ Below w.heap.size w w' := by
  have kc : (convert 104 9 (.slice (some ⟨w.heap.size, 0, none⟩) 4 4)).run Tryd.prog (w.alloc (.cells #[.int .u8 (n / 16777216), .int .u8 (n / 65536 % 256), .int .u8 (n / 256 % 256), .int .u8 (n % 256)] 5)) = .ok (.string (u32S n)) (w.alloc (.cells #[.int .u8 (n / 16777216), .int .u8 (n / 65536 % 256), .int .u8 (n / 256 % 256), .int .u8 (n % 256)] 5)) :=
    conv_str w [n / 16777216, n / 65536 % 256, n / 256 % 256, n % 256]
  go_enter Tryd.func65, Tryd.ntmps65
  go_wp2
  go_ret
  exact ⟨rfl, (Below.refl _ _).alloc (Nat.le_refl _) _⟩
set_option maxRecDepth 100000 in
theorem refU32_any (n : Int) (w : World) (h0 : 0 ≤ n) (h1 : n < 4294967296) :
    Calls Tryd.prog 80 #[.int .i64 n] w fun r w' => r = .returned (.string (u32S n)) ∧ Below w.heap.size w w' := by
  have e : n / 16777216 % 256 = n / 16777216 := by omega
  have kc : (convert 104 9 (.slice (some ⟨w.heap.size, 0, none⟩) 4 4)).run Tryd.prog (w.alloc (.cells #[.int .u8 (n / 16777216 % 256), .int .u8 (n / 65536 % 256), .int .u8 (n / 256 % 256), .int .u8 (n % 256)] 5)) = .ok (.string (u32S n)) (w.alloc (.cells #[.int .u8 (n / 16777216 % 256), .int .u8 (n / 65536 % 256), .int .u8 (n / 256 % 256), .int .u8 (n % 256)] 5)) := by
    rw [e]
    exact conv_str w [n / 16777216, n / 65536 % 256, n / 256 % 256, n % 256]
  clear e
  go_enter Tryd.func80, Tryd.ntmps80
  go_wp2
  go_ret
  exact ⟨rfl, (Below.refl _ _).alloc (Nat.le_refl _) _⟩
def byteS (n : Int) : ByteArray := strOfNums [n]
theorem byteS_size (n : Int) : (byteS n).size = 1 := by unfold byteS; rw [strOfNums_size]; rfl
theorem take_snoc_bytes {s : ByteArray} {k : Nat} (h : k < s.size) : s.toList.take (k + 1) = s.toList.take k ++ [s[k]] := by
  rw [List.take_add_one, bsl_get h]; rfl
/-! ### Texts -/
def textS (s : ByteArray) : ByteArray := u32S s.size ++ s
theorem textS_size (s : ByteArray) : (textS s).size = s.size + 4 := by unfold textS; rw [ByteArray.size_append, u32S_size]; omega
end Go.Proofs.YtlonejkmdibkaaaDoor
