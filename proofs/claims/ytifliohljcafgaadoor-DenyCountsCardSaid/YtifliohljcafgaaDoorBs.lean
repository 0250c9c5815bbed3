/- Byte strings and their pieces, as lists of bytes. -/
import Derived.WalkKit
import Derived.Test.YtifliohljcafgaaDoorNmA
namespace Go.Proofs.YtifliohljcafgaaDoor

theorem bsl (s : ByteArray) : s.toList = s.data.toList := ByteArray.toList_eq s
theorem bsl_len (s : ByteArray) : s.toList.length = s.size := by rw [bsl]; exact Array.length_toList
theorem bsl_ext (s : ByteArray) (a b : Nat) : (s.extract a b).toList = (s.toList.take b).drop a := by
  rw [bsl, bsl, ByteArray.data_extract, Array.toList_extract]
  rw [List.extract_eq_take_drop, List.drop_take]
theorem bsl_tail (s : ByteArray) (a : Nat) : (s.extract a s.size).toList = s.toList.drop a := by
  rw [bsl_ext, List.take_of_length_le (by rw [bsl_len]; exact Nat.le_refl _)]
theorem bsl_head (s : ByteArray) (b : Nat) : (s.extract 0 b).toList = s.toList.take b := by
  rw [bsl_ext, List.drop_zero]
theorem bsl_get {s : ByteArray} {i : Nat} (h : i < s.size) : s.toList[i]? = some s[i] := by
  rw [bsl, Array.getElem?_toList]
  exact Array.getElem?_eq_getElem h
theorem bsl_app (s t : ByteArray) : (s ++ t).toList = s.toList ++ t.toList := by
  rw [bsl, bsl, bsl]; simp
theorem bsl_cons {s : ByteArray} {k : Nat} (h : k < s.size) : s.toList.drop k = s[k] :: s.toList.drop (k + 1) := by
  have hl : k < s.toList.length := by rw [bsl_len]; exact h
  rw [List.drop_eq_getElem_cons hl]
  congr 1
  have := bsl_get h
  rw [List.getElem?_eq_getElem hl] at this
  injection this
theorem bsl_end {s : ByteArray} {k : Nat} (h : s.size ≤ k) : s.toList.drop k = [] := List.drop_of_length_le (by rw [bsl_len]; exact h)
end Go.Proofs.YtifliohljcafgaaDoor
