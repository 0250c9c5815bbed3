/- The walks of the small functions on lists of names. -/
import Derived.Test.YtjiepgldgcghlaaDoorStr
namespace Go.Proofs.YtjiepgldgcghlaaDoor
open Go.RowKit

theorem beqS (x s : ByteArray) : (x == s) = (x.toList == s.toList) := beq_toListBytes x s
theorem bs_ext {x y : ByteArray} (h : x.toList = y.toList) : x = y := by
  rw [ByteArray.toList_eq, ByteArray.toList_eq] at h
  cases x; cases y
  simp only [ByteArray.mk.injEq]
  exact Array.toList_inj.1 h
theorem bs_eq {x y : ByteArray} (h : (x.toList == y.toList) = true) : x = y := bs_ext (by simpa using h)
theorem bs_ne {x y : ByteArray} (h : (x.toList == y.toList) = false) : x ≠ y := by
  rintro rfl
  simp at h
theorem beqS_iff {x y : ByteArray} : (x == y) = true ↔ x = y := ⟨fun h => bs_eq ((beqS x y).symm.trans h), fun h => by subst h; rw [beqS]; simp⟩





/-- The first of ss that is in ts, and whether there is one. -/
def firstV (ss ts : List ByteArray) : Value := match ss.find? (has ts) with | some s => .tuple #[.string s, .bool true] | none => .tuple #[.string ByteArray.empty, .bool false]
theorem find_hit {α : Type} {p : α → Bool} {l : List α} {k : Nat} {x : α} (h : l[k]? = some x) (hp : p x = true) (hm : (l.take k).any p = false) : l.find? p = some x := by
  rw [List.find?_eq_some_iff_append]
  have hk : k < l.length := (List.getElem?_eq_some_iff.1 h).1
  refine ⟨hp, l.take k, l.drop (k + 1), ?_, fun y hy => ?_⟩
  · have h0 := List.take_append_drop k l
    rw [List.drop_eq_getElem_cons hk, (List.getElem?_eq_some_iff.1 h).2] at h0
    exact h0.symm
  · rw [List.any_eq_false] at hm
    simpa using hm y hy
theorem find_miss {α : Type} {p : α → Bool} {l : List α} (hm : l.any p = false) : l.find? p = none := by
  rw [List.find?_eq_none]
  rw [List.any_eq_false] at hm
  intro x hx
  simpa using hm x hx


end Go.Proofs.YtjiepgldgcghlaaDoor
