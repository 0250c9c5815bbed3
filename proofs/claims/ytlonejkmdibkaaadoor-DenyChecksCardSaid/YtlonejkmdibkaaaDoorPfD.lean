/- Prefs: the reference's words and methods; the marks. -/
import Derived.Test.YtlonejkmdibkaaaDoorPfC
import Derived.Deep.DeepCutAuto
namespace Go.Proofs.YtlonejkmdibkaaaDoor
open Go.RowKit

theorem below_got (w : World) (o : Obj) : Below w.heap.size w (w.alloc o) := (Below.refl _ _).alloc (Nat.le_refl _) o
def markS (b : Bool) : ByteArray := if b then ⟨#[101, 120, 116, 45, 105, 110, 102, 111, 45, 115]⟩ else ⟨#[101, 120, 116, 45, 105, 110, 102, 111, 45, 99]⟩
theorem mark_any (b : Bool) (w : World) :
    Calls Tryd.prog 26 #[.bool b] w fun r w' => r = .returned (.string (markS b)) ∧ w = w' := by
  cases b
  all_goals
    go_enter Tryd.func26, Tryd.ntmps26
    go_wp2
    go_ret
    exact ⟨rfl, rfl⟩
def strictS (b : Bool) : ByteArray := if b then ⟨#[107, 101, 120, 45, 115, 116, 114, 105, 99, 116, 45, 115, 45, 118, 48, 48]⟩ else ⟨#[107, 101, 120, 45, 115, 116, 114, 105, 99, 116, 45, 99, 45, 118, 48, 48]⟩
theorem strict_any (b : Bool) (w : World) :
    Calls Tryd.prog 27 #[.bool b] w fun r w' => r = .returned (.string (strictS b)) ∧ w = w' := by
  cases b
  all_goals
    go_enter Tryd.func27, Tryd.ntmps27
    go_wp2
    go_ret
    exact ⟨rfl, rfl⟩
set_option maxRecDepth 100000 in
theorem refWord_any (i : Int) (w : World) :
    Calls Tryd.prog 36 #[.int .i64 i] w fun r w' => r = .returned (.string (wordAt i)) ∧ Below w.heap.size w w' := by
  have hg := heap_new w (.cells (wordL.map Value.string).toArray 9)
  have hB := Lib.hid (below_got w (.cells (wordL.map Value.string).toArray 9))
  have hp : i < 0 ∨ (¬ i < 0 ∧ 7 < i) ∨ (0 ≤ i ∧ i < 8) := by omega
  rcases hp with h1 | ⟨h0, h1⟩ | ⟨h0, h1⟩
  · have hv := Lib.hid (show wordAt i = ⟨#[]⟩ by unfold wordAt; rw [if_neg (by omega)])
    clear hg
    go_enter Tryd.func36, Tryd.ntmps36
    go_wp2
    go_ret
    exact ⟨ret_str' hv.out.symm, hB.out⟩
  · have hv := Lib.hid (show wordAt i = ⟨#[]⟩ by unfold wordAt; rw [if_neg (by omega)])
    clear hg
    go_enter Tryd.func36, Tryd.ntmps36
    go_wp2
    go_ret
    exact ⟨ret_str' hv.out.symm, hB.out⟩
  · obtain ⟨k, rfl⟩ := Int.eq_ofNat_of_zero_le h0
    have hk : k < 8 := by omega
    have hx := getD_of (l := wordL) hk
    have hc : (w.alloc (.cells (wordL.map Value.string).toArray 9)).cell? ⟨w.heap.size, k, none⟩ = some (.string (wordL.getD k ⟨#[]⟩)) := by
      rw [cell_of_row _ _ k _ _ _ hg, List.getElem?_toArray, List.getElem?_map, hx]; rfl
    have hv := show wordAt (k : Int) = wordL.getD k ⟨#[]⟩ by unfold wordAt; rw [if_pos ⟨h0, h1⟩, Int.toNat_natCast]
    have h7 : ¬ (7 : Int) < (k : Int) := by omega
    have hk0 : ¬ (k : Int) < 0 := by omega
    generalize wordL.getD k ⟨#[]⟩ = s at hc hv
    have hV := Lib.hid hv
    clear hg hx hv
    go_enter Tryd.func36, Tryd.ntmps36
    go_upto_region 2 with fail
    change Code.wp _ _ _ _ (w.alloc (.cells (wordL.map Value.string).toArray 9))
    generalize w.alloc (.cells (wordL.map Value.string).toArray 9) = w1 at hc hB ⊢
    go_wp2
    go_ret
    exact ⟨ret_str' hV.out.symm, hB.out⟩
end Go.Proofs.YtlonejkmdibkaaaDoor
