/- Prefs: the reference's words and methods; the marks. -/
import Derived.Test.YtfoegpacjkcidaaDoorPfC
import Derived.Deep.DeepCutAuto
namespace Go.Proofs.YtfoegpacjkcidaaDoor
open Go.RowKit

theorem below_got (w : World) (o : Obj) : Below w.heap.size w (w.alloc o) := (Below.refl _ _).alloc (Nat.le_refl _) o
set_option maxRecDepth 100000 in
theorem refWord_any (i : Int) (w : World) :
    Calls Tryd.prog 20 #[.int .i64 i] w fun r w' => r = .returned (.string (wordAt i)) ∧ Below w.heap.size w w' := by
  have hg := heap_new w (.cells (wordL.map Value.string).toArray 9)
  have hB := Lib.hid (below_got w (.cells (wordL.map Value.string).toArray 9))
  have hp : i < 0 ∨ (¬ i < 0 ∧ 7 < i) ∨ (0 ≤ i ∧ i < 8) := by omega
  rcases hp with h1 | ⟨h0, h1⟩ | ⟨h0, h1⟩
  · have hv := Lib.hid (show wordAt i = ⟨#[]⟩ by unfold wordAt; rw [if_neg (by omega)])
    clear hg
    go_enter Tryd.func20, Tryd.ntmps20
    go_wp2
    go_ret
    exact ⟨ret_str' hv.out.symm, hB.out⟩
  · have hv := Lib.hid (show wordAt i = ⟨#[]⟩ by unfold wordAt; rw [if_neg (by omega)])
    clear hg
    go_enter Tryd.func20, Tryd.ntmps20
    go_wp2
    go_ret
    exact ⟨ret_str' hv.out.symm, hB.out⟩
  · obtain ⟨k, rfl⟩ := Int.eq_ofNat_of_zero_le h0
    have hk : k < 8 := by omega
    have hx := getD_of (l := wordL) hk
    have hc : (w.alloc (.cells (wordL.map Value.string).toArray 9)).cell? ⟨w.heap.size, k, none⟩ = some (.string (wordL.getD k ⟨#[]⟩)) := by
      rw [cell_of_row _ _ k _ _ _ hg, List.getElem?_toArray, List.getElem?_map, hx]; rfl
    have hv := show wordAt (k : Int) = wordL.getD k ⟨#[]⟩ by unfold wordAt; rw [if_pos ⟨h0, h1⟩, Int.toNat_natCast]
    have h7 : ¬ (7 : Int) < (k : Int) := by omega
    have hk0 : ¬ (k : Int) < 0 := by omega
    generalize wordL.getD k ⟨#[]⟩ = s at hc hv
    have hV := Lib.hid hv
    clear hg hx hv
    go_enter Tryd.func20, Tryd.ntmps20
    go_upto_region 2 with fail
    change Code.wp _ _ _ _ (w.alloc (.cells (wordL.map Value.string).toArray 9))
    generalize w.alloc (.cells (wordL.map Value.string).toArray 9) = w1 at hc hB ⊢
    go_wp2
    go_ret
    exact ⟨ret_str' hV.out.symm, hB.out⟩
end Go.Proofs.YtfoegpacjkcidaaDoor
