/- Agree: about. -/
import Derived.Test.YtbokdbppjiegjaaAgB
namespace Go.Proofs.Ytbokdbppjiegjaa
open Go.RowKit

theorem about_any (e : Ev) (w : World) :
    Calls Try.prog 60 #[.agg e.cells.toArray] w fun r w' => r = .returned (.agg (uCells e).toArray) ∧ Below w.heap.size w w' := by
  have hB1 := ag_below w (.cells e.cells.toArray 46)
  have hlt := (Array.getElem?_eq_some_iff.1 (heap_new w (.cells e.cells.toArray 46))).1
  have hK : ∀ (o : Obj) (i : Nat) (v : Value), e.cells[i]? = some v → ((w.alloc (.cells e.cells.toArray 46)).alloc o).cell? ⟨w.heap.size, i, none⟩ = some v := fun o i v h =>
    ((ag_below (w.alloc (.cells e.cells.toArray 46)) o).cell (p := ⟨w.heap.size, i, none⟩) hlt).trans (ev_cell e w 46 i v h)
  have c3 := fun o => hK o 3 _ rfl
  have c4 := fun o => hK o 4 _ rfl
  have c5 := fun o => hK o 5 _ rfl
  have c6 := fun o => hK o 6 _ rfl
  have c7 := fun o => hK o 7 _ rfl
  clear hK
  go_enter Try.func60, Try.ntmps60
  go_wp2_with fail
  have hn := heap_new (w.alloc (.cells e.cells.toArray 46)) (.cells (uCells e).toArray 95)
  rw [show (w.alloc (.cells e.cells.toArray 46)).heap.size = w.heap.size + 1 by simp only [World.size_alloc]] at hn
  refine bodyPost_ret (results_cell_row rfl _ _ (w.heap.size + 1) 95 (uCells e).toArray (0, 0) _ rfl hn Try.underlying95 rfl (by kernel_rfl)) rfl ⟨rfl, hB1.alloc hB1.size _⟩
end Go.Proofs.Ytbokdbppjiegjaa
