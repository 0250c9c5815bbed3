/- The walk of ScriptReads. (printed by wip/gen_smd.py) -/
import Derived.Test.YtmicohmbmgbnkaaGreatDoorWb40
namespace Go.Proofs.YtmicohmbmgbnkaaGreatDoor
open Go Go.RowKit Go.Shelf
open Go.Lib (itoa)

theorem lay_step (w : World) {ds : List Value} (hl : ds.length = 29) : Row ((w.alloc (.cells (stZ 0).toArray 44)).setRow w.heap.size ds.toArray) w.heap.size 44 ds ∧ Below w.heap.size w ((w.alloc (.cells (stZ 0).toArray 44)).setRow w.heap.size ds.toArray) :=
  ⟨Row.setRow (show Row (w.alloc (.cells (stZ 0).toArray 44)) w.heap.size 44 (stZ 0) from heap_new w _) ds, below_setRow (below_new w _) (Nat.le_refl _) _⟩
end Go.Proofs.YtmicohmbmgbnkaaGreatDoor
