/- The reference's put: the keys of one cell. (printed by wip/gen_slv2.py) -/
import Derived.Test.YtmicohmbmgbnkaaGreatDoorWb32
namespace Go.Proofs.YtmicohmbmgbnkaaGreatDoor
open Go Go.RowKit Go.Shelf
open Go.Lib (itoa)

structure PEnd (w w6 : World) (bc : Nat) (xs gs D : List Value) : Prop where
  e1 : w6.rangeAt bc 0 gs
  e2 : w6.there w.heap.size 2 gs.toArray.size
  e3 : (w6.setCells w.heap.size 2 gs).rangeAt w.heap.size 0 D
  e4 : (w6.setCells w.heap.size 2 gs).heap[w.heap.size + 1]? = some (.cells (stZ 0).toArray 44 (0, 0))
  gl : gs.length = 23
  dl : D.length = 29
  g1 : gs.toArray.all (·.oneCell') = true
  d1 : D.toArray.all (·.oneCell') = true
end Go.Proofs.YtmicohmbmgbnkaaGreatDoor
