/- The reference's recipe. (printed by wip/gen_slt.py) -/
import Derived.Test.YtmicohmbmgbnkaaGreatDoorWb30
import Derived.Test.YtmicohmbmgbnkaaGreatDoorWb26
import Derived.Test.YtmicohmbmgbnkaaGreatDoorWb5
import Derived.Deep.RegionHeld3
namespace Go.Proofs.YtmicohmbmgbnkaaGreatDoor
open Go Go.RowKit Go.Shelf
open Go.Lib (itoa)

structure RcI (wa wb : World) (l : List OpX) (o : OpX) (rowv : List Value) (u4 : Value) (l13 l14 l15 : Bool) (t4 t81 t82 : Value) (W : World) : Prop where
  s4 : l15 = false → t4 = u4
  bl : l14 = false → Below wb.heap.size wb W
  s81 : l13 = true → l14 = false → ∃ g, t81 = .slice (some ⟨g, 0, none⟩) 1 1 ∧ W.rangeAt g 0 rowv
  s82 : l14 = true → OwnR W wa.heap.size 5 85 t82 ((l ++ [o]).map OpX.row) ∧ Below wa.heap.size wa W
  s9 : l15 = true → t4 = t82
end Go.Proofs.YtmicohmbmgbnkaaGreatDoor
