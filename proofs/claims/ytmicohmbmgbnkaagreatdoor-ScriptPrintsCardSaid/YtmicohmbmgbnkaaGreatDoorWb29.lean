/- The reference's equals, numbers, names. (printed by wip/gen_slr.py) -/
import Derived.Test.YtmicohmbmgbnkaaGreatDoorWb23
import Derived.Test.YtmicohmbmgbnkaaGreatDoorWb11
namespace Go.Proofs.YtmicohmbmgbnkaaGreatDoor
open Go Go.RowKit Go.Shelf
open Go.Lib (itoa)

theorem c10 : (((10 : UInt8).toNat : Nat) : Int) = 10 := rfl
end Go.Proofs.YtmicohmbmgbnkaaGreatDoor
