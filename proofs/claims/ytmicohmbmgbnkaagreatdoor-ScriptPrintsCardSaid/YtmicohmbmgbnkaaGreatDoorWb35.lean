/- The reference's put: the wish. (printed by wip/gen_slv2.py) -/
import Derived.Test.YtmicohmbmgbnkaaGreatDoorWb34
namespace Go.Proofs.YtmicohmbmgbnkaaGreatDoor
open Go Go.RowKit Go.Shelf
open Go.Lib (itoa)

end Go.Proofs.YtmicohmbmgbnkaaGreatDoor
