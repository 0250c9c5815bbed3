/- The reference's put: the lists. (printed by wip/gen_slv2.py) -/
import Derived.Test.YtmicohmbmgbnkaaGreatDoorWb33
namespace Go.Proofs.YtmicohmbmgbnkaaGreatDoor
open Go Go.RowKit Go.Shelf
open Go.Lib (itoa)

end Go.Proofs.YtmicohmbmgbnkaaGreatDoor
