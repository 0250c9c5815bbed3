/- The reference's grants. (printed by wip/gen_sls.py) -/
import Derived.Test.YtmicohmbmgbnkaaGreatDoorWb29
namespace Go.Proofs.YtmicohmbmgbnkaaGreatDoor
open Go Go.RowKit Go.Shelf
open Go.Lib (itoa)

end Go.Proofs.YtmicohmbmgbnkaaGreatDoor
