/- Prefs: Few. -/
import Derived.Test.YtmicohmbmgbnkaaGreatDoorVb38
namespace Go.Proofs.YtmicohmbmgbnkaaGreatDoor
open Go.RowKit
end Go.Proofs.YtmicohmbmgbnkaaGreatDoor
