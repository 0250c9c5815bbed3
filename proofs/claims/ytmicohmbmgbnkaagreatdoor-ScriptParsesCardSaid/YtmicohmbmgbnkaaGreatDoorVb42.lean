/- A step as an argument: its cells, and its values. (printed by wip/gen_smf.py) -/
import Derived.Test.YtmicohmbmgbnkaaGreatDoorVb40
import Derived.WideShapes
namespace Go.Proofs.YtmicohmbmgbnkaaGreatDoor
open Go Go.RowKit Go.Shelf Go.ChangeShapes Go.WideShapes Go.Deep
def BigPV : PV→Prop
 | .text s=>s.length≤9223372036854775807
 | .texts l=> ∀s∈l,s.length≤9223372036854775807
 | .ops l=> ∀o∈l,o.s.length≤9223372036854775807
 | .grants l=>(∀g∈l,g.user.length≤9223372036854775807)∧∀g∈l,I64 g.who
 | _=>True
section
variable {H : Type} {enc : TypeId × Value→H} {w : World} {base : Nat} {spare : Nat→Bool} {held : Bool} {fuel : Nat} {cs : List Value} {x : DataW H × List MemPlace}
end
end Go.Proofs.YtmicohmbmgbnkaaGreatDoor
