/- Few of confs, of steps. (printed by wip/gen_sme.py) -/
import Derived.Test.YtmicohmbmgbnkaaGreatDoorVb42
import Derived.Test.YtmicohmbmgbnkaaGreatDoorVb43
namespace Go.Proofs.YtmicohmbmgbnkaaGreatDoor
open Go Go.RowKit Go.Shelf Go.ChangeShapes Go.WideShapes Go.Deep
structure FewC (vs : List PV) : Prop where
 pr : ∀(i : Nat) l,8≤i→i < 16→vs[i]? =some (.texts l)→l.length≤20∧∀s∈l,s.length≤100
 al : ∀l,vs[16]? =some (.texts l)→l.length≤20∧∀s∈l,s.length≤300
 gr : ∀l,vs[18]? =some (.grants l)→l.length≤20∧∀g∈l,g.user.length≤300
 ks : ∀l,vs[22]? =some (.nums l)→l.length≤20
 tx : ∀(i : Nat) s,i=6∨i=7∨i=21→vs[i]? =some (.text s)→s.length≤300
section
variable {W : World} {kd : Int} {vs : List PV} {cs : List Value}
end
end Go.Proofs.YtmicohmbmgbnkaaGreatDoor
