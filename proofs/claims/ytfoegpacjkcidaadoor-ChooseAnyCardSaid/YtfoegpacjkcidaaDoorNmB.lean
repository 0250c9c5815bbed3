/- Once, Without, Same, few: the walks of the functions on lists of names that cut, append or compare. -/
import Derived.Test.YtfoegpacjkcidaaDoorNmA
import Derived.RegionTactic
import Derived.BigQuiet
import Derived.Deep.QuietTactic
namespace Go.Proofs.YtfoegpacjkcidaaDoor
open Go.RowKit



end Go.Proofs.YtfoegpacjkcidaaDoor
