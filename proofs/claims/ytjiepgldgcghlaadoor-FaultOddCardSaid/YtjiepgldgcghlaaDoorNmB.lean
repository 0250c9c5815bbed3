/- Once, Without, Same, few: the walks of the functions on lists of names that cut, append or compare. -/
import Derived.Test.YtjiepgldgcghlaaDoorNmA
import Derived.RegionTactic
import Derived.BigQuiet
import Derived.Deep.QuietTactic
namespace Go.Proofs.YtjiepgldgcghlaaDoor
open Go.RowKit



end Go.Proofs.YtjiepgldgcghlaaDoor
