/- The condition on the tables of math/bits and strconv: a world that meets it. -/
import Derived.Test.YtbeanjaenmpoeaaDoorCards
import Derived.Test.YtbeanjaenmpoeaaDoorTie
import Derived.Test.YtbeanjaenmpoeaaDoorFrame
import Derived.Lay
import Derived.MakeChecks
import Derived.LaidLaws
import Derived.LaidHandle
import Derived.Deep.DeepHandedRow
namespace Go.Proofs.YtbeanjaenmpoeaaDoor
open Go.ChangeShapes Go.WideShapes Go.RowKit

def laidT : List (String × DataW Unit) := [("math/bits.deBruijn32tab", Rows.laid_math_bits_deBruijn32tab), ("math/bits.deBruijn64tab", Rows.laid_math_bits_deBruijn64tab), ("internal/strconv.uint64pow10", Rows.laid_internal_strconv_uint64pow10)]
noncomputable def laidWorldT (os : Os) : World := World.laidAll Tryd.prog os laidT
set_option maxRecDepth 100000 in
theorem laidT_met (os : Os) (args : Array Value) : laidMetH Tryd.prog laidT ((laidWorldT os).forCall (fun _ _ => 0) ⟨#[], args, []⟩).memory := by
  rw [MakeChecks.laidMetH_plain _ _ _ (by kernel_rfl)]
  exact laidMet_laidAll _ (by kernel_rfl) (by kernel_rfl)
end Go.Proofs.YtbeanjaenmpoeaaDoor
