/- The condition on the two tables of unicode/utf8: a world that meets it. -/
import Derived.Test.YtfoegpacjkcidaaDoorCards
import Derived.Test.YtfoegpacjkcidaaDoorTie
import Derived.Test.YtfoegpacjkcidaaDoorFrame
import Derived.Lay
import Derived.MakeChecks
import Derived.LaidLaws
import Derived.LaidHandle
import Derived.Deep.DeepHandedRow
namespace Go.Proofs.YtfoegpacjkcidaaDoor
open Go.ChangeShapes Go.WideShapes Go.RowKit

def laidT : List (String × DataW Unit) := [("unicode/utf8.acceptRanges", Rows.laid_unicode_utf8_acceptRanges), ("unicode/utf8.first", Rows.laid_unicode_utf8_first)]
noncomputable def laidWorldT (os : Os) : World := World.laidAll Tryd.prog os laidT
set_option maxRecDepth 100000 in
theorem laidT_met (os : Os) (args : Array Value) : laidMetH Tryd.prog laidT ((laidWorldT os).forCall (fun _ _ => 0) ⟨#[], args, []⟩).memory := by
  rw [MakeChecks.laidMetH_plain _ _ _ (by kernel_rfl)]
  exact laidMet_laidAll _ (by kernel_rfl) (by kernel_rfl)
end Go.Proofs.YtfoegpacjkcidaaDoor
