/- Names: lists that may be, and the reference's way to say so: no name that may not be, none twice. -/
import Derived.Test.YtifliohljcafgaaDoorNmS
import Derived.Test.YtifliohljcafgaaDoorNmB
namespace Go.Proofs.YtifliohljcafgaaDoor
open Go.RowKit

/-- What is wrong with a list: as a peer's lists and a gate's algorithms are asked. -/
def algsN (ss : List ByteArray) : Int := if ss.length = 0 then 6 else if 15 < ss.length then 2 else if once ss && ss.all nmOkB then 0 else 3
theorem algs_once {ss : List ByteArray} (h0 : ss.length ≠ 0) (h1 : ss.length ≤ 15) : algsN ss = if once ss then checkN ss else 3 := by
  have h2 : ¬ 15 < ss.length := by omega
  have h3 : ¬ 16 < ss.length := by omega
  unfold algsN checkN
  rw [if_neg h0, if_neg h2]
  cases once ss <;> cases ss.all nmOkB <;> simp [h3]
end Go.Proofs.YtifliohljcafgaaDoor
