/- Prefs: few lists are short. -/
import Derived.Test.YtfoegpacjkcidaaDoorPfI
namespace Go.Proofs.YtfoegpacjkcidaaDoor
open Go.RowKit

theorem fewL_sizes {L : List (List ByteArray)} (h : fewP L = true) : ∀ l ∈ L, l.length ≤ 1000000 := by
  intro l hl
  have := List.all_eq_true.1 h l hl
  unfold fewL at this
  simp only [Bool.and_eq_true, decide_eq_true_eq] at this
  omega
end Go.Proofs.YtfoegpacjkcidaaDoor
