/- The condition on errors.errorType: what a walk needs of it; a world that meets it. -/
import Derived.Test.YtlonejkmdibkaaaDoorCards
import Derived.Test.YtlonejkmdibkaaaDoorTie
import Derived.Test.YtlonejkmdibkaaaDoorFlA
import Derived.Test.YtlonejkmdibkaaaDoorFrame
import Derived.LaidLaws
import Derived.LaidHandle
import Derived.Deep.DeepHandedRow
namespace Go.Proofs.YtlonejkmdibkaaaDoor
open Go.ChangeShapes Go.WideShapes Go.RowKit

def laidE : List (String × DataW Unit) := [("errors.errorType", Rows.laid_errors_errorType)]
theorem doorEt : Tryd.prog.globalNamed "errors.errorType" = some 2 := by kernel_rfl
theorem doorRt : (Tryd.prog.cutTypes.find? (·.1 == "internal/reflectlite.rtype")).map (·.2) = some 188 := by kernel_rfl
theorem doorSize : Tryd.prog.types.size = 265 := by kernel_rfl
theorem doorRow : ((List.range 265).filter fun t => Tryd.prog.rowNamed t [101, 114, 114, 111, 114]) = [34] := by kernel_rfl
theorem ety_of_laid {W : World} (h : laidMetH Tryd.prog laidE W) : ETy W := by
  have h' : laidMet Tryd.prog [] W ∧ handlesMet Tryd.prog laidE W := h
  obtain ⟨name, u, ty, e1, e2, e3, e4, e5⟩ := h'.2 _ (List.mem_singleton.2 rfl)
  have en : name = [101, 114, 114, 111, 114] := (Option.some.inj e1).symm
  subst en
  obtain rfl := Option.some.inj (doorRt.symm.trans e2)
  have hm : ty ∈ (List.range 265).filter fun t => Tryd.prog.rowNamed t [101, 114, 114, 111, 114] := List.mem_filter.2 ⟨List.mem_range.2 (by rw [← doorSize]; exact e3), e4⟩
  rw [doorRow] at hm
  obtain rfl := List.mem_singleton.1 hm
  have hh : typeHandle Tryd.prog 34 = .pointer (some ⟨9, 34, none⟩) := by kernel_rfl
  rw [hh] at e5
  have hc : W.cell? ⟨2, 0, none⟩ = some (.iface 188 (.agg #[.pointer (some ⟨9, 34, none⟩)])) := by simpa using World.var?_cell doorEt e5 0
  have hl := block_lt_of_cell hc
  exact ⟨Nat.lt_of_le_of_lt (Nat.zero_le _) hl, hc, hl⟩

/-- A world that meets the condition: the settled one, the variable's cell laid. -/
noncomputable def laidWorld (os : Os) : World :=
  { World.holding Tryd.prog os ⟨#[], #[], []⟩ with heap := (World.holding Tryd.prog os ⟨#[], #[], []⟩).heap.modify 2 fun
      | .cells _ t frozen => .cells #[.iface 188 (.agg #[.pointer (some ⟨9, 34, none⟩)])] t frozen
      | o => o }
theorem laid_met (os : Os) (args : Array Value) : laidMetH Tryd.prog laidE ((laidWorld os).forCall (fun _ _ => 0) ⟨#[], args, []⟩).memory :=
  laidMetH_of_parts (laidMet_nil _ _) (by kernel_rfl)
end Go.Proofs.YtlonejkmdibkaaaDoor
