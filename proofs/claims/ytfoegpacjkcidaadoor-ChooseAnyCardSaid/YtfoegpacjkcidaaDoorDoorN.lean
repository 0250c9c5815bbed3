/- The condition on errors.errorType: what a walk needs of it; a world that meets it. -/
import Derived.Test.YtfoegpacjkcidaaDoorPfQ
import Derived.Test.YtfoegpacjkcidaaDoorCards
import Derived.Test.YtfoegpacjkcidaaDoorTie
import Derived.Test.YtfoegpacjkcidaaDoorFl0
import Derived.Test.YtfoegpacjkcidaaDoorFrame
import Derived.Lay
import Derived.LaidLaws
import Derived.LaidHandle
import Derived.Deep.DeepHandedRow
namespace Go.Proofs.YtfoegpacjkcidaaDoor
open Go.ChangeShapes Go.WideShapes Go.RowKit

def laidM : List (String × DataW Unit) := [("errors.errorType", Rows.laid_errors_errorType), ("shibboleth/prefs.methods", Rows.laid_shibboleth_prefs_methods), ("shibboleth/prefs.words", Rows.laid_shibboleth_prefs_words)]
def laidE : List (String × DataW Unit) := [("errors.errorType", Rows.laid_errors_errorType)]
def laidP : List (String × DataW Unit) := [("shibboleth/prefs.methods", Rows.laid_shibboleth_prefs_methods), ("shibboleth/prefs.words", Rows.laid_shibboleth_prefs_words)]
theorem doorEt : Tryd.prog.globalNamed "errors.errorType" = some 2 := by kernel_rfl
theorem doorRt : (Tryd.prog.cutTypes.find? (·.1 == "internal/reflectlite.rtype")).map (·.2) = some 107 := by kernel_rfl
theorem doorSize : Tryd.prog.types.size = 163 := by kernel_rfl
theorem doorRow : ((List.range 163).filter fun t => Tryd.prog.rowNamed t [101, 114, 114, 111, 114]) = [30] := by kernel_rfl
theorem ety_of_laid {W : World} (h : laidMetH Tryd.prog laidM W) : ETy W := by
  have h' : laidMet Tryd.prog laidP W ∧ handlesMet Tryd.prog laidE W := h
  obtain ⟨name, u, ty, e1, e2, e3, e4, e5⟩ := h'.2 _ (List.mem_singleton.2 rfl)
  have en : name = [101, 114, 114, 111, 114] := (Option.some.inj e1).symm
  subst en
  obtain rfl := Option.some.inj (doorRt.symm.trans e2)
  have hm : ty ∈ (List.range 163).filter fun t => Tryd.prog.rowNamed t [101, 114, 114, 111, 114] := List.mem_filter.2 ⟨List.mem_range.2 (by rw [← doorSize]; exact e3), e4⟩
  rw [doorRow] at hm
  obtain rfl := List.mem_singleton.1 hm
  have hh : typeHandle Tryd.prog 30 = .pointer (some ⟨6, 30, none⟩) := by kernel_rfl
  rw [hh] at e5
  have hc : W.cell? ⟨2, 0, none⟩ = some (.iface 107 (.agg #[.pointer (some ⟨6, 30, none⟩)])) := by simpa using World.var?_cell doorEt e5 0
  have hl := block_lt_of_cell hc
  exact ⟨Nat.lt_of_le_of_lt (Nat.zero_le _) hl, hc, hl⟩

/-- A world that meets the condition: the settled one, the variable's cell laid, then the plain data. -/
noncomputable def laidWorldE (os : Os) : World :=
  { World.holding Tryd.prog os ⟨#[], #[], []⟩ with heap := (World.holding Tryd.prog os ⟨#[], #[], []⟩).heap.modify 2 fun
      | .cells _ t frozen => .cells #[.iface 107 (.agg #[.pointer (some ⟨6, 30, none⟩)])] t frozen
      | o => o }
noncomputable def laidWorld (os : Os) : World := (laidWorldE os).layVars Tryd.prog laidP
set_option maxRecDepth 100000 in
theorem laidP_met (os : Os) (args : Array Value) : laidMet Tryd.prog laidP ((laidWorld os).forCall (fun _ _ => 0) ⟨#[], args, []⟩).memory := by
  have e1 : (laidP.filter fun x => (laidP.map (·.1)).contains x.1) = laidP := List.filter_eq_self.2 fun x hx => List.contains_iff_mem.2 (List.mem_map.2 ⟨x, hx, rfl⟩)
  have e2 : (laidP.filter fun x => !(laidP.map (·.1)).contains x.1) = [] := List.filter_eq_nil_iff.2 fun x hx => by rw [List.contains_iff_mem.2 (List.mem_map.2 ⟨x, hx, rfl⟩)]; simp
  have h : laidMet Tryd.prog laidP (laidWorld os) := laidMet_layVars (w0 := laidWorldE os) (laidP.map (·.1)) [] (by rw [e1]; rfl) (by rw [e1]; kernel_rfl) (by rw [e1]; kernel_rfl) (by rw [e2]; exact LaidIn.none)
  exact h.of_heap (by simp [World.memory, World.forCall, Input.heap])
theorem laid_met (os : Os) (args : Array Value) : laidMetH Tryd.prog laidM ((laidWorld os).forCall (fun _ _ => 0) ⟨#[], args, []⟩).memory :=
  laidMetH_of_parts (laidP_met os args) (by kernel_rfl)
theorem pv_of_laidH {W : World} (h : laidMetH Tryd.prog laidM W) : PV W := by
  have h' : laidMet Tryd.prog laidP W ∧ handlesMet Tryd.prog laidE W := h
  exact pv_of_laid h'.1
end Go.Proofs.YtfoegpacjkcidaaDoor
