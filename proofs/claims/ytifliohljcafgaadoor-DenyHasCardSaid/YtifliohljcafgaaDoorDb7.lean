/- A pair of strings as an argument. -/
import Derived.Test.YtifliohljcafgaaDoorDb0
import Derived.Test.YtifliohljcafgaaDoorProg
import Derived.KernelRfl
namespace Go.Proofs.YtifliohljcafgaaDoor
open Go.ChangeShapes Go.WideShapes Go.ChangeAt Go.RowKit

theorem two_str_flat : flatDesc Tryd.prog 3 43 = some [.string, .string] := by kernel_rfl
set_option maxRecDepth 100000 in
theorem open_two_str {H : Type} {enc : TypeId × Value → H} {w : World} {base : Nat} {spare : Nat → Bool} {held : Bool} {v : Value} {d : DataW H} {ps : List MemPlace} {r : Reach} {b0 : Nat}
    (hval : Value.okWide Tryd.prog w r b0 43 v) (h : DataW.Trod enc Tryd.prog w base spare held 43 v d ps) :
    ∃ a b : ByteArray, v = .agg #[.string a, .string b] ∧ a.size ≤ 9223372036854775807 ∧ b.size ≤ 9223372036854775807 := by
  obtain ⟨cs, rfl, _, _⟩ : ∃ cs, v = .agg cs ∧ cs.size = Tryd.prog.cellsOf 43 ∧ Row.okWide Tryd.prog w r b0 43 cs := by
    simpa [Value.okWide, Tryd.underlying43] using hval
  obtain ⟨l⟩ := cs
  obtain ⟨fuel, hf⟩ := h
  obtain ⟨hl, hc⟩ := flat_trod 3 _ _ _ _ _ two_str_flat hf
  have e : (Value.agg ⟨l⟩).cells.toList = l := rfl
  rw [e] at hl hc
  match l, hl with
  | [c0, c1], _ =>
    obtain ⟨a0, rfl, h0⟩ := hc 0 _ _ rfl rfl
    obtain ⟨a1, rfl, h1⟩ := hc 1 _ _ rfl rfl
    exact ⟨a0, a1, rfl, by unfold maxLen at h0; omega, by unfold maxLen at h1; omega⟩
end Go.Proofs.YtifliohljcafgaaDoor
