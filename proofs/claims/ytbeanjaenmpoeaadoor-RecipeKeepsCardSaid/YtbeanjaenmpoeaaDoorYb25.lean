/- An array of three bytes as an argument. -/
import Derived.Test.YtbeanjaenmpoeaaDoorYb0
import Derived.Test.YtbeanjaenmpoeaaDoorProg
import Derived.KernelRfl
namespace Go.Proofs.YtbeanjaenmpoeaaDoor
open Go.ChangeShapes Go.WideShapes Go.ChangeAt Go.RowKit

theorem tri_u8_flat : flatDesc Tryd.prog 3 73 = some [.int .u8, .int .u8, .int .u8] := by kernel_rfl
theorem u8_cell {v : Value} (h : cellOk (.int .u8) v) : ∃ n : Nat, v = .int .u8 n ∧ n ≤ 255 := by
  obtain ⟨n, rfl, h1, h2⟩ := h
  have h1 : 0 ≤ n := h1
  have h2 : n ≤ 255 := h2
  obtain ⟨k, rfl⟩ := Int.eq_ofNat_of_zero_le h1
  exact ⟨k, rfl, by omega⟩
set_option maxRecDepth 100000 in
theorem open_tri8 {H : Type} {enc : TypeId × Value → H} {w : World} {base : Nat} {spare : Nat → Bool} {held : Bool} {v : Value} {d : DataW H} {ps : List MemPlace} {r : Reach} {b0 : Nat}
    (hval : Value.okWide Tryd.prog w r b0 73 v) (h : DataW.Trod enc Tryd.prog w base spare held 73 v d ps) :
    ∃ a b c : Nat, v = .agg #[.int .u8 a, .int .u8 b, .int .u8 c] ∧ a ≤ 255 ∧ b ≤ 255 ∧ c ≤ 255 := by
  obtain ⟨cs, rfl, _, _⟩ : ∃ cs, v = .agg cs ∧ cs.size = Tryd.prog.cellsOf 73 ∧ Row.okWide Tryd.prog w r b0 73 cs := by
    simpa [Value.okWide, Tryd.underlying73] using hval
  obtain ⟨l⟩ := cs
  obtain ⟨fuel, hf⟩ := h
  obtain ⟨hl, hc⟩ := flat_trod 3 _ _ _ _ _ tri_u8_flat hf
  have e : (Value.agg ⟨l⟩).cells.toList = l := rfl
  rw [e] at hl hc
  match l, hl with
  | [c0, c1, c2], _ =>
    obtain ⟨a0, rfl, h0⟩ := u8_cell (hc 0 _ _ rfl rfl)
    obtain ⟨a1, rfl, h1⟩ := u8_cell (hc 1 _ _ rfl rfl)
    obtain ⟨a2, rfl, h2⟩ := u8_cell (hc 2 _ _ rfl rfl)
    exact ⟨a0, a1, a2, rfl, h0, h1, h2⟩
end Go.Proofs.YtbeanjaenmpoeaaDoor
