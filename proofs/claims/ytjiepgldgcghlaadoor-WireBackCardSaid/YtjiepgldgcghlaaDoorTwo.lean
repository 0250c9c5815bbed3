/- Two bytes by value, opened. -/
import Derived.Test.YtjiepgldgcghlaaDoorWrA
import Derived.OpenShut
import Derived.WideShapes
namespace Go.Proofs.YtjiepgldgcghlaaDoor
open Go.ChangeShapes Go.WideShapes Go.RowKit

theorem cells_two : Tryd.prog.cellsOf 61 = 2 := by kernel_rfl
theorem cells_byte : Tryd.prog.cellsOf 5 = 1 := by kernel_rfl
set_option maxRecDepth 100000 in
theorem open_two {H : Type} {enc : TypeId × Value → H} {w : World} {base : Nat} {spare : Nat → Bool} {held : Bool} {v : Value} {d : DataW H} {ps : List MemPlace} {r : Reach} {b0 : Nat}
    (hval : Value.okWide Tryd.prog w r b0 61 v) (h : DataW.Trod enc Tryd.prog w base spare held 61 v d ps) :
    ∃ a b : Int, v = .agg #[.int .u8 a, .int .u8 b] ∧ d = .agg [.lit (.int .u8 a), .lit (.int .u8 b)] ∧ ps = [] ∧ 0 ≤ a ∧ a < 256 ∧ 0 ≤ b ∧ b < 256 := by
  obtain ⟨cs, rfl, hsz, _⟩ : ∃ cs, v = .agg cs ∧ cs.size = Tryd.prog.cellsOf 61 ∧ Row.okWide Tryd.prog w r b0 61 cs := by
    simpa [Value.okWide, Tryd.underlying61] using hval
  rw [cells_two] at hsz
  obtain ⟨l⟩ := cs
  obtain ⟨c0, c1, rfl⟩ : ∃ c0 c1, l = [c0, c1] := by
    match l, hsz with
    | [c0, c1], _ => exact ⟨c0, c1, rfl⟩
  obtain ⟨fuel, hf⟩ := h
  obtain ⟨xs, m, _, ex, _, hl, hel⟩ := DataW.trod_array Tryd.underlying61 hf
  have h0 := hel 0 (by decide)
  have h1 := hel 1 (by decide)
  rw [cells_byte] at h0 h1
  obtain ⟨y0, y1, rfl⟩ : ∃ y0 y1, xs = [y0, y1] := by
    match xs, hl with
    | [y0, y1], _ => exact ⟨y0, y1, rfl⟩
  obtain ⟨a, e0, rfl, w0⟩ := DataW.trod_int Tryd.underlying5 h0
  obtain ⟨b, e1, rfl, w1⟩ := DataW.trod_int Tryd.underlying5 h1
  simp [Value.cells] at e0 e1
  subst e0 e1
  simp at ex
  obtain ⟨rfl, rfl⟩ := ex
  have ha : 0 ≤ a ∧ a ≤ 255 := by simpa [Lit.wf, IntKind.min, IntKind.max, IntKind.signed, IntKind.bits] using w0
  have hb : 0 ≤ b ∧ b ≤ 255 := by simpa [Lit.wf, IntKind.min, IntKind.max, IntKind.signed, IntKind.bits] using w1
  exact ⟨a, b, rfl, rfl, rfl, by omega, by omega, by omega, by omega⟩
end Go.Proofs.YtjiepgldgcghlaaDoor
