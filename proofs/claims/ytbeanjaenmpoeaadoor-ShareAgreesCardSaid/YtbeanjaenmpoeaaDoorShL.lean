/- Shares: the laws' arguments. -/
import Derived.Test.YtbeanjaenmpoeaaDoorShK
import Derived.Test.YtbeanjaenmpoeaaDoorOpenRows
import Derived.OpenShut
import Derived.WideShapes
namespace Go.Proofs.YtbeanjaenmpoeaaDoor
open Go.RowKit Go.ChangeShapes Go.WideShapes

theorem shareKeeps_int (G : List UInt8) (x y : Int) (w : World) (hx : (Lit.int .u16 x).wf = true) (hy : (Lit.int .u16 y).wf = true) :
    Calls Tryd.prog 7 #[.string (bs G), .int .u16 x, .int .u16 y] w fun r w' => r = .returned (.bool true) ∧ Below w.heap.size w w' := by
  simp only [Lit.wf, Bool.and_eq_true, decide_eq_true_eq, show IntKind.u16.min = 0 by decide, show IntKind.u16.max = 65535 by decide] at hx hy
  obtain ⟨n, rfl⟩ := Int.eq_ofNat_of_zero_le hx.1
  obtain ⟨k, rfl⟩ := Int.eq_ofNat_of_zero_le hy.1
  exact shareKeeps_any G n k w (by omega) (by omega)
def sixDs : List TypeDesc := [.int .u16, .int .u16, .int .u16, .int .u16, .int .u16, .int .u16]
theorem six_flat : flatDesc Tryd.prog 4 48 = some sixDs := by kernel_rfl
theorem u16_of {v : Value} (h : cellOk (.int .u16) v) : ∃ n : Nat, v = .int .u16 n ∧ n ≤ 65535 := by
  obtain ⟨n, rfl, h1, h2⟩ := h
  have h1 : 0 ≤ n := h1
  have h2 : n ≤ 65535 := h2
  obtain ⟨k, rfl⟩ := Int.eq_ofNat_of_zero_le h1
  exact ⟨k, rfl, by omega⟩
set_option maxRecDepth 100000 in
theorem open_six {H : Type} {enc : TypeId × Value → H} {w : World} {base : Nat} {spare : Nat → Bool} {held : Bool} {v : Value} {d : DataW H} {ps : List MemPlace} {r : Reach} {b0 : Nat}
    (hval : Value.okWide Tryd.prog w r b0 48 v) (h : DataW.Trod enc Tryd.prog w base spare held 48 v d ps) :
    ∃ a b c d e f : Nat, v = .agg #[.int .u16 a, .int .u16 b, .int .u16 c, .int .u16 d, .int .u16 e, .int .u16 f] ∧ a ≤ 65535 ∧ b ≤ 65535 ∧ c ≤ 65535 ∧ d ≤ 65535 ∧ e ≤ 65535 ∧ f ≤ 65535 := by
  obtain ⟨cs, rfl, _, _⟩ : ∃ cs, v = .agg cs ∧ cs.size = Tryd.prog.cellsOf 48 ∧ Row.okWide Tryd.prog w r b0 48 cs := by
    simpa [Value.okWide, Tryd.underlying48] using hval
  obtain ⟨l⟩ := cs
  obtain ⟨fuel, hf⟩ := h
  obtain ⟨hl, hc⟩ := flat_trod 4 _ _ _ _ _ six_flat hf
  have e : (Value.agg ⟨l⟩).cells.toList = l := rfl
  rw [e] at hl hc
  match l, hl with
  | [c0, c1, c2, c3, c4, c5], _ =>
    obtain ⟨a0, rfl, h0⟩ := u16_of (hc 0 _ _ rfl rfl)
    obtain ⟨a1, rfl, h1⟩ := u16_of (hc 1 _ _ rfl rfl)
    obtain ⟨a2, rfl, h2⟩ := u16_of (hc 2 _ _ rfl rfl)
    obtain ⟨a3, rfl, h3⟩ := u16_of (hc 3 _ _ rfl rfl)
    obtain ⟨a4, rfl, h4⟩ := u16_of (hc 4 _ _ rfl rfl)
    obtain ⟨a5, rfl, h5⟩ := u16_of (hc 5 _ _ rfl rfl)
    exact ⟨a0, a1, a2, a3, a4, a5, rfl, h0, h1, h2, h3, h4, h5⟩
end Go.Proofs.YtbeanjaenmpoeaaDoor
