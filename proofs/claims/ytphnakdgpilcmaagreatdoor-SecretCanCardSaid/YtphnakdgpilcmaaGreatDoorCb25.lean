/- Texts joined: what each shows stands ahead of its theorems. -/
import Derived.Test.YtphnakdgpilcmaaGreatDoorCb0
import Derived.Test.YtphnakdgpilcmaaGreatDoorProg
import Derived.KernelRfl
import Derived.Test.YtphnakdgpilcmaaGreatDoorCb21
namespace Go.Proofs.YtphnakdgpilcmaaGreatDoor
section
open Go.ChangeShapes Go.WideShapes Go.ChangeAt Go.RowKit

theorem tri_int_flat : flatDesc Tryz.prog 3 23 = some [.int .i64, .int .i64, .int .i64] := by kernel_rfl
theorem i64_of {v : Value} (h : cellOk (.int .i64) v) : ∃ n : Int, v = .int .i64 n ∧ -9223372036854775808 ≤ n ∧ n ≤ 9223372036854775807 := by
  obtain ⟨n, rfl, h1, h2⟩ := h
  have h1 : -9223372036854775808 ≤ n := h1
  have h2 : n ≤ 9223372036854775807 := h2
  exact ⟨n, rfl, h1, h2⟩
set_option maxRecDepth 100000 in
theorem open_tri {H : Type} {enc : TypeId × Value → H} {w : World} {base : Nat} {spare : Nat → Bool} {held : Bool} {v : Value} {d : DataW H} {ps : List MemPlace} {r : Reach} {b0 : Nat}
    (hval : Value.okWide Tryz.prog w r b0 23 v) (h : DataW.Trod enc Tryz.prog w base spare held 23 v d ps) :
    ∃ X : List Int, v = .agg (X.map (Value.int .i64)).toArray ∧ X.length = 3 ∧ ∀ x ∈ X, -9223372036854775808 ≤ x ∧ x ≤ 9223372036854775807 := by
  obtain ⟨cs, rfl, _, _⟩ : ∃ cs, v = .agg cs ∧ cs.size = Tryz.prog.cellsOf 23 ∧ Row.okWide Tryz.prog w r b0 23 cs := by
    simpa [Value.okWide, Tryz.underlying23] using hval
  obtain ⟨l⟩ := cs
  obtain ⟨fuel, hf⟩ := h
  obtain ⟨hl, hc⟩ := flat_trod 3 _ _ _ _ _ tri_int_flat hf
  have e : (Value.agg ⟨l⟩).cells.toList = l := rfl
  rw [e] at hl hc
  match l, hl with
  | [c0, c1, c2], _ =>
    obtain ⟨a0, rfl, h0⟩ := i64_of (hc 0 _ _ rfl rfl)
    obtain ⟨a1, rfl, h1⟩ := i64_of (hc 1 _ _ rfl rfl)
    obtain ⟨a2, rfl, h2⟩ := i64_of (hc 2 _ _ rfl rfl)
    refine ⟨[a0, a1, a2], rfl, rfl, fun x hx => ?_⟩
    simp only [List.mem_cons, List.not_mem_nil, or_false] at hx
    rcases hx with rfl | rfl | rfl
    · exact h0
    · exact h1
    · exact h2
end

section
open Go.ChangeShapes Go.WideShapes Go.ChangeAt Go.RowKit

theorem three_of3 {X : List Int} (h : X.length = 3) : ∃ a b c, X = [a, b, c] := by
  match X, h with
  | [a, b, c], _ => exact ⟨a, b, c, rfl⟩
end
end Go.Proofs.YtphnakdgpilcmaaGreatDoor
