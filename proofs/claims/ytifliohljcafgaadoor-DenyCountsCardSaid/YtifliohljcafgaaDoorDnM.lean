/- DenyCounts: its arguments. -/
import Derived.Test.YtifliohljcafgaaDoorDnL
import Derived.Test.YtifliohljcafgaaDoorOpenRows
namespace Go.Proofs.YtifliohljcafgaaDoor
open Go.RowKit Go.ChangeShapes Go.WideShapes

def boolDs : List TypeDesc := [.bool]
theorem bool_flat : flatDesc Tryd.prog 2 4 = some boolDs := by kernel_rfl
theorem bools_of_rows : ∀ (zs : List (List Value)), (∀ z ∈ zs, allOk boolDs z) → ∃ bs' : List Bool, zs = bs'.map bv
  | [], _ => ⟨[], rfl⟩
  | z :: r, h => by
    obtain ⟨hl, hc⟩ := h z (by simp)
    match z, hl with
    | [c0], _ =>
      obtain ⟨b, rfl⟩ := hc 0 _ _ rfl rfl
      obtain ⟨l, rfl⟩ := bools_of_rows r (fun y hy => h y (by simp [hy]))
      exact ⟨b :: l, rfl⟩
set_option maxRecDepth 100000 in
theorem open_bools {H : Type} {enc : TypeId × Value → H} {w : World} {base : Nat} {spare : Nat → Bool} {held : Bool} {r : Reach} {b0 : Nat} {v : Value} {d : DataW H} {ps : List MemPlace}
    (hv : Value.okWide Tryd.prog w r b0 22 v) (h : DataW.Trod enc Tryd.prog w base spare held 22 v d ps) :
    ∃ (A : Option Addr) (n c : Nat) (L : List Bool), v = .slice A n c ∧ n ≤ 9223372036854775807 ∧ Rws w 1 A n (L.map bv) := by
  obtain ⟨a, len, cap, rfl⟩ := okWide_slice Tryd.underlying22 hv
  obtain ⟨fuel, hf⟩ := h
  obtain ⟨A, n, c, zs, hcs, hl, hm, hr, hok⟩ := open_rows Tryd.underlying22 bool_flat (by kernel_rfl) (by decide) hf
  obtain ⟨L, rfl⟩ := bools_of_rows zs hok
  have : Value.slice a len cap = .slice A n c := by simpa [Value.cells] using hcs
  unfold maxLen at hm
  exact ⟨A, n, c, L, this, by omega, hr⟩
theorem denyCounts_int (x : Int) (L : List Bool) (Al : Option Addr) (n c : Nat) (w : World) (hx : (Lit.int .u8 x).wf = true) (hn : n ≤ 9223372036854775807) (H : Rws w 1 Al n (L.map bv)) :
    Calls Tryd.prog 3 #[.int .u8 x, .slice Al n c] w fun r w' => r = .returned (.bool true) ∧ Below w.heap.size w w' := by
  simp only [Lit.wf, Bool.and_eq_true, decide_eq_true_eq, show IntKind.u8.min = 0 by decide, show IntKind.u8.max = 255 by decide] at hx
  obtain ⟨k, rfl⟩ := Int.eq_ofNat_of_zero_le hx.1
  exact denyCounts_any k L Al n c w (by omega) hn H
end Go.Proofs.YtifliohljcafgaaDoor
