/- TermShares: its arguments. -/
import Derived.Test.YtbeanjaenmpoeaaDoorTmM
import Derived.Test.YtbeanjaenmpoeaaDoorOpenRows
import Derived.OpenShut
import Derived.WideShapes
namespace Go.Proofs.YtbeanjaenmpoeaaDoor
open Go.RowKit Go.ChangeShapes Go.WideShapes

def pairDs : List TypeDesc := [.int .i64, .int .i64]
theorem pair_flat : flatDesc Tryd.prog 3 36 = some pairDs := by kernel_rfl
theorem pairs_of_rows : ∀ (zs : List (List Value)), (∀ z ∈ zs, allOk pairDs z) → ∃ ps : List (Int × Int), zs = ps.map pv
  | [], _ => ⟨[], rfl⟩
  | z :: r, h => by
    obtain ⟨hl, hc⟩ := h z (by simp)
    match z, hl with
    | [c0, c1], _ =>
      obtain ⟨a, rfl, _, _⟩ := hc 0 _ _ rfl rfl
      obtain ⟨b, rfl, _, _⟩ := hc 1 _ _ rfl rfl
      obtain ⟨l, rfl⟩ := pairs_of_rows r (fun y hy => h y (by simp [hy]))
      exact ⟨(a, b) :: l, rfl⟩
set_option maxRecDepth 100000 in
theorem open_pairs {H : Type} {enc : TypeId × Value → H} {w : World} {base : Nat} {spare : Nat → Bool} {held : Bool} {r : Reach} {b0 : Nat} {v : Value} {d : DataW H} {ps : List MemPlace}
    (hv : Value.okWide Tryd.prog w r b0 32 v) (h : DataW.Trod enc Tryd.prog w base spare held 32 v d ps) :
    ∃ (A : Option Addr) (n c : Nat) (L : List (Int × Int)), v = .slice A n c ∧ n ≤ 9223372036854775807 ∧ Rws w 2 A n (L.map pv) := by
  obtain ⟨a, len, cap, rfl⟩ := okWide_slice Tryd.underlying32 hv
  obtain ⟨fuel, hf⟩ := h
  obtain ⟨A, n, c, zs, hcs, hl, hm, hr, hok⟩ := open_rows Tryd.underlying32 pair_flat (by kernel_rfl) (by decide) hf
  obtain ⟨L, rfl⟩ := pairs_of_rows zs hok
  have : Value.slice a len cap = .slice A n c := by simpa [Value.cells] using hcs
  unfold maxLen at hm
  exact ⟨A, n, c, L, this, by omega, hr⟩
theorem cells_two : Tryd.prog.cellsOf 33 = 2 := by kernel_rfl
theorem cells_byte : Tryd.prog.cellsOf 5 = 1 := by kernel_rfl
set_option maxRecDepth 100000 in
theorem open_two {H : Type} {enc : TypeId × Value → H} {w : World} {base : Nat} {spare : Nat → Bool} {held : Bool} {v : Value} {d : DataW H} {ps : List MemPlace} {r : Reach} {b0 : Nat}
    (hval : Value.okWide Tryd.prog w r b0 33 v) (h : DataW.Trod enc Tryd.prog w base spare held 33 v d ps) :
    ∃ a b : Nat, v = .agg #[.int .u8 a, .int .u8 b] ∧ a < 256 ∧ b < 256 := by
  obtain ⟨cs, rfl, hsz, _⟩ : ∃ cs, v = .agg cs ∧ cs.size = Tryd.prog.cellsOf 33 ∧ Row.okWide Tryd.prog w r b0 33 cs := by
    simpa [Value.okWide, Tryd.underlying33] using hval
  rw [cells_two] at hsz
  obtain ⟨l⟩ := cs
  obtain ⟨c0, c1, rfl⟩ : ∃ c0 c1, l = [c0, c1] := by
    match l, hsz with
    | [c0, c1], _ => exact ⟨c0, c1, rfl⟩
  obtain ⟨fuel, hf⟩ := h
  obtain ⟨xs, m, _, ex, _, hl, hel⟩ := DataW.trod_array Tryd.underlying33 hf
  have h0 := hel 0 (by decide)
  have h1 := hel 1 (by decide)
  rw [cells_byte] at h0 h1
  obtain ⟨y0, y1, rfl⟩ : ∃ y0 y1, xs = [y0, y1] := by
    match xs, hl with
    | [y0, y1], _ => exact ⟨y0, y1, rfl⟩
  obtain ⟨a, e0, rfl, w0⟩ := DataW.trod_int Tryd.underlying5 h0
  obtain ⟨b, e1, rfl, w1⟩ := DataW.trod_int Tryd.underlying5 h1
  simp [Value.cells] at e0 e1
  subst e0 e1
  have ha : 0 ≤ a ∧ a ≤ 255 := by simpa [Lit.wf, IntKind.min, IntKind.max, IntKind.signed, IntKind.bits] using w0
  have hb : 0 ≤ b ∧ b ≤ 255 := by simpa [Lit.wf, IntKind.min, IntKind.max, IntKind.signed, IntKind.bits] using w1
  obtain ⟨i, rfl⟩ := Int.eq_ofNat_of_zero_le ha.1
  obtain ⟨j, rfl⟩ := Int.eq_ofNat_of_zero_le hb.1
  exact ⟨i, j, rfl, by omega, by omega⟩
theorem bs_of (b : ByteArray) : b = bs b.data.toList := by
  obtain ⟨⟨l⟩⟩ := b
  rfl
end Go.Proofs.YtbeanjaenmpoeaaDoor
