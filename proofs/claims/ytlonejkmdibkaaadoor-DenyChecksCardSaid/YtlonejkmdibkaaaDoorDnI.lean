/- Deny: a book as an argument. -/
import Derived.Test.YtlonejkmdibkaaaDoorDnA
import Derived.Test.YtlonejkmdibkaaaDoorStr
import Derived.WideShapes
namespace Go.Proofs.YtlonejkmdibkaaaDoor
open Go.RowKit Go.ChangeShapes Go.WideShapes Go.Deep

def grDs : List TypeDesc := [.string, .int .i64]
theorem gr_flat : flatDesc Tryd.prog 3 87 = some grDs := by kernel_rfl
theorem grs_of_rows : ∀ (zs : List (List Value)), (∀ z ∈ zs, allOk grDs z) → ∃ gs : List Gr, zs = gs.map grv ∧ ∀ x ∈ gs, x.1.size ≤ maxLen
  | [], _ => ⟨[], rfl, by simp⟩
  | z :: r, h => by
    obtain ⟨hl, hc⟩ := h z (by simp)
    match z, hl with
    | [c0, c1], _ =>
      obtain ⟨s, rfl, hs⟩ := hc 0 _ _ rfl rfl
      obtain ⟨n, rfl, _⟩ := hc 1 _ _ rfl rfl
      obtain ⟨gs, rfl, hgs⟩ := grs_of_rows r (fun y hy => h y (by simp [hy]))
      refine ⟨(s, n) :: gs, rfl, fun x hx => ?_⟩
      rcases List.mem_cons.1 hx with rfl | hx
      · exact hs
      · exact hgs x hx
theorem book_cells : Tryd.prog.cellsOf 74 = 3 := by kernel_rfl
theorem grsl_cells : Tryd.prog.cellsOf 72 = 1 := by kernel_rfl
theorem strsl_cells' : Tryd.prog.cellsOf 41 = 1 := by kernel_rfl
theorem int_cells' : Tryd.prog.cellsOf 3 = 1 := by kernel_rfl
theorem book_field (fs : Array Field) (hu : Tryd.prog.underlying 74 = some (.struct fs)) : (∃ f, fs[0]? = some f ∧ f.offset = 0 ∧ f.type = 72) ∧ (∃ f, fs[1]? = some f ∧ f.offset = 1 ∧ f.type = 41) ∧ (∃ f, fs[2]? = some f ∧ f.offset = 2 ∧ f.type = 3) := by
  have h := Tryd.underlying74
  rw [hu] at h
  injection h with h
  injection h with h
  subst h
  exact ⟨⟨_, rfl, rfl, rfl⟩, ⟨_, rfl, rfl, rfl⟩, ⟨_, rfl, rfl, rfl⟩⟩
set_option maxRecDepth 100000 in
theorem open_book {H : Type} {enc : TypeId × Value → H} {w : World} {base : Nat} {spare : Nat → Bool} {held : Bool} {r : Reach} {b0 : Nat} {v : Value} {d : DataW H} {ps : List MemPlace}
    (hv : Value.okWide Tryd.prog w r b0 74 v) (h : DataW.Trod enc Tryd.prog w base spare held 74 v d ps) :
    ∃ A n c B m e l gs ss, v = .agg #[.slice A n c, .slice B m e, .int .i64 l] ∧ n ≤ c ∧ c ≤ 9223372036854775807 ∧ m ≤ e ∧ e ≤ 9223372036854775807 ∧ Grs w A n gs ∧ (∀ x ∈ gs, x.1.size ≤ 9223372036854775807) ∧ Strs w B m ss ∧ ∀ s ∈ ss, s.size ≤ 9223372036854775807 := by
  obtain ⟨fs, hu⟩ : ∃ fs, Tryd.prog.underlying 74 = some (.struct fs) := ⟨_, Tryd.underlying74⟩
  obtain ⟨cs, rfl, hsz⟩ := okWide_struct hu hv
  rw [book_cells] at hsz
  obtain ⟨l⟩ := cs
  obtain ⟨v0, v1, v2, rfl⟩ : ∃ v0 v1 v2, l = [v0, v1, v2] := by
    match l, hsz with
    | [v0, v1, v2], _ => exact ⟨v0, v1, v2, rfl⟩
  obtain ⟨fuel, hf⟩ := h
  obtain ⟨xs, m0, _, _, hl, hxl, hfi⟩ := DataW.trod_struct hu hf
  obtain ⟨⟨f0, a0, b0', t0⟩, ⟨f1, a1, b1, t1⟩, ⟨f2, a2, b2, t2⟩⟩ := book_field fs hu
  have g0 := hfi 0 f0 a0
  have g1 := hfi 1 f1 a1
  have g2 := hfi 2 f2 a2
  obtain ⟨x0, e0⟩ : ∃ x, xs[0]? = some x := ⟨_, List.getElem?_eq_getElem (by rw [hxl]; exact (Array.getElem?_eq_some_iff.1 a0).1)⟩
  obtain ⟨x1, e1⟩ : ∃ x, xs[1]? = some x := ⟨_, List.getElem?_eq_getElem (by rw [hxl]; exact (Array.getElem?_eq_some_iff.1 a1).1)⟩
  obtain ⟨x2, e2⟩ : ∃ x, xs[2]? = some x := ⟨_, List.getElem?_eq_getElem (by rw [hxl]; exact (Array.getElem?_eq_some_iff.1 a2).1)⟩
  rw [b0', t0, grsl_cells, e0] at g0
  rw [b1, t1, strsl_cells', e1] at g1
  rw [b2, t2, int_cells', e2] at g2
  obtain ⟨A, n, c, zs, he, hl0, hm, hr, hok⟩ := open_rows Tryd.underlying72 gr_flat (by kernel_rfl) (by decide) g0
  obtain ⟨gs, rfl, hgs⟩ := grs_of_rows zs hok
  obtain ⟨B, m, e, ys, he1, hl1, hm1, hr1, hok1⟩ := open_rows Tryd.underlying41 str_flat (by kernel_rfl) (by decide) g1
  obtain ⟨ss, rfl, hss⟩ := strs_of_rows ys hok1
  obtain ⟨k, he2, _, _⟩ := DataW.trod_int Tryd.underlying3 g2
  simp [Value.cells] at he he1 he2
  subst he he1 he2
  unfold maxLen at hm hm1 hgs hss
  exact ⟨A, n, c, B, m, e, k, gs, ss, rfl, hl0, by omega, hl1, by omega, hr, fun x hx => by have := hgs x hx; omega, hr1, fun s hs => by have := hss s hs; omega⟩
end Go.Proofs.YtlonejkmdibkaaaDoor
