/- Prefs: eight lists of names, as an argument. -/
import Derived.Test.YtfoegpacjkcidaaDoorStr
import Derived.WideShapes
namespace Go.Proofs.YtfoegpacjkcidaaDoor
open Go.RowKit Go.ChangeShapes Go.WideShapes

/-- A slice, and what names it has. -/
def StrV (w : World) (v : Value) (l : List ByteArray) : Prop := ∃ A n c, v = .slice A n c ∧ n ≤ c ∧ c ≤ 9223372036854775807 ∧ Strs w A n l
theorem StrV.keep {w w' : World} {v : Value} {l : List ByteArray} (h : StrV w v l) (hb : Below w.heap.size w w') : StrV w' v l := by
  obtain ⟨A, n, c, rfl, h1, h2, h3⟩ := h
  exact ⟨A, n, c, rfl, h1, h2, h3.keep hb⟩
/-- Eight slices, and what names they have. -/
structure Pf (w : World) (V : List Value) (L : List (List ByteArray)) : Prop where
  v8 : V.length = 8
  l8 : L.length = 8
  at_ : ∀ (i : Nat) v l, V[i]? = some v → L[i]? = some l → StrV w v l
theorem Pf.keep {w w' : World} {V : List Value} {L : List (List ByteArray)} (h : Pf w V L) (hb : Below w.heap.size w w') : Pf w' V L := ⟨h.v8, h.l8, fun i v l h1 h2 => (h.at_ i v l h1 h2).keep hb⟩
theorem Pf.get {w : World} {V : List Value} {L : List (List ByteArray)} (h : Pf w V L) {i : Nat} (hi : i < 8) : ∃ A n c l, V[i]? = some (.slice A n c) ∧ L[i]? = some l ∧ n ≤ c ∧ c ≤ 9223372036854775807 ∧ Strs w A n l := by
  obtain ⟨v, h1⟩ : ∃ v, V[i]? = some v := ⟨_, List.getElem?_eq_getElem (by rw [h.v8]; exact hi)⟩
  obtain ⟨l, h2⟩ : ∃ l, L[i]? = some l := ⟨_, List.getElem?_eq_getElem (by rw [h.l8]; exact hi)⟩
  obtain ⟨A, n, c, rfl, ha, hb, hc⟩ := h.at_ i _ _ h1 h2
  exact ⟨A, n, c, l, h1, h2, ha, hb, hc⟩
theorem list_of {α : Type} {P : Nat → α → Prop} : ∀ (n : Nat), (∀ i, i < n → ∃ x, P i x) → ∃ L : List α, L.length = n ∧ ∀ i x, L[i]? = some x → P i x
  | 0, _ => ⟨[], rfl, by simp⟩
  | n + 1, h => by
    obtain ⟨L, hl, hL⟩ := list_of n (fun i hi => h i (by omega))
    obtain ⟨x, hx⟩ := h n (by omega)
    refine ⟨L ++ [x], by simp [hl], fun i y hy => ?_⟩
    by_cases hi : i < n
    · rw [List.getElem?_append_left (by omega)] at hy
      exact hL i y hy
    · rw [List.getElem?_append_right (by omega)] at hy
      have : i - L.length = 0 := by
        have := (List.getElem?_eq_some_iff.1 hy).1
        simp at this
        omega
      rw [this] at hy
      simp only [List.getElem?_cons_zero, Option.some.injEq] at hy
      subst hy
      have : i = n := by omega
      rw [this]; exact hx
theorem prefs_field (fs : Array Field) (hu : Tryd.prog.underlying 24 = some (.struct fs)) (i : Nat) (hi : i < 8) : ∃ f, fs[i]? = some f ∧ f.offset = i ∧ f.type = 22 := by
  have h := Tryd.underlying24
  rw [hu] at h
  injection h with h
  injection h with h
  subst h
  match i, hi with
  | 0, _ => exact ⟨_, rfl, rfl, rfl⟩
  | 1, _ => exact ⟨_, rfl, rfl, rfl⟩
  | 2, _ => exact ⟨_, rfl, rfl, rfl⟩
  | 3, _ => exact ⟨_, rfl, rfl, rfl⟩
  | 4, _ => exact ⟨_, rfl, rfl, rfl⟩
  | 5, _ => exact ⟨_, rfl, rfl, rfl⟩
  | 6, _ => exact ⟨_, rfl, rfl, rfl⟩
  | 7, _ => exact ⟨_, rfl, rfl, rfl⟩
theorem prefs_cells : Tryd.prog.cellsOf 24 = 8 := by kernel_rfl
theorem strsl_cells : Tryd.prog.cellsOf 22 = 1 := by kernel_rfl
set_option maxRecDepth 100000 in
theorem open_prefs {H : Type} {enc : TypeId × Value → H} {w : World} {base : Nat} {spare : Nat → Bool} {held : Bool} {r : Reach} {b0 : Nat} {v : Value} {d : DataW H} {ps : List MemPlace}
    (hv : Value.okWide Tryd.prog w r b0 24 v) (h : DataW.Trod enc Tryd.prog w base spare held 24 v d ps) :
    ∃ V L, v = .agg V.toArray ∧ Pf w V L ∧ ∀ l ∈ L, ∀ s ∈ l, s.size ≤ 9223372036854775807 := by
  obtain ⟨fs, hu⟩ : ∃ fs, Tryd.prog.underlying 24 = some (.struct fs) := ⟨_, Tryd.underlying24⟩
  obtain ⟨cs, rfl, hsz⟩ := okWide_struct hu hv
  rw [prefs_cells] at hsz
  obtain ⟨fuel, hf⟩ := h
  obtain ⟨xs, m, _, _, hl, hxl, hfi⟩ := DataW.trod_struct hu hf
  have hcs : (Value.agg cs).cells.toList = cs.toList := by simp [Value.cells]
  have key : ∀ i, i < 8 → ∃ l : List ByteArray, (∃ A n c, cs.toList[i]? = some (.slice A n c) ∧ n ≤ c ∧ c ≤ 9223372036854775807 ∧ Strs w A n l) ∧ ∀ s ∈ l, s.size ≤ 9223372036854775807 := by
    intro i hi
    obtain ⟨f, h1, h2, h3⟩ := prefs_field fs hu i hi
    have ht := hfi i f h1
    obtain ⟨xi, hx⟩ : ∃ xi, xs[i]? = some xi := ⟨_, List.getElem?_eq_getElem (by rw [hxl]; exact (Array.getElem?_eq_some_iff.1 h1).1)⟩
    rw [h2, h3, strsl_cells, hx] at ht
    obtain ⟨A, n, c, zs, he, hl, hm, hr, hok⟩ := open_rows Tryd.underlying22 str_flat (by kernel_rfl) (by decide) ht
    obtain ⟨ss, rfl, hss⟩ := strs_of_rows zs hok
    unfold maxLen at hm hss
    refine ⟨ss, ⟨A, n, c, ?_, hl, by omega, hr⟩, fun s hs => by have := hss s hs; omega⟩
    have := congrArg (·[0]?) he
    simpa [List.getElem?_take, List.getElem?_drop, Value.cells] using this
  obtain ⟨L, hL, hP⟩ := list_of 8 key
  refine ⟨cs.toList, L, by simp, ⟨by simpa using hsz, hL, fun i v l h1 h2 => ?_⟩, fun l hl => ?_⟩
  · obtain ⟨⟨A, n, c, he, ha, hb, hc⟩, _⟩ := hP i l h2
    rw [h1] at he
    injection he with he
    exact ⟨A, n, c, he, ha, hb, hc⟩
  · obtain ⟨i, hi, rfl⟩ := List.getElem_of_mem hl
    exact (hP i _ (List.getElem?_eq_getElem hi)).2
end Go.Proofs.YtfoegpacjkcidaaDoor
