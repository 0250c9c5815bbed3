/- Prefs: what the two package variables hold, out of the condition that the card lays. -/
import Derived.Test.YtfoegpacjkcidaaDoorPfC
import Derived.Test.YtfoegpacjkcidaaDoorCards
import Derived.OpenShut
import Derived.LaidLaws
import Derived.Deep.DeepHandedRow
namespace Go.Proofs.YtfoegpacjkcidaaDoor
open Go.ChangeShapes Go.WideShapes Go.RowKit

theorem str_tab {H : Type} {enc : TypeId × Value → H} {P : Program} {w : World} {base : Nat} {spare : Nat → Bool} {held : Bool} {fuel : Nat} {t e : TypeId} {n : Nat} {cs : List Value} {L : List ByteArray} {d : DataW H} {ps : List MemPlace}
    (ht : P.underlying t = some (.array n e)) (he : P.underlying e = some .string) (hc : P.cellsOf e = 1) (h : DataW.trod enc P w base spare held fuel t cs = some (d, ps)) (hd : d = .agg (L.map fun s => .lit (.string s.data.toList))) :
    ∀ (i : Nat) x, L[i]? = some x → cs[i]? = some (.string x) := by
  subst hd
  obtain ⟨xs, m, _, ex, _, hl, hel⟩ := DataW.trod_array ht h
  injection ex with ex _
  injection ex with ex
  have hlen : L.length = n := by have := congrArg List.length ex; simpa [hl] using this
  intro i x hx
  have hi : i < n := by rw [← hlen]; exact (List.getElem?_eq_some_iff.1 hx).1
  have h1 := hel i hi
  rw [hc, Nat.mul_one] at h1
  obtain ⟨y, hy⟩ : ∃ y, xs[i]? = some y := ⟨_, List.getElem?_eq_getElem (by rw [hl]; exact hi)⟩
  rw [hy] at h1
  obtain ⟨s, hs, rfl, _⟩ := DataW.trod_string he h1
  have h2 := congrArg (·[i]?) ex
  simp only [List.getElem?_map, hx, hy, Option.map_some, Option.some.injEq] at h2
  injection h2 with h2
  injection h2 with h2
  have hsx : x = s := by
    cases x; cases s
    simp only [ByteArray.mk.injEq]
    exact Array.toList_inj.1 h2
  subst hsx
  have h3 := congrArg (·[0]?) hs
  simpa [List.getElem?_take, List.getElem?_drop] using h3
def laidV : List (String × DataW Unit) := [("shibboleth/prefs.methods", Rows.laid_shibboleth_prefs_methods), ("shibboleth/prefs.words", Rows.laid_shibboleth_prefs_words)]
theorem gl_methods : Tryd.prog.globalNamed "shibboleth/prefs.methods" = some 0 := by kernel_rfl
theorem gl_words : Tryd.prog.globalNamed "shibboleth/prefs.words" = some 1 := by kernel_rfl
theorem ty_methods : (Tryd.prog.globals[0]?).map (·.type) = some 75 := by kernel_rfl
theorem ty_words : (Tryd.prog.globals[1]?).map (·.type) = some 59 := by kernel_rfl
theorem str_one : Tryd.prog.cellsOf 9 = 1 := by kernel_rfl
theorem pv_of_laid {W : World} (h : laidMet Tryd.prog laidV W) : PV W := by
  obtain ⟨ps, ⟨g, t, cs, fuel, p, q, e1, e2, e3, e4, ⟨g', t', cs', fuel', p', q', e1', e2', e3', e4', _, _⟩, _⟩, _, _⟩ := h
  have eg : g = 0 := (Option.some.inj (gl_methods.symm.trans e1)).symm
  subst eg
  have eg : g' = 1 := (Option.some.inj (gl_words.symm.trans e1')).symm
  subst eg
  have et : t = 75 := (Option.some.inj (ty_methods.symm.trans e2)).symm
  subst et
  have et : t' = 59 := (Option.some.inj (ty_words.symm.trans e2')).symm
  subst et
  have k1 := str_tab (L := ⟨#[]⟩ :: methL) Tryd.underlying75 Tryd.underlying9 str_one e4 rfl
  have k2 := str_tab (L := wordL) Tryd.underlying59 Tryd.underlying9 str_one e4' rfl
  have c1 : ∀ (i : Nat) x, (⟨#[]⟩ :: methL)[i]? = some x → W.cell? ⟨0, i, none⟩ = some (.string x) := fun i x hx => by rw [World.var?_cell e1 e3 i, ← Array.getElem?_toList]; exact k1 i x hx
  have c2 : ∀ (i : Nat) x, wordL[i]? = some x → W.cell? ⟨1, i, none⟩ = some (.string x) := fun i x hx => by rw [World.var?_cell e1' e3' i, ← Array.getElem?_toList]; exact k2 i x hx
  exact ⟨c1, c2, block_lt_of_cell (c1 0 _ rfl), block_lt_of_cell (c2 0 _ rfl)⟩
end Go.Proofs.YtfoegpacjkcidaaDoor
