/- Prefs: Lists, that copies. -/
import Derived.Test.YtfoegpacjkcidaaDoorPfF
import Derived.Test.YtfoegpacjkcidaaDoorPfC
import Derived.Deep.RegionHeld
namespace Go.Proofs.YtfoegpacjkcidaaDoor
open Go.RowKit

/-- Names in a block other than g. -/
def StrN (w : World) (g : Nat) (v : Value) (l : List ByteArray) : Prop := ∃ A n c, v = .slice A n c ∧ n ≤ c ∧ c ≤ 9223372036854775807 ∧ Strs w A n l ∧ ∀ b off, A = some ⟨b, off, none⟩ → 0 < n → b ≠ g
theorem StrN.strV {w : World} {g : Nat} {v : Value} {l : List ByteArray} (h : StrN w g v l) : StrV w v l := by
  obtain ⟨A, n, c, h1, h2, h3, h4, _⟩ := h
  exact ⟨A, n, c, h1, h2, h3, h4⟩
theorem StrN.keep {w w' : World} {g : Nat} {v : Value} {l : List ByteArray} (h : StrN w g v l) (hb : Below w.heap.size w w') : StrN w' g v l := by
  obtain ⟨A, n, c, h1, h2, h3, h4, h5⟩ := h
  exact ⟨A, n, c, h1, h2, h3, h4.keep hb, h5⟩
theorem StrV.far {w : World} {v : Value} {l : List ByteArray} (h : StrV w v l) {g : Nat} (hg : w.heap.size ≤ g) : StrN w g v l := by
  obtain ⟨A, n, c, h1, h2, h3, h4⟩ := h
  refine ⟨A, n, c, h1, h2, h3, h4, fun b off e hn => ?_⟩
  obtain ⟨b', off', e', hb, _⟩ := h4.2.2 hn
  rw [e] at e'
  injection e' with e'
  injection e' with e1 e2
  subst e1
  omega
theorem StrN.put {w : World} {g : Nat} {v : Value} {l : List ByteArray} (h : StrN w g v l) (i : Nat) (x : Value) : StrN (w.setCell ⟨g, i, none⟩ x) g v l := by
  obtain ⟨A, n, c, h1, h2, h3, h4, h5⟩ := h
  refine ⟨A, n, c, h1, h2, h3, ⟨h4.1, h4.2.1, fun hn => ?_⟩, h5⟩
  obtain ⟨b, off, e, hlt, hc⟩ := h4.2.2 hn
  refine ⟨b, off, e, by rw [World.size_setCell]; exact hlt, fun j z hz k u hu => ?_⟩
  rw [World.cell?_setCell_far _ _ _ _ (fun e' => h5 b off e hn e'.symm)]
  exact hc j z hz k u hu
theorem OwnS.far {w : World} {base g : Nat} {v : Value} {l : List ByteArray} (h : OwnS w base v l) (hg : g < base) : StrN w g v l := by
  have h1 := h.1.2
  obtain ⟨A, c, rfl, hs⟩ := h.strs
  rcases h1 with ⟨e, h0⟩ | ⟨g', cap, cur, e, hge, hgc, hcap, hm, _⟩
  · injection e with e1 e2 e3
    subst e1; subst e3
    refine ⟨none, l.length, 0, rfl, by omega, by omega, hs, fun b off e => by cases e⟩
  · injection e with e1 e2 e3
    subst e1; subst e3
    unfold maxLen at hm
    refine ⟨_, l.length, c, rfl, by omega, by omega, hs, fun b off e _ => ?_⟩
    injection e with e
    injection e with e
    omega
/-- Block g is these eight values. -/
def VB (w : World) (g : Nat) (U : List Value) : Prop := w.heap[g]? = some (.cells U.toArray 22 (0, 0))
theorem VB.cell {w : World} {g : Nat} {U : List Value} (h : VB w g U) {i : Nat} {x : Value} (hx : U[i]? = some x) : w.cell? ⟨g, i, none⟩ = some x ∧ w.frozen? ⟨g, i, none⟩ = false := by
  refine ⟨?_, frozen_of_row w g i _ _ h⟩
  rw [cell_of_row w g i _ _ _ h, List.getElem?_toArray, hx]
theorem VB.put {w : World} {g : Nat} {U : List Value} (h : VB w g U) (i : Nat) (x : Value) : VB (w.setCell ⟨g, i, none⟩ x) g (U.set i x) := by
  unfold VB
  rw [heap_setCell_same w g i _ _ _ h]
  congr 2
  simp
theorem VB.lt {w : World} {g : Nat} {U : List Value} (h : VB w g U) : g < w.heap.size := (Array.getElem?_eq_some_iff.1 h).1
theorem VB.keep {w w' : World} {g : Nat} {U : List Value} (h : VB w g U) (hb : Below w.heap.size w w') : VB w' g U := (hb.block g h.lt).trans h
/-- What the rounds keep. -/
structure LsK (w W : World) (g : Nat) (U : List Value) (L : List (List ByteArray)) : Prop where
  b : VB W g U
  u8 : U.length = 8
  at_ : ∀ (i : Nat) v l, U[i]? = some v → L[i]? = some l → StrN W g v l
  o : Below w.heap.size w W
theorem LsK.put {w W W' : World} {g : Nat} {U : List Value} {L : List (List ByteArray)} (h : LsK w W g U L) (hg : w.heap.size ≤ g) {i : Nat} {l : List ByteArray} (hl : L[i]? = some l) {v : Value} (ho : OwnS W' W.heap.size v l) (hb : Below W.heap.size W W') :
    LsK w (W'.setCell ⟨g, i, none⟩ v) g (U.set i v) L := by
  refine ⟨(h.b.keep hb).put i v, by rw [List.length_set]; exact h.u8, fun j x y hx hy => ?_, (h.o.trans (hb.mono h.o.size)).setCell hg _⟩
  refine StrN.put ?_ i v
  rw [List.getElem?_set] at hx
  by_cases e : i = j
  · subst e
    rw [if_pos rfl] at hx
    split at hx
    · injection hx with hx
      subst hx
      rw [hl] at hy
      injection hy with hy
      subst hy
      exact ho.far h.b.lt
    · cases hx
  · rw [if_neg e] at hx
    exact (h.at_ j x y hx hy).keep hb
theorem LsK.get {w W : World} {g : Nat} {U : List Value} {L : List (List ByteArray)} (h : LsK w W g U L) (hL : L.length = 8) {i : Nat} (hi : i < 8) :
    ∃ A n c l, U[i]? = some (.slice A n c) ∧ L[i]? = some l ∧ n ≤ c ∧ c ≤ 9223372036854775807 ∧ Strs W A n l := by
  obtain ⟨v, h1⟩ : ∃ v, U[i]? = some v := ⟨_, List.getElem?_eq_getElem (by rw [h.u8]; exact hi)⟩
  obtain ⟨l, h2⟩ : ∃ l, L[i]? = some l := ⟨_, List.getElem?_eq_getElem (by rw [hL]; exact hi)⟩
  obtain ⟨A, n, c, rfl, ha, hb, hc, _⟩ := h.at_ i _ _ h1 h2
  exact ⟨A, n, c, l, h1, h2, ha, hb, hc⟩
theorem LsK.vls {w W : World} {g : Nat} {U : List Value} {L : List (List ByteArray)} (h : LsK w W g U L) : Vls W (some ⟨g, 0, none⟩) 8 U := by
  have := Vls.block h.b h.b.lt
  rwa [h.u8] at this
theorem LsK.pf {w W : World} {g : Nat} {U : List Value} {L : List (List ByteArray)} (h : LsK w W g U L) (hL : L.length = 8) : Pf W U L := ⟨h.u8, hL, fun i v l h1 h2 => (h.at_ i v l h1 h2).strV⟩
end Go.Proofs.YtfoegpacjkcidaaDoor
