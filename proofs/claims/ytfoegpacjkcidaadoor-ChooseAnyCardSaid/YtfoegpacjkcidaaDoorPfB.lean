/- Prefs: copies of lists of names. -/
import Derived.Test.YtfoegpacjkcidaaDoorPfA
import Derived.Test.YtfoegpacjkcidaaDoorShelf
namespace Go.Proofs.YtfoegpacjkcidaaDoor
open Go.RowKit

theorem map_sv_flatten (ss : List ByteArray) : (ss.map sv).flatten = ss.map Value.string := by
  induction ss with
  | nil => rfl
  | cons s ss ih => simp only [List.map_cons, List.flatten_cons, ih]; rfl
theorem ownS_of {w : World} {base n : Nat} {v : Value} {ss : List ByteArray} (hn : n = ss.length) (h : w.ownsRow base 9 1 v n (ss.map Value.string)) : OwnS w base v ss := by
  subst hn
  refine ⟨?_, by intro z hz; obtain ⟨s, _, rfl⟩ := List.mem_map.1 hz; rfl⟩
  rw [List.length_map, map_sv_flatten]
  exact h
theorem cloneS_any (ss : List ByteArray) (A : Option Addr) (n c : Nat) (w : World) (hn : n ≤ 1000000) (H : Strs w A n ss) :
    Calls Tryd.prog 38 #[.slice A n c] w fun r w' => ∃ v', r = .returned v' ∧ OwnS w' w.heap.size v' ss ∧ Below w.heap.size w w' := by
  have hl := H.len
  cases A with
  | none =>
    have h0 : n = 0 := by
      by_cases h : 0 < n
      · obtain ⟨b, off, e, _⟩ := H.2.2 h; cases e
      · omega
    subst h0
    have hs : ss = [] := List.eq_nil_of_length_eq_zero hl
    subst hs
    refine (Tryd.slices_Clone_string_nil 0 c w).mono ?_
    rintro r w' ⟨rfl, rfl⟩
    exact ⟨_, rfl, OwnR.nil_ _ _ _ _, Below.refl _ _⟩
  | some a =>
    by_cases h : 0 < n
    · obtain ⟨b, off, e, hb, hc⟩ := H.2.2 h
      injection e with e
      subst e
      refine (Tryd.slices_Clone_string b off n c ss w (by omega) (by omega) (fun j hj => ?_)).mono ?_
      · have := hc j (sv (ss.getD j ByteArray.empty)) (by rw [List.getElem?_map, List.getD_eq_getElem?_getD, List.getElem?_eq_getElem hj]; rfl) 0 _ rfl
        simpa using this
      · rintro r w' ⟨v', rfl, h1, _, h2⟩
        rw [List.take_of_length_le (by omega)] at h1
        exact ⟨v', rfl, ownS_of hl.symm h1, h2⟩
    · have h0 : n = 0 := by omega
      subst h0
      have hs : ss = [] := List.eq_nil_of_length_eq_zero hl
      subst hs
      refine (Tryd.slices_Clone_string_zero a c w).mono ?_
      rintro r w' ⟨v', rfl, h1, _, h2⟩
      exact ⟨v', rfl, ownS_of rfl h1, h2⟩

/-- A slice of slices of names. -/
def Vls (w : World) (A : Option Addr) (n : Nat) (V : List Value) : Prop := Rws w 1 A n (V.map (fun v => [v]))
theorem Vls.keep {w w' : World} {A : Option Addr} {n : Nat} {V : List Value} (h : Vls w A n V) (hb : Below w.heap.size w w') : Vls w' A n V := Rws.keep h hb
theorem Vls.len {w : World} {A : Option Addr} {n : Nat} {V : List Value} (h : Vls w A n V) : V.length = n := by simpa using h.1
theorem Vls.at_ {w : World} {A : Option Addr} {n : Nat} {V : List Value} (h : Vls w A n V) {j : Nat} (hj : j < n) :
    ∃ b off v, A = some ⟨b, off, none⟩ ∧ b < w.heap.size ∧ V[j]? = some v ∧ w.cell? ⟨b, off + j, none⟩ = some v := by
  have hl := h.len
  obtain ⟨b, off, e, hb, hc⟩ := h.2.2 (by omega)
  have hv : V[j]? = some V[j] := List.getElem?_eq_getElem (by omega)
  refine ⟨b, off, V[j], e, hb, hv, ?_⟩
  have := hc j [V[j]] (by rw [List.getElem?_map, hv]; rfl) 0 _ rfl
  simpa using this
theorem Vls.block {w : World} {g : Nat} {V : List Value} {t : TypeId} {fr : Nat × Nat} (h : w.heap[g]? = some (.cells V.toArray t fr)) (hlt : g < w.heap.size) : Vls w (some ⟨g, 0, none⟩) V.length V := by
  refine ⟨by simp, by intro z hz; obtain ⟨v, _, rfl⟩ := List.mem_map.1 hz; rfl, fun _ => ⟨g, 0, rfl, hlt, fun j z hz i v hv => ?_⟩⟩
  rw [List.getElem?_map] at hz
  cases hj : V[j]? with
  | none => rw [hj] at hz; cases hz
  | some x =>
    rw [hj] at hz
    simp only [Option.map_some, Option.some.injEq] at hz
    subst hz
    match i with
    | 0 =>
      simp only [List.getElem?_cons_zero, Option.some.injEq] at hv
      subst hv
      have := cell_of_row w g j _ _ _ h
      rw [show 0 + j * 1 + 0 = j by omega, this, List.getElem?_toArray, hj]
    | i + 1 => simp at hv
end Go.Proofs.YtfoegpacjkcidaaDoor
