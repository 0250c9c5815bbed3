/- Copies of lists of names. -/
import Derived.Test.YtifliohljcafgaaDoorStr
import Derived.Test.YtifliohljcafgaaDoorOwn
import Derived.Test.YtifliohljcafgaaDoorShelf
namespace Go.Proofs.YtifliohljcafgaaDoor
open Go.RowKit

theorem map_sv_flatten (ss : List ByteArray) : (ss.map sv).flatten = ss.map Value.string := by
  induction ss with
  | nil => rfl
  | cons s ss ih => simp only [List.map_cons, List.flatten_cons, ih]; rfl
theorem ownS_of {w : World} {base n : Nat} {v : Value} {ss : List ByteArray} (hn : n = ss.length) (h : w.ownsRow base 9 1 v n (ss.map Value.string)) : OwnS w base v ss := by
  subst hn
  refine ⟨?_, by intro z hz; obtain ⟨s, _, rfl⟩ := List.mem_map.1 hz; rfl⟩
  rw [List.length_map, map_sv_flatten]
  exact h
theorem cloneS_any (ss : List ByteArray) (A : Option Addr) (n c : Nat) (w : World) (hn : n ≤ 1000000) (H : Strs w A n ss) :
    Calls Tryd.prog 22 #[.slice A n c] w fun r w' => ∃ v', r = .returned v' ∧ OwnS w' w.heap.size v' ss ∧ Below w.heap.size w w' := by
  have hl := H.len
  cases A with
  | none =>
    have h0 : n = 0 := by
      by_cases h : 0 < n
      · obtain ⟨b, off, e, _⟩ := H.2.2 h; cases e
      · omega
    subst h0
    have hs : ss = [] := List.eq_nil_of_length_eq_zero hl
    subst hs
    refine (Tryd.slices_Clone_string_nil 0 c w).mono ?_
    rintro r w' ⟨rfl, rfl⟩
    exact ⟨_, rfl, OwnR.nil_ _ _ _ _, Below.refl _ _⟩
  | some a =>
    by_cases h : 0 < n
    · obtain ⟨b, off, e, hb, hc⟩ := H.2.2 h
      injection e with e
      subst e
      refine (Tryd.slices_Clone_string b off n c ss w (by omega) (by omega) (fun j hj => ?_)).mono ?_
      · have := hc j (sv (ss.getD j ByteArray.empty)) (by rw [List.getElem?_map, List.getD_eq_getElem?_getD, List.getElem?_eq_getElem hj]; rfl) 0 _ rfl
        simpa using this
      · rintro r w' ⟨v', rfl, h1, _, h2⟩
        rw [List.take_of_length_le (by omega)] at h1
        exact ⟨v', rfl, ownS_of hl.symm h1, h2⟩
    · have h0 : n = 0 := by omega
      subst h0
      have hs : ss = [] := List.eq_nil_of_length_eq_zero hl
      subst hs
      refine (Tryd.slices_Clone_string_zero a c w).mono ?_
      rintro r w' ⟨v', rfl, h1, _, h2⟩
      exact ⟨v', rfl, ownS_of rfl h1, h2⟩
end Go.Proofs.YtifliohljcafgaaDoor
