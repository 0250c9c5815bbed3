/- A region that draws its order, by one invariant: the general steps (used by what wip/reginv.py prints). -/
import Derived.Test.YtbeanjaenmpoeaaDoorOrd
namespace Go.Proofs.YtbeanjaenmpoeaaDoor
open Go

theorem inv_start {n : Nat} {P : Nat → Prop} (h : ∀ k, P (k + n)) : ∀ q, (Array.replicate n false).getD q true = true → P q := by
  intro q hq
  have hq : n ≤ q := by
    rcases Nat.lt_or_ge q n with h1 | h1
    · simp [Array.getD_eq_getD_getElem?, h1] at hq
    · exact h1
  obtain ⟨k, rfl⟩ : ∃ k, q = k + n := ⟨q - n, by omega⟩
  exact h k
theorem inv_none {n i : Nat} (h : i < n) : (Array.replicate n false).getD i true = false := by simp [Array.getD_eq_getD_getElem?, h]
theorem inv_not {n i : Nat} (h : i < n) : ¬ ((Array.replicate n false).getD i true = true) := by rw [inv_none h]; decide
theorem inv_step {P : Nat → Value → Prop} {L : Nat → Bool} {xs : List Value} {i : Nat} {x' : Value} (h : ∀ q, L q = true → P q (xs.getD q undef)) (hn : P i x') (hi : i < xs.length) :
    ∀ q, (q == i || L q) = true → P q ((xs.set i x').getD q undef) := by
  intro q hq
  by_cases e : q = i
  · subst e
    rw [List.getD_eq_getElem?_getD, List.getElem?_set_self hi]
    exact hn
  · have hL : L q = true := by simpa [e] using hq
    rw [List.getD_eq_getElem?_getD, List.getElem?_set_ne (Ne.symm e), ← List.getD_eq_getElem?_getD]
    exact h q hL
theorem inv_pass {P : Nat → Value → Prop} {L : Nat → Bool} {xs : List Value} {i : Nat} (h : ∀ q, L q = true → P q (xs.getD q undef)) (hn : ∀ x, P i x) : ∀ q, (q == i || L q) = true → P q (xs.getD q undef) := by
  intro q hq
  by_cases e : q = i
  · subst e; exact hn _
  · exact h q (by simpa [e] using hq)
end Go.Proofs.YtbeanjaenmpoeaaDoor
