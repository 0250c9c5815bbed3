/- Plain laws on lists that the loops use: what holds of the first k elements, one element more. -/
namespace Go.Proofs.YtbeanjaenmpoeaaDoor

theorem take_succ_of {α : Type} {l : List α} {k : Nat} {x : α} (h : l[k]? = some x) : l.take (k + 1) = l.take k ++ [x] := by
  rw [List.take_add_one, h]; rfl
theorem any_take_succ {α : Type} {l : List α} {k : Nat} {x : α} (p : α → Bool) (h : l[k]? = some x) : (l.take (k + 1)).any p = ((l.take k).any p || p x) := by
  rw [take_succ_of h, List.any_append]; simp
theorem all_take_succ {α : Type} {l : List α} {k : Nat} {x : α} (p : α → Bool) (h : l[k]? = some x) : (l.take (k + 1)).all p = ((l.take k).all p && p x) := by
  rw [take_succ_of h, List.all_append]; simp
theorem any_take_hit {α : Type} {l : List α} {k n : Nat} {x : α} (p : α → Bool) (h : l[k]? = some x) (hk : k < n) (hp : p x = true) : (l.take n).any p = true := by
  rw [List.any_eq_true]
  refine ⟨x, ?_, hp⟩
  rw [List.mem_take_iff_getElem]
  have hl : k < l.length := (List.getElem?_eq_some_iff.1 h).1
  exact ⟨k, by omega, (List.getElem?_eq_some_iff.1 h).2⟩
theorem any_hit {α : Type} {l : List α} {k : Nat} {x : α} (p : α → Bool) (h : l[k]? = some x) (hp : p x = true) : l.any p = true := by
  rw [List.any_eq_true]
  exact ⟨x, List.mem_of_getElem? h, hp⟩
theorem any_whole {α : Type} {l : List α} {n : Nat} {p : α → Bool} {b : Bool} (h : l.length ≤ n) (hp : (l.take n).any p = b) : l.any p = b := by
  rwa [List.take_of_length_le h] at hp
theorem any_take_miss {α : Type} {l : List α} {k n : Nat} {p : α → Bool} (hn : n ≤ k) (hp : (l.take k).any p = false) : (l.take n).any p = false := by
  rw [List.any_eq_false] at hp ⊢
  intro x hx
  exact hp x ((List.take_subset_take_left l hn) hx)
theorem any_take_whole {α : Type} {l : List α} {k : Nat} {p : α → Bool} (n : Nat) (h : l.length ≤ k) (hp : (l.take k).any p = false) : (l.take n).any p = false := by
  rw [List.take_of_length_le h, List.any_eq_false] at hp
  rw [List.any_eq_false]
  intro x hx
  exact hp x (List.mem_of_mem_take hx)
/-- The first place at which p holds, from i on; -1: nowhere. -/
def idx {α : Type} (p : α → Bool) (l : List α) : Int := match l.findIdx? p with | some i => (i : Int) | none => -1
theorem idx_hit {α : Type} {p : α → Bool} {l : List α} {k : Nat} {x : α} (h : l[k]? = some x) (hp : p x = true) (hm : (l.take k).any p = false) : idx p l = k := by
  have hf : l.findIdx? p = some k := by
    rw [List.findIdx?_eq_some_iff_getElem]
    have hl : k < l.length := (List.getElem?_eq_some_iff.1 h).1
    refine ⟨hl, by rw [(List.getElem?_eq_some_iff.1 h).2]; exact hp, fun j hj => ?_⟩
    rw [List.any_eq_false] at hm
    have := hm (l[j]) (by rw [List.mem_take_iff_getElem]; exact ⟨j, by omega, rfl⟩)
    simpa using this
  unfold idx; rw [hf]
theorem idx_miss {α : Type} {p : α → Bool} {l : List α} (hm : l.any p = false) : idx p l = -1 := by
  have hf : l.findIdx? p = none := by
    rw [List.findIdx?_eq_none_iff]
    rw [List.any_eq_false] at hm
    intro x hx
    simpa using hm x hx
  unfold idx; rw [hf]
theorem idx_cases {α : Type} (p : α → Bool) (l : List α) : (idx p l = -1 ∧ l.any p = false) ∨ ∃ k x, idx p l = (k : Nat) ∧ l[k]? = some x ∧ p x = true ∧ (l.take k).any p = false := by
  cases h : l.findIdx? p with
  | none =>
    left
    rw [List.findIdx?_eq_none_iff] at h
    have : l.any p = false := by rw [List.any_eq_false]; intro x hx; simp [h x hx]
    exact ⟨idx_miss this, this⟩
  | some i =>
    right
    rw [List.findIdx?_eq_some_iff_getElem] at h
    obtain ⟨hl, hp, hm⟩ := h
    have ha : (l.take i).any p = false := by
      rw [List.any_eq_false]
      intro x hx
      rw [List.mem_take_iff_getElem] at hx
      obtain ⟨j, hj, rfl⟩ := hx
      have := hm j (by omega)
      simpa using this
    exact ⟨i, l[i], idx_hit (List.getElem?_eq_getElem hl) hp ha, List.getElem?_eq_getElem hl, hp, ha⟩
theorem idx_ge {α : Type} (p : α → Bool) (l : List α) : -1 ≤ idx p l ∧ idx p l < l.length ∨ (idx p l = -1) := by
  rcases idx_cases p l with ⟨h, _⟩ | ⟨k, x, h, hx, _, _⟩
  · exact .inr h
  · left
    have hl : k < l.length := (List.getElem?_eq_some_iff.1 hx).1
    rw [h]; omega
end Go.Proofs.YtbeanjaenmpoeaaDoor
