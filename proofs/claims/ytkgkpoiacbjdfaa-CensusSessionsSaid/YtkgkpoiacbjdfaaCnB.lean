/- The census: the walks of the reference's Later and Safe; the counts in one form. -/
import Derived.Test.YtkgkpoiacbjdfaaCnP
namespace Go.Proofs.Ytkgkpoiacbjdfaa
open Go.RowKit

theorem hits_lo (es : List Ev) (k : Nat) (e : Ev) {i : Nat} (hi : i < 8) : (hits es k e).contains i = ((win e.kind 7).toNat == i) := by
  have h1 := win_range (x := e.kind) (m := 7) (by decide)
  have h2 := win_range (x := e.num) (m := 15) (by decide)
  have h3 := win_range (x := e.dn.method) (m := 3) (by decide)
  rw [Bool.eq_iff_iff]
  unfold hits
  simp only [List.contains_iff_mem, List.mem_append, beq_iff_eq]
  constructor
  · rintro ((((h | h) | h) | h) | h)
    · simp at h; omega
    all_goals (split at h <;> simp at h <;> omega)
  · intro h
    left; left; left; left
    simp; omega
theorem hits_mid (es : List Ev) (k : Nat) (e : Ev) {i : Nat} (hi : i < 16) : (hits es k e).contains (8 + i) = (e.kind == 6 && (win e.num 15).toNat == i) := by
  have h1 := win_range (x := e.kind) (m := 7) (by decide)
  have h2 := win_range (x := e.num) (m := 15) (by decide)
  have h3 := win_range (x := e.dn.method) (m := 3) (by decide)
  rw [Bool.eq_iff_iff]
  unfold hits
  simp only [List.contains_iff_mem, List.mem_append, beq_iff_eq, Bool.and_eq_true]
  constructor
  · rintro ((((h | h) | h) | h) | h)
    · simp at h; omega
    · split at h
      · rename_i h6; simp at h; exact ⟨h6, by omega⟩
      · simp at h
    all_goals (split at h <;> simp at h <;> omega)
  · rintro ⟨h6, h⟩
    left; left; left; right
    rw [if_pos h6]
    simp; omega
theorem hits_hi (es : List Ev) (k : Nat) (e : Ev) {i : Nat} (hi : i < 4) : (hits es k e).contains (24 + i) = (e.kind == 2 && (win e.dn.method 3).toNat == i) := by
  have h1 := win_range (x := e.kind) (m := 7) (by decide)
  have h2 := win_range (x := e.num) (m := 15) (by decide)
  have h3 := win_range (x := e.dn.method) (m := 3) (by decide)
  rw [Bool.eq_iff_iff]
  unfold hits
  simp only [List.contains_iff_mem, List.mem_append, beq_iff_eq, Bool.and_eq_true]
  constructor
  · rintro ((((h | h) | h) | h) | h)
    · simp at h; omega
    · split at h <;> simp at h; omega
    · split at h
      · rename_i h6; simp at h; exact ⟨h6, by omega⟩
      · simp at h
    all_goals (split at h <;> simp at h <;> omega)
  · rintro ⟨h6, h⟩
    left; left; right
    rw [if_pos h6]
    simp; omega
def laterB (e : Ev) : Bool := (e.kind == 1 || e.kind == 2) && e.num != 0
theorem hits_28 (es : List Ev) (k : Nat) (e : Ev) : (hits es k e).contains 28 = laterB e := by
  have h1 := win_range (x := e.kind) (m := 7) (by decide)
  have h2 := win_range (x := e.num) (m := 15) (by decide)
  have h3 := win_range (x := e.dn.method) (m := 3) (by decide)
  rw [Bool.eq_iff_iff]
  unfold hits laterB
  simp only [List.contains_iff_mem, List.mem_append, beq_iff_eq, Bool.and_eq_true, Bool.or_eq_true, bne_iff_ne]
  constructor
  · rintro ((((h | h) | h) | h) | h)
    · simp at h; omega
    · split at h <;> simp at h; omega
    · split at h <;> simp at h; omega
    · split at h
      · rename_i h6; exact ⟨by omega, h6.2⟩
      · simp at h
    · split at h <;> simp at h
  · rintro ⟨h6, h⟩
    left; right
    rw [if_pos ⟨by omega, h⟩]
    simp
theorem hits_29 (es : List Ev) (k : Nat) (e : Ev) : (hits es k e).contains 29 = safe es k := by
  have h1 := win_range (x := e.kind) (m := 7) (by decide)
  have h2 := win_range (x := e.num) (m := 15) (by decide)
  have h3 := win_range (x := e.dn.method) (m := 3) (by decide)
  rw [Bool.eq_iff_iff]
  unfold hits
  simp only [List.contains_iff_mem, List.mem_append]
  constructor
  · rintro ((((h | h) | h) | h) | h)
    · simp at h; omega
    · split at h <;> simp at h; omega
    · split at h <;> simp at h; omega
    · split at h <;> simp at h
    · split at h
      · rename_i h6; exact h6
      · simp at h
  · intro h
    right
    rw [if_pos h]
    simp
theorem hitAt_of {es : List Ev} {k i : Nat} {e : Ev} (he : es[k]? = some e) : hitAt es i k = (hits es k e).contains i := by unfold hitAt; rw [he]
theorem cnt_countP (es : List Ev) (i : Nat) (p : Ev → Bool) (h : ∀ k e, es[k]? = some e → hitAt es i k = p e) : ∀ k, k ≤ es.length → cnt es k i = (es.take k).countP p := by
  intro k
  induction k with
  | zero => intro _; simp [cnt]
  | succ k ih =>
    intro hk
    have he : es[k]? = some es[k] := List.getElem?_eq_getElem (by omega)
    rw [cnt_succ, countP_take_succ p he, ih (by omega), h k _ he]
theorem cnt_k (es : List Ev) {i : Nat} (hi : i < 8) : (cnt es es.length i : Nat) = es.countP (kHit i) := by
  have := cnt_countP es i (kHit i) (fun k e he => by
    rw [hitAt_of he, hits_lo es k e hi]
    have h1 := win_range (x := e.kind) (m := 7) (by decide)
    unfold kHit
    rw [Bool.eq_iff_iff, beq_iff_eq, beq_iff_eq]; omega) es.length (Nat.le_refl _)
  rw [this, List.take_length]
theorem cnt_r (es : List Ev) {i : Nat} (hi : i < 16) : (cnt es es.length (8 + i) : Nat) = es.countP (rHit i) := by
  have := cnt_countP es (8 + i) (rHit i) (fun k e he => by
    rw [hitAt_of he, hits_mid es k e hi]
    have h1 := win_range (x := e.num) (m := 15) (by decide)
    unfold rHit
    rw [Bool.eq_iff_iff, Bool.and_eq_true, Bool.and_eq_true, beq_iff_eq, beq_iff_eq, beq_iff_eq]; omega) es.length (Nat.le_refl _)
  rw [this, List.take_length]
theorem cnt_m (es : List Ev) {i : Nat} (hi : i < 4) : (cnt es es.length (24 + i) : Nat) = es.countP (mHit i) := by
  have := cnt_countP es (24 + i) (mHit i) (fun k e he => by
    rw [hitAt_of he, hits_hi es k e hi]
    have h1 := win_range (x := e.dn.method) (m := 3) (by decide)
    unfold mHit
    rw [Bool.eq_iff_iff, Bool.and_eq_true, Bool.and_eq_true, beq_iff_eq, beq_iff_eq, beq_iff_eq]; omega) es.length (Nat.le_refl _)
  rw [this, List.take_length]
/-! ### What Check asks -/
theorem sum_map_add (f g : Nat → Nat) : ∀ (I : List Nat), (I.map fun i => f i + g i).sum = (I.map f).sum + (I.map g).sum
  | [] => rfl
  | i :: I => by simp only [List.map_cons, List.sum_cons, sum_map_add f g I]; omega
theorem cnt_sum {es : List Ev} {I : List Nat} {j : Nat} (h : ∀ k e, es[k]? = some e → (I.map fun i => if hitAt es i k then 1 else 0).sum = if hitAt es j k then 1 else 0) : ∀ k, k ≤ es.length → (I.map fun i => cnt es k i).sum = cnt es k j := by
  intro k
  induction k with
  | zero =>
    intro _
    simp only [cnt, List.range_zero, List.filter_nil, List.length_nil]
    clear h
    induction I with
    | nil => rfl
    | cons i I ih => simpa using ih
  | succ k ih =>
    intro hk
    have he : es[k]? = some es[k] := List.getElem?_eq_getElem (by omega)
    have h1 := ih (by omega)
    have h2 := h k _ he
    rw [cnt_succ, ← h1, ← h2, ← sum_map_add]
    congr 1
    exact List.map_congr_left (fun i _ => cnt_succ es k i)
theorem one_of {n a : Nat} (p : Bool) (ha : a < n) (o : Nat) : ∀ m, ((List.range m).map fun i => if (p && a == i) then 1 else 0).sum = if (p && decide (a < m)) then 1 else 0 := by
  intro m
  induction m with
  | zero => simp
  | succ m ih =>
    rw [List.range_succ, List.map_append, List.sum_append, ih]
    cases p with
    | false => simp
    | true =>
      by_cases h : a = m
      · subst h; simp
      · by_cases h2 : a < m
        · simp [h, h2, show a < m + 1 by omega]
        · simp [h, h2, show ¬ a < m + 1 by omega]
theorem cnt_reasons (es : List Ev) : ((List.range 16).map fun i => cnt es es.length (8 + i)).sum = cnt es es.length 6 := by
  have := cnt_sum (es := es) (I := (List.range 16).map (8 + ·)) (j := 6) (fun k e he => by
    have h2 := win_range (x := e.num) (m := 15) (by decide)
    have h1 := win_range (x := e.kind) (m := 7) (by decide)
    have hj : hitAt es 6 k = (e.kind == 6) := by
      rw [hitAt_of he, hits_lo es k e (by decide), Bool.eq_iff_iff, beq_iff_eq, beq_iff_eq]
      unfold win at h1 ⊢
      split <;> omega
    rw [hj, List.map_map]
    have : ((List.range 16).map ((fun i => if hitAt es i k = true then 1 else 0) ∘ (8 + ·))) = (List.range 16).map fun i => if (e.kind == 6 && (win e.num 15).toNat == i) then 1 else 0 := by
      apply List.map_congr_left
      intro i hi
      simp only [Function.comp]
      rw [hitAt_of he, hits_mid es k e (List.mem_range.1 hi)]
    rw [this, one_of (n := 16) (e.kind == 6) (by omega) 0 16, decide_eq_true (by omega), Bool.and_true]) es.length (Nat.le_refl _)
  rw [List.map_map] at this
  exact this
theorem cnt_methods (es : List Ev) : ((List.range 4).map fun i => cnt es es.length (24 + i)).sum = cnt es es.length 2 := by
  have := cnt_sum (es := es) (I := (List.range 4).map (24 + ·)) (j := 2) (fun k e he => by
    have h2 := win_range (x := e.dn.method) (m := 3) (by decide)
    have h1 := win_range (x := e.kind) (m := 7) (by decide)
    have hj : hitAt es 2 k = (e.kind == 2) := by
      rw [hitAt_of he, hits_lo es k e (by decide), Bool.eq_iff_iff, beq_iff_eq, beq_iff_eq]
      unfold win at h1 ⊢
      split <;> omega
    rw [hj, List.map_map]
    have : ((List.range 4).map ((fun i => if hitAt es i k = true then 1 else 0) ∘ (24 + ·))) = (List.range 4).map fun i => if (e.kind == 2 && (win e.dn.method 3).toNat == i) then 1 else 0 := by
      apply List.map_congr_left
      intro i hi
      simp only [Function.comp]
      rw [hitAt_of he, hits_hi es k e (List.mem_range.1 hi)]
    rw [this, one_of (n := 4) (e.kind == 2) (by omega) 0 4, decide_eq_true (by omega), Bool.and_true]) es.length (Nat.le_refl _)
  rw [List.map_map] at this
  exact this
theorem cnt_le_two {es : List Ev} {a b c : Nat} (h : ∀ k e, es[k]? = some e → (if hitAt es a k then 1 else 0) ≤ (if hitAt es b k then 1 else 0) + (if hitAt es c k then 1 else 0)) : ∀ k, k ≤ es.length → cnt es k a ≤ cnt es k b + cnt es k c := by
  intro k
  induction k with
  | zero => intro _; simp [cnt]
  | succ k ih =>
    intro hk
    have h1 := ih (by omega)
    have h2 := h k _ (List.getElem?_eq_getElem (by omega))
    rw [cnt_succ, cnt_succ, cnt_succ]
    omega
theorem hitAt_kind {es : List Ev} {k : Nat} {e : Ev} (he : es[k]? = some e) (j : Nat) (h0 : 0 < j) (h7 : j < 8) : hitAt es j k = (e.kind == (j : Int)) := by
  have h1 := win_range (x := e.kind) (m := 7) (by decide)
  rw [hitAt_of he, hits_lo es k e (by omega), Bool.eq_iff_iff, beq_iff_eq, beq_iff_eq]
  unfold win at h1 ⊢
  split <;> omega
theorem cnt_later (es : List Ev) : cnt es es.length 28 ≤ cnt es es.length 1 + cnt es es.length 2 :=
  cnt_le_two (fun k e he => by
    rw [hitAt_of (i := 28) he, hits_28, hitAt_kind he 1 (by decide) (by decide), hitAt_kind he 2 (by decide) (by decide)]
    unfold laterB
    simp only [Bool.and_eq_true, Bool.or_eq_true, beq_iff_eq, bne_iff_ne]
    split
    · rename_i h
      rcases h.1 with h | h
      · rw [if_pos (by omega)]; omega
      · rw [if_pos (c := e.kind = ((2 : Nat) : Int)) (by omega)]; omega
    · omega) es.length (Nat.le_refl _)
theorem safe_kind {es : List Ev} {k : Nat} {e : Ev} (he : es[k]? = some e) (h : safe es k = true) : e.kind = 2 ∨ e.kind = 4 := by
  rw [← refSafe_eq] at h
  unfold refSafe at h
  rw [he] at h
  simp only [Bool.and_eq_true, Bool.or_eq_true, beq_iff_eq] at h
  exact h.1
theorem cnt_safe (es : List Ev) : cnt es es.length 29 ≤ cnt es es.length 2 + cnt es es.length 4 :=
  cnt_le_two (fun k e he => by
    rw [hitAt_of (i := 29) he, hits_29, hitAt_kind he 2 (by decide) (by decide), hitAt_kind he 4 (by decide) (by decide)]
    simp only [beq_iff_eq]
    split
    · rename_i h
      rcases safe_kind he h with h | h
      · rw [if_pos (by omega)]; omega
      · rw [if_pos (c := e.kind = ((4 : Nat) : Int)) (by omega)]; omega
    · omega) es.length (Nat.le_refl _)

end Go.Proofs.Ytkgkpoiacbjdfaa
