/- Terms, plainly: a share raised by several exponents: in which order plays no part, how often does. -/
import Derived.Test.YtbeanjaenmpoeaaDoorTmB
namespace Go.Proofs.YtbeanjaenmpoeaaDoor

def exps (s : Option Tm) (xs : List (Option Tm)) : Option Tm := xs.foldl expT s
theorem expT_none_l (x : Option Tm) : expT none x = none := rfl
theorem expT_none_r (s : Option Tm) : expT s none = none := by cases s <;> rfl
theorem exps_none (xs : List (Option Tm)) : exps none xs = none := by
  induction xs with
  | nil => rfl
  | cons x r ih => exact ih
theorem exps_mem_none : ∀ {xs : List (Option Tm)}, none ∈ xs → ∀ s, exps s xs = none
  | x :: r, h, s => by
    rcases List.mem_cons.1 h with h | h
    · subst h
      show exps (expT s none) r = none
      rw [expT_none_r]
      exact exps_none r
    · exact exps_mem_none h _
theorem exps_snoc (s : Option Tm) (xs : List (Option Tm)) (x : Option Tm) : exps s (xs ++ [x]) = expT (exps s xs) x := by simp [exps]
/-- A nonce's bytes are nine. -/
theorem nonce_len {t : Tm} (h : t.ok) (hk : t.kind = 2) : t.len = 9 := by
  obtain ⟨k, a, b, s, args⟩ := t
  have hk : k = 2 := hk
  subst hk
  rw [ok_mk] at h
  have h1 := h.1
  rw [len_mk h1]
  unfold okHd at h1
  simp only [reduceCtorEq, false_and, or_false, false_or, true_and, Nat.reduceEqDiff] at h1
  have : args = [] := List.eq_nil_of_length_eq_zero h1.2.2.2
  subst this
  rfl
theorem nonce_anti {t u : Tm} (ht : t.ok) (hu : u.ok) (kt : t.kind = 2) (ku : u.kind = 2) (h1 : nle t u) (h2 : nle u t) : t = u := by
  obtain ⟨k, a, b, s, args⟩ := t
  obtain ⟨k', a', b', s', args'⟩ := u
  have kt : k = 2 := kt
  have ku : k' = 2 := ku
  subst kt ku
  rw [ok_mk] at ht hu
  have e1 := ht.1
  have e2 := hu.1
  unfold okHd at e1 e2
  simp only [reduceCtorEq, false_and, or_false, false_or, true_and, Nat.reduceEqDiff] at e1 e2
  obtain ⟨_, _, rfl, e1⟩ := e1
  obtain ⟨_, _, rfl, e2⟩ := e2
  obtain rfl := List.eq_nil_of_length_eq_zero e1
  obtain rfl := List.eq_nil_of_length_eq_zero e2
  unfold nle at h1 h2
  simp only [Tm.a, Tm.b] at h1 h2
  obtain ⟨rfl, rfl⟩ : a = a' ∧ b = b' := by omega
  rfl
theorem ins_perm (x : Tm) : ∀ l, (ins x l).Perm (x :: l)
  | [] => List.Perm.refl _
  | y :: r => by
    rw [ins]
    split
    · exact ((ins_perm x r).cons y).trans (List.Perm.swap x y r)
    · exact List.Perm.refl _
theorem lens_perm {l m : List Tm} (h : l.Perm m) : lens l = lens m := by
  unfold lens
  exact (h.map Tm.len).sum_nat
theorem lens_nine : ∀ {l : List Tm}, (∀ t ∈ l, t.ok ∧ t.kind = 2) → lens l = 9 * l.length
  | [], _ => rfl
  | t :: r, h => by
    have h1 := nonce_len (h t (by simp)).1 (h t (by simp)).2
    have h2 := lens_nine (l := r) (fun u hu => h u (by simp [hu]))
    unfold lens at h2 ⊢
    simp only [List.map_cons, List.sum_cons, List.length_cons, h1, h2]
    omega
/-- The exponents that stand in order behind several steps. -/
def insAll (l : List Tm) (xs : List Tm) : List Tm := xs.foldl (fun a x => ins x a) l
theorem insAll_perm : ∀ (xs l : List Tm), (insAll l xs).Perm (xs ++ l)
  | [], l => List.Perm.refl _
  | x :: r, l => by
    show (insAll (ins x l) r).Perm (x :: r ++ l)
    exact (insAll_perm r _).trans (((ins_perm x l).append_left r).trans List.perm_middle)
theorem insAll_sorted : ∀ (xs : List Tm) {l : List Tm}, l.Pairwise nle → (insAll l xs).Pairwise nle
  | [], _, h => h
  | x :: r, _, h => insAll_sorted r (ins_sorted x h)
theorem insAll_len (xs l : List Tm) : (insAll l xs).length = xs.length + l.length := by
  rw [(insAll_perm xs l).length_eq]; simp
/-- What a share is behind several steps. -/
theorem exps_some {g : List UInt8} (hg : g.length ≤ 2100) : ∀ (xs l : List Tm), (∀ t ∈ xs, t.ok ∧ t.kind = 2) → (∀ t ∈ l, t.ok ∧ t.kind = 2) → xs.length + l.length ≤ 8 → exps (some (.mk 5 0 0 g l)) (xs.map some) = some (.mk 5 0 0 g (insAll l xs))
  | [], l, _, _, _ => rfl
  | x :: r, l, hx, hl, hn => by
    have hx1 := hx x (by simp)
    simp only [List.length_cons] at hn
    have hi : ∀ t ∈ ins x l, t.ok ∧ t.kind = 2 := fun t ht => by
      rcases ins_mem.1 ht with rfl | ht
      · exact hx1
      · exact hl t ht
    have hlen := lens_nine hi
    rw [ins_len] at hlen
    have h1 : expT (some (.mk 5 0 0 g l)) (some x) = some (.mk 5 0 0 g (ins x l)) := by
      show (if (5 : Nat) = 5 ∧ x.kind = 2 ∧ l.length < 8 then mkO 5 0 0 g ((ins x l).map some) else none) = _
      rw [if_pos ⟨rfl, hx1.2, by omega⟩]
      unfold mkO
      rw [alls_map]
      have : own 5 g.length = 9 + g.length := rfl
      dsimp only
      rw [if_pos (by omega)]
    show exps (expT _ (some x)) (r.map some) = _
    rw [h1, exps_some hg r (ins x l) (fun t ht => hx t (by simp [ht])) hi (by rw [ins_len]; omega)]
    rfl
/-- Nonces that stand in order, the same ones: the same list. -/
theorem sorted_same {l m : List Tm} (hl : ∀ t ∈ l, t.ok ∧ t.kind = 2) (hm : ∀ t ∈ m, t.ok ∧ t.kind = 2) (h1 : l.Pairwise nle) (h2 : m.Pairwise nle) (h : l.Perm m) : l = m :=
  List.Perm.eq_of_pairwise (fun a b ha hb x y => nonce_anti (hl a ha).1 (hm b hb).1 (hl a ha).2 (hm b hb).2 x y) h1 h2 h
theorem all_some_of : ∀ {os : List (Option Tm)}, none ∉ os → ∃ l : List Tm, os = l.map some
  | [], _ => ⟨[], rfl⟩
  | none :: r, h => absurd (by simp) h
  | some t :: r, h => by
    obtain ⟨l, rfl⟩ := all_some_of (os := r) (fun hh => h (by simp [hh]))
    exact ⟨t :: l, rfl⟩
theorem nonceT_some {w n : Int} {t : Tm} (h : nonceT w n = some t) : t = .mk 2 w.toNat n.toNat [] [] ∧ numOk w ∧ numOk n := by
  unfold nonceT at h
  split at h
  · rename_i hh
    obtain ⟨l, hl, rfl, _⟩ := mkO_some h
    obtain rfl := map_some_nil hl
    exact ⟨rfl, hh⟩
  · cases h
theorem nonceT_kind {w n : Int} {t : Tm} (h : nonceT w n = some t) : t.ok ∧ t.kind = 2 := ⟨nonceT_ok w n t h, by rw [(nonceT_some h).1]; rfl⟩
theorem baseT_some {g : List UInt8} {t : Tm} (h : baseT g = some t) : t = .mk 5 0 0 g [] ∧ txtOk g 2100 := by
  unfold baseT at h
  split at h
  · rename_i hh
    obtain ⟨l, hl, rfl, _⟩ := mkO_some h
    obtain rfl := map_some_nil hl
    exact ⟨rfl, hh⟩
  · cases h
/-- In which order a share is raised plays no part. -/
theorem exps_perm {g : List UInt8} {l m : List (Option Tm)} (hp : l.Perm m) (hl : ∀ o ∈ l, ∃ w n, o = nonceT w n) (hn : l.length ≤ 8) : exps (baseT g) l = exps (baseT g) m := by
  by_cases h0 : none ∈ l
  · rw [exps_mem_none h0, exps_mem_none (hp.mem_iff.1 h0)]
  · obtain ⟨xs, rfl⟩ := all_some_of h0
    obtain ⟨ys, rfl⟩ := all_some_of (fun h => h0 (hp.mem_iff.2 h))
    cases hb : baseT g with
    | none => rw [exps_none, exps_none]
    | some t =>
      obtain ⟨rfl, hg⟩ := baseT_some hb
      have hx : ∀ t ∈ xs, t.ok ∧ t.kind = 2 := fun t ht => by
        obtain ⟨w, n, e⟩ := hl (some t) (List.mem_map_of_mem ht)
        exact nonceT_kind e.symm
      have hy : ∀ t ∈ ys, t.ok ∧ t.kind = 2 := fun t ht => by
        obtain ⟨w, n, e⟩ := hl (some t) (hp.mem_iff.2 (List.mem_map_of_mem ht))
        exact nonceT_kind e.symm
      have hle := hp.length_eq
      simp only [List.length_map] at hn hle
      rw [exps_some hg.2 xs [] hx (by simp) (by simpa using hn), exps_some hg.2 ys [] hy (by simp) (by simpa [← hle] using hn)]
      have hxy : xs.Perm ys := by
        have h1 := hp.filterMap id
        simpa [List.filterMap_map] using h1
      have e : insAll [] xs = insAll [] ys := by
        refine sorted_same ?_ ?_ (insAll_sorted xs List.Pairwise.nil) (insAll_sorted ys List.Pairwise.nil) ?_
        · intro t ht
          exact hx t (by simpa using (insAll_perm xs []).mem_iff.1 ht)
        · intro t ht
          exact hy t (by simpa using (insAll_perm ys []).mem_iff.1 ht)
        · have h1 := insAll_perm xs []
          have h2 := insAll_perm ys []
          rw [List.append_nil] at h1 h2
          exact h1.trans (hxy.trans h2.symm)
      rw [e]
/-- What a share is that there is. -/
theorem exps_base {g : List UInt8} {l : List (Option Tm)} (hl : ∀ o ∈ l, ∃ w n, o = nonceT w n) (hn : l.length ≤ 8) {t : Tm} (h : exps (baseT g) l = some t) : ∃ xs : List Tm, l = xs.map some ∧ t = .mk 5 0 0 g (insAll [] xs) ∧ txtOk g 2100 ∧ ∀ t ∈ xs, t.ok ∧ t.kind = 2 := by
  by_cases h0 : none ∈ l
  · rw [exps_mem_none h0] at h; cases h
  · obtain ⟨xs, rfl⟩ := all_some_of h0
    have hx : ∀ t ∈ xs, t.ok ∧ t.kind = 2 := fun t ht => by
      obtain ⟨w, n, e⟩ := hl (some t) (List.mem_map_of_mem ht)
      exact nonceT_kind e.symm
    cases hb : baseT g with
    | none => rw [hb, exps_none] at h; cases h
    | some u =>
      obtain ⟨rfl, hg⟩ := baseT_some hb
      rw [List.length_map] at hn
      rw [hb, exps_some hg.2 xs [] hx (by simp) (by simpa using hn)] at h
      exact ⟨xs, rfl, (Option.some.inj h).symm, hg, hx⟩
/-- How often by one exponent does: one more is another share. -/
theorem exps_more {g : List UInt8} {l : List (Option Tm)} {x : Option Tm} (hl : ∀ o ∈ l, ∃ w n, o = nonceT w n) (hn : l.length ≤ 8) (h : exps (baseT g) l ≠ none) : expT (exps (baseT g) l) x ≠ exps (baseT g) l := by
  cases e : exps (baseT g) l with
  | none => exact absurd e h
  | some t =>
    obtain ⟨xs, rfl, rfl, hg, hx⟩ := exps_base hl hn e
    intro he
    cases x with
    | none => cases he
    | some x =>
      have he : (if (5 : Nat) = 5 ∧ x.kind = 2 ∧ (insAll [] xs).length < 8 then mkO 5 0 0 g ((ins x (insAll [] xs)).map some) else none) = _ := he
      split at he
      · obtain ⟨m, hm, h2, _⟩ := mkO_some he
        injection h2 with _ _ _ _ h2
        have := congrArg List.length hm
        rw [List.length_map, List.length_map, ins_len, h2] at this
        omega
      · cases he
theorem exps_some_base {g : List UInt8} {l : List (Option Tm)} (hl : ∀ o ∈ l, ∃ w n, o = nonceT w n) (hn : l.length ≤ 8) (h0 : 0 < l.length) (h : exps (baseT g) l ≠ none) : baseT g ≠ exps (baseT g) l := by
  cases e : exps (baseT g) l with
  | none => exact absurd e h
  | some t =>
    obtain ⟨xs, rfl, rfl, hg, hx⟩ := exps_base hl hn e
    intro he
    obtain ⟨h1, _⟩ := baseT_some he
    injection h1 with _ _ _ _ h1
    have := congrArg List.length h1
    rw [insAll_len] at this
    simp at this h0
    exact absurd this (by intro h; rw [h] at h0; exact absurd h0 (by decide))
end Go.Proofs.YtbeanjaenmpoeaaDoor
