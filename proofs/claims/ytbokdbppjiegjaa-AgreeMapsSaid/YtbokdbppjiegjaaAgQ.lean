/- Agree: where all rules hold, each safe commit and accept has a source of its own. -/
import Derived.Test.YtbokdbppjiegjaaAgP
namespace Go.Proofs.Ytbokdbppjiegjaa
open Go.RowKit

theorem safe_of {es : List Ev} {i : Nat} {x : Ev} (hx : es[i]? = some x) (hk : x.kind = 2 ∨ x.kind = 4) (ha : ahead es x.who i = false) : safe es i = true := by
  rw [← refSafe_eq]
  unfold refSafe
  rw [hx]
  rcases hk with h | h <;> simp [h, ha]
theorem asked_of {es : List Ev} {i : Nat} {x : Ev} (hx : es[i]? = some x) (hk : x.kind = 2 ∨ x.kind = 4) (ha : ahead es x.who i = false) : askedX es i x = true := by
  unfold askedX
  rw [if_neg (by rcases hk with h | h <;> simp [h])]
  exact safe_of hx hk ha
theorem ruleX_zero {es : List Ev} {k : Nat} {x : Ev} (h : ruleX es k x = 0) (ha : askedX es k x = true) : 0 ≤ srcI es k x ∧ twiceB es k x (srcI es k x) = false := by
  unfold ruleX at h
  repeat' split at h
  all_goals first | omega | skip
  unfold ruleS at h
  rw [if_pos ha] at h
  by_cases hs : srcI es k x < 0
  · rw [if_pos hs] at h
    repeat' split at h
    all_goals omega
  · rw [if_neg hs] at h
    refine ⟨by omega, ?_⟩
    split at h
    · omega
    · rename_i hh; simpa using hh
theorem src_facts {es : List Ev} {i : Nat} {x : Ev} (h : 0 ≤ srcI es i x) : ∃ (s : Nat) (y : Ev), srcI es i x = s ∧ s < i ∧ es[s]? = some y ∧ likeE y x = true := by
  unfold srcI at *
  rcases idx_cases (fun e => likeE e x) (es.take i) with ⟨h1, _⟩ | ⟨s, y, h1, h2, h3, _⟩
  · rw [h1] at h; omega
  · rw [List.getElem?_take] at h2
    split at h2
    · exact ⟨s, y, h1, by assumption, h2, h3⟩
    · cases h2
theorem sameU_facts {e f : Ev} (h : sameU e f = true) : e.who = f.who ∧ e.sid = f.sid := by
  unfold sameU at h
  simp only [Bool.and_eq_true, beq_iff_eq] at h
  exact ⟨h.1.1.1.1, h.2⟩
theorem like_facts {y x : Ev} (h : likeE y x = true) (hk : x.kind = 2 ∨ x.kind = 4) : y.who = x.who ∧ (x.kind = 2 → y.dn = x.dn) ∧ (x.kind = 4 → y.sid = x.sid) := by
  unfold likeE at h
  rcases hk with hk | hk
  · rw [hk] at h
    simp at h
    exact ⟨h.1.2, fun _ => h.2, fun h4 => by omega⟩
  · rw [hk] at h
    simp at h
    exact ⟨(sameU_facts h.2).1, fun h2 => by omega, fun _ => (sameU_facts h.2).2⟩
theorem maps_one {es : List Ev} (hR : ∀ k, ruleN es k = 0) {i : Nat} {x : Ev} (hx : es[i]? = some x) (hk : x.kind = 2 ∨ x.kind = 4) (ha : ahead es x.who i = false) :
    ∃ (s : Nat) (y : Ev), srcI es i x = s ∧ s < i ∧ es[s]? = some y ∧ y.who = x.who ∧ (x.kind = 2 → y.dn = x.dn) ∧ (x.kind = 4 → y.sid = x.sid) := by
  have h0 := hR i
  unfold ruleN at h0
  rw [hx] at h0
  obtain ⟨h1, _⟩ := ruleX_zero h0 (asked_of hx hk ha)
  obtain ⟨s, y, e1, e2, e3, e4⟩ := src_facts h1
  exact ⟨s, y, e1, e2, e3, like_facts e4 hk⟩
theorem maps_two {es : List Ev} (hR : ∀ k, ruleN es k = 0) {i k : Nat} {x z : Ev} (hx : es[i]? = some x) (hk : x.kind = 2 ∨ x.kind = 4) (ha : ahead es x.who i = false)
    (hki : k < i) (hz : es[k]? = some z) (hzk : z.kind = x.kind) (hza : ahead es z.who k = false) : ∃ t : Nat, srcI es k z = t ∧ (t : Int) ≠ srcI es i x := by
  have h0 := hR i
  unfold ruleN at h0
  rw [hx] at h0
  obtain ⟨_, h2⟩ := ruleX_zero h0 (asked_of hx hk ha)
  obtain ⟨t, y, e1, _⟩ := maps_one hR hz (by rw [hzk]; exact hk) hza
  refine ⟨t, e1, fun he => ?_⟩
  unfold twiceB at h2
  rw [List.any_eq_false] at h2
  refine h2 k (List.mem_range.2 hki) ?_
  unfold twiceAt
  rw [hz]
  simp only [hzk, beq_self_eq_true, Bool.true_and, asked_of hz (by rw [hzk]; exact hk) hza, e1, ← he]
end Go.Proofs.Ytbokdbppjiegjaa
