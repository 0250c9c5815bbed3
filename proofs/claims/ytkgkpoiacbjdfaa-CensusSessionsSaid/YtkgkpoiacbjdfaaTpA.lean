/- Trust: which sessions are partners, plainly. -/
import Derived.Test.YtkgkpoiacbjdfaaAgD
import Derived.Test.YtkgkpoiacbjdfaaSrt
namespace Go.Proofs.Ytkgkpoiacbjdfaa
open Go.RowKit

def exch (e : Ev) : Bool := e.kind == 1 || e.kind == 2
def isOpen (ses : Int) (e : Ev) : Bool := exch e && e.ses == ses && e.num == 0
def openE (es : List Ev) (ses : Int) : Option Ev := es.find? (isOpen ses)
theorem find_idx {α : Type} (p : α → Bool) (l : List α) : (idx p l = -1 ∧ l.find? p = none) ∨ ∃ k x, idx p l = (k : Nat) ∧ l[k]? = some x ∧ l.find? p = some x := by
  rcases idx_cases p l with ⟨h, hm⟩ | ⟨k, x, h, hx, hp, hm⟩
  · left
    refine ⟨h, ?_⟩
    rw [List.find?_eq_none]
    intro y hy
    rw [List.any_eq_false] at hm
    simpa using hm y hy
  · right
    refine ⟨k, x, h, hx, ?_⟩
    have hl := (List.getElem?_eq_some_iff.1 hx).1
    have hs : l = l.take k ++ x :: l.drop (k + 1) := by
      have e2 : l.drop k = l[k] :: l.drop (k + 1) := List.drop_eq_getElem_cons hl
      rw [(List.getElem?_eq_some_iff.1 hx).2] at e2
      rw [← e2, List.take_append_drop]
    rw [hs, List.find?_append]
    have : (l.take k).find? p = none := by
      rw [List.find?_eq_none]
      intro y hy
      rw [List.any_eq_false] at hm
      simpa using hm y hy
    rw [this]
    simp [hp]
/-- Are two sessions partners? -/
def mate (es : List Ev) (a b : Int) : Bool := match openE es a, openE es b with
  | some x, some y => x.kind + y.kind == 3 && decide (x.dn = y.dn)
  | _, _ => false
theorem mate_comm {es : List Ev} {a b : Int} (h : mate es a b = true) : mate es b a = true := by
  unfold mate at *
  cases ha : openE es a with
  | none => rw [ha] at h; simp at h
  | some x =>
    cases hb : openE es b with
    | none => rw [ha, hb] at h; simp at h
    | some y =>
      rw [ha, hb] at h
      simp only [Bool.and_eq_true, beq_iff_eq, decide_eq_true_eq] at h ⊢
      exact ⟨by omega, h.2.symm⟩
theorem openE_some {es : List Ev} {a : Int} {x : Ev} (h : openE es a = some x) : exch x = true ∧ x.ses = a ∧ x.num = 0 ∧ x ∈ es := by
  have h1 := List.find?_some h
  have h2 := List.mem_of_find?_eq_some h
  unfold isOpen at h1
  simp only [Bool.and_eq_true, beq_iff_eq] at h1
  exact ⟨h1.1.1, h1.1.2, h1.2, h2⟩
/-- The partners that the first k events tell. -/
def ptTo (es : List Ev) (ses : Int) : Nat → List Int
  | 0 => []
  | k + 1 => match es[k]? with
    | none => ptTo es ses k
    | some e => if exch e && !((ptTo es ses k).contains e.ses) && mate es ses e.ses then ptTo es ses k ++ [e.ses] else ptTo es ses k
def pt (es : List Ev) (ses : Int) : List Int := ptTo es ses es.length
theorem ptTo_hit {es : List Ev} {ses : Int} {k : Nat} {e : Ev} (h : es[k]? = some e) (hq : (exch e && !((ptTo es ses k).contains e.ses) && mate es ses e.ses) = true) : ptTo es ses (k + 1) = ptTo es ses k ++ [e.ses] := by
  rw [ptTo, h]; simp only [hq, if_true]
theorem ptTo_miss {es : List Ev} {ses : Int} {k : Nat} {e : Ev} (h : es[k]? = some e) (hq : (exch e && !((ptTo es ses k).contains e.ses) && mate es ses e.ses) = false) : ptTo es ses (k + 1) = ptTo es ses k := by
  rw [ptTo, h]; simp only [hq, Bool.false_eq_true, if_false]
theorem ptTo_len (es : List Ev) (ses : Int) : ∀ k, (ptTo es ses k).length ≤ k
  | 0 => by simp [ptTo]
  | k + 1 => by
    have := ptTo_len es ses k
    rw [ptTo]
    split
    · omega
    · split <;> simp <;> omega
theorem ptTo_mem (es : List Ev) (ses : Int) : ∀ k s, s ∈ ptTo es ses k → mate es ses s = true
  | 0, s, h => by simp [ptTo] at h
  | k + 1, s, h => by
    rw [ptTo] at h
    split at h
    · exact ptTo_mem es ses k s h
    · split at h
      · rename_i hq
        rcases List.mem_append.1 h with h | h
        · exact ptTo_mem es ses k s h
        · simp only [List.mem_singleton] at h
          subst h
          simp only [Bool.and_eq_true] at hq
          exact hq.2
      · exact ptTo_mem es ses k s h
theorem ptTo_nodup (es : List Ev) (ses : Int) : ∀ k, (ptTo es ses k).Nodup
  | 0 => by simp [ptTo]
  | k + 1 => by
    have ih := ptTo_nodup es ses k
    rw [ptTo]
    split
    · exact ih
    · split
      · rename_i hq
        rw [List.nodup_append]
        refine ⟨ih, by simp, ?_⟩
        intro a ha b hb hab
        simp only [List.mem_singleton] at hb
        subst hb; subst hab
        simp only [Bool.and_eq_true, Bool.not_eq_true', List.contains_eq_mem, decide_eq_false_iff_not] at hq
        exact hq.1.2 ha
      · exact ih
theorem ptTo_mono (es : List Ev) (ses : Int) {s : Int} : ∀ {k m : Nat}, k ≤ m → s ∈ ptTo es ses k → s ∈ ptTo es ses m := by
  intro k m hkm h
  induction m with
  | zero => have : k = 0 := by omega
            subst this; exact h
  | succ m ih =>
    by_cases hk : k = m + 1
    · subst hk; exact h
    · have := ih (by omega)
      rw [ptTo]
      split
      · exact this
      · split
        · exact List.mem_append_left _ this
        · exact this
theorem ptTo_full (es : List Ev) (ses : Int) {k : Nat} {e : Ev} (h : es[k]? = some e) (hx : exch e = true) (hm : mate es ses e.ses = true) : e.ses ∈ ptTo es ses (k + 1) := by
  cases hc : (ptTo es ses k).contains e.ses with
  | true => exact ptTo_mono es ses (Nat.le_succ k) (by simpa using hc)
  | false => rw [ptTo_hit h (by rw [hx, hc, hm]; rfl)]; simp
theorem pt_iff (es : List Ev) (ses s : Int) : s ∈ pt es ses ↔ mate es ses s = true := by
  constructor
  · exact ptTo_mem es ses _ s
  · intro h
    have hh := h
    unfold mate at hh
    cases ha : openE es ses with
    | none => rw [ha] at hh; simp at hh
    | some x =>
      cases hb : openE es s with
      | none => rw [ha, hb] at hh; simp at hh
      | some y =>
        obtain ⟨h1, h2, h3, h4⟩ := openE_some hb
        obtain ⟨k, hk⟩ := List.getElem?_of_mem h4
        have hl := (List.getElem?_eq_some_iff.1 hk).1
        subst h2
        exact ptTo_mono es ses (by omega) (ptTo_full es ses hk h1 h)
/-! Sorted lists. -/
theorem srt_mem {l : List Int} {x : Int} : x ∈ srt l ↔ x ∈ l := (List.mergeSort_perm l _).mem_iff
theorem srt_len (l : List Int) : (srt l).length = l.length := (List.mergeSort_perm l _).length_eq
theorem srt_pair (l : List Int) : (srt l).Pairwise fun x y => x ≤ y := by
  have := List.pairwise_mergeSort (le := fun (x y : Int) => decide (x ≤ y)) (by intro a b c; simp; omega) (by intro a b; simp; omega) l
  exact this.imp (by simp)
theorem srt_nodup {l : List Int} (h : l.Nodup) : (srt l).Nodup := (List.mergeSort_perm l _).nodup_iff.2 h
theorem rises_of {l : List Int} (h : l.Pairwise fun x y => x < y) : rises l = true := by
  unfold rises risesTo
  rw [List.all_eq_true]
  intro i hi
  have hi := List.mem_range.1 hi
  rw [List.pairwise_iff_getElem] at h
  have := h i (i + 1) (by omega) (by omega) (by omega)
  rw [List.getD_eq_getElem?_getD, List.getD_eq_getElem?_getD, List.getElem?_eq_getElem (by omega), List.getElem?_eq_getElem (by omega)]
  simpa using this
theorem rises_srt {l : List Int} (h : l.Nodup) : rises (srt l) = true := by
  apply rises_of
  have h1 := srt_pair l
  have h2 := srt_nodup h
  exact (h1.and h2).imp (by intro a b; omega)
theorem hasI_mem {l : List Int} {x : Int} : hasI l x = decide (x ∈ l) := by
  unfold hasI
  rw [Bool.eq_iff_iff]
  simp
theorem hasI_pt (es : List Ev) (ses s : Int) : hasI (srt (pt es ses)) s = mate es ses s := by
  rw [hasI_mem, Bool.eq_iff_iff]
  simp only [decide_eq_true_eq, srt_mem, pt_iff]
/-- What all exchanges of a session came to. -/
def isKey (ses : Int) (e : Ev) : Bool := exch e && e.ses == ses
def keysTo (es : List Ev) (ses : Int) (k : Nat) : List Dn := ((es.take k).filter (isKey ses)).map Ev.dn
theorem keysTo_succ {es : List Ev} {ses : Int} {k : Nat} {e : Ev} (h : es[k]? = some e) : keysTo es ses (k + 1) = keysTo es ses k ++ (if isKey ses e then [e.dn] else []) := by
  unfold keysTo
  rw [take_succ_of h, List.filter_append, List.map_append]
  congr 1
  by_cases hq : isKey ses e = true <;> simp [hq]
theorem keysTo_len (es : List Ev) (ses : Int) (k : Nat) : (keysTo es ses k).length ≤ k := by
  unfold keysTo
  rw [List.length_map]
  exact Nat.le_trans (List.length_filter_le _ _) (by simp; omega)
theorem keysTo_pre {es : List Ev} {ses : Int} {k n : Nat} (h : k ≤ n) : ∃ r, keysTo es ses n = keysTo es ses k ++ r := by
  unfold keysTo
  refine ⟨(((es.take n).drop k).filter (isKey ses)).map Ev.dn, ?_⟩
  rw [← List.map_append, ← List.filter_append]
  congr 2
  have := (List.take_append_drop k (es.take n)).symm
  rwa [List.take_take, Nat.min_eq_left h] at this
end Go.Proofs.Ytkgkpoiacbjdfaa
