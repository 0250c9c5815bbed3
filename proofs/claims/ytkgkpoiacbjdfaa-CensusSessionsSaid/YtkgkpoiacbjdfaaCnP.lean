/- The census as a list of thirty counts: plain laws. -/
import Derived.Test.YtkgkpoiacbjdfaaCnA
namespace Go.Proofs.Ytkgkpoiacbjdfaa

/-- The places of the census that an event counts at. -/
def hits (es : List Ev) (k : Nat) (e : Ev) : List Nat :=
  [(win e.kind 7).toNat] ++ (if e.kind = 6 then [8 + (win e.num 15).toNat] else []) ++ (if e.kind = 2 then [24 + (win e.dn.method 3).toNat] else []) ++
  (if (e.kind = 2 ∨ e.kind = 1) ∧ e.num ≠ 0 then [28] else []) ++ (if safe es k then [29] else [])
def hitAt (es : List Ev) (i k : Nat) : Bool := match es[k]? with | some e => (hits es k e).contains i | none => false
/-- How many of the first k events count at the place i. -/
def cnt (es : List Ev) (k i : Nat) : Nat := ((List.range k).filter (hitAt es i)).length
def cens (es : List Ev) (k : Nat) : List Int := (List.range 30).map fun i => (cnt es k i : Int)
theorem cnt_succ (es : List Ev) (k i : Nat) : cnt es (k + 1) i = cnt es k i + (if hitAt es i k then 1 else 0) := by
  unfold cnt
  rw [List.range_succ, List.filter_append, List.length_append]
  by_cases h : hitAt es i k = true <;> simp [h]
theorem cnt_le (es : List Ev) (k i : Nat) : cnt es k i ≤ k := by
  unfold cnt
  exact Nat.le_trans (List.length_filter_le _ _) (by simp)
theorem cens_len (es : List Ev) (k : Nat) : (cens es k).length = 30 := by simp [cens]
theorem cens_get {es : List Ev} {k i : Nat} (h : i < 30) : (cens es k)[i]? = some (cnt es k i : Int) := by
  unfold cens
  rw [List.getElem?_map, List.getElem?_range h]
  rfl
/-- One more at a place. -/
def bump (C : List Int) (i : Nat) : List Int := C.set i (C.getD i 0 + 1)
theorem bump_len (C : List Int) (i : Nat) : (bump C i).length = C.length := by simp [bump]
theorem bump_get (C : List Int) (i j : Nat) (h : j < C.length) : (bump C i)[j]? = some (C.getD j 0 + (if i = j then 1 else 0)) := by
  unfold bump
  rw [List.getElem?_set]
  by_cases e : i = j
  · subst e; simp [h]
  · simp [e, List.getElem?_eq_getElem h]
theorem bumps_get : ∀ (L : List Nat) (C : List Int) (j : Nat), L.Nodup → j < C.length → (L.foldl bump C)[j]? = some (C.getD j 0 + (if L.contains j then 1 else 0))
  | [], C, j, _, h => by simp [List.getElem?_eq_getElem h]
  | i :: L, C, j, hn, h => by
    rw [List.foldl_cons, bumps_get L (bump C i) j (List.nodup_cons.1 hn).2 (by rw [bump_len]; exact h)]
    have hg : (bump C i).getD j 0 = C.getD j 0 + (if i = j then 1 else 0) := by
      rw [List.getD_eq_getElem?_getD, bump_get C i j h]; rfl
    rw [hg]
    have hni := (List.nodup_cons.1 hn).1
    by_cases e : i = j
    · subst e
      have : L.contains i = false := by simpa using hni
      rw [this]
      simp
    · have : ((i :: L).contains j) = L.contains j := by simp [Ne.symm e]
      rw [this, if_neg e]
      simp
theorem win_range {x m : Int} (hm : 0 ≤ m) : 0 ≤ win x m ∧ win x m ≤ m := by unfold win; split <;> omega
theorem nd5 (a b c : Nat) (p q r s : Prop) [Decidable p] [Decidable q] [Decidable r] [Decidable s] (ha : a ≤ 7) (hb : b ≤ 15) (hc : c ≤ 3) :
    ([a] ++ (if p then [8 + b] else []) ++ (if q then [24 + c] else []) ++ (if r then [28] else []) ++ (if s then [29] else [])).Nodup := by
  by_cases hp : p <;> by_cases hq : q <;> by_cases hr : r <;> by_cases hs : s <;> simp only [hp, hq, hr, hs, if_true, if_false, List.append_nil, List.cons_append, List.nil_append, List.nodup_cons, List.mem_cons, List.not_mem_nil, List.nodup_nil, or_false, not_false_eq_true, and_true] <;> omega
theorem hits_nodup (es : List Ev) (k : Nat) (e : Ev) : (hits es k e).Nodup := by
  have h1 := win_range (x := e.kind) (m := 7) (by decide)
  have h2 := win_range (x := e.num) (m := 15) (by decide)
  have h3 := win_range (x := e.dn.method) (m := 3) (by decide)
  unfold hits
  exact nd5 _ _ _ _ _ _ _ (by omega) (by omega) (by omega)
theorem cens_step {es : List Ev} {k : Nat} {e : Ev} (he : es[k]? = some e) : cens es (k + 1) = (hits es k e).foldl bump (cens es k) := by
  apply List.ext_getElem?
  intro j
  by_cases h : j < 30
  · rw [bumps_get _ _ _ (hits_nodup es k e) (by rw [cens_len]; exact h), cens_get h, cnt_succ]
    have : hitAt es j k = (hits es k e).contains j := by unfold hitAt; rw [he]
    rw [this, List.getD_eq_getElem?_getD, cens_get h]
    generalize (hits es k e).contains j = q
    cases q <;> simp
  · have hl : ∀ (L : List Nat) (C : List Int), (L.foldl bump C).length = C.length := by
      intro L
      induction L with
      | nil => intro C; rfl
      | cons i L ih => intro C; rw [List.foldl_cons, ih, bump_len]
    rw [List.getElem?_eq_none (by rw [cens_len]; omega), List.getElem?_eq_none (by rw [hl, cens_len]; omega)]
end Go.Proofs.Ytkgkpoiacbjdfaa
