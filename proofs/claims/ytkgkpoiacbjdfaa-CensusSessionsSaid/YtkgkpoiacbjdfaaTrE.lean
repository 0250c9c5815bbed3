/- The walks of the reference's Safe, of Good and of Safes. -/
import Derived.Test.YtkgkpoiacbjdfaaTrD
import Derived.Test.YtkgkpoiacbjdfaaInt
namespace Go.Proofs.Ytkgkpoiacbjdfaa
open Go.RowKit

/-- A key was kept until a place: it was not taken ahead of it. -/
theorem kept_eq (es : List Ev) (who at_ : Int) : kept es who at_ = !ahead es who at_ := by
  unfold kept ahead
  rcases idx_cases (isTaken who) es with ⟨hi, hm⟩ | ⟨k, e, hi, he, hp, hm⟩
  · rw [hi]
    have : (es.take at_.toNat).any (isTaken who) = false := ahead_none hm at_
    rw [this]; rfl
  · rw [hi]
    by_cases h : at_ ≤ k
    · rw [any_take_miss (by omega) hm, decide_eq_true h]; simp
    · rw [any_take_hit (isTaken who) he (by omega) hp, decide_eq_false (by omega), decide_eq_false (by omega)]; rfl
def refSafe (es : List Ev) (k : Nat) : Bool := match es[k]? with | none => false | some e => (e.kind == 2 || e.kind == 4) && !ahead es e.who k
theorem refSafe_eq (es : List Ev) (k : Nat) : refSafe es k = safe es k := by
  unfold refSafe safe
  rw [if_neg (by omega), Int.toNat_natCast]
  cases es[k]? with
  | none => rfl
  | some e => simp only [kept_eq]


def sesOf (es : List Ev) (i : Nat) : Int := match es[i]? with | some e => e.ses | none => 0
def goodTo (es : List Ev) (ses : Int) (k : Nat) : Bool := (List.range k).any fun i => safe es i && sesOf es i == ses
def good (es : List Ev) (ses : Int) : Bool := goodTo es ses es.length
theorem goodTo_succ (es : List Ev) (ses : Int) (k : Nat) : goodTo es ses (k + 1) = (goodTo es ses k || (safe es k && sesOf es k == ses)) := by
  unfold goodTo; rw [List.range_succ, List.any_append]; simp
theorem good_hit {es : List Ev} {ses : Int} {k : Nat} (hk : k < es.length) (h : safe es k = true) (hs : (sesOf es k == ses) = true) : good es ses = true := by
  unfold good goodTo
  rw [List.any_eq_true]
  exact ⟨k, List.mem_range.2 hk, by rw [h, hs]; rfl⟩

def safesTo (es : List Ev) (k : Nat) : List Int := ((List.range k).filter fun (i : Nat) => safe es i).map fun (i : Nat) => (i : Int)
def safes (es : List Ev) : List Int := safesTo es es.length
theorem safesTo_succ (es : List Ev) (k : Nat) : safesTo es (k + 1) = safesTo es k ++ (if safe es k then [(k : Int)] else []) := by
  unfold safesTo
  rw [List.range_succ, List.filter_append, List.map_append]
  congr 1
  by_cases h : safe es k = true <;> simp [h]
theorem safesTo_len (es : List Ev) (k : Nat) : (safesTo es k).length ≤ k := by
  unfold safesTo
  rw [List.length_map]
  exact Nat.le_trans (List.length_filter_le _ _) (by simp)

end Go.Proofs.Ytkgkpoiacbjdfaa
