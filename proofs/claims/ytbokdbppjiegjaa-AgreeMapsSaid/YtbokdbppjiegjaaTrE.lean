/- The walks of the reference's Safe, of Good and of Safes. -/
import Derived.Test.YtbokdbppjiegjaaTrD
import Derived.Test.YtbokdbppjiegjaaInt
namespace Go.Proofs.Ytbokdbppjiegjaa
open Go.RowKit

/-- A key was kept until a place: it was not taken ahead of it. -/
theorem kept_eq (es : List Ev) (who at_ : Int) : kept es who at_ = !ahead es who at_ := by
  unfold kept ahead
  rcases idx_cases (isTaken who) es with ⟨hi, hm⟩ | ⟨k, e, hi, he, hp, hm⟩
  · rw [hi]
    have : (es.take at_.toNat).any (isTaken who) = false := ahead_none hm at_
    rw [this]; rfl
  · rw [hi]
    by_cases h : at_ ≤ k
    · rw [any_take_miss (by omega) hm, decide_eq_true h]; simp
    · rw [any_take_hit (isTaken who) he (by omega) hp, decide_eq_false (by omega), decide_eq_false (by omega)]; rfl
def refSafe (es : List Ev) (k : Nat) : Bool := match es[k]? with | none => false | some e => (e.kind == 2 || e.kind == 4) && !ahead es e.who k
theorem refSafe_eq (es : List Ev) (k : Nat) : refSafe es k = safe es k := by
  unfold refSafe safe
  rw [if_neg (by omega), Int.toNat_natCast]
  cases es[k]? with
  | none => rfl
  | some e => simp only [kept_eq]

set_option maxHeartbeats 400000 in
theorem refSafe_any (es : List Ev) (A : Option Addr) (n c k : Nat) (w : World) (hn : n ≤ 9223372036854775807) (hk : k < n) (H : Evs w A n es) :
    Calls Try.prog 40 #[.slice A n c, .int .i64 k] w fun r w' => r = .returned (.bool (safe es k)) ∧ w = w' := by
  have HH := Lib.hid H
  obtain ⟨b, off, e, rfl, hb, he, hr⟩ := H.row hk
  have hs : safe es k = ((e.kind == 2 || e.kind == 4) && !ahead es e.who k) := by rw [← refSafe_eq]; simp [refSafe, he]
  obtain ⟨c0, c1, c2, c3⟩ := Ev.flds hr
  have hA := ahead_any es (some ⟨b, off, none⟩) n c e.who k w hn H
  clear hr he c1 c2
  cases h2 : (e.kind == 2) with
  | true =>
    rw [h2] at hs
    cases ha : ahead es e.who k with
    | true =>
      rw [ha] at hA hs
      have hA := Lib.hid hA
      have hs := Lib.hid hs
      go_enter Try.func40, Try.ntmps40
      go_wp2_with (go_at_call 24; refine hA.out.mono ?_; rintro r w1 ⟨rfl, rfl⟩)
      go_ret
      exact ⟨ret_bool (by rw [hs.out]; rfl), rfl⟩
    | false =>
      rw [ha] at hA hs
      have hA := Lib.hid hA
      have hs := Lib.hid hs
      go_enter Try.func40, Try.ntmps40
      go_wp2_with (go_at_call 24; refine hA.out.mono ?_; rintro r w1 ⟨rfl, rfl⟩)
      go_ret
      exact ⟨ret_bool (by rw [hs.out]; rfl), rfl⟩
  | false =>
    rw [h2] at hs
    cases h4 : (e.kind == 4) with
    | true =>
      rw [h4] at hs
      cases ha : ahead es e.who k with
      | true =>
        rw [ha] at hA hs
        have hA := Lib.hid hA
        have hs := Lib.hid hs
        go_enter Try.func40, Try.ntmps40
        go_wp2_with (go_at_call 24; refine hA.out.mono ?_; rintro r w1 ⟨rfl, rfl⟩)
        go_ret
        exact ⟨ret_bool (by rw [hs.out]; rfl), rfl⟩
      | false =>
        rw [ha] at hA hs
        have hA := Lib.hid hA
        have hs := Lib.hid hs
        go_enter Try.func40, Try.ntmps40
        go_wp2_with (go_at_call 24; refine hA.out.mono ?_; rintro r w1 ⟨rfl, rfl⟩)
        go_ret
        exact ⟨ret_bool (by rw [hs.out]; rfl), rfl⟩
    | false =>
      rw [h4] at hs
      have hs := Lib.hid hs
      clear hA
      go_enter Try.func40, Try.ntmps40
      go_wp2_with fail
      go_ret
      exact ⟨ret_bool (by rw [hs.out]; rfl), rfl⟩

def sesOf (es : List Ev) (i : Nat) : Int := match es[i]? with | some e => e.ses | none => 0
def goodTo (es : List Ev) (ses : Int) (k : Nat) : Bool := (List.range k).any fun i => safe es i && sesOf es i == ses
def good (es : List Ev) (ses : Int) : Bool := goodTo es ses es.length
theorem goodTo_succ (es : List Ev) (ses : Int) (k : Nat) : goodTo es ses (k + 1) = (goodTo es ses k || (safe es k && sesOf es k == ses)) := by
  unfold goodTo; rw [List.range_succ, List.any_append]; simp
theorem good_hit {es : List Ev} {ses : Int} {k : Nat} (hk : k < es.length) (h : safe es k = true) (hs : (sesOf es k == ses) = true) : good es ses = true := by
  unfold good goodTo
  rw [List.any_eq_true]
  exact ⟨k, List.mem_range.2 hk, by rw [h, hs]; rfl⟩

def safesTo (es : List Ev) (k : Nat) : List Int := ((List.range k).filter fun (i : Nat) => safe es i).map fun (i : Nat) => (i : Int)
def safes (es : List Ev) : List Int := safesTo es es.length
theorem safesTo_succ (es : List Ev) (k : Nat) : safesTo es (k + 1) = safesTo es k ++ (if safe es k then [(k : Int)] else []) := by
  unfold safesTo
  rw [List.range_succ, List.filter_append, List.map_append]
  congr 1
  by_cases h : safe es k = true <;> simp [h]
theorem safesTo_len (es : List Ev) (k : Nat) : (safesTo es k).length ≤ k := by
  unfold safesTo
  rw [List.length_map]
  exact Nat.le_trans (List.length_filter_le _ _) (by simp)

end Go.Proofs.Ytbokdbppjiegjaa
