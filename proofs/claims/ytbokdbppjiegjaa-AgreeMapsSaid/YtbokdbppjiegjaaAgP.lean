/- Agree: the rules in plain words. -/
import Derived.Test.YtbokdbppjiegjaaAgB
import Derived.Test.YtbokdbppjiegjaaTrE
namespace Go.Proofs.Ytbokdbppjiegjaa
open Go.RowKit

def likeE (e x : Ev) : Bool := if x.kind == 2 then e.kind == 1 && e.who == x.who && decide (e.dn = x.dn) else if x.kind == 4 then e.kind == 3 && sameU e x else if x.kind == 5 then e.kind == 4 && sameU e x else false
def srcI (es : List Ev) (k : Nat) (x : Ev) : Int := idx (fun e => likeE e x) (es.take k)
def ofSes (ses : Int) (e : Ev) : Bool := isExch e && e.ses == ses
def opensI (es : List Ev) (ses : Int) : Int := idx (ofSes ses) es
def kindAt (es : List Ev) (i : Int) : Int := match es[i.toNat]? with | some y => y.kind | none => 0
def dnses (es : List Ev) (i : Int) : Int := match es[i.toNat]? with | some y => y.dn.session | none => 0
def commitSafe (es : List Ev) (i : Int) : Bool := decide (0 ≤ i) && kindAt es i == 2 && safe es i
def askedX (es : List Ev) (k : Nat) (x : Ev) : Bool := if x.kind == 5 then commitSafe es (opensI (es.take k) x.ses) else safe es k
def askedB (es : List Ev) (k : Nat) : Bool := match es[k]? with | none => false | some x => askedX es k x
def isKS (kind ses : Int) (y : Ev) : Bool := y.kind == kind && y.ses == ses
def b1 (B : List Ev) (x : Ev) : Bool := x.kind == 7 || !(B.any (isKS 6 x.ses))
def b2 (B : List Ev) (x : Ev) : Bool := !(x.kind == 7) || !(B.any (isTaken x.who))
def b3 (B : List Ev) (x : Ev) : Bool := !isExch x || x.num == (B.countP (ofSes x.ses) : Nat)
def b4 (B : List Ev) (x : Ev) : Bool := !isExch x || (if opensI B x.ses < 0 then x.dn.session == x.dn.hash else x.dn.session == dnses B (opensI B x.ses))
def b5 (B : List Ev) (x : Ev) : Bool := !(x.kind == 3 || x.kind == 4 || x.kind == 5) || (decide (0 ≤ opensI B x.ses) && dnses B (opensI B x.ses) == x.sid)
def b6 (B : List Ev) (x : Ev) : Bool := !(x.kind == 4 || x.kind == 5) || !(B.any (isKS x.kind x.ses))
def twiceAt (es : List Ev) (x : Ev) (s : Int) (i : Nat) : Bool := match es[i]? with | some y => y.kind == x.kind && askedX es i y && srcI es i y == s | none => false
def twiceB (es : List Ev) (k : Nat) (x : Ev) (s : Int) : Bool := (List.range k).any (twiceAt es x s)
def ruleS (es : List Ev) (k : Nat) (x : Ev) : Nat := if askedX es k x then (if srcI es k x < 0 then (if x.kind == 2 then 7 else if x.kind == 4 then 8 else 9) else if twiceB es k x (srcI es k x) then 10 else 0) else 0
def ruleX (es : List Ev) (k : Nat) (x : Ev) : Nat :=
  if b1 (es.take k) x then if b2 (es.take k) x then if b3 (es.take k) x then if b4 (es.take k) x then if b5 (es.take k) x then if b6 (es.take k) x then ruleS es k x else 6 else 5 else 4 else 3 else 2 else 1
def ruleN (es : List Ev) (k : Nat) : Nat := match es[k]? with | none => 0 | some x => ruleX es k x
def wordN : Nat → ByteArray
  | 1 => ⟨#[101, 110, 100]⟩
  | 2 => ⟨#[116, 97, 107, 101, 110]⟩
  | 3 => ⟨#[110, 117, 109, 98, 101, 114]⟩
  | 4 => ⟨#[115, 101, 115, 115, 105, 111, 110]⟩
  | 5 => ⟨#[101, 97, 114, 108, 121]⟩
  | 6 => ⟨#[97, 103, 97, 105, 110]⟩
  | 7 => ⟨#[99, 111, 109, 109, 105, 116]⟩
  | 8 => ⟨#[97, 99, 99, 101, 112, 116]⟩
  | 9 => ⟨#[108, 101, 116]⟩
  | 10 => ⟨#[116, 119, 105, 99, 101]⟩
  | _ => ⟨#[]⟩
theorem ruleX_le (es : List Ev) (k : Nat) (x : Ev) : ruleX es k x ≤ 10 := by
  unfold ruleX ruleS
  repeat' split
  all_goals omega
theorem wordN_nil {n : Nat} (h : n ≤ 10) : (wordN n).toList.isEmpty = (n == 0) := by
  match n, h with
  | 0, _ => decide +kernel
  | 1, _ => decide +kernel
  | 2, _ => decide +kernel
  | 3, _ => decide +kernel
  | 4, _ => decide +kernel
  | 5, _ => decide +kernel
  | 6, _ => decide +kernel
  | 7, _ => decide +kernel
  | 8, _ => decide +kernel
  | 9, _ => decide +kernel
  | 10, _ => decide +kernel

/-! What a place's rules say does not hang on what comes behind. -/
theorem idx_lt {α : Type} {p : α → Bool} {l : List α} : idx p l < l.length ∨ (idx p l = -1) := by
  rcases idx_cases p l with ⟨h, _⟩ | ⟨k, x, h, hx, _, _⟩
  · exact .inr h
  · have := (List.getElem?_eq_some_iff.1 hx).1
    left; rw [h]; omega
theorem ag_ahead (es ms : List Ev) (who : Int) {k : Nat} (hk : k ≤ es.length) : ahead (es ++ ms) who k = ahead es who k := by
  unfold ahead
  rw [Int.toNat_natCast, List.take_append_of_le_length hk]
theorem ag_safe (es ms : List Ev) {k : Nat} (hk : k < es.length) : safe (es ++ ms) k = safe es k := by
  rw [← refSafe_eq, ← refSafe_eq]
  unfold refSafe
  rw [List.getElem?_append_left hk]
  cases es[k]? with
  | none => rfl
  | some e => simp only [ag_ahead es ms _ (Nat.le_of_lt hk)]
theorem ag_commitSafe (es ms : List Ev) {i : Int} (hi : i < es.length) : commitSafe (es ++ ms) i = commitSafe es i := by
  unfold commitSafe kindAt
  by_cases h : 0 ≤ i
  · obtain ⟨k, rfl⟩ := Int.eq_ofNat_of_zero_le h
    have hk : k < es.length := by omega
    rw [Int.toNat_natCast, List.getElem?_append_left hk, ag_safe es ms hk]
  · rw [decide_eq_false h]; rfl
theorem ag_asked (es ms : List Ev) {k : Nat} (hk : k < es.length) (x : Ev) : askedX (es ++ ms) k x = askedX es k x := by
  unfold askedX
  rw [List.take_append_of_le_length (Nat.le_of_lt hk), ag_safe es ms hk]
  have hl : opensI (es.take k) x.ses < es.length := by
    unfold opensI
    rcases idx_lt (p := ofSes x.ses) (l := es.take k) with h | h
    · rw [List.length_take] at h; omega
    · omega
  rw [ag_commitSafe es ms hl]
theorem ag_src (es ms : List Ev) {k : Nat} (hk : k ≤ es.length) (x : Ev) : srcI (es ++ ms) k x = srcI es k x := by
  unfold srcI
  rw [List.take_append_of_le_length hk]
theorem ag_twiceAt (es ms : List Ev) {i : Nat} (hi : i < es.length) (x : Ev) (s : Int) : twiceAt (es ++ ms) x s i = twiceAt es x s i := by
  unfold twiceAt
  rw [List.getElem?_append_left hi]
  cases es[i]? with
  | none => rfl
  | some y => simp only [ag_asked es ms hi, ag_src es ms (Nat.le_of_lt hi)]
theorem ag_twice (es ms : List Ev) {k : Nat} (hk : k ≤ es.length) (x : Ev) (s : Int) : twiceB (es ++ ms) k x s = twiceB es k x s := by
  unfold twiceB
  rw [Bool.eq_iff_iff, List.any_eq_true, List.any_eq_true]
  constructor
  · rintro ⟨i, hi, h⟩
    exact ⟨i, hi, by rw [← ag_twiceAt es ms (by have := List.mem_range.1 hi; omega)]; exact h⟩
  · rintro ⟨i, hi, h⟩
    exact ⟨i, hi, by rw [ag_twiceAt es ms (by have := List.mem_range.1 hi; omega)]; exact h⟩
theorem ag_rule (es ms : List Ev) {k : Nat} (hk : k < es.length) : ruleN (es ++ ms) k = ruleN es k := by
  unfold ruleN
  rw [List.getElem?_append_left hk]
  cases es[k]? with
  | none => rfl
  | some x =>
    simp only [ruleX, ruleS, List.take_append_of_le_length (Nat.le_of_lt hk), ag_asked es ms hk, ag_src es ms (Nat.le_of_lt hk), ag_twice es ms (Nat.le_of_lt hk)]
theorem rule_take (es : List Ev) {k m : Nat} (hk : k < m) (hm : m ≤ es.length) : ruleN (es.take m) k = ruleN es k := by
  have := ag_rule (es.take m) (es.drop m) (k := k) (by rw [List.length_take]; omega)
  rw [List.take_append_drop] at this
  exact this.symm
theorem rule_none (es : List Ev) {k : Nat} (h : es.length ≤ k) : ruleN es k = 0 := by
  unfold ruleN
  rw [List.getElem?_eq_none h]

/-- The first place at which a rule does not hold. -/
def wrongI (es : List Ev) : Int := idx (fun k => ruleN es k != 0) (List.range es.length)
theorem range_at {n k : Nat} (h : k < n) : (List.range n)[k]? = some k := by
  rw [List.getElem?_eq_getElem (by simpa using h)]; simp
theorem wrongI_cases (es : List Ev) : (wrongI es = -1 ∧ ∀ k, ruleN es k = 0) ∨ ∃ k : Nat, wrongI es = k ∧ k < es.length ∧ ruleN es k ≠ 0 ∧ ∀ j, j < k → ruleN es j = 0 := by
  unfold wrongI
  rcases idx_cases (fun k => ruleN es k != 0) (List.range es.length) with ⟨h, hm⟩ | ⟨k, x, h, hx, hp, hm⟩
  · left
    refine ⟨h, fun k => ?_⟩
    by_cases hk : k < es.length
    · rw [List.any_eq_false] at hm
      have := hm k (List.mem_range.2 hk)
      simpa using this
    · exact rule_none es (by omega)
  · right
    have hk : k < es.length := by have := (List.getElem?_eq_some_iff.1 hx).1; simpa using this
    rw [range_at hk] at hx
    obtain rfl : k = x := by simpa using hx
    refine ⟨k, h, hk, by simpa using hp, fun j hj => ?_⟩
    rw [List.any_eq_false] at hm
    have := hm j (by rw [List.mem_take_iff_getElem]; exact ⟨j, by simp; omega, by simp⟩)
    simpa using this
end Go.Proofs.Ytbokdbppjiegjaa
