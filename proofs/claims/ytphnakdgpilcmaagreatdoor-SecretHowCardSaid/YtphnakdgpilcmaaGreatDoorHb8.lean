/- Texts joined: what each shows stands ahead of its theorems. -/
import Derived.Test.YtphnakdgpilcmaaGreatDoorHb7
import Derived.Deep.DeepCutAuto
namespace Go.Proofs.YtphnakdgpilcmaaGreatDoor
section
open Go.RowKit

theorem cmpT_neg (p q : Tm) : cmpT p q < 0 ↔ ¬ nle q p := by
  unfold cmpT nle
  split <;> omega
section
variable (T : Nat → Tm)
/-- By number. -/
def insI (x : Nat) : List Nat → List Nat
  | [] => [x]
  | y :: r => if nle (T y) (T x) then y :: insI x r else x :: y :: r
def srtI (l : List Nat) : Prop := l.Pairwise fun x y => nle (T x) (T y)
variable {T}
theorem insI_map (x : Nat) : ∀ l : List Nat, (insI T x l).map T = ins (T x) (l.map T)
  | [] => rfl
  | y :: r => by
    rw [insI, List.map_cons, ins]
    split
    · rw [List.map_cons, insI_map x r]
    · rfl
theorem insI_len (x : Nat) (l : List Nat) : (insI T x l).length = l.length + 1 := by
  have := congrArg List.length (insI_map (T := T) x l)
  rw [List.length_map, ins_len, List.length_map] at this
  exact this
theorem insI_mem {x y : Nat} : ∀ {l}, y ∈ insI T x l ↔ y = x ∨ y ∈ l
  | [] => by simp [insI]
  | z :: r => by
    rw [insI]
    split
    · simp only [List.mem_cons, insI_mem (l := r)]
      constructor
      · rintro (h | h | h) <;> simp [h]
      · rintro (h | h | h) <;> simp [h]
    · simp
theorem srtI_map {l : List Nat} : srtI T l ↔ (l.map T).Pairwise nle := by unfold srtI; rw [List.pairwise_map]
theorem insI_srt (x : Nat) {l : List Nat} (h : srtI T l) : srtI T (insI T x l) := by
  rw [srtI_map, insI_map]
  exact ins_sorted _ (srtI_map.1 h)
theorem insI_at (x : Nat) : ∀ (l : List Nat) (j : Nat), (∀ y ∈ l.take j, nle (T y) (T x)) → (∀ y ∈ l.drop j, ¬ nle (T y) (T x)) → insI T x l = l.take j ++ x :: l.drop j
  | [], j, _, _ => by simp [insI]
  | y :: r, 0, _, h2 => by
    have := h2 y (by simp)
    rw [insI, if_neg this]
    rfl
  | y :: r, j + 1, h1, h2 => by
    have h := h1 y (by simp)
    rw [insI, if_pos h, List.take_succ_cons, List.drop_succ_cons, List.cons_append, insI_at x r j (fun z hz => h1 z (by rw [List.take_succ_cons]; exact List.mem_cons_of_mem _ hz)) (fun z hz => h2 z (by rw [List.drop_succ_cons]; exact hz))]
/-- Where the loop stops: all ahead may stay ahead. -/
theorem srtI_take {x : Nat} {l : List Nat} (hs : srtI T l) {j : Nat} {y : Nat} (hy : l[j]? = some y) (h : nle (T y) (T x)) : ∀ z ∈ l.take (j + 1), nle (T z) (T x) := by
  intro z hz
  obtain ⟨i, hi⟩ := List.getElem?_of_mem hz
  have hi2 : i < j + 1 := by
    have := (List.getElem?_eq_some_iff.1 hi).1
    rw [List.length_take] at this
    omega
  rw [List.getElem?_take, if_pos hi2] at hi
  rcases Nat.lt_or_ge i j with hlt | hge
  · have hil := (List.getElem?_eq_some_iff.1 hi)
    have hjl := (List.getElem?_eq_some_iff.1 hy)
    have := (List.pairwise_iff_getElem.1 hs) i j hil.1 hjl.1 hlt
    rw [hil.2, hjl.2] at this
    exact nle_trans this h
  · have : i = j := by omega
    subst this
    rw [hi] at hy
    obtain rfl := Option.some.inj hy
    exact h
/-- The list while x goes down. -/
def dwn (x : Nat) (l : List Nat) (j : Nat) : List Nat := l.take j ++ x :: l.drop j
theorem dwn_top (x : Nat) (l : List Nat) : dwn x l l.length = l ++ [x] := by unfold dwn; simp
theorem dwn_len (x : Nat) (l : List Nat) (j : Nat) : (dwn x l j).length = l.length + 1 := by
  unfold dwn
  rw [List.length_append, List.length_cons, List.length_take, List.length_drop]
  omega
theorem dwn_at (x : Nat) (l : List Nat) {j : Nat} (hj : j ≤ l.length) : (dwn x l j)[j]? = some x := by
  unfold dwn
  rw [List.getElem?_append_right (by rw [List.length_take]; omega), List.length_take, Nat.min_eq_left hj, Nat.sub_self]
  rfl
theorem dwn_low (x : Nat) (l : List Nat) {j : Nat} (hj : j < l.length) : (dwn x l (j + 1))[j]? = l[j]? := by
  unfold dwn
  rw [List.getElem?_append_left (by rw [List.length_take]; omega), List.getElem?_take, if_pos (by omega)]
/-- One swap: x goes down by one. -/
theorem dwn_swap (x : Nat) {l : List Nat} {j y : Nat} (hy : l[j]? = some y) (i : Nat) : (dwn x l j)[i]? = if i = j then some x else if i = j + 1 then some y else (dwn x l (j + 1))[i]? := by
  have hjl := (List.getElem?_eq_some_iff.1 hy).1
  by_cases e : i = j
  · rw [if_pos e, e, dwn_at x l (by omega)]
  rw [if_neg e]
  unfold dwn
  rcases Nat.lt_or_ge i j with hlt | hge
  · rw [if_neg (by omega), List.getElem?_append_left (by rw [List.length_take]; omega), List.getElem?_append_left (by rw [List.length_take]; omega), List.getElem?_take, List.getElem?_take, if_pos hlt, if_pos (by omega)]
  · obtain ⟨m, rfl⟩ : ∃ m, i = j + 1 + m := ⟨i - j - 1, by omega⟩
    rw [List.getElem?_append_right (by rw [List.length_take]; omega), List.length_take, Nat.min_eq_left (by omega), show j + 1 + m - j = m + 1 by omega, List.getElem?_cons_succ, List.getElem?_drop]
    split
    · rename_i h0
      have : m = 0 := by omega
      subst this
      exact hy
    · rw [List.getElem?_append_right (by rw [List.length_take]; omega), List.length_take, Nat.min_eq_left (by omega), show j + 1 + m - (j + 1) = (m - 1) + 1 by omega, List.getElem?_cons_succ, List.getElem?_drop]
      congr 1
      omega
/-- The sort's end. -/
theorem dwn_ins {x : Nat} {l : List Nat} (hs : srtI T l) {j : Nat} (hd : ∀ y ∈ l.drop j, ¬ nle (T y) (T x)) (h0 : j = 0 ∨ ∃ y, l[j - 1]? = some y ∧ nle (T y) (T x)) : insI T x l = dwn x l j := by
  refine insI_at x l j ?_ hd
  rcases h0 with rfl | ⟨y, hy, h⟩
  · simp
  · cases j with
    | zero => simp
    | succ j => exact srtI_take hs hy h
theorem dwn_drop {x : Nat} {l : List Nat} {j : Nat} {y : Nat} (hy : l[j]? = some y) (hd : ∀ z ∈ l.drop (j + 1), ¬ nle (T z) (T x)) (h : ¬ nle (T y) (T x)) : ∀ z ∈ l.drop j, ¬ nle (T z) (T x) := by
  intro z hz
  rw [List.drop_eq_getElem_cons (List.getElem?_eq_some_iff.1 hy).1] at hz
  rcases List.mem_cons.1 hz with rfl | hz
  · rw [(List.getElem?_eq_some_iff.1 hy).2]; exact h
  · exact hd z hz
/-- One behind the other. -/
def insAllI (T : Nat → Tm) (l : List Nat) (xs : List Nat) : List Nat := xs.foldl (fun a x => insI T x a) l
theorem insAllI_snoc (l xs : List Nat) (x : Nat) : insAllI T l (xs ++ [x]) = insI T x (insAllI T l xs) := by simp [insAllI]
theorem insAllI_srt : ∀ (xs : List Nat) {l : List Nat}, srtI T l → srtI T (insAllI T l xs)
  | [], _, h => h
  | x :: r, _, h => insAllI_srt r (insI_srt x h)
theorem insAllI_len : ∀ (xs l : List Nat), (insAllI T l xs).length = l.length + xs.length
  | [], l => rfl
  | x :: r, l => by
    show (insAllI T (insI T x l) r).length = _
    rw [insAllI_len r, insI_len, List.length_cons]
    omega
theorem insAllI_mem {y : Nat} : ∀ {xs l : List Nat}, y ∈ insAllI T l xs ↔ y ∈ xs ∨ y ∈ l
  | [], l => by simp [insAllI]
  | x :: r, l => by
    show y ∈ insAllI T (insI T x l) r ↔ _
    rw [insAllI_mem (xs := r), insI_mem]
    simp only [List.mem_cons]
    constructor
    · rintro (h | h | h) <;> simp [h]
    · rintro ((h | h) | h) <;> simp [h]
theorem insI_last {x : Nat} {l : List Nat} (h : ∀ y ∈ l, nle (T y) (T x)) : insI T x l = l ++ [x] := by
  have := insI_at (T := T) x l l.length (by simpa using h) (by simp)
  simpa using this
theorem insAllI_app : ∀ (xs l : List Nat), srtI T (l ++ xs) → insAllI T l xs = l ++ xs
  | [], l, _ => by simp [insAllI]
  | x :: r, l, h => by
    have h' := List.pairwise_append.1 h
    show insAllI T (insI T x l) r = _
    have e : l ++ x :: r = (l ++ [x]) ++ r := by simp
    rw [insI_last (fun y hy => h'.2.2 y hy x (by simp)), insAllI_app r (l ++ [x]) (by rw [← e]; exact h), e]
theorem insAllI_id (l : List Nat) (h : srtI T l) : insAllI T [] l = l := insAllI_app l [] h
/-- A list in order and one more behind it. -/
theorem insAllI_one {x : Nat} {l : List Nat} (h : srtI T l) : insAllI T [] (l ++ [x]) = insI T x l := by rw [insAllI_snoc, insAllI_id l h]
end
end

section
open Go.RowKit

set_option maxRecDepth 100000 in
set_option maxHeartbeats 4000000 in
theorem pdq_small (a : Addr) (n c : Nat) (lim : Int) (fv : Value) (w : World) (R : World → Prop) (hn : n ≤ 12)
    (hI : Calls Tryz.prog 115 #[.slice (some a) n c, .int .i64 0, .int .i64 n, fv] w fun r w' => r = .returned (.tuple #[]) ∧ R w') :
    Calls Tryz.prog 93 #[.slice (some a) n c, .int .i64 0, .int .i64 n, .int .i64 lim, fv] w fun r w' => r = .returned (.tuple #[]) ∧ R w' := by
  have hI := Lib.hid hI
  go_enter Tryz.func93, Tryz.ntmps93
  go_wp2_with fail
  refine wp_loop_rounds 1 ?_
  rw [rounds_succ]
  go_wp2_with (go_at_call 115; refine hI.out.mono ?_; rintro r w1 ⟨rfl, hR⟩)
  (try simp only [Exit.inBlock, Exit.then])
  refine bodyPost_ret (results_none rfl _ _ _) rfl ?_
  exact ⟨rfl, hR⟩
theorem sortFunc_small (a : Addr) (n c : Nat) (fv : Value) (w : World) (R : World → Prop) (hn : n ≤ 12)
    (hI : Calls Tryz.prog 115 #[.slice (some a) n c, .int .i64 0, .int .i64 n, fv] w fun r w' => r = .returned (.tuple #[]) ∧ R w') :
    Calls Tryz.prog 50 #[.slice (some a) n c, fv] w fun r w' => r = .returned (.tuple #[]) ∧ R w' := by
  have cP := Lib.hid (fun lim => pdq_small a n c lim fv w R hn hI)
  have cB := Lib.hid (Tryz.bits_Len (n : Int) w (by omega) (by omega))
  clear hI
  go_enter Tryz.func50, Tryz.ntmps50
  go_wp2_with (first
    | (go_at_call 94; refine cB.out.mono ?_; rintro r w1 ⟨rfl, rfl⟩)
    | (go_at_call 93; refine (cP.out _).mono ?_; rintro r w1 ⟨rfl, hR⟩))
  go_end0
  exact ⟨rfl, hR⟩
end
end Go.Proofs.YtphnakdgpilcmaaGreatDoor
