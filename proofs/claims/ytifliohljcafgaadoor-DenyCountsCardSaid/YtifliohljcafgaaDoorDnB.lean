/- Deny: algorithms. -/
import Derived.Test.YtifliohljcafgaaDoorNmT
import Derived.Test.YtifliohljcafgaaDoorDnA
import Derived.BigQuiet
import Derived.Deep.QuietTactic
namespace Go.Proofs.YtifliohljcafgaaDoor
open Go.RowKit

def goodAt (ss : List ByteArray) (i : Nat) : Bool := nmOkB (ss.getD i ByteArray.empty) && !has (ss.take i) (ss.getD i ByteArray.empty)
def goodTo (ss : List ByteArray) (k : Nat) : Bool := (List.range k).all (goodAt ss)
theorem goodTo_succ (ss : List ByteArray) (k : Nat) : goodTo ss (k + 1) = (goodTo ss k && goodAt ss k) := by
  unfold goodTo; rw [List.range_succ, List.all_append]; simp
theorem range_get : ∀ (ss : List ByteArray) (p : ByteArray → Bool), (List.range ss.length).all (fun i => p (ss.getD i ByteArray.empty)) = ss.all p := by
  intro ss p
  rw [Bool.eq_iff_iff, List.all_eq_true, List.all_eq_true]
  constructor
  · intro h s hs
    obtain ⟨i, hi, rfl⟩ := List.getElem_of_mem hs
    have := h i (List.mem_range.2 hi)
    rwa [List.getD_eq_getElem?_getD, List.getElem?_eq_getElem hi] at this
  · intro h i hi
    have hi := List.mem_range.1 hi
    rw [List.getD_eq_getElem?_getD, List.getElem?_eq_getElem hi]
    exact h _ (List.getElem_mem hi)
theorem good_all (ss : List ByteArray) : goodTo ss ss.length = (once ss && ss.all nmOkB) := by
  have h1 : once ss = (List.range ss.length).all fun i => !has (ss.take i) (ss.getD i ByteArray.empty) := rfl
  rw [← range_get ss nmOkB, h1]
  unfold goodTo
  generalize List.range ss.length = l
  induction l with
  | nil => rfl
  | cons i l ih =>
    rw [List.all_cons, List.all_cons, List.all_cons, ih]
    unfold goodAt
    cases nmOkB (ss.getD i ByteArray.empty) <;> cases has (ss.take i) (ss.getD i ByteArray.empty) <;> simp
theorem good_bad {ss : List ByteArray} {k : Nat} (hk : k < ss.length) (h : goodAt ss k = false) : (once ss && ss.all nmOkB) = false := by
  rw [← good_all]
  unfold goodTo
  rw [List.all_eq_false]
  exact ⟨k, List.mem_range.2 hk, by rw [h]; decide⟩
set_option maxHeartbeats 2000000 in
theorem refAlgs_any (ss : List ByteArray) (A : Option Addr) (n c : Nat) (w : World) (hc : n ≤ c) (hn : c ≤ 9223372036854775807) (H : Strs w A n ss) (hs : ∀ s ∈ ss, s.size ≤ 9223372036854775807) :
    Calls Tryd.prog 29 #[.slice A n c] w fun r w' => r = .returned (.int .i64 (algsN ss)) ∧ Below w.heap.size w w' := by
  have hlen := H.len
  by_cases h0 : n = 0
  · subst h0
    have hv := Lib.hid (show algsN ss = 6 by unfold algsN; rw [if_pos hlen])
    clear H hs hlen
    go_enter Tryd.func29, Tryd.ntmps29
    go_wp2
    go_ret
    exact ⟨ret_int hv.out.symm, Below.refl _ _⟩
  by_cases h15 : 15 < n
  · have hv := Lib.hid (show algsN ss = 2 by unfold algsN; rw [if_neg (by omega), if_pos (by omega)])
    have hne : ((n : Int) == 0) = false := beq_eq_false_iff_ne.2 (by omega)
    clear H hs hlen h0
    go_enter Tryd.func29, Tryd.ntmps29
    go_wp2
    go_ret
    exact ⟨ret_int hv.out.symm, Below.refl _ _⟩
  have hv0 := Lib.hid (show algsN ss = if once ss && ss.all nmOkB then 0 else 3 by unfold algsN; rw [if_neg (by omega), if_neg (by omega)])
  have hne : ((n : Int) == 0) = false := beq_eq_false_iff_ne.2 (by omega)
  have h15' : n ≤ 15 := by omega
  have hS := Lib.hid hs
  have hL := Lib.hid hlen
  have HH := Lib.hid H
  clear hs hlen H h0 h15
  go_enter Tryd.func29, Tryd.ntmps29
  go_wp2
  go_loopw [3] (fun i wr => ∃ k : Nat, k ≤ n ∧ i = .int .i64 k ∧ Hid (goodTo ss k = true) ∧ Hid (Below w.heap.size w wr)) (fun i _ => n - (intOf i).toNat)
  case atStart => exact ⟨0, by omega, rfl, rfl, Below.refl _ _⟩
  case round =>
    obtain ⟨k, hk, rfl, hf, hB⟩ := hrel
    by_cases hlt : k < n
    · obtain ⟨b, off, s, rfl, hb, he, hr⟩ := (HH.out.keep hB.out).at_ hlt
      have hz := hS.out s (List.mem_of_getElem? he)
      have hg : goodAt ss k = (nmOkB s && !has (ss.take k) s) := by unfold goodAt; rw [List.getD_eq_getElem?_getD, he]; rfl
      have cR := fun W => refRight04_any s W hz
      have cH := fun q => refHas_any (ss.take k) (some ⟨b, off, none⟩) k c s (wr.drewN q) (by omega) ((HH.out.keep (hB.out.trans (Below.mono (drewN_below q) hB.out.size))).take_ (by omega))
      have hst := goodTo_succ ss k
      have hbad := fun h => good_bad (ss := ss) (k := k) (by rw [hL.out]; exact hlt) h
      have i1 : (0 : Int) ≤ (k : Int) := by omega
      have i2 : (k : Int) < (n : Int) := by omega
      have i3 : (k : Int) ≤ (c : Int) := by omega
      rw [hg] at hst hbad
      clear he hz hg hb
      generalize nmOkB s = q1 at cR hst hbad
      generalize has (ss.take k) s = q2 at cH hst hbad
      have cR := Lib.hid cR
      have cH := Lib.hid cH
      cases q1 with
      | false =>
        have hv := Lib.hid (show algsN ss = 3 by rw [hv0.out, hbad rfl]; rfl)
        clear hst hbad
        go_wp2_with fail
        go_quiet ((first
          | (go_at_call 44; exact Calls.quiet_of_same ((cR.out _).mono (fun e w' h => ⟨h.1, h.2.symm⟩)))
          | (go_at_call 31; exact Calls.quiet_of_same ((cH.out _).mono (fun e w' h => ⟨h.1, h.2.symm⟩)))))
        go_wp2_with fail
        go_ret
        exact ⟨ret_int hv.out.symm, hB.out.trans (Below.mono (drewN_below _) hB.out.size)⟩
      | true =>
        cases q2 with
        | true =>
          have hv := Lib.hid (show algsN ss = 3 by rw [hv0.out, hbad rfl]; rfl)
          clear hst hbad
          go_wp2_with fail
          go_quiet ((first
            | (go_at_call 44; exact Calls.quiet_of_same ((cR.out _).mono (fun e w' h => ⟨h.1, h.2.symm⟩)))
            | (go_at_call 31; exact Calls.quiet_of_same ((cH.out _).mono (fun e w' h => ⟨h.1, h.2.symm⟩)))))
          go_wp2_with fail
          go_ret
          exact ⟨ret_int hv.out.symm, hB.out.trans (Below.mono (drewN_below _) hB.out.size)⟩
        | false =>
          have hn1 := Lib.hid (show goodTo ss (k + 1) = true by rw [hst, hf.out]; rfl)
          clear hst hbad
          go_wp2_with fail
          go_quiet ((first
            | (go_at_call 44; exact Calls.quiet_of_same ((cR.out _).mono (fun e w' h => ⟨h.1, h.2.symm⟩)))
            | (go_at_call 31; exact Calls.quiet_of_same ((cH.out _).mono (fun e w' h => ⟨h.1, h.2.symm⟩)))))
          go_wp2_with fail
          go_roundw
          case rel => exact ⟨k + 1, by omega, by go_num, hn1, hB.out.trans (Below.mono (drewN_below _) hB.out.size)⟩
          case measure => simp [intOf]; omega
    · have hk2 : k = ss.length := by rw [hL.out]; omega
      have hv := Lib.hid (show algsN ss = 0 by rw [hv0.out, ← good_all, ← hk2, hf.out]; rfl)
      clear hk2
      go_wp2
      go_ret
      exact ⟨ret_int hv.out.symm, hB.out⟩
set_option maxHeartbeats 1000000 in
theorem algs_any (ss : List ByteArray) (A : Option Addr) (n c : Nat) (w : World) (hc : n ≤ c) (hn : c ≤ 9223372036854775807) (H : Strs w A n ss) (hs : ∀ s ∈ ss, s.size ≤ 9223372036854775807) :
    Calls Tryd.prog 37 #[.slice A n c] w fun r w' => r = .returned (.int .i64 (algsN ss)) ∧ Below w.heap.size w w' := by
  have hlen := H.len
  by_cases h0 : n = 0
  · subst h0
    have hv := Lib.hid (show algsN ss = 6 by unfold algsN; rw [if_pos hlen])
    clear H hs hlen
    go_enter Tryd.func37, Tryd.ntmps37
    go_wp2
    go_ret
    exact ⟨ret_int hv.out.symm, Below.refl _ _⟩
  have hne : ((n : Int) == 0) = false := beq_eq_false_iff_ne.2 (by omega)
  by_cases h15 : 15 < n
  · have hv := Lib.hid (show algsN ss = 2 by unfold algsN; rw [if_neg (by omega), if_pos (by omega)])
    have i1 : (16 : Int) ≤ (n : Int) := by omega
    clear H hs hlen h0
    go_enter Tryd.func37, Tryd.ntmps37
    go_wp2
    go_ret
    exact ⟨ret_int hv.out.symm, Below.refl _ _⟩
  have i1 : ¬ (16 : Int) ≤ (n : Int) := by omega
  have hv := algs_once (ss := ss) (by omega) (by omega)
  have cO := nmOnce_any ss A n c w hc hn H
  have cJ := nmJoin_any ss A n c w hc hn H hs
  clear H hs hlen h0 h15
  generalize once ss = q at cO hv
  have cO := Lib.hid cO
  cases q with
  | false =>
    have hv := Lib.hid (show algsN ss = 3 by rw [hv]; rfl)
    go_enter Tryd.func37, Tryd.ntmps37
    go_wp2_with (go_at_call 51; refine cO.out.mono ?_; rintro r w4 ⟨rfl, rfl⟩)
    go_ret
    exact ⟨ret_int hv.out.symm, Below.refl _ _⟩
  | true =>
    rw [if_pos rfl] at hv
    by_cases hk : checkN ss = 0
    · have hj : joinV ss = .tuple #[.string (joinS ss), .int .i64 0] := by unfold joinV; rw [if_pos hk]
      rw [hj] at cJ
      have hv := Lib.hid (hv.trans hk)
      have cJ := Lib.hid cJ
      clear hk hj
      go_enter Tryd.func37, Tryd.ntmps37
      go_wp2_with (first
        | (go_at_call 51; refine cO.out.mono ?_; rintro r w4 ⟨rfl, rfl⟩)
        | (go_at_call 52; refine cJ.out.mono ?_; rintro r w5 ⟨rfl, hb5⟩))
      go_ret
      exact ⟨ret_int hv.out.symm, hb5⟩
    · have hj : joinV ss = .tuple #[.string ⟨#[]⟩, .int .i64 (checkN ss)] := by unfold joinV; rw [if_neg hk]
      rw [hj] at cJ
      have hv := Lib.hid hv
      have cJ := Lib.hid cJ
      clear hk hj
      go_enter Tryd.func37, Tryd.ntmps37
      go_wp2_with (first
        | (go_at_call 51; refine cO.out.mono ?_; rintro r w4 ⟨rfl, rfl⟩)
        | (go_at_call 52; refine cJ.out.mono ?_; rintro r w5 ⟨rfl, hb5⟩))
      go_ret
      exact ⟨ret_int hv.out.symm, hb5⟩
end Go.Proofs.YtifliohljcafgaaDoor
