/- The walks of LineRight and LineMakes. -/
import Derived.Test.YtjiepgldgcghlaaLnF
namespace Go.Proofs.Ytjiepgldgcghlaa
open Go.RowKit

theorem splitV_form (s : ByteArray) (n : Nat) : ∃ a b ok, splitV s n = .tuple #[.string a, .string b, .bool ok] := by
  unfold splitV
  split
  · exact ⟨_, _, _, rfl⟩
  · exact ⟨_, _, _, rfl⟩
set_option maxHeartbeats 400000 in
theorem law_lineRight (s : ByteArray) (w : World) (hs : s.size ≤ 9223372036854775807) :
    Calls Try.prog 6 #[.string s] w fun r w' => r = .returned (.bool true) ∧ Below w.heap.size w w' := by
  have aw := Lib.hid awake_any
  by_cases h6 : 400 < s.size
  · go_enter Try.func6, Try.ntmps6
    go_wp2_with (go_at_call 7; refine (aw.out _).mono ?_; rintro r w1 ⟨rfl, rfl⟩)
    go_ret
    exact ⟨rfl, Below.refl _ _⟩
  obtain ⟨n, hn⟩ := exists_PL s
  have cS := split_any s n w (by omega) hn
  have cT := fun W => refSplit_any s n W (by omega) hn
  have cR := Lib.hid (fun W => right_any s n W (by omega) hn)
  have cA := Lib.hid (fun W => ahead_any s n W (by omega) hn)
  have cR' := Lib.hid (fun W => refRight_any s n W (by omega) hn)
  have cA' := Lib.hid (fun W => refAhead_any s n W (by omega) hn)
  obtain ⟨a, b, ok, hv⟩ := splitV_form s n
  rw [hv] at cS
  simp only [hv] at cT
  have cS := Lib.hid cS
  have cT := Lib.hid cT
  clear hv hn
  cases hrb : rightB s n <;> cases hab : aheadB s n
  all_goals
    rw [hrb] at cR cR'
    rw [hab] at cA cA'
    clear hrb hab
    go_enter Try.func6, Try.ntmps6
    go_wp2_with fail
    refine cS.out.mono ?_
    rintro r w1 ⟨rfl, hb1⟩
    have hb1 := Lib.hid hb1
    go_wp2_with fail
    refine (cT.out w1).mono ?_
    rintro r w2 ⟨rfl, hb2⟩
    have hb2 := Lib.hid (hb1.out.trans (hb2.mono hb1.out.size))
    go_wp2_with (first
      | (go_at_call 7; refine (aw.out _).mono ?_; rintro r w3 ⟨rfl, rfl⟩)
      | (go_at_call 13; refine (cR.out _).mono ?_; rintro r w3 ⟨rfl, rfl⟩)
      | (go_at_call 16; refine (cR'.out _).mono ?_; rintro r w3 ⟨rfl, rfl⟩)
      | (go_at_call 14; refine (cA.out _).mono ?_; rintro r w3 ⟨rfl, rfl⟩)
      | (go_at_call 17; refine (cA'.out _).mono ?_; rintro r w3 ⟨rfl, rfl⟩))
    go_ret
    exact ⟨ret_bool (by simp), hb2.out⟩

/-! ### LineMakes -/
theorem mk_assoc (sw cm : ByteArray) : pfx ++ sw ++ (blankS ++ cm) = pfx ++ sw ++ blankS ++ cm := by
  apply bs_ext
  simp only [bsl_app, List.append_assoc]
def refMakeV (sw cm : ByteArray) (n : Nat) : Value := if okMake sw cm n then .tuple #[.string (mkLn sw cm), .bool true] else .tuple #[.string ⟨#[]⟩, .bool false]
theorem refMakeV_no {sw cm : ByteArray} {n : Nat} (h : okMake sw cm n = false) : refMakeV sw cm n = .tuple #[.string ⟨#[]⟩, .bool false] := by unfold refMakeV; rw [h]; rfl
theorem refMakeV_yes {sw cm : ByteArray} {n : Nat} (h : okMake sw cm n = true) : refMakeV sw cm n = .tuple #[.string (mkLn sw cm), .bool true] := by unfold refMakeV; rw [h]; rfl
theorem mkLn_size (sw cm : ByteArray) : (mkLn sw cm).size = 8 + sw.size + (if cm.size = 0 then 0 else 1 + cm.size) := by
  have h8 : pfx.size = 8 := rfl
  have h1 : blankS.size = 1 := rfl
  unfold mkLn
  split
  · rw [ByteArray.size_append, h8, Nat.add_zero]
  · rw [ByteArray.size_append, ByteArray.size_append, ByteArray.size_append, h8, h1]

set_option maxHeartbeats 1000000 in
theorem refMake_any (sw cm : ByteArray) (n : Nat) (w : World) (h1 : sw.size ≤ 1000000) (h2 : cm.size ≤ 1000000) (h : PL (mkLn sw cm) n) :
    Calls Try.prog 11 #[.string sw, .string cm] w fun r w' => r = .returned (refMakeV sw cm n) ∧ w = w' := by
  have hsz := mkLn_size sw cm
  have hsz2 : (mkLn sw cm).size ≤ 3000000 := by rw [hsz]; split <;> omega
  have cP := refPlain_any (mkLn sw cm) n w (by omega) h
  have cB := blank_any sw w (by omega)
  have hv0 : okMake sw cm n = (decide (sw.size ≠ 0) && decide (blk sw < 0) && decide (n = (mkLn sw cm).size) && decide ((mkLn sw cm).size ≤ 253)) := rfl
  have hbk := blk_cases sw
  by_cases h0 : sw.size = 0
  · have hv := Lib.hid (refMakeV_no (show okMake sw cm n = false by rw [hv0]; simp [h0]))
    have h0' : ((sw.size : Int) == 0) = true := by rw [beq_iff_eq]; omega
    clear cP cB hv0 hbk h hsz hsz2 h0
    by_cases hcm : 0 < cm.size
    · go_enter Try.func11, Try.ntmps11
      go_wp2_with fail
      go_ret2
      exact ⟨by rw [hv.out]; rfl, rfl⟩
    · go_enter Try.func11, Try.ntmps11
      go_wp2_with fail
      go_ret2
      exact ⟨by rw [hv.out]; rfl, rfl⟩
  have h0' : ((sw.size : Int) == 0) = false := by rw [beq_eq_false_iff_ne]; omega
  rcases hbk.symm with ⟨k, hb, hk⟩ | hb
  · have hv := Lib.hid (refMakeV_no (show okMake sw cm n = false by rw [hv0, decide_eq_false (show ¬ blk sw < 0 by omega)]; simp))
    rw [hb] at cB
    have cB := Lib.hid cB
    clear cP hv0 h hsz hsz2 hb h0
    by_cases hcm : 0 < cm.size
    · go_enter Try.func11, Try.ntmps11
      go_wp2_with (go_at_call 22; refine cB.out.mono ?_; rintro r w1 ⟨rfl, rfl⟩)
      go_ret2
      exact ⟨by rw [hv.out]; rfl, rfl⟩
    · go_enter Try.func11, Try.ntmps11
      go_wp2_with (go_at_call 22; refine cB.out.mono ?_; rintro r w1 ⟨rfl, rfl⟩)
      go_ret2
      exact ⟨by rw [hv.out]; rfl, rfl⟩
  rw [hb] at cB
  have cB := Lib.hid cB
  rw [decide_eq_true (show sw.size ≠ 0 from h0), decide_eq_true (show blk sw < 0 by omega), Bool.true_and, Bool.true_and] at hv0
  have em1 : cm.size = 0 → mkLn sw cm = pfx ++ sw := fun hc => by unfold mkLn; rw [if_pos hc]
  have em2 : ¬ cm.size = 0 → mkLn sw cm = pfx ++ sw ++ blankS ++ cm := fun hc => by unfold mkLn; rw [if_neg hc, mk_assoc]
  by_cases hc : cm.size = 0
  · have em := em1 hc
    rw [if_pos hc] at hsz
    have hcm : ¬ 0 < cm.size := by omega
    cases hp : decide (n = (mkLn sw cm).size) <;> by_cases h253 : (mkLn sw cm).size ≤ 253
    all_goals
      rw [hp] at cP hv0
      rw [em] at cP
      simp only [h253, decide_true, decide_false, Bool.and_true, Bool.and_false, Bool.true_and, Bool.false_and] at hv0
      have em' := Lib.hid em
      have hvN := Lib.hid (fun h : okMake sw cm n = false => refMakeV_no h)
      have hvY := Lib.hid (fun h : okMake sw cm n = true => refMakeV_yes h)
      have hvv := Lib.hid hv0
      have cP := Lib.hid cP
      have hl : 8 + sw.size = (mkLn sw cm).size := by omega
      rw [← hl] at h253
      clear hv0 h hsz hsz2 hb h0 hp em em1 em2 hc hl
      go_enter Try.func11, Try.ntmps11
      go_wp2_with (first | (go_at_call 22; refine cB.out.mono ?_; rintro r w1 ⟨rfl, rfl⟩) | (go_at_call 23; refine cP.out.mono ?_; rintro r w1 ⟨rfl, rfl⟩))
      go_ret2
      first
      | exact ⟨by rw [hvN.out hvv.out]; rfl, rfl⟩
      | exact ⟨by rw [hvY.out hvv.out, em'.out]; rfl, rfl⟩
  · have em := em2 hc
    rw [if_neg hc] at hsz
    have hcm : 0 < cm.size := by omega
    cases hp : decide (n = (mkLn sw cm).size) <;> by_cases h253 : (mkLn sw cm).size ≤ 253
    all_goals
      rw [hp] at cP hv0
      rw [em] at cP
      simp only [h253, decide_true, decide_false, Bool.and_true, Bool.and_false, Bool.true_and, Bool.false_and] at hv0
      have em' := Lib.hid em
      have hvN := Lib.hid (fun h : okMake sw cm n = false => refMakeV_no h)
      have hvY := Lib.hid (fun h : okMake sw cm n = true => refMakeV_yes h)
      have hvv := Lib.hid hv0
      have cP := Lib.hid cP
      have hl : 8 + sw.size + 1 + cm.size = (mkLn sw cm).size := by omega
      rw [← hl] at h253
      clear hv0 h hsz hsz2 hb h0 hp em em1 em2 hc hl
      go_enter Try.func11, Try.ntmps11
      go_wp2_with (first | (go_at_call 22; refine cB.out.mono ?_; rintro r w1 ⟨rfl, rfl⟩) | (go_at_call 23; refine cP.out.mono ?_; rintro r w1 ⟨rfl, rfl⟩))
      go_ret2
      first
      | exact ⟨by rw [hvN.out hvv.out]; rfl, rfl⟩
      | exact ⟨by rw [hvY.out hvv.out, em'.out]; rfl, rfl⟩
end Go.Proofs.Ytjiepgldgcghlaa
