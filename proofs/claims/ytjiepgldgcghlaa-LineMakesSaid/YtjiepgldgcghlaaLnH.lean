/- The walk of LineMakes. -/
import Derived.Test.YtjiepgldgcghlaaLnG
namespace Go.Proofs.Ytjiepgldgcghlaa
open Go.RowKit

theorem mkLn_list (sw cm : ByteArray) : (mkLn sw cm).toList = pfx.toList ++ (sw.toList ++ (if cm.size = 0 then [] else 32 :: cm.toList)) := by
  unfold mkLn
  split
  · rw [bsl_app, List.append_nil]
  · have hb : blankS.toList = [32] := by rw [bsl]; rfl
    rw [bsl_app, bsl_app, bsl_app, List.append_assoc, hb]
    rfl
theorem pfx_list : pfx.toList = [83, 83, 72, 45, 50, 46, 48, 45] := by rw [bsl]; rfl
theorem ssh_list : ssh.toList = [83, 83, 72, 45] := by rw [bsl]; rfl
theorem mkLn_begins (sw cm : ByteArray) : beginsB (mkLn sw cm) pfx = true ∧ beginsB (mkLn sw cm) ssh = true := by
  unfold beginsB
  rw [mkLn_list, pfx_list, ssh_list, show pfx.size = 8 from rfl, show ssh.size = 4 from rfl]
  exact ⟨by simp, by simp⟩
theorem empty_of_size {b : ByteArray} (h : b.size = 0) : b = ⟨#[]⟩ := by
  apply bs_ext
  have : b.toList = [] := by rw [← List.length_eq_zero_iff, bsl_len]; exact h
  rw [this, bsl]
theorem mkLn_split {sw cm : ByteArray} {n : Nat} (h : okMake sw cm n = true) :
    rightB (mkLn sw cm) n = true ∧ aheadB (mkLn sw cm) n = false ∧ splitV (mkLn sw cm) n = .tuple #[.string sw, .string cm, .bool true] := by
  unfold okMake at h
  simp only [Bool.and_eq_true, decide_eq_true_eq] at h
  obtain ⟨⟨⟨h0, hb⟩, hn⟩, h253⟩ := h
  have hsz := mkLn_size sw cm
  obtain ⟨hb1, hb2⟩ := mkLn_begins sw cm
  have h8 : 8 < (mkLn sw cm).size := by rw [hsz]; omega
  have hr : rightB (mkLn sw cm) n = true := by
    unfold rightB; rw [decide_eq_true hn, decide_eq_true h253, hb1, decide_eq_true h8]; rfl
  refine ⟨hr, by unfold aheadB; rw [hb2]; simp, ?_⟩
  rw [splitV_yes hr]
  have hrl : ((mkLn sw cm).extract 8 (mkLn sw cm).size).toList = sw.toList ++ (if cm.size = 0 then [] else 32 :: cm.toList) := by
    rw [bsl_tail, mkLn_list, pfx_list]; simp
  have hbm : blk sw = -1 := by rcases blk_cases sw with h | ⟨k, h, _⟩ <;> omega
  obtain ⟨r, hR⟩ : ∃ r, r = (mkLn sw cm).extract 8 (mkLn sw cm).size := ⟨_, rfl⟩
  rw [← hR] at hrl ⊢
  by_cases hc : cm.size = 0
  · rw [if_pos hc, List.append_nil] at hrl
    have hrs : r = sw := bs_ext hrl
    subst hrs
    unfold cutA cutB
    rw [hbm, if_neg (by decide), if_neg (by decide), ← empty_of_size hc]
  · rw [if_neg hc] at hrl
    have hk : blk r = (sw.size : Nat) := by
      unfold blk
      rw [← bsl, hrl]
      refine blk_take (x := 32) (fun i hi => ?_) ?_ rfl
      · rw [List.getElem?_append_left (by rw [bsl_len]; exact hi)]
        have := Lib.indexByte_none (l := sw.data.toList) (c := 32) hbm i
        rw [bsl]; exact this
      · rw [List.getElem?_append_right (by rw [bsl_len]; exact Nat.le_refl _), bsl_len, Nat.sub_self]; rfl
    have e1 : cutA r = sw := by
      unfold cutA
      rw [hk, if_pos (by omega), Int.toNat_natCast]
      apply bs_ext
      rw [bsl_head, hrl, List.take_append_of_le_length (by rw [bsl_len]; exact Nat.le_refl _), List.take_of_length_le (by rw [bsl_len]; exact Nat.le_refl _)]
    have e2 : cutB r = cm := by
      unfold cutB
      rw [hk, if_pos (by omega), Int.toNat_natCast]
      apply bs_ext
      rw [bsl_tail, hrl, List.drop_append, List.drop_of_length_le (by rw [bsl_len]; omega), bsl_len, show sw.size + 1 - sw.size = 1 by omega]
      rfl
    rw [e1, e2]

set_option maxHeartbeats 1000000 in
theorem law_lineMakes (sw cm : ByteArray) (w : World) (hs : sw.size ≤ 9223372036854775807) (ht : cm.size ≤ 9223372036854775807) :
    Calls Try.prog 5 #[.string sw, .string cm] w fun r w' => r = .returned (.bool true) ∧ Below w.heap.size w w' := by
  have aw := Lib.hid awake_any
  by_cases h6 : 300 < sw.size
  · go_enter Try.func5, Try.ntmps5
    go_wp2_with (go_at_call 7; refine (aw.out _).mono ?_; rintro r w1 ⟨rfl, rfl⟩)
    go_ret
    exact ⟨rfl, Below.refl _ _⟩
  by_cases h7 : 300 < cm.size
  · go_enter Try.func5, Try.ntmps5
    go_wp2_with (go_at_call 7; refine (aw.out _).mono ?_; rintro r w1 ⟨rfl, rfl⟩)
    go_ret
    exact ⟨rfl, Below.refl _ _⟩
  obtain ⟨n, hn⟩ := exists_PL (mkLn sw cm)
  have cM := make_any sw cm n w (by omega) (by omega) hn
  have cR := refMake_any sw cm n w (by omega) (by omega) hn
  cases hok : okMake sw cm n with
  | false =>
    rw [makeV_no hok] at cM
    rw [refMakeV_no hok] at cR
    have cM := Lib.hid cM
    have cR := Lib.hid cR
    clear hok hn
    go_enter Try.func5, Try.ntmps5
    go_wp2_with (first
      | (go_at_call 7; refine (aw.out _).mono ?_; rintro r w1 ⟨rfl, rfl⟩)
      | (go_at_call 10; refine cM.out.mono ?_; rintro r w1 ⟨rfl, rfl⟩)
      | (go_at_call 11; refine cR.out.mono ?_; rintro r w1 ⟨rfl, rfl⟩))
    go_ret
    exact ⟨rfl, Below.refl _ _⟩
  | true =>
    rw [makeV_yes hok] at cM
    rw [refMakeV_yes hok] at cR
    obtain ⟨s1, s2, s3⟩ := mkLn_split hok
    have hsz := mkLn_size sw cm
    have hz : (mkLn sw cm).size ≤ 1000000 := by rw [hsz]; split <;> omega
    have cS := split_any (mkLn sw cm) n w hz hn
    have cRt := fun W => right_any (mkLn sw cm) n W hz hn
    have cAh := fun W => ahead_any (mkLn sw cm) n W hz hn
    rw [s3] at cS
    rw [s1] at cRt
    rw [s2] at cAh
    obtain ⟨s, hS⟩ : ∃ s, s = mkLn sw cm := ⟨_, rfl⟩
    rw [← hS] at cM cR cS cRt cAh
    have cM := Lib.hid cM
    have cR := Lib.hid cR
    have cS := Lib.hid cS
    have cRt := Lib.hid cRt
    have cAh := Lib.hid cAh
    clear hok hn s1 s2 s3 hsz hz hS
    go_enter Try.func5, Try.ntmps5
    go_wp2_with (first
      | (go_at_call 10; refine cM.out.mono ?_; rintro r w1 ⟨rfl, rfl⟩)
      | (go_at_call 11; refine cR.out.mono ?_; rintro r w1 ⟨rfl, rfl⟩))
    refine cS.out.mono ?_
    rintro r w1 ⟨rfl, hb1⟩
    have hb1 := Lib.hid hb1
    go_wp2_with (first
      | (go_at_call 7; refine (aw.out _).mono ?_; rintro r w1 ⟨rfl, rfl⟩)
      | (go_at_call 13; refine (cRt.out _).mono ?_; rintro r w3 ⟨rfl, rfl⟩)
      | (go_at_call 14; refine (cAh.out _).mono ?_; rintro r w3 ⟨rfl, rfl⟩))
    go_ret
    exact ⟨rfl, hb1.out⟩
end Go.Proofs.Ytjiepgldgcghlaa
