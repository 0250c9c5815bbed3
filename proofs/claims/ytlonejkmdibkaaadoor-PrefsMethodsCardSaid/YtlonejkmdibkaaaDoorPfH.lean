/- Prefs: the reference's way to say what is wrong with a list. -/
import Derived.Test.YtlonejkmdibkaaaDoorPfG
import Derived.Test.YtlonejkmdibkaaaDoorDnB
namespace Go.Proofs.YtlonejkmdibkaaaDoor
open Go.RowKit

set_option maxHeartbeats 2000000 in
theorem refWrong_any (ss : List ByteArray) (kex : Bool) (A : Option Addr) (n c : Nat) (w : World) (hc : n ≤ c) (hn : c ≤ 9223372036854775807) (H : Strs w A n ss) (hs : ∀ s ∈ ss, s.size ≤ 9223372036854775807) :
    Calls Tryd.prog 85 #[.slice A n c, .bool kex] w fun r w' => r = .returned (.int .i64 (pfWrong ss kex)) ∧ Below w.heap.size w w' := by
  have hlen := H.len
  have hp : pfWrong ss kex = if algsN ss ≠ 0 then algsN ss else if kex && ss.any noMeth then 10 else 0 := rfl
  by_cases h0 : n = 0
  · subst h0
    have hv := Lib.hid (show pfWrong ss kex = 6 by rw [hp, show algsN ss = 6 by unfold algsN; rw [if_pos hlen]]; rfl)
    clear H hs hlen hp
    go_enter Tryd.func85, Tryd.ntmps85
    go_wp2
    go_ret
    exact ⟨ret_int hv.out.symm, Below.refl _ _⟩
  by_cases h15 : 15 < n
  · have hv := Lib.hid (show pfWrong ss kex = 2 by rw [hp, show algsN ss = 2 by unfold algsN; rw [if_neg (by omega), if_pos (by omega)]]; rfl)
    have hne : ((n : Int) == 0) = false := beq_eq_false_iff_ne.2 (by omega)
    clear H hs hlen h0 hp
    go_enter Tryd.func85, Tryd.ntmps85
    go_wp2
    go_ret
    exact ⟨ret_int hv.out.symm, Below.refl _ _⟩
  have hv0 := Lib.hid (show algsN ss = if once ss && ss.all nmOkB then 0 else 3 by unfold algsN; rw [if_neg (by omega), if_neg (by omega)])
  have hne : ((n : Int) == 0) = false := beq_eq_false_iff_ne.2 (by omega)
  have h15' : n ≤ 15 := by omega
  have hP := Lib.hid hp
  have hS := Lib.hid hs
  have hL := Lib.hid hlen
  have HH := Lib.hid H
  clear hs hlen H h0 h15 hp
  go_enter Tryd.func85, Tryd.ntmps85
  go_wp2
  go_loopw [5] (fun i wr => ∃ k : Nat, k ≤ n ∧ i = .int .i64 k ∧ Hid (goodTo ss k = true) ∧ Hid (Below w.heap.size w wr)) (fun i _ => n - (intOf i).toNat)
  case atStart => exact ⟨0, by omega, rfl, rfl, Below.refl _ _⟩
  case round =>
    obtain ⟨k, hk, rfl, hf, hB⟩ := hrel
    by_cases hlt : k < n
    · obtain ⟨b, off, s, rfl, hb, he, hr⟩ := (HH.out.keep hB.out).at_ hlt
      have hz := hS.out s (List.mem_of_getElem? he)
      have hg : goodAt ss k = (nmOkB s && !has (ss.take k) s) := by unfold goodAt; rw [List.getD_eq_getElem?_getD, he]; rfl
      have cR := fun W => refRight04_any s W hz
      have cH := fun q => refHas_any (ss.take k) (some ⟨b, off, none⟩) k c s (wr.drewN q) (by omega) ((HH.out.keep (hB.out.trans (Below.mono (drewN_below q) hB.out.size))).take_ (by omega))
      have hst := goodTo_succ ss k
      have hbad := fun h => good_bad (ss := ss) (k := k) (by rw [hL.out]; exact hlt) h
      have i1 : (0 : Int) ≤ (k : Int) := by omega
      have i2 : (k : Int) < (n : Int) := by omega
      have i3 : (k : Int) ≤ (c : Int) := by omega
      rw [hg] at hst hbad
      clear he hz hg hb
      generalize nmOkB s = q1 at cR hst hbad
      generalize has (ss.take k) s = q2 at cH hst hbad
      have cR := Lib.hid cR
      have cH := Lib.hid cH
      cases q1 with
      | false =>
        have hv := Lib.hid (show pfWrong ss kex = 3 by rw [hP.out, hv0.out, hbad rfl]; rfl)
        clear hst hbad
        go_wp2_with fail
        go_quiet ((first
          | (go_at_call 106; exact Calls.quiet_of_same ((cR.out _).mono (fun e w' h => ⟨h.1, h.2.symm⟩)))
          | (go_at_call 98; exact Calls.quiet_of_same ((cH.out _).mono (fun e w' h => ⟨h.1, h.2.symm⟩)))))
        go_wp2_with fail
        go_ret
        exact ⟨ret_int hv.out.symm, hB.out.trans (Below.mono (drewN_below _) hB.out.size)⟩
      | true =>
        cases q2 with
        | true =>
          have hv := Lib.hid (show pfWrong ss kex = 3 by rw [hP.out, hv0.out, hbad rfl]; rfl)
          clear hst hbad
          go_wp2_with fail
          go_quiet ((first
            | (go_at_call 106; exact Calls.quiet_of_same ((cR.out _).mono (fun e w' h => ⟨h.1, h.2.symm⟩)))
            | (go_at_call 98; exact Calls.quiet_of_same ((cH.out _).mono (fun e w' h => ⟨h.1, h.2.symm⟩)))))
          go_wp2_with fail
          go_ret
          exact ⟨ret_int hv.out.symm, hB.out.trans (Below.mono (drewN_below _) hB.out.size)⟩
        | false =>
          have hn1 := Lib.hid (show goodTo ss (k + 1) = true by rw [hst, hf.out]; rfl)
          clear hst hbad
          go_wp2_with fail
          go_quiet ((first
            | (go_at_call 106; exact Calls.quiet_of_same ((cR.out _).mono (fun e w' h => ⟨h.1, h.2.symm⟩)))
            | (go_at_call 98; exact Calls.quiet_of_same ((cH.out _).mono (fun e w' h => ⟨h.1, h.2.symm⟩)))))
          go_wp2_with fail
          go_roundw
          case rel => exact ⟨k + 1, by omega, by go_num, hn1, hB.out.trans (Below.mono (drewN_below _) hB.out.size)⟩
          case measure => simp [intOf]; omega
    · have hk2 : k = ss.length := by rw [hL.out]; omega
      have hp2 := Lib.hid (show pfWrong ss kex = if kex && ss.any noMeth then 10 else 0 by rw [hP.out, hv0.out, ← good_all, ← hk2, hf.out]; rfl)
      clear hk2
      obtain ⟨wk, rfl⟩ : ∃ wk : World, wk = wr := ⟨_, rfl⟩
      have hBk := hB
      clear hB hf
      go_wp2
      go_loopw [6] (fun i wr => ∃ k2 : Nat, k2 ≤ n ∧ i = .int .i64 k2 ∧ Hid ((kex && (ss.take k2).any noMeth) = false) ∧ Hid (Below w.heap.size w wr)) (fun i _ => n - (intOf i).toNat)
      case atStart => exact ⟨0, by omega, rfl, by simp [Hid], hBk⟩
      case round =>
        obtain ⟨k2, hk2, rfl, hf2, hB⟩ := hrel
        by_cases hlt2 : k2 < n
        · obtain ⟨b, off, s, rfl, hb, he, hr⟩ := (HH.out.keep hB.out).at_ hlt2
          have cM := refMethod_any s wr
          have hq : noMeth s = (methN s == 0) := rfl
          have hst := any_take_succ noMeth he
          have hhit := fun h => any_hit noMeth he h
          have i1 : (0 : Int) ≤ (k2 : Int) := by omega
          have i2 : (k2 : Int) < (n : Int) := by omega
          generalize methN s = m at cM hq
          have cM := Lib.hid cM
          clear he hb
          cases kex with
          | false =>
            clear hst hhit
            go_wp2_with fail
            go_roundw
            case rel => exact ⟨k2 + 1, by omega, by go_num, rfl, hB⟩
            case measure => simp [intOf]; omega
          | true =>
            cases hm : (m == 0) with
            | true =>
              have hv := Lib.hid (show pfWrong ss true = 10 by rw [hp2.out, hhit (by rw [hq, hm])]; rfl)
              clear hst hhit hq
              go_wp2_with (go_at_call 24; refine cM.out.mono ?_; rintro r w6 ⟨rfl, hb6⟩)
              go_ret
              exact ⟨ret_int hv.out.symm, hB.out.trans (hb6.mono hB.out.size)⟩
            | false =>
              have hn1 := Lib.hid (show (true && (ss.take (k2 + 1)).any noMeth) = false by rw [hst, hq, hm, Bool.or_false]; exact hf2.out)
              clear hst hhit hq
              go_wp2_with (go_at_call 24; refine cM.out.mono ?_; rintro r w6 ⟨rfl, hb6⟩)
              go_roundw
              case rel => exact ⟨k2 + 1, by omega, by go_num, hn1, hB.out.trans (hb6.mono hB.out.size)⟩
              case measure => simp [intOf]; omega
        · have ht : ss.take k2 = ss := List.take_of_length_le (by rw [hL.out]; omega)
          have hv := Lib.hid (show pfWrong ss kex = 0 by rw [hp2.out]; have := hf2.out; rw [ht] at this; rw [this]; rfl)
          clear ht
          go_wp2
          go_ret
          exact ⟨ret_int hv.out.symm, hB.out⟩
end Go.Proofs.YtlonejkmdibkaaaDoor
