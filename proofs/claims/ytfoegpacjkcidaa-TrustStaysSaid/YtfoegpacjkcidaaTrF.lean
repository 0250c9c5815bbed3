/- The walk of TrustSafe. -/
import Derived.Test.YtfoegpacjkcidaaTrE
namespace Go.Proofs.Ytfoegpacjkcidaa
open Go.RowKit

theorem safe_range (es : List Ev) (at_ : Int) (h : at_ < 0 ∨ (es.length : Int) ≤ at_) : safe es at_ = false := by
  unfold safe
  rcases h with h | h
  · rw [if_pos h]
  · by_cases h0 : at_ < 0
    · rw [if_pos h0]
    · rw [if_neg h0, List.getElem?_eq_none (by omega)]
theorem hasI_safes {es : List Ev} {k : Nat} (hk : k < es.length) : hasI (safes es) k = safe es k := by
  unfold hasI safes safesTo
  rw [Bool.eq_iff_iff, List.any_eq_true]
  constructor
  · rintro ⟨x, hx, he⟩
    rw [List.mem_map] at hx
    obtain ⟨i, hi, rfl⟩ := hx
    rw [List.mem_filter] at hi
    have : i = k := by have h1 := eq_of_beq he; omega
    subst this
    exact hi.2
  · intro h
    exact ⟨k, by rw [List.mem_map]; exact ⟨k, by rw [List.mem_filter]; exact ⟨List.mem_range.2 hk, h⟩, rfl⟩, by simp⟩
/-- A list rises where each next element is greater. -/
theorem rises_of_pairwise {xs : List Int} (h : xs.Pairwise (· < ·)) : rises xs = true := by
  unfold rises risesTo
  rw [List.all_eq_true]
  intro i hi
  have hi := List.mem_range.1 hi
  rw [decide_eq_true_eq]
  rw [List.pairwise_iff_getElem] at h
  have := h i (i + 1) (by omega) (by omega) (by omega)
  rw [List.getD_eq_getElem?_getD, List.getD_eq_getElem?_getD, List.getElem?_eq_getElem (by omega), List.getElem?_eq_getElem (by omega)]
  exact this
theorem safes_rise (es : List Ev) : rises (safes es) = true := by
  apply rises_of_pairwise
  unfold safes safesTo
  rw [List.pairwise_map]
  refine List.Pairwise.filter _ ?_
  have := List.pairwise_lt_range (n := es.length)
  exact this.imp (fun h => by omega)

set_option maxHeartbeats 1000000 in
theorem law_trustSafe (es : List Ev) (A : Option Addr) (n c : Nat) (who at_ : Int) (w : World) (hn : n ≤ 9223372036854775807) (H : Evs w A n es) :
    Calls Try.prog 7 #[.slice A n c, .int .i64 who, .int .i64 at_] w fun r w' => r = .returned (.bool true) ∧ Below w.heap.size w w' := by
  have HH := Lib.hid H
  have hlen := Lib.hid H.len
  have aw := Lib.hid awake_any
  by_cases h60 : 60 < n
  · go_enter Try.func7, Try.ntmps7
    go_wp2_with (go_at_call 9; refine (aw.out _).mono ?_; rintro r w1 ⟨rfl, hb1⟩)
    go_ret
    exact ⟨rfl, hb1⟩
  go_enter Try.func7, Try.ntmps7
  go_wp2_with fail
  refine (safes_any es A n c w (by omega) HH.out).mono ?_
  rintro r w1 ⟨v, rfl, hO, hB⟩
  obtain ⟨A1, c1, rfl, hI⟩ := hO.ints
  have hI := Lib.hid hI
  have hB := Lib.hid hB
  have hsl : (safes es).length ≤ n := by have := safesTo_len es es.length; rw [hlen.out] at this; unfold safes; rw [hlen.out]; exact this
  clear hO
  go_wp2_with fail
  go_loopw [8, 9, 10] (fun g i _ wr => ∃ k : Nat, k ≤ n ∧ i = .int .i64 k ∧ g = .bool (goodTo es who k) ∧ Hid (Below w1.heap.size w1 wr)) (fun _ i _ _ => n - (intOf i).toNat)
  case atStart => exact ⟨0, by omega, rfl, rfl, Below.refl _ _⟩
  case round =>
    obtain ⟨k, hk, rfl, rfl, hD⟩ := hrel
    have hD0 := Lib.hid (hB.out.trans (hD.out.mono hB.out.size))
    by_cases hlt : k < n
    · obtain ⟨b, off, e, rfl, hb, he, hr⟩ := H.row hlt
      obtain ⟨_, f1, _, _⟩ := Ev.flds hr
      have hse : sesOf es k = e.ses := by simp [sesOf, he]
      have hstep := goodTo_succ es who k
      rw [hse] at hstep
      have cR := refSafe_any es (some ⟨b, off, none⟩) n c k wr hn hlt (HH.out.keep hD0.out)
      have cS := safe_any es (some ⟨b, off, none⟩) n c k wr hn (HH.out.keep hD0.out)
      have cH := fun W (h : Below wr.heap.size wr W) => hasI_any (safes es) A1 _ c1 k W (by omega) ((hI.out.keep hD.out).keep h)
      rw [hasI_safes (by rw [hlen.out]; exact hlt)] at cH
      have hcell := fun W (h : Below wr.heap.size wr W) => ((h.cell (p := ⟨b, off + k * 34 + 1, none⟩) (Nat.lt_of_lt_of_le hb hD0.out.size)).trans (hD0.out.cell (p := ⟨b, off + k * 34 + 1, none⟩) hb)).trans f1
      have hcell := Lib.hid hcell
      clear hr he hse f1
      cases hg : goodTo es who k <;> cases hs : safe es k <;> cases hq : (e.ses == who)
      all_goals
        rw [hs] at cR cS cH
        rw [hg, hs, hq] at hstep
        have cR := Lib.hid cR
        have cS := Lib.hid cS
        have cH := Lib.hid cH
        have hstep := Lib.hid hstep
        clear hg hs
        go_wp2_with fail
        refine cR.out.mono ?_
        rintro r w2 ⟨rfl, rfl⟩
        go_wp2_with fail
        refine cS.out.mono ?_
        rintro r w2 ⟨rfl, hb2⟩
        have hc1 := hcell.out w2 hb2
        have hb2 := Lib.hid hb2
        go_wp2_with fail
        refine (cH.out w2 hb2.out).mono ?_
        rintro r w3 ⟨rfl, rfl⟩
        go_wp2_with fail
        go_roundw
        case rel => exact ⟨k + 1, by omega, by go_num, by rw [hstep.out]; rfl, hD.out.trans (hb2.out.mono hD.out.size)⟩
        case measure => simp [intOf]; omega
    · have hgd := Lib.hid (show goodTo es who k = good es who by unfold good; rw [hlen.out, show k = n by omega])
      rw [hgd.out]
      have e1 : rises (safes es) = true := safes_rise es
      have cR := rises_any (safes es) A1 _ c1 wr (by omega) (hI.out.keep hD.out)
      rw [e1] at cR
      have cR := Lib.hid cR
      clear e1
      go_wp2_with fail
      refine cR.out.mono ?_
      rintro r w2 ⟨rfl, hb2⟩
      have hD2 := Lib.hid (hD0.out.trans (hb2.mono hD0.out.size))
      clear hb2
      go_wp2_with fail
      refine (good_any es A n c who w2 hn (HH.out.keep hD2.out)).mono ?_
      rintro r w3 ⟨rfl, hb3⟩
      have hD3 := Lib.hid (hD2.out.trans (hb3.mono hD2.out.size))
      clear hb3
      go_wp2_with fail
      refine (kept_any es A n c who at_ w3 hn (HH.out.keep hD3.out)).mono ?_
      rintro r w4 ⟨rfl, hb4⟩
      have hD4 := Lib.hid (hD3.out.trans (hb4.mono hD3.out.size))
      clear hb4
      rw [kept_eq]
      have cA := ahead_any es A n c who at_ w4 hn (HH.out.keep hD4.out)
      have hrange : at_ < 0 ∨ (0 ≤ at_ ∧ (n : Int) ≤ at_) ∨ (0 ≤ at_ ∧ at_ < (n : Int)) := by omega
      have hsr := fun h => safe_range es at_ h
      rw [hlen.out] at hsr
      cases ha : ahead es who at_ <;> rcases hrange with hr | ⟨hr0, hr1⟩ | ⟨hr0, hr1⟩
      all_goals
        rw [ha] at cA
        have cA := Lib.hid cA
        have hsr := Lib.hid hsr
        clear ha
        go_wp2_with fail
        refine cA.out.mono ?_
        rintro r w5 ⟨rfl, rfl⟩
        go_wp2_with fail
        refine (aw.out w4).mono ?_
        rintro r w5 ⟨rfl, hb5⟩
        have hD5 := Lib.hid (hD4.out.trans (hb5.mono hD4.out.size))
        clear hb5
        go_wp2_with fail
        first
        | (go_ret
           exact ⟨rfl, hD5.out⟩)
        | (have cS := safe_any es A n c at_ w5 hn (HH.out.keep hD5.out)
           rw [hsr.out (by omega)] at cS
           have cS := Lib.hid cS
           refine cS.out.mono ?_
           rintro r w6 ⟨rfl, hb6⟩
           go_wp2_with fail
           go_ret
           exact ⟨rfl, hD5.out.trans (hb6.mono hD5.out.size)⟩)
end Go.Proofs.Ytfoegpacjkcidaa
