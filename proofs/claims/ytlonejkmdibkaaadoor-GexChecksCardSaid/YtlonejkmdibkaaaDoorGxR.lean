/- Gex: the reference's Check. -/
import Derived.Test.YtlonejkmdibkaaaDoorGxH
import Derived.BigQuiet
import Derived.Deep.QuietTactic
namespace Go.Proofs.YtlonejkmdibkaaaDoor
open Go.RowKit

theorem lz_seven {n : Int} (h1 : 1 ≤ n) (h2 : n < 256) : lz n = 7 ↔ n = 1 := by
  unfold lz
  constructor
  · intro h; (repeat' split at h) <;> omega
  · rintro rfl; decide
theorem bits_two {g : ByteArray} (h : plainS g = g) : 2 ≤ bitsI g ↔ (g.toList == []) = false ∧ (g.toList == [1]) = false := by
  have hf := @plainS_first g
  unfold bitsI
  rw [h] at hf ⊢
  by_cases hp : 0 < g.size
  · have h1 := hf hp
    have h2 : (g[0].toNat : Int) < 256 := by have := g[0].toNat_lt; omega
    have h3 := lz_range (g[0].toNat)
    have h4 := lz_pos h1
    have h5 := lz_seven h1 h2
    rw [bitsT_pos hp]
    have e0 : (g.toList == []) = false := by
      rw [beq_eq_false_iff_ne]
      intro e
      rw [← bsl_len, e] at hp
      exact absurd hp (by decide)
    have hc := bsl_cons hp
    rw [List.drop_zero] at hc
    by_cases hs : g.size = 1
    · have hd : g.toList.drop 1 = [] := bsl_end (by omega)
      rw [Nat.zero_add, hd] at hc
      constructor
      · intro hh
        refine ⟨e0, ?_⟩
        rw [hc, beq_eq_false_iff_ne]
        intro e
        injection e with e _
        have : (g[0].toNat : Int) = 1 := by rw [e]; rfl
        rw [h5.2 this, hs] at hh
        omega
      · rintro ⟨_, e1⟩
        rw [hc, beq_eq_false_iff_ne] at e1
        have : lz (g[0].toNat) ≠ 7 := by
          intro e
          have h6 := h5.1 e
          refine e1 ?_
          have : g[0] = 1 := UInt8.toNat.inj (by have : (1 : UInt8).toNat = 1 := rfl; omega)
          rw [this]
        omega
    · constructor
      · intro _
        refine ⟨e0, ?_⟩
        rw [beq_eq_false_iff_ne]
        intro e
        have := congrArg List.length e
        rw [bsl_len] at this
        exact hs this
      · intro _; omega
  · rw [bitsT_nil hp]
    constructor
    · intro hh; omega
    · rintro ⟨e0, _⟩
      have : g.toList = [] := by rw [← List.length_eq_zero_iff, bsl_len]; omega
      rw [this] at e0
      cases e0
theorem checkB_eq (least top : Int) (p g : ByteArray) : checkB least top p g = (!(q1B least top (bitsI p)) && (plainS p).toList == p.toList && (plainS g).toList == g.toList && lastOdd p && decide (2 ≤ bitsI g) && decide (bitsI g < bitsI p)) := by
  have h1 : shortB p = ((plainS p).toList == p.toList) := by
    rw [Bool.eq_iff_iff, shortB_plain, beq_iff_eq]
    exact ⟨fun h => by rw [h], fun h => bs_ext h⟩
  have h2 : shortB g = ((plainS g).toList == g.toList) := by
    rw [Bool.eq_iff_iff, shortB_plain, beq_iff_eq]
    exact ⟨fun h => by rw [h], fun h => bs_ext h⟩
  unfold checkB
  rw [h1, h2]
  cases hg : ((plainS g).toList == g.toList) with
  | false => simp
  | true =>
    have hpl : plainS g = g := bs_eq hg
    have h3 := bits_two hpl
    have : (!(g.toList == []) && !(g.toList == [1])) = decide (2 ≤ bitsI g) := by
      rw [Bool.eq_iff_iff, decide_eq_true_iff, h3]
      simp
    rw [Bool.and_assoc (_ && _) (!(g.toList == [])), this]

set_option maxRecDepth 100000 in
set_option maxHeartbeats 8000000 in
theorem refCheck_any (least top : Int) (p g : ByteArray) (w : World) (hp : p.size ≤ 1000000) (hg : g.size ≤ 1000000) :
    Calls Tryd.prog 43 #[.int .i64 least, .int .i64 top, .agg #[.string p, .string g]] w fun r w' => r = .returned (.bool (checkB least top p g)) ∧ Below w.heap.size w w' := by
  have cB := Lib.hid (fun W => refBits_any p W hp)
  have cW := Lib.hid (fun W => refBits_any g W hg)
  have cP := Lib.hid (fun (s : ByteArray) (hs : s.size ≤ 1000000) W => refPlain_any s W hs)
  have hB1 := Lib.hid (below_new w (.cells #[.string p, .string g] 23))
  have hc := heap_new w (.cells #[.string p, .string g] 23)
  have c0 : (w.alloc (.cells #[.string p, .string g] 23)).cell? ⟨w.heap.size, 0, none⟩ = some (.string p) := cell_of_row _ _ 0 _ _ _ hc
  have c1 : (w.alloc (.cells #[.string p, .string g] 23)).cell? ⟨w.heap.size, 1, none⟩ = some (.string g) := cell_of_row _ _ 1 _ _ _ hc
  obtain ⟨n0, n1⟩ := bitsI_range p hp
  obtain ⟨m0, m1⟩ := bitsI_range g hg
  have hv := checkB_eq least top p g
  have hq : q1B least top (bitsI p) = (decide (bitsI p < 1024) || decide (8192 < bitsI p) || decide (bitsI p < least) || decide (top < bitsI p)) := rfl
  have hpos := @bits_some p
  generalize q1B least top (bitsI p) = q1 at hv hq
  generalize bitsI p = n at cB hv hq n0 n1 hpos
  generalize bitsI g = m at cW hv m0 m1
  clear hc
  by_cases hA : q1 = true
  case pos =>
    have hA2 : n < least ∨ (least ≤ n ∧ top < n) ∨ (least ≤ n ∧ n ≤ top ∧ n < 1024) ∨ (least ≤ n ∧ n ≤ top ∧ 1024 ≤ n ∧ 8192 < n) := by
      rw [hA, eq_comm] at hq
      simp only [Bool.or_eq_true, decide_eq_true_eq] at hq
      omega
    have hV := Lib.hid (show checkB least top p g = false by rw [hv, hA]; rfl)
    clear hq hA hv hpos
    rcases hA2 with a1 | ⟨a1, a2⟩ | ⟨a1, a2, a3⟩ | ⟨a1, a2, a3, a4⟩
    all_goals
      as_aux_lemma =>
        go_enter Tryd.func43, Tryd.ntmps43
        go_upto_region 1 with fail
        generalize w.alloc (.cells #[.string p, .string g] 23) = w1 at hB1 c0 c1 ⊢
        go_wp2_with (go_at_call 81; (with_reducible refine (cB.out _).mono ?_); rintro r w4 ⟨rfl, rfl⟩)
        go_ret
        exact ⟨ret_bool hV.out.symm, hB1.out⟩
  case neg =>
    have hA : q1 = false := by simpa using hA
    rw [hA] at hv hq
    rw [eq_comm] at hq
    simp only [Bool.or_eq_false_iff, decide_eq_false_iff_not] at hq
    obtain ⟨a1, a2, a3, a4⟩ : 1024 ≤ n ∧ n ≤ 8192 ∧ least ≤ n ∧ n ≤ top := by omega
    have hp0 : 0 < p.size := hpos (by omega)
    have i1 : (1 : Int) ≤ (p.size : Int) := by omega
    have i2 : (p.size : Int) - 1 < (p.size : Int) := by omega
    have ho : lastOdd p = !((p[p.size - 1].toNat : Int) % 2 == 0) := by unfold lastOdd; rw [dif_pos hp0]
    rw [ho] at hv
    clear hpos ho
    have k1 : decide (n < 1024) = false := decide_eq_false (by omega)
    have k2 : decide (8192 < n) = false := decide_eq_false (by omega)
    have k3 : decide (n < least) = false := decide_eq_false (by omega)
    have k4 : decide (top < n) = false := decide_eq_false (by omega)
    clear hq hA
    rw [show (!false) = true from rfl, Bool.true_and] at hv
    cases e1 : (((plainS p).toList) == p.toList) with
    | false =>
      rw [e1] at hv
      have e1n : ((plainS p).toList != p.toList) = true := by unfold bne; rw [e1]; rfl
      have hV := Lib.hid (show checkB least top p g = false by rw [hv]; rfl)
      clear hv
      as_aux_lemma =>
        go_enter Tryd.func43, Tryd.ntmps43
        go_upto_region 1 with fail
        generalize w.alloc (.cells #[.string p, .string g] 23) = w1 at hB1 c0 c1 ⊢
        go_upto_region 4 with (go_at_call 81; (with_reducible refine (cB.out _).mono ?_); rintro r w4 ⟨rfl, rfl⟩)
        go_quiet ((go_at_call 82; exact Calls.quiet_of_same ((cP.out _ (by first | exact hp | exact hg) _).mono (fun e w' h => ⟨h.1, h.2.symm⟩))))
        go_wp2_with (go_at_call 81; (with_reducible refine (cW.out _).mono ?_); rintro r w4 ⟨rfl, rfl⟩)
        go_ret
        exact ⟨ret_bool hV.out.symm, (by first | exact hB1.out | exact hB1.out.trans (Below.mono (drewN_below _) hB1.out.size))⟩
    | true =>
      rw [e1] at hv
      have e1n : ((plainS p).toList != p.toList) = false := by unfold bne; rw [e1]; rfl
      cases e2 : (((plainS g).toList) == g.toList) with
      | false =>
        rw [e2] at hv
        have e2n : ((plainS g).toList != g.toList) = true := by unfold bne; rw [e2]; rfl
        have hV := Lib.hid (show checkB least top p g = false by rw [hv]; rfl)
        clear hv
        as_aux_lemma =>
          go_enter Tryd.func43, Tryd.ntmps43
          go_upto_region 1 with fail
          generalize w.alloc (.cells #[.string p, .string g] 23) = w1 at hB1 c0 c1 ⊢
          go_upto_region 4 with (go_at_call 81; (with_reducible refine (cB.out _).mono ?_); rintro r w4 ⟨rfl, rfl⟩)
          go_quiet ((go_at_call 82; exact Calls.quiet_of_same ((cP.out _ (by first | exact hp | exact hg) _).mono (fun e w' h => ⟨h.1, h.2.symm⟩))))
          go_wp2_with (go_at_call 81; (with_reducible refine (cW.out _).mono ?_); rintro r w4 ⟨rfl, rfl⟩)
          go_ret
          exact ⟨ret_bool hV.out.symm, (by first | exact hB1.out | exact hB1.out.trans (Below.mono (drewN_below _) hB1.out.size))⟩
      | true =>
        rw [e2] at hv
        have e2n : ((plainS g).toList != g.toList) = false := by unfold bne; rw [e2]; rfl
        cases e3 : ((p[p.size - 1].toNat : Int) % 2 == 0) with
        | true =>
          rw [e3] at hv
          have hV := Lib.hid (show checkB least top p g = false by rw [hv]; rfl)
          clear hv
          as_aux_lemma =>
            go_enter Tryd.func43, Tryd.ntmps43
            go_upto_region 1 with fail
            generalize w.alloc (.cells #[.string p, .string g] 23) = w1 at hB1 c0 c1 ⊢
            go_upto_region 4 with (go_at_call 81; (with_reducible refine (cB.out _).mono ?_); rintro r w4 ⟨rfl, rfl⟩)
            go_quiet ((go_at_call 82; exact Calls.quiet_of_same ((cP.out _ (by first | exact hp | exact hg) _).mono (fun e w' h => ⟨h.1, h.2.symm⟩))))
            go_wp2_with (go_at_call 81; (with_reducible refine (cW.out _).mono ?_); rintro r w4 ⟨rfl, rfl⟩)
            go_ret
            exact ⟨ret_bool hV.out.symm, (by first | exact hB1.out | exact hB1.out.trans (Below.mono (drewN_below _) hB1.out.size))⟩
        | false =>
          rw [e3] at hv
          by_cases h2 : 2 ≤ m
          · by_cases h3 : m < n
            · have hV := Lib.hid (show checkB least top p g = true by rw [hv]; simp [h2, h3])
              clear hv
              as_aux_lemma =>
                go_enter Tryd.func43, Tryd.ntmps43
                go_upto_region 1 with fail
                generalize w.alloc (.cells #[.string p, .string g] 23) = w1 at hB1 c0 c1 ⊢
                go_upto_region 4 with (go_at_call 81; (with_reducible refine (cB.out _).mono ?_); rintro r w4 ⟨rfl, rfl⟩)
                go_quiet ((go_at_call 82; exact Calls.quiet_of_same ((cP.out _ (by first | exact hp | exact hg) _).mono (fun e w' h => ⟨h.1, h.2.symm⟩))))
                go_wp2_with (go_at_call 81; (with_reducible refine (cW.out _).mono ?_); rintro r w4 ⟨rfl, rfl⟩)
                go_ret
                exact ⟨ret_bool hV.out.symm, (by first | exact hB1.out | exact hB1.out.trans (Below.mono (drewN_below _) hB1.out.size))⟩
            · have k5 : decide (m < n) = false := decide_eq_false h3
              have hV := Lib.hid (show checkB least top p g = false by rw [hv]; simp [h2, h3])
              clear hv
              as_aux_lemma =>
                go_enter Tryd.func43, Tryd.ntmps43
                go_upto_region 1 with fail
                generalize w.alloc (.cells #[.string p, .string g] 23) = w1 at hB1 c0 c1 ⊢
                go_upto_region 4 with (go_at_call 81; (with_reducible refine (cB.out _).mono ?_); rintro r w4 ⟨rfl, rfl⟩)
                go_quiet ((go_at_call 82; exact Calls.quiet_of_same ((cP.out _ (by first | exact hp | exact hg) _).mono (fun e w' h => ⟨h.1, h.2.symm⟩))))
                go_wp2_with (go_at_call 81; (with_reducible refine (cW.out _).mono ?_); rintro r w4 ⟨rfl, rfl⟩)
                go_ret
                exact ⟨ret_bool hV.out.symm, (by first | exact hB1.out | exact hB1.out.trans (Below.mono (drewN_below _) hB1.out.size))⟩
          · have hV := Lib.hid (show checkB least top p g = false by rw [hv]; simp [h2])
            clear hv
            as_aux_lemma =>
              go_enter Tryd.func43, Tryd.ntmps43
              go_upto_region 1 with fail
              generalize w.alloc (.cells #[.string p, .string g] 23) = w1 at hB1 c0 c1 ⊢
              go_upto_region 4 with (go_at_call 81; (with_reducible refine (cB.out _).mono ?_); rintro r w4 ⟨rfl, rfl⟩)
              go_quiet ((go_at_call 82; exact Calls.quiet_of_same ((cP.out _ (by first | exact hp | exact hg) _).mono (fun e w' h => ⟨h.1, h.2.symm⟩))))
              go_wp2_with (go_at_call 81; (with_reducible refine (cW.out _).mono ?_); rintro r w4 ⟨rfl, rfl⟩)
              go_ret
              exact ⟨ret_bool hV.out.symm, (by first | exact hB1.out | exact hB1.out.trans (Below.mono (drewN_below _) hB1.out.size))⟩
end Go.Proofs.YtlonejkmdibkaaaDoor
