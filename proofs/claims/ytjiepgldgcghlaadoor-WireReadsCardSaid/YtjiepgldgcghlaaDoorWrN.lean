/- The walk of WireReads. -/
import Derived.Test.YtjiepgldgcghlaaDoorWrG
import Derived.Test.YtjiepgldgcghlaaDoorWrM
import Derived.Deep.RegionHeld3
namespace Go.Proofs.YtjiepgldgcghlaaDoor
open Go.RowKit

set_option maxRecDepth 100000 in
set_option maxHeartbeats 8000000 in
theorem law_wireReads (Y : ByteArray) (A : Option Addr) (n c : Nat) (ac : List (Int × Int)) (w : World) (hs : Y.size ≤ 9223372036854775807) (hn : n ≤ 9223372036854775807) (hA : Acts w A n ac) :
    Calls Tryd.prog 7 #[.string Y, .slice A n c] w fun r w' => r = .returned (.bool true) ∧ Below w.heap.size w w' := by
  have aw := Lib.hid awake03_any
  by_cases g1 : 500 < Y.size
  · go_enter Tryd.func7, Tryd.ntmps7
    go_wp2_with (go_at_call 9; refine (aw.out _).mono ?_; rintro r w1 ⟨rfl, hb⟩)
    go_ret
    exact ⟨rfl, hb⟩
  by_cases g2 : 50 < n
  · go_enter Tryd.func7, Tryd.ntmps7
    go_wp2_with (go_at_call 9; refine (aw.out _).mono ?_; rintro r w1 ⟨rfl, hb⟩)
    go_ret
    exact ⟨rfl, hb⟩
  have hY : Y.size ≤ 500 := by omega
  have hn50 : n ≤ 50 := by omega
  clear g1 g2
  have nw := Lib.hid (new_any Y w)
  have hR0 := Lib.hid (new_rd Y w)
  have hW1 := Lib.hid ((Below.refl w.heap.size w).alloc (Nat.le_refl _) (.cells #[.string Y, .int .i64 0, .int .i64 0] 66))
  have hAH := Lib.hid hA
  go_enter Tryd.func7, Tryd.ntmps7
  go_wp2_with fail
  refine nw.out.mono ?_
  rintro r w1 ⟨rfl, rfl⟩
  have hwg : w.heap.size ≤ w.heap.size := Nat.le_refl _
  have hw1 : w.heap.size < (w.alloc (.cells #[.string Y, .int .i64 0, .int .i64 0] 66)).heap.size := hR0.out.lt
  generalize hgg : w.heap.size = g at hR0 hw1 hwg ⊢
  have hwg : w.heap.size ≤ g := by omega
  generalize w.alloc (.cells #[.string Y, .int .i64 0, .int .i64 0] 66) = w1 at hR0 hW1 hw1 ⊢
  have hR2 := Lib.hid (hR0.out.keep ((Below.refl w1.heap.size w1).alloc (Nat.le_refl _) (.cells #[.string Y, .int .i64 0] 53)))
  have hQ2 := Lib.hid (show RQ (w1.alloc (.cells #[.string Y, .int .i64 0] 53)) w1.heap.size Y 0 from heap_new w1 _)
  have hB2 := Lib.hid (hW1.out.alloc hW1.out.size (.cells #[.string Y, .int .i64 0] 53))
  have hYY := Lib.hid (show Y = Y.extract 0 Y.size from bs_ext (by rw [bsl_ext, List.drop_zero, List.take_of_length_le (by rw [bsl_len]; omega)]))
  clear hR0 hW1 nw hA
  go_wp2_with fail
  generalize w1.alloc (.cells #[.string Y, .int .i64 0] 53) = w2 at hR2 hQ2 hB2 ⊢
  generalize w1.heap.size = h at hw1 hQ2 ⊢
  have hgh : g < h := hw1
  clear hw1
  go_loopw [7, 8] (fun i _ wr => ∃ (j k : Nat) (e : Int) (S : ByteArray), j ≤ n ∧ i = .int .i64 j ∧ k ≤ Y.size ∧ S = Y.extract k Y.size ∧ Hid (RD wr g Y k e) ∧ Hid (RQ wr h S e) ∧ Hid (Below w.heap.size w wr)) (fun i _ _ => n - (intOf i).toNat)
  case atStart => exact ⟨0, 0, 0, Y, by omega, rfl, by omega, hYY.out, hR2, hQ2, hB2⟩
  case round =>
    obtain ⟨j, k, e, S, hj, rfl, hk, rfl, hR, hQ, hB⟩ := hrel
    clear hR2 hQ2 hB2 hYY
    by_cases hlt : j < n
    · obtain ⟨b, off, x, y, rfl, hblt, c0w, c1w⟩ := hAH.out.at_ hlt
      have c0 := (hB.out.cell (p := ⟨b, off + j * 2, none⟩) hblt).trans c0w
      have c1 := (hB.out.cell (p := ⟨b, off + j * 2 + 1, none⟩) hblt).trans c1w
      have hl0 : (0 : Int) ≤ (j : Int) := by omega
      have hl1 : (j : Int) < (n : Int) := by omega
      clear c0w
      have c1H := Lib.hid c1w
      clear c1w
      by_cases h0 : x = 0
      · as_aux_lemma =>
        subst h0
        obtain ⟨v, k2, e2, hk2, r1, r2⟩ := sim_byte Y k e (by omega) hk
        have r1 := Lib.hid r1
        have r2 := Lib.hid r2
        go_wp2_with fail
        refine (r1.out g wr hR.out).mono ?_
        rintro r w3 ⟨rfl, hR3, hC3⟩
        have hR3 := Lib.hid hR3
        have hQ3 := Lib.hid (show RQ w3 h (Y.extract k Y.size) e from (hC3.2.2 h hgh hQ.out.lt).trans hQ.out)
        have hB3 := Lib.hid (hC3.below hB.out hwg hB.out.size)
        clear hC3
        go_wp2_with fail
        refine (r2.out h w3 hQ3.out).mono ?_
        rintro r w4 ⟨rfl, hQ4, hC4⟩
        have hQ4 := Lib.hid hQ4
        have hR4 := Lib.hid (show RD w4 g Y k2 e2 from (hC4.1.block g hgh).trans hR3.out)
        have hB4 := Lib.hid (hC4.below hB3.out (by omega) hB3.out.size)
        clear hC4 c0 c1
        obtain ⟨d0, d1, _, _⟩ := hQ4.out.cells
        have hz := left_size Y k2 hk2
        have cE := Lib.hid (fun q => err_any g Y k2 e2 (w4.drewN q) (hR4.out.keep (drewN_below q)))
        have cL := fun q => left_any g Y k2 e2 (w4.drewN q) (hR4.out.keep (drewN_below q)) (by omega) hk2
        have cD := fun q => end_any g Y k2 e2 (w4.drewN q) (hR4.out.keep (drewN_below q)) (by omega) hk2
        have cQ := fun q => qEnd_any h (Y.extract k2 Y.size) (w4.drewN q) e2 (hQ4.out.keep (drewN_below q)) (by omega)
        rw [← hz] at cL cD
        have hrel2 := Lib.hid (show RQ w4 h (Y.extract k2 Y.size) e2 from hQ4.out)
        clear hQ4
        obtain ⟨S2, hS2⟩ : ∃ S2, S2 = Y.extract k2 Y.size := ⟨_, rfl⟩
        rw [← hS2] at d0 cL cD cQ hrel2 hz
        generalize endM S2.size e2 = m2 at cD cQ
        have cL := Lib.hid cL
        have cD := Lib.hid cD
        have cQ := Lib.hid cQ
        go_wp2_with fail
        go_quiet (first
          | (go_at_call 13; exact Calls.quiet_of_same ((cE.out _).mono (fun e w' h => ⟨h.1, h.2.symm⟩)))
          | (go_at_call 14; exact Calls.quiet_of (cL.out _))
          | (go_at_call 16; exact Calls.quiet_of (cD.out _))
          | (go_at_call 42; exact Calls.quiet_of_same ((cQ.out _).mono (fun e w' h => ⟨h.1, h.2.symm⟩))))
        have hR5 := Lib.hid (hR4.out.keep (drewN_below nq))
        have hQ5 := Lib.hid (hrel2.out.keep (drewN_below nq))
        have hB5 := Lib.hid (hB4.out.trans (Below.mono (drewN_below nq) hB4.out.size))
        clear d0 d1
        go_wp2_with fail
        go_roundw
        case rel => exact ⟨j + 1, k2, e2, S2, by omega, by go_num, hk2, hS2, hR5, hQ5, hB5⟩
        case measure => simp [intOf]; omega
      have n0 : (x == 0) = false := beq_eq_false_iff_ne.2 h0
      by_cases h1 : x = 1
      · as_aux_lemma =>
        subst h1
        obtain ⟨v, k2, e2, hk2, r1, r2⟩ := sim_bool Y k e (by omega) hk
        have r1 := Lib.hid r1
        have r2 := Lib.hid r2
        go_wp2_with fail
        refine (r1.out g wr hR.out).mono ?_
        rintro r w3 ⟨rfl, hR3, hC3⟩
        have hR3 := Lib.hid hR3
        have hQ3 := Lib.hid (show RQ w3 h (Y.extract k Y.size) e from (hC3.2.2 h hgh hQ.out.lt).trans hQ.out)
        have hB3 := Lib.hid (hC3.below hB.out hwg hB.out.size)
        clear hC3
        go_wp2_with fail
        refine (r2.out h w3 hQ3.out).mono ?_
        rintro r w4 ⟨rfl, hQ4, hC4⟩
        have hQ4 := Lib.hid hQ4
        have hR4 := Lib.hid (show RD w4 g Y k2 e2 from (hC4.1.block g hgh).trans hR3.out)
        have hB4 := Lib.hid (hC4.below hB3.out (by omega) hB3.out.size)
        clear hC4 c0 c1
        obtain ⟨d0, d1, _, _⟩ := hQ4.out.cells
        have hz := left_size Y k2 hk2
        have cE := Lib.hid (fun q => err_any g Y k2 e2 (w4.drewN q) (hR4.out.keep (drewN_below q)))
        have cL := fun q => left_any g Y k2 e2 (w4.drewN q) (hR4.out.keep (drewN_below q)) (by omega) hk2
        have cD := fun q => end_any g Y k2 e2 (w4.drewN q) (hR4.out.keep (drewN_below q)) (by omega) hk2
        have cQ := fun q => qEnd_any h (Y.extract k2 Y.size) (w4.drewN q) e2 (hQ4.out.keep (drewN_below q)) (by omega)
        rw [← hz] at cL cD
        have hrel2 := Lib.hid (show RQ w4 h (Y.extract k2 Y.size) e2 from hQ4.out)
        clear hQ4
        obtain ⟨S2, hS2⟩ : ∃ S2, S2 = Y.extract k2 Y.size := ⟨_, rfl⟩
        rw [← hS2] at d0 cL cD cQ hrel2 hz
        generalize endM S2.size e2 = m2 at cD cQ
        have cL := Lib.hid cL
        have cD := Lib.hid cD
        have cQ := Lib.hid cQ
        go_wp2_with fail
        go_quiet (first
          | (go_at_call 13; exact Calls.quiet_of_same ((cE.out _).mono (fun e w' h => ⟨h.1, h.2.symm⟩)))
          | (go_at_call 14; exact Calls.quiet_of (cL.out _))
          | (go_at_call 16; exact Calls.quiet_of (cD.out _))
          | (go_at_call 42; exact Calls.quiet_of_same ((cQ.out _).mono (fun e w' h => ⟨h.1, h.2.symm⟩))))
        have hR5 := Lib.hid (hR4.out.keep (drewN_below nq))
        have hQ5 := Lib.hid (hrel2.out.keep (drewN_below nq))
        have hB5 := Lib.hid (hB4.out.trans (Below.mono (drewN_below nq) hB4.out.size))
        clear d0 d1
        go_wp2_with fail
        go_roundw
        case rel => exact ⟨j + 1, k2, e2, S2, by omega, by go_num, hk2, hS2, hR5, hQ5, hB5⟩
        case measure => simp [intOf]; omega
      have n1 : (x == 1) = false := beq_eq_false_iff_ne.2 h1
      by_cases h2 : x = 2
      · as_aux_lemma =>
        subst h2
        obtain ⟨v, k2, e2, hk2, r1, r2⟩ := sim_u32 Y k e (by omega) hk
        have r1 := Lib.hid r1
        have r2 := Lib.hid r2
        go_wp2_with fail
        refine (r1.out g wr hR.out).mono ?_
        rintro r w3 ⟨rfl, hR3, hC3⟩
        have hR3 := Lib.hid hR3
        have hQ3 := Lib.hid (show RQ w3 h (Y.extract k Y.size) e from (hC3.2.2 h hgh hQ.out.lt).trans hQ.out)
        have hB3 := Lib.hid (hC3.below hB.out hwg hB.out.size)
        clear hC3
        go_wp2_with fail
        refine (r2.out h w3 hQ3.out).mono ?_
        rintro r w4 ⟨rfl, hQ4, hC4⟩
        have hQ4 := Lib.hid hQ4
        have hR4 := Lib.hid (show RD w4 g Y k2 e2 from (hC4.1.block g hgh).trans hR3.out)
        have hB4 := Lib.hid (hC4.below hB3.out (by omega) hB3.out.size)
        clear hC4 c0 c1
        obtain ⟨d0, d1, _, _⟩ := hQ4.out.cells
        have hz := left_size Y k2 hk2
        have cE := Lib.hid (fun q => err_any g Y k2 e2 (w4.drewN q) (hR4.out.keep (drewN_below q)))
        have cL := fun q => left_any g Y k2 e2 (w4.drewN q) (hR4.out.keep (drewN_below q)) (by omega) hk2
        have cD := fun q => end_any g Y k2 e2 (w4.drewN q) (hR4.out.keep (drewN_below q)) (by omega) hk2
        have cQ := fun q => qEnd_any h (Y.extract k2 Y.size) (w4.drewN q) e2 (hQ4.out.keep (drewN_below q)) (by omega)
        rw [← hz] at cL cD
        have hrel2 := Lib.hid (show RQ w4 h (Y.extract k2 Y.size) e2 from hQ4.out)
        clear hQ4
        obtain ⟨S2, hS2⟩ : ∃ S2, S2 = Y.extract k2 Y.size := ⟨_, rfl⟩
        rw [← hS2] at d0 cL cD cQ hrel2 hz
        generalize endM S2.size e2 = m2 at cD cQ
        have cL := Lib.hid cL
        have cD := Lib.hid cD
        have cQ := Lib.hid cQ
        go_wp2_with fail
        go_quiet (first
          | (go_at_call 13; exact Calls.quiet_of_same ((cE.out _).mono (fun e w' h => ⟨h.1, h.2.symm⟩)))
          | (go_at_call 14; exact Calls.quiet_of (cL.out _))
          | (go_at_call 16; exact Calls.quiet_of (cD.out _))
          | (go_at_call 42; exact Calls.quiet_of_same ((cQ.out _).mono (fun e w' h => ⟨h.1, h.2.symm⟩))))
        have hR5 := Lib.hid (hR4.out.keep (drewN_below nq))
        have hQ5 := Lib.hid (hrel2.out.keep (drewN_below nq))
        have hB5 := Lib.hid (hB4.out.trans (Below.mono (drewN_below nq) hB4.out.size))
        clear d0 d1
        go_wp2_with fail
        go_roundw
        case rel => exact ⟨j + 1, k2, e2, S2, by omega, by go_num, hk2, hS2, hR5, hQ5, hB5⟩
        case measure => simp [intOf]; omega
      have n2 : (x == 2) = false := beq_eq_false_iff_ne.2 h2
      by_cases h3 : x = 3
      · as_aux_lemma =>
        subst h3
        obtain ⟨v, k2, e2, hk2, r1, r2⟩ := sim_text Y k e (by omega) hk
        have r1 := Lib.hid r1
        have r2 := Lib.hid r2
        go_wp2_with fail
        refine (r1.out g wr hR.out).mono ?_
        rintro r w3 ⟨rfl, hR3, hC3⟩
        have hR3 := Lib.hid hR3
        have hQ3 := Lib.hid (show RQ w3 h (Y.extract k Y.size) e from (hC3.2.2 h hgh hQ.out.lt).trans hQ.out)
        have hB3 := Lib.hid (hC3.below hB.out hwg hB.out.size)
        clear hC3
        go_wp2_with fail
        refine (r2.out h w3 hQ3.out).mono ?_
        rintro r w4 ⟨rfl, hQ4, hC4⟩
        have hQ4 := Lib.hid hQ4
        have hR4 := Lib.hid (show RD w4 g Y k2 e2 from (hC4.1.block g hgh).trans hR3.out)
        have hB4 := Lib.hid (hC4.below hB3.out (by omega) hB3.out.size)
        clear hC4 c0 c1
        obtain ⟨d0, d1, _, _⟩ := hQ4.out.cells
        have hz := left_size Y k2 hk2
        have cE := Lib.hid (fun q => err_any g Y k2 e2 (w4.drewN q) (hR4.out.keep (drewN_below q)))
        have cL := fun q => left_any g Y k2 e2 (w4.drewN q) (hR4.out.keep (drewN_below q)) (by omega) hk2
        have cD := fun q => end_any g Y k2 e2 (w4.drewN q) (hR4.out.keep (drewN_below q)) (by omega) hk2
        have cQ := fun q => qEnd_any h (Y.extract k2 Y.size) (w4.drewN q) e2 (hQ4.out.keep (drewN_below q)) (by omega)
        rw [← hz] at cL cD
        have hrel2 := Lib.hid (show RQ w4 h (Y.extract k2 Y.size) e2 from hQ4.out)
        clear hQ4
        obtain ⟨S2, hS2⟩ : ∃ S2, S2 = Y.extract k2 Y.size := ⟨_, rfl⟩
        rw [← hS2] at d0 cL cD cQ hrel2 hz
        generalize endM S2.size e2 = m2 at cD cQ
        have cL := Lib.hid cL
        have cD := Lib.hid cD
        have cQ := Lib.hid cQ
        go_wp2_with fail
        go_quiet (first
          | (go_at_call 13; exact Calls.quiet_of_same ((cE.out _).mono (fun e w' h => ⟨h.1, h.2.symm⟩)))
          | (go_at_call 14; exact Calls.quiet_of (cL.out _))
          | (go_at_call 16; exact Calls.quiet_of (cD.out _))
          | (go_at_call 42; exact Calls.quiet_of_same ((cQ.out _).mono (fun e w' h => ⟨h.1, h.2.symm⟩))))
        have hR5 := Lib.hid (hR4.out.keep (drewN_below nq))
        have hQ5 := Lib.hid (hrel2.out.keep (drewN_below nq))
        have hB5 := Lib.hid (hB4.out.trans (Below.mono (drewN_below nq) hB4.out.size))
        clear d0 d1
        go_wp2_with fail
        go_roundw
        case rel => exact ⟨j + 1, k2, e2, S2, by omega, by go_num, hk2, hS2, hR5, hQ5, hB5⟩
        case measure => simp [intOf]; omega
      have n3 : (x == 3) = false := beq_eq_false_iff_ne.2 h3
      by_cases h4 : x = 4
      · as_aux_lemma =>
        subst h4
        obtain ⟨v, k2, e2, hk2, r1, r2⟩ := sim_whole Y k e (by omega) hk
        have r1 := Lib.hid r1
        have r2 := Lib.hid r2
        go_wp2_with fail
        refine (r1.out g wr hR.out).mono ?_
        rintro r w3 ⟨rfl, hR3, hC3⟩
        have hR3 := Lib.hid hR3
        have hQ3 := Lib.hid (show RQ w3 h (Y.extract k Y.size) e from (hC3.2.2 h hgh hQ.out.lt).trans hQ.out)
        have hB3 := Lib.hid (hC3.below hB.out hwg hB.out.size)
        clear hC3
        go_wp2_with fail
        refine (r2.out h w3 hQ3.out).mono ?_
        rintro r w4 ⟨rfl, hQ4, hC4⟩
        have hQ4 := Lib.hid hQ4
        have hR4 := Lib.hid (show RD w4 g Y k2 e2 from (hC4.1.block g hgh).trans hR3.out)
        have hB4 := Lib.hid (hC4.below hB3.out (by omega) hB3.out.size)
        clear hC4 c0 c1
        obtain ⟨d0, d1, _, _⟩ := hQ4.out.cells
        have hz := left_size Y k2 hk2
        have cE := Lib.hid (fun q => err_any g Y k2 e2 (w4.drewN q) (hR4.out.keep (drewN_below q)))
        have cL := fun q => left_any g Y k2 e2 (w4.drewN q) (hR4.out.keep (drewN_below q)) (by omega) hk2
        have cD := fun q => end_any g Y k2 e2 (w4.drewN q) (hR4.out.keep (drewN_below q)) (by omega) hk2
        have cQ := fun q => qEnd_any h (Y.extract k2 Y.size) (w4.drewN q) e2 (hQ4.out.keep (drewN_below q)) (by omega)
        rw [← hz] at cL cD
        have hrel2 := Lib.hid (show RQ w4 h (Y.extract k2 Y.size) e2 from hQ4.out)
        clear hQ4
        obtain ⟨S2, hS2⟩ : ∃ S2, S2 = Y.extract k2 Y.size := ⟨_, rfl⟩
        rw [← hS2] at d0 cL cD cQ hrel2 hz
        generalize endM S2.size e2 = m2 at cD cQ
        have cL := Lib.hid cL
        have cD := Lib.hid cD
        have cQ := Lib.hid cQ
        go_wp2_with fail
        go_quiet (first
          | (go_at_call 13; exact Calls.quiet_of_same ((cE.out _).mono (fun e w' h => ⟨h.1, h.2.symm⟩)))
          | (go_at_call 14; exact Calls.quiet_of (cL.out _))
          | (go_at_call 16; exact Calls.quiet_of (cD.out _))
          | (go_at_call 42; exact Calls.quiet_of_same ((cQ.out _).mono (fun e w' h => ⟨h.1, h.2.symm⟩))))
        have hR5 := Lib.hid (hR4.out.keep (drewN_below nq))
        have hQ5 := Lib.hid (hrel2.out.keep (drewN_below nq))
        have hB5 := Lib.hid (hB4.out.trans (Below.mono (drewN_below nq) hB4.out.size))
        clear d0 d1
        go_wp2_with fail
        go_roundw
        case rel => exact ⟨j + 1, k2, e2, S2, by omega, by go_num, hk2, hS2, hR5, hQ5, hB5⟩
        case measure => simp [intOf]; omega
      have n4 : (x == 4) = false := beq_eq_false_iff_ne.2 h4
      · as_aux_lemma =>
        obtain ⟨v, k2, e2, hk2, r1, r2⟩ := sim_bytes Y k e y (by omega) hk
        have r1 := Lib.hid r1
        have r2 := Lib.hid r2
        clear h0 h1 h2 h3 h4
        go_wp2_with fail
        have hW0 := Lib.hid (show Below wr.heap.size wr wr.drew from drewN_below 1)
        have hR0 := Lib.hid (hR.out.keep hW0.out)
        have hQ0 := Lib.hid (hQ.out.keep hW0.out)
        have hB0 := Lib.hid (hB.out.trans (hW0.out.mono hB.out.size))
        have hcy := Lib.hid (fun W (hb : Below w.heap.size w W) => (hb.cell (p := ⟨b, off + j * 2 + 1, none⟩) hblt).trans c1H.out)
        go_region_held3 (fun W => W.cell? ⟨b, off + j * 2 + 1, none⟩ = some (.int .i64 y)) (first | exact hcy.out _ hB0.out | exact hcy.out _ hB3.out | exact hcy.out _ hB4.out)
          (first
            | (go_at_call 40; refine (r1.out g _ hR0.out).mono ?_; rintro r w3 ⟨rfl, hR3', hC3⟩; have hR3 := Lib.hid hR3'; have hQ3 := Lib.hid (show RQ w3 h (Y.extract k Y.size) e from (hC3.2.2 h hgh hQ0.out.lt).trans hQ0.out); have hB3 := Lib.hid (hC3.below hB0.out hwg hB0.out.size); clear hC3 hR3')
            | (go_at_call 41; refine (r2.out h w3 hQ3.out).mono ?_; rintro r w4 ⟨rfl, hQ4', hC4⟩; have hQ4 := Lib.hid hQ4'; have hR4 := Lib.hid (show RD w4 g Y k2 e2 from (hC4.1.block g hgh).trans hR3.out); have hB4 := Lib.hid (hC4.below hB3.out (by omega) hB3.out.size); clear hC4 hQ4'))
        all_goals
          clear c0 c1
          obtain ⟨d0, d1, _, _⟩ := hQ4.out.cells
          have hz := left_size Y k2 hk2
          have cE := Lib.hid (fun q => err_any g Y k2 e2 (w4.drewN q) (hR4.out.keep (drewN_below q)))
          have cL := fun q => left_any g Y k2 e2 (w4.drewN q) (hR4.out.keep (drewN_below q)) (by omega) hk2
          have cD := fun q => end_any g Y k2 e2 (w4.drewN q) (hR4.out.keep (drewN_below q)) (by omega) hk2
          have cQ := fun q => qEnd_any h (Y.extract k2 Y.size) (w4.drewN q) e2 (hQ4.out.keep (drewN_below q)) (by omega)
          rw [← hz] at cL cD
          have hrel2 := Lib.hid (show RQ w4 h (Y.extract k2 Y.size) e2 from hQ4.out)
          clear hQ4
          obtain ⟨S2, hS2⟩ : ∃ S2, S2 = Y.extract k2 Y.size := ⟨_, rfl⟩
          rw [← hS2] at d0 cL cD cQ hrel2 hz
          generalize endM S2.size e2 = m2 at cD cQ
          have cL := Lib.hid cL
          have cD := Lib.hid cD
          have cQ := Lib.hid cQ
          go_wp2_with fail
          go_quiet (first
            | (go_at_call 13; exact Calls.quiet_of_same ((cE.out _).mono (fun e w' h => ⟨h.1, h.2.symm⟩)))
            | (go_at_call 14; exact Calls.quiet_of (cL.out _))
            | (go_at_call 16; exact Calls.quiet_of (cD.out _))
            | (go_at_call 42; exact Calls.quiet_of_same ((cQ.out _).mono (fun e w' h => ⟨h.1, h.2.symm⟩))))
          have hR5 := Lib.hid (hR4.out.keep (drewN_below nq))
          have hQ5 := Lib.hid (hrel2.out.keep (drewN_below nq))
          have hB5 := Lib.hid (hB4.out.trans (Below.mono (drewN_below nq) hB4.out.size))
          clear d0 d1
          go_wp2_with fail
          go_roundw
          case rel => exact ⟨j + 1, k2, e2, S2, by omega, by go_num, hk2, hS2, hR5, hQ5, hB5⟩
          case measure => simp [intOf]; omega
    · have hl1 : ¬ ((j : Int) < (n : Int)) := by omega
      go_wp2_with (first
        | (go_at_call 9; refine (aw.out _).mono ?_; rintro r w7 ⟨rfl, hb⟩; have hB7 := Lib.hid (hB.out.trans (hb.mono hB.out.size)); clear hb)
        | (go_at_call 31; refine (nByte _).mono ?_; rintro r w8 ⟨rfl, rfl⟩)
        | (go_at_call 33; refine (nBool _).mono ?_; rintro r w8 ⟨rfl, rfl⟩)
        | (go_at_call 35; refine (nU32 _).mono ?_; rintro r w8 ⟨rfl, rfl⟩)
        | (go_at_call 37; refine (nTextT _).mono ?_; rintro r w8 ⟨rfl, rfl⟩)
        | (go_at_call 12; refine (nWhole _).mono ?_; rintro r w8 ⟨rfl, rfl⟩)
        | (go_at_call 40; refine (nBytes _).mono ?_; rintro r w8 ⟨rfl, rfl⟩)
        | (go_at_call 14; refine (left_nil _).mono ?_; rintro r w8 ⟨rfl, rfl⟩)
        | (go_at_call 13; refine (err_nil _).mono ?_; rintro r w8 ⟨rfl, rfl⟩)
        | (go_at_call 16; refine (nEnd _).mono ?_; rintro r w8 ⟨rfl, rfl⟩))
      go_ret
      exact ⟨rfl, hB7.out⟩
end Go.Proofs.YtjiepgldgcghlaaDoor
