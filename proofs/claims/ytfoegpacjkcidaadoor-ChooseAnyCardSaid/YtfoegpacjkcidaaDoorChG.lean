/- Choose: the reference's Choose, Guess and Of. -/
import Derived.Test.YtfoegpacjkcidaaDoorChE
namespace Go.Proofs.YtfoegpacjkcidaaDoor
open Go.RowKit

def RcR (w : World) (L M : List (List ByteArray)) (r : Ending) (w' : World) : Prop := ∃ v, r = .returned (.tuple #[v, .int .i64 (fK L M)]) ∧ (fK L M = 8 → OwnS w' w.heap.size v (fOut L M 8)) ∧ (fK L M ≠ 8 → v = .slice none 0 0) ∧ Below w.heap.size w w'
theorem fOut_next (L M : List (List ByteArray)) {k : Nat} (hk : k < 8) : (fOut L M 8).take (k + 1) = (fOut L M 8).take k ++ [fN L M k] := by
  have := fOut_get L M 8 hk
  rw [if_pos hk] at this
  exact take_succ_of this
set_option maxRecDepth 100000 in
set_option maxHeartbeats 8000000 in
theorem refChoose_any (V U : List Value) (L M : List (List ByteArray)) (w : World) (H : Pf w V L) (K : Pf w U M) :
    Calls Tryd.prog 17 #[.agg V.toArray, .agg U.toArray] w (RcR w L M) := by
  obtain ⟨i0, hi0, hz0, hz1, hz2⟩ := info_parts str_info
  have hb1 := below_got w (.cells V.toArray 24)
  have hb2 := hb1.alloc hb1.size (.cells U.toArray 24)
  have hg1 := heap_past (heap_new w (.cells V.toArray 24)) (.cells U.toArray 24)
  have hg2 := heap_new (w.alloc (.cells V.toArray 24)) (.cells U.toArray 24)
  rw [World.size_alloc] at hg2
  have hl2 := (Array.getElem?_eq_some_iff.1 hg2).1
  have hldV := rangeAt_list (cs := V) (by exact hg1)
  have hldU0 := rangeAt_list (cs := U) (by exact hg2)
  have hldU := Lib.hid (fun W (h : Below ((w.alloc (.cells V.toArray 24)).alloc (.cells U.toArray 24)).heap.size ((w.alloc (.cells V.toArray 24)).alloc (.cells U.toArray 24)) W) => rangeAt_keep hldU0 h hl2)
  have hszV := pf_size H
  have hszU := pf_size K
  have cU := Lib.hid (fun W (h : Below w.heap.size w W) => refLists_any U M W (K.keep h))
  have cV := Lib.hid (fun W (h : Below w.heap.size w W) => refLists_any V L W (H.keep h))
  have hB2 := Lib.hid hb2
  clear H K hb1 hb2 hg1 hg2 hldU0 hl2
  go_enter Tryd.func17, Tryd.ntmps17
  go_upto_region 1 with (refine wpList_box_row 24 _ rfl rfl (List.toArray _) rfl ?_; try simp only [World.size_alloc])
  generalize ((w.alloc (.cells V.toArray 24)).alloc (.cells U.toArray 24)) = w1 at hB2 hldU hldV ⊢
  go_wp2_with (first
    | (refine wpList_load_at 24 (.tmp 2) rfl rfl w.heap.size 0 rfl V _ hldV Tryd.underlying24 rfl hszV ?_)
    | (go_at_call 12; (with_reducible refine (cV.out _ hB2.out).mono ?_); rintro r w3 ⟨g3, U3, rfl, hU3, hP3, _, hb3⟩; have hU3 := Lib.hid hU3; have hP3 := Lib.hid hP3; have hlU3 := hldU.out _ hb3; have hB3 := Lib.hid (hB2.out.trans (hb3.mono hB2.out.size)); clear hb3)
    | (refine wpList_load_at 24 (.tmp 3) rfl rfl (w.heap.size + 1) 0 rfl U _ hlU3 Tryd.underlying24 rfl hszU ?_)
    | (go_at_call 12; (with_reducible refine (cU.out _ hB3.out).mono ?_); rintro r w5 ⟨g5, U5, rfl, hU5, hP5, _, hb5⟩; have hU5 := Lib.hid hU5; have hP5 := Lib.hid hP5; have hU3 := Lib.hid (hU3.out.keep hb5); have hP3 := Lib.hid (hP3.out.keep hb5); have hB5 := Lib.hid (hB3.out.trans (hb5.mono hB3.out.size)); clear hb5))
  go_loopw [8, 9, 10, 11] (fun v i _ _ wr => ∃ k : Nat, k ≤ 8 ∧ i = .int .i64 k ∧ Hid (fGo L M (8 - k) k = fK L M) ∧ Hid (OwnS wr w5.heap.size v ((fOut L M 8).take k)) ∧ Hid (Below w5.heap.size w5 wr)) (fun _ i _ _ _ => 8 - (intOf i).toNat)
  case atStart => exact ⟨0, by omega, rfl, rfl, OwnR.nil_ _ _ _ _, Below.refl _ _⟩
  case round =>
    obtain ⟨k, hk, rfl, hf, hO, hB⟩ := hrel
    by_cases hlt : k < 8
    · obtain ⟨b, off, v, e, hb, hv, hc⟩ := (hU3.out.keep hB.out).at_ hlt
      injection e with e
      injection e with e1 e2
      subst e1; subst e2
      obtain ⟨A, n, c, l, hv2, hl, hnc, hcm, hSt⟩ := (hP3.out.keep hB.out).get hlt
      obtain rfl : v = .slice A n c := by rw [hv] at hv2; injection hv2
      obtain ⟨b', off', v', e, hb', hv', hc'⟩ := (hU5.out.keep hB.out).at_ hlt
      injection e with e
      injection e with e1 e2
      subst e1; subst e2
      obtain ⟨A', n', c', l', hv2', hl', hnc', hcm', hSt'⟩ := (hP5.out.keep hB.out).get hlt
      obtain rfl : v' = .slice A' n' c' := by rw [hv'] at hv2'; injection hv2'
      have cF := fun q => refFirst_any l l' A A' n c n' c' (wr.drewN q) (by omega) (by omega) (hSt.keep (drewN_below q)) (hSt'.keep (drewN_below q))
      have hst := fGo_step L M hlt
      have hfo : fO L M k = l.find? (has l') := by unfold fO; rw [List.getD_eq_getElem?_getD, List.getD_eq_getElem?_getD, hl, hl']; rfl
      have hnx := fOut_next L M hlt
      rw [Nat.zero_add] at hc hc'
      have i1 : (0 : Int) ≤ (k : Int) := by omega
      have i2 : (k : Int) < 8 := by omega
      rw [hf.out, hfo] at hst
      clear hv hv2 hl hb hSt hv' hv2' hl' hb' hSt'
      cases hq : l.find? (has l') with
      | some s =>
        rw [hq] at hst hfo
        simp only [firstV_some hq] at cF
        have cF := Lib.hid cF
        have hfn : fN L M k = s := by unfold fN; rw [hfo]; rfl
        have hst := Lib.hid (show fGo L M (8 - (k + 1)) (k + 1) = fK L M from hst.symm)
        rw [hfn] at hnx
        have hnx := Lib.hid hnx
        have hle : ((fOut L M 8).take k).length ≤ 8 := by rw [List.length_take, fOut_len]; omega
        clear hq hfo hfn
        go_wp2_with fail
        go_quiet ((go_at_call 40; exact Calls.quiet_of_same ((cF.out _).mono (fun e w' h => ⟨h.1, h.2.symm⟩))))
        have hBq := hB.out.trans (Below.mono (drewN_below nq) hB.out.size)
        have hOq := hO.out.keep (drewN_below nq)
        generalize wr.drewN nq = wq at hBq hOq ⊢
        have hO1 := Lib.hid (hOq.keep (below_got wq (.cells #[.string s] 9)))
        have hB1 := Lib.hid (hBq.alloc hBq.size (.cells #[.string s] 9))
        clear hc hc' hOq hBq
        go_wp2_with (at_builtin
                     refine wpList_append_one rfl _ _ 22 rfl 9 i0 (.string ByteArray.empty) 1 16 Tryd.underlying22 hi0 hz0 hz1 hz2 rfl (by decide) w5 hB1.out _ _ rfl hO1.out wq.heap.size 1 (sv s) rfl ?_ rfl ?_ ?_ ?_ ?_
                     · exact rangeAt_list (heap_new wq (.cells #[.string s] 9))
                     · intro u hu; simp [sv] at hu; subst hu; rfl
                     · simp only [List.length_map]; unfold maxLen; omega
                     · simp only [List.length_map]; omega
                     intro v' w2 hO2 hB2' _
                     have hO2 := Lib.hid hO2
                     have hB2' := Lib.hid hB2')
        go_roundw
        case rel => exact ⟨k + 1, by omega, by go_num, hst, (by unfold Hid OwnS; rw [hnx.out]; simpa using hO2.out), hB2'⟩
        case measure => simp [intOf]; omega
      | none =>
        rw [hq] at hst hfo
        simp only [firstV_none hq] at cF
        have cF := Lib.hid cF
        have hst := Lib.hid (show fK L M = k from hst)
        clear hq hfo hnx
        go_wp2_with fail
        go_quiet ((go_at_call 40; exact Calls.quiet_of_same ((cF.out _).mono (fun e w' h => ⟨h.1, h.2.symm⟩))))
        go_wp2_with fail
        go_ret2
        exact ⟨_, (by rw [hst.out]; first | done | rfl), fun h => by rw [hst.out] at h; omega, fun _ => rfl, hB5.out.trans ((hB.out.trans (Below.mono (drewN_below _) hB.out.size)).mono hB5.out.size)⟩
    · have hk8 : k = 8 := by omega
      subst hk8
      have hst := Lib.hid (show fK L M = 8 from hf.out.symm)
      rw [List.take_of_length_le (by rw [fOut_len]; exact Nat.le_refl _)] at hO
      go_wp2
      go_ret2
      exact ⟨_, (by rw [hst.out]; first | done | rfl), fun _ => hO.out.base hB5.out.size, fun h => absurd hst.out h, hB5.out.trans (hB.out.mono hB5.out.size)⟩
/-- The first names of two lists, where both have one. -/
theorem hdB_cons (x y : ByteArray) (r t : List ByteArray) : hdB (x :: r) (y :: t) = (x.toList == y.toList) := rfl
theorem hdB_nil (l : List ByteArray) : hdB l [] = false := by cases l <;> rfl
set_option maxRecDepth 100000 in
set_option maxHeartbeats 8000000 in
theorem refGuess_any (V U : List Value) (L M : List (List ByteArray)) (w : World) (H : Pf w V L) (K : Pf w U M) :
    Calls Tryd.prog 18 #[.agg V.toArray, .agg U.toArray] w fun r w' => r = .returned (.bool (guessB L M)) ∧ Below w.heap.size w w' := by
  have hb1 := below_got w (.cells V.toArray 24)
  have hb2 := hb1.alloc hb1.size (.cells U.toArray 24)
  have hg1 := heap_past (heap_new w (.cells V.toArray 24)) (.cells U.toArray 24)
  have hg2 := heap_new (w.alloc (.cells V.toArray 24)) (.cells U.toArray 24)
  simp only [World.size_alloc] at hg2
  obtain ⟨A0, n0, c0, l0, e0, f0, _, _, S0⟩ := H.get (i := 0) (by decide)
  obtain ⟨A1, n1, c1, l1, e1, f1, _, _, S1⟩ := H.get (i := 1) (by decide)
  obtain ⟨B0, m0, d0, k0, g0, j0, _, _, T0⟩ := K.get (i := 0) (by decide)
  obtain ⟨B1, m1, d1, k1, g1, j1, _, _, T1⟩ := K.get (i := 1) (by decide)
  have hv : guessB L M = (hdB l0 k0 && hdB l1 k1) := by unfold guessB; simp only [List.getD_eq_getElem?_getD, f0, f1, j0, j1, Option.getD_some]
  have s0 : ((w.alloc (.cells V.toArray 24)).alloc (.cells U.toArray 24)).cell? ⟨w.heap.size, 0, none⟩ = some (.slice A0 n0 c0) := by rw [cell_of_row _ _ 0 _ _ _ hg1, List.getElem?_toArray]; exact e0
  have s1 : ((w.alloc (.cells V.toArray 24)).alloc (.cells U.toArray 24)).cell? ⟨w.heap.size, 1, none⟩ = some (.slice A1 n1 c1) := by rw [cell_of_row _ _ 1 _ _ _ hg1, List.getElem?_toArray]; exact e1
  have s2 : ((w.alloc (.cells V.toArray 24)).alloc (.cells U.toArray 24)).cell? ⟨w.heap.size + 1, 0, none⟩ = some (.slice B0 m0 d0) := by rw [cell_of_row _ _ 0 _ _ _ hg2, List.getElem?_toArray]; exact g0
  have s3 : ((w.alloc (.cells V.toArray 24)).alloc (.cells U.toArray 24)).cell? ⟨w.heap.size + 1, 1, none⟩ = some (.slice B1 m1 d1) := by rw [cell_of_row _ _ 1 _ _ _ hg2, List.getElem?_toArray]; exact g1
  replace S0 := S0.keep hb2
  replace S1 := S1.keep hb2
  replace T0 := T0.keep hb2
  replace T1 := T1.keep hb2
  have hB1 := Lib.hid hb2
  clear hb1 hb2 hg1 hg2 e0 e1 f0 f1 g0 g1 j0 j1 H K
  generalize hW : ((w.alloc (.cells V.toArray 24)).alloc (.cells U.toArray 24)) = w1 at s0 s1 s2 s3 S0 S1 T0 T1 hB1
  have hl0 := S0.len
  have hl1 := S1.len
  have hk0 := T0.len
  have hk1 := T1.len
  by_cases h : n0 = 0 ∨ m0 = 0 ∨ n1 = 0 ∨ m1 = 0
  · have hf := Lib.hid (show guessB L M = false by
      rw [hv]
      rcases h with h | h | h | h
      · rw [List.eq_nil_of_length_eq_zero (hl0.trans h)]; rfl
      · rw [List.eq_nil_of_length_eq_zero (hk0.trans h), hdB_nil]; rfl
      · rw [List.eq_nil_of_length_eq_zero (hl1.trans h), Bool.and_comm]; rfl
      · rw [List.eq_nil_of_length_eq_zero (hk1.trans h), hdB_nil, Bool.and_comm]; rfl)
    have h4 : n0 = 0 ∨ (n0 ≠ 0 ∧ m0 = 0) ∨ (n0 ≠ 0 ∧ m0 ≠ 0 ∧ n1 = 0) ∨ (n0 ≠ 0 ∧ m0 ≠ 0 ∧ n1 ≠ 0 ∧ m1 = 0) := by omega
    clear hv hl0 hl1 hk0 hk1 S0 S1 T0 T1 h
    rcases h4 with rfl | ⟨a0, rfl⟩ | ⟨a0, a1, rfl⟩ | ⟨a0, a1, a2, rfl⟩
    all_goals
      (try have b0 : ((n0 : Int) == 0) = false := beq_eq_false_iff_ne.2 (by omega))
      (try have b1 : ((m0 : Int) == 0) = false := beq_eq_false_iff_ne.2 (by omega))
      (try have b2 : ((n1 : Int) == 0) = false := beq_eq_false_iff_ne.2 (by omega))
      go_enter Tryd.func18, Tryd.ntmps18
      go_upto_region 1 with (refine wpList_box_row 24 _ rfl rfl (List.toArray _) rfl ?_; try simp only [World.size_alloc])
      try rw [hW]
      go_wp2
      go_ret
      exact ⟨ret_bool hf.out.symm, hB1.out⟩
  · have b0 : ((n0 : Int) == 0) = false := beq_eq_false_iff_ne.2 (by omega)
    have b1 : ((m0 : Int) == 0) = false := beq_eq_false_iff_ne.2 (by omega)
    have b2 : ((n1 : Int) == 0) = false := beq_eq_false_iff_ne.2 (by omega)
    have b3 : ((m1 : Int) == 0) = false := beq_eq_false_iff_ne.2 (by omega)
    have i0 : (0 : Int) < (n0 : Int) := by omega
    have i1 : (0 : Int) < (m0 : Int) := by omega
    have i2 : (0 : Int) < (n1 : Int) := by omega
    have i3 : (0 : Int) < (m1 : Int) := by omega
    obtain ⟨p0, q0, x0, r0, rfl, rfl, y0, _⟩ := hd_cells S0 (by omega)
    obtain ⟨p1, q1, x1, r1, rfl, rfl, y1, _⟩ := hd_cells S1 (by omega)
    obtain ⟨p2, q2, x2, r2, rfl, rfl, y2, _⟩ := hd_cells T0 (by omega)
    obtain ⟨p3, q3, x3, r3, rfl, rfl, y3, _⟩ := hd_cells T1 (by omega)
    rw [hdB_cons, hdB_cons] at hv
    clear hl0 hl1 hk0 hk1 S0 S1 T0 T1 h
    cases hq : (x0.toList == x2.toList) with
    | false =>
      rw [hq] at hv
      have hf := Lib.hid (show guessB L M = false from hv)
      clear hv
      go_enter Tryd.func18, Tryd.ntmps18
      go_upto_region 1 with (refine wpList_box_row 24 _ rfl rfl (List.toArray _) rfl ?_; try simp only [World.size_alloc])
      try rw [hW]
      go_wp2_with fail
      go_quiet (fail)
      go_wp2_with fail
      go_ret
      exact ⟨ret_bool hf.out.symm, hB1.out.trans (Below.mono (drewN_below _) hB1.out.size)⟩
    | true =>
      rw [hq] at hv
      have hf := Lib.hid (show guessB L M = (x1.toList == x3.toList) from hv)
      clear hv
      go_enter Tryd.func18, Tryd.ntmps18
      go_upto_region 1 with (refine wpList_box_row 24 _ rfl rfl (List.toArray _) rfl ?_; try simp only [World.size_alloc])
      try rw [hW]
      go_wp2_with fail
      go_quiet (fail)
      go_wp2_with fail
      go_ret
      exact ⟨ret_bool hf.out.symm, hB1.out.trans (Below.mono (drewN_below _) hB1.out.size)⟩
noncomputable def stC (a : Addr) (v : Value) : Sem Unit := storeVar 28 a v
theorem stC_eq (a : Addr) (v : Value) : storeVar 28 a v = stC a v := rfl
section
attribute [local go_sem ↓] stC_eq
set_option maxRecDepth 100000 in
set_option maxHeartbeats 8000000 in
theorem refOf_any (x0 x1 x2 x3 x4 x5 x6 x7 : ByteArray) (A : Option Addr) (c : Nat) (w : World) (H : Strs w A 8 [x0, x1, x2, x3, x4, x5, x6, x7]) :
    Calls Tryd.prog 21 #[.slice A 8 c] w fun r w' => r = .returned (.agg #[.string x0, .string x1, .string x2, .string x3, .string x4, .string x5, .string x6, .string x7]) ∧ Below w.heap.size w w' := by
  obtain ⟨b, off, rfl, hlt, hc⟩ := H.2.2 (by decide)
  have hz8 := ch_zero
  have hS := Lib.hid (fun W (h : Below w.heap.size w W) => (⟨(h.cell (p := ⟨b, off, none⟩) hlt).trans (by simpa using hc 0 _ rfl 0 _ rfl), (h.cell (p := ⟨b, off + 1, none⟩) hlt).trans (by simpa using hc 1 _ rfl 0 _ rfl), (h.cell (p := ⟨b, off + 2, none⟩) hlt).trans (by simpa using hc 2 _ rfl 0 _ rfl), (h.cell (p := ⟨b, off + 3, none⟩) hlt).trans (by simpa using hc 3 _ rfl 0 _ rfl), (h.cell (p := ⟨b, off + 4, none⟩) hlt).trans (by simpa using hc 4 _ rfl 0 _ rfl), (h.cell (p := ⟨b, off + 5, none⟩) hlt).trans (by simpa using hc 5 _ rfl 0 _ rfl), (h.cell (p := ⟨b, off + 6, none⟩) hlt).trans (by simpa using hc 6 _ rfl 0 _ rfl), (h.cell (p := ⟨b, off + 7, none⟩) hlt).trans (by simpa using hc 7 _ rfl 0 _ rfl)⟩ : (W.cell? ⟨b, off, none⟩ = some (.string x0) ∧ W.cell? ⟨b, off + 1, none⟩ = some (.string x1) ∧ W.cell? ⟨b, off + 2, none⟩ = some (.string x2) ∧ W.cell? ⟨b, off + 3, none⟩ = some (.string x3) ∧ W.cell? ⟨b, off + 4, none⟩ = some (.string x4) ∧ W.cell? ⟨b, off + 5, none⟩ = some (.string x5) ∧ W.cell? ⟨b, off + 6, none⟩ = some (.string x6) ∧ W.cell? ⟨b, off + 7, none⟩ = some (.string x7))))
  have hg := heap_new w (.cells #[.string ⟨#[]⟩, .string ⟨#[]⟩, .string ⟨#[]⟩, .string ⟨#[]⟩, .string ⟨#[]⟩, .string ⟨#[]⟩, .string ⟨#[]⟩, .string ⟨#[]⟩] 28)
  have hb1 := below_got w (.cells #[.string ⟨#[]⟩, .string ⟨#[]⟩, .string ⟨#[]⟩, .string ⟨#[]⟩, .string ⟨#[]⟩, .string ⟨#[]⟩, .string ⟨#[]⟩, .string ⟨#[]⟩] 28)
  go_enter Tryd.func21, Tryd.ntmps21
  go_upto_region 1 with (refine wpList_alloc_row 28 rfl rfl #[.string ⟨#[]⟩, .string ⟨#[]⟩, .string ⟨#[]⟩, .string ⟨#[]⟩, .string ⟨#[]⟩, .string ⟨#[]⟩, .string ⟨#[]⟩, .string ⟨#[]⟩] hz8 ?_)
  generalize w.alloc (.cells #[.string ⟨#[]⟩, .string ⟨#[]⟩, .string ⟨#[]⟩, .string ⟨#[]⟩, .string ⟨#[]⟩, .string ⟨#[]⟩, .string ⟨#[]⟩, .string ⟨#[]⟩] 28) = w1 at hg hb1 ⊢
  have hB0 := Lib.hid (hb1.trans (Below.mono (drewN_below 1) hb1.size))
  have hgr : w1.drew.heap[w.heap.size]? = some (.cells #[.string ⟨#[]⟩, .string ⟨#[]⟩, .string ⟨#[]⟩, .string ⟨#[]⟩, .string ⟨#[]⟩, .string ⟨#[]⟩, .string ⟨#[]⟩, .string ⟨#[]⟩] 28 (0, 0)) := hg
  have hst : (stC ⟨w.heap.size, 0, none⟩ (.agg #[.string x0, .string x1, .string x2, .string x3, .string x4, .string x5, .string x6, .string x7])).run Tryd.prog w1.drew = .ok () (w1.drew.setRow w.heap.size #[.string x0, .string x1, .string x2, .string x3, .string x4, .string x5, .string x6, .string x7]) := run_storeVar_row w1.drew w.heap.size 28 28 #[.string ⟨#[]⟩, .string ⟨#[]⟩, .string ⟨#[]⟩, .string ⟨#[]⟩, .string ⟨#[]⟩, .string ⟨#[]⟩, .string ⟨#[]⟩, .string ⟨#[]⟩] #[.string x0, .string x1, .string x2, .string x3, .string x4, .string x5, .string x6, .string x7] hgr (by kernel_rfl) rfl (by simp [Value.oneCell'])
  have hB2 := Lib.hid (below_row hB0.out (Nat.le_refl _) #[.string x0, .string x1, .string x2, .string x3, .string x4, .string x5, .string x6, .string x7])
  clear hg hb1 hz8 H hc
  go_region_held3 (fun W => (W.cell? ⟨b, off, none⟩ = some (.string x0) ∧ W.cell? ⟨b, off + 1, none⟩ = some (.string x1) ∧ W.cell? ⟨b, off + 2, none⟩ = some (.string x2) ∧ W.cell? ⟨b, off + 3, none⟩ = some (.string x3) ∧ W.cell? ⟨b, off + 4, none⟩ = some (.string x4) ∧ W.cell? ⟨b, off + 5, none⟩ = some (.string x5) ∧ W.cell? ⟨b, off + 6, none⟩ = some (.string x6) ∧ W.cell? ⟨b, off + 7, none⟩ = some (.string x7))) (first | exact hS.out _ hB0.out | exact hS.out _ hB2.out) (fail)
  go_wp2_with fail
  refine bodyPost_ret (results_cell_row rfl _ _ w.heap.size 28 #[.string x0, .string x1, .string x2, .string x3, .string x4, .string x5, .string x6, .string x7] (0, 0) _ rfl (heap_setRow_new _ _ _ _ _ _ hgr) Tryd.underlying28 rfl (by kernel_rfl)) rfl ⟨rfl, hB2.out⟩
end
end Go.Proofs.YtfoegpacjkcidaaDoor
