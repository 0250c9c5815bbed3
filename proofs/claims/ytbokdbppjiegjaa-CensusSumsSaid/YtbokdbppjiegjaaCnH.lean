/- The walk of CensusSums. -/
import Derived.Test.YtbokdbppjiegjaaCnG
import Derived.Test.YtbokdbppjiegjaaCnD
import Derived.Test.YtbokdbppjiegjaaCnF
import Derived.Test.YtbokdbppjiegjaaKeyEq
namespace Go.Proofs.Ytbokdbppjiegjaa
open Go.RowKit

/-! ### '==' at a census -/
def cenDs : List TypeDesc := List.replicate 30 (.int .i64)
theorem cen_flat : flatDesc Try.prog 4 29 = some cenDs := by kernel_rfl
theorem cen_noBlank : noBlank Try.prog 4 29 = true := by kernel_rfl
theorem cen_key : Try.prog.keyTypeAt 8 29 = true := by kernel_rfl
theorem cen_cells : Try.prog.cellsOf 29 = cenDs.length := by kernel_rfl
theorem cen_guard : Try.prog.eqGuardType Try.prog.depth 29 = false := by kernel_rfl
theorem cen_ok {C : List Int} (h : C.length = 30) (hc : ∀ i, 0 ≤ C.getD i 0 ∧ C.getD i 0 ≤ 1000000) : allOk cenDs (C.map (Value.int .i64)) := by
  refine ⟨by simp [cenDs, h], fun i d v hd hv => ?_⟩
  have hd' : d = .int .i64 := by
    unfold cenDs at hd
    rw [List.getElem?_replicate] at hd
    split at hd
    · exact (Option.some.inj hd).symm
    · cases hd
  subst hd'
  rw [List.getElem?_map] at hv
  cases hx : C[i]? with
  | none => rw [hx] at hv; cases hv
  | some x =>
    rw [hx] at hv
    simp only [Option.map_some, Option.some.injEq] at hv
    have := hc i
    rw [List.getD_eq_getElem?_getD, hx] at this
    simp only [Option.getD_some] at this
    have e1 : IntKind.i64.min = -9223372036854775808 := rfl
    have e2 : IntKind.i64.max = 9223372036854775807 := rfl
    exact ⟨x, hv.symm, by rw [e1]; omega, by rw [e2]; omega⟩
theorem eql_census {C : List Int} (h : C.length = 30) (hc : ∀ i, 0 ≤ C.getD i 0 ∧ C.getD i 0 ≤ 1000000) (w : World) :
    (binOp .eql 29 (.agg (ci C)) (.agg (ci C))).run Try.prog w = .ok (.bool true) w :=
  eql_flat Try.underlying29 cen_cells cen_flat cen_noBlank cen_key (by decide) _ _ (cen_ok h hc) (cen_ok h hc) true (by simp) w
theorem cens_bd (es : List Ev) (k : Nat) (hk : k ≤ 1000) (i : Nat) : 0 ≤ (cens es k).getD i 0 ∧ (cens es k).getD i 0 ≤ 1000 := by
  by_cases h : i < 30
  · rw [cens_getD es k h]
    have := cnt_le es k i
    omega
  · rw [List.getD_eq_getElem?_getD, List.getElem?_eq_none (by rw [cens_len]; omega)]
    simp
/-- The sum's safe events set to those of the whole: the whole. -/
theorem sums_eq (es ms : List Ev) : (mix (cens es es.length) (cens ms ms.length) 30).set 29 ((cens (es ++ ms) (es ++ ms).length).getD 29 0) = cens (es ++ ms) (es ++ ms).length := by
  apply List.ext_getElem?
  intro i
  by_cases hi : i < 30
  · rw [List.getElem?_set]
    by_cases e : 29 = i
    · subst e
      rw [if_pos rfl, if_pos (by rw [mix_len]; omega), cens_get (by omega), cens_getD _ _ (by omega)]
    · rw [if_neg e, cens_get hi]
      unfold mix
      rw [List.getElem?_map, List.getElem?_range hi]
      simp only [Option.map_some, Option.some.injEq]
      rw [if_pos hi, cens_getD _ _ hi, cens_getD _ _ hi, cnt_append es ms (by omega)]
      omega
  · rw [List.getElem?_eq_none (by rw [List.length_set, mix_len]; omega), List.getElem?_eq_none (by rw [cens_len]; omega)]
theorem sums_le (es ms : List Ev) : (cens (es ++ ms) (es ++ ms).length).getD 29 0 ≤ (mix (cens es es.length) (cens ms ms.length) 30).getD 29 0 := by
  rw [mix_getD _ _ _ (by decide), if_pos (by decide), cens_getD _ _ (by decide), cens_getD _ _ (by decide), cens_getD _ _ (by decide), List.length_append]
  have := cnt_safe_le es ms ms.length (Nat.le_refl _)
  omega
theorem sums_same (es ms : List Ev) (h : es.any (fun e => e.kind == 7) = false) : (cens (es ++ ms) (es ++ ms).length).getD 29 0 = (mix (cens es es.length) (cens ms ms.length) 30).getD 29 0 := by
  rw [mix_getD _ _ _ (by decide), if_pos (by decide), cens_getD _ _ (by decide), cens_getD _ _ (by decide), cens_getD _ _ (by decide), List.length_append]
  have := cnt_safe_eq es ms h ms.length (Nat.le_refl _)
  omega

set_option maxRecDepth 1000000 in
set_option maxHeartbeats 8000000 in
theorem law_censusSums (es ms : List Ev) (A B : Option Addr) (n c m d : Nat) (w : World) (hn : n ≤ 9223372036854775807) (hm : m ≤ 9223372036854775807) (H : Evs w A n es) (K : Evs w B m ms)
    (hst : ∀ e ∈ es, ∀ (i : Nat) (s : ByteArray), e.cells[i]? = some (.string s) → s.size ≤ 140737488351232) (hst2 : ∀ e ∈ ms, ∀ (i : Nat) (s : ByteArray), e.cells[i]? = some (.string s) → s.size ≤ 140737488351232) :
    Calls Try.prog 4 #[.slice A n c, .slice B m d] w fun r w' => r = .returned (.bool true) ∧ Below w.heap.size w w' := by
  obtain ⟨i0, hi0, hz0, hz1, hz2⟩ := info_parts ev_info
  have aw := Lib.hid awake37_any
  have hlen := Lib.hid H.len
  have klen := Lib.hid K.len
  have cF := Lib.hid (few_any es A n c w hn H hst)
  have cG := Lib.hid (fun W (h : Below w.heap.size w W) => few_any ms B m d W hm (K.keep h) hst2)
  have HH := Lib.hid H
  have KK := Lib.hid K
  clear hst hst2 H K
  go_enter Try.func4, Try.ntmps4
  go_wp2_with fail
  refine cF.out.mono ?_
  rintro r w1 ⟨f, hf, rfl, hb⟩
  have hW1 := Lib.hid hb
  clear hb
  cases f with
  | false =>
    go_wp2_with fail
    refine (aw.out w1).mono ?_
    rintro r w2 ⟨rfl, hb⟩
    go_wp2_with fail
    go_ret
    exact ⟨rfl, hW1.out.trans (hb.mono hW1.out.size)⟩
  | true =>
  have h60 := hf rfl
  clear hf
  go_wp2_with fail
  refine (cG.out w1 hW1.out).mono ?_
  rintro r w2 ⟨f, hf, rfl, hb⟩
  have hW2 := Lib.hid (hW1.out.trans (hb.mono hW1.out.size))
  clear hb
  cases f with
  | false =>
    go_wp2_with fail
    refine (aw.out w2).mono ?_
    rintro r w3 ⟨rfl, hb⟩
    go_wp2_with fail
    go_ret
    exact ⟨rfl, hW2.out.trans (hb.mono hW2.out.size)⟩
  | true =>
  have m60 := hf rfl
  clear hf
  go_wp2_with fail
  go_loopw [5, 6, 7] (fun v q i wr => ∃ k : Nat, k ≤ n ∧ i = .int .i64 k ∧ q = .bool ((es.take k).any (fun e => e.kind == 7)) ∧ Hid (OwnE wr w.heap.size v (es.take k)) ∧ Hid (Below w.heap.size w wr)) (fun _ _ i _ => n - (intOf i).toNat)
  case atStart => exact ⟨0, by omega, rfl, rfl, OwnR.nil_ _ _ _ _, hW2⟩
  case round =>
    obtain ⟨k, hk, rfl, rfl, hO, hB⟩ := hrel
    by_cases hlt : k < n
    · as_aux_lemma =>
        obtain ⟨b, off, e, rfl, hb, he, hr⟩ := HH.out.row hlt
        have hr' := rangeAt_keep hr hB.out hb
        have hstep := Lib.hid (take_succ_of he)
        have hany := any_take_succ (fun e : Ev => e.kind == 7) he
        have hle : (es.take k).length ≤ k := List.length_take_le _ _
        have hO1 := Lib.hid (hO.out.keep ((Below.refl wr.heap.size wr).alloc (Nat.le_refl _) (.cells e.cells.toArray 46)))
        have hB1 := Lib.hid (hB.out.alloc hB.out.size (.cells e.cells.toArray 46))
        have hcell := fun W (h : Below w.heap.size w W) => (h.cell (p := ⟨b, off + k * 34, none⟩) hb).trans (Ev.flds hr).1
        have hcell := Lib.hid hcell
        clear hr he
        generalize (es.take k).any (fun e => e.kind == 7) = q at hany ⊢
        cases q <;> cases h7 : (e.kind == 7)
        all_goals
          rw [h7] at hany
          have hany := Lib.hid hany
          go_upto_region 9 with (first
            | (refine wpList_load_at 46 _ rfl rfl b (off + k * 34) rfl e.cells _ hr' Try.underlying46 rfl (by kernel_rfl) ?_)
            | (refine wpList_buildSlice_as 22 46 1 _ rfl rfl i0 (.agg Ev.zero.cells.toArray) e.cells.toArray Try.underlying22 hi0 hz0 (by rw [hz1]; decide) (by rw [hz1]; decide) ?_ ?_
               · rw [hz1]; exact fill_one 34 _ _ (by simp) rfl)
            | (at_builtin
               refine wpList_append_one rfl _ _ 22 rfl 46 i0 (.agg Ev.zero.cells.toArray) 34 400 Try.underlying22 hi0 hz0 hz1 hz2 rfl (by decide) w hB1.out _ _ rfl hO1.out wr.heap.size 1 e.cells rfl ?_ rfl e.one_ ?_ ?_ ?_
               · exact rangeAt_list (heap_new wr (.cells e.cells.toArray 46))
               · simp only [List.length_map]; unfold maxLen; omega
               · simp only [List.length_map]; omega
               intro v' w2 hO2 hB2 _
               have hk2 := hcell.out w2 hB2
               have hO3 := Lib.hid hO2
               have hB3 := Lib.hid hB2
               clear hO2 hB2))
          clear hr'
          go_wp2_with fail
          go_roundw
          case rel => exact ⟨k + 1, by omega, by go_num, by rw [hany.out]; rfl, (by unfold Hid OwnE; rw [hstep.out, List.map_append]; simpa using hO3.out), hB3⟩
          case measure => simp [intOf]; omega
    · have hkn : es.take k = es := List.take_of_length_le (by rw [hlen.out]; omega)
      rw [hkn] at hO ⊢
      obtain ⟨wo, rfl⟩ : ∃ wo : World, wo = wr := ⟨_, rfl⟩
      clear hkn
      obtain ⟨tk, htk⟩ : ∃ q, q = es.any (fun e => e.kind == 7) := ⟨_, rfl⟩
      rw [← htk]
      have htkH := Lib.hid htk
      clear htk
      go_wp2_with fail
      go_loopw [5, 8] (fun v i wr => ∃ j : Nat, j ≤ m ∧ i = .int .i64 j ∧ Hid (OwnE wr w.heap.size v (es ++ ms.take j)) ∧ Hid (Below w.heap.size w wr)) (fun _ i _ => m - (intOf i).toNat)
      case atStart => exact ⟨0, by omega, rfl, by simpa [Hid] using hO.out, hB⟩
      case round =>
        clear hO hB
        obtain ⟨j, hj, rfl, hO, hB⟩ := hrel
        by_cases hjt : j < m
        · as_aux_lemma =>
            obtain ⟨b, off, e, rfl, hb, he, hr⟩ := KK.out.row hjt
            have hr' := rangeAt_keep hr hB.out hb
            have hstep := Lib.hid (take_succ_of he)
            have hle : (es ++ ms.take j).length ≤ 60 + j := by
              have : (ms.take j).length ≤ j := List.length_take_le _ _
              rw [List.length_append, hlen.out]; omega
            have hO1 := Lib.hid (hO.out.keep ((Below.refl wr.heap.size wr).alloc (Nat.le_refl _) (.cells e.cells.toArray 46)))
            have hB1 := Lib.hid (hB.out.alloc hB.out.size (.cells e.cells.toArray 46))
            clear hr he
            go_wp2_with (first
              | (refine wpList_load_at 46 _ rfl rfl b (off + j * 34) rfl e.cells _ hr' Try.underlying46 rfl (by kernel_rfl) ?_)
              | (refine wpList_buildSlice_as 22 46 1 _ rfl rfl i0 (.agg Ev.zero.cells.toArray) e.cells.toArray Try.underlying22 hi0 hz0 (by rw [hz1]; decide) (by rw [hz1]; decide) ?_ ?_
                 · rw [hz1]; exact fill_one 34 _ _ (by simp) rfl)
              | (at_builtin
                 refine wpList_append_one rfl _ _ 22 rfl 46 i0 (.agg Ev.zero.cells.toArray) 34 400 Try.underlying22 hi0 hz0 hz1 hz2 rfl (by decide) w hB1.out _ _ rfl hO1.out wr.heap.size 1 e.cells rfl ?_ rfl e.one_ ?_ ?_ ?_
                 · exact rangeAt_list (heap_new wr (.cells e.cells.toArray 46))
                 · simp only [List.length_map]; unfold maxLen; omega
                 · simp only [List.length_map]; omega
                 intro v' w2 hO2 hB2 _
                 have hO3 := Lib.hid hO2
                 have hB3 := Lib.hid hB2
                 clear hO2 hB2))
            go_roundw
            case rel => exact ⟨j + 1, by omega, by go_num, (by unfold Hid OwnE; rw [hstep.out, ← List.append_assoc, List.map_append (l₂ := [e])]; simpa using hO3.out), hB3⟩
            case measure => simp [intOf]; omega
        · as_aux_lemma =>
            have hkn : ms.take j = ms := List.take_of_length_le (by rw [klen.out]; omega)
            rw [hkn] at hO
            obtain ⟨A1, N, c1, hv, hN, hE1⟩ := hO.out.evs_
            have hE1 := Lib.hid hE1
            have hl1 : N ≤ 120 := by rw [hN.out, List.length_append, hlen.out, klen.out]; omega
            have hv := Lib.hid hv
            clear hkn hO
            rw [hv.out]
            have cA := Lib.hid (of_any (es ++ ms) A1 N c1 wr (by omega) hE1.out)
            have cE := Lib.hid (fun W (h : Below w.heap.size w W) => of_any es A n c W (by omega) (HH.out.keep h))
            have cM := Lib.hid (fun W (h : Below w.heap.size w W) => of_any ms B m d W (by omega) (KK.out.keep h))
            have eN : N = (es ++ ms).length := hN.out
            have bA := cens_bd (es ++ ms) N (by omega)
            have bE := cens_bd es n (by omega)
            have bM := cens_bd ms m (by omega)
            have sle := sums_le es ms
            have sset := sums_eq es ms
            have ssame := sums_same es ms
            rw [← eN, hlen.out, klen.out] at sle sset
            rw [← eN, hlen.out, klen.out, ← htkH.out] at ssame
            have lA := cens_len (es ++ ms) N
            have lE := cens_len es n
            have lM := cens_len ms m
            have cS := fun W => sum_any (cens es n) (cens ms m) W lE lM (fun i => ⟨(bE i).1, by have := (bE i).2; omega⟩) (fun i => ⟨(bM i).1, by have := (bM i).2; omega⟩)
            have lX := mix_len (cens es n) (cens ms m) 30
            have bX : ∀ i, 0 ≤ (mix (cens es n) (cens ms m) 30).getD i 0 ∧ (mix (cens es n) (cens ms m) 30).getD i 0 ≤ 2000 := fun i => by
              by_cases h : i < 30
              · rw [mix_getD _ _ _ h, if_pos h]
                have := bE i
                have := bM i
                omega
              · rw [List.getD_eq_getElem?_getD, List.getElem?_eq_none (by rw [lX]; omega)]
                simp
            generalize cens (es ++ ms) N = X at *
            generalize mix (cens es n) (cens ms m) 30 = Y at *
            have eqX := eql_census lA (fun i => ⟨(bA i).1, by have := (bA i).2; omega⟩)
            have pX := bA 29
            have pY := bX 29
            generalize hx29 : X.getD 29 0 = x29 at *
            generalize hy29 : Y.getD 29 0 = y29 at *
            have eqX := Lib.hid eqX
            have cS := Lib.hid cS
            have sset := Lib.hid sset
            have hx29 := Lib.hid hx29
            have hy29 := Lib.hid hy29
            have ssame := Lib.hid ssame
            clear bA bE bM bX lE lM eN
            go_wp2_with fail
            refine cA.out.mono ?_
            rintro r w2 ⟨rfl, hb⟩
            have hW2 := Lib.hid (hB.out.trans (hb.mono hB.out.size))
            clear hb
            go_wp2_with fail
            refine (cE.out w2 hW2.out).mono ?_
            rintro r w3 ⟨rfl, hb⟩
            have hW3 := Lib.hid (hW2.out.trans (hb.mono hW2.out.size))
            clear hb
            go_wp2_with fail
            refine (cM.out w3 hW3.out).mono ?_
            rintro r w4 ⟨rfl, hb⟩
            have hW4 := Lib.hid (hW3.out.trans (hb.mono hW3.out.size))
            clear hb
            go_wp2_with fail
            refine (cS.out w4).mono ?_
            rintro r w5 ⟨rfl, hb⟩
            have hW5 := Lib.hid (hW4.out.trans (hb.mono hW4.out.size))
            clear hb
            have z0 := World.size_alloc w5 (.cells cenZ 29)
            have hg1 := heap_past (heap_new w5 (.cells cenZ 29)) (.cells cenZ 29)
            have hg2 := heap_new (w5.alloc (.cells (ci X) 29)) (.cells cenZ 29)
            simp only [World.size_alloc] at hg2
            have c1 : CB ((w5.alloc (.cells (ci X) 29)).alloc (.cells (ci Y) 29)) w5.heap.size X := CB.alloc ⟨heap_new w5 _, lA⟩ _
            have c2 : CB ((w5.alloc (.cells (ci X) 29)).alloc (.cells (ci Y) 29)) (w5.heap.size + 1) Y := ⟨by have := heap_new (w5.alloc (.cells (ci X) 29)) (.cells (ci Y) 29); simpa using this, lX⟩
            have hW6 := Lib.hid ((hW5.out.alloc hW5.out.size (.cells (ci X) 29)).alloc (by simp; have := hW5.out.size; omega) (.cells (ci Y) 29))
            have c1 := Lib.hid c1
            have c2 := Lib.hid c2
            have szX := Lib.hid (show (Try.prog.info? 29).map (·.size) = some (ci X).size by unfold ci; rw [List.size_toArray, List.length_map, lA]; kernel_rfl)
            have szY := Lib.hid (show (Try.prog.info? 29).map (·.size) = some (ci Y).size by unfold ci; rw [List.size_toArray, List.length_map, lX]; kernel_rfl)
            have szX2 := Lib.hid (show cenZ.size = (ci X).size by unfold cenZ ci; simp [lA])
            have szY2 := Lib.hid (show cenZ.size = (ci Y).size by unfold cenZ ci; simp [lX])
            clear z0 lA lX
            go_upto_region 15 with (first
              | (refine wpList_alloc_row 29 rfl rfl cenZ cen_zero ?_; try simp only [World.size_alloc])
              | (refine wpList_store_at 29 _ _ rfl rfl w5.heap.size (ci X) rfl rfl 29 cenZ hg1 szX.out szX2.out (ci_one _) ?_
                 rw [setRow_past _ _ _ _ (by simp), setRow_new])
              | (refine wpList_store_at 29 _ _ rfl rfl (w5.heap.size + 1) (ci Y) rfl rfl 29 cenZ hg2 szY.out szY2.out (ci_one _) ?_
                 rw [setRow_at _ _ _ _ _ (by simp)]))
            clear hg1 hg2
            generalize (w5.alloc (.cells (ci X) 29)).alloc (.cells (ci Y) 29) = w6 at c1 c2 hW6 ⊢
            have k1 := (c1.out.cell (i := 29) (by decide)).1
            obtain ⟨k2, k3⟩ := c2.out.cell (i := 29) (by decide)
            rw [hx29.out] at k1
            rw [hy29.out] at k2
            have hfin : tk = true ∨ (tk = false ∧ x29 = y29) := by
              cases tk with
              | true => exact .inl rfl
              | false => exact .inr ⟨rfl, ssame.out rfl⟩
            have d2 := c2.out.put 29 x29
            rw [sset.out] at d2
            have d1 := c1.out.far (g' := w5.heap.size + 1) (by omega) 29 (.int .i64 x29)
            have d0 := hW6.out.setCell (p := ⟨w5.heap.size + 1, 29, none⟩) (by have := hW5.out.size; show w.heap.size ≤ w5.heap.size + 1; omega) (.int .i64 x29)
            have d0 := Lib.hid d0
            have d1 := Lib.hid d1
            have d2 := Lib.hid d2
            rcases hfin with rfl | ⟨rfl, rfl⟩
            all_goals
              go_upto_region 18 with (fail)
              generalize w6.setCell ⟨w5.heap.size + 1, 29, none⟩ (.int .i64 _) = w7 at d0 d1 d2 ⊢
              clear k1 k2 k3
              go_wp2_with fail
              refine (aw.out w7).mono ?_
              rintro r w8 ⟨rfl, hb⟩
              have e1 := rangeAt_list (d1.out.below hb).1
              have e2 := rangeAt_list (d2.out.below hb).1
              have e0 := Lib.hid (d0.out.trans (hb.mono d0.out.size))
              have heqH := Lib.hid (show (binOp .eql 29 (.agg (X.map (Value.int .i64)).toArray) (.agg (X.map (Value.int .i64)).toArray)).run Try.prog w8 = .ok (.bool true) w8 from eqX.out w8)
              have szL := Lib.hid (show (Try.prog.info? 29).map (·.size) = some (X.map (Value.int .i64)).length by have := szX.out; unfold ci at this; rwa [List.size_toArray] at this)
              clear hb
              go_wp2_with (first
                | (refine wpList_load_at 29 (.tmp 9) rfl rfl w5.heap.size 0 rfl (X.map (Value.int .i64)) _ e1 Try.underlying29 rfl szL.out ?_)
                | (refine wpList_load_at 29 (.tmp 10) rfl rfl (w5.heap.size + 1) 0 rfl (X.map (Value.int .i64)) _ e2 Try.underlying29 rfl szL.out ?_)
                | (refine wpList_eql_at 29 29 (.tmp 83) (.tmp 84) rfl rfl (X.map (Value.int .i64)).toArray (X.map (Value.int .i64)).toArray rfl rfl cen_guard true heqH.out ?_))
              go_ret
              exact ⟨rfl, e0.out⟩
end Go.Proofs.Ytbokdbppjiegjaa
