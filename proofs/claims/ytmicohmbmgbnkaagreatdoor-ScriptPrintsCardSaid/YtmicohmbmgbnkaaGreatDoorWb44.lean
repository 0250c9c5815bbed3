/- Few of confs, of steps. (printed by wip/gen_sme.py) -/
import Derived.Test.YtmicohmbmgbnkaaGreatDoorWb42
import Derived.Test.YtmicohmbmgbnkaaGreatDoorWb43
namespace Go.Proofs.YtmicohmbmgbnkaaGreatDoor
open Go Go.RowKit Go.Shelf Go.ChangeShapes Go.WideShapes Go.Deep

structure FewC (vs : List PV) : Prop where
  pr : ∀ (i : Nat) l, 8 ≤ i → i < 16 → vs[i]? = some (.texts l) → l.length ≤ 20 ∧ ∀ s ∈ l, s.length ≤ 100
  al : ∀ l, vs[16]? = some (.texts l) → l.length ≤ 20 ∧ ∀ s ∈ l, s.length ≤ 300
  gr : ∀ l, vs[18]? = some (.grants l) → l.length ≤ 20 ∧ ∀ g ∈ l, g.user.length ≤ 300
  ks : ∀ l, vs[22]? = some (.nums l) → l.length ≤ 20
  tx : ∀ (i : Nat) s, i = 6 ∨ i = 7 ∨ i = 21 → vs[i]? = some (.text s) → s.length ≤ 300
theorem fewL_of {l : List (List UInt8)} (h : fewL (l.map bs) = true) : l.length ≤ 20 ∧ ∀ s ∈ l, s.length ≤ 100 := by
  unfold fewL at h
  rw [Bool.and_eq_true, decide_eq_true_iff, List.all_eq_true, List.length_map] at h
  exact ⟨h.1, fun s hs => by have := h.2 (bs s) (List.mem_map_of_mem hs); rw [decide_eq_true_iff, bs_size] at this; exact this⟩
section
variable {W : World} {kd : Int} {vs : List PV} {cs : List Value}
theorem ty_pv (hty : TyVs keyT vs) (i : Nat) (hi : i < 26) {g : Tag} (hk : (keyT[i]?).map (fun p : List UInt8 × Tag => p.2) = some g) : ∃ v, vs[i]? = some v ∧ TyPV g v := by
  have hlv : i < vs.length := by rw [hty.len, keyT_len]; exact hi
  obtain ⟨kg, hkg, hg⟩ := map_some hk
  refine ⟨vs[i], List.getElem?_eq_getElem hlv, ?_⟩
  rw [← hg]
  exact hty.at hkg (List.getElem?_eq_getElem hlv)
theorem text_ty (hty : TyVs keyT vs) (i : Nat) (hi : i < 26) (hk : (keyT[i]?).map (fun p : List UInt8 × Tag => p.2) = some .text) : ∃ n, vs[i]? = some (.text n) := by
  obtain ⟨v, hv, hp⟩ := ty_pv hty i hi hk
  cases v <;> first | exact absurd hp id | exact ⟨_, hv⟩
theorem texts_ty (hty : TyVs keyT vs) (i : Nat) (hi : i < 26) (hk : (keyT[i]?).map (fun p : List UInt8 × Tag => p.2) = some .texts) : ∃ n, vs[i]? = some (.texts n) := by
  obtain ⟨v, hv, hp⟩ := ty_pv hty i hi hk
  cases v <;> first | exact absurd hp id | exact ⟨_, hv⟩
theorem nums_ty (hty : TyVs keyT vs) (i : Nat) (hi : i < 26) (hk : (keyT[i]?).map (fun p : List UInt8 × Tag => p.2) = some .nums) : ∃ n, vs[i]? = some (.nums n) := by
  obtain ⟨v, hv, hp⟩ := ty_pv hty i hi hk
  cases v <;> first | exact absurd hp id | exact ⟨_, hv⟩
theorem grants_ty (hty : TyVs keyT vs) : ∃ l, vs[18]? = some (.grants l) := by
  obtain ⟨v, hv, hp⟩ := ty_pv hty 18 (by decide) (g := .grants) rfl
  cases v <;> first | exact absurd hp id | exact ⟨_, hv⟩
end
set_option maxRecDepth 100000 in
set_option maxHeartbeats 8000000 in
theorem few25_any (cs : List Value) (kd : Int) (vs : List PV) (V : World) (hS : StC V kd vs cs) (hty : TyVs keyT vs) (hbg : ∀ v ∈ vs, BigPV v) :
    Calls Tryz.prog 39 #[.agg ((cs.drop 2).take 23).toArray] V fun r w' => ∃ b, r = .returned (.bool b) ∧ Below V.heap.size V w' ∧ (b = true → FewC vs) := by
  obtain ⟨sw, hsw⟩ := text_ty hty 6 (by decide) rfl
  obtain ⟨cm, hcm⟩ := text_ty hty 7 (by decide) rfl
  obtain ⟨us, hus⟩ := text_ty hty 21 (by decide) rfl
  obtain ⟨gr, hgr⟩ := grants_ty hty
  obtain ⟨ks, hks⟩ := nums_ty hty 22 (by decide) rfl
  obtain ⟨al, hal⟩ := texts_ty hty 16 (by decide) rfl
  obtain ⟨l0, hl0⟩ := texts_ty hty 8 (by decide) rfl
  obtain ⟨l1, hl1⟩ := texts_ty hty 9 (by decide) rfl
  obtain ⟨l2, hl2⟩ := texts_ty hty 10 (by decide) rfl
  obtain ⟨l3, hl3⟩ := texts_ty hty 11 (by decide) rfl
  obtain ⟨l4, hl4⟩ := texts_ty hty 12 (by decide) rfl
  obtain ⟨l5, hl5⟩ := texts_ty hty 13 (by decide) rfl
  obtain ⟨l6, hl6⟩ := texts_ty hty 14 (by decide) rfl
  obtain ⟨l7, hl7⟩ := texts_ty hty 15 (by decide) rfl
  have ssw : cs[3]? = some (.string (bs sw)) := cell_of hS hsw rfl (fun z h => by have e : z = _ := h; rw [e]; rfl)
  have scm : cs[4]? = some (.string (bs cm)) := cell_of hS hcm rfl (fun z h => by have e : z = _ := h; rw [e]; rfl)
  have sus : cs[18]? = some (.string (bs us)) := cell_of hS hus rfl (fun z h => by have e : z = _ := h; rw [e]; rfl)
  obtain ⟨sAg, scg, sgr, sg1, sg2, sgR⟩ := slice_of (K := 2) (zs := gr.map GrX.row) hS hgr rfl (fun z h => h)
  obtain ⟨sAk, sck, sks, sk1, sk2, skR⟩ := slice_of (K := 1) (zs := ks.map iv) hS hks rfl (fun z h => h)
  obtain ⟨sAa, sca, sal, sa1, sa2, saR⟩ := slice_of (K := 1) (zs := al.map fun s => sv (bs s)) hS hal rfl (fun z h => h)
  obtain ⟨sA0, sc0, sl0, sx0, sy0, sR0⟩ := slice_of (K := 1) (zs := l0.map fun s => sv (bs s)) hS hl0 rfl (fun z h => h)
  obtain ⟨sA1, sc1, sl1, sx1, sy1, sR1⟩ := slice_of (K := 1) (zs := l1.map fun s => sv (bs s)) hS hl1 rfl (fun z h => h)
  obtain ⟨sA2, sc2, sl2, sx2, sy2, sR2⟩ := slice_of (K := 1) (zs := l2.map fun s => sv (bs s)) hS hl2 rfl (fun z h => h)
  obtain ⟨sA3, sc3, sl3, sx3, sy3, sR3⟩ := slice_of (K := 1) (zs := l3.map fun s => sv (bs s)) hS hl3 rfl (fun z h => h)
  obtain ⟨sA4, sc4, sl4, sx4, sy4, sR4⟩ := slice_of (K := 1) (zs := l4.map fun s => sv (bs s)) hS hl4 rfl (fun z h => h)
  obtain ⟨sA5, sc5, sl5, sx5, sy5, sR5⟩ := slice_of (K := 1) (zs := l5.map fun s => sv (bs s)) hS hl5 rfl (fun z h => h)
  obtain ⟨sA6, sc6, sl6, sx6, sy6, sR6⟩ := slice_of (K := 1) (zs := l6.map fun s => sv (bs s)) hS hl6 rfl (fun z h => h)
  obtain ⟨sA7, sc7, sl7, sx7, sy7, sR7⟩ := slice_of (K := 1) (zs := l7.map fun s => sv (bs s)) hS hl7 rfl (fun z h => h)
  simp only [List.length_map] at sgr sg1 sgR sks sk1 skR sal sa1 saR sl0 sl1 sl2 sl3 sl4 sl5 sl6 sl7 sx0 sx1 sx2 sx3 sx4 sx5 sx6 sx7 sR0 sR1 sR2 sR3 sR4 sR5 sR6 sR7
  have sPf : Pf V [.slice sA0 l0.length sc0, .slice sA1 l1.length sc1, .slice sA2 l2.length sc2, .slice sA3 l3.length sc3, .slice sA4 l4.length sc4, .slice sA5 l5.length sc5, .slice sA6 l6.length sc6, .slice sA7 l7.length sc7] [l0.map bs, l1.map bs, l2.map bs, l3.map bs, l4.map bs, l5.map bs, l6.map bs, l7.map bs] := ⟨rfl, rfl, fun i v l h1 h2 => by
    match i with
    | 0 => injection h1 with h1; injection h2 with h2; subst h1 h2; exact strV_of sx0 sy0 sR0
    | 1 => injection h1 with h1; injection h2 with h2; subst h1 h2; exact strV_of sx1 sy1 sR1
    | 2 => injection h1 with h1; injection h2 with h2; subst h1 h2; exact strV_of sx2 sy2 sR2
    | 3 => injection h1 with h1; injection h2 with h2; subst h1 h2; exact strV_of sx3 sy3 sR3
    | 4 => injection h1 with h1; injection h2 with h2; subst h1 h2; exact strV_of sx4 sy4 sR4
    | 5 => injection h1 with h1; injection h2 with h2; subst h1 h2; exact strV_of sx5 sy5 sR5
    | 6 => injection h1 with h1; injection h2 with h2; subst h1 h2; exact strV_of sx6 sy6 sR6
    | 7 => injection h1 with h1; injection h2 with h2; subst h1 h2; exact strV_of sx7 sy7 sR7
    | i + 8 => cases h1⟩
  have hfm : ∀ (i : Nat) x, i < 23 → cs[2 + i]? = some x → ((cs.drop 2).take 23)[i]? = some x := fun i x hi h => by rw [List.getElem?_take, if_pos hi, List.getElem?_drop]; exact h
  have hB1 := below_new V (.cells ((cs.drop 2).take 23).toArray 41)
  have hF : Row (V.alloc (.cells ((cs.drop 2).take 23).toArray 41)) V.heap.size 41 ((cs.drop 2).take 23) := heap_new V _
  have c15 := few15_any [.slice sA0 l0.length sc0, .slice sA1 l1.length sc1, .slice sA2 l2.length sc2, .slice sA3 l3.length sc3, .slice sA4 l4.length sc4, .slice sA5 l5.length sc5, .slice sA6 l6.length sc6, .slice sA7 l7.length sc7] [l0.map bs, l1.map bs, l2.map bs, l3.map bs, l4.map bs, l5.map bs, l6.map bs, l7.map bs] (V.alloc (.cells ((cs.drop 2).take 23).toArray 41)) (sPf.keep hB1) (fun l hl s hs => by
    simp only [List.mem_cons, List.not_mem_nil, or_false] at hl
    rcases hl with rfl | rfl | rfl | rfl | rfl | rfl | rfl | rfl
    · obtain ⟨t, ht, rfl⟩ := List.mem_map.1 hs; rw [bs_size]; exact hbg _ (List.mem_of_getElem? hl0) t ht
    · obtain ⟨t, ht, rfl⟩ := List.mem_map.1 hs; rw [bs_size]; exact hbg _ (List.mem_of_getElem? hl1) t ht
    · obtain ⟨t, ht, rfl⟩ := List.mem_map.1 hs; rw [bs_size]; exact hbg _ (List.mem_of_getElem? hl2) t ht
    · obtain ⟨t, ht, rfl⟩ := List.mem_map.1 hs; rw [bs_size]; exact hbg _ (List.mem_of_getElem? hl3) t ht
    · obtain ⟨t, ht, rfl⟩ := List.mem_map.1 hs; rw [bs_size]; exact hbg _ (List.mem_of_getElem? hl4) t ht
    · obtain ⟨t, ht, rfl⟩ := List.mem_map.1 hs; rw [bs_size]; exact hbg _ (List.mem_of_getElem? hl5) t ht
    · obtain ⟨t, ht, rfl⟩ := List.mem_map.1 hs; rw [bs_size]; exact hbg _ (List.mem_of_getElem? hl6) t ht
    · obtain ⟨t, ht, rfl⟩ := List.mem_map.1 hs; rw [bs_size]; exact hbg _ (List.mem_of_getElem? hl7) t ht)
  have p8 : (V.alloc (.cells ((cs.drop 2).take 23).toArray 41)).rangeAt V.heap.size 3 [.slice sA0 l0.length sc0, .slice sA1 l1.length sc1, .slice sA2 l2.length sc2, .slice sA3 l3.length sc3, .slice sA4 l4.length sc4, .slice sA5 l5.length sc5, .slice sA6 l6.length sc6, .slice sA7 l7.length sc7] := hF.mid (fun j x hx => by
    match j with
    | 0 => injection hx with hx; subst hx; exact hfm 3 _ (by decide) sl0
    | 1 => injection hx with hx; subst hx; exact hfm 4 _ (by decide) sl1
    | 2 => injection hx with hx; subst hx; exact hfm 5 _ (by decide) sl2
    | 3 => injection hx with hx; subst hx; exact hfm 6 _ (by decide) sl3
    | 4 => injection hx with hx; subst hx; exact hfm 7 _ (by decide) sl4
    | 5 => injection hx with hx; subst hx; exact hfm 8 _ (by decide) sl5
    | 6 => injection hx with hx; subst hx; exact hfm 9 _ (by decide) sl6
    | 7 => injection hx with hx; subst hx; exact hfm 10 _ (by decide) sl7
    | j + 8 => cases hx)
  have hlt := hF.lt
  have hCl := Lib.hid (fun W' (h : Below (V.alloc (.cells ((cs.drop 2).take 23).toArray 41)).heap.size (V.alloc (.cells ((cs.drop 2).take 23).toArray 41)) W') => And.intro ((h.cell (p := ⟨V.heap.size, 1, none⟩) hlt).trans (hF.cell (hfm 1 _ (by decide) ssw))) (And.intro ((h.cell (p := ⟨V.heap.size, 2, none⟩) hlt).trans (hF.cell (hfm 2 _ (by decide) scm))) (And.intro ((h.cell (p := ⟨V.heap.size, 16, none⟩) hlt).trans (hF.cell (hfm 16 _ (by decide) sus))) (And.intro ((h.cell (p := ⟨V.heap.size, 11, none⟩) hlt).trans (hF.cell (hfm 11 _ (by decide) sal))) (And.intro ((h.cell (p := ⟨V.heap.size, 13, none⟩) hlt).trans (hF.cell (hfm 13 _ (by decide) sgr))) ((h.cell (p := ⟨V.heap.size, 17, none⟩) hlt).trans (hF.cell (hfm 17 _ (by decide) sks))))))))
  have hEnd : fewP [l0.map bs, l1.map bs, l2.map bs, l3.map bs, l4.map bs, l5.map bs, l6.map bs, l7.map bs] = true → al.length ≤ 20 → gr.length ≤ 20 → ks.length ≤ 20 → sw.length ≤ 300 → cm.length ≤ 300 → us.length ≤ 300 → (∀ s ∈ al, s.length ≤ 300) → (∀ g ∈ gr, g.user.length ≤ 300) → FewC vs := by
    intro h1 h2 h3 h4 h5 h6 h7 h8 h9
    have hq : ∀ l ∈ [l0.map bs, l1.map bs, l2.map bs, l3.map bs, l4.map bs, l5.map bs, l6.map bs, l7.map bs], fewL l = true := List.all_eq_true.1 h1
    refine ⟨fun i l hi1 hi2 hl => ?_, fun l hl => ?_, fun l hl => ?_, fun l hl => ?_, fun i s hi hs => ?_⟩
    · have hi : i = 8 ∨ i = 9 ∨ i = 10 ∨ i = 11 ∨ i = 12 ∨ i = 13 ∨ i = 14 ∨ i = 15 := by omega
      rcases hi with rfl | rfl | rfl | rfl | rfl | rfl | rfl | rfl
      · rw [hl0] at hl; injection hl with hl; injection hl with hl; subst hl; exact fewL_of (hq _ (by simp))
      · rw [hl1] at hl; injection hl with hl; injection hl with hl; subst hl; exact fewL_of (hq _ (by simp))
      · rw [hl2] at hl; injection hl with hl; injection hl with hl; subst hl; exact fewL_of (hq _ (by simp))
      · rw [hl3] at hl; injection hl with hl; injection hl with hl; subst hl; exact fewL_of (hq _ (by simp))
      · rw [hl4] at hl; injection hl with hl; injection hl with hl; subst hl; exact fewL_of (hq _ (by simp))
      · rw [hl5] at hl; injection hl with hl; injection hl with hl; subst hl; exact fewL_of (hq _ (by simp))
      · rw [hl6] at hl; injection hl with hl; injection hl with hl; subst hl; exact fewL_of (hq _ (by simp))
      · rw [hl7] at hl; injection hl with hl; injection hl with hl; subst hl; exact fewL_of (hq _ (by simp))
    · rw [hal] at hl; injection hl with hl; injection hl with hl; subst hl; exact ⟨h2, h8⟩
    · rw [hgr] at hl; injection hl with hl; injection hl with hl; subst hl; exact ⟨h3, h9⟩
    · rw [hks] at hl; injection hl with hl; injection hl with hl; subst hl; exact h4
    · rcases hi with rfl | rfl | rfl
      · rw [hsw] at hs; injection hs with hs; injection hs with hs; subst hs; exact h5
      · rw [hcm] at hs; injection hs with hs; injection hs with hs; subst hs; exact h6
      · rw [hus] at hs; injection hs with hs; injection hs with hs; subst hs; exact h7
  have b5 : sw.length ≤ 9223372036854775807 := hbg _ (List.mem_of_getElem? hsw)
  have b6 : cm.length ≤ 9223372036854775807 := hbg _ (List.mem_of_getElem? hcm)
  have b7 : us.length ≤ 9223372036854775807 := hbg _ (List.mem_of_getElem? hus)
  have b8 : ∀ s ∈ al, s.length ≤ 9223372036854775807 := hbg _ (List.mem_of_getElem? hal)
  have b9 : ∀ g ∈ gr, g.user.length ≤ 9223372036854775807 := (hbg _ (List.mem_of_getElem? hgr)).1
  have hzw : (bs sw).size = sw.length := bs_size _
  have hzc : (bs cm).size = cm.length := bs_size _
  have hzu : (bs us).size = us.length := bs_size _
  generalize bs sw = ysw at *
  generalize bs cm = ycm at *
  generalize bs us = yus at *
  rw [← hzw] at hEnd b5
  rw [← hzc] at hEnd b6
  rw [← hzu] at hEnd b7
  generalize fewP [l0.map bs, l1.map bs, l2.map bs, l3.map bs, l4.map bs, l5.map bs, l6.map bs, l7.map bs] = q at *
  obtain ⟨na, hna⟩ : ∃ na, al.length = na := ⟨_, rfl⟩
  obtain ⟨ng, hng⟩ : ∃ ng, gr.length = ng := ⟨_, rfl⟩
  obtain ⟨nk, hnk⟩ : ∃ nk, ks.length = nk := ⟨_, rfl⟩
  rw [hna, hng, hnk] at hCl hEnd
  rw [hna] at saR sa1
  rw [hng] at sgR sg1
  rw [hnk] at sk1
  have saR9 := Lib.hid (saR.keep hB1)
  have sgR9 := Lib.hid (sgR.keep hB1)
  obtain ⟨U1, hU1⟩ : ∃ x, V.alloc (.cells ((cs.drop 2).take 23).toArray 41) = x := ⟨_, rfl⟩
  rw [hU1] at hB1 c15 p8 hlt hCl saR9 sgR9
  replace hB1 := Lib.hid hB1
  replace c15 := Lib.hid c15
  replace hEnd := Lib.hid hEnd
  replace hna := Lib.hid hna
  replace hng := Lib.hid hng
  replace b8 := Lib.hid b8
  replace b9 := Lib.hid b9
  clear hzw hzc hzu hS hty hbg hfm hF sPf sgR saR skR hnk sR0 sR1 sR2 sR3 sR4 sR5 sR6 sR7
  go_enter Tryz.func39, Tryz.ntmps39
  go_upto_region 1 with (first
    | (refine wpList_box_row 41 _ rfl rfl (List.toArray _) rfl ?_))
  try rw [hU1]
  clear hU1
  cases q with
  | false =>
    go_wp2_with (first
      | (refine wpList_box_row 41 _ rfl rfl (List.toArray _) rfl ?_)
      | (refine wpList_load_at 35 _ rfl rfl V.heap.size 3 rfl [.slice sA0 l0.length sc0, .slice sA1 l1.length sc1, .slice sA2 l2.length sc2, .slice sA3 l3.length sc3, .slice sA4 l4.length sc4, .slice sA5 l5.length sc5, .slice sA6 l6.length sc6, .slice sA7 l7.length sc7] _ p8 Tryz.underlying35 rfl (by kernel_rfl) ?_)
      | (go_at_call 56; (with_reducible refine c15.out.mono ?_); rintro r w3 ⟨rfl, hb3⟩
         obtain ⟨k1, k2, k16, k11, k13, k17⟩ := hCl.out w3 hb3
         have hB3 := Lib.hid (hB1.out.trans (hb3.mono hB1.out.size))
         replace hb3 := Lib.hid hb3))
    go_ret
    exact ⟨false, rfl, hB3.out, fun h => by cases h⟩
  | true =>
    by_cases h1 : 20 < na
    · have k19 : (20 : Int) < (na : Int) := by omega
      go_wp2_with (first
        | (refine wpList_box_row 41 _ rfl rfl (List.toArray _) rfl ?_)
        | (refine wpList_load_at 35 _ rfl rfl V.heap.size 3 rfl [.slice sA0 l0.length sc0, .slice sA1 l1.length sc1, .slice sA2 l2.length sc2, .slice sA3 l3.length sc3, .slice sA4 l4.length sc4, .slice sA5 l5.length sc5, .slice sA6 l6.length sc6, .slice sA7 l7.length sc7] _ p8 Tryz.underlying35 rfl (by kernel_rfl) ?_)
        | (go_at_call 56; (with_reducible refine c15.out.mono ?_); rintro r w3 ⟨rfl, hb3⟩
           obtain ⟨k1, k2, k16, k11, k13, k17⟩ := hCl.out w3 hb3
           have hB3 := Lib.hid (hB1.out.trans (hb3.mono hB1.out.size))
           replace hb3 := Lib.hid hb3))
      go_ret
      exact ⟨false, rfl, hB3.out, fun h => by cases h⟩
    have k19 : ¬ (20 : Int) < (na : Int) := by omega
    by_cases h2 : 20 < ng
    · have k29 : (20 : Int) < (ng : Int) := by omega
      go_wp2_with (first
        | (refine wpList_box_row 41 _ rfl rfl (List.toArray _) rfl ?_)
        | (refine wpList_load_at 35 _ rfl rfl V.heap.size 3 rfl [.slice sA0 l0.length sc0, .slice sA1 l1.length sc1, .slice sA2 l2.length sc2, .slice sA3 l3.length sc3, .slice sA4 l4.length sc4, .slice sA5 l5.length sc5, .slice sA6 l6.length sc6, .slice sA7 l7.length sc7] _ p8 Tryz.underlying35 rfl (by kernel_rfl) ?_)
        | (go_at_call 56; (with_reducible refine c15.out.mono ?_); rintro r w3 ⟨rfl, hb3⟩
           obtain ⟨k1, k2, k16, k11, k13, k17⟩ := hCl.out w3 hb3
           have hB3 := Lib.hid (hB1.out.trans (hb3.mono hB1.out.size))
           replace hb3 := Lib.hid hb3))
      go_ret
      exact ⟨false, rfl, hB3.out, fun h => by cases h⟩
    have k29 : ¬ (20 : Int) < (ng : Int) := by omega
    by_cases h3 : 20 < nk
    · have k39 : (20 : Int) < (nk : Int) := by omega
      go_wp2_with (first
        | (refine wpList_box_row 41 _ rfl rfl (List.toArray _) rfl ?_)
        | (refine wpList_load_at 35 _ rfl rfl V.heap.size 3 rfl [.slice sA0 l0.length sc0, .slice sA1 l1.length sc1, .slice sA2 l2.length sc2, .slice sA3 l3.length sc3, .slice sA4 l4.length sc4, .slice sA5 l5.length sc5, .slice sA6 l6.length sc6, .slice sA7 l7.length sc7] _ p8 Tryz.underlying35 rfl (by kernel_rfl) ?_)
        | (go_at_call 56; (with_reducible refine c15.out.mono ?_); rintro r w3 ⟨rfl, hb3⟩
           obtain ⟨k1, k2, k16, k11, k13, k17⟩ := hCl.out w3 hb3
           have hB3 := Lib.hid (hB1.out.trans (hb3.mono hB1.out.size))
           replace hb3 := Lib.hid hb3))
      go_ret
      exact ⟨false, rfl, hB3.out, fun h => by cases h⟩
    have k39 : ¬ (20 : Int) < (nk : Int) := by omega
    by_cases h4 : 300 < ysw.size
    · have k49 : (300 : Int) < (ysw.size : Int) := by omega
      go_wp2_with (first
        | (refine wpList_box_row 41 _ rfl rfl (List.toArray _) rfl ?_)
        | (refine wpList_load_at 35 _ rfl rfl V.heap.size 3 rfl [.slice sA0 l0.length sc0, .slice sA1 l1.length sc1, .slice sA2 l2.length sc2, .slice sA3 l3.length sc3, .slice sA4 l4.length sc4, .slice sA5 l5.length sc5, .slice sA6 l6.length sc6, .slice sA7 l7.length sc7] _ p8 Tryz.underlying35 rfl (by kernel_rfl) ?_)
        | (go_at_call 56; (with_reducible refine c15.out.mono ?_); rintro r w3 ⟨rfl, hb3⟩
           obtain ⟨k1, k2, k16, k11, k13, k17⟩ := hCl.out w3 hb3
           have hB3 := Lib.hid (hB1.out.trans (hb3.mono hB1.out.size))
           replace hb3 := Lib.hid hb3))
      go_ret
      exact ⟨false, rfl, hB3.out, fun h => by cases h⟩
    have k49 : ¬ (300 : Int) < (ysw.size : Int) := by omega
    by_cases h5 : 300 < ycm.size
    · have k59 : (300 : Int) < (ycm.size : Int) := by omega
      go_wp2_with (first
        | (refine wpList_box_row 41 _ rfl rfl (List.toArray _) rfl ?_)
        | (refine wpList_load_at 35 _ rfl rfl V.heap.size 3 rfl [.slice sA0 l0.length sc0, .slice sA1 l1.length sc1, .slice sA2 l2.length sc2, .slice sA3 l3.length sc3, .slice sA4 l4.length sc4, .slice sA5 l5.length sc5, .slice sA6 l6.length sc6, .slice sA7 l7.length sc7] _ p8 Tryz.underlying35 rfl (by kernel_rfl) ?_)
        | (go_at_call 56; (with_reducible refine c15.out.mono ?_); rintro r w3 ⟨rfl, hb3⟩
           obtain ⟨k1, k2, k16, k11, k13, k17⟩ := hCl.out w3 hb3
           have hB3 := Lib.hid (hB1.out.trans (hb3.mono hB1.out.size))
           replace hb3 := Lib.hid hb3))
      go_ret
      exact ⟨false, rfl, hB3.out, fun h => by cases h⟩
    have k59 : ¬ (300 : Int) < (ycm.size : Int) := by omega
    by_cases h6 : 300 < yus.size
    · have k69 : (300 : Int) < (yus.size : Int) := by omega
      go_wp2_with (first
        | (refine wpList_box_row 41 _ rfl rfl (List.toArray _) rfl ?_)
        | (refine wpList_load_at 35 _ rfl rfl V.heap.size 3 rfl [.slice sA0 l0.length sc0, .slice sA1 l1.length sc1, .slice sA2 l2.length sc2, .slice sA3 l3.length sc3, .slice sA4 l4.length sc4, .slice sA5 l5.length sc5, .slice sA6 l6.length sc6, .slice sA7 l7.length sc7] _ p8 Tryz.underlying35 rfl (by kernel_rfl) ?_)
        | (go_at_call 56; (with_reducible refine c15.out.mono ?_); rintro r w3 ⟨rfl, hb3⟩
           obtain ⟨k1, k2, k16, k11, k13, k17⟩ := hCl.out w3 hb3
           have hB3 := Lib.hid (hB1.out.trans (hb3.mono hB1.out.size))
           replace hb3 := Lib.hid hb3))
      go_ret
      exact ⟨false, rfl, hB3.out, fun h => by cases h⟩
    have k69 : ¬ (300 : Int) < (yus.size : Int) := by omega
    go_wp2_with (first
      | (refine wpList_box_row 41 _ rfl rfl (List.toArray _) rfl ?_)
      | (refine wpList_load_at 35 _ rfl rfl V.heap.size 3 rfl [.slice sA0 l0.length sc0, .slice sA1 l1.length sc1, .slice sA2 l2.length sc2, .slice sA3 l3.length sc3, .slice sA4 l4.length sc4, .slice sA5 l5.length sc5, .slice sA6 l6.length sc6, .slice sA7 l7.length sc7] _ p8 Tryz.underlying35 rfl (by kernel_rfl) ?_)
      | (go_at_call 56; (with_reducible refine c15.out.mono ?_); rintro r w3 ⟨rfl, hb3⟩
         obtain ⟨k1, k2, k16, k11, k13, k17⟩ := hCl.out w3 hb3
         have hB3 := Lib.hid (hB1.out.trans (hb3.mono hB1.out.size))
         replace hb3 := Lib.hid hb3))
    go_loopw [3] (fun jv wr => ∃ i : Nat, i ≤ na ∧ jv = .int .i64 i ∧ Hid (∀ (j : Nat) s, j < i → al[j]? = some s → s.length ≤ 300) ∧ Hid (Below U1.heap.size U1 wr)) (fun jv _ => na - (intOf jv).toNat)
    case atStart => exact ⟨0, Nat.zero_le _, rfl, Lib.hid (fun j s h => absurd h (Nat.not_lt_zero _)), hb3⟩
    case round =>
      obtain ⟨i, hi, rfl, hA9, hBr⟩ := hrel
      obtain ⟨k1, k2, k16, k11, k13, k17⟩ := hCl.out wr hBr.out
      have hBV := Lib.hid (hB1.out.trans (hBr.out.mono hB1.out.size))
      by_cases hlt2 : i < na
      · have hlt' : (i : Int) < (na : Int) := by omega
        have h0i : (0 : Int) ≤ (i : Int) := Int.natCast_nonneg _
        obtain ⟨b2, off2, z2, rfl, hb2, hz2, _, hr2⟩ := Rws.row (saR9.out.keep hBr.out) hlt2
        obtain ⟨x, hx, rfl⟩ := map_at hz2
        have hcl := hr2 0 _ rfl
        rw [Nat.mul_one, Nat.add_zero] at hcl
        have hbx := b8.out x (List.mem_of_getElem? hx)
        have hzx : (bs x).size = x.length := bs_size _
        have hnx : Hid (x.length ≤ 300 → ∀ (j : Nat) s, j < i + 1 → al[j]? = some s → s.length ≤ 300) := Lib.hid (fun h j s hj hs => by
          by_cases e : j = i
          · rw [e, hx] at hs; injection hs with hs; rw [← hs]; exact h
          · exact hA9.out j s (by omega) hs)
        rw [← hzx] at hnx hbx
        generalize bs x = yx at *
        clear hz2 hx hr2 hzx hA9
        by_cases hx3 : 300 < yx.size
        · have kx : (300 : Int) < (yx.size : Int) := by omega
          go_wp2_with fail
          go_ret
          exact ⟨false, rfl, hBV.out, fun h => by cases h⟩
        · have kx : ¬ (300 : Int) < (yx.size : Int) := by omega
          have hn2 := Lib.hid (hnx.out (by omega))
          clear hnx
          go_wp2_with fail
          go_roundw
          case rel => exact ⟨i + 1, by omega, by go_num, hn2, hBr⟩
          case measure => simp [intOf]; omega
      · obtain rfl : i = na := by omega
        have hA8 : Hid (∀ s ∈ al, s.length ≤ 300) := Lib.hid (fun s hs => by
          obtain ⟨j, hj, e⟩ := List.getElem_of_mem hs
          exact hA9.out j s (by have := hna.out; omega) (by rw [List.getElem?_eq_getElem hj, e]))
        have hb4 := hBr
        clear hA9 hBV hB3 hb3
        generalize wr = wn at *
        go_wp2_with fail
        go_loopw [4] (fun jv wr => ∃ i : Nat, i ≤ ng ∧ jv = .int .i64 i ∧ Hid (∀ (j : Nat) g, j < i → gr[j]? = some g → g.user.length ≤ 300) ∧ Hid (Below U1.heap.size U1 wr)) (fun jv _ => ng - (intOf jv).toNat)
        case atStart => exact ⟨0, Nat.zero_le _, rfl, Lib.hid (fun j s h => absurd h (Nat.not_lt_zero _)), hb4⟩
        case round =>
          obtain ⟨i, hi, rfl, hA9, hBr⟩ := hrel
          obtain ⟨k1, k2, k16, k11, k13, k17⟩ := hCl.out wr hBr.out
          have hBV := Lib.hid (hB1.out.trans (hBr.out.mono hB1.out.size))
          by_cases hlt2 : i < ng
          · have hlt' : (i : Int) < (ng : Int) := by omega
            have h0i : (0 : Int) ≤ (i : Int) := Int.natCast_nonneg _
            obtain ⟨b2, off2, z2, rfl, hb2, hz2, _, hr2⟩ := Rws.row (sgR9.out.keep hBr.out) hlt2
            obtain ⟨x, hx, rfl⟩ := map_at hz2
            have hcl := hr2 0 _ rfl
            rw [Nat.add_zero] at hcl
            have hbx := b9.out x (List.mem_of_getElem? hx)
            have hzx : (bs x.user).size = x.user.length := bs_size _
            have hnx : Hid (x.user.length ≤ 300 → ∀ (j : Nat) s, j < i + 1 → gr[j]? = some s → s.user.length ≤ 300) := Lib.hid (fun h j s hj hs => by
              by_cases e : j = i
              · rw [e, hx] at hs; injection hs with hs; rw [← hs]; exact h
              · exact hA9.out j s (by omega) hs)
            rw [← hzx] at hnx hbx
            generalize bs x.user = yx at *
            clear hz2 hx hr2 hzx hA9
            by_cases hx3 : 300 < yx.size
            · have kx : (300 : Int) < (yx.size : Int) := by omega
              go_wp2_with fail
              go_ret
              exact ⟨false, rfl, hBV.out, fun h => by cases h⟩
            · have kx : ¬ (300 : Int) < (yx.size : Int) := by omega
              have hn2 := Lib.hid (hnx.out (by omega))
              clear hnx
              go_wp2_with fail
              go_roundw
              case rel => exact ⟨i + 1, by omega, by go_num, hn2, hBr⟩
              case measure => simp [intOf]; omega
          · obtain rfl : i = ng := by omega
            have hA7 : ∀ g ∈ gr, g.user.length ≤ 300 := fun s hs => by
              obtain ⟨j, hj, e⟩ := List.getElem_of_mem hs
              exact hA9.out j s (by have := hng.out; omega) (by rw [List.getElem?_eq_getElem hj, e])
            have hF9 := Lib.hid (hEnd.out (by trivial) (by omega) (by omega) (by omega) (by omega) (by omega) (by omega) hA8.out hA7)
            clear hA9 hA7
            go_wp2_with fail
            go_ret
            exact ⟨true, rfl, hBV.out, fun _ => hF9.out⟩
end Go.Proofs.YtmicohmbmgbnkaaGreatDoor
