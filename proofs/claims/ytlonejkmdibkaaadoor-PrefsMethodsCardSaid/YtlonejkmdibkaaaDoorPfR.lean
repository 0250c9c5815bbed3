/- Prefs: whether two are the same. -/
import Derived.Test.YtlonejkmdibkaaaDoorPfO
import Derived.Deep.RegionHeld3
import Derived.Deep.QuietTactic
import Derived.BigQuiet
namespace Go.Proofs.YtlonejkmdibkaaaDoor
open Go.RowKit

theorem equalS_any (ss ts : List ByteArray) (A B : Option Addr) (n c m d : Nat) (w : World) (hn : n ≤ 9223372036854775807) (hm : m ≤ 9223372036854775807) (H : Strs w A n ss) (K : Strs w B m ts) :
    Calls Tryd.prog 79 #[.slice A n c, .slice B m d] w fun r w' => r = .returned (.bool (decide (ss = ts))) ∧ Below w.heap.size w w' := by
  have hl := H.len
  have kl := K.len
  by_cases h0 : n = 0
  · subst h0
    have hs : ss = [] := List.eq_nil_of_length_eq_zero hl
    refine (Tryd.slices_Equal_string_empty A B c m d w hm).mono ?_
    rintro r w' ⟨rfl, rfl⟩
    refine ⟨ret_bool ?_, Below.refl _ _⟩
    subst hs
    rw [decide_eq_decide, ← kl]
    constructor
    · intro h; exact (List.eq_nil_of_length_eq_zero h).symm
    · intro h; rw [← h]; rfl
  · by_cases hnm : n = m
    · obtain ⟨b1, o1, rfl, _, hc1⟩ := H.2.2 (by omega)
      obtain ⟨b2, o2, rfl, _, hc2⟩ := K.2.2 (by omega)
      refine (Tryd.slices_Equal_string b1 o1 n c b2 o2 m d ss ts w (by omega) (by omega) hn hm (fun j hj => ?_) (fun j hj => ?_)).mono ?_
      · have := hc1 j (sv (ss.getD j ByteArray.empty)) (by rw [List.getElem?_map, List.getD_eq_getElem?_getD, List.getElem?_eq_getElem hj]; rfl) 0 _ rfl
        simpa using this
      · have := hc2 j (sv (ts.getD j ByteArray.empty)) (by rw [List.getElem?_map, List.getD_eq_getElem?_getD, List.getElem?_eq_getElem hj]; rfl) 0 _ rfl
        simpa using this
      · rintro r w' ⟨rfl, q, rfl⟩
        rw [List.take_of_length_le (by omega), List.take_of_length_le (by omega)]
        exact ⟨rfl, drewN_below q⟩
    · refine (Tryd.slices_Equal_string_lens A B n c m d w hnm).mono ?_
      rintro r w' ⟨rfl, rfl⟩
      exact ⟨ret_bool (decide_eq_false (fun e => hnm (by rw [← hl, ← kl, e]))).symm, Below.refl _ _⟩
theorem takes_eq {L M : List (List ByteArray)} {k : Nat} {x y : List ByteArray} (hx : L[k]? = some x) (hy : M[k]? = some y) : L.take (k + 1) = M.take (k + 1) ↔ L.take k = M.take k ∧ x = y := by
  rw [take_succ_of hx, take_succ_of hy]
  constructor
  · intro h
    have := List.append_inj' h rfl
    exact ⟨this.1, by simpa using this.2⟩
  · rintro ⟨h, rfl⟩
    rw [h]
set_option maxRecDepth 100000 in
set_option maxHeartbeats 4000000 in
theorem pfSame_any (V U : List Value) (L M : List (List ByteArray)) (w : World) (H : Pf w V L) (K : Pf w U M) (hn : ∀ l ∈ L, l.length ≤ 1000000) (hm : ∀ l ∈ M, l.length ≤ 1000000) :
    Calls Tryd.prog 34 #[.agg V.toArray, .agg U.toArray] w fun r w' => r = .returned (.bool (decide (L = M))) ∧ Below w.heap.size w w' := by
  have hb1 := below_got w (.cells V.toArray 44)
  have hb2 := hb1.alloc hb1.size (.cells U.toArray 44)
  have hg1 := heap_past (heap_new w (.cells V.toArray 44)) (.cells U.toArray 44)
  have hg2 := heap_new (w.alloc (.cells V.toArray 44)) (.cells U.toArray 44)
  rw [World.size_alloc] at hg2
  have hl1 := (Array.getElem?_eq_some_iff.1 hg1).1
  have hldU := rangeAt_list (cs := U) (by exact hg2)
  have hldV0 := rangeAt_list (cs := V) (by exact hg1)
  have hldV := Lib.hid (fun W (h : Below ((w.alloc (.cells V.toArray 44)).alloc (.cells U.toArray 44)).heap.size ((w.alloc (.cells V.toArray 44)).alloc (.cells U.toArray 44)) W) => rangeAt_keep hldV0 h hl1)
  have hszV : (Tryd.prog.info? 44).map (·.size) = some V.length := by rw [H.v8]; kernel_rfl
  have hszU : (Tryd.prog.info? 44).map (·.size) = some U.length := by rw [K.v8]; kernel_rfl
  have cU := Lib.hid (fun W (h : Below w.heap.size w W) => lists_any U M W (K.keep h) hm)
  have cV := Lib.hid (fun W (h : Below w.heap.size w W) => lists_any V L W (H.keep h) hn)
  have hB2 := Lib.hid hb2
  have hL8 := Lib.hid H.l8
  have hM8 := Lib.hid K.l8
  clear H K hn hm hb1 hb2 hg1 hg2 hldV0 hl1
  go_enter Tryd.func34, Tryd.ntmps34
  go_upto_region 1 with (refine wpList_box_row 44 _ rfl rfl (List.toArray _) rfl ?_; try simp only [World.size_alloc])
  generalize ((w.alloc (.cells V.toArray 44)).alloc (.cells U.toArray 44)) = w1 at hB2 hldU hldV ⊢
  go_wp2_with (first
    | (refine wpList_load_at 44 (.tmp 3) rfl rfl (w.heap.size + 1) 0 rfl U _ hldU Tryd.underlying44 rfl hszU ?_)
    | (go_at_call 30; (with_reducible refine (cU.out _ hB2.out).mono ?_); rintro r w3 ⟨g3, U3, rfl, hU3, hP3, _, hb3⟩; have hU3 := Lib.hid hU3; have hP3 := Lib.hid hP3; have hldV3 := hldV.out _ hb3; have hB3 := Lib.hid (hB2.out.trans (hb3.mono hB2.out.size)); clear hb3)
    | (refine wpList_load_at 44 (.tmp 2) rfl rfl w.heap.size 0 rfl V _ hldV3 Tryd.underlying44 rfl hszV ?_)
    | (go_at_call 30; (with_reducible refine (cV.out _ hB3.out).mono ?_); rintro r w5 ⟨g5, U5, rfl, hU5, hP5, _, hb5⟩; have hU5 := Lib.hid hU5; have hP5 := Lib.hid hP5; have hU3 := Lib.hid (hU3.out.keep hb5); have hP3 := Lib.hid (hP3.out.keep hb5); have hB5 := Lib.hid (hB3.out.trans (hb5.mono hB3.out.size)); clear hb5))
  go_loopw [6, 7, 13] (fun _ _ i wr => ∃ k : Nat, k ≤ 8 ∧ i = .int .i64 k ∧ Hid (L.take k = M.take k) ∧ Hid (Below w5.heap.size w5 wr)) (fun _ _ i _ => 8 - (intOf i).toNat)
  case atStart => exact ⟨0, by omega, rfl, by simp [Hid], Below.refl _ _⟩
  case round =>
    obtain ⟨k, hk, rfl, hf, hB⟩ := hrel
    by_cases hlt : k < 8
    · obtain ⟨b, off, v, e, hb, hv, hc⟩ := (hU5.out.keep hB.out).at_ hlt
      injection e with e
      injection e with e1 e2
      subst e1; subst e2
      obtain ⟨A, n, c, l, hv2, hl, hnc, hcm, hSt⟩ := (hP5.out.keep hB.out).get hlt
      obtain rfl : v = .slice A n c := by rw [hv] at hv2; injection hv2
      obtain ⟨b', off', v', e, hb', hv', hc'⟩ := (hU3.out.keep hB.out).at_ hlt
      injection e with e
      injection e with e1 e2
      subst e1; subst e2
      obtain ⟨A', n', c', l', hv2', hl', hnc', hcm', hSt'⟩ := (hP3.out.keep hB.out).get hlt
      obtain rfl : v' = .slice A' n' c' := by rw [hv'] at hv2'; injection hv2'
      have hst := Lib.hid (takes_eq hl hl')
      have cE := equalS_any l l' A A' n c n' c' wr (by omega) (by omega) hSt hSt'
      rw [Nat.zero_add] at hc hc'
      have i1 : (0 : Int) ≤ (k : Int) := by omega
      have i2 : (k : Int) < 8 := by omega
      clear hv hv2 hl hb hSt hv' hv2' hl' hb' hSt'
      by_cases hq : l = l'
      · rw [decide_eq_true hq] at cE
        have cE := Lib.hid cE
        have hst := Lib.hid (hst.out.2 ⟨hf.out, hq⟩)
        clear hq
        go_wp2_with (go_at_call 79; (with_reducible refine cE.out.mono ?_); rintro r w6 ⟨rfl, hb6⟩; have hB6 := Lib.hid (hB.out.trans (hb6.mono hB.out.size)); clear hb6)
        go_roundw
        case rel => exact ⟨k + 1, by omega, by go_num, hst, hB6⟩
        case measure => simp [intOf]; omega
      · rw [decide_eq_false hq] at cE
        have cE := Lib.hid cE
        have hne := Lib.hid (show L ≠ M by intro e; subst e; exact hq (hst.out.1 rfl).2)
        clear hq
        go_wp2_with (go_at_call 79; (with_reducible refine cE.out.mono ?_); rintro r w6 ⟨rfl, hb6⟩; have hB6 := Lib.hid (hB.out.trans (hb6.mono hB.out.size)); clear hb6)
        go_ret
        exact ⟨ret_bool (decide_eq_false hne.out).symm, hB5.out.trans (hB6.out.mono hB5.out.size)⟩
    · have hk8 : k = 8 := by omega
      subst hk8
      have he := Lib.hid (show L = M by have := hf.out; rwa [List.take_of_length_le (by rw [hL8.out]; exact Nat.le_refl _), List.take_of_length_le (by rw [hM8.out]; exact Nat.le_refl _)] at this)
      go_wp2
      go_ret
      exact ⟨ret_bool (decide_eq_true he.out).symm, hB5.out.trans (hB.out.mono hB5.out.size)⟩
noncomputable def ldP (a : Addr) : Sem Value := loadVar 44 a
theorem ldP_eq (a : Addr) : loadVar 44 a = ldP a := rfl
theorem ldP_run {W : World} {g : Nat} {V : List Value} (hc : W.rangeAt g 0 V) (h8 : V.length = 8) : (ldP ⟨g, 0, none⟩).run Tryd.prog W = .ok (.agg V.toArray) W :=
  run_loadVar_mid W g 0 44 V _ hc Tryd.underlying44 rfl (by rw [h8]; kernel_rfl)
section
attribute [local go_sem ↓] ldP_eq
set_option maxRecDepth 100000 in
set_option maxHeartbeats 4000000 in
theorem same15_any (V U : List Value) (L M : List (List ByteArray)) (w : World) (H : Pf w V L) (K : Pf w U M) :
    Calls Tryd.prog 33 #[.agg V.toArray, .agg U.toArray] w fun r w' => r = .returned (.bool (decide (L = M))) ∧ Below w.heap.size w w' := by
  have hb1 := below_got w (.cells V.toArray 44)
  have hb2 := hb1.alloc hb1.size (.cells U.toArray 44)
  have hg1 := heap_past (heap_new w (.cells V.toArray 44)) (.cells U.toArray 44)
  have hg2 := heap_new (w.alloc (.cells V.toArray 44)) (.cells U.toArray 44)
  rw [World.size_alloc] at hg2
  have hl1 := (Array.getElem?_eq_some_iff.1 hg1).1
  have hl2 := (Array.getElem?_eq_some_iff.1 hg2).1
  have hldU := rangeAt_list (cs := U) (by exact hg2)
  have hldV := rangeAt_list (cs := V) (by exact hg1)
  have hS := Lib.hid (fun W (h : Below ((w.alloc (.cells V.toArray 44)).alloc (.cells U.toArray 44)).heap.size ((w.alloc (.cells V.toArray 44)).alloc (.cells U.toArray 44)) W) => (⟨ldP_run (rangeAt_keep hldV h hl1) H.v8, ldP_run (rangeAt_keep hldU h hl2) K.v8⟩ :
    (ldP ⟨w.heap.size, 0, none⟩).run Tryd.prog W = .ok (.agg V.toArray) W ∧ (ldP ⟨w.heap.size + 1, 0, none⟩).run Tryd.prog W = .ok (.agg U.toArray) W))
  have cU := Lib.hid (fun W (h : Below w.heap.size w W) => refLists_any U M W (K.keep h))
  have cV := Lib.hid (fun W (h : Below w.heap.size w W) => refLists_any V L W (H.keep h))
  have hB2 := Lib.hid hb2
  have hL8 := Lib.hid H.l8
  have hM8 := Lib.hid K.l8
  clear H K hb1 hb2 hg1 hg2 hldV hldU hl1 hl2
  go_enter Tryd.func33, Tryd.ntmps33
  go_upto_region 1 with (refine wpList_box_row 44 _ rfl rfl (List.toArray _) rfl ?_; try simp only [World.size_alloc])
  generalize ((w.alloc (.cells V.toArray 44)).alloc (.cells U.toArray 44)) = w1 at hB2 hS ⊢
  have hB0 := Lib.hid (show Below w1.heap.size w1 w1.drew from drewN_below 1)
  have hC0 := Lib.hid (hB2.out.trans (hB0.out.mono hB2.out.size))
  go_region_held3 (fun W => (ldP ⟨w.heap.size, 0, none⟩).run Tryd.prog W = .ok (.agg V.toArray) W ∧ (ldP ⟨w.heap.size + 1, 0, none⟩).run Tryd.prog W = .ok (.agg U.toArray) W)
    (first | exact hS.out _ hB0.out | exact hS.out _ hB3.out | exact hS.out _ hB5.out)
    (first
      | (go_at_call 31; (with_reducible refine (cV.out _ hC0.out).mono ?_); rintro r w3 ⟨g3, U3, rfl, hU3, hP3, _, hb3⟩; have hU3 := Lib.hid hU3; have hP3 := Lib.hid hP3; have hB3 := Lib.hid (hB0.out.trans (hb3.mono hB0.out.size)); have hC3 := Lib.hid (hC0.out.trans (hb3.mono hC0.out.size)); clear hb3)
      | (go_at_call 31; (with_reducible refine (cU.out _ hC3.out).mono ?_); rintro r w5 ⟨g5, U5, rfl, hU5, hP5, _, hb5⟩; have hU5 := Lib.hid hU5; have hP5 := Lib.hid hP5; have hU3 := Lib.hid (hU3.out.keep hb5); have hP3 := Lib.hid (hP3.out.keep hb5); have hB5 := Lib.hid (hB3.out.trans (hb5.mono hB3.out.size)); have hC5 := Lib.hid (hC3.out.trans (hb5.mono hC3.out.size)); clear hb5))
  go_wp2_with fail
  go_loopw [7] (fun i wr => ∃ k : Nat, k ≤ 8 ∧ i = .int .i64 k ∧ Hid (L.take k = M.take k) ∧ Hid (Below w5.heap.size w5 wr)) (fun i _ => 8 - (intOf i).toNat)
  case atStart => exact ⟨0, by omega, rfl, by simp [Hid], Below.refl _ _⟩
  case round =>
    obtain ⟨k, hk, rfl, hf, hB⟩ := hrel
    by_cases hlt : k < 8
    · obtain ⟨b, off, v, e, hb, hv, hc⟩ := (hU3.out.keep hB.out).at_ hlt
      injection e with e
      injection e with e1 e2
      subst e1; subst e2
      obtain ⟨A, n, c, l, hv2, hl, hnc, hcm, hSt⟩ := (hP3.out.keep hB.out).get hlt
      obtain rfl : v = .slice A n c := by rw [hv] at hv2; injection hv2
      obtain ⟨b', off', v', e, hb', hv', hc'⟩ := (hU5.out.keep hB.out).at_ hlt
      injection e with e
      injection e with e1 e2
      subst e1; subst e2
      obtain ⟨A', n', c', l', hv2', hl', hnc', hcm', hSt'⟩ := (hP5.out.keep hB.out).get hlt
      obtain rfl : v' = .slice A' n' c' := by rw [hv'] at hv2'; injection hv2'
      have hst := Lib.hid (takes_eq hl hl')
      have cE := fun q => same_any l l' A A' n c n' c' (wr.drewN q) (by omega) (by omega) (hSt.keep (drewN_below q)) (hSt'.keep (drewN_below q))
      rw [Nat.zero_add] at hc hc'
      have i1 : (0 : Int) ≤ (k : Int) := by omega
      have i2 : (k : Int) < 8 := by omega
      clear hv hv2 hl hb hSt hv' hv2' hl' hb' hSt'
      by_cases hq : l = l'
      · rw [decide_eq_true hq] at cE
        have cE := Lib.hid cE
        have hst := Lib.hid (hst.out.2 ⟨hf.out, hq⟩)
        clear hq
        go_wp2_with fail
        go_quiet ((go_at_call 28; exact Calls.quiet_of (cE.out _)))
        go_wp2_with fail
        go_roundw
        case rel => exact ⟨k + 1, by omega, by go_num, hst, hB.out.trans (Below.mono (drewN_below _) hB.out.size)⟩
        case measure => simp [intOf]; omega
      · rw [decide_eq_false hq] at cE
        have cE := Lib.hid cE
        have hne := Lib.hid (show L ≠ M by intro e; subst e; exact hq (hst.out.1 rfl).2)
        clear hq
        go_wp2_with fail
        go_quiet ((go_at_call 28; exact Calls.quiet_of (cE.out _)))
        go_wp2_with fail
        go_ret
        exact ⟨ret_bool (decide_eq_false hne.out).symm, hC5.out.trans ((hB.out.trans (Below.mono (drewN_below _) hB.out.size)).mono hC5.out.size)⟩
    · have hk8 : k = 8 := by omega
      subst hk8
      have he := Lib.hid (show L = M by have := hf.out; rwa [List.take_of_length_le (by rw [hL8.out]; exact Nat.le_refl _), List.take_of_length_le (by rw [hM8.out]; exact Nat.le_refl _)] at this)
      go_wp2
      go_ret
      exact ⟨ret_bool (decide_eq_true he.out).symm, hC5.out.trans (hB.out.mono hC5.out.size)⟩
end
end Go.Proofs.YtlonejkmdibkaaaDoor
