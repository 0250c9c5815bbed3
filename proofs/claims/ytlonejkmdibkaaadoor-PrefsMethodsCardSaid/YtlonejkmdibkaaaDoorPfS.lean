/- The walk of PrefsLists. -/
import Derived.Test.YtlonejkmdibkaaaDoorPfR
import Derived.Test.YtlonejkmdibkaaaDoorPfP0
namespace Go.Proofs.YtlonejkmdibkaaaDoor
open Go.RowKit

theorem Pf.one {w : World} {V : List Value} {L : List (List ByteArray)} (h : Pf w V L) : V.toArray.all (·.oneCell') = true := by
  rw [List.all_toArray, List.all_eq_true]
  intro v hv
  obtain ⟨i, hi, rfl⟩ := List.getElem_of_mem hv
  obtain ⟨A, n, c, l, e, _⟩ := h.get (i := i) (by rw [← h.v8]; exact hi)
  rw [List.getElem?_eq_getElem hi] at e
  injection e with e
  rw [e]; rfl
theorem Pf.info {w : World} {V : List Value} {L : List (List ByteArray)} (h : Pf w V L) : (Tryd.prog.info? 44).map (·.size) = some V.length := by rw [h.v8]; kernel_rfl
section
attribute [local go_sem ↓] ldP_eq
set_option maxRecDepth 100000 in
set_option maxHeartbeats 8000000 in
theorem law_prefsLists (V U : List Value) (L M : List (List ByteArray)) (n : Int) (w : World) (H : Pf w V L) (K : Pf w U M) (hs : ∀ l ∈ L, ∀ s ∈ l, s.size ≤ 9223372036854775807) (ht : ∀ l ∈ M, ∀ s ∈ l, s.size ≤ 9223372036854775807) (P : PV w) :
    Calls Tryd.prog 6 #[.agg V.toArray, .agg U.toArray, .int .i64 n] w fun r w' => r = .returned (.bool true) ∧ Below w.heap.size w w' := by
  have hb1 := below_got w (.cells V.toArray 44)
  have hb2 := hb1.alloc hb1.size (.cells U.toArray 44)
  have hg1 := heap_past (heap_new w (.cells V.toArray 44)) (.cells U.toArray 44)
  have hg2 := heap_new (w.alloc (.cells V.toArray 44)) (.cells U.toArray 44)
  rw [World.size_alloc] at hg2
  have hl1 := (Array.getElem?_eq_some_iff.1 hg1).1
  have hl2 := (Array.getElem?_eq_some_iff.1 hg2).1
  have hldU0 := rangeAt_list (cs := U) (by exact hg2)
  have hldV0 := rangeAt_list (cs := V) (by exact hg1)
  have hld := Lib.hid (fun W (h : Below ((w.alloc (.cells V.toArray 44)).alloc (.cells U.toArray 44)).heap.size ((w.alloc (.cells V.toArray 44)).alloc (.cells U.toArray 44)) W) => (⟨rangeAt_keep hldV0 h hl1, rangeAt_keep hldU0 h hl2⟩ : W.rangeAt w.heap.size 0 V ∧ W.rangeAt (w.heap.size + 1) 0 U))
  have hszV := H.info
  have hszU := K.info
  have aw := Lib.hid (fun W (h : Below w.heap.size w W) => awake15_any W (P.keep h))
  have cFV := fun W (h : Below w.heap.size w W) => few15_any V L W (H.keep h) hs
  have cFU := fun W (h : Below w.heap.size w W) => few15_any U M W (K.keep h) ht
  have cL := Lib.hid (fun W (h : Below w.heap.size w W) (hn : ∀ l ∈ L, l.length ≤ 1000000) => lists_any V L W (H.keep h) hn)
  have cR := Lib.hid (fun W (h : Below w.heap.size w W) => refLists_any V L W (H.keep h))
  have cSa := Lib.hid (fun W (h : Below w.heap.size w W) => same15_any V U L M W (H.keep h) (K.keep h))
  have cSb := Lib.hid (fun W (h : Below w.heap.size w W) (hn : ∀ l ∈ L, l.length ≤ 1000000) (hm : ∀ l ∈ M, l.length ≤ 1000000) => pfSame_any V U L M W (H.keep h) (K.keep h) hn hm)
  have cSc := (fun (B : List Value) W (hB : Pf W B L) (h : Below w.heap.size w W) => same15_any B V L L W hB (H.keep h))
  have cSd := (fun (B : List Value) W (hB : Pf W B L) (h : Below w.heap.size w W) (hn : ∀ l ∈ L, l.length ≤ 1000000) => pfSame_any B V L L W hB (H.keep h) hn hn)
  simp only [decide_eq_true (rfl : L = L)] at cSc cSd
  have cSc := Lib.hid cSc
  have cSd := Lib.hid cSd
  have cLi := fun W (h : Below w.heap.size w W) => list_any n W (P.keep h)
  have cWo := fun W => refWord_any n W
  have hB2 := Lib.hid hb2
  have hL8 := Lib.hid H.l8
  have hV8 := Lib.hid H.v8
  have hU8 := Lib.hid K.v8
  have hlL := Lib.hid (@fewL_sizes L)
  have hlM := Lib.hid (@fewL_sizes M)
  clear H K hb1 hb2 hg1 hg2 hldU0 hldV0 hl1 hl2 P hs ht
  generalize fewP L = q1 at cFV hlL
  generalize fewP M = q2 at cFU hlM
  generalize wordAt n = wn at cLi cWo
  have cFV := Lib.hid cFV
  have cFU := Lib.hid cFU
  have cLi := Lib.hid cLi
  have cWo := Lib.hid cWo
  cases q1 with
  | false =>
    go_enter Tryd.func6, Tryd.ntmps6
    go_upto_region 1 with (refine wpList_box_row 44 _ rfl rfl (List.toArray _) rfl ?_; try simp only [World.size_alloc])
    generalize ((w.alloc (.cells V.toArray 44)).alloc (.cells U.toArray 44)) = w1 at hB2 hld ⊢
    obtain ⟨lV1, lU1⟩ := hld.out w1 (Below.refl _ _)
    go_wp2_with (first
      | (go_at_call 29; (with_reducible refine (cFV.out _ hB2.out).mono ?_); rintro r w2 ⟨rfl, hb2⟩; have hW2 := Lib.hid hb2; have hB3 := Lib.hid (hB2.out.trans (hb2.mono hB2.out.size)); obtain ⟨lV2, lU2⟩ := hld.out _ hb2; clear hb2)
      | (refine wpList_load_at 44 (.tmp 3) rfl (by rfl) w.heap.size 0 rfl V _ (by assumption) Tryd.underlying44 rfl hszV ?_)
      | (go_at_call 20; refine (aw.out _ hB3.out).mono ?_; rintro r w8 ⟨rfl, hb8⟩))
    go_ret
    exact ⟨rfl, hB3.out.trans (hb8.mono hB3.out.size)⟩
  | true =>
    cases q2 with
    | false =>
      go_enter Tryd.func6, Tryd.ntmps6
      go_upto_region 1 with (refine wpList_box_row 44 _ rfl rfl (List.toArray _) rfl ?_; try simp only [World.size_alloc])
      generalize ((w.alloc (.cells V.toArray 44)).alloc (.cells U.toArray 44)) = w1 at hB2 hld ⊢
      obtain ⟨lV1, lU1⟩ := hld.out w1 (Below.refl _ _)
      go_wp2_with (first
        | (go_at_call 29; (with_reducible refine (cFV.out _ hB2.out).mono ?_); rintro r w2 ⟨rfl, hb2⟩; have hW2 := Lib.hid hb2; have hB3 := Lib.hid (hB2.out.trans (hb2.mono hB2.out.size)); obtain ⟨lV2, lU2⟩ := hld.out _ hb2; clear hb2)
        | (go_at_call 29; (with_reducible refine (cFU.out _ hB3.out).mono ?_); rintro r w3 ⟨rfl, hb3⟩; have hB4 := Lib.hid (hB3.out.trans (hb3.mono hB3.out.size)); have hW3 := Lib.hid (hW2.out.trans (hb3.mono hW2.out.size)); obtain ⟨lV3, lU3⟩ := hld.out _ hW3.out; clear hb3)
        | (refine wpList_load_at 44 (.tmp 3) rfl (by rfl) w.heap.size 0 rfl V _ (by assumption) Tryd.underlying44 rfl hszV ?_)
        | (refine wpList_load_at 44 (.tmp 4) rfl (by rfl) (w.heap.size + 1) 0 rfl U _ (by assumption) Tryd.underlying44 rfl hszU ?_)
        | (go_at_call 20; refine (aw.out _ hB4.out).mono ?_; rintro r w8 ⟨rfl, hb8⟩))
      go_ret
      exact ⟨rfl, hB4.out.trans (hb8.mono hB4.out.size)⟩
    | true =>
      have hnL := Lib.hid (hlL.out rfl)
      have hnM := Lib.hid (hlM.out rfl)
      clear hlL hlM
      have cO7 := Lib.hid (fun (A : Option Addr) (c : Nat) W => ofPf_less A c W)
      go_enter Tryd.func6, Tryd.ntmps6
      go_upto_region 1 with (refine wpList_box_row 44 _ rfl rfl (List.toArray _) rfl ?_; try simp only [World.size_alloc])
      generalize ((w.alloc (.cells V.toArray 44)).alloc (.cells U.toArray 44)) = w1 at hB2 hld ⊢
      obtain ⟨lV1, lU1⟩ := hld.out w1 (Below.refl _ _)
      go_wp2_with (first
        | (go_at_call 29; (with_reducible refine (cFV.out _ hB2.out).mono ?_); rintro r w2 ⟨rfl, hb2⟩; have hW2 := Lib.hid hb2; have hB3 := Lib.hid (hB2.out.trans (hb2.mono hB2.out.size)); obtain ⟨lV2, lU2⟩ := hld.out _ hb2; clear hb2)
        | (go_at_call 29; (with_reducible refine (cFU.out _ hB3.out).mono ?_); rintro r w3 ⟨rfl, hb3⟩; have hB4 := Lib.hid (hB3.out.trans (hb3.mono hB3.out.size)); have hW3 := Lib.hid (hW2.out.trans (hb3.mono hW2.out.size)); obtain ⟨lV3, lU3⟩ := hld.out _ hW3.out; clear hb3)
        | (refine wpList_load_at 44 (.tmp 3) rfl (by rfl) w.heap.size 0 rfl V _ (by assumption) Tryd.underlying44 rfl hszV ?_)
        | (refine wpList_load_at 44 (.tmp 4) rfl (by rfl) (w.heap.size + 1) 0 rfl U _ (by assumption) Tryd.underlying44 rfl hszU ?_)
        | (go_at_call 30; (with_reducible refine (cL.out _ hB4.out hnL.out).mono ?_); rintro r w5 ⟨g, X, rfl, hX, hQ, _, hb5⟩; have hX := Lib.hid hX; have hQ := Lib.hid hQ; have hB5 := Lib.hid (hB4.out.trans (hb5.mono hB4.out.size)); have hW5 := Lib.hid (hW3.out.trans (hb5.mono hW3.out.size)); obtain ⟨lV5, lU5⟩ := hld.out _ hW5.out; clear hb5)
        | (go_at_call 31; (with_reducible refine (cR.out _ hB5.out).mono ?_); rintro r w6 ⟨g6, X6, rfl, hX6, hQ6, _, hb6⟩; have hX6 := Lib.hid hX6; have hQ6 := Lib.hid hQ6; have hX := Lib.hid (hX.out.keep hb6); have hQ := Lib.hid (hQ.out.keep hb6); have hB6 := Lib.hid (hB5.out.trans (hb6.mono hB5.out.size)); have hW6 := Lib.hid (hW5.out.trans (hb6.mono hW5.out.size)); clear hb6))
      clear lV1 lU1 lV2 lU2 lV3 lU3 lV5 lU5
      go_loopw [9] (fun i wr => ∃ k : Nat, k ≤ 8 ∧ i = .int .i64 k ∧ Hid (Below w6.heap.size w6 wr)) (fun i _ => 8 - (intOf i).toNat)
      case atStart => exact ⟨0, by omega, rfl, Below.refl _ _⟩
      case round =>
        obtain ⟨k, hk, rfl, hB⟩ := hrel
        by_cases hlt : k < 8
        · obtain ⟨b, off, v, e, hb, hv, hc⟩ := (hX.out.keep hB.out).at_ hlt
          injection e with e
          injection e with e1 e2
          subst e1; subst e2
          obtain ⟨A, n1, c, l, hv2, hl, hnc, hcm, hSt⟩ := (hQ.out.keep hB.out).get hlt
          obtain rfl : v = .slice A n1 c := by rw [hv] at hv2; injection hv2
          obtain ⟨b', off', v', e, hb', hv', hc'⟩ := (hX6.out.keep hB.out).at_ hlt
          injection e with e
          injection e with e1 e2
          subst e1; subst e2
          obtain ⟨A', n2, c', l', hv2', hl', hnc', hcm', hSt'⟩ := (hQ6.out.keep hB.out).get hlt
          obtain rfl : v' = .slice A' n2 c' := by rw [hv'] at hv2'; injection hv2'
          obtain rfl : l = l' := by rw [hl] at hl'; injection hl'
          have cE := fun q => same_any l l A A' n1 c n2 c' (wr.drewN q) (by omega) (by omega) (hSt.keep (drewN_below q)) (hSt'.keep (drewN_below q))
          rw [decide_eq_true rfl] at cE
          have cE := Lib.hid cE
          rw [Nat.zero_add] at hc hc'
          have i1 : (0 : Int) ≤ (k : Int) := by omega
          have i2 : (k : Int) < 8 := by omega
          clear hv hv2 hl hb hSt hv' hv2' hl' hb' hSt'
          go_wp2_with fail
          go_quiet ((go_at_call 28; exact Calls.quiet_of (cE.out _)))
          go_wp2_with fail
          go_roundw
          case rel => exact ⟨k + 1, by omega, by go_num, hB.out.trans (Below.mono (drewN_below _) hB.out.size)⟩
          case measure => simp [intOf]; omega
        · have hk8 : k = 8 := by omega
          subst hk8
          have cO := Lib.hid (ofPf_any g 8 X L wr (hX.out.keep hB.out) (hQ.out.keep hB.out) hnL.out)
          have hB7 := Lib.hid (hB6.out.trans (hB.out.mono hB6.out.size))
          have hW7 := Lib.hid (hW6.out.trans (hB.out.mono hW6.out.size))
          clear hX hQ hX6 hQ6
          go_upto_region 14 with (first
            | (refine wpList_alloc_row 44 rfl rfl #[.slice none 0 0, .slice none 0 0, .slice none 0 0, .slice none 0 0, .slice none 0 0, .slice none 0 0, .slice none 0 0, .slice none 0 0] pf_zero ?_)
            | (go_at_call 32; (with_reducible refine cO.out.mono ?_); rintro r w7 ⟨B7, rfl, hP7, hb7⟩; have hone := hP7.one; have h78 := hP7.v8; have hz7 := heap_new w7 (.cells #[.slice none 0 0, .slice none 0 0, .slice none 0 0, .slice none 0 0, .slice none 0 0, .slice none 0 0, .slice none 0 0, .slice none 0 0] 44); have hsz7 : (Tryd.prog.info? 44).map (·.size) = some B7.toArray.size := (by rw [List.size_toArray, h78]; kernel_rfl); have hss7 : (#[.slice none 0 0, .slice none 0 0, .slice none 0 0, .slice none 0 0, .slice none 0 0, .slice none 0 0, .slice none 0 0, .slice none 0 0] : Array Value).size = B7.toArray.size := (by show 8 = B7.toArray.size; simp [h78]); have hP7 := Lib.hid hP7; have hB8 := Lib.hid (hB7.out.trans (hb7.mono hB7.out.size)); have hW8 := Lib.hid (hW7.out.trans (hb7.mono hW7.out.size)); clear hb7)
            | (refine wpList_store_at 44 _ _ rfl rfl w7.heap.size B7.toArray rfl rfl 44 #[.slice none 0 0, .slice none 0 0, .slice none 0 0, .slice none 0 0, .slice none 0 0, .slice none 0 0, .slice none 0 0, .slice none 0 0] hz7 hsz7 hss7 hone ?_; rw [setRow_new])
            | (go_at_call 32; (with_reducible refine (cO7.out _ _ _).mono ?_); rintro r w9 ⟨rfl, hb9⟩; have hz9 := heap_new w9 (.cells #[.slice none 0 0, .slice none 0 0, .slice none 0 0, .slice none 0 0, .slice none 0 0, .slice none 0 0, .slice none 0 0, .slice none 0 0] 44); have hb9 := Lib.hid hb9)
            | (refine wpList_store_at 44 _ _ rfl rfl w9.heap.size #[.slice none 0 0, .slice none 0 0, .slice none 0 0, .slice none 0 0, .slice none 0 0, .slice none 0 0, .slice none 0 0, .slice none 0 0] rfl rfl 44 #[.slice none 0 0, .slice none 0 0, .slice none 0 0, .slice none 0 0, .slice none 0 0, .slice none 0 0, .slice none 0 0, .slice none 0 0] hz9 (by kernel_rfl) rfl (by simp [Value.oneCell']) ?_; rw [setRow_new]))
          have hN7 := below_got w7 (.cells B7.toArray 44)
          have hN9 := below_got w9 (.cells #[.slice none 0 0, .slice none 0 0, .slice none 0 0, .slice none 0 0, .slice none 0 0, .slice none 0 0, .slice none 0 0, .slice none 0 0] 44)
          have hBk : Below w7.heap.size w7 (w9.alloc (.cells #[.slice none 0 0, .slice none 0 0, .slice none 0 0, .slice none 0 0, .slice none 0 0, .slice none 0 0, .slice none 0 0, .slice none 0 0] 44)) := hN7.trans ((hb9.out.trans (hN9.mono hb9.out.size)).mono hN7.size)
          have hgb := heap_new w7 (.cells B7.toArray 44)
          have hgl := (Array.getElem?_eq_some_iff.1 hgb).1
          have hldB := rangeAt_keep (rangeAt_list (cs := B7) hgb) (hb9.out.trans (hN9.mono hb9.out.size)) hgl
          have hB10 := Lib.hid (hB8.out.trans (hBk.mono hB8.out.size))
          have hW10 := Lib.hid (hW8.out.trans (hBk.mono hW8.out.size))
          have hP10 := Lib.hid (hP7.out.keep hBk)
          have hlB := (Nat.lt_of_lt_of_le hgl (hb9.out.trans (hN9.mono hb9.out.size)).size)
          clear hN7 hN9 hBk hgb hgl hz7 hz9 hP7
          generalize w9.alloc (.cells #[.slice none 0 0, .slice none 0 0, .slice none 0 0, .slice none 0 0, .slice none 0 0, .slice none 0 0, .slice none 0 0, .slice none 0 0] 44) = w10 at hldB hB10 hW10 hP10 hlB ⊢
          generalize w7.heap.size = gb at hldB hlB ⊢
          have hS := Lib.hid (fun W (h : Below w10.heap.size w10 W) => (⟨ldP_run (hld.out W (hW10.out.trans (h.mono hW10.out.size))).1 hV8.out, ldP_run (hld.out W (hW10.out.trans (h.mono hW10.out.size))).2 hU8.out, ldP_run (rangeAt_keep hldB h hlB) h78⟩ :
            (ldP ⟨w.heap.size, 0, none⟩).run Tryd.prog W = .ok (.agg V.toArray) W ∧ (ldP ⟨w.heap.size + 1, 0, none⟩).run Tryd.prog W = .ok (.agg U.toArray) W ∧ (ldP ⟨gb, 0, none⟩).run Tryd.prog W = .ok (.agg B7.toArray) W))
          have d0 := Lib.hid (show Below w10.heap.size w10 w10.drew from drewN_below 1)
          have cA := Lib.hid (fun W (h : Below w10.heap.size w10 W) => aw.out W (hB10.out.trans (h.mono hB10.out.size)))
          have cB := (fun W (h : Below w10.heap.size w10 W) => cSc.out B7 W (hP10.out.keep h) (hB10.out.trans (h.mono hB10.out.size)))
          have cC := (fun W (h : Below w10.heap.size w10 W) => cSb.out W (hB10.out.trans (h.mono hB10.out.size)) hnL.out hnM.out)
          have cD := (fun W (h : Below w10.heap.size w10 W) => cSa.out W (hB10.out.trans (h.mono hB10.out.size)))
          have cE := (fun W (h : Below w10.heap.size w10 W) => cSd.out B7 W (hP10.out.keep h) (hB10.out.trans (h.mono hB10.out.size)) hnL.out)
          have cF := Lib.hid (fun W (h : Below w10.heap.size w10 W) => cLi.out W (hB10.out.trans (h.mono hB10.out.size)))
          generalize decide (L = M) = dq at cC cD
          have cB := Lib.hid cB
          have cC := Lib.hid cC
          have cD := Lib.hid cD
          have cE := Lib.hid cE
          clear hldB hlB h78 hss7 hsz7 hone
          go_region_held3 (fun W => (ldP ⟨w.heap.size, 0, none⟩).run Tryd.prog W = .ok (.agg V.toArray) W ∧ (ldP ⟨w.heap.size + 1, 0, none⟩).run Tryd.prog W = .ok (.agg U.toArray) W ∧ (ldP ⟨gb, 0, none⟩).run Tryd.prog W = .ok (.agg B7.toArray) W)
            (first | exact hS.out _ d0.out | exact hS.out _ d1.out | exact hS.out _ d2.out | exact hS.out _ d3.out | exact hS.out _ d4.out | exact hS.out _ d5.out | exact hS.out _ d6.out)
            (first
              | (go_at_call 20; (with_reducible refine (cA.out _ d0.out).mono ?_); rintro r v1 ⟨rfl, hb⟩; have d1 := Lib.hid (d0.out.trans (hb.mono d0.out.size)); clear hb)
              | (go_at_call 33; (with_reducible refine (cB.out _ d1.out).mono ?_); rintro r v2 ⟨rfl, hb⟩; have d2 := Lib.hid (d1.out.trans (hb.mono d1.out.size)); clear hb)
              | (go_at_call 34; (with_reducible refine (cC.out _ d2.out).mono ?_); rintro r v3 ⟨rfl, hb⟩; have d3 := Lib.hid (d2.out.trans (hb.mono d2.out.size)); clear hb)
              | (go_at_call 33; (with_reducible refine (cD.out _ d3.out).mono ?_); rintro r v4 ⟨rfl, hb⟩; have d4 := Lib.hid (d3.out.trans (hb.mono d3.out.size)); clear hb)
              | (go_at_call 34; (with_reducible refine (cE.out _ d4.out).mono ?_); rintro r v5 ⟨rfl, hb⟩; have d5 := Lib.hid (d4.out.trans (hb.mono d4.out.size)); clear hb)
              | (go_at_call 35; (with_reducible refine (cF.out _ d5.out).mono ?_); rintro r v6 ⟨rfl, rfl⟩)
              | (go_at_call 36; (with_reducible refine (cWo.out _).mono ?_); rintro r v7 ⟨rfl, hb⟩; have d6 := Lib.hid (d5.out.trans (hb.mono d5.out.size)); clear hb))
          go_wp2_with fail
          go_ret
          exact ⟨rfl, hB10.out.trans (d6.out.mono hB10.out.size)⟩
end
end Go.Proofs.YtlonejkmdibkaaaDoor
