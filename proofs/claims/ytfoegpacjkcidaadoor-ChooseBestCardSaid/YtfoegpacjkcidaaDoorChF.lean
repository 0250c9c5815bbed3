/- The walk of ChooseBest. -/
import Derived.Test.YtfoegpacjkcidaaDoorChE
namespace Go.Proofs.YtfoegpacjkcidaaDoor
open Go.RowKit

section
attribute [local go_sem ↓] ldQ_eq
set_option maxRecDepth 100000 in
set_option maxHeartbeats 8000000 in
theorem law_chooseBest (V U : List Value) (L M : List (List ByteArray)) (w : World) (H : Pf w V L) (K : Pf w U M) (hs : ∀ l ∈ L, ∀ s ∈ l, s.size ≤ 9223372036854775807) (ht : ∀ l ∈ M, ∀ s ∈ l, s.size ≤ 9223372036854775807) (P : PV w) :
    Calls Tryd.prog 3 #[.agg V.toArray, .agg U.toArray] w fun r w' => r = .returned (.bool true) ∧ Below w.heap.size w w' := by
  have hb1 := below_got w (.cells V.toArray 24)
  have hb2 := hb1.alloc hb1.size (.cells U.toArray 24)
  have hg1 := heap_past (heap_new w (.cells V.toArray 24)) (.cells U.toArray 24)
  have hg2 := heap_new (w.alloc (.cells V.toArray 24)) (.cells U.toArray 24)
  rw [World.size_alloc] at hg2
  have hl1 := (Array.getElem?_eq_some_iff.1 hg1).1
  have hl2 := (Array.getElem?_eq_some_iff.1 hg2).1
  have hldU0 := rangeAt_list (cs := U) (by exact hg2)
  have hldV0 := rangeAt_list (cs := V) (by exact hg1)
  have hld := Lib.hid (fun W (h : Below ((w.alloc (.cells V.toArray 24)).alloc (.cells U.toArray 24)).heap.size ((w.alloc (.cells V.toArray 24)).alloc (.cells U.toArray 24)) W) => (⟨rangeAt_keep hldV0 h hl1, rangeAt_keep hldU0 h hl2⟩ : W.rangeAt w.heap.size 0 V ∧ W.rangeAt (w.heap.size + 1) 0 U))
  have hszV := pf_size H
  have hszU := pf_size K
  have hV8 := Lib.hid H.v8
  have hU8 := Lib.hid K.v8
  have hL8 := Lib.hid H.l8
  have hM8 := Lib.hid K.l8
  have aw := Lib.hid (fun W (h : Below w.heap.size w W) => awake17_any W (P.keep h))
  have cFV := fun W (h : Below w.heap.size w W) => few15_any V L W (H.keep h) hs
  have cFU := fun W (h : Below w.heap.size w W) => few15_any U M W (K.keep h) ht
  have cRV := Lib.hid (fun W (h : Below w.heap.size w W) => refLists_any V L W (H.keep h))
  have cRU := Lib.hid (fun W (h : Below w.heap.size w W) => refLists_any U M W (K.keep h))
  have cCh := Lib.hid (fun W (h : Below w.heap.size w W) (hn : ∀ l ∈ L, l.length ≤ 1000000) (hm : ∀ l ∈ M, l.length ≤ 1000000) => choose_any V U L M W (H.keep h) (K.keep h) hn hm (P.keep h))
  have cCr := Lib.hid (fun (B : List Value) W (h : Below w.heap.size w W) (hB : Pf W B (M.map List.reverse)) (hn : ∀ l ∈ L, l.length ≤ 1000000) (hm : ∀ l ∈ M, l.length ≤ 1000000) => choose_any V B L (M.map List.reverse) W (H.keep h) hB hn (rev_lens hm) (P.keep h))
  have hsm := Lib.hid (fOut_small (M := M) hs 8)
  have hB2 := Lib.hid hb2
  have hlL := Lib.hid (@fewL_sizes L)
  have hlM := Lib.hid (@fewL_sizes M)
  have hz8 := ch_zero
  clear H K hb1 hb2 hg1 hg2 hldU0 hldV0 hl1 hl2 P hs ht
  generalize fewP L = q1 at cFV hlL
  generalize fewP M = q2 at cFU hlM
  have cFV := Lib.hid cFV
  have cFU := Lib.hid cFU
  cases q1 with
  | false =>
    go_enter Tryd.func3, Tryd.ntmps3
    go_upto_region 1 with (refine wpList_box_row 24 _ rfl rfl (List.toArray _) rfl ?_; try simp only [World.size_alloc])
    generalize ((w.alloc (.cells V.toArray 24)).alloc (.cells U.toArray 24)) = w1 at hB2 hld ⊢
    obtain ⟨lV1, lU1⟩ := hld.out w1 (Below.refl _ _)
    go_wp2_with (first
      | (go_at_call 8; (with_reducible refine (cFV.out _ hB2.out).mono ?_); rintro r w2 ⟨rfl, hb2⟩; have hW2 := Lib.hid hb2; have hB3 := Lib.hid (hB2.out.trans (hb2.mono hB2.out.size)); obtain ⟨lV2, lU2⟩ := hld.out _ hb2; clear hb2)
      | (refine wpList_load_at 24 (.tmp 2) rfl (by rfl) w.heap.size 0 rfl V _ (by assumption) Tryd.underlying24 rfl hszV ?_)
      | (go_at_call 9; refine (aw.out _ hB3.out).mono ?_; rintro r w8 ⟨rfl, hb8⟩))
    go_ret
    exact ⟨rfl, hB3.out.trans (hb8.mono hB3.out.size)⟩
  | true =>
    cases q2 with
    | false =>
      go_enter Tryd.func3, Tryd.ntmps3
      go_upto_region 1 with (refine wpList_box_row 24 _ rfl rfl (List.toArray _) rfl ?_; try simp only [World.size_alloc])
      generalize ((w.alloc (.cells V.toArray 24)).alloc (.cells U.toArray 24)) = w1 at hB2 hld ⊢
      obtain ⟨lV1, lU1⟩ := hld.out w1 (Below.refl _ _)
      go_wp2_with (first
        | (go_at_call 8; (with_reducible refine (cFV.out _ hB2.out).mono ?_); rintro r w2 ⟨rfl, hb2⟩; have hW2 := Lib.hid hb2; have hB3 := Lib.hid (hB2.out.trans (hb2.mono hB2.out.size)); obtain ⟨lV2, lU2⟩ := hld.out _ hb2; clear hb2)
        | (go_at_call 8; (with_reducible refine (cFU.out _ hB3.out).mono ?_); rintro r w3 ⟨rfl, hb3⟩; have hB4 := Lib.hid (hB3.out.trans (hb3.mono hB3.out.size)); have hW3 := Lib.hid (hW2.out.trans (hb3.mono hW2.out.size)); obtain ⟨lV3, lU3⟩ := hld.out _ hW3.out; clear hb3)
        | (refine wpList_load_at 24 (.tmp 2) rfl (by rfl) w.heap.size 0 rfl V _ (by assumption) Tryd.underlying24 rfl hszV ?_)
        | (refine wpList_load_at 24 (.tmp 3) rfl (by rfl) (w.heap.size + 1) 0 rfl U _ (by assumption) Tryd.underlying24 rfl hszU ?_)
        | (go_at_call 9; refine (aw.out _ hB4.out).mono ?_; rintro r w8 ⟨rfl, hb8⟩))
      go_ret
      exact ⟨rfl, hB4.out.trans (hb8.mono hB4.out.size)⟩
    | true =>
      have hnL := Lib.hid (hlL.out rfl)
      have hnM := Lib.hid (hlM.out rfl)
      clear hlL hlM
      by_cases hk8 : fK L M = 8
      case neg =>
        have cC := Lib.hid (fun W (h : Below w.heap.size w W) => Calls.mono (cCh.out W h hnL.out hnM.out) (fun r w' h => (show ∃ T u, r = .returned (.tuple #[.agg #[.string ⟨#[]⟩, .string ⟨#[]⟩, .string ⟨#[]⟩, .string ⟨#[]⟩, .string ⟨#[]⟩, .string ⟨#[]⟩, .string ⟨#[]⟩, .string ⟨#[]⟩], .iface T u]) ∧ Below W.heap.size W w' by unfold ChR at h; rw [if_neg hk8] at h; obtain ⟨T, u, h1, _, h2⟩ := h; exact ⟨T, u, h1, h2⟩)))
        clear hk8
        go_enter Tryd.func3, Tryd.ntmps3
        go_upto_region 1 with (refine wpList_box_row 24 _ rfl rfl (List.toArray _) rfl ?_; try simp only [World.size_alloc])
        generalize ((w.alloc (.cells V.toArray 24)).alloc (.cells U.toArray 24)) = w1 at hB2 hld ⊢
        obtain ⟨lV1, lU1⟩ := hld.out w1 (Below.refl _ _)
        go_wp2_with (first
          | (go_at_call 8; (with_reducible refine (cFV.out _ hB2.out).mono ?_); rintro r w2 ⟨rfl, hb2⟩; have hW2 := Lib.hid hb2; have hB3 := Lib.hid (hB2.out.trans (hb2.mono hB2.out.size)); obtain ⟨lV2, lU2⟩ := hld.out _ hb2; clear hb2)
          | (go_at_call 8; (with_reducible refine (cFU.out _ hB3.out).mono ?_); rintro r w3 ⟨rfl, hb3⟩; have hB4 := Lib.hid (hB3.out.trans (hb3.mono hB3.out.size)); have hW3 := Lib.hid (hW2.out.trans (hb3.mono hW2.out.size)); obtain ⟨lV3, lU3⟩ := hld.out _ hW3.out; clear hb3)
          | (refine wpList_load_at 24 (.tmp 2) rfl (by rfl) w.heap.size 0 rfl V _ (by assumption) Tryd.underlying24 rfl hszV ?_)
          | (refine wpList_load_at 24 (.tmp 3) rfl (by rfl) (w.heap.size + 1) 0 rfl U _ (by assumption) Tryd.underlying24 rfl hszU ?_)
          | (go_at_call 10; (with_reducible refine (cC.out _ hB4.out).mono ?_); rintro r w4 ⟨T4, u4, rfl, hb4⟩; have hn4 := heap_new w4 (.cells #[.string ⟨#[]⟩, .string ⟨#[]⟩, .string ⟨#[]⟩, .string ⟨#[]⟩, .string ⟨#[]⟩, .string ⟨#[]⟩, .string ⟨#[]⟩, .string ⟨#[]⟩] 28); have hB5 := Lib.hid (hB4.out.trans ((hb4.trans ((below_got w4 (.cells #[.string ⟨#[]⟩, .string ⟨#[]⟩, .string ⟨#[]⟩, .string ⟨#[]⟩, .string ⟨#[]⟩, .string ⟨#[]⟩, .string ⟨#[]⟩, .string ⟨#[]⟩] 28)).mono hb4.size)).mono hB4.out.size)); clear hb4)
          | (refine wpList_alloc_row 28 rfl rfl #[.string ⟨#[]⟩, .string ⟨#[]⟩, .string ⟨#[]⟩, .string ⟨#[]⟩, .string ⟨#[]⟩, .string ⟨#[]⟩, .string ⟨#[]⟩, .string ⟨#[]⟩] hz8 ?_)
          | (refine wpList_store_at 28 _ _ rfl rfl w4.heap.size #[.string ⟨#[]⟩, .string ⟨#[]⟩, .string ⟨#[]⟩, .string ⟨#[]⟩, .string ⟨#[]⟩, .string ⟨#[]⟩, .string ⟨#[]⟩, .string ⟨#[]⟩] rfl rfl 28 #[.string ⟨#[]⟩, .string ⟨#[]⟩, .string ⟨#[]⟩, .string ⟨#[]⟩, .string ⟨#[]⟩, .string ⟨#[]⟩, .string ⟨#[]⟩, .string ⟨#[]⟩] hn4 (by kernel_rfl) rfl (by simp [Value.oneCell']) ?_; rw [setRow_new])
          | (go_at_call 9; refine (aw.out _ hB5.out).mono ?_; rintro r w8 ⟨rfl, hb8⟩))
        go_ret
        exact ⟨rfl, hB5.out.trans (hb8.mono hB5.out.size)⟩
      case pos =>
        obtain ⟨x0, x1, x2, x3, x4, x5, x6, x7, hx⟩ := list8 (fOut_len L M 8)
        have cC := Lib.hid (fun W (h : Below w.heap.size w W) => Calls.mono (cCh.out W h hnL.out hnM.out) (fun r w' h => (show r = .returned (.tuple #[.agg #[.string x0, .string x1, .string x2, .string x3, .string x4, .string x5, .string x6, .string x7], .nilIface]) ∧ Below W.heap.size W w' by unfold ChR at h; rw [if_pos hk8, hx] at h; exact h)))
        have cD := Lib.hid (fun (B : List Value) W (h : Below w.heap.size w W) (hB : Pf W B (M.map List.reverse)) => Calls.mono (cCr.out B W h hB hnL.out hnM.out) (fun r w' h => (show r = .returned (.tuple #[.agg #[.string x0, .string x1, .string x2, .string x3, .string x4, .string x5, .string x6, .string x7], .nilIface]) ∧ Below W.heap.size W w' by unfold ChR at h; rw [if_pos (by rw [fK_rev]; exact hk8), fOut_rev, hx] at h; exact h)))
        have hpl := Lib.hid (fun (k : Nat) l m (hk : k < 8) (hl : L[k]? = some l) (hm : M[k]? = some m) => (show ∃ (x : ByteArray) (p : Nat), ([x0, x1, x2, x3, x4, x5, x6, x7] : List ByteArray)[k]? = some x ∧ l[p]? = some x ∧ has l x = true ∧ has m x = true ∧ ∀ (j : Nat) y, j < p → l[j]? = some y → has m y = false by rw [← hx]; exact fO_place hk8 hk hl hm))
        have heq := Lib.hid (fun W => (show (binOp .eql 28 (.agg #[.string x0, .string x1, .string x2, .string x3, .string x4, .string x5, .string x6, .string x7]) (.agg #[.string x0, .string x1, .string x2, .string x3, .string x4, .string x5, .string x6, .string x7])).run Tryd.prog W = .ok (.bool true) W from eql_ch (X := [x0, x1, x2, x3, x4, x5, x6, x7]) (Y := [x0, x1, x2, x3, x4, x5, x6, x7]) rfl (by have := hsm.out; rw [hx] at this; exact this) rfl (by have := hsm.out; rw [hx] at this; exact this) true ⟨fun _ => rfl, fun _ => rfl⟩ W))
        have cL := Lib.hid (fun W => chLists_any x0 x1 x2 x3 x4 x5 x6 x7 W)
        have hSs := Lib.hid (fun W => chLists_strs x0 x1 x2 x3 x4 x5 x6 x7 W)
        obtain ⟨i0, hi0, hz0, hz1, hz2⟩ := info_parts str_info
        obtain ⟨j0, hj0, hy0, hy1, hy2⟩ := info_parts sl_info
        clear hk8 hx hsm
        go_enter Tryd.func3, Tryd.ntmps3
        go_upto_region 1 with (refine wpList_box_row 24 _ rfl rfl (List.toArray _) rfl ?_; try simp only [World.size_alloc])
        generalize ((w.alloc (.cells V.toArray 24)).alloc (.cells U.toArray 24)) = w1 at hB2 hld ⊢
        obtain ⟨lV1, lU1⟩ := hld.out w1 (Below.refl _ _)
        go_upto_region 9 with (first
          | (go_at_call 8; (with_reducible refine (cFV.out _ hB2.out).mono ?_); rintro r w2 ⟨rfl, hb2⟩; have hW2 := Lib.hid hb2; have hB3 := Lib.hid (hB2.out.trans (hb2.mono hB2.out.size)); obtain ⟨lV2, lU2⟩ := hld.out _ hb2; clear hb2)
          | (go_at_call 8; (with_reducible refine (cFU.out _ hB3.out).mono ?_); rintro r w3 ⟨rfl, hb3⟩; have hB4 := Lib.hid (hB3.out.trans (hb3.mono hB3.out.size)); have hW3 := Lib.hid (hW2.out.trans (hb3.mono hW2.out.size)); obtain ⟨lV3, lU3⟩ := hld.out _ hW3.out; clear hb3)
          | (refine wpList_load_at 24 (.tmp 2) rfl (by rfl) w.heap.size 0 rfl V _ (by assumption) Tryd.underlying24 rfl hszV ?_)
          | (refine wpList_load_at 24 (.tmp 3) rfl (by rfl) (w.heap.size + 1) 0 rfl U _ (by assumption) Tryd.underlying24 rfl hszU ?_)
          | (go_at_call 10; (with_reducible refine (cC.out _ hB4.out).mono ?_); rintro r w4 ⟨rfl, hb4⟩; have hn4 := heap_new w4 (.cells #[.string ⟨#[]⟩, .string ⟨#[]⟩, .string ⟨#[]⟩, .string ⟨#[]⟩, .string ⟨#[]⟩, .string ⟨#[]⟩, .string ⟨#[]⟩, .string ⟨#[]⟩] 28); have hB5 := Lib.hid (hB4.out.trans (hb4.mono hB4.out.size)); have hW5 := Lib.hid (hW3.out.trans (hb4.mono hW3.out.size)); clear hb4)
          | (refine wpList_alloc_row 28 rfl rfl #[.string ⟨#[]⟩, .string ⟨#[]⟩, .string ⟨#[]⟩, .string ⟨#[]⟩, .string ⟨#[]⟩, .string ⟨#[]⟩, .string ⟨#[]⟩, .string ⟨#[]⟩] hz8 ?_)
          | (refine wpList_store_at 28 _ _ rfl rfl w4.heap.size #[.string x0, .string x1, .string x2, .string x3, .string x4, .string x5, .string x6, .string x7] rfl rfl 28 #[.string ⟨#[]⟩, .string ⟨#[]⟩, .string ⟨#[]⟩, .string ⟨#[]⟩, .string ⟨#[]⟩, .string ⟨#[]⟩, .string ⟨#[]⟩, .string ⟨#[]⟩] hn4 (by kernel_rfl) rfl (by simp [Value.oneCell']) ?_; rw [setRow_new]; have hr4 := rangeAt_list (cs := [.string x0, .string x1, .string x2, .string x3, .string x4, .string x5, .string x6, .string x7]) (heap_new w4 (.cells #[.string x0, .string x1, .string x2, .string x3, .string x4, .string x5, .string x6, .string x7] 28)))
          | (refine wpList_load_at 28 _ rfl (by rfl) w4.heap.size 0 rfl [.string x0, .string x1, .string x2, .string x3, .string x4, .string x5, .string x6, .string x7] _ hr4 Tryd.underlying28 rfl (by kernel_rfl) ?_)
          | (go_at_call 11; (with_reducible refine (cL.out _).mono ?_); rintro r w5 ⟨rfl, h5⟩; have hT5 := hSs.out (w4.alloc (.cells #[.string x0, .string x1, .string x2, .string x3, .string x4, .string x5, .string x6, .string x7] 28)); rw [← h5, World.size_alloc] at hT5; have hk5 : Below (w4.alloc (.cells #[.string x0, .string x1, .string x2, .string x3, .string x4, .string x5, .string x6, .string x7] 28)).heap.size (w4.alloc (.cells #[.string x0, .string x1, .string x2, .string x3, .string x4, .string x5, .string x6, .string x7] 28)) w5 := (by rw [h5]; exact (below_got _ _).trans ((below_got _ _).mono (below_got _ _).size)); have hb5 : Below w4.heap.size w4 w5 := ((below_got w4 (.cells #[.string x0, .string x1, .string x2, .string x3, .string x4, .string x5, .string x6, .string x7] 28)).trans (hk5.mono (below_got w4 _).size)); have hT5 := Lib.hid hT5; have hlt4 := (Array.getElem?_eq_some_iff.1 (heap_new w4 (.cells #[.string x0, .string x1, .string x2, .string x3, .string x4, .string x5, .string x6, .string x7] 28))).1; have hr5 := Lib.hid (fun W (h : Below w5.heap.size w5 W) => rangeAt_keep hr4 (hk5.trans (h.mono hk5.size)) hlt4); have hB6 := Lib.hid (hB5.out.trans (hb5.mono hB5.out.size)); have hW6 := Lib.hid (hW5.out.trans (hb5.mono hW5.out.size)); clear hb5 h5 hk5 hr4 hn4 hlt4))
        clear lV1 lU1 lV2 lU2 lV3 lU3
        generalize w4.heap.size = gc at hT5 hr5 ⊢
        have hS := Lib.hid (fun W (h : Below w5.heap.size w5 W) => (⟨ldQ_run (hld.out W (hW6.out.trans (h.mono hW6.out.size))).1 hV8.out, ldQ_run (hld.out W (hW6.out.trans (h.mono hW6.out.size))).2 hU8.out⟩ :
          (ldQ ⟨w.heap.size, 0, none⟩).run Tryd.prog W = .ok (.agg V.toArray) W ∧ (ldQ ⟨w.heap.size + 1, 0, none⟩).run Tryd.prog W = .ok (.agg U.toArray) W))
        have d0 := Lib.hid (show Below w5.heap.size w5 w5.drew from drewN_below 1)
        have cA := Lib.hid (fun W (h : Below w5.heap.size w5 W) => cRV.out W (hB6.out.trans (h.mono hB6.out.size)))
        have cB := Lib.hid (fun W (h : Below w5.heap.size w5 W) => cRU.out W (hB6.out.trans (h.mono hB6.out.size)))
        go_region_held3 (fun W => (ldQ ⟨w.heap.size, 0, none⟩).run Tryd.prog W = .ok (.agg V.toArray) W ∧ (ldQ ⟨w.heap.size + 1, 0, none⟩).run Tryd.prog W = .ok (.agg U.toArray) W)
          (first | exact hS.out _ d0.out | exact hS.out _ d1.out | exact hS.out _ d2.out)
          (first
            | (go_at_call 12; (with_reducible refine (cA.out _ d0.out).mono ?_); rintro r w6 ⟨gA, UA, rfl, hUA, hPA, _, hb⟩; have hUA := Lib.hid hUA; have hPA := Lib.hid hPA; have d1 := Lib.hid (d0.out.trans (hb.mono d0.out.size)); clear hb)
            | (go_at_call 12; (with_reducible refine (cB.out _ d1.out).mono ?_); rintro r w9 ⟨gB, UB, rfl, hUB, hPB, _, hb⟩; have hUB := Lib.hid hUB; have hPB := Lib.hid hPB; have hUA := Lib.hid (hUA.out.keep hb); have hPA := Lib.hid (hPA.out.keep hb); have d2 := Lib.hid (d1.out.trans (hb.mono d1.out.size)); clear hb))
        have hT9 := Lib.hid (hT5.out.keep d2.out)
        have hB9 := Lib.hid (hB6.out.trans (d2.out.mono hB6.out.size))
        have hW9 := Lib.hid (hW6.out.trans (d2.out.mono hW6.out.size))
        have hr9 := Lib.hid (fun W (h : Below w9.heap.size w9 W) => hr5.out W (d2.out.trans (h.mono d2.out.size)))
        clear hT5 hr5 hS cA cB d0 d1
        go_wp2_with fail
        go_loopw [10, 11, 12, 13, 14] (fun t i _ _ _ wr => ∃ k : Nat, k ≤ 8 ∧ i = .int .i64 k ∧ ∃ TS, Hid (TurnK w9 wr t TS M k)) (fun _ i _ _ _ _ => 8 - (intOf i).toNat)
        case atStart => exact ⟨0, by omega, rfl, [], ⟨OwnR.nil_ _ _ _ _, rfl, fun j v m h => by simp at h, Below.refl _ _⟩⟩
        case round =>
          obtain ⟨k, hk, rfl, TS, hK⟩ := hrel
          obtain ⟨wo, rfl⟩ : ∃ wo : World, wo = wr := ⟨_, rfl⟩
          have hB := Lib.hid hK.out.b
          by_cases hlt : k < 8
          · obtain ⟨b, off, v, e, hb, hv, hc⟩ := (hUA.out.keep hB.out).at_ hlt
            injection e with e
            injection e with e1 e2
            subst e1; subst e2
            obtain ⟨A, n, c, l, hv2, hl, hnc, hcm, hSt⟩ := (hPA.out.keep hB.out).get hlt
            obtain rfl : v = .slice A n c := by rw [hv] at hv2; injection hv2
            obtain ⟨b', off', v', e, hb', hv', hc'⟩ := (hUB.out.keep hB.out).at_ hlt
            injection e with e
            injection e with e1 e2
            subst e1; subst e2
            obtain ⟨A', n', c', m, hv2', hm, hnc', hcm', hSt'⟩ := (hPB.out.keep hB.out).get hlt
            obtain rfl : v' = .slice A' n' c' := by rw [hv'] at hv2'; injection hv2'
            obtain ⟨x, p, hxk, hlp, hax, hbx, hmiss⟩ := hpl.out k l m hlt hl hm
            obtain ⟨b3, off3, x3, e3, _, hx3, hc3⟩ := (hT9.out.keep hB.out).at_ (j := k) hlt
            injection e3 with e3
            injection e3 with e31 e32
            subst e31; subst e32
            rw [hxk] at hx3
            injection hx3 with hx3
            subst hx3
            rw [Nat.zero_add] at hc hc' hc3
            have hn6 : n' ≤ 1000000 := by have h1 := hnM.out m (List.mem_of_getElem? hm); have h2 := hSt'.len; omega
            have hA1 := Lib.hid (fun W (h : Below wo.heap.size wo W) => (⟨(h.cell (p := ⟨gA, k, none⟩) hb).trans hc, (h.cell (p := ⟨gB, k, none⟩) hb').trans hc', (h.cell (p := ⟨gc + 1 + 1, k, none⟩) (by assumption)).trans hc3⟩ : W.cell? ⟨gA, k, none⟩ = some (.slice A n c) ∧ W.cell? ⟨gB, k, none⟩ = some (.slice A' n' c') ∧ W.cell? ⟨gc + 1 + 1, k, none⟩ = some (.string x)))
            have cH1 := fun q => refHas_any l A n c x (wo.drewN q) (by omega) (hSt.keep (drewN_below q))
            have cH2 := fun q => refHas_any m A' n' c' x (wo.drewN q) (by omega) (hSt'.keep (drewN_below q))
            rw [hax] at cH1
            rw [hbx] at cH2
            have cH1 := Lib.hid cH1
            have cH2 := Lib.hid cH2
            have cH3 := Lib.hid (fun W y (h : Below wo.heap.size wo W) => refHas_any m A' n' c' y W (by omega) (hSt'.keep h))
            have hS1 := Lib.hid (fun W (h : Below wo.heap.size wo W) => hSt.keep h)
            have hS2 := Lib.hid (fun W (h : Below wo.heap.size wo W) => hSt'.keep h)
            have hpn : p < n := by have := (List.getElem?_eq_some_iff.1 hlp).1; have := hSt.len; omega
            have hmlen := Lib.hid hSt'.len
            have hlp := Lib.hid hlp
            have hmiss := Lib.hid hmiss
            have hmk := Lib.hid hm
            have i1 : (0 : Int) ≤ (k : Int) := by omega
            have i2 : (k : Int) < 8 := by omega
            clear hv hv2 hl hb hSt hv' hv2' hm hb' hSt' hxk hax hbx
            go_wp2_with fail
            go_quiet ((first
              | (go_at_call 13; (with_reducible exact Calls.quiet_of_same ((cH1.out _).mono (fun e w' h => ⟨h.1, h.2.symm⟩))))
              | (go_at_call 13; (with_reducible exact Calls.quiet_of_same ((cH2.out _).mono (fun e w' h => ⟨h.1, h.2.symm⟩))))))
            go_wp2_with fail
            clear hc hc' hc3
            go_loopw [12] (fun i w2 => ∃ j : Nat, j ≤ p ∧ i = .int .i64 j ∧ Hid (Below wo.heap.size wo w2)) (fun i _ => n - (intOf i).toNat)
            case atStart => exact ⟨0, Nat.zero_le _, rfl, drewN_below _⟩
            case round =>
              obtain ⟨j, hj, rfl, hb2⟩ := hrel
              obtain ⟨wi, rfl⟩ : ∃ wi : World, wi = wr := ⟨_, rfl⟩
              obtain ⟨c1, c2, c3⟩ := hA1.out wi hb2.out
              obtain ⟨b4, off4, y, rfl, _, hy, cy⟩ := (hS1.out wi hb2.out).at_ (j := j) (by omega)
              have i3 : (0 : Int) ≤ (j : Int) := by omega
              have i4 : (j : Int) < (n : Int) := by omega
              cases he : (y.toList == x.toList) with
              | false =>
                have hbf : (!(y.toList == x.toList)) = true := by rw [he]; rfl
                have hjp : j < p := by
                  rcases Nat.lt_or_ge j p with h | h
                  · exact h
                  · have e : j = p := by omega
                    subst e
                    rw [hlp.out] at hy
                    injection hy with hy
                    subst hy
                    simp at he
                have hmi := hmiss.out j y hjp hy
                have hmi := Lib.hid hmi
                clear hy
                go_wp2_with fail
                go_quiet (fail)
                go_wp2_with fail
                have hb19 := hb2.out.trans (Below.mono (drewN_below nq) hb2.out.size)
                have cy19 : (wi.drewN nq).cell? ⟨b4, off4 + j, none⟩ = some (.string y) := cy
                obtain ⟨e1, e2, e3⟩ := hA1.out _ hb19
                generalize wi.drewN nq = w19 at hb19 cy19 e1 e2 e3 ⊢
                clear c1 c2 c3 cy
                have hb19 := Lib.hid hb19
                have cH := fun q => cH3.out (w19.drewN q) y (hb19.out.trans (Below.mono (drewN_below q) hb19.out.size))
                rw [hmi.out] at cH
                have cH := Lib.hid cH
                go_quiet ((go_at_call 13; exact Calls.quiet_of_same ((cH.out _).mono (fun e w' h => ⟨h.1, h.2.symm⟩))))
                go_wp2_with fail
                go_roundw
                case rel => exact ⟨j + 1, by omega, by go_num, hb19.out.trans (Below.mono (drewN_below _) hb19.out.size)⟩
                case measure => simp [intOf]; omega
              | true =>
                have hbf : (!(y.toList == x.toList)) = false := by rw [he]; rfl
                have k1 : (n' : Int) ≤ 1000000 := by omega
                have k2 : (0 : Int) ≤ (n' : Int) := by omega
                clear hy
                go_wp2_with fail
                go_quiet (fail)
                go_wp2_with fail
                go_loopw [13, 14] (fun t i w3 => ∃ z : Nat, z ≤ n' ∧ i = .int .i64 ((z : Int) - 1) ∧ Hid (OwnS w3 wo.heap.size t (m.drop z).reverse) ∧ Hid (Below wo.heap.size wo w3)) (fun _ i _ => (intOf i + 1).toNat)
                case atStart => exact ⟨n', Nat.le_refl _, by go_num, by unfold Hid; rw [← hmlen.out, List.drop_length]; exact OwnR.nil_ _ _ _ _, hb2.out.trans (Below.mono (drewN_below _) hb2.out.size)⟩
                case round =>
                  obtain ⟨z, hz, rfl, hO, hB3⟩ := hrel
                  obtain ⟨wz, rfl⟩ : ∃ wz : World, wz = wr := ⟨_, rfl⟩
                  clear c1 c2 c3 cy
                  obtain ⟨c1, c2, c3⟩ := hA1.out wz hB3.out
                  by_cases hz0' : z = 0
                  · subst hz0'
                    obtain ⟨At, nt, ct, rfl⟩ := own_slice hO.out
                    have hOm := Lib.hid (show OwnS wz w9.heap.size (.slice At nt ct) m.reverse from (by have := hO.out; rw [List.drop_zero] at this; exact this.base hB.out.size))
                    clear hO
                    go_wp2_with (at_builtin; refine append_turned rfl (.tmp 127) (.tmp 129) rfl rfl rfl hK.out hlt hmk.out hB3.out hOm.out ?_; intro v7 w7 hN; have hN := Lib.hid hN)
                    go_roundw
                    case rel => exact ⟨k + 1, by omega, by go_num, _, hN⟩
                    case measure => simp [intOf]; omega
                  · obtain ⟨z', rfl⟩ : ∃ z', z = z' + 1 := ⟨z - 1, by omega⟩
                    obtain ⟨b5, off5, y5, rfl, _, hy5, cy5⟩ := (hS2.out wz hB3.out).at_ (j := z') (by omega)
                    have hdr := drop_rev hy5
                    have hle : (m.drop (z' + 1)).reverse.length ≤ 1000000 := by rw [List.length_reverse, List.length_drop, hmlen.out]; omega
                    have hg4 := below_got wz (.cells #[.string y5] 9)
                    have hO1 := Lib.hid (hO.out.keep hg4)
                    have hB1' := Lib.hid (hB3.out.trans (hg4.mono hB3.out.size))
                    have i5 : (0 : Int) ≤ (z' : Int) := by omega
                    have i6 : (z' : Int) < (n' : Int) := by omega
                    have hdr := Lib.hid hdr
                    clear hg4 hO hy5
                    simp only [show (((z' + 1 : Nat) : Int) - 1) = (z' : Int) by omega]
                    go_wp2_with (at_builtin
                                 refine wpList_append_one rfl _ _ 22 rfl 9 i0 (.string ByteArray.empty) 1 16 Tryd.underlying22 hi0 hz0 hz1 hz2 rfl (by decide) wo hB1'.out _ _ rfl hO1.out wz.heap.size 1 (sv y5) rfl ?_ rfl ?_ ?_ ?_ ?_
                                 · exact rangeAt_list (heap_new wz (.cells #[.string y5] 9))
                                 · intro u hu; simp [sv] at hu; subst hu; rfl
                                 · simp only [List.length_map]; unfold maxLen; omega
                                 · simp only [List.length_map]; omega
                                 intro v' w2 hO2 hB2' _
                                 have hO2 := Lib.hid hO2
                                 have hB2' := Lib.hid hB2')
                    go_roundw
                    case rel => exact ⟨z', by omega, by go_num, (by unfold Hid OwnS; rw [hdr.out]; simpa using hO2.out), hB2'⟩
                    case measure => first | (simp [intOf]; done) | (simp [intOf]; omega)
          · obtain rfl : k = 8 := by omega
            obtain ⟨gt, ct, rfl, hVt, hPt⟩ := hK.out.done hM8.out
            have cO := Lib.hid (ofPf_any gt ct TS (M.map List.reverse) wo hVt hPt (rev_lens hnM.out))
            have hC9 := Lib.hid (hB9.out.trans (hB.out.mono hB9.out.size))
            have hX9 := Lib.hid (hW9.out.trans (hB.out.mono hW9.out.size))
            clear hVt hPt
            go_wp2_with (first
              | (go_at_call 14; (with_reducible refine cO.out.mono ?_); rintro r w10 ⟨B, rfl, hP10, hb10⟩; have hone := pf_one hP10; have h108 := hP10.v8; have hz10 := heap_new w10 (.cells #[.slice none 0 0, .slice none 0 0, .slice none 0 0, .slice none 0 0, .slice none 0 0, .slice none 0 0, .slice none 0 0, .slice none 0 0] 24); have hsz10 : (Tryd.prog.info? 24).map (·.size) = some B.toArray.size := (by rw [List.size_toArray, h108]; kernel_rfl); have hszB : (Tryd.prog.info? 24).map (·.size) = some B.length := (by rw [h108]; kernel_rfl); have hss10 : (#[.slice none 0 0, .slice none 0 0, .slice none 0 0, .slice none 0 0, .slice none 0 0, .slice none 0 0, .slice none 0 0, .slice none 0 0] : Array Value).size = B.toArray.size := (by show 8 = B.toArray.size; simp [h108]); have hD10 := Lib.hid (hB.out.trans ((hb10.trans ((below_got w10 (.cells B.toArray 24)).mono hb10.size)).mono hB.out.size)); have hC10 := Lib.hid (hC9.out.trans ((hb10.trans ((below_got w10 (.cells B.toArray 24)).mono hb10.size)).mono hC9.out.size)); have lV10 := (hld.out _ (hX9.out.trans ((hb10.trans ((below_got w10 (.cells B.toArray 24)).mono hb10.size)).mono hX9.out.size))).1; have lB10 := rangeAt_list (cs := B) (heap_new w10 (.cells B.toArray 24)); have hP10 := Lib.hid (hP10.keep (below_got w10 (.cells B.toArray 24))); clear hb10)
              | (refine wpList_alloc_row 24 rfl rfl #[.slice none 0 0, .slice none 0 0, .slice none 0 0, .slice none 0 0, .slice none 0 0, .slice none 0 0, .slice none 0 0, .slice none 0 0] pf_zero ?_)
              | (refine wpList_store_at 24 _ _ rfl rfl w10.heap.size B.toArray rfl rfl 24 #[.slice none 0 0, .slice none 0 0, .slice none 0 0, .slice none 0 0, .slice none 0 0, .slice none 0 0, .slice none 0 0, .slice none 0 0] hz10 hsz10 hss10 hone ?_; rw [setRow_new])
              | (refine wpList_load_at 24 (.tmp 2) rfl (by rfl) w.heap.size 0 rfl V _ (by assumption) Tryd.underlying24 rfl hszV ?_)
              | (refine wpList_load_at 24 (.tmp 15) rfl (by rfl) w10.heap.size 0 rfl B _ lB10 Tryd.underlying24 rfl hszB ?_)
              | (go_at_call 10; (with_reducible refine (cD.out B _ hC10.out hP10.out).mono ?_); rintro r w11 ⟨rfl, hb11⟩; have hn11 := heap_new w11 (.cells #[.string ⟨#[]⟩, .string ⟨#[]⟩, .string ⟨#[]⟩, .string ⟨#[]⟩, .string ⟨#[]⟩, .string ⟨#[]⟩, .string ⟨#[]⟩, .string ⟨#[]⟩] 28); have hD11 := Lib.hid (hD10.out.trans ((hb11.trans ((below_got w11 (.cells #[.string x0, .string x1, .string x2, .string x3, .string x4, .string x5, .string x6, .string x7] 28)).mono hb11.size)).mono hD10.out.size)); have hC11 := Lib.hid (hC10.out.trans ((hb11.trans ((below_got w11 (.cells #[.string x0, .string x1, .string x2, .string x3, .string x4, .string x5, .string x6, .string x7] 28)).mono hb11.size)).mono hC10.out.size)); have lD11 := rangeAt_list (cs := [.string x0, .string x1, .string x2, .string x3, .string x4, .string x5, .string x6, .string x7]) (heap_new w11 (.cells #[.string x0, .string x1, .string x2, .string x3, .string x4, .string x5, .string x6, .string x7] 28)); have hlt11 := (Array.getElem?_eq_some_iff.1 (heap_new w11 (.cells #[.string x0, .string x1, .string x2, .string x3, .string x4, .string x5, .string x6, .string x7] 28))).1; clear hb11)
              | (refine wpList_alloc_row 28 rfl rfl #[.string ⟨#[]⟩, .string ⟨#[]⟩, .string ⟨#[]⟩, .string ⟨#[]⟩, .string ⟨#[]⟩, .string ⟨#[]⟩, .string ⟨#[]⟩, .string ⟨#[]⟩] hz8 ?_)
              | (refine wpList_store_at 28 _ _ rfl rfl w11.heap.size #[.string x0, .string x1, .string x2, .string x3, .string x4, .string x5, .string x6, .string x7] rfl rfl 28 #[.string ⟨#[]⟩, .string ⟨#[]⟩, .string ⟨#[]⟩, .string ⟨#[]⟩, .string ⟨#[]⟩, .string ⟨#[]⟩, .string ⟨#[]⟩, .string ⟨#[]⟩] hn11 (by kernel_rfl) rfl (by simp [Value.oneCell']) ?_; rw [setRow_new])
              | (go_at_call 9; (with_reducible refine (aw.out _ hC11.out).mono ?_); rintro r w12 ⟨rfl, hb12⟩; have lD12 := rangeAt_keep lD11 hb12 hlt11; have lC12 := hr9.out _ (hD11.out.trans (hb12.mono hD11.out.size)); have hC12 := Lib.hid (hC11.out.trans (hb12.mono hC11.out.size)); clear hb12)
              | (refine wpList_load_at 28 (.tmp 17) rfl (by rfl) w11.heap.size 0 rfl [.string x0, .string x1, .string x2, .string x3, .string x4, .string x5, .string x6, .string x7] _ lD12 Tryd.underlying28 rfl (by kernel_rfl) ?_)
              | (refine wpList_load_at 28 (.tmp 5) rfl (by rfl) gc 0 rfl [.string x0, .string x1, .string x2, .string x3, .string x4, .string x5, .string x6, .string x7] _ lC12 Tryd.underlying28 rfl (by kernel_rfl) ?_)
              | (refine wpList_eql_at 28 28 (.tmp 151) (.tmp 152) rfl (by rfl) #[.string x0, .string x1, .string x2, .string x3, .string x4, .string x5, .string x6, .string x7] #[.string x0, .string x1, .string x2, .string x3, .string x4, .string x5, .string x6, .string x7] rfl rfl ch_guard true (heq.out _) ?_))
            go_ret
            exact ⟨rfl, hC12.out⟩
end
end Go.Proofs.YtfoegpacjkcidaaDoor
