/- The walk of PrefsMethods: one of its ways. -/
import Derived.Test.YtlonejkmdibkaaaDoorPfT
namespace Go.Proofs.YtlonejkmdibkaaaDoor
open Go.RowKit

set_option maxRecDepth 100000 in
set_option maxHeartbeats 8000000 in
theorem prefsMethods_A (s : ByteArray) (m : Int) (b : Bool) (w : World) (hm : m < 1) (h100 : ¬ 100 < s.size) (P : PV w) :
    Calls Tryd.prog 5 #[.string s, .int .i64 m, .bool b] w fun r w' => r = .returned (.bool true) ∧ Below w.heap.size w w' := by
  have aw := Lib.hid (fun W (h : Below w.heap.size w W) => awake15_any W (P.keep h))
  have cN := Lib.hid (refNames_any w)
  have hn1 := below_got w (.cells #[.string ⟨#[99, 117, 114, 118, 101, 50, 53, 53, 49, 57, 45, 115, 104, 97, 50, 53, 54]⟩, .string ⟨#[101, 99, 100, 104, 45, 115, 104, 97, 50, 45, 110, 105, 115, 116, 112, 50, 53, 54]⟩, .string ⟨#[100, 105, 102, 102, 105, 101, 45, 104, 101, 108, 108, 109, 97, 110, 45, 103, 114, 111, 117, 112, 45, 101, 120, 99, 104, 97, 110, 103, 101, 45, 115, 104, 97, 50, 53, 54]⟩] 9)
  have hnc := names_cells w
  have hns := names_strs w
  have cP := Lib.hid (fun W (h : Below w.heap.size w W) => plainPf_any W (P.keep h))
  have cM := fun W (h : Below w.heap.size w W) => method_any s W (P.keep h)
  have cR := fun W => refMethod_any s W
  have cNm := fun W (h : Below w.heap.size w W) => name_any m W (P.keep h)
  have cMk := fun W => mark_any b W
  have cSt := fun W => strict_any b W
  generalize methN s = me at cM cR
  have cM := Lib.hid cM
  have cR := Lib.hid cR
  have cSm := Lib.hid (fun (l : List ByteArray) A B n c m d W h1 h2 h3 h4 => same_one l A B n c m d W h1 h2 h3 h4)
  have h100' : s.size ≤ 100 := by omega
  clear P h100
  have kH := Lib.hid (show ∀ W : World, Strs (W.alloc (.cells #[.string ⟨#[115, 115, 104, 45, 101, 100, 50, 53, 53, 49, 57]⟩, .string ⟨#[114, 115, 97, 45, 115, 104, 97, 50, 45, 50, 53, 54]⟩] 9)) (some ⟨W.heap.size, 0, none⟩) 2 hostL from fun W => lits hostL W (by decide))
  have kE := Lib.hid (show ∀ W : World, Strs (W.alloc (.cells #[.string ⟨#[97, 101, 115, 50, 53, 54, 45, 103, 99, 109]⟩, .string ⟨#[97, 101, 115, 49, 50, 56, 45, 99, 116, 114]⟩] 9)) (some ⟨W.heap.size, 0, none⟩) 2 encL from fun W => lits encL W (by decide))
  have kM := Lib.hid (show ∀ W : World, Strs (W.alloc (.cells #[.string ⟨#[104, 109, 97, 99, 45, 115, 104, 97, 50, 45, 50, 53, 54]⟩, .string ⟨#[104, 109, 97, 99, 45, 115, 104, 97, 50, 45, 53, 49, 50]⟩] 9)) (some ⟨W.heap.size, 0, none⟩) 2 macL from fun W => lits macL W (by decide))
  have kN := Lib.hid (show ∀ W : World, Strs (W.alloc (.cells #[.string ⟨#[110, 111, 110, 101]⟩] 9)) (some ⟨W.heap.size, 0, none⟩) 1 nonL from fun W => lits nonL W (by decide))
  have hw : nameAt m = ⟨#[]⟩ := nameAt_none (by omega)
  rw [hw] at cNm
  clear hw
  have cNm := Lib.hid cNm
  cases b
  · have cMk := Lib.hid (show ∀ W, Calls Tryd.prog 26 #[.bool false] W fun r w' => r = .returned (.string ⟨#[101, 120, 116, 45, 105, 110, 102, 111, 45, 99]⟩) ∧ W = w' from cMk)
    have cSt := Lib.hid (show ∀ W, Calls Tryd.prog 27 #[.bool false] W fun r w' => r = .returned (.string ⟨#[107, 101, 120, 45, 115, 116, 114, 105, 99, 116, 45, 99, 45, 118, 48, 48]⟩) ∧ W = w' from cSt)
    as_aux_lemma =>
      go_enter Tryd.func5, Tryd.ntmps5
      go_upto_region 10 with (go_at_call 21; refine cN.out.mono ?_; rintro r w4 ⟨rfl, rfl⟩)
      generalize (w.alloc (.cells #[.string ⟨#[99, 117, 114, 118, 101, 50, 53, 53, 49, 57, 45, 115, 104, 97, 50, 53, 54]⟩, .string ⟨#[101, 99, 100, 104, 45, 115, 104, 97, 50, 45, 110, 105, 115, 116, 112, 50, 53, 54]⟩, .string ⟨#[100, 105, 102, 102, 105, 101, 45, 104, 101, 108, 108, 109, 97, 110, 45, 103, 114, 111, 117, 112, 45, 101, 120, 99, 104, 97, 110, 103, 101, 45, 115, 104, 97, 50, 53, 54]⟩] 9)) = w1 at hn1 hns hnc ⊢
      have hB1 := Lib.hid hn1
      have hN1 := Lib.hid hns
      clear hnc hn1 hns
      go_wp2_with (first
        | (go_at_call 22; (with_reducible refine (cP.out _ hB1.out).mono ?_); rintro r w2 ⟨V2, rfl, hP2, hb2⟩; obtain ⟨A0, n0, c0, A1, n1, c1, A2, n2, c2, A3, n3, c3, A4, n4, c4, A5, n5, c5, A6, n6, c6, A7, n7, c7, rfl, ⟨h0, h1, h2, h3, h4, h5, h6, h7⟩, hV⟩ := pf_parts hP2; have hz2 := heap_new w2 (.cells #[.slice none 0 0, .slice none 0 0, .slice none 0 0, .slice none 0 0, .slice none 0 0, .slice none 0 0, .slice none 0 0, .slice none 0 0] 44); have hV := Lib.hid hV; have hB2 := Lib.hid (hB1.out.trans (hb2.mono hB1.out.size)); have hN := Lib.hid (fun W (h : Below w2.heap.size w2 W) => hN1.out.keep (hb2.trans (h.mono hb2.size))); clear hb2 hP2)
        | (refine wpList_alloc_row 44 rfl rfl #[.slice none 0 0, .slice none 0 0, .slice none 0 0, .slice none 0 0, .slice none 0 0, .slice none 0 0, .slice none 0 0, .slice none 0 0] pf_zero ?_)
        | (refine wpList_store_at 44 _ _ rfl rfl w2.heap.size #[.slice A0 n0 c0, .slice A1 n1 c1, .slice A2 n2 c2, .slice A3 n3 c3, .slice A4 n4 c4, .slice A5 n5 c5, .slice A6 n6 c6, .slice A7 n7 c7] rfl rfl 44 #[.slice none 0 0, .slice none 0 0, .slice none 0 0, .slice none 0 0, .slice none 0 0, .slice none 0 0, .slice none 0 0, .slice none 0 0] hz2 (by kernel_rfl) rfl (by simp [Value.oneCell']) ?_; rw [setRow_new]; have hcl := Lib.hid (fun W (h : Below (w2.alloc (.cells #[.slice A0 n0 c0, .slice A1 n1 c1, .slice A2 n2 c2, .slice A3 n3 c3, .slice A4 n4 c4, .slice A5 n5 c5, .slice A6 n6 c6, .slice A7 n7 c7] 44)).heap.size (w2.alloc (.cells #[.slice A0 n0 c0, .slice A1 n1 c1, .slice A2 n2 c2, .slice A3 n3 c3, .slice A4 n4 c4, .slice A5 n5 c5, .slice A6 n6 c6, .slice A7 n7 c7] 44)) W) => pf_cells (heap_new w2 (.cells #[.slice A0 n0 c0, .slice A1 n1 c1, .slice A2 n2 c2, .slice A3 n3 c3, .slice A4 n4 c4, .slice A5 n5 c5, .slice A6 n6 c6, .slice A7 n7 c7] 44)) h))
        | (go_at_call 20; (with_reducible refine (aw.out _ (hB2.out.trans ((below_got w2 _).mono hB2.out.size))).mono ?_); rintro r w4 ⟨rfl, hb⟩; have hE := Lib.hid hb; have hD := Lib.hid ((below_got w2 (.cells #[.slice A0 n0 c0, .slice A1 n1 c1, .slice A2 n2 c2, .slice A3 n3 c3, .slice A4 n4 c4, .slice A5 n5 c5, .slice A6 n6 c6, .slice A7 n7 c7] 44)).trans (hb.mono (below_got w2 _).size)); clear hb)
        | (go_at_call 23; (with_reducible refine (cM.out _ (hB2.out.trans (hD.out.mono hB2.out.size))).mono ?_); rintro r w5 ⟨rfl, rfl⟩)
        | (go_at_call 24; (with_reducible refine (cR.out _).mono ?_); rintro r w6 ⟨rfl, hb⟩; have hD := Lib.hid (hD.out.trans (hb.mono hD.out.size)); have hE := Lib.hid (hE.out.trans (hb.mono hE.out.size)); obtain ⟨d0, d1, d2, d3, d4, d5, d6, d7⟩ := hcl.out _ hE.out; clear hb)
        | (go_at_call 25; (with_reducible refine (cNm.out _ (hB2.out.trans (hD.out.mono hB2.out.size))).mono ?_); rintro r w6 ⟨rfl, rfl⟩)
        | (go_at_call 26; (with_reducible refine (cMk.out _).mono ?_); rintro r w6 ⟨rfl, rfl⟩)
        | (go_at_call 27; (with_reducible refine (cSt.out _).mono ?_); rintro r w6 ⟨rfl, rfl⟩)
        | (go_at_call 28; (with_reducible refine (cSm.out methL _ _ _ _ _ _ _ h0 (by decide) (hV.out _ hD.out).1 (hN.out _ hD.out)).mono ?_); rintro r x0 ⟨rfl, hb⟩; have hE := Lib.hid (hE.out.trans (hb.mono hE.out.size)); have hD := Lib.hid (hD.out.trans (hb.mono hD.out.size)); obtain ⟨d0, d1, d2, d3, d4, d5, d6, d7⟩ := hcl.out _ hE.out; clear hb)
        | (go_at_call 28; (with_reducible refine (cSm.out hostL _ _ _ _ _ _ _ h1 (by decide) (hV.out _ (hD.out.trans ((below_got _ _).mono hD.out.size))).2.1 (kH.out _)).mono ?_); rintro r x1 ⟨rfl, hb⟩; have hE := Lib.hid ((hE.out.trans ((below_got _ _).mono hE.out.size)).trans (hb.mono (hE.out.trans ((below_got _ _).mono hE.out.size)).size)); have hD := Lib.hid ((hD.out.trans ((below_got _ _).mono hD.out.size)).trans (hb.mono (hD.out.trans ((below_got _ _).mono hD.out.size)).size)); obtain ⟨d0, d1, d2, d3, d4, d5, d6, d7⟩ := hcl.out _ hE.out; clear hb)
        | (go_at_call 28; (with_reducible refine (cSm.out encL _ _ _ _ _ _ _ h2 (by decide) (hV.out _ (hD.out.trans ((below_got _ _).mono hD.out.size))).2.2.1 (kE.out _)).mono ?_); rintro r x2 ⟨rfl, hb⟩; have hE := Lib.hid ((hE.out.trans ((below_got _ _).mono hE.out.size)).trans (hb.mono (hE.out.trans ((below_got _ _).mono hE.out.size)).size)); have hD := Lib.hid ((hD.out.trans ((below_got _ _).mono hD.out.size)).trans (hb.mono (hD.out.trans ((below_got _ _).mono hD.out.size)).size)); obtain ⟨d0, d1, d2, d3, d4, d5, d6, d7⟩ := hcl.out _ hE.out; clear hb)
        | (go_at_call 28; (with_reducible refine (cSm.out encL _ _ _ _ _ _ _ h3 h2 (hV.out _ hD.out).2.2.2.1 (hV.out _ hD.out).2.2.1).mono ?_); rintro r x3 ⟨rfl, hb⟩; have hE := Lib.hid (hE.out.trans (hb.mono hE.out.size)); have hD := Lib.hid (hD.out.trans (hb.mono hD.out.size)); obtain ⟨d0, d1, d2, d3, d4, d5, d6, d7⟩ := hcl.out _ hE.out; clear hb)
        | (go_at_call 28; (with_reducible refine (cSm.out macL _ _ _ _ _ _ _ h4 (by decide) (hV.out _ (hD.out.trans ((below_got _ _).mono hD.out.size))).2.2.2.2.1 (kM.out _)).mono ?_); rintro r x4 ⟨rfl, hb⟩; have hE := Lib.hid ((hE.out.trans ((below_got _ _).mono hE.out.size)).trans (hb.mono (hE.out.trans ((below_got _ _).mono hE.out.size)).size)); have hD := Lib.hid ((hD.out.trans ((below_got _ _).mono hD.out.size)).trans (hb.mono (hD.out.trans ((below_got _ _).mono hD.out.size)).size)); obtain ⟨d0, d1, d2, d3, d4, d5, d6, d7⟩ := hcl.out _ hE.out; clear hb)
        | (go_at_call 28; (with_reducible refine (cSm.out macL _ _ _ _ _ _ _ h5 h4 (hV.out _ hD.out).2.2.2.2.2.1 (hV.out _ hD.out).2.2.2.2.1).mono ?_); rintro r x5 ⟨rfl, hb⟩; have hE := Lib.hid (hE.out.trans (hb.mono hE.out.size)); have hD := Lib.hid (hD.out.trans (hb.mono hD.out.size)); obtain ⟨d0, d1, d2, d3, d4, d5, d6, d7⟩ := hcl.out _ hE.out; clear hb)
        | (go_at_call 28; (with_reducible refine (cSm.out nonL _ _ _ _ _ _ _ h6 (by decide) (hV.out _ (hD.out.trans ((below_got _ _).mono hD.out.size))).2.2.2.2.2.2.1 (kN.out _)).mono ?_); rintro r x6 ⟨rfl, hb⟩; have hE := Lib.hid ((hE.out.trans ((below_got _ _).mono hE.out.size)).trans (hb.mono (hE.out.trans ((below_got _ _).mono hE.out.size)).size)); have hD := Lib.hid ((hD.out.trans ((below_got _ _).mono hD.out.size)).trans (hb.mono (hD.out.trans ((below_got _ _).mono hD.out.size)).size)); obtain ⟨d0, d1, d2, d3, d4, d5, d6, d7⟩ := hcl.out _ hE.out; clear hb)
        | (go_at_call 28; (with_reducible refine (cSm.out nonL _ _ _ _ _ _ _ h7 h6 (hV.out _ hD.out).2.2.2.2.2.2.2 (hV.out _ hD.out).2.2.2.2.2.2.1).mono ?_); rintro r x7 ⟨rfl, hb⟩; have hE := Lib.hid (hE.out.trans (hb.mono hE.out.size)); have hD := Lib.hid (hD.out.trans (hb.mono hD.out.size)); obtain ⟨d0, d1, d2, d3, d4, d5, d6, d7⟩ := hcl.out _ hE.out; clear hb))
      go_ret
      exact ⟨rfl, hB2.out.trans (hD.out.mono hB2.out.size)⟩
  · have cMk := Lib.hid (show ∀ W, Calls Tryd.prog 26 #[.bool true] W fun r w' => r = .returned (.string ⟨#[101, 120, 116, 45, 105, 110, 102, 111, 45, 115]⟩) ∧ W = w' from cMk)
    have cSt := Lib.hid (show ∀ W, Calls Tryd.prog 27 #[.bool true] W fun r w' => r = .returned (.string ⟨#[107, 101, 120, 45, 115, 116, 114, 105, 99, 116, 45, 115, 45, 118, 48, 48]⟩) ∧ W = w' from cSt)
    as_aux_lemma =>
      go_enter Tryd.func5, Tryd.ntmps5
      go_upto_region 10 with (go_at_call 21; refine cN.out.mono ?_; rintro r w4 ⟨rfl, rfl⟩)
      generalize (w.alloc (.cells #[.string ⟨#[99, 117, 114, 118, 101, 50, 53, 53, 49, 57, 45, 115, 104, 97, 50, 53, 54]⟩, .string ⟨#[101, 99, 100, 104, 45, 115, 104, 97, 50, 45, 110, 105, 115, 116, 112, 50, 53, 54]⟩, .string ⟨#[100, 105, 102, 102, 105, 101, 45, 104, 101, 108, 108, 109, 97, 110, 45, 103, 114, 111, 117, 112, 45, 101, 120, 99, 104, 97, 110, 103, 101, 45, 115, 104, 97, 50, 53, 54]⟩] 9)) = w1 at hn1 hns hnc ⊢
      have hB1 := Lib.hid hn1
      have hN1 := Lib.hid hns
      clear hnc hn1 hns
      go_wp2_with (first
        | (go_at_call 22; (with_reducible refine (cP.out _ hB1.out).mono ?_); rintro r w2 ⟨V2, rfl, hP2, hb2⟩; obtain ⟨A0, n0, c0, A1, n1, c1, A2, n2, c2, A3, n3, c3, A4, n4, c4, A5, n5, c5, A6, n6, c6, A7, n7, c7, rfl, ⟨h0, h1, h2, h3, h4, h5, h6, h7⟩, hV⟩ := pf_parts hP2; have hz2 := heap_new w2 (.cells #[.slice none 0 0, .slice none 0 0, .slice none 0 0, .slice none 0 0, .slice none 0 0, .slice none 0 0, .slice none 0 0, .slice none 0 0] 44); have hV := Lib.hid hV; have hB2 := Lib.hid (hB1.out.trans (hb2.mono hB1.out.size)); have hN := Lib.hid (fun W (h : Below w2.heap.size w2 W) => hN1.out.keep (hb2.trans (h.mono hb2.size))); clear hb2 hP2)
        | (refine wpList_alloc_row 44 rfl rfl #[.slice none 0 0, .slice none 0 0, .slice none 0 0, .slice none 0 0, .slice none 0 0, .slice none 0 0, .slice none 0 0, .slice none 0 0] pf_zero ?_)
        | (refine wpList_store_at 44 _ _ rfl rfl w2.heap.size #[.slice A0 n0 c0, .slice A1 n1 c1, .slice A2 n2 c2, .slice A3 n3 c3, .slice A4 n4 c4, .slice A5 n5 c5, .slice A6 n6 c6, .slice A7 n7 c7] rfl rfl 44 #[.slice none 0 0, .slice none 0 0, .slice none 0 0, .slice none 0 0, .slice none 0 0, .slice none 0 0, .slice none 0 0, .slice none 0 0] hz2 (by kernel_rfl) rfl (by simp [Value.oneCell']) ?_; rw [setRow_new]; have hcl := Lib.hid (fun W (h : Below (w2.alloc (.cells #[.slice A0 n0 c0, .slice A1 n1 c1, .slice A2 n2 c2, .slice A3 n3 c3, .slice A4 n4 c4, .slice A5 n5 c5, .slice A6 n6 c6, .slice A7 n7 c7] 44)).heap.size (w2.alloc (.cells #[.slice A0 n0 c0, .slice A1 n1 c1, .slice A2 n2 c2, .slice A3 n3 c3, .slice A4 n4 c4, .slice A5 n5 c5, .slice A6 n6 c6, .slice A7 n7 c7] 44)) W) => pf_cells (heap_new w2 (.cells #[.slice A0 n0 c0, .slice A1 n1 c1, .slice A2 n2 c2, .slice A3 n3 c3, .slice A4 n4 c4, .slice A5 n5 c5, .slice A6 n6 c6, .slice A7 n7 c7] 44)) h))
        | (go_at_call 20; (with_reducible refine (aw.out _ (hB2.out.trans ((below_got w2 _).mono hB2.out.size))).mono ?_); rintro r w4 ⟨rfl, hb⟩; have hE := Lib.hid hb; have hD := Lib.hid ((below_got w2 (.cells #[.slice A0 n0 c0, .slice A1 n1 c1, .slice A2 n2 c2, .slice A3 n3 c3, .slice A4 n4 c4, .slice A5 n5 c5, .slice A6 n6 c6, .slice A7 n7 c7] 44)).trans (hb.mono (below_got w2 _).size)); clear hb)
        | (go_at_call 23; (with_reducible refine (cM.out _ (hB2.out.trans (hD.out.mono hB2.out.size))).mono ?_); rintro r w5 ⟨rfl, rfl⟩)
        | (go_at_call 24; (with_reducible refine (cR.out _).mono ?_); rintro r w6 ⟨rfl, hb⟩; have hD := Lib.hid (hD.out.trans (hb.mono hD.out.size)); have hE := Lib.hid (hE.out.trans (hb.mono hE.out.size)); obtain ⟨d0, d1, d2, d3, d4, d5, d6, d7⟩ := hcl.out _ hE.out; clear hb)
        | (go_at_call 25; (with_reducible refine (cNm.out _ (hB2.out.trans (hD.out.mono hB2.out.size))).mono ?_); rintro r w6 ⟨rfl, rfl⟩)
        | (go_at_call 26; (with_reducible refine (cMk.out _).mono ?_); rintro r w6 ⟨rfl, rfl⟩)
        | (go_at_call 27; (with_reducible refine (cSt.out _).mono ?_); rintro r w6 ⟨rfl, rfl⟩)
        | (go_at_call 28; (with_reducible refine (cSm.out methL _ _ _ _ _ _ _ h0 (by decide) (hV.out _ hD.out).1 (hN.out _ hD.out)).mono ?_); rintro r x0 ⟨rfl, hb⟩; have hE := Lib.hid (hE.out.trans (hb.mono hE.out.size)); have hD := Lib.hid (hD.out.trans (hb.mono hD.out.size)); obtain ⟨d0, d1, d2, d3, d4, d5, d6, d7⟩ := hcl.out _ hE.out; clear hb)
        | (go_at_call 28; (with_reducible refine (cSm.out hostL _ _ _ _ _ _ _ h1 (by decide) (hV.out _ (hD.out.trans ((below_got _ _).mono hD.out.size))).2.1 (kH.out _)).mono ?_); rintro r x1 ⟨rfl, hb⟩; have hE := Lib.hid ((hE.out.trans ((below_got _ _).mono hE.out.size)).trans (hb.mono (hE.out.trans ((below_got _ _).mono hE.out.size)).size)); have hD := Lib.hid ((hD.out.trans ((below_got _ _).mono hD.out.size)).trans (hb.mono (hD.out.trans ((below_got _ _).mono hD.out.size)).size)); obtain ⟨d0, d1, d2, d3, d4, d5, d6, d7⟩ := hcl.out _ hE.out; clear hb)
        | (go_at_call 28; (with_reducible refine (cSm.out encL _ _ _ _ _ _ _ h2 (by decide) (hV.out _ (hD.out.trans ((below_got _ _).mono hD.out.size))).2.2.1 (kE.out _)).mono ?_); rintro r x2 ⟨rfl, hb⟩; have hE := Lib.hid ((hE.out.trans ((below_got _ _).mono hE.out.size)).trans (hb.mono (hE.out.trans ((below_got _ _).mono hE.out.size)).size)); have hD := Lib.hid ((hD.out.trans ((below_got _ _).mono hD.out.size)).trans (hb.mono (hD.out.trans ((below_got _ _).mono hD.out.size)).size)); obtain ⟨d0, d1, d2, d3, d4, d5, d6, d7⟩ := hcl.out _ hE.out; clear hb)
        | (go_at_call 28; (with_reducible refine (cSm.out encL _ _ _ _ _ _ _ h3 h2 (hV.out _ hD.out).2.2.2.1 (hV.out _ hD.out).2.2.1).mono ?_); rintro r x3 ⟨rfl, hb⟩; have hE := Lib.hid (hE.out.trans (hb.mono hE.out.size)); have hD := Lib.hid (hD.out.trans (hb.mono hD.out.size)); obtain ⟨d0, d1, d2, d3, d4, d5, d6, d7⟩ := hcl.out _ hE.out; clear hb)
        | (go_at_call 28; (with_reducible refine (cSm.out macL _ _ _ _ _ _ _ h4 (by decide) (hV.out _ (hD.out.trans ((below_got _ _).mono hD.out.size))).2.2.2.2.1 (kM.out _)).mono ?_); rintro r x4 ⟨rfl, hb⟩; have hE := Lib.hid ((hE.out.trans ((below_got _ _).mono hE.out.size)).trans (hb.mono (hE.out.trans ((below_got _ _).mono hE.out.size)).size)); have hD := Lib.hid ((hD.out.trans ((below_got _ _).mono hD.out.size)).trans (hb.mono (hD.out.trans ((below_got _ _).mono hD.out.size)).size)); obtain ⟨d0, d1, d2, d3, d4, d5, d6, d7⟩ := hcl.out _ hE.out; clear hb)
        | (go_at_call 28; (with_reducible refine (cSm.out macL _ _ _ _ _ _ _ h5 h4 (hV.out _ hD.out).2.2.2.2.2.1 (hV.out _ hD.out).2.2.2.2.1).mono ?_); rintro r x5 ⟨rfl, hb⟩; have hE := Lib.hid (hE.out.trans (hb.mono hE.out.size)); have hD := Lib.hid (hD.out.trans (hb.mono hD.out.size)); obtain ⟨d0, d1, d2, d3, d4, d5, d6, d7⟩ := hcl.out _ hE.out; clear hb)
        | (go_at_call 28; (with_reducible refine (cSm.out nonL _ _ _ _ _ _ _ h6 (by decide) (hV.out _ (hD.out.trans ((below_got _ _).mono hD.out.size))).2.2.2.2.2.2.1 (kN.out _)).mono ?_); rintro r x6 ⟨rfl, hb⟩; have hE := Lib.hid ((hE.out.trans ((below_got _ _).mono hE.out.size)).trans (hb.mono (hE.out.trans ((below_got _ _).mono hE.out.size)).size)); have hD := Lib.hid ((hD.out.trans ((below_got _ _).mono hD.out.size)).trans (hb.mono (hD.out.trans ((below_got _ _).mono hD.out.size)).size)); obtain ⟨d0, d1, d2, d3, d4, d5, d6, d7⟩ := hcl.out _ hE.out; clear hb)
        | (go_at_call 28; (with_reducible refine (cSm.out nonL _ _ _ _ _ _ _ h7 h6 (hV.out _ hD.out).2.2.2.2.2.2.2 (hV.out _ hD.out).2.2.2.2.2.2.1).mono ?_); rintro r x7 ⟨rfl, hb⟩; have hE := Lib.hid (hE.out.trans (hb.mono hE.out.size)); have hD := Lib.hid (hD.out.trans (hb.mono hD.out.size)); obtain ⟨d0, d1, d2, d3, d4, d5, d6, d7⟩ := hcl.out _ hE.out; clear hb))
      go_ret
      exact ⟨rfl, hB2.out.trans (hD.out.mono hB2.out.size)⟩
end Go.Proofs.YtlonejkmdibkaaaDoor
