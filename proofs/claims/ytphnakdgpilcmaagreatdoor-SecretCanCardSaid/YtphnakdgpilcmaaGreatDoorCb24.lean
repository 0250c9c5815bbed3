/- SecretCan: the walk of the law. (printed by wip/gen_see.py) -/
import Derived.Test.YtphnakdgpilcmaaGreatDoorCb23
import Derived.Test.YtphnakdgpilcmaaGreatDoorCb15
namespace Go.Proofs.YtphnakdgpilcmaaGreatDoor
open Go.RowKit Go.Maps

theorem mHow_nil (x : Int) (W : World) : Calls Tryz.prog 17 #[.pointer none, .int .i64 x] W fun r w' => r = .returned (.tuple #[.slice none 0 0, .bool false]) ∧ W = w' := by
  have cC := Lib.hid (mCan_nil x W)
  go_enter Tryz.func17, Tryz.ntmps17
  go_wp2_with (go_at_call 13; (with_reducible refine cC.out.mono ?_); rintro r w2 ⟨rfl, rfl⟩)
  go_ret2
  exact ⟨rfl, rfl⟩
theorem rcanO_any (hs : List Tm) (A : Option Addr) (n c : Nat) (hn : n ≤ 1000000) (hhs : ∀ u ∈ hs, u.ok ∧ u.enc.length ≤ 4000000000) (o : Option Tm) (ho : okO o) (hl : (encO o).length ≤ 4000000000) (W : World) (H : Strs W A n (encS3 hs)) :
    Calls Tryz.prog 22 #[.slice A n c, .string (bs (encO o))] W (RAns (canO hs o) W) := by
  cases o with
  | none => exact (rcan_none A n c W).mono fun r w' ⟨h1, h2⟩ => ⟨false, h1, ⟨fun h => (by cases h), fun ⟨t, h, _⟩ => (by cases h)⟩, by subst h2; exact Below.refl _ _⟩
  | some t => exact (rcan_all hs A n c hn hhs t (ho t rfl) hl W H).mono fun r w' ⟨q, h1, h2, h3⟩ => ⟨q, h1, h2.trans ⟨fun h => ⟨t, rfl, h⟩, fun ⟨u, h, hd⟩ => (by obtain rfl := Option.some.inj h; exact hd)⟩, h3⟩
theorem canO_same {H0 l l' : List Tm} (h : Mind H0 l) (h' : Mind H0 l') (o : Option Tm) : canO l o ↔ canO l' o := ⟨fun ⟨t, h1, h2⟩ => ⟨t, h1, (h.same h').1 h2⟩, fun ⟨t, h1, h2⟩ => ⟨t, h1, (h.same h').2 h2⟩⟩
theorem haveL_eq (known sent : List (Option Tm)) : (known ++ sent).filterMap id = haveL known sent := rfl
attribute [local go_sem ↓] ldMd_eq
def dsSee12 : List (Option Nat) := [some 69, some 70, some 71, some 72, some 73, some 74, some 75, some 76, some 77, some 78, some 79, some 80, some 81, some 82, some 83]
def tbSee12 : List (List Nat) := [[], [], [1], [], [2, 3], [4], [0, 5], [], [], [8], [], [9, 10], [11], [7, 12], [6, 13]]
def vsSee12 (q : Nat) (b1 : Nat) (o1 : Nat) (b2 : Nat) (o2 : Nat) (n : Nat) (cI : Nat) (cT : Nat) (i : Nat) (x : Int) (Y : ByteArray) (mx : Nat) (Ah : Option Addr) (hl : Nat) (ch : Nat) (qx : Bool) : List (Option Value) := [some (.pointer (some ⟨mx, 0, none⟩)), some (.pointer (some ⟨q, 0, none⟩)), some (.slice (some ⟨b1, o1, none⟩) n cI), some (.int .i64 i), some (.pointer (some ⟨b1, o1 + i, none⟩)), some (.int .i64 x), some (.bool qx), some (.slice Ah hl ch), some (.pointer (some ⟨q, 1, none⟩)), some (.slice (some ⟨b2, o2, none⟩) n cT), some (.int .i64 i), some (.pointer (some ⟨b2, o2 + i, none⟩)), some (.string Y), some (.bool qx), some (.bool false)]
set_option maxRecDepth 100000 in
set_option maxHeartbeats 8000000 in
theorem secretCan_any (ms : List Mk) (A : Option Addr) (n c : Nat) (c0 c1 c2 : Int) (w : World) (hn : n ≤ 9223372036854775807) (H : Rws w 5 A n (ms.map Mk.row)) :
    Calls Tryz.prog 6 #[.slice A n c, .agg (cutC c0 c1 c2)] w fun r w' => r = .returned (.bool true) ∧ Below w.heap.size w w' := by
  have hbW := below_new w (.cells (cutC c0 c1 c2) 23)
  have hx1 := heap_new w (.cells (cutC c0 c1 c2) 23)
  have H1 := H.keep hbW
  have hml : ms.length = n := by have := H.1; simpa using this
  obtain ⟨W1, hW1⟩ : ∃ W1, W1 = w.alloc (.cells (cutC c0 c1 c2) 23) := ⟨_, rfl⟩
  rw [← hW1] at hx1 hbW H1
  have hld := Lib.hid (rangeAt_list (cs := [.int .i64 c0, .int .i64 c1, .int .i64 c2]) hx1)
  have hp := Lib.hid hbW
  have cF := few33_any ms A n c c0 c1 c2 W1 hn H1
  unfold cutC at cF
  have cA := Lib.hid (fun W => awake33 W)
  have hx1h := Lib.hid hx1
  have Hh := Lib.hid H1
  clear H hx1 hbW H1
  cases hf : few33B ms c0 c1 c2 with
  | false =>
    rw [hf] at cF
    replace cF := Lib.hid cF
    clear hf hml
    go_enter Tryz.func6, Tryz.ntmps6
    go_upto_region 1 with fail
    rw [← hW1]
    clear hW1
    go_wp2_with (first
      | (refine wpList_load_at 23 (.tmp 3) rfl rfl w.heap.size 0 rfl [.int .i64 c0, .int .i64 c1, .int .i64 c2] _ hld.out Tryz.underlying23 rfl (by kernel_rfl) ?_)
      | (go_at_call 7; (with_reducible refine cF.out.mono ?_); rintro r w2 ⟨rfl, hb2⟩; replace hb2 := Lib.hid (hp.out.trans (hb2.mono hp.out.size)))
      | (go_at_call 8; refine (cA.out _).mono ?_; rintro r w3 ⟨rfl, hb3⟩))
    go_ret
    exact ⟨rfl, hb2.out.trans (hb3.mono hb2.out.size)⟩
  | true =>
    rw [hf] at cF
    obtain ⟨hn20, h200, ka, kb, kc, rfl, rfl, rfl, hab, hbc, hcn⟩ := few33_iff.1 hf
    rw [hml] at hn20 hcn
    have h200 := Lib.hid h200
    have hmlh := Lib.hid hml
    have habc := Lib.hid (And.intro hab (And.intro hbc hcn))
    replace cF := Lib.hid cF
    clear hf hml hn hab hbc hcn
    go_enter Tryz.func6, Tryz.ntmps6
    go_upto_region 1 with fail
    rw [← hW1]
    clear hW1
    go_upto_region 4 with (first
      | (refine wpList_load_at 23 (.tmp 3) rfl rfl w.heap.size 0 rfl [.int .i64 (ka : Int), .int .i64 (kb : Int), .int .i64 (kc : Int)] _ hld.out Tryz.underlying23 rfl (by kernel_rfl) ?_)
      | (go_at_call 7; (with_reducible refine cF.out.mono ?_); rintro r w2 ⟨rfl, hb2⟩; have cN := Lib.hid (tnew_any w2); replace hb2 := Lib.hid hb2)
      | (go_at_call 9; refine cN.out.mono ?_; rintro r w1 ⟨A0, rfl, hN, hA, hb⟩
         have hS0 := St.start hN hA hb
         have cM := Lib.hid (makes_any (c := c) ms w2 w1 A0.g (by omega) h200.out (Hh.out.keep hb2.out) hS0)
         have hz1 := Lib.hid hb.size
         have hb2w := Lib.hid (hp.out.trans (hb2.out.mono hp.out.size))
         have hx2 := Lib.hid ((hb2.out.block w.heap.size (Array.getElem?_eq_some_iff.1 hx1h.out).1).trans hx1h.out)
         clear hN hA hb cN hS0 cF
         generalize A0.g = g at *))
    go_upto_region 5 with (first
      | (go_at_call 10; refine cM.out.mono ?_; rintro r w3 hR
         obtain ⟨AI, cI, AT, cT, l, L, rfl, hMd, hL, hnew, hone, hrow⟩ := md_new hmlh.out hz1.out hR
         unfold boxW at hMd
         have hMdh := Lib.hid hMd
         have hnewh := Lib.hid hnew
         have honeh := Lib.hid hone
         have hLn := Lib.hid hL
         clear hR hnew hone hrow cM hMd)
      | (refine wpList_store_at 31 _ _ rfl rfl w3.heap.size #[.slice AI n cI, .slice AT n cT] rfl rfl 31 #[.slice none 0 0, .slice none 0 0] hnewh.out (by kernel_rfl) rfl honeh.out ?_))
    generalize ((w3.alloc (.cells #[.slice none 0 0, .slice none 0 0] 31)).setRow w3.heap.size #[.slice AI n cI, .slice AT n cT]) = W4 at *
    generalize w3.heap.size = q at *
    generalize mksO ms [] = os at *
    clear hnewh honeh hld hp hb2 hz1 Hh hx1h
    obtain ⟨p0, hp0⟩ : ∃ p0, w.heap.size = p0 := ⟨_, rfl⟩
    rw [hp0] at hx2 ⊢
    have hcI := (hMdh.out.sub3 (lo := 0) (hi := 0) (Nat.zero_le _)).2
    have hcT := (hMdh.out.subT3 (lo := 0) (hi := 0) (Nat.zero_le _)).2
    have hs1 := slLH_run3 28 u_ids3 z_ids3 AI n cI ka kb (by have := habc.out; omega) (by have := habc.out; omega)
    have hs2 := slLH_run3 28 u_ids3 z_ids3 AI n cI kb kc (by have := habc.out; omega) (by have := habc.out; omega)
    have hs3 := slLH_run3 29 u_strs3 z_strs3 AT n cT ka kb (by have := habc.out; omega) (by have := habc.out; omega)
    have hs4 := slLH_run3 29 u_strs3 z_strs3 AT n cT kb kc (by have := habc.out; omega) (by have := habc.out; omega)
    have hAt := Lib.hid (fun (W' : World) (hb : Below W4.heap.size W4 W') => (by
      have hM' := hMdh.out.below hb
      have h2 := (hM'.st.below.block p0 (Array.getElem?_eq_some_iff.1 hx2.out).1).trans hx2.out
      exact ⟨hM'.c0, cell_of_row W' p0 0 _ _ _ h2, cell_of_row W' p0 1 _ _ _ h2, cell_of_row W' p0 2 _ _ _ h2, hM'.st, (hM'.sub3 (lo := ka) (hi := kb) (by have := habc.out; omega)).1.ints, hM'.ints, hM'.c1, (hM'.sub3 (lo := kb) (hi := kc) (by have := habc.out; omega)).1.ints, (hM'.subT3 (lo := ka) (hi := kb) (by have := habc.out; omega)).1, (hM'.subT3 (lo := kb) (hi := kc) (by have := habc.out; omega)).1, hM'.strs⟩ :
      W'.cell? ⟨q, 0, none⟩ = some (.slice AI n cI) ∧ W'.cell? ⟨p0, 0, none⟩ = some (.int .i64 ka) ∧ W'.cell? ⟨p0, 1, none⟩ = some (.int .i64 kb) ∧ W'.cell? ⟨p0, 2, none⟩ = some (.int .i64 kc) ∧ St w2 g W' L ∧ Ints W' (behind3 AI ka cI) (kb - ka) (subL ka kb l) ∧ Ints W' AI n l ∧ W'.cell? ⟨q, 1, none⟩ = some (.slice AT n cT) ∧ Ints W' (behind3 AI kb cI) (kc - kb) (subL kb kc l) ∧ Strs W' (behind3 AT ka cT) (kb - ka) (subL ka kb (os.map fun o => bs (encO o))) ∧ Strs W' (behind3 AT kb cT) (kc - kb) (subL kb kc (os.map fun o => bs (encO o))) ∧ Strs W' AT n (os.map fun o => bs (encO o))))
    have hnm := Lib.hid (And.intro (hMdh.out.ml.toNmL.sub3 ka kb) (And.intro (hMdh.out.ml.toNmL.sub3 kb kc) hMdh.out.ml.toNmL))
    have hkk := Lib.hid (show kb - ka ≤ 1000 ∧ kc - kb ≤ 1000 by have := habc.out; omega)
    have hlo := Lib.hid (And.intro hMdh.out.ll hMdh.out.lo)
    have hdm := Lib.hid (hMdh.out.st.below)
    rw [← subL_map, ← subL_map] at hAt
    clear hcI hcT hMdh
    have hd1 : Below W4.heap.size W4 W4.drew := drewN_below 1
    obtain ⟨W5, hwd⟩ : ∃ W5, W4.drew = W5 := ⟨_, rfl⟩
    rw [hwd] at hd1
    obtain ⟨e0, e1, e2, e3, hS5, hk5, -, -, hq5, -, -, -⟩ := hAt.out W5 hd1
    have cX := Lib.hid (mnew_any hS5 (kc := cI - ka) (sc := cI - kb) hk5 hq5 hnm.out.1 hnm.out.2.1 hkk.out.1 hkk.out.2)
    have hd1h := Lib.hid hd1
    clear hd1 hS5 hk5 hq5
    generalize subL ka kb os = known at *
    generalize subL kb kc os = sent at *
    go_still_tail 15, (by kernel_rfl)
    change wpList _ _ _ _ _ W4.drew
    rw [hwd]
    clear hwd
    go_upto_region 6 with (go_at_call 12; (with_reducible refine cX.out.mono ?_); rintro r w6 hNew
                           obtain ⟨mx, bx, ix, lx, rfl, hFx, hMx, hS6, hb6⟩ := hNew.fix (hAt.out W5 hd1h.out).2.2.2.2.1
                           have hB6 := Lib.hid (hd1h.out.trans (hb6.mono hd1h.out.size))
                           have hFx := Lib.hid hFx
                           have hMx := Lib.hid hMx
                           clear hNew hS6 hb6)
    clear cX hd1h e0 e1 e2 e3 hs1 hs2
    have hd1 : Below w6.heap.size w6 w6.drew := drewN_below 1
    obtain ⟨W7, hwd⟩ : ∃ W7, w6.drew = W7 := ⟨_, rfl⟩
    rw [hwd] at hd1
    have hB7 := Lib.hid (hB6.out.trans (hd1.mono hB6.out.size))
    have hF7 := Lib.hid (hFx.out.keep hd1)
    obtain ⟨-, e1, e2, e3, hS7, -, -, f1, -, hT7, hU7, -⟩ := hAt.out W7 hB7.out
    have cT := Lib.hid (texts33_any (c := cT - ka) (d := cT - kb) _ _ _ _ _ _ W7 hkk.out.1 hkk.out.2 hT7 hU7)
    have hlx := Lib.hid (show (∀ t, Hd (haveL known sent) t → t ∈ lx) ∧ lx.length ≤ 100 ∧ ∀ t ∈ lx, t.ok ∧ t.enc.length ≤ 4000000000 from ⟨fun t h => hMx.out.iff.2 h, by obtain ⟨_, _, _, h⟩ := hF7.out.mi.len; exact h, fun t h => by
      have hg := hS7.good
      have hm := hF7.out.mi.nm.in_ t h
      exact ⟨hg.ok t hm, Nat.le_trans (hg.size t hm) (by decide)⟩⟩)
    have hkl := Lib.hid (show (known ++ sent).length ≤ 1000 by rw [List.length_append, ← hnm.out.1.len, ← hnm.out.2.1.len]; have h1 := (hAt.out W7 hB7.out).2.2.2.2.2.1.len; have h2 := (hAt.out W7 hB7.out).2.2.2.2.2.2.2.2.1.len; have := habc.out; omega)
    obtain ⟨nk, hnk⟩ : ∃ nk, (known ++ sent).length = nk := ⟨_, rfl⟩
    have hkl2 := Lib.hid (show nk ≤ 1000 by rw [← hnk]; exact hkl.out)
    replace hnk := Lib.hid hnk
    clear hd1 hS7 hT7 hU7 hFx hB6
    go_still_tail 14, (by kernel_rfl)
    change wpList _ _ _ _ _ w6.drew
    rw [hwd]
    clear hwd
    go_upto_region 7 with (first
      | (go_at_call 20; (with_reducible refine cT.out.mono ?_); rintro r w8 ⟨v8, rfl, hO8, hb8⟩
         obtain ⟨A8, c8, ev8, hI8⟩ := hO8.strs
         have hl8 : ((known.map fun o => bs (encO o)) ++ (sent.map fun o => bs (encO o))).length = (known ++ sent).length := by simp
         rw [hl8, hnk.out] at ev8 hI8
         rw [← List.map_append] at hI8
         subst ev8
         have hB8 := Lib.hid (hB7.out.trans (hb8.mono hB7.out.size))
         have hF8 := Lib.hid (hF7.out.keep hb8)
         have cH := Lib.hid (rhad_any (known ++ sent) lx A8 nk c8 w8 hkl2.out hI8 hlx.out.1 hlx.out.2.1 hlx.out.2.2)
         clear hO8 hI8 hl8 hb8)
      | (go_at_call 19; (with_reducible refine cH.out.mono ?_); rintro r w9 ⟨v9, hs, rfl, hO9, hMh, hb9⟩
         obtain ⟨Ah, ch, ev9, hI9⟩ := hO9.strs
         have hl9 : (encS3 hs).length = hs.length := by simp [encS3]
         rw [hl9] at ev9 hI9
         subst ev9
         have hB9 := Lib.hid (hB8.out.trans (hb9.mono hB8.out.size))
         have hF9 := Lib.hid (hF8.out.keep hb9)
         have hI9 := Lib.hid hI9
         have hMh := Lib.hid hMh
         clear hO9 hl9 hb9))
    clear cT cH e1 e2 e3 f1 hs3 hs4 hF7 hF8 hB7 hB8
    have hlen : lx.length = hs.length := hMx.out.len hMh.out
    have cLn := mLen_any hF9.out
    rw [hlen] at cLn
    replace cLn := Lib.hid cLn
    have hsame := Lib.hid (fun o => canO_same hMx.out hMh.out o)
    have hh100 : hs.length ≤ 100 := by rw [← hlen]; exact hlx.out.2.1
    have hhsok := Lib.hid (show ∀ u ∈ hs, u.ok ∧ u.enc.length ≤ 4000000000 from fun u hu => hlx.out.2.2 u (hlx.out.1 u (hMh.out.had u hu)))
    have cRC := Lib.hid (fun (W : World) (hb : Below w9.heap.size w9 W) (o : Option Tm) (ho : okO o) (hl : (encO o).length ≤ 4000000000) => rcanO_any hs Ah hs.length ch (by omega) hhsok.out o ho hl W (hI9.out.keep hb))
    clear hlen hlx hkl
    obtain ⟨hl, hhl⟩ : ∃ hl, hs.length = hl := ⟨_, rfl⟩
    rw [hhl] at cLn cRC hh100 ⊢
    clear hhl
    have h0 := Lib.hid (Below.refl w9.heap.size w9)
    go_upto_region 9 with (go_at_call 21; (with_reducible refine cLn.out.mono ?_); rintro r wl ⟨rfl, rfl⟩)
    clear cLn
    go_wp2_with fail
    go_loopw [9] (fun iv wr => ∃ i : Nat, i ≤ n ∧ iv = .int .i64 i ∧ Hid (Below w9.heap.size w9 wr)) (fun iv _ => n - (intOf iv).toNat)
    case atStart => exact ⟨0, Nat.zero_le _, rfl, h0⟩
    case round =>
      clear h0
      obtain ⟨i, hi, rfl, hb⟩ := hrel
      by_cases hlt : i < n
      · have hlt' : (i : Int) < (n : Int) := by omega
        have hBr := hB9.out.trans (hb.out.mono hB9.out.size)
        obtain ⟨e0, -, -, -, hSr, -, hIl, f1, -, -, -, hTl⟩ := hAt.out wr hBr
        obtain ⟨b1, o1, x, rfl, hbl, hx, hc⟩ := hIl.at_ hlt
        obtain ⟨b2, o2, Y, rfl, hbl2, hY, hc2⟩ := hTl.at_ hlt
        obtain ⟨o, ho⟩ : ∃ o, os[i]? = some o := ⟨os[i]'(by rw [hlo.out.2]; exact hlt), List.getElem?_eq_getElem _⟩
        rw [List.getElem?_map, ho] at hY
        obtain rfl : bs (encO o) = Y := Option.some.inj hY
        have hxo := hnm.out.2.2.nm i x o hx ho
        have hoo : okO o := by have := hSr.good.okO x; rwa [hxo.1] at this
        have hol : (encO o).length ≤ 4000000000 := Nat.le_trans (hnm.out.2.2.small hSr.good o (List.mem_of_getElem? ho)) (by decide)
        have hxi : i64 x := by have := hxo.lt; have := hLn.out; exact i64_small (by omega) (by omega)
        obtain ⟨qx, hqx⟩ : ∃ qx : Bool, (qx = true ↔ canO lx o) := by classical exact ⟨decide (canO lx o), by simp⟩
        have hcx := Lib.hid (fun W' (h : Below wr.heap.size wr W') => (⟨(h.cell (p := ⟨q, 0, none⟩) (lt_of_cell e0)).trans e0, (h.cell (p := ⟨b1, o1 + i, none⟩) (lt_of_cell hc)).trans hc, (h.cell (p := ⟨q, 1, none⟩) (lt_of_cell f1)).trans f1, (h.cell (p := ⟨b2, o2 + i, none⟩) (lt_of_cell hc2)).trans hc2⟩ : W'.cell? ⟨q, 0, none⟩ = some (.slice (some ⟨b1, o1, none⟩) n cI) ∧ W'.cell? ⟨b1, o1 + i, none⟩ = some (.int .i64 x) ∧ W'.cell? ⟨q, 1, none⟩ = some (.slice (some ⟨b2, o2, none⟩) n cT) ∧ W'.cell? ⟨b2, o2 + i, none⟩ = some (.string (bs (encO o)))))
        have cCx := Lib.hid (fun W' (h : Below wr.heap.size wr W') => Calls.mono (mCan_any ((hF9.out.keep hb.out).keep h) (hSr.keep h) x o hxo.1 hxi) fun (r : Ending) (W2 : World) ⟨q', h1, h2, h3⟩ => (show r = Ending.returned (.bool qx) ∧ Below W'.heap.size W' W2 from ⟨by rw [h1, show q' = qx by rw [Bool.eq_iff_iff, h2, hqx]], h3⟩))
        have cCy := Lib.hid (fun W' (h : Below wr.heap.size wr W') => Calls.mono (cRC.out W' (hb.out.trans (h.mono hb.out.size)) o hoo hol) fun (r : Ending) (W2 : World) ⟨q', h1, h2, h3⟩ => (show r = Ending.returned (.bool qx) ∧ Below W'.heap.size W' W2 from ⟨by rw [h1, show q' = qx by rw [Bool.eq_iff_iff, h2, hqx, hsame.out]], h3⟩))
        generalize bs (encO o) = Y at *
        have hbr := Lib.hid hb.out
        have hBrh := Lib.hid hBr
        have hxoh := Lib.hid hxo
        have hooh := Lib.hid hoo
        clear hx ho hxo hoo hol hqx e0 f1 hc hc2 hSr hIl hTl hBr hxi hY
        go_upto_region 12 with fail
        refine region_iw tbSee12 dsSee12 (vsSee12 q b1 o1 b2 o2 n cI cT i x Y mx Ah hl ch qx) (fun L T W => Below wr.heap.size wr W) rfl (by decide) (by kernel_rfl) ?hlt ?hstep ?hdone ?hstart
        case hstart => exact drewN_below 1
        case hlt =>
          intro ix o ho
          have hi := (Array.getElem?_eq_some_iff.1 ho).1
          match ix, hi with
          | 0, _ => obtain rfl := Option.some.inj ho; decide
          | 1, _ => obtain rfl := Option.some.inj ho; decide
          | 2, _ => obtain rfl := Option.some.inj ho; decide
          | 3, _ => obtain rfl := Option.some.inj ho; decide
          | 4, _ => obtain rfl := Option.some.inj ho; decide
          | 5, _ => obtain rfl := Option.some.inj ho; decide
          | 6, _ => obtain rfl := Option.some.inj ho; decide
          | 7, _ => obtain rfl := Option.some.inj ho; decide
          | 8, _ => obtain rfl := Option.some.inj ho; decide
          | 9, _ => obtain rfl := Option.some.inj ho; decide
          | 10, _ => obtain rfl := Option.some.inj ho; decide
          | 11, _ => obtain rfl := Option.some.inj ho; decide
          | 12, _ => obtain rfl := Option.some.inj ho; decide
          | 13, _ => obtain rfl := Option.some.inj ho; decide
          | 14, _ => obtain rfl := Option.some.inj ho; decide
        case hstep =>
          intro T1 hE L T W ix o hF hW hc ho hLi hd K hK
          have hN : T1.size = 172 := by rw [hE]; rfl
          have f6 : T.getD 6 undef = .pointer (some ⟨q, 0, none⟩) := (hF.old 6 (by decide)).trans (by rw [hE]; rfl)
          have f7 : T.getD 7 undef = .pointer (some ⟨mx, 0, none⟩) := (hF.old 7 (by decide)).trans (by rw [hE]; rfl)
          have f8 : T.getD 8 undef = .slice Ah hl ch := (hF.old 8 (by decide)).trans (by rw [hE]; rfl)
          have f9 : T.getD 9 undef = .int .i64 i := (hF.old 9 (by decide)).trans (by rw [hE]; rfl)
          clear hE
          replace hF := Lib.hid hF
          replace hW := Lib.hid hW
          replace hK := Lib.hid hK
          have hi := (List.getElem?_eq_some_iff.1 ho).1
          match ix, hi with
          | 0, _ =>
            obtain rfl := Option.some.inj ho
            clear hd ho hi hc hLi
            exact st_val (v := .pointer (some ⟨mx, 0, none⟩)) (w' := W) (want_none rfl) (by unfold execOp; dsimp only [Act.eval]; simp only [f7]; go_simp) (hK.out _ _ (hF.out.put (k := 0) (s := 69) rfl (by decide) hN (by decide) (fun u_v hu => Option.some.inj (Option.some.inj (show some (some (.pointer (some ⟨mx, 0, none⟩))) = some (some u_v) from hu))) hW.out))
          | 1, _ =>
            obtain rfl := Option.some.inj ho
            clear hd ho hi hc hLi
            exact st_val (v := .pointer (some ⟨q, 0, none⟩)) (w' := W) (want_none rfl) (by unfold execOp; dsimp only [Act.eval]; simp only [f6]; go_simp) (hK.out _ _ (hF.out.put (k := 1) (s := 70) rfl (by decide) hN (by decide) (fun u_v hu => Option.some.inj (Option.some.inj (show some (some (.pointer (some ⟨q, 0, none⟩))) = some (some u_v) from hu))) hW.out))
          | 2, _ =>
            obtain rfl := Option.some.inj ho
            have l1 : L 1 = true := dep_of hd (n := 1) (by decide)
            have e70 : T.getD 70 undef = .pointer (some ⟨q, 0, none⟩) := hF.out.val 1 70 _ l1 rfl rfl
            have hcc := (hcx.out W hW.out).1
            clear hd ho hi hc hLi
            exact st_val (v := .slice (some ⟨b1, o1, none⟩) n cI) (w' := W) (want_none rfl) (by unfold execOp; dsimp only [Act.eval]; simp only [e70]; go_simp) (hK.out _ _ (hF.out.put (k := 2) (s := 71) rfl (by decide) hN (by decide) (fun u_v hu => Option.some.inj (Option.some.inj (show some (some (.slice (some ⟨b1, o1, none⟩) n cI)) = some (some u_v) from hu))) hW.out))
          | 3, _ =>
            obtain rfl := Option.some.inj ho
            clear hd ho hi hc hLi
            exact st_val (v := .int .i64 i) (w' := W) (want_none rfl) (by unfold execOp; dsimp only [Act.eval]; simp only [f9]; go_simp) (hK.out _ _ (hF.out.put (k := 3) (s := 72) rfl (by decide) hN (by decide) (fun u_v hu => Option.some.inj (Option.some.inj (show some (some (.int .i64 i)) = some (some u_v) from hu))) hW.out))
          | 4, _ =>
            obtain rfl := Option.some.inj ho
            have l2 : L 2 = true := dep_of hd (n := 2) (by decide)
            have e71 : T.getD 71 undef = .slice (some ⟨b1, o1, none⟩) n cI := hF.out.val 2 71 _ l2 rfl rfl
            have l3 : L 3 = true := dep_of hd (n := 3) (by decide)
            have e72 : T.getD 72 undef = .int .i64 i := hF.out.val 3 72 _ l3 rfl rfl
            clear hd ho hi hc hLi
            exact st_val (v := .pointer (some ⟨b1, o1 + i, none⟩)) (w' := W) (want_none rfl) (by unfold execOp; dsimp only [Act.eval]; simp only [e71, e72]; go_simp) (hK.out _ _ (hF.out.put (k := 4) (s := 73) rfl (by decide) hN (by decide) (fun u_v hu => Option.some.inj (Option.some.inj (show some (some (.pointer (some ⟨b1, o1 + i, none⟩))) = some (some u_v) from hu))) hW.out))
          | 5, _ =>
            obtain rfl := Option.some.inj ho
            have l4 : L 4 = true := dep_of hd (n := 4) (by decide)
            have e73 : T.getD 73 undef = .pointer (some ⟨b1, o1 + i, none⟩) := hF.out.val 4 73 _ l4 rfl rfl
            have hcc := (hcx.out W hW.out).2.1
            clear hd ho hi hc hLi
            exact st_val (v := .int .i64 x) (w' := W) (want_none rfl) (by unfold execOp; dsimp only [Act.eval]; simp only [e73]; go_simp) (hK.out _ _ (hF.out.put (k := 5) (s := 74) rfl (by decide) hN (by decide) (fun u_v hu => Option.some.inj (Option.some.inj (show some (some (.int .i64 x)) = some (some u_v) from hu))) hW.out))
          | 6, _ =>
            obtain rfl := Option.some.inj ho
            have l0 : L 0 = true := dep_of hd (n := 0) (by decide)
            have e69 : T.getD 69 undef = .pointer (some ⟨mx, 0, none⟩) := hF.out.val 0 69 _ l0 rfl rfl
            have l5 : L 5 = true := dep_of hd (n := 5) (by decide)
            have e74 : T.getD 74 undef = .int .i64 x := hF.out.val 5 74 _ l5 rfl rfl
            have cc := Lib.hid (cCx.out W hW.out)
            clear hd ho hi hc hLi
            refine st_call (want_none rfl) (by unfold execOp; go_simp) cc.out ?_
            rintro r wz ⟨rfl, hb4⟩
            exact ⟨_, rfl, hK.out _ _ (hF.out.put (k := 6) (s := 75) rfl (by decide) hN (by decide) (fun u_v hu => Option.some.inj (Option.some.inj (show some (some (.bool qx)) = some (some u_v) from hu))) (hW.out.trans (hb4.mono hW.out.size)))⟩
          | 7, _ =>
            obtain rfl := Option.some.inj ho
            clear hd ho hi hc hLi
            exact st_val (v := .slice Ah hl ch) (w' := W) (want_none rfl) (by unfold execOp; dsimp only [Act.eval]; simp only [f8]; go_simp) (hK.out _ _ (hF.out.put (k := 7) (s := 76) rfl (by decide) hN (by decide) (fun u_v hu => Option.some.inj (Option.some.inj (show some (some (.slice Ah hl ch)) = some (some u_v) from hu))) hW.out))
          | 8, _ =>
            obtain rfl := Option.some.inj ho
            clear hd ho hi hc hLi
            exact st_val (v := .pointer (some ⟨q, 1, none⟩)) (w' := W) (want_none rfl) (by unfold execOp; dsimp only [Act.eval]; simp only [f6]; go_simp) (hK.out _ _ (hF.out.put (k := 8) (s := 77) rfl (by decide) hN (by decide) (fun u_v hu => Option.some.inj (Option.some.inj (show some (some (.pointer (some ⟨q, 1, none⟩))) = some (some u_v) from hu))) hW.out))
          | 9, _ =>
            obtain rfl := Option.some.inj ho
            have l8 : L 8 = true := dep_of hd (n := 8) (by decide)
            have e77 : T.getD 77 undef = .pointer (some ⟨q, 1, none⟩) := hF.out.val 8 77 _ l8 rfl rfl
            have hcc := (hcx.out W hW.out).2.2.1
            clear hd ho hi hc hLi
            exact st_val (v := .slice (some ⟨b2, o2, none⟩) n cT) (w' := W) (want_none rfl) (by unfold execOp; dsimp only [Act.eval]; simp only [e77]; go_simp) (hK.out _ _ (hF.out.put (k := 9) (s := 78) rfl (by decide) hN (by decide) (fun u_v hu => Option.some.inj (Option.some.inj (show some (some (.slice (some ⟨b2, o2, none⟩) n cT)) = some (some u_v) from hu))) hW.out))
          | 10, _ =>
            obtain rfl := Option.some.inj ho
            clear hd ho hi hc hLi
            exact st_val (v := .int .i64 i) (w' := W) (want_none rfl) (by unfold execOp; dsimp only [Act.eval]; simp only [f9]; go_simp) (hK.out _ _ (hF.out.put (k := 10) (s := 79) rfl (by decide) hN (by decide) (fun u_v hu => Option.some.inj (Option.some.inj (show some (some (.int .i64 i)) = some (some u_v) from hu))) hW.out))
          | 11, _ =>
            obtain rfl := Option.some.inj ho
            have l9 : L 9 = true := dep_of hd (n := 9) (by decide)
            have e78 : T.getD 78 undef = .slice (some ⟨b2, o2, none⟩) n cT := hF.out.val 9 78 _ l9 rfl rfl
            have l10 : L 10 = true := dep_of hd (n := 10) (by decide)
            have e79 : T.getD 79 undef = .int .i64 i := hF.out.val 10 79 _ l10 rfl rfl
            clear hd ho hi hc hLi
            exact st_val (v := .pointer (some ⟨b2, o2 + i, none⟩)) (w' := W) (want_none rfl) (by unfold execOp; dsimp only [Act.eval]; simp only [e78, e79]; go_simp) (hK.out _ _ (hF.out.put (k := 11) (s := 80) rfl (by decide) hN (by decide) (fun u_v hu => Option.some.inj (Option.some.inj (show some (some (.pointer (some ⟨b2, o2 + i, none⟩))) = some (some u_v) from hu))) hW.out))
          | 12, _ =>
            obtain rfl := Option.some.inj ho
            have l11 : L 11 = true := dep_of hd (n := 11) (by decide)
            have e80 : T.getD 80 undef = .pointer (some ⟨b2, o2 + i, none⟩) := hF.out.val 11 80 _ l11 rfl rfl
            have hcc := (hcx.out W hW.out).2.2.2
            clear hd ho hi hc hLi
            exact st_val (v := .string Y) (w' := W) (want_none rfl) (by unfold execOp; dsimp only [Act.eval]; simp only [e80]; go_simp) (hK.out _ _ (hF.out.put (k := 12) (s := 81) rfl (by decide) hN (by decide) (fun u_v hu => Option.some.inj (Option.some.inj (show some (some (.string Y)) = some (some u_v) from hu))) hW.out))
          | 13, _ =>
            obtain rfl := Option.some.inj ho
            have l7 : L 7 = true := dep_of hd (n := 7) (by decide)
            have e76 : T.getD 76 undef = .slice Ah hl ch := hF.out.val 7 76 _ l7 rfl rfl
            have l12 : L 12 = true := dep_of hd (n := 12) (by decide)
            have e81 : T.getD 81 undef = .string Y := hF.out.val 12 81 _ l12 rfl rfl
            have cc := Lib.hid (cCy.out W hW.out)
            clear hd ho hi hc hLi
            refine st_call (want_none rfl) (by unfold execOp; go_simp) cc.out ?_
            rintro r wz ⟨rfl, hb4⟩
            exact ⟨_, rfl, hK.out _ _ (hF.out.put (k := 13) (s := 82) rfl (by decide) hN (by decide) (fun u_v hu => Option.some.inj (Option.some.inj (show some (some (.bool qx)) = some (some u_v) from hu))) (hW.out.trans (hb4.mono hW.out.size)))⟩
          | 14, _ =>
            obtain rfl := Option.some.inj ho
            have l6 : L 6 = true := dep_of hd (n := 6) (by decide)
            have e75 : T.getD 75 undef = .bool qx := hF.out.val 6 75 _ l6 rfl rfl
            have l13 : L 13 = true := dep_of hd (n := 13) (by decide)
            have e82 : T.getD 82 undef = .bool qx := hF.out.val 13 82 _ l13 rfl rfl
            clear hd ho hi hc hLi
            exact st_val (v := .bool false) (w' := W) (want_none rfl) (by unfold execOp; dsimp only [Act.eval]; simp only [e75, e82]; go_simp; try (cases qx <;> rfl)) (hK.out _ _ (hF.out.put (k := 14) (s := 83) rfl (by decide) hN (by decide) (fun u_v hu => Option.some.inj (Option.some.inj (show some (some (.bool false)) = some (some u_v) from hu))) hW.out))
        case hdone =>
          intro L T W2 hF hW hall
          have hB12 := Lib.hid (hbr.out.trans (hW.mono hbr.out.size))
          obtain ⟨e0, hc, -, -⟩ := hcx.out W2 hW
          clear hW hcx cCx cCy hb hbr hBrh
          have hT : T = #[.slice A n c, .agg (cutC ka kb kc), undef, .pointer (some ⟨p0, 0, none⟩), u4, .pointer (some ⟨g, 0, none⟩), .pointer (some ⟨q, 0, none⟩), .pointer (some ⟨mx, 0, none⟩), .slice Ah hl ch, .int .i64 i, u10, u11, u12, u13, undef, undef, undef, .slice A n c, .agg #[.int .i64 ka, .int .i64 kb, .int .i64 kc], .bool true, .bool false, undef, .pointer (some ⟨g, 0, none⟩), .pointer (some ⟨g, 0, none⟩), .slice A n c, .agg #[.slice (some ⟨b1, o1, none⟩) n cI, .slice (some ⟨b2, o2, none⟩) n cT], .pointer (some ⟨g, 0, none⟩), .pointer (some ⟨q, 0, none⟩), .slice (some ⟨b1, o1, none⟩) n cI, .pointer (some ⟨p0, 0, none⟩), .int .i64 ka, .pointer (some ⟨p0, 1, none⟩), .int .i64 kb, .slice (behind3 (some ⟨b1, o1, none⟩) ka cI) (kb - ka) (cI - ka), .pointer (some ⟨q, 0, none⟩), .slice (some ⟨b1, o1, none⟩) n cI, .pointer (some ⟨p0, 1, none⟩), .int .i64 kb, .pointer (some ⟨p0, 2, none⟩), .int .i64 kc, .slice (behind3 (some ⟨b1, o1, none⟩) kb cI) (kc - kb) (cI - kb), .pointer (some ⟨mx, 0, none⟩), .pointer (some ⟨q, 1, none⟩), .slice (some ⟨b2, o2, none⟩) n cT, .pointer (some ⟨p0, 0, none⟩), .int .i64 ka, .pointer (some ⟨p0, 1, none⟩), .int .i64 kb, .slice (behind3 (some ⟨b2, o2, none⟩) ka cT) (kb - ka) (cT - ka), .pointer (some ⟨q, 1, none⟩), .slice (some ⟨b2, o2, none⟩) n cT, .pointer (some ⟨p0, 1, none⟩), .int .i64 kb, .pointer (some ⟨p0, 2, none⟩), .int .i64 kc, .slice (behind3 (some ⟨b2, o2, none⟩) kb cT) (kc - kb) (cT - kb), .slice A8 nk c8, .slice Ah hl ch, .pointer (some ⟨mx, 0, none⟩), .int .i64 hl, .slice Ah hl ch, .int .i64 hl, .bool false, .int .i64 i, .slice A n c, .int .i64 n, .bool true, u67, u68, .pointer (some ⟨mx, 0, none⟩), .pointer (some ⟨q, 0, none⟩), .slice (some ⟨b1, o1, none⟩) n cI, .int .i64 i, .pointer (some ⟨b1, o1 + i, none⟩), .int .i64 x, .bool qx, .slice Ah hl ch, .pointer (some ⟨q, 1, none⟩), .slice (some ⟨b2, o2, none⟩) n cT, .int .i64 i, .pointer (some ⟨b2, o2 + i, none⟩), .string Y, .bool qx, .bool false, u84, u85, u86, u87, u88, u89, u90, u91, u92, u93, u94, u95, u96, u97, u98, u99, u100, u101, u102, u103, u104, u105, u106, u107, u108, u109, u110, u111, u112, u113, u114, u115, u116, u117, u118, u119, u120, u121, u122, u123, u124, u125, u126, u127, u128, u129, u130, u131, u132, u133, u134, u135, u136, u137, u138, u139, u140, u141, undef, undef, undef, undef, undef, undef, undef, undef, undef, undef, undef, undef, undef, undef, undef, undef, undef, undef, undef, undef, undef, undef, undef, undef, undef, undef, undef, undef, undef, undef] := (hF.fin [(69, .pointer (some ⟨mx, 0, none⟩)), (70, .pointer (some ⟨q, 0, none⟩)), (71, .slice (some ⟨b1, o1, none⟩) n cI), (72, .int .i64 i), (73, .pointer (some ⟨b1, o1 + i, none⟩)), (74, .int .i64 x), (75, .bool qx), (76, .slice Ah hl ch), (77, .pointer (some ⟨q, 1, none⟩)), (78, .slice (some ⟨b2, o2, none⟩) n cT), (79, .int .i64 i), (80, .pointer (some ⟨b2, o2 + i, none⟩)), (81, .string Y), (82, .bool qx), (83, .bool false)] [69, 70, 71, 72, 73, 74, 75, 76, 77, 78, 79, 80, 81, 82, 83] rfl (List.forall_mem_cons.2 ⟨hF.val 0 _ _ (hall 0 (show 0 < 15 by decide)) rfl rfl, (List.forall_mem_cons.2 ⟨hF.val 1 _ _ (hall 1 (show 1 < 15 by decide)) rfl rfl, (List.forall_mem_cons.2 ⟨hF.val 2 _ _ (hall 2 (show 2 < 15 by decide)) rfl rfl, (List.forall_mem_cons.2 ⟨hF.val 3 _ _ (hall 3 (show 3 < 15 by decide)) rfl rfl, (List.forall_mem_cons.2 ⟨hF.val 4 _ _ (hall 4 (show 4 < 15 by decide)) rfl rfl, (List.forall_mem_cons.2 ⟨hF.val 5 _ _ (hall 5 (show 5 < 15 by decide)) rfl rfl, (List.forall_mem_cons.2 ⟨hF.val 6 _ _ (hall 6 (show 6 < 15 by decide)) rfl rfl, (List.forall_mem_cons.2 ⟨hF.val 7 _ _ (hall 7 (show 7 < 15 by decide)) rfl rfl, (List.forall_mem_cons.2 ⟨hF.val 8 _ _ (hall 8 (show 8 < 15 by decide)) rfl rfl, (List.forall_mem_cons.2 ⟨hF.val 9 _ _ (hall 9 (show 9 < 15 by decide)) rfl rfl, (List.forall_mem_cons.2 ⟨hF.val 10 _ _ (hall 10 (show 10 < 15 by decide)) rfl rfl, (List.forall_mem_cons.2 ⟨hF.val 11 _ _ (hall 11 (show 11 < 15 by decide)) rfl rfl, (List.forall_mem_cons.2 ⟨hF.val 12 _ _ (hall 12 (show 12 < 15 by decide)) rfl rfl, (List.forall_mem_cons.2 ⟨hF.val 13 _ _ (hall 13 (show 13 < 15 by decide)) rfl rfl, (List.forall_mem_cons.2 ⟨hF.val 14 _ _ (hall 14 (show 14 < 15 by decide)) rfl rfl, (fun _ h => absurd h List.not_mem_nil)⟩)⟩)⟩)⟩)⟩)⟩)⟩)⟩)⟩)⟩)⟩)⟩)⟩)⟩)⟩) (by decide)).trans (by kernel_rfl)
          clear hF hall
          subst hT
          have hBz := hB9.out.trans (hB12.out.mono hB9.out.size)
          have hSz := (hAt.out W2 hBz).2.2.2.2.1
          have hFz := hF9.out.keep hB12.out
          rcases o with _ | t
          · have cV := Lib.hid (hSz.view_none x hxoh.out.1)
            clear hBz hSz hFz
            go_upto_region 15 with (first
              | (go_at_call 23; refine cV.out.mono ?_; rintro r w10 ⟨rfl, hb10⟩
                 obtain ⟨z, b3, h3⟩ := nd_box2 w10 0 0 0 [] none 0 0
                 have hz := Lib.hid z
                 have hb3H := Lib.hid (hb10.trans (b3.mono hb10.size))
                 have h3H := Lib.hid h3
                 clear hb10 z b3 h3)
              | (refine wpList_store_at 52 _ _ rfl rfl w10.heap.size zNd.toArray rfl rfl 52 zNd.toArray hz.out (by kernel_rfl) rfl zNd_one ?_))
            have hb3 : Below W2.heap.size W2 ((w10.alloc (.cells #[.int .i64 0, .int .i64 0, .int .i64 0, .string ⟨#[]⟩, .slice none 0 0] 52)).setRow w10.heap.size zNd.toArray) := hb3H.out
            have h3 : ((w10.alloc (.cells #[.int .i64 0, .int .i64 0, .int .i64 0, .string ⟨#[]⟩, .slice none 0 0] 52)).setRow w10.heap.size zNd.toArray).heap[w10.heap.size]? = some (.cells zNd.toArray 52 (0, 0)) := h3H.out
            clear hb3H hz h3H cV
            generalize ((w10.alloc (.cells #[.int .i64 0, .int .i64 0, .int .i64 0, .string ⟨#[]⟩, .slice none 0 0] 52)).setRow w10.heap.size zNd.toArray) = w11 at *
            generalize w10.heap.size = p1 at *
            have d4 : w11.cell? ⟨p1, 4, none⟩ = some (.slice none 0 0) := cell_of_row w11 p1 4 _ _ _ h3
            have hB11 := Lib.hid (hB12.out.trans (hb3.mono hB12.out.size))
            clear h3 hb3
            go_wp2_with fail
            go_loopw [12] (fun kv wz => kv = .int .i64 0 ∧ wz = w11) (fun _ _ => 0)
            case atStart => exact ⟨rfl, rfl⟩
            case round =>
              obtain ⟨rfl, rfl⟩ := hrel
              go_wp2_with fail
              go_roundw
              case rel => exact ⟨i + 1, by omega, by go_num, hB11⟩
              case measure => simp [intOf]; omega
          · have cV := hSz.vown3 x t hxoh.out.1
            have hok := hooh.out t rfl
            have hm32 : t.args.length ≤ 32 := by
              obtain ⟨k2, a2, b2', s2, args2⟩ := t
              have := (ok_mk.1 hok).1; unfold okHd at this; show args2.length ≤ 32; omega
            have hargs := Lib.hid (ok_args hok)
            obtain ⟨k2, a2, b2', s2, args⟩ := t
            simp only [Tm.kind, Tm.a, Tm.b, Tm.s, Tm.args] at cV hm32 hargs
            replace cV := Lib.hid cV
            clear hBz hSz hFz hok
            go_upto_region 15 with (first
              | (go_at_call 23; refine cV.out.mono ?_; rintro r w10 ⟨Av, cv, xs, rfl, hO, hxs, hb10⟩
                 obtain ⟨z1, b3, r1⟩ := nd_box2 w10 k2 a2 b2' s2 Av args.length cv
                 have z1 := Lib.hid z1
                 have r1 := Lib.hid r1
                 have hb3H := Lib.hid (hb10.trans (b3.mono hb10.size))
                 have hO := Lib.hid (OwnR.keep hO b3)
                 have hxs := Lib.hid hxs
                 clear hb10 b3)
              | (refine wpList_store_at 52 _ _ rfl rfl w10.heap.size (ndC k2 a2 b2' s2 (.slice Av args.length cv)).toArray rfl rfl 52 zNd.toArray z1.out (by kernel_rfl) rfl nd_all ?_))
            replace r1 := r1.out
            replace hO := hO.out
            replace hb3H := hb3H.out
            clear z1 cV
            generalize (w10.alloc (.cells #[.int .i64 0, .int .i64 0, .int .i64 0, .string ⟨#[]⟩, .slice none 0 0] 52)).setRow w10.heap.size (ndC k2 a2 b2' s2 (.slice Av args.length cv)).toArray = w11 at *
            generalize w10.heap.size = p1 at *
            have d4 := (box_cells r1).2.2.2.2
            obtain ⟨nn, hnn⟩ : ∃ nn, (ndC k2 a2 b2' s2 (.slice Av args.length cv)).toArray = nn := ⟨_, rfl⟩
            rw [hnn] at r1
            rw [hnn]
            clear hnn
            obtain ⟨oz, z1, z2, z3, z4⟩ := zip_named hxs.out
            have hOD := own_zip hO z1
            obtain ⟨A7, c7, e7, hI7⟩ := hOD.ints
            injection e7 with e71 e72 _
            subst e71
            rw [← e72] at hI7
            have hI7h := Lib.hid hI7
            have hz := Lib.hid (And.intro z2 z3)
            have hB11 := Lib.hid (hB12.out.trans (hb3H.mono hB12.out.size))
            have h0 := Lib.hid (Below.refl w11.heap.size w11)
            clear r1 hO hb3H hxs z1 z2 z3 z4 hOD hI7 e72
            go_wp2_with fail
            go_loopw [12] (fun kv wz => ∃ k : Nat, k ≤ args.length ∧ kv = .int .i64 k ∧ Hid (Below w11.heap.size w11 wz)) (fun kv _ => args.length - (intOf kv).toNat)
            case atStart => exact ⟨0, Nat.zero_le _, rfl, h0⟩
            case round =>
              clear h0
              obtain ⟨k, hk, rfl, hbk⟩ := hrel
              have d4r := (hbk.out.cell (p := ⟨p1, 4, none⟩) (lt_of_cell d4)).trans d4
              by_cases hlk : k < args.length
              · have hlk' : (k : Int) < (args.length : Int) := by omega
                have hk40 : (k : Int) < 40 := by omega
                obtain ⟨u, hu⟩ : ∃ u, args[k]? = some u := ⟨args[k], List.getElem?_eq_getElem hlk⟩
                obtain ⟨zi, hzi, hgz⟩ := zip_at hz.out.1 hz.out.2 hu
                obtain ⟨b5, o5, y5, rfl, hbl5, hy5, hc5⟩ := hI7h.out.at_ hlk
                rw [hzi] at hy5
                obtain rfl := Option.some.inj hy5
                have hcell := (hbk.out.cell (p := ⟨b5, o5 + k, none⟩) hbl5).trans hc5
                have hBk := hB11.out.trans (hbk.out.mono hB11.out.size)
                have hSk := (hAt.out wr (hB9.out.trans (hBk.mono hB9.out.size))).2.2.2.2.1
                have hFk := hF9.out.keep hBk
                have huok := hargs.out u (List.mem_of_getElem? hu)
                have hul : u.enc.length ≤ 4000000000 := Nat.le_trans (hSk.good.size u (get_mem hgz)) (by decide)
                have cE := hSk.encode zi
                rw [hgz] at cE
                have cE : Calls Tryz.prog 24 #[.pointer (some ⟨g, 0, none⟩), .int .i64 zi] wr fun r w' => r = .returned (.string (bs u.enc)) ∧ Below wr.heap.size wr w' := cE
                obtain ⟨qu, hqu⟩ : ∃ q : Bool, (q = true ↔ der lx u) := by classical exact ⟨decide (der lx u), by simp⟩
                obtain ⟨qh, hqh⟩ : ∃ q : Bool, (q = true ↔ u ∈ lx) := by classical exact ⟨decide (u ∈ lx), by simp⟩
                have himp : qh = true → qu = true := fun h => hqu.2 (der_had (hqh.1 h))
                have cCu := Lib.hid (fun W' (h : Below wr.heap.size wr W') => Calls.mono (mCan_some (hFk.keep h) (hSk.keep h) zi u hgz) fun (r : Ending) (W2 : World) ⟨q', h1, h2, h3⟩ => (show r = Ending.returned (.bool qu) ∧ Below W'.heap.size W' W2 from ⟨by rw [h1, show q' = qu by rw [Bool.eq_iff_iff, h2, hqu]], h3⟩))
                have cRu := Lib.hid (fun W' (h : Below wr.heap.size wr W') => Calls.mono (cRC.out W' (hBk.trans (h.mono hBk.size)) (some u) (fun v hv => by obtain rfl := Option.some.inj hv; exact huok) hul) fun (r : Ending) (W2 : World) ⟨q', h1, h2, h3⟩ => (show r = Ending.returned (.bool qu) ∧ Below W'.heap.size W' W2 from ⟨by
                  rw [h1, show q' = qu by
                    rw [Bool.eq_iff_iff, h2, hqu, ← hsame.out]
                    exact ⟨fun ⟨v, h, hd⟩ => (by obtain rfl := Option.some.inj h; exact hd), fun h => ⟨u, rfl, h⟩⟩], h3⟩))
                have cRu : Hid (∀ W', Below wr.heap.size wr W' → Calls Tryz.prog 22 #[.slice Ah hl ch, .string (bs u.enc)] W' fun r W2 => r = Ending.returned (.bool qu) ∧ Below W'.heap.size W' W2) := cRu
                have cHu := Lib.hid (fun W' (h : Below wr.heap.size wr W') => Calls.mono (mHas_some (hFk.keep h) hSk.good.once hSk.few zi u hgz) fun (r : Ending) (W2 : World) ⟨q', h1, h2, h3⟩ => (show r = Ending.returned (.bool qh) ∧ W' = W2 from ⟨by rw [h1, show q' = qh by rw [Bool.eq_iff_iff, h2, hqh]], h3⟩))
                generalize bs u.enc = Z at *
                have cE := Lib.hid cE
                have hbkh := Lib.hid hbk.out
                clear hu hzi hc5 hBk hSk hFk huok hul hqu hqh hgz
                have hcombo : (qh = true ∧ qu = true) ∨ (qh = false ∧ qu = true) ∨ (qh = false ∧ qu = false) := by cases qh <;> cases qu <;> simp_all
                clear himp
                rcases hcombo with ⟨rfl, rfl⟩ | ⟨rfl, rfl⟩ | ⟨rfl, rfl⟩
                all_goals
                  go_wp2_with (first
                    | (go_at_call 24; (with_reducible refine cE.out.mono ?_); rintro r w12 ⟨rfl, hb12⟩
                       have cC1 := Lib.hid (cCu.out w12 hb12)
                       have d4s := (hb12.cell (p := ⟨p1, 4, none⟩) (lt_of_cell d4r)).trans d4r
                       have hcs := (hb12.cell (p := ⟨b5, o5 + k, none⟩) (lt_of_cell hcell)).trans hcell
                       replace hb12 := Lib.hid hb12
                       clear cE)
                    | (go_at_call 13; (with_reducible refine cC1.out.mono ?_); rintro r w13 ⟨rfl, hb13⟩
                       have hb13h := Lib.hid (hb12.out.trans (hb13.mono hb12.out.size))
                       have cR1 := Lib.hid (cRu.out w13 hb13h.out)
                       have d4t := (hb13.cell (p := ⟨p1, 4, none⟩) (lt_of_cell d4s)).trans d4s
                       have hct := (hb13.cell (p := ⟨b5, o5 + k, none⟩) (lt_of_cell hcs)).trans hcs
                       clear cC1 hb13)
                    | (go_at_call 22; (with_reducible refine cR1.out.mono ?_); rintro r w14 ⟨rfl, hb14⟩
                       have hb14h := Lib.hid (hb13h.out.trans (hb14.mono hb13h.out.size))
                       have cH1 := Lib.hid (cHu.out w14 hb14h.out)
                       have cC2 := Lib.hid (cCu.out w14 hb14h.out)
                       have d4u := (hb14.cell (p := ⟨p1, 4, none⟩) (lt_of_cell d4t)).trans d4t
                       have hcu := (hb14.cell (p := ⟨b5, o5 + k, none⟩) (lt_of_cell hct)).trans hct
                       have hbz := Lib.hid (hbkh.out.trans (hb14h.out.mono hbkh.out.size))
                       clear cR1 hb14)
                    | (go_at_call 14; (with_reducible refine cH1.out.mono ?_); rintro r w15 ⟨rfl, rfl⟩)
                    | (go_at_call 13; (with_reducible refine cC2.out.mono ?_); rintro r w16 ⟨rfl, hb16⟩
                       replace hbz := Lib.hid (hbz.out.trans (hb16.mono hbz.out.size))
                       clear hb16))
                  go_roundw
                  case rel => exact ⟨k + 1, by omega, by go_num, hbz⟩
                  case measure => simp [intOf]; omega
              · have hBk := Lib.hid (hB11.out.trans (hbk.out.mono hB11.out.size))
                go_wp2_with fail
                go_roundw
                case rel => exact ⟨i + 1, by omega, by go_num, hBk⟩
                case measure => simp [intOf]; omega
      · have hBr := hB9.out.trans (hb.out.mono hB9.out.size)
        have hSr := (hAt.out wr hBr).2.2.2.2.1
        have hw := Lib.hid (show Below w.heap.size w wr from hb2w.out.trans ((hdm.out.trans (hBr.mono hdm.out.size)).mono hb2w.out.size))
        have cZ := Lib.hid (fun W' (h : Below wr.heap.size wr W') => mCan_none ((hF9.out.keep hb.out).keep h) (hSr.keep h) (-1) (get_neg (by decide)) (i64_small (by decide) (by decide)))
        have cY := Lib.hid (fun W => mCan_nil 0 W)
        have cH := Lib.hid (fun W => mHas_nil 0 W)
        have cL := Lib.hid (fun W => mLen_nil W)
        have cHw := Lib.hid (fun W => mHow_nil 0 W)
        clear hBr hSr hb
        go_wp2_with (first
          | (go_at_call 17; (with_reducible refine (cHw.out _).mono ?_); rintro r w10 ⟨rfl, rfl⟩)
          | (go_at_call 8; (with_reducible refine (cA.out _).mono ?_); rintro r w10 ⟨rfl, hb10⟩; have cZ := Lib.hid (cZ.out w10 hb10); replace hb10 := Lib.hid (hw.out.trans (hb10.mono hw.out.size)))
          | (go_at_call 13; (with_reducible refine cZ.out.mono ?_); rintro r w11 ⟨rfl, hb11⟩; replace hb11 := Lib.hid (hb10.out.trans (hb11.mono hb10.out.size)))
          | (go_at_call 13; (with_reducible refine (cY.out _).mono ?_); rintro r w12 ⟨rfl, rfl⟩)
          | (go_at_call 14; (with_reducible refine (cH.out _).mono ?_); rintro r w13 ⟨rfl, rfl⟩)
          | (go_at_call 21; (with_reducible refine (cL.out _).mono ?_); rintro r w14 ⟨rfl, rfl⟩))
        go_ret
        exact ⟨rfl, hb11.out⟩
end Go.Proofs.YtphnakdgpilcmaaGreatDoor
