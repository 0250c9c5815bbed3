/- RecipeMakes: the walk of the law. (printed by wip/gen_rmb.py) -/
import Derived.Test.YtbeanjaenmpoeaaGreatDoorRb24
namespace Go.Proofs.YtbeanjaenmpoeaaGreatDoor
open Go.RowKit Go.Maps

def dsRm5 : List (Option Nat) := [some 36, some 37, some 38, some 39, some 40, some 41, some 42, some 43, some 44, some 45, some 46, some 9]
def tbRm5 : List (List Nat) := [[], [], [1], [], [2, 3], [], [5], [], [6, 7], [], [0, 4, 8, 9], [10]]
def vsRm5 (g : Nat) (q : Nat) (kk : Nat) (n : Nat) (n2 : Nat) (c2 : Nat) (cI : Nat) (cT : Nat) (m1 : Nat) (m2 : Nat) (m3 : Nat) (AI : Option Addr) (AT : Option Addr) (BI : Option Addr) (BT : Option Addr) (A2 : Option Addr) : List (Option Value) := [some (.pointer (some ⟨g, 0, none⟩)), some (.pointer (some ⟨q, 0, none⟩)), some (.slice AI n cI), some (.int .i64 kk), some (.slice AI kk cI), some (.pointer (some ⟨q, 0, none⟩)), some (.slice AI n cI), some (.int .i64 kk), some (.slice BI m1 m2), some (.slice A2 n2 c2), none, none]
def dsRm6 : List (Option Nat) := [some 47, some 48, some 49, some 50, some 51, some 52, some 53, some 54, some 55, some 56, some 57, some 10]
def tbRm6 : List (List Nat) := [[], [], [1], [], [2, 3], [], [5], [], [6, 7], [], [0, 4, 8, 9], [10]]
def vsRm6 (g : Nat) (q : Nat) (kk : Nat) (n : Nat) (n2 : Nat) (c2 : Nat) (cI : Nat) (cT : Nat) (m1 : Nat) (m2 : Nat) (m3 : Nat) (AI : Option Addr) (AT : Option Addr) (BI : Option Addr) (BT : Option Addr) (A2 : Option Addr) (mn : Nat) (mc : Nat) (mA : Option Addr) : List (Option Value) := [some (.pointer (some ⟨g, 0, none⟩)), some (.pointer (some ⟨q, 0, none⟩)), some (.slice AI n cI), some (.int .i64 kk), some (.slice AI kk cI), some (.pointer (some ⟨q, 0, none⟩)), some (.slice AI n cI), some (.int .i64 kk), some (.slice BI m1 m2), some (.slice A2 n2 c2), none, none]
def dsRm7 : List (Option Nat) := [some 58, some 59, some 60, some 61, some 62, some 63, some 64, some 65, some 66, some 67, some 68, some 69, some 70, some 71, some 72, some 73, some 74, some 75, some 76, some 77, some 78, some 79]
def tbRm7 : List (List Nat) := [[], [], [0, 1], [], [3], [], [4, 5], [], [7], [], [8, 9], [], [6, 10, 11], [2, 12], [13], [14], [14, 15], [14], [14, 17], [14, 18], [14, 16, 19], [14, 20]]
def vsRm7 (g : Nat) (q : Nat) (kk : Nat) (n : Nat) (n2 : Nat) (c2 : Nat) (cI : Nat) (cT : Nat) (m1 : Nat) (m2 : Nat) (m3 : Nat) (AI : Option Addr) (AT : Option Addr) (BI : Option Addr) (BT : Option Addr) (A2 : Option Addr) (mn : Nat) (mc : Nat) (mA : Option Addr) (xe : Int) (ye : ByteArray) (rb : Bool) : List (Option Value) := [some (.pointer (some ⟨g, 0, none⟩)), some (.int .i64 xe), some (.string ye), some (.pointer (some ⟨q, 1, none⟩)), some (.slice AT n cT), some (.int .i64 kk), some (.slice AT kk cT), some (.pointer (some ⟨q, 1, none⟩)), some (.slice AT n cT), some (.int .i64 kk), some (.slice BT m1 m3), some (.slice A2 n2 c2), some (.string ye), some (.bool false), some (.bool false), some (.slice A2 n2 c2), some (.bool rb), some (.slice A2 n2 c2), some (.int .i64 n2), some (.bool rb), some (.bool false), some (.bool false)]
def dsRm11 : List (Option Nat) := [some 93, some 94, some 95, some 96, some 97, some 98, some 99, some 100, some 101, some 102, some 11]
def tbRm11 : List (List Nat) := [[], [0], [], [1, 2], [], [4], [], [5, 6], [], [3, 7, 8], [9]]
def vsRm11 (g : Nat) (q : Nat) (kk : Nat) (n : Nat) (n2 : Nat) (c2 : Nat) (cI : Nat) (cT : Nat) (m1 : Nat) (m2 : Nat) (m3 : Nat) (AI : Option Addr) (AT : Option Addr) (BI : Option Addr) (BT : Option Addr) (A2 : Option Addr) (mn : Nat) (mc : Nat) (mA : Option Addr) (xe : Int) (ye : ByteArray) (rb : Bool) : List (Option Value) := [some (.pointer (some ⟨q, 1, none⟩)), some (.slice AT n cT), some (.int .i64 kk), some (.slice AT kk cT), some (.pointer (some ⟨q, 1, none⟩)), some (.slice AT n cT), some (.int .i64 kk), some (.slice BT m1 m3), some (.slice A2 n2 c2), none, none]
def dsRm17 : List (Option Nat) := [some 120, some 121, some 122, some 123, some 124, some 125, some 126, some 127, some 128, some 129, some 130, some 131, some 132, some 133, some 134, some 135, some 136, some 137, some 138, some 139, some 140, some 141, some 142, some 143]
def tbRm17 : List (List Nat) := [[], [], [], [1, 2], [3], [0, 4], [], [], [6, 7], [8], [5, 9], [10], [11], [11], [11, 12, 13], [11, 14], [11, 15], [11], [11], [11, 17, 18], [11, 19], [11, 20], [11, 16, 21], [11, 22]]
def vsRm17 (g : Nat) (mn : Nat) (mc : Nat) (wc : Nat) (bm : Nat) (om : Nat) (bw : Nat) (ow : Nat) (i : Nat) (x : Int) (yi : ByteArray) (eb : Bool) : List (Option Value) := [some (.pointer (some ⟨g, 0, none⟩)), some (.slice (some ⟨bm, om, none⟩) mn mc), some (.int .i64 i), some (.pointer (some ⟨bm, om + i, none⟩)), some (.int .i64 x), some (.string yi), some (.slice (some ⟨bw, ow, none⟩) mn wc), some (.int .i64 i), some (.pointer (some ⟨bw, ow + i, none⟩)), some (.string yi), some (.bool false), some (.bool false), some (.slice (some ⟨bm, om, none⟩) mn mc), some (.int .i64 i), some (.pointer (some ⟨bm, om + i, none⟩)), some (.int .i64 x), some (.bool eb), some (.slice (some ⟨bw, ow, none⟩) mn wc), some (.int .i64 i), some (.pointer (some ⟨bw, ow + i, none⟩)), some (.string yi), some (.bool eb), some (.bool false), some (.bool false)]

set_option maxRecDepth 100000 in
set_option maxHeartbeats 4000000 in
theorem recipeMakes_any (ms ops : List Mk) (kn : Int) (A A2 : Option Addr) (n c n2 c2 : Nat) (w : World) (hn : n ≤ 9223372036854775807) (hn2 : n2 ≤ 9223372036854775807) (H : Rws w 5 A n (ms.map Mk.row)) (H2 : Rws w 5 A2 n2 (ops.map Mk.row)) :
    Calls Tryz.prog 5 #[.slice A n c, .int .i64 kn, .slice A2 n2 c2] w fun r w' => r = .returned (.bool true) ∧ Below w.heap.size w w' := by
  have hml : ms.length = n := by have := H.1; simpa using this
  have hol : ops.length = n2 := by have := H2.1; simpa using this
  have cF := few_any ms A n c 15 w hn H
  have cG := few14_any ops A2 n2 c2 w hn2 H2
  have cA := Lib.hid (fun W => awake14 W)
  have hH := Lib.hid (And.intro H H2)
  have hll := Lib.hid (And.intro hml hol)
  clear H H2
  cases hf : fewB ms 15 with
  | false =>
    rw [hf] at cF
    replace cF := Lib.hid cF
    replace cG := Lib.hid cG
    clear hf hml hol
    go_enter Tryz.func5, Tryz.ntmps5
    clear hH hll
    go_wp2_with (first
      | (go_at_call 6; refine cF.out.mono ?_; rintro r w1 ⟨rfl, rfl⟩)
      | (go_at_call 26; refine cG.out.mono ?_; rintro r w1 ⟨rfl, rfl⟩)
      | (go_at_call 27; refine (cA.out _).mono ?_; rintro r w1 ⟨rfl, hb⟩))
    go_ret
    exact ⟨rfl, hb⟩
  | true =>
    rw [hf] at cF
    obtain ⟨h15, h200⟩ := fewB_iff.1 hf
    have hn15 : n ≤ 15 := by omega
    have h200 := Lib.hid h200
    replace cF := Lib.hid cF
    clear hf h15 hml
    cases hg : fewB ops 70 with
    | false =>
      rw [hg] at cG
      replace cG := Lib.hid cG
      clear hg hol
      go_enter Tryz.func5, Tryz.ntmps5
      clear hH hll
      go_wp2_with (first
        | (go_at_call 6; refine cF.out.mono ?_; rintro r w1 ⟨rfl, rfl⟩)
        | (go_at_call 26; refine cG.out.mono ?_; rintro r w1 ⟨rfl, rfl⟩)
        | (go_at_call 27; refine (cA.out _).mono ?_; rintro r w1 ⟨rfl, hb⟩))
      go_ret
      exact ⟨rfl, hb⟩
    | true =>
      rw [hg] at cG
      obtain ⟨h70, h200b⟩ := fewB_iff.1 hg
      have hn70 : n2 ≤ 70 := by omega
      have h200b := Lib.hid h200b
      replace cG := Lib.hid cG
      clear hg hol h70
      by_cases hk0 : kn < 0
      · go_enter Tryz.func5, Tryz.ntmps5
        clear hH hll
        go_wp2_with (first
          | (go_at_call 6; refine cF.out.mono ?_; rintro r w1 ⟨rfl, rfl⟩)
          | (go_at_call 26; refine cG.out.mono ?_; rintro r w1 ⟨rfl, rfl⟩)
          | (go_at_call 27; refine (cA.out _).mono ?_; rintro r w1 ⟨rfl, hb⟩))
        go_ret
        exact ⟨rfl, hb⟩
      obtain ⟨kk, rfl⟩ := Int.eq_ofNat_of_zero_le (Int.not_lt.1 hk0)
      by_cases hkn : n < kk
      · have hki : (n : Int) < (kk : Int) := by omega
        go_enter Tryz.func5, Tryz.ntmps5
        clear hH hll
        go_wp2_with (first
          | (go_at_call 6; refine cF.out.mono ?_; rintro r w1 ⟨rfl, rfl⟩)
          | (go_at_call 26; refine cG.out.mono ?_; rintro r w1 ⟨rfl, rfl⟩)
          | (go_at_call 27; refine (cA.out _).mono ?_; rintro r w1 ⟨rfl, hb⟩))
        go_ret
        exact ⟨rfl, hb⟩
      have hKn : kk ≤ n := by omega
      have hki : decide ((n : Int) < (kk : Int)) = false := decide_eq_false (by omega)
      have hk0' : decide ((kk : Int) < 0) = false := decide_eq_false (by omega)
      have hkiN : decide (n < kk) = false := decide_eq_false (by omega)
      have cN := Lib.hid (tnew_any w)
      have hKh := Lib.hid hKn
      clear hk0 hkn hKn
      go_enter Tryz.func5, Tryz.ntmps5
      go_upto_region 4 with (first
        | (go_at_call 6; refine cF.out.mono ?_; rintro r w1 ⟨rfl, rfl⟩)
        | (go_at_call 26; refine cG.out.mono ?_; rintro r w1 ⟨rfl, rfl⟩)
        | (go_at_call 8; refine cN.out.mono ?_; rintro r w1 ⟨A0, rfl, hN, hA, hb⟩
           have hS0 := St.start hN hA hb
           have cM := Lib.hid (makes_any (c := c) ms w w1 A0.g (by omega) h200.out hH.out.1 hS0)
           have hz1 := Lib.hid hb.size
           clear hN hA hb cN hS0 cF cG
           generalize A0.g = g at *))
      clear hki hk0' hkiN
      go_upto_region 5 with (first
        | (go_at_call 9; refine cM.out.mono ?_; rintro r w2 hR
           obtain ⟨AI, cI, AT, cT, l, L, rfl, hMd, hL, hnew, hone, hrow⟩ := md_new hll.out.1 hz1.out hR
           unfold boxW at hMd
           have hMdh := Lib.hid hMd
           have hnewh := Lib.hid hnew
           have honeh := Lib.hid hone
           have hLn := Lib.hid hL
           clear hR hnew hone hrow cM hMd)
        | (refine wpList_store_at 31 _ _ rfl rfl w2.heap.size #[.slice AI n cI, .slice AT n cT] rfl rfl 31 #[.slice none 0 0, .slice none 0 0] hnewh.out (by kernel_rfl) rfl honeh.out ?_))
      generalize ((w2.alloc (.cells #[.slice none 0 0, .slice none 0 0] 31)).setRow w2.heap.size #[.slice AI n cI, .slice AT n cT]) = w4 at *
      generalize w2.heap.size = q at *
      clear hnewh honeh hz1
      obtain ⟨os, hos⟩ : ∃ os, mksO ms [] = os := ⟨_, rfl⟩
      rw [hos] at hMdh
      clear hos
      have hFk := Lib.hid (fun W (h : Stay w4 W) => hMdh.out.at_k hKh.out h)
      have hcI := Lib.hid (And.intro (OwnR.cap hMdh.out.ids) (OwnR.cap hMdh.out.txt))
      have hS4 := Lib.hid hMdh.out.st
      have hN4 := Lib.hid hMdh.out.ml.toNmL
      have hL15 := Lib.hid (show L.length ≤ 15 by have := hLn.out; omega)
      clear hMdh hLn
      obtain ⟨oM, hoM⟩ : ∃ oM, osU (os.take kk) (os.drop kk) n2 ops = oM := ⟨_, rfl⟩
      have hslH := Lib.hid (fun (W : World) => slH_run 28 u_ids z_ids AI n cI kk (by have := hKh.out; have := hcI.out.1; omega) W)
      have hslL := Lib.hid (fun (W : World) => slL_run 28 u_ids z_ids AI n cI kk hKh.out W)
      have hslHt := Lib.hid (fun (W : World) => slH_run 29 u_strs z_strs AT n cT kk (by have := hKh.out; have := hcI.out.2; omega) W)
      have hslLt := Lib.hid (fun (W : World) => slL_run 29 u_strs z_strs AT n cT kk hKh.out W)
      obtain ⟨BI, hBI⟩ : ∃ B, behind AI kk cI = B := ⟨_, rfl⟩
      obtain ⟨BT, hBT⟩ : ∃ B, behind AT kk cT = B := ⟨_, rfl⟩
      rw [hBI] at hslL
      rw [hBT] at hslLt
      have hFz : Hid (∀ W, Stay w4 W → W.cell? ⟨q, 0, none⟩ = some (.slice AI n cI) ∧ W.cell? ⟨q, 1, none⟩ = some (.slice AT n cT) ∧ IdsT W AI kk (l.take kk) ∧ IdsT W BI (n - kk) (l.drop kk) ∧ TxS W AT kk (os.take kk) ∧ TxS W BT (n - kk) (os.drop kk)) := fun W h => by
        have f := hFk.out W h
        rw [← hBI, ← hBT]
        exact ⟨cell_of_row W q 0 _ _ _ f.blk, cell_of_row W q 1 _ _ _ f.blk, f.k, f.s, f.kt, f.st⟩
      have hoMh := Lib.hid hoM
      clear hFk hBI hBT hoM hcI
      obtain ⟨m1, hm1⟩ : ∃ m, m = n - kk := ⟨_, rfl⟩
      obtain ⟨m2, hm2⟩ : ∃ m, m = cI - kk := ⟨_, rfl⟩
      obtain ⟨m3, hm3⟩ : ∃ m, m = cT - kk := ⟨_, rfl⟩
      rw [← hm1, ← hm2] at hslL
      rw [← hm1, ← hm3] at hslLt
      rw [← hm1] at hFz
      have hm1n : m1 ≤ 15 := by omega
      have hm := Lib.hid (And.intro hm1 hm1n)
      clear hm1 hm2 hm3 hm1n
      have cAll : Hid (∀ W, Below w4.heap.size w4 W → Calls Tryz.prog 28 #[.pointer (some ⟨g, 0, none⟩), .slice AI kk cI, .slice BI m1 m2, .slice A2 n2 c2] W (AllU w g L oM W)) := fun W h => by
        have hs := hFz.out W (Stay.of_below h)
        have hkn' := hKh.out
        have := allU_any (kc := cI) (sc := m2) (c := c2) ops (hS4.out.keep h) hL15.out hn2 h200b.out hH.out.2 hs.2.2.1 hs.2.2.2.1 (by omega) (by have := hm.out.2; omega) (hN4.out.take_ kk) (hN4.out.drop_ kk)
        rw [hoMh.out] at this
        exact this
      obtain ⟨Lm, hLm⟩ : ∃ Lm, Lm = L := ⟨_, rfl⟩
      rw [← hLm] at cAll hL15 hN4 hS4
      clear hLm
      refine region_iw tbRm5 dsRm5 (vsRm5 g q kk n n2 c2 cI cT m1 m2 m3 AI AT BI BT A2) (fun L T W => Stay w4 W ∧ (L 10 = false → Below w4.heap.size w4 W) ∧ (L 10 = true → AllU w g Lm oM w4 (.returned (T.getD 46 undef)) W) ∧ (L 11 = true → L 10 = true ∧ T.getD 9 undef = T.getD 46 undef)) rfl (by decide) (by kernel_rfl) ?hlt ?hstep ?hdone ?hstart
      case hstart => exact ⟨Stay.of_below (drewN_below 1), fun _ => drewN_below 1, fun h => absurd h (inv_not (n := 12) (i := 10) (by decide)), fun h => absurd h (inv_not (n := 12) (i := 11) (by decide))⟩
      case hlt =>
        intro ix o ho
        have hi := (Array.getElem?_eq_some_iff.1 ho).1
        match ix, hi with
        | 0, _ => obtain rfl := Option.some.inj ho; decide
        | 1, _ => obtain rfl := Option.some.inj ho; decide
        | 2, _ => obtain rfl := Option.some.inj ho; decide
        | 3, _ => obtain rfl := Option.some.inj ho; decide
        | 4, _ => obtain rfl := Option.some.inj ho; decide
        | 5, _ => obtain rfl := Option.some.inj ho; decide
        | 6, _ => obtain rfl := Option.some.inj ho; decide
        | 7, _ => obtain rfl := Option.some.inj ho; decide
        | 8, _ => obtain rfl := Option.some.inj ho; decide
        | 9, _ => obtain rfl := Option.some.inj ho; decide
        | 10, _ => obtain rfl := Option.some.inj ho; decide
        | 11, _ => obtain rfl := Option.some.inj ho; decide
      case hstep =>
        intro T1 hE L T W ix o hF hW hc ho hLi hd K hK
        have hN : T1.size = 145 := by rw [hE]; rfl
        have f1 : T.getD 1 undef = .int .i64 kk := (hF.old 1 (by decide)).trans (by rw [hE]; rfl)
        have f2 : T.getD 2 undef = .slice A2 n2 c2 := (hF.old 2 (by decide)).trans (by rw [hE]; rfl)
        have f7 : T.getD 7 undef = .pointer (some ⟨g, 0, none⟩) := (hF.old 7 (by decide)).trans (by rw [hE]; rfl)
        have f8 : T.getD 8 undef = .pointer (some ⟨q, 0, none⟩) := (hF.old 8 (by decide)).trans (by rw [hE]; rfl)
        clear hE
        replace hF := Lib.hid hF
        replace hW := Lib.hid hW
        replace hK := Lib.hid hK
        have hi := (List.getElem?_eq_some_iff.1 ho).1
        match ix, hi with
        | 0, _ =>
          obtain rfl := Option.some.inj ho
          clear hd ho hi hc hLi
          exact st_val (v := .pointer (some ⟨g, 0, none⟩)) (w' := W) (want_none rfl) (by unfold execOp; dsimp only [Act.eval]; simp only [f7]; go_simp) (hK.out _ _ (hF.out.put (k := 0) (s := 36) rfl (by decide) hN (by decide) (fun u hu => Option.some.inj (Option.some.inj (show some (some (.pointer (some ⟨g, 0, none⟩))) = some (some u) from hu))) (by dsimp only; rw [gd_ne (show 36 ≠ 46 by decide), gd_ne (show 36 ≠ 9 by decide)]; exact hW.out)))
        | 1, _ =>
          obtain rfl := Option.some.inj ho
          clear hd ho hi hc hLi
          exact st_val (v := .pointer (some ⟨q, 0, none⟩)) (w' := W) (want_none rfl) (by unfold execOp; dsimp only [Act.eval]; simp only [f8]; go_simp) (hK.out _ _ (hF.out.put (k := 1) (s := 37) rfl (by decide) hN (by decide) (fun u hu => Option.some.inj (Option.some.inj (show some (some (.pointer (some ⟨q, 0, none⟩))) = some (some u) from hu))) (by dsimp only; rw [gd_ne (show 37 ≠ 46 by decide), gd_ne (show 37 ≠ 9 by decide)]; exact hW.out)))
        | 2, _ =>
          obtain rfl := Option.some.inj ho
          have l1 : L 1 = true := dep_of hd (n := 1) (by decide)
          have e37 : T.getD 37 undef = .pointer (some ⟨q, 0, none⟩) := hF.out.val 1 37 _ l1 rfl rfl
          have hcc := (hFz.out W hW.out.1).1
          clear hd ho hi hc hLi
          exact st_val (v := .slice AI n cI) (w' := W) (want_none rfl) (by unfold execOp; dsimp only [Act.eval]; simp only [e37]; go_simp) (hK.out _ _ (hF.out.put (k := 2) (s := 38) rfl (by decide) hN (by decide) (fun u hu => Option.some.inj (Option.some.inj (show some (some (.slice AI n cI)) = some (some u) from hu))) (by dsimp only; rw [gd_ne (show 38 ≠ 46 by decide), gd_ne (show 38 ≠ 9 by decide)]; exact hW.out)))
        | 3, _ =>
          obtain rfl := Option.some.inj ho
          clear hd ho hi hc hLi
          exact st_val (v := .int .i64 kk) (w' := W) (want_none rfl) (by unfold execOp; dsimp only [Act.eval]; simp only [f1]; go_simp) (hK.out _ _ (hF.out.put (k := 3) (s := 39) rfl (by decide) hN (by decide) (fun u hu => Option.some.inj (Option.some.inj (show some (some (.int .i64 kk)) = some (some u) from hu))) (by dsimp only; rw [gd_ne (show 39 ≠ 46 by decide), gd_ne (show 39 ≠ 9 by decide)]; exact hW.out)))
        | 4, _ =>
          obtain rfl := Option.some.inj ho
          have l2 : L 2 = true := dep_of hd (n := 2) (by decide)
          have e38 : T.getD 38 undef = .slice AI n cI := hF.out.val 2 38 _ l2 rfl rfl
          have l3 : L 3 = true := dep_of hd (n := 3) (by decide)
          have e39 : T.getD 39 undef = .int .i64 kk := hF.out.val 3 39 _ l3 rfl rfl
          have hsl := hslH.out W
          clear hd ho hi hc hLi
          exact st_val (v := .slice AI kk cI) (w' := W) (want_none rfl) (by unfold execOp; dsimp only [Act.eval]; simp only [Option.map_some, Option.map_none, Act.eval, e38, e39]; go_simp) (hK.out _ _ (hF.out.put (k := 4) (s := 40) rfl (by decide) hN (by decide) (fun u hu => Option.some.inj (Option.some.inj (show some (some (.slice AI kk cI)) = some (some u) from hu))) (by dsimp only; rw [gd_ne (show 40 ≠ 46 by decide), gd_ne (show 40 ≠ 9 by decide)]; exact hW.out)))
        | 5, _ =>
          obtain rfl := Option.some.inj ho
          clear hd ho hi hc hLi
          exact st_val (v := .pointer (some ⟨q, 0, none⟩)) (w' := W) (want_none rfl) (by unfold execOp; dsimp only [Act.eval]; simp only [f8]; go_simp) (hK.out _ _ (hF.out.put (k := 5) (s := 41) rfl (by decide) hN (by decide) (fun u hu => Option.some.inj (Option.some.inj (show some (some (.pointer (some ⟨q, 0, none⟩))) = some (some u) from hu))) (by dsimp only; rw [gd_ne (show 41 ≠ 46 by decide), gd_ne (show 41 ≠ 9 by decide)]; exact hW.out)))
        | 6, _ =>
          obtain rfl := Option.some.inj ho
          have l5 : L 5 = true := dep_of hd (n := 5) (by decide)
          have e41 : T.getD 41 undef = .pointer (some ⟨q, 0, none⟩) := hF.out.val 5 41 _ l5 rfl rfl
          have hcc := (hFz.out W hW.out.1).1
          clear hd ho hi hc hLi
          exact st_val (v := .slice AI n cI) (w' := W) (want_none rfl) (by unfold execOp; dsimp only [Act.eval]; simp only [e41]; go_simp) (hK.out _ _ (hF.out.put (k := 6) (s := 42) rfl (by decide) hN (by decide) (fun u hu => Option.some.inj (Option.some.inj (show some (some (.slice AI n cI)) = some (some u) from hu))) (by dsimp only; rw [gd_ne (show 42 ≠ 46 by decide), gd_ne (show 42 ≠ 9 by decide)]; exact hW.out)))
        | 7, _ =>
          obtain rfl := Option.some.inj ho
          clear hd ho hi hc hLi
          exact st_val (v := .int .i64 kk) (w' := W) (want_none rfl) (by unfold execOp; dsimp only [Act.eval]; simp only [f1]; go_simp) (hK.out _ _ (hF.out.put (k := 7) (s := 43) rfl (by decide) hN (by decide) (fun u hu => Option.some.inj (Option.some.inj (show some (some (.int .i64 kk)) = some (some u) from hu))) (by dsimp only; rw [gd_ne (show 43 ≠ 46 by decide), gd_ne (show 43 ≠ 9 by decide)]; exact hW.out)))
        | 8, _ =>
          obtain rfl := Option.some.inj ho
          have l6 : L 6 = true := dep_of hd (n := 6) (by decide)
          have e42 : T.getD 42 undef = .slice AI n cI := hF.out.val 6 42 _ l6 rfl rfl
          have l7 : L 7 = true := dep_of hd (n := 7) (by decide)
          have e43 : T.getD 43 undef = .int .i64 kk := hF.out.val 7 43 _ l7 rfl rfl
          have hsl := hslL.out W
          clear hd ho hi hc hLi
          exact st_val (v := .slice BI m1 m2) (w' := W) (want_none rfl) (by unfold execOp; dsimp only [Act.eval]; simp only [Option.map_some, Option.map_none, Act.eval, e42, e43]; go_simp) (hK.out _ _ (hF.out.put (k := 8) (s := 44) rfl (by decide) hN (by decide) (fun u hu => Option.some.inj (Option.some.inj (show some (some (.slice BI m1 m2)) = some (some u) from hu))) (by dsimp only; rw [gd_ne (show 44 ≠ 46 by decide), gd_ne (show 44 ≠ 9 by decide)]; exact hW.out)))
        | 9, _ =>
          obtain rfl := Option.some.inj ho
          clear hd ho hi hc hLi
          exact st_val (v := .slice A2 n2 c2) (w' := W) (want_none rfl) (by unfold execOp; dsimp only [Act.eval]; simp only [f2]; go_simp) (hK.out _ _ (hF.out.put (k := 9) (s := 45) rfl (by decide) hN (by decide) (fun u hu => Option.some.inj (Option.some.inj (show some (some (.slice A2 n2 c2)) = some (some u) from hu))) (by dsimp only; rw [gd_ne (show 45 ≠ 46 by decide), gd_ne (show 45 ≠ 9 by decide)]; exact hW.out)))
        | 10, _ =>
          obtain rfl := Option.some.inj ho
          have l0 : L 0 = true := dep_of hd (n := 0) (by decide)
          have e36 : T.getD 36 undef = .pointer (some ⟨g, 0, none⟩) := hF.out.val 0 36 _ l0 rfl rfl
          have l4 : L 4 = true := dep_of hd (n := 4) (by decide)
          have e40 : T.getD 40 undef = .slice AI kk cI := hF.out.val 4 40 _ l4 rfl rfl
          have l8 : L 8 = true := dep_of hd (n := 8) (by decide)
          have e44 : T.getD 44 undef = .slice BI m1 m2 := hF.out.val 8 44 _ l8 rfl rfl
          have l9 : L 9 = true := dep_of hd (n := 9) (by decide)
          have e45 : T.getD 45 undef = .slice A2 n2 c2 := hF.out.val 9 45 _ l9 rfl rfl
          have hb := hW.out.2.1 hLi
          have n11 : ¬ L 11 = true := fun h => by have := hc 11 10 h (by decide); rw [hLi] at this; cases this
          have cc := Lib.hid (cAll.out W hb)
          clear hd ho hi hc
          refine st_call (want_none rfl) (by unfold execOp; go_simp) cc.out ?_
          rintro r w3 ⟨mA, mn, mc, lm, L', rfl, a1, a2, a3, a4, a5, a6, a8, a9⟩
          exact ⟨_, rfl, hK.out _ _ (hF.out.put (k := 10) (s := 46) rfl (by decide) hN (by decide) (fun u hu => by cases hu) ⟨hW.out.1.trans a8, fun h => absurd h (by simp), fun _ => (by rw [gd_eq (by rw [hF.out.size, hN]; decide)]; exact ⟨mA, mn, mc, lm, L', rfl, a1, a2, a3, a4, a5, a6, hW.out.1.trans a8, Nat.le_trans hb.size a9⟩), fun h => absurd h n11⟩)⟩
        | 11, _ =>
          obtain rfl := Option.some.inj ho
          have l10 : L 10 = true := dep_of hd (n := 10) (by decide)
          clear hd ho hi hc hLi
          exact st_val (v := T.getD 46 undef) (w' := W) (want_none rfl) rfl (hK.out _ _ (hF.out.put (k := 11) (s := 9) rfl (by decide) hN (by decide) (fun u hu => by cases hu) (by rw [gd_ne (show 9 ≠ 46 by decide), gd_eq (by rw [hF.out.size, hN]; decide)]; exact ⟨hW.out.1, hW.out.2.1, hW.out.2.2.1, fun _ => ⟨l10, rfl⟩⟩)))
      case hdone =>
        intro L T W2 hF hW hall
        obtain ⟨mA, mn, mc, lm, L5, e46, s5, hE5, hl5, hmn, hI5, hN5, hY5, hz5⟩ := hW.2.2.1 (hall 10 (by decide))
        replace e46 := Ending.returned.inj e46
        have e9 := (hW.2.2.2 (hall 11 (by decide))).2.trans e46
        have hT : T = #[.slice A n c, .int .i64 kk, .slice A2 n2 c2, undef, undef, undef, .bool false, .pointer (some ⟨g, 0, none⟩), .pointer (some ⟨q, 0, none⟩), .slice mA mn mc, undef, undef, undef, .slice A n c, .bool true, .bool false, .bool false, .slice A2 n2 c2, .bool true, .bool false, .bool false, .bool false, .int .i64 kk, .bool false, .bool false, .bool false, .int .i64 kk, .slice A n c, .int .i64 n, .bool false, .bool false, undef, .pointer (some ⟨g, 0, none⟩), .pointer (some ⟨g, 0, none⟩), .slice A n c, .agg #[.slice AI n cI, .slice AT n cT], .pointer (some ⟨g, 0, none⟩), .pointer (some ⟨q, 0, none⟩), .slice AI n cI, .int .i64 kk, .slice AI kk cI, .pointer (some ⟨q, 0, none⟩), .slice AI n cI, .int .i64 kk, .slice BI m1 m2, .slice A2 n2 c2, .slice mA mn mc, undef, undef, undef, undef, undef, undef, undef, undef, undef, undef, undef, undef, undef, undef, undef, undef, undef, undef, undef, undef, undef, undef, undef, undef, undef, undef, undef, undef, undef, undef, undef, undef, undef, undef, undef, undef, undef, undef, undef, undef, undef, undef, undef, undef, undef, undef, undef, undef, undef, undef, undef, undef, undef, undef, undef, undef, undef, undef, undef, undef, undef, undef, undef, undef, undef, undef, undef, undef, undef, undef, undef, undef, undef, undef, undef, undef, undef, undef, undef, undef, undef, undef, undef, undef, undef, undef, undef, undef, undef, undef, undef, undef, undef, undef, undef, undef, undef, undef] := (hF.fin [(36, .pointer (some ⟨g, 0, none⟩)), (37, .pointer (some ⟨q, 0, none⟩)), (38, .slice AI n cI), (39, .int .i64 kk), (40, .slice AI kk cI), (41, .pointer (some ⟨q, 0, none⟩)), (42, .slice AI n cI), (43, .int .i64 kk), (44, .slice BI m1 m2), (45, .slice A2 n2 c2), (46, .slice mA mn mc), (9, .slice mA mn mc)] [36, 37, 38, 39, 40, 41, 42, 43, 44, 45, 46, 9] rfl (List.forall_mem_cons.2 ⟨hF.val 0 _ _ (hall 0 (show 0 < 12 by decide)) rfl rfl, (List.forall_mem_cons.2 ⟨hF.val 1 _ _ (hall 1 (show 1 < 12 by decide)) rfl rfl, (List.forall_mem_cons.2 ⟨hF.val 2 _ _ (hall 2 (show 2 < 12 by decide)) rfl rfl, (List.forall_mem_cons.2 ⟨hF.val 3 _ _ (hall 3 (show 3 < 12 by decide)) rfl rfl, (List.forall_mem_cons.2 ⟨hF.val 4 _ _ (hall 4 (show 4 < 12 by decide)) rfl rfl, (List.forall_mem_cons.2 ⟨hF.val 5 _ _ (hall 5 (show 5 < 12 by decide)) rfl rfl, (List.forall_mem_cons.2 ⟨hF.val 6 _ _ (hall 6 (show 6 < 12 by decide)) rfl rfl, (List.forall_mem_cons.2 ⟨hF.val 7 _ _ (hall 7 (show 7 < 12 by decide)) rfl rfl, (List.forall_mem_cons.2 ⟨hF.val 8 _ _ (hall 8 (show 8 < 12 by decide)) rfl rfl, (List.forall_mem_cons.2 ⟨hF.val 9 _ _ (hall 9 (show 9 < 12 by decide)) rfl rfl, (List.forall_mem_cons.2 ⟨e46, (List.forall_mem_cons.2 ⟨e9, (fun _ h => absurd h List.not_mem_nil)⟩)⟩)⟩)⟩)⟩)⟩)⟩)⟩)⟩)⟩)⟩)⟩) (by decide)).trans (by kernel_rfl)
        clear hF hall
        subst hT
        have hY5h := Lib.hid hY5
        have hs5h := Lib.hid s5
        have hI5h := Lib.hid hI5
        have hN5h := Lib.hid hN5
        have hmnh := Lib.hid hmn
        have hl5h := Lib.hid hl5
        have hE5h := Lib.hid hE5
        clear hW e46 e9 s5 hE5 hl5 hmn hI5 hN5 hY5 hz5 cAll
        have cEv : Hid (∀ W, Below W2.heap.size W2 W → Calls Tryz.prog 29 #[.pointer (some ⟨g, 0, none⟩), .slice AI kk cI, .slice BI m1 m2, .slice A2 n2 c2] W (EvU w g L5 (lastO oM) W)) := fun W h => by
          have hs := hFz.out W (hY5h.out.trans (Stay.of_below h))
          have hkn' := hKh.out
          have hnA : NmL L5 l os := by obtain ⟨e, he⟩ := hE5h.out; rw [he]; exact hN4.out.app
          have := evU_any (kc := cI) (sc := m2) (c := c2) (known := os.take kk) (sent := os.drop kk) (lm := lm) ops (hs5h.out.keep h) (by have := hl5h.out; have := hL15.out; omega) hn2 h200b.out hH.out.2 hs.2.2.1 hs.2.2.2.1 (by omega) (by have := hm.out.2; omega) (hnA.take_ kk) (hnA.drop_ kk) (by rw [hoMh.out]; exact hN5h.out)
          rw [hoMh.out] at this
          exact this
        go_upto_region 6 with fail
        obtain ⟨w5, hw5⟩ : ∃ w5, w5 = W2 := ⟨_, rfl⟩
        rw [← hw5] at hY5h hs5h hI5h cEv ⊢
        clear hw5
        refine region_iw tbRm6 dsRm6 (vsRm6 g q kk n n2 c2 cI cT m1 m2 m3 AI AT BI BT A2 mn mc mA) (fun L T W => Stay w5 W ∧ (L 10 = false → Below w5.heap.size w5 W) ∧ (L 10 = true → EvU w g L5 (lastO oM) w5 (.returned (T.getD 57 undef)) W) ∧ (L 11 = true → L 10 = true ∧ T.getD 10 undef = T.getD 57 undef)) rfl (by decide) (by kernel_rfl) ?hlt ?hstep ?hdone ?hstart
        case hstart => exact ⟨Stay.of_below (drewN_below 1), fun _ => drewN_below 1, fun h => absurd h (inv_not (n := 12) (i := 10) (by decide)), fun h => absurd h (inv_not (n := 12) (i := 11) (by decide))⟩
        case hlt =>
          intro ix o ho
          have hi := (Array.getElem?_eq_some_iff.1 ho).1
          match ix, hi with
          | 0, _ => obtain rfl := Option.some.inj ho; decide
          | 1, _ => obtain rfl := Option.some.inj ho; decide
          | 2, _ => obtain rfl := Option.some.inj ho; decide
          | 3, _ => obtain rfl := Option.some.inj ho; decide
          | 4, _ => obtain rfl := Option.some.inj ho; decide
          | 5, _ => obtain rfl := Option.some.inj ho; decide
          | 6, _ => obtain rfl := Option.some.inj ho; decide
          | 7, _ => obtain rfl := Option.some.inj ho; decide
          | 8, _ => obtain rfl := Option.some.inj ho; decide
          | 9, _ => obtain rfl := Option.some.inj ho; decide
          | 10, _ => obtain rfl := Option.some.inj ho; decide
          | 11, _ => obtain rfl := Option.some.inj ho; decide
        case hstep =>
          intro T1 hE L T W ix o hF hW hc ho hLi hd K hK
          have hN : T1.size = 145 := by rw [hE]; rfl
          have f1 : T.getD 1 undef = .int .i64 kk := (hF.old 1 (by decide)).trans (by rw [hE]; rfl)
          have f2 : T.getD 2 undef = .slice A2 n2 c2 := (hF.old 2 (by decide)).trans (by rw [hE]; rfl)
          have f7 : T.getD 7 undef = .pointer (some ⟨g, 0, none⟩) := (hF.old 7 (by decide)).trans (by rw [hE]; rfl)
          have f8 : T.getD 8 undef = .pointer (some ⟨q, 0, none⟩) := (hF.old 8 (by decide)).trans (by rw [hE]; rfl)
          clear hE
          replace hF := Lib.hid hF
          replace hW := Lib.hid hW
          replace hK := Lib.hid hK
          have hi := (List.getElem?_eq_some_iff.1 ho).1
          match ix, hi with
          | 0, _ =>
            obtain rfl := Option.some.inj ho
            clear hd ho hi hc hLi
            exact st_val (v := .pointer (some ⟨g, 0, none⟩)) (w' := W) (want_none rfl) (by unfold execOp; dsimp only [Act.eval]; simp only [f7]; go_simp) (hK.out _ _ (hF.out.put (k := 0) (s := 47) rfl (by decide) hN (by decide) (fun u hu => Option.some.inj (Option.some.inj (show some (some (.pointer (some ⟨g, 0, none⟩))) = some (some u) from hu))) (by dsimp only; rw [gd_ne (show 47 ≠ 57 by decide), gd_ne (show 47 ≠ 10 by decide)]; exact hW.out)))
          | 1, _ =>
            obtain rfl := Option.some.inj ho
            clear hd ho hi hc hLi
            exact st_val (v := .pointer (some ⟨q, 0, none⟩)) (w' := W) (want_none rfl) (by unfold execOp; dsimp only [Act.eval]; simp only [f8]; go_simp) (hK.out _ _ (hF.out.put (k := 1) (s := 48) rfl (by decide) hN (by decide) (fun u hu => Option.some.inj (Option.some.inj (show some (some (.pointer (some ⟨q, 0, none⟩))) = some (some u) from hu))) (by dsimp only; rw [gd_ne (show 48 ≠ 57 by decide), gd_ne (show 48 ≠ 10 by decide)]; exact hW.out)))
          | 2, _ =>
            obtain rfl := Option.some.inj ho
            have l1 : L 1 = true := dep_of hd (n := 1) (by decide)
            have e48 : T.getD 48 undef = .pointer (some ⟨q, 0, none⟩) := hF.out.val 1 48 _ l1 rfl rfl
            have hcc := (hFz.out W (hY5h.out.trans hW.out.1)).1
            clear hd ho hi hc hLi
            exact st_val (v := .slice AI n cI) (w' := W) (want_none rfl) (by unfold execOp; dsimp only [Act.eval]; simp only [e48]; go_simp) (hK.out _ _ (hF.out.put (k := 2) (s := 49) rfl (by decide) hN (by decide) (fun u hu => Option.some.inj (Option.some.inj (show some (some (.slice AI n cI)) = some (some u) from hu))) (by dsimp only; rw [gd_ne (show 49 ≠ 57 by decide), gd_ne (show 49 ≠ 10 by decide)]; exact hW.out)))
          | 3, _ =>
            obtain rfl := Option.some.inj ho
            clear hd ho hi hc hLi
            exact st_val (v := .int .i64 kk) (w' := W) (want_none rfl) (by unfold execOp; dsimp only [Act.eval]; simp only [f1]; go_simp) (hK.out _ _ (hF.out.put (k := 3) (s := 50) rfl (by decide) hN (by decide) (fun u hu => Option.some.inj (Option.some.inj (show some (some (.int .i64 kk)) = some (some u) from hu))) (by dsimp only; rw [gd_ne (show 50 ≠ 57 by decide), gd_ne (show 50 ≠ 10 by decide)]; exact hW.out)))
          | 4, _ =>
            obtain rfl := Option.some.inj ho
            have l2 : L 2 = true := dep_of hd (n := 2) (by decide)
            have e49 : T.getD 49 undef = .slice AI n cI := hF.out.val 2 49 _ l2 rfl rfl
            have l3 : L 3 = true := dep_of hd (n := 3) (by decide)
            have e50 : T.getD 50 undef = .int .i64 kk := hF.out.val 3 50 _ l3 rfl rfl
            have hsl := hslH.out W
            clear hd ho hi hc hLi
            exact st_val (v := .slice AI kk cI) (w' := W) (want_none rfl) (by unfold execOp; dsimp only [Act.eval]; simp only [Option.map_some, Option.map_none, Act.eval, e49, e50]; go_simp) (hK.out _ _ (hF.out.put (k := 4) (s := 51) rfl (by decide) hN (by decide) (fun u hu => Option.some.inj (Option.some.inj (show some (some (.slice AI kk cI)) = some (some u) from hu))) (by dsimp only; rw [gd_ne (show 51 ≠ 57 by decide), gd_ne (show 51 ≠ 10 by decide)]; exact hW.out)))
          | 5, _ =>
            obtain rfl := Option.some.inj ho
            clear hd ho hi hc hLi
            exact st_val (v := .pointer (some ⟨q, 0, none⟩)) (w' := W) (want_none rfl) (by unfold execOp; dsimp only [Act.eval]; simp only [f8]; go_simp) (hK.out _ _ (hF.out.put (k := 5) (s := 52) rfl (by decide) hN (by decide) (fun u hu => Option.some.inj (Option.some.inj (show some (some (.pointer (some ⟨q, 0, none⟩))) = some (some u) from hu))) (by dsimp only; rw [gd_ne (show 52 ≠ 57 by decide), gd_ne (show 52 ≠ 10 by decide)]; exact hW.out)))
          | 6, _ =>
            obtain rfl := Option.some.inj ho
            have l5 : L 5 = true := dep_of hd (n := 5) (by decide)
            have e52 : T.getD 52 undef = .pointer (some ⟨q, 0, none⟩) := hF.out.val 5 52 _ l5 rfl rfl
            have hcc := (hFz.out W (hY5h.out.trans hW.out.1)).1
            clear hd ho hi hc hLi
            exact st_val (v := .slice AI n cI) (w' := W) (want_none rfl) (by unfold execOp; dsimp only [Act.eval]; simp only [e52]; go_simp) (hK.out _ _ (hF.out.put (k := 6) (s := 53) rfl (by decide) hN (by decide) (fun u hu => Option.some.inj (Option.some.inj (show some (some (.slice AI n cI)) = some (some u) from hu))) (by dsimp only; rw [gd_ne (show 53 ≠ 57 by decide), gd_ne (show 53 ≠ 10 by decide)]; exact hW.out)))
          | 7, _ =>
            obtain rfl := Option.some.inj ho
            clear hd ho hi hc hLi
            exact st_val (v := .int .i64 kk) (w' := W) (want_none rfl) (by unfold execOp; dsimp only [Act.eval]; simp only [f1]; go_simp) (hK.out _ _ (hF.out.put (k := 7) (s := 54) rfl (by decide) hN (by decide) (fun u hu => Option.some.inj (Option.some.inj (show some (some (.int .i64 kk)) = some (some u) from hu))) (by dsimp only; rw [gd_ne (show 54 ≠ 57 by decide), gd_ne (show 54 ≠ 10 by decide)]; exact hW.out)))
          | 8, _ =>
            obtain rfl := Option.some.inj ho
            have l6 : L 6 = true := dep_of hd (n := 6) (by decide)
            have e53 : T.getD 53 undef = .slice AI n cI := hF.out.val 6 53 _ l6 rfl rfl
            have l7 : L 7 = true := dep_of hd (n := 7) (by decide)
            have e54 : T.getD 54 undef = .int .i64 kk := hF.out.val 7 54 _ l7 rfl rfl
            have hsl := hslL.out W
            clear hd ho hi hc hLi
            exact st_val (v := .slice BI m1 m2) (w' := W) (want_none rfl) (by unfold execOp; dsimp only [Act.eval]; simp only [Option.map_some, Option.map_none, Act.eval, e53, e54]; go_simp) (hK.out _ _ (hF.out.put (k := 8) (s := 55) rfl (by decide) hN (by decide) (fun u hu => Option.some.inj (Option.some.inj (show some (some (.slice BI m1 m2)) = some (some u) from hu))) (by dsimp only; rw [gd_ne (show 55 ≠ 57 by decide), gd_ne (show 55 ≠ 10 by decide)]; exact hW.out)))
          | 9, _ =>
            obtain rfl := Option.some.inj ho
            clear hd ho hi hc hLi
            exact st_val (v := .slice A2 n2 c2) (w' := W) (want_none rfl) (by unfold execOp; dsimp only [Act.eval]; simp only [f2]; go_simp) (hK.out _ _ (hF.out.put (k := 9) (s := 56) rfl (by decide) hN (by decide) (fun u hu => Option.some.inj (Option.some.inj (show some (some (.slice A2 n2 c2)) = some (some u) from hu))) (by dsimp only; rw [gd_ne (show 56 ≠ 57 by decide), gd_ne (show 56 ≠ 10 by decide)]; exact hW.out)))
          | 10, _ =>
            obtain rfl := Option.some.inj ho
            have l0 : L 0 = true := dep_of hd (n := 0) (by decide)
            have e47 : T.getD 47 undef = .pointer (some ⟨g, 0, none⟩) := hF.out.val 0 47 _ l0 rfl rfl
            have l4 : L 4 = true := dep_of hd (n := 4) (by decide)
            have e51 : T.getD 51 undef = .slice AI kk cI := hF.out.val 4 51 _ l4 rfl rfl
            have l8 : L 8 = true := dep_of hd (n := 8) (by decide)
            have e55 : T.getD 55 undef = .slice BI m1 m2 := hF.out.val 8 55 _ l8 rfl rfl
            have l9 : L 9 = true := dep_of hd (n := 9) (by decide)
            have e56 : T.getD 56 undef = .slice A2 n2 c2 := hF.out.val 9 56 _ l9 rfl rfl
            have hb := hW.out.2.1 hLi
            have n11 : ¬ L 11 = true := fun h => by have := hc 11 10 h (by decide); rw [hLi] at this; cases this
            have cc := Lib.hid (cEv.out W hb)
            clear hd ho hi hc
            refine st_call (want_none rfl) (by unfold execOp; go_simp) cc.out ?_
            rintro r w3 ⟨xe, L', rfl, a1, a2, a3, a8, a9⟩
            exact ⟨_, rfl, hK.out _ _ (hF.out.put (k := 10) (s := 57) rfl (by decide) hN (by decide) (fun u hu => by cases hu) ⟨hW.out.1.trans a8, fun h => absurd h (by simp), fun _ => (by rw [gd_eq (by rw [hF.out.size, hN]; decide)]; exact ⟨xe, L', rfl, a1, a2, a3, hW.out.1.trans a8, Nat.le_trans hb.size a9⟩), fun h => absurd h n11⟩)⟩
          | 11, _ =>
            obtain rfl := Option.some.inj ho
            have l10 : L 10 = true := dep_of hd (n := 10) (by decide)
            clear hd ho hi hc hLi
            exact st_val (v := T.getD 57 undef) (w' := W) (want_none rfl) rfl (hK.out _ _ (hF.out.put (k := 11) (s := 10) rfl (by decide) hN (by decide) (fun u hu => by cases hu) (by rw [gd_ne (show 10 ≠ 57 by decide), gd_eq (by rw [hF.out.size, hN]; decide)]; exact ⟨hW.out.1, hW.out.2.1, hW.out.2.2.1, fun _ => ⟨l10, rfl⟩⟩)))
        case hdone =>
          intro L T W2 hF hW hall
          obtain ⟨xe, L6, e57, s6, hE6, hM6, hY6, hz6⟩ := hW.2.2.1 (hall 10 (by decide))
          replace e57 := Ending.returned.inj e57
          have e10 := (hW.2.2.2 (hall 11 (by decide))).2.trans e57
          have hT : T = #[.slice A n c, .int .i64 kk, .slice A2 n2 c2, undef, undef, undef, .bool false, .pointer (some ⟨g, 0, none⟩), .pointer (some ⟨q, 0, none⟩), .slice mA mn mc, .int .i64 xe, undef, undef, .slice A n c, .bool true, .bool false, .bool false, .slice A2 n2 c2, .bool true, .bool false, .bool false, .bool false, .int .i64 kk, .bool false, .bool false, .bool false, .int .i64 kk, .slice A n c, .int .i64 n, .bool false, .bool false, undef, .pointer (some ⟨g, 0, none⟩), .pointer (some ⟨g, 0, none⟩), .slice A n c, .agg #[.slice AI n cI, .slice AT n cT], .pointer (some ⟨g, 0, none⟩), .pointer (some ⟨q, 0, none⟩), .slice AI n cI, .int .i64 kk, .slice AI kk cI, .pointer (some ⟨q, 0, none⟩), .slice AI n cI, .int .i64 kk, .slice BI m1 m2, .slice A2 n2 c2, .slice mA mn mc, .pointer (some ⟨g, 0, none⟩), .pointer (some ⟨q, 0, none⟩), .slice AI n cI, .int .i64 kk, .slice AI kk cI, .pointer (some ⟨q, 0, none⟩), .slice AI n cI, .int .i64 kk, .slice BI m1 m2, .slice A2 n2 c2, .int .i64 xe, undef, undef, undef, undef, undef, undef, undef, undef, undef, undef, undef, undef, undef, undef, undef, undef, undef, undef, undef, undef, undef, undef, undef, undef, undef, undef, undef, undef, undef, undef, undef, undef, undef, undef, undef, undef, undef, undef, undef, undef, undef, undef, undef, undef, undef, undef, undef, undef, undef, undef, undef, undef, undef, undef, undef, undef, undef, undef, undef, undef, undef, undef, undef, undef, undef, undef, undef, undef, undef, undef, undef, undef, undef, undef, undef, undef, undef, undef, undef, undef, undef, undef, undef, undef, undef, undef, undef] := (hF.fin [(47, .pointer (some ⟨g, 0, none⟩)), (48, .pointer (some ⟨q, 0, none⟩)), (49, .slice AI n cI), (50, .int .i64 kk), (51, .slice AI kk cI), (52, .pointer (some ⟨q, 0, none⟩)), (53, .slice AI n cI), (54, .int .i64 kk), (55, .slice BI m1 m2), (56, .slice A2 n2 c2), (57, .int .i64 xe), (10, .int .i64 xe)] [47, 48, 49, 50, 51, 52, 53, 54, 55, 56, 57, 10] rfl (List.forall_mem_cons.2 ⟨hF.val 0 _ _ (hall 0 (show 0 < 12 by decide)) rfl rfl, (List.forall_mem_cons.2 ⟨hF.val 1 _ _ (hall 1 (show 1 < 12 by decide)) rfl rfl, (List.forall_mem_cons.2 ⟨hF.val 2 _ _ (hall 2 (show 2 < 12 by decide)) rfl rfl, (List.forall_mem_cons.2 ⟨hF.val 3 _ _ (hall 3 (show 3 < 12 by decide)) rfl rfl, (List.forall_mem_cons.2 ⟨hF.val 4 _ _ (hall 4 (show 4 < 12 by decide)) rfl rfl, (List.forall_mem_cons.2 ⟨hF.val 5 _ _ (hall 5 (show 5 < 12 by decide)) rfl rfl, (List.forall_mem_cons.2 ⟨hF.val 6 _ _ (hall 6 (show 6 < 12 by decide)) rfl rfl, (List.forall_mem_cons.2 ⟨hF.val 7 _ _ (hall 7 (show 7 < 12 by decide)) rfl rfl, (List.forall_mem_cons.2 ⟨hF.val 8 _ _ (hall 8 (show 8 < 12 by decide)) rfl rfl, (List.forall_mem_cons.2 ⟨hF.val 9 _ _ (hall 9 (show 9 < 12 by decide)) rfl rfl, (List.forall_mem_cons.2 ⟨e57, (List.forall_mem_cons.2 ⟨e10, (fun _ h => absurd h List.not_mem_nil)⟩)⟩)⟩)⟩)⟩)⟩)⟩)⟩)⟩)⟩)⟩)⟩) (by decide)).trans (by kernel_rfl)
          clear hF hall
          subst hT
          have hY6h := Lib.hid (hY5h.out.trans hY6)
          have hs6h := Lib.hid s6
          have hN6h : Hid (NmL L6 lm oM) := by obtain ⟨e, he⟩ := hE6; rw [he]; exact hN5h.out.app
          have hM6h := Lib.hid hM6
          have hI6h := Lib.hid (hI5h.out.stay hY6)
          clear hW s6 hE6 hM6 hY6 hz6 e57 e10 cEv hN5h hI5h hs5h
          obtain ⟨ye, hye⟩ : ∃ y, bs (encO (lastO oM)) = y := ⟨_, rfl⟩
          obtain ⟨rb, hrb⟩ : ∃ b, decide (n2 ≤ 64) = b := ⟨_, rfl⟩
          have hrbi : decide ((n2 : Int) ≤ (64 : Int)) = rb := by rw [← hrb]; exact decide_eq_decide.2 (by omega)
          have cEn : Hid (∀ W, Below W2.heap.size W2 W → Calls Tryz.prog 12 #[.pointer (some ⟨g, 0, none⟩), .int .i64 xe] W fun r w' => r = .returned (.string ye) ∧ Below W.heap.size W w') := fun W h => by
            have h1 := (hs6h.out.keep h).encode xe
            rw [hM6h.out.1] at h1
            unfold TxR at h1
            rw [hye] at h1
            exact h1
          have hfine := Lib.hid (osU_fine hs6h.out.good hN6h.out)
          have cRe : Hid (∀ W, Below W2.heap.size W2 W → Calls Tryz.prog 30 #[.slice AT kk cT, .slice BT m1 m3, .slice A2 n2 c2] W fun r w' => r = .returned (.string ye) ∧ Below W.heap.size W w') := fun W h => by
            have f := hFz.out W (hY6h.out.trans (Stay.of_below h))
            have h1 := revU_any (known := os.take kk) (sent := os.drop kk) (c := c2) (kc := cT) (sc := m3) ops W hn2 (by have := hKh.out; omega) (by have := hm.out.2; omega) (by rw [hoMh.out]; exact hfine.out) f.2.2.2.2.1 f.2.2.2.2.2 (Rws.keep hH.out.2 (hs6h.out.below.trans (h.mono hs6h.out.below.size))) h200b.out
            rw [hoMh.out] at h1
            unfold TxR at h1
            rw [hye] at h1
            exact h1
          have cRg : Hid (∀ W, Calls Tryz.prog 31 #[.slice A2 n2 c2] W fun r w' => r = .returned (.bool rb) ∧ W = w') := fun W => by
            have h1 := right_any (A := A2) (c := c2) W hn2
            rw [hrb] at h1
            exact h1
          have hrbh := Lib.hid hrbi
          have hrbn := Lib.hid hrb
          clear hrbi hrb hye
          go_upto_region 7 with fail
          obtain ⟨w6, hw6⟩ : ∃ w6, w6 = W2 := ⟨_, rfl⟩
          rw [← hw6] at hY6h hs6h cEn cRe hI6h ⊢
          clear hw6
          refine region_iw tbRm7 dsRm7 (vsRm7 g q kk n n2 c2 cI cT m1 m2 m3 AI AT BI BT A2 mn mc mA xe ye rb) (fun L T W => Below w6.heap.size w6 W) rfl (by decide) (by kernel_rfl) ?hlt ?hstep ?hdone ?hstart
          case hstart => exact drewN_below 1
          case hlt =>
            intro ix o ho
            have hi := (Array.getElem?_eq_some_iff.1 ho).1
            match ix, hi with
            | 0, _ => obtain rfl := Option.some.inj ho; decide
            | 1, _ => obtain rfl := Option.some.inj ho; decide
            | 2, _ => obtain rfl := Option.some.inj ho; decide
            | 3, _ => obtain rfl := Option.some.inj ho; decide
            | 4, _ => obtain rfl := Option.some.inj ho; decide
            | 5, _ => obtain rfl := Option.some.inj ho; decide
            | 6, _ => obtain rfl := Option.some.inj ho; decide
            | 7, _ => obtain rfl := Option.some.inj ho; decide
            | 8, _ => obtain rfl := Option.some.inj ho; decide
            | 9, _ => obtain rfl := Option.some.inj ho; decide
            | 10, _ => obtain rfl := Option.some.inj ho; decide
            | 11, _ => obtain rfl := Option.some.inj ho; decide
            | 12, _ => obtain rfl := Option.some.inj ho; decide
            | 13, _ => obtain rfl := Option.some.inj ho; decide
            | 14, _ => obtain rfl := Option.some.inj ho; decide
            | 15, _ => obtain rfl := Option.some.inj ho; decide
            | 16, _ => obtain rfl := Option.some.inj ho; decide
            | 17, _ => obtain rfl := Option.some.inj ho; decide
            | 18, _ => obtain rfl := Option.some.inj ho; decide
            | 19, _ => obtain rfl := Option.some.inj ho; decide
            | 20, _ => obtain rfl := Option.some.inj ho; decide
            | 21, _ => obtain rfl := Option.some.inj ho; decide
          case hstep =>
            intro T1 hE L T W ix o hF hW hc ho hLi hd K hK
            have hN : T1.size = 145 := by rw [hE]; rfl
            have f1 : T.getD 1 undef = .int .i64 kk := (hF.old 1 (by decide)).trans (by rw [hE]; rfl)
            have f2 : T.getD 2 undef = .slice A2 n2 c2 := (hF.old 2 (by decide)).trans (by rw [hE]; rfl)
            have f7 : T.getD 7 undef = .pointer (some ⟨g, 0, none⟩) := (hF.old 7 (by decide)).trans (by rw [hE]; rfl)
            have f8 : T.getD 8 undef = .pointer (some ⟨q, 0, none⟩) := (hF.old 8 (by decide)).trans (by rw [hE]; rfl)
            have f10 : T.getD 10 undef = .int .i64 xe := (hF.old 10 (by decide)).trans (by rw [hE]; rfl)
            clear hE
            replace hF := Lib.hid hF
            replace hW := Lib.hid hW
            replace hK := Lib.hid hK
            have hi := (List.getElem?_eq_some_iff.1 ho).1
            match ix, hi with
            | 0, _ =>
              obtain rfl := Option.some.inj ho
              clear hd ho hi hc hLi
              exact st_val (v := .pointer (some ⟨g, 0, none⟩)) (w' := W) (want_none rfl) (by unfold execOp; dsimp only [Act.eval]; simp only [f7]; go_simp) (hK.out _ _ (hF.out.put (k := 0) (s := 58) rfl (by decide) hN (by decide) (fun u hu => Option.some.inj (Option.some.inj (show some (some (.pointer (some ⟨g, 0, none⟩))) = some (some u) from hu))) hW.out))
            | 1, _ =>
              obtain rfl := Option.some.inj ho
              clear hd ho hi hc hLi
              exact st_val (v := .int .i64 xe) (w' := W) (want_none rfl) (by unfold execOp; dsimp only [Act.eval]; simp only [f10]; go_simp) (hK.out _ _ (hF.out.put (k := 1) (s := 59) rfl (by decide) hN (by decide) (fun u hu => Option.some.inj (Option.some.inj (show some (some (.int .i64 xe)) = some (some u) from hu))) hW.out))
            | 2, _ =>
              obtain rfl := Option.some.inj ho
              have l0 : L 0 = true := dep_of hd (n := 0) (by decide)
              have e58 : T.getD 58 undef = .pointer (some ⟨g, 0, none⟩) := hF.out.val 0 58 _ l0 rfl rfl
              have l1 : L 1 = true := dep_of hd (n := 1) (by decide)
              have e59 : T.getD 59 undef = .int .i64 xe := hF.out.val 1 59 _ l1 rfl rfl
              have hb := hW.out
              have cc := Lib.hid (cEn.out W hb)
              clear hd ho hi hc hLi
              refine st_call (want_none rfl) (by unfold execOp; go_simp) cc.out ?_
              rintro r w3 ⟨rfl, hb4⟩
              exact ⟨_, rfl, hK.out _ _ (hF.out.put (k := 2) (s := 60) rfl (by decide) hN (by decide) (fun u hu => Option.some.inj (Option.some.inj (show some (some (.string ye)) = some (some u) from hu))) (hb.trans (hb4.mono hb.size)))⟩
            | 3, _ =>
              obtain rfl := Option.some.inj ho
              clear hd ho hi hc hLi
              exact st_val (v := .pointer (some ⟨q, 1, none⟩)) (w' := W) (want_none rfl) (by unfold execOp; dsimp only [Act.eval]; simp only [f8]; go_simp) (hK.out _ _ (hF.out.put (k := 3) (s := 61) rfl (by decide) hN (by decide) (fun u hu => Option.some.inj (Option.some.inj (show some (some (.pointer (some ⟨q, 1, none⟩))) = some (some u) from hu))) hW.out))
            | 4, _ =>
              obtain rfl := Option.some.inj ho
              have l3 : L 3 = true := dep_of hd (n := 3) (by decide)
              have e61 : T.getD 61 undef = .pointer (some ⟨q, 1, none⟩) := hF.out.val 3 61 _ l3 rfl rfl
              have hcc := (hFz.out W (hY6h.out.trans (Stay.of_below hW.out))).2.1
              clear hd ho hi hc hLi
              exact st_val (v := .slice AT n cT) (w' := W) (want_none rfl) (by unfold execOp; dsimp only [Act.eval]; simp only [e61]; go_simp) (hK.out _ _ (hF.out.put (k := 4) (s := 62) rfl (by decide) hN (by decide) (fun u hu => Option.some.inj (Option.some.inj (show some (some (.slice AT n cT)) = some (some u) from hu))) hW.out))
            | 5, _ =>
              obtain rfl := Option.some.inj ho
              clear hd ho hi hc hLi
              exact st_val (v := .int .i64 kk) (w' := W) (want_none rfl) (by unfold execOp; dsimp only [Act.eval]; simp only [f1]; go_simp) (hK.out _ _ (hF.out.put (k := 5) (s := 63) rfl (by decide) hN (by decide) (fun u hu => Option.some.inj (Option.some.inj (show some (some (.int .i64 kk)) = some (some u) from hu))) hW.out))
            | 6, _ =>
              obtain rfl := Option.some.inj ho
              have l4 : L 4 = true := dep_of hd (n := 4) (by decide)
              have e62 : T.getD 62 undef = .slice AT n cT := hF.out.val 4 62 _ l4 rfl rfl
              have l5 : L 5 = true := dep_of hd (n := 5) (by decide)
              have e63 : T.getD 63 undef = .int .i64 kk := hF.out.val 5 63 _ l5 rfl rfl
              have hsl := hslHt.out W
              clear hd ho hi hc hLi
              exact st_val (v := .slice AT kk cT) (w' := W) (want_none rfl) (by unfold execOp; dsimp only [Act.eval]; simp only [Option.map_some, Option.map_none, Act.eval, e62, e63]; go_simp) (hK.out _ _ (hF.out.put (k := 6) (s := 64) rfl (by decide) hN (by decide) (fun u hu => Option.some.inj (Option.some.inj (show some (some (.slice AT kk cT)) = some (some u) from hu))) hW.out))
            | 7, _ =>
              obtain rfl := Option.some.inj ho
              clear hd ho hi hc hLi
              exact st_val (v := .pointer (some ⟨q, 1, none⟩)) (w' := W) (want_none rfl) (by unfold execOp; dsimp only [Act.eval]; simp only [f8]; go_simp) (hK.out _ _ (hF.out.put (k := 7) (s := 65) rfl (by decide) hN (by decide) (fun u hu => Option.some.inj (Option.some.inj (show some (some (.pointer (some ⟨q, 1, none⟩))) = some (some u) from hu))) hW.out))
            | 8, _ =>
              obtain rfl := Option.some.inj ho
              have l7 : L 7 = true := dep_of hd (n := 7) (by decide)
              have e65 : T.getD 65 undef = .pointer (some ⟨q, 1, none⟩) := hF.out.val 7 65 _ l7 rfl rfl
              have hcc := (hFz.out W (hY6h.out.trans (Stay.of_below hW.out))).2.1
              clear hd ho hi hc hLi
              exact st_val (v := .slice AT n cT) (w' := W) (want_none rfl) (by unfold execOp; dsimp only [Act.eval]; simp only [e65]; go_simp) (hK.out _ _ (hF.out.put (k := 8) (s := 66) rfl (by decide) hN (by decide) (fun u hu => Option.some.inj (Option.some.inj (show some (some (.slice AT n cT)) = some (some u) from hu))) hW.out))
            | 9, _ =>
              obtain rfl := Option.some.inj ho
              clear hd ho hi hc hLi
              exact st_val (v := .int .i64 kk) (w' := W) (want_none rfl) (by unfold execOp; dsimp only [Act.eval]; simp only [f1]; go_simp) (hK.out _ _ (hF.out.put (k := 9) (s := 67) rfl (by decide) hN (by decide) (fun u hu => Option.some.inj (Option.some.inj (show some (some (.int .i64 kk)) = some (some u) from hu))) hW.out))
            | 10, _ =>
              obtain rfl := Option.some.inj ho
              have l8 : L 8 = true := dep_of hd (n := 8) (by decide)
              have e66 : T.getD 66 undef = .slice AT n cT := hF.out.val 8 66 _ l8 rfl rfl
              have l9 : L 9 = true := dep_of hd (n := 9) (by decide)
              have e67 : T.getD 67 undef = .int .i64 kk := hF.out.val 9 67 _ l9 rfl rfl
              have hsl := hslLt.out W
              clear hd ho hi hc hLi
              exact st_val (v := .slice BT m1 m3) (w' := W) (want_none rfl) (by unfold execOp; dsimp only [Act.eval]; simp only [Option.map_some, Option.map_none, Act.eval, e66, e67]; go_simp) (hK.out _ _ (hF.out.put (k := 10) (s := 68) rfl (by decide) hN (by decide) (fun u hu => Option.some.inj (Option.some.inj (show some (some (.slice BT m1 m3)) = some (some u) from hu))) hW.out))
            | 11, _ =>
              obtain rfl := Option.some.inj ho
              clear hd ho hi hc hLi
              exact st_val (v := .slice A2 n2 c2) (w' := W) (want_none rfl) (by unfold execOp; dsimp only [Act.eval]; simp only [f2]; go_simp) (hK.out _ _ (hF.out.put (k := 11) (s := 69) rfl (by decide) hN (by decide) (fun u hu => Option.some.inj (Option.some.inj (show some (some (.slice A2 n2 c2)) = some (some u) from hu))) hW.out))
            | 12, _ =>
              obtain rfl := Option.some.inj ho
              have l6 : L 6 = true := dep_of hd (n := 6) (by decide)
              have e64 : T.getD 64 undef = .slice AT kk cT := hF.out.val 6 64 _ l6 rfl rfl
              have l10 : L 10 = true := dep_of hd (n := 10) (by decide)
              have e68 : T.getD 68 undef = .slice BT m1 m3 := hF.out.val 10 68 _ l10 rfl rfl
              have l11 : L 11 = true := dep_of hd (n := 11) (by decide)
              have e69 : T.getD 69 undef = .slice A2 n2 c2 := hF.out.val 11 69 _ l11 rfl rfl
              have hb := hW.out
              have cc := Lib.hid (cRe.out W hb)
              clear hd ho hi hc hLi
              refine st_call (want_none rfl) (by unfold execOp; go_simp) cc.out ?_
              rintro r w3 ⟨rfl, hb4⟩
              exact ⟨_, rfl, hK.out _ _ (hF.out.put (k := 12) (s := 70) rfl (by decide) hN (by decide) (fun u hu => Option.some.inj (Option.some.inj (show some (some (.string ye)) = some (some u) from hu))) (hb.trans (hb4.mono hb.size)))⟩
            | 13, _ =>
              obtain rfl := Option.some.inj ho
              have l2 : L 2 = true := dep_of hd (n := 2) (by decide)
              have e60 : T.getD 60 undef = .string ye := hF.out.val 2 60 _ l2 rfl rfl
              have l12 : L 12 = true := dep_of hd (n := 12) (by decide)
              have e70 : T.getD 70 undef = .string ye := hF.out.val 12 70 _ l12 rfl rfl
              clear hd ho hi hc hLi
              exact st_val (v := .bool false) (w' := W) (want_none rfl) (by unfold execOp; dsimp only [Act.eval]; simp only [e60, e70]; go_simp) (hK.out _ _ (hF.out.put (k := 13) (s := 71) rfl (by decide) hN (by decide) (fun u hu => Option.some.inj (Option.some.inj (show some (some (.bool false)) = some (some u) from hu))) hW.out))
            | 14, _ =>
              obtain rfl := Option.some.inj ho
              have l13 : L 13 = true := dep_of hd (n := 13) (by decide)
              have e71 : T.getD 71 undef = .bool false := hF.out.val 13 71 _ l13 rfl rfl
              clear hd ho hi hc hLi
              exact st_val (v := .bool false) (w' := W) (want_none rfl) (by unfold execOp; dsimp only [Act.eval]; simp only [e71]; go_simp) (hK.out _ _ (hF.out.put (k := 14) (s := 72) rfl (by decide) hN (by decide) (fun u hu => Option.some.inj (Option.some.inj (show some (some (.bool false)) = some (some u) from hu))) hW.out))
            | 15, _ =>
              obtain rfl := Option.some.inj ho
              have l14 : L 14 = true := dep_of hd (n := 14) (by decide)
              have e72 : T.getD 72 undef = .bool false := hF.out.val 14 72 _ l14 rfl rfl
              clear hd ho hi hc hLi
              exact st_val (v := .slice A2 n2 c2) (w' := W) (by rw [want_some (j := 14) (s := 72) rfl rfl e72]; rfl) (by unfold execOp; dsimp only [Act.eval]; simp only [f2]; go_simp) (hK.out _ _ (hF.out.put (k := 15) (s := 73) rfl (by decide) hN (by decide) (fun u hu => Option.some.inj (Option.some.inj (show some (some (.slice A2 n2 c2)) = some (some u) from hu))) hW.out))
            | 16, _ =>
              obtain rfl := Option.some.inj ho
              have l15 : L 15 = true := dep_of hd (n := 15) (by decide)
              have e73 : T.getD 73 undef = .slice A2 n2 c2 := hF.out.val 15 73 _ l15 rfl rfl
              have l14 : L 14 = true := dep_of hd (n := 14) (by decide)
              have e72 : T.getD 72 undef = .bool false := hF.out.val 14 72 _ l14 rfl rfl
              have hb := hW.out
              have cc := Lib.hid (cRg.out W)
              clear hd ho hi hc hLi
              refine st_call (by rw [want_some (j := 14) (s := 72) rfl rfl e72]; rfl) (by unfold execOp; go_simp) cc.out ?_
              rintro r w3 ⟨rfl, rfl⟩
              exact ⟨_, rfl, hK.out _ _ (hF.out.put (k := 16) (s := 74) rfl (by decide) hN (by decide) (fun u hu => Option.some.inj (Option.some.inj (show some (some (.bool rb)) = some (some u) from hu))) hb)⟩
            | 17, _ =>
              obtain rfl := Option.some.inj ho
              have l14 : L 14 = true := dep_of hd (n := 14) (by decide)
              have e72 : T.getD 72 undef = .bool false := hF.out.val 14 72 _ l14 rfl rfl
              clear hd ho hi hc hLi
              exact st_val (v := .slice A2 n2 c2) (w' := W) (by rw [want_some (j := 14) (s := 72) rfl rfl e72]; rfl) (by unfold execOp; dsimp only [Act.eval]; simp only [f2]; go_simp) (hK.out _ _ (hF.out.put (k := 17) (s := 75) rfl (by decide) hN (by decide) (fun u hu => Option.some.inj (Option.some.inj (show some (some (.slice A2 n2 c2)) = some (some u) from hu))) hW.out))
            | 18, _ =>
              obtain rfl := Option.some.inj ho
              have l17 : L 17 = true := dep_of hd (n := 17) (by decide)
              have e75 : T.getD 75 undef = .slice A2 n2 c2 := hF.out.val 17 75 _ l17 rfl rfl
              have l14 : L 14 = true := dep_of hd (n := 14) (by decide)
              have e72 : T.getD 72 undef = .bool false := hF.out.val 14 72 _ l14 rfl rfl
              clear hd ho hi hc hLi
              exact st_val (v := .int .i64 n2) (w' := W) (by rw [want_some (j := 14) (s := 72) rfl rfl e72]; rfl) (by unfold execOp; go_simp) (hK.out _ _ (hF.out.put (k := 18) (s := 76) rfl (by decide) hN (by decide) (fun u hu => Option.some.inj (Option.some.inj (show some (some (.int .i64 n2)) = some (some u) from hu))) hW.out))
            | 19, _ =>
              obtain rfl := Option.some.inj ho
              have l18 : L 18 = true := dep_of hd (n := 18) (by decide)
              have e76 : T.getD 76 undef = .int .i64 n2 := hF.out.val 18 76 _ l18 rfl rfl
              have l14 : L 14 = true := dep_of hd (n := 14) (by decide)
              have e72 : T.getD 72 undef = .bool false := hF.out.val 14 72 _ l14 rfl rfl
              have hrb := hrbh.out
              clear hd ho hi hc hLi
              exact st_val (v := .bool rb) (w' := W) (by rw [want_some (j := 14) (s := 72) rfl rfl e72]; rfl) (by unfold execOp; dsimp only [Act.eval]; simp only [e76]; go_simp) (hK.out _ _ (hF.out.put (k := 19) (s := 77) rfl (by decide) hN (by decide) (fun u hu => Option.some.inj (Option.some.inj (show some (some (.bool rb)) = some (some u) from hu))) hW.out))
            | 20, _ =>
              obtain rfl := Option.some.inj ho
              have l16 : L 16 = true := dep_of hd (n := 16) (by decide)
              have e74 : T.getD 74 undef = .bool rb := hF.out.val 16 74 _ l16 rfl rfl
              have l19 : L 19 = true := dep_of hd (n := 19) (by decide)
              have e77 : T.getD 77 undef = .bool rb := hF.out.val 19 77 _ l19 rfl rfl
              have l14 : L 14 = true := dep_of hd (n := 14) (by decide)
              have e72 : T.getD 72 undef = .bool false := hF.out.val 14 72 _ l14 rfl rfl
              clear hd ho hi hc hLi
              exact st_val (v := .bool false) (w' := W) (by rw [want_some (j := 14) (s := 72) rfl rfl e72]; rfl) (by unfold execOp; dsimp only [Act.eval]; simp only [e74, e77]; go_simp) (hK.out _ _ (hF.out.put (k := 20) (s := 78) rfl (by decide) hN (by decide) (fun u hu => Option.some.inj (Option.some.inj (show some (some (.bool false)) = some (some u) from hu))) hW.out))
            | 21, _ =>
              obtain rfl := Option.some.inj ho
              have l14 : L 14 = true := dep_of hd (n := 14) (by decide)
              have e72 : T.getD 72 undef = .bool false := hF.out.val 14 72 _ l14 rfl rfl
              have l20 : L 20 = true := dep_of hd (n := 20) (by decide)
              have e78 : T.getD 78 undef = .bool false := hF.out.val 20 78 _ l20 rfl rfl
              clear hd ho hi hc hLi
              exact st_val (v := .bool false) (w' := W) (want_none rfl) (by unfold execOp; dsimp only [Act.eval]; simp only [e72, e78]; go_simp) (hK.out _ _ (hF.out.put (k := 21) (s := 79) rfl (by decide) hN (by decide) (fun u hu => Option.some.inj (Option.some.inj (show some (some (.bool false)) = some (some u) from hu))) hW.out))
          case hdone =>
            intro L T W2 hF hW hall
            have hT : T = #[.slice A n c, .int .i64 kk, .slice A2 n2 c2, undef, undef, undef, .bool false, .pointer (some ⟨g, 0, none⟩), .pointer (some ⟨q, 0, none⟩), .slice mA mn mc, .int .i64 xe, undef, undef, .slice A n c, .bool true, .bool false, .bool false, .slice A2 n2 c2, .bool true, .bool false, .bool false, .bool false, .int .i64 kk, .bool false, .bool false, .bool false, .int .i64 kk, .slice A n c, .int .i64 n, .bool false, .bool false, undef, .pointer (some ⟨g, 0, none⟩), .pointer (some ⟨g, 0, none⟩), .slice A n c, .agg #[.slice AI n cI, .slice AT n cT], .pointer (some ⟨g, 0, none⟩), .pointer (some ⟨q, 0, none⟩), .slice AI n cI, .int .i64 kk, .slice AI kk cI, .pointer (some ⟨q, 0, none⟩), .slice AI n cI, .int .i64 kk, .slice BI m1 m2, .slice A2 n2 c2, .slice mA mn mc, .pointer (some ⟨g, 0, none⟩), .pointer (some ⟨q, 0, none⟩), .slice AI n cI, .int .i64 kk, .slice AI kk cI, .pointer (some ⟨q, 0, none⟩), .slice AI n cI, .int .i64 kk, .slice BI m1 m2, .slice A2 n2 c2, .int .i64 xe, .pointer (some ⟨g, 0, none⟩), .int .i64 xe, .string ye, .pointer (some ⟨q, 1, none⟩), .slice AT n cT, .int .i64 kk, .slice AT kk cT, .pointer (some ⟨q, 1, none⟩), .slice AT n cT, .int .i64 kk, .slice BT m1 m3, .slice A2 n2 c2, .string ye, .bool false, .bool false, .slice A2 n2 c2, .bool rb, .slice A2 n2 c2, .int .i64 n2, .bool rb, .bool false, .bool false, undef, undef, undef, undef, undef, undef, undef, undef, undef, undef, undef, undef, undef, undef, undef, undef, undef, undef, undef, undef, undef, undef, undef, undef, undef, undef, undef, undef, undef, undef, undef, undef, undef, undef, undef, undef, undef, undef, undef, undef, undef, undef, undef, undef, undef, undef, undef, undef, undef, undef, undef, undef, undef, undef, undef, undef, undef, undef, undef, undef, undef, undef, undef, undef, undef] := (hF.fin [(58, .pointer (some ⟨g, 0, none⟩)), (59, .int .i64 xe), (60, .string ye), (61, .pointer (some ⟨q, 1, none⟩)), (62, .slice AT n cT), (63, .int .i64 kk), (64, .slice AT kk cT), (65, .pointer (some ⟨q, 1, none⟩)), (66, .slice AT n cT), (67, .int .i64 kk), (68, .slice BT m1 m3), (69, .slice A2 n2 c2), (70, .string ye), (71, .bool false), (72, .bool false), (73, .slice A2 n2 c2), (74, .bool rb), (75, .slice A2 n2 c2), (76, .int .i64 n2), (77, .bool rb), (78, .bool false), (79, .bool false)] [58, 59, 60, 61, 62, 63, 64, 65, 66, 67, 68, 69, 70, 71, 72, 73, 74, 75, 76, 77, 78, 79] rfl (List.forall_mem_cons.2 ⟨hF.val 0 _ _ (hall 0 (show 0 < 22 by decide)) rfl rfl, (List.forall_mem_cons.2 ⟨hF.val 1 _ _ (hall 1 (show 1 < 22 by decide)) rfl rfl, (List.forall_mem_cons.2 ⟨hF.val 2 _ _ (hall 2 (show 2 < 22 by decide)) rfl rfl, (List.forall_mem_cons.2 ⟨hF.val 3 _ _ (hall 3 (show 3 < 22 by decide)) rfl rfl, (List.forall_mem_cons.2 ⟨hF.val 4 _ _ (hall 4 (show 4 < 22 by decide)) rfl rfl, (List.forall_mem_cons.2 ⟨hF.val 5 _ _ (hall 5 (show 5 < 22 by decide)) rfl rfl, (List.forall_mem_cons.2 ⟨hF.val 6 _ _ (hall 6 (show 6 < 22 by decide)) rfl rfl, (List.forall_mem_cons.2 ⟨hF.val 7 _ _ (hall 7 (show 7 < 22 by decide)) rfl rfl, (List.forall_mem_cons.2 ⟨hF.val 8 _ _ (hall 8 (show 8 < 22 by decide)) rfl rfl, (List.forall_mem_cons.2 ⟨hF.val 9 _ _ (hall 9 (show 9 < 22 by decide)) rfl rfl, (List.forall_mem_cons.2 ⟨hF.val 10 _ _ (hall 10 (show 10 < 22 by decide)) rfl rfl, (List.forall_mem_cons.2 ⟨hF.val 11 _ _ (hall 11 (show 11 < 22 by decide)) rfl rfl, (List.forall_mem_cons.2 ⟨hF.val 12 _ _ (hall 12 (show 12 < 22 by decide)) rfl rfl, (List.forall_mem_cons.2 ⟨hF.val 13 _ _ (hall 13 (show 13 < 22 by decide)) rfl rfl, (List.forall_mem_cons.2 ⟨hF.val 14 _ _ (hall 14 (show 14 < 22 by decide)) rfl rfl, (List.forall_mem_cons.2 ⟨hF.val 15 _ _ (hall 15 (show 15 < 22 by decide)) rfl rfl, (List.forall_mem_cons.2 ⟨hF.val 16 _ _ (hall 16 (show 16 < 22 by decide)) rfl rfl, (List.forall_mem_cons.2 ⟨hF.val 17 _ _ (hall 17 (show 17 < 22 by decide)) rfl rfl, (List.forall_mem_cons.2 ⟨hF.val 18 _ _ (hall 18 (show 18 < 22 by decide)) rfl rfl, (List.forall_mem_cons.2 ⟨hF.val 19 _ _ (hall 19 (show 19 < 22 by decide)) rfl rfl, (List.forall_mem_cons.2 ⟨hF.val 20 _ _ (hall 20 (show 20 < 22 by decide)) rfl rfl, (List.forall_mem_cons.2 ⟨hF.val 21 _ _ (hall 21 (show 21 < 22 by decide)) rfl rfl, (fun _ h => absurd h List.not_mem_nil)⟩)⟩)⟩)⟩)⟩)⟩)⟩)⟩)⟩)⟩)⟩)⟩)⟩)⟩)⟩)⟩)⟩)⟩)⟩)⟩)⟩)⟩) (by decide)).trans (by kernel_rfl)
            clear hF hall
            subst hT
            have hB7 := Lib.hid hW
            clear hW cEn cRe cRg
            have hs7 := Lib.hid (hs6h.out.keep hB7.out)
            have hY7 := Lib.hid (hY6h.out.trans (Stay.of_below hB7.out))
            have hI7 := Lib.hid (hI6h.out.stay (Stay.of_below hB7.out))
            have hB7w := Lib.hid hs7.out.below
            clear hs6h hI6h hY6h
            by_cases h64 : n2 ≤ 64
            case neg =>
              have hgt : (64 : Int) < (n2 : Int) := by omega
              have hoe : oM = [] := by rw [← hoMh.out]; unfold osU; rw [if_neg h64]
              obtain rfl : mn = 0 := by have := hmnh.out; rw [hoe] at this; simpa using this
              obtain rfl : xe = -1 := hM6h.out.2 (by rw [hoe]; rfl)
              clear h64 hoe
              go_wp2_with (go_at_call 27; refine (cA.out _).mono ?_; rintro r w9 ⟨rfl, hb9⟩)
              go_ret
              exact ⟨rfl, hB7w.out.trans (hb9.mono hB7w.out.size)⟩
            case pos =>
              have h64i : ¬ (64 : Int) < (n2 : Int) := by omega
              have hoe : recT (os.take kk) (os.drop kk) ops [] = oM := by rw [← hoMh.out]; unfold osU; rw [if_pos h64]
              have hol : oM.length = n2 := by rw [← hoe, recT_len]; simpa using hll.out.2
              obtain rfl : mn = n2 := by have := hmnh.out; omega
              have hfine7 := Lib.hid (osU_fine hs7.out.good hN6h.out)
              have cRA : Hid (∀ W, Below W2.heap.size W2 W → Calls Tryz.prog 32 #[.slice AT kk cT, .slice BT m1 m3, .slice A2 mn c2] W (RAllR W mn oM)) := fun W h => by
                have f := hFz.out W (hY7.out.trans (Stay.of_below h))
                have h1 := rall_any (known := os.take kk) (sent := os.drop kk) (c := c2) (kc := cT) (sc := m3) ops W (by omega) (by have := hKh.out; omega) (by have := hm.out.2; omega) (by rw [hoe]; exact hfine7.out) f.2.2.2.2.1 f.2.2.2.2.2 (Rws.keep hH.out.2 (hs7.out.below.trans (h.mono hs7.out.below.size))) (fun x hx => by have := h200b.out x hx; omega)
                rw [hoe] at h1
                exact h1
              have holh := Lib.hid hol
              clear h64 hoe hol hfine7
              go_upto_region 11 with fail
              clear h64i
              obtain ⟨w7, hw7⟩ : ∃ w7, w7 = W2 := ⟨_, rfl⟩
              rw [← hw7] at hs7 hY7 hI7 cRA hB7w ⊢
              clear hw7
              refine region_iw tbRm11 dsRm11 (vsRm11 g q kk n mn c2 cI cT m1 m2 m3 AI AT BI BT A2 mn mc mA xe ye rb) (fun L T W => Below w7.heap.size w7 W ∧ (L 9 = true → ∃ (wA : Option Addr) (wc : Nat), T.getD 102 undef = .slice wA mn wc ∧ Strs W wA mn (oM.map fun o => bs (encO o))) ∧ (L 10 = true → L 9 = true ∧ T.getD 11 undef = T.getD 102 undef)) rfl (by decide) (by kernel_rfl) ?hlt ?hstep ?hdone ?hstart
              case hstart => exact ⟨drewN_below 1, fun h => absurd h (inv_not (n := 11) (i := 9) (by decide)), fun h => absurd h (inv_not (n := 11) (i := 10) (by decide))⟩
              case hlt =>
                intro ix o ho
                have hi := (Array.getElem?_eq_some_iff.1 ho).1
                match ix, hi with
                | 0, _ => obtain rfl := Option.some.inj ho; decide
                | 1, _ => obtain rfl := Option.some.inj ho; decide
                | 2, _ => obtain rfl := Option.some.inj ho; decide
                | 3, _ => obtain rfl := Option.some.inj ho; decide
                | 4, _ => obtain rfl := Option.some.inj ho; decide
                | 5, _ => obtain rfl := Option.some.inj ho; decide
                | 6, _ => obtain rfl := Option.some.inj ho; decide
                | 7, _ => obtain rfl := Option.some.inj ho; decide
                | 8, _ => obtain rfl := Option.some.inj ho; decide
                | 9, _ => obtain rfl := Option.some.inj ho; decide
                | 10, _ => obtain rfl := Option.some.inj ho; decide
              case hstep =>
                intro T1 hE L T W ix o hF hW hc ho hLi hd K hK
                have hN : T1.size = 145 := by rw [hE]; rfl
                have f1 : T.getD 1 undef = .int .i64 kk := (hF.old 1 (by decide)).trans (by rw [hE]; rfl)
                have f2 : T.getD 2 undef = .slice A2 mn c2 := (hF.old 2 (by decide)).trans (by rw [hE]; rfl)
                have f8 : T.getD 8 undef = .pointer (some ⟨q, 0, none⟩) := (hF.old 8 (by decide)).trans (by rw [hE]; rfl)
                clear hE
                replace hF := Lib.hid hF
                replace hW := Lib.hid hW
                replace hK := Lib.hid hK
                have hi := (List.getElem?_eq_some_iff.1 ho).1
                match ix, hi with
                | 0, _ =>
                  obtain rfl := Option.some.inj ho
                  clear hd ho hi hc hLi
                  exact st_val (v := .pointer (some ⟨q, 1, none⟩)) (w' := W) (want_none rfl) (by unfold execOp; dsimp only [Act.eval]; simp only [f8]; go_simp) (hK.out _ _ (hF.out.put (k := 0) (s := 93) rfl (by decide) hN (by decide) (fun u hu => Option.some.inj (Option.some.inj (show some (some (.pointer (some ⟨q, 1, none⟩))) = some (some u) from hu))) (by dsimp only; rw [gd_ne (show 93 ≠ 102 by decide), gd_ne (show 93 ≠ 11 by decide)]; exact hW.out)))
                | 1, _ =>
                  obtain rfl := Option.some.inj ho
                  have l0 : L 0 = true := dep_of hd (n := 0) (by decide)
                  have e93 : T.getD 93 undef = .pointer (some ⟨q, 1, none⟩) := hF.out.val 0 93 _ l0 rfl rfl
                  have hcc := (hFz.out W (hY7.out.trans (Stay.of_below hW.out.1))).2.1
                  clear hd ho hi hc hLi
                  exact st_val (v := .slice AT n cT) (w' := W) (want_none rfl) (by unfold execOp; dsimp only [Act.eval]; simp only [e93]; go_simp) (hK.out _ _ (hF.out.put (k := 1) (s := 94) rfl (by decide) hN (by decide) (fun u hu => Option.some.inj (Option.some.inj (show some (some (.slice AT n cT)) = some (some u) from hu))) (by dsimp only; rw [gd_ne (show 94 ≠ 102 by decide), gd_ne (show 94 ≠ 11 by decide)]; exact hW.out)))
                | 2, _ =>
                  obtain rfl := Option.some.inj ho
                  clear hd ho hi hc hLi
                  exact st_val (v := .int .i64 kk) (w' := W) (want_none rfl) (by unfold execOp; dsimp only [Act.eval]; simp only [f1]; go_simp) (hK.out _ _ (hF.out.put (k := 2) (s := 95) rfl (by decide) hN (by decide) (fun u hu => Option.some.inj (Option.some.inj (show some (some (.int .i64 kk)) = some (some u) from hu))) (by dsimp only; rw [gd_ne (show 95 ≠ 102 by decide), gd_ne (show 95 ≠ 11 by decide)]; exact hW.out)))
                | 3, _ =>
                  obtain rfl := Option.some.inj ho
                  have l1 : L 1 = true := dep_of hd (n := 1) (by decide)
                  have e94 : T.getD 94 undef = .slice AT n cT := hF.out.val 1 94 _ l1 rfl rfl
                  have l2 : L 2 = true := dep_of hd (n := 2) (by decide)
                  have e95 : T.getD 95 undef = .int .i64 kk := hF.out.val 2 95 _ l2 rfl rfl
                  have hsl := hslHt.out W
                  clear hd ho hi hc hLi
                  exact st_val (v := .slice AT kk cT) (w' := W) (want_none rfl) (by unfold execOp; dsimp only [Act.eval]; simp only [Option.map_some, Option.map_none, Act.eval, e94, e95]; go_simp) (hK.out _ _ (hF.out.put (k := 3) (s := 96) rfl (by decide) hN (by decide) (fun u hu => Option.some.inj (Option.some.inj (show some (some (.slice AT kk cT)) = some (some u) from hu))) (by dsimp only; rw [gd_ne (show 96 ≠ 102 by decide), gd_ne (show 96 ≠ 11 by decide)]; exact hW.out)))
                | 4, _ =>
                  obtain rfl := Option.some.inj ho
                  clear hd ho hi hc hLi
                  exact st_val (v := .pointer (some ⟨q, 1, none⟩)) (w' := W) (want_none rfl) (by unfold execOp; dsimp only [Act.eval]; simp only [f8]; go_simp) (hK.out _ _ (hF.out.put (k := 4) (s := 97) rfl (by decide) hN (by decide) (fun u hu => Option.some.inj (Option.some.inj (show some (some (.pointer (some ⟨q, 1, none⟩))) = some (some u) from hu))) (by dsimp only; rw [gd_ne (show 97 ≠ 102 by decide), gd_ne (show 97 ≠ 11 by decide)]; exact hW.out)))
                | 5, _ =>
                  obtain rfl := Option.some.inj ho
                  have l4 : L 4 = true := dep_of hd (n := 4) (by decide)
                  have e97 : T.getD 97 undef = .pointer (some ⟨q, 1, none⟩) := hF.out.val 4 97 _ l4 rfl rfl
                  have hcc := (hFz.out W (hY7.out.trans (Stay.of_below hW.out.1))).2.1
                  clear hd ho hi hc hLi
                  exact st_val (v := .slice AT n cT) (w' := W) (want_none rfl) (by unfold execOp; dsimp only [Act.eval]; simp only [e97]; go_simp) (hK.out _ _ (hF.out.put (k := 5) (s := 98) rfl (by decide) hN (by decide) (fun u hu => Option.some.inj (Option.some.inj (show some (some (.slice AT n cT)) = some (some u) from hu))) (by dsimp only; rw [gd_ne (show 98 ≠ 102 by decide), gd_ne (show 98 ≠ 11 by decide)]; exact hW.out)))
                | 6, _ =>
                  obtain rfl := Option.some.inj ho
                  clear hd ho hi hc hLi
                  exact st_val (v := .int .i64 kk) (w' := W) (want_none rfl) (by unfold execOp; dsimp only [Act.eval]; simp only [f1]; go_simp) (hK.out _ _ (hF.out.put (k := 6) (s := 99) rfl (by decide) hN (by decide) (fun u hu => Option.some.inj (Option.some.inj (show some (some (.int .i64 kk)) = some (some u) from hu))) (by dsimp only; rw [gd_ne (show 99 ≠ 102 by decide), gd_ne (show 99 ≠ 11 by decide)]; exact hW.out)))
                | 7, _ =>
                  obtain rfl := Option.some.inj ho
                  have l5 : L 5 = true := dep_of hd (n := 5) (by decide)
                  have e98 : T.getD 98 undef = .slice AT n cT := hF.out.val 5 98 _ l5 rfl rfl
                  have l6 : L 6 = true := dep_of hd (n := 6) (by decide)
                  have e99 : T.getD 99 undef = .int .i64 kk := hF.out.val 6 99 _ l6 rfl rfl
                  have hsl := hslLt.out W
                  clear hd ho hi hc hLi
                  exact st_val (v := .slice BT m1 m3) (w' := W) (want_none rfl) (by unfold execOp; dsimp only [Act.eval]; simp only [Option.map_some, Option.map_none, Act.eval, e98, e99]; go_simp) (hK.out _ _ (hF.out.put (k := 7) (s := 100) rfl (by decide) hN (by decide) (fun u hu => Option.some.inj (Option.some.inj (show some (some (.slice BT m1 m3)) = some (some u) from hu))) (by dsimp only; rw [gd_ne (show 100 ≠ 102 by decide), gd_ne (show 100 ≠ 11 by decide)]; exact hW.out)))
                | 8, _ =>
                  obtain rfl := Option.some.inj ho
                  clear hd ho hi hc hLi
                  exact st_val (v := .slice A2 mn c2) (w' := W) (want_none rfl) (by unfold execOp; dsimp only [Act.eval]; simp only [f2]; go_simp) (hK.out _ _ (hF.out.put (k := 8) (s := 101) rfl (by decide) hN (by decide) (fun u hu => Option.some.inj (Option.some.inj (show some (some (.slice A2 mn c2)) = some (some u) from hu))) (by dsimp only; rw [gd_ne (show 101 ≠ 102 by decide), gd_ne (show 101 ≠ 11 by decide)]; exact hW.out)))
                | 9, _ =>
                  obtain rfl := Option.some.inj ho
                  have l3 : L 3 = true := dep_of hd (n := 3) (by decide)
                  have e96 : T.getD 96 undef = .slice AT kk cT := hF.out.val 3 96 _ l3 rfl rfl
                  have l7 : L 7 = true := dep_of hd (n := 7) (by decide)
                  have e100 : T.getD 100 undef = .slice BT m1 m3 := hF.out.val 7 100 _ l7 rfl rfl
                  have l8 : L 8 = true := dep_of hd (n := 8) (by decide)
                  have e101 : T.getD 101 undef = .slice A2 mn c2 := hF.out.val 8 101 _ l8 rfl rfl
                  have n10 : ¬ L 10 = true := fun h => by have := hc 10 9 h (by decide); rw [hLi] at this; cases this
                  have hb := hW.out.1
                  have cc := Lib.hid (cRA.out W hb)
                  clear hd ho hi hc
                  refine st_call (want_none rfl) (by unfold execOp; go_simp) cc.out ?_
                  rintro r w3 ⟨wA, wc, rfl, hSt, hb4⟩
                  exact ⟨_, rfl, hK.out _ _ (hF.out.put (k := 9) (s := 102) rfl (by decide) hN (by decide) (fun u hu => by cases hu) ⟨hb.trans (hb4.mono hb.size), fun _ => ⟨wA, wc, gd_eq (by rw [hF.out.size, hN]; decide), hSt⟩, fun h => absurd h n10⟩)⟩
                | 10, _ =>
                  obtain rfl := Option.some.inj ho
                  have l9 : L 9 = true := dep_of hd (n := 9) (by decide)
                  clear hd ho hi hc hLi
                  exact st_val (v := T.getD 102 undef) (w' := W) (want_none rfl) rfl (hK.out _ _ (hF.out.put (k := 10) (s := 11) rfl (by decide) hN (by decide) (fun u hu => by cases hu) (by rw [gd_ne (show 11 ≠ 102 by decide), gd_eq (by rw [hF.out.size, hN]; decide)]; exact ⟨hW.out.1, hW.out.2.1, fun _ => ⟨l9, rfl⟩⟩)))
              case hdone =>
                intro L T W2 hF hW hall
                obtain ⟨wA, wc, e102, hSt⟩ := hW.2.1 (hall 9 (by decide))
                have e11 := (hW.2.2 (hall 10 (by decide))).2.trans e102
                have hT : T = #[.slice A n c, .int .i64 kk, .slice A2 mn c2, undef, undef, undef, .bool false, .pointer (some ⟨g, 0, none⟩), .pointer (some ⟨q, 0, none⟩), .slice mA mn mc, .int .i64 xe, .slice wA mn wc, undef, .slice A n c, .bool true, .bool false, .bool false, .slice A2 mn c2, .bool true, .bool false, .bool false, .bool false, .int .i64 kk, .bool false, .bool false, .bool false, .int .i64 kk, .slice A n c, .int .i64 n, .bool false, .bool false, undef, .pointer (some ⟨g, 0, none⟩), .pointer (some ⟨g, 0, none⟩), .slice A n c, .agg #[.slice AI n cI, .slice AT n cT], .pointer (some ⟨g, 0, none⟩), .pointer (some ⟨q, 0, none⟩), .slice AI n cI, .int .i64 kk, .slice AI kk cI, .pointer (some ⟨q, 0, none⟩), .slice AI n cI, .int .i64 kk, .slice BI m1 m2, .slice A2 mn c2, .slice mA mn mc, .pointer (some ⟨g, 0, none⟩), .pointer (some ⟨q, 0, none⟩), .slice AI n cI, .int .i64 kk, .slice AI kk cI, .pointer (some ⟨q, 0, none⟩), .slice AI n cI, .int .i64 kk, .slice BI m1 m2, .slice A2 mn c2, .int .i64 xe, .pointer (some ⟨g, 0, none⟩), .int .i64 xe, .string ye, .pointer (some ⟨q, 1, none⟩), .slice AT n cT, .int .i64 kk, .slice AT kk cT, .pointer (some ⟨q, 1, none⟩), .slice AT n cT, .int .i64 kk, .slice BT m1 m3, .slice A2 mn c2, .string ye, .bool false, .bool false, .slice A2 mn c2, .bool rb, .slice A2 mn c2, .int .i64 mn, .bool rb, .bool false, .bool false, .slice A2 mn c2, .int .i64 mn, .bool false, undef, undef, undef, undef, undef, undef, undef, undef, undef, undef, .pointer (some ⟨q, 1, none⟩), .slice AT n cT, .int .i64 kk, .slice AT kk cT, .pointer (some ⟨q, 1, none⟩), .slice AT n cT, .int .i64 kk, .slice BT m1 m3, .slice A2 mn c2, .slice wA mn wc, undef, undef, undef, undef, undef, undef, undef, undef, undef, undef, undef, undef, undef, undef, undef, undef, undef, undef, undef, undef, undef, undef, undef, undef, undef, undef, undef, undef, undef, undef, undef, undef, undef, undef, undef, undef, undef, undef, undef, undef, undef, undef] := (hF.fin [(93, .pointer (some ⟨q, 1, none⟩)), (94, .slice AT n cT), (95, .int .i64 kk), (96, .slice AT kk cT), (97, .pointer (some ⟨q, 1, none⟩)), (98, .slice AT n cT), (99, .int .i64 kk), (100, .slice BT m1 m3), (101, .slice A2 mn c2), (102, .slice wA mn wc), (11, .slice wA mn wc)] [93, 94, 95, 96, 97, 98, 99, 100, 101, 102, 11] rfl (List.forall_mem_cons.2 ⟨hF.val 0 _ _ (hall 0 (show 0 < 11 by decide)) rfl rfl, (List.forall_mem_cons.2 ⟨hF.val 1 _ _ (hall 1 (show 1 < 11 by decide)) rfl rfl, (List.forall_mem_cons.2 ⟨hF.val 2 _ _ (hall 2 (show 2 < 11 by decide)) rfl rfl, (List.forall_mem_cons.2 ⟨hF.val 3 _ _ (hall 3 (show 3 < 11 by decide)) rfl rfl, (List.forall_mem_cons.2 ⟨hF.val 4 _ _ (hall 4 (show 4 < 11 by decide)) rfl rfl, (List.forall_mem_cons.2 ⟨hF.val 5 _ _ (hall 5 (show 5 < 11 by decide)) rfl rfl, (List.forall_mem_cons.2 ⟨hF.val 6 _ _ (hall 6 (show 6 < 11 by decide)) rfl rfl, (List.forall_mem_cons.2 ⟨hF.val 7 _ _ (hall 7 (show 7 < 11 by decide)) rfl rfl, (List.forall_mem_cons.2 ⟨hF.val 8 _ _ (hall 8 (show 8 < 11 by decide)) rfl rfl, (List.forall_mem_cons.2 ⟨e102, (List.forall_mem_cons.2 ⟨e11, (fun _ h => absurd h List.not_mem_nil)⟩)⟩)⟩)⟩)⟩)⟩)⟩)⟩)⟩)⟩)⟩) (by decide)).trans (by kernel_rfl)
                clear hF hall
                subst hT
                have hS11 := Lib.hid hSt
                have hB11 := Lib.hid hW.1
                clear hW e102 e11 hSt cRA
                have cNil := Lib.hid (fun W => all_nil (kA := none) (sA := none) (kn := 0) (kc := 0) (sn := 0) (sc := 0) (A := A2) (n := mn) (c := c2) W)
                go_upto_region 14 with (go_at_call 28; refine (cNil.out _).mono ?_; rintro r w8 ⟨rfl, rfl⟩)
                have hs8 := Lib.hid (hs7.out.keep hB11.out)
                have hI8 := Lib.hid (hI7.out.stay (Stay.of_below hB11.out))
                clear hs7 hI7 hY7 hB11 hB7w hB7 cNil hslH hslL hslHt hslLt
                obtain ⟨w8, hw8⟩ : ∃ w8, w8 = W2 := ⟨_, rfl⟩
                rw [← hw8] at hs8 hI8 hS11 ⊢
                clear hw8
                go_upto_region 15 with fail
                have hB0 := Lib.hid (Below.refl w8.heap.size w8)
                go_loopw [12] (fun iv wr => ∃ i : Nat, i ≤ mn ∧ iv = .int .i64 i ∧ Hid (Below w8.heap.size w8 wr)) (fun iv _ => mn - (intOf iv).toNat)
                case atStart => exact ⟨0, by omega, rfl, hB0⟩
                case round =>
                  clear hB0
                  obtain ⟨i, hi, rfl, hBr⟩ := hrel
                  by_cases hlt : i < mn
                  · obtain ⟨bm, om, x, emA, hbm, hx, hcx⟩ := (hI8.out.stay (Stay.of_below hBr.out)).ints.at_ hlt
                    obtain ⟨bw, ow, z, ewA, hbw, hz, hcz⟩ := (Strs.keep hS11.out hBr.out).at_ hlt
                    obtain ⟨o, ho⟩ : ∃ o, oM[i]? = some o := ⟨oM[i]'(by have := holh.out; omega), List.getElem?_eq_getElem _⟩
                    rw [List.getElem?_map, ho] at hz
                    have hz : bs (encO o) = z := Option.some.inj hz
                    subst hz
                    have hnm := hN6h.out.nm i x o hx ho
                    obtain ⟨eb, e1, e2⟩ : ∃ eb : Bool, (x == -1) = eb ∧ (bs (encO o)).toList.isEmpty = eb := by
                      cases o with
                      | none => exact ⟨true, by rw [hnm.2 rfl]; rfl, empty_none⟩
                      | some t =>
                        obtain ⟨i', rfl, _⟩ := get_some hnm.1
                        exact ⟨false, by rw [beq_eq_false_iff_ne]; omega, empty_test⟩
                    have cEi : Hid (∀ W, Below wr.heap.size wr W → Calls Tryz.prog 12 #[.pointer (some ⟨g, 0, none⟩), .int .i64 x] W fun r w' => r = .returned (.string (bs (encO o))) ∧ Below W.heap.size W w') := fun W h => by
                      have h1 := ((hs8.out.keep hBr.out).keep h).encode x
                      rw [hnm.1] at h1
                      exact h1
                    subst emA ewA
                    replace e1 := Lib.hid e1
                    replace e2 := Lib.hid e2
                    have hcxh := Lib.hid (fun W (h : Below wr.heap.size wr W) => (h.cell (p := ⟨bm, om + i, none⟩) hbm).trans hcx)
                    have hczh := Lib.hid (fun W (h : Below wr.heap.size wr W) => (h.cell (p := ⟨bw, ow + i, none⟩) hbw).trans hcz)
                    clear hx hz ho hnm hcx hcz hbm hbw
                    generalize bs (encO o) = yi at *
                    go_upto_region 17 with fail
                    refine region_iw tbRm17 dsRm17 (vsRm17 g mn mc wc bm om bw ow i x yi eb) (fun L T W => Below wr.heap.size wr W) rfl (by decide) (by kernel_rfl) ?hlt ?hstep ?hdone ?hstart
                    case hstart => exact drewN_below 1
                    case hlt =>
                      intro ix o ho
                      have hi := (Array.getElem?_eq_some_iff.1 ho).1
                      match ix, hi with
                      | 0, _ => obtain rfl := Option.some.inj ho; decide
                      | 1, _ => obtain rfl := Option.some.inj ho; decide
                      | 2, _ => obtain rfl := Option.some.inj ho; decide
                      | 3, _ => obtain rfl := Option.some.inj ho; decide
                      | 4, _ => obtain rfl := Option.some.inj ho; decide
                      | 5, _ => obtain rfl := Option.some.inj ho; decide
                      | 6, _ => obtain rfl := Option.some.inj ho; decide
                      | 7, _ => obtain rfl := Option.some.inj ho; decide
                      | 8, _ => obtain rfl := Option.some.inj ho; decide
                      | 9, _ => obtain rfl := Option.some.inj ho; decide
                      | 10, _ => obtain rfl := Option.some.inj ho; decide
                      | 11, _ => obtain rfl := Option.some.inj ho; decide
                      | 12, _ => obtain rfl := Option.some.inj ho; decide
                      | 13, _ => obtain rfl := Option.some.inj ho; decide
                      | 14, _ => obtain rfl := Option.some.inj ho; decide
                      | 15, _ => obtain rfl := Option.some.inj ho; decide
                      | 16, _ => obtain rfl := Option.some.inj ho; decide
                      | 17, _ => obtain rfl := Option.some.inj ho; decide
                      | 18, _ => obtain rfl := Option.some.inj ho; decide
                      | 19, _ => obtain rfl := Option.some.inj ho; decide
                      | 20, _ => obtain rfl := Option.some.inj ho; decide
                      | 21, _ => obtain rfl := Option.some.inj ho; decide
                      | 22, _ => obtain rfl := Option.some.inj ho; decide
                      | 23, _ => obtain rfl := Option.some.inj ho; decide
                    case hstep =>
                      intro T1 hE L T W ix o hF hW hc ho hLi hd K hK
                      have hN : T1.size = 145 := by rw [hE]; rfl
                      have f7 : T.getD 7 undef = .pointer (some ⟨g, 0, none⟩) := (hF.old 7 (by decide)).trans (by rw [hE]; rfl)
                      have f9 : T.getD 9 undef = .slice (some ⟨bm, om, none⟩) mn mc := (hF.old 9 (by decide)).trans (by rw [hE]; rfl)
                      have f11 : T.getD 11 undef = .slice (some ⟨bw, ow, none⟩) mn wc := (hF.old 11 (by decide)).trans (by rw [hE]; rfl)
                      have f12 : T.getD 12 undef = .int .i64 i := (hF.old 12 (by decide)).trans (by rw [hE]; rfl)
                      clear hE
                      replace hF := Lib.hid hF
                      replace hW := Lib.hid hW
                      replace hK := Lib.hid hK
                      have hi := (List.getElem?_eq_some_iff.1 ho).1
                      match ix, hi with
                      | 0, _ =>
                        obtain rfl := Option.some.inj ho
                        clear hd ho hi hc hLi
                        exact st_val (v := .pointer (some ⟨g, 0, none⟩)) (w' := W) (want_none rfl) (by unfold execOp; dsimp only [Act.eval]; simp only [f7]; go_simp) (hK.out _ _ (hF.out.put (k := 0) (s := 120) rfl (by decide) hN (by decide) (fun u hu => Option.some.inj (Option.some.inj (show some (some (.pointer (some ⟨g, 0, none⟩))) = some (some u) from hu))) hW.out))
                      | 1, _ =>
                        obtain rfl := Option.some.inj ho
                        clear hd ho hi hc hLi
                        exact st_val (v := .slice (some ⟨bm, om, none⟩) mn mc) (w' := W) (want_none rfl) (by unfold execOp; dsimp only [Act.eval]; simp only [f9]; go_simp) (hK.out _ _ (hF.out.put (k := 1) (s := 121) rfl (by decide) hN (by decide) (fun u hu => Option.some.inj (Option.some.inj (show some (some (.slice (some ⟨bm, om, none⟩) mn mc)) = some (some u) from hu))) hW.out))
                      | 2, _ =>
                        obtain rfl := Option.some.inj ho
                        clear hd ho hi hc hLi
                        exact st_val (v := .int .i64 i) (w' := W) (want_none rfl) (by unfold execOp; dsimp only [Act.eval]; simp only [f12]; go_simp) (hK.out _ _ (hF.out.put (k := 2) (s := 122) rfl (by decide) hN (by decide) (fun u hu => Option.some.inj (Option.some.inj (show some (some (.int .i64 i)) = some (some u) from hu))) hW.out))
                      | 3, _ =>
                        obtain rfl := Option.some.inj ho
                        have l1 : L 1 = true := dep_of hd (n := 1) (by decide)
                        have e121 : T.getD 121 undef = .slice (some ⟨bm, om, none⟩) mn mc := hF.out.val 1 121 _ l1 rfl rfl
                        have l2 : L 2 = true := dep_of hd (n := 2) (by decide)
                        have e122 : T.getD 122 undef = .int .i64 i := hF.out.val 2 122 _ l2 rfl rfl
                        clear hd ho hi hc hLi
                        exact st_val (v := .pointer (some ⟨bm, om + i, none⟩)) (w' := W) (want_none rfl) (by unfold execOp; dsimp only [Act.eval]; simp only [e121, e122]; go_simp) (hK.out _ _ (hF.out.put (k := 3) (s := 123) rfl (by decide) hN (by decide) (fun u hu => Option.some.inj (Option.some.inj (show some (some (.pointer (some ⟨bm, om + i, none⟩))) = some (some u) from hu))) hW.out))
                      | 4, _ =>
                        obtain rfl := Option.some.inj ho
                        have l3 : L 3 = true := dep_of hd (n := 3) (by decide)
                        have e123 : T.getD 123 undef = .pointer (some ⟨bm, om + i, none⟩) := hF.out.val 3 123 _ l3 rfl rfl
                        have hcc := hcxh.out W hW.out
                        clear hd ho hi hc hLi
                        exact st_val (v := .int .i64 x) (w' := W) (want_none rfl) (by unfold execOp; dsimp only [Act.eval]; simp only [e123]; go_simp) (hK.out _ _ (hF.out.put (k := 4) (s := 124) rfl (by decide) hN (by decide) (fun u hu => Option.some.inj (Option.some.inj (show some (some (.int .i64 x)) = some (some u) from hu))) hW.out))
                      | 5, _ =>
                        obtain rfl := Option.some.inj ho
                        have l0 : L 0 = true := dep_of hd (n := 0) (by decide)
                        have e120 : T.getD 120 undef = .pointer (some ⟨g, 0, none⟩) := hF.out.val 0 120 _ l0 rfl rfl
                        have l4 : L 4 = true := dep_of hd (n := 4) (by decide)
                        have e124 : T.getD 124 undef = .int .i64 x := hF.out.val 4 124 _ l4 rfl rfl
                        have hb := hW.out
                        have cc := Lib.hid (cEi.out W hb)
                        clear hd ho hi hc hLi
                        refine st_call (want_none rfl) (by unfold execOp; go_simp) cc.out ?_
                        rintro r w3 ⟨rfl, hb4⟩
                        exact ⟨_, rfl, hK.out _ _ (hF.out.put (k := 5) (s := 125) rfl (by decide) hN (by decide) (fun u hu => Option.some.inj (Option.some.inj (show some (some (.string yi)) = some (some u) from hu))) (hb.trans (hb4.mono hb.size)))⟩
                      | 6, _ =>
                        obtain rfl := Option.some.inj ho
                        clear hd ho hi hc hLi
                        exact st_val (v := .slice (some ⟨bw, ow, none⟩) mn wc) (w' := W) (want_none rfl) (by unfold execOp; dsimp only [Act.eval]; simp only [f11]; go_simp) (hK.out _ _ (hF.out.put (k := 6) (s := 126) rfl (by decide) hN (by decide) (fun u hu => Option.some.inj (Option.some.inj (show some (some (.slice (some ⟨bw, ow, none⟩) mn wc)) = some (some u) from hu))) hW.out))
                      | 7, _ =>
                        obtain rfl := Option.some.inj ho
                        clear hd ho hi hc hLi
                        exact st_val (v := .int .i64 i) (w' := W) (want_none rfl) (by unfold execOp; dsimp only [Act.eval]; simp only [f12]; go_simp) (hK.out _ _ (hF.out.put (k := 7) (s := 127) rfl (by decide) hN (by decide) (fun u hu => Option.some.inj (Option.some.inj (show some (some (.int .i64 i)) = some (some u) from hu))) hW.out))
                      | 8, _ =>
                        obtain rfl := Option.some.inj ho
                        have l6 : L 6 = true := dep_of hd (n := 6) (by decide)
                        have e126 : T.getD 126 undef = .slice (some ⟨bw, ow, none⟩) mn wc := hF.out.val 6 126 _ l6 rfl rfl
                        have l7 : L 7 = true := dep_of hd (n := 7) (by decide)
                        have e127 : T.getD 127 undef = .int .i64 i := hF.out.val 7 127 _ l7 rfl rfl
                        clear hd ho hi hc hLi
                        exact st_val (v := .pointer (some ⟨bw, ow + i, none⟩)) (w' := W) (want_none rfl) (by unfold execOp; dsimp only [Act.eval]; simp only [e126, e127]; go_simp) (hK.out _ _ (hF.out.put (k := 8) (s := 128) rfl (by decide) hN (by decide) (fun u hu => Option.some.inj (Option.some.inj (show some (some (.pointer (some ⟨bw, ow + i, none⟩))) = some (some u) from hu))) hW.out))
                      | 9, _ =>
                        obtain rfl := Option.some.inj ho
                        have l8 : L 8 = true := dep_of hd (n := 8) (by decide)
                        have e128 : T.getD 128 undef = .pointer (some ⟨bw, ow + i, none⟩) := hF.out.val 8 128 _ l8 rfl rfl
                        have hcc := hczh.out W hW.out
                        clear hd ho hi hc hLi
                        exact st_val (v := .string yi) (w' := W) (want_none rfl) (by unfold execOp; dsimp only [Act.eval]; simp only [e128]; go_simp) (hK.out _ _ (hF.out.put (k := 9) (s := 129) rfl (by decide) hN (by decide) (fun u hu => Option.some.inj (Option.some.inj (show some (some (.string yi)) = some (some u) from hu))) hW.out))
                      | 10, _ =>
                        obtain rfl := Option.some.inj ho
                        have l5 : L 5 = true := dep_of hd (n := 5) (by decide)
                        have e125 : T.getD 125 undef = .string yi := hF.out.val 5 125 _ l5 rfl rfl
                        have l9 : L 9 = true := dep_of hd (n := 9) (by decide)
                        have e129 : T.getD 129 undef = .string yi := hF.out.val 9 129 _ l9 rfl rfl
                        clear hd ho hi hc hLi
                        exact st_val (v := .bool false) (w' := W) (want_none rfl) (by unfold execOp; dsimp only [Act.eval]; simp only [e125, e129]; go_simp) (hK.out _ _ (hF.out.put (k := 10) (s := 130) rfl (by decide) hN (by decide) (fun u hu => Option.some.inj (Option.some.inj (show some (some (.bool false)) = some (some u) from hu))) hW.out))
                      | 11, _ =>
                        obtain rfl := Option.some.inj ho
                        have l10 : L 10 = true := dep_of hd (n := 10) (by decide)
                        have e130 : T.getD 130 undef = .bool false := hF.out.val 10 130 _ l10 rfl rfl
                        clear hd ho hi hc hLi
                        exact st_val (v := .bool false) (w' := W) (want_none rfl) (by unfold execOp; dsimp only [Act.eval]; simp only [e130]; go_simp) (hK.out _ _ (hF.out.put (k := 11) (s := 131) rfl (by decide) hN (by decide) (fun u hu => Option.some.inj (Option.some.inj (show some (some (.bool false)) = some (some u) from hu))) hW.out))
                      | 12, _ =>
                        obtain rfl := Option.some.inj ho
                        have l11 : L 11 = true := dep_of hd (n := 11) (by decide)
                        have e131 : T.getD 131 undef = .bool false := hF.out.val 11 131 _ l11 rfl rfl
                        clear hd ho hi hc hLi
                        exact st_val (v := .slice (some ⟨bm, om, none⟩) mn mc) (w' := W) (by rw [want_some (j := 11) (s := 131) rfl rfl e131]; rfl) (by unfold execOp; dsimp only [Act.eval]; simp only [f9]; go_simp) (hK.out _ _ (hF.out.put (k := 12) (s := 132) rfl (by decide) hN (by decide) (fun u hu => Option.some.inj (Option.some.inj (show some (some (.slice (some ⟨bm, om, none⟩) mn mc)) = some (some u) from hu))) hW.out))
                      | 13, _ =>
                        obtain rfl := Option.some.inj ho
                        have l11 : L 11 = true := dep_of hd (n := 11) (by decide)
                        have e131 : T.getD 131 undef = .bool false := hF.out.val 11 131 _ l11 rfl rfl
                        clear hd ho hi hc hLi
                        exact st_val (v := .int .i64 i) (w' := W) (by rw [want_some (j := 11) (s := 131) rfl rfl e131]; rfl) (by unfold execOp; dsimp only [Act.eval]; simp only [f12]; go_simp) (hK.out _ _ (hF.out.put (k := 13) (s := 133) rfl (by decide) hN (by decide) (fun u hu => Option.some.inj (Option.some.inj (show some (some (.int .i64 i)) = some (some u) from hu))) hW.out))
                      | 14, _ =>
                        obtain rfl := Option.some.inj ho
                        have l12 : L 12 = true := dep_of hd (n := 12) (by decide)
                        have e132 : T.getD 132 undef = .slice (some ⟨bm, om, none⟩) mn mc := hF.out.val 12 132 _ l12 rfl rfl
                        have l13 : L 13 = true := dep_of hd (n := 13) (by decide)
                        have e133 : T.getD 133 undef = .int .i64 i := hF.out.val 13 133 _ l13 rfl rfl
                        have l11 : L 11 = true := dep_of hd (n := 11) (by decide)
                        have e131 : T.getD 131 undef = .bool false := hF.out.val 11 131 _ l11 rfl rfl
                        clear hd ho hi hc hLi
                        exact st_val (v := .pointer (some ⟨bm, om + i, none⟩)) (w' := W) (by rw [want_some (j := 11) (s := 131) rfl rfl e131]; rfl) (by unfold execOp; dsimp only [Act.eval]; simp only [e132, e133]; go_simp) (hK.out _ _ (hF.out.put (k := 14) (s := 134) rfl (by decide) hN (by decide) (fun u hu => Option.some.inj (Option.some.inj (show some (some (.pointer (some ⟨bm, om + i, none⟩))) = some (some u) from hu))) hW.out))
                      | 15, _ =>
                        obtain rfl := Option.some.inj ho
                        have l14 : L 14 = true := dep_of hd (n := 14) (by decide)
                        have e134 : T.getD 134 undef = .pointer (some ⟨bm, om + i, none⟩) := hF.out.val 14 134 _ l14 rfl rfl
                        have l11 : L 11 = true := dep_of hd (n := 11) (by decide)
                        have e131 : T.getD 131 undef = .bool false := hF.out.val 11 131 _ l11 rfl rfl
                        have hcc := hcxh.out W hW.out
                        clear hd ho hi hc hLi
                        exact st_val (v := .int .i64 x) (w' := W) (by rw [want_some (j := 11) (s := 131) rfl rfl e131]; rfl) (by unfold execOp; dsimp only [Act.eval]; simp only [e134]; go_simp) (hK.out _ _ (hF.out.put (k := 15) (s := 135) rfl (by decide) hN (by decide) (fun u hu => Option.some.inj (Option.some.inj (show some (some (.int .i64 x)) = some (some u) from hu))) hW.out))
                      | 16, _ =>
                        obtain rfl := Option.some.inj ho
                        have l15 : L 15 = true := dep_of hd (n := 15) (by decide)
                        have e135 : T.getD 135 undef = .int .i64 x := hF.out.val 15 135 _ l15 rfl rfl
                        have l11 : L 11 = true := dep_of hd (n := 11) (by decide)
                        have e131 : T.getD 131 undef = .bool false := hF.out.val 11 131 _ l11 rfl rfl
                        have he1 := e1.out
                        clear hd ho hi hc hLi
                        exact st_val (v := .bool eb) (w' := W) (by rw [want_some (j := 11) (s := 131) rfl rfl e131]; rfl) (by unfold execOp; dsimp only [Act.eval]; simp only [e135]; go_simp) (hK.out _ _ (hF.out.put (k := 16) (s := 136) rfl (by decide) hN (by decide) (fun u hu => Option.some.inj (Option.some.inj (show some (some (.bool eb)) = some (some u) from hu))) hW.out))
                      | 17, _ =>
                        obtain rfl := Option.some.inj ho
                        have l11 : L 11 = true := dep_of hd (n := 11) (by decide)
                        have e131 : T.getD 131 undef = .bool false := hF.out.val 11 131 _ l11 rfl rfl
                        clear hd ho hi hc hLi
                        exact st_val (v := .slice (some ⟨bw, ow, none⟩) mn wc) (w' := W) (by rw [want_some (j := 11) (s := 131) rfl rfl e131]; rfl) (by unfold execOp; dsimp only [Act.eval]; simp only [f11]; go_simp) (hK.out _ _ (hF.out.put (k := 17) (s := 137) rfl (by decide) hN (by decide) (fun u hu => Option.some.inj (Option.some.inj (show some (some (.slice (some ⟨bw, ow, none⟩) mn wc)) = some (some u) from hu))) hW.out))
                      | 18, _ =>
                        obtain rfl := Option.some.inj ho
                        have l11 : L 11 = true := dep_of hd (n := 11) (by decide)
                        have e131 : T.getD 131 undef = .bool false := hF.out.val 11 131 _ l11 rfl rfl
                        clear hd ho hi hc hLi
                        exact st_val (v := .int .i64 i) (w' := W) (by rw [want_some (j := 11) (s := 131) rfl rfl e131]; rfl) (by unfold execOp; dsimp only [Act.eval]; simp only [f12]; go_simp) (hK.out _ _ (hF.out.put (k := 18) (s := 138) rfl (by decide) hN (by decide) (fun u hu => Option.some.inj (Option.some.inj (show some (some (.int .i64 i)) = some (some u) from hu))) hW.out))
                      | 19, _ =>
                        obtain rfl := Option.some.inj ho
                        have l17 : L 17 = true := dep_of hd (n := 17) (by decide)
                        have e137 : T.getD 137 undef = .slice (some ⟨bw, ow, none⟩) mn wc := hF.out.val 17 137 _ l17 rfl rfl
                        have l18 : L 18 = true := dep_of hd (n := 18) (by decide)
                        have e138 : T.getD 138 undef = .int .i64 i := hF.out.val 18 138 _ l18 rfl rfl
                        have l11 : L 11 = true := dep_of hd (n := 11) (by decide)
                        have e131 : T.getD 131 undef = .bool false := hF.out.val 11 131 _ l11 rfl rfl
                        clear hd ho hi hc hLi
                        exact st_val (v := .pointer (some ⟨bw, ow + i, none⟩)) (w' := W) (by rw [want_some (j := 11) (s := 131) rfl rfl e131]; rfl) (by unfold execOp; dsimp only [Act.eval]; simp only [e137, e138]; go_simp) (hK.out _ _ (hF.out.put (k := 19) (s := 139) rfl (by decide) hN (by decide) (fun u hu => Option.some.inj (Option.some.inj (show some (some (.pointer (some ⟨bw, ow + i, none⟩))) = some (some u) from hu))) hW.out))
                      | 20, _ =>
                        obtain rfl := Option.some.inj ho
                        have l19 : L 19 = true := dep_of hd (n := 19) (by decide)
                        have e139 : T.getD 139 undef = .pointer (some ⟨bw, ow + i, none⟩) := hF.out.val 19 139 _ l19 rfl rfl
                        have l11 : L 11 = true := dep_of hd (n := 11) (by decide)
                        have e131 : T.getD 131 undef = .bool false := hF.out.val 11 131 _ l11 rfl rfl
                        have hcc := hczh.out W hW.out
                        clear hd ho hi hc hLi
                        exact st_val (v := .string yi) (w' := W) (by rw [want_some (j := 11) (s := 131) rfl rfl e131]; rfl) (by unfold execOp; dsimp only [Act.eval]; simp only [e139]; go_simp) (hK.out _ _ (hF.out.put (k := 20) (s := 140) rfl (by decide) hN (by decide) (fun u hu => Option.some.inj (Option.some.inj (show some (some (.string yi)) = some (some u) from hu))) hW.out))
                      | 21, _ =>
                        obtain rfl := Option.some.inj ho
                        have l20 : L 20 = true := dep_of hd (n := 20) (by decide)
                        have e140 : T.getD 140 undef = .string yi := hF.out.val 20 140 _ l20 rfl rfl
                        have l11 : L 11 = true := dep_of hd (n := 11) (by decide)
                        have e131 : T.getD 131 undef = .bool false := hF.out.val 11 131 _ l11 rfl rfl
                        have he2 := e2.out
                        clear hd ho hi hc hLi
                        exact st_val (v := .bool eb) (w' := W) (by rw [want_some (j := 11) (s := 131) rfl rfl e131]; rfl) (by unfold execOp; dsimp only [Act.eval]; simp only [e140]; go_simp) (hK.out _ _ (hF.out.put (k := 21) (s := 141) rfl (by decide) hN (by decide) (fun u hu => Option.some.inj (Option.some.inj (show some (some (.bool eb)) = some (some u) from hu))) hW.out))
                      | 22, _ =>
                        obtain rfl := Option.some.inj ho
                        have l16 : L 16 = true := dep_of hd (n := 16) (by decide)
                        have e136 : T.getD 136 undef = .bool eb := hF.out.val 16 136 _ l16 rfl rfl
                        have l21 : L 21 = true := dep_of hd (n := 21) (by decide)
                        have e141 : T.getD 141 undef = .bool eb := hF.out.val 21 141 _ l21 rfl rfl
                        have l11 : L 11 = true := dep_of hd (n := 11) (by decide)
                        have e131 : T.getD 131 undef = .bool false := hF.out.val 11 131 _ l11 rfl rfl
                        clear hd ho hi hc hLi
                        exact st_val (v := .bool false) (w' := W) (by rw [want_some (j := 11) (s := 131) rfl rfl e131]; rfl) (by unfold execOp; dsimp only [Act.eval]; simp only [e136, e141]; go_simp) (hK.out _ _ (hF.out.put (k := 22) (s := 142) rfl (by decide) hN (by decide) (fun u hu => Option.some.inj (Option.some.inj (show some (some (.bool false)) = some (some u) from hu))) hW.out))
                      | 23, _ =>
                        obtain rfl := Option.some.inj ho
                        have l11 : L 11 = true := dep_of hd (n := 11) (by decide)
                        have e131 : T.getD 131 undef = .bool false := hF.out.val 11 131 _ l11 rfl rfl
                        have l22 : L 22 = true := dep_of hd (n := 22) (by decide)
                        have e142 : T.getD 142 undef = .bool false := hF.out.val 22 142 _ l22 rfl rfl
                        clear hd ho hi hc hLi
                        exact st_val (v := .bool false) (w' := W) (want_none rfl) (by unfold execOp; dsimp only [Act.eval]; simp only [e131, e142]; go_simp) (hK.out _ _ (hF.out.put (k := 23) (s := 143) rfl (by decide) hN (by decide) (fun u hu => Option.some.inj (Option.some.inj (show some (some (.bool false)) = some (some u) from hu))) hW.out))
                    case hdone =>
                      intro L T W2 hF hW hall
                      have hT : T = #[.slice A n c, .int .i64 kk, .slice A2 mn c2, undef, undef, undef, u6, .pointer (some ⟨g, 0, none⟩), .pointer (some ⟨q, 0, none⟩), .slice (some ⟨bm, om, none⟩) mn mc, .int .i64 xe, .slice (some ⟨bw, ow, none⟩) mn wc, .int .i64 i, .slice A n c, .bool true, .bool false, .bool false, .slice A2 mn c2, .bool true, .bool false, .bool false, .bool false, .int .i64 kk, .bool false, .bool false, .bool false, .int .i64 kk, .slice A n c, .int .i64 n, .bool false, .bool false, undef, .pointer (some ⟨g, 0, none⟩), .pointer (some ⟨g, 0, none⟩), .slice A n c, .agg #[.slice AI n cI, .slice AT n cT], .pointer (some ⟨g, 0, none⟩), .pointer (some ⟨q, 0, none⟩), .slice AI n cI, .int .i64 kk, .slice AI kk cI, .pointer (some ⟨q, 0, none⟩), .slice AI n cI, .int .i64 kk, .slice BI m1 m2, .slice A2 mn c2, .slice (some ⟨bm, om, none⟩) mn mc, .pointer (some ⟨g, 0, none⟩), .pointer (some ⟨q, 0, none⟩), .slice AI n cI, .int .i64 kk, .slice AI kk cI, .pointer (some ⟨q, 0, none⟩), .slice AI n cI, .int .i64 kk, .slice BI m1 m2, .slice A2 mn c2, .int .i64 xe, .pointer (some ⟨g, 0, none⟩), .int .i64 xe, .string ye, .pointer (some ⟨q, 1, none⟩), .slice AT n cT, .int .i64 kk, .slice AT kk cT, .pointer (some ⟨q, 1, none⟩), .slice AT n cT, .int .i64 kk, .slice BT m1 m3, .slice A2 mn c2, .string ye, .bool false, .bool false, .slice A2 mn c2, .bool rb, .slice A2 mn c2, .int .i64 mn, .bool rb, .bool false, .bool false, .slice A2 mn c2, .int .i64 mn, .bool false, undef, undef, undef, undef, undef, undef, undef, undef, undef, undef, .pointer (some ⟨q, 1, none⟩), .slice AT n cT, .int .i64 kk, .slice AT kk cT, .pointer (some ⟨q, 1, none⟩), .slice AT n cT, .int .i64 kk, .slice BT m1 m3, .slice A2 mn c2, .slice (some ⟨bw, ow, none⟩) mn wc, .slice (some ⟨bm, om, none⟩) mn mc, .int .i64 mn, .slice (some ⟨bw, ow, none⟩) mn wc, .int .i64 mn, .bool false, .bool false, .slice A2 mn c2, .slice none 0 0, .int .i64 0, .bool false, .bool false, .int .i64 i, .slice (some ⟨bw, ow, none⟩) mn wc, .int .i64 mn, .bool true, u118, u119, .pointer (some ⟨g, 0, none⟩), .slice (some ⟨bm, om, none⟩) mn mc, .int .i64 i, .pointer (some ⟨bm, om + i, none⟩), .int .i64 x, .string yi, .slice (some ⟨bw, ow, none⟩) mn wc, .int .i64 i, .pointer (some ⟨bw, ow + i, none⟩), .string yi, .bool false, .bool false, .slice (some ⟨bm, om, none⟩) mn mc, .int .i64 i, .pointer (some ⟨bm, om + i, none⟩), .int .i64 x, .bool eb, .slice (some ⟨bw, ow, none⟩) mn wc, .int .i64 i, .pointer (some ⟨bw, ow + i, none⟩), .string yi, .bool eb, .bool false, .bool false, undef] := (hF.fin [(120, .pointer (some ⟨g, 0, none⟩)), (121, .slice (some ⟨bm, om, none⟩) mn mc), (122, .int .i64 i), (123, .pointer (some ⟨bm, om + i, none⟩)), (124, .int .i64 x), (125, .string yi), (126, .slice (some ⟨bw, ow, none⟩) mn wc), (127, .int .i64 i), (128, .pointer (some ⟨bw, ow + i, none⟩)), (129, .string yi), (130, .bool false), (131, .bool false), (132, .slice (some ⟨bm, om, none⟩) mn mc), (133, .int .i64 i), (134, .pointer (some ⟨bm, om + i, none⟩)), (135, .int .i64 x), (136, .bool eb), (137, .slice (some ⟨bw, ow, none⟩) mn wc), (138, .int .i64 i), (139, .pointer (some ⟨bw, ow + i, none⟩)), (140, .string yi), (141, .bool eb), (142, .bool false), (143, .bool false)] [120, 121, 122, 123, 124, 125, 126, 127, 128, 129, 130, 131, 132, 133, 134, 135, 136, 137, 138, 139, 140, 141, 142, 143] rfl (List.forall_mem_cons.2 ⟨hF.val 0 _ _ (hall 0 (show 0 < 24 by decide)) rfl rfl, (List.forall_mem_cons.2 ⟨hF.val 1 _ _ (hall 1 (show 1 < 24 by decide)) rfl rfl, (List.forall_mem_cons.2 ⟨hF.val 2 _ _ (hall 2 (show 2 < 24 by decide)) rfl rfl, (List.forall_mem_cons.2 ⟨hF.val 3 _ _ (hall 3 (show 3 < 24 by decide)) rfl rfl, (List.forall_mem_cons.2 ⟨hF.val 4 _ _ (hall 4 (show 4 < 24 by decide)) rfl rfl, (List.forall_mem_cons.2 ⟨hF.val 5 _ _ (hall 5 (show 5 < 24 by decide)) rfl rfl, (List.forall_mem_cons.2 ⟨hF.val 6 _ _ (hall 6 (show 6 < 24 by decide)) rfl rfl, (List.forall_mem_cons.2 ⟨hF.val 7 _ _ (hall 7 (show 7 < 24 by decide)) rfl rfl, (List.forall_mem_cons.2 ⟨hF.val 8 _ _ (hall 8 (show 8 < 24 by decide)) rfl rfl, (List.forall_mem_cons.2 ⟨hF.val 9 _ _ (hall 9 (show 9 < 24 by decide)) rfl rfl, (List.forall_mem_cons.2 ⟨hF.val 10 _ _ (hall 10 (show 10 < 24 by decide)) rfl rfl, (List.forall_mem_cons.2 ⟨hF.val 11 _ _ (hall 11 (show 11 < 24 by decide)) rfl rfl, (List.forall_mem_cons.2 ⟨hF.val 12 _ _ (hall 12 (show 12 < 24 by decide)) rfl rfl, (List.forall_mem_cons.2 ⟨hF.val 13 _ _ (hall 13 (show 13 < 24 by decide)) rfl rfl, (List.forall_mem_cons.2 ⟨hF.val 14 _ _ (hall 14 (show 14 < 24 by decide)) rfl rfl, (List.forall_mem_cons.2 ⟨hF.val 15 _ _ (hall 15 (show 15 < 24 by decide)) rfl rfl, (List.forall_mem_cons.2 ⟨hF.val 16 _ _ (hall 16 (show 16 < 24 by decide)) rfl rfl, (List.forall_mem_cons.2 ⟨hF.val 17 _ _ (hall 17 (show 17 < 24 by decide)) rfl rfl, (List.forall_mem_cons.2 ⟨hF.val 18 _ _ (hall 18 (show 18 < 24 by decide)) rfl rfl, (List.forall_mem_cons.2 ⟨hF.val 19 _ _ (hall 19 (show 19 < 24 by decide)) rfl rfl, (List.forall_mem_cons.2 ⟨hF.val 20 _ _ (hall 20 (show 20 < 24 by decide)) rfl rfl, (List.forall_mem_cons.2 ⟨hF.val 21 _ _ (hall 21 (show 21 < 24 by decide)) rfl rfl, (List.forall_mem_cons.2 ⟨hF.val 22 _ _ (hall 22 (show 22 < 24 by decide)) rfl rfl, (List.forall_mem_cons.2 ⟨hF.val 23 _ _ (hall 23 (show 23 < 24 by decide)) rfl rfl, (fun _ h => absurd h List.not_mem_nil)⟩)⟩)⟩)⟩)⟩)⟩)⟩)⟩)⟩)⟩)⟩)⟩)⟩)⟩)⟩)⟩)⟩)⟩)⟩)⟩)⟩)⟩)⟩)⟩) (by decide)).trans (by kernel_rfl)
                      clear hF hall
                      subst hT
                      have hBn := Lib.hid (hBr.out.trans (hW.mono hBr.out.size))
                      clear hW
                      go_wp2_with fail
                      go_roundw
                      case rel => exact ⟨i + 1, by omega, by go_num, hBn⟩
                      case measure => simp [intOf]; omega
                  · have hin : i = mn := by omega
                    subst hin
                    have hBf := Lib.hid (hs8.out.keep hBr.out).below
                    clear hlt
                    go_wp2_with (go_at_call 27; refine (cA.out _).mono ?_; rintro r w9 ⟨rfl, hb9⟩)
                    go_ret
                    exact ⟨rfl, hBf.out.trans (hb9.mono hBf.out.size)⟩
end Go.Proofs.YtbeanjaenmpoeaaGreatDoor
