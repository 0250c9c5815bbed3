/- ShareAny: the walk of the law. (printed by wip/gen_srb.py) -/
import Derived.Test.YtbeanjaenmpoeaaGreatDoorXb11
import Derived.Test.YtbeanjaenmpoeaaGreatDoorXb17
import Derived.Test.YtbeanjaenmpoeaaGreatDoorXb18
namespace Go.Proofs.YtbeanjaenmpoeaaGreatDoor
open Go.RowKit Go.Maps

def dsSrb : List (Option Nat) := [some 94, some 95, some 96, some 97, some 98, some 99, some 100, some 101, some 102, some 103, some 104, some 105, some 106, some 107, some 108, some 109, some 110, some 111, some 112, some 113, some 114, some 115, some 116, some 117, some 118, some 119, some 120, some 121, some 122, some 6]
def tbSrb : List (List Nat) := [[], [0], [1], [1], [1], [1], [1, 3, 4, 5], [1, 2, 6], [1], [1], [1, 7, 8, 9], [1, 7, 10], [1, 11], [10, 12], [13], [13], [13], [13, 16], [13], [13, 18], [13, 15, 17, 19], [13, 14, 20], [13], [13, 22], [13], [13, 24], [13, 21, 23, 25], [13, 21, 26], [13, 27], [28]]
def vsSrb (g : Nat) (p : Nat) (i2 : Int) (i3 : Int) (z1 : Int) (y1 : ByteArray) (yG : ByteArray) (yo : ByteArray) (yf : ByteArray) : List (Option Value) := [some (.bool true), some (.bool true), some (.pointer (some ⟨g, 0, none⟩)), some (.pointer (some ⟨g, 0, none⟩)), some (.string yG), some (.int .i64 z1), none, some (.string yo), some (.string yG), some (.string y1), some (.string yo), some (.bool true), some (.bool true), some (.bool true), some (.pointer (some ⟨g, 0, none⟩)), some (.pointer (some ⟨g, 0, none⟩)), some (.pointer (some ⟨p, 2, none⟩)), some (.int .i64 i2), some (.pointer (some ⟨p, 3, none⟩)), some (.int .i64 i3), none, some (.string yf), some (.pointer (some ⟨p, 2, none⟩)), some (.int .i64 i2), some (.pointer (some ⟨p, 3, none⟩)), some (.int .i64 i3), some (.string yf), some (.bool true), some (.bool true), some (.bool true)]

theorem secret_ok {g : List UInt8} {a b : Option Tm} (ha : okO a) (hb : okO b) : okO (secretT g a b) := by
  unfold secretT
  split
  · exact expT_ok ha hb
  · exact okO_none
set_option maxRecDepth 100000 in
set_option maxHeartbeats 16000000 in
theorem shareAny_any (ms : List Mk) (i0 i1 i2 i3 : Int) (G : List UInt8) (A : Option Addr) (n c : Nat) (w : World) (hn : n ≤ 9223372036854775807) (H : Rws w 5 A n (ms.map Mk.row)) :
    Calls Tryz.prog 4 #[.slice A n c, .agg #[.int .i64 i0, .int .i64 i1, .int .i64 i2, .int .i64 i3], .string (bs G)] w fun r w' => r = .returned (.bool true) ∧ Below w.heap.size w w' := by
  have hbW := below_new w (.cells #[.int .i64 i0, .int .i64 i1, .int .i64 i2, .int .i64 i3] 45)
  have hx1 := heap_new w (.cells #[.int .i64 i0, .int .i64 i1, .int .i64 i2, .int .i64 i3] 45)
  have H1 := H.keep hbW
  have hml : ms.length = n := by have := H.1; simpa using this
  obtain ⟨W1, hW1⟩ : ∃ W1, W1 = w.alloc (.cells #[.int .i64 i0, .int .i64 i1, .int .i64 i2, .int .i64 i3] 45) := ⟨_, rfl⟩
  rw [← hW1] at hx1 hbW H1
  have hp := Lib.hid hbW
  have hx1h := Lib.hid hx1
  have cF := few_any ms A n c 20 W1 hn H1
  have cA := Lib.hid (fun W => awake19 W)
  have hW1h := Lib.hid hW1
  have hzG := bs_size G
  clear hbW hx1 H
  go_enter Tryz.func4, Tryz.ntmps4
  go_upto_region 1 with fail
  have hW1' := hW1h.out
  clear hW1 hW1h
  rw [← hW1']
  clear hW1'
  cases hf : fewB ms 20 with
  | false =>
    rw [hf] at cF
    replace cF := Lib.hid cF
    clear hf H1 hml hzG
    go_wp2_with (first
      | (go_at_call 6; refine cF.out.mono ?_; rintro r w1 ⟨rfl, rfl⟩)
      | (go_at_call 17; refine (cA.out _).mono ?_; rintro r w1 ⟨rfl, hb⟩))
    go_ret
    exact ⟨rfl, hp.out.trans (hb.mono hp.out.size)⟩
  | true =>
    rw [hf] at cF
    obtain ⟨h20, h200⟩ := fewB_iff.1 hf
    have hn20 : n ≤ 20 := by omega
    replace cF := Lib.hid cF
    by_cases hG : ¬ (bs G).size ≤ 200
    · have e200 : decide ((200 : Int) < ((bs G).size : Int)) = true := decide_eq_true (by omega)
      clear hf H1 hml hzG h20 h200 hG
      go_wp2_with (first
        | (go_at_call 6; refine cF.out.mono ?_; rintro r w1 ⟨rfl, rfl⟩)
        | (go_at_call 17; refine (cA.out _).mono ?_; rintro r w1 ⟨rfl, hb⟩))
      go_ret
      exact ⟨rfl, hp.out.trans (hb.mono hp.out.size)⟩
    have e200 : decide ((200 : Int) < ((bs G).size : Int)) = false := decide_eq_false (by omega)
    have hGl := Lib.hid (show G.length ≤ 200 by omega)
    have cN := Lib.hid (tnew_any W1)
    have Hh := Lib.hid H1
    have h200 := Lib.hid h200
    have hmlh := Lib.hid hml
    clear hf H1 hml h20 hzG hG
    go_upto_region 4 with (first
      | (go_at_call 6; refine cF.out.mono ?_; rintro r w1 ⟨rfl, rfl⟩)
      | (go_at_call 8; refine cN.out.mono ?_; rintro r w1 ⟨A0, rfl, hN, hA, hb⟩
         have hS0 := St.start hN hA hb
         have cM := Lib.hid (makes_any (c := c) ms W1 w1 A0.g (by omega) h200.out Hh.out hS0)
         have hz1 := Lib.hid hb.size
         clear hN hA hb cN hS0 cF
         generalize A0.g = g at *))
    clear e200
    go_upto_region 5 with (first
      | (go_at_call 9; refine cM.out.mono ?_; rintro r w2 hR
         obtain ⟨AI, cI, AT, cT, l, L, rfl, hMd, hL, hnew, hone, hrow⟩ := md_new hmlh.out hz1.out hR
         unfold boxW at hMd
         have hMdh := Lib.hid hMd
         have hnewh := Lib.hid hnew
         have honeh := Lib.hid hone
         have hLn := Lib.hid hL
         clear hR hnew hone hrow cM hMd)
      | (refine wpList_store_at 31 _ _ rfl rfl w2.heap.size #[.slice AI n cI, .slice AT n cT] rfl rfl 31 #[.slice none 0 0, .slice none 0 0] hnewh.out (by kernel_rfl) rfl honeh.out ?_))
    generalize ((w2.alloc (.cells #[.slice none 0 0, .slice none 0 0] 31)).setRow w2.heap.size #[.slice AI n cI, .slice AT n cT]) = W4 at *
    generalize w2.heap.size = q at *
    clear hnewh honeh
    obtain ⟨os, hos⟩ : ∃ os, mksO ms [] = os := ⟨_, rfl⟩
    rw [hos] at hMdh
    clear hos
    have hB4 := Lib.hid hMdh.out.st.below
    have hr4 := Lib.hid ((hB4.out.block w.heap.size (Array.getElem?_eq_some_iff.1 hx1h.out).1).trans hx1h.out)
    have hxc := Lib.hid (fun W (h : Below W4.heap.size W4 W) (k : Nat) (v : Value) (hv : (#[.int .i64 i0, .int .i64 i1, .int .i64 i2, .int .i64 i3] : Array Value)[k]? = some v) => (show W.cell? ⟨w.heap.size, k, none⟩ = some v from
      (cell_of_row W w.heap.size k _ _ _ ((h.block w.heap.size (Array.getElem?_eq_some_iff.1 hr4.out).1).trans hr4.out)).trans hv))
    have hpk := Lib.hid (fun W (h : Below W4.heap.size W4 W) (i : Int) => pick_any (c := cI) (d := cT) i W (by omega : n ≤ 1000) (hMdh.out.below h).made)
    have hrw := Lib.hid (fun W (h : Below W4.heap.size W4 W) => (hMdh.out.below h).row)
    have hok := Lib.hid (fun i : Int => pkO_all (P := fun o => okO o ∧ (encO o).length ≤ 131072) (os := os) i ⟨okO_none, by simp [encO]⟩ (fun o ho => ⟨hMdh.out.ml.ok hMdh.out.st.good o ho, hMdh.out.ml.small hMdh.out.st.good o ho⟩))
    have hnk := Lib.hid (fun i : Int => hMdh.out.ml.toNmL.pickN i)
    have hb4 := Lib.hid (Below.refl W4.heap.size W4)
    have x0 := hxc.out W4 hb4.out 0 _ rfl
    have r0 := Lib.hid (hrw.out W4 hb4.out)
    have p0 := Lib.hid (hpk.out W4 hb4.out i0)
    unfold madeV at p0
    go_upto_region 6 with (first
      | (refine wpList_load_at 31 _ rfl rfl q 0 rfl [.slice AI n cI, .slice AT n cT] _ r0.out Tryz.underlying31 rfl (by kernel_rfl) ?_)
      | (go_at_call 10; refine p0.out.mono ?_; rintro r w5 ⟨rfl, hbn⟩
         have hb5 := Lib.hid (hb4.out.trans (hbn.mono hb4.out.size))
         clear hbn))
    have nk0 := Lib.hid (hnk.out i0)
    have ok0 := Lib.hid (hok.out i0)
    generalize pkO os i0 = o0 at nk0 ok0 ⊢
    generalize pkI l i0 = z0 at nk0 ok0 ⊢
    clear x0 r0 p0
    have x1 := hxc.out w5 hb5.out 1 _ rfl
    have r1 := Lib.hid (hrw.out w5 hb5.out)
    have p1 := Lib.hid (hpk.out w5 hb5.out i1)
    unfold madeV at p1
    go_upto_region 7 with (first
      | (refine wpList_load_at 31 _ rfl rfl q 0 rfl [.slice AI n cI, .slice AT n cT] _ r1.out Tryz.underlying31 rfl (by kernel_rfl) ?_)
      | (go_at_call 10; refine p1.out.mono ?_; rintro r w6 ⟨rfl, hbn⟩
         have hb6 := Lib.hid (hb5.out.trans (hbn.mono hb5.out.size))
         clear hbn))
    have nk1 := Lib.hid (hnk.out i1)
    have ok1 := Lib.hid (hok.out i1)
    generalize pkO os i1 = o1 at nk1 ok1 ⊢
    generalize pkI l i1 = z1 at nk1 ok1 ⊢
    clear x1 r1 p1
    have hS6 := hMdh.out.st.keep hb6.out
    have c7 := hS6.secret (by have := hLn.out; omega) G z0 z1 o0 o1 nk0.out nk1.out
    have cRS := fun W => rSecret_any G o0 o1 ok0.out.1 ok0.out.2 ok1.out.1 ok1.out.2 W
    have cRR := fun W => rRight19_any G o0 ok0.out.1 ok0.out.2 W
    have cRO := fun W => rOffer_any G o1 (by have := hGl.out; omega) ok1.out.1 ok1.out.2 W
    have cRF := fun W => rFresh_any i2 i3 W
    unfold TxR at cRS cRO cRF
    replace c7 := Lib.hid c7
    replace cRS := Lib.hid cRS
    replace cRR := Lib.hid cRR
    replace cRO := Lib.hid cRO
    replace cRF := Lib.hid cRF
    have hr6 := Lib.hid ((hb6.out.block w.heap.size (Array.getElem?_eq_some_iff.1 hr4.out).1).trans hr4.out)
    clear hS6 hxc hpk hrw hok hnk hb4 hb5 hMdh hr4
    obtain ⟨so, hso⟩ : ∃ so, secretT G o0 o1 = so := ⟨_, rfl⟩
    obtain ⟨cb, hcb⟩ : ∃ cb, chkB G o0 = cb := ⟨_, rfl⟩
    obtain ⟨fo, hfo⟩ : ∃ fo, offerT G o1 = fo := ⟨_, rfl⟩
    obtain ⟨ho, hho⟩ : ∃ ho, freshT i2 i3 = ho := ⟨_, rfl⟩
    rw [hso] at c7 cRS
    rw [hcb] at cRR
    rw [hfo] at cRO
    rw [hho] at cRF
    have hsoh := Lib.hid hso
    have hcbh := Lib.hid hcb
    have hfoh := Lib.hid hfo
    have hhoh := Lib.hid hho
    clear hso hcb hfo hho
    generalize hy0 : bs (encO o0) = y0 at *
    generalize hy1 : bs (encO o1) = y1 at *
    clear hy0 hy1
    obtain ⟨er, eb, her, heb⟩ : ∃ (er : Int) (eb : Bool), errT so = er ∧ (bs (encO so)).toList.isEmpty = eb ∧ (eb = true ∧ er = 5 ∨ eb = false ∧ er = 0) := by
      cases so with
      | none => exact ⟨5, true, rfl, empty_none, .inl ⟨rfl, rfl⟩⟩
      | some u => exact ⟨0, false, rfl, empty_test, .inr ⟨rfl, rfl⟩⟩
    rw [her] at c7
    clear her
    generalize hys : bs (encO so) = ys at *
    have hysh := Lib.hid hys
    clear hys
    go_upto_region 9 with (first
      | (go_at_call 18; refine c7.out.mono ?_; rintro r w7 ⟨L7, z7, rfl, hS7, hE7, hM7, hY7, hz7⟩
         have hS7 := Lib.hid hS7
         have hE7 := Lib.hid hE7
         have hM7 := Lib.hid hM7
         have hY7 := Lib.hid hY7)
      | (go_at_call 19; refine (cRS.out _).mono ?_; rintro r w8 ⟨rfl, hb8⟩
         have hb8h := Lib.hid hb8
         clear hb8))
    have hS8 := hS7.out.keep hb8h.out
    have cE8 := hS8.encode z7
    rw [hM7.out.1] at cE8
    unfold TxR at cE8
    rw [hysh.out] at cE8
    have nk0' := Lib.hid (nk0.out.ext hE7.out)
    have nk1' := Lib.hid (nk1.out.ext hE7.out)
    have hL8 := Lib.hid (show L7.length ≤ 21 by have := hE7.out.len; have := hLn.out; omega)
    have hr8 := Lib.hid ((hb8h.out.block w.heap.size (Array.getElem?_eq_some_iff.1 (hY7.out _ _ _ _ hr6.out (by decide) (by decide) (by decide))).1).trans (hY7.out _ _ _ _ hr6.out (by decide) (by decide) (by decide)))
    have hS8 := Lib.hid hS8
    replace cE8 := Lib.hid cE8
    have hck := Lib.hid (fun W (h : Below w8.heap.size w8 W) => (show Calls Tryz.prog 20 #[.pointer (some ⟨g, 0, none⟩), .string (bs G), .int .i64 z0] W (fun r w' => r = .returned (.int .i64 (if cb then 0 else 5)) ∧ Below W.heap.size W w') from by have h1 := (hS8.out.keep h).check G z0; rw [nk0'.out.1, hcbh.out] at h1; exact h1))
    clear hS7 hM7 hY7 hE7 hz7 c7 cRS hb6 hr6 nk0 nk1 hysh hsoh hcbh hb8h
    generalize hyG : bs G = yG at *
    have hyGh := Lib.hid hyG
    clear hyG
    obtain ⟨hee, hcase⟩ := heb
    clear hz1
    obtain ⟨fr, hfr⟩ : ∃ fr : Int, (if cb then 0 else 5 : Int) = fr ∧ (cb = true ∧ fr = 0 ∨ cb = false ∧ fr = 5) := by
      cases cb
      · exact ⟨5, rfl, .inr ⟨rfl, rfl⟩⟩
      · exact ⟨0, rfl, .inl ⟨rfl, rfl⟩⟩
    rw [hfr.1] at hck
    obtain ⟨-, hfcase⟩ := hfr
    rcases hcase with ⟨rfl, rfl⟩ | ⟨rfl, rfl⟩ <;> rcases hfcase with ⟨rfl, rfl⟩ | ⟨rfl, rfl⟩
    · go_upto_region 14 with (first
        | (go_at_call 12; refine cE8.out.mono ?_; rintro r w10 ⟨rfl, hb10⟩
           have hb10h := Lib.hid hb10
           have ck := Lib.hid (hck.out w10 hb10)
           clear hb10)
        | (go_at_call 20; refine ck.out.mono ?_; rintro r w11 ⟨rfl, hb11⟩
           have hb11h := Lib.hid (hb10h.out.trans (hb11.mono hb10h.out.size))
           clear hb11)
        | (go_at_call 21; refine (cRR.out _).mono ?_; rintro r w9 ⟨rfl, hb12⟩
           have hb12h := Lib.hid (hb11h.out.trans (hb12.mono hb11h.out.size))
           clear hb12))
      have hS9 := Lib.hid (hS8.out.keep hb12h.out)
      have hr9 := Lib.hid ((hb12h.out.block w.heap.size (Array.getElem?_eq_some_iff.1 hr8.out).1).trans hr8.out)
      generalize hyo : bs (encO fo) = yo at *
      generalize hyf : bs (encO ho) = yf at *
      have hyoh := Lib.hid hyo
      have hyfh := Lib.hid hyf
      clear hyo hyf cE8 hck hS8
      refine region_iw tbSrb dsSrb (vsSrb g (w.heap.size) i2 i3 z1 y1 yG yo yf) (fun L T W => Stay w9 W ∧ Below W1.heap.size W1 W ∧ (L 6 = false → Below w9.heap.size w9 W) ∧ (L 6 = true → L 7 = false → ∃ (L2 : List Tm) (x2 : Int), T.getD 100 undef = .int .i64 x2 ∧ St W1 g W L2 ∧ L2.length ≤ 23 ∧ Nm L2 x2 fo) ∧ (L 6 = true → L 20 = false → ∃ (L2 : List Tm), St W1 g W L2 ∧ L2.length ≤ 23) ∧ (L 20 = true → L 21 = false → ∃ (L2 : List Tm) (x2 : Int), T.getD 114 undef = .int .i64 x2 ∧ St W1 g W L2 ∧ Nm L2 x2 ho)) rfl (by decide) (by kernel_rfl) ?hlt ?hstep ?hdone ?hstart
      case hstart => exact ⟨Stay.of_below (drewN_below 1), hS9.out.below.trans (Below.mono (drewN_below 1) hS9.out.below.size), fun _ => drewN_below 1, fun h => absurd h (inv_not (n := 30) (i := 6) (by decide)), fun h => absurd h (inv_not (n := 30) (i := 6) (by decide)), fun h => absurd h (inv_not (n := 30) (i := 20) (by decide))⟩
      case hlt =>
        intro ix o ho
        have hi := (Array.getElem?_eq_some_iff.1 ho).1
        match ix, hi with
        | 0, _ => obtain rfl := Option.some.inj ho; decide
        | 1, _ => obtain rfl := Option.some.inj ho; decide
        | 2, _ => obtain rfl := Option.some.inj ho; decide
        | 3, _ => obtain rfl := Option.some.inj ho; decide
        | 4, _ => obtain rfl := Option.some.inj ho; decide
        | 5, _ => obtain rfl := Option.some.inj ho; decide
        | 6, _ => obtain rfl := Option.some.inj ho; decide
        | 7, _ => obtain rfl := Option.some.inj ho; decide
        | 8, _ => obtain rfl := Option.some.inj ho; decide
        | 9, _ => obtain rfl := Option.some.inj ho; decide
        | 10, _ => obtain rfl := Option.some.inj ho; decide
        | 11, _ => obtain rfl := Option.some.inj ho; decide
        | 12, _ => obtain rfl := Option.some.inj ho; decide
        | 13, _ => obtain rfl := Option.some.inj ho; decide
        | 14, _ => obtain rfl := Option.some.inj ho; decide
        | 15, _ => obtain rfl := Option.some.inj ho; decide
        | 16, _ => obtain rfl := Option.some.inj ho; decide
        | 17, _ => obtain rfl := Option.some.inj ho; decide
        | 18, _ => obtain rfl := Option.some.inj ho; decide
        | 19, _ => obtain rfl := Option.some.inj ho; decide
        | 20, _ => obtain rfl := Option.some.inj ho; decide
        | 21, _ => obtain rfl := Option.some.inj ho; decide
        | 22, _ => obtain rfl := Option.some.inj ho; decide
        | 23, _ => obtain rfl := Option.some.inj ho; decide
        | 24, _ => obtain rfl := Option.some.inj ho; decide
        | 25, _ => obtain rfl := Option.some.inj ho; decide
        | 26, _ => obtain rfl := Option.some.inj ho; decide
        | 27, _ => obtain rfl := Option.some.inj ho; decide
        | 28, _ => obtain rfl := Option.some.inj ho; decide
        | 29, _ => obtain rfl := Option.some.inj ho; decide
      case hstep =>
        intro T1 hE L T W ix o hF hW hc ho hLi hd K hK
        have hN : T1.size = 123 := by rw [hE]; rfl
        have f2 : T.getD 2 undef = .string yG := (hF.old 2 (by decide)).trans (by rw [hE]; rfl)
        have f4 : T.getD 4 undef = .pointer (some ⟨(w.heap.size), 0, none⟩) := (hF.old 4 (by decide)).trans (by rw [hE]; rfl)
        have f7 : T.getD 7 undef = .pointer (some ⟨g, 0, none⟩) := (hF.old 7 (by decide)).trans (by rw [hE]; rfl)
        have f11 : T.getD 11 undef = .int .i64 z1 := (hF.old 11 (by decide)).trans (by rw [hE]; rfl)
        have f12 : T.getD 12 undef = .string y1 := (hF.old 12 (by decide)).trans (by rw [hE]; rfl)
        clear hE
        replace hF := Lib.hid hF
        replace hW := Lib.hid hW
        replace hK := Lib.hid hK
        have hi := (List.getElem?_eq_some_iff.1 ho).1
        match ix, hi with
        | 0, _ =>
          obtain rfl := Option.some.inj ho
          have n6 : ¬ L 6 = true := fun h => by have := hc 1 0 (hc 6 1 h (by decide)) (by decide); rw [hLi] at this; cases this
          have n7 : ¬ L 7 = true := fun h => n6 (hc 7 6 h (by decide))
          have n10 : ¬ L 10 = true := fun h => n7 (hc 10 7 h (by decide))
          have n20 : ¬ L 20 = true := fun h => n10 (hc 13 10 (hc 20 13 h (by decide)) (by decide))
          have cc := Lib.hid (cA.out W)
          clear hd ho hi hc
          refine st_call (want_none rfl) (by unfold execOp; go_simp) cc.out ?_
          rintro r w3 ⟨rfl, hb4⟩
          exact ⟨_, rfl, hK.out _ _ (hF.out.put (k := 0) (s := 94) rfl (by decide) hN (by decide) (fun u hu => Option.some.inj (Option.some.inj (show some (some (.bool true)) = some (some u) from hu))) ⟨hW.out.1.trans (Stay.of_below hb4), (hW.out.2.1.trans (Below.mono hb4 hW.out.2.1.size)), fun _ => (hW.out.2.2.1 (by simpa using n6)).trans (Below.mono hb4 (hW.out.2.2.1 (by simpa using n6)).size), fun h => absurd h n6, fun h => absurd h n6, fun h => absurd h n20⟩)⟩
        | 1, _ =>
          obtain rfl := Option.some.inj ho
          have l0 : L 0 = true := dep_of hd (n := 0) (by decide)
          have e94 : T.getD 94 undef = .bool true := hF.out.val 0 94 _ l0 rfl rfl
          clear hd ho hi hc hLi
          exact st_val (v := .bool true) (w' := W) (want_none rfl) (by unfold execOp; dsimp only [Act.eval]; simp only [e94]; go_simp) (hK.out _ _ (hF.out.put (k := 1) (s := 95) rfl (by decide) hN (by decide) (fun u hu => Option.some.inj (Option.some.inj (show some (some (.bool true)) = some (some u) from hu))) (by dsimp only; rw [gd_ne (show 95 ≠ 100 by decide), gd_ne (show 95 ≠ 114 by decide)]; exact hW.out)))
        | 2, _ =>
          obtain rfl := Option.some.inj ho
          have l1 : L 1 = true := dep_of hd (n := 1) (by decide)
          have e95 : T.getD 95 undef = .bool true := hF.out.val 1 95 _ l1 rfl rfl
          clear hd ho hi hc hLi
          exact st_val (v := .pointer (some ⟨g, 0, none⟩)) (w' := W) (by rw [want_some (j := 1) (s := 95) rfl rfl e95]; rfl) (by unfold execOp; dsimp only [Act.eval]; simp only [f7]; go_simp) (hK.out _ _ (hF.out.put (k := 2) (s := 96) rfl (by decide) hN (by decide) (fun u hu => Option.some.inj (Option.some.inj (show some (some (.pointer (some ⟨g, 0, none⟩))) = some (some u) from hu))) (by dsimp only; rw [gd_ne (show 96 ≠ 100 by decide), gd_ne (show 96 ≠ 114 by decide)]; exact hW.out)))
        | 3, _ =>
          obtain rfl := Option.some.inj ho
          have l1 : L 1 = true := dep_of hd (n := 1) (by decide)
          have e95 : T.getD 95 undef = .bool true := hF.out.val 1 95 _ l1 rfl rfl
          clear hd ho hi hc hLi
          exact st_val (v := .pointer (some ⟨g, 0, none⟩)) (w' := W) (by rw [want_some (j := 1) (s := 95) rfl rfl e95]; rfl) (by unfold execOp; dsimp only [Act.eval]; simp only [f7]; go_simp) (hK.out _ _ (hF.out.put (k := 3) (s := 97) rfl (by decide) hN (by decide) (fun u hu => Option.some.inj (Option.some.inj (show some (some (.pointer (some ⟨g, 0, none⟩))) = some (some u) from hu))) (by dsimp only; rw [gd_ne (show 97 ≠ 100 by decide), gd_ne (show 97 ≠ 114 by decide)]; exact hW.out)))
        | 4, _ =>
          obtain rfl := Option.some.inj ho
          have l1 : L 1 = true := dep_of hd (n := 1) (by decide)
          have e95 : T.getD 95 undef = .bool true := hF.out.val 1 95 _ l1 rfl rfl
          clear hd ho hi hc hLi
          exact st_val (v := .string yG) (w' := W) (by rw [want_some (j := 1) (s := 95) rfl rfl e95]; rfl) (by unfold execOp; dsimp only [Act.eval]; simp only [f2]; go_simp) (hK.out _ _ (hF.out.put (k := 4) (s := 98) rfl (by decide) hN (by decide) (fun u hu => Option.some.inj (Option.some.inj (show some (some (.string yG)) = some (some u) from hu))) (by dsimp only; rw [gd_ne (show 98 ≠ 100 by decide), gd_ne (show 98 ≠ 114 by decide)]; exact hW.out)))
        | 5, _ =>
          obtain rfl := Option.some.inj ho
          have l1 : L 1 = true := dep_of hd (n := 1) (by decide)
          have e95 : T.getD 95 undef = .bool true := hF.out.val 1 95 _ l1 rfl rfl
          clear hd ho hi hc hLi
          exact st_val (v := .int .i64 z1) (w' := W) (by rw [want_some (j := 1) (s := 95) rfl rfl e95]; rfl) (by unfold execOp; dsimp only [Act.eval]; simp only [f11]; go_simp) (hK.out _ _ (hF.out.put (k := 5) (s := 99) rfl (by decide) hN (by decide) (fun u hu => Option.some.inj (Option.some.inj (show some (some (.int .i64 z1)) = some (some u) from hu))) (by dsimp only; rw [gd_ne (show 99 ≠ 100 by decide), gd_ne (show 99 ≠ 114 by decide)]; exact hW.out)))
        | 6, _ =>
          obtain rfl := Option.some.inj ho
          have l3 : L 3 = true := dep_of hd (n := 3) (by decide)
          have e97 : T.getD 97 undef = .pointer (some ⟨g, 0, none⟩) := hF.out.val 3 97 _ l3 rfl rfl
          have l4 : L 4 = true := dep_of hd (n := 4) (by decide)
          have e98 : T.getD 98 undef = .string yG := hF.out.val 4 98 _ l4 rfl rfl
          have l5 : L 5 = true := dep_of hd (n := 5) (by decide)
          have e99 : T.getD 99 undef = .int .i64 z1 := hF.out.val 5 99 _ l5 rfl rfl
          have l1 : L 1 = true := dep_of hd (n := 1) (by decide)
          have e95 : T.getD 95 undef = .bool true := hF.out.val 1 95 _ l1 rfl rfl
          have n7 : ¬ L 7 = true := fun h => by have := hc 7 6 h (by decide); rw [hLi] at this; cases this
          have n10 : ¬ L 10 = true := fun h => n7 (hc 10 7 h (by decide))
          have n20 : ¬ L 20 = true := fun h => n10 (hc 13 10 (hc 20 13 h (by decide)) (by decide))
          have hb := hW.out.2.2.1 hLi
          have cc := Lib.hid ((hS9.out.keep hb).offer (by have := hL8.out; omega) G (by have := hGl.out; omega) z1 o1 nk1'.out)
          rw [hfoh.out, hyGh.out] at cc
          clear hd ho hi hc
          refine st_call (by rw [want_some (j := 1) (s := 95) rfl rfl e95]; rfl) (by unfold execOp; go_simp) cc.out ?_
          rintro r w3 ⟨L', x', rfl, a2, a3, a4, a5, a6⟩
          exact ⟨_, rfl, hK.out _ _ (hF.out.put (k := 6) (s := 100) rfl (by decide) hN (by decide) (fun u hu => by cases hu) ⟨hW.out.1.trans a5, a2.below, fun h => absurd h (by simp), fun _ _ => ⟨L', x', gd_eq (by rw [hF.out.size, hN]; decide), a2, (by have := a3.len; have := hL8.out; omega), a4⟩, fun _ _ => ⟨L', a2, (by have := a3.len; have := hL8.out; omega)⟩, fun h => absurd h n20⟩)⟩
        | 7, _ =>
          obtain rfl := Option.some.inj ho
          have l2 : L 2 = true := dep_of hd (n := 2) (by decide)
          have e96 : T.getD 96 undef = .pointer (some ⟨g, 0, none⟩) := hF.out.val 2 96 _ l2 rfl rfl
          have l6 : L 6 = true := dep_of hd (n := 6) (by decide)
          have l1 : L 1 = true := dep_of hd (n := 1) (by decide)
          have e95 : T.getD 95 undef = .bool true := hF.out.val 1 95 _ l1 rfl rfl
          have n10 : ¬ L 10 = true := fun h => by have := hc 10 7 h (by decide); rw [hLi] at this; cases this
          have n20 : ¬ L 20 = true := fun h => n10 (hc 13 10 (hc 20 13 h (by decide)) (by decide))
          obtain ⟨L2, x2, e100, s2, hl2, m2⟩ := hW.out.2.2.2.1 l6 hLi
          have cc := s2.encode x2
          rw [m2.1] at cc
          unfold TxR at cc
          rw [hyoh.out] at cc
          replace cc := Lib.hid cc
          replace s2 := Lib.hid s2
          clear hd ho hi hc
          refine st_call (by rw [want_some (j := 1) (s := 95) rfl rfl e95]; rfl) (by unfold execOp; go_simp) cc.out ?_
          rintro r w3 ⟨rfl, hb4⟩
          exact ⟨_, rfl, hK.out _ _ (hF.out.put (k := 7) (s := 101) rfl (by decide) hN (by decide) (fun u hu => Option.some.inj (Option.some.inj (show some (some (.string yo)) = some (some u) from hu))) ⟨hW.out.1.trans (Stay.of_below hb4), (hW.out.2.1.trans (Below.mono hb4 hW.out.2.1.size)), fun h => absurd (l6.symm.trans (show L 6 = false from h)) (by decide), fun _ h => absurd h (by simp), fun _ _ => ⟨L2, s2.out.keep hb4, hl2⟩, fun h => absurd h n20⟩)⟩
        | 8, _ =>
          obtain rfl := Option.some.inj ho
          have l1 : L 1 = true := dep_of hd (n := 1) (by decide)
          have e95 : T.getD 95 undef = .bool true := hF.out.val 1 95 _ l1 rfl rfl
          clear hd ho hi hc hLi
          exact st_val (v := .string yG) (w' := W) (by rw [want_some (j := 1) (s := 95) rfl rfl e95]; rfl) (by unfold execOp; dsimp only [Act.eval]; simp only [f2]; go_simp) (hK.out _ _ (hF.out.put (k := 8) (s := 102) rfl (by decide) hN (by decide) (fun u hu => Option.some.inj (Option.some.inj (show some (some (.string yG)) = some (some u) from hu))) (by dsimp only; rw [gd_ne (show 102 ≠ 100 by decide), gd_ne (show 102 ≠ 114 by decide)]; exact hW.out)))
        | 9, _ =>
          obtain rfl := Option.some.inj ho
          have l1 : L 1 = true := dep_of hd (n := 1) (by decide)
          have e95 : T.getD 95 undef = .bool true := hF.out.val 1 95 _ l1 rfl rfl
          clear hd ho hi hc hLi
          exact st_val (v := .string y1) (w' := W) (by rw [want_some (j := 1) (s := 95) rfl rfl e95]; rfl) (by unfold execOp; dsimp only [Act.eval]; simp only [f12]; go_simp) (hK.out _ _ (hF.out.put (k := 9) (s := 103) rfl (by decide) hN (by decide) (fun u hu => Option.some.inj (Option.some.inj (show some (some (.string y1)) = some (some u) from hu))) (by dsimp only; rw [gd_ne (show 103 ≠ 100 by decide), gd_ne (show 103 ≠ 114 by decide)]; exact hW.out)))
        | 10, _ =>
          obtain rfl := Option.some.inj ho
          have l8 : L 8 = true := dep_of hd (n := 8) (by decide)
          have e102 : T.getD 102 undef = .string yG := hF.out.val 8 102 _ l8 rfl rfl
          have l9 : L 9 = true := dep_of hd (n := 9) (by decide)
          have e103 : T.getD 103 undef = .string y1 := hF.out.val 9 103 _ l9 rfl rfl
          have l1 : L 1 = true := dep_of hd (n := 1) (by decide)
          have e95 : T.getD 95 undef = .bool true := hF.out.val 1 95 _ l1 rfl rfl
          have l7 : L 7 = true := dep_of hd (n := 7) (by decide)
          have e101 : T.getD 101 undef = .string yo := hF.out.val 7 101 _ l7 rfl rfl
          have l6 : L 6 = true := hc 7 6 l7 (by decide)
          have n20 : ¬ L 20 = true := fun h => by have := hc 13 10 (hc 20 13 h (by decide)) (by decide); rw [hLi] at this; cases this
          obtain ⟨L2, s2, hl2⟩ := hW.out.2.2.2.2.1 l6 (by simpa using n20)
          have cc := Lib.hid (cRO.out W)
          replace s2 := Lib.hid s2
          clear hd ho hi hc
          refine st_call (by rw [want_some (j := 1) (s := 95) rfl rfl e95]; rfl) (by unfold execOp; go_simp) cc.out ?_
          rintro r w3 ⟨rfl, hb4⟩
          exact ⟨_, rfl, hK.out _ _ (hF.out.put (k := 10) (s := 104) rfl (by decide) hN (by decide) (fun u hu => Option.some.inj (Option.some.inj (show some (some (.string yo)) = some (some u) from hu))) ⟨hW.out.1.trans (Stay.of_below hb4), (hW.out.2.1.trans (Below.mono hb4 hW.out.2.1.size)), fun h => absurd (l6.symm.trans (show L 6 = false from h)) (by decide), fun _ h => absurd (l7.symm.trans (show L 7 = false from h)) (by decide), fun _ _ => ⟨L2, s2.out.keep hb4, hl2⟩, fun h => absurd h n20⟩)⟩
        | 11, _ =>
          obtain rfl := Option.some.inj ho
          have l7 : L 7 = true := dep_of hd (n := 7) (by decide)
          have e101 : T.getD 101 undef = .string yo := hF.out.val 7 101 _ l7 rfl rfl
          have l10 : L 10 = true := dep_of hd (n := 10) (by decide)
          have e104 : T.getD 104 undef = .string yo := hF.out.val 10 104 _ l10 rfl rfl
          have l1 : L 1 = true := dep_of hd (n := 1) (by decide)
          have e95 : T.getD 95 undef = .bool true := hF.out.val 1 95 _ l1 rfl rfl
          clear hd ho hi hc hLi
          exact st_val (v := .bool true) (w' := W) (by rw [want_some (j := 1) (s := 95) rfl rfl e95]; rfl) (by unfold execOp; dsimp only [Act.eval]; simp only [e101, e104]; go_simp) (hK.out _ _ (hF.out.put (k := 11) (s := 105) rfl (by decide) hN (by decide) (fun u hu => Option.some.inj (Option.some.inj (show some (some (.bool true)) = some (some u) from hu))) (by dsimp only; rw [gd_ne (show 105 ≠ 100 by decide), gd_ne (show 105 ≠ 114 by decide)]; exact hW.out)))
        | 12, _ =>
          obtain rfl := Option.some.inj ho
          have l1 : L 1 = true := dep_of hd (n := 1) (by decide)
          have e95 : T.getD 95 undef = .bool true := hF.out.val 1 95 _ l1 rfl rfl
          have l11 : L 11 = true := dep_of hd (n := 11) (by decide)
          have e105 : T.getD 105 undef = .bool true := hF.out.val 11 105 _ l11 rfl rfl
          clear hd ho hi hc hLi
          exact st_val (v := .bool true) (w' := W) (want_none rfl) (by unfold execOp; dsimp only [Act.eval]; simp only [e95, e105]; go_simp) (hK.out _ _ (hF.out.put (k := 12) (s := 106) rfl (by decide) hN (by decide) (fun u hu => Option.some.inj (Option.some.inj (show some (some (.bool true)) = some (some u) from hu))) (by dsimp only; rw [gd_ne (show 106 ≠ 100 by decide), gd_ne (show 106 ≠ 114 by decide)]; exact hW.out)))
        | 13, _ =>
          obtain rfl := Option.some.inj ho
          have l12 : L 12 = true := dep_of hd (n := 12) (by decide)
          have e106 : T.getD 106 undef = .bool true := hF.out.val 12 106 _ l12 rfl rfl
          clear hd ho hi hc hLi
          exact st_val (v := .bool true) (w' := W) (want_none rfl) (by unfold execOp; dsimp only [Act.eval]; simp only [e106]; go_simp) (hK.out _ _ (hF.out.put (k := 13) (s := 107) rfl (by decide) hN (by decide) (fun u hu => Option.some.inj (Option.some.inj (show some (some (.bool true)) = some (some u) from hu))) (by dsimp only; rw [gd_ne (show 107 ≠ 100 by decide), gd_ne (show 107 ≠ 114 by decide)]; exact hW.out)))
        | 14, _ =>
          obtain rfl := Option.some.inj ho
          have l13 : L 13 = true := dep_of hd (n := 13) (by decide)
          have e107 : T.getD 107 undef = .bool true := hF.out.val 13 107 _ l13 rfl rfl
          clear hd ho hi hc hLi
          exact st_val (v := .pointer (some ⟨g, 0, none⟩)) (w' := W) (by rw [want_some (j := 13) (s := 107) rfl rfl e107]; rfl) (by unfold execOp; dsimp only [Act.eval]; simp only [f7]; go_simp) (hK.out _ _ (hF.out.put (k := 14) (s := 108) rfl (by decide) hN (by decide) (fun u hu => Option.some.inj (Option.some.inj (show some (some (.pointer (some ⟨g, 0, none⟩))) = some (some u) from hu))) (by dsimp only; rw [gd_ne (show 108 ≠ 100 by decide), gd_ne (show 108 ≠ 114 by decide)]; exact hW.out)))
        | 15, _ =>
          obtain rfl := Option.some.inj ho
          have l13 : L 13 = true := dep_of hd (n := 13) (by decide)
          have e107 : T.getD 107 undef = .bool true := hF.out.val 13 107 _ l13 rfl rfl
          clear hd ho hi hc hLi
          exact st_val (v := .pointer (some ⟨g, 0, none⟩)) (w' := W) (by rw [want_some (j := 13) (s := 107) rfl rfl e107]; rfl) (by unfold execOp; dsimp only [Act.eval]; simp only [f7]; go_simp) (hK.out _ _ (hF.out.put (k := 15) (s := 109) rfl (by decide) hN (by decide) (fun u hu => Option.some.inj (Option.some.inj (show some (some (.pointer (some ⟨g, 0, none⟩))) = some (some u) from hu))) (by dsimp only; rw [gd_ne (show 109 ≠ 100 by decide), gd_ne (show 109 ≠ 114 by decide)]; exact hW.out)))
        | 16, _ =>
          obtain rfl := Option.some.inj ho
          have l13 : L 13 = true := dep_of hd (n := 13) (by decide)
          have e107 : T.getD 107 undef = .bool true := hF.out.val 13 107 _ l13 rfl rfl
          clear hd ho hi hc hLi
          exact st_val (v := .pointer (some ⟨(w.heap.size), 2, none⟩)) (w' := W) (by rw [want_some (j := 13) (s := 107) rfl rfl e107]; rfl) (by unfold execOp; dsimp only [Act.eval]; simp only [f4]; go_simp) (hK.out _ _ (hF.out.put (k := 16) (s := 110) rfl (by decide) hN (by decide) (fun u hu => Option.some.inj (Option.some.inj (show some (some (.pointer (some ⟨(w.heap.size), 2, none⟩))) = some (some u) from hu))) (by dsimp only; rw [gd_ne (show 110 ≠ 100 by decide), gd_ne (show 110 ≠ 114 by decide)]; exact hW.out)))
        | 17, _ =>
          obtain rfl := Option.some.inj ho
          have l16 : L 16 = true := dep_of hd (n := 16) (by decide)
          have e110 : T.getD 110 undef = .pointer (some ⟨(w.heap.size), 2, none⟩) := hF.out.val 16 110 _ l16 rfl rfl
          have l13 : L 13 = true := dep_of hd (n := 13) (by decide)
          have e107 : T.getD 107 undef = .bool true := hF.out.val 13 107 _ l13 rfl rfl
          have hcc := cell_of_row W w.heap.size 2 _ _ _ (hW.out.1 _ _ _ _ hr9.out (by decide) (by decide) (by decide))
          clear hd ho hi hc hLi
          exact st_val (v := .int .i64 i2) (w' := W) (by rw [want_some (j := 13) (s := 107) rfl rfl e107]; rfl) (by unfold execOp; dsimp only [Act.eval]; simp only [e110]; go_simp) (hK.out _ _ (hF.out.put (k := 17) (s := 111) rfl (by decide) hN (by decide) (fun u hu => Option.some.inj (Option.some.inj (show some (some (.int .i64 i2)) = some (some u) from hu))) (by dsimp only; rw [gd_ne (show 111 ≠ 100 by decide), gd_ne (show 111 ≠ 114 by decide)]; exact hW.out)))
        | 18, _ =>
          obtain rfl := Option.some.inj ho
          have l13 : L 13 = true := dep_of hd (n := 13) (by decide)
          have e107 : T.getD 107 undef = .bool true := hF.out.val 13 107 _ l13 rfl rfl
          clear hd ho hi hc hLi
          exact st_val (v := .pointer (some ⟨(w.heap.size), 3, none⟩)) (w' := W) (by rw [want_some (j := 13) (s := 107) rfl rfl e107]; rfl) (by unfold execOp; dsimp only [Act.eval]; simp only [f4]; go_simp) (hK.out _ _ (hF.out.put (k := 18) (s := 112) rfl (by decide) hN (by decide) (fun u hu => Option.some.inj (Option.some.inj (show some (some (.pointer (some ⟨(w.heap.size), 3, none⟩))) = some (some u) from hu))) (by dsimp only; rw [gd_ne (show 112 ≠ 100 by decide), gd_ne (show 112 ≠ 114 by decide)]; exact hW.out)))
        | 19, _ =>
          obtain rfl := Option.some.inj ho
          have l18 : L 18 = true := dep_of hd (n := 18) (by decide)
          have e112 : T.getD 112 undef = .pointer (some ⟨(w.heap.size), 3, none⟩) := hF.out.val 18 112 _ l18 rfl rfl
          have l13 : L 13 = true := dep_of hd (n := 13) (by decide)
          have e107 : T.getD 107 undef = .bool true := hF.out.val 13 107 _ l13 rfl rfl
          have hcc := cell_of_row W w.heap.size 3 _ _ _ (hW.out.1 _ _ _ _ hr9.out (by decide) (by decide) (by decide))
          clear hd ho hi hc hLi
          exact st_val (v := .int .i64 i3) (w' := W) (by rw [want_some (j := 13) (s := 107) rfl rfl e107]; rfl) (by unfold execOp; dsimp only [Act.eval]; simp only [e112]; go_simp) (hK.out _ _ (hF.out.put (k := 19) (s := 113) rfl (by decide) hN (by decide) (fun u hu => Option.some.inj (Option.some.inj (show some (some (.int .i64 i3)) = some (some u) from hu))) (by dsimp only; rw [gd_ne (show 113 ≠ 100 by decide), gd_ne (show 113 ≠ 114 by decide)]; exact hW.out)))
        | 20, _ =>
          obtain rfl := Option.some.inj ho
          have l15 : L 15 = true := dep_of hd (n := 15) (by decide)
          have e109 : T.getD 109 undef = .pointer (some ⟨g, 0, none⟩) := hF.out.val 15 109 _ l15 rfl rfl
          have l17 : L 17 = true := dep_of hd (n := 17) (by decide)
          have e111 : T.getD 111 undef = .int .i64 i2 := hF.out.val 17 111 _ l17 rfl rfl
          have l19 : L 19 = true := dep_of hd (n := 19) (by decide)
          have e113 : T.getD 113 undef = .int .i64 i3 := hF.out.val 19 113 _ l19 rfl rfl
          have l13 : L 13 = true := dep_of hd (n := 13) (by decide)
          have e107 : T.getD 107 undef = .bool true := hF.out.val 13 107 _ l13 rfl rfl
          have l10 : L 10 = true := hc 13 10 l13 (by decide)
          have l7 : L 7 = true := hc 10 7 l10 (by decide)
          have l6 : L 6 = true := hc 7 6 l7 (by decide)
          have n21 : ¬ L 21 = true := fun h => by have := hc 21 20 h (by decide); rw [hLi] at this; cases this
          obtain ⟨L2, s2, hl2⟩ := hW.out.2.2.2.2.1 l6 hLi
          have cc := s2.fresh (by omega) i2 i3
          rw [hhoh.out] at cc
          replace cc := Lib.hid cc
          clear hd ho hi hc
          refine st_call (by rw [want_some (j := 13) (s := 107) rfl rfl e107]; rfl) (by unfold execOp; go_simp) cc.out ?_
          rintro r w3 ⟨L', x', rfl, a2, a3, a4, a5, a6, -⟩
          exact ⟨_, rfl, hK.out _ _ (hF.out.put (k := 20) (s := 114) rfl (by decide) hN (by decide) (fun u hu => by cases hu) ⟨hW.out.1.trans a5, a2.below, fun h => absurd (l6.symm.trans (show L 6 = false from h)) (by decide), fun _ h => absurd (l7.symm.trans (show L 7 = false from h)) (by decide), fun _ h => absurd h (by simp), fun _ _ => ⟨L', x', gd_eq (by rw [hF.out.size, hN]; decide), a2, a4⟩⟩)⟩
        | 21, _ =>
          obtain rfl := Option.some.inj ho
          have l14 : L 14 = true := dep_of hd (n := 14) (by decide)
          have e108 : T.getD 108 undef = .pointer (some ⟨g, 0, none⟩) := hF.out.val 14 108 _ l14 rfl rfl
          have l20 : L 20 = true := dep_of hd (n := 20) (by decide)
          have l13 : L 13 = true := dep_of hd (n := 13) (by decide)
          have e107 : T.getD 107 undef = .bool true := hF.out.val 13 107 _ l13 rfl rfl
          have l10 : L 10 = true := hc 13 10 l13 (by decide)
          have l7 : L 7 = true := hc 10 7 l10 (by decide)
          have l6 : L 6 = true := hc 7 6 l7 (by decide)
          obtain ⟨L2, x2, e114, s2, m2⟩ := hW.out.2.2.2.2.2 l20 hLi
          have cc := s2.encode x2
          rw [m2.1] at cc
          unfold TxR at cc
          rw [hyfh.out] at cc
          replace cc := Lib.hid cc
          clear hd ho hi hc
          refine st_call (by rw [want_some (j := 13) (s := 107) rfl rfl e107]; rfl) (by unfold execOp; go_simp) cc.out ?_
          rintro r w3 ⟨rfl, hb4⟩
          exact ⟨_, rfl, hK.out _ _ (hF.out.put (k := 21) (s := 115) rfl (by decide) hN (by decide) (fun u hu => Option.some.inj (Option.some.inj (show some (some (.string yf)) = some (some u) from hu))) ⟨hW.out.1.trans (Stay.of_below hb4), (hW.out.2.1.trans (Below.mono hb4 hW.out.2.1.size)), fun h => absurd (l6.symm.trans (show L 6 = false from h)) (by decide), fun _ h => absurd (l7.symm.trans (show L 7 = false from h)) (by decide), fun _ h => absurd (l20.symm.trans (show L 20 = false from h)) (by decide), fun _ h => absurd h (by simp)⟩)⟩
        | 22, _ =>
          obtain rfl := Option.some.inj ho
          have l13 : L 13 = true := dep_of hd (n := 13) (by decide)
          have e107 : T.getD 107 undef = .bool true := hF.out.val 13 107 _ l13 rfl rfl
          clear hd ho hi hc hLi
          exact st_val (v := .pointer (some ⟨(w.heap.size), 2, none⟩)) (w' := W) (by rw [want_some (j := 13) (s := 107) rfl rfl e107]; rfl) (by unfold execOp; dsimp only [Act.eval]; simp only [f4]; go_simp) (hK.out _ _ (hF.out.put (k := 22) (s := 116) rfl (by decide) hN (by decide) (fun u hu => Option.some.inj (Option.some.inj (show some (some (.pointer (some ⟨(w.heap.size), 2, none⟩))) = some (some u) from hu))) (by dsimp only; rw [gd_ne (show 116 ≠ 100 by decide), gd_ne (show 116 ≠ 114 by decide)]; exact hW.out)))
        | 23, _ =>
          obtain rfl := Option.some.inj ho
          have l22 : L 22 = true := dep_of hd (n := 22) (by decide)
          have e116 : T.getD 116 undef = .pointer (some ⟨(w.heap.size), 2, none⟩) := hF.out.val 22 116 _ l22 rfl rfl
          have l13 : L 13 = true := dep_of hd (n := 13) (by decide)
          have e107 : T.getD 107 undef = .bool true := hF.out.val 13 107 _ l13 rfl rfl
          have hcc := cell_of_row W w.heap.size 2 _ _ _ (hW.out.1 _ _ _ _ hr9.out (by decide) (by decide) (by decide))
          clear hd ho hi hc hLi
          exact st_val (v := .int .i64 i2) (w' := W) (by rw [want_some (j := 13) (s := 107) rfl rfl e107]; rfl) (by unfold execOp; dsimp only [Act.eval]; simp only [e116]; go_simp) (hK.out _ _ (hF.out.put (k := 23) (s := 117) rfl (by decide) hN (by decide) (fun u hu => Option.some.inj (Option.some.inj (show some (some (.int .i64 i2)) = some (some u) from hu))) (by dsimp only; rw [gd_ne (show 117 ≠ 100 by decide), gd_ne (show 117 ≠ 114 by decide)]; exact hW.out)))
        | 24, _ =>
          obtain rfl := Option.some.inj ho
          have l13 : L 13 = true := dep_of hd (n := 13) (by decide)
          have e107 : T.getD 107 undef = .bool true := hF.out.val 13 107 _ l13 rfl rfl
          clear hd ho hi hc hLi
          exact st_val (v := .pointer (some ⟨(w.heap.size), 3, none⟩)) (w' := W) (by rw [want_some (j := 13) (s := 107) rfl rfl e107]; rfl) (by unfold execOp; dsimp only [Act.eval]; simp only [f4]; go_simp) (hK.out _ _ (hF.out.put (k := 24) (s := 118) rfl (by decide) hN (by decide) (fun u hu => Option.some.inj (Option.some.inj (show some (some (.pointer (some ⟨(w.heap.size), 3, none⟩))) = some (some u) from hu))) (by dsimp only; rw [gd_ne (show 118 ≠ 100 by decide), gd_ne (show 118 ≠ 114 by decide)]; exact hW.out)))
        | 25, _ =>
          obtain rfl := Option.some.inj ho
          have l24 : L 24 = true := dep_of hd (n := 24) (by decide)
          have e118 : T.getD 118 undef = .pointer (some ⟨(w.heap.size), 3, none⟩) := hF.out.val 24 118 _ l24 rfl rfl
          have l13 : L 13 = true := dep_of hd (n := 13) (by decide)
          have e107 : T.getD 107 undef = .bool true := hF.out.val 13 107 _ l13 rfl rfl
          have hcc := cell_of_row W w.heap.size 3 _ _ _ (hW.out.1 _ _ _ _ hr9.out (by decide) (by decide) (by decide))
          clear hd ho hi hc hLi
          exact st_val (v := .int .i64 i3) (w' := W) (by rw [want_some (j := 13) (s := 107) rfl rfl e107]; rfl) (by unfold execOp; dsimp only [Act.eval]; simp only [e118]; go_simp) (hK.out _ _ (hF.out.put (k := 25) (s := 119) rfl (by decide) hN (by decide) (fun u hu => Option.some.inj (Option.some.inj (show some (some (.int .i64 i3)) = some (some u) from hu))) (by dsimp only; rw [gd_ne (show 119 ≠ 100 by decide), gd_ne (show 119 ≠ 114 by decide)]; exact hW.out)))
        | 26, _ =>
          obtain rfl := Option.some.inj ho
          have l23 : L 23 = true := dep_of hd (n := 23) (by decide)
          have e117 : T.getD 117 undef = .int .i64 i2 := hF.out.val 23 117 _ l23 rfl rfl
          have l25 : L 25 = true := dep_of hd (n := 25) (by decide)
          have e119 : T.getD 119 undef = .int .i64 i3 := hF.out.val 25 119 _ l25 rfl rfl
          have l13 : L 13 = true := dep_of hd (n := 13) (by decide)
          have e107 : T.getD 107 undef = .bool true := hF.out.val 13 107 _ l13 rfl rfl
          have l21 : L 21 = true := dep_of hd (n := 21) (by decide)
          have e115 : T.getD 115 undef = .string yf := hF.out.val 21 115 _ l21 rfl rfl
          have l20 : L 20 = true := hc 21 20 l21 (by decide)
          have l10 : L 10 = true := hc 13 10 l13 (by decide)
          have l7 : L 7 = true := hc 10 7 l10 (by decide)
          have l6 : L 6 = true := hc 7 6 l7 (by decide)
          have cc := Lib.hid (cRF.out W)
          clear hd ho hi hc
          refine st_call (by rw [want_some (j := 13) (s := 107) rfl rfl e107]; rfl) (by unfold execOp; go_simp) cc.out ?_
          rintro r w3 ⟨rfl, hb4⟩
          exact ⟨_, rfl, hK.out _ _ (hF.out.put (k := 26) (s := 120) rfl (by decide) hN (by decide) (fun u hu => Option.some.inj (Option.some.inj (show some (some (.string yf)) = some (some u) from hu))) ⟨hW.out.1.trans (Stay.of_below hb4), (hW.out.2.1.trans (Below.mono hb4 hW.out.2.1.size)), fun h => absurd (l6.symm.trans (show L 6 = false from h)) (by decide), fun _ h => absurd (l7.symm.trans (show L 7 = false from h)) (by decide), fun _ h => absurd (l20.symm.trans (show L 20 = false from h)) (by decide), fun _ h => absurd (l21.symm.trans (show L 21 = false from h)) (by decide)⟩)⟩
        | 27, _ =>
          obtain rfl := Option.some.inj ho
          have l21 : L 21 = true := dep_of hd (n := 21) (by decide)
          have e115 : T.getD 115 undef = .string yf := hF.out.val 21 115 _ l21 rfl rfl
          have l26 : L 26 = true := dep_of hd (n := 26) (by decide)
          have e120 : T.getD 120 undef = .string yf := hF.out.val 26 120 _ l26 rfl rfl
          have l13 : L 13 = true := dep_of hd (n := 13) (by decide)
          have e107 : T.getD 107 undef = .bool true := hF.out.val 13 107 _ l13 rfl rfl
          clear hd ho hi hc hLi
          exact st_val (v := .bool true) (w' := W) (by rw [want_some (j := 13) (s := 107) rfl rfl e107]; rfl) (by unfold execOp; dsimp only [Act.eval]; simp only [e115, e120]; go_simp) (hK.out _ _ (hF.out.put (k := 27) (s := 121) rfl (by decide) hN (by decide) (fun u hu => Option.some.inj (Option.some.inj (show some (some (.bool true)) = some (some u) from hu))) (by dsimp only; rw [gd_ne (show 121 ≠ 100 by decide), gd_ne (show 121 ≠ 114 by decide)]; exact hW.out)))
        | 28, _ =>
          obtain rfl := Option.some.inj ho
          have l13 : L 13 = true := dep_of hd (n := 13) (by decide)
          have e107 : T.getD 107 undef = .bool true := hF.out.val 13 107 _ l13 rfl rfl
          have l27 : L 27 = true := dep_of hd (n := 27) (by decide)
          have e121 : T.getD 121 undef = .bool true := hF.out.val 27 121 _ l27 rfl rfl
          clear hd ho hi hc hLi
          exact st_val (v := .bool true) (w' := W) (want_none rfl) (by unfold execOp; dsimp only [Act.eval]; simp only [e107, e121]; go_simp) (hK.out _ _ (hF.out.put (k := 28) (s := 122) rfl (by decide) hN (by decide) (fun u hu => Option.some.inj (Option.some.inj (show some (some (.bool true)) = some (some u) from hu))) (by dsimp only; rw [gd_ne (show 122 ≠ 100 by decide), gd_ne (show 122 ≠ 114 by decide)]; exact hW.out)))
        | 29, _ =>
          obtain rfl := Option.some.inj ho
          have l28 : L 28 = true := dep_of hd (n := 28) (by decide)
          have e122 : T.getD 122 undef = .bool true := hF.out.val 28 122 _ l28 rfl rfl
          clear hd ho hi hc hLi
          exact st_val (v := .bool true) (w' := W) (want_none rfl) (by unfold execOp; dsimp only [Act.eval]; simp only [e122]; go_simp) (hK.out _ _ (hF.out.put (k := 29) (s := 6) rfl (by decide) hN (by decide) (fun u hu => Option.some.inj (Option.some.inj (show some (some (.bool true)) = some (some u) from hu))) (by dsimp only; rw [gd_ne (show 6 ≠ 100 by decide), gd_ne (show 6 ≠ 114 by decide)]; exact hW.out)))
      case hdone =>
        intro L T W2 hF hW hall
        obtain ⟨x100, h100⟩ : ∃ x, T.getD 100 undef = x := ⟨_, rfl⟩
        obtain ⟨x114, h114⟩ : ∃ x, T.getD 114 undef = x := ⟨_, rfl⟩
        have hB := Lib.hid (hp.out.trans (hW.2.1.mono hp.out.size))
        have hT : T = #[.slice A n c, .agg #[.int .i64 i0, .int .i64 i1, .int .i64 i2, .int .i64 i3], .string yG, undef, .pointer (some ⟨(w.heap.size), 0, none⟩), undef, .bool true, .pointer (some ⟨g, 0, none⟩), .pointer (some ⟨q, 0, none⟩), .int .i64 z0, .string y0, .int .i64 z1, .string y1, .int .i64 z7, .int .i64 5, .string ys, .int .i64 0, .slice A n c, .bool true, .bool false, .bool false, .string yG, .int .i64 yG.size, .bool false, .bool false, undef, .pointer (some ⟨g, 0, none⟩), .pointer (some ⟨g, 0, none⟩), .slice A n c, .agg #[.slice AI n cI, .slice AT n cT], .tuple #[.int .i64 z0, .string y0], .agg #[.slice AI n cI, .slice AT n cT], .pointer (some ⟨(w.heap.size), 0, none⟩), .int .i64 i0, .tuple #[.int .i64 z0, .string y0], .int .i64 z0, .string y0, .tuple #[.int .i64 z1, .string y1], .agg #[.slice AI n cI, .slice AT n cT], .pointer (some ⟨(w.heap.size), 1, none⟩), .int .i64 i1, .tuple #[.int .i64 z1, .string y1], .int .i64 z1, .string y1, .tuple #[.int .i64 z7, .int .i64 5], .pointer (some ⟨g, 0, none⟩), .string yG, .int .i64 z0, .int .i64 z1, .tuple #[.int .i64 z7, .int .i64 5], .int .i64 z7, .int .i64 5, .string yG, .string y0, .string y1, .string ys, .pointer (some ⟨g, 0, none⟩), .int .i64 z7, .string ys, .string ys, .bool false, .bool false, .int .i64 5, .bool false, .string ys, .bool false, .bool false, .bool false, .bool false, .string ys, .bool true, .bool true, .int .i64 5, .bool false, .bool false, .bool false, .pointer (some ⟨g, 0, none⟩), .string yG, .int .i64 z0, .int .i64 0, .int .i64 0, .bool true, .string yG, .string y0, .bool true, .bool false, .bool false, .int .i64 0, .bool false, .bool false, undef, undef, .bool false, .bool false, .bool true, .bool true, .pointer (some ⟨g, 0, none⟩), .pointer (some ⟨g, 0, none⟩), .string yG, .int .i64 z1, x100, .string yo, .string yG, .string y1, .string yo, .bool true, .bool true, .bool true, .pointer (some ⟨g, 0, none⟩), .pointer (some ⟨g, 0, none⟩), .pointer (some ⟨(w.heap.size), 2, none⟩), .int .i64 i2, .pointer (some ⟨(w.heap.size), 3, none⟩), .int .i64 i3, x114, .string yf, .pointer (some ⟨(w.heap.size), 2, none⟩), .int .i64 i2, .pointer (some ⟨(w.heap.size), 3, none⟩), .int .i64 i3, .string yf, .bool true, .bool true] := (hF.fin [(94, .bool true), (95, .bool true), (96, .pointer (some ⟨g, 0, none⟩)), (97, .pointer (some ⟨g, 0, none⟩)), (98, .string yG), (99, .int .i64 z1), (100, x100), (101, .string yo), (102, .string yG), (103, .string y1), (104, .string yo), (105, .bool true), (106, .bool true), (107, .bool true), (108, .pointer (some ⟨g, 0, none⟩)), (109, .pointer (some ⟨g, 0, none⟩)), (110, .pointer (some ⟨(w.heap.size), 2, none⟩)), (111, .int .i64 i2), (112, .pointer (some ⟨(w.heap.size), 3, none⟩)), (113, .int .i64 i3), (114, x114), (115, .string yf), (116, .pointer (some ⟨(w.heap.size), 2, none⟩)), (117, .int .i64 i2), (118, .pointer (some ⟨(w.heap.size), 3, none⟩)), (119, .int .i64 i3), (120, .string yf), (121, .bool true), (122, .bool true), (6, .bool true)] [94, 95, 96, 97, 98, 99, 100, 101, 102, 103, 104, 105, 106, 107, 108, 109, 110, 111, 112, 113, 114, 115, 116, 117, 118, 119, 120, 121, 122, 6] rfl (List.forall_mem_cons.2 ⟨hF.val 0 _ _ (hall 0 (show 0 < 30 by decide)) rfl rfl, (List.forall_mem_cons.2 ⟨hF.val 1 _ _ (hall 1 (show 1 < 30 by decide)) rfl rfl, (List.forall_mem_cons.2 ⟨hF.val 2 _ _ (hall 2 (show 2 < 30 by decide)) rfl rfl, (List.forall_mem_cons.2 ⟨hF.val 3 _ _ (hall 3 (show 3 < 30 by decide)) rfl rfl, (List.forall_mem_cons.2 ⟨hF.val 4 _ _ (hall 4 (show 4 < 30 by decide)) rfl rfl, (List.forall_mem_cons.2 ⟨hF.val 5 _ _ (hall 5 (show 5 < 30 by decide)) rfl rfl, (List.forall_mem_cons.2 ⟨h100, (List.forall_mem_cons.2 ⟨hF.val 7 _ _ (hall 7 (show 7 < 30 by decide)) rfl rfl, (List.forall_mem_cons.2 ⟨hF.val 8 _ _ (hall 8 (show 8 < 30 by decide)) rfl rfl, (List.forall_mem_cons.2 ⟨hF.val 9 _ _ (hall 9 (show 9 < 30 by decide)) rfl rfl, (List.forall_mem_cons.2 ⟨hF.val 10 _ _ (hall 10 (show 10 < 30 by decide)) rfl rfl, (List.forall_mem_cons.2 ⟨hF.val 11 _ _ (hall 11 (show 11 < 30 by decide)) rfl rfl, (List.forall_mem_cons.2 ⟨hF.val 12 _ _ (hall 12 (show 12 < 30 by decide)) rfl rfl, (List.forall_mem_cons.2 ⟨hF.val 13 _ _ (hall 13 (show 13 < 30 by decide)) rfl rfl, (List.forall_mem_cons.2 ⟨hF.val 14 _ _ (hall 14 (show 14 < 30 by decide)) rfl rfl, (List.forall_mem_cons.2 ⟨hF.val 15 _ _ (hall 15 (show 15 < 30 by decide)) rfl rfl, (List.forall_mem_cons.2 ⟨hF.val 16 _ _ (hall 16 (show 16 < 30 by decide)) rfl rfl, (List.forall_mem_cons.2 ⟨hF.val 17 _ _ (hall 17 (show 17 < 30 by decide)) rfl rfl, (List.forall_mem_cons.2 ⟨hF.val 18 _ _ (hall 18 (show 18 < 30 by decide)) rfl rfl, (List.forall_mem_cons.2 ⟨hF.val 19 _ _ (hall 19 (show 19 < 30 by decide)) rfl rfl, (List.forall_mem_cons.2 ⟨h114, (List.forall_mem_cons.2 ⟨hF.val 21 _ _ (hall 21 (show 21 < 30 by decide)) rfl rfl, (List.forall_mem_cons.2 ⟨hF.val 22 _ _ (hall 22 (show 22 < 30 by decide)) rfl rfl, (List.forall_mem_cons.2 ⟨hF.val 23 _ _ (hall 23 (show 23 < 30 by decide)) rfl rfl, (List.forall_mem_cons.2 ⟨hF.val 24 _ _ (hall 24 (show 24 < 30 by decide)) rfl rfl, (List.forall_mem_cons.2 ⟨hF.val 25 _ _ (hall 25 (show 25 < 30 by decide)) rfl rfl, (List.forall_mem_cons.2 ⟨hF.val 26 _ _ (hall 26 (show 26 < 30 by decide)) rfl rfl, (List.forall_mem_cons.2 ⟨hF.val 27 _ _ (hall 27 (show 27 < 30 by decide)) rfl rfl, (List.forall_mem_cons.2 ⟨hF.val 28 _ _ (hall 28 (show 28 < 30 by decide)) rfl rfl, (List.forall_mem_cons.2 ⟨hF.val 29 _ _ (hall 29 (show 29 < 30 by decide)) rfl rfl, (fun _ h => absurd h List.not_mem_nil)⟩)⟩)⟩)⟩)⟩)⟩)⟩)⟩)⟩)⟩)⟩)⟩)⟩)⟩)⟩)⟩)⟩)⟩)⟩)⟩)⟩)⟩)⟩)⟩)⟩)⟩)⟩)⟩)⟩)⟩) (by decide)).trans (by kernel_rfl)
        clear hF hall
        subst hT
        clear hW h100 h114
        go_wp2_with fail
        go_ret
        exact ⟨rfl, hB.out⟩
    · go_upto_region 14 with (first
        | (go_at_call 12; refine cE8.out.mono ?_; rintro r w10 ⟨rfl, hb10⟩
           have hb10h := Lib.hid hb10
           have ck := Lib.hid (hck.out w10 hb10)
           clear hb10)
        | (go_at_call 20; refine ck.out.mono ?_; rintro r w11 ⟨rfl, hb11⟩
           have hb11h := Lib.hid (hb10h.out.trans (hb11.mono hb10h.out.size))
           clear hb11)
        | (go_at_call 21; refine (cRR.out _).mono ?_; rintro r w9 ⟨rfl, hb12⟩
           have hb12h := Lib.hid (hb11h.out.trans (hb12.mono hb11h.out.size))
           clear hb12))
      have hS9 := Lib.hid (hS8.out.keep hb12h.out)
      have hr9 := Lib.hid ((hb12h.out.block w.heap.size (Array.getElem?_eq_some_iff.1 hr8.out).1).trans hr8.out)
      generalize hyo : bs (encO fo) = yo at *
      generalize hyf : bs (encO ho) = yf at *
      have hyoh := Lib.hid hyo
      have hyfh := Lib.hid hyf
      clear hyo hyf cE8 hck hS8
      refine region_iw tbSrb dsSrb (vsSrb g (w.heap.size) i2 i3 z1 y1 yG yo yf) (fun L T W => Stay w9 W ∧ Below W1.heap.size W1 W ∧ (L 6 = false → Below w9.heap.size w9 W) ∧ (L 6 = true → L 7 = false → ∃ (L2 : List Tm) (x2 : Int), T.getD 100 undef = .int .i64 x2 ∧ St W1 g W L2 ∧ L2.length ≤ 23 ∧ Nm L2 x2 fo) ∧ (L 6 = true → L 20 = false → ∃ (L2 : List Tm), St W1 g W L2 ∧ L2.length ≤ 23) ∧ (L 20 = true → L 21 = false → ∃ (L2 : List Tm) (x2 : Int), T.getD 114 undef = .int .i64 x2 ∧ St W1 g W L2 ∧ Nm L2 x2 ho)) rfl (by decide) (by kernel_rfl) ?hlt ?hstep ?hdone ?hstart
      case hstart => exact ⟨Stay.of_below (drewN_below 1), hS9.out.below.trans (Below.mono (drewN_below 1) hS9.out.below.size), fun _ => drewN_below 1, fun h => absurd h (inv_not (n := 30) (i := 6) (by decide)), fun h => absurd h (inv_not (n := 30) (i := 6) (by decide)), fun h => absurd h (inv_not (n := 30) (i := 20) (by decide))⟩
      case hlt =>
        intro ix o ho
        have hi := (Array.getElem?_eq_some_iff.1 ho).1
        match ix, hi with
        | 0, _ => obtain rfl := Option.some.inj ho; decide
        | 1, _ => obtain rfl := Option.some.inj ho; decide
        | 2, _ => obtain rfl := Option.some.inj ho; decide
        | 3, _ => obtain rfl := Option.some.inj ho; decide
        | 4, _ => obtain rfl := Option.some.inj ho; decide
        | 5, _ => obtain rfl := Option.some.inj ho; decide
        | 6, _ => obtain rfl := Option.some.inj ho; decide
        | 7, _ => obtain rfl := Option.some.inj ho; decide
        | 8, _ => obtain rfl := Option.some.inj ho; decide
        | 9, _ => obtain rfl := Option.some.inj ho; decide
        | 10, _ => obtain rfl := Option.some.inj ho; decide
        | 11, _ => obtain rfl := Option.some.inj ho; decide
        | 12, _ => obtain rfl := Option.some.inj ho; decide
        | 13, _ => obtain rfl := Option.some.inj ho; decide
        | 14, _ => obtain rfl := Option.some.inj ho; decide
        | 15, _ => obtain rfl := Option.some.inj ho; decide
        | 16, _ => obtain rfl := Option.some.inj ho; decide
        | 17, _ => obtain rfl := Option.some.inj ho; decide
        | 18, _ => obtain rfl := Option.some.inj ho; decide
        | 19, _ => obtain rfl := Option.some.inj ho; decide
        | 20, _ => obtain rfl := Option.some.inj ho; decide
        | 21, _ => obtain rfl := Option.some.inj ho; decide
        | 22, _ => obtain rfl := Option.some.inj ho; decide
        | 23, _ => obtain rfl := Option.some.inj ho; decide
        | 24, _ => obtain rfl := Option.some.inj ho; decide
        | 25, _ => obtain rfl := Option.some.inj ho; decide
        | 26, _ => obtain rfl := Option.some.inj ho; decide
        | 27, _ => obtain rfl := Option.some.inj ho; decide
        | 28, _ => obtain rfl := Option.some.inj ho; decide
        | 29, _ => obtain rfl := Option.some.inj ho; decide
      case hstep =>
        intro T1 hE L T W ix o hF hW hc ho hLi hd K hK
        have hN : T1.size = 123 := by rw [hE]; rfl
        have f2 : T.getD 2 undef = .string yG := (hF.old 2 (by decide)).trans (by rw [hE]; rfl)
        have f4 : T.getD 4 undef = .pointer (some ⟨(w.heap.size), 0, none⟩) := (hF.old 4 (by decide)).trans (by rw [hE]; rfl)
        have f7 : T.getD 7 undef = .pointer (some ⟨g, 0, none⟩) := (hF.old 7 (by decide)).trans (by rw [hE]; rfl)
        have f11 : T.getD 11 undef = .int .i64 z1 := (hF.old 11 (by decide)).trans (by rw [hE]; rfl)
        have f12 : T.getD 12 undef = .string y1 := (hF.old 12 (by decide)).trans (by rw [hE]; rfl)
        clear hE
        replace hF := Lib.hid hF
        replace hW := Lib.hid hW
        replace hK := Lib.hid hK
        have hi := (List.getElem?_eq_some_iff.1 ho).1
        match ix, hi with
        | 0, _ =>
          obtain rfl := Option.some.inj ho
          have n6 : ¬ L 6 = true := fun h => by have := hc 1 0 (hc 6 1 h (by decide)) (by decide); rw [hLi] at this; cases this
          have n7 : ¬ L 7 = true := fun h => n6 (hc 7 6 h (by decide))
          have n10 : ¬ L 10 = true := fun h => n7 (hc 10 7 h (by decide))
          have n20 : ¬ L 20 = true := fun h => n10 (hc 13 10 (hc 20 13 h (by decide)) (by decide))
          have cc := Lib.hid (cA.out W)
          clear hd ho hi hc
          refine st_call (want_none rfl) (by unfold execOp; go_simp) cc.out ?_
          rintro r w3 ⟨rfl, hb4⟩
          exact ⟨_, rfl, hK.out _ _ (hF.out.put (k := 0) (s := 94) rfl (by decide) hN (by decide) (fun u hu => Option.some.inj (Option.some.inj (show some (some (.bool true)) = some (some u) from hu))) ⟨hW.out.1.trans (Stay.of_below hb4), (hW.out.2.1.trans (Below.mono hb4 hW.out.2.1.size)), fun _ => (hW.out.2.2.1 (by simpa using n6)).trans (Below.mono hb4 (hW.out.2.2.1 (by simpa using n6)).size), fun h => absurd h n6, fun h => absurd h n6, fun h => absurd h n20⟩)⟩
        | 1, _ =>
          obtain rfl := Option.some.inj ho
          have l0 : L 0 = true := dep_of hd (n := 0) (by decide)
          have e94 : T.getD 94 undef = .bool true := hF.out.val 0 94 _ l0 rfl rfl
          clear hd ho hi hc hLi
          exact st_val (v := .bool true) (w' := W) (want_none rfl) (by unfold execOp; dsimp only [Act.eval]; simp only [e94]; go_simp) (hK.out _ _ (hF.out.put (k := 1) (s := 95) rfl (by decide) hN (by decide) (fun u hu => Option.some.inj (Option.some.inj (show some (some (.bool true)) = some (some u) from hu))) (by dsimp only; rw [gd_ne (show 95 ≠ 100 by decide), gd_ne (show 95 ≠ 114 by decide)]; exact hW.out)))
        | 2, _ =>
          obtain rfl := Option.some.inj ho
          have l1 : L 1 = true := dep_of hd (n := 1) (by decide)
          have e95 : T.getD 95 undef = .bool true := hF.out.val 1 95 _ l1 rfl rfl
          clear hd ho hi hc hLi
          exact st_val (v := .pointer (some ⟨g, 0, none⟩)) (w' := W) (by rw [want_some (j := 1) (s := 95) rfl rfl e95]; rfl) (by unfold execOp; dsimp only [Act.eval]; simp only [f7]; go_simp) (hK.out _ _ (hF.out.put (k := 2) (s := 96) rfl (by decide) hN (by decide) (fun u hu => Option.some.inj (Option.some.inj (show some (some (.pointer (some ⟨g, 0, none⟩))) = some (some u) from hu))) (by dsimp only; rw [gd_ne (show 96 ≠ 100 by decide), gd_ne (show 96 ≠ 114 by decide)]; exact hW.out)))
        | 3, _ =>
          obtain rfl := Option.some.inj ho
          have l1 : L 1 = true := dep_of hd (n := 1) (by decide)
          have e95 : T.getD 95 undef = .bool true := hF.out.val 1 95 _ l1 rfl rfl
          clear hd ho hi hc hLi
          exact st_val (v := .pointer (some ⟨g, 0, none⟩)) (w' := W) (by rw [want_some (j := 1) (s := 95) rfl rfl e95]; rfl) (by unfold execOp; dsimp only [Act.eval]; simp only [f7]; go_simp) (hK.out _ _ (hF.out.put (k := 3) (s := 97) rfl (by decide) hN (by decide) (fun u hu => Option.some.inj (Option.some.inj (show some (some (.pointer (some ⟨g, 0, none⟩))) = some (some u) from hu))) (by dsimp only; rw [gd_ne (show 97 ≠ 100 by decide), gd_ne (show 97 ≠ 114 by decide)]; exact hW.out)))
        | 4, _ =>
          obtain rfl := Option.some.inj ho
          have l1 : L 1 = true := dep_of hd (n := 1) (by decide)
          have e95 : T.getD 95 undef = .bool true := hF.out.val 1 95 _ l1 rfl rfl
          clear hd ho hi hc hLi
          exact st_val (v := .string yG) (w' := W) (by rw [want_some (j := 1) (s := 95) rfl rfl e95]; rfl) (by unfold execOp; dsimp only [Act.eval]; simp only [f2]; go_simp) (hK.out _ _ (hF.out.put (k := 4) (s := 98) rfl (by decide) hN (by decide) (fun u hu => Option.some.inj (Option.some.inj (show some (some (.string yG)) = some (some u) from hu))) (by dsimp only; rw [gd_ne (show 98 ≠ 100 by decide), gd_ne (show 98 ≠ 114 by decide)]; exact hW.out)))
        | 5, _ =>
          obtain rfl := Option.some.inj ho
          have l1 : L 1 = true := dep_of hd (n := 1) (by decide)
          have e95 : T.getD 95 undef = .bool true := hF.out.val 1 95 _ l1 rfl rfl
          clear hd ho hi hc hLi
          exact st_val (v := .int .i64 z1) (w' := W) (by rw [want_some (j := 1) (s := 95) rfl rfl e95]; rfl) (by unfold execOp; dsimp only [Act.eval]; simp only [f11]; go_simp) (hK.out _ _ (hF.out.put (k := 5) (s := 99) rfl (by decide) hN (by decide) (fun u hu => Option.some.inj (Option.some.inj (show some (some (.int .i64 z1)) = some (some u) from hu))) (by dsimp only; rw [gd_ne (show 99 ≠ 100 by decide), gd_ne (show 99 ≠ 114 by decide)]; exact hW.out)))
        | 6, _ =>
          obtain rfl := Option.some.inj ho
          have l3 : L 3 = true := dep_of hd (n := 3) (by decide)
          have e97 : T.getD 97 undef = .pointer (some ⟨g, 0, none⟩) := hF.out.val 3 97 _ l3 rfl rfl
          have l4 : L 4 = true := dep_of hd (n := 4) (by decide)
          have e98 : T.getD 98 undef = .string yG := hF.out.val 4 98 _ l4 rfl rfl
          have l5 : L 5 = true := dep_of hd (n := 5) (by decide)
          have e99 : T.getD 99 undef = .int .i64 z1 := hF.out.val 5 99 _ l5 rfl rfl
          have l1 : L 1 = true := dep_of hd (n := 1) (by decide)
          have e95 : T.getD 95 undef = .bool true := hF.out.val 1 95 _ l1 rfl rfl
          have n7 : ¬ L 7 = true := fun h => by have := hc 7 6 h (by decide); rw [hLi] at this; cases this
          have n10 : ¬ L 10 = true := fun h => n7 (hc 10 7 h (by decide))
          have n20 : ¬ L 20 = true := fun h => n10 (hc 13 10 (hc 20 13 h (by decide)) (by decide))
          have hb := hW.out.2.2.1 hLi
          have cc := Lib.hid ((hS9.out.keep hb).offer (by have := hL8.out; omega) G (by have := hGl.out; omega) z1 o1 nk1'.out)
          rw [hfoh.out, hyGh.out] at cc
          clear hd ho hi hc
          refine st_call (by rw [want_some (j := 1) (s := 95) rfl rfl e95]; rfl) (by unfold execOp; go_simp) cc.out ?_
          rintro r w3 ⟨L', x', rfl, a2, a3, a4, a5, a6⟩
          exact ⟨_, rfl, hK.out _ _ (hF.out.put (k := 6) (s := 100) rfl (by decide) hN (by decide) (fun u hu => by cases hu) ⟨hW.out.1.trans a5, a2.below, fun h => absurd h (by simp), fun _ _ => ⟨L', x', gd_eq (by rw [hF.out.size, hN]; decide), a2, (by have := a3.len; have := hL8.out; omega), a4⟩, fun _ _ => ⟨L', a2, (by have := a3.len; have := hL8.out; omega)⟩, fun h => absurd h n20⟩)⟩
        | 7, _ =>
          obtain rfl := Option.some.inj ho
          have l2 : L 2 = true := dep_of hd (n := 2) (by decide)
          have e96 : T.getD 96 undef = .pointer (some ⟨g, 0, none⟩) := hF.out.val 2 96 _ l2 rfl rfl
          have l6 : L 6 = true := dep_of hd (n := 6) (by decide)
          have l1 : L 1 = true := dep_of hd (n := 1) (by decide)
          have e95 : T.getD 95 undef = .bool true := hF.out.val 1 95 _ l1 rfl rfl
          have n10 : ¬ L 10 = true := fun h => by have := hc 10 7 h (by decide); rw [hLi] at this; cases this
          have n20 : ¬ L 20 = true := fun h => n10 (hc 13 10 (hc 20 13 h (by decide)) (by decide))
          obtain ⟨L2, x2, e100, s2, hl2, m2⟩ := hW.out.2.2.2.1 l6 hLi
          have cc := s2.encode x2
          rw [m2.1] at cc
          unfold TxR at cc
          rw [hyoh.out] at cc
          replace cc := Lib.hid cc
          replace s2 := Lib.hid s2
          clear hd ho hi hc
          refine st_call (by rw [want_some (j := 1) (s := 95) rfl rfl e95]; rfl) (by unfold execOp; go_simp) cc.out ?_
          rintro r w3 ⟨rfl, hb4⟩
          exact ⟨_, rfl, hK.out _ _ (hF.out.put (k := 7) (s := 101) rfl (by decide) hN (by decide) (fun u hu => Option.some.inj (Option.some.inj (show some (some (.string yo)) = some (some u) from hu))) ⟨hW.out.1.trans (Stay.of_below hb4), (hW.out.2.1.trans (Below.mono hb4 hW.out.2.1.size)), fun h => absurd (l6.symm.trans (show L 6 = false from h)) (by decide), fun _ h => absurd h (by simp), fun _ _ => ⟨L2, s2.out.keep hb4, hl2⟩, fun h => absurd h n20⟩)⟩
        | 8, _ =>
          obtain rfl := Option.some.inj ho
          have l1 : L 1 = true := dep_of hd (n := 1) (by decide)
          have e95 : T.getD 95 undef = .bool true := hF.out.val 1 95 _ l1 rfl rfl
          clear hd ho hi hc hLi
          exact st_val (v := .string yG) (w' := W) (by rw [want_some (j := 1) (s := 95) rfl rfl e95]; rfl) (by unfold execOp; dsimp only [Act.eval]; simp only [f2]; go_simp) (hK.out _ _ (hF.out.put (k := 8) (s := 102) rfl (by decide) hN (by decide) (fun u hu => Option.some.inj (Option.some.inj (show some (some (.string yG)) = some (some u) from hu))) (by dsimp only; rw [gd_ne (show 102 ≠ 100 by decide), gd_ne (show 102 ≠ 114 by decide)]; exact hW.out)))
        | 9, _ =>
          obtain rfl := Option.some.inj ho
          have l1 : L 1 = true := dep_of hd (n := 1) (by decide)
          have e95 : T.getD 95 undef = .bool true := hF.out.val 1 95 _ l1 rfl rfl
          clear hd ho hi hc hLi
          exact st_val (v := .string y1) (w' := W) (by rw [want_some (j := 1) (s := 95) rfl rfl e95]; rfl) (by unfold execOp; dsimp only [Act.eval]; simp only [f12]; go_simp) (hK.out _ _ (hF.out.put (k := 9) (s := 103) rfl (by decide) hN (by decide) (fun u hu => Option.some.inj (Option.some.inj (show some (some (.string y1)) = some (some u) from hu))) (by dsimp only; rw [gd_ne (show 103 ≠ 100 by decide), gd_ne (show 103 ≠ 114 by decide)]; exact hW.out)))
        | 10, _ =>
          obtain rfl := Option.some.inj ho
          have l8 : L 8 = true := dep_of hd (n := 8) (by decide)
          have e102 : T.getD 102 undef = .string yG := hF.out.val 8 102 _ l8 rfl rfl
          have l9 : L 9 = true := dep_of hd (n := 9) (by decide)
          have e103 : T.getD 103 undef = .string y1 := hF.out.val 9 103 _ l9 rfl rfl
          have l1 : L 1 = true := dep_of hd (n := 1) (by decide)
          have e95 : T.getD 95 undef = .bool true := hF.out.val 1 95 _ l1 rfl rfl
          have l7 : L 7 = true := dep_of hd (n := 7) (by decide)
          have e101 : T.getD 101 undef = .string yo := hF.out.val 7 101 _ l7 rfl rfl
          have l6 : L 6 = true := hc 7 6 l7 (by decide)
          have n20 : ¬ L 20 = true := fun h => by have := hc 13 10 (hc 20 13 h (by decide)) (by decide); rw [hLi] at this; cases this
          obtain ⟨L2, s2, hl2⟩ := hW.out.2.2.2.2.1 l6 (by simpa using n20)
          have cc := Lib.hid (cRO.out W)
          replace s2 := Lib.hid s2
          clear hd ho hi hc
          refine st_call (by rw [want_some (j := 1) (s := 95) rfl rfl e95]; rfl) (by unfold execOp; go_simp) cc.out ?_
          rintro r w3 ⟨rfl, hb4⟩
          exact ⟨_, rfl, hK.out _ _ (hF.out.put (k := 10) (s := 104) rfl (by decide) hN (by decide) (fun u hu => Option.some.inj (Option.some.inj (show some (some (.string yo)) = some (some u) from hu))) ⟨hW.out.1.trans (Stay.of_below hb4), (hW.out.2.1.trans (Below.mono hb4 hW.out.2.1.size)), fun h => absurd (l6.symm.trans (show L 6 = false from h)) (by decide), fun _ h => absurd (l7.symm.trans (show L 7 = false from h)) (by decide), fun _ _ => ⟨L2, s2.out.keep hb4, hl2⟩, fun h => absurd h n20⟩)⟩
        | 11, _ =>
          obtain rfl := Option.some.inj ho
          have l7 : L 7 = true := dep_of hd (n := 7) (by decide)
          have e101 : T.getD 101 undef = .string yo := hF.out.val 7 101 _ l7 rfl rfl
          have l10 : L 10 = true := dep_of hd (n := 10) (by decide)
          have e104 : T.getD 104 undef = .string yo := hF.out.val 10 104 _ l10 rfl rfl
          have l1 : L 1 = true := dep_of hd (n := 1) (by decide)
          have e95 : T.getD 95 undef = .bool true := hF.out.val 1 95 _ l1 rfl rfl
          clear hd ho hi hc hLi
          exact st_val (v := .bool true) (w' := W) (by rw [want_some (j := 1) (s := 95) rfl rfl e95]; rfl) (by unfold execOp; dsimp only [Act.eval]; simp only [e101, e104]; go_simp) (hK.out _ _ (hF.out.put (k := 11) (s := 105) rfl (by decide) hN (by decide) (fun u hu => Option.some.inj (Option.some.inj (show some (some (.bool true)) = some (some u) from hu))) (by dsimp only; rw [gd_ne (show 105 ≠ 100 by decide), gd_ne (show 105 ≠ 114 by decide)]; exact hW.out)))
        | 12, _ =>
          obtain rfl := Option.some.inj ho
          have l1 : L 1 = true := dep_of hd (n := 1) (by decide)
          have e95 : T.getD 95 undef = .bool true := hF.out.val 1 95 _ l1 rfl rfl
          have l11 : L 11 = true := dep_of hd (n := 11) (by decide)
          have e105 : T.getD 105 undef = .bool true := hF.out.val 11 105 _ l11 rfl rfl
          clear hd ho hi hc hLi
          exact st_val (v := .bool true) (w' := W) (want_none rfl) (by unfold execOp; dsimp only [Act.eval]; simp only [e95, e105]; go_simp) (hK.out _ _ (hF.out.put (k := 12) (s := 106) rfl (by decide) hN (by decide) (fun u hu => Option.some.inj (Option.some.inj (show some (some (.bool true)) = some (some u) from hu))) (by dsimp only; rw [gd_ne (show 106 ≠ 100 by decide), gd_ne (show 106 ≠ 114 by decide)]; exact hW.out)))
        | 13, _ =>
          obtain rfl := Option.some.inj ho
          have l12 : L 12 = true := dep_of hd (n := 12) (by decide)
          have e106 : T.getD 106 undef = .bool true := hF.out.val 12 106 _ l12 rfl rfl
          clear hd ho hi hc hLi
          exact st_val (v := .bool true) (w' := W) (want_none rfl) (by unfold execOp; dsimp only [Act.eval]; simp only [e106]; go_simp) (hK.out _ _ (hF.out.put (k := 13) (s := 107) rfl (by decide) hN (by decide) (fun u hu => Option.some.inj (Option.some.inj (show some (some (.bool true)) = some (some u) from hu))) (by dsimp only; rw [gd_ne (show 107 ≠ 100 by decide), gd_ne (show 107 ≠ 114 by decide)]; exact hW.out)))
        | 14, _ =>
          obtain rfl := Option.some.inj ho
          have l13 : L 13 = true := dep_of hd (n := 13) (by decide)
          have e107 : T.getD 107 undef = .bool true := hF.out.val 13 107 _ l13 rfl rfl
          clear hd ho hi hc hLi
          exact st_val (v := .pointer (some ⟨g, 0, none⟩)) (w' := W) (by rw [want_some (j := 13) (s := 107) rfl rfl e107]; rfl) (by unfold execOp; dsimp only [Act.eval]; simp only [f7]; go_simp) (hK.out _ _ (hF.out.put (k := 14) (s := 108) rfl (by decide) hN (by decide) (fun u hu => Option.some.inj (Option.some.inj (show some (some (.pointer (some ⟨g, 0, none⟩))) = some (some u) from hu))) (by dsimp only; rw [gd_ne (show 108 ≠ 100 by decide), gd_ne (show 108 ≠ 114 by decide)]; exact hW.out)))
        | 15, _ =>
          obtain rfl := Option.some.inj ho
          have l13 : L 13 = true := dep_of hd (n := 13) (by decide)
          have e107 : T.getD 107 undef = .bool true := hF.out.val 13 107 _ l13 rfl rfl
          clear hd ho hi hc hLi
          exact st_val (v := .pointer (some ⟨g, 0, none⟩)) (w' := W) (by rw [want_some (j := 13) (s := 107) rfl rfl e107]; rfl) (by unfold execOp; dsimp only [Act.eval]; simp only [f7]; go_simp) (hK.out _ _ (hF.out.put (k := 15) (s := 109) rfl (by decide) hN (by decide) (fun u hu => Option.some.inj (Option.some.inj (show some (some (.pointer (some ⟨g, 0, none⟩))) = some (some u) from hu))) (by dsimp only; rw [gd_ne (show 109 ≠ 100 by decide), gd_ne (show 109 ≠ 114 by decide)]; exact hW.out)))
        | 16, _ =>
          obtain rfl := Option.some.inj ho
          have l13 : L 13 = true := dep_of hd (n := 13) (by decide)
          have e107 : T.getD 107 undef = .bool true := hF.out.val 13 107 _ l13 rfl rfl
          clear hd ho hi hc hLi
          exact st_val (v := .pointer (some ⟨(w.heap.size), 2, none⟩)) (w' := W) (by rw [want_some (j := 13) (s := 107) rfl rfl e107]; rfl) (by unfold execOp; dsimp only [Act.eval]; simp only [f4]; go_simp) (hK.out _ _ (hF.out.put (k := 16) (s := 110) rfl (by decide) hN (by decide) (fun u hu => Option.some.inj (Option.some.inj (show some (some (.pointer (some ⟨(w.heap.size), 2, none⟩))) = some (some u) from hu))) (by dsimp only; rw [gd_ne (show 110 ≠ 100 by decide), gd_ne (show 110 ≠ 114 by decide)]; exact hW.out)))
        | 17, _ =>
          obtain rfl := Option.some.inj ho
          have l16 : L 16 = true := dep_of hd (n := 16) (by decide)
          have e110 : T.getD 110 undef = .pointer (some ⟨(w.heap.size), 2, none⟩) := hF.out.val 16 110 _ l16 rfl rfl
          have l13 : L 13 = true := dep_of hd (n := 13) (by decide)
          have e107 : T.getD 107 undef = .bool true := hF.out.val 13 107 _ l13 rfl rfl
          have hcc := cell_of_row W w.heap.size 2 _ _ _ (hW.out.1 _ _ _ _ hr9.out (by decide) (by decide) (by decide))
          clear hd ho hi hc hLi
          exact st_val (v := .int .i64 i2) (w' := W) (by rw [want_some (j := 13) (s := 107) rfl rfl e107]; rfl) (by unfold execOp; dsimp only [Act.eval]; simp only [e110]; go_simp) (hK.out _ _ (hF.out.put (k := 17) (s := 111) rfl (by decide) hN (by decide) (fun u hu => Option.some.inj (Option.some.inj (show some (some (.int .i64 i2)) = some (some u) from hu))) (by dsimp only; rw [gd_ne (show 111 ≠ 100 by decide), gd_ne (show 111 ≠ 114 by decide)]; exact hW.out)))
        | 18, _ =>
          obtain rfl := Option.some.inj ho
          have l13 : L 13 = true := dep_of hd (n := 13) (by decide)
          have e107 : T.getD 107 undef = .bool true := hF.out.val 13 107 _ l13 rfl rfl
          clear hd ho hi hc hLi
          exact st_val (v := .pointer (some ⟨(w.heap.size), 3, none⟩)) (w' := W) (by rw [want_some (j := 13) (s := 107) rfl rfl e107]; rfl) (by unfold execOp; dsimp only [Act.eval]; simp only [f4]; go_simp) (hK.out _ _ (hF.out.put (k := 18) (s := 112) rfl (by decide) hN (by decide) (fun u hu => Option.some.inj (Option.some.inj (show some (some (.pointer (some ⟨(w.heap.size), 3, none⟩))) = some (some u) from hu))) (by dsimp only; rw [gd_ne (show 112 ≠ 100 by decide), gd_ne (show 112 ≠ 114 by decide)]; exact hW.out)))
        | 19, _ =>
          obtain rfl := Option.some.inj ho
          have l18 : L 18 = true := dep_of hd (n := 18) (by decide)
          have e112 : T.getD 112 undef = .pointer (some ⟨(w.heap.size), 3, none⟩) := hF.out.val 18 112 _ l18 rfl rfl
          have l13 : L 13 = true := dep_of hd (n := 13) (by decide)
          have e107 : T.getD 107 undef = .bool true := hF.out.val 13 107 _ l13 rfl rfl
          have hcc := cell_of_row W w.heap.size 3 _ _ _ (hW.out.1 _ _ _ _ hr9.out (by decide) (by decide) (by decide))
          clear hd ho hi hc hLi
          exact st_val (v := .int .i64 i3) (w' := W) (by rw [want_some (j := 13) (s := 107) rfl rfl e107]; rfl) (by unfold execOp; dsimp only [Act.eval]; simp only [e112]; go_simp) (hK.out _ _ (hF.out.put (k := 19) (s := 113) rfl (by decide) hN (by decide) (fun u hu => Option.some.inj (Option.some.inj (show some (some (.int .i64 i3)) = some (some u) from hu))) (by dsimp only; rw [gd_ne (show 113 ≠ 100 by decide), gd_ne (show 113 ≠ 114 by decide)]; exact hW.out)))
        | 20, _ =>
          obtain rfl := Option.some.inj ho
          have l15 : L 15 = true := dep_of hd (n := 15) (by decide)
          have e109 : T.getD 109 undef = .pointer (some ⟨g, 0, none⟩) := hF.out.val 15 109 _ l15 rfl rfl
          have l17 : L 17 = true := dep_of hd (n := 17) (by decide)
          have e111 : T.getD 111 undef = .int .i64 i2 := hF.out.val 17 111 _ l17 rfl rfl
          have l19 : L 19 = true := dep_of hd (n := 19) (by decide)
          have e113 : T.getD 113 undef = .int .i64 i3 := hF.out.val 19 113 _ l19 rfl rfl
          have l13 : L 13 = true := dep_of hd (n := 13) (by decide)
          have e107 : T.getD 107 undef = .bool true := hF.out.val 13 107 _ l13 rfl rfl
          have l10 : L 10 = true := hc 13 10 l13 (by decide)
          have l7 : L 7 = true := hc 10 7 l10 (by decide)
          have l6 : L 6 = true := hc 7 6 l7 (by decide)
          have n21 : ¬ L 21 = true := fun h => by have := hc 21 20 h (by decide); rw [hLi] at this; cases this
          obtain ⟨L2, s2, hl2⟩ := hW.out.2.2.2.2.1 l6 hLi
          have cc := s2.fresh (by omega) i2 i3
          rw [hhoh.out] at cc
          replace cc := Lib.hid cc
          clear hd ho hi hc
          refine st_call (by rw [want_some (j := 13) (s := 107) rfl rfl e107]; rfl) (by unfold execOp; go_simp) cc.out ?_
          rintro r w3 ⟨L', x', rfl, a2, a3, a4, a5, a6, -⟩
          exact ⟨_, rfl, hK.out _ _ (hF.out.put (k := 20) (s := 114) rfl (by decide) hN (by decide) (fun u hu => by cases hu) ⟨hW.out.1.trans a5, a2.below, fun h => absurd (l6.symm.trans (show L 6 = false from h)) (by decide), fun _ h => absurd (l7.symm.trans (show L 7 = false from h)) (by decide), fun _ h => absurd h (by simp), fun _ _ => ⟨L', x', gd_eq (by rw [hF.out.size, hN]; decide), a2, a4⟩⟩)⟩
        | 21, _ =>
          obtain rfl := Option.some.inj ho
          have l14 : L 14 = true := dep_of hd (n := 14) (by decide)
          have e108 : T.getD 108 undef = .pointer (some ⟨g, 0, none⟩) := hF.out.val 14 108 _ l14 rfl rfl
          have l20 : L 20 = true := dep_of hd (n := 20) (by decide)
          have l13 : L 13 = true := dep_of hd (n := 13) (by decide)
          have e107 : T.getD 107 undef = .bool true := hF.out.val 13 107 _ l13 rfl rfl
          have l10 : L 10 = true := hc 13 10 l13 (by decide)
          have l7 : L 7 = true := hc 10 7 l10 (by decide)
          have l6 : L 6 = true := hc 7 6 l7 (by decide)
          obtain ⟨L2, x2, e114, s2, m2⟩ := hW.out.2.2.2.2.2 l20 hLi
          have cc := s2.encode x2
          rw [m2.1] at cc
          unfold TxR at cc
          rw [hyfh.out] at cc
          replace cc := Lib.hid cc
          clear hd ho hi hc
          refine st_call (by rw [want_some (j := 13) (s := 107) rfl rfl e107]; rfl) (by unfold execOp; go_simp) cc.out ?_
          rintro r w3 ⟨rfl, hb4⟩
          exact ⟨_, rfl, hK.out _ _ (hF.out.put (k := 21) (s := 115) rfl (by decide) hN (by decide) (fun u hu => Option.some.inj (Option.some.inj (show some (some (.string yf)) = some (some u) from hu))) ⟨hW.out.1.trans (Stay.of_below hb4), (hW.out.2.1.trans (Below.mono hb4 hW.out.2.1.size)), fun h => absurd (l6.symm.trans (show L 6 = false from h)) (by decide), fun _ h => absurd (l7.symm.trans (show L 7 = false from h)) (by decide), fun _ h => absurd (l20.symm.trans (show L 20 = false from h)) (by decide), fun _ h => absurd h (by simp)⟩)⟩
        | 22, _ =>
          obtain rfl := Option.some.inj ho
          have l13 : L 13 = true := dep_of hd (n := 13) (by decide)
          have e107 : T.getD 107 undef = .bool true := hF.out.val 13 107 _ l13 rfl rfl
          clear hd ho hi hc hLi
          exact st_val (v := .pointer (some ⟨(w.heap.size), 2, none⟩)) (w' := W) (by rw [want_some (j := 13) (s := 107) rfl rfl e107]; rfl) (by unfold execOp; dsimp only [Act.eval]; simp only [f4]; go_simp) (hK.out _ _ (hF.out.put (k := 22) (s := 116) rfl (by decide) hN (by decide) (fun u hu => Option.some.inj (Option.some.inj (show some (some (.pointer (some ⟨(w.heap.size), 2, none⟩))) = some (some u) from hu))) (by dsimp only; rw [gd_ne (show 116 ≠ 100 by decide), gd_ne (show 116 ≠ 114 by decide)]; exact hW.out)))
        | 23, _ =>
          obtain rfl := Option.some.inj ho
          have l22 : L 22 = true := dep_of hd (n := 22) (by decide)
          have e116 : T.getD 116 undef = .pointer (some ⟨(w.heap.size), 2, none⟩) := hF.out.val 22 116 _ l22 rfl rfl
          have l13 : L 13 = true := dep_of hd (n := 13) (by decide)
          have e107 : T.getD 107 undef = .bool true := hF.out.val 13 107 _ l13 rfl rfl
          have hcc := cell_of_row W w.heap.size 2 _ _ _ (hW.out.1 _ _ _ _ hr9.out (by decide) (by decide) (by decide))
          clear hd ho hi hc hLi
          exact st_val (v := .int .i64 i2) (w' := W) (by rw [want_some (j := 13) (s := 107) rfl rfl e107]; rfl) (by unfold execOp; dsimp only [Act.eval]; simp only [e116]; go_simp) (hK.out _ _ (hF.out.put (k := 23) (s := 117) rfl (by decide) hN (by decide) (fun u hu => Option.some.inj (Option.some.inj (show some (some (.int .i64 i2)) = some (some u) from hu))) (by dsimp only; rw [gd_ne (show 117 ≠ 100 by decide), gd_ne (show 117 ≠ 114 by decide)]; exact hW.out)))
        | 24, _ =>
          obtain rfl := Option.some.inj ho
          have l13 : L 13 = true := dep_of hd (n := 13) (by decide)
          have e107 : T.getD 107 undef = .bool true := hF.out.val 13 107 _ l13 rfl rfl
          clear hd ho hi hc hLi
          exact st_val (v := .pointer (some ⟨(w.heap.size), 3, none⟩)) (w' := W) (by rw [want_some (j := 13) (s := 107) rfl rfl e107]; rfl) (by unfold execOp; dsimp only [Act.eval]; simp only [f4]; go_simp) (hK.out _ _ (hF.out.put (k := 24) (s := 118) rfl (by decide) hN (by decide) (fun u hu => Option.some.inj (Option.some.inj (show some (some (.pointer (some ⟨(w.heap.size), 3, none⟩))) = some (some u) from hu))) (by dsimp only; rw [gd_ne (show 118 ≠ 100 by decide), gd_ne (show 118 ≠ 114 by decide)]; exact hW.out)))
        | 25, _ =>
          obtain rfl := Option.some.inj ho
          have l24 : L 24 = true := dep_of hd (n := 24) (by decide)
          have e118 : T.getD 118 undef = .pointer (some ⟨(w.heap.size), 3, none⟩) := hF.out.val 24 118 _ l24 rfl rfl
          have l13 : L 13 = true := dep_of hd (n := 13) (by decide)
          have e107 : T.getD 107 undef = .bool true := hF.out.val 13 107 _ l13 rfl rfl
          have hcc := cell_of_row W w.heap.size 3 _ _ _ (hW.out.1 _ _ _ _ hr9.out (by decide) (by decide) (by decide))
          clear hd ho hi hc hLi
          exact st_val (v := .int .i64 i3) (w' := W) (by rw [want_some (j := 13) (s := 107) rfl rfl e107]; rfl) (by unfold execOp; dsimp only [Act.eval]; simp only [e118]; go_simp) (hK.out _ _ (hF.out.put (k := 25) (s := 119) rfl (by decide) hN (by decide) (fun u hu => Option.some.inj (Option.some.inj (show some (some (.int .i64 i3)) = some (some u) from hu))) (by dsimp only; rw [gd_ne (show 119 ≠ 100 by decide), gd_ne (show 119 ≠ 114 by decide)]; exact hW.out)))
        | 26, _ =>
          obtain rfl := Option.some.inj ho
          have l23 : L 23 = true := dep_of hd (n := 23) (by decide)
          have e117 : T.getD 117 undef = .int .i64 i2 := hF.out.val 23 117 _ l23 rfl rfl
          have l25 : L 25 = true := dep_of hd (n := 25) (by decide)
          have e119 : T.getD 119 undef = .int .i64 i3 := hF.out.val 25 119 _ l25 rfl rfl
          have l13 : L 13 = true := dep_of hd (n := 13) (by decide)
          have e107 : T.getD 107 undef = .bool true := hF.out.val 13 107 _ l13 rfl rfl
          have l21 : L 21 = true := dep_of hd (n := 21) (by decide)
          have e115 : T.getD 115 undef = .string yf := hF.out.val 21 115 _ l21 rfl rfl
          have l20 : L 20 = true := hc 21 20 l21 (by decide)
          have l10 : L 10 = true := hc 13 10 l13 (by decide)
          have l7 : L 7 = true := hc 10 7 l10 (by decide)
          have l6 : L 6 = true := hc 7 6 l7 (by decide)
          have cc := Lib.hid (cRF.out W)
          clear hd ho hi hc
          refine st_call (by rw [want_some (j := 13) (s := 107) rfl rfl e107]; rfl) (by unfold execOp; go_simp) cc.out ?_
          rintro r w3 ⟨rfl, hb4⟩
          exact ⟨_, rfl, hK.out _ _ (hF.out.put (k := 26) (s := 120) rfl (by decide) hN (by decide) (fun u hu => Option.some.inj (Option.some.inj (show some (some (.string yf)) = some (some u) from hu))) ⟨hW.out.1.trans (Stay.of_below hb4), (hW.out.2.1.trans (Below.mono hb4 hW.out.2.1.size)), fun h => absurd (l6.symm.trans (show L 6 = false from h)) (by decide), fun _ h => absurd (l7.symm.trans (show L 7 = false from h)) (by decide), fun _ h => absurd (l20.symm.trans (show L 20 = false from h)) (by decide), fun _ h => absurd (l21.symm.trans (show L 21 = false from h)) (by decide)⟩)⟩
        | 27, _ =>
          obtain rfl := Option.some.inj ho
          have l21 : L 21 = true := dep_of hd (n := 21) (by decide)
          have e115 : T.getD 115 undef = .string yf := hF.out.val 21 115 _ l21 rfl rfl
          have l26 : L 26 = true := dep_of hd (n := 26) (by decide)
          have e120 : T.getD 120 undef = .string yf := hF.out.val 26 120 _ l26 rfl rfl
          have l13 : L 13 = true := dep_of hd (n := 13) (by decide)
          have e107 : T.getD 107 undef = .bool true := hF.out.val 13 107 _ l13 rfl rfl
          clear hd ho hi hc hLi
          exact st_val (v := .bool true) (w' := W) (by rw [want_some (j := 13) (s := 107) rfl rfl e107]; rfl) (by unfold execOp; dsimp only [Act.eval]; simp only [e115, e120]; go_simp) (hK.out _ _ (hF.out.put (k := 27) (s := 121) rfl (by decide) hN (by decide) (fun u hu => Option.some.inj (Option.some.inj (show some (some (.bool true)) = some (some u) from hu))) (by dsimp only; rw [gd_ne (show 121 ≠ 100 by decide), gd_ne (show 121 ≠ 114 by decide)]; exact hW.out)))
        | 28, _ =>
          obtain rfl := Option.some.inj ho
          have l13 : L 13 = true := dep_of hd (n := 13) (by decide)
          have e107 : T.getD 107 undef = .bool true := hF.out.val 13 107 _ l13 rfl rfl
          have l27 : L 27 = true := dep_of hd (n := 27) (by decide)
          have e121 : T.getD 121 undef = .bool true := hF.out.val 27 121 _ l27 rfl rfl
          clear hd ho hi hc hLi
          exact st_val (v := .bool true) (w' := W) (want_none rfl) (by unfold execOp; dsimp only [Act.eval]; simp only [e107, e121]; go_simp) (hK.out _ _ (hF.out.put (k := 28) (s := 122) rfl (by decide) hN (by decide) (fun u hu => Option.some.inj (Option.some.inj (show some (some (.bool true)) = some (some u) from hu))) (by dsimp only; rw [gd_ne (show 122 ≠ 100 by decide), gd_ne (show 122 ≠ 114 by decide)]; exact hW.out)))
        | 29, _ =>
          obtain rfl := Option.some.inj ho
          have l28 : L 28 = true := dep_of hd (n := 28) (by decide)
          have e122 : T.getD 122 undef = .bool true := hF.out.val 28 122 _ l28 rfl rfl
          clear hd ho hi hc hLi
          exact st_val (v := .bool true) (w' := W) (want_none rfl) (by unfold execOp; dsimp only [Act.eval]; simp only [e122]; go_simp) (hK.out _ _ (hF.out.put (k := 29) (s := 6) rfl (by decide) hN (by decide) (fun u hu => Option.some.inj (Option.some.inj (show some (some (.bool true)) = some (some u) from hu))) (by dsimp only; rw [gd_ne (show 6 ≠ 100 by decide), gd_ne (show 6 ≠ 114 by decide)]; exact hW.out)))
      case hdone =>
        intro L T W2 hF hW hall
        obtain ⟨x100, h100⟩ : ∃ x, T.getD 100 undef = x := ⟨_, rfl⟩
        obtain ⟨x114, h114⟩ : ∃ x, T.getD 114 undef = x := ⟨_, rfl⟩
        have hB := Lib.hid (hp.out.trans (hW.2.1.mono hp.out.size))
        have hT : T = #[.slice A n c, .agg #[.int .i64 i0, .int .i64 i1, .int .i64 i2, .int .i64 i3], .string yG, undef, .pointer (some ⟨(w.heap.size), 0, none⟩), undef, .bool true, .pointer (some ⟨g, 0, none⟩), .pointer (some ⟨q, 0, none⟩), .int .i64 z0, .string y0, .int .i64 z1, .string y1, .int .i64 z7, .int .i64 5, .string ys, .int .i64 5, .slice A n c, .bool true, .bool false, .bool false, .string yG, .int .i64 yG.size, .bool false, .bool false, undef, .pointer (some ⟨g, 0, none⟩), .pointer (some ⟨g, 0, none⟩), .slice A n c, .agg #[.slice AI n cI, .slice AT n cT], .tuple #[.int .i64 z0, .string y0], .agg #[.slice AI n cI, .slice AT n cT], .pointer (some ⟨(w.heap.size), 0, none⟩), .int .i64 i0, .tuple #[.int .i64 z0, .string y0], .int .i64 z0, .string y0, .tuple #[.int .i64 z1, .string y1], .agg #[.slice AI n cI, .slice AT n cT], .pointer (some ⟨(w.heap.size), 1, none⟩), .int .i64 i1, .tuple #[.int .i64 z1, .string y1], .int .i64 z1, .string y1, .tuple #[.int .i64 z7, .int .i64 5], .pointer (some ⟨g, 0, none⟩), .string yG, .int .i64 z0, .int .i64 z1, .tuple #[.int .i64 z7, .int .i64 5], .int .i64 z7, .int .i64 5, .string yG, .string y0, .string y1, .string ys, .pointer (some ⟨g, 0, none⟩), .int .i64 z7, .string ys, .string ys, .bool false, .bool false, .int .i64 5, .bool false, .string ys, .bool false, .bool false, .bool false, .bool false, .string ys, .bool true, .bool true, .int .i64 5, .bool false, .bool false, .bool false, .pointer (some ⟨g, 0, none⟩), .string yG, .int .i64 z0, .int .i64 5, .int .i64 5, .bool false, .string yG, .string y0, .bool false, .bool false, .bool false, .int .i64 5, .bool true, .bool true, .int .i64 5, .bool false, .bool false, .bool false, .bool true, .bool true, .pointer (some ⟨g, 0, none⟩), .pointer (some ⟨g, 0, none⟩), .string yG, .int .i64 z1, x100, .string yo, .string yG, .string y1, .string yo, .bool true, .bool true, .bool true, .pointer (some ⟨g, 0, none⟩), .pointer (some ⟨g, 0, none⟩), .pointer (some ⟨(w.heap.size), 2, none⟩), .int .i64 i2, .pointer (some ⟨(w.heap.size), 3, none⟩), .int .i64 i3, x114, .string yf, .pointer (some ⟨(w.heap.size), 2, none⟩), .int .i64 i2, .pointer (some ⟨(w.heap.size), 3, none⟩), .int .i64 i3, .string yf, .bool true, .bool true] := (hF.fin [(94, .bool true), (95, .bool true), (96, .pointer (some ⟨g, 0, none⟩)), (97, .pointer (some ⟨g, 0, none⟩)), (98, .string yG), (99, .int .i64 z1), (100, x100), (101, .string yo), (102, .string yG), (103, .string y1), (104, .string yo), (105, .bool true), (106, .bool true), (107, .bool true), (108, .pointer (some ⟨g, 0, none⟩)), (109, .pointer (some ⟨g, 0, none⟩)), (110, .pointer (some ⟨(w.heap.size), 2, none⟩)), (111, .int .i64 i2), (112, .pointer (some ⟨(w.heap.size), 3, none⟩)), (113, .int .i64 i3), (114, x114), (115, .string yf), (116, .pointer (some ⟨(w.heap.size), 2, none⟩)), (117, .int .i64 i2), (118, .pointer (some ⟨(w.heap.size), 3, none⟩)), (119, .int .i64 i3), (120, .string yf), (121, .bool true), (122, .bool true), (6, .bool true)] [94, 95, 96, 97, 98, 99, 100, 101, 102, 103, 104, 105, 106, 107, 108, 109, 110, 111, 112, 113, 114, 115, 116, 117, 118, 119, 120, 121, 122, 6] rfl (List.forall_mem_cons.2 ⟨hF.val 0 _ _ (hall 0 (show 0 < 30 by decide)) rfl rfl, (List.forall_mem_cons.2 ⟨hF.val 1 _ _ (hall 1 (show 1 < 30 by decide)) rfl rfl, (List.forall_mem_cons.2 ⟨hF.val 2 _ _ (hall 2 (show 2 < 30 by decide)) rfl rfl, (List.forall_mem_cons.2 ⟨hF.val 3 _ _ (hall 3 (show 3 < 30 by decide)) rfl rfl, (List.forall_mem_cons.2 ⟨hF.val 4 _ _ (hall 4 (show 4 < 30 by decide)) rfl rfl, (List.forall_mem_cons.2 ⟨hF.val 5 _ _ (hall 5 (show 5 < 30 by decide)) rfl rfl, (List.forall_mem_cons.2 ⟨h100, (List.forall_mem_cons.2 ⟨hF.val 7 _ _ (hall 7 (show 7 < 30 by decide)) rfl rfl, (List.forall_mem_cons.2 ⟨hF.val 8 _ _ (hall 8 (show 8 < 30 by decide)) rfl rfl, (List.forall_mem_cons.2 ⟨hF.val 9 _ _ (hall 9 (show 9 < 30 by decide)) rfl rfl, (List.forall_mem_cons.2 ⟨hF.val 10 _ _ (hall 10 (show 10 < 30 by decide)) rfl rfl, (List.forall_mem_cons.2 ⟨hF.val 11 _ _ (hall 11 (show 11 < 30 by decide)) rfl rfl, (List.forall_mem_cons.2 ⟨hF.val 12 _ _ (hall 12 (show 12 < 30 by decide)) rfl rfl, (List.forall_mem_cons.2 ⟨hF.val 13 _ _ (hall 13 (show 13 < 30 by decide)) rfl rfl, (List.forall_mem_cons.2 ⟨hF.val 14 _ _ (hall 14 (show 14 < 30 by decide)) rfl rfl, (List.forall_mem_cons.2 ⟨hF.val 15 _ _ (hall 15 (show 15 < 30 by decide)) rfl rfl, (List.forall_mem_cons.2 ⟨hF.val 16 _ _ (hall 16 (show 16 < 30 by decide)) rfl rfl, (List.forall_mem_cons.2 ⟨hF.val 17 _ _ (hall 17 (show 17 < 30 by decide)) rfl rfl, (List.forall_mem_cons.2 ⟨hF.val 18 _ _ (hall 18 (show 18 < 30 by decide)) rfl rfl, (List.forall_mem_cons.2 ⟨hF.val 19 _ _ (hall 19 (show 19 < 30 by decide)) rfl rfl, (List.forall_mem_cons.2 ⟨h114, (List.forall_mem_cons.2 ⟨hF.val 21 _ _ (hall 21 (show 21 < 30 by decide)) rfl rfl, (List.forall_mem_cons.2 ⟨hF.val 22 _ _ (hall 22 (show 22 < 30 by decide)) rfl rfl, (List.forall_mem_cons.2 ⟨hF.val 23 _ _ (hall 23 (show 23 < 30 by decide)) rfl rfl, (List.forall_mem_cons.2 ⟨hF.val 24 _ _ (hall 24 (show 24 < 30 by decide)) rfl rfl, (List.forall_mem_cons.2 ⟨hF.val 25 _ _ (hall 25 (show 25 < 30 by decide)) rfl rfl, (List.forall_mem_cons.2 ⟨hF.val 26 _ _ (hall 26 (show 26 < 30 by decide)) rfl rfl, (List.forall_mem_cons.2 ⟨hF.val 27 _ _ (hall 27 (show 27 < 30 by decide)) rfl rfl, (List.forall_mem_cons.2 ⟨hF.val 28 _ _ (hall 28 (show 28 < 30 by decide)) rfl rfl, (List.forall_mem_cons.2 ⟨hF.val 29 _ _ (hall 29 (show 29 < 30 by decide)) rfl rfl, (fun _ h => absurd h List.not_mem_nil)⟩)⟩)⟩)⟩)⟩)⟩)⟩)⟩)⟩)⟩)⟩)⟩)⟩)⟩)⟩)⟩)⟩)⟩)⟩)⟩)⟩)⟩)⟩)⟩)⟩)⟩)⟩)⟩)⟩)⟩) (by decide)).trans (by kernel_rfl)
        clear hF hall
        subst hT
        clear hW h100 h114
        go_wp2_with fail
        go_ret
        exact ⟨rfl, hB.out⟩
    · go_upto_region 14 with (first
        | (go_at_call 12; refine cE8.out.mono ?_; rintro r w10 ⟨rfl, hb10⟩
           have hb10h := Lib.hid hb10
           have ck := Lib.hid (hck.out w10 hb10)
           clear hb10)
        | (go_at_call 20; refine ck.out.mono ?_; rintro r w11 ⟨rfl, hb11⟩
           have hb11h := Lib.hid (hb10h.out.trans (hb11.mono hb10h.out.size))
           clear hb11)
        | (go_at_call 21; refine (cRR.out _).mono ?_; rintro r w9 ⟨rfl, hb12⟩
           have hb12h := Lib.hid (hb11h.out.trans (hb12.mono hb11h.out.size))
           clear hb12))
      have hS9 := Lib.hid (hS8.out.keep hb12h.out)
      have hr9 := Lib.hid ((hb12h.out.block w.heap.size (Array.getElem?_eq_some_iff.1 hr8.out).1).trans hr8.out)
      generalize hyo : bs (encO fo) = yo at *
      generalize hyf : bs (encO ho) = yf at *
      have hyoh := Lib.hid hyo
      have hyfh := Lib.hid hyf
      clear hyo hyf cE8 hck hS8
      refine region_iw tbSrb dsSrb (vsSrb g (w.heap.size) i2 i3 z1 y1 yG yo yf) (fun L T W => Stay w9 W ∧ Below W1.heap.size W1 W ∧ (L 6 = false → Below w9.heap.size w9 W) ∧ (L 6 = true → L 7 = false → ∃ (L2 : List Tm) (x2 : Int), T.getD 100 undef = .int .i64 x2 ∧ St W1 g W L2 ∧ L2.length ≤ 23 ∧ Nm L2 x2 fo) ∧ (L 6 = true → L 20 = false → ∃ (L2 : List Tm), St W1 g W L2 ∧ L2.length ≤ 23) ∧ (L 20 = true → L 21 = false → ∃ (L2 : List Tm) (x2 : Int), T.getD 114 undef = .int .i64 x2 ∧ St W1 g W L2 ∧ Nm L2 x2 ho)) rfl (by decide) (by kernel_rfl) ?hlt ?hstep ?hdone ?hstart
      case hstart => exact ⟨Stay.of_below (drewN_below 1), hS9.out.below.trans (Below.mono (drewN_below 1) hS9.out.below.size), fun _ => drewN_below 1, fun h => absurd h (inv_not (n := 30) (i := 6) (by decide)), fun h => absurd h (inv_not (n := 30) (i := 6) (by decide)), fun h => absurd h (inv_not (n := 30) (i := 20) (by decide))⟩
      case hlt =>
        intro ix o ho
        have hi := (Array.getElem?_eq_some_iff.1 ho).1
        match ix, hi with
        | 0, _ => obtain rfl := Option.some.inj ho; decide
        | 1, _ => obtain rfl := Option.some.inj ho; decide
        | 2, _ => obtain rfl := Option.some.inj ho; decide
        | 3, _ => obtain rfl := Option.some.inj ho; decide
        | 4, _ => obtain rfl := Option.some.inj ho; decide
        | 5, _ => obtain rfl := Option.some.inj ho; decide
        | 6, _ => obtain rfl := Option.some.inj ho; decide
        | 7, _ => obtain rfl := Option.some.inj ho; decide
        | 8, _ => obtain rfl := Option.some.inj ho; decide
        | 9, _ => obtain rfl := Option.some.inj ho; decide
        | 10, _ => obtain rfl := Option.some.inj ho; decide
        | 11, _ => obtain rfl := Option.some.inj ho; decide
        | 12, _ => obtain rfl := Option.some.inj ho; decide
        | 13, _ => obtain rfl := Option.some.inj ho; decide
        | 14, _ => obtain rfl := Option.some.inj ho; decide
        | 15, _ => obtain rfl := Option.some.inj ho; decide
        | 16, _ => obtain rfl := Option.some.inj ho; decide
        | 17, _ => obtain rfl := Option.some.inj ho; decide
        | 18, _ => obtain rfl := Option.some.inj ho; decide
        | 19, _ => obtain rfl := Option.some.inj ho; decide
        | 20, _ => obtain rfl := Option.some.inj ho; decide
        | 21, _ => obtain rfl := Option.some.inj ho; decide
        | 22, _ => obtain rfl := Option.some.inj ho; decide
        | 23, _ => obtain rfl := Option.some.inj ho; decide
        | 24, _ => obtain rfl := Option.some.inj ho; decide
        | 25, _ => obtain rfl := Option.some.inj ho; decide
        | 26, _ => obtain rfl := Option.some.inj ho; decide
        | 27, _ => obtain rfl := Option.some.inj ho; decide
        | 28, _ => obtain rfl := Option.some.inj ho; decide
        | 29, _ => obtain rfl := Option.some.inj ho; decide
      case hstep =>
        intro T1 hE L T W ix o hF hW hc ho hLi hd K hK
        have hN : T1.size = 123 := by rw [hE]; rfl
        have f2 : T.getD 2 undef = .string yG := (hF.old 2 (by decide)).trans (by rw [hE]; rfl)
        have f4 : T.getD 4 undef = .pointer (some ⟨(w.heap.size), 0, none⟩) := (hF.old 4 (by decide)).trans (by rw [hE]; rfl)
        have f7 : T.getD 7 undef = .pointer (some ⟨g, 0, none⟩) := (hF.old 7 (by decide)).trans (by rw [hE]; rfl)
        have f11 : T.getD 11 undef = .int .i64 z1 := (hF.old 11 (by decide)).trans (by rw [hE]; rfl)
        have f12 : T.getD 12 undef = .string y1 := (hF.old 12 (by decide)).trans (by rw [hE]; rfl)
        clear hE
        replace hF := Lib.hid hF
        replace hW := Lib.hid hW
        replace hK := Lib.hid hK
        have hi := (List.getElem?_eq_some_iff.1 ho).1
        match ix, hi with
        | 0, _ =>
          obtain rfl := Option.some.inj ho
          have n6 : ¬ L 6 = true := fun h => by have := hc 1 0 (hc 6 1 h (by decide)) (by decide); rw [hLi] at this; cases this
          have n7 : ¬ L 7 = true := fun h => n6 (hc 7 6 h (by decide))
          have n10 : ¬ L 10 = true := fun h => n7 (hc 10 7 h (by decide))
          have n20 : ¬ L 20 = true := fun h => n10 (hc 13 10 (hc 20 13 h (by decide)) (by decide))
          have cc := Lib.hid (cA.out W)
          clear hd ho hi hc
          refine st_call (want_none rfl) (by unfold execOp; go_simp) cc.out ?_
          rintro r w3 ⟨rfl, hb4⟩
          exact ⟨_, rfl, hK.out _ _ (hF.out.put (k := 0) (s := 94) rfl (by decide) hN (by decide) (fun u hu => Option.some.inj (Option.some.inj (show some (some (.bool true)) = some (some u) from hu))) ⟨hW.out.1.trans (Stay.of_below hb4), (hW.out.2.1.trans (Below.mono hb4 hW.out.2.1.size)), fun _ => (hW.out.2.2.1 (by simpa using n6)).trans (Below.mono hb4 (hW.out.2.2.1 (by simpa using n6)).size), fun h => absurd h n6, fun h => absurd h n6, fun h => absurd h n20⟩)⟩
        | 1, _ =>
          obtain rfl := Option.some.inj ho
          have l0 : L 0 = true := dep_of hd (n := 0) (by decide)
          have e94 : T.getD 94 undef = .bool true := hF.out.val 0 94 _ l0 rfl rfl
          clear hd ho hi hc hLi
          exact st_val (v := .bool true) (w' := W) (want_none rfl) (by unfold execOp; dsimp only [Act.eval]; simp only [e94]; go_simp) (hK.out _ _ (hF.out.put (k := 1) (s := 95) rfl (by decide) hN (by decide) (fun u hu => Option.some.inj (Option.some.inj (show some (some (.bool true)) = some (some u) from hu))) (by dsimp only; rw [gd_ne (show 95 ≠ 100 by decide), gd_ne (show 95 ≠ 114 by decide)]; exact hW.out)))
        | 2, _ =>
          obtain rfl := Option.some.inj ho
          have l1 : L 1 = true := dep_of hd (n := 1) (by decide)
          have e95 : T.getD 95 undef = .bool true := hF.out.val 1 95 _ l1 rfl rfl
          clear hd ho hi hc hLi
          exact st_val (v := .pointer (some ⟨g, 0, none⟩)) (w' := W) (by rw [want_some (j := 1) (s := 95) rfl rfl e95]; rfl) (by unfold execOp; dsimp only [Act.eval]; simp only [f7]; go_simp) (hK.out _ _ (hF.out.put (k := 2) (s := 96) rfl (by decide) hN (by decide) (fun u hu => Option.some.inj (Option.some.inj (show some (some (.pointer (some ⟨g, 0, none⟩))) = some (some u) from hu))) (by dsimp only; rw [gd_ne (show 96 ≠ 100 by decide), gd_ne (show 96 ≠ 114 by decide)]; exact hW.out)))
        | 3, _ =>
          obtain rfl := Option.some.inj ho
          have l1 : L 1 = true := dep_of hd (n := 1) (by decide)
          have e95 : T.getD 95 undef = .bool true := hF.out.val 1 95 _ l1 rfl rfl
          clear hd ho hi hc hLi
          exact st_val (v := .pointer (some ⟨g, 0, none⟩)) (w' := W) (by rw [want_some (j := 1) (s := 95) rfl rfl e95]; rfl) (by unfold execOp; dsimp only [Act.eval]; simp only [f7]; go_simp) (hK.out _ _ (hF.out.put (k := 3) (s := 97) rfl (by decide) hN (by decide) (fun u hu => Option.some.inj (Option.some.inj (show some (some (.pointer (some ⟨g, 0, none⟩))) = some (some u) from hu))) (by dsimp only; rw [gd_ne (show 97 ≠ 100 by decide), gd_ne (show 97 ≠ 114 by decide)]; exact hW.out)))
        | 4, _ =>
          obtain rfl := Option.some.inj ho
          have l1 : L 1 = true := dep_of hd (n := 1) (by decide)
          have e95 : T.getD 95 undef = .bool true := hF.out.val 1 95 _ l1 rfl rfl
          clear hd ho hi hc hLi
          exact st_val (v := .string yG) (w' := W) (by rw [want_some (j := 1) (s := 95) rfl rfl e95]; rfl) (by unfold execOp; dsimp only [Act.eval]; simp only [f2]; go_simp) (hK.out _ _ (hF.out.put (k := 4) (s := 98) rfl (by decide) hN (by decide) (fun u hu => Option.some.inj (Option.some.inj (show some (some (.string yG)) = some (some u) from hu))) (by dsimp only; rw [gd_ne (show 98 ≠ 100 by decide), gd_ne (show 98 ≠ 114 by decide)]; exact hW.out)))
        | 5, _ =>
          obtain rfl := Option.some.inj ho
          have l1 : L 1 = true := dep_of hd (n := 1) (by decide)
          have e95 : T.getD 95 undef = .bool true := hF.out.val 1 95 _ l1 rfl rfl
          clear hd ho hi hc hLi
          exact st_val (v := .int .i64 z1) (w' := W) (by rw [want_some (j := 1) (s := 95) rfl rfl e95]; rfl) (by unfold execOp; dsimp only [Act.eval]; simp only [f11]; go_simp) (hK.out _ _ (hF.out.put (k := 5) (s := 99) rfl (by decide) hN (by decide) (fun u hu => Option.some.inj (Option.some.inj (show some (some (.int .i64 z1)) = some (some u) from hu))) (by dsimp only; rw [gd_ne (show 99 ≠ 100 by decide), gd_ne (show 99 ≠ 114 by decide)]; exact hW.out)))
        | 6, _ =>
          obtain rfl := Option.some.inj ho
          have l3 : L 3 = true := dep_of hd (n := 3) (by decide)
          have e97 : T.getD 97 undef = .pointer (some ⟨g, 0, none⟩) := hF.out.val 3 97 _ l3 rfl rfl
          have l4 : L 4 = true := dep_of hd (n := 4) (by decide)
          have e98 : T.getD 98 undef = .string yG := hF.out.val 4 98 _ l4 rfl rfl
          have l5 : L 5 = true := dep_of hd (n := 5) (by decide)
          have e99 : T.getD 99 undef = .int .i64 z1 := hF.out.val 5 99 _ l5 rfl rfl
          have l1 : L 1 = true := dep_of hd (n := 1) (by decide)
          have e95 : T.getD 95 undef = .bool true := hF.out.val 1 95 _ l1 rfl rfl
          have n7 : ¬ L 7 = true := fun h => by have := hc 7 6 h (by decide); rw [hLi] at this; cases this
          have n10 : ¬ L 10 = true := fun h => n7 (hc 10 7 h (by decide))
          have n20 : ¬ L 20 = true := fun h => n10 (hc 13 10 (hc 20 13 h (by decide)) (by decide))
          have hb := hW.out.2.2.1 hLi
          have cc := Lib.hid ((hS9.out.keep hb).offer (by have := hL8.out; omega) G (by have := hGl.out; omega) z1 o1 nk1'.out)
          rw [hfoh.out, hyGh.out] at cc
          clear hd ho hi hc
          refine st_call (by rw [want_some (j := 1) (s := 95) rfl rfl e95]; rfl) (by unfold execOp; go_simp) cc.out ?_
          rintro r w3 ⟨L', x', rfl, a2, a3, a4, a5, a6⟩
          exact ⟨_, rfl, hK.out _ _ (hF.out.put (k := 6) (s := 100) rfl (by decide) hN (by decide) (fun u hu => by cases hu) ⟨hW.out.1.trans a5, a2.below, fun h => absurd h (by simp), fun _ _ => ⟨L', x', gd_eq (by rw [hF.out.size, hN]; decide), a2, (by have := a3.len; have := hL8.out; omega), a4⟩, fun _ _ => ⟨L', a2, (by have := a3.len; have := hL8.out; omega)⟩, fun h => absurd h n20⟩)⟩
        | 7, _ =>
          obtain rfl := Option.some.inj ho
          have l2 : L 2 = true := dep_of hd (n := 2) (by decide)
          have e96 : T.getD 96 undef = .pointer (some ⟨g, 0, none⟩) := hF.out.val 2 96 _ l2 rfl rfl
          have l6 : L 6 = true := dep_of hd (n := 6) (by decide)
          have l1 : L 1 = true := dep_of hd (n := 1) (by decide)
          have e95 : T.getD 95 undef = .bool true := hF.out.val 1 95 _ l1 rfl rfl
          have n10 : ¬ L 10 = true := fun h => by have := hc 10 7 h (by decide); rw [hLi] at this; cases this
          have n20 : ¬ L 20 = true := fun h => n10 (hc 13 10 (hc 20 13 h (by decide)) (by decide))
          obtain ⟨L2, x2, e100, s2, hl2, m2⟩ := hW.out.2.2.2.1 l6 hLi
          have cc := s2.encode x2
          rw [m2.1] at cc
          unfold TxR at cc
          rw [hyoh.out] at cc
          replace cc := Lib.hid cc
          replace s2 := Lib.hid s2
          clear hd ho hi hc
          refine st_call (by rw [want_some (j := 1) (s := 95) rfl rfl e95]; rfl) (by unfold execOp; go_simp) cc.out ?_
          rintro r w3 ⟨rfl, hb4⟩
          exact ⟨_, rfl, hK.out _ _ (hF.out.put (k := 7) (s := 101) rfl (by decide) hN (by decide) (fun u hu => Option.some.inj (Option.some.inj (show some (some (.string yo)) = some (some u) from hu))) ⟨hW.out.1.trans (Stay.of_below hb4), (hW.out.2.1.trans (Below.mono hb4 hW.out.2.1.size)), fun h => absurd (l6.symm.trans (show L 6 = false from h)) (by decide), fun _ h => absurd h (by simp), fun _ _ => ⟨L2, s2.out.keep hb4, hl2⟩, fun h => absurd h n20⟩)⟩
        | 8, _ =>
          obtain rfl := Option.some.inj ho
          have l1 : L 1 = true := dep_of hd (n := 1) (by decide)
          have e95 : T.getD 95 undef = .bool true := hF.out.val 1 95 _ l1 rfl rfl
          clear hd ho hi hc hLi
          exact st_val (v := .string yG) (w' := W) (by rw [want_some (j := 1) (s := 95) rfl rfl e95]; rfl) (by unfold execOp; dsimp only [Act.eval]; simp only [f2]; go_simp) (hK.out _ _ (hF.out.put (k := 8) (s := 102) rfl (by decide) hN (by decide) (fun u hu => Option.some.inj (Option.some.inj (show some (some (.string yG)) = some (some u) from hu))) (by dsimp only; rw [gd_ne (show 102 ≠ 100 by decide), gd_ne (show 102 ≠ 114 by decide)]; exact hW.out)))
        | 9, _ =>
          obtain rfl := Option.some.inj ho
          have l1 : L 1 = true := dep_of hd (n := 1) (by decide)
          have e95 : T.getD 95 undef = .bool true := hF.out.val 1 95 _ l1 rfl rfl
          clear hd ho hi hc hLi
          exact st_val (v := .string y1) (w' := W) (by rw [want_some (j := 1) (s := 95) rfl rfl e95]; rfl) (by unfold execOp; dsimp only [Act.eval]; simp only [f12]; go_simp) (hK.out _ _ (hF.out.put (k := 9) (s := 103) rfl (by decide) hN (by decide) (fun u hu => Option.some.inj (Option.some.inj (show some (some (.string y1)) = some (some u) from hu))) (by dsimp only; rw [gd_ne (show 103 ≠ 100 by decide), gd_ne (show 103 ≠ 114 by decide)]; exact hW.out)))
        | 10, _ =>
          obtain rfl := Option.some.inj ho
          have l8 : L 8 = true := dep_of hd (n := 8) (by decide)
          have e102 : T.getD 102 undef = .string yG := hF.out.val 8 102 _ l8 rfl rfl
          have l9 : L 9 = true := dep_of hd (n := 9) (by decide)
          have e103 : T.getD 103 undef = .string y1 := hF.out.val 9 103 _ l9 rfl rfl
          have l1 : L 1 = true := dep_of hd (n := 1) (by decide)
          have e95 : T.getD 95 undef = .bool true := hF.out.val 1 95 _ l1 rfl rfl
          have l7 : L 7 = true := dep_of hd (n := 7) (by decide)
          have e101 : T.getD 101 undef = .string yo := hF.out.val 7 101 _ l7 rfl rfl
          have l6 : L 6 = true := hc 7 6 l7 (by decide)
          have n20 : ¬ L 20 = true := fun h => by have := hc 13 10 (hc 20 13 h (by decide)) (by decide); rw [hLi] at this; cases this
          obtain ⟨L2, s2, hl2⟩ := hW.out.2.2.2.2.1 l6 (by simpa using n20)
          have cc := Lib.hid (cRO.out W)
          replace s2 := Lib.hid s2
          clear hd ho hi hc
          refine st_call (by rw [want_some (j := 1) (s := 95) rfl rfl e95]; rfl) (by unfold execOp; go_simp) cc.out ?_
          rintro r w3 ⟨rfl, hb4⟩
          exact ⟨_, rfl, hK.out _ _ (hF.out.put (k := 10) (s := 104) rfl (by decide) hN (by decide) (fun u hu => Option.some.inj (Option.some.inj (show some (some (.string yo)) = some (some u) from hu))) ⟨hW.out.1.trans (Stay.of_below hb4), (hW.out.2.1.trans (Below.mono hb4 hW.out.2.1.size)), fun h => absurd (l6.symm.trans (show L 6 = false from h)) (by decide), fun _ h => absurd (l7.symm.trans (show L 7 = false from h)) (by decide), fun _ _ => ⟨L2, s2.out.keep hb4, hl2⟩, fun h => absurd h n20⟩)⟩
        | 11, _ =>
          obtain rfl := Option.some.inj ho
          have l7 : L 7 = true := dep_of hd (n := 7) (by decide)
          have e101 : T.getD 101 undef = .string yo := hF.out.val 7 101 _ l7 rfl rfl
          have l10 : L 10 = true := dep_of hd (n := 10) (by decide)
          have e104 : T.getD 104 undef = .string yo := hF.out.val 10 104 _ l10 rfl rfl
          have l1 : L 1 = true := dep_of hd (n := 1) (by decide)
          have e95 : T.getD 95 undef = .bool true := hF.out.val 1 95 _ l1 rfl rfl
          clear hd ho hi hc hLi
          exact st_val (v := .bool true) (w' := W) (by rw [want_some (j := 1) (s := 95) rfl rfl e95]; rfl) (by unfold execOp; dsimp only [Act.eval]; simp only [e101, e104]; go_simp) (hK.out _ _ (hF.out.put (k := 11) (s := 105) rfl (by decide) hN (by decide) (fun u hu => Option.some.inj (Option.some.inj (show some (some (.bool true)) = some (some u) from hu))) (by dsimp only; rw [gd_ne (show 105 ≠ 100 by decide), gd_ne (show 105 ≠ 114 by decide)]; exact hW.out)))
        | 12, _ =>
          obtain rfl := Option.some.inj ho
          have l1 : L 1 = true := dep_of hd (n := 1) (by decide)
          have e95 : T.getD 95 undef = .bool true := hF.out.val 1 95 _ l1 rfl rfl
          have l11 : L 11 = true := dep_of hd (n := 11) (by decide)
          have e105 : T.getD 105 undef = .bool true := hF.out.val 11 105 _ l11 rfl rfl
          clear hd ho hi hc hLi
          exact st_val (v := .bool true) (w' := W) (want_none rfl) (by unfold execOp; dsimp only [Act.eval]; simp only [e95, e105]; go_simp) (hK.out _ _ (hF.out.put (k := 12) (s := 106) rfl (by decide) hN (by decide) (fun u hu => Option.some.inj (Option.some.inj (show some (some (.bool true)) = some (some u) from hu))) (by dsimp only; rw [gd_ne (show 106 ≠ 100 by decide), gd_ne (show 106 ≠ 114 by decide)]; exact hW.out)))
        | 13, _ =>
          obtain rfl := Option.some.inj ho
          have l12 : L 12 = true := dep_of hd (n := 12) (by decide)
          have e106 : T.getD 106 undef = .bool true := hF.out.val 12 106 _ l12 rfl rfl
          clear hd ho hi hc hLi
          exact st_val (v := .bool true) (w' := W) (want_none rfl) (by unfold execOp; dsimp only [Act.eval]; simp only [e106]; go_simp) (hK.out _ _ (hF.out.put (k := 13) (s := 107) rfl (by decide) hN (by decide) (fun u hu => Option.some.inj (Option.some.inj (show some (some (.bool true)) = some (some u) from hu))) (by dsimp only; rw [gd_ne (show 107 ≠ 100 by decide), gd_ne (show 107 ≠ 114 by decide)]; exact hW.out)))
        | 14, _ =>
          obtain rfl := Option.some.inj ho
          have l13 : L 13 = true := dep_of hd (n := 13) (by decide)
          have e107 : T.getD 107 undef = .bool true := hF.out.val 13 107 _ l13 rfl rfl
          clear hd ho hi hc hLi
          exact st_val (v := .pointer (some ⟨g, 0, none⟩)) (w' := W) (by rw [want_some (j := 13) (s := 107) rfl rfl e107]; rfl) (by unfold execOp; dsimp only [Act.eval]; simp only [f7]; go_simp) (hK.out _ _ (hF.out.put (k := 14) (s := 108) rfl (by decide) hN (by decide) (fun u hu => Option.some.inj (Option.some.inj (show some (some (.pointer (some ⟨g, 0, none⟩))) = some (some u) from hu))) (by dsimp only; rw [gd_ne (show 108 ≠ 100 by decide), gd_ne (show 108 ≠ 114 by decide)]; exact hW.out)))
        | 15, _ =>
          obtain rfl := Option.some.inj ho
          have l13 : L 13 = true := dep_of hd (n := 13) (by decide)
          have e107 : T.getD 107 undef = .bool true := hF.out.val 13 107 _ l13 rfl rfl
          clear hd ho hi hc hLi
          exact st_val (v := .pointer (some ⟨g, 0, none⟩)) (w' := W) (by rw [want_some (j := 13) (s := 107) rfl rfl e107]; rfl) (by unfold execOp; dsimp only [Act.eval]; simp only [f7]; go_simp) (hK.out _ _ (hF.out.put (k := 15) (s := 109) rfl (by decide) hN (by decide) (fun u hu => Option.some.inj (Option.some.inj (show some (some (.pointer (some ⟨g, 0, none⟩))) = some (some u) from hu))) (by dsimp only; rw [gd_ne (show 109 ≠ 100 by decide), gd_ne (show 109 ≠ 114 by decide)]; exact hW.out)))
        | 16, _ =>
          obtain rfl := Option.some.inj ho
          have l13 : L 13 = true := dep_of hd (n := 13) (by decide)
          have e107 : T.getD 107 undef = .bool true := hF.out.val 13 107 _ l13 rfl rfl
          clear hd ho hi hc hLi
          exact st_val (v := .pointer (some ⟨(w.heap.size), 2, none⟩)) (w' := W) (by rw [want_some (j := 13) (s := 107) rfl rfl e107]; rfl) (by unfold execOp; dsimp only [Act.eval]; simp only [f4]; go_simp) (hK.out _ _ (hF.out.put (k := 16) (s := 110) rfl (by decide) hN (by decide) (fun u hu => Option.some.inj (Option.some.inj (show some (some (.pointer (some ⟨(w.heap.size), 2, none⟩))) = some (some u) from hu))) (by dsimp only; rw [gd_ne (show 110 ≠ 100 by decide), gd_ne (show 110 ≠ 114 by decide)]; exact hW.out)))
        | 17, _ =>
          obtain rfl := Option.some.inj ho
          have l16 : L 16 = true := dep_of hd (n := 16) (by decide)
          have e110 : T.getD 110 undef = .pointer (some ⟨(w.heap.size), 2, none⟩) := hF.out.val 16 110 _ l16 rfl rfl
          have l13 : L 13 = true := dep_of hd (n := 13) (by decide)
          have e107 : T.getD 107 undef = .bool true := hF.out.val 13 107 _ l13 rfl rfl
          have hcc := cell_of_row W w.heap.size 2 _ _ _ (hW.out.1 _ _ _ _ hr9.out (by decide) (by decide) (by decide))
          clear hd ho hi hc hLi
          exact st_val (v := .int .i64 i2) (w' := W) (by rw [want_some (j := 13) (s := 107) rfl rfl e107]; rfl) (by unfold execOp; dsimp only [Act.eval]; simp only [e110]; go_simp) (hK.out _ _ (hF.out.put (k := 17) (s := 111) rfl (by decide) hN (by decide) (fun u hu => Option.some.inj (Option.some.inj (show some (some (.int .i64 i2)) = some (some u) from hu))) (by dsimp only; rw [gd_ne (show 111 ≠ 100 by decide), gd_ne (show 111 ≠ 114 by decide)]; exact hW.out)))
        | 18, _ =>
          obtain rfl := Option.some.inj ho
          have l13 : L 13 = true := dep_of hd (n := 13) (by decide)
          have e107 : T.getD 107 undef = .bool true := hF.out.val 13 107 _ l13 rfl rfl
          clear hd ho hi hc hLi
          exact st_val (v := .pointer (some ⟨(w.heap.size), 3, none⟩)) (w' := W) (by rw [want_some (j := 13) (s := 107) rfl rfl e107]; rfl) (by unfold execOp; dsimp only [Act.eval]; simp only [f4]; go_simp) (hK.out _ _ (hF.out.put (k := 18) (s := 112) rfl (by decide) hN (by decide) (fun u hu => Option.some.inj (Option.some.inj (show some (some (.pointer (some ⟨(w.heap.size), 3, none⟩))) = some (some u) from hu))) (by dsimp only; rw [gd_ne (show 112 ≠ 100 by decide), gd_ne (show 112 ≠ 114 by decide)]; exact hW.out)))
        | 19, _ =>
          obtain rfl := Option.some.inj ho
          have l18 : L 18 = true := dep_of hd (n := 18) (by decide)
          have e112 : T.getD 112 undef = .pointer (some ⟨(w.heap.size), 3, none⟩) := hF.out.val 18 112 _ l18 rfl rfl
          have l13 : L 13 = true := dep_of hd (n := 13) (by decide)
          have e107 : T.getD 107 undef = .bool true := hF.out.val 13 107 _ l13 rfl rfl
          have hcc := cell_of_row W w.heap.size 3 _ _ _ (hW.out.1 _ _ _ _ hr9.out (by decide) (by decide) (by decide))
          clear hd ho hi hc hLi
          exact st_val (v := .int .i64 i3) (w' := W) (by rw [want_some (j := 13) (s := 107) rfl rfl e107]; rfl) (by unfold execOp; dsimp only [Act.eval]; simp only [e112]; go_simp) (hK.out _ _ (hF.out.put (k := 19) (s := 113) rfl (by decide) hN (by decide) (fun u hu => Option.some.inj (Option.some.inj (show some (some (.int .i64 i3)) = some (some u) from hu))) (by dsimp only; rw [gd_ne (show 113 ≠ 100 by decide), gd_ne (show 113 ≠ 114 by decide)]; exact hW.out)))
        | 20, _ =>
          obtain rfl := Option.some.inj ho
          have l15 : L 15 = true := dep_of hd (n := 15) (by decide)
          have e109 : T.getD 109 undef = .pointer (some ⟨g, 0, none⟩) := hF.out.val 15 109 _ l15 rfl rfl
          have l17 : L 17 = true := dep_of hd (n := 17) (by decide)
          have e111 : T.getD 111 undef = .int .i64 i2 := hF.out.val 17 111 _ l17 rfl rfl
          have l19 : L 19 = true := dep_of hd (n := 19) (by decide)
          have e113 : T.getD 113 undef = .int .i64 i3 := hF.out.val 19 113 _ l19 rfl rfl
          have l13 : L 13 = true := dep_of hd (n := 13) (by decide)
          have e107 : T.getD 107 undef = .bool true := hF.out.val 13 107 _ l13 rfl rfl
          have l10 : L 10 = true := hc 13 10 l13 (by decide)
          have l7 : L 7 = true := hc 10 7 l10 (by decide)
          have l6 : L 6 = true := hc 7 6 l7 (by decide)
          have n21 : ¬ L 21 = true := fun h => by have := hc 21 20 h (by decide); rw [hLi] at this; cases this
          obtain ⟨L2, s2, hl2⟩ := hW.out.2.2.2.2.1 l6 hLi
          have cc := s2.fresh (by omega) i2 i3
          rw [hhoh.out] at cc
          replace cc := Lib.hid cc
          clear hd ho hi hc
          refine st_call (by rw [want_some (j := 13) (s := 107) rfl rfl e107]; rfl) (by unfold execOp; go_simp) cc.out ?_
          rintro r w3 ⟨L', x', rfl, a2, a3, a4, a5, a6, -⟩
          exact ⟨_, rfl, hK.out _ _ (hF.out.put (k := 20) (s := 114) rfl (by decide) hN (by decide) (fun u hu => by cases hu) ⟨hW.out.1.trans a5, a2.below, fun h => absurd (l6.symm.trans (show L 6 = false from h)) (by decide), fun _ h => absurd (l7.symm.trans (show L 7 = false from h)) (by decide), fun _ h => absurd h (by simp), fun _ _ => ⟨L', x', gd_eq (by rw [hF.out.size, hN]; decide), a2, a4⟩⟩)⟩
        | 21, _ =>
          obtain rfl := Option.some.inj ho
          have l14 : L 14 = true := dep_of hd (n := 14) (by decide)
          have e108 : T.getD 108 undef = .pointer (some ⟨g, 0, none⟩) := hF.out.val 14 108 _ l14 rfl rfl
          have l20 : L 20 = true := dep_of hd (n := 20) (by decide)
          have l13 : L 13 = true := dep_of hd (n := 13) (by decide)
          have e107 : T.getD 107 undef = .bool true := hF.out.val 13 107 _ l13 rfl rfl
          have l10 : L 10 = true := hc 13 10 l13 (by decide)
          have l7 : L 7 = true := hc 10 7 l10 (by decide)
          have l6 : L 6 = true := hc 7 6 l7 (by decide)
          obtain ⟨L2, x2, e114, s2, m2⟩ := hW.out.2.2.2.2.2 l20 hLi
          have cc := s2.encode x2
          rw [m2.1] at cc
          unfold TxR at cc
          rw [hyfh.out] at cc
          replace cc := Lib.hid cc
          clear hd ho hi hc
          refine st_call (by rw [want_some (j := 13) (s := 107) rfl rfl e107]; rfl) (by unfold execOp; go_simp) cc.out ?_
          rintro r w3 ⟨rfl, hb4⟩
          exact ⟨_, rfl, hK.out _ _ (hF.out.put (k := 21) (s := 115) rfl (by decide) hN (by decide) (fun u hu => Option.some.inj (Option.some.inj (show some (some (.string yf)) = some (some u) from hu))) ⟨hW.out.1.trans (Stay.of_below hb4), (hW.out.2.1.trans (Below.mono hb4 hW.out.2.1.size)), fun h => absurd (l6.symm.trans (show L 6 = false from h)) (by decide), fun _ h => absurd (l7.symm.trans (show L 7 = false from h)) (by decide), fun _ h => absurd (l20.symm.trans (show L 20 = false from h)) (by decide), fun _ h => absurd h (by simp)⟩)⟩
        | 22, _ =>
          obtain rfl := Option.some.inj ho
          have l13 : L 13 = true := dep_of hd (n := 13) (by decide)
          have e107 : T.getD 107 undef = .bool true := hF.out.val 13 107 _ l13 rfl rfl
          clear hd ho hi hc hLi
          exact st_val (v := .pointer (some ⟨(w.heap.size), 2, none⟩)) (w' := W) (by rw [want_some (j := 13) (s := 107) rfl rfl e107]; rfl) (by unfold execOp; dsimp only [Act.eval]; simp only [f4]; go_simp) (hK.out _ _ (hF.out.put (k := 22) (s := 116) rfl (by decide) hN (by decide) (fun u hu => Option.some.inj (Option.some.inj (show some (some (.pointer (some ⟨(w.heap.size), 2, none⟩))) = some (some u) from hu))) (by dsimp only; rw [gd_ne (show 116 ≠ 100 by decide), gd_ne (show 116 ≠ 114 by decide)]; exact hW.out)))
        | 23, _ =>
          obtain rfl := Option.some.inj ho
          have l22 : L 22 = true := dep_of hd (n := 22) (by decide)
          have e116 : T.getD 116 undef = .pointer (some ⟨(w.heap.size), 2, none⟩) := hF.out.val 22 116 _ l22 rfl rfl
          have l13 : L 13 = true := dep_of hd (n := 13) (by decide)
          have e107 : T.getD 107 undef = .bool true := hF.out.val 13 107 _ l13 rfl rfl
          have hcc := cell_of_row W w.heap.size 2 _ _ _ (hW.out.1 _ _ _ _ hr9.out (by decide) (by decide) (by decide))
          clear hd ho hi hc hLi
          exact st_val (v := .int .i64 i2) (w' := W) (by rw [want_some (j := 13) (s := 107) rfl rfl e107]; rfl) (by unfold execOp; dsimp only [Act.eval]; simp only [e116]; go_simp) (hK.out _ _ (hF.out.put (k := 23) (s := 117) rfl (by decide) hN (by decide) (fun u hu => Option.some.inj (Option.some.inj (show some (some (.int .i64 i2)) = some (some u) from hu))) (by dsimp only; rw [gd_ne (show 117 ≠ 100 by decide), gd_ne (show 117 ≠ 114 by decide)]; exact hW.out)))
        | 24, _ =>
          obtain rfl := Option.some.inj ho
          have l13 : L 13 = true := dep_of hd (n := 13) (by decide)
          have e107 : T.getD 107 undef = .bool true := hF.out.val 13 107 _ l13 rfl rfl
          clear hd ho hi hc hLi
          exact st_val (v := .pointer (some ⟨(w.heap.size), 3, none⟩)) (w' := W) (by rw [want_some (j := 13) (s := 107) rfl rfl e107]; rfl) (by unfold execOp; dsimp only [Act.eval]; simp only [f4]; go_simp) (hK.out _ _ (hF.out.put (k := 24) (s := 118) rfl (by decide) hN (by decide) (fun u hu => Option.some.inj (Option.some.inj (show some (some (.pointer (some ⟨(w.heap.size), 3, none⟩))) = some (some u) from hu))) (by dsimp only; rw [gd_ne (show 118 ≠ 100 by decide), gd_ne (show 118 ≠ 114 by decide)]; exact hW.out)))
        | 25, _ =>
          obtain rfl := Option.some.inj ho
          have l24 : L 24 = true := dep_of hd (n := 24) (by decide)
          have e118 : T.getD 118 undef = .pointer (some ⟨(w.heap.size), 3, none⟩) := hF.out.val 24 118 _ l24 rfl rfl
          have l13 : L 13 = true := dep_of hd (n := 13) (by decide)
          have e107 : T.getD 107 undef = .bool true := hF.out.val 13 107 _ l13 rfl rfl
          have hcc := cell_of_row W w.heap.size 3 _ _ _ (hW.out.1 _ _ _ _ hr9.out (by decide) (by decide) (by decide))
          clear hd ho hi hc hLi
          exact st_val (v := .int .i64 i3) (w' := W) (by rw [want_some (j := 13) (s := 107) rfl rfl e107]; rfl) (by unfold execOp; dsimp only [Act.eval]; simp only [e118]; go_simp) (hK.out _ _ (hF.out.put (k := 25) (s := 119) rfl (by decide) hN (by decide) (fun u hu => Option.some.inj (Option.some.inj (show some (some (.int .i64 i3)) = some (some u) from hu))) (by dsimp only; rw [gd_ne (show 119 ≠ 100 by decide), gd_ne (show 119 ≠ 114 by decide)]; exact hW.out)))
        | 26, _ =>
          obtain rfl := Option.some.inj ho
          have l23 : L 23 = true := dep_of hd (n := 23) (by decide)
          have e117 : T.getD 117 undef = .int .i64 i2 := hF.out.val 23 117 _ l23 rfl rfl
          have l25 : L 25 = true := dep_of hd (n := 25) (by decide)
          have e119 : T.getD 119 undef = .int .i64 i3 := hF.out.val 25 119 _ l25 rfl rfl
          have l13 : L 13 = true := dep_of hd (n := 13) (by decide)
          have e107 : T.getD 107 undef = .bool true := hF.out.val 13 107 _ l13 rfl rfl
          have l21 : L 21 = true := dep_of hd (n := 21) (by decide)
          have e115 : T.getD 115 undef = .string yf := hF.out.val 21 115 _ l21 rfl rfl
          have l20 : L 20 = true := hc 21 20 l21 (by decide)
          have l10 : L 10 = true := hc 13 10 l13 (by decide)
          have l7 : L 7 = true := hc 10 7 l10 (by decide)
          have l6 : L 6 = true := hc 7 6 l7 (by decide)
          have cc := Lib.hid (cRF.out W)
          clear hd ho hi hc
          refine st_call (by rw [want_some (j := 13) (s := 107) rfl rfl e107]; rfl) (by unfold execOp; go_simp) cc.out ?_
          rintro r w3 ⟨rfl, hb4⟩
          exact ⟨_, rfl, hK.out _ _ (hF.out.put (k := 26) (s := 120) rfl (by decide) hN (by decide) (fun u hu => Option.some.inj (Option.some.inj (show some (some (.string yf)) = some (some u) from hu))) ⟨hW.out.1.trans (Stay.of_below hb4), (hW.out.2.1.trans (Below.mono hb4 hW.out.2.1.size)), fun h => absurd (l6.symm.trans (show L 6 = false from h)) (by decide), fun _ h => absurd (l7.symm.trans (show L 7 = false from h)) (by decide), fun _ h => absurd (l20.symm.trans (show L 20 = false from h)) (by decide), fun _ h => absurd (l21.symm.trans (show L 21 = false from h)) (by decide)⟩)⟩
        | 27, _ =>
          obtain rfl := Option.some.inj ho
          have l21 : L 21 = true := dep_of hd (n := 21) (by decide)
          have e115 : T.getD 115 undef = .string yf := hF.out.val 21 115 _ l21 rfl rfl
          have l26 : L 26 = true := dep_of hd (n := 26) (by decide)
          have e120 : T.getD 120 undef = .string yf := hF.out.val 26 120 _ l26 rfl rfl
          have l13 : L 13 = true := dep_of hd (n := 13) (by decide)
          have e107 : T.getD 107 undef = .bool true := hF.out.val 13 107 _ l13 rfl rfl
          clear hd ho hi hc hLi
          exact st_val (v := .bool true) (w' := W) (by rw [want_some (j := 13) (s := 107) rfl rfl e107]; rfl) (by unfold execOp; dsimp only [Act.eval]; simp only [e115, e120]; go_simp) (hK.out _ _ (hF.out.put (k := 27) (s := 121) rfl (by decide) hN (by decide) (fun u hu => Option.some.inj (Option.some.inj (show some (some (.bool true)) = some (some u) from hu))) (by dsimp only; rw [gd_ne (show 121 ≠ 100 by decide), gd_ne (show 121 ≠ 114 by decide)]; exact hW.out)))
        | 28, _ =>
          obtain rfl := Option.some.inj ho
          have l13 : L 13 = true := dep_of hd (n := 13) (by decide)
          have e107 : T.getD 107 undef = .bool true := hF.out.val 13 107 _ l13 rfl rfl
          have l27 : L 27 = true := dep_of hd (n := 27) (by decide)
          have e121 : T.getD 121 undef = .bool true := hF.out.val 27 121 _ l27 rfl rfl
          clear hd ho hi hc hLi
          exact st_val (v := .bool true) (w' := W) (want_none rfl) (by unfold execOp; dsimp only [Act.eval]; simp only [e107, e121]; go_simp) (hK.out _ _ (hF.out.put (k := 28) (s := 122) rfl (by decide) hN (by decide) (fun u hu => Option.some.inj (Option.some.inj (show some (some (.bool true)) = some (some u) from hu))) (by dsimp only; rw [gd_ne (show 122 ≠ 100 by decide), gd_ne (show 122 ≠ 114 by decide)]; exact hW.out)))
        | 29, _ =>
          obtain rfl := Option.some.inj ho
          have l28 : L 28 = true := dep_of hd (n := 28) (by decide)
          have e122 : T.getD 122 undef = .bool true := hF.out.val 28 122 _ l28 rfl rfl
          clear hd ho hi hc hLi
          exact st_val (v := .bool true) (w' := W) (want_none rfl) (by unfold execOp; dsimp only [Act.eval]; simp only [e122]; go_simp) (hK.out _ _ (hF.out.put (k := 29) (s := 6) rfl (by decide) hN (by decide) (fun u hu => Option.some.inj (Option.some.inj (show some (some (.bool true)) = some (some u) from hu))) (by dsimp only; rw [gd_ne (show 6 ≠ 100 by decide), gd_ne (show 6 ≠ 114 by decide)]; exact hW.out)))
      case hdone =>
        intro L T W2 hF hW hall
        obtain ⟨x100, h100⟩ : ∃ x, T.getD 100 undef = x := ⟨_, rfl⟩
        obtain ⟨x114, h114⟩ : ∃ x, T.getD 114 undef = x := ⟨_, rfl⟩
        have hB := Lib.hid (hp.out.trans (hW.2.1.mono hp.out.size))
        have hT : T = #[.slice A n c, .agg #[.int .i64 i0, .int .i64 i1, .int .i64 i2, .int .i64 i3], .string yG, undef, .pointer (some ⟨(w.heap.size), 0, none⟩), undef, .bool true, .pointer (some ⟨g, 0, none⟩), .pointer (some ⟨q, 0, none⟩), .int .i64 z0, .string y0, .int .i64 z1, .string y1, .int .i64 z7, .int .i64 0, .string ys, .int .i64 0, .slice A n c, .bool true, .bool false, .bool false, .string yG, .int .i64 yG.size, .bool false, .bool false, undef, .pointer (some ⟨g, 0, none⟩), .pointer (some ⟨g, 0, none⟩), .slice A n c, .agg #[.slice AI n cI, .slice AT n cT], .tuple #[.int .i64 z0, .string y0], .agg #[.slice AI n cI, .slice AT n cT], .pointer (some ⟨(w.heap.size), 0, none⟩), .int .i64 i0, .tuple #[.int .i64 z0, .string y0], .int .i64 z0, .string y0, .tuple #[.int .i64 z1, .string y1], .agg #[.slice AI n cI, .slice AT n cT], .pointer (some ⟨(w.heap.size), 1, none⟩), .int .i64 i1, .tuple #[.int .i64 z1, .string y1], .int .i64 z1, .string y1, .tuple #[.int .i64 z7, .int .i64 0], .pointer (some ⟨g, 0, none⟩), .string yG, .int .i64 z0, .int .i64 z1, .tuple #[.int .i64 z7, .int .i64 0], .int .i64 z7, .int .i64 0, .string yG, .string y0, .string y1, .string ys, .pointer (some ⟨g, 0, none⟩), .int .i64 z7, .string ys, .string ys, .bool false, .bool false, .int .i64 0, .bool true, .string ys, .bool true, .bool false, .bool false, .bool false, .string ys, .bool false, .bool false, undef, undef, .bool false, .bool false, .pointer (some ⟨g, 0, none⟩), .string yG, .int .i64 z0, .int .i64 0, .int .i64 0, .bool true, .string yG, .string y0, .bool true, .bool false, .bool false, .int .i64 0, .bool false, .bool false, undef, undef, .bool false, .bool false, .bool true, .bool true, .pointer (some ⟨g, 0, none⟩), .pointer (some ⟨g, 0, none⟩), .string yG, .int .i64 z1, x100, .string yo, .string yG, .string y1, .string yo, .bool true, .bool true, .bool true, .pointer (some ⟨g, 0, none⟩), .pointer (some ⟨g, 0, none⟩), .pointer (some ⟨(w.heap.size), 2, none⟩), .int .i64 i2, .pointer (some ⟨(w.heap.size), 3, none⟩), .int .i64 i3, x114, .string yf, .pointer (some ⟨(w.heap.size), 2, none⟩), .int .i64 i2, .pointer (some ⟨(w.heap.size), 3, none⟩), .int .i64 i3, .string yf, .bool true, .bool true] := (hF.fin [(94, .bool true), (95, .bool true), (96, .pointer (some ⟨g, 0, none⟩)), (97, .pointer (some ⟨g, 0, none⟩)), (98, .string yG), (99, .int .i64 z1), (100, x100), (101, .string yo), (102, .string yG), (103, .string y1), (104, .string yo), (105, .bool true), (106, .bool true), (107, .bool true), (108, .pointer (some ⟨g, 0, none⟩)), (109, .pointer (some ⟨g, 0, none⟩)), (110, .pointer (some ⟨(w.heap.size), 2, none⟩)), (111, .int .i64 i2), (112, .pointer (some ⟨(w.heap.size), 3, none⟩)), (113, .int .i64 i3), (114, x114), (115, .string yf), (116, .pointer (some ⟨(w.heap.size), 2, none⟩)), (117, .int .i64 i2), (118, .pointer (some ⟨(w.heap.size), 3, none⟩)), (119, .int .i64 i3), (120, .string yf), (121, .bool true), (122, .bool true), (6, .bool true)] [94, 95, 96, 97, 98, 99, 100, 101, 102, 103, 104, 105, 106, 107, 108, 109, 110, 111, 112, 113, 114, 115, 116, 117, 118, 119, 120, 121, 122, 6] rfl (List.forall_mem_cons.2 ⟨hF.val 0 _ _ (hall 0 (show 0 < 30 by decide)) rfl rfl, (List.forall_mem_cons.2 ⟨hF.val 1 _ _ (hall 1 (show 1 < 30 by decide)) rfl rfl, (List.forall_mem_cons.2 ⟨hF.val 2 _ _ (hall 2 (show 2 < 30 by decide)) rfl rfl, (List.forall_mem_cons.2 ⟨hF.val 3 _ _ (hall 3 (show 3 < 30 by decide)) rfl rfl, (List.forall_mem_cons.2 ⟨hF.val 4 _ _ (hall 4 (show 4 < 30 by decide)) rfl rfl, (List.forall_mem_cons.2 ⟨hF.val 5 _ _ (hall 5 (show 5 < 30 by decide)) rfl rfl, (List.forall_mem_cons.2 ⟨h100, (List.forall_mem_cons.2 ⟨hF.val 7 _ _ (hall 7 (show 7 < 30 by decide)) rfl rfl, (List.forall_mem_cons.2 ⟨hF.val 8 _ _ (hall 8 (show 8 < 30 by decide)) rfl rfl, (List.forall_mem_cons.2 ⟨hF.val 9 _ _ (hall 9 (show 9 < 30 by decide)) rfl rfl, (List.forall_mem_cons.2 ⟨hF.val 10 _ _ (hall 10 (show 10 < 30 by decide)) rfl rfl, (List.forall_mem_cons.2 ⟨hF.val 11 _ _ (hall 11 (show 11 < 30 by decide)) rfl rfl, (List.forall_mem_cons.2 ⟨hF.val 12 _ _ (hall 12 (show 12 < 30 by decide)) rfl rfl, (List.forall_mem_cons.2 ⟨hF.val 13 _ _ (hall 13 (show 13 < 30 by decide)) rfl rfl, (List.forall_mem_cons.2 ⟨hF.val 14 _ _ (hall 14 (show 14 < 30 by decide)) rfl rfl, (List.forall_mem_cons.2 ⟨hF.val 15 _ _ (hall 15 (show 15 < 30 by decide)) rfl rfl, (List.forall_mem_cons.2 ⟨hF.val 16 _ _ (hall 16 (show 16 < 30 by decide)) rfl rfl, (List.forall_mem_cons.2 ⟨hF.val 17 _ _ (hall 17 (show 17 < 30 by decide)) rfl rfl, (List.forall_mem_cons.2 ⟨hF.val 18 _ _ (hall 18 (show 18 < 30 by decide)) rfl rfl, (List.forall_mem_cons.2 ⟨hF.val 19 _ _ (hall 19 (show 19 < 30 by decide)) rfl rfl, (List.forall_mem_cons.2 ⟨h114, (List.forall_mem_cons.2 ⟨hF.val 21 _ _ (hall 21 (show 21 < 30 by decide)) rfl rfl, (List.forall_mem_cons.2 ⟨hF.val 22 _ _ (hall 22 (show 22 < 30 by decide)) rfl rfl, (List.forall_mem_cons.2 ⟨hF.val 23 _ _ (hall 23 (show 23 < 30 by decide)) rfl rfl, (List.forall_mem_cons.2 ⟨hF.val 24 _ _ (hall 24 (show 24 < 30 by decide)) rfl rfl, (List.forall_mem_cons.2 ⟨hF.val 25 _ _ (hall 25 (show 25 < 30 by decide)) rfl rfl, (List.forall_mem_cons.2 ⟨hF.val 26 _ _ (hall 26 (show 26 < 30 by decide)) rfl rfl, (List.forall_mem_cons.2 ⟨hF.val 27 _ _ (hall 27 (show 27 < 30 by decide)) rfl rfl, (List.forall_mem_cons.2 ⟨hF.val 28 _ _ (hall 28 (show 28 < 30 by decide)) rfl rfl, (List.forall_mem_cons.2 ⟨hF.val 29 _ _ (hall 29 (show 29 < 30 by decide)) rfl rfl, (fun _ h => absurd h List.not_mem_nil)⟩)⟩)⟩)⟩)⟩)⟩)⟩)⟩)⟩)⟩)⟩)⟩)⟩)⟩)⟩)⟩)⟩)⟩)⟩)⟩)⟩)⟩)⟩)⟩)⟩)⟩)⟩)⟩)⟩)⟩) (by decide)).trans (by kernel_rfl)
        clear hF hall
        subst hT
        clear hW h100 h114
        go_wp2_with fail
        go_ret
        exact ⟨rfl, hB.out⟩
    · go_upto_region 14 with (first
        | (go_at_call 12; refine cE8.out.mono ?_; rintro r w10 ⟨rfl, hb10⟩
           have hb10h := Lib.hid hb10
           have ck := Lib.hid (hck.out w10 hb10)
           clear hb10)
        | (go_at_call 20; refine ck.out.mono ?_; rintro r w11 ⟨rfl, hb11⟩
           have hb11h := Lib.hid (hb10h.out.trans (hb11.mono hb10h.out.size))
           clear hb11)
        | (go_at_call 21; refine (cRR.out _).mono ?_; rintro r w9 ⟨rfl, hb12⟩
           have hb12h := Lib.hid (hb11h.out.trans (hb12.mono hb11h.out.size))
           clear hb12))
      have hS9 := Lib.hid (hS8.out.keep hb12h.out)
      have hr9 := Lib.hid ((hb12h.out.block w.heap.size (Array.getElem?_eq_some_iff.1 hr8.out).1).trans hr8.out)
      generalize hyo : bs (encO fo) = yo at *
      generalize hyf : bs (encO ho) = yf at *
      have hyoh := Lib.hid hyo
      have hyfh := Lib.hid hyf
      clear hyo hyf cE8 hck hS8
      refine region_iw tbSrb dsSrb (vsSrb g (w.heap.size) i2 i3 z1 y1 yG yo yf) (fun L T W => Stay w9 W ∧ Below W1.heap.size W1 W ∧ (L 6 = false → Below w9.heap.size w9 W) ∧ (L 6 = true → L 7 = false → ∃ (L2 : List Tm) (x2 : Int), T.getD 100 undef = .int .i64 x2 ∧ St W1 g W L2 ∧ L2.length ≤ 23 ∧ Nm L2 x2 fo) ∧ (L 6 = true → L 20 = false → ∃ (L2 : List Tm), St W1 g W L2 ∧ L2.length ≤ 23) ∧ (L 20 = true → L 21 = false → ∃ (L2 : List Tm) (x2 : Int), T.getD 114 undef = .int .i64 x2 ∧ St W1 g W L2 ∧ Nm L2 x2 ho)) rfl (by decide) (by kernel_rfl) ?hlt ?hstep ?hdone ?hstart
      case hstart => exact ⟨Stay.of_below (drewN_below 1), hS9.out.below.trans (Below.mono (drewN_below 1) hS9.out.below.size), fun _ => drewN_below 1, fun h => absurd h (inv_not (n := 30) (i := 6) (by decide)), fun h => absurd h (inv_not (n := 30) (i := 6) (by decide)), fun h => absurd h (inv_not (n := 30) (i := 20) (by decide))⟩
      case hlt =>
        intro ix o ho
        have hi := (Array.getElem?_eq_some_iff.1 ho).1
        match ix, hi with
        | 0, _ => obtain rfl := Option.some.inj ho; decide
        | 1, _ => obtain rfl := Option.some.inj ho; decide
        | 2, _ => obtain rfl := Option.some.inj ho; decide
        | 3, _ => obtain rfl := Option.some.inj ho; decide
        | 4, _ => obtain rfl := Option.some.inj ho; decide
        | 5, _ => obtain rfl := Option.some.inj ho; decide
        | 6, _ => obtain rfl := Option.some.inj ho; decide
        | 7, _ => obtain rfl := Option.some.inj ho; decide
        | 8, _ => obtain rfl := Option.some.inj ho; decide
        | 9, _ => obtain rfl := Option.some.inj ho; decide
        | 10, _ => obtain rfl := Option.some.inj ho; decide
        | 11, _ => obtain rfl := Option.some.inj ho; decide
        | 12, _ => obtain rfl := Option.some.inj ho; decide
        | 13, _ => obtain rfl := Option.some.inj ho; decide
        | 14, _ => obtain rfl := Option.some.inj ho; decide
        | 15, _ => obtain rfl := Option.some.inj ho; decide
        | 16, _ => obtain rfl := Option.some.inj ho; decide
        | 17, _ => obtain rfl := Option.some.inj ho; decide
        | 18, _ => obtain rfl := Option.some.inj ho; decide
        | 19, _ => obtain rfl := Option.some.inj ho; decide
        | 20, _ => obtain rfl := Option.some.inj ho; decide
        | 21, _ => obtain rfl := Option.some.inj ho; decide
        | 22, _ => obtain rfl := Option.some.inj ho; decide
        | 23, _ => obtain rfl := Option.some.inj ho; decide
        | 24, _ => obtain rfl := Option.some.inj ho; decide
        | 25, _ => obtain rfl := Option.some.inj ho; decide
        | 26, _ => obtain rfl := Option.some.inj ho; decide
        | 27, _ => obtain rfl := Option.some.inj ho; decide
        | 28, _ => obtain rfl := Option.some.inj ho; decide
        | 29, _ => obtain rfl := Option.some.inj ho; decide
      case hstep =>
        intro T1 hE L T W ix o hF hW hc ho hLi hd K hK
        have hN : T1.size = 123 := by rw [hE]; rfl
        have f2 : T.getD 2 undef = .string yG := (hF.old 2 (by decide)).trans (by rw [hE]; rfl)
        have f4 : T.getD 4 undef = .pointer (some ⟨(w.heap.size), 0, none⟩) := (hF.old 4 (by decide)).trans (by rw [hE]; rfl)
        have f7 : T.getD 7 undef = .pointer (some ⟨g, 0, none⟩) := (hF.old 7 (by decide)).trans (by rw [hE]; rfl)
        have f11 : T.getD 11 undef = .int .i64 z1 := (hF.old 11 (by decide)).trans (by rw [hE]; rfl)
        have f12 : T.getD 12 undef = .string y1 := (hF.old 12 (by decide)).trans (by rw [hE]; rfl)
        clear hE
        replace hF := Lib.hid hF
        replace hW := Lib.hid hW
        replace hK := Lib.hid hK
        have hi := (List.getElem?_eq_some_iff.1 ho).1
        match ix, hi with
        | 0, _ =>
          obtain rfl := Option.some.inj ho
          have n6 : ¬ L 6 = true := fun h => by have := hc 1 0 (hc 6 1 h (by decide)) (by decide); rw [hLi] at this; cases this
          have n7 : ¬ L 7 = true := fun h => n6 (hc 7 6 h (by decide))
          have n10 : ¬ L 10 = true := fun h => n7 (hc 10 7 h (by decide))
          have n20 : ¬ L 20 = true := fun h => n10 (hc 13 10 (hc 20 13 h (by decide)) (by decide))
          have cc := Lib.hid (cA.out W)
          clear hd ho hi hc
          refine st_call (want_none rfl) (by unfold execOp; go_simp) cc.out ?_
          rintro r w3 ⟨rfl, hb4⟩
          exact ⟨_, rfl, hK.out _ _ (hF.out.put (k := 0) (s := 94) rfl (by decide) hN (by decide) (fun u hu => Option.some.inj (Option.some.inj (show some (some (.bool true)) = some (some u) from hu))) ⟨hW.out.1.trans (Stay.of_below hb4), (hW.out.2.1.trans (Below.mono hb4 hW.out.2.1.size)), fun _ => (hW.out.2.2.1 (by simpa using n6)).trans (Below.mono hb4 (hW.out.2.2.1 (by simpa using n6)).size), fun h => absurd h n6, fun h => absurd h n6, fun h => absurd h n20⟩)⟩
        | 1, _ =>
          obtain rfl := Option.some.inj ho
          have l0 : L 0 = true := dep_of hd (n := 0) (by decide)
          have e94 : T.getD 94 undef = .bool true := hF.out.val 0 94 _ l0 rfl rfl
          clear hd ho hi hc hLi
          exact st_val (v := .bool true) (w' := W) (want_none rfl) (by unfold execOp; dsimp only [Act.eval]; simp only [e94]; go_simp) (hK.out _ _ (hF.out.put (k := 1) (s := 95) rfl (by decide) hN (by decide) (fun u hu => Option.some.inj (Option.some.inj (show some (some (.bool true)) = some (some u) from hu))) (by dsimp only; rw [gd_ne (show 95 ≠ 100 by decide), gd_ne (show 95 ≠ 114 by decide)]; exact hW.out)))
        | 2, _ =>
          obtain rfl := Option.some.inj ho
          have l1 : L 1 = true := dep_of hd (n := 1) (by decide)
          have e95 : T.getD 95 undef = .bool true := hF.out.val 1 95 _ l1 rfl rfl
          clear hd ho hi hc hLi
          exact st_val (v := .pointer (some ⟨g, 0, none⟩)) (w' := W) (by rw [want_some (j := 1) (s := 95) rfl rfl e95]; rfl) (by unfold execOp; dsimp only [Act.eval]; simp only [f7]; go_simp) (hK.out _ _ (hF.out.put (k := 2) (s := 96) rfl (by decide) hN (by decide) (fun u hu => Option.some.inj (Option.some.inj (show some (some (.pointer (some ⟨g, 0, none⟩))) = some (some u) from hu))) (by dsimp only; rw [gd_ne (show 96 ≠ 100 by decide), gd_ne (show 96 ≠ 114 by decide)]; exact hW.out)))
        | 3, _ =>
          obtain rfl := Option.some.inj ho
          have l1 : L 1 = true := dep_of hd (n := 1) (by decide)
          have e95 : T.getD 95 undef = .bool true := hF.out.val 1 95 _ l1 rfl rfl
          clear hd ho hi hc hLi
          exact st_val (v := .pointer (some ⟨g, 0, none⟩)) (w' := W) (by rw [want_some (j := 1) (s := 95) rfl rfl e95]; rfl) (by unfold execOp; dsimp only [Act.eval]; simp only [f7]; go_simp) (hK.out _ _ (hF.out.put (k := 3) (s := 97) rfl (by decide) hN (by decide) (fun u hu => Option.some.inj (Option.some.inj (show some (some (.pointer (some ⟨g, 0, none⟩))) = some (some u) from hu))) (by dsimp only; rw [gd_ne (show 97 ≠ 100 by decide), gd_ne (show 97 ≠ 114 by decide)]; exact hW.out)))
        | 4, _ =>
          obtain rfl := Option.some.inj ho
          have l1 : L 1 = true := dep_of hd (n := 1) (by decide)
          have e95 : T.getD 95 undef = .bool true := hF.out.val 1 95 _ l1 rfl rfl
          clear hd ho hi hc hLi
          exact st_val (v := .string yG) (w' := W) (by rw [want_some (j := 1) (s := 95) rfl rfl e95]; rfl) (by unfold execOp; dsimp only [Act.eval]; simp only [f2]; go_simp) (hK.out _ _ (hF.out.put (k := 4) (s := 98) rfl (by decide) hN (by decide) (fun u hu => Option.some.inj (Option.some.inj (show some (some (.string yG)) = some (some u) from hu))) (by dsimp only; rw [gd_ne (show 98 ≠ 100 by decide), gd_ne (show 98 ≠ 114 by decide)]; exact hW.out)))
        | 5, _ =>
          obtain rfl := Option.some.inj ho
          have l1 : L 1 = true := dep_of hd (n := 1) (by decide)
          have e95 : T.getD 95 undef = .bool true := hF.out.val 1 95 _ l1 rfl rfl
          clear hd ho hi hc hLi
          exact st_val (v := .int .i64 z1) (w' := W) (by rw [want_some (j := 1) (s := 95) rfl rfl e95]; rfl) (by unfold execOp; dsimp only [Act.eval]; simp only [f11]; go_simp) (hK.out _ _ (hF.out.put (k := 5) (s := 99) rfl (by decide) hN (by decide) (fun u hu => Option.some.inj (Option.some.inj (show some (some (.int .i64 z1)) = some (some u) from hu))) (by dsimp only; rw [gd_ne (show 99 ≠ 100 by decide), gd_ne (show 99 ≠ 114 by decide)]; exact hW.out)))
        | 6, _ =>
          obtain rfl := Option.some.inj ho
          have l3 : L 3 = true := dep_of hd (n := 3) (by decide)
          have e97 : T.getD 97 undef = .pointer (some ⟨g, 0, none⟩) := hF.out.val 3 97 _ l3 rfl rfl
          have l4 : L 4 = true := dep_of hd (n := 4) (by decide)
          have e98 : T.getD 98 undef = .string yG := hF.out.val 4 98 _ l4 rfl rfl
          have l5 : L 5 = true := dep_of hd (n := 5) (by decide)
          have e99 : T.getD 99 undef = .int .i64 z1 := hF.out.val 5 99 _ l5 rfl rfl
          have l1 : L 1 = true := dep_of hd (n := 1) (by decide)
          have e95 : T.getD 95 undef = .bool true := hF.out.val 1 95 _ l1 rfl rfl
          have n7 : ¬ L 7 = true := fun h => by have := hc 7 6 h (by decide); rw [hLi] at this; cases this
          have n10 : ¬ L 10 = true := fun h => n7 (hc 10 7 h (by decide))
          have n20 : ¬ L 20 = true := fun h => n10 (hc 13 10 (hc 20 13 h (by decide)) (by decide))
          have hb := hW.out.2.2.1 hLi
          have cc := Lib.hid ((hS9.out.keep hb).offer (by have := hL8.out; omega) G (by have := hGl.out; omega) z1 o1 nk1'.out)
          rw [hfoh.out, hyGh.out] at cc
          clear hd ho hi hc
          refine st_call (by rw [want_some (j := 1) (s := 95) rfl rfl e95]; rfl) (by unfold execOp; go_simp) cc.out ?_
          rintro r w3 ⟨L', x', rfl, a2, a3, a4, a5, a6⟩
          exact ⟨_, rfl, hK.out _ _ (hF.out.put (k := 6) (s := 100) rfl (by decide) hN (by decide) (fun u hu => by cases hu) ⟨hW.out.1.trans a5, a2.below, fun h => absurd h (by simp), fun _ _ => ⟨L', x', gd_eq (by rw [hF.out.size, hN]; decide), a2, (by have := a3.len; have := hL8.out; omega), a4⟩, fun _ _ => ⟨L', a2, (by have := a3.len; have := hL8.out; omega)⟩, fun h => absurd h n20⟩)⟩
        | 7, _ =>
          obtain rfl := Option.some.inj ho
          have l2 : L 2 = true := dep_of hd (n := 2) (by decide)
          have e96 : T.getD 96 undef = .pointer (some ⟨g, 0, none⟩) := hF.out.val 2 96 _ l2 rfl rfl
          have l6 : L 6 = true := dep_of hd (n := 6) (by decide)
          have l1 : L 1 = true := dep_of hd (n := 1) (by decide)
          have e95 : T.getD 95 undef = .bool true := hF.out.val 1 95 _ l1 rfl rfl
          have n10 : ¬ L 10 = true := fun h => by have := hc 10 7 h (by decide); rw [hLi] at this; cases this
          have n20 : ¬ L 20 = true := fun h => n10 (hc 13 10 (hc 20 13 h (by decide)) (by decide))
          obtain ⟨L2, x2, e100, s2, hl2, m2⟩ := hW.out.2.2.2.1 l6 hLi
          have cc := s2.encode x2
          rw [m2.1] at cc
          unfold TxR at cc
          rw [hyoh.out] at cc
          replace cc := Lib.hid cc
          replace s2 := Lib.hid s2
          clear hd ho hi hc
          refine st_call (by rw [want_some (j := 1) (s := 95) rfl rfl e95]; rfl) (by unfold execOp; go_simp) cc.out ?_
          rintro r w3 ⟨rfl, hb4⟩
          exact ⟨_, rfl, hK.out _ _ (hF.out.put (k := 7) (s := 101) rfl (by decide) hN (by decide) (fun u hu => Option.some.inj (Option.some.inj (show some (some (.string yo)) = some (some u) from hu))) ⟨hW.out.1.trans (Stay.of_below hb4), (hW.out.2.1.trans (Below.mono hb4 hW.out.2.1.size)), fun h => absurd (l6.symm.trans (show L 6 = false from h)) (by decide), fun _ h => absurd h (by simp), fun _ _ => ⟨L2, s2.out.keep hb4, hl2⟩, fun h => absurd h n20⟩)⟩
        | 8, _ =>
          obtain rfl := Option.some.inj ho
          have l1 : L 1 = true := dep_of hd (n := 1) (by decide)
          have e95 : T.getD 95 undef = .bool true := hF.out.val 1 95 _ l1 rfl rfl
          clear hd ho hi hc hLi
          exact st_val (v := .string yG) (w' := W) (by rw [want_some (j := 1) (s := 95) rfl rfl e95]; rfl) (by unfold execOp; dsimp only [Act.eval]; simp only [f2]; go_simp) (hK.out _ _ (hF.out.put (k := 8) (s := 102) rfl (by decide) hN (by decide) (fun u hu => Option.some.inj (Option.some.inj (show some (some (.string yG)) = some (some u) from hu))) (by dsimp only; rw [gd_ne (show 102 ≠ 100 by decide), gd_ne (show 102 ≠ 114 by decide)]; exact hW.out)))
        | 9, _ =>
          obtain rfl := Option.some.inj ho
          have l1 : L 1 = true := dep_of hd (n := 1) (by decide)
          have e95 : T.getD 95 undef = .bool true := hF.out.val 1 95 _ l1 rfl rfl
          clear hd ho hi hc hLi
          exact st_val (v := .string y1) (w' := W) (by rw [want_some (j := 1) (s := 95) rfl rfl e95]; rfl) (by unfold execOp; dsimp only [Act.eval]; simp only [f12]; go_simp) (hK.out _ _ (hF.out.put (k := 9) (s := 103) rfl (by decide) hN (by decide) (fun u hu => Option.some.inj (Option.some.inj (show some (some (.string y1)) = some (some u) from hu))) (by dsimp only; rw [gd_ne (show 103 ≠ 100 by decide), gd_ne (show 103 ≠ 114 by decide)]; exact hW.out)))
        | 10, _ =>
          obtain rfl := Option.some.inj ho
          have l8 : L 8 = true := dep_of hd (n := 8) (by decide)
          have e102 : T.getD 102 undef = .string yG := hF.out.val 8 102 _ l8 rfl rfl
          have l9 : L 9 = true := dep_of hd (n := 9) (by decide)
          have e103 : T.getD 103 undef = .string y1 := hF.out.val 9 103 _ l9 rfl rfl
          have l1 : L 1 = true := dep_of hd (n := 1) (by decide)
          have e95 : T.getD 95 undef = .bool true := hF.out.val 1 95 _ l1 rfl rfl
          have l7 : L 7 = true := dep_of hd (n := 7) (by decide)
          have e101 : T.getD 101 undef = .string yo := hF.out.val 7 101 _ l7 rfl rfl
          have l6 : L 6 = true := hc 7 6 l7 (by decide)
          have n20 : ¬ L 20 = true := fun h => by have := hc 13 10 (hc 20 13 h (by decide)) (by decide); rw [hLi] at this; cases this
          obtain ⟨L2, s2, hl2⟩ := hW.out.2.2.2.2.1 l6 (by simpa using n20)
          have cc := Lib.hid (cRO.out W)
          replace s2 := Lib.hid s2
          clear hd ho hi hc
          refine st_call (by rw [want_some (j := 1) (s := 95) rfl rfl e95]; rfl) (by unfold execOp; go_simp) cc.out ?_
          rintro r w3 ⟨rfl, hb4⟩
          exact ⟨_, rfl, hK.out _ _ (hF.out.put (k := 10) (s := 104) rfl (by decide) hN (by decide) (fun u hu => Option.some.inj (Option.some.inj (show some (some (.string yo)) = some (some u) from hu))) ⟨hW.out.1.trans (Stay.of_below hb4), (hW.out.2.1.trans (Below.mono hb4 hW.out.2.1.size)), fun h => absurd (l6.symm.trans (show L 6 = false from h)) (by decide), fun _ h => absurd (l7.symm.trans (show L 7 = false from h)) (by decide), fun _ _ => ⟨L2, s2.out.keep hb4, hl2⟩, fun h => absurd h n20⟩)⟩
        | 11, _ =>
          obtain rfl := Option.some.inj ho
          have l7 : L 7 = true := dep_of hd (n := 7) (by decide)
          have e101 : T.getD 101 undef = .string yo := hF.out.val 7 101 _ l7 rfl rfl
          have l10 : L 10 = true := dep_of hd (n := 10) (by decide)
          have e104 : T.getD 104 undef = .string yo := hF.out.val 10 104 _ l10 rfl rfl
          have l1 : L 1 = true := dep_of hd (n := 1) (by decide)
          have e95 : T.getD 95 undef = .bool true := hF.out.val 1 95 _ l1 rfl rfl
          clear hd ho hi hc hLi
          exact st_val (v := .bool true) (w' := W) (by rw [want_some (j := 1) (s := 95) rfl rfl e95]; rfl) (by unfold execOp; dsimp only [Act.eval]; simp only [e101, e104]; go_simp) (hK.out _ _ (hF.out.put (k := 11) (s := 105) rfl (by decide) hN (by decide) (fun u hu => Option.some.inj (Option.some.inj (show some (some (.bool true)) = some (some u) from hu))) (by dsimp only; rw [gd_ne (show 105 ≠ 100 by decide), gd_ne (show 105 ≠ 114 by decide)]; exact hW.out)))
        | 12, _ =>
          obtain rfl := Option.some.inj ho
          have l1 : L 1 = true := dep_of hd (n := 1) (by decide)
          have e95 : T.getD 95 undef = .bool true := hF.out.val 1 95 _ l1 rfl rfl
          have l11 : L 11 = true := dep_of hd (n := 11) (by decide)
          have e105 : T.getD 105 undef = .bool true := hF.out.val 11 105 _ l11 rfl rfl
          clear hd ho hi hc hLi
          exact st_val (v := .bool true) (w' := W) (want_none rfl) (by unfold execOp; dsimp only [Act.eval]; simp only [e95, e105]; go_simp) (hK.out _ _ (hF.out.put (k := 12) (s := 106) rfl (by decide) hN (by decide) (fun u hu => Option.some.inj (Option.some.inj (show some (some (.bool true)) = some (some u) from hu))) (by dsimp only; rw [gd_ne (show 106 ≠ 100 by decide), gd_ne (show 106 ≠ 114 by decide)]; exact hW.out)))
        | 13, _ =>
          obtain rfl := Option.some.inj ho
          have l12 : L 12 = true := dep_of hd (n := 12) (by decide)
          have e106 : T.getD 106 undef = .bool true := hF.out.val 12 106 _ l12 rfl rfl
          clear hd ho hi hc hLi
          exact st_val (v := .bool true) (w' := W) (want_none rfl) (by unfold execOp; dsimp only [Act.eval]; simp only [e106]; go_simp) (hK.out _ _ (hF.out.put (k := 13) (s := 107) rfl (by decide) hN (by decide) (fun u hu => Option.some.inj (Option.some.inj (show some (some (.bool true)) = some (some u) from hu))) (by dsimp only; rw [gd_ne (show 107 ≠ 100 by decide), gd_ne (show 107 ≠ 114 by decide)]; exact hW.out)))
        | 14, _ =>
          obtain rfl := Option.some.inj ho
          have l13 : L 13 = true := dep_of hd (n := 13) (by decide)
          have e107 : T.getD 107 undef = .bool true := hF.out.val 13 107 _ l13 rfl rfl
          clear hd ho hi hc hLi
          exact st_val (v := .pointer (some ⟨g, 0, none⟩)) (w' := W) (by rw [want_some (j := 13) (s := 107) rfl rfl e107]; rfl) (by unfold execOp; dsimp only [Act.eval]; simp only [f7]; go_simp) (hK.out _ _ (hF.out.put (k := 14) (s := 108) rfl (by decide) hN (by decide) (fun u hu => Option.some.inj (Option.some.inj (show some (some (.pointer (some ⟨g, 0, none⟩))) = some (some u) from hu))) (by dsimp only; rw [gd_ne (show 108 ≠ 100 by decide), gd_ne (show 108 ≠ 114 by decide)]; exact hW.out)))
        | 15, _ =>
          obtain rfl := Option.some.inj ho
          have l13 : L 13 = true := dep_of hd (n := 13) (by decide)
          have e107 : T.getD 107 undef = .bool true := hF.out.val 13 107 _ l13 rfl rfl
          clear hd ho hi hc hLi
          exact st_val (v := .pointer (some ⟨g, 0, none⟩)) (w' := W) (by rw [want_some (j := 13) (s := 107) rfl rfl e107]; rfl) (by unfold execOp; dsimp only [Act.eval]; simp only [f7]; go_simp) (hK.out _ _ (hF.out.put (k := 15) (s := 109) rfl (by decide) hN (by decide) (fun u hu => Option.some.inj (Option.some.inj (show some (some (.pointer (some ⟨g, 0, none⟩))) = some (some u) from hu))) (by dsimp only; rw [gd_ne (show 109 ≠ 100 by decide), gd_ne (show 109 ≠ 114 by decide)]; exact hW.out)))
        | 16, _ =>
          obtain rfl := Option.some.inj ho
          have l13 : L 13 = true := dep_of hd (n := 13) (by decide)
          have e107 : T.getD 107 undef = .bool true := hF.out.val 13 107 _ l13 rfl rfl
          clear hd ho hi hc hLi
          exact st_val (v := .pointer (some ⟨(w.heap.size), 2, none⟩)) (w' := W) (by rw [want_some (j := 13) (s := 107) rfl rfl e107]; rfl) (by unfold execOp; dsimp only [Act.eval]; simp only [f4]; go_simp) (hK.out _ _ (hF.out.put (k := 16) (s := 110) rfl (by decide) hN (by decide) (fun u hu => Option.some.inj (Option.some.inj (show some (some (.pointer (some ⟨(w.heap.size), 2, none⟩))) = some (some u) from hu))) (by dsimp only; rw [gd_ne (show 110 ≠ 100 by decide), gd_ne (show 110 ≠ 114 by decide)]; exact hW.out)))
        | 17, _ =>
          obtain rfl := Option.some.inj ho
          have l16 : L 16 = true := dep_of hd (n := 16) (by decide)
          have e110 : T.getD 110 undef = .pointer (some ⟨(w.heap.size), 2, none⟩) := hF.out.val 16 110 _ l16 rfl rfl
          have l13 : L 13 = true := dep_of hd (n := 13) (by decide)
          have e107 : T.getD 107 undef = .bool true := hF.out.val 13 107 _ l13 rfl rfl
          have hcc := cell_of_row W w.heap.size 2 _ _ _ (hW.out.1 _ _ _ _ hr9.out (by decide) (by decide) (by decide))
          clear hd ho hi hc hLi
          exact st_val (v := .int .i64 i2) (w' := W) (by rw [want_some (j := 13) (s := 107) rfl rfl e107]; rfl) (by unfold execOp; dsimp only [Act.eval]; simp only [e110]; go_simp) (hK.out _ _ (hF.out.put (k := 17) (s := 111) rfl (by decide) hN (by decide) (fun u hu => Option.some.inj (Option.some.inj (show some (some (.int .i64 i2)) = some (some u) from hu))) (by dsimp only; rw [gd_ne (show 111 ≠ 100 by decide), gd_ne (show 111 ≠ 114 by decide)]; exact hW.out)))
        | 18, _ =>
          obtain rfl := Option.some.inj ho
          have l13 : L 13 = true := dep_of hd (n := 13) (by decide)
          have e107 : T.getD 107 undef = .bool true := hF.out.val 13 107 _ l13 rfl rfl
          clear hd ho hi hc hLi
          exact st_val (v := .pointer (some ⟨(w.heap.size), 3, none⟩)) (w' := W) (by rw [want_some (j := 13) (s := 107) rfl rfl e107]; rfl) (by unfold execOp; dsimp only [Act.eval]; simp only [f4]; go_simp) (hK.out _ _ (hF.out.put (k := 18) (s := 112) rfl (by decide) hN (by decide) (fun u hu => Option.some.inj (Option.some.inj (show some (some (.pointer (some ⟨(w.heap.size), 3, none⟩))) = some (some u) from hu))) (by dsimp only; rw [gd_ne (show 112 ≠ 100 by decide), gd_ne (show 112 ≠ 114 by decide)]; exact hW.out)))
        | 19, _ =>
          obtain rfl := Option.some.inj ho
          have l18 : L 18 = true := dep_of hd (n := 18) (by decide)
          have e112 : T.getD 112 undef = .pointer (some ⟨(w.heap.size), 3, none⟩) := hF.out.val 18 112 _ l18 rfl rfl
          have l13 : L 13 = true := dep_of hd (n := 13) (by decide)
          have e107 : T.getD 107 undef = .bool true := hF.out.val 13 107 _ l13 rfl rfl
          have hcc := cell_of_row W w.heap.size 3 _ _ _ (hW.out.1 _ _ _ _ hr9.out (by decide) (by decide) (by decide))
          clear hd ho hi hc hLi
          exact st_val (v := .int .i64 i3) (w' := W) (by rw [want_some (j := 13) (s := 107) rfl rfl e107]; rfl) (by unfold execOp; dsimp only [Act.eval]; simp only [e112]; go_simp) (hK.out _ _ (hF.out.put (k := 19) (s := 113) rfl (by decide) hN (by decide) (fun u hu => Option.some.inj (Option.some.inj (show some (some (.int .i64 i3)) = some (some u) from hu))) (by dsimp only; rw [gd_ne (show 113 ≠ 100 by decide), gd_ne (show 113 ≠ 114 by decide)]; exact hW.out)))
        | 20, _ =>
          obtain rfl := Option.some.inj ho
          have l15 : L 15 = true := dep_of hd (n := 15) (by decide)
          have e109 : T.getD 109 undef = .pointer (some ⟨g, 0, none⟩) := hF.out.val 15 109 _ l15 rfl rfl
          have l17 : L 17 = true := dep_of hd (n := 17) (by decide)
          have e111 : T.getD 111 undef = .int .i64 i2 := hF.out.val 17 111 _ l17 rfl rfl
          have l19 : L 19 = true := dep_of hd (n := 19) (by decide)
          have e113 : T.getD 113 undef = .int .i64 i3 := hF.out.val 19 113 _ l19 rfl rfl
          have l13 : L 13 = true := dep_of hd (n := 13) (by decide)
          have e107 : T.getD 107 undef = .bool true := hF.out.val 13 107 _ l13 rfl rfl
          have l10 : L 10 = true := hc 13 10 l13 (by decide)
          have l7 : L 7 = true := hc 10 7 l10 (by decide)
          have l6 : L 6 = true := hc 7 6 l7 (by decide)
          have n21 : ¬ L 21 = true := fun h => by have := hc 21 20 h (by decide); rw [hLi] at this; cases this
          obtain ⟨L2, s2, hl2⟩ := hW.out.2.2.2.2.1 l6 hLi
          have cc := s2.fresh (by omega) i2 i3
          rw [hhoh.out] at cc
          replace cc := Lib.hid cc
          clear hd ho hi hc
          refine st_call (by rw [want_some (j := 13) (s := 107) rfl rfl e107]; rfl) (by unfold execOp; go_simp) cc.out ?_
          rintro r w3 ⟨L', x', rfl, a2, a3, a4, a5, a6, -⟩
          exact ⟨_, rfl, hK.out _ _ (hF.out.put (k := 20) (s := 114) rfl (by decide) hN (by decide) (fun u hu => by cases hu) ⟨hW.out.1.trans a5, a2.below, fun h => absurd (l6.symm.trans (show L 6 = false from h)) (by decide), fun _ h => absurd (l7.symm.trans (show L 7 = false from h)) (by decide), fun _ h => absurd h (by simp), fun _ _ => ⟨L', x', gd_eq (by rw [hF.out.size, hN]; decide), a2, a4⟩⟩)⟩
        | 21, _ =>
          obtain rfl := Option.some.inj ho
          have l14 : L 14 = true := dep_of hd (n := 14) (by decide)
          have e108 : T.getD 108 undef = .pointer (some ⟨g, 0, none⟩) := hF.out.val 14 108 _ l14 rfl rfl
          have l20 : L 20 = true := dep_of hd (n := 20) (by decide)
          have l13 : L 13 = true := dep_of hd (n := 13) (by decide)
          have e107 : T.getD 107 undef = .bool true := hF.out.val 13 107 _ l13 rfl rfl
          have l10 : L 10 = true := hc 13 10 l13 (by decide)
          have l7 : L 7 = true := hc 10 7 l10 (by decide)
          have l6 : L 6 = true := hc 7 6 l7 (by decide)
          obtain ⟨L2, x2, e114, s2, m2⟩ := hW.out.2.2.2.2.2 l20 hLi
          have cc := s2.encode x2
          rw [m2.1] at cc
          unfold TxR at cc
          rw [hyfh.out] at cc
          replace cc := Lib.hid cc
          clear hd ho hi hc
          refine st_call (by rw [want_some (j := 13) (s := 107) rfl rfl e107]; rfl) (by unfold execOp; go_simp) cc.out ?_
          rintro r w3 ⟨rfl, hb4⟩
          exact ⟨_, rfl, hK.out _ _ (hF.out.put (k := 21) (s := 115) rfl (by decide) hN (by decide) (fun u hu => Option.some.inj (Option.some.inj (show some (some (.string yf)) = some (some u) from hu))) ⟨hW.out.1.trans (Stay.of_below hb4), (hW.out.2.1.trans (Below.mono hb4 hW.out.2.1.size)), fun h => absurd (l6.symm.trans (show L 6 = false from h)) (by decide), fun _ h => absurd (l7.symm.trans (show L 7 = false from h)) (by decide), fun _ h => absurd (l20.symm.trans (show L 20 = false from h)) (by decide), fun _ h => absurd h (by simp)⟩)⟩
        | 22, _ =>
          obtain rfl := Option.some.inj ho
          have l13 : L 13 = true := dep_of hd (n := 13) (by decide)
          have e107 : T.getD 107 undef = .bool true := hF.out.val 13 107 _ l13 rfl rfl
          clear hd ho hi hc hLi
          exact st_val (v := .pointer (some ⟨(w.heap.size), 2, none⟩)) (w' := W) (by rw [want_some (j := 13) (s := 107) rfl rfl e107]; rfl) (by unfold execOp; dsimp only [Act.eval]; simp only [f4]; go_simp) (hK.out _ _ (hF.out.put (k := 22) (s := 116) rfl (by decide) hN (by decide) (fun u hu => Option.some.inj (Option.some.inj (show some (some (.pointer (some ⟨(w.heap.size), 2, none⟩))) = some (some u) from hu))) (by dsimp only; rw [gd_ne (show 116 ≠ 100 by decide), gd_ne (show 116 ≠ 114 by decide)]; exact hW.out)))
        | 23, _ =>
          obtain rfl := Option.some.inj ho
          have l22 : L 22 = true := dep_of hd (n := 22) (by decide)
          have e116 : T.getD 116 undef = .pointer (some ⟨(w.heap.size), 2, none⟩) := hF.out.val 22 116 _ l22 rfl rfl
          have l13 : L 13 = true := dep_of hd (n := 13) (by decide)
          have e107 : T.getD 107 undef = .bool true := hF.out.val 13 107 _ l13 rfl rfl
          have hcc := cell_of_row W w.heap.size 2 _ _ _ (hW.out.1 _ _ _ _ hr9.out (by decide) (by decide) (by decide))
          clear hd ho hi hc hLi
          exact st_val (v := .int .i64 i2) (w' := W) (by rw [want_some (j := 13) (s := 107) rfl rfl e107]; rfl) (by unfold execOp; dsimp only [Act.eval]; simp only [e116]; go_simp) (hK.out _ _ (hF.out.put (k := 23) (s := 117) rfl (by decide) hN (by decide) (fun u hu => Option.some.inj (Option.some.inj (show some (some (.int .i64 i2)) = some (some u) from hu))) (by dsimp only; rw [gd_ne (show 117 ≠ 100 by decide), gd_ne (show 117 ≠ 114 by decide)]; exact hW.out)))
        | 24, _ =>
          obtain rfl := Option.some.inj ho
          have l13 : L 13 = true := dep_of hd (n := 13) (by decide)
          have e107 : T.getD 107 undef = .bool true := hF.out.val 13 107 _ l13 rfl rfl
          clear hd ho hi hc hLi
          exact st_val (v := .pointer (some ⟨(w.heap.size), 3, none⟩)) (w' := W) (by rw [want_some (j := 13) (s := 107) rfl rfl e107]; rfl) (by unfold execOp; dsimp only [Act.eval]; simp only [f4]; go_simp) (hK.out _ _ (hF.out.put (k := 24) (s := 118) rfl (by decide) hN (by decide) (fun u hu => Option.some.inj (Option.some.inj (show some (some (.pointer (some ⟨(w.heap.size), 3, none⟩))) = some (some u) from hu))) (by dsimp only; rw [gd_ne (show 118 ≠ 100 by decide), gd_ne (show 118 ≠ 114 by decide)]; exact hW.out)))
        | 25, _ =>
          obtain rfl := Option.some.inj ho
          have l24 : L 24 = true := dep_of hd (n := 24) (by decide)
          have e118 : T.getD 118 undef = .pointer (some ⟨(w.heap.size), 3, none⟩) := hF.out.val 24 118 _ l24 rfl rfl
          have l13 : L 13 = true := dep_of hd (n := 13) (by decide)
          have e107 : T.getD 107 undef = .bool true := hF.out.val 13 107 _ l13 rfl rfl
          have hcc := cell_of_row W w.heap.size 3 _ _ _ (hW.out.1 _ _ _ _ hr9.out (by decide) (by decide) (by decide))
          clear hd ho hi hc hLi
          exact st_val (v := .int .i64 i3) (w' := W) (by rw [want_some (j := 13) (s := 107) rfl rfl e107]; rfl) (by unfold execOp; dsimp only [Act.eval]; simp only [e118]; go_simp) (hK.out _ _ (hF.out.put (k := 25) (s := 119) rfl (by decide) hN (by decide) (fun u hu => Option.some.inj (Option.some.inj (show some (some (.int .i64 i3)) = some (some u) from hu))) (by dsimp only; rw [gd_ne (show 119 ≠ 100 by decide), gd_ne (show 119 ≠ 114 by decide)]; exact hW.out)))
        | 26, _ =>
          obtain rfl := Option.some.inj ho
          have l23 : L 23 = true := dep_of hd (n := 23) (by decide)
          have e117 : T.getD 117 undef = .int .i64 i2 := hF.out.val 23 117 _ l23 rfl rfl
          have l25 : L 25 = true := dep_of hd (n := 25) (by decide)
          have e119 : T.getD 119 undef = .int .i64 i3 := hF.out.val 25 119 _ l25 rfl rfl
          have l13 : L 13 = true := dep_of hd (n := 13) (by decide)
          have e107 : T.getD 107 undef = .bool true := hF.out.val 13 107 _ l13 rfl rfl
          have l21 : L 21 = true := dep_of hd (n := 21) (by decide)
          have e115 : T.getD 115 undef = .string yf := hF.out.val 21 115 _ l21 rfl rfl
          have l20 : L 20 = true := hc 21 20 l21 (by decide)
          have l10 : L 10 = true := hc 13 10 l13 (by decide)
          have l7 : L 7 = true := hc 10 7 l10 (by decide)
          have l6 : L 6 = true := hc 7 6 l7 (by decide)
          have cc := Lib.hid (cRF.out W)
          clear hd ho hi hc
          refine st_call (by rw [want_some (j := 13) (s := 107) rfl rfl e107]; rfl) (by unfold execOp; go_simp) cc.out ?_
          rintro r w3 ⟨rfl, hb4⟩
          exact ⟨_, rfl, hK.out _ _ (hF.out.put (k := 26) (s := 120) rfl (by decide) hN (by decide) (fun u hu => Option.some.inj (Option.some.inj (show some (some (.string yf)) = some (some u) from hu))) ⟨hW.out.1.trans (Stay.of_below hb4), (hW.out.2.1.trans (Below.mono hb4 hW.out.2.1.size)), fun h => absurd (l6.symm.trans (show L 6 = false from h)) (by decide), fun _ h => absurd (l7.symm.trans (show L 7 = false from h)) (by decide), fun _ h => absurd (l20.symm.trans (show L 20 = false from h)) (by decide), fun _ h => absurd (l21.symm.trans (show L 21 = false from h)) (by decide)⟩)⟩
        | 27, _ =>
          obtain rfl := Option.some.inj ho
          have l21 : L 21 = true := dep_of hd (n := 21) (by decide)
          have e115 : T.getD 115 undef = .string yf := hF.out.val 21 115 _ l21 rfl rfl
          have l26 : L 26 = true := dep_of hd (n := 26) (by decide)
          have e120 : T.getD 120 undef = .string yf := hF.out.val 26 120 _ l26 rfl rfl
          have l13 : L 13 = true := dep_of hd (n := 13) (by decide)
          have e107 : T.getD 107 undef = .bool true := hF.out.val 13 107 _ l13 rfl rfl
          clear hd ho hi hc hLi
          exact st_val (v := .bool true) (w' := W) (by rw [want_some (j := 13) (s := 107) rfl rfl e107]; rfl) (by unfold execOp; dsimp only [Act.eval]; simp only [e115, e120]; go_simp) (hK.out _ _ (hF.out.put (k := 27) (s := 121) rfl (by decide) hN (by decide) (fun u hu => Option.some.inj (Option.some.inj (show some (some (.bool true)) = some (some u) from hu))) (by dsimp only; rw [gd_ne (show 121 ≠ 100 by decide), gd_ne (show 121 ≠ 114 by decide)]; exact hW.out)))
        | 28, _ =>
          obtain rfl := Option.some.inj ho
          have l13 : L 13 = true := dep_of hd (n := 13) (by decide)
          have e107 : T.getD 107 undef = .bool true := hF.out.val 13 107 _ l13 rfl rfl
          have l27 : L 27 = true := dep_of hd (n := 27) (by decide)
          have e121 : T.getD 121 undef = .bool true := hF.out.val 27 121 _ l27 rfl rfl
          clear hd ho hi hc hLi
          exact st_val (v := .bool true) (w' := W) (want_none rfl) (by unfold execOp; dsimp only [Act.eval]; simp only [e107, e121]; go_simp) (hK.out _ _ (hF.out.put (k := 28) (s := 122) rfl (by decide) hN (by decide) (fun u hu => Option.some.inj (Option.some.inj (show some (some (.bool true)) = some (some u) from hu))) (by dsimp only; rw [gd_ne (show 122 ≠ 100 by decide), gd_ne (show 122 ≠ 114 by decide)]; exact hW.out)))
        | 29, _ =>
          obtain rfl := Option.some.inj ho
          have l28 : L 28 = true := dep_of hd (n := 28) (by decide)
          have e122 : T.getD 122 undef = .bool true := hF.out.val 28 122 _ l28 rfl rfl
          clear hd ho hi hc hLi
          exact st_val (v := .bool true) (w' := W) (want_none rfl) (by unfold execOp; dsimp only [Act.eval]; simp only [e122]; go_simp) (hK.out _ _ (hF.out.put (k := 29) (s := 6) rfl (by decide) hN (by decide) (fun u hu => Option.some.inj (Option.some.inj (show some (some (.bool true)) = some (some u) from hu))) (by dsimp only; rw [gd_ne (show 6 ≠ 100 by decide), gd_ne (show 6 ≠ 114 by decide)]; exact hW.out)))
      case hdone =>
        intro L T W2 hF hW hall
        obtain ⟨x100, h100⟩ : ∃ x, T.getD 100 undef = x := ⟨_, rfl⟩
        obtain ⟨x114, h114⟩ : ∃ x, T.getD 114 undef = x := ⟨_, rfl⟩
        have hB := Lib.hid (hp.out.trans (hW.2.1.mono hp.out.size))
        have hT : T = #[.slice A n c, .agg #[.int .i64 i0, .int .i64 i1, .int .i64 i2, .int .i64 i3], .string yG, undef, .pointer (some ⟨(w.heap.size), 0, none⟩), undef, .bool true, .pointer (some ⟨g, 0, none⟩), .pointer (some ⟨q, 0, none⟩), .int .i64 z0, .string y0, .int .i64 z1, .string y1, .int .i64 z7, .int .i64 0, .string ys, .int .i64 5, .slice A n c, .bool true, .bool false, .bool false, .string yG, .int .i64 yG.size, .bool false, .bool false, undef, .pointer (some ⟨g, 0, none⟩), .pointer (some ⟨g, 0, none⟩), .slice A n c, .agg #[.slice AI n cI, .slice AT n cT], .tuple #[.int .i64 z0, .string y0], .agg #[.slice AI n cI, .slice AT n cT], .pointer (some ⟨(w.heap.size), 0, none⟩), .int .i64 i0, .tuple #[.int .i64 z0, .string y0], .int .i64 z0, .string y0, .tuple #[.int .i64 z1, .string y1], .agg #[.slice AI n cI, .slice AT n cT], .pointer (some ⟨(w.heap.size), 1, none⟩), .int .i64 i1, .tuple #[.int .i64 z1, .string y1], .int .i64 z1, .string y1, .tuple #[.int .i64 z7, .int .i64 0], .pointer (some ⟨g, 0, none⟩), .string yG, .int .i64 z0, .int .i64 z1, .tuple #[.int .i64 z7, .int .i64 0], .int .i64 z7, .int .i64 0, .string yG, .string y0, .string y1, .string ys, .pointer (some ⟨g, 0, none⟩), .int .i64 z7, .string ys, .string ys, .bool false, .bool false, .int .i64 0, .bool true, .string ys, .bool true, .bool false, .bool false, .bool false, .string ys, .bool false, .bool false, undef, undef, .bool false, .bool false, .pointer (some ⟨g, 0, none⟩), .string yG, .int .i64 z0, .int .i64 5, .int .i64 5, .bool false, .string yG, .string y0, .bool false, .bool false, .bool false, .int .i64 5, .bool true, .bool true, .int .i64 5, .bool false, .bool false, .bool false, .bool true, .bool true, .pointer (some ⟨g, 0, none⟩), .pointer (some ⟨g, 0, none⟩), .string yG, .int .i64 z1, x100, .string yo, .string yG, .string y1, .string yo, .bool true, .bool true, .bool true, .pointer (some ⟨g, 0, none⟩), .pointer (some ⟨g, 0, none⟩), .pointer (some ⟨(w.heap.size), 2, none⟩), .int .i64 i2, .pointer (some ⟨(w.heap.size), 3, none⟩), .int .i64 i3, x114, .string yf, .pointer (some ⟨(w.heap.size), 2, none⟩), .int .i64 i2, .pointer (some ⟨(w.heap.size), 3, none⟩), .int .i64 i3, .string yf, .bool true, .bool true] := (hF.fin [(94, .bool true), (95, .bool true), (96, .pointer (some ⟨g, 0, none⟩)), (97, .pointer (some ⟨g, 0, none⟩)), (98, .string yG), (99, .int .i64 z1), (100, x100), (101, .string yo), (102, .string yG), (103, .string y1), (104, .string yo), (105, .bool true), (106, .bool true), (107, .bool true), (108, .pointer (some ⟨g, 0, none⟩)), (109, .pointer (some ⟨g, 0, none⟩)), (110, .pointer (some ⟨(w.heap.size), 2, none⟩)), (111, .int .i64 i2), (112, .pointer (some ⟨(w.heap.size), 3, none⟩)), (113, .int .i64 i3), (114, x114), (115, .string yf), (116, .pointer (some ⟨(w.heap.size), 2, none⟩)), (117, .int .i64 i2), (118, .pointer (some ⟨(w.heap.size), 3, none⟩)), (119, .int .i64 i3), (120, .string yf), (121, .bool true), (122, .bool true), (6, .bool true)] [94, 95, 96, 97, 98, 99, 100, 101, 102, 103, 104, 105, 106, 107, 108, 109, 110, 111, 112, 113, 114, 115, 116, 117, 118, 119, 120, 121, 122, 6] rfl (List.forall_mem_cons.2 ⟨hF.val 0 _ _ (hall 0 (show 0 < 30 by decide)) rfl rfl, (List.forall_mem_cons.2 ⟨hF.val 1 _ _ (hall 1 (show 1 < 30 by decide)) rfl rfl, (List.forall_mem_cons.2 ⟨hF.val 2 _ _ (hall 2 (show 2 < 30 by decide)) rfl rfl, (List.forall_mem_cons.2 ⟨hF.val 3 _ _ (hall 3 (show 3 < 30 by decide)) rfl rfl, (List.forall_mem_cons.2 ⟨hF.val 4 _ _ (hall 4 (show 4 < 30 by decide)) rfl rfl, (List.forall_mem_cons.2 ⟨hF.val 5 _ _ (hall 5 (show 5 < 30 by decide)) rfl rfl, (List.forall_mem_cons.2 ⟨h100, (List.forall_mem_cons.2 ⟨hF.val 7 _ _ (hall 7 (show 7 < 30 by decide)) rfl rfl, (List.forall_mem_cons.2 ⟨hF.val 8 _ _ (hall 8 (show 8 < 30 by decide)) rfl rfl, (List.forall_mem_cons.2 ⟨hF.val 9 _ _ (hall 9 (show 9 < 30 by decide)) rfl rfl, (List.forall_mem_cons.2 ⟨hF.val 10 _ _ (hall 10 (show 10 < 30 by decide)) rfl rfl, (List.forall_mem_cons.2 ⟨hF.val 11 _ _ (hall 11 (show 11 < 30 by decide)) rfl rfl, (List.forall_mem_cons.2 ⟨hF.val 12 _ _ (hall 12 (show 12 < 30 by decide)) rfl rfl, (List.forall_mem_cons.2 ⟨hF.val 13 _ _ (hall 13 (show 13 < 30 by decide)) rfl rfl, (List.forall_mem_cons.2 ⟨hF.val 14 _ _ (hall 14 (show 14 < 30 by decide)) rfl rfl, (List.forall_mem_cons.2 ⟨hF.val 15 _ _ (hall 15 (show 15 < 30 by decide)) rfl rfl, (List.forall_mem_cons.2 ⟨hF.val 16 _ _ (hall 16 (show 16 < 30 by decide)) rfl rfl, (List.forall_mem_cons.2 ⟨hF.val 17 _ _ (hall 17 (show 17 < 30 by decide)) rfl rfl, (List.forall_mem_cons.2 ⟨hF.val 18 _ _ (hall 18 (show 18 < 30 by decide)) rfl rfl, (List.forall_mem_cons.2 ⟨hF.val 19 _ _ (hall 19 (show 19 < 30 by decide)) rfl rfl, (List.forall_mem_cons.2 ⟨h114, (List.forall_mem_cons.2 ⟨hF.val 21 _ _ (hall 21 (show 21 < 30 by decide)) rfl rfl, (List.forall_mem_cons.2 ⟨hF.val 22 _ _ (hall 22 (show 22 < 30 by decide)) rfl rfl, (List.forall_mem_cons.2 ⟨hF.val 23 _ _ (hall 23 (show 23 < 30 by decide)) rfl rfl, (List.forall_mem_cons.2 ⟨hF.val 24 _ _ (hall 24 (show 24 < 30 by decide)) rfl rfl, (List.forall_mem_cons.2 ⟨hF.val 25 _ _ (hall 25 (show 25 < 30 by decide)) rfl rfl, (List.forall_mem_cons.2 ⟨hF.val 26 _ _ (hall 26 (show 26 < 30 by decide)) rfl rfl, (List.forall_mem_cons.2 ⟨hF.val 27 _ _ (hall 27 (show 27 < 30 by decide)) rfl rfl, (List.forall_mem_cons.2 ⟨hF.val 28 _ _ (hall 28 (show 28 < 30 by decide)) rfl rfl, (List.forall_mem_cons.2 ⟨hF.val 29 _ _ (hall 29 (show 29 < 30 by decide)) rfl rfl, (fun _ h => absurd h List.not_mem_nil)⟩)⟩)⟩)⟩)⟩)⟩)⟩)⟩)⟩)⟩)⟩)⟩)⟩)⟩)⟩)⟩)⟩)⟩)⟩)⟩)⟩)⟩)⟩)⟩)⟩)⟩)⟩)⟩)⟩)⟩) (by decide)).trans (by kernel_rfl)
        clear hF hall
        subst hT
        clear hW h100 h114
        go_wp2_with fail
        go_ret
        exact ⟨rfl, hB.out⟩
end Go.Proofs.YtbeanjaenmpoeaaGreatDoor
