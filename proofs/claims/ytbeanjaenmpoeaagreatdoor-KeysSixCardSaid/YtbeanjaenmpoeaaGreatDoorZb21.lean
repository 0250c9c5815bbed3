/- Texts joined: what each shows stands ahead of its theorems. -/
import Derived.Test.YtbeanjaenmpoeaaGreatDoorZb18
import Derived.Test.YtbeanjaenmpoeaaGreatDoorZb20
import Derived.Test.YtbeanjaenmpoeaaGreatDoorZb11
import Derived.Test.YtbeanjaenmpoeaaGreatDoorZb0
import Derived.Test.YtbeanjaenmpoeaaGreatDoorProg
import Derived.KernelRfl
namespace Go.Proofs.YtbeanjaenmpoeaaGreatDoor
section
open Go.RowKit Go.Maps

set_option maxRecDepth 100000 in
set_option maxHeartbeats 8000000 in
theorem keysSix_any (ms : List Mk) (i0 i1 i2 : Int) (A : Option Addr) (n c : Nat) (w : World) (hn : n ≤ 9223372036854775807) (H : Rws w 5 A n (ms.map Mk.row)) :
    Calls Tryz.prog 3 #[.slice A n c, .agg #[.int .i64 i0, .int .i64 i1, .int .i64 i2]] w fun r w' => r = .returned (.bool true) ∧ Below w.heap.size w w' := by
  have hbW := below_new w (.cells #[.int .i64 i0, .int .i64 i1, .int .i64 i2] 23)
  have hx1 := heap_new w (.cells #[.int .i64 i0, .int .i64 i1, .int .i64 i2] 23)
  have H1 := H.keep hbW
  have hml : ms.length = n := by have := H.1; simpa using this
  obtain ⟨W1, hW1⟩ : ∃ W1, W1 = w.alloc (.cells #[.int .i64 i0, .int .i64 i1, .int .i64 i2] 23) := ⟨_, rfl⟩
  rw [← hW1] at hx1 hbW H1
  have hp := Lib.hid hbW
  have hx1h := Lib.hid hx1
  have cF := few_any ms A n c 20 W1 hn H1
  have cA := Lib.hid (fun W => awake21 W)
  have hW1h := Lib.hid hW1
  clear hbW hx1 H
  go_enter Tryz.func3, Tryz.ntmps3
  go_upto_region 1 with fail
  have hW1' := hW1h.out
  clear hW1 hW1h
  rw [← hW1']
  clear hW1'
  cases hf : fewB ms 20 with
  | false =>
    rw [hf] at cF
    replace cF := Lib.hid cF
    clear hf H1 hml
    go_wp2_with (first
      | (go_at_call 6; refine cF.out.mono ?_; rintro r w1 ⟨rfl, rfl⟩)
      | (go_at_call 7; refine (cA.out _).mono ?_; rintro r w1 ⟨rfl, hb⟩))
    go_ret
    exact ⟨rfl, hp.out.trans (hb.mono hp.out.size)⟩
  | true =>
    rw [hf] at cF
    obtain ⟨h20, h200⟩ := fewB_iff.1 hf
    have hn20 : n ≤ 20 := by omega
    replace cF := Lib.hid cF
    have cN := Lib.hid (tnew_any W1)
    have Hh := Lib.hid H1
    have h200 := Lib.hid h200
    have hmlh := Lib.hid hml
    clear hf H1 hml h20
    go_upto_region 4 with (first
      | (go_at_call 6; refine cF.out.mono ?_; rintro r w1 ⟨rfl, rfl⟩)
      | (go_at_call 8; refine cN.out.mono ?_; rintro r w1 ⟨A0, rfl, hN, hA, hb⟩
         have hS0 := St.start hN hA hb
         have cM := Lib.hid (makes_any (c := c) ms W1 w1 A0.g (by omega) h200.out Hh.out hS0)
         have hz1 := Lib.hid hb.size
         clear hN hA hb cN hS0 cF
         generalize A0.g = g at *))
    go_upto_region 5 with (first
      | (go_at_call 9; refine cM.out.mono ?_; rintro r w2 hR
         obtain ⟨AI, cI, AT, cT, l, L, rfl, hMd, hL, hnew, hone, hrow⟩ := md_new hmlh.out hz1.out hR
         unfold boxW at hMd
         have hMdh := Lib.hid hMd
         have hnewh := Lib.hid hnew
         have honeh := Lib.hid hone
         have hLn := Lib.hid hL
         clear hR hnew hone hrow cM hMd)
      | (refine wpList_store_at 31 _ _ rfl rfl w2.heap.size #[.slice AI n cI, .slice AT n cT] rfl rfl 31 #[.slice none 0 0, .slice none 0 0] hnewh.out (by kernel_rfl) rfl honeh.out ?_))
    generalize ((w2.alloc (.cells #[.slice none 0 0, .slice none 0 0] 31)).setRow w2.heap.size #[.slice AI n cI, .slice AT n cT]) = W4 at *
    generalize w2.heap.size = q at *
    clear hnewh honeh
    obtain ⟨os, hos⟩ : ∃ os, mksO ms [] = os := ⟨_, rfl⟩
    rw [hos] at hMdh
    clear hos
    have hB4 := Lib.hid hMdh.out.st.below
    have hxc := Lib.hid (fun W (h : Below W4.heap.size W4 W) (k : Nat) (v : Value) (hv : (#[.int .i64 i0, .int .i64 i1, .int .i64 i2] : Array Value)[k]? = some v) => (show W.cell? ⟨w.heap.size, k, none⟩ = some v from
      (cell_of_row W w.heap.size k _ _ _ ((h.block w.heap.size (Nat.lt_of_lt_of_le (Array.getElem?_eq_some_iff.1 hx1h.out).1 hB4.out.size)).trans ((hB4.out.block w.heap.size (Array.getElem?_eq_some_iff.1 hx1h.out).1).trans hx1h.out))).trans hv))
    have hpk := Lib.hid (fun W (h : Below W4.heap.size W4 W) (i : Int) => pick_any (c := cI) (d := cT) i W (by omega : n ≤ 1000) (hMdh.out.below h).made)
    have hrw := Lib.hid (fun W (h : Below W4.heap.size W4 W) => (hMdh.out.below h).row)
    have hok := Lib.hid (fun i : Int => pkO_all (P := fun o => okO o ∧ (encO o).length ≤ 131072) (os := os) i ⟨okO_none, by simp [encO]⟩ (fun o ho => ⟨hMdh.out.ml.ok hMdh.out.st.good o ho, hMdh.out.ml.small hMdh.out.st.good o ho⟩))
    have hnk := Lib.hid (fun i : Int => hMdh.out.ml.toNmL.pickN i)
    have hb4 := Lib.hid (Below.refl W4.heap.size W4)
    have x0 := hxc.out W4 hb4.out 0 _ rfl
    have r0 := Lib.hid (hrw.out W4 hb4.out)
    have p0 := Lib.hid (hpk.out W4 hb4.out i0)
    unfold madeV at p0
    go_upto_region 6 with (first
      | (refine wpList_load_at 31 _ rfl rfl q 0 rfl [.slice AI n cI, .slice AT n cT] _ r0.out Tryz.underlying31 rfl (by kernel_rfl) ?_)
      | (go_at_call 10; refine p0.out.mono ?_; rintro r w5 ⟨rfl, hbn⟩
         have hb5 := Lib.hid (hb4.out.trans (hbn.mono hb4.out.size))
         clear hbn))
    have nk0 := Lib.hid (hnk.out i0)
    have ok0 := Lib.hid (hok.out i0)
    generalize pkO os i0 = o0 at nk0 ok0 ⊢
    generalize pkI l i0 = z0 at nk0 ok0 ⊢
    clear x0 r0 p0
    have x1 := hxc.out w5 hb5.out 1 _ rfl
    have r1 := Lib.hid (hrw.out w5 hb5.out)
    have p1 := Lib.hid (hpk.out w5 hb5.out i1)
    unfold madeV at p1
    go_upto_region 7 with (first
      | (refine wpList_load_at 31 _ rfl rfl q 0 rfl [.slice AI n cI, .slice AT n cT] _ r1.out Tryz.underlying31 rfl (by kernel_rfl) ?_)
      | (go_at_call 10; refine p1.out.mono ?_; rintro r w6 ⟨rfl, hbn⟩
         have hb6 := Lib.hid (hb5.out.trans (hbn.mono hb5.out.size))
         clear hbn))
    have nk1 := Lib.hid (hnk.out i1)
    have ok1 := Lib.hid (hok.out i1)
    generalize pkO os i1 = o1 at nk1 ok1 ⊢
    generalize pkI l i1 = z1 at nk1 ok1 ⊢
    clear x1 r1 p1
    have x2 := hxc.out w6 hb6.out 2 _ rfl
    have r2 := Lib.hid (hrw.out w6 hb6.out)
    have p2 := Lib.hid (hpk.out w6 hb6.out i2)
    unfold madeV at p2
    go_upto_region 8 with (first
      | (refine wpList_load_at 31 _ rfl rfl q 0 rfl [.slice AI n cI, .slice AT n cT] _ r2.out Tryz.underlying31 rfl (by kernel_rfl) ?_)
      | (go_at_call 10; refine p2.out.mono ?_; rintro r w7 ⟨rfl, hbn⟩
         have hb7 := Lib.hid (hb6.out.trans (hbn.mono hb6.out.size))
         clear hbn))
    have nk2 := Lib.hid (hnk.out i2)
    have ok2 := Lib.hid (hok.out i2)
    generalize pkO os i2 = o2 at nk2 ok2 ⊢
    generalize pkI l i2 = z2 at nk2 ok2 ⊢
    clear x2 r2 p2
    have hS7 := hMdh.out.st.keep hb7.out
    have c6 := Lib.hid (six_any hS7 (by have := hLn.out; omega) z0 z1 z2 o0 o1 o2 nk0.out nk1.out nk2.out)
    have hw7 := Lib.hid hS7.below.size
    clear hS7 hxc hpk hrw hok hnk hb4 hb5 hb6
    go_upto_region 9 with (first
      | (go_at_call 11; refine c6.out.mono ?_; rintro r w3 ⟨l6, L6, rfl, hl, hS3, hE6, hl6, hN3, hY3, hz3⟩
         obtain ⟨z, b5, r5, a5⟩ := six_box w3 l6 hl
         have hz := Lib.hid z
         have hr5 := Lib.hid r5
         have hlh := Lib.hid hl
         have ha5 := Lib.hid a5
         have hS9 := Lib.hid (hS3.keep b5)
         have hN9 := Lib.hid hN3
         have hE9 := Lib.hid hE6
         have hl9 := Lib.hid (show L6.length ≤ 26 by have := hLn.out; omega)
         clear z b5 r5 a5 hS3 hN3 c6 hY3 hz3 hl hE6 hl6)
      | (refine wpList_alloc_row 36 rfl rfl (six0 []).toArray six_zero ?_; try simp only [World.size_alloc])
      | (refine wpList_store_at 36 _ _ rfl rfl w3.heap.size (l6.map (Value.int .i64)).toArray rfl rfl 36 (six0 []).toArray hz.out (six_info l6 hlh.out) (by simp [six0, hlh.out]) ha5.out ?_))
    generalize (w3.alloc (.cells (six0 []).toArray 36)).setRow w3.heap.size (l6.map (Value.int .i64)).toArray = w9 at *
    generalize w3.heap.size = p6 at *
    clear hz ha5
    have nk : Hid (Nm L6 z0 o0 ∧ Nm L6 z1 o1 ∧ Nm L6 z2 o2) := by
      obtain ⟨e, he⟩ := hE9.out
      rw [he]
      exact ⟨nk0.out.app, nk1.out.app, nk2.out.app⟩
    have hky := Lib.hid (fun (b : Nat) (hb : b < 256) W => rKey21_any b o0 o1 o2 hb ok0.out.2 ok1.out.2 ok2.out.2 W)
    have hwy := Lib.hid (fun (up : Bool) W => rWay_any up o0 o1 o2 ok0.out.2 ok1.out.2 ok2.out.2 W)
    unfold TxR at hky hwy
    generalize hy0 : bs (encO o0) = y0 at *
    generalize hy1 : bs (encO o1) = y1 at *
    generalize hy2 : bs (encO o2) = y2 at *
    clear hy0 hy1 hy2 nk0 nk1 nk2 ok0 ok1 ok2 hE9 hMdh
    go_upto_region 10 with fail
    have hB0 := Lib.hid (Below.refl w9.heap.size w9)
    go_loopw [14] (fun iv wr => ∃ i : Nat, i ≤ 6 ∧ iv = .int .i64 i ∧ Hid (Below w9.heap.size w9 wr)) (fun iv _ => 6 - (intOf iv).toNat)
    case atStart => exact ⟨0, by omega, rfl, hB0⟩
    case round =>
      clear hB0
      obtain ⟨i, hi, rfl, hB⟩ := hrel
      by_cases hlt : i < 6
      · obtain ⟨x, hx⟩ : ∃ x, l6[i]? = some x := ⟨l6[i]'(by have := hlh.out; omega), List.getElem?_eq_getElem _⟩
        have hc6 : wr.cell? ⟨p6, i, none⟩ = some (.int .i64 x) := (cell_of_row wr p6 i _ _ _ ((hB.out.block p6 (Array.getElem?_eq_some_iff.1 hr5.out).1).trans hr5.out)).trans (by rw [List.getElem?_toArray, List.getElem?_map, hx]; rfl)
        have cE := (hS9.out.keep hB.out).encode x
        rw [(hN9.out.nm i x _ hx (sixT_at _ _ _ hlt)).1] at cE
        have cK := hky.out (65 + i) (by omega)
        unfold TxR at cE
        have hwr : IntKind.u8.wrap (65 + (i : Int)) = 65 + (i : Int) := by rw [IntKind.wrap_u8]; omega
        have cK : ∀ W, Calls Tryz.prog 13 #[.int .u8 (65 + (i : Int)), .string y0, .string y1, .string y2] W fun r w' => r = .returned (.string (bs (encO (deriveT (65 + i) o0 o1 o2)))) ∧ Below W.heap.size W w' := fun W => by have := cK W; rwa [Int.natCast_add] at this
        replace cE := Lib.hid cE
        replace cK := Lib.hid cK
        generalize bs (encO (deriveT (65 + i) o0 o1 o2)) = yk at *
        clear hx
        go_wp2_with (first
          | (go_at_call 12; refine cE.out.mono ?_; rintro r w5 ⟨rfl, hb5⟩)
          | (go_at_call 13; refine (cK.out _).mono ?_; rintro r w6 ⟨rfl, hb6⟩
             have hBn := Lib.hid (hB.out.trans ((hb5.trans (hb6.mono hb5.size)).mono hB.out.size))
             clear hb5 hb6))
        go_roundw
        case rel => exact ⟨i + 1, by omega, by go_num, hBn⟩
        case measure => simp [intOf]; omega
      · have hi6 : i = 6 := by omega
        subst hi6
        have hS10 := hS9.out.keep hB.out
        have cB := Lib.hid (both_any hS10 (by have := hl9.out; omega) z0 z1 z2 o0 o1 o2 nk.out.1 nk.out.2.1 nk.out.2.2)
        have hr10 := Lib.hid ((hB.out.block p6 (Array.getElem?_eq_some_iff.1 hr5.out).1).trans hr5.out)
        clear hS10 hlt hi hky
        go_upto_region 15 with (go_at_call 14; refine cB.out.mono ?_; rintro r w11 ⟨p, q', L11, rfl, hS11, hE11, hl11, hp1, hq1, hY11, hz11⟩)
        have hr11 := Lib.hid (hY11 _ _ _ _ hr10.out (by decide) (by decide) (by decide))
        have hS11h := Lib.hid hS11
        have hl11h := Lib.hid (show L11.length ≤ 34 by have := hl9.out; omega)
        have hpq := Lib.hid (And.intro hp1 hq1)
        have hN11 : Hid (NmL L11 l6 (sixT o0 o1 o2)) := by obtain ⟨e, he⟩ := hE11; rw [he]; exact hN9.out.app
        clear hS11 hE11 hl11 hp1 hq1 hY11 hz11 cB hr10 hr5
        generalize hyu : bs (encO (wayT true o0 o1 o2)) = yu at *
        generalize hyd : bs (encO (wayT false o0 o1 o2)) = yd at *
        have cU := hwy.out true
        have cD := hwy.out false
        rw [hyu] at cU
        rw [hyd] at cD
        replace cU := Lib.hid cU
        replace cD := Lib.hid cD
        go_upto_region 16 with (first
          | (go_at_call 15; (with_reducible refine (cU.out _).mono ?_); rintro r w12 ⟨rfl, hb12⟩)
          | (go_at_call 15; (with_reducible refine (cD.out _).mono ?_); rintro r w13 ⟨rfl, hb13⟩
             have hb13h := Lib.hid (hb12.trans (hb13.mono hb12.size))
             clear hb12 hb13))
        have hEn := Lib.hid (fun W (h : Below w11.heap.size w11 W) (x : Int) (o : Option Tm) (hx : Nm L11 x o) => (show Calls Tryz.prog 12 #[.pointer (some ⟨g, 0, none⟩), .int .i64 x] W (fun r w' => r = .returned (.string (bs (encO o))) ∧ Below W.heap.size W w') from by have h1 := (hS11h.out.keep h).encode x; rw [hx.1] at h1; exact h1))
        have hEu := Lib.hid (fun W h => hEn.out W h p _ hpq.out.1)
        have hEd := Lib.hid (fun W h => hEn.out W h q' _ hpq.out.2)
        rw [hyu] at hEu
        rw [hyd] at hEd
        clear hwy cU cD hyu hyd hEn
        obtain ⟨a0, a1, a2, a3, a4, a5, rfl⟩ : ∃ a0 a1 a2 a3 a4 a5, l6 = [a0, a1, a2, a3, a4, a5] := by
          match l6, hlh.out with
          | [a0, a1, a2, a3, a4, a5], _ => exact ⟨a0, a1, a2, a3, a4, a5, rfl⟩
        have hr11' : Hid (w11.heap[p6]? = some (.cells #[.int .i64 a0, .int .i64 a1, .int .i64 a2, .int .i64 a3, .int .i64 a4, .int .i64 a5] 36 (0, 0))) := hr11.out
        clear hr11
        go_wp2_with (first
          | (go_at_call 7; refine (cA.out _).mono ?_; rintro r w14 ⟨rfl, hb14⟩
             have hb14h := Lib.hid (hb13h.out.trans (hb14.mono hb13h.out.size))
             have e1 := Lib.hid (hEu.out w14 hb14h.out)
             clear hb14)
          | (go_at_call 12; (with_reducible refine e1.out.mono ?_); rintro r w15 ⟨rfl, hb15⟩
             have hb15h := Lib.hid (hb14h.out.trans (hb15.mono hb14h.out.size))
             have e2 := Lib.hid (hEd.out w15 hb15h.out)
             clear hb15 e1)
          | (go_at_call 12; (with_reducible refine e2.out.mono ?_); rintro r w16 ⟨rfl, hb16⟩
             have hb16h := Lib.hid (hb15h.out.trans (hb16.mono hb15h.out.size))
             have rA := Lib.hid (rangeAt_list ((hb16h.out.block p6 (Array.getElem?_eq_some_iff.1 hr11'.out).1).trans hr11'.out))
             have wA := Lib.hid (kway_any (hS11h.out.keep hb16h.out) (by have := hl11h.out; omega) true a0 a1 a2 a3 a4 a5 o0 o1 o2 hN11.out)
             clear hb16 e2)
          | (refine wpList_load_at 36 _ rfl rfl p6 0 rfl [.int .i64 a0, .int .i64 a1, .int .i64 a2, .int .i64 a3, .int .i64 a4, .int .i64 a5] _ rA.out Tryz.underlying36 rfl (by kernel_rfl) ?_)
          | (go_at_call 16; (with_reducible refine wA.out.mono ?_); rintro r w17 ⟨L17, p', rfl, hS17, hG17, hM17, hY17, hz17, -⟩
             obtain rfl : p' = p := (Nm.inj hS17.good.once hM17 (hpq.out.1.grow hG17)).2 rfl
             have rB := Lib.hid (rangeAt_list (hY17 _ _ _ _ ((hb16h.out.block p6 (Array.getElem?_eq_some_iff.1 hr11'.out).1).trans hr11'.out) (by decide) (by decide) (by decide)))
             have wB := Lib.hid (kway_any hS17 (by have := hG17.len; have := hl11h.out; omega) false a0 a1 a2 a3 a4 a5 o0 o1 o2 (hN11.out.grow hG17))
             have hq17 := Lib.hid (hpq.out.2.grow hG17)
             clear hS17 hG17 hM17 hY17 hz17 wA rA)
          | (refine wpList_load_at 36 _ rfl rfl p6 0 rfl [.int .i64 a0, .int .i64 a1, .int .i64 a2, .int .i64 a3, .int .i64 a4, .int .i64 a5] _ rB.out Tryz.underlying36 rfl (by kernel_rfl) ?_)
          | (go_at_call 16; (with_reducible refine wB.out.mono ?_); rintro r w18 ⟨L18, q2, rfl, hS18, hG18, hM18, -, -, -⟩
             obtain rfl : q2 = q' := (Nm.inj hS18.good.once hM18 (hq17.out.grow hG18)).2 rfl
             have hBz := Lib.hid hS18.below
             clear hS18 hG18 hM18 wB rB))
        go_ret
        exact ⟨rfl, hp.out.trans (hBz.out.mono hp.out.size)⟩
end

section
open Go.ChangeShapes Go.WideShapes Go.ChangeAt Go.RowKit

theorem tri_int_flat : flatDesc Tryz.prog 3 23 = some [.int .i64, .int .i64, .int .i64] := by kernel_rfl
theorem i64_of {v : Value} (h : cellOk (.int .i64) v) : ∃ n : Int, v = .int .i64 n ∧ -9223372036854775808 ≤ n ∧ n ≤ 9223372036854775807 := by
  obtain ⟨n, rfl, h1, h2⟩ := h
  have h1 : -9223372036854775808 ≤ n := h1
  have h2 : n ≤ 9223372036854775807 := h2
  exact ⟨n, rfl, h1, h2⟩
set_option maxRecDepth 100000 in
theorem open_tri {H : Type} {enc : TypeId × Value → H} {w : World} {base : Nat} {spare : Nat → Bool} {held : Bool} {v : Value} {d : DataW H} {ps : List MemPlace} {r : Reach} {b0 : Nat}
    (hval : Value.okWide Tryz.prog w r b0 23 v) (h : DataW.Trod enc Tryz.prog w base spare held 23 v d ps) :
    ∃ X : List Int, v = .agg (X.map (Value.int .i64)).toArray ∧ X.length = 3 ∧ ∀ x ∈ X, -9223372036854775808 ≤ x ∧ x ≤ 9223372036854775807 := by
  obtain ⟨cs, rfl, _, _⟩ : ∃ cs, v = .agg cs ∧ cs.size = Tryz.prog.cellsOf 23 ∧ Row.okWide Tryz.prog w r b0 23 cs := by
    simpa [Value.okWide, Tryz.underlying23] using hval
  obtain ⟨l⟩ := cs
  obtain ⟨fuel, hf⟩ := h
  obtain ⟨hl, hc⟩ := flat_trod 3 _ _ _ _ _ tri_int_flat hf
  have e : (Value.agg ⟨l⟩).cells.toList = l := rfl
  rw [e] at hl hc
  match l, hl with
  | [c0, c1, c2], _ =>
    obtain ⟨a0, rfl, h0⟩ := i64_of (hc 0 _ _ rfl rfl)
    obtain ⟨a1, rfl, h1⟩ := i64_of (hc 1 _ _ rfl rfl)
    obtain ⟨a2, rfl, h2⟩ := i64_of (hc 2 _ _ rfl rfl)
    refine ⟨[a0, a1, a2], rfl, rfl, fun x hx => ?_⟩
    simp only [List.mem_cons, List.not_mem_nil, or_false] at hx
    rcases hx with rfl | rfl | rfl
    · exact h0
    · exact h1
    · exact h2
end

section
theorem three_of {X : List Int} (h : X.length = 3) : ∃ a b c, X = [a, b, c] := by
  match X, h with
  | [a, b, c], _ => exact ⟨a, b, c, rfl⟩
end
end Go.Proofs.YtbeanjaenmpoeaaGreatDoor
