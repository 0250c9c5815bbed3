/- TermViews: the walk of the law. (printed by wip/gen_mkv.py) -/
import Derived.Test.YtbeanjaenmpoeaaDoorZb13
namespace Go.Proofs.YtbeanjaenmpoeaaDoor
open Go.RowKit Go.Maps

/-- A node, laid in a new block. -/
theorem nd_box (w5 : World) (k a b : Nat) (s : List UInt8) (A : Option Addr) (m c : Nat) : (w5.alloc (.cells #[.int .i64 0, .int .i64 0, .int .i64 0, .string ⟨#[]⟩, .slice none 0 0] 59)).heap[w5.heap.size]? = some (.cells #[.int .i64 0, .int .i64 0, .int .i64 0, .string ⟨#[]⟩, .slice none 0 0] 59 (0, 0)) ∧ Below w5.heap.size w5 ((w5.alloc (.cells #[.int .i64 0, .int .i64 0, .int .i64 0, .string ⟨#[]⟩, .slice none 0 0] 59)).setRow w5.heap.size (ndC k a b s (.slice A m c)).toArray) ∧ ((w5.alloc (.cells #[.int .i64 0, .int .i64 0, .int .i64 0, .string ⟨#[]⟩, .slice none 0 0] 59)).setRow w5.heap.size (ndC k a b s (.slice A m c)).toArray).heap[w5.heap.size]? = some (.cells (ndC k a b s (.slice A m c)).toArray 59 (0, 0)) :=
  ⟨heap_new w5 _, below_setRow_ (below_new w5 _) (Nat.le_refl _) _, hsetRow _ _ _ _ _ _ (heap_new w5 _)⟩
theorem St.view_row {w : World} {g : Nat} {W : World} {L : List Tm} (h : St w g W L) (x : Int) : Calls Tryd.prog 28 #[.pointer (some ⟨g, 0, none⟩), .int .i64 x] W fun r w' => ∃ k a b s A m c, r = .returned (.tuple #[.agg (ndC k a b s (.slice A m c)).toArray, .bool (get L x).isSome]) ∧ Below W.heap.size W w' := by
  cases hg : get L x with
  | none =>
    refine (h.view_none x hg).mono ?_
    rintro r w' ⟨rfl, hb⟩
    exact ⟨0, 0, 0, [], none, 0, 0, rfl, hb⟩
  | some t =>
    refine (h.view_some x t hg).mono ?_
    rintro r w' ⟨A, c, xs, rfl, _, _, hb⟩
    exact ⟨_, _, _, _, _, _, _, rfl, hb⟩
noncomputable def ldNv (a : Addr) : Sem Value := loadVar 59 a
theorem ldNv_eq (a : Addr) : loadVar 59 a = ldNv a := rfl
theorem ldNv_run {w : World} {b o k a e : Nat} {s : List UInt8} {A : Option Addr} {m c : Nat} (h : w.rangeAt b o (ndC k a e s (.slice A m c))) : (ldNv ⟨b, o, none⟩).run Tryd.prog w = .ok (.agg (ndC k a e s (.slice A m c)).toArray) w := by
  unfold ldNv
  exact run_loadVar_mid (P := Tryd.prog) w b o 59 (ndC k a e s (.slice A m c)) _ h Tryd.underlying59 rfl (by kernel_rfl)
attribute [local go_sem ↓] ldMd_eq ldNv_eq
def dsMv : List (Option Nat) := [some 71, some 72, some 73, some 74, some 75, some 76, some 77, some 78, some 79, some 80, some 81, some 82, some 83, some 84, some 85, some 86, some 87, some 88, some 89, some 90, some 91, some 92, some 93, some 94, some 95, some 96, some 97, some 98, some 99, some 100, some 101, some 102, some 103, some 104, some 105, some 106, some 107, some 108, some 109, some 110, some 111, some 112]
def vsMv (t : Tm) (g : Nat) (q : Nat) (b : Nat) (off : Nat) (b' : Nat) (off' : Nat) (p8 : Nat) (j : Nat) (i : Nat) (n : Nat) (cI : Nat) (cT : Nat) (y : ByteArray) (Av : Option Addr) (cv : Nat) : List (Option Value) := [some (.bool true), some (.bool false), some (.bool false), some (.agg #[.slice (some ⟨b, off, none⟩) n cI, .slice (some ⟨b', off', none⟩) n cT]), some (.agg (ndC t.kind t.a t.b t.s (.slice Av t.args.length cv)).toArray), some (.pointer (some ⟨q, 1, none⟩)), some (.slice (some ⟨b', off', none⟩) n cT), some (.int .i64 ↑j), some (.pointer (some ⟨b', off' + j, none⟩)), some (.string y), none, some (.bool true), some (.bool false), some (.bool false), some (.bool false), some (.pointer (some ⟨g, 0, none⟩)), some (.pointer (some ⟨q, 0, none⟩)), some (.slice (some ⟨b, off, none⟩) n cI), some (.int .i64 ↑j), some (.pointer (some ⟨b, off + j, none⟩)), some (.int .i64 ↑i), some (.int .i64 ↑t.kind), some (.pointer (some ⟨p8, 0, none⟩)), some (.int .i64 ↑t.kind), some (.bool false), some (.bool false), some (.bool false), some (.pointer (some ⟨g, 0, none⟩)), some (.pointer (some ⟨q, 0, none⟩)), some (.slice (some ⟨b, off, none⟩) n cI), some (.int .i64 ↑j), some (.pointer (some ⟨b, off + j, none⟩)), some (.int .i64 ↑i), some (.int .i64 ↑y.size), some (.pointer (some ⟨q, 1, none⟩)), some (.slice (some ⟨b', off', none⟩) n cT), some (.int .i64 ↑j), some (.pointer (some ⟨b', off' + j, none⟩)), some (.string y), some (.int .i64 ↑y.size), some (.bool false), some (.bool false)]
set_option maxRecDepth 100000 in
set_option maxHeartbeats 8000000 in
theorem termViews_any (ms : List Mk) (xx : Int) (A : Option Addr) (n c : Nat) (w : World) (hn : n ≤ 9223372036854775807) (H : Rws w 5 A n (ms.map Mk.row)) (hxx : -9223372036854775808 ≤ xx ∧ xx ≤ 9223372036854775807) :
    Calls Tryd.prog 8 #[.slice A n c, .int .i64 xx] w fun r w' => r = .returned (.bool true) ∧ Below w.heap.size w w' := by
  have cF := few_any ms A n c 30 w hn H
  have cA := Lib.hid (fun W => awake01 W)
  have hml : ms.length = n := by have := H.1; simpa using this
  cases hf : fewB ms 30 with
  | false =>
    rw [hf] at cF
    have cF := Lib.hid cF
    clear hf H hml
    go_enter Tryd.func8, Tryd.ntmps8
    go_wp2_with (first
      | (go_at_call 19; refine cF.out.mono ?_; rintro r w1 ⟨rfl, rfl⟩)
      | (go_at_call 11; refine (cA.out _).mono ?_; rintro r w1 ⟨rfl, hb⟩))
    go_ret
    exact ⟨rfl, hb⟩
  | true =>
    rw [hf] at cF
    obtain ⟨h30, h200⟩ := fewB_iff.1 hf
    have hn30 : n ≤ 30 := by omega
    have cF := Lib.hid cF
    have cN := Lib.hid (tnew_any w)
    have Hh := Lib.hid H
    have h200 := Lib.hid h200
    have hmlh := Lib.hid hml
    clear hf H hml h30
    go_enter Tryd.func8, Tryd.ntmps8
    go_upto_region 4 with (first
      | (go_at_call 19; refine cF.out.mono ?_; rintro r w1 ⟨rfl, rfl⟩)
      | (go_at_call 12; refine cN.out.mono ?_; rintro r w1 ⟨A0, rfl, hN, hA, hb⟩
         have hS0 := St.start hN hA hb
         have cM := Lib.hid (makes_any (c := c) ms w w1 A0.g (by omega) h200.out Hh.out hS0)
         have hz1 := Lib.hid hb.size
         clear hN hA hb cN hS0 cF
         generalize A0.g = g at *))
    go_upto_region 5 with (first
      | (go_at_call 20; refine cM.out.mono ?_; rintro r w2 hR
         obtain ⟨AI, cI, AT, cT, l, L, rfl, hMd, hL, hnew, hone, hrow⟩ := md_new hmlh.out hz1.out hR
         unfold boxW at hMd
         have hMdh := Lib.hid hMd
         have hnewh := Lib.hid hnew
         have honeh := Lib.hid hone
         clear hR hnew hone hrow cM hMd)
      | (refine wpList_store_at 43 _ _ rfl rfl w2.heap.size #[.slice AI n cI, .slice AT n cT] rfl rfl 43 #[.slice none 0 0, .slice none 0 0] hnewh.out (by kernel_rfl) rfl honeh.out ?_))
    generalize ((w2.alloc (.cells #[.slice none 0 0, .slice none 0 0] 43)).setRow w2.heap.size #[.slice AI n cI, .slice AT n cT]) = W4 at *
    have hB4 := Lib.hid hMdh.out.st.below
    generalize w2.heap.size = q at *
    clear hnewh honeh
    go_upto_region 6 with fail
    have hR0 := Lib.hid (Below.refl W4.heap.size W4)
    go_loopw [7] (fun iv wr => ∃ j : Nat, j ≤ n ∧ iv = .int .i64 j ∧ Hid (Below W4.heap.size W4 wr)) (fun iv _ => n - (intOf iv).toNat)
    case atStart => exact ⟨0, by omega, rfl, hR0⟩
    case round =>
      clear hR0
      obtain ⟨j, hj, rfl, hbr⟩ := hrel
      by_cases hlt : j < n
      · have hM' := hMdh.out.below hbr.out
        obtain ⟨b, off, b', off', x, o, rfl, rfl, hb, hb', hx, ho, hc, hc', hnm, hok⟩ := hM'.at_ hlt
        have c0 := hM'.c0
        have hjn : (j : Int) < (n : Int) := by omega
        have hMh := Lib.hid hM'
        have hbr' := Lib.hid (fun W' (h : Below wr.heap.size wr W') => hbr.out.trans (h.mono hbr.out.size))
        cases o with
        | none =>
          obtain rfl := hnm.2 rfl
          have cV := Lib.hid (hM'.st.view_none (-1) (get_neg (by decide)))
          have hMx0 := Lib.hid (And.intro hx ho)
          clear hM' hx ho hc' hb hb' hnm hok hbr
          go_upto_region 9 with (first
            | (go_at_call 28; refine cV.out.mono ?_; rintro r w5 ⟨rfl, hb5⟩
               obtain ⟨z5, b5, r5⟩ := nd_box w5 0 0 0 [] none 0 0
               have hz5 := Lib.hid z5
               have hB6 := Lib.hid (hb5.trans (b5.mono hb5.size))
               have hr6 := Lib.hid r5
               have hl5 := Lib.hid hb5.size
               clear hb5 cV z5 b5 r5)
            | (refine wpList_store_at 59 _ _ rfl rfl w5.heap.size zNd.toArray rfl rfl 59 zNd.toArray hz5.out (by kernel_rfl) rfl zNd_one ?_))
          replace hB6 : Below wr.heap.size wr ((w5.alloc (.cells #[.int .i64 0, .int .i64 0, .int .i64 0, .string ⟨#[]⟩, .slice none 0 0] 59)).setRow w5.heap.size zNd.toArray) := hB6.out
          replace hr6 : ((w5.alloc (.cells #[.int .i64 0, .int .i64 0, .int .i64 0, .string ⟨#[]⟩, .slice none 0 0] 59)).setRow w5.heap.size zNd.toArray).heap[w5.heap.size]? = some (.cells zNd.toArray 59 (0, 0)) := hr6.out
          generalize (w5.alloc (.cells #[.int .i64 0, .int .i64 0, .int .i64 0, .string ⟨#[]⟩, .slice none 0 0] 59)).setRow w5.heap.size zNd.toArray = W6 at *
          generalize w5.heap.size = p8 at *
          have hM6 := hMh.out.below hB6
          have c0 := hM6.c0
          have c1 := hM6.c1
          obtain ⟨b2, off2, b3, off3, x, o, e2, e3, _, _, hx, ho, hc2, hc3, hnm, _⟩ := hM6.at_ hlt
          injection e2 with e2
          injection e2 with q1 q2 _
          subst q1 q2
          injection e3 with e3
          injection e3 with q1 q2 _
          subst q1 q2
          rw [hMx0.out.1] at hx
          rw [hMx0.out.2] at ho
          obtain rfl := Option.some.inj hx
          obtain rfl := Option.some.inj ho
          have hc4 : W6.cell? ⟨b', off' + j, none⟩ = some (.string (bs (encO none))) := hc3
          have hc5 : W6.cell? ⟨b, off + j, none⟩ = some (.int .i64 (-1)) := hc2
          have e2 := empty_none
          have c8 : W6.cell? ⟨p8, 0, none⟩ = some (.int .i64 0) := cell_of_row W6 p8 0 _ _ _ hr6
          have hKi := hM6.st.kind (-1)
          have hSi := hM6.st.size (-1)
          rw [get_neg (by decide)] at hKi hSi
          replace hKi : Calls Tryd.prog 29 #[.pointer (some ⟨g, 0, none⟩), .int .i64 (-1)] W6 fun r w' => r = .returned (.int .i64 0) ∧ W6 = w' := hKi
          replace hSi : Calls Tryd.prog 14 #[.pointer (some ⟨g, 0, none⟩), .int .i64 (-1)] W6 fun r w' => r = .returned (.int .i64 0) ∧ W6 = w' := hSi
          replace hKi := Lib.hid hKi
          replace hSi := Lib.hid hSi
          generalize bs (encO none) = y at *
          have hBz := Lib.hid (hbr'.out _ hB6)
          clear hM6 hx ho hc2 hc3 hnm hr6 hMh hB6
          go_wp2_with (first
            | (go_at_call 29; refine hKi.out.mono ?_; rintro r w7 ⟨rfl, rfl⟩)
            | (go_at_call 14; refine hSi.out.mono ?_; rintro r w7 ⟨rfl, rfl⟩))
          go_roundw
          case rel => exact ⟨j + 1, by omega, by go_num, hBz⟩
          case measure => simp [intOf]; omega
        | some t =>
          obtain ⟨i, rfl, hi⟩ := get_some hnm.1
          have cV := Lib.hid (hM'.st.view_some (i : Int) t hnm.1)
          have hMx := Lib.hid (And.intro hx (And.intro ho (And.intro hnm hok)))
          clear hM' hx ho hc' hb hb' hnm hok hbr
          go_upto_region 9 with (first
            | (go_at_call 28; refine cV.out.mono ?_; rintro r w5 ⟨Av, cv, xs, rfl, hRv, hxv, hb5⟩
               obtain ⟨z5, b5, r5⟩ := nd_box w5 t.kind t.a t.b t.s Av t.args.length cv
               have hz5 := Lib.hid z5
               have hB6 := Lib.hid (hb5.trans (b5.mono hb5.size))
               have hr6 := Lib.hid r5
               have hRx := Lib.hid (And.intro (Rws.keep hRv b5) hxv)
               clear hb5 cV z5 b5 r5 hRv hxv)
            | (refine wpList_store_at 59 _ _ rfl rfl w5.heap.size (ndC t.kind t.a t.b t.s (.slice Av t.args.length cv)).toArray rfl rfl 59 zNd.toArray hz5.out (by kernel_rfl) rfl nd_all ?_))
          have hB6 := hB6.out
          have hr6 := hr6.out
          have hRx := hRx.out
          generalize (w5.alloc (.cells #[.int .i64 0, .int .i64 0, .int .i64 0, .string ⟨#[]⟩, .slice none 0 0] 59)).setRow w5.heap.size (ndC t.kind t.a t.b t.s (.slice Av t.args.length cv)).toArray = W6 at *
          generalize w5.heap.size = p8 at *
          have hM6 := hMh.out.below hB6
          have c1 := hM6.c1
          obtain ⟨b2, off2, b3, off3, x', o', e2, e3, hb2, hb3, hx, ho, hc2, hc3, _, _⟩ := hM6.at_ hlt
          injection e2 with e2
          injection e2 with q1 q2 _
          subst q1 q2
          injection e3 with e3
          injection e3 with q1 q2 _
          subst q1 q2
          rw [hMx.out.1] at hx
          rw [hMx.out.2.1] at ho
          obtain rfl := Option.some.inj hx
          obtain rfl := Option.some.inj ho
          have e2 : (bs t.enc).toList.isEmpty = false := by
            rw [bs_toList']
            have := enc_ne (t := t)
            cases h : t.enc with
            | nil => exact absurd h this
            | cons a r => rfl
          have hc4 : W6.cell? ⟨b', off' + j, none⟩ = some (.string (bs t.enc)) := hc3
          clear hc3
          have hM6h := Lib.hid hM6
          have hRxh := Lib.hid hRx
          have hr6h := Lib.hid hr6
          clear hM6 hx ho hMh hRx hr6
          generalize hy0 : bs t.enc = y at *
          have hyh := Lib.hid hy0
          clear hy0
          go_upto_region 12 with fail
          have hM6 := hM6h.out
          have hokt : t.ok := hMx.out.2.2.2 t rfl
          have hlen : t.enc.length ≤ 131072 := hM6.st.good.size t (get_mem hMx.out.2.2.1.1)
          have ha32 : t.args.length ≤ 1000 ∧ t.kind ≤ 1000000000000 ∧ t.a ≤ 1000000000000 ∧ t.b ≤ 1000000000000 := by
            obtain ⟨k, a, b, s, args⟩ := t
            have := (ok_mk.1 hokt).1
            unfold okHd at this
            simp only [Tm.args, Tm.kind, Tm.a, Tm.b]
            omega
          have hAll := Lib.hid (fun W (h : Below W6.heap.size W6 W) =>
            (show W.cell? ⟨q, 0, none⟩ = some (.slice (some ⟨b, off, none⟩) n cI) ∧ W.cell? ⟨q, 1, none⟩ = some (.slice (some ⟨b', off', none⟩) n cT) ∧ W.cell? ⟨b, off + j, none⟩ = some (.int .i64 i) ∧ W.cell? ⟨b', off' + j, none⟩ = some (.string y) ∧ W.cell? ⟨p8, 0, none⟩ = some (.int .i64 t.kind) ∧
              (ldMd ⟨q, 0, none⟩).run Tryd.prog W = .ok (.agg #[.slice (some ⟨b, off, none⟩) n cI, .slice (some ⟨b', off', none⟩) n cT]) W ∧ (ldNv ⟨p8, 0, none⟩).run Tryd.prog W = .ok (.agg (ndC t.kind t.a t.b t.s (.slice Av t.args.length cv)).toArray) W from by
              have hMW := hM6.below h
              have hp8 := (h.block p8 (Array.getElem?_eq_some_iff.1 hr6h.out).1).trans hr6h.out
              exact ⟨hMW.c0, hMW.c1, (h.cell (p := ⟨b, off + j, none⟩) hb2).trans hc2, (h.cell (p := ⟨b', off' + j, none⟩) hb3).trans hc4, cell_of_row W p8 0 _ _ _ hp8, ldMd_run hMW.row, ldNv_run (rangeAt_list hp8)⟩))
          have cRV := Lib.hid (fun W => (show Calls Tryd.prog 31 #[.string y] W _ from by have := rView_any t hokt (by omega) W; rw [hyh.out] at this; exact this))
          have cSm := Lib.hid (fun W (Ar2 : Option Addr) (cr : Nat) (h : Below W6.heap.size W6 W) (hS : Strs W Ar2 t.args.length (t.args.map fun u => bs u.enc)) =>
            (show Calls Tryd.prog 30 #[.agg #[.slice (some ⟨b, off, none⟩) n cI, .slice (some ⟨b', off', none⟩) n cT], .agg (ndC t.kind t.a t.b t.s (.slice Av t.args.length cv)).toArray, .agg (rnC t.kind t.a t.b t.s (.slice Ar2 t.args.length cr)).toArray] W _ from
              same_any t xs W (by omega) rfl ha32.1 ha32.2.1 ha32.2.2.1 ha32.2.2.2 (hM6.below h).made hM6.ml.toNmL hM6.st.good (Rws.keep hRxh.out.1 h) hRxh.out.2 hS))
          have cKi := Lib.hid (fun W (h : Below W6.heap.size W6 W) => (show Calls Tryd.prog 29 #[.pointer (some ⟨g, 0, none⟩), .int .i64 i] W fun r w' => r = .returned (.int .i64 t.kind) ∧ W = w' from by
            have := (hM6.st.keep h).kind (i : Int)
            rw [hMx.out.2.2.1.1] at this
            exact this))
          have cSi := Lib.hid (fun W (h : Below W6.heap.size W6 W) => (show Calls Tryd.prog 14 #[.pointer (some ⟨g, 0, none⟩), .int .i64 i] W fun r w' => r = .returned (.int .i64 y.size) ∧ W = w' from by
            have := (hM6.st.keep h).size (i : Int)
            rw [hMx.out.2.2.1.1] at this
            rw [← hyh.out, bs_size]
            exact this))
          have hys : y.size ≤ 131072 := by rw [← hyh.out, bs_size]; exact hlen
          have hkk := ha32.2.1
          clear hM6 ha32 c1 hc2 hc4 hb3 hb2 hlen hokt
          refine region_iw dsMv (vsMv t g q b off b' off' p8 j i n cI cT y Av cv) (fun L T W => Below W6.heap.size W6 W ∧ (L 10 = true → ∃ (Ar2 : Option Addr) (cr : Nat), T.getD 81 undef = .agg (rnC t.kind t.a t.b t.s (.slice Ar2 t.args.length cr)).toArray ∧ Strs W Ar2 t.args.length (t.args.map fun u => bs u.enc))) rfl (by kernel_rfl) ?hlt ?hstep ?hdone ?hstart
          case hstart => exact ⟨drewN_below 1, fun h => absurd h (inv_not (n := 42) (i := 10) (by decide))⟩
          case hlt =>
            intro ix o ho
            have hi := (Array.getElem?_eq_some_iff.1 ho).1
            match ix, hi with
            | 0, _ => obtain rfl := Option.some.inj ho; decide
            | 1, _ => obtain rfl := Option.some.inj ho; decide
            | 2, _ => obtain rfl := Option.some.inj ho; decide
            | 3, _ => obtain rfl := Option.some.inj ho; decide
            | 4, _ => obtain rfl := Option.some.inj ho; decide
            | 5, _ => obtain rfl := Option.some.inj ho; decide
            | 6, _ => obtain rfl := Option.some.inj ho; decide
            | 7, _ => obtain rfl := Option.some.inj ho; decide
            | 8, _ => obtain rfl := Option.some.inj ho; decide
            | 9, _ => obtain rfl := Option.some.inj ho; decide
            | 10, _ => obtain rfl := Option.some.inj ho; decide
            | 11, _ => obtain rfl := Option.some.inj ho; decide
            | 12, _ => obtain rfl := Option.some.inj ho; decide
            | 13, _ => obtain rfl := Option.some.inj ho; decide
            | 14, _ => obtain rfl := Option.some.inj ho; decide
            | 15, _ => obtain rfl := Option.some.inj ho; decide
            | 16, _ => obtain rfl := Option.some.inj ho; decide
            | 17, _ => obtain rfl := Option.some.inj ho; decide
            | 18, _ => obtain rfl := Option.some.inj ho; decide
            | 19, _ => obtain rfl := Option.some.inj ho; decide
            | 20, _ => obtain rfl := Option.some.inj ho; decide
            | 21, _ => obtain rfl := Option.some.inj ho; decide
            | 22, _ => obtain rfl := Option.some.inj ho; decide
            | 23, _ => obtain rfl := Option.some.inj ho; decide
            | 24, _ => obtain rfl := Option.some.inj ho; decide
            | 25, _ => obtain rfl := Option.some.inj ho; decide
            | 26, _ => obtain rfl := Option.some.inj ho; decide
            | 27, _ => obtain rfl := Option.some.inj ho; decide
            | 28, _ => obtain rfl := Option.some.inj ho; decide
            | 29, _ => obtain rfl := Option.some.inj ho; decide
            | 30, _ => obtain rfl := Option.some.inj ho; decide
            | 31, _ => obtain rfl := Option.some.inj ho; decide
            | 32, _ => obtain rfl := Option.some.inj ho; decide
            | 33, _ => obtain rfl := Option.some.inj ho; decide
            | 34, _ => obtain rfl := Option.some.inj ho; decide
            | 35, _ => obtain rfl := Option.some.inj ho; decide
            | 36, _ => obtain rfl := Option.some.inj ho; decide
            | 37, _ => obtain rfl := Option.some.inj ho; decide
            | 38, _ => obtain rfl := Option.some.inj ho; decide
            | 39, _ => obtain rfl := Option.some.inj ho; decide
            | 40, _ => obtain rfl := Option.some.inj ho; decide
            | 41, _ => obtain rfl := Option.some.inj ho; decide
          case hstep =>
            intro T1 hE L T W ix o hF hW ho hLi hd K hK
            have hN : T1.size = 166 := by rw [hE]; rfl
            have f5 : T.getD 5 undef = .pointer (some ⟨g, 0, none⟩) := (hF.old 5 (by decide)).trans (by rw [hE]; rfl)
            have f6 : T.getD 6 undef = .pointer (some ⟨q, 0, none⟩) := (hF.old 6 (by decide)).trans (by rw [hE]; rfl)
            have f7 : T.getD 7 undef = .int .i64 ↑j := (hF.old 7 (by decide)).trans (by rw [hE]; rfl)
            have f8 : T.getD 8 undef = .pointer (some ⟨p8, 0, none⟩) := (hF.old 8 (by decide)).trans (by rw [hE]; rfl)
            have f9 : T.getD 9 undef = .bool true := (hF.old 9 (by decide)).trans (by rw [hE]; rfl)
            clear hE
            replace hF := Lib.hid hF
            replace hW := Lib.hid hW
            replace hK := Lib.hid hK
            have hi := (List.getElem?_eq_some_iff.1 ho).1
            match ix, hi with
            | 0, _ =>
              obtain rfl := Option.some.inj ho
              clear hd ho hi hLi
              exact st_val (v := .bool true) (w' := W) (want_none rfl) (by unfold execOp; dsimp only [Act.eval]; simp only [f9]; go_simp) (hK.out _ _ (hF.out.put (k := 0) (s := 71) rfl (by decide) hN (by decide) (fun u hu => Option.some.inj (Option.some.inj (show some (some (.bool true)) = some (some u) from hu))) (by dsimp only; rw [gd_ne (show 71 ≠ 81 by decide)]; exact hW.out)))
            | 1, _ =>
              obtain rfl := Option.some.inj ho
              have l0 : L 0 = true := dep_of hd (n := 0) (by decide)
              have e71 : T.getD 71 undef = .bool true := hF.out.val 0 71 _ l0 rfl rfl
              clear hd ho hi hLi
              exact st_val (v := .bool false) (w' := W) (want_none rfl) (by unfold execOp; dsimp only [Act.eval]; simp only [e71]; go_simp) (hK.out _ _ (hF.out.put (k := 1) (s := 72) rfl (by decide) hN (by decide) (fun u hu => Option.some.inj (Option.some.inj (show some (some (.bool false)) = some (some u) from hu))) (by dsimp only; rw [gd_ne (show 72 ≠ 81 by decide)]; exact hW.out)))
            | 2, _ =>
              obtain rfl := Option.some.inj ho
              have l1 : L 1 = true := dep_of hd (n := 1) (by decide)
              have e72 : T.getD 72 undef = .bool false := hF.out.val 1 72 _ l1 rfl rfl
              clear hd ho hi hLi
              exact st_val (v := .bool false) (w' := W) (want_none rfl) (by unfold execOp; dsimp only [Act.eval]; simp only [e72]; go_simp) (hK.out _ _ (hF.out.put (k := 2) (s := 73) rfl (by decide) hN (by decide) (fun u hu => Option.some.inj (Option.some.inj (show some (some (.bool false)) = some (some u) from hu))) (by dsimp only; rw [gd_ne (show 73 ≠ 81 by decide)]; exact hW.out)))
            | 3, _ =>
              obtain rfl := Option.some.inj ho
              have l2 : L 2 = true := dep_of hd (n := 2) (by decide)
              have e73 : T.getD 73 undef = .bool false := hF.out.val 2 73 _ l2 rfl rfl
              have hcc := (hAll.out W hW.out.1).2.2.2.2.2.1
              clear hd ho hi hLi
              exact st_val (v := .agg #[.slice (some ⟨b, off, none⟩) n cI, .slice (some ⟨b', off', none⟩) n cT]) (w' := W) (by rw [want_some (j := 2) (s := 73) rfl rfl e73]; rfl) (by unfold execOp; dsimp only [Act.eval]; simp only [f6]; go_simp) (hK.out _ _ (hF.out.put (k := 3) (s := 74) rfl (by decide) hN (by decide) (fun u hu => Option.some.inj (Option.some.inj (show some (some (.agg #[.slice (some ⟨b, off, none⟩) n cI, .slice (some ⟨b', off', none⟩) n cT])) = some (some u) from hu))) (by dsimp only; rw [gd_ne (show 74 ≠ 81 by decide)]; exact hW.out)))
            | 4, _ =>
              obtain rfl := Option.some.inj ho
              have l2 : L 2 = true := dep_of hd (n := 2) (by decide)
              have e73 : T.getD 73 undef = .bool false := hF.out.val 2 73 _ l2 rfl rfl
              have hcc := (hAll.out W hW.out.1).2.2.2.2.2.2
              clear hd ho hi hLi
              exact st_val (v := .agg (ndC t.kind t.a t.b t.s (.slice Av t.args.length cv)).toArray) (w' := W) (by rw [want_some (j := 2) (s := 73) rfl rfl e73]; rfl) (by unfold execOp; dsimp only [Act.eval]; simp only [f8]; go_simp) (hK.out _ _ (hF.out.put (k := 4) (s := 75) rfl (by decide) hN (by decide) (fun u hu => Option.some.inj (Option.some.inj (show some (some (.agg (ndC t.kind t.a t.b t.s (.slice Av t.args.length cv)).toArray)) = some (some u) from hu))) (by dsimp only; rw [gd_ne (show 75 ≠ 81 by decide)]; exact hW.out)))
            | 5, _ =>
              obtain rfl := Option.some.inj ho
              have l2 : L 2 = true := dep_of hd (n := 2) (by decide)
              have e73 : T.getD 73 undef = .bool false := hF.out.val 2 73 _ l2 rfl rfl
              clear hd ho hi hLi
              exact st_val (v := .pointer (some ⟨q, 1, none⟩)) (w' := W) (by rw [want_some (j := 2) (s := 73) rfl rfl e73]; rfl) (by unfold execOp; dsimp only [Act.eval]; simp only [f6]; go_simp) (hK.out _ _ (hF.out.put (k := 5) (s := 76) rfl (by decide) hN (by decide) (fun u hu => Option.some.inj (Option.some.inj (show some (some (.pointer (some ⟨q, 1, none⟩))) = some (some u) from hu))) (by dsimp only; rw [gd_ne (show 76 ≠ 81 by decide)]; exact hW.out)))
            | 6, _ =>
              obtain rfl := Option.some.inj ho
              have l5 : L 5 = true := dep_of hd (n := 5) (by decide)
              have e76 : T.getD 76 undef = .pointer (some ⟨q, 1, none⟩) := hF.out.val 5 76 _ l5 rfl rfl
              have l2 : L 2 = true := dep_of hd (n := 2) (by decide)
              have e73 : T.getD 73 undef = .bool false := hF.out.val 2 73 _ l2 rfl rfl
              have hcc := (hAll.out W hW.out.1).2.1
              clear hd ho hi hLi
              exact st_val (v := .slice (some ⟨b', off', none⟩) n cT) (w' := W) (by rw [want_some (j := 2) (s := 73) rfl rfl e73]; rfl) (by unfold execOp; dsimp only [Act.eval]; simp only [e76]; go_simp) (hK.out _ _ (hF.out.put (k := 6) (s := 77) rfl (by decide) hN (by decide) (fun u hu => Option.some.inj (Option.some.inj (show some (some (.slice (some ⟨b', off', none⟩) n cT)) = some (some u) from hu))) (by dsimp only; rw [gd_ne (show 77 ≠ 81 by decide)]; exact hW.out)))
            | 7, _ =>
              obtain rfl := Option.some.inj ho
              have l2 : L 2 = true := dep_of hd (n := 2) (by decide)
              have e73 : T.getD 73 undef = .bool false := hF.out.val 2 73 _ l2 rfl rfl
              clear hd ho hi hLi
              exact st_val (v := .int .i64 ↑j) (w' := W) (by rw [want_some (j := 2) (s := 73) rfl rfl e73]; rfl) (by unfold execOp; dsimp only [Act.eval]; simp only [f7]; go_simp) (hK.out _ _ (hF.out.put (k := 7) (s := 78) rfl (by decide) hN (by decide) (fun u hu => Option.some.inj (Option.some.inj (show some (some (.int .i64 ↑j)) = some (some u) from hu))) (by dsimp only; rw [gd_ne (show 78 ≠ 81 by decide)]; exact hW.out)))
            | 8, _ =>
              obtain rfl := Option.some.inj ho
              have l6 : L 6 = true := dep_of hd (n := 6) (by decide)
              have e77 : T.getD 77 undef = .slice (some ⟨b', off', none⟩) n cT := hF.out.val 6 77 _ l6 rfl rfl
              have l7 : L 7 = true := dep_of hd (n := 7) (by decide)
              have e78 : T.getD 78 undef = .int .i64 ↑j := hF.out.val 7 78 _ l7 rfl rfl
              have l2 : L 2 = true := dep_of hd (n := 2) (by decide)
              have e73 : T.getD 73 undef = .bool false := hF.out.val 2 73 _ l2 rfl rfl
              clear hd ho hi hLi
              exact st_val (v := .pointer (some ⟨b', off' + j, none⟩)) (w' := W) (by rw [want_some (j := 2) (s := 73) rfl rfl e73]; rfl) (by unfold execOp; dsimp only [Act.eval]; simp only [e77, e78]; go_simp) (hK.out _ _ (hF.out.put (k := 8) (s := 79) rfl (by decide) hN (by decide) (fun u hu => Option.some.inj (Option.some.inj (show some (some (.pointer (some ⟨b', off' + j, none⟩))) = some (some u) from hu))) (by dsimp only; rw [gd_ne (show 79 ≠ 81 by decide)]; exact hW.out)))
            | 9, _ =>
              obtain rfl := Option.some.inj ho
              have l8 : L 8 = true := dep_of hd (n := 8) (by decide)
              have e79 : T.getD 79 undef = .pointer (some ⟨b', off' + j, none⟩) := hF.out.val 8 79 _ l8 rfl rfl
              have l2 : L 2 = true := dep_of hd (n := 2) (by decide)
              have e73 : T.getD 73 undef = .bool false := hF.out.val 2 73 _ l2 rfl rfl
              have hcc := (hAll.out W hW.out.1).2.2.2.1
              clear hd ho hi hLi
              exact st_val (v := .string y) (w' := W) (by rw [want_some (j := 2) (s := 73) rfl rfl e73]; rfl) (by unfold execOp; dsimp only [Act.eval]; simp only [e79]; go_simp) (hK.out _ _ (hF.out.put (k := 9) (s := 80) rfl (by decide) hN (by decide) (fun u hu => Option.some.inj (Option.some.inj (show some (some (.string y)) = some (some u) from hu))) (by dsimp only; rw [gd_ne (show 80 ≠ 81 by decide)]; exact hW.out)))
            | 10, _ =>
              obtain rfl := Option.some.inj ho
              have l9 : L 9 = true := dep_of hd (n := 9) (by decide)
              have e80 : T.getD 80 undef = .string y := hF.out.val 9 80 _ l9 rfl rfl
              have l2 : L 2 = true := dep_of hd (n := 2) (by decide)
              have e73 : T.getD 73 undef = .bool false := hF.out.val 2 73 _ l2 rfl rfl
              have cc := Lib.hid (cRV.out W)
              clear hd ho hi hLi
              refine st_call (by rw [want_some (j := 2) (s := 73) rfl rfl e73]; rfl) (by unfold execOp; go_simp) cc.out ?_
              rintro r w3 ⟨Ar2, cr, rfl, hS3, hb3⟩
              exact ⟨_, rfl, hK.out _ _ (hF.out.put (k := 10) (s := 81) rfl (by decide) hN (by decide) (fun u hu => by cases hu) ⟨hW.out.1.trans (hb3.mono hW.out.1.size), fun _ => ⟨Ar2, cr, gd_eq (by rw [hF.out.size, hN]; decide), hS3⟩⟩)⟩
            | 11, _ =>
              obtain rfl := Option.some.inj ho
              have l3 : L 3 = true := dep_of hd (n := 3) (by decide)
              have e74 : T.getD 74 undef = .agg #[.slice (some ⟨b, off, none⟩) n cI, .slice (some ⟨b', off', none⟩) n cT] := hF.out.val 3 74 _ l3 rfl rfl
              have l4 : L 4 = true := dep_of hd (n := 4) (by decide)
              have e75 : T.getD 75 undef = .agg (ndC t.kind t.a t.b t.s (.slice Av t.args.length cv)).toArray := hF.out.val 4 75 _ l4 rfl rfl
              have l10 : L 10 = true := dep_of hd (n := 10) (by decide)
              have l2 : L 2 = true := dep_of hd (n := 2) (by decide)
              have e73 : T.getD 73 undef = .bool false := hF.out.val 2 73 _ l2 rfl rfl
              obtain ⟨Ar2, cr, e81, hS3⟩ := hW.out.2 l10
              have cc := Lib.hid (cSm.out W Ar2 cr hW.out.1 hS3)
              clear hd ho hi hLi
              refine st_call (by rw [want_some (j := 2) (s := 73) rfl rfl e73]; rfl) (by unfold execOp; go_simp) cc.out ?_
              rintro r w3 ⟨rfl, hb3⟩
              exact ⟨_, rfl, hK.out _ _ (hF.out.put (k := 11) (s := 82) rfl (by decide) hN (by decide) (fun u hu => Option.some.inj (Option.some.inj (show some (some (.bool true)) = some (some u) from hu))) ⟨hW.out.1.trans (hb3.mono hW.out.1.size), fun _ => ⟨Ar2, cr, (gd_ne (by decide)).trans e81, Strs.keep hS3 hb3⟩⟩)⟩
            | 12, _ =>
              obtain rfl := Option.some.inj ho
              have l11 : L 11 = true := dep_of hd (n := 11) (by decide)
              have e82 : T.getD 82 undef = .bool true := hF.out.val 11 82 _ l11 rfl rfl
              have l2 : L 2 = true := dep_of hd (n := 2) (by decide)
              have e73 : T.getD 73 undef = .bool false := hF.out.val 2 73 _ l2 rfl rfl
              clear hd ho hi hLi
              exact st_val (v := .bool false) (w' := W) (by rw [want_some (j := 2) (s := 73) rfl rfl e73]; rfl) (by unfold execOp; dsimp only [Act.eval]; simp only [e82]; go_simp) (hK.out _ _ (hF.out.put (k := 12) (s := 83) rfl (by decide) hN (by decide) (fun u hu => Option.some.inj (Option.some.inj (show some (some (.bool false)) = some (some u) from hu))) (by dsimp only; rw [gd_ne (show 83 ≠ 81 by decide)]; exact hW.out)))
            | 13, _ =>
              obtain rfl := Option.some.inj ho
              have l2 : L 2 = true := dep_of hd (n := 2) (by decide)
              have e73 : T.getD 73 undef = .bool false := hF.out.val 2 73 _ l2 rfl rfl
              have l12 : L 12 = true := dep_of hd (n := 12) (by decide)
              have e83 : T.getD 83 undef = .bool false := hF.out.val 12 83 _ l12 rfl rfl
              clear hd ho hi hLi
              exact st_val (v := .bool false) (w' := W) (want_none rfl) (by unfold execOp; dsimp only [Act.eval]; simp only [e73, e83]; go_simp) (hK.out _ _ (hF.out.put (k := 13) (s := 84) rfl (by decide) hN (by decide) (fun u hu => Option.some.inj (Option.some.inj (show some (some (.bool false)) = some (some u) from hu))) (by dsimp only; rw [gd_ne (show 84 ≠ 81 by decide)]; exact hW.out)))
            | 14, _ =>
              obtain rfl := Option.some.inj ho
              have l13 : L 13 = true := dep_of hd (n := 13) (by decide)
              have e84 : T.getD 84 undef = .bool false := hF.out.val 13 84 _ l13 rfl rfl
              clear hd ho hi hLi
              exact st_val (v := .bool false) (w' := W) (want_none rfl) (by unfold execOp; dsimp only [Act.eval]; simp only [e84]; go_simp) (hK.out _ _ (hF.out.put (k := 14) (s := 85) rfl (by decide) hN (by decide) (fun u hu => Option.some.inj (Option.some.inj (show some (some (.bool false)) = some (some u) from hu))) (by dsimp only; rw [gd_ne (show 85 ≠ 81 by decide)]; exact hW.out)))
            | 15, _ =>
              obtain rfl := Option.some.inj ho
              have l14 : L 14 = true := dep_of hd (n := 14) (by decide)
              have e85 : T.getD 85 undef = .bool false := hF.out.val 14 85 _ l14 rfl rfl
              clear hd ho hi hLi
              exact st_val (v := .pointer (some ⟨g, 0, none⟩)) (w' := W) (by rw [want_some (j := 14) (s := 85) rfl rfl e85]; rfl) (by unfold execOp; dsimp only [Act.eval]; simp only [f5]; go_simp) (hK.out _ _ (hF.out.put (k := 15) (s := 86) rfl (by decide) hN (by decide) (fun u hu => Option.some.inj (Option.some.inj (show some (some (.pointer (some ⟨g, 0, none⟩))) = some (some u) from hu))) (by dsimp only; rw [gd_ne (show 86 ≠ 81 by decide)]; exact hW.out)))
            | 16, _ =>
              obtain rfl := Option.some.inj ho
              have l14 : L 14 = true := dep_of hd (n := 14) (by decide)
              have e85 : T.getD 85 undef = .bool false := hF.out.val 14 85 _ l14 rfl rfl
              clear hd ho hi hLi
              exact st_val (v := .pointer (some ⟨q, 0, none⟩)) (w' := W) (by rw [want_some (j := 14) (s := 85) rfl rfl e85]; rfl) (by unfold execOp; dsimp only [Act.eval]; simp only [f6]; go_simp) (hK.out _ _ (hF.out.put (k := 16) (s := 87) rfl (by decide) hN (by decide) (fun u hu => Option.some.inj (Option.some.inj (show some (some (.pointer (some ⟨q, 0, none⟩))) = some (some u) from hu))) (by dsimp only; rw [gd_ne (show 87 ≠ 81 by decide)]; exact hW.out)))
            | 17, _ =>
              obtain rfl := Option.some.inj ho
              have l16 : L 16 = true := dep_of hd (n := 16) (by decide)
              have e87 : T.getD 87 undef = .pointer (some ⟨q, 0, none⟩) := hF.out.val 16 87 _ l16 rfl rfl
              have l14 : L 14 = true := dep_of hd (n := 14) (by decide)
              have e85 : T.getD 85 undef = .bool false := hF.out.val 14 85 _ l14 rfl rfl
              have hcc := (hAll.out W hW.out.1).1
              clear hd ho hi hLi
              exact st_val (v := .slice (some ⟨b, off, none⟩) n cI) (w' := W) (by rw [want_some (j := 14) (s := 85) rfl rfl e85]; rfl) (by unfold execOp; dsimp only [Act.eval]; simp only [e87]; go_simp) (hK.out _ _ (hF.out.put (k := 17) (s := 88) rfl (by decide) hN (by decide) (fun u hu => Option.some.inj (Option.some.inj (show some (some (.slice (some ⟨b, off, none⟩) n cI)) = some (some u) from hu))) (by dsimp only; rw [gd_ne (show 88 ≠ 81 by decide)]; exact hW.out)))
            | 18, _ =>
              obtain rfl := Option.some.inj ho
              have l14 : L 14 = true := dep_of hd (n := 14) (by decide)
              have e85 : T.getD 85 undef = .bool false := hF.out.val 14 85 _ l14 rfl rfl
              clear hd ho hi hLi
              exact st_val (v := .int .i64 ↑j) (w' := W) (by rw [want_some (j := 14) (s := 85) rfl rfl e85]; rfl) (by unfold execOp; dsimp only [Act.eval]; simp only [f7]; go_simp) (hK.out _ _ (hF.out.put (k := 18) (s := 89) rfl (by decide) hN (by decide) (fun u hu => Option.some.inj (Option.some.inj (show some (some (.int .i64 ↑j)) = some (some u) from hu))) (by dsimp only; rw [gd_ne (show 89 ≠ 81 by decide)]; exact hW.out)))
            | 19, _ =>
              obtain rfl := Option.some.inj ho
              have l17 : L 17 = true := dep_of hd (n := 17) (by decide)
              have e88 : T.getD 88 undef = .slice (some ⟨b, off, none⟩) n cI := hF.out.val 17 88 _ l17 rfl rfl
              have l18 : L 18 = true := dep_of hd (n := 18) (by decide)
              have e89 : T.getD 89 undef = .int .i64 ↑j := hF.out.val 18 89 _ l18 rfl rfl
              have l14 : L 14 = true := dep_of hd (n := 14) (by decide)
              have e85 : T.getD 85 undef = .bool false := hF.out.val 14 85 _ l14 rfl rfl
              clear hd ho hi hLi
              exact st_val (v := .pointer (some ⟨b, off + j, none⟩)) (w' := W) (by rw [want_some (j := 14) (s := 85) rfl rfl e85]; rfl) (by unfold execOp; dsimp only [Act.eval]; simp only [e88, e89]; go_simp) (hK.out _ _ (hF.out.put (k := 19) (s := 90) rfl (by decide) hN (by decide) (fun u hu => Option.some.inj (Option.some.inj (show some (some (.pointer (some ⟨b, off + j, none⟩))) = some (some u) from hu))) (by dsimp only; rw [gd_ne (show 90 ≠ 81 by decide)]; exact hW.out)))
            | 20, _ =>
              obtain rfl := Option.some.inj ho
              have l19 : L 19 = true := dep_of hd (n := 19) (by decide)
              have e90 : T.getD 90 undef = .pointer (some ⟨b, off + j, none⟩) := hF.out.val 19 90 _ l19 rfl rfl
              have l14 : L 14 = true := dep_of hd (n := 14) (by decide)
              have e85 : T.getD 85 undef = .bool false := hF.out.val 14 85 _ l14 rfl rfl
              have hcc := (hAll.out W hW.out.1).2.2.1
              clear hd ho hi hLi
              exact st_val (v := .int .i64 ↑i) (w' := W) (by rw [want_some (j := 14) (s := 85) rfl rfl e85]; rfl) (by unfold execOp; dsimp only [Act.eval]; simp only [e90]; go_simp) (hK.out _ _ (hF.out.put (k := 20) (s := 91) rfl (by decide) hN (by decide) (fun u hu => Option.some.inj (Option.some.inj (show some (some (.int .i64 ↑i)) = some (some u) from hu))) (by dsimp only; rw [gd_ne (show 91 ≠ 81 by decide)]; exact hW.out)))
            | 21, _ =>
              obtain rfl := Option.some.inj ho
              have l15 : L 15 = true := dep_of hd (n := 15) (by decide)
              have e86 : T.getD 86 undef = .pointer (some ⟨g, 0, none⟩) := hF.out.val 15 86 _ l15 rfl rfl
              have l20 : L 20 = true := dep_of hd (n := 20) (by decide)
              have e91 : T.getD 91 undef = .int .i64 ↑i := hF.out.val 20 91 _ l20 rfl rfl
              have l14 : L 14 = true := dep_of hd (n := 14) (by decide)
              have e85 : T.getD 85 undef = .bool false := hF.out.val 14 85 _ l14 rfl rfl
              have cc := Lib.hid (cKi.out W hW.out.1)
              clear hd ho hi hLi
              refine st_call (by rw [want_some (j := 14) (s := 85) rfl rfl e85]; rfl) (by unfold execOp; go_simp) cc.out ?_
              rintro r w3 ⟨rfl, rfl⟩
              exact ⟨_, rfl, hK.out _ _ (hF.out.put (k := 21) (s := 92) rfl (by decide) hN (by decide) (fun u hu => Option.some.inj (Option.some.inj (show some (some (.int .i64 ↑t.kind)) = some (some u) from hu))) (by dsimp only; rw [gd_ne (show 92 ≠ 81 by decide)]; exact hW.out))⟩
            | 22, _ =>
              obtain rfl := Option.some.inj ho
              have l14 : L 14 = true := dep_of hd (n := 14) (by decide)
              have e85 : T.getD 85 undef = .bool false := hF.out.val 14 85 _ l14 rfl rfl
              clear hd ho hi hLi
              exact st_val (v := .pointer (some ⟨p8, 0, none⟩)) (w' := W) (by rw [want_some (j := 14) (s := 85) rfl rfl e85]; rfl) (by unfold execOp; dsimp only [Act.eval]; simp only [f8]; go_simp) (hK.out _ _ (hF.out.put (k := 22) (s := 93) rfl (by decide) hN (by decide) (fun u hu => Option.some.inj (Option.some.inj (show some (some (.pointer (some ⟨p8, 0, none⟩))) = some (some u) from hu))) (by dsimp only; rw [gd_ne (show 93 ≠ 81 by decide)]; exact hW.out)))
            | 23, _ =>
              obtain rfl := Option.some.inj ho
              have l22 : L 22 = true := dep_of hd (n := 22) (by decide)
              have e93 : T.getD 93 undef = .pointer (some ⟨p8, 0, none⟩) := hF.out.val 22 93 _ l22 rfl rfl
              have l14 : L 14 = true := dep_of hd (n := 14) (by decide)
              have e85 : T.getD 85 undef = .bool false := hF.out.val 14 85 _ l14 rfl rfl
              have hcc := (hAll.out W hW.out.1).2.2.2.2.1
              clear hd ho hi hLi
              exact st_val (v := .int .i64 ↑t.kind) (w' := W) (by rw [want_some (j := 14) (s := 85) rfl rfl e85]; rfl) (by unfold execOp; dsimp only [Act.eval]; simp only [e93]; go_simp) (hK.out _ _ (hF.out.put (k := 23) (s := 94) rfl (by decide) hN (by decide) (fun u hu => Option.some.inj (Option.some.inj (show some (some (.int .i64 ↑t.kind)) = some (some u) from hu))) (by dsimp only; rw [gd_ne (show 94 ≠ 81 by decide)]; exact hW.out)))
            | 24, _ =>
              obtain rfl := Option.some.inj ho
              have l21 : L 21 = true := dep_of hd (n := 21) (by decide)
              have e92 : T.getD 92 undef = .int .i64 ↑t.kind := hF.out.val 21 92 _ l21 rfl rfl
              have l23 : L 23 = true := dep_of hd (n := 23) (by decide)
              have e94 : T.getD 94 undef = .int .i64 ↑t.kind := hF.out.val 23 94 _ l23 rfl rfl
              have l14 : L 14 = true := dep_of hd (n := 14) (by decide)
              have e85 : T.getD 85 undef = .bool false := hF.out.val 14 85 _ l14 rfl rfl
              clear hd ho hi hLi
              exact st_val (v := .bool false) (w' := W) (by rw [want_some (j := 14) (s := 85) rfl rfl e85]; rfl) (by unfold execOp; dsimp only [Act.eval]; simp only [e92, e94]; go_simp) (hK.out _ _ (hF.out.put (k := 24) (s := 95) rfl (by decide) hN (by decide) (fun u hu => Option.some.inj (Option.some.inj (show some (some (.bool false)) = some (some u) from hu))) (by dsimp only; rw [gd_ne (show 95 ≠ 81 by decide)]; exact hW.out)))
            | 25, _ =>
              obtain rfl := Option.some.inj ho
              have l14 : L 14 = true := dep_of hd (n := 14) (by decide)
              have e85 : T.getD 85 undef = .bool false := hF.out.val 14 85 _ l14 rfl rfl
              have l24 : L 24 = true := dep_of hd (n := 24) (by decide)
              have e95 : T.getD 95 undef = .bool false := hF.out.val 24 95 _ l24 rfl rfl
              clear hd ho hi hLi
              exact st_val (v := .bool false) (w' := W) (want_none rfl) (by unfold execOp; dsimp only [Act.eval]; simp only [e85, e95]; go_simp) (hK.out _ _ (hF.out.put (k := 25) (s := 96) rfl (by decide) hN (by decide) (fun u hu => Option.some.inj (Option.some.inj (show some (some (.bool false)) = some (some u) from hu))) (by dsimp only; rw [gd_ne (show 96 ≠ 81 by decide)]; exact hW.out)))
            | 26, _ =>
              obtain rfl := Option.some.inj ho
              have l25 : L 25 = true := dep_of hd (n := 25) (by decide)
              have e96 : T.getD 96 undef = .bool false := hF.out.val 25 96 _ l25 rfl rfl
              clear hd ho hi hLi
              exact st_val (v := .bool false) (w' := W) (want_none rfl) (by unfold execOp; dsimp only [Act.eval]; simp only [e96]; go_simp) (hK.out _ _ (hF.out.put (k := 26) (s := 97) rfl (by decide) hN (by decide) (fun u hu => Option.some.inj (Option.some.inj (show some (some (.bool false)) = some (some u) from hu))) (by dsimp only; rw [gd_ne (show 97 ≠ 81 by decide)]; exact hW.out)))
            | 27, _ =>
              obtain rfl := Option.some.inj ho
              have l26 : L 26 = true := dep_of hd (n := 26) (by decide)
              have e97 : T.getD 97 undef = .bool false := hF.out.val 26 97 _ l26 rfl rfl
              clear hd ho hi hLi
              exact st_val (v := .pointer (some ⟨g, 0, none⟩)) (w' := W) (by rw [want_some (j := 26) (s := 97) rfl rfl e97]; rfl) (by unfold execOp; dsimp only [Act.eval]; simp only [f5]; go_simp) (hK.out _ _ (hF.out.put (k := 27) (s := 98) rfl (by decide) hN (by decide) (fun u hu => Option.some.inj (Option.some.inj (show some (some (.pointer (some ⟨g, 0, none⟩))) = some (some u) from hu))) (by dsimp only; rw [gd_ne (show 98 ≠ 81 by decide)]; exact hW.out)))
            | 28, _ =>
              obtain rfl := Option.some.inj ho
              have l26 : L 26 = true := dep_of hd (n := 26) (by decide)
              have e97 : T.getD 97 undef = .bool false := hF.out.val 26 97 _ l26 rfl rfl
              clear hd ho hi hLi
              exact st_val (v := .pointer (some ⟨q, 0, none⟩)) (w' := W) (by rw [want_some (j := 26) (s := 97) rfl rfl e97]; rfl) (by unfold execOp; dsimp only [Act.eval]; simp only [f6]; go_simp) (hK.out _ _ (hF.out.put (k := 28) (s := 99) rfl (by decide) hN (by decide) (fun u hu => Option.some.inj (Option.some.inj (show some (some (.pointer (some ⟨q, 0, none⟩))) = some (some u) from hu))) (by dsimp only; rw [gd_ne (show 99 ≠ 81 by decide)]; exact hW.out)))
            | 29, _ =>
              obtain rfl := Option.some.inj ho
              have l28 : L 28 = true := dep_of hd (n := 28) (by decide)
              have e99 : T.getD 99 undef = .pointer (some ⟨q, 0, none⟩) := hF.out.val 28 99 _ l28 rfl rfl
              have l26 : L 26 = true := dep_of hd (n := 26) (by decide)
              have e97 : T.getD 97 undef = .bool false := hF.out.val 26 97 _ l26 rfl rfl
              have hcc := (hAll.out W hW.out.1).1
              clear hd ho hi hLi
              exact st_val (v := .slice (some ⟨b, off, none⟩) n cI) (w' := W) (by rw [want_some (j := 26) (s := 97) rfl rfl e97]; rfl) (by unfold execOp; dsimp only [Act.eval]; simp only [e99]; go_simp) (hK.out _ _ (hF.out.put (k := 29) (s := 100) rfl (by decide) hN (by decide) (fun u hu => Option.some.inj (Option.some.inj (show some (some (.slice (some ⟨b, off, none⟩) n cI)) = some (some u) from hu))) (by dsimp only; rw [gd_ne (show 100 ≠ 81 by decide)]; exact hW.out)))
            | 30, _ =>
              obtain rfl := Option.some.inj ho
              have l26 : L 26 = true := dep_of hd (n := 26) (by decide)
              have e97 : T.getD 97 undef = .bool false := hF.out.val 26 97 _ l26 rfl rfl
              clear hd ho hi hLi
              exact st_val (v := .int .i64 ↑j) (w' := W) (by rw [want_some (j := 26) (s := 97) rfl rfl e97]; rfl) (by unfold execOp; dsimp only [Act.eval]; simp only [f7]; go_simp) (hK.out _ _ (hF.out.put (k := 30) (s := 101) rfl (by decide) hN (by decide) (fun u hu => Option.some.inj (Option.some.inj (show some (some (.int .i64 ↑j)) = some (some u) from hu))) (by dsimp only; rw [gd_ne (show 101 ≠ 81 by decide)]; exact hW.out)))
            | 31, _ =>
              obtain rfl := Option.some.inj ho
              have l29 : L 29 = true := dep_of hd (n := 29) (by decide)
              have e100 : T.getD 100 undef = .slice (some ⟨b, off, none⟩) n cI := hF.out.val 29 100 _ l29 rfl rfl
              have l30 : L 30 = true := dep_of hd (n := 30) (by decide)
              have e101 : T.getD 101 undef = .int .i64 ↑j := hF.out.val 30 101 _ l30 rfl rfl
              have l26 : L 26 = true := dep_of hd (n := 26) (by decide)
              have e97 : T.getD 97 undef = .bool false := hF.out.val 26 97 _ l26 rfl rfl
              clear hd ho hi hLi
              exact st_val (v := .pointer (some ⟨b, off + j, none⟩)) (w' := W) (by rw [want_some (j := 26) (s := 97) rfl rfl e97]; rfl) (by unfold execOp; dsimp only [Act.eval]; simp only [e100, e101]; go_simp) (hK.out _ _ (hF.out.put (k := 31) (s := 102) rfl (by decide) hN (by decide) (fun u hu => Option.some.inj (Option.some.inj (show some (some (.pointer (some ⟨b, off + j, none⟩))) = some (some u) from hu))) (by dsimp only; rw [gd_ne (show 102 ≠ 81 by decide)]; exact hW.out)))
            | 32, _ =>
              obtain rfl := Option.some.inj ho
              have l31 : L 31 = true := dep_of hd (n := 31) (by decide)
              have e102 : T.getD 102 undef = .pointer (some ⟨b, off + j, none⟩) := hF.out.val 31 102 _ l31 rfl rfl
              have l26 : L 26 = true := dep_of hd (n := 26) (by decide)
              have e97 : T.getD 97 undef = .bool false := hF.out.val 26 97 _ l26 rfl rfl
              have hcc := (hAll.out W hW.out.1).2.2.1
              clear hd ho hi hLi
              exact st_val (v := .int .i64 ↑i) (w' := W) (by rw [want_some (j := 26) (s := 97) rfl rfl e97]; rfl) (by unfold execOp; dsimp only [Act.eval]; simp only [e102]; go_simp) (hK.out _ _ (hF.out.put (k := 32) (s := 103) rfl (by decide) hN (by decide) (fun u hu => Option.some.inj (Option.some.inj (show some (some (.int .i64 ↑i)) = some (some u) from hu))) (by dsimp only; rw [gd_ne (show 103 ≠ 81 by decide)]; exact hW.out)))
            | 33, _ =>
              obtain rfl := Option.some.inj ho
              have l27 : L 27 = true := dep_of hd (n := 27) (by decide)
              have e98 : T.getD 98 undef = .pointer (some ⟨g, 0, none⟩) := hF.out.val 27 98 _ l27 rfl rfl
              have l32 : L 32 = true := dep_of hd (n := 32) (by decide)
              have e103 : T.getD 103 undef = .int .i64 ↑i := hF.out.val 32 103 _ l32 rfl rfl
              have l26 : L 26 = true := dep_of hd (n := 26) (by decide)
              have e97 : T.getD 97 undef = .bool false := hF.out.val 26 97 _ l26 rfl rfl
              have cc := Lib.hid (cSi.out W hW.out.1)
              clear hd ho hi hLi
              refine st_call (by rw [want_some (j := 26) (s := 97) rfl rfl e97]; rfl) (by unfold execOp; go_simp) cc.out ?_
              rintro r w3 ⟨rfl, rfl⟩
              exact ⟨_, rfl, hK.out _ _ (hF.out.put (k := 33) (s := 104) rfl (by decide) hN (by decide) (fun u hu => Option.some.inj (Option.some.inj (show some (some (.int .i64 ↑y.size)) = some (some u) from hu))) (by dsimp only; rw [gd_ne (show 104 ≠ 81 by decide)]; exact hW.out))⟩
            | 34, _ =>
              obtain rfl := Option.some.inj ho
              have l26 : L 26 = true := dep_of hd (n := 26) (by decide)
              have e97 : T.getD 97 undef = .bool false := hF.out.val 26 97 _ l26 rfl rfl
              clear hd ho hi hLi
              exact st_val (v := .pointer (some ⟨q, 1, none⟩)) (w' := W) (by rw [want_some (j := 26) (s := 97) rfl rfl e97]; rfl) (by unfold execOp; dsimp only [Act.eval]; simp only [f6]; go_simp) (hK.out _ _ (hF.out.put (k := 34) (s := 105) rfl (by decide) hN (by decide) (fun u hu => Option.some.inj (Option.some.inj (show some (some (.pointer (some ⟨q, 1, none⟩))) = some (some u) from hu))) (by dsimp only; rw [gd_ne (show 105 ≠ 81 by decide)]; exact hW.out)))
            | 35, _ =>
              obtain rfl := Option.some.inj ho
              have l34 : L 34 = true := dep_of hd (n := 34) (by decide)
              have e105 : T.getD 105 undef = .pointer (some ⟨q, 1, none⟩) := hF.out.val 34 105 _ l34 rfl rfl
              have l26 : L 26 = true := dep_of hd (n := 26) (by decide)
              have e97 : T.getD 97 undef = .bool false := hF.out.val 26 97 _ l26 rfl rfl
              have hcc := (hAll.out W hW.out.1).2.1
              clear hd ho hi hLi
              exact st_val (v := .slice (some ⟨b', off', none⟩) n cT) (w' := W) (by rw [want_some (j := 26) (s := 97) rfl rfl e97]; rfl) (by unfold execOp; dsimp only [Act.eval]; simp only [e105]; go_simp) (hK.out _ _ (hF.out.put (k := 35) (s := 106) rfl (by decide) hN (by decide) (fun u hu => Option.some.inj (Option.some.inj (show some (some (.slice (some ⟨b', off', none⟩) n cT)) = some (some u) from hu))) (by dsimp only; rw [gd_ne (show 106 ≠ 81 by decide)]; exact hW.out)))
            | 36, _ =>
              obtain rfl := Option.some.inj ho
              have l26 : L 26 = true := dep_of hd (n := 26) (by decide)
              have e97 : T.getD 97 undef = .bool false := hF.out.val 26 97 _ l26 rfl rfl
              clear hd ho hi hLi
              exact st_val (v := .int .i64 ↑j) (w' := W) (by rw [want_some (j := 26) (s := 97) rfl rfl e97]; rfl) (by unfold execOp; dsimp only [Act.eval]; simp only [f7]; go_simp) (hK.out _ _ (hF.out.put (k := 36) (s := 107) rfl (by decide) hN (by decide) (fun u hu => Option.some.inj (Option.some.inj (show some (some (.int .i64 ↑j)) = some (some u) from hu))) (by dsimp only; rw [gd_ne (show 107 ≠ 81 by decide)]; exact hW.out)))
            | 37, _ =>
              obtain rfl := Option.some.inj ho
              have l35 : L 35 = true := dep_of hd (n := 35) (by decide)
              have e106 : T.getD 106 undef = .slice (some ⟨b', off', none⟩) n cT := hF.out.val 35 106 _ l35 rfl rfl
              have l36 : L 36 = true := dep_of hd (n := 36) (by decide)
              have e107 : T.getD 107 undef = .int .i64 ↑j := hF.out.val 36 107 _ l36 rfl rfl
              have l26 : L 26 = true := dep_of hd (n := 26) (by decide)
              have e97 : T.getD 97 undef = .bool false := hF.out.val 26 97 _ l26 rfl rfl
              clear hd ho hi hLi
              exact st_val (v := .pointer (some ⟨b', off' + j, none⟩)) (w' := W) (by rw [want_some (j := 26) (s := 97) rfl rfl e97]; rfl) (by unfold execOp; dsimp only [Act.eval]; simp only [e106, e107]; go_simp) (hK.out _ _ (hF.out.put (k := 37) (s := 108) rfl (by decide) hN (by decide) (fun u hu => Option.some.inj (Option.some.inj (show some (some (.pointer (some ⟨b', off' + j, none⟩))) = some (some u) from hu))) (by dsimp only; rw [gd_ne (show 108 ≠ 81 by decide)]; exact hW.out)))
            | 38, _ =>
              obtain rfl := Option.some.inj ho
              have l37 : L 37 = true := dep_of hd (n := 37) (by decide)
              have e108 : T.getD 108 undef = .pointer (some ⟨b', off' + j, none⟩) := hF.out.val 37 108 _ l37 rfl rfl
              have l26 : L 26 = true := dep_of hd (n := 26) (by decide)
              have e97 : T.getD 97 undef = .bool false := hF.out.val 26 97 _ l26 rfl rfl
              have hcc := (hAll.out W hW.out.1).2.2.2.1
              clear hd ho hi hLi
              exact st_val (v := .string y) (w' := W) (by rw [want_some (j := 26) (s := 97) rfl rfl e97]; rfl) (by unfold execOp; dsimp only [Act.eval]; simp only [e108]; go_simp) (hK.out _ _ (hF.out.put (k := 38) (s := 109) rfl (by decide) hN (by decide) (fun u hu => Option.some.inj (Option.some.inj (show some (some (.string y)) = some (some u) from hu))) (by dsimp only; rw [gd_ne (show 109 ≠ 81 by decide)]; exact hW.out)))
            | 39, _ =>
              obtain rfl := Option.some.inj ho
              have l38 : L 38 = true := dep_of hd (n := 38) (by decide)
              have e109 : T.getD 109 undef = .string y := hF.out.val 38 109 _ l38 rfl rfl
              have l26 : L 26 = true := dep_of hd (n := 26) (by decide)
              have e97 : T.getD 97 undef = .bool false := hF.out.val 26 97 _ l26 rfl rfl
              clear hd ho hi hLi
              exact st_val (v := .int .i64 ↑y.size) (w' := W) (by rw [want_some (j := 26) (s := 97) rfl rfl e97]; rfl) (by unfold execOp; go_simp) (hK.out _ _ (hF.out.put (k := 39) (s := 110) rfl (by decide) hN (by decide) (fun u hu => Option.some.inj (Option.some.inj (show some (some (.int .i64 ↑y.size)) = some (some u) from hu))) (by dsimp only; rw [gd_ne (show 110 ≠ 81 by decide)]; exact hW.out)))
            | 40, _ =>
              obtain rfl := Option.some.inj ho
              have l33 : L 33 = true := dep_of hd (n := 33) (by decide)
              have e104 : T.getD 104 undef = .int .i64 ↑y.size := hF.out.val 33 104 _ l33 rfl rfl
              have l39 : L 39 = true := dep_of hd (n := 39) (by decide)
              have e110 : T.getD 110 undef = .int .i64 ↑y.size := hF.out.val 39 110 _ l39 rfl rfl
              have l26 : L 26 = true := dep_of hd (n := 26) (by decide)
              have e97 : T.getD 97 undef = .bool false := hF.out.val 26 97 _ l26 rfl rfl
              clear hd ho hi hLi
              exact st_val (v := .bool false) (w' := W) (by rw [want_some (j := 26) (s := 97) rfl rfl e97]; rfl) (by unfold execOp; dsimp only [Act.eval]; simp only [e104, e110]; go_simp) (hK.out _ _ (hF.out.put (k := 40) (s := 111) rfl (by decide) hN (by decide) (fun u hu => Option.some.inj (Option.some.inj (show some (some (.bool false)) = some (some u) from hu))) (by dsimp only; rw [gd_ne (show 111 ≠ 81 by decide)]; exact hW.out)))
            | 41, _ =>
              obtain rfl := Option.some.inj ho
              have l26 : L 26 = true := dep_of hd (n := 26) (by decide)
              have e97 : T.getD 97 undef = .bool false := hF.out.val 26 97 _ l26 rfl rfl
              have l40 : L 40 = true := dep_of hd (n := 40) (by decide)
              have e111 : T.getD 111 undef = .bool false := hF.out.val 40 111 _ l40 rfl rfl
              clear hd ho hi hLi
              exact st_val (v := .bool false) (w' := W) (want_none rfl) (by unfold execOp; dsimp only [Act.eval]; simp only [e97, e111]; go_simp) (hK.out _ _ (hF.out.put (k := 41) (s := 112) rfl (by decide) hN (by decide) (fun u hu => Option.some.inj (Option.some.inj (show some (some (.bool false)) = some (some u) from hu))) (by dsimp only; rw [gd_ne (show 112 ≠ 81 by decide)]; exact hW.out)))
          case hdone =>
            intro L T W2 hF hW hall
            obtain ⟨Ar2, cr, e81, _⟩ := hW.2 (hall 10 (by decide))
            have hT : T = #[.slice A n c, .int .i64 xx, undef, undef, u4, .pointer (some ⟨g, 0, none⟩), .pointer (some ⟨q, 0, none⟩), .int .i64 ↑j, .pointer (some ⟨p8, 0, none⟩), .bool true, undef, undef, undef, undef, undef, .slice A n c, .bool true, .bool false, undef, .pointer (some ⟨g, 0, none⟩), .pointer (some ⟨g, 0, none⟩), .slice A n c, .agg #[.slice (some ⟨b, off, none⟩) n cI, .slice (some ⟨b', off', none⟩) n cT], .int .i64 ↑j, .slice A n c, .int .i64 ↑n, .bool true, u27, u28, .tuple #[.agg (ndC t.kind t.a t.b t.s (.slice Av t.args.length cv)).toArray, .bool true], .pointer (some ⟨g, 0, none⟩), .pointer (some ⟨q, 0, none⟩), .slice (some ⟨b, off, none⟩) n cI, .int .i64 ↑j, .pointer (some ⟨b, off + j, none⟩), .int .i64 ↑i, .tuple #[.agg (ndC t.kind t.a t.b t.s (.slice Av t.args.length cv)).toArray, .bool true], .agg (ndC t.kind t.a t.b t.s (.slice Av t.args.length cv)).toArray, .bool true, .pointer (some ⟨q, 1, none⟩), .slice (some ⟨b', off', none⟩) n cT, .int .i64 ↑j, .pointer (some ⟨b', off' + j, none⟩), .string y, .bool false, u45, u46, u47, u48, u49, u50, u51, u52, u53, u54, u55, u56, u57, u58, u59, u60, u61, u62, u63, u64, u65, u66, u67, u68, u69, u70, .bool true, .bool false, .bool false, .agg #[.slice (some ⟨b, off, none⟩) n cI, .slice (some ⟨b', off', none⟩) n cT], .agg (ndC t.kind t.a t.b t.s (.slice Av t.args.length cv)).toArray, .pointer (some ⟨q, 1, none⟩), .slice (some ⟨b', off', none⟩) n cT, .int .i64 ↑j, .pointer (some ⟨b', off' + j, none⟩), .string y, .agg (rnC t.kind t.a t.b t.s (.slice Ar2 t.args.length cr)).toArray, .bool true, .bool false, .bool false, .bool false, .pointer (some ⟨g, 0, none⟩), .pointer (some ⟨q, 0, none⟩), .slice (some ⟨b, off, none⟩) n cI, .int .i64 ↑j, .pointer (some ⟨b, off + j, none⟩), .int .i64 ↑i, .int .i64 ↑t.kind, .pointer (some ⟨p8, 0, none⟩), .int .i64 ↑t.kind, .bool false, .bool false, .bool false, .pointer (some ⟨g, 0, none⟩), .pointer (some ⟨q, 0, none⟩), .slice (some ⟨b, off, none⟩) n cI, .int .i64 ↑j, .pointer (some ⟨b, off + j, none⟩), .int .i64 ↑i, .int .i64 ↑y.size, .pointer (some ⟨q, 1, none⟩), .slice (some ⟨b', off', none⟩) n cT, .int .i64 ↑j, .pointer (some ⟨b', off' + j, none⟩), .string y, .int .i64 ↑y.size, .bool false, .bool false, undef, undef, undef, undef, undef, undef, undef, undef, undef, undef, undef, undef, undef, undef, undef, undef, undef, undef, undef, undef, undef, undef, undef, undef, undef, undef, undef, undef, undef, undef, undef, undef, undef, undef, undef, undef, undef, undef, undef, undef, undef, undef, undef, undef, undef, undef, undef, undef, undef, undef, undef, undef, undef] := (hF.fin [(71, .bool true), (72, .bool false), (73, .bool false), (74, .agg #[.slice (some ⟨b, off, none⟩) n cI, .slice (some ⟨b', off', none⟩) n cT]), (75, .agg (ndC t.kind t.a t.b t.s (.slice Av t.args.length cv)).toArray), (76, .pointer (some ⟨q, 1, none⟩)), (77, .slice (some ⟨b', off', none⟩) n cT), (78, .int .i64 ↑j), (79, .pointer (some ⟨b', off' + j, none⟩)), (80, .string y), (81, .agg (rnC t.kind t.a t.b t.s (.slice Ar2 t.args.length cr)).toArray), (82, .bool true), (83, .bool false), (84, .bool false), (85, .bool false), (86, .pointer (some ⟨g, 0, none⟩)), (87, .pointer (some ⟨q, 0, none⟩)), (88, .slice (some ⟨b, off, none⟩) n cI), (89, .int .i64 ↑j), (90, .pointer (some ⟨b, off + j, none⟩)), (91, .int .i64 ↑i), (92, .int .i64 ↑t.kind), (93, .pointer (some ⟨p8, 0, none⟩)), (94, .int .i64 ↑t.kind), (95, .bool false), (96, .bool false), (97, .bool false), (98, .pointer (some ⟨g, 0, none⟩)), (99, .pointer (some ⟨q, 0, none⟩)), (100, .slice (some ⟨b, off, none⟩) n cI), (101, .int .i64 ↑j), (102, .pointer (some ⟨b, off + j, none⟩)), (103, .int .i64 ↑i), (104, .int .i64 ↑y.size), (105, .pointer (some ⟨q, 1, none⟩)), (106, .slice (some ⟨b', off', none⟩) n cT), (107, .int .i64 ↑j), (108, .pointer (some ⟨b', off' + j, none⟩)), (109, .string y), (110, .int .i64 ↑y.size), (111, .bool false), (112, .bool false)] [71, 72, 73, 74, 75, 76, 77, 78, 79, 80, 81, 82, 83, 84, 85, 86, 87, 88, 89, 90, 91, 92, 93, 94, 95, 96, 97, 98, 99, 100, 101, 102, 103, 104, 105, 106, 107, 108, 109, 110, 111, 112] rfl (List.forall_mem_cons.2 ⟨hF.val 0 _ _ (hall 0 (show 0 < 42 by decide)) rfl rfl, (List.forall_mem_cons.2 ⟨hF.val 1 _ _ (hall 1 (show 1 < 42 by decide)) rfl rfl, (List.forall_mem_cons.2 ⟨hF.val 2 _ _ (hall 2 (show 2 < 42 by decide)) rfl rfl, (List.forall_mem_cons.2 ⟨hF.val 3 _ _ (hall 3 (show 3 < 42 by decide)) rfl rfl, (List.forall_mem_cons.2 ⟨hF.val 4 _ _ (hall 4 (show 4 < 42 by decide)) rfl rfl, (List.forall_mem_cons.2 ⟨hF.val 5 _ _ (hall 5 (show 5 < 42 by decide)) rfl rfl, (List.forall_mem_cons.2 ⟨hF.val 6 _ _ (hall 6 (show 6 < 42 by decide)) rfl rfl, (List.forall_mem_cons.2 ⟨hF.val 7 _ _ (hall 7 (show 7 < 42 by decide)) rfl rfl, (List.forall_mem_cons.2 ⟨hF.val 8 _ _ (hall 8 (show 8 < 42 by decide)) rfl rfl, (List.forall_mem_cons.2 ⟨hF.val 9 _ _ (hall 9 (show 9 < 42 by decide)) rfl rfl, (List.forall_mem_cons.2 ⟨e81, (List.forall_mem_cons.2 ⟨hF.val 11 _ _ (hall 11 (show 11 < 42 by decide)) rfl rfl, (List.forall_mem_cons.2 ⟨hF.val 12 _ _ (hall 12 (show 12 < 42 by decide)) rfl rfl, (List.forall_mem_cons.2 ⟨hF.val 13 _ _ (hall 13 (show 13 < 42 by decide)) rfl rfl, (List.forall_mem_cons.2 ⟨hF.val 14 _ _ (hall 14 (show 14 < 42 by decide)) rfl rfl, (List.forall_mem_cons.2 ⟨hF.val 15 _ _ (hall 15 (show 15 < 42 by decide)) rfl rfl, (List.forall_mem_cons.2 ⟨hF.val 16 _ _ (hall 16 (show 16 < 42 by decide)) rfl rfl, (List.forall_mem_cons.2 ⟨hF.val 17 _ _ (hall 17 (show 17 < 42 by decide)) rfl rfl, (List.forall_mem_cons.2 ⟨hF.val 18 _ _ (hall 18 (show 18 < 42 by decide)) rfl rfl, (List.forall_mem_cons.2 ⟨hF.val 19 _ _ (hall 19 (show 19 < 42 by decide)) rfl rfl, (List.forall_mem_cons.2 ⟨hF.val 20 _ _ (hall 20 (show 20 < 42 by decide)) rfl rfl, (List.forall_mem_cons.2 ⟨hF.val 21 _ _ (hall 21 (show 21 < 42 by decide)) rfl rfl, (List.forall_mem_cons.2 ⟨hF.val 22 _ _ (hall 22 (show 22 < 42 by decide)) rfl rfl, (List.forall_mem_cons.2 ⟨hF.val 23 _ _ (hall 23 (show 23 < 42 by decide)) rfl rfl, (List.forall_mem_cons.2 ⟨hF.val 24 _ _ (hall 24 (show 24 < 42 by decide)) rfl rfl, (List.forall_mem_cons.2 ⟨hF.val 25 _ _ (hall 25 (show 25 < 42 by decide)) rfl rfl, (List.forall_mem_cons.2 ⟨hF.val 26 _ _ (hall 26 (show 26 < 42 by decide)) rfl rfl, (List.forall_mem_cons.2 ⟨hF.val 27 _ _ (hall 27 (show 27 < 42 by decide)) rfl rfl, (List.forall_mem_cons.2 ⟨hF.val 28 _ _ (hall 28 (show 28 < 42 by decide)) rfl rfl, (List.forall_mem_cons.2 ⟨hF.val 29 _ _ (hall 29 (show 29 < 42 by decide)) rfl rfl, (List.forall_mem_cons.2 ⟨hF.val 30 _ _ (hall 30 (show 30 < 42 by decide)) rfl rfl, (List.forall_mem_cons.2 ⟨hF.val 31 _ _ (hall 31 (show 31 < 42 by decide)) rfl rfl, (List.forall_mem_cons.2 ⟨hF.val 32 _ _ (hall 32 (show 32 < 42 by decide)) rfl rfl, (List.forall_mem_cons.2 ⟨hF.val 33 _ _ (hall 33 (show 33 < 42 by decide)) rfl rfl, (List.forall_mem_cons.2 ⟨hF.val 34 _ _ (hall 34 (show 34 < 42 by decide)) rfl rfl, (List.forall_mem_cons.2 ⟨hF.val 35 _ _ (hall 35 (show 35 < 42 by decide)) rfl rfl, (List.forall_mem_cons.2 ⟨hF.val 36 _ _ (hall 36 (show 36 < 42 by decide)) rfl rfl, (List.forall_mem_cons.2 ⟨hF.val 37 _ _ (hall 37 (show 37 < 42 by decide)) rfl rfl, (List.forall_mem_cons.2 ⟨hF.val 38 _ _ (hall 38 (show 38 < 42 by decide)) rfl rfl, (List.forall_mem_cons.2 ⟨hF.val 39 _ _ (hall 39 (show 39 < 42 by decide)) rfl rfl, (List.forall_mem_cons.2 ⟨hF.val 40 _ _ (hall 40 (show 40 < 42 by decide)) rfl rfl, (List.forall_mem_cons.2 ⟨hF.val 41 _ _ (hall 41 (show 41 < 42 by decide)) rfl rfl, (fun _ h => absurd h List.not_mem_nil)⟩)⟩)⟩)⟩)⟩)⟩)⟩)⟩)⟩)⟩)⟩)⟩)⟩)⟩)⟩)⟩)⟩)⟩)⟩)⟩)⟩)⟩)⟩)⟩)⟩)⟩)⟩)⟩)⟩)⟩)⟩)⟩)⟩)⟩)⟩)⟩)⟩)⟩)⟩)⟩)⟩)⟩) (by decide)).trans (by kernel_rfl)
            clear hF hall
            subst hT
            have hBz := Lib.hid (hbr'.out _ (hB6.trans (hW.1.mono hB6.size)))
            clear hW
            go_wp2_with fail
            go_roundw
            case rel => exact ⟨j + 1, by omega, by go_num, hBz⟩
            case measure => simp [intOf]; omega
      · have hjn : j = n := by omega
        subst hjn
        clear hlt
        have hS := (hMdh.out.below hbr.out).st
        have cV := Lib.hid (hS.view_row xx)
        have hLen := Lib.hid (fun W' (hb : Below wr.heap.size wr W') => (hS.keep hb).len)
        have hbr' := Lib.hid (fun W' (h : Below wr.heap.size wr W') => hB4.out.trans ((hbr.out.trans (h.mono hbr.out.size)).mono hB4.out.size))
        have hcase : (0 ≤ xx ∧ xx < L.length ∧ (get L xx).isSome = true) ∨ (xx < 0 ∧ (get L xx).isSome = false) ∨ (0 ≤ xx ∧ decide (xx < (L.length : Int)) = false ∧ (get L xx).isSome = false) := by
          rcases Int.lt_or_le xx 0 with h | h
          · exact .inr (.inl ⟨h, by rw [get_neg h]; rfl⟩)
          · obtain ⟨i, rfl⟩ := Int.eq_ofNat_of_zero_le h
            rcases Nat.lt_or_ge i L.length with h1 | h1
            · exact .inl ⟨h, by omega, by rw [get_nat, List.getElem?_eq_getElem h1]; rfl⟩
            · exact .inr (.inr ⟨h, decide_eq_false (by omega), by rw [get_nat, List.getElem?_eq_none h1]; rfl⟩)
        have hfew := hS.few
        clear hS hbr hMdh
        generalize (get L xx).isSome = bb at *
        go_upto_region 15 with (first
          | (go_at_call 28; refine cV.out.mono ?_; rintro r w5 ⟨k, a, e, s, Av, m, cv, rfl, hb5⟩
             obtain ⟨z5, b5, _⟩ := nd_box w5 k a e s Av m cv
             have hz5 := Lib.hid z5
             have hB6 := Lib.hid (hb5.trans (b5.mono hb5.size))
             clear hb5 cV z5 b5)
          | (refine wpList_store_at 59 _ _ rfl rfl w5.heap.size (ndC k a e s (.slice Av m cv)).toArray rfl rfl 59 zNd.toArray hz5.out (by kernel_rfl) rfl nd_all ?_))
        replace hB6 := hB6.out
        generalize (w5.alloc (.cells #[.int .i64 0, .int .i64 0, .int .i64 0, .string ⟨#[]⟩, .slice none 0 0] 59)).setRow w5.heap.size (ndC k a e s (.slice Av m cv)).toArray = W6 at *
        generalize w5.heap.size = p10 at *
        generalize (ndC k a e s (.slice Av m cv)).toArray = nv at *
        have cV2 := Lib.hid (view_nil 0 W6)
        have hB6h := Lib.hid hB6
        clear hB6 hz5
        go_upto_region 17 with (first
          | (go_at_call 28; refine cV2.out.mono ?_; rintro r w7 ⟨rfl, hb7⟩
             obtain ⟨z7, b7, _⟩ := nd_box w7 0 0 0 [] none 0 0
             have hz7 := Lib.hid z7
             have hB8 := Lib.hid (hB6h.out.trans ((hb7.trans (b7.mono hb7.size)).mono hB6h.out.size))
             clear hb7 cV2 z7 b7)
          | (refine wpList_store_at 59 _ _ rfl rfl w7.heap.size zNd.toArray rfl rfl 59 zNd.toArray hz7.out (by kernel_rfl) rfl zNd_one ?_))
        replace hB8 : Below wr.heap.size wr ((w7.alloc (.cells #[.int .i64 0, .int .i64 0, .int .i64 0, .string ⟨#[]⟩, .slice none 0 0] 59)).setRow w7.heap.size zNd.toArray) := hB8.out
        generalize (w7.alloc (.cells #[.int .i64 0, .int .i64 0, .int .i64 0, .string ⟨#[]⟩, .slice none 0 0] 59)).setRow w7.heap.size zNd.toArray = W8 at *
        generalize w7.heap.size = p13 at *
        generalize zNd.toArray = zv at *
        have hB8h := Lib.hid hB8
        clear hB8 hz7 hB6h
        have cL0 := Lib.hid (fun W => len_nil W)
        have cD0 := Lib.hid (fun W => data_nil W)
        have cK0 := Lib.hid (fun W => kind_nil 0 W)
        have cS0 := Lib.hid (fun W => size_nil 0 W)
        have cI0 := Lib.hid (fun W => list_nil W)
        rcases hcase with ⟨h1, h2, rfl⟩ | ⟨h1, rfl⟩ | ⟨h1, h2, rfl⟩ <;>
        ( go_wp2_with (first
            | (go_at_call 11; refine (cA.out _).mono ?_; rintro r w9 ⟨rfl, hb9⟩
               have hB9 := Lib.hid (hB8h.out.trans (hb9.mono hB8h.out.size))
               have cL := Lib.hid (hLen.out w9 hB9.out)
               clear hb9)
            | (go_at_call 21; (with_reducible refine cL.out.mono ?_); rintro r w10 ⟨rfl, rfl⟩)
            | (go_at_call 21; (with_reducible refine (cL0.out _).mono ?_); rintro r w10 ⟨rfl, rfl⟩)
            | (go_at_call 13; (with_reducible refine (cD0.out _).mono ?_); rintro r w11 ⟨rfl, hb11⟩
               have hB11 := Lib.hid (hB9.out.trans (hb11.mono hB9.out.size)); clear hb11)
            | (go_at_call 29; (with_reducible refine (cK0.out _).mono ?_); rintro r w12 ⟨rfl, rfl⟩)
            | (go_at_call 14; (with_reducible refine (cS0.out _).mono ?_); rintro r w12 ⟨rfl, rfl⟩)
            | (go_at_call 15; (with_reducible refine (cI0.out _).mono ?_); rintro r w12 ⟨rfl, hb12⟩
               have hB12 := Lib.hid (hbr'.out _ (hB11.out.trans (hb12.mono hB11.out.size))); clear hb12))
          go_ret
          exact ⟨rfl, hB12.out⟩ )
end Go.Proofs.YtbeanjaenmpoeaaDoor
