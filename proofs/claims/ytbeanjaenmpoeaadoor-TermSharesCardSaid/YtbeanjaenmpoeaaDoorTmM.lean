/- TermShares: the walk. -/
import Derived.Test.YtbeanjaenmpoeaaDoorTmJ
import Derived.Test.YtbeanjaenmpoeaaDoorTmK
import Derived.Deep.RegionHeld3
namespace Go.Proofs.YtbeanjaenmpoeaaDoor
open Go.RowKit Go.Maps

theorem St.exp {w : World} {g : Nat} {W : World} {L : List Tm} (h : St w g W L) (hL : L.length < 100) (s x : Int) : Calls Tryd.prog 17 #[.pointer (some ⟨g, 0, none⟩), .int .i64 s, .int .i64 x] W (SR w g W L (expT (get L s) (get L x))) :=
  h.put hL fun A h1 h2 H hB hN => by subst h1; subst h2; exact exp_any A _ W H hB hN s x
def pv (x : Int × Int) : List Value := [.int .i64 x.1, .int .i64 x.2]
def nnT (x : Int × Int) : Option Tm := nonceT x.1 x.2
/-- The list with two places changed. -/
def swp {α : Type} (l : List α) (p q : Nat) (i : Nat) : Option α := l[if i = q then p else if i = p then q else i]?
def swpL {α : Type} (l : List α) (p q : Nat) (hp : p < l.length) (hq : q < l.length) : List α := (l.set p l[q]).set q l[p]
theorem swpL_perm {α : Type} (l : List α) (p q : Nat) (hp : p < l.length) (hq : q < l.length) : (swpL l p q hp hq).Perm l := List.set_set_perm hp hq
theorem swpL_at {α : Type} (l : List α) (p q : Nat) (hp : p < l.length) (hq : q < l.length) (i : Nat) : (swpL l p q hp hq)[i]? = swp l p q i := by
  unfold swpL swp
  rw [List.getElem?_set]
  by_cases e : q = i
  · subst e
    simp [hp, hq]
  · rw [if_neg e, if_neg (Ne.symm e), List.getElem?_set]
    by_cases e2 : p = i
    · subst e2
      simp [hp, hq]
    · rw [if_neg e2, if_neg (Ne.symm e2)]
theorem swpL_len {α : Type} (l : List α) (p q : Nat) (hp : p < l.length) (hq : q < l.length) : (swpL l p q hp hq).length = l.length := by simp [swpL]
theorem row2 {w : World} {A : Option Addr} {n : Nat} {zs : List (Int × Int)} (H : Rws w 2 A n (zs.map pv)) (hpos : 0 < n) : ∃ rb off, A = some ⟨rb, off, none⟩ ∧ rb < w.heap.size ∧ ∀ (j : Nat) (z : Int × Int), zs[j]? = some z → w.cell? ⟨rb, off + j * 2, none⟩ = some (.int .i64 z.1) ∧ w.cell? ⟨rb, off + j * 2 + 1, none⟩ = some (.int .i64 z.2) := by
  obtain ⟨b, off, e, hlt, hc⟩ := H.2.2 hpos
  refine ⟨b, off, e, hlt, fun j z hz => ?_⟩
  have hr := hc j (pv z) (by rw [List.getElem?_map, hz]; rfl)
  exact ⟨hr 0 _ rfl, hr 1 _ rfl⟩
theorem exps_take {S : Option Tm} {l : List (Option Tm)} {j : Nat} {x : Option Tm} (h : l[j]? = some x) : expT (exps S (l.take j)) x = exps S (l.take (j + 1)) := by rw [take_succ_of h, exps_snoc]
set_option maxRecDepth 100000 in
set_option maxHeartbeats 4000000 in
theorem termShares_any (s : List UInt8) (zs : List (Int × Int)) (Al : Option Addr) (n c : Nat) (a b : Nat) (w : World) (hn : n ≤ 9223372036854775807) (ha : a < 256) (hb : b < 256) (H : Rws w 2 Al n (zs.map pv)) :
    Calls Tryd.prog 4 #[.string (bs s), .slice Al n c, .agg #[.int .u8 a, .int .u8 b]] w fun r w' => r = .returned (.bool true) ∧ Below w.heap.size w w' := by
  have cA := Lib.hid (fun W => awake01 W)
  have hz := bs_size s
  have hB1 := Lib.hid (below_new w (.cells #[.int .u8 a, .int .u8 b] 33))
  have hcell := Lib.hid (heap_new w (.cells #[.int .u8 a, .int .u8 b] 33))
  by_cases h1 : 8 < n
  · clear H hz
    go_enter Tryd.func4, Tryd.ntmps4
    go_wp2_with (go_at_call 11; refine (cA.out _).mono ?_; rintro r w1 ⟨rfl, hb⟩)
    go_ret
    exact ⟨rfl, hB1.out.trans (hb.mono hB1.out.size)⟩
  by_cases h2 : 200 < (bs s).size
  · clear H hz
    go_enter Tryd.func4, Tryd.ntmps4
    go_wp2_with (go_at_call 11; refine (cA.out _).mono ?_; rintro r w1 ⟨rfl, hb⟩)
    go_ret
    exact ⟨rfl, hB1.out.trans (hb.mono hB1.out.size)⟩
  have hs : s.length ≤ 4000000000 := by omega
  have hzl : zs.length = n := by simpa using H.1
  have hH := Lib.hid H
  have hzs := Lib.hid hzl
  have cN := Lib.hid (tnew_any (w.alloc (.cells #[.int .u8 a, .int .u8 b] 33)))
  clear H hz
  go_enter Tryd.func4, Tryd.ntmps4
  go_upto_region 3 with fail
  have hlt0 : w.heap.size < (w.alloc (.cells #[.int .u8 a, .int .u8 b] 33)).heap.size := by simp
  generalize w.alloc (.cells #[.int .u8 a, .int .u8 b] 33) = w0 at *
  obtain ⟨ys, hyl, hyp, hya⟩ : ∃ ys : List (Option Tm), ys.length = n ∧ ys.Perm (zs.map nnT) ∧ ∀ j, 0 < n → ys[j]? = (zs.map nnT)[if j = b % n then a % n else if j = a % n then b % n else j]? := by
    by_cases h0 : n = 0
    · exact ⟨zs.map nnT, by simp [hzl], List.Perm.refl _, fun j hj => by omega⟩
    · have hp : a % n < (zs.map nnT).length := by rw [List.length_map, hzl]; exact Nat.mod_lt _ (by omega)
      have hq : b % n < (zs.map nnT).length := by rw [List.length_map, hzl]; exact Nat.mod_lt _ (by omega)
      exact ⟨swpL (zs.map nnT) (a % n) (b % n) hp hq, by rw [swpL_len, List.length_map, hzl], swpL_perm _ _ _ _ _, fun j _ => swpL_at _ _ _ _ _ j⟩
  have hyl := Lib.hid hyl
  have hypH := Lib.hid hyp
  have hyaH := Lib.hid hya
  have hbT := Lib.hid (rfl : baseT s = baseT s)
  clear hyp hya
  go_upto_region 5 with (first
    | (go_at_call 12; refine cN.out.mono ?_; rintro r w1 ⟨A, rfl, hN, hA, hb⟩
       have hS0 := St.start hN hA hb
       clear hN hA hb cN
       generalize A.g = g at *
       have cB1 := Lib.hid (hS0.base (by decide) s hs)
       clear hS0)
    | (go_at_call 16; refine cB1.out.mono ?_; rintro r w2 ⟨L1, x1, rfl, hS1, hG1, hM1, -, -⟩
       have cB2 := Lib.hid (hS1.base (by have := hG1.len.2; simp at this; omega) s hs)
       have hl1 := Lib.hid hG1.len.2
       have hM1 := Lib.hid hM1
       clear hS1 hG1 cB1)
    | (go_at_call 16; refine cB2.out.mono ?_; rintro r w3 ⟨L2, x2, rfl, hS2, hG2, hM2, -, -⟩
       have hM1 := Lib.hid (hM1.out.grow hG2)
       have hM2 := Lib.hid hM2
       have hS2 := Lib.hid hS2
       have hl2 := Lib.hid (show L2.length ≤ 2 by have := hG2.len.2; have := hl1.out; simp at this; omega)
       clear hG2 cB2 hl1))
  go_wp2_with fail
  go_loopw [8, 9, 11] (fun sv tv iv wr => ∃ (j : Nat) (x y : Int) (L : List Tm), j ≤ n ∧ iv = .int .i64 j ∧ sv = .int .i64 x ∧ tv = .int .i64 y ∧ Hid (Nm L x (exps (baseT s) ((zs.map nnT).take j))) ∧ Hid (Nm L y (exps (baseT s) (ys.take j))) ∧ Hid (L.length ≤ 2 + 4 * j) ∧ Hid (St w0 g wr L)) (fun _ _ iv _ => n - (intOf iv).toNat)
  case atStart => exact ⟨0, x1, x2, L2, by omega, rfl, rfl, rfl, hM1, hM2, hl2, hS2⟩
  case round =>
    obtain ⟨j, x, y, L, hj, rfl, rfl, rfl, hX, hY, hL, hS⟩ := hrel
    by_cases hlt : j < n
    · have hn0 : 0 < n := by omega
      have hBr := hB1.out.trans (hS.out.below.mono hB1.out.size)
      obtain ⟨rb, off, rfl, hrb, hrows⟩ := row2 hH.out hn0
      have hT := Lib.hid (fun W (h : Below w.heap.size w W) (j : Nat) (z : Int × Int) (hz : zs[j]? = some z) => (show W.cell? ⟨rb, off + j * 2, none⟩ = some (.int .i64 z.1) ∧ W.cell? ⟨rb, off + j * 2 + 1, none⟩ = some (.int .i64 z.2) from ⟨(h.cell (p := ⟨rb, off + j * 2, none⟩) hrb).trans (hrows j z hz).1, (h.cell (p := ⟨rb, off + j * 2 + 1, none⟩) hrb).trans (hrows j z hz).2⟩))
      have hwr := (hS.out.below.block w.heap.size hlt0).trans hcell.out
      have hc0 : wr.cell? ⟨w.heap.size, 0, none⟩ = some (.int .u8 a) := by rw [cell_of_row wr w.heap.size 0 _ _ _ hwr]; rfl
      have hc1 : wr.cell? ⟨w.heap.size, 1, none⟩ = some (.int .u8 b) := by rw [cell_of_row wr w.heap.size 1 _ _ _ hwr]; rfl
      have hyj := hyaH.out j hn0
      have hpl : a % n < n := Nat.mod_lt _ hn0
      have hql : b % n < n := Nat.mod_lt _ hn0
      clear hwr hBr hrows
      go_upto_region 10 with fail
      go_quiet (fail)
      have ea : ((a : Int) % (n : Int)) = ((a % n : Nat) : Int) := by simp
      have eb : ((b : Int) % (n : Int)) = ((b % n : Nat) : Int) := by simp
      rw [ea, eb]
      clear ea eb hc0 hc1
      generalize a % n = p at *
      generalize b % n = q at *
      have hdr := drewN_below (w := wr) nq
      generalize wr.drewN nq = wr2 at hdr ⊢
      have hS := Lib.hid (hS.out.keep hdr)
      clear hdr
      obtain ⟨z1, hz1⟩ : ∃ z, zs[j]? = some z := ⟨zs[j]'(by have := hzs.out; omega), List.getElem?_eq_getElem (by have := hzs.out; omega)⟩
      obtain ⟨zp, hzp⟩ : ∃ z, zs[p]? = some z := ⟨zs[p]'(by have := hzs.out; omega), List.getElem?_eq_getElem (by have := hzs.out; omega)⟩
      obtain ⟨zq, hzq⟩ : ∃ z, zs[q]? = some z := ⟨zs[q]'(by have := hzs.out; omega), List.getElem?_eq_getElem (by have := hzs.out; omega)⟩
      have hm1 := Lib.hid (show (zs.map nnT)[j]? = some (nonceT z1.1 z1.2) by rw [List.getElem?_map, hz1]; rfl)
      have hmp := Lib.hid (show (zs.map nnT)[p]? = some (nonceT zp.1 zp.2) by rw [List.getElem?_map, hzp]; rfl)
      have hmq := Lib.hid (show (zs.map nnT)[q]? = some (nonceT zq.1 zq.2) by rw [List.getElem?_map, hzq]; rfl)
      have hst1 := Lib.hid (exps_take (S := baseT s) hm1.out)
      have hz1 := Lib.hid hz1
      have hzp := Lib.hid hzp
      have hzq := Lib.hid hzq
      by_cases e1 : j = q
      · subst e1
        have ejj : ((j : Int) == (j : Int)) = true := by simp
        by_cases e2 : j = p
        · subst e2
          rw [if_pos rfl] at hyj
          have hst2 := Lib.hid (exps_take (S := baseT s) (hyj.trans hm1.out))
          clear hyj
          go_upto_region 15 with fail
          have cNo := Lib.hid ((hS.out.keep (show Below wr2.heap.size wr2 wr2.drew from drewN_below 1)).nonce (by have := hL.out; omega) z1.1 z1.2)
          have hd0 := Lib.hid (hB1.out.trans ((hS.out.keep (show Below wr2.heap.size wr2 wr2.drew from drewN_below 1)).below.mono hB1.out.size))
          have hn0 : (0 : Int) ≤ (j : Int) ∧ (j : Int) < (n : Int) := by omega
          have hn1 := hn0.1
          have hn2 := hn0.2
          clear hn0
          go_region_held3 (fun W => W.cell? ⟨rb, off + j * 2, none⟩ = some (.int .i64 z1.1) ∧ W.cell? ⟨rb, off + j * 2 + 1, none⟩ = some (.int .i64 z1.2))
            (first | exact hT.out _ hd0.out j z1 hz1.out | exact hT.out _ hd1.out j z1 hz1.out | exact hT.out _ hd2.out j z1 hz1.out)
            (first
              | (go_at_call 18; (with_reducible refine cNo.out.mono ?_); rintro r v1 ⟨L1, nz, rfl, hS1, hG1, hM1, -, -⟩
                 have hX1 := Lib.hid (hX.out.grow hG1)
                 have hY1 := Lib.hid (hY.out.grow hG1)
                 have hl1 := Lib.hid (show L1.length ≤ 2 + 4 * j + 1 by have := hG1.len.2; have := hL.out; omega)
                 have hd1 := Lib.hid (hB1.out.trans (hS1.below.mono hB1.out.size))
                 have cE := hS1.exp (by have := hl1.out; omega) x nz
                 rw [hX1.out.1, hM1.1, hst1.out] at cE
                 have cEh := Lib.hid cE
                 clear hS1 hG1 hM1 cE)
              | (go_at_call 17; (with_reducible refine cEh.out.mono ?_); rintro r v2 ⟨L2, x', rfl, hS2, hG2, hM2, -, -⟩
                 have hX2 := Lib.hid hM2
                 have hY2 := Lib.hid (hY1.out.grow hG2)
                 have hl2 := Lib.hid (show L2.length ≤ 2 + 4 * j + 2 by have := hG2.len.2; have := hl1.out; omega)
                 have hd2 := Lib.hid (hB1.out.trans (hS2.below.mono hB1.out.size))
                 have hS2 := Lib.hid hS2
                 clear hG2 hM2))
          (try clear hd0); (try clear hd1); (try clear hd2); (try clear hX1); (try clear hY1); (try clear hl1); (try clear cNo); (try clear cEh)
          clear hn1 hn2
          have hXa := hX2
          have hYa := hY2
          have hLa := hl2
          have hSa := hS2
          clear hX2 hY2 hl2 hS2 hX hY hL hS
          go_upto_region 16 with fail
          have cNo := Lib.hid ((hSa.out.keep (show Below v2.heap.size v2 v2.drew from drewN_below 1)).nonce (by have := hLa.out; omega) z1.1 z1.2)
          have hd0 := Lib.hid (hB1.out.trans ((hSa.out.keep (show Below v2.heap.size v2 v2.drew from drewN_below 1)).below.mono hB1.out.size))
          have hn0 : (0 : Int) ≤ (j : Int) ∧ (j : Int) < (n : Int) := by omega
          have hn1 := hn0.1
          have hn2 := hn0.2
          clear hn0
          go_region_held3 (fun W => W.cell? ⟨rb, off + j * 2, none⟩ = some (.int .i64 z1.1) ∧ W.cell? ⟨rb, off + j * 2 + 1, none⟩ = some (.int .i64 z1.2))
            (first | exact hT.out _ hd0.out j z1 hz1.out | exact hT.out _ hd1.out j z1 hz1.out | exact hT.out _ hd2.out j z1 hz1.out)
            (first
              | (go_at_call 18; (with_reducible refine cNo.out.mono ?_); rintro r v1 ⟨L1, nz, rfl, hS1, hG1, hM1, -, -⟩
                 have hX1 := Lib.hid (hYa.out.grow hG1)
                 have hY1 := Lib.hid (hXa.out.grow hG1)
                 have hl1 := Lib.hid (show L1.length ≤ 2 + 4 * j + 2 + 1 by have := hG1.len.2; have := hLa.out; omega)
                 have hd1 := Lib.hid (hB1.out.trans (hS1.below.mono hB1.out.size))
                 have cE := hS1.exp (by have := hl1.out; omega) y nz
                 rw [hX1.out.1, hM1.1, hst2.out] at cE
                 have cEh := Lib.hid cE
                 clear hS1 hG1 hM1 cE)
              | (go_at_call 17; (with_reducible refine cEh.out.mono ?_); rintro r v2 ⟨L2, y', rfl, hS2, hG2, hM2, -, -⟩
                 have hX2 := Lib.hid hM2
                 have hY2 := Lib.hid (hY1.out.grow hG2)
                 have hl2 := Lib.hid (show L2.length ≤ 2 + 4 * j + 2 + 2 by have := hG2.len.2; have := hl1.out; omega)
                 have hd2 := Lib.hid (hB1.out.trans (hS2.below.mono hB1.out.size))
                 have hS2 := Lib.hid hS2
                 clear hG2 hM2))
          (try clear hd0); (try clear hd1); (try clear hd2); (try clear hX1); (try clear hY1); (try clear hl1); (try clear cNo); (try clear cEh)
          clear hn1 hn2
          clear hXa hYa hLa hSa
          go_wp2_with fail
          go_roundw
          case rel => exact ⟨j + 1, x', y', _, by omega, by go_num, rfl, rfl, hY2, hX2, hl2, hS2⟩
          case measure => simp [intOf]; omega
        · have enp : ((j : Int) == (p : Int)) = false := by rw [beq_eq_false_iff_ne]; omega
          rw [if_pos rfl] at hyj
          have hst2 := Lib.hid (exps_take (S := baseT s) (hyj.trans hmp.out))
          clear hyj e2
          go_upto_region 15 with fail
          have cNo := Lib.hid ((hS.out.keep (show Below wr2.heap.size wr2 wr2.drew from drewN_below 1)).nonce (by have := hL.out; omega) z1.1 z1.2)
          have hd0 := Lib.hid (hB1.out.trans ((hS.out.keep (show Below wr2.heap.size wr2 wr2.drew from drewN_below 1)).below.mono hB1.out.size))
          have hn0 : (0 : Int) ≤ (j : Int) ∧ (j : Int) < (n : Int) := by omega
          have hn1 := hn0.1
          have hn2 := hn0.2
          clear hn0
          go_region_held3 (fun W => W.cell? ⟨rb, off + j * 2, none⟩ = some (.int .i64 z1.1) ∧ W.cell? ⟨rb, off + j * 2 + 1, none⟩ = some (.int .i64 z1.2))
            (first | exact hT.out _ hd0.out j z1 hz1.out | exact hT.out _ hd1.out j z1 hz1.out | exact hT.out _ hd2.out j z1 hz1.out)
            (first
              | (go_at_call 18; (with_reducible refine cNo.out.mono ?_); rintro r v1 ⟨L1, nz, rfl, hS1, hG1, hM1, -, -⟩
                 have hX1 := Lib.hid (hX.out.grow hG1)
                 have hY1 := Lib.hid (hY.out.grow hG1)
                 have hl1 := Lib.hid (show L1.length ≤ 2 + 4 * j + 1 by have := hG1.len.2; have := hL.out; omega)
                 have hd1 := Lib.hid (hB1.out.trans (hS1.below.mono hB1.out.size))
                 have cE := hS1.exp (by have := hl1.out; omega) x nz
                 rw [hX1.out.1, hM1.1, hst1.out] at cE
                 have cEh := Lib.hid cE
                 clear hS1 hG1 hM1 cE)
              | (go_at_call 17; (with_reducible refine cEh.out.mono ?_); rintro r v2 ⟨L2, x', rfl, hS2, hG2, hM2, -, -⟩
                 have hX2 := Lib.hid hM2
                 have hY2 := Lib.hid (hY1.out.grow hG2)
                 have hl2 := Lib.hid (show L2.length ≤ 2 + 4 * j + 2 by have := hG2.len.2; have := hl1.out; omega)
                 have hd2 := Lib.hid (hB1.out.trans (hS2.below.mono hB1.out.size))
                 have hS2 := Lib.hid hS2
                 clear hG2 hM2))
          (try clear hd0); (try clear hd1); (try clear hd2); (try clear hX1); (try clear hY1); (try clear hl1); (try clear cNo); (try clear cEh)
          clear hn1 hn2
          have hXa := hX2
          have hYa := hY2
          have hLa := hl2
          have hSa := hS2
          clear hX2 hY2 hl2 hS2 hX hY hL hS
          go_upto_region 16 with fail
          have cNo := Lib.hid ((hSa.out.keep (show Below v2.heap.size v2 v2.drew from drewN_below 1)).nonce (by have := hLa.out; omega) zp.1 zp.2)
          have hd0 := Lib.hid (hB1.out.trans ((hSa.out.keep (show Below v2.heap.size v2 v2.drew from drewN_below 1)).below.mono hB1.out.size))
          have hn0 : (0 : Int) ≤ (p : Int) ∧ (p : Int) < (n : Int) := by omega
          have hn1 := hn0.1
          have hn2 := hn0.2
          clear hn0
          go_region_held3 (fun W => W.cell? ⟨rb, off + p * 2, none⟩ = some (.int .i64 zp.1) ∧ W.cell? ⟨rb, off + p * 2 + 1, none⟩ = some (.int .i64 zp.2))
            (first | exact hT.out _ hd0.out p zp hzp.out | exact hT.out _ hd1.out p zp hzp.out | exact hT.out _ hd2.out p zp hzp.out)
            (first
              | (go_at_call 18; (with_reducible refine cNo.out.mono ?_); rintro r v1 ⟨L1, nz, rfl, hS1, hG1, hM1, -, -⟩
                 have hX1 := Lib.hid (hYa.out.grow hG1)
                 have hY1 := Lib.hid (hXa.out.grow hG1)
                 have hl1 := Lib.hid (show L1.length ≤ 2 + 4 * j + 2 + 1 by have := hG1.len.2; have := hLa.out; omega)
                 have hd1 := Lib.hid (hB1.out.trans (hS1.below.mono hB1.out.size))
                 have cE := hS1.exp (by have := hl1.out; omega) y nz
                 rw [hX1.out.1, hM1.1, hst2.out] at cE
                 have cEh := Lib.hid cE
                 clear hS1 hG1 hM1 cE)
              | (go_at_call 17; (with_reducible refine cEh.out.mono ?_); rintro r v2 ⟨L2, y', rfl, hS2, hG2, hM2, -, -⟩
                 have hX2 := Lib.hid hM2
                 have hY2 := Lib.hid (hY1.out.grow hG2)
                 have hl2 := Lib.hid (show L2.length ≤ 2 + 4 * j + 2 + 2 by have := hG2.len.2; have := hl1.out; omega)
                 have hd2 := Lib.hid (hB1.out.trans (hS2.below.mono hB1.out.size))
                 have hS2 := Lib.hid hS2
                 clear hG2 hM2))
          (try clear hd0); (try clear hd1); (try clear hd2); (try clear hX1); (try clear hY1); (try clear hl1); (try clear cNo); (try clear cEh)
          clear hn1 hn2
          clear hXa hYa hLa hSa
          go_wp2_with fail
          go_roundw
          case rel => exact ⟨j + 1, x', y', _, by omega, by go_num, rfl, rfl, hY2, hX2, hl2, hS2⟩
          case measure => simp [intOf]; omega
      · have enq : ((j : Int) == (q : Int)) = false := by rw [beq_eq_false_iff_ne]; omega
        rw [if_neg e1] at hyj
        by_cases e2 : j = p
        · subst e2
          have ejj : ((j : Int) == (j : Int)) = true := by simp
          rw [if_pos rfl] at hyj
          have hst2 := Lib.hid (exps_take (S := baseT s) (hyj.trans hmq.out))
          clear hyj e1
          go_upto_region 15 with fail
          have cNo := Lib.hid ((hS.out.keep (show Below wr2.heap.size wr2 wr2.drew from drewN_below 1)).nonce (by have := hL.out; omega) z1.1 z1.2)
          have hd0 := Lib.hid (hB1.out.trans ((hS.out.keep (show Below wr2.heap.size wr2 wr2.drew from drewN_below 1)).below.mono hB1.out.size))
          have hn0 : (0 : Int) ≤ (j : Int) ∧ (j : Int) < (n : Int) := by omega
          have hn1 := hn0.1
          have hn2 := hn0.2
          clear hn0
          go_region_held3 (fun W => W.cell? ⟨rb, off + j * 2, none⟩ = some (.int .i64 z1.1) ∧ W.cell? ⟨rb, off + j * 2 + 1, none⟩ = some (.int .i64 z1.2))
            (first | exact hT.out _ hd0.out j z1 hz1.out | exact hT.out _ hd1.out j z1 hz1.out | exact hT.out _ hd2.out j z1 hz1.out)
            (first
              | (go_at_call 18; (with_reducible refine cNo.out.mono ?_); rintro r v1 ⟨L1, nz, rfl, hS1, hG1, hM1, -, -⟩
                 have hX1 := Lib.hid (hX.out.grow hG1)
                 have hY1 := Lib.hid (hY.out.grow hG1)
                 have hl1 := Lib.hid (show L1.length ≤ 2 + 4 * j + 1 by have := hG1.len.2; have := hL.out; omega)
                 have hd1 := Lib.hid (hB1.out.trans (hS1.below.mono hB1.out.size))
                 have cE := hS1.exp (by have := hl1.out; omega) x nz
                 rw [hX1.out.1, hM1.1, hst1.out] at cE
                 have cEh := Lib.hid cE
                 clear hS1 hG1 hM1 cE)
              | (go_at_call 17; (with_reducible refine cEh.out.mono ?_); rintro r v2 ⟨L2, x', rfl, hS2, hG2, hM2, -, -⟩
                 have hX2 := Lib.hid hM2
                 have hY2 := Lib.hid (hY1.out.grow hG2)
                 have hl2 := Lib.hid (show L2.length ≤ 2 + 4 * j + 2 by have := hG2.len.2; have := hl1.out; omega)
                 have hd2 := Lib.hid (hB1.out.trans (hS2.below.mono hB1.out.size))
                 have hS2 := Lib.hid hS2
                 clear hG2 hM2))
          (try clear hd0); (try clear hd1); (try clear hd2); (try clear hX1); (try clear hY1); (try clear hl1); (try clear cNo); (try clear cEh)
          clear hn1 hn2
          have hXa := hX2
          have hYa := hY2
          have hLa := hl2
          have hSa := hS2
          clear hX2 hY2 hl2 hS2 hX hY hL hS
          go_upto_region 16 with fail
          have cNo := Lib.hid ((hSa.out.keep (show Below v2.heap.size v2 v2.drew from drewN_below 1)).nonce (by have := hLa.out; omega) zq.1 zq.2)
          have hd0 := Lib.hid (hB1.out.trans ((hSa.out.keep (show Below v2.heap.size v2 v2.drew from drewN_below 1)).below.mono hB1.out.size))
          have hn0 : (0 : Int) ≤ (q : Int) ∧ (q : Int) < (n : Int) := by omega
          have hn1 := hn0.1
          have hn2 := hn0.2
          clear hn0
          go_region_held3 (fun W => W.cell? ⟨rb, off + q * 2, none⟩ = some (.int .i64 zq.1) ∧ W.cell? ⟨rb, off + q * 2 + 1, none⟩ = some (.int .i64 zq.2))
            (first | exact hT.out _ hd0.out q zq hzq.out | exact hT.out _ hd1.out q zq hzq.out | exact hT.out _ hd2.out q zq hzq.out)
            (first
              | (go_at_call 18; (with_reducible refine cNo.out.mono ?_); rintro r v1 ⟨L1, nz, rfl, hS1, hG1, hM1, -, -⟩
                 have hX1 := Lib.hid (hYa.out.grow hG1)
                 have hY1 := Lib.hid (hXa.out.grow hG1)
                 have hl1 := Lib.hid (show L1.length ≤ 2 + 4 * j + 2 + 1 by have := hG1.len.2; have := hLa.out; omega)
                 have hd1 := Lib.hid (hB1.out.trans (hS1.below.mono hB1.out.size))
                 have cE := hS1.exp (by have := hl1.out; omega) y nz
                 rw [hX1.out.1, hM1.1, hst2.out] at cE
                 have cEh := Lib.hid cE
                 clear hS1 hG1 hM1 cE)
              | (go_at_call 17; (with_reducible refine cEh.out.mono ?_); rintro r v2 ⟨L2, y', rfl, hS2, hG2, hM2, -, -⟩
                 have hX2 := Lib.hid hM2
                 have hY2 := Lib.hid (hY1.out.grow hG2)
                 have hl2 := Lib.hid (show L2.length ≤ 2 + 4 * j + 2 + 2 by have := hG2.len.2; have := hl1.out; omega)
                 have hd2 := Lib.hid (hB1.out.trans (hS2.below.mono hB1.out.size))
                 have hS2 := Lib.hid hS2
                 clear hG2 hM2))
          (try clear hd0); (try clear hd1); (try clear hd2); (try clear hX1); (try clear hY1); (try clear hl1); (try clear cNo); (try clear cEh)
          clear hn1 hn2
          clear hXa hYa hLa hSa
          go_wp2_with fail
          go_roundw
          case rel => exact ⟨j + 1, x', y', _, by omega, by go_num, rfl, rfl, hY2, hX2, hl2, hS2⟩
          case measure => simp [intOf]; omega
        · have enp : ((j : Int) == (p : Int)) = false := by rw [beq_eq_false_iff_ne]; omega
          rw [if_neg e2] at hyj
          have hst2 := Lib.hid (exps_take (S := baseT s) (hyj.trans hm1.out))
          clear hyj e1 e2
          go_upto_region 15 with fail
          have cNo := Lib.hid ((hS.out.keep (show Below wr2.heap.size wr2 wr2.drew from drewN_below 1)).nonce (by have := hL.out; omega) z1.1 z1.2)
          have hd0 := Lib.hid (hB1.out.trans ((hS.out.keep (show Below wr2.heap.size wr2 wr2.drew from drewN_below 1)).below.mono hB1.out.size))
          have hn0 : (0 : Int) ≤ (j : Int) ∧ (j : Int) < (n : Int) := by omega
          have hn1 := hn0.1
          have hn2 := hn0.2
          clear hn0
          go_region_held3 (fun W => W.cell? ⟨rb, off + j * 2, none⟩ = some (.int .i64 z1.1) ∧ W.cell? ⟨rb, off + j * 2 + 1, none⟩ = some (.int .i64 z1.2))
            (first | exact hT.out _ hd0.out j z1 hz1.out | exact hT.out _ hd1.out j z1 hz1.out | exact hT.out _ hd2.out j z1 hz1.out)
            (first
              | (go_at_call 18; (with_reducible refine cNo.out.mono ?_); rintro r v1 ⟨L1, nz, rfl, hS1, hG1, hM1, -, -⟩
                 have hX1 := Lib.hid (hX.out.grow hG1)
                 have hY1 := Lib.hid (hY.out.grow hG1)
                 have hl1 := Lib.hid (show L1.length ≤ 2 + 4 * j + 1 by have := hG1.len.2; have := hL.out; omega)
                 have hd1 := Lib.hid (hB1.out.trans (hS1.below.mono hB1.out.size))
                 have cE := hS1.exp (by have := hl1.out; omega) x nz
                 rw [hX1.out.1, hM1.1, hst1.out] at cE
                 have cEh := Lib.hid cE
                 clear hS1 hG1 hM1 cE)
              | (go_at_call 17; (with_reducible refine cEh.out.mono ?_); rintro r v2 ⟨L2, x', rfl, hS2, hG2, hM2, -, -⟩
                 have hX2 := Lib.hid hM2
                 have hY2 := Lib.hid (hY1.out.grow hG2)
                 have hl2 := Lib.hid (show L2.length ≤ 2 + 4 * j + 2 by have := hG2.len.2; have := hl1.out; omega)
                 have hd2 := Lib.hid (hB1.out.trans (hS2.below.mono hB1.out.size))
                 have hS2 := Lib.hid hS2
                 clear hG2 hM2))
          (try clear hd0); (try clear hd1); (try clear hd2); (try clear hX1); (try clear hY1); (try clear hl1); (try clear cNo); (try clear cEh)
          clear hn1 hn2
          have hXa := hX2
          have hYa := hY2
          have hLa := hl2
          have hSa := hS2
          clear hX2 hY2 hl2 hS2 hX hY hL hS
          go_upto_region 16 with fail
          have cNo := Lib.hid ((hSa.out.keep (show Below v2.heap.size v2 v2.drew from drewN_below 1)).nonce (by have := hLa.out; omega) z1.1 z1.2)
          have hd0 := Lib.hid (hB1.out.trans ((hSa.out.keep (show Below v2.heap.size v2 v2.drew from drewN_below 1)).below.mono hB1.out.size))
          have hn0 : (0 : Int) ≤ (j : Int) ∧ (j : Int) < (n : Int) := by omega
          have hn1 := hn0.1
          have hn2 := hn0.2
          clear hn0
          go_region_held3 (fun W => W.cell? ⟨rb, off + j * 2, none⟩ = some (.int .i64 z1.1) ∧ W.cell? ⟨rb, off + j * 2 + 1, none⟩ = some (.int .i64 z1.2))
            (first | exact hT.out _ hd0.out j z1 hz1.out | exact hT.out _ hd1.out j z1 hz1.out | exact hT.out _ hd2.out j z1 hz1.out)
            (first
              | (go_at_call 18; (with_reducible refine cNo.out.mono ?_); rintro r v1 ⟨L1, nz, rfl, hS1, hG1, hM1, -, -⟩
                 have hX1 := Lib.hid (hYa.out.grow hG1)
                 have hY1 := Lib.hid (hXa.out.grow hG1)
                 have hl1 := Lib.hid (show L1.length ≤ 2 + 4 * j + 2 + 1 by have := hG1.len.2; have := hLa.out; omega)
                 have hd1 := Lib.hid (hB1.out.trans (hS1.below.mono hB1.out.size))
                 have cE := hS1.exp (by have := hl1.out; omega) y nz
                 rw [hX1.out.1, hM1.1, hst2.out] at cE
                 have cEh := Lib.hid cE
                 clear hS1 hG1 hM1 cE)
              | (go_at_call 17; (with_reducible refine cEh.out.mono ?_); rintro r v2 ⟨L2, y', rfl, hS2, hG2, hM2, -, -⟩
                 have hX2 := Lib.hid hM2
                 have hY2 := Lib.hid (hY1.out.grow hG2)
                 have hl2 := Lib.hid (show L2.length ≤ 2 + 4 * j + 2 + 2 by have := hG2.len.2; have := hl1.out; omega)
                 have hd2 := Lib.hid (hB1.out.trans (hS2.below.mono hB1.out.size))
                 have hS2 := Lib.hid hS2
                 clear hG2 hM2))
          (try clear hd0); (try clear hd1); (try clear hd2); (try clear hX1); (try clear hY1); (try clear hl1); (try clear cNo); (try clear cEh)
          clear hn1 hn2
          clear hXa hYa hLa hSa
          go_wp2_with fail
          go_roundw
          case rel => exact ⟨j + 1, x', y', _, by omega, by go_num, rfl, rfl, hY2, hX2, hl2, hS2⟩
          case measure => simp [intOf]; omega
    · have hjn : j = n := by omega
      subst hjn
      have hT1 : (zs.map nnT).take j = zs.map nnT := List.take_of_length_le (by rw [List.length_map, hzs.out]; omega)
      have hT2 : ys.take j = ys := List.take_of_length_le (by rw [hyl.out]; omega)
      rw [hT1] at hX
      rw [hT2] at hY
      have hall : ∀ o ∈ zs.map nnT, ∃ w n, o = nonceT w n := fun o ho => by
        obtain ⟨z, _, rfl⟩ := List.mem_map.1 ho
        exact ⟨z.1, z.2, rfl⟩
      have hlen : (zs.map nnT).length ≤ 8 := by rw [List.length_map, hzs.out]; omega
      have hsame : exps (baseT s) (zs.map nnT) = exps (baseT s) ys := exps_perm hypH.out.symm hall hlen
      have hxy : x = y := (Nm.inj hS.out.good.once hX.out hY.out).2 hsame
      subst hxy
      have hL2 : L.length ≤ 34 := by have := hL.out; omega
      have hbw := Lib.hid (hB1.out.trans (hS.out.below.mono hB1.out.size))
      have hxb := hX.out.lt
      have hxb1 := hxb.1
      have hxb2 : x < 100 := by have := hxb.2; omega
      clear hT1 hT2 hxb hY hyaH hypH hyl hL
      by_cases hg : 0 < j ∧ j < 8 ∧ exps (baseT s) (zs.map nnT) ≠ none
      · obtain ⟨g1, g2, g3⟩ := hg
        obtain ⟨rb, off, rfl, hrb, hrows⟩ := row2 hH.out g1
        obtain ⟨z0, hz0⟩ : ∃ z, zs[0]? = some z := ⟨zs[0]'(by have := hzs.out; omega), List.getElem?_eq_getElem (by have := hzs.out; omega)⟩
        have hT := Lib.hid (fun W (h : Below w.heap.size w W) => (show W.cell? ⟨rb, off, none⟩ = some (.int .i64 z0.1) ∧ W.cell? ⟨rb, off + 1, none⟩ = some (.int .i64 z0.2) from ⟨(h.cell (p := ⟨rb, off, none⟩) hrb).trans (by have := (hrows 0 z0 hz0).1; rwa [Nat.zero_mul, Nat.add_zero] at this), (h.cell (p := ⟨rb, off + 1, none⟩) hrb).trans (by have := (hrows 0 z0 hz0).2; rwa [Nat.zero_mul, Nat.add_zero] at this)⟩))
        have hmore := exps_more (x := nonceT z0.1 z0.2) hall hlen g3
        have hbase := exps_some_base hall hlen (by rw [List.length_map, hzs.out]; exact g1) g3
        obtain ⟨t, ht⟩ : ∃ t, exps (baseT s) (zs.map nnT) = some t := by
          cases e : exps (baseT s) (zs.map nnT) with
          | none => exact absurd e g3
          | some t => exact ⟨t, rfl⟩
        rw [ht] at hmore hbase hX
        have hxn : (x == -1) = false := by
          rw [beq_eq_false_iff_ne]
          obtain ⟨i, e, _⟩ := get_some hX.out.1
          omega
        have hxn2 : (x != -1) = true := by rw [bne, hxn]; rfl
        have hxn3 : ¬ x = -1 := by rw [beq_eq_false_iff_ne] at hxn; exact hxn
        have hmore := Lib.hid hmore
        have hbase := Lib.hid hbase
        clear hrows hz0 hall hlen hsame g3 ht
        have hS0 := Lib.hid (hS.out.keep (show Below wr.heap.size wr wr.drew from drewN_below 1))
        have hX := Lib.hid hX.out
        have hd0 := Lib.hid (hB1.out.trans (hS0.out.below.mono hB1.out.size))
        have cNo := Lib.hid (hS0.out.nonce (by omega) z0.1 z0.2)
        have db1 : decide ((0 : Int) < (j : Int)) = true := decide_eq_true (by omega)
        have db2 : decide ((j : Int) < 8) = true := decide_eq_true (by omega)
        have db3 : decide (0 < j) = true := decide_eq_true (by omega)
        have db4 : decide (j < 8) = true := decide_eq_true (by omega)
        go_upto_region 19 with fail
        go_region_held3 (fun W => W.cell? ⟨rb, off, none⟩ = some (.int .i64 z0.1) ∧ W.cell? ⟨rb, off + 1, none⟩ = some (.int .i64 z0.2))
          (first | exact hT.out _ hd0.out | exact hT.out _ hd1.out | exact hT.out _ hd2.out | exact hT.out _ hd3.out)
          (first
            | (go_at_call 18; (with_reducible refine cNo.out.mono ?_); rintro r v1 ⟨L1, nz, rfl, hS1, hG1, hM1, -, -⟩
               have hX1 := Lib.hid (hX.out.grow hG1)
               have hl1 : L1.length ≤ 35 := by have := hG1.len.2; omega
               have hd1 := Lib.hid (hB1.out.trans (hS1.below.mono hB1.out.size))
               have cE := hS1.exp (by omega) x nz
               rw [hX1.out.1, hM1.1] at cE
               have cEh := Lib.hid cE
               clear hS1 hG1 hM1 cE)
            | (go_at_call 17; (with_reducible refine cEh.out.mono ?_); rintro r v2 ⟨L2, x2', rfl, hS2, hG2, hM2, -, -⟩
               have hX2 := Lib.hid (hX1.out.grow hG2)
               have hne1 : (x2' == x) = false := by
                 rw [beq_eq_false_iff_ne]
                 exact fun e => hmore.out ((Nm.inj hS2.good.once hM2 hX2.out).1 e)
               have hl2 : L2.length ≤ 36 := by have := hG2.len.2; omega
               have hd2 := Lib.hid (hB1.out.trans (hS2.below.mono hB1.out.size))
               have cBh := Lib.hid (hS2.base (by omega) s hs)
               clear hG2 hM2 hS2)
            | (go_at_call 16; (with_reducible refine cBh.out.mono ?_); rintro r v3 ⟨L3, x3', rfl, hS3, hG3, hM3, -, -⟩
               have hne2 : (x3' == x) = false := by
                 rw [beq_eq_false_iff_ne]
                 exact fun e => hbase.out ((Nm.inj hS3.good.once hM3 (hX2.out.grow hG3)).1 e)
               have hd3 := Lib.hid (hB1.out.trans (hS3.below.mono hB1.out.size))
               clear hG3 hM3 hS3))
        clear hS0 hX hX1 hX2 hT hmore hbase cNo cEh cBh
        go_wp2_with (go_at_call 11; refine (cA.out _).mono ?_; rintro r w9 ⟨rfl, hb⟩)
        go_ret
        exact ⟨rfl, hd3.out.trans (hb.mono hd3.out.size)⟩
      · have hg2 : ¬ 0 < j ∨ (0 < j ∧ ¬ j < 8) ∨ (0 < j ∧ j < 8 ∧ x = -1) := by
          by_cases g1 : 0 < j
          · by_cases g2 : j < 8
            · right; right
              by_cases g3 : exps (baseT s) (zs.map nnT) = none
              · rw [g3] at hX; exact ⟨g1, g2, hX.out.2 rfl⟩
              · exact absurd ⟨g1, g2, g3⟩ hg
            · exact .inr (.inl ⟨g1, g2⟩)
          · exact .inl g1
        clear hg hX hS hall hlen hsame
        rcases hg2 with hg2 | ⟨hg1, hg2⟩ | ⟨hg1, hg2, rfl⟩
        · have db1 : decide ((0 : Int) < (j : Int)) = false := decide_eq_false (by omega)
          have db3 : decide (0 < j) = false := decide_eq_false (by omega)
          go_upto_region 19 with fail
          go_quiet (fail)
          have hdr := Lib.hid (hbw.out.trans ((drewN_below (w := wr) nq).mono hbw.out.size))
          generalize wr.drewN nq = w5 at hdr ⊢
          go_wp2_with (go_at_call 11; refine (cA.out _).mono ?_; rintro r w9 ⟨rfl, hb⟩)
          go_ret
          exact ⟨rfl, hdr.out.trans (hb.mono hdr.out.size)⟩
        · have db1 : decide ((0 : Int) < (j : Int)) = true := decide_eq_true (by omega)
          have db2 : decide ((j : Int) < 8) = false := decide_eq_false (by omega)
          have db3 : decide (0 < j) = true := decide_eq_true (by omega)
          have db4 : decide (j < 8) = false := decide_eq_false (by omega)
          go_upto_region 19 with fail
          go_quiet (fail)
          have hdr := Lib.hid (hbw.out.trans ((drewN_below (w := wr) nq).mono hbw.out.size))
          generalize wr.drewN nq = w5 at hdr ⊢
          go_wp2_with (go_at_call 11; refine (cA.out _).mono ?_; rintro r w9 ⟨rfl, hb⟩)
          go_ret
          exact ⟨rfl, hdr.out.trans (hb.mono hdr.out.size)⟩
        · have db1 : decide ((0 : Int) < (j : Int)) = true := decide_eq_true (by omega)
          have db2 : decide ((j : Int) < 8) = true := decide_eq_true (by omega)
          have db3 : decide (0 < j) = true := decide_eq_true (by omega)
          have db4 : decide (j < 8) = true := decide_eq_true (by omega)
          go_upto_region 19 with fail
          go_quiet (fail)
          have hdr := Lib.hid (hbw.out.trans ((drewN_below (w := wr) nq).mono hbw.out.size))
          generalize wr.drewN nq = w5 at hdr ⊢
          go_wp2_with (go_at_call 11; refine (cA.out _).mono ?_; rintro r w9 ⟨rfl, hb⟩)
          go_ret
          exact ⟨rfl, hdr.out.trans (hb.mono hdr.out.size)⟩
end Go.Proofs.YtbeanjaenmpoeaaDoor
