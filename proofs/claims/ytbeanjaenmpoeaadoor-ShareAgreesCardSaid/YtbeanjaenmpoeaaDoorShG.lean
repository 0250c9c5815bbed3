/- ShareAgrees: the walk (printed by wip/gen_shg.py). -/
import Derived.Test.YtbeanjaenmpoeaaDoorShC
import Derived.Deep.RegionHeld3
namespace Go.Proofs.YtbeanjaenmpoeaaDoor
open Go.RowKit Go.Maps

def gL : List UInt8 := [103]
set_option maxRecDepth 100000 in
set_option maxHeartbeats 4000000 in
theorem awake19 (w : World) : Calls Tryd.prog 22 #[] w fun r w' => r = .returned (.bool true) ∧ Below w.heap.size w w' := by
  have cN := Lib.hid (tnew_any w)
  have h_nx := nT_ok (a := 0) (b := 0) (by decide) (by decide)
  have h_ny := nT_ok (a := 1) (b := 0) (by decide) (by decide)
  have efx : freshT 0 0 = some (nT 0 0) := freshT_eq (a := 0) (b := 0) (by decide) (by decide)
  have efy : freshT 1 0 = some (nT 1 0) := freshT_eq (a := 1) (b := 0) (by decide) (by decide)
  have hxy : nT 0 0 ≠ nT 1 0 := fun e => by simp [nT_inj] at e
  generalize nT 0 0 = nx at *
  generalize nT 1 0 = ny at *
  have hG1 : 1 ≤ gL.length := by decide
  have hG2 : gL.length ≤ 2100 := by decide
  have o1 := Lib.hid (offer_eq hG1 hG2 h_ny)
  have o2 := Lib.hid (offer_eq hG1 hG2 h_nx)
  have s1 := Lib.hid (secret_eq hG1 hG2 h_ny h_nx)
  have s2 := secret_eq hG1 hG2 h_nx h_ny
  rw [← shT_swap h_ny h_nx] at s2
  have s2 := Lib.hid s2
  have hxy := Lib.hid hxy
  have hk5 := Lib.hid (show kindO (some (shT gL [ny, nx])) = 5 from rfl)
  generalize hsh : shT gL [ny, nx] = sh at s1 s2 hk5
  have efx := Lib.hid efx
  have efy := Lib.hid efy
  clear h_nx h_ny hsh
  go_enter Tryd.func22, Tryd.ntmps22
  go_upto_region 3 with (first
    | (go_at_call 12; refine cN.out.mono ?_; rintro r w1 ⟨A, rfl, hN, hA, hb⟩
       have hS0 := St.start hN hA hb
       have cF1 := hS0.fresh (by decide) 0 0
       rw [efx.out] at cF1
       have cF1h := Lib.hid cF1
       clear hN hA hb cN hS0 cF1
       generalize A.g = g at *)
    | (go_at_call 23; (with_reducible refine cF1h.out.mono ?_); rintro r w2 ⟨L1, x, rfl, hS1, hG, hM, -, -⟩
       have hl1 := hG.len.2
       have cF2 := hS1.fresh (by simp at hl1; omega) 1 0
       rw [efy.out] at cF2
       have cF2h := Lib.hid cF2
       have hK1 := Lib.hid ((Kn.nil_ L1).add hM)
       have hl1 := Lib.hid (show L1.length ≤ 1 by simpa using hl1)
       clear hS1 hG hM cF2)
    | (go_at_call 23; (with_reducible refine cF2h.out.mono ?_); rintro r w3 ⟨L2, y, rfl, hS2, hG, hM, -, -⟩
       have hK := Lib.hid ((hK1.out.ext (.of_grow hG)).add hM)
       have hl := Lib.hid (show L2.length ≤ 2 by have := hG.len.2; have := hl1.out; omega)
       have hS := Lib.hid hS2
       clear hG hM hS2))
  clear hK1 hl1 cF1h cF2h efx efy
  have cO := hS.out.offer (by have := hl.out; omega) gL (by omega) y _ (hK.out (y, some ny) (by simp))
  rw [o1.out] at cO
  have cO := Lib.hid cO
  go_upto_region 4 with (first
    | (go_at_call 25; refine cO.out.mono ?_; rintro r wo ⟨Lo, zo, rfl, hSo, hEo, hMo, -, -⟩
       have hKo := Lib.hid (hK.out.ext hEo)
       have cS := hSo.secret (by have := hEo.len; have := hl.out; omega) gL zo x _ _ hMo (hKo.out (x, some nx) (by simp))
       rw [s1.out] at cS
       have cSh := Lib.hid cS
       have hlo := Lib.hid (show Lo.length ≤ 2 + 2 by have := hEo.len; have := hl.out; omega)
       clear hSo hEo hMo cS)
    | (go_at_call 24; refine cSh.out.mono ?_; rintro r wz ⟨Lz, z1, rfl, hSz, hEz, hMz, -, -⟩
       have hKz := Lib.hid ((hKo.out.ext hEz).add hMz)
       have hlz := Lib.hid (show Lz.length ≤ 2 + 3 by have := hEz.len; have := hlo.out; omega)
       have hSz := Lib.hid hSz
       clear hEz hMz))
  clear hK hl hS hlo hKo cO cSh
  have hK := hKz
  have hl := hlz
  have hS := hSz
  clear hKz hlz hSz
  have cO := hS.out.offer (by have := hl.out; omega) gL (by omega) x _ (hK.out (x, some nx) (by simp))
  rw [o2.out] at cO
  have cO := Lib.hid cO
  go_upto_region 5 with (first
    | (go_at_call 25; refine cO.out.mono ?_; rintro r wo ⟨Lo, zo, rfl, hSo, hEo, hMo, -, -⟩
       have hKo := Lib.hid (hK.out.ext hEo)
       have cS := hSo.secret (by have := hEo.len; have := hl.out; omega) gL zo y _ _ hMo (hKo.out (y, some ny) (by simp))
       rw [s2.out] at cS
       have cSh := Lib.hid cS
       have hlo := Lib.hid (show Lo.length ≤ 5 + 2 by have := hEo.len; have := hl.out; omega)
       clear hSo hEo hMo cS)
    | (go_at_call 24; refine cSh.out.mono ?_; rintro r wz ⟨Lz, z2, rfl, hSz, hEz, hMz, -, -⟩
       have hKz := Lib.hid ((hKo.out.ext hEz).add hMz)
       have hlz := Lib.hid (show Lz.length ≤ 5 + 3 by have := hEz.len; have := hlo.out; omega)
       have hSz := Lib.hid hSz
       clear hEz hMz))
  clear hK hl hS hlo hKo cO cSh
  have hK := hKz
  have hl := hlz
  have hS := hSz
  clear hKz hlz hSz
  have q1 : (z1 == z2) = true := (hK.out.beq hS.out.good.once (o := some sh) (p := some sh) (b := True) (by simp) (by simp) (by simp)).trans (by simp)
  have q2 : (x == y) = false := (hK.out.beq hS.out.good.once (o := some nx) (p := some ny) (b := False) (by simp) (by simp) (by simpa using hxy.out)).trans (by simp)
  have q3 : z1 = z2 := by simpa using q1
  have q4 : ¬ x = y := by simpa using q2
  have q5 : (x != y) = true := by simp [bne, q2]
  have cK := hS.out.kind z1
  rw [(hK.out (z1, some sh) (by simp)).1, hk5.out] at cK
  have cK := Lib.hid cK
  have hBf := Lib.hid hS.out.below
  subst q3
  clear hK hl hS q1
  go_wp2_with (go_at_call 29; refine cK.out.mono ?_; rintro r w9 ⟨rfl, rfl⟩)
  go_ret
  exact ⟨rfl, hBf.out⟩
set_option maxRecDepth 100000 in
set_option maxHeartbeats 16000000 in
theorem shareAgrees_any (G O : List UInt8) (a0 b0 a1 b1 a2 b2 : Nat) (w : World) (ha0 : a0 ≤ 65535) (hb0 : b0 ≤ 65535) (ha1 : a1 ≤ 65535) (hb1 : b1 ≤ 65535) (ha2 : a2 ≤ 65535) (hb2 : b2 ≤ 65535) :
    Calls Tryd.prog 6 #[.string (bs G), .string (bs O), .agg #[.int .u16 a0, .int .u16 b0, .int .u16 a1, .int .u16 b1, .int .u16 a2, .int .u16 b2]] w fun r w' => r = .returned (.bool true) ∧ Below w.heap.size w w' := by
  have cA := Lib.hid (fun W => awake19 W)
  have hzG := bs_size G
  have hzO := bs_size O
  have hB1 := Lib.hid (below_new w (.cells #[.int .u16 a0, .int .u16 b0, .int .u16 a1, .int .u16 b1, .int .u16 a2, .int .u16 b2] 48))
  have hcell := heap_new w (.cells #[.int .u16 a0, .int .u16 b0, .int .u16 a1, .int .u16 b1, .int .u16 a2, .int .u16 b2] 48)
  by_cases g1 : ¬ 1 ≤ (bs G).size
  · have g1' : (bs G).size = 0 := by omega
    clear hzG hzO hcell g1
    go_enter Tryd.func6, Tryd.ntmps6
    go_wp2_with (go_at_call 22; refine (cA.out _).mono ?_; rintro r w1 ⟨rfl, hb⟩)
    go_ret
    exact ⟨rfl, hB1.out.trans (hb.mono hB1.out.size)⟩
  by_cases g2 : ¬ (bs G).size ≤ 100
  · have g2' : 100 < (bs G).size := by omega
    clear hzG hzO hcell g2
    go_enter Tryd.func6, Tryd.ntmps6
    go_wp2_with (go_at_call 22; refine (cA.out _).mono ?_; rintro r w1 ⟨rfl, hb⟩)
    go_ret
    exact ⟨rfl, hB1.out.trans (hb.mono hB1.out.size)⟩
  by_cases g3 : ¬ 1 ≤ (bs O).size
  · have g3' : (bs O).size = 0 := by omega
    clear hzG hzO hcell g3
    go_enter Tryd.func6, Tryd.ntmps6
    go_wp2_with (go_at_call 22; refine (cA.out _).mono ?_; rintro r w1 ⟨rfl, hb⟩)
    go_ret
    exact ⟨rfl, hB1.out.trans (hb.mono hB1.out.size)⟩
  by_cases g4 : ¬ (bs O).size ≤ 100
  · have g4' : 100 < (bs O).size := by omega
    clear hzG hzO hcell g4
    go_enter Tryd.func6, Tryd.ntmps6
    go_wp2_with (go_at_call 22; refine (cA.out _).mono ?_; rintro r w1 ⟨rfl, hb⟩)
    go_ret
    exact ⟨rfl, hB1.out.trans (hb.mono hB1.out.size)⟩
  have g1 : 1 ≤ (bs G).size := by omega
  have g2 : (bs G).size ≤ 100 := by omega
  have g3 : 1 ≤ (bs O).size := by omega
  have g4 : (bs O).size ≤ 100 := by omega
  have hG1 : 1 ≤ G.length := by omega
  have hG2 : G.length ≤ 2100 := by omega
  have hO1 : 1 ≤ O.length := by omega
  have hO2 : O.length ≤ 2100 := by omega
  have okp := nT_ok ha0 hb0
  have okq := nT_ok ha1 hb1
  have okr := nT_ok ha2 hb2
  have ep := freshT_eq ha0 hb0
  have eq := freshT_eq ha1 hb1
  have er := freshT_eq ha2 hb2
  generalize nT a0 b0 = np at *
  generalize nT a1 b1 = nq at *
  generalize nT a2 b2 = nr at *
  have oGq := Lib.hid (offer_eq hG1 hG2 okq)
  have oGp := Lib.hid (offer_eq hG1 hG2 okp)
  have oOq := Lib.hid (offer_eq hO1 hO2 okq)
  have sGqp := Lib.hid (secret_eq hG1 hG2 okq okp)
  have sGpq' := secret_eq hG1 hG2 okp okq
  rw [shT_swap okp okq] at sGpq'
  have sGpq := Lib.hid sGpq'
  have sGqr := Lib.hid (secret_eq hG1 hG2 okq okr)
  have sOqp := Lib.hid (secret_eq hO1 hO2 okq okp)
  obtain ⟨o9, h9⟩ : ∃ o, secretT G (some (shT O [nq])) (some np) = o := ⟨_, rfl⟩
  have hb9 : (errT o9 == 0) = decide (G = O) := by
    rw [← h9]
    by_cases e : G = O
    · subst e
      rw [secret_eq hG1 hG2 okq okp, decide_eq_true rfl]
      rfl
    · rw [secret_other (Ne.symm e), decide_eq_false e]
      rfl
  have s9 := Lib.hid h9
  have hGOs : ((bs G).toList == (bs O).toList) = decide (G = O) := by
    rw [Bool.eq_iff_iff]
    constructor
    · intro h
      exact decide_eq_true (bs_inj (bs_ext_ (by simpa using h)))
    · intro h
      rw [of_decide_eq_true h]
      simp
  have hus : shT G [nq, nr] = shT G [nq, np] ↔ nr = np := by rw [shT_same okq okr okp]; simp
  have hvs : shT O [nq, np] = shT G [nq, np] ↔ O = G := by rw [shT_same okq okp okp]; simp
  have husH := Lib.hid hus
  clear hus
  have hvsH := Lib.hid hvs
  clear hvs
  have epH := Lib.hid ep
  clear ep
  have eqH := Lib.hid eq
  clear eq
  have erH := Lib.hid er
  clear er
  have cN := Lib.hid (tnew_any (w.alloc (.cells #[.int .u16 a0, .int .u16 b0, .int .u16 a1, .int .u16 b1, .int .u16 a2, .int .u16 b2] 48)))
  have hcellH := Lib.hid hcell
  clear hcell
  clear sGpq' h9 okp okq okr
  have hb9H := Lib.hid hb9
  clear hb9
  have hGOsH := Lib.hid hGOs
  clear hGOs
  have hlt0 : w.heap.size < (w.alloc (.cells #[.int .u16 a0, .int .u16 b0, .int .u16 a1, .int .u16 b1, .int .u16 a2, .int .u16 b2] 48)).heap.size := by simp
  have e1 : decide (((bs G).size : Int) < 1) = false := decide_eq_false (by omega)
  have e2 : decide ((100 : Int) < ((bs G).size : Int)) = false := decide_eq_false (by omega)
  have e3 : decide (((bs O).size : Int) < 1) = false := decide_eq_false (by omega)
  have e4 : decide ((100 : Int) < ((bs O).size : Int)) = false := decide_eq_false (by omega)
  clear hzG hzO g1 g2 g3 g4
  go_enter Tryd.func6, Tryd.ntmps6
  go_upto_region 3 with fail
  clear e1 e2 e3 e4
  generalize w.alloc (.cells #[.int .u16 a0, .int .u16 b0, .int .u16 a1, .int .u16 b1, .int .u16 a2, .int .u16 b2] 48) = w0 at *
  go_upto_region 4 with (go_at_call 12; refine cN.out.mono ?_; rintro r w1 ⟨A, rfl, hN, hA, hb⟩)
  have hS0 := St.start hN hA hb
  clear hN hA hb cN
  generalize A.g = g at *
  have hT := Lib.hid (fun W (h : Below w0.heap.size w0 W) => (show W.cell? ⟨w.heap.size, 0, none⟩ = some (.int .u16 a0) ∧ W.cell? ⟨w.heap.size, 1, none⟩ = some (.int .u16 b0) ∧ W.cell? ⟨w.heap.size, 2, none⟩ = some (.int .u16 a1) ∧ W.cell? ⟨w.heap.size, 3, none⟩ = some (.int .u16 b1) ∧ W.cell? ⟨w.heap.size, 4, none⟩ = some (.int .u16 a2) ∧ W.cell? ⟨w.heap.size, 5, none⟩ = some (.int .u16 b2) from by
    have hr := (h.block w.heap.size hlt0).trans hcellH.out
    exact ⟨cell_of_row W _ 0 _ _ _ hr, cell_of_row W _ 1 _ _ _ hr, cell_of_row W _ 2 _ _ _ hr, cell_of_row W _ 3 _ _ _ hr, cell_of_row W _ 4 _ _ _ hr, cell_of_row W _ 5 _ _ _ hr⟩))
  have hS1 := hS0.keep (show Below w1.heap.size w1 w1.drew from drewN_below 1)
  have cF1 := hS1.fresh (by decide) a0 b0
  rw [epH.out] at cF1
  have cF1h := Lib.hid cF1
  have hd0 := Lib.hid hS1.below
  clear hS0 hS1 cF1
  have wra0 : IntKind.i64.wrap (a0 : Int) = (a0 : Int) := by rw [IntKind.wrap_i64]; omega
  have wrb0 : IntKind.i64.wrap (b0 : Int) = (b0 : Int) := by rw [IntKind.wrap_i64]; omega
  have wra1 : IntKind.i64.wrap (a1 : Int) = (a1 : Int) := by rw [IntKind.wrap_i64]; omega
  have wrb1 : IntKind.i64.wrap (b1 : Int) = (b1 : Int) := by rw [IntKind.wrap_i64]; omega
  have wra2 : IntKind.i64.wrap (a2 : Int) = (a2 : Int) := by rw [IntKind.wrap_i64]; omega
  have wrb2 : IntKind.i64.wrap (b2 : Int) = (b2 : Int) := by rw [IntKind.wrap_i64]; omega
  go_region_held3 (fun W => W.cell? ⟨w.heap.size, 0, none⟩ = some (.int .u16 a0) ∧ W.cell? ⟨w.heap.size, 1, none⟩ = some (.int .u16 b0) ∧ W.cell? ⟨w.heap.size, 2, none⟩ = some (.int .u16 a1) ∧ W.cell? ⟨w.heap.size, 3, none⟩ = some (.int .u16 b1) ∧ W.cell? ⟨w.heap.size, 4, none⟩ = some (.int .u16 a2) ∧ W.cell? ⟨w.heap.size, 5, none⟩ = some (.int .u16 b2))
    (first | exact hT.out _ hd0.out | exact hT.out _ hd1.out | exact hT.out _ hd2.out | exact hT.out _ hd3.out)
    (first
      | (go_at_call 23; (with_reducible refine cF1h.out.mono ?_); rintro r w2 ⟨L1, x, rfl, hS1, hG, hM, -, -⟩
         have hl1 : L1.length ≤ 1 := hG.len.2
         have cF2 := hS1.fresh (by omega) a1 b1
         rw [eqH.out] at cF2
         have cF2h := Lib.hid cF2
         have hK1 := Lib.hid ((Kn.nil_ L1).add hM)
         have hl1 := Lib.hid hl1
         have hd1 := Lib.hid hS1.below
         clear hS1 hG hM cF2)
      | (go_at_call 23; (with_reducible refine cF2h.out.mono ?_); rintro r w3 ⟨L2, y, rfl, hS2, hG, hM, -, -⟩
         have cF3 := hS2.fresh (by have := hG.len.2; have := hl1.out; omega) a2 b2
         rw [erH.out] at cF3
         have cF3h := Lib.hid cF3
         have hK2 := Lib.hid ((hK1.out.ext (.of_grow hG)).add hM)
         have hl2 := Lib.hid (show L2.length ≤ 2 by have := hG.len.2; have := hl1.out; omega)
         have hd2 := Lib.hid hS2.below
         clear hS2 hG hM cF3)
      | (go_at_call 23; (with_reducible refine cF3h.out.mono ?_); rintro r w4 ⟨L3, z, rfl, hS3, hG, hM, -, -⟩
         have hK := Lib.hid ((hK2.out.ext (.of_grow hG)).add hM)
         have hl := Lib.hid (show L3.length ≤ 3 by have := hG.len.2; have := hl2.out; omega)
         have hS := Lib.hid hS3
         have hd3 := Lib.hid hS3.below
         clear hS3 hG hM))
  clear wra0 wrb0 wra1 wrb1 wra2 wrb2
  clear hT hd0 hd1 hd2 hd3 hK1 hK2 hl1 hl2 cF1h cF2h cF3h epH eqH erH
  have cO := hS.out.offer (by have := hl.out; omega) G (by omega) y _ (hK.out (y, some nq) (by simp))
  rw [oGq.out] at cO
  have cO := Lib.hid cO
  go_upto_region 6 with (first
    | (go_at_call 25; refine cO.out.mono ?_; rintro r wo ⟨Lo, zo, rfl, hSo, hEo, hMo, -, -⟩
       have hKo := Lib.hid (hK.out.ext hEo)
       have cS := hSo.secret (by have := hEo.len; have := hl.out; omega) G zo x _ _ hMo (hKo.out (x, some np) (by simp))
       rw [sGqp.out] at cS
       have cSh := Lib.hid cS
       have hlo := Lib.hid (show Lo.length ≤ 3 + 2 by have := hEo.len; have := hl.out; omega)
       clear hSo hEo hMo cS)
    | (go_at_call 24; refine cSh.out.mono ?_; rintro r wz ⟨Lz, zs, rfl, hSz, hEz, hMz, -, -⟩
       have hKz := Lib.hid ((hKo.out.ext hEz).add hMz)
       have hlz := Lib.hid (show Lz.length ≤ 3 + 3 by have := hEz.len; have := hlo.out; omega)
       have hSz := Lib.hid hSz
       clear hEz hMz))
  clear hK hl hS hlo hKo cO cSh
  have hK := hKz
  have hl := hlz
  have hS := hSz
  clear hKz hlz hSz
  have cO := hS.out.offer (by have := hl.out; omega) G (by omega) x _ (hK.out (x, some np) (by simp))
  rw [oGp.out] at cO
  have cO := Lib.hid cO
  go_upto_region 7 with (first
    | (go_at_call 25; refine cO.out.mono ?_; rintro r wo ⟨Lo, zo, rfl, hSo, hEo, hMo, -, -⟩
       have hKo := Lib.hid (hK.out.ext hEo)
       have cS := hSo.secret (by have := hEo.len; have := hl.out; omega) G zo y _ _ hMo (hKo.out (y, some nq) (by simp))
       rw [sGpq.out] at cS
       have cSh := Lib.hid cS
       have hlo := Lib.hid (show Lo.length ≤ 6 + 2 by have := hEo.len; have := hl.out; omega)
       clear hSo hEo hMo cS)
    | (go_at_call 24; refine cSh.out.mono ?_; rintro r wz ⟨Lz, zt, rfl, hSz, hEz, hMz, -, -⟩
       have hKz := Lib.hid ((hKo.out.ext hEz).add hMz)
       have hlz := Lib.hid (show Lz.length ≤ 6 + 3 by have := hEz.len; have := hlo.out; omega)
       have hSz := Lib.hid hSz
       clear hEz hMz))
  clear hK hl hS hlo hKo cO cSh
  have hK := hKz
  have hl := hlz
  have hS := hSz
  clear hKz hlz hSz
  have cO := hS.out.offer (by have := hl.out; omega) G (by omega) y _ (hK.out (y, some nq) (by simp))
  rw [oGq.out] at cO
  have cO := Lib.hid cO
  go_upto_region 8 with (first
    | (go_at_call 25; refine cO.out.mono ?_; rintro r wo ⟨Lo, zo, rfl, hSo, hEo, hMo, -, -⟩
       have hKo := Lib.hid (hK.out.ext hEo)
       have cS := hSo.secret (by have := hEo.len; have := hl.out; omega) G zo z _ _ hMo (hKo.out (z, some nr) (by simp))
       rw [sGqr.out] at cS
       have cSh := Lib.hid cS
       have hlo := Lib.hid (show Lo.length ≤ 9 + 2 by have := hEo.len; have := hl.out; omega)
       clear hSo hEo hMo cS)
    | (go_at_call 24; refine cSh.out.mono ?_; rintro r wz ⟨Lz, zu, rfl, hSz, hEz, hMz, -, -⟩
       have hKz := Lib.hid ((hKo.out.ext hEz).add hMz)
       have hlz := Lib.hid (show Lz.length ≤ 9 + 3 by have := hEz.len; have := hlo.out; omega)
       have hSz := Lib.hid hSz
       clear hEz hMz))
  clear hK hl hS hlo hKo cO cSh
  have hK := hKz
  have hl := hlz
  have hS := hSz
  clear hKz hlz hSz
  have cO := hS.out.offer (by have := hl.out; omega) O (by omega) y _ (hK.out (y, some nq) (by simp))
  rw [oOq.out] at cO
  have cO := Lib.hid cO
  go_upto_region 9 with (first
    | (go_at_call 25; refine cO.out.mono ?_; rintro r wo ⟨Lo, zo, rfl, hSo, hEo, hMo, -, -⟩
       have hKo := Lib.hid (hK.out.ext hEo)
       have cS := hSo.secret (by have := hEo.len; have := hl.out; omega) O zo x _ _ hMo (hKo.out (x, some np) (by simp))
       rw [sOqp.out] at cS
       have cSh := Lib.hid cS
       have hlo := Lib.hid (show Lo.length ≤ 12 + 2 by have := hEo.len; have := hl.out; omega)
       clear hSo hEo hMo cS)
    | (go_at_call 24; refine cSh.out.mono ?_; rintro r wz ⟨Lz, zv, rfl, hSz, hEz, hMz, -, -⟩
       have hKz := Lib.hid ((hKo.out.ext hEz).add hMz)
       have hlz := Lib.hid (show Lz.length ≤ 12 + 3 by have := hEz.len; have := hlo.out; omega)
       have hSz := Lib.hid hSz
       clear hEz hMz))
  clear hK hl hS hlo hKo cO cSh
  have hK := hKz
  have hl := hlz
  have hS := hSz
  clear hKz hlz hSz
  have cO := hS.out.offer (by have := hl.out; omega) O (by omega) y _ (hK.out (y, some nq) (by simp))
  rw [oOq.out] at cO
  have cO := Lib.hid cO
  go_upto_region 10 with (first
    | (go_at_call 25; refine cO.out.mono ?_; rintro r wo ⟨Lo, zo, rfl, hSo, hEo, hMo, -, -⟩
       have hKo := Lib.hid (hK.out.ext hEo)
       have cS := hSo.secret (by have := hEo.len; have := hl.out; omega) G zo x _ _ hMo (hKo.out (x, some np) (by simp))
       rw [s9.out] at cS
       have cSh := Lib.hid cS
       have hlo := Lib.hid (show Lo.length ≤ 15 + 2 by have := hEo.len; have := hl.out; omega)
       clear hSo hEo hMo cS)
    | (go_at_call 24; refine cSh.out.mono ?_; rintro r wz ⟨Lz, zi, rfl, hSz, hEz, hMz, -, -⟩
       have hKz := Lib.hid ((hKo.out.ext hEz).add hMz)
       have hlz := Lib.hid (show Lz.length ≤ 15 + 3 by have := hEz.len; have := hlo.out; omega)
       have hSz := Lib.hid hSz
       clear hEz hMz))
  clear hK hl hS hlo hKo cO cSh
  have hK := hKz
  have hl := hlz
  have hS := hSz
  clear hKz hlz hSz
  have hdec : Decidable (nr = np) := Classical.propDecidable _
  have hn := hS.out.good.once
  have f1 : (zs == zt) = true := (hK.out.beq hn (o := some (shT G [nq, np])) (p := some (shT G [nq, np])) (b := True) (by simp) (by simp) (by simp)).trans (by simp)
  have f2 : (zu == zs) = decide (nr = np) := hK.out.beq hn (o := some (shT G [nq, nr])) (p := some (shT G [nq, np])) (by simp) (by simp) (by simpa using husH.out)
  have f3 : (x == z) = decide (nr = np) := hK.out.beq hn (o := some np) (p := some nr) (by simp) (by simp) (by simp only [Option.some.injEq]; exact eq_comm)
  have f4 : (zv == zs) = decide (G = O) := hK.out.beq hn (o := some (shT O [nq, np])) (p := some (shT G [nq, np])) (by simp) (by simp) (by simp only [Option.some.injEq]; exact hvsH.out.trans eq_comm)
  have f5 := hGOsH.out
  have f6 := hb9H.out
  have hBf := Lib.hid (hB1.out.trans (hS.out.below.mono hB1.out.size))
  obtain ⟨c1, hc1⟩ : ∃ c, decide (nr = np) = c := ⟨_, rfl⟩
  obtain ⟨c2, hc2⟩ : ∃ c, decide (G = O) = c := ⟨_, rfl⟩
  rw [hc1] at f2 f3
  rw [hc2] at f4 f5 f6
  have f1' : zs = zt := by simpa using f1
  subst f1'
  generalize errT o9 = e9 at *
  clear hc1 hc2 hK hl hS hn husH hvsH hb9H hGOsH oGq oGp oOq sGqp sGpq sGqr sOqp s9 f1 hcellH
  cases c1 <;> cases c2
  all_goals
    go_wp2_with (go_at_call 22; refine (cA.out _).mono ?_; rintro r w9 ⟨rfl, hb⟩)
    go_ret
    exact ⟨rfl, hBf.out.trans (hb.mono hBf.out.size)⟩
end Go.Proofs.YtbeanjaenmpoeaaDoor
