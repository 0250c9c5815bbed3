/- ShareKeeps: the walk. -/
import Derived.Test.YtbeanjaenmpoeaaDoorShG
namespace Go.Proofs.YtbeanjaenmpoeaaDoor
open Go.RowKit Go.Maps

theorem bs_grow (G : List UInt8) : bs G ++ ⟨#[120]⟩ = bs (G ++ [120]) := by
  apply ByteArray.ext
  simp [bs]
theorem chk_base (G : List UInt8) : chkB G (baseT G) = false := by
  cases h : baseT G with
  | none => rfl
  | some t => rw [(baseT_some h).1]; simp [chkB, Tm.args]
theorem chk_kind {G : List UInt8} {o : Option Tm} (h : kindO o ≠ 5) : chkB G o = false := by
  cases o with
  | none => rfl
  | some t =>
    have h : t.kind ≠ 5 := h
    simp [chkB, h]
theorem kind_mk {k a b : Nat} {s : List UInt8} {os : List (Option Tm)} : kindO (mkO k a b s os) = 0 ∨ kindO (mkO k a b s os) = k := by
  cases h : mkO k a b s os with
  | none => exact .inl rfl
  | some t =>
    obtain ⟨l, _, rfl, _⟩ := mkO_some h
    exact .inr rfl
theorem chk_mk {G : List UInt8} {k a b : Nat} {s : List UInt8} {os : List (Option Tm)} (hk : k ≠ 5) : chkB G (mkO k a b s os) = false := chk_kind (by
  rcases kind_mk (k := k) (a := a) (b := b) (s := s) (os := os) with h | h <;> rw [h] <;> omega)
set_option maxRecDepth 100000 in
set_option maxHeartbeats 8000000 in
theorem shareKeeps_any (G : List UInt8) (a0 b0 : Nat) (w : World) (ha0 : a0 ≤ 65535) (hb0 : b0 ≤ 65535) :
    Calls Tryd.prog 7 #[.string (bs G), .int .u16 a0, .int .u16 b0] w fun r w' => r = .returned (.bool true) ∧ Below w.heap.size w w' := by
  have cA := Lib.hid (fun W => awake19 W)
  have hzG := bs_size G
  by_cases g1 : ¬ 1 ≤ (bs G).size
  · have g1' : (bs G).size = 0 := by omega
    clear hzG g1
    go_enter Tryd.func7, Tryd.ntmps7
    go_wp2_with (go_at_call 22; refine (cA.out _).mono ?_; rintro r w1 ⟨rfl, hb⟩)
    go_ret
    exact ⟨rfl, hb⟩
  by_cases g2 : ¬ (bs G).size ≤ 100
  · have g2' : 100 < (bs G).size := by omega
    clear hzG g2
    go_enter Tryd.func7, Tryd.ntmps7
    go_wp2_with (go_at_call 22; refine (cA.out _).mono ?_; rintro r w1 ⟨rfl, hb⟩)
    go_ret
    exact ⟨rfl, hb⟩
  have g1 : 1 ≤ (bs G).size := by omega
  have g2 : (bs G).size ≤ 100 := by omega
  have hG1 : 1 ≤ G.length := by omega
  have hG2 : G.length ≤ 2100 := by omega
  have okx := nT_ok ha0 hb0
  have ex := freshT_eq ha0 hb0
  generalize nT a0 b0 = nx at *
  have oG := Lib.hid (offer_eq hG1 hG2 okx)
  have oX := Lib.hid (offer_eq (g := G ++ [120]) (by simp) (by simp; omega) okx)
  have exH := Lib.hid ex
  have hk2 := okx.2
  have e1 : decide (((bs G).size : Int) < 1) = false := decide_eq_false (by omega)
  have e2 : decide ((100 : Int) < ((bs G).size : Int)) = false := decide_eq_false (by omega)
  have cN := Lib.hid (tnew_any w)
  have hcat := bs_grow G
  have wr0 : IntKind.i64.wrap (a0 : Int) = (a0 : Int) := by rw [IntKind.wrap_i64]; omega
  have wr1 : IntKind.i64.wrap (b0 : Int) = (b0 : Int) := by rw [IntKind.wrap_i64]; omega
  have hlen : G.length ≤ 100 := by omega
  clear hzG ex
  go_enter Tryd.func7, Tryd.ntmps7
  go_upto_region 3 with fail
  clear e1 e2
  go_upto_region 5 with (first
    | (go_at_call 12; refine cN.out.mono ?_; rintro r w1 ⟨A, rfl, hN, hA, hb⟩
       have hS0 := St.start hN hA hb
       have cF1 := hS0.fresh (by decide) a0 b0
       rw [exH.out] at cF1
       have cF1h := Lib.hid cF1
       clear hN hA hb cN hS0 cF1
       generalize A.g = g at *)
    | (go_at_call 23; refine cF1h.out.mono ?_; rintro r w2 ⟨L1, x, rfl, hS1, hG, hM, -, -⟩
       have hl1 : L1.length ≤ 1 := hG.len.2
       have hK1 := Lib.hid ((Kn.nil_ L1).add hM)
       have cB := Lib.hid (hS1.base (by omega) G (by omega))
       clear hS1 hG hM cF1h))
  clear wr0 wr1
  go_upto_region 6 with (first
    | (go_at_call 16; refine cB.out.mono ?_; rintro r w3 ⟨L2, zb, rfl, hS2, hG, hM, -, -⟩
       have hl2 : L2.length ≤ 2 := by have := hG.len.2; omega
       have hK2 := Lib.hid ((hK1.out.ext (.of_grow hG)).add hM)
       have cD := Lib.hid (hS2.data (by omega) G (by omega))
       clear hS2 hG hM cB)
    | (go_at_call 13; refine cD.out.mono ?_; rintro r w4 ⟨L3, zd, rfl, hS3, hG, hM, -, -⟩
       have hl3 : L3.length ≤ 3 := by have := hG.len.2; omega
       have hK3 := Lib.hid ((hK2.out.ext (.of_grow hG)).add hM)
       have cK := Lib.hid (hS3.key (by omega) 0)
       clear hS3 hG hM cD)
    | (go_at_call 26; refine cK.out.mono ?_; rintro r w5 ⟨L4, zk, rfl, hS4, hG, hM, -, -⟩
       have hl4 : L4.length ≤ 4 := by have := hG.len.2; omega
       have hK4 := Lib.hid ((hK3.out.ext (.of_grow hG)).add hM)
       have cO := hS4.offer (by omega) G (by omega) x _ (hK4.out (x, some nx) (by simp))
       rw [oG.out] at cO
       have cOh := Lib.hid cO
       clear hS4 hG hM cK cO)
    | (go_at_call 25; (with_reducible refine cOh.out.mono ?_); rintro r w6 ⟨L5, zo, rfl, hS5, hE, hM, -, -⟩
       have hl5 : L5.length ≤ 6 := by have := hE.len; omega
       have hK5 := Lib.hid ((hK4.out.ext hE).add hM)
       have cH := Lib.hid (hS5.hash (by omega) zo)
       clear hS5 hE hM)
    | (go_at_call 27; refine cH.out.mono ?_; rintro r w7 ⟨L6, zh, rfl, hS6, hG, hM, -, -⟩
       have hl6 : L6.length ≤ 7 := by have := hG.len.2; omega
       have hK6 := Lib.hid ((hK5.out.ext (.of_grow hG)).add hM)
       have cP := hS6.offer (by omega) (G ++ [120]) (by simp; omega) x _ (hK6.out (x, some nx) (by simp))
       rw [oX.out] at cP
       have cPh := Lib.hid cP
       clear hS6 hG hM cH cP)
    | (go_at_call 25; (with_reducible refine cPh.out.mono ?_); rintro r w8 ⟨L7, zx, rfl, hS7, hE, hM, -, -⟩
       have hl7 : L7.length ≤ 9 := by have := hE.len; omega
       have hK7 := Lib.hid (((hK6.out.ext hE).add hM).add (Nm.none_ L7))
       have hSn := Lib.hid (hS7.keep (below_new w8 (.cells #[.int .i64 zb, .int .i64 zd, .int .i64 x, .int .i64 zk, .int .i64 zh, .int .i64 (-1), .int .i64 zx] 26)))
       have hqn := Lib.hid (heap_new w8 (.cells #[.int .i64 zb, .int .i64 zd, .int .i64 x, .int .i64 zk, .int .i64 zh, .int .i64 (-1), .int .i64 zx] 26))
       clear hS7 hE hM))
  obtain ⟨zs, hzs⟩ : ∃ zs : List Int, zs = [zb, zd, x, zk, zh, -1, zx] := ⟨_, rfl⟩
  have hcells : (#[.int .i64 zb, .int .i64 zd, .int .i64 x, .int .i64 zk, .int .i64 zh, .int .i64 (-1), .int .i64 zx] : Array Value) = (zs.map (Value.int .i64)).toArray := by rw [hzs]; rfl
  have hzl : zs.length = 7 := by rw [hzs]; rfl
  obtain ⟨ks, hks, hxk, hZ⟩ : ∃ ks, Kn L7 ks ∧ (x, some nx) ∈ ks ∧ ∀ (j : Nat) (z : Int), zs[j]? = some z → ∃ o, (z, o) ∈ ks ∧ chkB G o = false := by
    refine ⟨_, hK7.out, by simp, fun j z hj => ?_⟩
    rw [hzs] at hj
    match j, hj with
    | 0, hj => obtain rfl := Option.some.inj hj; exact ⟨baseT G, by simp, chk_base G⟩
    | 1, hj => obtain rfl := Option.some.inj hj; exact ⟨dataT G, by simp, chk_mk (by decide)⟩
    | 2, hj => obtain rfl := Option.some.inj hj; exact ⟨some nx, by simp, chk_kind (by show nx.kind ≠ 5; rw [hk2]; decide)⟩
    | 3, hj =>
      obtain rfl := Option.some.inj hj
      refine ⟨keyT 0, by simp, ?_⟩
      unfold keyT
      split
      · exact chk_mk (by decide)
      · rfl
    | 4, hj => obtain rfl := Option.some.inj hj; exact ⟨hashT (get L5 zo), by simp, chk_mk (by decide)⟩
    | 5, hj => obtain rfl := Option.some.inj hj; exact ⟨none, by simp, rfl⟩
    | 6, hj =>
      obtain rfl := Option.some.inj hj
      refine ⟨some (shT (G ++ [120]) [nx]), by simp, ?_⟩
      have hne : ¬ (G ++ [120] = G) := fun e => by
        have := congrArg List.length e
        simp at this
      simp [chkB, shT, Tm.kind, Tm.s, hne]
    | j + 7, hj => simp at hj
  rw [hcells] at hSn hqn
  rw [hcells]
  clear hzs hcells hK1 hK2 hK3 hK4 hK5 hK6 hK7 hk2 okx oG oX exH cOh cPh hl1 hl2 hl3 hl4 hl5 hl6
  have hks := Lib.hid hks
  have hxk := Lib.hid hxk
  have hZ := Lib.hid hZ
  have hzl2 := Lib.hid hzl
  generalize (w8.alloc (.cells (zs.map (Value.int .i64)).toArray 26)) = w9 at *
  generalize w8.heap.size = q at *
  clear hzl
  go_wp2_with fail
  go_loopw [10] (fun i wr => ∃ (j : Nat) (L : List Tm), j ≤ 7 ∧ i = .int .i64 j ∧ Hid (Kn L ks) ∧ Hid (L.length ≤ 9 + j) ∧ Hid (St w g wr L) ∧ Hid (wr.heap[q]? = some (.cells (zs.map (Value.int .i64)).toArray 26 (0, 0)))) (fun i _ => 7 - (intOf i).toNat)
  case atStart => exact ⟨0, L7, by omega, rfl, hks, hl7, hSn, hqn⟩
  case round =>
    clear hks hSn hqn hl7
    obtain ⟨j, L, hj, rfl, hK, hl, hS, hq⟩ := hrel
    by_cases hlt : j < 7
    · obtain ⟨z, hz⟩ : ∃ z, zs[j]? = some z := ⟨zs[j]'(by have := hzl2.out; omega), List.getElem?_eq_getElem (by have := hzl2.out; omega)⟩
      have hc : wr.cell? ⟨q, j, none⟩ = some (.int .i64 z) := by
        rw [cell_of_row wr q j _ _ _ hq.out, List.getElem?_toArray, List.getElem?_map, hz]
        rfl
      obtain ⟨o, ho, hco⟩ := hZ.out j z hz
      have cS := hS.out.secret (by have := hl.out; omega) G z x _ _ (hK.out _ ho) (hK.out _ hxk.out)
      have hno : secretT G o (some nx) = none := by unfold secretT; rw [hco]; rfl
      rw [hno] at cS
      have cSh := Lib.hid cS
      clear ho hco hno hz cS
      go_wp2_with (go_at_call 24; refine cSh.out.mono ?_; rintro r w3 ⟨L2, zz, rfl, hS2, hE, hM, hY, -⟩
                   obtain rfl := hM.2 rfl
                   have hK2 := Lib.hid (hK.out.ext hE)
                   have hl2 := Lib.hid (show L2.length ≤ 9 + (j + 1) by have := hE.len; have := hl.out; omega)
                   have hS2 := Lib.hid hS2
                   have hq2 := Lib.hid (hY q _ _ _ hq.out (by decide) (by decide) (by decide))
                   clear hE hM hY)
      go_roundw
      case rel => exact ⟨j + 1, L2, by omega, by go_num, hK2, hl2, hS2, hq2⟩
      case measure => simp [intOf]; omega
    · have hBf := Lib.hid hS.out.below
      clear hK hl hS hq
      go_wp2_with (go_at_call 22; refine (cA.out _).mono ?_; rintro r w1 ⟨rfl, hb⟩)
      go_ret
      exact ⟨rfl, hBf.out.trans (hb.mono hBf.out.size)⟩
end Go.Proofs.YtbeanjaenmpoeaaDoor
