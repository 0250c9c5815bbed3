/- TermLong: the walk. -/
import Derived.Test.YtbeanjaenmpoeaaDoorTmR
import Derived.Laws.MakeOwn
import Derived.Laws.IdiomStrings
namespace Go.Proofs.YtbeanjaenmpoeaaDoor
open Go.RowKit Go.Maps

theorem u8_info : (Tryd.prog.info? 5).map (fun i => (i.zero, i.size, i.bytes)) = some (some (.int .u8 0), 1, 1) := by kernel_rfl
theorem made_zero (n : Nat) : madeCells (Value.int .u8 0).cells (n * 1) = (List.replicate n (Value.int .u8 0)).toArray := by
  have e : (Value.int .u8 0).cells = #[.int .u8 0] := rfl
  apply Array.ext'
  rw [e, toList_madeCells_one, Nat.mul_one]
theorem mk_zero (n : Nat) (hn : n ≤ 60000) (W : World) : (Instr.makeSlice 28 (.int .i64 (n : Int)) (.int .i64 (n : Int))).run Tryd.prog W = .ok (.slice (some ⟨W.heap.size, 0, none⟩) n n) (W.alloc (.cells (Array.replicate n (Value.int .u8 0)) 5)) := by
  rw [← List.toArray_replicate]
  obtain ⟨i0, hi0, hz0, hz1, hz2⟩ := info_parts u8_info
  rw [run_makeSlice W 28 5 i0 _ Tryd.underlying28 hi0 hz0 .i64 .i64 _ _ (by omega) (by omega) (by rw [hz1]; omega) (by rw [hz2]; omega) (by omega), hz1, Int.toNat_natCast, made_zero n]
theorem conv_zero (n : Nat) (W : World) : (convert 28 9 (.slice (some ⟨W.heap.size, 0, none⟩) n n)).run Tryd.prog (W.alloc (.cells (Array.replicate n (Value.int .u8 0)) 5)) = .ok (.string (bs (List.replicate n 0))) (W.alloc (.cells (Array.replicate n (Value.int .u8 0)) 5)) := by
  rw [← List.toArray_replicate]
  have h := run_convert_bytes_back (P := Tryd.prog) (W.alloc (.cells (List.replicate n (Value.int .u8 0)).toArray 5)) 28 9 5 ⟨W.heap.size, 0, none⟩ n (List.replicate n 0) Tryd.underlying28 Tryd.underlying5 Tryd.underlying9 (fun j hj => by
    rw [List.length_replicate] at hj
    have hr := rangeAt_list (heap_new W (.cells (List.replicate n (Value.int .u8 0)).toArray 5)) j (.int .u8 0) (by rw [List.getElem?_replicate, if_pos hj])
    rw [Nat.zero_add] at hr
    rw [Addr.add_mid, Nat.zero_add, hr]
    simp)
  rw [List.length_replicate] at h
  exact h
theorem data_len (s : List UInt8) (h : s.length ≤ 60000) : ∃ T, dataT s = some T ∧ T.len = 5 + s.length := by
  refine ⟨.mk 1 0 0 s [], ?_, ?_⟩
  · simp [dataT, mkO, alls, own, lens]; omega
  · rw [len_mk (.inl ⟨rfl, rfl, rfl, rfl, by omega⟩)]; simp [own, lens]
theorem two_none {L : List Tm} {x : Int} {T : Tm} {S : Nat} (h : get L x = some T) (hl : T.len = S) (hS : 131072 < 5 + 2 * S) : listT ([x, x].map (get L)) = none := by
  simp [listT, mkO, alls, own, lens, h, hl]; omega
theorem two_some {L : List Tm} {x : Int} {T : Tm} {S : Nat} (h : get L x = some T) (hl : T.len = S) (hS : ¬ 131072 < 5 + 2 * S) : listT ([x, x].map (get L)) = some (.mk 10 0 0 [] [T, T]) := by
  simp [listT, mkO, alls, own, lens, h, hl]; omega
theorem two_len {T : Tm} : (Tm.mk 10 0 0 [] [T, T]).len = 5 + 2 * T.len := by
  rw [len_mk (.inr (.inr (.inr (.inr (.inr (.inr (.inr (.inr (.inr ⟨rfl, rfl, rfl, rfl, by simp⟩)))))))))]; simp [own, lens]; omega

set_option maxRecDepth 100000 in
set_option maxHeartbeats 4000000 in
theorem termLong_any (n k : Nat) (w : World) (hn : n ≤ 65535) (hk : k ≤ 255) :
    Calls Tryd.prog 3 #[.int .u16 n, .int .u8 k] w fun r w' => r = .returned (.bool true) ∧ Below w.heap.size w w' := by
  have cA := Lib.hid (fun W => awake01 W)
  by_cases h1 : 60000 < n
  · go_enter Tryd.func3, Tryd.ntmps3
    go_wp2_with (go_at_call 11; refine (cA.out _).mono ?_; rintro r w1 ⟨rfl, hb⟩)
    go_ret
    exact ⟨rfl, hb⟩
  by_cases h2 : 30 < k
  · go_enter Tryd.func3, Tryd.ntmps3
    go_wp2_with (go_at_call 11; refine (cA.out _).mono ?_; rintro r w1 ⟨rfl, hb⟩)
    go_ret
    exact ⟨rfl, hb⟩
  have cN := Lib.hid (new_any w)
  obtain ⟨T0, hT0, hl0⟩ := data_len (List.replicate n 0) (by simp; omega)
  rw [List.length_replicate] at hl0
  have hT0 := Lib.hid hT0
  have hl0 := Lib.hid hl0
  go_enter Tryd.func3, Tryd.ntmps3
  go_upto_region 4 with (first
    | (go_at_call 12; refine cN.out.mono ?_; rintro r w1 ⟨A, rfl, hN, hA, hb⟩
       have hS0 := St.start hN hA hb
       clear hN hA hb cN
       generalize A.g = g at *
       have hmk := mk_zero n (by omega) w1
       have hcv := conv_zero n w1
       have cD := Lib.hid ((hS0.keep (below_new w1 (.cells (Array.replicate n (Value.int .u8 0)) 5))).data (by decide) (List.replicate n 0) (by simp; omega))
       clear hS0))
  go_wp2_with (first
    | (go_at_call 13; refine cD.out.mono ?_; rintro r w2 ⟨L1, x1, rfl, hS1, hG, hM, -, -⟩
       rw [hT0.out] at hG hM
       have hL1 := hG.fresh (by simp)
       rw [List.nil_append] at hL1
       subst hL1
       have hx1 := Lib.hid hM.1
       have hS1 := Lib.hid hS1
       clear hmk hcv cD hG hM))
  go_loopw [6, 7, 8] (fun t s i wr => ∃ (j S : Nat) (x : Int) (L : List Tm) (T : Tm), j ≤ k ∧ i = .int .i64 j ∧ t = .int .i64 x ∧ s = .int .i64 S ∧ S ≤ 131072 ∧ Hid (L.length ≤ j + 1) ∧ Hid (get L x = some T) ∧ Hid (T.len = S) ∧ Hid (St w g wr L)) (fun _ _ i _ => k - (intOf i).toNat)
  case atStart => exact ⟨0, 5 + n, x1, [T0], T0, by omega, rfl, rfl, by simp, by omega, Lib.hid (by simp), hx1, hl0, hS1⟩
  case round =>
    obtain ⟨j, S, x, L, T, hj, rfl, rfl, rfl, hSm, hLl, hx, hl, hS⟩ := hrel
    by_cases hlt : j < k
    · have cS := hS.out.size x
      rw [hx.out, show sizeO (some T) = T.len from rfl, hl.out] at cS
      have cS := Lib.hid cS
      have hLl2 : L.length < 100 := by have := hLl.out; omega
      have cL := Lib.hid ((hS.out.keep (below_new wr (.cells #[.int .i64 x, .int .i64 x] 26))).list hLl2 [x, x] (some ⟨wr.heap.size, 0, none⟩) 2 2 (by decide) (ints_new wr [x, x] _))
      clear hLl2
      by_cases hbig : 131072 < 5 + 2 * S
      · rw [two_none hx.out hl.out hbig] at cL
        have hbI : (131072 : Int) < 5 + 2 * (S : Int) := by omega
        have hd1 : decide ((131072 : Int) < 5 + 2 * (S : Int)) = true := decide_eq_true hbI
        go_wp2_with (first
          | (go_at_call 14; refine cS.out.mono ?_; rintro r w3 ⟨rfl, rfl⟩)
          | (go_at_call 15; refine cL.out.mono ?_; rintro r w4 ⟨L2, x2, rfl, hS2, hG, hM, -, -⟩
             obtain rfl := hM.2 rfl
             have hb2 := Lib.hid hS2.below
             clear hS2 hG hM cL cS)
          | (go_at_call 11; refine (cA.out _).mono ?_; rintro r w5 ⟨rfl, hb⟩))
        go_ret
        exact ⟨rfl, hb2.out.trans (hb.mono hb2.out.size)⟩
      · rw [two_some hx.out hl.out hbig] at cL
        have hl2 := Lib.hid (two_len (T := T))
        rw [hl.out] at hl2
        have hsm2 : 5 + 2 * S ≤ 131072 := by omega
        have hd1 : decide ((131072 : Int) < 5 + 2 * (S : Int)) = false := decide_eq_false (by omega)
        go_wp2_with (first
          | (go_at_call 14; refine cS.out.mono ?_; rintro r w3 ⟨rfl, rfl⟩)
          | (go_at_call 15; refine cL.out.mono ?_; rintro r w4 ⟨L2, x2, rfl, hS2, hG, hM, -, -⟩
             obtain ⟨p, rfl, hp⟩ := get_some hM.1
             have hx2 := Lib.hid hM.1
             have hL2 := Lib.hid (show L2.length ≤ j + 1 + 1 by have := hG.len.2; have := hLl.out; omega)
             have hS2 := Lib.hid hS2
             have hpl : p ≤ 100 := by have := (List.getElem?_eq_some_iff.1 hp).1; have := hS2.out.few; omega
             clear hG hM hp cL cS))
        go_roundw
        case rel => exact ⟨j + 1, 5 + 2 * S, p, L2, _, by omega, by go_num, rfl, by go_num, hsm2, hL2, hx2, hl2, hS2⟩
        case measure => simp [intOf]; omega
    · have hb2 := Lib.hid hS.out.below
      go_wp2_with (go_at_call 11; refine (cA.out _).mono ?_; rintro r w5 ⟨rfl, hb⟩)
      go_ret
      exact ⟨rfl, hb2.out.trans (hb.mono hb2.out.size)⟩
theorem termLong_int (x y : Int) (w : World) (hx : (Lit.int .u16 x).wf = true) (hy : (Lit.int .u8 y).wf = true) :
    Calls Tryd.prog 3 #[.int .u16 x, .int .u8 y] w fun r w' => r = .returned (.bool true) ∧ Below w.heap.size w w' := by
  simp only [Lit.wf, Bool.and_eq_true, decide_eq_true_eq, show IntKind.u16.min = 0 by decide, show IntKind.u16.max = 65535 by decide, show IntKind.u8.min = 0 by decide, show IntKind.u8.max = 255 by decide] at hx hy
  obtain ⟨n, rfl⟩ := Int.eq_ofNat_of_zero_le hx.1
  obtain ⟨k, rfl⟩ := Int.eq_ofNat_of_zero_le hy.1
  exact termLong_any n k w (by omega) (by omega)
end Go.Proofs.YtbeanjaenmpoeaaDoor
