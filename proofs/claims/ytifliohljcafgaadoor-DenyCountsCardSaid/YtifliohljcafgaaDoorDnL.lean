/- DenyCounts: the walk of the law. -/
import Derived.Test.YtifliohljcafgaaDoorDnK
namespace Go.Proofs.YtifliohljcafgaaDoor
open Go.RowKit Go.Maps

def bv (b : Bool) : List Value := [.bool b]
def cntG (lim : Nat) : List Bool → Nat
  | [] => 0
  | b :: r => cntG lim r + 0 * b.toNat
theorem gr_built : Tryd.prog.built 30 [(0, .string ⟨#[97, 110, 110]⟩), (1, .int .i64 1)] = some (grv (annS, 1)).toArray := by kernel_rfl
set_option maxRecDepth 100000 in
set_option maxHeartbeats 8000000 in
theorem denyCounts_any (lim : Nat) (L : List Bool) (Al : Option Addr) (n c : Nat) (w : World) (hl : lim ≤ 255) (hn : n ≤ 9223372036854775807) (H : Rws w 1 Al n (L.map bv)) :
    Calls Tryd.prog 3 #[.int .u8 lim, .slice Al n c] w fun r w' => r = .returned (.bool true) ∧ Below w.heap.size w w' := by
  have cA := Lib.hid (fun W => awake24_any W)
  have hAl := Lib.hid H
  clear H
  by_cases h1 : lim < 1
  · go_enter Tryd.func3, Tryd.ntmps3
    go_wp2_with (go_at_call 5; refine (cA.out _).mono ?_; rintro r w1 ⟨rfl, hb⟩)
    go_ret
    exact ⟨rfl, hb⟩
  by_cases h2 : 20 < lim
  · go_enter Tryd.func3, Tryd.ntmps3
    go_wp2_with (go_at_call 5; refine (cA.out _).mono ?_; rintro r w1 ⟨rfl, hb⟩)
    go_ret
    exact ⟨rfl, hb⟩
  by_cases h3 : 40 < n
  · go_enter Tryd.func3, Tryd.ntmps3
    go_wp2_with (go_at_call 5; refine (cA.out _).mono ?_; rintro r w1 ⟨rfl, hb⟩)
    go_ret
    exact ⟨rfl, hb⟩
  have hd : denyE [(annS, 1)] [sshS] (lim : Int) = 0 := by
    have := denyE_cnt ⟨lim - 1, by omega⟩
    simp only [show lim - 1 + 1 = lim by omega] at this
    exact this
  have hb1 := below_new w (.cells (grv (annS, 1)).toArray 30)
  have hb2 := hb1.trans (Below.mono (below_new (w.alloc (.cells (grv (annS, 1)).toArray 30)) (.cells #[.string ⟨#[115, 115, 104, 45, 97]⟩] 9)) hb1.size)
  have hG0 : Grs ((w.alloc (.cells (grv (annS, 1)).toArray 30)).alloc (.cells #[.string ⟨#[115, 115, 104, 45, 97]⟩] 9)) (some ⟨w.heap.size, 0, none⟩) 1 [(annS, 1)] :=
    Rws.keep (Rws.block (k := 2) (zs := [grv (annS, 1)]) (by simp [grv]) (heap_new w _) (by simp)) (below_new _ _)
  have hS0 : Strs ((w.alloc (.cells (grv (annS, 1)).toArray 30)).alloc (.cells #[.string ⟨#[115, 115, 104, 45, 97]⟩] 9)) (some ⟨w.heap.size + 1, 0, none⟩) 1 [sshS] := by
    have := Strs.block (ss := [sshS]) (w := (w.alloc (.cells (grv (annS, 1)).toArray 30)).alloc (.cells #[.string ⟨#[115, 115, 104, 45, 97]⟩] 9)) (by exact heap_new _ _) (Array.getElem?_eq_some_iff.1 (heap_new _ _)).1
    rw [show (w.alloc (.cells (grv (annS, 1)).toArray 30)).heap.size = w.heap.size + 1 by simp] at this
    exact this
  have cN := Lib.hid (Calls.mono (new_any [(annS, 1)] [sshS] lim (some ⟨w.heap.size, 0, none⟩) (some ⟨w.heap.size + 1, 0, none⟩) 1 1 1 1 _ (by decide) (by decide) (by decide) (by decide) (by decide) (by decide) hG0 (by decide +kernel) hS0 (by decide +kernel))
    (fun r w' h => (show ∃ g A n c B m d, r = .returned (.tuple #[.pointer (some ⟨g, 0, none⟩), .nilIface]) ∧ GateB w' g A B n c m d lim 0 ∧ Grs w' A n [(annS, 1)] ∧ Strs w' B m [sshS] ∧ _ ≤ g ∧ Below _ _ w' by unfold NewR at h; rwa [if_pos hd] at h)))
  have hb2 := Lib.hid hb2
  clear hb1 hG0 hS0 hd
  have hlim : 1 ≤ lim ∧ lim ≤ 20 := by omega
  go_enter Tryd.func3, Tryd.ntmps3
  go_upto_region 4 with (first
    | (go_at_call 6; refine cN.out.mono ?_; rintro r w3 ⟨g, Ag, ng, cg, Bg, mg, dg, rfl, hGate, hGr, hSs, hge, hb3⟩
       obtain rfl : 1 = ng := hGr.len
       obtain rfl : 1 = mg := hSs.len
       have hwg := Lib.hid (Nat.le_trans hb2.out.size hge)
       have hB3 := Lib.hid (hb2.out.trans (hb3.mono hb2.out.size))
       have cT := Lib.hid (tnew_any w3)
       have hGate := Lib.hid hGate
       have hGr := Lib.hid hGr
       have hSs := Lib.hid hSs
       clear hge hb3 cN hb2))
  go_upto_region 7 with (first
    | (go_at_call 7; refine cT.out.mono ?_; rintro r w4 ⟨A, rfl, hN, hA, hb⟩
       have hS0 := St.start hN hA hb
       have cK := Lib.hid (hS0.key (by decide) 1)
       clear hN hA hb cT hS0
       generalize A.g = ga at *))
  go_upto_region 8 with (first
    | (go_at_call 9; refine cK.out.mono ?_; rintro r w5 ⟨L1, x1, rfl, h1, hG, hM, -, -⟩
       rw [k1_eq] at hG hM
       have cP := h1.pub (by have := hG.len.2; simp at this; omega) x1
       rw [hM.1, p1_eq] at cP
       have cP := Lib.hid cP
       clear h1 hG hM cK)
    | (go_at_call 8; refine cP.out.mono ?_; rintro r w6 ⟨L2, x2, rfl, h2, -, hM2, -, -⟩
       have hx := Lib.hid hM2.1
       have hS6 := Lib.hid h2
       clear hM2 h2 cP))
  obtain ⟨A2, rfl, rfl, HA, hBA⟩ := hS6.out
  have hGate6 := hGate.out.keep hBA
  have hGr6 := hGr.out.keep hBA
  have hSs6 := hSs.out.keep hBA
  have hgl := hGate.out.lt
  have hB6 := Lib.hid (hB3.out.trans (hBA.mono hB3.out.size))
  have cHas := Lib.hid (fun wk (F : Nat) (hK : Keeps (fun b => b = g) w6 wk) (hG : GateB wk g Ag Bg 1 cg 1 dg lim F) => hasG_any A2 w3.heap.size wk (HA.keepF hK (fun b hb hf => by have := (HA.has_ge hb).1; omega) (fun b cur fr hb hf => (show Typ w6 b _ from ⟨_, _, hb⟩).ne (show Typ w6 b 56 by subst hf; exact ⟨_, _, hGate6⟩) (by decide) rfl)) x2 hx.out g Ag Bg cg dg lim F hG (Grs.keepG hGate6 hGr6 hK) (Strs.keepG hGate6 hSs6 hK))
  have cFl := Lib.hid (fun wk (F F' : Nat) (q : Bool) (h1 : F ≤ lim) (hf : min (F + 1) lim = F') (hq : decide (F' = lim) = q) (hG : GateB wk g Ag Bg 1 cg 1 dg lim F) => fail_step g Ag Bg 1 cg 1 dg lim F F' q wk hG (by omega) h1 hf hq)
  have cFs := Lib.hid (fun wk (F : Nat) (hG : GateB wk g Ag Bg 1 cg 1 dg lim F) => failures_any g Ag Bg 1 cg 1 dg lim F wk hG)
  have cFu := Lib.hid (fun wk (F : Nat) (hG : GateB wk g Ag Bg 1 cg 1 dg lim F) => full_any g Ag Bg 1 cg 1 dg lim F wk hG)
  have hGate6 := Lib.hid (show GateB w6 g Ag Bg 1 cg 1 dg lim ((0 : Nat) : Int) from hGate6)
  clear hGate hGr hSs hGr6 hSs6 hgl HA hBA hS6 hx hB3
  go_wp2_with fail
  go_loopw [9, 10] (fun f i wr => ∃ (j F : Nat), j ≤ n ∧ i = .int .i64 j ∧ f = .int .i64 F ∧ F ≤ lim ∧ Hid (GateB wr g Ag Bg 1 cg 1 dg lim F) ∧ Hid (Keeps (fun b => b = g) w6 wr)) (fun _ i _ => n - (intOf i).toNat)
  case atStart => exact ⟨0, 0, by omega, rfl, rfl, by omega, hGate6, Lib.hid (Keeps.refl _ _)⟩
  case round =>
    obtain ⟨j, F, hj, rfl, rfl, hF, hG, hK⟩ := hrel
    by_cases hlt : j < n
    · obtain ⟨bb, off, z, rfl, hbl, hz, _, hr⟩ := hAl.out.row hlt
      rw [List.getElem?_map] at hz
      cases hLj : L[j]? with
      | none => rw [hLj] at hz; cases hz
      | some b =>
        rw [hLj] at hz
        simp only [Option.map_some, Option.some.injEq] at hz
        subst hz
        have hc := hr 0 _ rfl
        rw [Nat.mul_one, Nat.add_zero] at hc
        have hc : wr.cell? ⟨bb, off + j, none⟩ = some (.bool b) := by
          rw [hK.out.cell (a := ⟨bb, off + j, none⟩) (Nat.lt_of_lt_of_le hbl hB6.out.size) (fun e => by have := hwg.out; simp only at e; omega), hB6.out.cell (p := ⟨bb, off + j, none⟩) hbl]
          exact hc
        clear hr hLj
        cases b with
        | true =>
          obtain ⟨F', hF'⟩ : ∃ F', min (F + 1) lim = F' := ⟨_, rfl⟩
          have hF1 : F' ≤ lim := by omega
          have hmin : min ((F : Int) + 1) (lim : Int) = (F' : Int) := by omega
          obtain ⟨q, hq⟩ : ∃ q, decide (F' = lim) = q := ⟨_, rfl⟩
          have hq1 : decide ((lim : Int) ≤ (F' : Int)) = q := by rw [← hq, Bool.eq_iff_iff, decide_eq_true_eq, decide_eq_true_eq]; omega
          have hq2 : decide ((F' : Int) = (lim : Int)) = q := by rw [← hq, Bool.eq_iff_iff, decide_eq_true_eq, decide_eq_true_eq]; omega
          have hq4 : ((F' : Int) == (lim : Int)) = q := by rw [← hq, Bool.eq_iff_iff, beq_iff_eq, decide_eq_true_eq]; omega
          have hq3 : decide (lim ≤ F') = q := by rw [← hq, Bool.eq_iff_iff, decide_eq_true_eq, decide_eq_true_eq]; omega
          have cF := Lib.hid (cFl.out wr F F' q hF hF' hq hG.out)
          clear hF' cFl
          go_wp2_with (first
            | (go_at_call 10; refine cF.out.mono ?_; rintro r w7 ⟨rfl, hG7, hK7⟩
               have hK8 := Lib.hid (hK.out.trans hK7)
               have cH := Lib.hid (cHas.out w7 F' hK8.out hG7)
               have hG7 := Lib.hid hG7
               clear hK7 cF)
            | (go_at_call 11; refine cH.out.mono ?_; rintro r w8 ⟨rfl, hb8⟩
               have hG8 := Lib.hid (hG7.out.keep hb8)
               have hK9 := Lib.hid (hK8.out.trans (Keeps.of_below hb8))
               have cS := Lib.hid (cFs.out w8 F' hG8.out)
               have cU := Lib.hid (cFu.out w8 F' hG8.out)
               clear hb8 cH)
            | (go_at_call 12; refine cS.out.mono ?_; rintro r w9 ⟨rfl, rfl⟩)
            | (go_at_call 13; refine cU.out.mono ?_; rintro r w10 ⟨rfl, q10, rfl⟩
               have hG10 := Lib.hid (hG8.out.keep (drewN_below q10))
               have hK10 := Lib.hid (hK9.out.trans (Keeps.of_below (drewN_below q10)))))
          go_roundw
          case rel => exact ⟨j + 1, F', by omega, by go_num, rfl, hF1, hG10, hK10⟩
          case measure => simp [intOf]; omega
        | false =>
          obtain ⟨F', rfl⟩ : ∃ F', F' = F := ⟨_, rfl⟩
          have hF1 : F' ≤ lim := hF
          obtain ⟨q, hq⟩ : ∃ q, decide (F' = lim) = q := ⟨_, rfl⟩
          have hq1 : decide ((lim : Int) ≤ (F' : Int)) = q := by rw [← hq, Bool.eq_iff_iff, decide_eq_true_eq, decide_eq_true_eq]; omega
          have hq2 : decide ((F' : Int) = (lim : Int)) = q := by rw [← hq, Bool.eq_iff_iff, decide_eq_true_eq, decide_eq_true_eq]; omega
          have hq4 : ((F' : Int) == (lim : Int)) = q := by rw [← hq, Bool.eq_iff_iff, beq_iff_eq, decide_eq_true_eq]; omega
          have hq3 : decide (lim ≤ F') = q := by rw [← hq, Bool.eq_iff_iff, decide_eq_true_eq, decide_eq_true_eq]; omega
          have cH := Lib.hid (cHas.out wr F' hK.out hG.out)
          obtain ⟨hK8, hG7⟩ := And.intro hK hG
          clear cFl
          go_wp2_with (first
            | (go_at_call 11; refine cH.out.mono ?_; rintro r w8 ⟨rfl, hb8⟩
               have hG8 := Lib.hid (hG7.out.keep hb8)
               have hK9 := Lib.hid (hK8.out.trans (Keeps.of_below hb8))
               have cS := Lib.hid (cFs.out w8 F' hG8.out)
               have cU := Lib.hid (cFu.out w8 F' hG8.out)
               clear hb8 cH)
            | (go_at_call 12; refine cS.out.mono ?_; rintro r w9 ⟨rfl, rfl⟩)
            | (go_at_call 13; refine cU.out.mono ?_; rintro r w10 ⟨rfl, q10, rfl⟩
               have hG10 := Lib.hid (hG8.out.keep (drewN_below q10))
               have hK10 := Lib.hid (hK9.out.trans (Keeps.of_below (drewN_below q10)))))
          go_roundw
          case rel => exact ⟨j + 1, F', by omega, by go_num, rfl, hF1, hG10, hK10⟩
          case measure => simp [intOf]; omega
    · have hB7 := Lib.hid ((Keeps.of_below hB6.out).trans hK.out)
      go_wp2_with (go_at_call 5; refine (cA.out _).mono ?_; rintro r w9 ⟨rfl, hb⟩)
      go_ret
      exact ⟨rfl, (hB7.out.below (fun k hk => by have := hwg.out; omega) (Nat.le_refl _)).trans (hb.mono hB7.out.size)⟩
end Go.Proofs.YtifliohljcafgaaDoor
