/- Texts joined: what each shows stands ahead of its theorems. -/
import Derived.Test.YtifliohljcafgaaDoorDb4
import Derived.Laws.CopyRow
import Derived.Test.YtifliohljcafgaaDoorDb3
import Derived.Test.YtifliohljcafgaaDoorDb0
import Derived.WideShapes
import Derived.Maps.AppendAt
namespace Go.Proofs.YtifliohljcafgaaDoor
section
open Go.RowKit

/-- Texts of terms do not lie in an empty node. -/
theorem strs_off {w : World} {g : Nat} {A : Option Addr} {n : Nat} {args : List Tm} (hz : w.heap[g]? = some (.cells rz 89 (0, 0))) (h : Strs w A n (args.map fun u => bs u.enc)) (cs : Array Value) : Strs (w.setRow g cs) A n (args.map fun u => bs u.enc) := by
  refine ⟨h.1, h.2.1, fun hp => ?_⟩
  obtain ⟨b1, o1, e1, hl1, hc1⟩ := h.2.2 hp
  refine ⟨b1, o1, e1, by simpa [World.setRow] using hl1, fun jj z hzj i vv hv => ?_⟩
  have hne : b1 ≠ g := by
    rintro rfl
    have h0 : 0 < (args.map fun u => bs u.enc).length := by rw [h.len]; exact hp
    have hx : ((args.map fun u => bs u.enc).map sv)[0]? = some (sv ((args.map fun u => bs u.enc)[0])) := by rw [List.getElem?_map, List.getElem?_eq_getElem h0]; rfl
    have h2 := hc1 0 _ hx 0 _ rfl
    rw [cell_of_row w b1 _ _ _ _ hz] at h2
    have h3 := (Array.getElem?_eq_some_iff.1 h2).1
    generalize o1 + 0 * 1 + 0 = m at h2 h3
    have h3 : m < 5 := h3
    match m, h3, h2 with
    | 0, _, h2 => cases h2
    | 1, _, h2 => cases h2
    | 2, _, h2 => cases h2
    | 3, _, h2 =>
      have h4 := Option.some.inj h2
      injection h4 with h4
      rw [List.getElem_map] at h4
      have h5 := bs_inj (l := []) h4
      exact enc_ne h5.symm
    | 4, _, h2 => cases h2
  rw [World.cell?_of_block (hsetRow_off hne _)]
  exact hc1 jj z hzj i vv hv
theorem strs_new {w : World} {A : Option Addr} {n : Nat} {ss : List ByteArray} (h : Strs w A n ss) (o : Obj) (cs : Array Value) : Strs ((w.alloc o).setRow w.heap.size cs) A n ss :=
  h.keep (below_setRow (below_new w o) (Nat.le_refl _) cs)
set_option maxRecDepth 100000 in
set_option maxHeartbeats 4000000 in
theorem rView_own (t : Tm) (hok : t.ok) (hl : t.enc.length ≤ 4000000000) (w : World) :
    Calls Tryd.prog 46 #[.string (bs t.enc)] w fun r w' => ∃ (A : Option Addr) (c : Nat), r = .returned (.agg (rnC t.kind t.a t.b t.s (.slice A t.args.length c)).toArray) ∧ Strs w' A t.args.length (t.args.map fun u => bs u.enc) ∧ Below w.heap.size w w' ∧ OwnS w' w.heap.size (.slice A t.args.length c) (t.args.map fun u => bs u.enc) := by
  have hB1 := below_new w (.cells rz 89)
  have n1 := Lib.hid (heap_new w (.cells rz 89))
  have cP : Calls Tryd.prog 58 #[.string (bs t.enc), .int .i64 0] (w.alloc (.cells rz 89)) (ParseR t (0 + t.len) (w.alloc (.cells rz 89))) := rParse_any t.len t (Nat.le_refl _) hok t.enc 0 [] (w.alloc (.cells rz 89)) hl (by simp)
  unfold ParseR at cP
  have cPh := Lib.hid cP
  have hB1h := Lib.hid hB1
  have hlt1 : w.heap.size < (w.alloc (.cells rz 89)).heap.size := by simp
  clear hok hl cP hB1
  go_enter Tryd.func46, Tryd.ntmps46
  go_upto_region 1 with (refine wpList_alloc_row 89 rfl rfl rz rn_zero ?_; try simp only [World.size_alloc])
  generalize (w.alloc (.cells rz 89)) = w1 at *
  go_upto_region 2 with (first
    | (go_at_call 58; refine cPh.out.mono ?_; rintro r w2 ⟨A, c, rfl, hS, hb, hO⟩
       have z1 := Lib.hid (heap_new w2 (.cells rz 89))
       have hS1 := Lib.hid (strs_new hS (.cells rz 89) (rnC t.kind t.a t.b t.s (.slice A t.args.length c)).toArray)
       have hO1 := Lib.hid (OwnS.keep (w' := (w2.alloc (.cells rz 89)).setRow w2.heap.size (rnC t.kind t.a t.b t.s (.slice A t.args.length c)).toArray) hO (below_setRow (below_new w2 (.cells rz 89)) (Nat.le_refl _) (rnC t.kind t.a t.b t.s (.slice A t.args.length c)).toArray))
       have hb2 := Lib.hid (hb.trans (Below.mono (below_setRow (below_new w2 (.cells rz 89)) (Nat.le_refl _) (rnC t.kind t.a t.b t.s (.slice A t.args.length c)).toArray) hb.size))
       clear hS hb hO)
    | (refine wpList_alloc_row 89 rfl rfl rz rn_zero ?_; try simp only [World.size_alloc])
    | (refine wpList_store_at 89 _ _ rfl rfl w2.heap.size (rnC t.kind t.a t.b t.s (.slice A t.args.length c)).toArray rfl rfl 89 rz z1.out (rn_info rfl) rfl rn_all ?_))
  have hr := hsetRow _ _ _ (rnC t.kind t.a t.b t.s (.slice A t.args.length c)).toArray _ _ z1.out
  have hb2 : Below w1.heap.size w1 ((w2.alloc (.cells rz 89)).setRow w2.heap.size (rnC t.kind t.a t.b t.s (.slice A t.args.length c)).toArray) := hb2.out
  have hS1 : Strs ((w2.alloc (.cells rz 89)).setRow w2.heap.size (rnC t.kind t.a t.b t.s (.slice A t.args.length c)).toArray) A t.args.length (t.args.map fun u => bs u.enc) := hS1.out
  have hO1 : OwnS ((w2.alloc (.cells rz 89)).setRow w2.heap.size (rnC t.kind t.a t.b t.s (.slice A t.args.length c)).toArray) w1.heap.size (.slice A t.args.length c) (t.args.map fun u => bs u.enc) := hO1.out
  generalize ((w2.alloc (.cells rz 89)).setRow w2.heap.size (rnC t.kind t.a t.b t.s (.slice A t.args.length c)).toArray) = w3 at *
  have hr3 := Lib.hid (rangeAt_list hr)
  have z3 := (hb2.block w.heap.size hlt1).trans n1.out
  have hS3 := Lib.hid (strs_off z3 hS1 (rnC t.kind t.a t.b t.s (.slice A t.args.length c)).toArray)
  have hB3 := hB1h.out.trans (hb2.mono hB1h.out.size)
  have hB4 := Lib.hid (below_setRow hB3 (Nat.le_refl _) (g := w.heap.size) (rnC t.kind t.a t.b t.s (.slice A t.args.length c)).toArray)
  have z3h := Lib.hid z3
  have hO3 := Lib.hid (OwnR.monoB (OwnR.keepF (w' := w3.setRow w.heap.size (rnC t.kind t.a t.b t.s (.slice A t.args.length c)).toArray) (F := fun q => q = w.heap.size) hO1 ⟨rfl, rfl, rfl, by simp [World.setRow], fun q _ hq => hsetRow_off hq _⟩ (fun q hq hf => by have h1 := (hO1.1.lt q hq).1; rw [hf] at h1; exact Nat.lt_irrefl _ (Nat.lt_of_lt_of_le hlt1 h1))) (Nat.le_of_lt hlt1))
  clear hb2 hS1 hB3 z1 hr z3 n1 cPh hO1
  go_wp2_with (first
    | (refine wpList_load_at 89 _ rfl rfl w2.heap.size 0 rfl (rnC t.kind t.a t.b t.s (.slice A t.args.length c)) _ hr3.out Tryd.underlying89 rfl (rn_info (cs := (rnC t.kind t.a t.b t.s (.slice A t.args.length c)).toArray) rfl) ?_)
    | (refine wpList_store_at 89 _ _ rfl rfl w.heap.size (rnC t.kind t.a t.b t.s (.slice A t.args.length c)).toArray rfl rfl 89 rz z3h.out (rn_info rfl) rfl rn_all ?_))
  refine bodyPost_ret (results_cell_row rfl _ _ w.heap.size 89 (rnC t.kind t.a t.b t.s (.slice A t.args.length c)).toArray (0, 0) _ rfl (hsetRow _ _ _ _ _ _ z3h.out) Tryd.underlying89 rfl (rn_info rfl)) rfl ⟨A, c, rfl, hS3.out, hB4.out, hO3.out⟩
theorem rView_any (t : Tm) (hok : t.ok) (hl : t.enc.length ≤ 4000000000) (w : World) :
    Calls Tryd.prog 46 #[.string (bs t.enc)] w fun r w' => ∃ (A : Option Addr) (c : Nat), r = .returned (.agg (rnC t.kind t.a t.b t.s (.slice A t.args.length c)).toArray) ∧ Strs w' A t.args.length (t.args.map fun u => bs u.enc) ∧ Below w.heap.size w w' :=
  (rView_own t hok hl w).mono fun _ _ ⟨A, c, h1, h2, h3, _⟩ => ⟨A, c, h1, h2, h3⟩
theorem pub22_any (p : Int) (w : World) : Calls Tryd.prog 18 #[.int .i64 p] w (TxR w (encO (pubT (keyT p)))) := by
  have hkl : (encO (keyT p)).length ≤ 4000000000 := by
    by_cases h : numOk p
    · obtain ⟨i, rfl⟩ := Int.eq_ofNat_of_zero_le h.1
      unfold numOk at h
      rw [encO_keyT (by omega)]
      simp [u32_len]
    · have e : keyT p = none := by unfold keyT; rw [if_neg h]
      rw [e]; simp [encO]
  have cK := fun W => rKey_any p W
  have cP := fun W => rPub_any (keyT p) (keyT_ok p) hkl W
  unfold TxR at cK cP ⊢
  have cK := Lib.hid cK
  have cP := Lib.hid cP
  clear hkl
  go_enter Tryd.func18, Tryd.ntmps18
  go_wp2_with (first
    | (go_at_call 33; refine (cK.out _).mono ?_; rintro r w1 ⟨rfl, hb1⟩)
    | (go_at_call 32; refine (cP.out _).mono ?_; rintro r w2 ⟨rfl, hb2⟩))
  go_ret
  exact ⟨rfl, hb1.trans (hb2.mono hb1.size)⟩
end

section
open Go.RowKit Go.Maps

def bv (b : Bool) : List Value := [.bool b]
def cntG (lim : Nat) : List Bool → Nat
  | [] => 0
  | b :: r => cntG lim r + 0 * b.toNat
theorem gr_built : Tryd.prog.built 30 [(0, .string ⟨#[97, 110, 110]⟩), (1, .int .i64 1)] = some (grv (annS, 1)).toArray := by kernel_rfl
set_option maxRecDepth 100000 in
set_option maxHeartbeats 8000000 in
theorem denyCounts_any (lim : Nat) (L : List Bool) (Al : Option Addr) (n c : Nat) (w : World) (hl : lim ≤ 255) (hn : n ≤ 9223372036854775807) (H : Rws w 1 Al n (L.map bv)) :
    Calls Tryd.prog 3 #[.int .u8 lim, .slice Al n c] w fun r w' => r = .returned (.bool true) ∧ Below w.heap.size w w' := by
  have cA := Lib.hid (fun W => awake24_any W)
  have hAl := Lib.hid H
  clear H
  by_cases h1 : lim < 1
  · go_enter Tryd.func3, Tryd.ntmps3
    go_wp2_with (go_at_call 5; refine (cA.out _).mono ?_; rintro r w1 ⟨rfl, hb⟩)
    go_ret
    exact ⟨rfl, hb⟩
  by_cases h2 : 20 < lim
  · go_enter Tryd.func3, Tryd.ntmps3
    go_wp2_with (go_at_call 5; refine (cA.out _).mono ?_; rintro r w1 ⟨rfl, hb⟩)
    go_ret
    exact ⟨rfl, hb⟩
  by_cases h3 : 40 < n
  · go_enter Tryd.func3, Tryd.ntmps3
    go_wp2_with (go_at_call 5; refine (cA.out _).mono ?_; rintro r w1 ⟨rfl, hb⟩)
    go_ret
    exact ⟨rfl, hb⟩
  have hd : denyE [(annS, 1)] [sshS] (lim : Int) = 0 := by
    have := denyE_cnt ⟨lim - 1, by omega⟩
    simp only [show lim - 1 + 1 = lim by omega] at this
    exact this
  have hb1 := below_new w (.cells (grv (annS, 1)).toArray 30)
  have hb2 := hb1.trans (Below.mono (below_new (w.alloc (.cells (grv (annS, 1)).toArray 30)) (.cells #[.string ⟨#[115, 115, 104, 45, 97]⟩] 9)) hb1.size)
  have hG0 : Grs ((w.alloc (.cells (grv (annS, 1)).toArray 30)).alloc (.cells #[.string ⟨#[115, 115, 104, 45, 97]⟩] 9)) (some ⟨w.heap.size, 0, none⟩) 1 [(annS, 1)] :=
    Rws.keep (Rws.block (k := 2) (zs := [grv (annS, 1)]) (by simp [grv]) (heap_new w _) (by simp)) (below_new _ _)
  have hS0 : Strs ((w.alloc (.cells (grv (annS, 1)).toArray 30)).alloc (.cells #[.string ⟨#[115, 115, 104, 45, 97]⟩] 9)) (some ⟨w.heap.size + 1, 0, none⟩) 1 [sshS] := by
    have := Strs.block (ss := [sshS]) (w := (w.alloc (.cells (grv (annS, 1)).toArray 30)).alloc (.cells #[.string ⟨#[115, 115, 104, 45, 97]⟩] 9)) (by exact heap_new _ _) (Array.getElem?_eq_some_iff.1 (heap_new _ _)).1
    rw [show (w.alloc (.cells (grv (annS, 1)).toArray 30)).heap.size = w.heap.size + 1 by simp] at this
    exact this
  have cN := Lib.hid (Calls.mono (new_any [(annS, 1)] [sshS] lim (some ⟨w.heap.size, 0, none⟩) (some ⟨w.heap.size + 1, 0, none⟩) 1 1 1 1 _ (by decide) (by decide) (by decide) (by decide) (by decide) (by decide) hG0 (by decide +kernel) hS0 (by decide +kernel))
    (fun r w' h => (show ∃ g A n c B m d, r = .returned (.tuple #[.pointer (some ⟨g, 0, none⟩), .nilIface]) ∧ GateB w' g A B n c m d lim 0 ∧ Grs w' A n [(annS, 1)] ∧ Strs w' B m [sshS] ∧ _ ≤ g ∧ Below _ _ w' by unfold NewR at h; rwa [if_pos hd] at h)))
  have hb2 := Lib.hid hb2
  clear hb1 hG0 hS0 hd
  have hlim : 1 ≤ lim ∧ lim ≤ 20 := by omega
  go_enter Tryd.func3, Tryd.ntmps3
  go_upto_region 4 with (first
    | (go_at_call 6; refine cN.out.mono ?_; rintro r w3 ⟨g, Ag, ng, cg, Bg, mg, dg, rfl, hGate, hGr, hSs, hge, hb3⟩
       obtain rfl : 1 = ng := hGr.len
       obtain rfl : 1 = mg := hSs.len
       have hwg := Lib.hid (Nat.le_trans hb2.out.size hge)
       have hB3 := Lib.hid (hb2.out.trans (hb3.mono hb2.out.size))
       have cT := Lib.hid (tnew_any w3)
       have hGate := Lib.hid hGate
       have hGr := Lib.hid hGr
       have hSs := Lib.hid hSs
       clear hge hb3 cN hb2))
  go_upto_region 7 with (first
    | (go_at_call 7; refine cT.out.mono ?_; rintro r w4 ⟨A, rfl, hN, hA, hb⟩
       have hS0 := St.start hN hA hb
       have cK := Lib.hid (hS0.key (by decide) 1)
       clear hN hA hb cT hS0
       generalize A.g = ga at *))
  go_upto_region 8 with (first
    | (go_at_call 9; refine cK.out.mono ?_; rintro r w5 ⟨L1, x1, rfl, h1, hG, hM, -, -⟩
       rw [k1_eq] at hG hM
       have cP := h1.pub (by have := hG.len.2; simp at this; omega) x1
       rw [hM.1, p1_eq] at cP
       have cP := Lib.hid cP
       clear h1 hG hM cK)
    | (go_at_call 8; refine cP.out.mono ?_; rintro r w6 ⟨L2, x2, rfl, h2, -, hM2, -, -⟩
       have hx := Lib.hid hM2.1
       have hS6 := Lib.hid h2
       clear hM2 h2 cP))
  obtain ⟨A2, rfl, rfl, HA, hBA⟩ := hS6.out
  have hGate6 := hGate.out.keep hBA
  have hGr6 := hGr.out.keep hBA
  have hSs6 := hSs.out.keep hBA
  have hgl := hGate.out.lt
  have hB6 := Lib.hid (hB3.out.trans (hBA.mono hB3.out.size))
  have cHas := Lib.hid (fun wk (F : Nat) (hK : Keeps (fun b => b = g) w6 wk) (hG : GateB wk g Ag Bg 1 cg 1 dg lim F) => hasG_any A2 w3.heap.size wk (HA.keepF hK (fun b hb hf => by have := (HA.has_ge hb).1; omega) (fun b cur fr hb hf => (show Typ w6 b _ from ⟨_, _, hb⟩).ne (show Typ w6 b 56 by subst hf; exact ⟨_, _, hGate6⟩) (by decide) rfl)) x2 hx.out g Ag Bg cg dg lim F hG (Grs.keepG hGate6 hGr6 hK) (Strs.keepG hGate6 hSs6 hK))
  have cFl := Lib.hid (fun wk (F F' : Nat) (q : Bool) (h1 : F ≤ lim) (hf : min (F + 1) lim = F') (hq : decide (F' = lim) = q) (hG : GateB wk g Ag Bg 1 cg 1 dg lim F) => fail_step g Ag Bg 1 cg 1 dg lim F F' q wk hG (by omega) h1 hf hq)
  have cFs := Lib.hid (fun wk (F : Nat) (hG : GateB wk g Ag Bg 1 cg 1 dg lim F) => failures_any g Ag Bg 1 cg 1 dg lim F wk hG)
  have cFu := Lib.hid (fun wk (F : Nat) (hG : GateB wk g Ag Bg 1 cg 1 dg lim F) => full_any g Ag Bg 1 cg 1 dg lim F wk hG)
  have hGate6 := Lib.hid (show GateB w6 g Ag Bg 1 cg 1 dg lim ((0 : Nat) : Int) from hGate6)
  clear hGate hGr hSs hGr6 hSs6 hgl HA hBA hS6 hx hB3
  go_wp2_with fail
  go_loopw [9, 10] (fun f i wr => ∃ (j F : Nat), j ≤ n ∧ i = .int .i64 j ∧ f = .int .i64 F ∧ F ≤ lim ∧ Hid (GateB wr g Ag Bg 1 cg 1 dg lim F) ∧ Hid (Keeps (fun b => b = g) w6 wr)) (fun _ i _ => n - (intOf i).toNat)
  case atStart => exact ⟨0, 0, by omega, rfl, rfl, by omega, hGate6, Lib.hid (Keeps.refl _ _)⟩
  case round =>
    obtain ⟨j, F, hj, rfl, rfl, hF, hG, hK⟩ := hrel
    by_cases hlt : j < n
    · obtain ⟨bb, off, z, rfl, hbl, hz, _, hr⟩ := hAl.out.row hlt
      rw [List.getElem?_map] at hz
      cases hLj : L[j]? with
      | none => rw [hLj] at hz; cases hz
      | some b =>
        rw [hLj] at hz
        simp only [Option.map_some, Option.some.injEq] at hz
        subst hz
        have hc := hr 0 _ rfl
        rw [Nat.mul_one, Nat.add_zero] at hc
        have hc : wr.cell? ⟨bb, off + j, none⟩ = some (.bool b) := by
          rw [hK.out.cell (a := ⟨bb, off + j, none⟩) (Nat.lt_of_lt_of_le hbl hB6.out.size) (fun e => by have := hwg.out; simp only at e; omega), hB6.out.cell (p := ⟨bb, off + j, none⟩) hbl]
          exact hc
        clear hr hLj
        cases b with
        | true =>
          obtain ⟨F', hF'⟩ : ∃ F', min (F + 1) lim = F' := ⟨_, rfl⟩
          have hF1 : F' ≤ lim := by omega
          have hmin : min ((F : Int) + 1) (lim : Int) = (F' : Int) := by omega
          obtain ⟨q, hq⟩ : ∃ q, decide (F' = lim) = q := ⟨_, rfl⟩
          have hq1 : decide ((lim : Int) ≤ (F' : Int)) = q := by rw [← hq, Bool.eq_iff_iff, decide_eq_true_eq, decide_eq_true_eq]; omega
          have hq2 : decide ((F' : Int) = (lim : Int)) = q := by rw [← hq, Bool.eq_iff_iff, decide_eq_true_eq, decide_eq_true_eq]; omega
          have hq4 : ((F' : Int) == (lim : Int)) = q := by rw [← hq, Bool.eq_iff_iff, beq_iff_eq, decide_eq_true_eq]; omega
          have hq3 : decide (lim ≤ F') = q := by rw [← hq, Bool.eq_iff_iff, decide_eq_true_eq, decide_eq_true_eq]; omega
          have cF := Lib.hid (cFl.out wr F F' q hF hF' hq hG.out)
          clear hF' cFl
          go_wp2_with (first
            | (go_at_call 10; refine cF.out.mono ?_; rintro r w7 ⟨rfl, hG7, hK7⟩
               have hK8 := Lib.hid (hK.out.trans hK7)
               have cH := Lib.hid (cHas.out w7 F' hK8.out hG7)
               have hG7 := Lib.hid hG7
               clear hK7 cF)
            | (go_at_call 11; refine cH.out.mono ?_; rintro r w8 ⟨rfl, hb8⟩
               have hG8 := Lib.hid (hG7.out.keep hb8)
               have hK9 := Lib.hid (hK8.out.trans (Keeps.of_below hb8))
               have cS := Lib.hid (cFs.out w8 F' hG8.out)
               have cU := Lib.hid (cFu.out w8 F' hG8.out)
               clear hb8 cH)
            | (go_at_call 12; refine cS.out.mono ?_; rintro r w9 ⟨rfl, rfl⟩)
            | (go_at_call 13; refine cU.out.mono ?_; rintro r w10 ⟨rfl, q10, rfl⟩
               have hG10 := Lib.hid (hG8.out.keep (drewN_below q10))
               have hK10 := Lib.hid (hK9.out.trans (Keeps.of_below (drewN_below q10)))))
          go_roundw
          case rel => exact ⟨j + 1, F', by omega, by go_num, rfl, hF1, hG10, hK10⟩
          case measure => simp [intOf]; omega
        | false =>
          obtain ⟨F', rfl⟩ : ∃ F', F' = F := ⟨_, rfl⟩
          have hF1 : F' ≤ lim := hF
          obtain ⟨q, hq⟩ : ∃ q, decide (F' = lim) = q := ⟨_, rfl⟩
          have hq1 : decide ((lim : Int) ≤ (F' : Int)) = q := by rw [← hq, Bool.eq_iff_iff, decide_eq_true_eq, decide_eq_true_eq]; omega
          have hq2 : decide ((F' : Int) = (lim : Int)) = q := by rw [← hq, Bool.eq_iff_iff, decide_eq_true_eq, decide_eq_true_eq]; omega
          have hq4 : ((F' : Int) == (lim : Int)) = q := by rw [← hq, Bool.eq_iff_iff, beq_iff_eq, decide_eq_true_eq]; omega
          have hq3 : decide (lim ≤ F') = q := by rw [← hq, Bool.eq_iff_iff, decide_eq_true_eq, decide_eq_true_eq]; omega
          have cH := Lib.hid (cHas.out wr F' hK.out hG.out)
          obtain ⟨hK8, hG7⟩ := And.intro hK hG
          clear cFl
          go_wp2_with (first
            | (go_at_call 11; refine cH.out.mono ?_; rintro r w8 ⟨rfl, hb8⟩
               have hG8 := Lib.hid (hG7.out.keep hb8)
               have hK9 := Lib.hid (hK8.out.trans (Keeps.of_below hb8))
               have cS := Lib.hid (cFs.out w8 F' hG8.out)
               have cU := Lib.hid (cFu.out w8 F' hG8.out)
               clear hb8 cH)
            | (go_at_call 12; refine cS.out.mono ?_; rintro r w9 ⟨rfl, rfl⟩)
            | (go_at_call 13; refine cU.out.mono ?_; rintro r w10 ⟨rfl, q10, rfl⟩
               have hG10 := Lib.hid (hG8.out.keep (drewN_below q10))
               have hK10 := Lib.hid (hK9.out.trans (Keeps.of_below (drewN_below q10)))))
          go_roundw
          case rel => exact ⟨j + 1, F', by omega, by go_num, rfl, hF1, hG10, hK10⟩
          case measure => simp [intOf]; omega
    · have hB7 := Lib.hid ((Keeps.of_below hB6.out).trans hK.out)
      go_wp2_with (go_at_call 5; refine (cA.out _).mono ?_; rintro r w9 ⟨rfl, hb⟩)
      go_ret
      exact ⟨rfl, (hB7.out.below (fun k hk => by have := hwg.out; omega) (Nat.le_refl _)).trans (hb.mono hB7.out.size)⟩
end

section
open Go.RowKit Go.Maps

def kT (i : Nat) : Tm := .mk 3 i 0 [] []
def pT (i : Nat) : Tm := .mk 4 0 0 [] [kT i]
theorem kT_eq {i : Nat} (h : i ≤ 2147483647) : keyT i = some (kT i) := by
  unfold keyT
  rw [if_pos ⟨by omega, by omega⟩, Int.toNat_natCast]
  simp [mkO, alls, own, lens, kT]
theorem kT_ok {i : Nat} (h : i ≤ 2147483647) : (kT i).ok := keyT_ok i _ (kT_eq h)
theorem pT_eq {i : Nat} (h : i ≤ 2147483647) : pubT (some (kT i)) = some (pT i) := by
  have h5 : (kT i).len = 5 := key_enc (kT_ok h) rfl
  unfold pubT
  rw [if_pos (show kindO (some (kT i)) = 3 from rfl)]
  simp [mkO, alls, own, lens, pT, h5]
theorem pT_ok {i : Nat} (h : i ≤ 2147483647) : (pT i).ok := pubT_ok (o := some (kT i)) (fun t ht => by obtain rfl := Option.some.inj ht; exact kT_ok h) _ (pT_eq h)
theorem pT_enc {i : Nat} (h : i ≤ 2147483647) : (pT i).enc = [UInt8.ofNat (240 + 4)] ++ (kT i).enc := by
  have := encO_pubT (kT_ok h) rfl
  rw [pT_eq h] at this
  exact this
set_option maxRecDepth 100000 in
theorem owner22_some (i : Nat) (h : i ≤ 2147483647) (w : World) :
    Calls Tryd.prog 30 #[.string (bs (pT i).enc)] w fun r w' => r = .returned (.tuple #[.int .i64 i, .bool true]) ∧ Below w.heap.size w w' := by
  have h5 : (kT i).enc.length = 5 := key_enc (kT_ok h) rfl
  have cK : ∀ W, Calls Tryd.prog 45 #[.string (bs (pT i).enc)] W fun r w' => r = .returned (.int .i64 4) ∧ W = w' := fun W => rKind_any (some (pT i)) (fun t ht => by obtain rfl := Option.some.inj ht; exact pT_ok h) (by show (pT i).enc.length ≤ _; rw [pT_enc h]; simp; omega) W
  have cV : ∀ W, Calls Tryd.prog 46 #[.string (bs (kT i).enc)] W fun r w' => ∃ (A : Option Addr) (c : Nat), r = .returned (.agg #[.int .i64 3, .int .i64 i, .int .i64 0, .string ⟨#[]⟩, .slice A 0 c]) ∧ Below W.heap.size W w' := fun W => (rView_any (kT i) (kT_ok h) (by omega) W).mono (fun r w' ⟨A, c, h1, _, h3⟩ => ⟨A, c, h1, h3⟩)
  have hx : (bs (pT i).enc).extract 1 (bs (pT i).enc).size = bs (kT i).enc := by
    rw [bs_extract, bs_size, List.take_of_length_le (Nat.le_refl _), pT_enc h]
    rfl
  have hz : (bs (pT i).enc).size = 6 := by rw [bs_size, pT_enc h]; simp [h5]
  rw [hz] at hx
  generalize bs (pT i).enc = X at *
  generalize bs (kT i).enc = Y at *
  have cK := Lib.hid cK
  have cV := Lib.hid cV
  have hfl : ∀ (A : Option Addr) (c : Nat) (W : World), (Instr.field 89 (.agg #[.int .i64 3, .int .i64 (i : Int), .int .i64 0, .string ⟨#[]⟩, .slice A 0 c]) 1).run Tryd.prog W = .ok (.int .i64 (i : Int)) W := fun A c W => by kernel_rfl
  clear h5 h
  go_enter Tryd.func30, Tryd.ntmps30
  go_wp2_with (first
    | (go_at_call 45; refine (cK.out _).mono ?_; rintro r w1 ⟨rfl, rfl⟩)
    | (go_at_call 46; refine (cV.out _).mono ?_; rintro r w2 ⟨A, c, rfl, hb⟩))
  go_ret2
  exact ⟨rfl, hb⟩
theorem owner22_none (w : World) :
    Calls Tryd.prog 30 #[.string ⟨#[]⟩] w fun r w' => r = .returned (.tuple #[.int .i64 0, .bool false]) ∧ Below w.heap.size w w' := by
  have cK : ∀ W, Calls Tryd.prog 45 #[.string ⟨#[]⟩] W fun r w' => r = .returned (.int .i64 0) ∧ W = w' := fun W => rKind_any none okO_none (by simp [encO]) W
  have cK := Lib.hid cK
  go_enter Tryd.func30, Tryd.ntmps30
  go_wp2_with (go_at_call 45; refine (cK.out _).mono ?_; rintro r w1 ⟨rfl, rfl⟩)
  go_ret2
  exact ⟨rfl, Below.refl _ _⟩
end

section
open Go.RowKit Go.ChangeShapes Go.WideShapes Go.Deep

def grDs : List TypeDesc := [.string, .int .i64]
theorem gr_flat : flatDesc Tryd.prog 3 30 = some grDs := by kernel_rfl
theorem grs_of_rows : ∀ (zs : List (List Value)), (∀ z ∈ zs, allOk grDs z) → ∃ gs : List Gr, zs = gs.map grv ∧ ∀ x ∈ gs, x.1.size ≤ maxLen
  | [], _ => ⟨[], rfl, by simp⟩
  | z :: r, h => by
    obtain ⟨hl, hc⟩ := h z (by simp)
    match z, hl with
    | [c0, c1], _ =>
      obtain ⟨s, rfl, hs⟩ := hc 0 _ _ rfl rfl
      obtain ⟨n, rfl, _⟩ := hc 1 _ _ rfl rfl
      obtain ⟨gs, rfl, hgs⟩ := grs_of_rows r (fun y hy => h y (by simp [hy]))
      refine ⟨(s, n) :: gs, rfl, fun x hx => ?_⟩
      rcases List.mem_cons.1 hx with rfl | hx
      · exact hs
      · exact hgs x hx
theorem book_cells : Tryd.prog.cellsOf 42 = 3 := by kernel_rfl
theorem grsl_cells : Tryd.prog.cellsOf 31 = 1 := by kernel_rfl
theorem strsl_cells' : Tryd.prog.cellsOf 32 = 1 := by kernel_rfl
theorem int_cells' : Tryd.prog.cellsOf 3 = 1 := by kernel_rfl
theorem book_field (fs : Array Field) (hu : Tryd.prog.underlying 42 = some (.struct fs)) : (∃ f, fs[0]? = some f ∧ f.offset = 0 ∧ f.type = 31) ∧ (∃ f, fs[1]? = some f ∧ f.offset = 1 ∧ f.type = 32) ∧ (∃ f, fs[2]? = some f ∧ f.offset = 2 ∧ f.type = 3) := by
  have h := Tryd.underlying42
  rw [hu] at h
  injection h with h
  injection h with h
  subst h
  exact ⟨⟨_, rfl, rfl, rfl⟩, ⟨_, rfl, rfl, rfl⟩, ⟨_, rfl, rfl, rfl⟩⟩
set_option maxRecDepth 100000 in
theorem open_book {H : Type} {enc : TypeId × Value → H} {w : World} {base : Nat} {spare : Nat → Bool} {held : Bool} {r : Reach} {b0 : Nat} {v : Value} {d : DataW H} {ps : List MemPlace}
    (hv : Value.okWide Tryd.prog w r b0 42 v) (h : DataW.Trod enc Tryd.prog w base spare held 42 v d ps) :
    ∃ A n c B m e l gs ss, v = .agg #[.slice A n c, .slice B m e, .int .i64 l] ∧ n ≤ c ∧ c ≤ 9223372036854775807 ∧ m ≤ e ∧ e ≤ 9223372036854775807 ∧ Grs w A n gs ∧ (∀ x ∈ gs, x.1.size ≤ 9223372036854775807) ∧ Strs w B m ss ∧ ∀ s ∈ ss, s.size ≤ 9223372036854775807 := by
  obtain ⟨fs, hu⟩ : ∃ fs, Tryd.prog.underlying 42 = some (.struct fs) := ⟨_, Tryd.underlying42⟩
  obtain ⟨cs, rfl, hsz⟩ := okWide_struct hu hv
  rw [book_cells] at hsz
  obtain ⟨l⟩ := cs
  obtain ⟨v0, v1, v2, rfl⟩ : ∃ v0 v1 v2, l = [v0, v1, v2] := by
    match l, hsz with
    | [v0, v1, v2], _ => exact ⟨v0, v1, v2, rfl⟩
  obtain ⟨fuel, hf⟩ := h
  obtain ⟨xs, m0, _, _, hl, hxl, hfi⟩ := DataW.trod_struct hu hf
  obtain ⟨⟨f0, a0, b0', t0⟩, ⟨f1, a1, b1, t1⟩, ⟨f2, a2, b2, t2⟩⟩ := book_field fs hu
  have g0 := hfi 0 f0 a0
  have g1 := hfi 1 f1 a1
  have g2 := hfi 2 f2 a2
  obtain ⟨x0, e0⟩ : ∃ x, xs[0]? = some x := ⟨_, List.getElem?_eq_getElem (by rw [hxl]; exact (Array.getElem?_eq_some_iff.1 a0).1)⟩
  obtain ⟨x1, e1⟩ : ∃ x, xs[1]? = some x := ⟨_, List.getElem?_eq_getElem (by rw [hxl]; exact (Array.getElem?_eq_some_iff.1 a1).1)⟩
  obtain ⟨x2, e2⟩ : ∃ x, xs[2]? = some x := ⟨_, List.getElem?_eq_getElem (by rw [hxl]; exact (Array.getElem?_eq_some_iff.1 a2).1)⟩
  rw [b0', t0, grsl_cells, e0] at g0
  rw [b1, t1, strsl_cells', e1] at g1
  rw [b2, t2, int_cells', e2] at g2
  obtain ⟨A, n, c, zs, he, hl0, hm, hr, hok⟩ := open_rows Tryd.underlying31 gr_flat (by kernel_rfl) (by decide) g0
  obtain ⟨gs, rfl, hgs⟩ := grs_of_rows zs hok
  obtain ⟨B, m, e, ys, he1, hl1, hm1, hr1, hok1⟩ := open_rows Tryd.underlying32 str_flat (by kernel_rfl) (by decide) g1
  obtain ⟨ss, rfl, hss⟩ := strs_of_rows ys hok1
  obtain ⟨k, he2, _, _⟩ := DataW.trod_int Tryd.underlying3 g2
  simp [Value.cells] at he he1 he2
  subst he he1 he2
  unfold maxLen at hm hm1 hgs hss
  exact ⟨A, n, c, B, m, e, k, gs, ss, rfl, hl0, by omega, hl1, by omega, hr, fun x hx => by have := hgs x hx; omega, hr1, fun s hs => by have := hss s hs; omega⟩
end

section
open Go

/-- A frame, with some slots written. -/
def upd (us : List (Nat × Value)) (A : Array Value) : Array Value := us.foldl (fun A p => A.setIfInBounds p.1 p.2) A
theorem gd_eq {A : Array Value} {s : Nat} {v : Value} (h : s < A.size) : (A.setIfInBounds s v).getD s undef = v := by simp [Array.getD_eq_getD_getElem?, h]
theorem gd_ne {A : Array Value} {s r : Nat} {v : Value} (h : s ≠ r) : (A.setIfInBounds s v).getD r undef = A.getD r undef := by simp [Array.getD_eq_getD_getElem?, Array.getElem?_setIfInBounds, h]
theorem gd_out {A : Array Value} {s : Nat} (h : A.size ≤ s) : A.getD s undef = undef := by simp [Array.getD_eq_getD_getElem?, Array.getElem?_eq_none h]
theorem arr_ext {T U : Array Value} (hs : T.size = U.size) (h : ∀ s, T.getD s undef = U.getD s undef) : T = U := by
  refine Array.ext hs fun i h1 h2 => ?_
  have := h i
  simpa [Array.getD_eq_getD_getElem?, Array.getElem?_eq_getElem h1, Array.getElem?_eq_getElem h2] using this
theorem upd_eq {T : Array Value} : ∀ {us : List (Nat × Value)} {A : Array Value}, T.size = A.size → (∀ p ∈ us, T.getD p.1 undef = p.2) → (∀ s, s ∉ us.map Prod.fst → T.getD s undef = A.getD s undef) → T = upd us A
  | [], A, hs, _, h => arr_ext hs fun s => h s (by simp)
  | (s, v) :: r, A, hs, hv, h => by
    have h0 : T.getD s undef = v := hv (s, v) (by simp)
    refine upd_eq (us := r) (A := A.setIfInBounds s v) (by simpa using hs) (fun p hp => hv p (by simp [hp])) fun s' hs' => ?_
    by_cases e : s = s'
    · subst e
      rcases Nat.lt_or_ge s A.size with h1 | h1
      · rw [gd_eq h1, h0]
      · rw [gd_out (by omega), gd_out (by simpa using h1)]
    · rw [gd_ne e]
      exact h s' (by simp only [List.map_cons, List.mem_cons, not_or]; exact ⟨Ne.symm e, hs'⟩)
/-- No other operation writes this slot. -/
def uniq (ds : List (Option Nat)) (k s : Nat) : Bool := (List.range ds.length).all fun j => j == k || ds[j]? != some (some s)
theorem uniq_of {ds : List (Option Nat)} {k s j : Nat} (h : uniq ds k s = true) (hj : ds[j]? = some (some s)) : j = k := by
  unfold uniq at h
  have hl : j < ds.length := by
    rcases Nat.lt_or_ge j ds.length with h1 | h1
    · exact h1
    · rw [List.getElem?_eq_none h1] at hj; cases hj
  have := List.all_eq_true.1 h j (List.mem_range.2 hl)
  rw [hj] at this
  simpa using this
section
variable (T0 : Array Value) (ds : List (Option Nat)) (vs : List (Option Value)) (Wi : (Nat → Bool) → Array Value → World → Prop)
/-- What is known of the frame. -/
structure FW (L : Nat → Bool) (T : Array Value) : Prop where
  size : T.size = T0.size
  old : ∀ s, some s ∉ ds → T.getD s undef = T0.getD s undef
  val : ∀ k s u, L k = true → ds[k]? = some (some s) → vs[k]? = some (some u) → T.getD s undef = u
def IW (L : Nat → Bool) (ac : Act) (W : World) : Prop := ∃ T, ac = ⟨T, []⟩ ∧ FW T0 ds vs L T ∧ Wi L T W
end
section
variable {T0 : Array Value} {ds : List (Option Nat)} {vs : List (Option Value)} {Wi : (Nat → Bool) → Array Value → World → Prop} {L : Nat → Bool} {T : Array Value} {W' : World}
theorem FW.put (h : FW T0 ds vs L T) {k s : Nat} {v : Value} (hk : ds[k]? = some (some s)) (hu : uniq ds k s = true) {N : Nat} (hN : T0.size = N) (hs : s < N) (hv : ∀ u, vs[k]? = some (some u) → v = u) (hW : Wi (fun q => q == k || L q) (T.setIfInBounds s v) W') :
    IW T0 ds vs Wi (fun q => q == k || L q) ⟨T.setIfInBounds s v, []⟩ W' := by
  refine ⟨_, rfl, ⟨by simpa using h.size, fun r hr => ?_, fun j r u hl hj hv' => ?_⟩, hW⟩
  · have : s ≠ r := fun e => hr (by rw [← e]; exact List.mem_of_getElem? hk)
    rw [gd_ne this]
    exact h.old r hr
  · by_cases e : j = k
    · subst e
      rw [hk] at hj
      obtain rfl := Option.some.inj (Option.some.inj hj)
      rw [gd_eq (by rw [h.size, hN]; exact hs)]
      exact hv u hv'
    · have hne : s ≠ r := fun e' => e (uniq_of hu (by rw [e']; exact hj))
      rw [gd_ne hne]
      exact h.val j r u (by simpa [e] using hl) hj hv'
theorem FW.pass (h : FW T0 ds vs L T) {k : Nat} (hk : ds[k]? = some none) (hW : Wi (fun q => q == k || L q) T W') : IW T0 ds vs Wi (fun q => q == k || L q) ⟨T, []⟩ W' := by
  refine ⟨_, rfl, ⟨h.size, h.old, fun j r u hl hj hv' => h.val j r u ?_ hj hv'⟩, hW⟩
  by_cases e : j = k
  · subst e; rw [hk] at hj; cases hj
  · simpa [e] using hl
theorem FW.fin (h : FW T0 ds vs L T) (us : List (Nat × Value)) (keys : List Nat) (hkeys : us.map Prod.fst = keys) (hv : ∀ p ∈ us, T.getD p.1 undef = p.2) (hc : (ds.all fun x => match x with | none => true | some s => keys.contains s) = true) : T = upd us T0 := by
  refine upd_eq h.size hv fun s hs => h.old s fun hd => hs ?_
  have := List.all_eq_true.1 hc (some s) hd
  rw [hkeys]
  simpa using this
end
section
variable {P : Program} {ops : Array Oper} {Q : Exit → Act → World → Prop} {T0 : Array Value} {w : World}
/-- Which operations must have come up ahead of each. -/
def tbOk (ops : List Oper) (tb : List (List Nat)) : Bool := (List.range tb.length).all fun k => (tb.getD k []).all fun n => match ops[k]? with | some o => hasDep .any o n | none => false
theorem tb_of {ops : List Oper} {tb : List (List Nat)} (h : tbOk ops tb = true) {k n : Nat} (hn : n ∈ tb.getD k []) : ∃ o, ops[k]? = some o ∧ hasDep .any o n = true := by
  have hk : k < tb.length := by
    rcases Nat.lt_or_ge k tb.length with h1 | h1
    · exact h1
    · simp [List.getD_eq_getElem?_getD, List.getElem?_eq_none h1] at hn
  have := List.all_eq_true.1 (List.all_eq_true.1 h k (List.mem_range.2 hk)) n hn
  cases ho : ops[k]? with
  | none => rw [ho] at this; cases this
  | some o => rw [ho] at this; exact ⟨o, rfl, this⟩
theorem region_iw {id : Nat} (tb : List (List Nat)) (ds : List (Option Nat)) (vs : List (Option Value)) (Wi : (Nat → Bool) → Array Value → World → Prop) (hlen : vs.length = ops.size) (htb : tbOk ops.toList tb = true) (hm : P.follows .mixedOrders = true)
    (hlt : ∀ (i : Nat) (o : Oper), ops[i]? = some o → ∀ e ∈ o.after, Region.binds .any e = true → e.on < i)
    (hstep : ∀ T1, T1 = T0 → ∀ (L : Nat → Bool) (T : Array Value) (W : World) (i : Nat) (o : Oper), FW T1 ds vs L T → Wi L T W → (∀ k n, L k = true → n ∈ tb.getD k [] → L n = true) → ops.toList[i]? = some o → L i = false → (∀ e ∈ o.after, Region.binds .any e = true → L e.on = true) →
      ∀ K : Act → World → Prop, (∀ a' w', IW T1 ds vs Wi (fun j => j == i || L j) a' w' → K a' w') → if Region.wanted o (yielded ops T) = true then Oper.wp P o ⟨T, []⟩ W K Q else K ((⟨T, []⟩ : Act).put o.dst undef) W)
    (hdone : ∀ L T W, FW T0 ds vs L T → Wi L T W → (∀ i, i < ops.size → L i = true) → Q .normal ⟨T, []⟩ W)
    (hstart : Wi (fun j => (Array.replicate ops.size false).getD j true) T0 w.drew) : (Code.region id ops true).wp P Q ⟨T0, []⟩ w := by
  refine region_inv (md := .any) (fun L a W => IW T0 ds vs Wi L a W ∧ ∀ k n, k < ops.size → L k = true → n ∈ tb.getD k [] → L n = true) hlt ?_ ?_ rfl hm ⟨⟨T0, rfl, ⟨rfl, fun _ _ => rfl, fun k s u hl _ hv => ?_⟩, hstart⟩, fun k n hk hl _ => ?_⟩
  · rintro L a W i o ⟨⟨T, rfl, hF, hW⟩, hc⟩ ho hLi hd K hK
    have hio : i < ops.size := (Array.getElem?_eq_some_iff.1 ho).1
    have hcl : ∀ k n, L k = true → n ∈ tb.getD k [] → L n = true := fun k n hl hn => by
      obtain ⟨o', ho', _⟩ := tb_of htb hn
      have := (List.getElem?_eq_some_iff.1 ho').1
      exact hc k n (by simpa using this) hl hn
    refine hstep T0 rfl L T W i o hF hW hcl (by rw [Array.getElem?_toList]; exact ho) hLi hd K fun a' w' h => hK a' w' ⟨h, fun k n _ hl hn => ?_⟩
    by_cases e : k = i
    · subst e
      obtain ⟨o', ho', hd'⟩ := tb_of htb hn
      rw [Array.getElem?_toList, ho] at ho'
      obtain rfl := Option.some.inj ho'
      have := dep_of hd hd'
      simp [this]
    · have := hcl k n (by simpa [e] using hl) hn
      simp [this]
  · rintro L a W ⟨⟨T, rfl, hF, hW⟩, _⟩ hall
    exact hdone L T W hF hW hall
  · have hk : k < ops.size := by
      rw [← hlen]
      rcases Nat.lt_or_ge k vs.length with h1 | h1
      · exact h1
      · rw [List.getElem?_eq_none h1] at hv; cases hv
    rw [inv_none hk] at hl
    cases hl
  · have hl : (Array.replicate ops.size false).getD k true = true := hl
    rw [inv_none hk] at hl
    cases hl
/-! ### One operation -/
variable {o : Oper} {a : Act} {w' : World} {K : Act → World → Prop} {T : Array Value}
theorem st_val {v : Value} (hw : Region.wanted o (yielded ops T) = true) (hrun : (execOp (⟨T, []⟩ : Act).eval o).run P w = .ok (.value v) w') (h : K ((⟨T, []⟩ : Act).put o.dst v) w') :
    if Region.wanted o (yielded ops T) = true then Oper.wp P o ⟨T, []⟩ w K Q else K ((⟨T, []⟩ : Act).put o.dst undef) w := by
  rw [if_pos hw]
  unfold Oper.wp
  rw [hrun]
  exact h
theorem st_do (hw : Region.wanted o (yielded ops T) = true) (hrun : (execOp (⟨T, []⟩ : Act).eval o).run P w = .ok .skip w') (h : K ((⟨T, []⟩ : Act).put o.dst undef) w') :
    if Region.wanted o (yielded ops T) = true then Oper.wp P o ⟨T, []⟩ w K Q else K ((⟨T, []⟩ : Act).put o.dst undef) w := by
  rw [if_pos hw]
  unfold Oper.wp
  rw [hrun]
  exact h
theorem st_no (hw : Region.wanted o (yielded ops T) = false) (h : K ((⟨T, []⟩ : Act).put o.dst undef) w) :
    if Region.wanted o (yielded ops T) = true then Oper.wp P o ⟨T, []⟩ w K Q else K ((⟨T, []⟩ : Act).put o.dst undef) w := by
  rw [if_neg (by rw [hw]; decide)]
  exact h
theorem st_call {f : FuncId} {args : Array Value} {R : Ending → World → Prop} (hw : Region.wanted o (yielded ops T) = true) (hrun : (execOp (⟨T, []⟩ : Act).eval o).run P w = .ok (.enter f args) w') (hc : Calls P f args w' R)
    (h : ∀ r w2, R r w2 → ∃ v, r = .returned v ∧ K ((⟨T, []⟩ : Act).put o.dst v) w2) :
    if Region.wanted o (yielded ops T) = true then Oper.wp P o ⟨T, []⟩ w K Q else K ((⟨T, []⟩ : Act).put o.dst undef) w := by
  rw [if_pos hw]
  unfold Oper.wp
  rw [hrun]
  refine hc.mono fun r w2 hr => ?_
  obtain ⟨v, rfl, hk⟩ := h r w2 hr
  exact hk
theorem want_none (h : o.guard = none) : Region.wanted o (yielded ops T) = true := by unfold Region.wanted; rw [h]
theorem want_some {j s : Nat} {b b' : Bool} (h : o.guard = some (j, b)) (hd : (ops[j]?).bind (·.dst) = some s) (e : T.getD s undef = .bool b') : Region.wanted o (yielded ops T) = (b' == b) := by
  have hs : s < T.size := by
    rcases Nat.lt_or_ge s T.size with h1 | h1
    · exact h1
    · rw [gd_out h1] at e; cases e
  have e2 : T[s]? = some (.bool b') := by
    rw [Array.getElem?_eq_getElem hs]
    simpa [Array.getD_eq_getD_getElem?, Array.getElem?_eq_getElem hs] using e
  unfold Region.wanted
  rw [h]
  unfold yielded
  dsimp only
  rw [hd]
  simp only [Option.bind_some, e2]
  cases b' <;> cases b <;> rfl
end
end

section
open Go Go.RowKit

section
variable {P : Program} {ops : Array Oper} {Q : Exit → Act → World → Prop} {w : World} {o : Oper} {K : Act → World → Prop} {T : Array Value}
theorem st_append (hw : Region.wanted o (yielded ops T) = true) (s x : Operand) (t : TypeId)
    (ho : o.op = .call { callee := .builtin .append, args := #[s, x], argTypes := #[t, t] })
    (e : TypeId) (i : TypeInfo) (z : Value) (size bytes : Nat) (ht : P.underlying t = some (.slice e)) (hi : P.info? e = some i) (hz : i.zero = some z)
    (hsize : i.size = size) (hby : i.bytes = bytes) (hzs : z.cells.size = size) (hsz : 0 < size)
    (base : Nat) (hB : base ≤ w.heap.size) (v : Value) (zs : List (List Value)) (hs : (⟨T, []⟩ : Act).eval s = v) (hown : OwnR w base size e v zs)
    (g c : Nat) (row : List Value) (hx : (⟨T, []⟩ : Act).eval x = .slice (some ⟨g, 0, none⟩) 1 c) (hrow : w.rangeAt g 0 row) (hl : row.length = size) (h1 : ∀ u ∈ row, u.oneCell' = true)
    (h63 : zs.length + 1 ≤ maxLen) (hbytes : (zs.length + 1) * bytes ≤ 140737488355328)
    (h : ∀ v' w', OwnR w' base size e v' (zs ++ [row]) → w.grownBy w' v.ownBlock → (v'.ownBlock = v.ownBlock ∨ v'.ownBlock = some w.heap.size) → K ((⟨T, []⟩ : Act).put o.dst v') w') :
    if Region.wanted o (yielded ops T) = true then Oper.wp P o ⟨T, []⟩ w K Q else K ((⟨T, []⟩ : Act).put o.dst undef) w := by
  rw [if_pos hw]
  obtain ⟨v', w', hr, h2, h3, _, h5⟩ := run_append_own_at (P := P) (w := w) base t o.type e i z size bytes ht hi hz hsize hby hzs hsz v zs.length zs.flatten hown.1 ⟨g, 0, none⟩ 1 c row (by rw [hl, Nat.one_mul])
    (fun j u hu => by rw [Addr.add_mid]; exact hrow j u hu) h1 h63 hbytes hB
  unfold Oper.wp execOp
  simp only [ho, resolve, invoke, builtin, Sem.run_bind, Sem.run_pure, Result.andThen_ok, List.map_toArray, List.map_cons, List.map_nil, hs, hx, hr]
  refine h v' w' ⟨by simpa [List.length_append, List.flatten_append] using h2, fun z hz => ?_⟩ h3 h5
  rcases List.mem_append.1 hz with hz | hz
  · exact hown.2 z hz
  · simp only [List.mem_singleton] at hz
    subst hz
    exact hl
/-- 'var x T': a new block of zeros. -/
theorem run_alloc_ (ty : TypeId) (ho : o.op = .alloc ty) (cs : Array Value) (hz : (P.info? ty).bind (·.zero) = some (.agg cs)) : (execOp (⟨T, []⟩ : Act).eval o).run P w = .ok (.value (.pointer (some ⟨w.heap.size, 0, none⟩))) (w.alloc (.cells cs ty)) := by
  unfold execOp
  cases hq : P.info? ty with
  | none => simp [hq] at hz
  | some i =>
    have hzz : i.zero = some (.agg cs) := by simpa [hq] using hz
    simp [ho, Instr.alloc, zeroValue, typeInfo, hq, hzz, newVar, newRow, Value.cells]
/-- '*p = x', the block whole. -/
theorem run_store_ (ty : TypeId) (x y : Operand) (ho : o.op = .store ty x y) (g : Nat) (cells : Array Value) (hx : (⟨T, []⟩ : Act).eval x = .pointer (some ⟨g, 0, none⟩)) (hy : (⟨T, []⟩ : Act).eval y = .agg cells)
    (t : TypeId) (old : Array Value) (hg : w.heap[g]? = some (.cells old t (0, 0))) (hi : (P.info? ty).map (·.size) = some cells.size) (hold : old.size = cells.size) (h1 : cells.all (·.oneCell') = true) :
    (execOp (⟨T, []⟩ : Act).eval o).run P w = .ok .skip (w.setRow g cells) := by
  unfold execOp
  simp only [ho, hx, hy, Instr.storeAt, Instr.sureAddr, Sem.run_bind, Sem.run_pure, Result.andThen_ok, run_storeVar_row w g t ty old cells hg hi hold h1]
/-- 'x == y' at structs and arrays. -/
theorem run_eql_at_ (t t' : TypeId) (x y : Operand) (ho : o.op = .binOp .eql t x y t') (xs ys : Array Value) (hx : (⟨T, []⟩ : Act).eval x = .agg xs) (hy : (⟨T, []⟩ : Act).eval y = .agg ys)
    (hm : P.eqGuardType P.depth t = false) (q : Bool) (hq : (binOp .eql t (.agg xs) (.agg ys)).run P w = .ok (.bool q) w) : (execOp (⟨T, []⟩ : Act).eval o).run P w = .ok (.value (.bool q)) w := by
  unfold execOp
  simp only [ho, hx, hy, Sem.run_bind, run_eqGuard_agg w .eql t x y xs ys hm, Result.andThen_ok, hq, Sem.run_pure]
/-- 'x := *p', a struct or an array. -/
theorem run_load_ (ty : TypeId) (x : Operand) (ho : o.op = .load ty x) (b off : Nat) (hx : (⟨T, []⟩ : Act).eval x = .pointer (some ⟨b, off, none⟩)) (cs : List Value) (d : TypeDesc) (hc : w.rangeAt b off cs)
    (hu : P.underlying ty = some d) (hd : d.isRow = true) (hi : (P.info? ty).map (·.size) = some cs.length) : (execOp (⟨T, []⟩ : Act).eval o).run P w = .ok (.value (.agg cs.toArray)) w := by
  unfold execOp
  simp only [ho, hx, Instr.loadAt, Instr.sureAddr, Sem.run_bind, Sem.run_pure, Result.andThen_ok, run_loadVar_mid w b off ty cs d hc hu hd hi]
end
end

section
open Go.RowKit Go.Maps

theorem full_nil (w : World) : Calls Tryd.prog 13 #[.pointer none] w fun r w' => r = .returned (.bool true) ∧ Below w.heap.size w w' := by
  have hB := Lib.hid (fun q => drewN_below q (w := w))
  go_enter Tryd.func13, Tryd.ntmps13
  go_wp2_with fail
  go_quiet (fail)
  go_wp2_with fail
  go_ret
  exact ⟨rfl, hB.out _⟩
theorem fail_nil (w : World) : Calls Tryd.prog 10 #[.pointer none] w fun r w' => r = .returned (.bool true) ∧ Below w.heap.size w w' := by
  have cF := Lib.hid (fun W => full_nil W)
  have cF0 := Lib.hid (full_nil w)
  go_enter Tryd.func10, Tryd.ntmps10
  go_wp2_with (first
    | (go_at_call 13; (with_reducible refine cF0.out.mono ?_); rintro r w3 ⟨rfl, hb3⟩)
    | (go_at_call 13; (with_reducible refine (cF.out _).mono ?_); rintro r w4 ⟨rfl, hb4⟩))
  go_ret
  exact ⟨rfl, hb3.trans (hb4.mono hb3.size)⟩
theorem failures_nil (w : World) : Calls Tryd.prog 12 #[.pointer none] w fun r w' => r = .returned (.int .i64 0) ∧ w = w' := by
  go_enter Tryd.func12, Tryd.ntmps12
  go_wp2
  go_ret
  exact ⟨rfl, rfl⟩
theorem algs_nil (w : World) : Calls Tryd.prog 19 #[.pointer none] w fun r w' => r = .returned (.slice none 0 0) ∧ w = w' := by
  go_enter Tryd.func19, Tryd.ntmps19
  go_wp2
  go_ret
  exact ⟨rfl, rfl⟩
theorem St.noOwn {w0 : World} {g : Nat} {W : World} {L : List Tm} (h : St w0 g W L) (x : Int) (hk : kindO (get L x) ≠ 4) : NoOwn (.pointer (some ⟨g, 0, none⟩)) x W := by
  obtain ⟨A, rfl, rfl, H, _⟩ := h
  exact owner_no A _ W H x hk
theorem St.own {w0 : World} {g : Nat} {W : World} {L : List Tm} (h : St w0 g W L) (x : Int) (p : Nat) (hx : get L x = some (pT p)) : Calls Tryd.prog 26 #[.pointer (some ⟨g, 0, none⟩), .int .i64 x] W fun r w' => r = .returned (.tuple #[.int .i64 p, .bool true]) ∧ Below W.heap.size W w' := by
  obtain ⟨A, rfl, rfl, H, _⟩ := h
  exact owner_any A _ W H x p hx
/-- The public key of a number, if it may be. -/
theorem pub_of (who : Int) : (numOk who ∧ ∃ p : Nat, who = p ∧ p ≤ 2147483647 ∧ pubT (keyT who) = some (pT p)) ∨ (¬ numOk who ∧ pubT (keyT who) = none) := by
  by_cases h : numOk who
  · left
    obtain ⟨p, rfl⟩ := Int.eq_ofNat_of_zero_le h.1
    have hp : p ≤ 2147483647 := by have := h.2; omega
    exact ⟨h, p, rfl, hp, by rw [kT_eq hp, pT_eq hp]⟩
  · right
    refine ⟨h, ?_⟩
    have e : keyT who = none := by unfold keyT; rw [if_neg h]
    rw [e]; rfl
theorem kind_hash (o : Option Tm) : kindO (hashT o) ≠ 4 := by
  unfold hashT
  cases h : mkO 7 0 0 [] [o] with
  | none => decide
  | some t => obtain ⟨l, _, rfl, _⟩ := mkO_some h; show (7 : Nat) ≠ 4; decide
theorem kind_key (p : Int) : kindO (keyT p) ≠ 4 := by
  unfold keyT
  split
  · cases h : mkO 3 p.toNat 0 [] [] with
    | none => decide
    | some t => obtain ⟨l, _, rfl, _⟩ := mkO_some h; show (3 : Nat) ≠ 4; decide
  · decide
end
end Go.Proofs.YtifliohljcafgaaDoor
