/- The reference's Print. (printed by wip/gen_smm.py) -/
import Derived.Test.YtmicohmbmgbnkaaGreatDoorWb45
namespace Go.Proofs.YtmicohmbmgbnkaaGreatDoor
open Go Go.RowKit Go.Shelf
open Go.Lib (itoa)

def atR (m : Nat) (p : ByteArray) : ByteArray := spS [scriptS, bs (itoa ((m : Int) + 1)), p]
def RPrR (m n : Nat) (SL : List (Int × List PV × List Value)) (p : ByteArray) (W : World) (r : Ending) (w' : World) : Prop := (m = n → r = .returned (.tuple #[.string (bs (textX (SL.map lnT))), .agg erZ]) ∧ Below W.heap.size W w') ∧ (m < n → r = .returned (.tuple #[.string ⟨#[]⟩, .agg #[.int .i64 6, .string (atR m p)]]) ∧ Below W.heap.size W w')
theorem atR_eq {m : Nat} {p yd : ByteArray} (h : bs (itoa ((m : Int) + 1)) = yd) : atR m p = ((((⟨#[115, 99, 114, 105, 112, 116, 32]⟩ : ByteArray) ++ yd) ++ ⟨#[32]⟩) ++ spS [p]) := by
  unfold atR
  rw [h, spS_one]
  unfold spS
  simp only [List.foldl_cons, List.foldl_nil, ByteArray.append_assoc]
  rfl
theorem er_agg (y : ByteArray) : Tryz.prog.built 53 [(0, .int .i64 6), (1, .string y)] = some #[.int .i64 6, .string y] := by kernel_rfl
theorem wrap40 {i : Nat} (h : i ≤ 40) : IntKind.i64.wrap ((i : Int) + 1) = (i : Int) + 1 := by
  have : ∀ i : Fin 41, IntKind.i64.wrap ((i.1 : Int) + 1) = (i.1 : Int) + 1 := by decide +kernel
  exact this ⟨i, by omega⟩
theorem er_one6 (y : ByteArray) : (#[.int .i64 6, .string y] : Array Value).all (·.oneCell') = true := by simp [Value.oneCell']
structure RpI (V : World) (b p7 : Nat) (y z : ByteArray) (l12 : Bool) (W : World) : Prop where
  bl : Below V.heap.size V W
  rs : Row W p7 53 [.int .i64 6, .string y]
  re : Row W b 53 (if l12 = true then [.int .i64 6, .string z] else erL)
theorem RpI.grow {V : World} {b p7 : Nat} {y z : ByteArray} {l12 : Bool} {W W' : World} (h : RpI V b p7 y z l12 W) (hb : Below W.heap.size W W') : RpI V b p7 y z l12 W' := ⟨h.bl.trans (hb.mono h.bl.size), h.rs.keep hb, h.re.keep hb⟩
def dsRp : List (Option Nat) := [some 29, some 30, some 31, some 32, some 33, some 34, some 35, some 36, some 37, some 38, some 39, some 2, none]
def tbRp : List (List Nat) := [[], [0], [], [2], [3], [4], [5], [], [7], [6, 8], [1, 9], [4], [0, 1, 2, 3, 4, 5, 6, 7, 8, 9, 10, 11]]
def vsRp (bb : Nat) (p6 : Nat) (i : Nat) (yp : ByteArray) (yd : ByteArray) : List (Option Value) := [some (.pointer (some ⟨p6, 0, none⟩)), some (.int .i64 6), some (.int .i64 ↑i), some (.int .i64 (↑i + 1)), some (.string yd), some (.string ((⟨#[115, 99, 114, 105, 112, 116, 32]⟩ : ByteArray) ++ yd)), some (.string ((⟨#[115, 99, 114, 105, 112, 116, 32]⟩ : ByteArray) ++ yd ++ (⟨#[32]⟩ : ByteArray))), some (.pointer (some ⟨p6, 1, none⟩)), some (.string yp), some (.string ((⟨#[115, 99, 114, 105, 112, 116, 32]⟩ : ByteArray) ++ yd ++ (⟨#[32]⟩ : ByteArray) ++ yp)), some (.agg #[.int .i64 6, .string ((⟨#[115, 99, 114, 105, 112, 116, 32]⟩ : ByteArray) ++ yd ++ (⟨#[32]⟩ : ByteArray) ++ yp)]), some (.string ⟨#[]⟩), none]
set_option maxRecDepth 100000 in
set_option maxHeartbeats 8000000 in
theorem rprint_any (SL : List (Int × List PV × List Value)) (A : Option Addr) (n c : Nat) (V U0 : World) (H : Rws V 29 A n (SL.map fun s => s.2.2)) (hn40 : n ≤ 40) (m : Nat) (hmn : m ≤ n) (hg : ∀ (j : Nat) s, j < m → SL[j]? = some s → LnOk V s) (p : ByteArray) (hb : m < n → ∃ s, SL[m]? = some s ∧ LnBad V s p) (hVW : Below V.heap.size V U0) :
    Calls Tryz.prog 26 #[.slice A n c] U0 (RPrR m n SL p U0) := by
  have hnl : SL.length = n := by have := H.1; simpa using this
  have hlen : ∀ i, i ≤ m → (textX ((SL.take i).map lnT)).length ≤ 1080023800 := fun i hi => by
    have h1 := textX_len (M := 27000594) (l := (SL.take i).map lnT) fun x hx => by
      obtain ⟨s, hs, rfl⟩ := List.mem_map.1 hx
      obtain ⟨j, hj, e⟩ := List.getElem_of_mem hs
      rw [List.length_take] at hj
      exact (hg j s (by omega) (by rw [← e, List.getElem_take]; exact List.getElem?_eq_getElem (by omega))).len
    rw [List.length_map, List.length_take] at h1
    have h2 : min i SL.length * (27000594 + 1) ≤ 40 * (27000594 + 1) := Nat.mul_le_mul_right _ (by omega)
    omega
  have k1000 : ¬ (1000 : Int) < (n : Int) := by omega
  have hb0 : Hid ((⟨#[]⟩ : ByteArray) = bs (textX ((SL.take 0).map lnT))) := Lib.hid rfl
  have hB0 := Lib.hid (below_new U0 (.cells erZ 53))
  have hE0 : Hid (Row (U0.alloc (.cells erZ 53)) U0.heap.size 53 erL) := Lib.hid (heap_new U0 _)
  have hsnoc : Hid (∀ (i : Nat) x, SL[i]? = some x → textX ((SL.take (i + 1)).map lnT) = textX ((SL.take i).map lnT) ++ (lnT x ++ [10])) := Lib.hid fun i x hx => by rw [take_succ_of hx, List.map_append]; exact textX_snoc _ _
  have hall : Hid (textX ((SL.take n).map lnT) = textX (SL.map lnT)) := Lib.hid (by rw [List.take_of_length_le (by omega)])
  have hHk := Lib.hid H
  have hgk := Lib.hid hg
  have hbk := Lib.hid hb
  have hVk := Lib.hid hVW
  have hlk := Lib.hid hlen
  have hnk := Lib.hid hnl
  clear H hg hb hVW hlen hnl
  go_enter Tryz.func26, Tryz.ntmps26
  go_upto_region 3 with (refine wpList_alloc_row 53 rfl rfl erZ er_zero ?_)
  go_wp2_with fail
  generalize U0.alloc (.cells erZ 53) = W1 at *
  go_loopw [4, 5] (fun sv jv wr => ∃ (i : Nat) (y0 : ByteArray), i ≤ m ∧ jv = .int .i64 i ∧ sv = .string y0 ∧ Hid (y0 = bs (textX ((SL.take i).map lnT))) ∧ Hid (Row wr U0.heap.size 53 erL) ∧ Hid (Below U0.heap.size U0 wr)) (fun _ jv _ => n - (intOf jv).toNat)
  case atStart => exact ⟨0, _, Nat.zero_le _, rfl, rfl, hb0, hE0, hB0⟩
  case round =>
    clear hE0 hB0 hb0
    obtain ⟨i, y0, hi, rfl, rfl, hy0, hE, hB⟩ := hrel
    generalize wr = wv at *
    by_cases hlt : i < n
    · have hlt' : (i : Int) < (n : Int) := by omega
      have h0i : (0 : Int) ≤ (i : Int) := Int.natCast_nonneg _
      have hVB := hVk.out.trans (hB.out.mono hVk.out.size)
      obtain ⟨b2, off2, z2, rfl, hb2, hz2, hz29, hr2⟩ := Rws.row (hHk.out.keep hVB) hlt
      obtain ⟨x, hx, rfl⟩ := map_at hz2
      have i4 := st_in9 x.2.2 hz29
      have hV8 := Lib.hid hVB
      clear hz2 hVB
      by_cases him : i < m
      · have hL := hgk.out i x him hx
        have cL := Lib.hid (hL.q _ hV8.out)
        have hlx := hL.len
        have hsn := hsnoc.out i x hx
        have hli := hlk.out i hi
        have hyl : (bs (lnT x)).size ≤ 27000594 := by rw [bs_size]; exact hlx
        have htl : y0.size ≤ 1080023800 := by rw [hy0.out, bs_size]; exact hli
        have hte : Hid (y0 ++ bs (lnT x) ++ (⟨#[10]⟩ : ByteArray) = bs (textX ((SL.take (i + 1)).map lnT))) := Lib.hid (by rw [hy0.out, hsn, bs_app, bs_nl, List.append_assoc])
        have hq1 : ¬ 9223372036854775807 < y0.size + (bs (lnT x)).size := by omega
        have hq2 : ¬ 9223372036854775807 < y0.size + (bs (lnT x)).size + 1 := by omega
        generalize x.2.2 = cs at *
        generalize bs (lnT x) = yl at *
        clear hx hL hlx hli hsn hyl htl hy0
        go_upto_region 8 with (first
          | (refine wpList_load_at 44 _ rfl rfl b2 (off2 + i * 29) rfl cs _ hr2 Tryz.underlying44 rfl i4 ?_)
          | (go_at_call 20; (with_reducible refine cL.out.mono ?_); rintro r w5 ⟨rfl, hb5⟩
             have hB5 := hB.out.trans (hb5.mono hB.out.size)
             have hz5 := heap_new w5 (.cells erZ 53)
             have hE5 : Row ((w5.alloc (.cells erZ 53)).setRow w5.heap.size erL.toArray) w5.heap.size 53 erL := Row.setRow (show Row (w5.alloc (.cells erZ 53)) w5.heap.size 53 erL from heap_new w5 _) _
             have hb6 := below_setRow (below_new w5 (.cells erZ 53)) (Nat.le_refl _) erL.toArray
             have hB6 := Lib.hid (hB5.trans (hb6.mono hB5.size))
             have hE6 := Lib.hid (hE.out.keep (hb5.trans (hb6.mono hb5.size)))
             have hc6 := hE5.cell (off := 0) (v := .int .i64 0) rfl
             clear hb5 hb6 hB5)
          | (refine wpList_alloc_row 53 rfl rfl erZ er_zero ?_)
          | (refine wpList_store_at 53 _ _ rfl rfl w5.heap.size erL.toArray rfl rfl 53 erZ hz5 (by kernel_rfl) rfl (by decide +kernel) ?_))
        generalize (w5.alloc (.cells erZ 53)).setRow w5.heap.size erL.toArray = w6 at *
        generalize w5.heap.size = p6 at *
        clear hz5 hE5
        go_wp2_with fail
        go_roundw
        case rel => exact ⟨i + 1, _, by omega, by go_num, rfl, hte, hE6, hB6⟩
        case measure => simp [intOf]; omega
      · obtain rfl : i = m := by omega
        obtain ⟨s, hs, hbd⟩ := hbk.out hlt
        rw [hx] at hs
        injection hs with hs
        subst hs
        have cL := Lib.hid (hbd.q _ hV8.out)
        have cI := Lib.hid (fun W' => digits_any ((i : Int) + 1) (i64_small (by omega)) W')
        have hdl := itoa_len20 (i64_small (m := i) (by omega))
        obtain ⟨yd, hyd⟩ : ∃ yd, bs (itoa ((i : Int) + 1)) = yd := ⟨_, rfl⟩
        have hat := atR_eq (p := p) hyd
        have hds : yd.size ≤ 20 := by rw [← hyd, bs_size]; exact hdl
        have hps : (spS [p]).size ≤ 11 := by rw [spS_one, ByteArray.size_append]; have : (⟨#[32]⟩ : ByteArray).size = 1 := rfl; have := hbd.len; omega
        rw [hyd] at cI
        generalize spS [p] = yp at *
        have hq1 : ¬ 9223372036854775807 < 7 + yd.size := by omega
        have hq2 : 7 + yd.size ≤ 9223372036854775806 := by omega
        have hq3 : 7 + yd.size + 1 + yp.size ≤ 9223372036854775807 := by omega
        replace hq1 := Lib.hid hq1
        replace hq2 := Lib.hid hq2
        replace hq3 := Lib.hid hq3
        replace hat := Lib.hid hat
        generalize x.2.2 = cs at *
        clear hx hbd hdl hds hps hyd hsnoc hall hy0
        go_upto_region 9 with (first
          | (refine wpList_load_at 44 _ rfl rfl b2 (off2 + i * 29) rfl cs _ hr2 Tryz.underlying44 rfl i4 ?_)
          | (go_at_call 20; (with_reducible refine cL.out.mono ?_); rintro r w5 ⟨rfl, hb5⟩
             have hB5 := hB.out.trans (hb5.mono hB.out.size)
             have hz5 := heap_new w5 (.cells erZ 53)
             have hE5 : Row ((w5.alloc (.cells erZ 53)).setRow w5.heap.size [.int .i64 6, .string yp].toArray) w5.heap.size 53 [.int .i64 6, .string yp] := Row.setRow (show Row (w5.alloc (.cells erZ 53)) w5.heap.size 53 erL from heap_new w5 _) _
             have hb6 := below_setRow (below_new w5 (.cells erZ 53)) (Nat.le_refl _) [.int .i64 6, .string yp].toArray
             have hB6 := Lib.hid (hB5.trans (hb6.mono hB5.size))
             have hE6 := Lib.hid (hE.out.keep (hb5.trans (hb6.mono hb5.size)))
             have hc6 := hE5.cell (off := 0) (v := .int .i64 6) rfl
             have hbp9 : Hid (U0.heap.size < w5.heap.size) := Lib.hid (Nat.lt_of_lt_of_le hE.out.lt hb5.size)
             clear hb5 hb6 hB5)
          | (refine wpList_alloc_row 53 rfl rfl erZ er_zero ?_)
          | (refine wpList_store_at 53 _ _ rfl rfl w5.heap.size #[.int .i64 6, .string yp] rfl rfl 53 erZ hz5 (by kernel_rfl) rfl (by simp [Value.oneCell']) ?_))
        generalize (w5.alloc (.cells erZ 53)).setRow w5.heap.size [.int .i64 6, .string yp].toArray = w6 at *
        generalize w5.heap.size = p6 at *
        clear hz5
        have hp6 := hE5.lt
        have hbp : U0.heap.size < p6 := hbp9.out
        refine region_iw tbRp dsRp (vsRp (U0.heap.size) p6 i yp yd) (fun L T W => RpI U0 U0.heap.size p6 yp ((⟨#[115, 99, 114, 105, 112, 116, 32]⟩ : ByteArray) ++ yd ++ (⟨#[32]⟩ : ByteArray) ++ yp) (L 12) W) rfl (by decide) (by kernel_rfl) ?hlt ?hstep ?hdone ?hstart
        case hstart => exact ⟨hB6.out.trans ((drewN_below 1).mono hB6.out.size), hE5.keep (drewN_below 1), (by show Row _ _ _ (if (Array.replicate 13 false).getD 12 true = true then _ else _); rw [if_neg (inv_not (n := 13) (i := 12) (by decide))]; exact hE6.out.keep (drewN_below 1))⟩
        case hlt =>
          intro ix o ho
          have hi := (Array.getElem?_eq_some_iff.1 ho).1
          match ix, hi with
          | 0, _ => obtain rfl := Option.some.inj ho; decide
          | 1, _ => obtain rfl := Option.some.inj ho; decide
          | 2, _ => obtain rfl := Option.some.inj ho; decide
          | 3, _ => obtain rfl := Option.some.inj ho; decide
          | 4, _ => obtain rfl := Option.some.inj ho; decide
          | 5, _ => obtain rfl := Option.some.inj ho; decide
          | 6, _ => obtain rfl := Option.some.inj ho; decide
          | 7, _ => obtain rfl := Option.some.inj ho; decide
          | 8, _ => obtain rfl := Option.some.inj ho; decide
          | 9, _ => obtain rfl := Option.some.inj ho; decide
          | 10, _ => obtain rfl := Option.some.inj ho; decide
          | 11, _ => obtain rfl := Option.some.inj ho; decide
          | 12, _ => obtain rfl := Option.some.inj ho; decide
        case hstep =>
          intro T1 hE L T W ix o hF hW hc ho hLi hd K hK
          have hN : T1.size = 46 := by rw [hE]; rfl
          have f3 : T.getD 3 undef = .pointer (some ⟨(U0.heap.size), 0, none⟩) := (hF.old 3 (by decide)).trans (by rw [hE]; rfl)
          have f5 : T.getD 5 undef = .int .i64 ↑i := (hF.old 5 (by decide)).trans (by rw [hE]; rfl)
          have f7 : T.getD 7 undef = .pointer (some ⟨p6, 0, none⟩) := (hF.old 7 (by decide)).trans (by rw [hE]; rfl)
          clear hE
          replace hF := Lib.hid hF
          replace hW := Lib.hid hW
          replace hK := Lib.hid hK
          have hi := (List.getElem?_eq_some_iff.1 ho).1
          match ix, hi with
          | 0, _ =>
            obtain rfl := Option.some.inj ho
            clear hd ho hi hc hLi
            exact st_val (v := .pointer (some ⟨p6, 0, none⟩)) (w' := W) (want_none rfl) (by unfold execOp; dsimp only [Act.eval]; simp only [f7]; go_simp) (hK.out _ _ (hF.out.putv (k := 0) (s := 29) rfl (by decide) hN (by decide) rfl hW.out))
          | 1, _ =>
            obtain rfl := Option.some.inj ho
            have l0 : L 0 = true := dep_of hd (n := 0) (by decide)
            have e29 : T.getD 29 undef = .pointer (some ⟨p6, 0, none⟩) := hF.out.val 0 29 _ l0 rfl rfl
            have hcl := hW.out.rs.cell (off := 0) (v := .int .i64 6) rfl
            clear hd ho hi hc hLi
            exact st_val (v := .int .i64 6) (w' := W) (want_none rfl) (by unfold execOp; dsimp only [Act.eval]; simp only [e29]; go_simp) (hK.out _ _ (hF.out.putv (k := 1) (s := 30) rfl (by decide) hN (by decide) rfl hW.out))
          | 2, _ =>
            obtain rfl := Option.some.inj ho
            clear hd ho hi hc hLi
            exact st_val (v := .int .i64 ↑i) (w' := W) (want_none rfl) (by unfold execOp; dsimp only [Act.eval]; simp only [f5]; go_simp) (hK.out _ _ (hF.out.putv (k := 2) (s := 31) rfl (by decide) hN (by decide) rfl hW.out))
          | 3, _ =>
            obtain rfl := Option.some.inj ho
            have l2 : L 2 = true := dep_of hd (n := 2) (by decide)
            have e31 : T.getD 31 undef = .int .i64 ↑i := hF.out.val 2 31 _ l2 rfl rfl
            have hwr := wrap40 (i := i) (by omega)
            clear hd ho hi hc hLi
            exact st_val (v := .int .i64 (↑i + 1)) (w' := W) (want_none rfl) (by unfold execOp; dsimp only [Act.eval]; simp only [e31]; go_simp) (hK.out _ _ (hF.out.putv (k := 3) (s := 32) rfl (by decide) hN (by decide) rfl hW.out))
          | 4, _ =>
            obtain rfl := Option.some.inj ho
            have l3 : L 3 = true := dep_of hd (n := 3) (by decide)
            have e32 : T.getD 32 undef = .int .i64 (↑i + 1) := hF.out.val 3 32 _ l3 rfl rfl
            have cc := Lib.hid (cI.out W)
            clear hd ho hi hc hLi
            refine st_call (want_none rfl) (by unfold execOp; simp only [Act.eval, e32]; go_simp) cc.out ?_
            rintro r w9 ⟨rfl, hb⟩
            exact ⟨_, rfl, hK.out _ _ (hF.out.putv (k := 4) (s := 33) rfl (by decide) hN (by decide) rfl (hW.out.grow hb))⟩
          | 5, _ =>
            obtain rfl := Option.some.inj ho
            have l4 : L 4 = true := dep_of hd (n := 4) (by decide)
            have e33 : T.getD 33 undef = .string yd := hF.out.val 4 33 _ l4 rfl rfl
            have hqk := hq1.out
            clear hd ho hi hc hLi
            exact st_val (v := .string ((⟨#[115, 99, 114, 105, 112, 116, 32]⟩ : ByteArray) ++ yd)) (w' := W) (want_none rfl) (by unfold execOp; dsimp only [Act.eval]; simp only [e33]; go_simp) (hK.out _ _ (hF.out.putv (k := 5) (s := 34) rfl (by decide) hN (by decide) rfl hW.out))
          | 6, _ =>
            obtain rfl := Option.some.inj ho
            have l5 : L 5 = true := dep_of hd (n := 5) (by decide)
            have e34 : T.getD 34 undef = .string ((⟨#[115, 99, 114, 105, 112, 116, 32]⟩ : ByteArray) ++ yd) := hF.out.val 5 34 _ l5 rfl rfl
            have hqk := hq2.out
            clear hd ho hi hc hLi
            exact st_val (v := .string ((⟨#[115, 99, 114, 105, 112, 116, 32]⟩ : ByteArray) ++ yd ++ (⟨#[32]⟩ : ByteArray))) (w' := W) (want_none rfl) (by unfold execOp; dsimp only [Act.eval]; simp only [e34]; go_simp) (hK.out _ _ (hF.out.putv (k := 6) (s := 35) rfl (by decide) hN (by decide) rfl hW.out))
          | 7, _ =>
            obtain rfl := Option.some.inj ho
            clear hd ho hi hc hLi
            exact st_val (v := .pointer (some ⟨p6, 1, none⟩)) (w' := W) (want_none rfl) (by unfold execOp; dsimp only [Act.eval]; simp only [f7]; go_simp) (hK.out _ _ (hF.out.putv (k := 7) (s := 36) rfl (by decide) hN (by decide) rfl hW.out))
          | 8, _ =>
            obtain rfl := Option.some.inj ho
            have l7 : L 7 = true := dep_of hd (n := 7) (by decide)
            have e36 : T.getD 36 undef = .pointer (some ⟨p6, 1, none⟩) := hF.out.val 7 36 _ l7 rfl rfl
            have hcl := hW.out.rs.cell (off := 1) (v := .string yp) rfl
            clear hd ho hi hc hLi
            exact st_val (v := .string yp) (w' := W) (want_none rfl) (by unfold execOp; dsimp only [Act.eval]; simp only [e36]; go_simp) (hK.out _ _ (hF.out.putv (k := 8) (s := 37) rfl (by decide) hN (by decide) rfl hW.out))
          | 9, _ =>
            obtain rfl := Option.some.inj ho
            have l6 : L 6 = true := dep_of hd (n := 6) (by decide)
            have e35 : T.getD 35 undef = .string ((⟨#[115, 99, 114, 105, 112, 116, 32]⟩ : ByteArray) ++ yd ++ (⟨#[32]⟩ : ByteArray)) := hF.out.val 6 35 _ l6 rfl rfl
            have l8 : L 8 = true := dep_of hd (n := 8) (by decide)
            have e37 : T.getD 37 undef = .string yp := hF.out.val 8 37 _ l8 rfl rfl
            have hqk := hq3.out
            clear hd ho hi hc hLi
            exact st_val (v := .string ((⟨#[115, 99, 114, 105, 112, 116, 32]⟩ : ByteArray) ++ yd ++ (⟨#[32]⟩ : ByteArray) ++ yp)) (w' := W) (want_none rfl) (by unfold execOp; dsimp only [Act.eval]; simp only [e35, e37]; go_simp) (hK.out _ _ (hF.out.putv (k := 9) (s := 38) rfl (by decide) hN (by decide) rfl hW.out))
          | 10, _ =>
            obtain rfl := Option.some.inj ho
            have l1 : L 1 = true := dep_of hd (n := 1) (by decide)
            have e30 : T.getD 30 undef = .int .i64 6 := hF.out.val 1 30 _ l1 rfl rfl
            have l9 : L 9 = true := dep_of hd (n := 9) (by decide)
            have e38 : T.getD 38 undef = .string ((⟨#[115, 99, 114, 105, 112, 116, 32]⟩ : ByteArray) ++ yd ++ (⟨#[32]⟩ : ByteArray) ++ yp) := hF.out.val 9 38 _ l9 rfl rfl
            clear hd ho hi hc hLi
            exact st_val (v := .agg #[.int .i64 6, .string ((⟨#[115, 99, 114, 105, 112, 116, 32]⟩ : ByteArray) ++ yd ++ (⟨#[32]⟩ : ByteArray) ++ yp)]) (w' := W) (want_none rfl) (by unfold execOp; simp only [List.map_toArray, List.map_cons, List.map_nil, Act.eval, e30, e38, Sem.run_bind, run_build (P := Tryz.prog) W _ _ _ (er_agg _), Result.andThen_ok, Sem.run_pure]) (hK.out _ _ (hF.out.putv (k := 10) (s := 39) rfl (by decide) hN (by decide) rfl hW.out))
          | 11, _ =>
            obtain rfl := Option.some.inj ho
            clear hd ho hi hc hLi
            exact st_val (v := .string ⟨#[]⟩) (w' := W) (want_none rfl) (by unfold execOp; dsimp only [Act.eval]; go_simp) (hK.out _ _ (hF.out.putv (k := 11) (s := 2) rfl (by decide) hN (by decide) rfl hW.out))
          | 12, _ =>
            obtain rfl := Option.some.inj ho
            have l10 : L 10 = true := dep_of hd (n := 10) (by decide)
            have e39 : T.getD 39 undef = .agg #[.int .i64 6, .string ((⟨#[115, 99, 114, 105, 112, 116, 32]⟩ : ByteArray) ++ yd ++ (⟨#[32]⟩ : ByteArray) ++ yp)] := hF.out.val 10 39 _ l10 rfl rfl
            have hre := hW.out.re
            rw [hLi] at hre
            clear hd ho hi hc
            exact st_do (w' := W.setRow U0.heap.size #[.int .i64 6, .string ((⟨#[115, 99, 114, 105, 112, 116, 32]⟩ : ByteArray) ++ yd ++ (⟨#[32]⟩ : ByteArray) ++ yp)]) (want_none rfl) (run_store_ 53 (.tmp 3) (.tmp 39) rfl U0.heap.size _ (show T.getD 3 undef = _ from f3) (show T.getD 39 undef = _ from e39) _ _ hre (by kernel_rfl) rfl (er_one6 _)) (hK.out _ _ (hF.out.pass (k := 12) rfl ⟨below_setRow hW.out.bl (Nat.le_refl _) _, hW.out.rs.setRow_other (by omega) _, hre.setRow _⟩))
        case hdone =>
          intro L T W2 hF hW hall
          have q2 := hW.re
          rw [hall 12 (by decide), if_pos rfl] at q2
          have hB19 := hW.bl
          clear hW
          have hT : T = #[.slice (some ⟨b2, off2, none⟩) n c, undef, .string ⟨#[]⟩, .pointer (some ⟨(U0.heap.size), 0, none⟩), .string y0, .int .i64 ↑i, .string ⟨#[]⟩, .pointer (some ⟨p6, 0, none⟩), .slice (some ⟨b2, off2, none⟩) n c, .int .i64 ↑n, .bool false, undef, .int .i64 ↑i, .slice (some ⟨b2, off2, none⟩) n c, .int .i64 ↑n, .bool true, u16, u17, .tuple #[.string ⟨#[]⟩, .agg #[.int .i64 6, .string yp]], .slice (some ⟨b2, off2, none⟩) n c, .int .i64 ↑i, .pointer (some ⟨b2, off2 + i * 29, none⟩), .agg cs.toArray, .tuple #[.string ⟨#[]⟩, .agg #[.int .i64 6, .string yp]], .string ⟨#[]⟩, .agg #[.int .i64 6, .string yp], .pointer (some ⟨p6, 0, none⟩), .int .i64 6, .bool true, .pointer (some ⟨p6, 0, none⟩), .int .i64 6, .int .i64 ↑i, .int .i64 (↑i + 1), .string yd, .string ((⟨#[115, 99, 114, 105, 112, 116, 32]⟩ : ByteArray) ++ yd), .string ((⟨#[115, 99, 114, 105, 112, 116, 32]⟩ : ByteArray) ++ yd ++ (⟨#[32]⟩ : ByteArray)), .pointer (some ⟨p6, 1, none⟩), .string yp, .string ((⟨#[115, 99, 114, 105, 112, 116, 32]⟩ : ByteArray) ++ yd ++ (⟨#[32]⟩ : ByteArray) ++ yp), .agg #[.int .i64 6, .string ((⟨#[115, 99, 114, 105, 112, 116, 32]⟩ : ByteArray) ++ yd ++ (⟨#[32]⟩ : ByteArray) ++ yp)], u40, u41, u42, u43, undef, undef] := (hF.fin [(29, .pointer (some ⟨p6, 0, none⟩)), (30, .int .i64 6), (31, .int .i64 ↑i), (32, .int .i64 (↑i + 1)), (33, .string yd), (34, .string ((⟨#[115, 99, 114, 105, 112, 116, 32]⟩ : ByteArray) ++ yd)), (35, .string ((⟨#[115, 99, 114, 105, 112, 116, 32]⟩ : ByteArray) ++ yd ++ (⟨#[32]⟩ : ByteArray))), (36, .pointer (some ⟨p6, 1, none⟩)), (37, .string yp), (38, .string ((⟨#[115, 99, 114, 105, 112, 116, 32]⟩ : ByteArray) ++ yd ++ (⟨#[32]⟩ : ByteArray) ++ yp)), (39, .agg #[.int .i64 6, .string ((⟨#[115, 99, 114, 105, 112, 116, 32]⟩ : ByteArray) ++ yd ++ (⟨#[32]⟩ : ByteArray) ++ yp)]), (2, .string ⟨#[]⟩)] [29, 30, 31, 32, 33, 34, 35, 36, 37, 38, 39, 2] rfl (List.forall_mem_cons.2 ⟨hF.val 0 _ _ (hall 0 (show 0 < 13 by decide)) rfl rfl, (List.forall_mem_cons.2 ⟨hF.val 1 _ _ (hall 1 (show 1 < 13 by decide)) rfl rfl, (List.forall_mem_cons.2 ⟨hF.val 2 _ _ (hall 2 (show 2 < 13 by decide)) rfl rfl, (List.forall_mem_cons.2 ⟨hF.val 3 _ _ (hall 3 (show 3 < 13 by decide)) rfl rfl, (List.forall_mem_cons.2 ⟨hF.val 4 _ _ (hall 4 (show 4 < 13 by decide)) rfl rfl, (List.forall_mem_cons.2 ⟨hF.val 5 _ _ (hall 5 (show 5 < 13 by decide)) rfl rfl, (List.forall_mem_cons.2 ⟨hF.val 6 _ _ (hall 6 (show 6 < 13 by decide)) rfl rfl, (List.forall_mem_cons.2 ⟨hF.val 7 _ _ (hall 7 (show 7 < 13 by decide)) rfl rfl, (List.forall_mem_cons.2 ⟨hF.val 8 _ _ (hall 8 (show 8 < 13 by decide)) rfl rfl, (List.forall_mem_cons.2 ⟨hF.val 9 _ _ (hall 9 (show 9 < 13 by decide)) rfl rfl, (List.forall_mem_cons.2 ⟨hF.val 10 _ _ (hall 10 (show 10 < 13 by decide)) rfl rfl, (List.forall_mem_cons.2 ⟨hF.val 11 _ _ (hall 11 (show 11 < 13 by decide)) rfl rfl, (fun _ h => absurd h List.not_mem_nil)⟩)⟩)⟩)⟩)⟩)⟩)⟩)⟩)⟩)⟩)⟩)⟩) (by decide)).trans (by kernel_rfl)
          clear hF hall
          subst hT
          unfold Row at q2
          have hB9 := Lib.hid hB19
          have hat9 := hat.out
          go_wp2_with fail
          refine bodyPost_ret (results_tmp_cell rfl _ _ U0.heap.size 53 [.int .i64 6, .string ((⟨#[115, 99, 114, 105, 112, 116, 32]⟩ : ByteArray) ++ yd ++ (⟨#[32]⟩ : ByteArray) ++ yp)].toArray (0, 0) _ (.string ⟨#[]⟩) rfl q2 Tryz.underlying53 rfl (by kernel_rfl) rfl) rfl ⟨fun h => absurd h (by omega), fun _ => ⟨by rw [hat9], hB9.out⟩⟩
    · obtain rfl : i = n := by omega
      obtain rfl : m = i := by omega
      have hc := hE.out
      have hsr := below_setRow hB.out (Nat.le_refl _) erZ
      have hyf : y0 = bs (textX (SL.map lnT)) := by rw [hy0.out, hall.out]
      subst hyf
      unfold Row at hc
      go_wp2_with (first
        | (refine wpList_build_as 53 _ rfl rfl erZ (by kernel_rfl) ?_)
        | (refine wpList_store_at 53 _ _ rfl rfl U0.heap.size erZ rfl rfl 53 erL.toArray hc (by kernel_rfl) rfl (by decide +kernel) ?_))
      refine bodyPost_ret (results_tmp_cell rfl _ _ U0.heap.size 53 erZ (0, 0) _ (.string (bs (textX (SL.map lnT)))) rfl (hsetRow _ _ _ _ _ _ hc) Tryz.underlying53 rfl (by kernel_rfl) rfl) rfl ⟨fun _ => ⟨rfl, hsr⟩, fun h => absurd h (by omega)⟩
end Go.Proofs.YtmicohmbmgbnkaaGreatDoor
