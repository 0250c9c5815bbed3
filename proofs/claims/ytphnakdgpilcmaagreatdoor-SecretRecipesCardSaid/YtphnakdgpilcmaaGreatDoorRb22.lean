/- Recipes: each kind of step. (printed by wip/gen_rcd.py out of rcd_head.txt) -/
import Derived.Test.YtphnakdgpilcmaaGreatDoorRb21
namespace Go.Proofs.YtphnakdgpilcmaaGreatDoor
open Go.RowKit Go.Maps

/-- A step of a recipe, in a block of its own. -/
structure OpF (p : Nat) (W : World) (k a b c : Int) (s : List UInt8) : Prop where
  blk : W.heap[p]? = some (.cells (mkRow k a b c s).toArray 79 (0, 0))
theorem OpF.stay {p : Nat} {W W' : World} {k a b c : Int} {s : List UInt8} (h : OpF p W k a b c s) (hs : Stay W W') : OpF p W' k a b c s := ⟨hs _ _ _ _ h.blk (by decide) (by decide) (by decide)⟩
theorem OpF.cells {p : Nat} {W : World} {k a b c : Int} {s : List UInt8} (h : OpF p W k a b c s) :
    W.cell? ⟨p, 0, none⟩ = some (.int .i64 k) ∧ W.cell? ⟨p, 1, none⟩ = some (.int .i64 a) ∧ W.cell? ⟨p, 2, none⟩ = some (.int .i64 b) ∧ W.cell? ⟨p, 3, none⟩ = some (.int .i64 c) ∧ W.cell? ⟨p, 4, none⟩ = some (.string (bs s)) :=
  ⟨cell_of_row W p 0 _ _ _ h.blk, cell_of_row W p 1 _ _ _ h.blk, cell_of_row W p 2 _ _ _ h.blk, cell_of_row W p 3 _ _ _ h.blk, cell_of_row W p 4 _ _ _ h.blk⟩
/-- What all steps have at hand: the arena, the kitchen, what its numbers name. -/
structure KS (w0 : World) (g q : Nat) (W : World) (Lt : List Tm) (kA sA mA : Option Addr) (kn kc sn sc mn mc : Nat) (lk ls lm : List Int) (known sent made : List (Option Tm)) : Prop where
  st : St w0 g W Lt
  kf : KF g q W kA sA mA kn kc sn sc mn mc lk ls lm
  nk : NmL Lt lk known
  ns : NmL Lt ls sent
  nm : NmL Lt lm made
  hk : kn ≤ 1000
  hs : sn ≤ 1000
  hm : mn ≤ 1000
theorem KS.below {w0 : World} {g q : Nat} {W W' : World} {Lt : List Tm} {kA sA mA : Option Addr} {kn kc sn sc mn mc : Nat} {lk ls lm : List Int} {known sent made : List (Option Tm)} (h : KS w0 g q W Lt kA sA mA kn kc sn sc mn mc lk ls lm known sent made) (hb : Below W.heap.size W W') :
    KS w0 g q W' Lt kA sA mA kn kc sn sc mn mc lk ls lm known sent made := ⟨h.st.keep hb, h.kf.stay (Stay.of_below hb), h.nk, h.ns, h.nm, h.hk, h.hs, h.hm⟩
theorem op_box (W : World) (k a b c : Int) (s : List UInt8) : OpF W.heap.size (W.alloc (.cells (mkRow k a b c s).toArray 79)) k a b c s := ⟨heap_new W _⟩
section
variable {w0 : World} {g q : Nat} {W : World} {Lt : List Tm} {kA sA mA : Option Addr} {kn kc sn sc mn mc : Nat} {lk ls lm : List Int} {known sent made : List (Option Tm)}
end
def dsKd : List (Option Nat) := [some 8, some 9, some 10, some 11, some 12, some 13, some 14, some 15, some 16, some 17, some 18, some 19, some 20, some 21, some 22, some 23, some 24, some 25, some 26, some 27, some 28, some 29, some 30, some 31, some 32, some 33, some 34, some 35, some 36, some 4]
def tbKd : List (List Nat) := [[], [0], [1], [2], [], [4], [5], [], [7], [8], [9], [], [11], [10, 12], [], [14], [15], [16], [], [18], [17, 19], [], [21], [22], [23], [], [25], [24, 26], [3, 6, 13, 20, 27], [28]]
def vsKd (g : Nat) (q : Nat) (p : Nat) (kA : Option Addr) (sA : Option Addr) (mA : Option Addr) (kn : Nat) (kc : Nat) (sn : Nat) (sc : Nat) (mn : Nat) (mc : Nat) (k : Int) (a : Int) (b : Int) (c : Int) (y : ByteArray) (x1 : Int) (x2 : Int) (x3 : Int) (c0 : UInt8) : List (Option Value) := [some (.pointer (some ⟨q, 0, none⟩)), some (.pointer (some ⟨q, 0, none⟩)), some (.pointer (some ⟨q, 0, none⟩)), some (.pointer (some ⟨g, 0, none⟩)), some (.pointer (some ⟨p, 4, none⟩)), some (.string y), some (.int .u8 c0.toNat), some (.pointer (some ⟨q, 0, none⟩)), some (.pointer (some ⟨q, 0, none⟩)), some (.pointer (some ⟨q, 3, none⟩)), some (.slice mA mn mc), some (.pointer (some ⟨p, 1, none⟩)), some (.int .i64 a), some (.int .i64 x1), some (.pointer (some ⟨q, 0, none⟩)), some (.pointer (some ⟨q, 0, none⟩)), some (.pointer (some ⟨q, 3, none⟩)), some (.slice mA mn mc), some (.pointer (some ⟨p, 2, none⟩)), some (.int .i64 b), some (.int .i64 x2), some (.pointer (some ⟨q, 0, none⟩)), some (.pointer (some ⟨q, 0, none⟩)), some (.pointer (some ⟨q, 3, none⟩)), some (.slice mA mn mc), some (.pointer (some ⟨p, 3, none⟩)), some (.int .i64 c), some (.int .i64 x3), none, none]
set_option maxRecDepth 100000 in
set_option maxHeartbeats 4000000 in
theorem derives_any {w0 : World} {g q : Nat} {V : World} {Lt : List Tm} {kA sA mA : Option Addr} {kn kc sn sc mn mc : Nat} {lk ls lm : List Int} {known sent made : List (Option Tm)} (hK : KS w0 g q V Lt kA sA mA kn kc sn sc mn mc lk ls lm known sent made) (hL : Lt.length < 100) (k a b c : Int) (s : List UInt8) (hsl : s.length ≤ 4000000000) :
    Calls Tryz.prog 77 #[.pointer (some ⟨q, 0, none⟩), .agg (mkRow k a b c s).toArray] V (SR w0 g V Lt (if s = [] then none else deriveT (ltr s).toNat (pkO made a) (pkO made b) (pkO made c))) := by
  have hB1 := below_new V (.cells (mkRow k a b c s).toArray 79)
  have hK1 := hK.below hB1
  have hO1 := op_box V k a b c s
  cases s with
  | nil =>
    rw [if_pos rfl]
    have hR := Lib.hid (SR.none_ hK1.st hB1)
    have c4 := hO1.cells.2.2.2.2
    have e1 : (bs []).toList.isEmpty = true := by rw [bs_toList']; rfl
    clear hK1 hO1 hB1 hK
    unfold mkRow at *
    generalize bs [] = y at *
    go_enter Tryz.func77, Tryz.ntmps77
    go_wp2_with fail
    go_ret
    exact hR.out
  | cons c0 r =>
  rw [if_neg (by simp), show ltr (c0 :: r) = c0 from rfl]
  have hz := bs_size (c0 :: r)
  have hg : ∀ h, (bs (c0 :: r))[0]'h = c0 := fun _ => rfl
  have hp : 0 < (bs (c0 :: r)).size := by rw [hz]; simp
  have hp2 : (bs (c0 :: r)).size ≤ 4000000000 := by omega
  have hgh := Lib.hid (hg hp)
  have e1 : (bs (c0 :: r)).toList.isEmpty = false := by rw [bs_toList']; rfl
  have c4 := hO1.cells.2.2.2.2
  have hCl := Lib.hid (fun W' (h : Stay (V.alloc (.cells (mkRow k a b c (c0 :: r)).toArray 79)) W') => And.intro (hK1.kf.stay h).cells (hO1.stay h).cells)
  have hAtm := Lib.hid (fun W' (h : Stay (V.alloc (.cells (mkRow k a b c (c0 :: r)).toArray 79)) W') (i : Int) => rat_any (c := mc) i W' hK.hm (hK1.kf.stay h).m.ints)
  have cCall := Lib.hid (fun W' (h : Below (V.alloc (.cells (mkRow k a b c (c0 :: r)).toArray 79)).heap.size (V.alloc (.cells (mkRow k a b c (c0 :: r)).toArray 79)) W') => (hK1.st.keep h).derive2 hL c0.toNat (UInt8.toNat_lt _) (pkI lm a) (pkI lm b) (pkI lm c))
  rw [hK1.nm.pick, hK1.nm.pick, hK1.nm.pick] at cCall
  generalize deriveT c0.toNat (pkO made a) (pkO made b) (pkO made c) = res at *
  replace hB1 := Lib.hid hB1
  clear hK1 hO1 hK hz hg
  unfold mkRow at *
  generalize bs (c0 :: r) = y at *
  go_enter Tryz.func77, Tryz.ntmps77
  go_upto_region 3 with fail
  generalize (V.alloc (.cells [Value.int .i64 k, .int .i64 a, .int .i64 b, .int .i64 c, .string y].toArray 79)) = W1 at *
  clear c4
  refine region_iw tbKd dsKd (vsKd g q (V.heap.size) kA sA mA kn kc sn sc mn mc k a b c y (pkI lm a) (pkI lm b) (pkI lm c) c0) (fun L T W => Stay W1 W ∧ (L 28 = false → Below W1.heap.size W1 W) ∧ (L 28 = true → SR w0 g W1 Lt res (.returned (T.getD 36 undef)) W) ∧ (L 29 = true → L 28 = true ∧ T.getD 4 undef = T.getD 36 undef)) rfl (by decide) (by kernel_rfl) ?hlt ?hstep ?hdone ?hstart
  case hstart => exact ⟨Stay.of_below (drewN_below 1), fun _ => drewN_below 1, fun h => absurd h (inv_not (n := 30) (i := 28) (by decide)), fun h => absurd h (inv_not (n := 30) (i := 29) (by decide))⟩
  case hlt =>
    intro ix o ho
    have hi := (Array.getElem?_eq_some_iff.1 ho).1
    match ix, hi with
    | 0, _ => obtain rfl := Option.some.inj ho; decide
    | 1, _ => obtain rfl := Option.some.inj ho; decide
    | 2, _ => obtain rfl := Option.some.inj ho; decide
    | 3, _ => obtain rfl := Option.some.inj ho; decide
    | 4, _ => obtain rfl := Option.some.inj ho; decide
    | 5, _ => obtain rfl := Option.some.inj ho; decide
    | 6, _ => obtain rfl := Option.some.inj ho; decide
    | 7, _ => obtain rfl := Option.some.inj ho; decide
    | 8, _ => obtain rfl := Option.some.inj ho; decide
    | 9, _ => obtain rfl := Option.some.inj ho; decide
    | 10, _ => obtain rfl := Option.some.inj ho; decide
    | 11, _ => obtain rfl := Option.some.inj ho; decide
    | 12, _ => obtain rfl := Option.some.inj ho; decide
    | 13, _ => obtain rfl := Option.some.inj ho; decide
    | 14, _ => obtain rfl := Option.some.inj ho; decide
    | 15, _ => obtain rfl := Option.some.inj ho; decide
    | 16, _ => obtain rfl := Option.some.inj ho; decide
    | 17, _ => obtain rfl := Option.some.inj ho; decide
    | 18, _ => obtain rfl := Option.some.inj ho; decide
    | 19, _ => obtain rfl := Option.some.inj ho; decide
    | 20, _ => obtain rfl := Option.some.inj ho; decide
    | 21, _ => obtain rfl := Option.some.inj ho; decide
    | 22, _ => obtain rfl := Option.some.inj ho; decide
    | 23, _ => obtain rfl := Option.some.inj ho; decide
    | 24, _ => obtain rfl := Option.some.inj ho; decide
    | 25, _ => obtain rfl := Option.some.inj ho; decide
    | 26, _ => obtain rfl := Option.some.inj ho; decide
    | 27, _ => obtain rfl := Option.some.inj ho; decide
    | 28, _ => obtain rfl := Option.some.inj ho; decide
    | 29, _ => obtain rfl := Option.some.inj ho; decide
  case hstep =>
    intro T1 hE L T W ix o hF hW hc ho hLi hd K hK
    have hN : T1.size = 37 := by rw [hE]; rfl
    have f0 : T.getD 0 undef = .pointer (some ⟨q, 0, none⟩) := (hF.old 0 (by decide)).trans (by rw [hE]; rfl)
    have f3 : T.getD 3 undef = .pointer (some ⟨(V.heap.size), 0, none⟩) := (hF.old 3 (by decide)).trans (by rw [hE]; rfl)
    clear hE
    replace hF := Lib.hid hF
    replace hW := Lib.hid hW
    replace hK := Lib.hid hK
    have hi := (List.getElem?_eq_some_iff.1 ho).1
    match ix, hi with
    | 0, _ =>
      obtain rfl := Option.some.inj ho
      clear hd ho hi hc hLi
      exact st_val (v := .pointer (some ⟨q, 0, none⟩)) (w' := W) (want_none rfl) (by unfold execOp; dsimp only [Act.eval]; simp only [f0]; go_simp) (hK.out _ _ (hF.out.put (k := 0) (s := 8) rfl (by decide) hN (by decide) (fun u hu => Option.some.inj (Option.some.inj (show some (some (.pointer (some ⟨q, 0, none⟩))) = some (some u) from hu))) (by dsimp only; rw [gd_ne (show 8 ≠ 36 by decide), gd_ne (show 8 ≠ 4 by decide)]; exact hW.out)))
    | 1, _ =>
      obtain rfl := Option.some.inj ho
      have l0 : L 0 = true := dep_of hd (n := 0) (by decide)
      have e8 : T.getD 8 undef = .pointer (some ⟨q, 0, none⟩) := hF.out.val 0 8 _ l0 rfl rfl
      clear hd ho hi hc hLi
      exact st_val (v := .pointer (some ⟨q, 0, none⟩)) (w' := W) (want_none rfl) (by unfold execOp; dsimp only [Act.eval]; simp only [e8]; go_simp) (hK.out _ _ (hF.out.put (k := 1) (s := 9) rfl (by decide) hN (by decide) (fun u hu => Option.some.inj (Option.some.inj (show some (some (.pointer (some ⟨q, 0, none⟩))) = some (some u) from hu))) (by dsimp only; rw [gd_ne (show 9 ≠ 36 by decide), gd_ne (show 9 ≠ 4 by decide)]; exact hW.out)))
    | 2, _ =>
      obtain rfl := Option.some.inj ho
      have l1 : L 1 = true := dep_of hd (n := 1) (by decide)
      have e9 : T.getD 9 undef = .pointer (some ⟨q, 0, none⟩) := hF.out.val 1 9 _ l1 rfl rfl
      clear hd ho hi hc hLi
      exact st_val (v := .pointer (some ⟨q, 0, none⟩)) (w' := W) (want_none rfl) (by unfold execOp; dsimp only [Act.eval]; simp only [e9]; go_simp) (hK.out _ _ (hF.out.put (k := 2) (s := 10) rfl (by decide) hN (by decide) (fun u hu => Option.some.inj (Option.some.inj (show some (some (.pointer (some ⟨q, 0, none⟩))) = some (some u) from hu))) (by dsimp only; rw [gd_ne (show 10 ≠ 36 by decide), gd_ne (show 10 ≠ 4 by decide)]; exact hW.out)))
    | 3, _ =>
      obtain rfl := Option.some.inj ho
      have l2 : L 2 = true := dep_of hd (n := 2) (by decide)
      have e10 : T.getD 10 undef = .pointer (some ⟨q, 0, none⟩) := hF.out.val 2 10 _ l2 rfl rfl
      have hcc := (hCl.out W hW.out.1).1.1
      clear hd ho hi hc hLi
      exact st_val (v := .pointer (some ⟨g, 0, none⟩)) (w' := W) (want_none rfl) (by unfold execOp; dsimp only [Act.eval]; simp only [e10]; go_simp) (hK.out _ _ (hF.out.put (k := 3) (s := 11) rfl (by decide) hN (by decide) (fun u hu => Option.some.inj (Option.some.inj (show some (some (.pointer (some ⟨g, 0, none⟩))) = some (some u) from hu))) (by dsimp only; rw [gd_ne (show 11 ≠ 36 by decide), gd_ne (show 11 ≠ 4 by decide)]; exact hW.out)))
    | 4, _ =>
      obtain rfl := Option.some.inj ho
      clear hd ho hi hc hLi
      exact st_val (v := .pointer (some ⟨(V.heap.size), 4, none⟩)) (w' := W) (want_none rfl) (by unfold execOp; dsimp only [Act.eval]; simp only [f3]; go_simp) (hK.out _ _ (hF.out.put (k := 4) (s := 12) rfl (by decide) hN (by decide) (fun u hu => Option.some.inj (Option.some.inj (show some (some (.pointer (some ⟨(V.heap.size), 4, none⟩))) = some (some u) from hu))) (by dsimp only; rw [gd_ne (show 12 ≠ 36 by decide), gd_ne (show 12 ≠ 4 by decide)]; exact hW.out)))
    | 5, _ =>
      obtain rfl := Option.some.inj ho
      have l4 : L 4 = true := dep_of hd (n := 4) (by decide)
      have e12 : T.getD 12 undef = .pointer (some ⟨(V.heap.size), 4, none⟩) := hF.out.val 4 12 _ l4 rfl rfl
      have hcc := (hCl.out W hW.out.1).2.2.2.2.2
      clear hd ho hi hc hLi
      exact st_val (v := .string y) (w' := W) (want_none rfl) (by unfold execOp; dsimp only [Act.eval]; simp only [e12]; go_simp) (hK.out _ _ (hF.out.put (k := 5) (s := 13) rfl (by decide) hN (by decide) (fun u hu => Option.some.inj (Option.some.inj (show some (some (.string y)) = some (some u) from hu))) (by dsimp only; rw [gd_ne (show 13 ≠ 36 by decide), gd_ne (show 13 ≠ 4 by decide)]; exact hW.out)))
    | 6, _ =>
      obtain rfl := Option.some.inj ho
      have l5 : L 5 = true := dep_of hd (n := 5) (by decide)
      have e13 : T.getD 13 undef = .string y := hF.out.val 5 13 _ l5 rfl rfl
      have hg0 := hgh.out
      clear hd ho hi hc hLi
      exact st_val (v := .int .u8 c0.toNat) (w' := W) (want_none rfl) (by unfold execOp; dsimp only [Act.eval]; simp only [e13]; go_simp) (hK.out _ _ (hF.out.put (k := 6) (s := 14) rfl (by decide) hN (by decide) (fun u hu => Option.some.inj (Option.some.inj (show some (some (.int .u8 c0.toNat)) = some (some u) from hu))) (by dsimp only; rw [gd_ne (show 14 ≠ 36 by decide), gd_ne (show 14 ≠ 4 by decide)]; exact hW.out)))
    | 7, _ =>
      obtain rfl := Option.some.inj ho
      clear hd ho hi hc hLi
      exact st_val (v := .pointer (some ⟨q, 0, none⟩)) (w' := W) (want_none rfl) (by unfold execOp; dsimp only [Act.eval]; simp only [f0]; go_simp) (hK.out _ _ (hF.out.put (k := 7) (s := 15) rfl (by decide) hN (by decide) (fun u hu => Option.some.inj (Option.some.inj (show some (some (.pointer (some ⟨q, 0, none⟩))) = some (some u) from hu))) (by dsimp only; rw [gd_ne (show 15 ≠ 36 by decide), gd_ne (show 15 ≠ 4 by decide)]; exact hW.out)))
    | 8, _ =>
      obtain rfl := Option.some.inj ho
      have l7 : L 7 = true := dep_of hd (n := 7) (by decide)
      have e15 : T.getD 15 undef = .pointer (some ⟨q, 0, none⟩) := hF.out.val 7 15 _ l7 rfl rfl
      clear hd ho hi hc hLi
      exact st_val (v := .pointer (some ⟨q, 0, none⟩)) (w' := W) (want_none rfl) (by unfold execOp; dsimp only [Act.eval]; simp only [e15]; go_simp) (hK.out _ _ (hF.out.put (k := 8) (s := 16) rfl (by decide) hN (by decide) (fun u hu => Option.some.inj (Option.some.inj (show some (some (.pointer (some ⟨q, 0, none⟩))) = some (some u) from hu))) (by dsimp only; rw [gd_ne (show 16 ≠ 36 by decide), gd_ne (show 16 ≠ 4 by decide)]; exact hW.out)))
    | 9, _ =>
      obtain rfl := Option.some.inj ho
      have l8 : L 8 = true := dep_of hd (n := 8) (by decide)
      have e16 : T.getD 16 undef = .pointer (some ⟨q, 0, none⟩) := hF.out.val 8 16 _ l8 rfl rfl
      clear hd ho hi hc hLi
      exact st_val (v := .pointer (some ⟨q, 3, none⟩)) (w' := W) (want_none rfl) (by unfold execOp; dsimp only [Act.eval]; simp only [e16]; go_simp) (hK.out _ _ (hF.out.put (k := 9) (s := 17) rfl (by decide) hN (by decide) (fun u hu => Option.some.inj (Option.some.inj (show some (some (.pointer (some ⟨q, 3, none⟩))) = some (some u) from hu))) (by dsimp only; rw [gd_ne (show 17 ≠ 36 by decide), gd_ne (show 17 ≠ 4 by decide)]; exact hW.out)))
    | 10, _ =>
      obtain rfl := Option.some.inj ho
      have l9 : L 9 = true := dep_of hd (n := 9) (by decide)
      have e17 : T.getD 17 undef = .pointer (some ⟨q, 3, none⟩) := hF.out.val 9 17 _ l9 rfl rfl
      have hcc := (hCl.out W hW.out.1).1.2.2.2
      clear hd ho hi hc hLi
      exact st_val (v := .slice mA mn mc) (w' := W) (want_none rfl) (by unfold execOp; dsimp only [Act.eval]; simp only [e17]; go_simp) (hK.out _ _ (hF.out.put (k := 10) (s := 18) rfl (by decide) hN (by decide) (fun u hu => Option.some.inj (Option.some.inj (show some (some (.slice mA mn mc)) = some (some u) from hu))) (by dsimp only; rw [gd_ne (show 18 ≠ 36 by decide), gd_ne (show 18 ≠ 4 by decide)]; exact hW.out)))
    | 11, _ =>
      obtain rfl := Option.some.inj ho
      clear hd ho hi hc hLi
      exact st_val (v := .pointer (some ⟨(V.heap.size), 1, none⟩)) (w' := W) (want_none rfl) (by unfold execOp; dsimp only [Act.eval]; simp only [f3]; go_simp) (hK.out _ _ (hF.out.put (k := 11) (s := 19) rfl (by decide) hN (by decide) (fun u hu => Option.some.inj (Option.some.inj (show some (some (.pointer (some ⟨(V.heap.size), 1, none⟩))) = some (some u) from hu))) (by dsimp only; rw [gd_ne (show 19 ≠ 36 by decide), gd_ne (show 19 ≠ 4 by decide)]; exact hW.out)))
    | 12, _ =>
      obtain rfl := Option.some.inj ho
      have l11 : L 11 = true := dep_of hd (n := 11) (by decide)
      have e19 : T.getD 19 undef = .pointer (some ⟨(V.heap.size), 1, none⟩) := hF.out.val 11 19 _ l11 rfl rfl
      have hcc := (hCl.out W hW.out.1).2.2.1
      clear hd ho hi hc hLi
      exact st_val (v := .int .i64 a) (w' := W) (want_none rfl) (by unfold execOp; dsimp only [Act.eval]; simp only [e19]; go_simp) (hK.out _ _ (hF.out.put (k := 12) (s := 20) rfl (by decide) hN (by decide) (fun u hu => Option.some.inj (Option.some.inj (show some (some (.int .i64 a)) = some (some u) from hu))) (by dsimp only; rw [gd_ne (show 20 ≠ 36 by decide), gd_ne (show 20 ≠ 4 by decide)]; exact hW.out)))
    | 13, _ =>
      obtain rfl := Option.some.inj ho
      have l10 : L 10 = true := dep_of hd (n := 10) (by decide)
      have e18 : T.getD 18 undef = .slice mA mn mc := hF.out.val 10 18 _ l10 rfl rfl
      have l12 : L 12 = true := dep_of hd (n := 12) (by decide)
      have e20 : T.getD 20 undef = .int .i64 a := hF.out.val 12 20 _ l12 rfl rfl
      have cc := Lib.hid (hAtm.out W hW.out.1 a)
      clear hd ho hi hc hLi
      refine st_call (want_none rfl) (by unfold execOp; go_simp) cc.out ?_
      rintro r w3 ⟨rfl, rfl⟩
      exact ⟨_, rfl, hK.out _ _ (hF.out.put (k := 13) (s := 21) rfl (by decide) hN (by decide) (fun u hu => Option.some.inj (Option.some.inj (show some (some (.int .i64 (pkI lm a))) = some (some u) from hu))) (by dsimp only; rw [gd_ne (show 21 ≠ 36 by decide), gd_ne (show 21 ≠ 4 by decide)]; exact hW.out))⟩
    | 14, _ =>
      obtain rfl := Option.some.inj ho
      clear hd ho hi hc hLi
      exact st_val (v := .pointer (some ⟨q, 0, none⟩)) (w' := W) (want_none rfl) (by unfold execOp; dsimp only [Act.eval]; simp only [f0]; go_simp) (hK.out _ _ (hF.out.put (k := 14) (s := 22) rfl (by decide) hN (by decide) (fun u hu => Option.some.inj (Option.some.inj (show some (some (.pointer (some ⟨q, 0, none⟩))) = some (some u) from hu))) (by dsimp only; rw [gd_ne (show 22 ≠ 36 by decide), gd_ne (show 22 ≠ 4 by decide)]; exact hW.out)))
    | 15, _ =>
      obtain rfl := Option.some.inj ho
      have l14 : L 14 = true := dep_of hd (n := 14) (by decide)
      have e22 : T.getD 22 undef = .pointer (some ⟨q, 0, none⟩) := hF.out.val 14 22 _ l14 rfl rfl
      clear hd ho hi hc hLi
      exact st_val (v := .pointer (some ⟨q, 0, none⟩)) (w' := W) (want_none rfl) (by unfold execOp; dsimp only [Act.eval]; simp only [e22]; go_simp) (hK.out _ _ (hF.out.put (k := 15) (s := 23) rfl (by decide) hN (by decide) (fun u hu => Option.some.inj (Option.some.inj (show some (some (.pointer (some ⟨q, 0, none⟩))) = some (some u) from hu))) (by dsimp only; rw [gd_ne (show 23 ≠ 36 by decide), gd_ne (show 23 ≠ 4 by decide)]; exact hW.out)))
    | 16, _ =>
      obtain rfl := Option.some.inj ho
      have l15 : L 15 = true := dep_of hd (n := 15) (by decide)
      have e23 : T.getD 23 undef = .pointer (some ⟨q, 0, none⟩) := hF.out.val 15 23 _ l15 rfl rfl
      clear hd ho hi hc hLi
      exact st_val (v := .pointer (some ⟨q, 3, none⟩)) (w' := W) (want_none rfl) (by unfold execOp; dsimp only [Act.eval]; simp only [e23]; go_simp) (hK.out _ _ (hF.out.put (k := 16) (s := 24) rfl (by decide) hN (by decide) (fun u hu => Option.some.inj (Option.some.inj (show some (some (.pointer (some ⟨q, 3, none⟩))) = some (some u) from hu))) (by dsimp only; rw [gd_ne (show 24 ≠ 36 by decide), gd_ne (show 24 ≠ 4 by decide)]; exact hW.out)))
    | 17, _ =>
      obtain rfl := Option.some.inj ho
      have l16 : L 16 = true := dep_of hd (n := 16) (by decide)
      have e24 : T.getD 24 undef = .pointer (some ⟨q, 3, none⟩) := hF.out.val 16 24 _ l16 rfl rfl
      have hcc := (hCl.out W hW.out.1).1.2.2.2
      clear hd ho hi hc hLi
      exact st_val (v := .slice mA mn mc) (w' := W) (want_none rfl) (by unfold execOp; dsimp only [Act.eval]; simp only [e24]; go_simp) (hK.out _ _ (hF.out.put (k := 17) (s := 25) rfl (by decide) hN (by decide) (fun u hu => Option.some.inj (Option.some.inj (show some (some (.slice mA mn mc)) = some (some u) from hu))) (by dsimp only; rw [gd_ne (show 25 ≠ 36 by decide), gd_ne (show 25 ≠ 4 by decide)]; exact hW.out)))
    | 18, _ =>
      obtain rfl := Option.some.inj ho
      clear hd ho hi hc hLi
      exact st_val (v := .pointer (some ⟨(V.heap.size), 2, none⟩)) (w' := W) (want_none rfl) (by unfold execOp; dsimp only [Act.eval]; simp only [f3]; go_simp) (hK.out _ _ (hF.out.put (k := 18) (s := 26) rfl (by decide) hN (by decide) (fun u hu => Option.some.inj (Option.some.inj (show some (some (.pointer (some ⟨(V.heap.size), 2, none⟩))) = some (some u) from hu))) (by dsimp only; rw [gd_ne (show 26 ≠ 36 by decide), gd_ne (show 26 ≠ 4 by decide)]; exact hW.out)))
    | 19, _ =>
      obtain rfl := Option.some.inj ho
      have l18 : L 18 = true := dep_of hd (n := 18) (by decide)
      have e26 : T.getD 26 undef = .pointer (some ⟨(V.heap.size), 2, none⟩) := hF.out.val 18 26 _ l18 rfl rfl
      have hcc := (hCl.out W hW.out.1).2.2.2.1
      clear hd ho hi hc hLi
      exact st_val (v := .int .i64 b) (w' := W) (want_none rfl) (by unfold execOp; dsimp only [Act.eval]; simp only [e26]; go_simp) (hK.out _ _ (hF.out.put (k := 19) (s := 27) rfl (by decide) hN (by decide) (fun u hu => Option.some.inj (Option.some.inj (show some (some (.int .i64 b)) = some (some u) from hu))) (by dsimp only; rw [gd_ne (show 27 ≠ 36 by decide), gd_ne (show 27 ≠ 4 by decide)]; exact hW.out)))
    | 20, _ =>
      obtain rfl := Option.some.inj ho
      have l17 : L 17 = true := dep_of hd (n := 17) (by decide)
      have e25 : T.getD 25 undef = .slice mA mn mc := hF.out.val 17 25 _ l17 rfl rfl
      have l19 : L 19 = true := dep_of hd (n := 19) (by decide)
      have e27 : T.getD 27 undef = .int .i64 b := hF.out.val 19 27 _ l19 rfl rfl
      have cc := Lib.hid (hAtm.out W hW.out.1 b)
      clear hd ho hi hc hLi
      refine st_call (want_none rfl) (by unfold execOp; go_simp) cc.out ?_
      rintro r w3 ⟨rfl, rfl⟩
      exact ⟨_, rfl, hK.out _ _ (hF.out.put (k := 20) (s := 28) rfl (by decide) hN (by decide) (fun u hu => Option.some.inj (Option.some.inj (show some (some (.int .i64 (pkI lm b))) = some (some u) from hu))) (by dsimp only; rw [gd_ne (show 28 ≠ 36 by decide), gd_ne (show 28 ≠ 4 by decide)]; exact hW.out))⟩
    | 21, _ =>
      obtain rfl := Option.some.inj ho
      clear hd ho hi hc hLi
      exact st_val (v := .pointer (some ⟨q, 0, none⟩)) (w' := W) (want_none rfl) (by unfold execOp; dsimp only [Act.eval]; simp only [f0]; go_simp) (hK.out _ _ (hF.out.put (k := 21) (s := 29) rfl (by decide) hN (by decide) (fun u hu => Option.some.inj (Option.some.inj (show some (some (.pointer (some ⟨q, 0, none⟩))) = some (some u) from hu))) (by dsimp only; rw [gd_ne (show 29 ≠ 36 by decide), gd_ne (show 29 ≠ 4 by decide)]; exact hW.out)))
    | 22, _ =>
      obtain rfl := Option.some.inj ho
      have l21 : L 21 = true := dep_of hd (n := 21) (by decide)
      have e29 : T.getD 29 undef = .pointer (some ⟨q, 0, none⟩) := hF.out.val 21 29 _ l21 rfl rfl
      clear hd ho hi hc hLi
      exact st_val (v := .pointer (some ⟨q, 0, none⟩)) (w' := W) (want_none rfl) (by unfold execOp; dsimp only [Act.eval]; simp only [e29]; go_simp) (hK.out _ _ (hF.out.put (k := 22) (s := 30) rfl (by decide) hN (by decide) (fun u hu => Option.some.inj (Option.some.inj (show some (some (.pointer (some ⟨q, 0, none⟩))) = some (some u) from hu))) (by dsimp only; rw [gd_ne (show 30 ≠ 36 by decide), gd_ne (show 30 ≠ 4 by decide)]; exact hW.out)))
    | 23, _ =>
      obtain rfl := Option.some.inj ho
      have l22 : L 22 = true := dep_of hd (n := 22) (by decide)
      have e30 : T.getD 30 undef = .pointer (some ⟨q, 0, none⟩) := hF.out.val 22 30 _ l22 rfl rfl
      clear hd ho hi hc hLi
      exact st_val (v := .pointer (some ⟨q, 3, none⟩)) (w' := W) (want_none rfl) (by unfold execOp; dsimp only [Act.eval]; simp only [e30]; go_simp) (hK.out _ _ (hF.out.put (k := 23) (s := 31) rfl (by decide) hN (by decide) (fun u hu => Option.some.inj (Option.some.inj (show some (some (.pointer (some ⟨q, 3, none⟩))) = some (some u) from hu))) (by dsimp only; rw [gd_ne (show 31 ≠ 36 by decide), gd_ne (show 31 ≠ 4 by decide)]; exact hW.out)))
    | 24, _ =>
      obtain rfl := Option.some.inj ho
      have l23 : L 23 = true := dep_of hd (n := 23) (by decide)
      have e31 : T.getD 31 undef = .pointer (some ⟨q, 3, none⟩) := hF.out.val 23 31 _ l23 rfl rfl
      have hcc := (hCl.out W hW.out.1).1.2.2.2
      clear hd ho hi hc hLi
      exact st_val (v := .slice mA mn mc) (w' := W) (want_none rfl) (by unfold execOp; dsimp only [Act.eval]; simp only [e31]; go_simp) (hK.out _ _ (hF.out.put (k := 24) (s := 32) rfl (by decide) hN (by decide) (fun u hu => Option.some.inj (Option.some.inj (show some (some (.slice mA mn mc)) = some (some u) from hu))) (by dsimp only; rw [gd_ne (show 32 ≠ 36 by decide), gd_ne (show 32 ≠ 4 by decide)]; exact hW.out)))
    | 25, _ =>
      obtain rfl := Option.some.inj ho
      clear hd ho hi hc hLi
      exact st_val (v := .pointer (some ⟨(V.heap.size), 3, none⟩)) (w' := W) (want_none rfl) (by unfold execOp; dsimp only [Act.eval]; simp only [f3]; go_simp) (hK.out _ _ (hF.out.put (k := 25) (s := 33) rfl (by decide) hN (by decide) (fun u hu => Option.some.inj (Option.some.inj (show some (some (.pointer (some ⟨(V.heap.size), 3, none⟩))) = some (some u) from hu))) (by dsimp only; rw [gd_ne (show 33 ≠ 36 by decide), gd_ne (show 33 ≠ 4 by decide)]; exact hW.out)))
    | 26, _ =>
      obtain rfl := Option.some.inj ho
      have l25 : L 25 = true := dep_of hd (n := 25) (by decide)
      have e33 : T.getD 33 undef = .pointer (some ⟨(V.heap.size), 3, none⟩) := hF.out.val 25 33 _ l25 rfl rfl
      have hcc := (hCl.out W hW.out.1).2.2.2.2.1
      clear hd ho hi hc hLi
      exact st_val (v := .int .i64 c) (w' := W) (want_none rfl) (by unfold execOp; dsimp only [Act.eval]; simp only [e33]; go_simp) (hK.out _ _ (hF.out.put (k := 26) (s := 34) rfl (by decide) hN (by decide) (fun u hu => Option.some.inj (Option.some.inj (show some (some (.int .i64 c)) = some (some u) from hu))) (by dsimp only; rw [gd_ne (show 34 ≠ 36 by decide), gd_ne (show 34 ≠ 4 by decide)]; exact hW.out)))
    | 27, _ =>
      obtain rfl := Option.some.inj ho
      have l24 : L 24 = true := dep_of hd (n := 24) (by decide)
      have e32 : T.getD 32 undef = .slice mA mn mc := hF.out.val 24 32 _ l24 rfl rfl
      have l26 : L 26 = true := dep_of hd (n := 26) (by decide)
      have e34 : T.getD 34 undef = .int .i64 c := hF.out.val 26 34 _ l26 rfl rfl
      have cc := Lib.hid (hAtm.out W hW.out.1 c)
      clear hd ho hi hc hLi
      refine st_call (want_none rfl) (by unfold execOp; go_simp) cc.out ?_
      rintro r w3 ⟨rfl, rfl⟩
      exact ⟨_, rfl, hK.out _ _ (hF.out.put (k := 27) (s := 35) rfl (by decide) hN (by decide) (fun u hu => Option.some.inj (Option.some.inj (show some (some (.int .i64 (pkI lm c))) = some (some u) from hu))) (by dsimp only; rw [gd_ne (show 35 ≠ 36 by decide), gd_ne (show 35 ≠ 4 by decide)]; exact hW.out))⟩
    | 28, _ =>
      obtain rfl := Option.some.inj ho
      have l3 : L 3 = true := dep_of hd (n := 3) (by decide)
      have e11 : T.getD 11 undef = .pointer (some ⟨g, 0, none⟩) := hF.out.val 3 11 _ l3 rfl rfl
      have l6 : L 6 = true := dep_of hd (n := 6) (by decide)
      have e14 : T.getD 14 undef = .int .u8 c0.toNat := hF.out.val 6 14 _ l6 rfl rfl
      have l13 : L 13 = true := dep_of hd (n := 13) (by decide)
      have e21 : T.getD 21 undef = .int .i64 (pkI lm a) := hF.out.val 13 21 _ l13 rfl rfl
      have l20 : L 20 = true := dep_of hd (n := 20) (by decide)
      have e28 : T.getD 28 undef = .int .i64 (pkI lm b) := hF.out.val 20 28 _ l20 rfl rfl
      have l27 : L 27 = true := dep_of hd (n := 27) (by decide)
      have e35 : T.getD 35 undef = .int .i64 (pkI lm c) := hF.out.val 27 35 _ l27 rfl rfl
      have hb := hW.out.2.1 hLi
      have cc := Lib.hid (cCall.out W hb)
      clear hd ho hi hc
      refine st_call (want_none rfl) (by unfold execOp; go_simp) cc.out ?_
      rintro r w3 ⟨L', x', rfl, a1, a2, a3, a4, a5, a6⟩
      exact ⟨_, rfl, hK.out _ _ (hF.out.put (k := 28) (s := 36) rfl (by decide) hN (by decide) (fun u hu => by cases hu) ⟨hW.out.1.trans a4, fun h => absurd h (by simp), fun _ => (by rw [gd_eq (by rw [hF.out.size, hN]; decide)]; exact SR.from hb ⟨L', x', rfl, a1, a2, a3, a4, a5, a6⟩), fun h => absurd (hW.out.2.2.2 h).1 (by rw [hLi]; decide)⟩)⟩
    | 29, _ =>
      obtain rfl := Option.some.inj ho
      have l28 : L 28 = true := dep_of hd (n := 28) (by decide)
      clear hd ho hi hc hLi
      exact st_val (v := T.getD 36 undef) (w' := W) (want_none rfl) rfl (hK.out _ _ (hF.out.put (k := 29) (s := 4) rfl (by decide) hN (by decide) (fun u hu => by cases hu) ⟨hW.out.1, hW.out.2.1, fun h => (by rw [gd_ne (show 4 ≠ 36 by decide)]; exact hW.out.2.2.1 h), fun _ => ⟨l28, (by rw [gd_eq (by rw [hF.out.size, hN]; decide), gd_ne (show 4 ≠ 36 by decide)])⟩⟩))
  case hdone =>
    intro L T W2 hF hW hall
    obtain ⟨L', x', es, hR⟩ := hW.2.2.1 (hall 28 (by decide))
    replace es := Ending.returned.inj es
    have e4 := (hW.2.2.2 (hall 29 (by decide))).2.trans es
    have hRh := Lib.hid hR
    have hT : T = #[.pointer (some ⟨q, 0, none⟩), .agg #[.int .i64 k, .int .i64 a, .int .i64 b, .int .i64 c, .string y], undef, .pointer (some ⟨(V.heap.size), 0, none⟩), .int .i64 x', .pointer (some ⟨(V.heap.size), 4, none⟩), .string y, .bool false, .pointer (some ⟨q, 0, none⟩), .pointer (some ⟨q, 0, none⟩), .pointer (some ⟨q, 0, none⟩), .pointer (some ⟨g, 0, none⟩), .pointer (some ⟨(V.heap.size), 4, none⟩), .string y, .int .u8 c0.toNat, .pointer (some ⟨q, 0, none⟩), .pointer (some ⟨q, 0, none⟩), .pointer (some ⟨q, 3, none⟩), .slice mA mn mc, .pointer (some ⟨(V.heap.size), 1, none⟩), .int .i64 a, .int .i64 (pkI lm a), .pointer (some ⟨q, 0, none⟩), .pointer (some ⟨q, 0, none⟩), .pointer (some ⟨q, 3, none⟩), .slice mA mn mc, .pointer (some ⟨(V.heap.size), 2, none⟩), .int .i64 b, .int .i64 (pkI lm b), .pointer (some ⟨q, 0, none⟩), .pointer (some ⟨q, 0, none⟩), .pointer (some ⟨q, 3, none⟩), .slice mA mn mc, .pointer (some ⟨(V.heap.size), 3, none⟩), .int .i64 c, .int .i64 (pkI lm c), .int .i64 x'] := (hF.fin [(8, .pointer (some ⟨q, 0, none⟩)), (9, .pointer (some ⟨q, 0, none⟩)), (10, .pointer (some ⟨q, 0, none⟩)), (11, .pointer (some ⟨g, 0, none⟩)), (12, .pointer (some ⟨(V.heap.size), 4, none⟩)), (13, .string y), (14, .int .u8 c0.toNat), (15, .pointer (some ⟨q, 0, none⟩)), (16, .pointer (some ⟨q, 0, none⟩)), (17, .pointer (some ⟨q, 3, none⟩)), (18, .slice mA mn mc), (19, .pointer (some ⟨(V.heap.size), 1, none⟩)), (20, .int .i64 a), (21, .int .i64 (pkI lm a)), (22, .pointer (some ⟨q, 0, none⟩)), (23, .pointer (some ⟨q, 0, none⟩)), (24, .pointer (some ⟨q, 3, none⟩)), (25, .slice mA mn mc), (26, .pointer (some ⟨(V.heap.size), 2, none⟩)), (27, .int .i64 b), (28, .int .i64 (pkI lm b)), (29, .pointer (some ⟨q, 0, none⟩)), (30, .pointer (some ⟨q, 0, none⟩)), (31, .pointer (some ⟨q, 3, none⟩)), (32, .slice mA mn mc), (33, .pointer (some ⟨(V.heap.size), 3, none⟩)), (34, .int .i64 c), (35, .int .i64 (pkI lm c)), (36, .int .i64 x'), (4, .int .i64 x')] [8, 9, 10, 11, 12, 13, 14, 15, 16, 17, 18, 19, 20, 21, 22, 23, 24, 25, 26, 27, 28, 29, 30, 31, 32, 33, 34, 35, 36, 4] rfl (List.forall_mem_cons.2 ⟨hF.val 0 _ _ (hall 0 (show 0 < 30 by decide)) rfl rfl, (List.forall_mem_cons.2 ⟨hF.val 1 _ _ (hall 1 (show 1 < 30 by decide)) rfl rfl, (List.forall_mem_cons.2 ⟨hF.val 2 _ _ (hall 2 (show 2 < 30 by decide)) rfl rfl, (List.forall_mem_cons.2 ⟨hF.val 3 _ _ (hall 3 (show 3 < 30 by decide)) rfl rfl, (List.forall_mem_cons.2 ⟨hF.val 4 _ _ (hall 4 (show 4 < 30 by decide)) rfl rfl, (List.forall_mem_cons.2 ⟨hF.val 5 _ _ (hall 5 (show 5 < 30 by decide)) rfl rfl, (List.forall_mem_cons.2 ⟨hF.val 6 _ _ (hall 6 (show 6 < 30 by decide)) rfl rfl, (List.forall_mem_cons.2 ⟨hF.val 7 _ _ (hall 7 (show 7 < 30 by decide)) rfl rfl, (List.forall_mem_cons.2 ⟨hF.val 8 _ _ (hall 8 (show 8 < 30 by decide)) rfl rfl, (List.forall_mem_cons.2 ⟨hF.val 9 _ _ (hall 9 (show 9 < 30 by decide)) rfl rfl, (List.forall_mem_cons.2 ⟨hF.val 10 _ _ (hall 10 (show 10 < 30 by decide)) rfl rfl, (List.forall_mem_cons.2 ⟨hF.val 11 _ _ (hall 11 (show 11 < 30 by decide)) rfl rfl, (List.forall_mem_cons.2 ⟨hF.val 12 _ _ (hall 12 (show 12 < 30 by decide)) rfl rfl, (List.forall_mem_cons.2 ⟨hF.val 13 _ _ (hall 13 (show 13 < 30 by decide)) rfl rfl, (List.forall_mem_cons.2 ⟨hF.val 14 _ _ (hall 14 (show 14 < 30 by decide)) rfl rfl, (List.forall_mem_cons.2 ⟨hF.val 15 _ _ (hall 15 (show 15 < 30 by decide)) rfl rfl, (List.forall_mem_cons.2 ⟨hF.val 16 _ _ (hall 16 (show 16 < 30 by decide)) rfl rfl, (List.forall_mem_cons.2 ⟨hF.val 17 _ _ (hall 17 (show 17 < 30 by decide)) rfl rfl, (List.forall_mem_cons.2 ⟨hF.val 18 _ _ (hall 18 (show 18 < 30 by decide)) rfl rfl, (List.forall_mem_cons.2 ⟨hF.val 19 _ _ (hall 19 (show 19 < 30 by decide)) rfl rfl, (List.forall_mem_cons.2 ⟨hF.val 20 _ _ (hall 20 (show 20 < 30 by decide)) rfl rfl, (List.forall_mem_cons.2 ⟨hF.val 21 _ _ (hall 21 (show 21 < 30 by decide)) rfl rfl, (List.forall_mem_cons.2 ⟨hF.val 22 _ _ (hall 22 (show 22 < 30 by decide)) rfl rfl, (List.forall_mem_cons.2 ⟨hF.val 23 _ _ (hall 23 (show 23 < 30 by decide)) rfl rfl, (List.forall_mem_cons.2 ⟨hF.val 24 _ _ (hall 24 (show 24 < 30 by decide)) rfl rfl, (List.forall_mem_cons.2 ⟨hF.val 25 _ _ (hall 25 (show 25 < 30 by decide)) rfl rfl, (List.forall_mem_cons.2 ⟨hF.val 26 _ _ (hall 26 (show 26 < 30 by decide)) rfl rfl, (List.forall_mem_cons.2 ⟨hF.val 27 _ _ (hall 27 (show 27 < 30 by decide)) rfl rfl, (List.forall_mem_cons.2 ⟨es, (List.forall_mem_cons.2 ⟨e4, (fun _ h => absurd h List.not_mem_nil)⟩)⟩)⟩)⟩)⟩)⟩)⟩)⟩)⟩)⟩)⟩)⟩)⟩)⟩)⟩)⟩)⟩)⟩)⟩)⟩)⟩)⟩)⟩)⟩)⟩)⟩)⟩)⟩)⟩)⟩) (by decide)).trans (by kernel_rfl)
    clear hF hall
    subst hT
    clear hR hW es e4
    go_wp2_with fail
    go_ret
    exact SR.from hB1.out ⟨L', x', rfl, hRh.out⟩
def dsKs : List (Option Nat) := [some 13, some 14, some 15, some 16, some 17, some 18, some 19, some 20, some 21, some 22, some 23, some 24, some 25, some 26, some 27, some 28, some 29, some 30, some 31, some 32, some 33, some 34, some 4]
def tbKs : List (List Nat) := [[], [0], [1], [2], [], [4], [5], [6], [], [8], [7, 9], [], [11], [12], [], [14], [15], [16], [], [18], [17, 19], [3, 10, 13, 20], [21]]
def vsKs (g : Nat) (q : Nat) (p : Nat) (kA : Option Addr) (sA : Option Addr) (mA : Option Addr) (kn : Nat) (kc : Nat) (sn : Nat) (sc : Nat) (mn : Nat) (mc : Nat) (k : Int) (a : Int) (b : Int) (c : Int) (y : ByteArray) (x1 : Int) (x2 : Int) (x3 : Int) (c0 : UInt8) : List (Option Value) := [some (.pointer (some ⟨q, 0, none⟩)), some (.pointer (some ⟨q, 0, none⟩)), some (.pointer (some ⟨q, 0, none⟩)), some (.pointer (some ⟨g, 0, none⟩)), some (.pointer (some ⟨q, 0, none⟩)), some (.pointer (some ⟨q, 0, none⟩)), some (.pointer (some ⟨q, 3, none⟩)), some (.slice mA mn mc), some (.pointer (some ⟨p, 1, none⟩)), some (.int .i64 a), some (.int .i64 x1), some (.pointer (some ⟨p, 3, none⟩)), some (.int .i64 c), some (.int .u32 c), some (.pointer (some ⟨q, 0, none⟩)), some (.pointer (some ⟨q, 0, none⟩)), some (.pointer (some ⟨q, 3, none⟩)), some (.slice mA mn mc), some (.pointer (some ⟨p, 2, none⟩)), some (.int .i64 b), some (.int .i64 x2), none, none]
set_option maxRecDepth 100000 in
set_option maxHeartbeats 4000000 in
theorem seals_any {w0 : World} {g q : Nat} {V : World} {Lt : List Tm} {kA sA mA : Option Addr} {kn kc sn sc mn mc : Nat} {lk ls lm : List Int} {known sent made : List (Option Tm)} (hK : KS w0 g q V Lt kA sA mA kn kc sn sc mn mc lk ls lm known sent made) (hL : Lt.length < 100) (k a b c : Int) (s : List UInt8) (hsl : s.length ≤ 4000000000) :
    Calls Tryz.prog 78 #[.pointer (some ⟨q, 0, none⟩), .agg (mkRow k a b c s).toArray] V (SR w0 g V Lt (if 0 ≤ c ∧ c ≤ 4294967295 then sealT (pkO made a) c.toNat (pkO made b) else none)) := by
  have hB1 := below_new V (.cells (mkRow k a b c s).toArray 79)
  have hK1 := hK.below hB1
  have hO1 := op_box V k a b c s
  have c3 := hO1.cells.2.2.2.1
  by_cases h0 : 0 ≤ c
  · by_cases hm : c ≤ 4294967295
    · rw [if_pos ⟨h0, hm⟩]
      obtain ⟨n, hn⟩ := Int.eq_ofNat_of_zero_le h0
      have hCl := Lib.hid (fun W' (h : Stay (V.alloc (.cells (mkRow k a b c s).toArray 79)) W') => And.intro (hK1.kf.stay h).cells (hO1.stay h).cells)
      have hAtm := Lib.hid (fun W' (h : Stay (V.alloc (.cells (mkRow k a b c s).toArray 79)) W') (i : Int) => rat_any (c := mc) i W' hK.hm (hK1.kf.stay h).m.ints)
      have hc0 := h0
      have hcm := hm
      have hcwrap : IntKind.u32.wrap c = c := by rw [IntKind.wrap_u32]; omega
      have d1 : decide (c < 0) = false := decide_eq_false (by omega)
      have d2 : decide (4294967295 < c) = false := decide_eq_false (by omega)
      have cCall := Lib.hid (fun W' (h : Below (V.alloc (.cells (mkRow k a b c s).toArray 79)).heap.size (V.alloc (.cells (mkRow k a b c s).toArray 79)) W') => (hK1.st.keep h).seal2 hL c.toNat (by omega) (pkI lm a) (pkI lm b))
      rw [hK1.nm.pick, hK1.nm.pick, show ((c.toNat : Nat) : Int) = c by omega] at cCall
      generalize sealT (pkO made a) c.toNat (pkO made b) = res at *
      clear hn n h0 hm
      replace hB1 := Lib.hid hB1
      clear hK1 hO1 hK
      unfold mkRow at *
      generalize bs s = y at *
      go_enter Tryz.func78, Tryz.ntmps78
      go_upto_region 3 with fail
      generalize (V.alloc (.cells [Value.int .i64 k, .int .i64 a, .int .i64 b, .int .i64 c, .string y].toArray 79)) = W1 at *
      clear c3
      refine region_iw tbKs dsKs (vsKs g q (V.heap.size) kA sA mA kn kc sn sc mn mc k a b c y (pkI lm a) (pkI lm b) 0 ((0 : UInt8))) (fun L T W => Stay W1 W ∧ (L 21 = false → Below W1.heap.size W1 W) ∧ (L 21 = true → SR w0 g W1 Lt res (.returned (T.getD 34 undef)) W) ∧ (L 22 = true → L 21 = true ∧ T.getD 4 undef = T.getD 34 undef)) rfl (by decide) (by kernel_rfl) ?hlt ?hstep ?hdone ?hstart
      case hstart => exact ⟨Stay.of_below (drewN_below 1), fun _ => drewN_below 1, fun h => absurd h (inv_not (n := 23) (i := 21) (by decide)), fun h => absurd h (inv_not (n := 23) (i := 22) (by decide))⟩
      case hlt =>
        intro ix o ho
        have hi := (Array.getElem?_eq_some_iff.1 ho).1
        match ix, hi with
        | 0, _ => obtain rfl := Option.some.inj ho; decide
        | 1, _ => obtain rfl := Option.some.inj ho; decide
        | 2, _ => obtain rfl := Option.some.inj ho; decide
        | 3, _ => obtain rfl := Option.some.inj ho; decide
        | 4, _ => obtain rfl := Option.some.inj ho; decide
        | 5, _ => obtain rfl := Option.some.inj ho; decide
        | 6, _ => obtain rfl := Option.some.inj ho; decide
        | 7, _ => obtain rfl := Option.some.inj ho; decide
        | 8, _ => obtain rfl := Option.some.inj ho; decide
        | 9, _ => obtain rfl := Option.some.inj ho; decide
        | 10, _ => obtain rfl := Option.some.inj ho; decide
        | 11, _ => obtain rfl := Option.some.inj ho; decide
        | 12, _ => obtain rfl := Option.some.inj ho; decide
        | 13, _ => obtain rfl := Option.some.inj ho; decide
        | 14, _ => obtain rfl := Option.some.inj ho; decide
        | 15, _ => obtain rfl := Option.some.inj ho; decide
        | 16, _ => obtain rfl := Option.some.inj ho; decide
        | 17, _ => obtain rfl := Option.some.inj ho; decide
        | 18, _ => obtain rfl := Option.some.inj ho; decide
        | 19, _ => obtain rfl := Option.some.inj ho; decide
        | 20, _ => obtain rfl := Option.some.inj ho; decide
        | 21, _ => obtain rfl := Option.some.inj ho; decide
        | 22, _ => obtain rfl := Option.some.inj ho; decide
      case hstep =>
        intro T1 hE L T W ix o hF hW hc ho hLi hd K hK
        have hN : T1.size = 35 := by rw [hE]; rfl
        have f0 : T.getD 0 undef = .pointer (some ⟨q, 0, none⟩) := (hF.old 0 (by decide)).trans (by rw [hE]; rfl)
        have f3 : T.getD 3 undef = .pointer (some ⟨(V.heap.size), 0, none⟩) := (hF.old 3 (by decide)).trans (by rw [hE]; rfl)
        clear hE
        replace hF := Lib.hid hF
        replace hW := Lib.hid hW
        replace hK := Lib.hid hK
        have hi := (List.getElem?_eq_some_iff.1 ho).1
        match ix, hi with
        | 0, _ =>
          obtain rfl := Option.some.inj ho
          clear hd ho hi hc hLi
          exact st_val (v := .pointer (some ⟨q, 0, none⟩)) (w' := W) (want_none rfl) (by unfold execOp; dsimp only [Act.eval]; simp only [f0]; go_simp) (hK.out _ _ (hF.out.put (k := 0) (s := 13) rfl (by decide) hN (by decide) (fun u hu => Option.some.inj (Option.some.inj (show some (some (.pointer (some ⟨q, 0, none⟩))) = some (some u) from hu))) (by dsimp only; rw [gd_ne (show 13 ≠ 34 by decide), gd_ne (show 13 ≠ 4 by decide)]; exact hW.out)))
        | 1, _ =>
          obtain rfl := Option.some.inj ho
          have l0 : L 0 = true := dep_of hd (n := 0) (by decide)
          have e13 : T.getD 13 undef = .pointer (some ⟨q, 0, none⟩) := hF.out.val 0 13 _ l0 rfl rfl
          clear hd ho hi hc hLi
          exact st_val (v := .pointer (some ⟨q, 0, none⟩)) (w' := W) (want_none rfl) (by unfold execOp; dsimp only [Act.eval]; simp only [e13]; go_simp) (hK.out _ _ (hF.out.put (k := 1) (s := 14) rfl (by decide) hN (by decide) (fun u hu => Option.some.inj (Option.some.inj (show some (some (.pointer (some ⟨q, 0, none⟩))) = some (some u) from hu))) (by dsimp only; rw [gd_ne (show 14 ≠ 34 by decide), gd_ne (show 14 ≠ 4 by decide)]; exact hW.out)))
        | 2, _ =>
          obtain rfl := Option.some.inj ho
          have l1 : L 1 = true := dep_of hd (n := 1) (by decide)
          have e14 : T.getD 14 undef = .pointer (some ⟨q, 0, none⟩) := hF.out.val 1 14 _ l1 rfl rfl
          clear hd ho hi hc hLi
          exact st_val (v := .pointer (some ⟨q, 0, none⟩)) (w' := W) (want_none rfl) (by unfold execOp; dsimp only [Act.eval]; simp only [e14]; go_simp) (hK.out _ _ (hF.out.put (k := 2) (s := 15) rfl (by decide) hN (by decide) (fun u hu => Option.some.inj (Option.some.inj (show some (some (.pointer (some ⟨q, 0, none⟩))) = some (some u) from hu))) (by dsimp only; rw [gd_ne (show 15 ≠ 34 by decide), gd_ne (show 15 ≠ 4 by decide)]; exact hW.out)))
        | 3, _ =>
          obtain rfl := Option.some.inj ho
          have l2 : L 2 = true := dep_of hd (n := 2) (by decide)
          have e15 : T.getD 15 undef = .pointer (some ⟨q, 0, none⟩) := hF.out.val 2 15 _ l2 rfl rfl
          have hcc := (hCl.out W hW.out.1).1.1
          clear hd ho hi hc hLi
          exact st_val (v := .pointer (some ⟨g, 0, none⟩)) (w' := W) (want_none rfl) (by unfold execOp; dsimp only [Act.eval]; simp only [e15]; go_simp) (hK.out _ _ (hF.out.put (k := 3) (s := 16) rfl (by decide) hN (by decide) (fun u hu => Option.some.inj (Option.some.inj (show some (some (.pointer (some ⟨g, 0, none⟩))) = some (some u) from hu))) (by dsimp only; rw [gd_ne (show 16 ≠ 34 by decide), gd_ne (show 16 ≠ 4 by decide)]; exact hW.out)))
        | 4, _ =>
          obtain rfl := Option.some.inj ho
          clear hd ho hi hc hLi
          exact st_val (v := .pointer (some ⟨q, 0, none⟩)) (w' := W) (want_none rfl) (by unfold execOp; dsimp only [Act.eval]; simp only [f0]; go_simp) (hK.out _ _ (hF.out.put (k := 4) (s := 17) rfl (by decide) hN (by decide) (fun u hu => Option.some.inj (Option.some.inj (show some (some (.pointer (some ⟨q, 0, none⟩))) = some (some u) from hu))) (by dsimp only; rw [gd_ne (show 17 ≠ 34 by decide), gd_ne (show 17 ≠ 4 by decide)]; exact hW.out)))
        | 5, _ =>
          obtain rfl := Option.some.inj ho
          have l4 : L 4 = true := dep_of hd (n := 4) (by decide)
          have e17 : T.getD 17 undef = .pointer (some ⟨q, 0, none⟩) := hF.out.val 4 17 _ l4 rfl rfl
          clear hd ho hi hc hLi
          exact st_val (v := .pointer (some ⟨q, 0, none⟩)) (w' := W) (want_none rfl) (by unfold execOp; dsimp only [Act.eval]; simp only [e17]; go_simp) (hK.out _ _ (hF.out.put (k := 5) (s := 18) rfl (by decide) hN (by decide) (fun u hu => Option.some.inj (Option.some.inj (show some (some (.pointer (some ⟨q, 0, none⟩))) = some (some u) from hu))) (by dsimp only; rw [gd_ne (show 18 ≠ 34 by decide), gd_ne (show 18 ≠ 4 by decide)]; exact hW.out)))
        | 6, _ =>
          obtain rfl := Option.some.inj ho
          have l5 : L 5 = true := dep_of hd (n := 5) (by decide)
          have e18 : T.getD 18 undef = .pointer (some ⟨q, 0, none⟩) := hF.out.val 5 18 _ l5 rfl rfl
          clear hd ho hi hc hLi
          exact st_val (v := .pointer (some ⟨q, 3, none⟩)) (w' := W) (want_none rfl) (by unfold execOp; dsimp only [Act.eval]; simp only [e18]; go_simp) (hK.out _ _ (hF.out.put (k := 6) (s := 19) rfl (by decide) hN (by decide) (fun u hu => Option.some.inj (Option.some.inj (show some (some (.pointer (some ⟨q, 3, none⟩))) = some (some u) from hu))) (by dsimp only; rw [gd_ne (show 19 ≠ 34 by decide), gd_ne (show 19 ≠ 4 by decide)]; exact hW.out)))
        | 7, _ =>
          obtain rfl := Option.some.inj ho
          have l6 : L 6 = true := dep_of hd (n := 6) (by decide)
          have e19 : T.getD 19 undef = .pointer (some ⟨q, 3, none⟩) := hF.out.val 6 19 _ l6 rfl rfl
          have hcc := (hCl.out W hW.out.1).1.2.2.2
          clear hd ho hi hc hLi
          exact st_val (v := .slice mA mn mc) (w' := W) (want_none rfl) (by unfold execOp; dsimp only [Act.eval]; simp only [e19]; go_simp) (hK.out _ _ (hF.out.put (k := 7) (s := 20) rfl (by decide) hN (by decide) (fun u hu => Option.some.inj (Option.some.inj (show some (some (.slice mA mn mc)) = some (some u) from hu))) (by dsimp only; rw [gd_ne (show 20 ≠ 34 by decide), gd_ne (show 20 ≠ 4 by decide)]; exact hW.out)))
        | 8, _ =>
          obtain rfl := Option.some.inj ho
          clear hd ho hi hc hLi
          exact st_val (v := .pointer (some ⟨(V.heap.size), 1, none⟩)) (w' := W) (want_none rfl) (by unfold execOp; dsimp only [Act.eval]; simp only [f3]; go_simp) (hK.out _ _ (hF.out.put (k := 8) (s := 21) rfl (by decide) hN (by decide) (fun u hu => Option.some.inj (Option.some.inj (show some (some (.pointer (some ⟨(V.heap.size), 1, none⟩))) = some (some u) from hu))) (by dsimp only; rw [gd_ne (show 21 ≠ 34 by decide), gd_ne (show 21 ≠ 4 by decide)]; exact hW.out)))
        | 9, _ =>
          obtain rfl := Option.some.inj ho
          have l8 : L 8 = true := dep_of hd (n := 8) (by decide)
          have e21 : T.getD 21 undef = .pointer (some ⟨(V.heap.size), 1, none⟩) := hF.out.val 8 21 _ l8 rfl rfl
          have hcc := (hCl.out W hW.out.1).2.2.1
          clear hd ho hi hc hLi
          exact st_val (v := .int .i64 a) (w' := W) (want_none rfl) (by unfold execOp; dsimp only [Act.eval]; simp only [e21]; go_simp) (hK.out _ _ (hF.out.put (k := 9) (s := 22) rfl (by decide) hN (by decide) (fun u hu => Option.some.inj (Option.some.inj (show some (some (.int .i64 a)) = some (some u) from hu))) (by dsimp only; rw [gd_ne (show 22 ≠ 34 by decide), gd_ne (show 22 ≠ 4 by decide)]; exact hW.out)))
        | 10, _ =>
          obtain rfl := Option.some.inj ho
          have l7 : L 7 = true := dep_of hd (n := 7) (by decide)
          have e20 : T.getD 20 undef = .slice mA mn mc := hF.out.val 7 20 _ l7 rfl rfl
          have l9 : L 9 = true := dep_of hd (n := 9) (by decide)
          have e22 : T.getD 22 undef = .int .i64 a := hF.out.val 9 22 _ l9 rfl rfl
          have cc := Lib.hid (hAtm.out W hW.out.1 a)
          clear hd ho hi hc hLi
          refine st_call (want_none rfl) (by unfold execOp; go_simp) cc.out ?_
          rintro r w3 ⟨rfl, rfl⟩
          exact ⟨_, rfl, hK.out _ _ (hF.out.put (k := 10) (s := 23) rfl (by decide) hN (by decide) (fun u hu => Option.some.inj (Option.some.inj (show some (some (.int .i64 (pkI lm a))) = some (some u) from hu))) (by dsimp only; rw [gd_ne (show 23 ≠ 34 by decide), gd_ne (show 23 ≠ 4 by decide)]; exact hW.out))⟩
        | 11, _ =>
          obtain rfl := Option.some.inj ho
          clear hd ho hi hc hLi
          exact st_val (v := .pointer (some ⟨(V.heap.size), 3, none⟩)) (w' := W) (want_none rfl) (by unfold execOp; dsimp only [Act.eval]; simp only [f3]; go_simp) (hK.out _ _ (hF.out.put (k := 11) (s := 24) rfl (by decide) hN (by decide) (fun u hu => Option.some.inj (Option.some.inj (show some (some (.pointer (some ⟨(V.heap.size), 3, none⟩))) = some (some u) from hu))) (by dsimp only; rw [gd_ne (show 24 ≠ 34 by decide), gd_ne (show 24 ≠ 4 by decide)]; exact hW.out)))
        | 12, _ =>
          obtain rfl := Option.some.inj ho
          have l11 : L 11 = true := dep_of hd (n := 11) (by decide)
          have e24 : T.getD 24 undef = .pointer (some ⟨(V.heap.size), 3, none⟩) := hF.out.val 11 24 _ l11 rfl rfl
          have hcc := (hCl.out W hW.out.1).2.2.2.2.1
          clear hd ho hi hc hLi
          exact st_val (v := .int .i64 c) (w' := W) (want_none rfl) (by unfold execOp; dsimp only [Act.eval]; simp only [e24]; go_simp) (hK.out _ _ (hF.out.put (k := 12) (s := 25) rfl (by decide) hN (by decide) (fun u hu => Option.some.inj (Option.some.inj (show some (some (.int .i64 c)) = some (some u) from hu))) (by dsimp only; rw [gd_ne (show 25 ≠ 34 by decide), gd_ne (show 25 ≠ 4 by decide)]; exact hW.out)))
        | 13, _ =>
          obtain rfl := Option.some.inj ho
          have l12 : L 12 = true := dep_of hd (n := 12) (by decide)
          have e25 : T.getD 25 undef = .int .i64 c := hF.out.val 12 25 _ l12 rfl rfl
          have hcw := hcwrap
          clear hd ho hi hc hLi
          exact st_val (v := .int .u32 c) (w' := W) (want_none rfl) (by unfold execOp; dsimp only [Act.eval]; simp only [e25]; go_simp) (hK.out _ _ (hF.out.put (k := 13) (s := 26) rfl (by decide) hN (by decide) (fun u hu => Option.some.inj (Option.some.inj (show some (some (.int .u32 c)) = some (some u) from hu))) (by dsimp only; rw [gd_ne (show 26 ≠ 34 by decide), gd_ne (show 26 ≠ 4 by decide)]; exact hW.out)))
        | 14, _ =>
          obtain rfl := Option.some.inj ho
          clear hd ho hi hc hLi
          exact st_val (v := .pointer (some ⟨q, 0, none⟩)) (w' := W) (want_none rfl) (by unfold execOp; dsimp only [Act.eval]; simp only [f0]; go_simp) (hK.out _ _ (hF.out.put (k := 14) (s := 27) rfl (by decide) hN (by decide) (fun u hu => Option.some.inj (Option.some.inj (show some (some (.pointer (some ⟨q, 0, none⟩))) = some (some u) from hu))) (by dsimp only; rw [gd_ne (show 27 ≠ 34 by decide), gd_ne (show 27 ≠ 4 by decide)]; exact hW.out)))
        | 15, _ =>
          obtain rfl := Option.some.inj ho
          have l14 : L 14 = true := dep_of hd (n := 14) (by decide)
          have e27 : T.getD 27 undef = .pointer (some ⟨q, 0, none⟩) := hF.out.val 14 27 _ l14 rfl rfl
          clear hd ho hi hc hLi
          exact st_val (v := .pointer (some ⟨q, 0, none⟩)) (w' := W) (want_none rfl) (by unfold execOp; dsimp only [Act.eval]; simp only [e27]; go_simp) (hK.out _ _ (hF.out.put (k := 15) (s := 28) rfl (by decide) hN (by decide) (fun u hu => Option.some.inj (Option.some.inj (show some (some (.pointer (some ⟨q, 0, none⟩))) = some (some u) from hu))) (by dsimp only; rw [gd_ne (show 28 ≠ 34 by decide), gd_ne (show 28 ≠ 4 by decide)]; exact hW.out)))
        | 16, _ =>
          obtain rfl := Option.some.inj ho
          have l15 : L 15 = true := dep_of hd (n := 15) (by decide)
          have e28 : T.getD 28 undef = .pointer (some ⟨q, 0, none⟩) := hF.out.val 15 28 _ l15 rfl rfl
          clear hd ho hi hc hLi
          exact st_val (v := .pointer (some ⟨q, 3, none⟩)) (w' := W) (want_none rfl) (by unfold execOp; dsimp only [Act.eval]; simp only [e28]; go_simp) (hK.out _ _ (hF.out.put (k := 16) (s := 29) rfl (by decide) hN (by decide) (fun u hu => Option.some.inj (Option.some.inj (show some (some (.pointer (some ⟨q, 3, none⟩))) = some (some u) from hu))) (by dsimp only; rw [gd_ne (show 29 ≠ 34 by decide), gd_ne (show 29 ≠ 4 by decide)]; exact hW.out)))
        | 17, _ =>
          obtain rfl := Option.some.inj ho
          have l16 : L 16 = true := dep_of hd (n := 16) (by decide)
          have e29 : T.getD 29 undef = .pointer (some ⟨q, 3, none⟩) := hF.out.val 16 29 _ l16 rfl rfl
          have hcc := (hCl.out W hW.out.1).1.2.2.2
          clear hd ho hi hc hLi
          exact st_val (v := .slice mA mn mc) (w' := W) (want_none rfl) (by unfold execOp; dsimp only [Act.eval]; simp only [e29]; go_simp) (hK.out _ _ (hF.out.put (k := 17) (s := 30) rfl (by decide) hN (by decide) (fun u hu => Option.some.inj (Option.some.inj (show some (some (.slice mA mn mc)) = some (some u) from hu))) (by dsimp only; rw [gd_ne (show 30 ≠ 34 by decide), gd_ne (show 30 ≠ 4 by decide)]; exact hW.out)))
        | 18, _ =>
          obtain rfl := Option.some.inj ho
          clear hd ho hi hc hLi
          exact st_val (v := .pointer (some ⟨(V.heap.size), 2, none⟩)) (w' := W) (want_none rfl) (by unfold execOp; dsimp only [Act.eval]; simp only [f3]; go_simp) (hK.out _ _ (hF.out.put (k := 18) (s := 31) rfl (by decide) hN (by decide) (fun u hu => Option.some.inj (Option.some.inj (show some (some (.pointer (some ⟨(V.heap.size), 2, none⟩))) = some (some u) from hu))) (by dsimp only; rw [gd_ne (show 31 ≠ 34 by decide), gd_ne (show 31 ≠ 4 by decide)]; exact hW.out)))
        | 19, _ =>
          obtain rfl := Option.some.inj ho
          have l18 : L 18 = true := dep_of hd (n := 18) (by decide)
          have e31 : T.getD 31 undef = .pointer (some ⟨(V.heap.size), 2, none⟩) := hF.out.val 18 31 _ l18 rfl rfl
          have hcc := (hCl.out W hW.out.1).2.2.2.1
          clear hd ho hi hc hLi
          exact st_val (v := .int .i64 b) (w' := W) (want_none rfl) (by unfold execOp; dsimp only [Act.eval]; simp only [e31]; go_simp) (hK.out _ _ (hF.out.put (k := 19) (s := 32) rfl (by decide) hN (by decide) (fun u hu => Option.some.inj (Option.some.inj (show some (some (.int .i64 b)) = some (some u) from hu))) (by dsimp only; rw [gd_ne (show 32 ≠ 34 by decide), gd_ne (show 32 ≠ 4 by decide)]; exact hW.out)))
        | 20, _ =>
          obtain rfl := Option.some.inj ho
          have l17 : L 17 = true := dep_of hd (n := 17) (by decide)
          have e30 : T.getD 30 undef = .slice mA mn mc := hF.out.val 17 30 _ l17 rfl rfl
          have l19 : L 19 = true := dep_of hd (n := 19) (by decide)
          have e32 : T.getD 32 undef = .int .i64 b := hF.out.val 19 32 _ l19 rfl rfl
          have cc := Lib.hid (hAtm.out W hW.out.1 b)
          clear hd ho hi hc hLi
          refine st_call (want_none rfl) (by unfold execOp; go_simp) cc.out ?_
          rintro r w3 ⟨rfl, rfl⟩
          exact ⟨_, rfl, hK.out _ _ (hF.out.put (k := 20) (s := 33) rfl (by decide) hN (by decide) (fun u hu => Option.some.inj (Option.some.inj (show some (some (.int .i64 (pkI lm b))) = some (some u) from hu))) (by dsimp only; rw [gd_ne (show 33 ≠ 34 by decide), gd_ne (show 33 ≠ 4 by decide)]; exact hW.out))⟩
        | 21, _ =>
          obtain rfl := Option.some.inj ho
          have l3 : L 3 = true := dep_of hd (n := 3) (by decide)
          have e16 : T.getD 16 undef = .pointer (some ⟨g, 0, none⟩) := hF.out.val 3 16 _ l3 rfl rfl
          have l10 : L 10 = true := dep_of hd (n := 10) (by decide)
          have e23 : T.getD 23 undef = .int .i64 (pkI lm a) := hF.out.val 10 23 _ l10 rfl rfl
          have l13 : L 13 = true := dep_of hd (n := 13) (by decide)
          have e26 : T.getD 26 undef = .int .u32 c := hF.out.val 13 26 _ l13 rfl rfl
          have l20 : L 20 = true := dep_of hd (n := 20) (by decide)
          have e33 : T.getD 33 undef = .int .i64 (pkI lm b) := hF.out.val 20 33 _ l20 rfl rfl
          have hb := hW.out.2.1 hLi
          have cc := Lib.hid (cCall.out W hb)
          clear hd ho hi hc
          refine st_call (want_none rfl) (by unfold execOp; go_simp) cc.out ?_
          rintro r w3 ⟨L', x', rfl, a1, a2, a3, a4, a5, a6⟩
          exact ⟨_, rfl, hK.out _ _ (hF.out.put (k := 21) (s := 34) rfl (by decide) hN (by decide) (fun u hu => by cases hu) ⟨hW.out.1.trans a4, fun h => absurd h (by simp), fun _ => (by rw [gd_eq (by rw [hF.out.size, hN]; decide)]; exact SR.from hb ⟨L', x', rfl, a1, a2, a3, a4, a5, a6⟩), fun h => absurd (hW.out.2.2.2 h).1 (by rw [hLi]; decide)⟩)⟩
        | 22, _ =>
          obtain rfl := Option.some.inj ho
          have l21 : L 21 = true := dep_of hd (n := 21) (by decide)
          clear hd ho hi hc hLi
          exact st_val (v := T.getD 34 undef) (w' := W) (want_none rfl) rfl (hK.out _ _ (hF.out.put (k := 22) (s := 4) rfl (by decide) hN (by decide) (fun u hu => by cases hu) ⟨hW.out.1, hW.out.2.1, fun h => (by rw [gd_ne (show 4 ≠ 34 by decide)]; exact hW.out.2.2.1 h), fun _ => ⟨l21, (by rw [gd_eq (by rw [hF.out.size, hN]; decide), gd_ne (show 4 ≠ 34 by decide)])⟩⟩))
      case hdone =>
        intro L T W2 hF hW hall
        obtain ⟨L', x', es, hR⟩ := hW.2.2.1 (hall 21 (by decide))
        replace es := Ending.returned.inj es
        have e4 := (hW.2.2.2 (hall 22 (by decide))).2.trans es
        have hRh := Lib.hid hR
        have hT : T = #[.pointer (some ⟨q, 0, none⟩), .agg #[.int .i64 k, .int .i64 a, .int .i64 b, .int .i64 c, .string y], undef, .pointer (some ⟨(V.heap.size), 0, none⟩), .int .i64 x', .pointer (some ⟨(V.heap.size), 3, none⟩), .int .i64 c, .bool false, .bool false, .pointer (some ⟨(V.heap.size), 3, none⟩), .int .i64 c, .bool false, .bool false, .pointer (some ⟨q, 0, none⟩), .pointer (some ⟨q, 0, none⟩), .pointer (some ⟨q, 0, none⟩), .pointer (some ⟨g, 0, none⟩), .pointer (some ⟨q, 0, none⟩), .pointer (some ⟨q, 0, none⟩), .pointer (some ⟨q, 3, none⟩), .slice mA mn mc, .pointer (some ⟨(V.heap.size), 1, none⟩), .int .i64 a, .int .i64 (pkI lm a), .pointer (some ⟨(V.heap.size), 3, none⟩), .int .i64 c, .int .u32 c, .pointer (some ⟨q, 0, none⟩), .pointer (some ⟨q, 0, none⟩), .pointer (some ⟨q, 3, none⟩), .slice mA mn mc, .pointer (some ⟨(V.heap.size), 2, none⟩), .int .i64 b, .int .i64 (pkI lm b), .int .i64 x'] := (hF.fin [(13, .pointer (some ⟨q, 0, none⟩)), (14, .pointer (some ⟨q, 0, none⟩)), (15, .pointer (some ⟨q, 0, none⟩)), (16, .pointer (some ⟨g, 0, none⟩)), (17, .pointer (some ⟨q, 0, none⟩)), (18, .pointer (some ⟨q, 0, none⟩)), (19, .pointer (some ⟨q, 3, none⟩)), (20, .slice mA mn mc), (21, .pointer (some ⟨(V.heap.size), 1, none⟩)), (22, .int .i64 a), (23, .int .i64 (pkI lm a)), (24, .pointer (some ⟨(V.heap.size), 3, none⟩)), (25, .int .i64 c), (26, .int .u32 c), (27, .pointer (some ⟨q, 0, none⟩)), (28, .pointer (some ⟨q, 0, none⟩)), (29, .pointer (some ⟨q, 3, none⟩)), (30, .slice mA mn mc), (31, .pointer (some ⟨(V.heap.size), 2, none⟩)), (32, .int .i64 b), (33, .int .i64 (pkI lm b)), (34, .int .i64 x'), (4, .int .i64 x')] [13, 14, 15, 16, 17, 18, 19, 20, 21, 22, 23, 24, 25, 26, 27, 28, 29, 30, 31, 32, 33, 34, 4] rfl (List.forall_mem_cons.2 ⟨hF.val 0 _ _ (hall 0 (show 0 < 23 by decide)) rfl rfl, (List.forall_mem_cons.2 ⟨hF.val 1 _ _ (hall 1 (show 1 < 23 by decide)) rfl rfl, (List.forall_mem_cons.2 ⟨hF.val 2 _ _ (hall 2 (show 2 < 23 by decide)) rfl rfl, (List.forall_mem_cons.2 ⟨hF.val 3 _ _ (hall 3 (show 3 < 23 by decide)) rfl rfl, (List.forall_mem_cons.2 ⟨hF.val 4 _ _ (hall 4 (show 4 < 23 by decide)) rfl rfl, (List.forall_mem_cons.2 ⟨hF.val 5 _ _ (hall 5 (show 5 < 23 by decide)) rfl rfl, (List.forall_mem_cons.2 ⟨hF.val 6 _ _ (hall 6 (show 6 < 23 by decide)) rfl rfl, (List.forall_mem_cons.2 ⟨hF.val 7 _ _ (hall 7 (show 7 < 23 by decide)) rfl rfl, (List.forall_mem_cons.2 ⟨hF.val 8 _ _ (hall 8 (show 8 < 23 by decide)) rfl rfl, (List.forall_mem_cons.2 ⟨hF.val 9 _ _ (hall 9 (show 9 < 23 by decide)) rfl rfl, (List.forall_mem_cons.2 ⟨hF.val 10 _ _ (hall 10 (show 10 < 23 by decide)) rfl rfl, (List.forall_mem_cons.2 ⟨hF.val 11 _ _ (hall 11 (show 11 < 23 by decide)) rfl rfl, (List.forall_mem_cons.2 ⟨hF.val 12 _ _ (hall 12 (show 12 < 23 by decide)) rfl rfl, (List.forall_mem_cons.2 ⟨hF.val 13 _ _ (hall 13 (show 13 < 23 by decide)) rfl rfl, (List.forall_mem_cons.2 ⟨hF.val 14 _ _ (hall 14 (show 14 < 23 by decide)) rfl rfl, (List.forall_mem_cons.2 ⟨hF.val 15 _ _ (hall 15 (show 15 < 23 by decide)) rfl rfl, (List.forall_mem_cons.2 ⟨hF.val 16 _ _ (hall 16 (show 16 < 23 by decide)) rfl rfl, (List.forall_mem_cons.2 ⟨hF.val 17 _ _ (hall 17 (show 17 < 23 by decide)) rfl rfl, (List.forall_mem_cons.2 ⟨hF.val 18 _ _ (hall 18 (show 18 < 23 by decide)) rfl rfl, (List.forall_mem_cons.2 ⟨hF.val 19 _ _ (hall 19 (show 19 < 23 by decide)) rfl rfl, (List.forall_mem_cons.2 ⟨hF.val 20 _ _ (hall 20 (show 20 < 23 by decide)) rfl rfl, (List.forall_mem_cons.2 ⟨es, (List.forall_mem_cons.2 ⟨e4, (fun _ h => absurd h List.not_mem_nil)⟩)⟩)⟩)⟩)⟩)⟩)⟩)⟩)⟩)⟩)⟩)⟩)⟩)⟩)⟩)⟩)⟩)⟩)⟩)⟩)⟩)⟩)⟩) (by decide)).trans (by kernel_rfl)
        clear hF hall
        subst hT
        clear hR hW es e4
        go_wp2_with fail
        go_ret
        exact SR.from hB1.out ⟨L', x', rfl, hRh.out⟩
    · rw [if_neg (fun h => hm h.2)]
      have hR := Lib.hid (SR.none_ hK1.st hB1)
      clear hK1 hO1 hB1 hK
      unfold mkRow at *
      go_enter Tryz.func78, Tryz.ntmps78
      go_wp2_with fail
      go_ret
      exact hR.out
  · rw [if_neg (fun h => h0 h.1)]
    have hR := Lib.hid (SR.none_ hK1.st hB1)
    clear hK1 hO1 hB1 hK
    unfold mkRow at *
    go_enter Tryz.func78, Tryz.ntmps78
    go_wp2_with fail
    go_ret
    exact hR.out
def dsKg0 : List (Option Nat) := [some 9, some 10, some 11, some 12, some 13, some 14, some 15, some 4]
def tbKg0 : List (List Nat) := [[], [0], [1], [2], [], [4], [3, 5], [6]]
def vsKg0 (g : Nat) (q : Nat) (p : Nat) (kA : Option Addr) (sA : Option Addr) (mA : Option Addr) (kn : Nat) (kc : Nat) (sn : Nat) (sc : Nat) (mn : Nat) (mc : Nat) (k : Int) (a : Int) (b : Int) (c : Int) (y : ByteArray) (x1 : Int) (x2 : Int) (x3 : Int) (c0 : UInt8) : List (Option Value) := [some (.pointer (some ⟨q, 0, none⟩)), some (.pointer (some ⟨q, 0, none⟩)), some (.pointer (some ⟨q, 0, none⟩)), some (.pointer (some ⟨g, 0, none⟩)), some (.pointer (some ⟨p, 4, none⟩)), some (.string y), none, none]
def dsKg1 : List (Option Nat) := [some 18, some 19, some 20, some 21, some 22, some 23, some 24, some 4]
def tbKg1 : List (List Nat) := [[], [0], [1], [2], [], [4], [3, 5], [6]]
def vsKg1 (g : Nat) (q : Nat) (p : Nat) (kA : Option Addr) (sA : Option Addr) (mA : Option Addr) (kn : Nat) (kc : Nat) (sn : Nat) (sc : Nat) (mn : Nat) (mc : Nat) (k : Int) (a : Int) (b : Int) (c : Int) (y : ByteArray) (x1 : Int) (x2 : Int) (x3 : Int) (c0 : UInt8) : List (Option Value) := [some (.pointer (some ⟨q, 0, none⟩)), some (.pointer (some ⟨q, 0, none⟩)), some (.pointer (some ⟨q, 0, none⟩)), some (.pointer (some ⟨g, 0, none⟩)), some (.pointer (some ⟨p, 1, none⟩)), some (.int .i64 a), none, none]
def dsKg2 : List (Option Nat) := [some 27, some 28, some 29, some 30, some 31, some 32, some 33, some 4]
def tbKg2 : List (List Nat) := [[], [0], [1], [2], [], [4], [3, 5], [6]]
def vsKg2 (g : Nat) (q : Nat) (p : Nat) (kA : Option Addr) (sA : Option Addr) (mA : Option Addr) (kn : Nat) (kc : Nat) (sn : Nat) (sc : Nat) (mn : Nat) (mc : Nat) (k : Int) (a : Int) (b : Int) (c : Int) (y : ByteArray) (x1 : Int) (x2 : Int) (x3 : Int) (c0 : UInt8) : List (Option Value) := [some (.pointer (some ⟨q, 0, none⟩)), some (.pointer (some ⟨q, 0, none⟩)), some (.pointer (some ⟨q, 1, none⟩)), some (.slice kA kn kc), some (.pointer (some ⟨p, 1, none⟩)), some (.int .i64 a), some (.int .i64 x1), some (.int .i64 x1)]
def dsKg3 : List (Option Nat) := [some 36, some 37, some 38, some 39, some 40, some 41, some 42, some 4]
def tbKg3 : List (List Nat) := [[], [0], [1], [2], [], [4], [3, 5], [6]]
def vsKg3 (g : Nat) (q : Nat) (p : Nat) (kA : Option Addr) (sA : Option Addr) (mA : Option Addr) (kn : Nat) (kc : Nat) (sn : Nat) (sc : Nat) (mn : Nat) (mc : Nat) (k : Int) (a : Int) (b : Int) (c : Int) (y : ByteArray) (x1 : Int) (x2 : Int) (x3 : Int) (c0 : UInt8) : List (Option Value) := [some (.pointer (some ⟨q, 0, none⟩)), some (.pointer (some ⟨q, 0, none⟩)), some (.pointer (some ⟨q, 2, none⟩)), some (.slice sA sn sc), some (.pointer (some ⟨p, 1, none⟩)), some (.int .i64 a), some (.int .i64 x1), some (.int .i64 x1)]
def dsKg4 : List (Option Nat) := [some 45, some 46, some 47, some 48, some 49, some 50, some 51, some 4]
def tbKg4 : List (List Nat) := [[], [0], [1], [2], [], [4], [3, 5], [6]]
def vsKg4 (g : Nat) (q : Nat) (p : Nat) (kA : Option Addr) (sA : Option Addr) (mA : Option Addr) (kn : Nat) (kc : Nat) (sn : Nat) (sc : Nat) (mn : Nat) (mc : Nat) (k : Int) (a : Int) (b : Int) (c : Int) (y : ByteArray) (x1 : Int) (x2 : Int) (x3 : Int) (c0 : UInt8) : List (Option Value) := [some (.pointer (some ⟨q, 0, none⟩)), some (.pointer (some ⟨q, 0, none⟩)), some (.pointer (some ⟨q, 0, none⟩)), some (.pointer (some ⟨g, 0, none⟩)), some (.pointer (some ⟨p, 4, none⟩)), some (.string y), none, none]
def givenT (known sent : List (Option Tm)) (k a : Int) (s : List UInt8) : Option Tm := sel none k [(0, dataT s), (1, nonceT 0 a), (2, pkO known a), (3, pkO sent a), (4, baseT s), (12, listT [])]
theorem NmL.pickN {L : List Tm} {l : List Int} {os : List (Option Tm)} (h : NmL L l os) (i : Int) : Nm L (pkI l i) (pkO os i) := by
  refine ⟨h.pick i, fun e => ?_⟩
  unfold pkI pkO at *
  split
  · rfl
  · rename_i hi
    rw [if_neg hi] at e
    cases hx : l[i.toNat]? with
    | none => rfl
    | some x =>
      have hl := (List.getElem?_eq_some_iff.1 hx).1
      obtain ⟨o, ho⟩ : ∃ o, os[i.toNat]? = some o := ⟨os[i.toNat]'(by rw [← h.len]; exact hl), List.getElem?_eq_getElem _⟩
      rw [ho] at e
      exact (h.nm _ x o hx ho).2 e
set_option maxRecDepth 100000 in
set_option maxHeartbeats 4000000 in
theorem given_any {w0 : World} {g q : Nat} {V : World} {Lt : List Tm} {kA sA mA : Option Addr} {kn kc sn sc mn mc : Nat} {lk ls lm : List Int} {known sent made : List (Option Tm)} (hK : KS w0 g q V Lt kA sA mA kn kc sn sc mn mc lk ls lm known sent made) (hL : Lt.length < 100) (k a b c : Int) (s : List UInt8) (hsl : s.length ≤ 4000000000) :
    Calls Tryz.prog 81 #[.pointer (some ⟨q, 0, none⟩), .agg (mkRow k a b c s).toArray] V (SR w0 g V Lt (givenT known sent k a s)) := by
  have hB1 := below_new V (.cells (mkRow k a b c s).toArray 79)
  have hK1 := hK.below hB1
  have hO1 := op_box V k a b c s
  have d0 := hO1.cells.1
  by_cases h0 : k = 0
  · skip
    subst h0
    rw [show givenT known sent 0 a s = dataT s from rfl]
    have hCl := Lib.hid (fun W' (h : Stay (V.alloc (.cells (mkRow 0 a b c s).toArray 79)) W') => And.intro (hK1.kf.stay h).cells (hO1.stay h).cells)
    have cCall := Lib.hid (fun W' (h : Below (V.alloc (.cells (mkRow 0 a b c s).toArray 79)).heap.size (V.alloc (.cells (mkRow 0 a b c s).toArray 79)) W') => (hK1.st.keep h).data hL s hsl)
    generalize dataT s = res at *
    replace hB1 := Lib.hid hB1
    clear hK1 hO1 hK
    unfold mkRow at *
    generalize bs s = y at *
    go_enter Tryz.func81, Tryz.ntmps81
    go_upto_region 3 with fail
    generalize (V.alloc (.cells [Value.int .i64 0, .int .i64 a, .int .i64 b, .int .i64 c, .string y].toArray 79)) = W1 at *
    clear d0
    refine region_iw tbKg0 dsKg0 (vsKg0 g q (V.heap.size) kA sA mA kn kc sn sc mn mc 0 a b c y 0 0 0 ((0 : UInt8))) (fun L T W => Stay W1 W ∧ (L 6 = false → Below W1.heap.size W1 W) ∧ (L 6 = true → SR w0 g W1 Lt res (.returned (T.getD 15 undef)) W) ∧ (L 7 = true → L 6 = true ∧ T.getD 4 undef = T.getD 15 undef)) rfl (by decide) (by kernel_rfl) ?hlt ?hstep ?hdone ?hstart
    case hstart => exact ⟨Stay.of_below (drewN_below 1), fun _ => drewN_below 1, fun h => absurd h (inv_not (n := 8) (i := 6) (by decide)), fun h => absurd h (inv_not (n := 8) (i := 7) (by decide))⟩
    case hlt =>
      intro ix o ho
      have hi := (Array.getElem?_eq_some_iff.1 ho).1
      match ix, hi with
      | 0, _ => obtain rfl := Option.some.inj ho; decide
      | 1, _ => obtain rfl := Option.some.inj ho; decide
      | 2, _ => obtain rfl := Option.some.inj ho; decide
      | 3, _ => obtain rfl := Option.some.inj ho; decide
      | 4, _ => obtain rfl := Option.some.inj ho; decide
      | 5, _ => obtain rfl := Option.some.inj ho; decide
      | 6, _ => obtain rfl := Option.some.inj ho; decide
      | 7, _ => obtain rfl := Option.some.inj ho; decide
    case hstep =>
      intro T1 hE L T W ix o hF hW hc ho hLi hd K hK
      have hN : T1.size = 59 := by rw [hE]; rfl
      have f0 : T.getD 0 undef = .pointer (some ⟨q, 0, none⟩) := (hF.old 0 (by decide)).trans (by rw [hE]; rfl)
      have f3 : T.getD 3 undef = .pointer (some ⟨(V.heap.size), 0, none⟩) := (hF.old 3 (by decide)).trans (by rw [hE]; rfl)
      clear hE
      replace hF := Lib.hid hF
      replace hW := Lib.hid hW
      replace hK := Lib.hid hK
      have hi := (List.getElem?_eq_some_iff.1 ho).1
      match ix, hi with
      | 0, _ =>
        obtain rfl := Option.some.inj ho
        clear hd ho hi hc hLi
        exact st_val (v := .pointer (some ⟨q, 0, none⟩)) (w' := W) (want_none rfl) (by unfold execOp; dsimp only [Act.eval]; simp only [f0]; go_simp) (hK.out _ _ (hF.out.put (k := 0) (s := 9) rfl (by decide) hN (by decide) (fun u hu => Option.some.inj (Option.some.inj (show some (some (.pointer (some ⟨q, 0, none⟩))) = some (some u) from hu))) (by dsimp only; rw [gd_ne (show 9 ≠ 15 by decide), gd_ne (show 9 ≠ 4 by decide)]; exact hW.out)))
      | 1, _ =>
        obtain rfl := Option.some.inj ho
        have l0 : L 0 = true := dep_of hd (n := 0) (by decide)
        have e9 : T.getD 9 undef = .pointer (some ⟨q, 0, none⟩) := hF.out.val 0 9 _ l0 rfl rfl
        clear hd ho hi hc hLi
        exact st_val (v := .pointer (some ⟨q, 0, none⟩)) (w' := W) (want_none rfl) (by unfold execOp; dsimp only [Act.eval]; simp only [e9]; go_simp) (hK.out _ _ (hF.out.put (k := 1) (s := 10) rfl (by decide) hN (by decide) (fun u hu => Option.some.inj (Option.some.inj (show some (some (.pointer (some ⟨q, 0, none⟩))) = some (some u) from hu))) (by dsimp only; rw [gd_ne (show 10 ≠ 15 by decide), gd_ne (show 10 ≠ 4 by decide)]; exact hW.out)))
      | 2, _ =>
        obtain rfl := Option.some.inj ho
        have l1 : L 1 = true := dep_of hd (n := 1) (by decide)
        have e10 : T.getD 10 undef = .pointer (some ⟨q, 0, none⟩) := hF.out.val 1 10 _ l1 rfl rfl
        clear hd ho hi hc hLi
        exact st_val (v := .pointer (some ⟨q, 0, none⟩)) (w' := W) (want_none rfl) (by unfold execOp; dsimp only [Act.eval]; simp only [e10]; go_simp) (hK.out _ _ (hF.out.put (k := 2) (s := 11) rfl (by decide) hN (by decide) (fun u hu => Option.some.inj (Option.some.inj (show some (some (.pointer (some ⟨q, 0, none⟩))) = some (some u) from hu))) (by dsimp only; rw [gd_ne (show 11 ≠ 15 by decide), gd_ne (show 11 ≠ 4 by decide)]; exact hW.out)))
      | 3, _ =>
        obtain rfl := Option.some.inj ho
        have l2 : L 2 = true := dep_of hd (n := 2) (by decide)
        have e11 : T.getD 11 undef = .pointer (some ⟨q, 0, none⟩) := hF.out.val 2 11 _ l2 rfl rfl
        have hcc := (hCl.out W hW.out.1).1.1
        clear hd ho hi hc hLi
        exact st_val (v := .pointer (some ⟨g, 0, none⟩)) (w' := W) (want_none rfl) (by unfold execOp; dsimp only [Act.eval]; simp only [e11]; go_simp) (hK.out _ _ (hF.out.put (k := 3) (s := 12) rfl (by decide) hN (by decide) (fun u hu => Option.some.inj (Option.some.inj (show some (some (.pointer (some ⟨g, 0, none⟩))) = some (some u) from hu))) (by dsimp only; rw [gd_ne (show 12 ≠ 15 by decide), gd_ne (show 12 ≠ 4 by decide)]; exact hW.out)))
      | 4, _ =>
        obtain rfl := Option.some.inj ho
        clear hd ho hi hc hLi
        exact st_val (v := .pointer (some ⟨(V.heap.size), 4, none⟩)) (w' := W) (want_none rfl) (by unfold execOp; dsimp only [Act.eval]; simp only [f3]; go_simp) (hK.out _ _ (hF.out.put (k := 4) (s := 13) rfl (by decide) hN (by decide) (fun u hu => Option.some.inj (Option.some.inj (show some (some (.pointer (some ⟨(V.heap.size), 4, none⟩))) = some (some u) from hu))) (by dsimp only; rw [gd_ne (show 13 ≠ 15 by decide), gd_ne (show 13 ≠ 4 by decide)]; exact hW.out)))
      | 5, _ =>
        obtain rfl := Option.some.inj ho
        have l4 : L 4 = true := dep_of hd (n := 4) (by decide)
        have e13 : T.getD 13 undef = .pointer (some ⟨(V.heap.size), 4, none⟩) := hF.out.val 4 13 _ l4 rfl rfl
        have hcc := (hCl.out W hW.out.1).2.2.2.2.2
        clear hd ho hi hc hLi
        exact st_val (v := .string y) (w' := W) (want_none rfl) (by unfold execOp; dsimp only [Act.eval]; simp only [e13]; go_simp) (hK.out _ _ (hF.out.put (k := 5) (s := 14) rfl (by decide) hN (by decide) (fun u hu => Option.some.inj (Option.some.inj (show some (some (.string y)) = some (some u) from hu))) (by dsimp only; rw [gd_ne (show 14 ≠ 15 by decide), gd_ne (show 14 ≠ 4 by decide)]; exact hW.out)))
      | 6, _ =>
        obtain rfl := Option.some.inj ho
        have l3 : L 3 = true := dep_of hd (n := 3) (by decide)
        have e12 : T.getD 12 undef = .pointer (some ⟨g, 0, none⟩) := hF.out.val 3 12 _ l3 rfl rfl
        have l5 : L 5 = true := dep_of hd (n := 5) (by decide)
        have e14 : T.getD 14 undef = .string y := hF.out.val 5 14 _ l5 rfl rfl
        have hb := hW.out.2.1 hLi
        have cc := Lib.hid (cCall.out W hb)
        clear hd ho hi hc
        refine st_call (want_none rfl) (by unfold execOp; go_simp) cc.out ?_
        rintro r w3 ⟨L', x', rfl, a1, a2, a3, a4, a5, a6⟩
        exact ⟨_, rfl, hK.out _ _ (hF.out.put (k := 6) (s := 15) rfl (by decide) hN (by decide) (fun u hu => by cases hu) ⟨hW.out.1.trans a4, fun h => absurd h (by simp), fun _ => (by rw [gd_eq (by rw [hF.out.size, hN]; decide)]; exact SR.from hb ⟨L', x', rfl, a1, a2, a3, a4, a5, a6⟩), fun h => absurd (hW.out.2.2.2 h).1 (by rw [hLi]; decide)⟩)⟩
      | 7, _ =>
        obtain rfl := Option.some.inj ho
        have l6 : L 6 = true := dep_of hd (n := 6) (by decide)
        clear hd ho hi hc hLi
        exact st_val (v := T.getD 15 undef) (w' := W) (want_none rfl) rfl (hK.out _ _ (hF.out.put (k := 7) (s := 4) rfl (by decide) hN (by decide) (fun u hu => by cases hu) ⟨hW.out.1, hW.out.2.1, fun h => (by rw [gd_ne (show 4 ≠ 15 by decide)]; exact hW.out.2.2.1 h), fun _ => ⟨l6, (by rw [gd_eq (by rw [hF.out.size, hN]; decide), gd_ne (show 4 ≠ 15 by decide)])⟩⟩))
    case hdone =>
      intro L T W2 hF hW hall
      obtain ⟨L', x', es, hR⟩ := hW.2.2.1 (hall 6 (by decide))
      replace es := Ending.returned.inj es
      have e4 := (hW.2.2.2 (hall 7 (by decide))).2.trans es
      have hRh := Lib.hid hR
      have hT : T = #[.pointer (some ⟨q, 0, none⟩), .agg #[.int .i64 0, .int .i64 a, .int .i64 b, .int .i64 c, .string y], undef, .pointer (some ⟨(V.heap.size), 0, none⟩), .int .i64 x', .pointer (some ⟨(V.heap.size), 0, none⟩), .int .i64 0, .bool true, .bool true, .pointer (some ⟨q, 0, none⟩), .pointer (some ⟨q, 0, none⟩), .pointer (some ⟨q, 0, none⟩), .pointer (some ⟨g, 0, none⟩), .pointer (some ⟨(V.heap.size), 4, none⟩), .string y, .int .i64 x', undef, undef, undef, undef, undef, undef, undef, undef, undef, undef, undef, undef, undef, undef, undef, undef, undef, undef, undef, undef, undef, undef, undef, undef, undef, undef, undef, undef, undef, undef, undef, undef, undef, undef, undef, undef, undef, undef, undef, undef, undef, undef, undef] := (hF.fin [(9, .pointer (some ⟨q, 0, none⟩)), (10, .pointer (some ⟨q, 0, none⟩)), (11, .pointer (some ⟨q, 0, none⟩)), (12, .pointer (some ⟨g, 0, none⟩)), (13, .pointer (some ⟨(V.heap.size), 4, none⟩)), (14, .string y), (15, .int .i64 x'), (4, .int .i64 x')] [9, 10, 11, 12, 13, 14, 15, 4] rfl (List.forall_mem_cons.2 ⟨hF.val 0 _ _ (hall 0 (show 0 < 8 by decide)) rfl rfl, (List.forall_mem_cons.2 ⟨hF.val 1 _ _ (hall 1 (show 1 < 8 by decide)) rfl rfl, (List.forall_mem_cons.2 ⟨hF.val 2 _ _ (hall 2 (show 2 < 8 by decide)) rfl rfl, (List.forall_mem_cons.2 ⟨hF.val 3 _ _ (hall 3 (show 3 < 8 by decide)) rfl rfl, (List.forall_mem_cons.2 ⟨hF.val 4 _ _ (hall 4 (show 4 < 8 by decide)) rfl rfl, (List.forall_mem_cons.2 ⟨hF.val 5 _ _ (hall 5 (show 5 < 8 by decide)) rfl rfl, (List.forall_mem_cons.2 ⟨es, (List.forall_mem_cons.2 ⟨e4, (fun _ h => absurd h List.not_mem_nil)⟩)⟩)⟩)⟩)⟩)⟩)⟩)⟩) (by decide)).trans (by kernel_rfl)
      clear hF hall
      subst hT
      clear hR hW es e4
      go_wp2_with fail
      go_ret
      exact SR.from hB1.out ⟨L', x', rfl, hRh.out⟩
  by_cases h1 : k = 1
  · skip
    subst h1
    rw [show givenT known sent 1 a s = nonceT 0 a from rfl]
    have hCl := Lib.hid (fun W' (h : Stay (V.alloc (.cells (mkRow 1 a b c s).toArray 79)) W') => And.intro (hK1.kf.stay h).cells (hO1.stay h).cells)
    have cCall := Lib.hid (fun W' (h : Below (V.alloc (.cells (mkRow 1 a b c s).toArray 79)).heap.size (V.alloc (.cells (mkRow 1 a b c s).toArray 79)) W') => (hK1.st.keep h).nonce hL 0 a)
    generalize nonceT 0 a = res at *
    replace hB1 := Lib.hid hB1
    clear hK1 hO1 hK
    unfold mkRow at *
    generalize bs s = y at *
    go_enter Tryz.func81, Tryz.ntmps81
    go_upto_region 5 with fail
    generalize (V.alloc (.cells [Value.int .i64 1, .int .i64 a, .int .i64 b, .int .i64 c, .string y].toArray 79)) = W1 at *
    clear d0
    refine region_iw tbKg1 dsKg1 (vsKg1 g q (V.heap.size) kA sA mA kn kc sn sc mn mc 1 a b c y 0 0 0 ((0 : UInt8))) (fun L T W => Stay W1 W ∧ (L 6 = false → Below W1.heap.size W1 W) ∧ (L 6 = true → SR w0 g W1 Lt res (.returned (T.getD 24 undef)) W) ∧ (L 7 = true → L 6 = true ∧ T.getD 4 undef = T.getD 24 undef)) rfl (by decide) (by kernel_rfl) ?hlt ?hstep ?hdone ?hstart
    case hstart => exact ⟨Stay.of_below (drewN_below 1), fun _ => drewN_below 1, fun h => absurd h (inv_not (n := 8) (i := 6) (by decide)), fun h => absurd h (inv_not (n := 8) (i := 7) (by decide))⟩
    case hlt =>
      intro ix o ho
      have hi := (Array.getElem?_eq_some_iff.1 ho).1
      match ix, hi with
      | 0, _ => obtain rfl := Option.some.inj ho; decide
      | 1, _ => obtain rfl := Option.some.inj ho; decide
      | 2, _ => obtain rfl := Option.some.inj ho; decide
      | 3, _ => obtain rfl := Option.some.inj ho; decide
      | 4, _ => obtain rfl := Option.some.inj ho; decide
      | 5, _ => obtain rfl := Option.some.inj ho; decide
      | 6, _ => obtain rfl := Option.some.inj ho; decide
      | 7, _ => obtain rfl := Option.some.inj ho; decide
    case hstep =>
      intro T1 hE L T W ix o hF hW hc ho hLi hd K hK
      have hN : T1.size = 59 := by rw [hE]; rfl
      have f0 : T.getD 0 undef = .pointer (some ⟨q, 0, none⟩) := (hF.old 0 (by decide)).trans (by rw [hE]; rfl)
      have f3 : T.getD 3 undef = .pointer (some ⟨(V.heap.size), 0, none⟩) := (hF.old 3 (by decide)).trans (by rw [hE]; rfl)
      clear hE
      replace hF := Lib.hid hF
      replace hW := Lib.hid hW
      replace hK := Lib.hid hK
      have hi := (List.getElem?_eq_some_iff.1 ho).1
      match ix, hi with
      | 0, _ =>
        obtain rfl := Option.some.inj ho
        clear hd ho hi hc hLi
        exact st_val (v := .pointer (some ⟨q, 0, none⟩)) (w' := W) (want_none rfl) (by unfold execOp; dsimp only [Act.eval]; simp only [f0]; go_simp) (hK.out _ _ (hF.out.put (k := 0) (s := 18) rfl (by decide) hN (by decide) (fun u hu => Option.some.inj (Option.some.inj (show some (some (.pointer (some ⟨q, 0, none⟩))) = some (some u) from hu))) (by dsimp only; rw [gd_ne (show 18 ≠ 24 by decide), gd_ne (show 18 ≠ 4 by decide)]; exact hW.out)))
      | 1, _ =>
        obtain rfl := Option.some.inj ho
        have l0 : L 0 = true := dep_of hd (n := 0) (by decide)
        have e18 : T.getD 18 undef = .pointer (some ⟨q, 0, none⟩) := hF.out.val 0 18 _ l0 rfl rfl
        clear hd ho hi hc hLi
        exact st_val (v := .pointer (some ⟨q, 0, none⟩)) (w' := W) (want_none rfl) (by unfold execOp; dsimp only [Act.eval]; simp only [e18]; go_simp) (hK.out _ _ (hF.out.put (k := 1) (s := 19) rfl (by decide) hN (by decide) (fun u hu => Option.some.inj (Option.some.inj (show some (some (.pointer (some ⟨q, 0, none⟩))) = some (some u) from hu))) (by dsimp only; rw [gd_ne (show 19 ≠ 24 by decide), gd_ne (show 19 ≠ 4 by decide)]; exact hW.out)))
      | 2, _ =>
        obtain rfl := Option.some.inj ho
        have l1 : L 1 = true := dep_of hd (n := 1) (by decide)
        have e19 : T.getD 19 undef = .pointer (some ⟨q, 0, none⟩) := hF.out.val 1 19 _ l1 rfl rfl
        clear hd ho hi hc hLi
        exact st_val (v := .pointer (some ⟨q, 0, none⟩)) (w' := W) (want_none rfl) (by unfold execOp; dsimp only [Act.eval]; simp only [e19]; go_simp) (hK.out _ _ (hF.out.put (k := 2) (s := 20) rfl (by decide) hN (by decide) (fun u hu => Option.some.inj (Option.some.inj (show some (some (.pointer (some ⟨q, 0, none⟩))) = some (some u) from hu))) (by dsimp only; rw [gd_ne (show 20 ≠ 24 by decide), gd_ne (show 20 ≠ 4 by decide)]; exact hW.out)))
      | 3, _ =>
        obtain rfl := Option.some.inj ho
        have l2 : L 2 = true := dep_of hd (n := 2) (by decide)
        have e20 : T.getD 20 undef = .pointer (some ⟨q, 0, none⟩) := hF.out.val 2 20 _ l2 rfl rfl
        have hcc := (hCl.out W hW.out.1).1.1
        clear hd ho hi hc hLi
        exact st_val (v := .pointer (some ⟨g, 0, none⟩)) (w' := W) (want_none rfl) (by unfold execOp; dsimp only [Act.eval]; simp only [e20]; go_simp) (hK.out _ _ (hF.out.put (k := 3) (s := 21) rfl (by decide) hN (by decide) (fun u hu => Option.some.inj (Option.some.inj (show some (some (.pointer (some ⟨g, 0, none⟩))) = some (some u) from hu))) (by dsimp only; rw [gd_ne (show 21 ≠ 24 by decide), gd_ne (show 21 ≠ 4 by decide)]; exact hW.out)))
      | 4, _ =>
        obtain rfl := Option.some.inj ho
        clear hd ho hi hc hLi
        exact st_val (v := .pointer (some ⟨(V.heap.size), 1, none⟩)) (w' := W) (want_none rfl) (by unfold execOp; dsimp only [Act.eval]; simp only [f3]; go_simp) (hK.out _ _ (hF.out.put (k := 4) (s := 22) rfl (by decide) hN (by decide) (fun u hu => Option.some.inj (Option.some.inj (show some (some (.pointer (some ⟨(V.heap.size), 1, none⟩))) = some (some u) from hu))) (by dsimp only; rw [gd_ne (show 22 ≠ 24 by decide), gd_ne (show 22 ≠ 4 by decide)]; exact hW.out)))
      | 5, _ =>
        obtain rfl := Option.some.inj ho
        have l4 : L 4 = true := dep_of hd (n := 4) (by decide)
        have e22 : T.getD 22 undef = .pointer (some ⟨(V.heap.size), 1, none⟩) := hF.out.val 4 22 _ l4 rfl rfl
        have hcc := (hCl.out W hW.out.1).2.2.1
        clear hd ho hi hc hLi
        exact st_val (v := .int .i64 a) (w' := W) (want_none rfl) (by unfold execOp; dsimp only [Act.eval]; simp only [e22]; go_simp) (hK.out _ _ (hF.out.put (k := 5) (s := 23) rfl (by decide) hN (by decide) (fun u hu => Option.some.inj (Option.some.inj (show some (some (.int .i64 a)) = some (some u) from hu))) (by dsimp only; rw [gd_ne (show 23 ≠ 24 by decide), gd_ne (show 23 ≠ 4 by decide)]; exact hW.out)))
      | 6, _ =>
        obtain rfl := Option.some.inj ho
        have l3 : L 3 = true := dep_of hd (n := 3) (by decide)
        have e21 : T.getD 21 undef = .pointer (some ⟨g, 0, none⟩) := hF.out.val 3 21 _ l3 rfl rfl
        have l5 : L 5 = true := dep_of hd (n := 5) (by decide)
        have e23 : T.getD 23 undef = .int .i64 a := hF.out.val 5 23 _ l5 rfl rfl
        have hb := hW.out.2.1 hLi
        have cc := Lib.hid (cCall.out W hb)
        clear hd ho hi hc
        refine st_call (want_none rfl) (by unfold execOp; go_simp) cc.out ?_
        rintro r w3 ⟨L', x', rfl, a1, a2, a3, a4, a5, a6⟩
        exact ⟨_, rfl, hK.out _ _ (hF.out.put (k := 6) (s := 24) rfl (by decide) hN (by decide) (fun u hu => by cases hu) ⟨hW.out.1.trans a4, fun h => absurd h (by simp), fun _ => (by rw [gd_eq (by rw [hF.out.size, hN]; decide)]; exact SR.from hb ⟨L', x', rfl, a1, a2, a3, a4, a5, a6⟩), fun h => absurd (hW.out.2.2.2 h).1 (by rw [hLi]; decide)⟩)⟩
      | 7, _ =>
        obtain rfl := Option.some.inj ho
        have l6 : L 6 = true := dep_of hd (n := 6) (by decide)
        clear hd ho hi hc hLi
        exact st_val (v := T.getD 24 undef) (w' := W) (want_none rfl) rfl (hK.out _ _ (hF.out.put (k := 7) (s := 4) rfl (by decide) hN (by decide) (fun u hu => by cases hu) ⟨hW.out.1, hW.out.2.1, fun h => (by rw [gd_ne (show 4 ≠ 24 by decide)]; exact hW.out.2.2.1 h), fun _ => ⟨l6, (by rw [gd_eq (by rw [hF.out.size, hN]; decide), gd_ne (show 4 ≠ 24 by decide)])⟩⟩))
    case hdone =>
      intro L T W2 hF hW hall
      obtain ⟨L', x', es, hR⟩ := hW.2.2.1 (hall 6 (by decide))
      replace es := Ending.returned.inj es
      have e4 := (hW.2.2.2 (hall 7 (by decide))).2.trans es
      have hRh := Lib.hid hR
      have hT : T = #[.pointer (some ⟨q, 0, none⟩), .agg #[.int .i64 1, .int .i64 a, .int .i64 b, .int .i64 c, .string y], undef, .pointer (some ⟨(V.heap.size), 0, none⟩), .int .i64 x', .pointer (some ⟨(V.heap.size), 0, none⟩), .int .i64 1, .bool false, .bool false, undef, undef, undef, undef, undef, undef, undef, .bool true, .bool true, .pointer (some ⟨q, 0, none⟩), .pointer (some ⟨q, 0, none⟩), .pointer (some ⟨q, 0, none⟩), .pointer (some ⟨g, 0, none⟩), .pointer (some ⟨(V.heap.size), 1, none⟩), .int .i64 a, .int .i64 x', undef, undef, undef, undef, undef, undef, undef, undef, undef, undef, undef, undef, undef, undef, undef, undef, undef, undef, undef, undef, undef, undef, undef, undef, undef, undef, undef, undef, undef, undef, undef, undef, undef, undef] := (hF.fin [(18, .pointer (some ⟨q, 0, none⟩)), (19, .pointer (some ⟨q, 0, none⟩)), (20, .pointer (some ⟨q, 0, none⟩)), (21, .pointer (some ⟨g, 0, none⟩)), (22, .pointer (some ⟨(V.heap.size), 1, none⟩)), (23, .int .i64 a), (24, .int .i64 x'), (4, .int .i64 x')] [18, 19, 20, 21, 22, 23, 24, 4] rfl (List.forall_mem_cons.2 ⟨hF.val 0 _ _ (hall 0 (show 0 < 8 by decide)) rfl rfl, (List.forall_mem_cons.2 ⟨hF.val 1 _ _ (hall 1 (show 1 < 8 by decide)) rfl rfl, (List.forall_mem_cons.2 ⟨hF.val 2 _ _ (hall 2 (show 2 < 8 by decide)) rfl rfl, (List.forall_mem_cons.2 ⟨hF.val 3 _ _ (hall 3 (show 3 < 8 by decide)) rfl rfl, (List.forall_mem_cons.2 ⟨hF.val 4 _ _ (hall 4 (show 4 < 8 by decide)) rfl rfl, (List.forall_mem_cons.2 ⟨hF.val 5 _ _ (hall 5 (show 5 < 8 by decide)) rfl rfl, (List.forall_mem_cons.2 ⟨es, (List.forall_mem_cons.2 ⟨e4, (fun _ h => absurd h List.not_mem_nil)⟩)⟩)⟩)⟩)⟩)⟩)⟩)⟩) (by decide)).trans (by kernel_rfl)
      clear hF hall
      subst hT
      clear hR hW es e4
      go_wp2_with fail
      go_ret
      exact SR.from hB1.out ⟨L', x', rfl, hRh.out⟩
  by_cases h2 : k = 2
  · skip
    subst h2
    rw [show givenT known sent 2 a s = pkO known a from rfl]
    have hCl := Lib.hid (fun W' (h : Stay (V.alloc (.cells (mkRow 2 a b c s).toArray 79)) W') => And.intro (hK1.kf.stay h).cells (hO1.stay h).cells)
    have hAtk := Lib.hid (fun W' (h : Stay (V.alloc (.cells (mkRow 2 a b c s).toArray 79)) W') (i : Int) => rat_any (c := kc) i W' hK.hk (hK1.kf.stay h).k.ints)
    have hRz := Lib.hid (fun W' (h : Below (V.alloc (.cells (mkRow 2 a b c s).toArray 79)).heap.size (V.alloc (.cells (mkRow 2 a b c s).toArray 79)) W') => SR.same (hK1.st.keep h) (hK1.nk.pickN a) (hB1.trans (h.mono hB1.size)))
    generalize pkO known a = res at *
    clear hB1 hK1 hO1 hK
    unfold mkRow at *
    generalize bs s = y at *
    go_enter Tryz.func81, Tryz.ntmps81
    go_upto_region 7 with fail
    generalize (V.alloc (.cells [Value.int .i64 2, .int .i64 a, .int .i64 b, .int .i64 c, .string y].toArray 79)) = W1 at *
    clear d0
    refine region_iw tbKg2 dsKg2 (vsKg2 g q (V.heap.size) kA sA mA kn kc sn sc mn mc 2 a b c y (pkI lk a) 0 0 ((0 : UInt8))) (fun L T W => Below W1.heap.size W1 W) rfl (by decide) (by kernel_rfl) ?hlt ?hstep ?hdone ?hstart
    case hstart => exact drewN_below 1
    case hlt =>
      intro ix o ho
      have hi := (Array.getElem?_eq_some_iff.1 ho).1
      match ix, hi with
      | 0, _ => obtain rfl := Option.some.inj ho; decide
      | 1, _ => obtain rfl := Option.some.inj ho; decide
      | 2, _ => obtain rfl := Option.some.inj ho; decide
      | 3, _ => obtain rfl := Option.some.inj ho; decide
      | 4, _ => obtain rfl := Option.some.inj ho; decide
      | 5, _ => obtain rfl := Option.some.inj ho; decide
      | 6, _ => obtain rfl := Option.some.inj ho; decide
      | 7, _ => obtain rfl := Option.some.inj ho; decide
    case hstep =>
      intro T1 hE L T W ix o hF hW hc ho hLi hd K hK
      have hN : T1.size = 59 := by rw [hE]; rfl
      have f0 : T.getD 0 undef = .pointer (some ⟨q, 0, none⟩) := (hF.old 0 (by decide)).trans (by rw [hE]; rfl)
      have f3 : T.getD 3 undef = .pointer (some ⟨(V.heap.size), 0, none⟩) := (hF.old 3 (by decide)).trans (by rw [hE]; rfl)
      clear hE
      replace hF := Lib.hid hF
      replace hW := Lib.hid hW
      replace hK := Lib.hid hK
      have hi := (List.getElem?_eq_some_iff.1 ho).1
      match ix, hi with
      | 0, _ =>
        obtain rfl := Option.some.inj ho
        clear hd ho hi hc hLi
        exact st_val (v := .pointer (some ⟨q, 0, none⟩)) (w' := W) (want_none rfl) (by unfold execOp; dsimp only [Act.eval]; simp only [f0]; go_simp) (hK.out _ _ (hF.out.put (k := 0) (s := 27) rfl (by decide) hN (by decide) (fun u hu => Option.some.inj (Option.some.inj (show some (some (.pointer (some ⟨q, 0, none⟩))) = some (some u) from hu))) hW.out))
      | 1, _ =>
        obtain rfl := Option.some.inj ho
        have l0 : L 0 = true := dep_of hd (n := 0) (by decide)
        have e27 : T.getD 27 undef = .pointer (some ⟨q, 0, none⟩) := hF.out.val 0 27 _ l0 rfl rfl
        clear hd ho hi hc hLi
        exact st_val (v := .pointer (some ⟨q, 0, none⟩)) (w' := W) (want_none rfl) (by unfold execOp; dsimp only [Act.eval]; simp only [e27]; go_simp) (hK.out _ _ (hF.out.put (k := 1) (s := 28) rfl (by decide) hN (by decide) (fun u hu => Option.some.inj (Option.some.inj (show some (some (.pointer (some ⟨q, 0, none⟩))) = some (some u) from hu))) hW.out))
      | 2, _ =>
        obtain rfl := Option.some.inj ho
        have l1 : L 1 = true := dep_of hd (n := 1) (by decide)
        have e28 : T.getD 28 undef = .pointer (some ⟨q, 0, none⟩) := hF.out.val 1 28 _ l1 rfl rfl
        clear hd ho hi hc hLi
        exact st_val (v := .pointer (some ⟨q, 1, none⟩)) (w' := W) (want_none rfl) (by unfold execOp; dsimp only [Act.eval]; simp only [e28]; go_simp) (hK.out _ _ (hF.out.put (k := 2) (s := 29) rfl (by decide) hN (by decide) (fun u hu => Option.some.inj (Option.some.inj (show some (some (.pointer (some ⟨q, 1, none⟩))) = some (some u) from hu))) hW.out))
      | 3, _ =>
        obtain rfl := Option.some.inj ho
        have l2 : L 2 = true := dep_of hd (n := 2) (by decide)
        have e29 : T.getD 29 undef = .pointer (some ⟨q, 1, none⟩) := hF.out.val 2 29 _ l2 rfl rfl
        have hcc := (hCl.out W (Stay.of_below hW.out)).1.2.1
        clear hd ho hi hc hLi
        exact st_val (v := .slice kA kn kc) (w' := W) (want_none rfl) (by unfold execOp; dsimp only [Act.eval]; simp only [e29]; go_simp) (hK.out _ _ (hF.out.put (k := 3) (s := 30) rfl (by decide) hN (by decide) (fun u hu => Option.some.inj (Option.some.inj (show some (some (.slice kA kn kc)) = some (some u) from hu))) hW.out))
      | 4, _ =>
        obtain rfl := Option.some.inj ho
        clear hd ho hi hc hLi
        exact st_val (v := .pointer (some ⟨(V.heap.size), 1, none⟩)) (w' := W) (want_none rfl) (by unfold execOp; dsimp only [Act.eval]; simp only [f3]; go_simp) (hK.out _ _ (hF.out.put (k := 4) (s := 31) rfl (by decide) hN (by decide) (fun u hu => Option.some.inj (Option.some.inj (show some (some (.pointer (some ⟨(V.heap.size), 1, none⟩))) = some (some u) from hu))) hW.out))
      | 5, _ =>
        obtain rfl := Option.some.inj ho
        have l4 : L 4 = true := dep_of hd (n := 4) (by decide)
        have e31 : T.getD 31 undef = .pointer (some ⟨(V.heap.size), 1, none⟩) := hF.out.val 4 31 _ l4 rfl rfl
        have hcc := (hCl.out W (Stay.of_below hW.out)).2.2.1
        clear hd ho hi hc hLi
        exact st_val (v := .int .i64 a) (w' := W) (want_none rfl) (by unfold execOp; dsimp only [Act.eval]; simp only [e31]; go_simp) (hK.out _ _ (hF.out.put (k := 5) (s := 32) rfl (by decide) hN (by decide) (fun u hu => Option.some.inj (Option.some.inj (show some (some (.int .i64 a)) = some (some u) from hu))) hW.out))
      | 6, _ =>
        obtain rfl := Option.some.inj ho
        have l3 : L 3 = true := dep_of hd (n := 3) (by decide)
        have e30 : T.getD 30 undef = .slice kA kn kc := hF.out.val 3 30 _ l3 rfl rfl
        have l5 : L 5 = true := dep_of hd (n := 5) (by decide)
        have e32 : T.getD 32 undef = .int .i64 a := hF.out.val 5 32 _ l5 rfl rfl
        have cc := Lib.hid (hAtk.out W (Stay.of_below hW.out) a)
        clear hd ho hi hc hLi
        refine st_call (want_none rfl) (by unfold execOp; go_simp) cc.out ?_
        rintro r w3 ⟨rfl, rfl⟩
        exact ⟨_, rfl, hK.out _ _ (hF.out.put (k := 6) (s := 33) rfl (by decide) hN (by decide) (fun u hu => Option.some.inj (Option.some.inj (show some (some (.int .i64 (pkI lk a))) = some (some u) from hu))) hW.out)⟩
      | 7, _ =>
        obtain rfl := Option.some.inj ho
        have l6 : L 6 = true := dep_of hd (n := 6) (by decide)
        have e33 : T.getD 33 undef = .int .i64 (pkI lk a) := hF.out.val 6 33 _ l6 rfl rfl
        clear hd ho hi hc hLi
        exact st_val (v := .int .i64 (pkI lk a)) (w' := W) (want_none rfl) (by unfold execOp; dsimp only [Act.eval]; simp only [e33]; go_simp) (hK.out _ _ (hF.out.put (k := 7) (s := 4) rfl (by decide) hN (by decide) (fun u hu => Option.some.inj (Option.some.inj (show some (some (.int .i64 (pkI lk a))) = some (some u) from hu))) hW.out))
    case hdone =>
      intro L T W2 hF hW hall
      have hT : T = #[.pointer (some ⟨q, 0, none⟩), .agg #[.int .i64 2, .int .i64 a, .int .i64 b, .int .i64 c, .string y], undef, .pointer (some ⟨(V.heap.size), 0, none⟩), .int .i64 (pkI lk a), .pointer (some ⟨(V.heap.size), 0, none⟩), .int .i64 2, .bool false, .bool false, undef, undef, undef, undef, undef, undef, undef, .bool false, .bool false, undef, undef, undef, undef, undef, undef, undef, .bool true, .bool true, .pointer (some ⟨q, 0, none⟩), .pointer (some ⟨q, 0, none⟩), .pointer (some ⟨q, 1, none⟩), .slice kA kn kc, .pointer (some ⟨(V.heap.size), 1, none⟩), .int .i64 a, .int .i64 (pkI lk a), undef, undef, undef, undef, undef, undef, undef, undef, undef, undef, undef, undef, undef, undef, undef, undef, undef, undef, undef, undef, undef, undef, undef, undef, undef] := (hF.fin [(27, .pointer (some ⟨q, 0, none⟩)), (28, .pointer (some ⟨q, 0, none⟩)), (29, .pointer (some ⟨q, 1, none⟩)), (30, .slice kA kn kc), (31, .pointer (some ⟨(V.heap.size), 1, none⟩)), (32, .int .i64 a), (33, .int .i64 (pkI lk a)), (4, .int .i64 (pkI lk a))] [27, 28, 29, 30, 31, 32, 33, 4] rfl (List.forall_mem_cons.2 ⟨hF.val 0 _ _ (hall 0 (show 0 < 8 by decide)) rfl rfl, (List.forall_mem_cons.2 ⟨hF.val 1 _ _ (hall 1 (show 1 < 8 by decide)) rfl rfl, (List.forall_mem_cons.2 ⟨hF.val 2 _ _ (hall 2 (show 2 < 8 by decide)) rfl rfl, (List.forall_mem_cons.2 ⟨hF.val 3 _ _ (hall 3 (show 3 < 8 by decide)) rfl rfl, (List.forall_mem_cons.2 ⟨hF.val 4 _ _ (hall 4 (show 4 < 8 by decide)) rfl rfl, (List.forall_mem_cons.2 ⟨hF.val 5 _ _ (hall 5 (show 5 < 8 by decide)) rfl rfl, (List.forall_mem_cons.2 ⟨hF.val 6 _ _ (hall 6 (show 6 < 8 by decide)) rfl rfl, (List.forall_mem_cons.2 ⟨hF.val 7 _ _ (hall 7 (show 7 < 8 by decide)) rfl rfl, (fun _ h => absurd h List.not_mem_nil)⟩)⟩)⟩)⟩)⟩)⟩)⟩)⟩) (by decide)).trans (by kernel_rfl)
      clear hF hall
      subst hT
      go_wp2_with fail
      go_ret
      exact hRz.out _ hW
  by_cases h3 : k = 3
  · skip
    subst h3
    rw [show givenT known sent 3 a s = pkO sent a from rfl]
    have hCl := Lib.hid (fun W' (h : Stay (V.alloc (.cells (mkRow 3 a b c s).toArray 79)) W') => And.intro (hK1.kf.stay h).cells (hO1.stay h).cells)
    have hAts := Lib.hid (fun W' (h : Stay (V.alloc (.cells (mkRow 3 a b c s).toArray 79)) W') (i : Int) => rat_any (c := sc) i W' hK.hs (hK1.kf.stay h).s.ints)
    have hRz := Lib.hid (fun W' (h : Below (V.alloc (.cells (mkRow 3 a b c s).toArray 79)).heap.size (V.alloc (.cells (mkRow 3 a b c s).toArray 79)) W') => SR.same (hK1.st.keep h) (hK1.ns.pickN a) (hB1.trans (h.mono hB1.size)))
    generalize pkO sent a = res at *
    clear hB1 hK1 hO1 hK
    unfold mkRow at *
    generalize bs s = y at *
    go_enter Tryz.func81, Tryz.ntmps81
    go_upto_region 9 with fail
    generalize (V.alloc (.cells [Value.int .i64 3, .int .i64 a, .int .i64 b, .int .i64 c, .string y].toArray 79)) = W1 at *
    clear d0
    refine region_iw tbKg3 dsKg3 (vsKg3 g q (V.heap.size) kA sA mA kn kc sn sc mn mc 3 a b c y (pkI ls a) 0 0 ((0 : UInt8))) (fun L T W => Below W1.heap.size W1 W) rfl (by decide) (by kernel_rfl) ?hlt ?hstep ?hdone ?hstart
    case hstart => exact drewN_below 1
    case hlt =>
      intro ix o ho
      have hi := (Array.getElem?_eq_some_iff.1 ho).1
      match ix, hi with
      | 0, _ => obtain rfl := Option.some.inj ho; decide
      | 1, _ => obtain rfl := Option.some.inj ho; decide
      | 2, _ => obtain rfl := Option.some.inj ho; decide
      | 3, _ => obtain rfl := Option.some.inj ho; decide
      | 4, _ => obtain rfl := Option.some.inj ho; decide
      | 5, _ => obtain rfl := Option.some.inj ho; decide
      | 6, _ => obtain rfl := Option.some.inj ho; decide
      | 7, _ => obtain rfl := Option.some.inj ho; decide
    case hstep =>
      intro T1 hE L T W ix o hF hW hc ho hLi hd K hK
      have hN : T1.size = 59 := by rw [hE]; rfl
      have f0 : T.getD 0 undef = .pointer (some ⟨q, 0, none⟩) := (hF.old 0 (by decide)).trans (by rw [hE]; rfl)
      have f3 : T.getD 3 undef = .pointer (some ⟨(V.heap.size), 0, none⟩) := (hF.old 3 (by decide)).trans (by rw [hE]; rfl)
      clear hE
      replace hF := Lib.hid hF
      replace hW := Lib.hid hW
      replace hK := Lib.hid hK
      have hi := (List.getElem?_eq_some_iff.1 ho).1
      match ix, hi with
      | 0, _ =>
        obtain rfl := Option.some.inj ho
        clear hd ho hi hc hLi
        exact st_val (v := .pointer (some ⟨q, 0, none⟩)) (w' := W) (want_none rfl) (by unfold execOp; dsimp only [Act.eval]; simp only [f0]; go_simp) (hK.out _ _ (hF.out.put (k := 0) (s := 36) rfl (by decide) hN (by decide) (fun u hu => Option.some.inj (Option.some.inj (show some (some (.pointer (some ⟨q, 0, none⟩))) = some (some u) from hu))) hW.out))
      | 1, _ =>
        obtain rfl := Option.some.inj ho
        have l0 : L 0 = true := dep_of hd (n := 0) (by decide)
        have e36 : T.getD 36 undef = .pointer (some ⟨q, 0, none⟩) := hF.out.val 0 36 _ l0 rfl rfl
        clear hd ho hi hc hLi
        exact st_val (v := .pointer (some ⟨q, 0, none⟩)) (w' := W) (want_none rfl) (by unfold execOp; dsimp only [Act.eval]; simp only [e36]; go_simp) (hK.out _ _ (hF.out.put (k := 1) (s := 37) rfl (by decide) hN (by decide) (fun u hu => Option.some.inj (Option.some.inj (show some (some (.pointer (some ⟨q, 0, none⟩))) = some (some u) from hu))) hW.out))
      | 2, _ =>
        obtain rfl := Option.some.inj ho
        have l1 : L 1 = true := dep_of hd (n := 1) (by decide)
        have e37 : T.getD 37 undef = .pointer (some ⟨q, 0, none⟩) := hF.out.val 1 37 _ l1 rfl rfl
        clear hd ho hi hc hLi
        exact st_val (v := .pointer (some ⟨q, 2, none⟩)) (w' := W) (want_none rfl) (by unfold execOp; dsimp only [Act.eval]; simp only [e37]; go_simp) (hK.out _ _ (hF.out.put (k := 2) (s := 38) rfl (by decide) hN (by decide) (fun u hu => Option.some.inj (Option.some.inj (show some (some (.pointer (some ⟨q, 2, none⟩))) = some (some u) from hu))) hW.out))
      | 3, _ =>
        obtain rfl := Option.some.inj ho
        have l2 : L 2 = true := dep_of hd (n := 2) (by decide)
        have e38 : T.getD 38 undef = .pointer (some ⟨q, 2, none⟩) := hF.out.val 2 38 _ l2 rfl rfl
        have hcc := (hCl.out W (Stay.of_below hW.out)).1.2.2.1
        clear hd ho hi hc hLi
        exact st_val (v := .slice sA sn sc) (w' := W) (want_none rfl) (by unfold execOp; dsimp only [Act.eval]; simp only [e38]; go_simp) (hK.out _ _ (hF.out.put (k := 3) (s := 39) rfl (by decide) hN (by decide) (fun u hu => Option.some.inj (Option.some.inj (show some (some (.slice sA sn sc)) = some (some u) from hu))) hW.out))
      | 4, _ =>
        obtain rfl := Option.some.inj ho
        clear hd ho hi hc hLi
        exact st_val (v := .pointer (some ⟨(V.heap.size), 1, none⟩)) (w' := W) (want_none rfl) (by unfold execOp; dsimp only [Act.eval]; simp only [f3]; go_simp) (hK.out _ _ (hF.out.put (k := 4) (s := 40) rfl (by decide) hN (by decide) (fun u hu => Option.some.inj (Option.some.inj (show some (some (.pointer (some ⟨(V.heap.size), 1, none⟩))) = some (some u) from hu))) hW.out))
      | 5, _ =>
        obtain rfl := Option.some.inj ho
        have l4 : L 4 = true := dep_of hd (n := 4) (by decide)
        have e40 : T.getD 40 undef = .pointer (some ⟨(V.heap.size), 1, none⟩) := hF.out.val 4 40 _ l4 rfl rfl
        have hcc := (hCl.out W (Stay.of_below hW.out)).2.2.1
        clear hd ho hi hc hLi
        exact st_val (v := .int .i64 a) (w' := W) (want_none rfl) (by unfold execOp; dsimp only [Act.eval]; simp only [e40]; go_simp) (hK.out _ _ (hF.out.put (k := 5) (s := 41) rfl (by decide) hN (by decide) (fun u hu => Option.some.inj (Option.some.inj (show some (some (.int .i64 a)) = some (some u) from hu))) hW.out))
      | 6, _ =>
        obtain rfl := Option.some.inj ho
        have l3 : L 3 = true := dep_of hd (n := 3) (by decide)
        have e39 : T.getD 39 undef = .slice sA sn sc := hF.out.val 3 39 _ l3 rfl rfl
        have l5 : L 5 = true := dep_of hd (n := 5) (by decide)
        have e41 : T.getD 41 undef = .int .i64 a := hF.out.val 5 41 _ l5 rfl rfl
        have cc := Lib.hid (hAts.out W (Stay.of_below hW.out) a)
        clear hd ho hi hc hLi
        refine st_call (want_none rfl) (by unfold execOp; go_simp) cc.out ?_
        rintro r w3 ⟨rfl, rfl⟩
        exact ⟨_, rfl, hK.out _ _ (hF.out.put (k := 6) (s := 42) rfl (by decide) hN (by decide) (fun u hu => Option.some.inj (Option.some.inj (show some (some (.int .i64 (pkI ls a))) = some (some u) from hu))) hW.out)⟩
      | 7, _ =>
        obtain rfl := Option.some.inj ho
        have l6 : L 6 = true := dep_of hd (n := 6) (by decide)
        have e42 : T.getD 42 undef = .int .i64 (pkI ls a) := hF.out.val 6 42 _ l6 rfl rfl
        clear hd ho hi hc hLi
        exact st_val (v := .int .i64 (pkI ls a)) (w' := W) (want_none rfl) (by unfold execOp; dsimp only [Act.eval]; simp only [e42]; go_simp) (hK.out _ _ (hF.out.put (k := 7) (s := 4) rfl (by decide) hN (by decide) (fun u hu => Option.some.inj (Option.some.inj (show some (some (.int .i64 (pkI ls a))) = some (some u) from hu))) hW.out))
    case hdone =>
      intro L T W2 hF hW hall
      have hT : T = #[.pointer (some ⟨q, 0, none⟩), .agg #[.int .i64 3, .int .i64 a, .int .i64 b, .int .i64 c, .string y], undef, .pointer (some ⟨(V.heap.size), 0, none⟩), .int .i64 (pkI ls a), .pointer (some ⟨(V.heap.size), 0, none⟩), .int .i64 3, .bool false, .bool false, undef, undef, undef, undef, undef, undef, undef, .bool false, .bool false, undef, undef, undef, undef, undef, undef, undef, .bool false, .bool false, undef, undef, undef, undef, undef, undef, undef, .bool true, .bool true, .pointer (some ⟨q, 0, none⟩), .pointer (some ⟨q, 0, none⟩), .pointer (some ⟨q, 2, none⟩), .slice sA sn sc, .pointer (some ⟨(V.heap.size), 1, none⟩), .int .i64 a, .int .i64 (pkI ls a), undef, undef, undef, undef, undef, undef, undef, undef, undef, undef, undef, undef, undef, undef, undef, undef] := (hF.fin [(36, .pointer (some ⟨q, 0, none⟩)), (37, .pointer (some ⟨q, 0, none⟩)), (38, .pointer (some ⟨q, 2, none⟩)), (39, .slice sA sn sc), (40, .pointer (some ⟨(V.heap.size), 1, none⟩)), (41, .int .i64 a), (42, .int .i64 (pkI ls a)), (4, .int .i64 (pkI ls a))] [36, 37, 38, 39, 40, 41, 42, 4] rfl (List.forall_mem_cons.2 ⟨hF.val 0 _ _ (hall 0 (show 0 < 8 by decide)) rfl rfl, (List.forall_mem_cons.2 ⟨hF.val 1 _ _ (hall 1 (show 1 < 8 by decide)) rfl rfl, (List.forall_mem_cons.2 ⟨hF.val 2 _ _ (hall 2 (show 2 < 8 by decide)) rfl rfl, (List.forall_mem_cons.2 ⟨hF.val 3 _ _ (hall 3 (show 3 < 8 by decide)) rfl rfl, (List.forall_mem_cons.2 ⟨hF.val 4 _ _ (hall 4 (show 4 < 8 by decide)) rfl rfl, (List.forall_mem_cons.2 ⟨hF.val 5 _ _ (hall 5 (show 5 < 8 by decide)) rfl rfl, (List.forall_mem_cons.2 ⟨hF.val 6 _ _ (hall 6 (show 6 < 8 by decide)) rfl rfl, (List.forall_mem_cons.2 ⟨hF.val 7 _ _ (hall 7 (show 7 < 8 by decide)) rfl rfl, (fun _ h => absurd h List.not_mem_nil)⟩)⟩)⟩)⟩)⟩)⟩)⟩)⟩) (by decide)).trans (by kernel_rfl)
      clear hF hall
      subst hT
      go_wp2_with fail
      go_ret
      exact hRz.out _ hW
  by_cases h4 : k = 4
  · skip
    subst h4
    rw [show givenT known sent 4 a s = baseT s from rfl]
    have hCl := Lib.hid (fun W' (h : Stay (V.alloc (.cells (mkRow 4 a b c s).toArray 79)) W') => And.intro (hK1.kf.stay h).cells (hO1.stay h).cells)
    have cCall := Lib.hid (fun W' (h : Below (V.alloc (.cells (mkRow 4 a b c s).toArray 79)).heap.size (V.alloc (.cells (mkRow 4 a b c s).toArray 79)) W') => (hK1.st.keep h).base hL s hsl)
    generalize baseT s = res at *
    replace hB1 := Lib.hid hB1
    clear hK1 hO1 hK
    unfold mkRow at *
    generalize bs s = y at *
    go_enter Tryz.func81, Tryz.ntmps81
    go_upto_region 11 with fail
    generalize (V.alloc (.cells [Value.int .i64 4, .int .i64 a, .int .i64 b, .int .i64 c, .string y].toArray 79)) = W1 at *
    clear d0
    refine region_iw tbKg4 dsKg4 (vsKg4 g q (V.heap.size) kA sA mA kn kc sn sc mn mc 4 a b c y 0 0 0 ((0 : UInt8))) (fun L T W => Stay W1 W ∧ (L 6 = false → Below W1.heap.size W1 W) ∧ (L 6 = true → SR w0 g W1 Lt res (.returned (T.getD 51 undef)) W) ∧ (L 7 = true → L 6 = true ∧ T.getD 4 undef = T.getD 51 undef)) rfl (by decide) (by kernel_rfl) ?hlt ?hstep ?hdone ?hstart
    case hstart => exact ⟨Stay.of_below (drewN_below 1), fun _ => drewN_below 1, fun h => absurd h (inv_not (n := 8) (i := 6) (by decide)), fun h => absurd h (inv_not (n := 8) (i := 7) (by decide))⟩
    case hlt =>
      intro ix o ho
      have hi := (Array.getElem?_eq_some_iff.1 ho).1
      match ix, hi with
      | 0, _ => obtain rfl := Option.some.inj ho; decide
      | 1, _ => obtain rfl := Option.some.inj ho; decide
      | 2, _ => obtain rfl := Option.some.inj ho; decide
      | 3, _ => obtain rfl := Option.some.inj ho; decide
      | 4, _ => obtain rfl := Option.some.inj ho; decide
      | 5, _ => obtain rfl := Option.some.inj ho; decide
      | 6, _ => obtain rfl := Option.some.inj ho; decide
      | 7, _ => obtain rfl := Option.some.inj ho; decide
    case hstep =>
      intro T1 hE L T W ix o hF hW hc ho hLi hd K hK
      have hN : T1.size = 59 := by rw [hE]; rfl
      have f0 : T.getD 0 undef = .pointer (some ⟨q, 0, none⟩) := (hF.old 0 (by decide)).trans (by rw [hE]; rfl)
      have f3 : T.getD 3 undef = .pointer (some ⟨(V.heap.size), 0, none⟩) := (hF.old 3 (by decide)).trans (by rw [hE]; rfl)
      clear hE
      replace hF := Lib.hid hF
      replace hW := Lib.hid hW
      replace hK := Lib.hid hK
      have hi := (List.getElem?_eq_some_iff.1 ho).1
      match ix, hi with
      | 0, _ =>
        obtain rfl := Option.some.inj ho
        clear hd ho hi hc hLi
        exact st_val (v := .pointer (some ⟨q, 0, none⟩)) (w' := W) (want_none rfl) (by unfold execOp; dsimp only [Act.eval]; simp only [f0]; go_simp) (hK.out _ _ (hF.out.put (k := 0) (s := 45) rfl (by decide) hN (by decide) (fun u hu => Option.some.inj (Option.some.inj (show some (some (.pointer (some ⟨q, 0, none⟩))) = some (some u) from hu))) (by dsimp only; rw [gd_ne (show 45 ≠ 51 by decide), gd_ne (show 45 ≠ 4 by decide)]; exact hW.out)))
      | 1, _ =>
        obtain rfl := Option.some.inj ho
        have l0 : L 0 = true := dep_of hd (n := 0) (by decide)
        have e45 : T.getD 45 undef = .pointer (some ⟨q, 0, none⟩) := hF.out.val 0 45 _ l0 rfl rfl
        clear hd ho hi hc hLi
        exact st_val (v := .pointer (some ⟨q, 0, none⟩)) (w' := W) (want_none rfl) (by unfold execOp; dsimp only [Act.eval]; simp only [e45]; go_simp) (hK.out _ _ (hF.out.put (k := 1) (s := 46) rfl (by decide) hN (by decide) (fun u hu => Option.some.inj (Option.some.inj (show some (some (.pointer (some ⟨q, 0, none⟩))) = some (some u) from hu))) (by dsimp only; rw [gd_ne (show 46 ≠ 51 by decide), gd_ne (show 46 ≠ 4 by decide)]; exact hW.out)))
      | 2, _ =>
        obtain rfl := Option.some.inj ho
        have l1 : L 1 = true := dep_of hd (n := 1) (by decide)
        have e46 : T.getD 46 undef = .pointer (some ⟨q, 0, none⟩) := hF.out.val 1 46 _ l1 rfl rfl
        clear hd ho hi hc hLi
        exact st_val (v := .pointer (some ⟨q, 0, none⟩)) (w' := W) (want_none rfl) (by unfold execOp; dsimp only [Act.eval]; simp only [e46]; go_simp) (hK.out _ _ (hF.out.put (k := 2) (s := 47) rfl (by decide) hN (by decide) (fun u hu => Option.some.inj (Option.some.inj (show some (some (.pointer (some ⟨q, 0, none⟩))) = some (some u) from hu))) (by dsimp only; rw [gd_ne (show 47 ≠ 51 by decide), gd_ne (show 47 ≠ 4 by decide)]; exact hW.out)))
      | 3, _ =>
        obtain rfl := Option.some.inj ho
        have l2 : L 2 = true := dep_of hd (n := 2) (by decide)
        have e47 : T.getD 47 undef = .pointer (some ⟨q, 0, none⟩) := hF.out.val 2 47 _ l2 rfl rfl
        have hcc := (hCl.out W hW.out.1).1.1
        clear hd ho hi hc hLi
        exact st_val (v := .pointer (some ⟨g, 0, none⟩)) (w' := W) (want_none rfl) (by unfold execOp; dsimp only [Act.eval]; simp only [e47]; go_simp) (hK.out _ _ (hF.out.put (k := 3) (s := 48) rfl (by decide) hN (by decide) (fun u hu => Option.some.inj (Option.some.inj (show some (some (.pointer (some ⟨g, 0, none⟩))) = some (some u) from hu))) (by dsimp only; rw [gd_ne (show 48 ≠ 51 by decide), gd_ne (show 48 ≠ 4 by decide)]; exact hW.out)))
      | 4, _ =>
        obtain rfl := Option.some.inj ho
        clear hd ho hi hc hLi
        exact st_val (v := .pointer (some ⟨(V.heap.size), 4, none⟩)) (w' := W) (want_none rfl) (by unfold execOp; dsimp only [Act.eval]; simp only [f3]; go_simp) (hK.out _ _ (hF.out.put (k := 4) (s := 49) rfl (by decide) hN (by decide) (fun u hu => Option.some.inj (Option.some.inj (show some (some (.pointer (some ⟨(V.heap.size), 4, none⟩))) = some (some u) from hu))) (by dsimp only; rw [gd_ne (show 49 ≠ 51 by decide), gd_ne (show 49 ≠ 4 by decide)]; exact hW.out)))
      | 5, _ =>
        obtain rfl := Option.some.inj ho
        have l4 : L 4 = true := dep_of hd (n := 4) (by decide)
        have e49 : T.getD 49 undef = .pointer (some ⟨(V.heap.size), 4, none⟩) := hF.out.val 4 49 _ l4 rfl rfl
        have hcc := (hCl.out W hW.out.1).2.2.2.2.2
        clear hd ho hi hc hLi
        exact st_val (v := .string y) (w' := W) (want_none rfl) (by unfold execOp; dsimp only [Act.eval]; simp only [e49]; go_simp) (hK.out _ _ (hF.out.put (k := 5) (s := 50) rfl (by decide) hN (by decide) (fun u hu => Option.some.inj (Option.some.inj (show some (some (.string y)) = some (some u) from hu))) (by dsimp only; rw [gd_ne (show 50 ≠ 51 by decide), gd_ne (show 50 ≠ 4 by decide)]; exact hW.out)))
      | 6, _ =>
        obtain rfl := Option.some.inj ho
        have l3 : L 3 = true := dep_of hd (n := 3) (by decide)
        have e48 : T.getD 48 undef = .pointer (some ⟨g, 0, none⟩) := hF.out.val 3 48 _ l3 rfl rfl
        have l5 : L 5 = true := dep_of hd (n := 5) (by decide)
        have e50 : T.getD 50 undef = .string y := hF.out.val 5 50 _ l5 rfl rfl
        have hb := hW.out.2.1 hLi
        have cc := Lib.hid (cCall.out W hb)
        clear hd ho hi hc
        refine st_call (want_none rfl) (by unfold execOp; go_simp) cc.out ?_
        rintro r w3 ⟨L', x', rfl, a1, a2, a3, a4, a5, a6⟩
        exact ⟨_, rfl, hK.out _ _ (hF.out.put (k := 6) (s := 51) rfl (by decide) hN (by decide) (fun u hu => by cases hu) ⟨hW.out.1.trans a4, fun h => absurd h (by simp), fun _ => (by rw [gd_eq (by rw [hF.out.size, hN]; decide)]; exact SR.from hb ⟨L', x', rfl, a1, a2, a3, a4, a5, a6⟩), fun h => absurd (hW.out.2.2.2 h).1 (by rw [hLi]; decide)⟩)⟩
      | 7, _ =>
        obtain rfl := Option.some.inj ho
        have l6 : L 6 = true := dep_of hd (n := 6) (by decide)
        clear hd ho hi hc hLi
        exact st_val (v := T.getD 51 undef) (w' := W) (want_none rfl) rfl (hK.out _ _ (hF.out.put (k := 7) (s := 4) rfl (by decide) hN (by decide) (fun u hu => by cases hu) ⟨hW.out.1, hW.out.2.1, fun h => (by rw [gd_ne (show 4 ≠ 51 by decide)]; exact hW.out.2.2.1 h), fun _ => ⟨l6, (by rw [gd_eq (by rw [hF.out.size, hN]; decide), gd_ne (show 4 ≠ 51 by decide)])⟩⟩))
    case hdone =>
      intro L T W2 hF hW hall
      obtain ⟨L', x', es, hR⟩ := hW.2.2.1 (hall 6 (by decide))
      replace es := Ending.returned.inj es
      have e4 := (hW.2.2.2 (hall 7 (by decide))).2.trans es
      have hRh := Lib.hid hR
      have hT : T = #[.pointer (some ⟨q, 0, none⟩), .agg #[.int .i64 4, .int .i64 a, .int .i64 b, .int .i64 c, .string y], undef, .pointer (some ⟨(V.heap.size), 0, none⟩), .int .i64 x', .pointer (some ⟨(V.heap.size), 0, none⟩), .int .i64 4, .bool false, .bool false, undef, undef, undef, undef, undef, undef, undef, .bool false, .bool false, undef, undef, undef, undef, undef, undef, undef, .bool false, .bool false, undef, undef, undef, undef, undef, undef, undef, .bool false, .bool false, undef, undef, undef, undef, undef, undef, undef, .bool true, .bool true, .pointer (some ⟨q, 0, none⟩), .pointer (some ⟨q, 0, none⟩), .pointer (some ⟨q, 0, none⟩), .pointer (some ⟨g, 0, none⟩), .pointer (some ⟨(V.heap.size), 4, none⟩), .string y, .int .i64 x', undef, undef, undef, undef, undef, undef, undef] := (hF.fin [(45, .pointer (some ⟨q, 0, none⟩)), (46, .pointer (some ⟨q, 0, none⟩)), (47, .pointer (some ⟨q, 0, none⟩)), (48, .pointer (some ⟨g, 0, none⟩)), (49, .pointer (some ⟨(V.heap.size), 4, none⟩)), (50, .string y), (51, .int .i64 x'), (4, .int .i64 x')] [45, 46, 47, 48, 49, 50, 51, 4] rfl (List.forall_mem_cons.2 ⟨hF.val 0 _ _ (hall 0 (show 0 < 8 by decide)) rfl rfl, (List.forall_mem_cons.2 ⟨hF.val 1 _ _ (hall 1 (show 1 < 8 by decide)) rfl rfl, (List.forall_mem_cons.2 ⟨hF.val 2 _ _ (hall 2 (show 2 < 8 by decide)) rfl rfl, (List.forall_mem_cons.2 ⟨hF.val 3 _ _ (hall 3 (show 3 < 8 by decide)) rfl rfl, (List.forall_mem_cons.2 ⟨hF.val 4 _ _ (hall 4 (show 4 < 8 by decide)) rfl rfl, (List.forall_mem_cons.2 ⟨hF.val 5 _ _ (hall 5 (show 5 < 8 by decide)) rfl rfl, (List.forall_mem_cons.2 ⟨es, (List.forall_mem_cons.2 ⟨e4, (fun _ h => absurd h List.not_mem_nil)⟩)⟩)⟩)⟩)⟩)⟩)⟩)⟩) (by decide)).trans (by kernel_rfl)
      clear hF hall
      subst hT
      clear hR hW es e4
      go_wp2_with fail
      go_ret
      exact SR.from hB1.out ⟨L', x', rfl, hRh.out⟩
  by_cases h12 : k = 12
  · subst h12
    rw [show givenT known sent 12 a s = listT [] from rfl]
    have hCl := hK1.kf.cells.1
    have cI : Ints (V.alloc (.cells (mkRow 12 a b c s).toArray 79)) none 0 [] := Rws.nil_
    have cCall := hK1.st.list hL [] none 0 0 (by decide) cI
    simp only [List.map_nil] at cCall
    replace cCall := Lib.hid cCall
    generalize listT [] = res at *
    replace hB1 := Lib.hid hB1
    clear hK1 hO1 hK cI
    unfold mkRow at *
    generalize bs s = y at *
    go_enter Tryz.func81, Tryz.ntmps81
    go_wp2_with (go_at_call 62; refine cCall.out.mono ?_; rintro r w3 ⟨L', x', rfl, hR⟩
                 have hRh := Lib.hid hR; clear hR)
    go_ret
    exact SR.from hB1.out ⟨L', x', rfl, hRh.out⟩
  · have e : givenT known sent k a s = none := by
      unfold givenT
      simp only [sel, if_neg h0, if_neg h1, if_neg h2, if_neg h3, if_neg h4, if_neg h12]
    rw [e]
    have hR := Lib.hid (SR.none_ hK1.st hB1)
    have e0 : (k == 0) = false := by simpa using h0
    have e1 : (k == 1) = false := by simpa using h1
    have e2 : (k == 2) = false := by simpa using h2
    have e3 : (k == 3) = false := by simpa using h3
    have e4 : (k == 4) = false := by simpa using h4
    have e12 : (k == 12) = false := by simpa using h12
    clear hK1 hO1 hB1 hK e h0 h1 h2 h3 h4 h12
    unfold mkRow at *
    generalize bs s = y at *
    go_enter Tryz.func81, Tryz.ntmps81
    go_wp2_with fail
    go_ret
    exact hR.out
end Go.Proofs.YtphnakdgpilcmaaGreatDoor
