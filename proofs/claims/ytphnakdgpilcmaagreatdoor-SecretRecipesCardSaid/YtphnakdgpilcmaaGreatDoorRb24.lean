/- Recipes: one step. (printed by wip/gen_rcd.py) -/
import Derived.Test.YtphnakdgpilcmaaGreatDoorRb23
namespace Go.Proofs.YtphnakdgpilcmaaGreatDoor
open Go.RowKit Go.Maps

def dsKp1 : List (Option Nat) := [some 7, some 8, some 9, some 10, some 11, some 12, some 13, some 14, some 15, some 16, some 17, some 18, some 19, some 20, some 5, some 6]
def tbKp1 : List (List Nat) := [[], [0], [1], [2], [], [4], [3, 5], [], [7], [8], [9], [], [11], [10, 12], [6], [13]]
def vsKp1 (g : Nat) (q : Nat) (p : Nat) (kA : Option Addr) (sA : Option Addr) (mA : Option Addr) (kn : Nat) (kc : Nat) (sn : Nat) (sc : Nat) (mn : Nat) (mc : Nat) (k : Int) (a : Int) (b : Int) (c : Int) (y : ByteArray) (x1 : Int) (x2 : Int) (x3 : Int) (c0 : UInt8) : List (Option Value) := [some (.pointer (some ⟨q, 0, none⟩)), some (.pointer (some ⟨q, 0, none⟩)), some (.pointer (some ⟨q, 3, none⟩)), some (.slice mA mn mc), some (.pointer (some ⟨p, 1, none⟩)), some (.int .i64 a), some (.int .i64 x1), some (.pointer (some ⟨q, 0, none⟩)), some (.pointer (some ⟨q, 0, none⟩)), some (.pointer (some ⟨q, 3, none⟩)), some (.slice mA mn mc), some (.pointer (some ⟨p, 2, none⟩)), some (.int .i64 b), some (.int .i64 x2), some (.int .i64 x1), some (.int .i64 x2)]
def dsKp14 : List (Option Nat) := [some 54, some 55, some 56, some 57, some 58, some 59, some 60, some 61, some 62, some 4]
def tbKp14 : List (List Nat) := [[], [0], [1], [2], [], [4], [], [], [3, 5, 6, 7], [8]]
def vsKp14 (g : Nat) (q : Nat) (p : Nat) (kA : Option Addr) (sA : Option Addr) (mA : Option Addr) (kn : Nat) (kc : Nat) (sn : Nat) (sc : Nat) (mn : Nat) (mc : Nat) (k : Int) (a : Int) (b : Int) (c : Int) (y : ByteArray) (x1 : Int) (x2 : Int) (x3 : Int) (c0 : UInt8) : List (Option Value) := [some (.pointer (some ⟨q, 0, none⟩)), some (.pointer (some ⟨q, 0, none⟩)), some (.pointer (some ⟨q, 0, none⟩)), some (.pointer (some ⟨g, 0, none⟩)), some (.pointer (some ⟨p, 4, none⟩)), some (.string y), some (.int .i64 x1), some (.int .i64 x2), none, none]
set_option maxRecDepth 100000 in
set_option maxHeartbeats 4000000 in
theorem step_any {w0 : World} {g q : Nat} {V : World} {Lt : List Tm} {kA sA mA : Option Addr} {kn kc sn sc mn mc : Nat} {lk ls lm : List Int} {known sent made : List (Option Tm)} (hK : KS w0 g q V Lt kA sA mA kn kc sn sc mn mc lk ls lm known sent made) (hL : Lt.length < 100) (k a b c : Int) (s : List UInt8) (hsl : s.length ≤ 4000000000) :
    Calls Tryz.prog 36 #[.pointer (some ⟨q, 0, none⟩), .agg (mkRow k a b c s).toArray] V (SR w0 g V Lt (stepT known sent made ⟨k, a, b, c, s⟩)) := by
  have hB1 := below_new V (.cells (mkRow k a b c s).toArray 79)
  have hK1 := hK.below hB1
  have hO1 := op_box V k a b c s
  have hCl := Lib.hid (fun W' (h : Stay (V.alloc (.cells (mkRow k a b c s).toArray 79)) W') => And.intro (hK1.kf.stay h).cells (hO1.stay h).cells)
  have hAtm := Lib.hid (fun W' (h : Stay (V.alloc (.cells (mkRow k a b c s).toArray 79)) W') (i : Int) => rat_any (c := mc) i W' hK.hm (hK1.kf.stay h).m.ints)
  have cDer := Lib.hid (fun W' (h : Below (V.alloc (.cells (mkRow k a b c s).toArray 79)).heap.size (V.alloc (.cells (mkRow k a b c s).toArray 79)) W') => derives_any (hK1.below h) hL k a b c s hsl)
  have cSea := Lib.hid (fun W' (h : Below (V.alloc (.cells (mkRow k a b c s).toArray 79)).heap.size (V.alloc (.cells (mkRow k a b c s).toArray 79)) W') => seals_any (hK1.below h) hL k a b c s hsl)
  have cLis := Lib.hid (fun W' (h : Below (V.alloc (.cells (mkRow k a b c s).toArray 79)).heap.size (V.alloc (.cells (mkRow k a b c s).toArray 79)) W') => lists_any (hK1.below h) hL k a b c s hsl)
  have cGiv := Lib.hid (fun W' (h : Below (V.alloc (.cells (mkRow k a b c s).toArray 79)).heap.size (V.alloc (.cells (mkRow k a b c s).toArray 79)) W') => given_any (hK1.below h) hL k a b c s hsl)
  have cOpe := Lib.hid (fun W' (h : Below (V.alloc (.cells (mkRow k a b c s).toArray 79)).heap.size (V.alloc (.cells (mkRow k a b c s).toArray 79)) W') => opens_any (hK1.below h).st (hK1.below h).kf.blk (pkI lm a) (pkI lm b) _ _ (hK1.nm.pickN a) (hK1.nm.pickN b))
  have cSig := Lib.hid (fun W' (h : Below (V.alloc (.cells (mkRow k a b c s).toArray 79)).heap.size (V.alloc (.cells (mkRow k a b c s).toArray 79)) W') => (hK1.st.keep h).sign2 hL s hsl (pkI lm a) (pkI lm b))
  have hOr := Lib.hid (fun W' (h : Below (V.alloc (.cells (mkRow k a b c s).toArray 79)).heap.size (V.alloc (.cells (mkRow k a b c s).toArray 79)) W') => rangeAt_list (hO1.stay (Stay.of_below h)).blk)
  have hK1h := Lib.hid hK1
  obtain ⟨rs, hrs⟩ : ∃ rs, rs = stepT known sent made ⟨k, a, b, c, s⟩ := ⟨_, rfl⟩
  rw [← hrs]
  replace hrs := Lib.hid hrs
  replace hB1 := Lib.hid hB1
  clear hK1 hO1 hK
  unfold mkRow at *
  generalize hys : bs s = y at *
  replace hys := Lib.hid hys
  go_enter Tryz.func36, Tryz.ntmps36
  go_upto_region 1 with fail
  generalize (V.alloc (.cells [Value.int .i64 k, .int .i64 a, .int .i64 b, .int .i64 c, .string y].toArray 79)) = W1 at *
  refine region_iw tbKp1 dsKp1 (vsKp1 g q (V.heap.size) kA sA mA kn kc sn sc mn mc k a b c y (pkI lm a) (pkI lm b) 0 ((0 : UInt8))) (fun L T W => Below W1.heap.size W1 W) rfl (by decide) (by kernel_rfl) ?hlt ?hstep ?hdone ?hstart
  case hstart => exact drewN_below 1
  case hlt =>
    intro ix o ho
    have hi := (Array.getElem?_eq_some_iff.1 ho).1
    match ix, hi with
    | 0, _ => obtain rfl := Option.some.inj ho; decide
    | 1, _ => obtain rfl := Option.some.inj ho; decide
    | 2, _ => obtain rfl := Option.some.inj ho; decide
    | 3, _ => obtain rfl := Option.some.inj ho; decide
    | 4, _ => obtain rfl := Option.some.inj ho; decide
    | 5, _ => obtain rfl := Option.some.inj ho; decide
    | 6, _ => obtain rfl := Option.some.inj ho; decide
    | 7, _ => obtain rfl := Option.some.inj ho; decide
    | 8, _ => obtain rfl := Option.some.inj ho; decide
    | 9, _ => obtain rfl := Option.some.inj ho; decide
    | 10, _ => obtain rfl := Option.some.inj ho; decide
    | 11, _ => obtain rfl := Option.some.inj ho; decide
    | 12, _ => obtain rfl := Option.some.inj ho; decide
    | 13, _ => obtain rfl := Option.some.inj ho; decide
    | 14, _ => obtain rfl := Option.some.inj ho; decide
    | 15, _ => obtain rfl := Option.some.inj ho; decide
  case hstep =>
    intro T1 hE L T W ix o hF hW hc ho hLi hd K hK
    have hN : T1.size = 85 := by rw [hE]; rfl
    have f0 : T.getD 0 undef = .pointer (some ⟨q, 0, none⟩) := (hF.old 0 (by decide)).trans (by rw [hE]; rfl)
    have f3 : T.getD 3 undef = .pointer (some ⟨(V.heap.size), 0, none⟩) := (hF.old 3 (by decide)).trans (by rw [hE]; rfl)
    clear hE
    replace hF := Lib.hid hF
    replace hW := Lib.hid hW
    replace hK := Lib.hid hK
    have hi := (List.getElem?_eq_some_iff.1 ho).1
    match ix, hi with
    | 0, _ =>
      obtain rfl := Option.some.inj ho
      clear hd ho hi hc hLi
      exact st_val (v := .pointer (some ⟨q, 0, none⟩)) (w' := W) (want_none rfl) (by unfold execOp; dsimp only [Act.eval]; simp only [f0]; go_simp) (hK.out _ _ (hF.out.put (k := 0) (s := 7) rfl (by decide) hN (by decide) (fun u hu => Option.some.inj (Option.some.inj (show some (some (.pointer (some ⟨q, 0, none⟩))) = some (some u) from hu))) hW.out))
    | 1, _ =>
      obtain rfl := Option.some.inj ho
      have l0 : L 0 = true := dep_of hd (n := 0) (by decide)
      have e7 : T.getD 7 undef = .pointer (some ⟨q, 0, none⟩) := hF.out.val 0 7 _ l0 rfl rfl
      clear hd ho hi hc hLi
      exact st_val (v := .pointer (some ⟨q, 0, none⟩)) (w' := W) (want_none rfl) (by unfold execOp; dsimp only [Act.eval]; simp only [e7]; go_simp) (hK.out _ _ (hF.out.put (k := 1) (s := 8) rfl (by decide) hN (by decide) (fun u hu => Option.some.inj (Option.some.inj (show some (some (.pointer (some ⟨q, 0, none⟩))) = some (some u) from hu))) hW.out))
    | 2, _ =>
      obtain rfl := Option.some.inj ho
      have l1 : L 1 = true := dep_of hd (n := 1) (by decide)
      have e8 : T.getD 8 undef = .pointer (some ⟨q, 0, none⟩) := hF.out.val 1 8 _ l1 rfl rfl
      clear hd ho hi hc hLi
      exact st_val (v := .pointer (some ⟨q, 3, none⟩)) (w' := W) (want_none rfl) (by unfold execOp; dsimp only [Act.eval]; simp only [e8]; go_simp) (hK.out _ _ (hF.out.put (k := 2) (s := 9) rfl (by decide) hN (by decide) (fun u hu => Option.some.inj (Option.some.inj (show some (some (.pointer (some ⟨q, 3, none⟩))) = some (some u) from hu))) hW.out))
    | 3, _ =>
      obtain rfl := Option.some.inj ho
      have l2 : L 2 = true := dep_of hd (n := 2) (by decide)
      have e9 : T.getD 9 undef = .pointer (some ⟨q, 3, none⟩) := hF.out.val 2 9 _ l2 rfl rfl
      have hcc := (hCl.out W (Stay.of_below hW.out)).1.2.2.2
      clear hd ho hi hc hLi
      exact st_val (v := .slice mA mn mc) (w' := W) (want_none rfl) (by unfold execOp; dsimp only [Act.eval]; simp only [e9]; go_simp) (hK.out _ _ (hF.out.put (k := 3) (s := 10) rfl (by decide) hN (by decide) (fun u hu => Option.some.inj (Option.some.inj (show some (some (.slice mA mn mc)) = some (some u) from hu))) hW.out))
    | 4, _ =>
      obtain rfl := Option.some.inj ho
      clear hd ho hi hc hLi
      exact st_val (v := .pointer (some ⟨(V.heap.size), 1, none⟩)) (w' := W) (want_none rfl) (by unfold execOp; dsimp only [Act.eval]; simp only [f3]; go_simp) (hK.out _ _ (hF.out.put (k := 4) (s := 11) rfl (by decide) hN (by decide) (fun u hu => Option.some.inj (Option.some.inj (show some (some (.pointer (some ⟨(V.heap.size), 1, none⟩))) = some (some u) from hu))) hW.out))
    | 5, _ =>
      obtain rfl := Option.some.inj ho
      have l4 : L 4 = true := dep_of hd (n := 4) (by decide)
      have e11 : T.getD 11 undef = .pointer (some ⟨(V.heap.size), 1, none⟩) := hF.out.val 4 11 _ l4 rfl rfl
      have hcc := (hCl.out W (Stay.of_below hW.out)).2.2.1
      clear hd ho hi hc hLi
      exact st_val (v := .int .i64 a) (w' := W) (want_none rfl) (by unfold execOp; dsimp only [Act.eval]; simp only [e11]; go_simp) (hK.out _ _ (hF.out.put (k := 5) (s := 12) rfl (by decide) hN (by decide) (fun u hu => Option.some.inj (Option.some.inj (show some (some (.int .i64 a)) = some (some u) from hu))) hW.out))
    | 6, _ =>
      obtain rfl := Option.some.inj ho
      have l3 : L 3 = true := dep_of hd (n := 3) (by decide)
      have e10 : T.getD 10 undef = .slice mA mn mc := hF.out.val 3 10 _ l3 rfl rfl
      have l5 : L 5 = true := dep_of hd (n := 5) (by decide)
      have e12 : T.getD 12 undef = .int .i64 a := hF.out.val 5 12 _ l5 rfl rfl
      have cc := Lib.hid (hAtm.out W (Stay.of_below hW.out) a)
      clear hd ho hi hc hLi
      refine st_call (want_none rfl) (by unfold execOp; go_simp) cc.out ?_
      rintro r w3 ⟨rfl, rfl⟩
      exact ⟨_, rfl, hK.out _ _ (hF.out.put (k := 6) (s := 13) rfl (by decide) hN (by decide) (fun u hu => Option.some.inj (Option.some.inj (show some (some (.int .i64 (pkI lm a))) = some (some u) from hu))) hW.out)⟩
    | 7, _ =>
      obtain rfl := Option.some.inj ho
      clear hd ho hi hc hLi
      exact st_val (v := .pointer (some ⟨q, 0, none⟩)) (w' := W) (want_none rfl) (by unfold execOp; dsimp only [Act.eval]; simp only [f0]; go_simp) (hK.out _ _ (hF.out.put (k := 7) (s := 14) rfl (by decide) hN (by decide) (fun u hu => Option.some.inj (Option.some.inj (show some (some (.pointer (some ⟨q, 0, none⟩))) = some (some u) from hu))) hW.out))
    | 8, _ =>
      obtain rfl := Option.some.inj ho
      have l7 : L 7 = true := dep_of hd (n := 7) (by decide)
      have e14 : T.getD 14 undef = .pointer (some ⟨q, 0, none⟩) := hF.out.val 7 14 _ l7 rfl rfl
      clear hd ho hi hc hLi
      exact st_val (v := .pointer (some ⟨q, 0, none⟩)) (w' := W) (want_none rfl) (by unfold execOp; dsimp only [Act.eval]; simp only [e14]; go_simp) (hK.out _ _ (hF.out.put (k := 8) (s := 15) rfl (by decide) hN (by decide) (fun u hu => Option.some.inj (Option.some.inj (show some (some (.pointer (some ⟨q, 0, none⟩))) = some (some u) from hu))) hW.out))
    | 9, _ =>
      obtain rfl := Option.some.inj ho
      have l8 : L 8 = true := dep_of hd (n := 8) (by decide)
      have e15 : T.getD 15 undef = .pointer (some ⟨q, 0, none⟩) := hF.out.val 8 15 _ l8 rfl rfl
      clear hd ho hi hc hLi
      exact st_val (v := .pointer (some ⟨q, 3, none⟩)) (w' := W) (want_none rfl) (by unfold execOp; dsimp only [Act.eval]; simp only [e15]; go_simp) (hK.out _ _ (hF.out.put (k := 9) (s := 16) rfl (by decide) hN (by decide) (fun u hu => Option.some.inj (Option.some.inj (show some (some (.pointer (some ⟨q, 3, none⟩))) = some (some u) from hu))) hW.out))
    | 10, _ =>
      obtain rfl := Option.some.inj ho
      have l9 : L 9 = true := dep_of hd (n := 9) (by decide)
      have e16 : T.getD 16 undef = .pointer (some ⟨q, 3, none⟩) := hF.out.val 9 16 _ l9 rfl rfl
      have hcc := (hCl.out W (Stay.of_below hW.out)).1.2.2.2
      clear hd ho hi hc hLi
      exact st_val (v := .slice mA mn mc) (w' := W) (want_none rfl) (by unfold execOp; dsimp only [Act.eval]; simp only [e16]; go_simp) (hK.out _ _ (hF.out.put (k := 10) (s := 17) rfl (by decide) hN (by decide) (fun u hu => Option.some.inj (Option.some.inj (show some (some (.slice mA mn mc)) = some (some u) from hu))) hW.out))
    | 11, _ =>
      obtain rfl := Option.some.inj ho
      clear hd ho hi hc hLi
      exact st_val (v := .pointer (some ⟨(V.heap.size), 2, none⟩)) (w' := W) (want_none rfl) (by unfold execOp; dsimp only [Act.eval]; simp only [f3]; go_simp) (hK.out _ _ (hF.out.put (k := 11) (s := 18) rfl (by decide) hN (by decide) (fun u hu => Option.some.inj (Option.some.inj (show some (some (.pointer (some ⟨(V.heap.size), 2, none⟩))) = some (some u) from hu))) hW.out))
    | 12, _ =>
      obtain rfl := Option.some.inj ho
      have l11 : L 11 = true := dep_of hd (n := 11) (by decide)
      have e18 : T.getD 18 undef = .pointer (some ⟨(V.heap.size), 2, none⟩) := hF.out.val 11 18 _ l11 rfl rfl
      have hcc := (hCl.out W (Stay.of_below hW.out)).2.2.2.1
      clear hd ho hi hc hLi
      exact st_val (v := .int .i64 b) (w' := W) (want_none rfl) (by unfold execOp; dsimp only [Act.eval]; simp only [e18]; go_simp) (hK.out _ _ (hF.out.put (k := 12) (s := 19) rfl (by decide) hN (by decide) (fun u hu => Option.some.inj (Option.some.inj (show some (some (.int .i64 b)) = some (some u) from hu))) hW.out))
    | 13, _ =>
      obtain rfl := Option.some.inj ho
      have l10 : L 10 = true := dep_of hd (n := 10) (by decide)
      have e17 : T.getD 17 undef = .slice mA mn mc := hF.out.val 10 17 _ l10 rfl rfl
      have l12 : L 12 = true := dep_of hd (n := 12) (by decide)
      have e19 : T.getD 19 undef = .int .i64 b := hF.out.val 12 19 _ l12 rfl rfl
      have cc := Lib.hid (hAtm.out W (Stay.of_below hW.out) b)
      clear hd ho hi hc hLi
      refine st_call (want_none rfl) (by unfold execOp; go_simp) cc.out ?_
      rintro r w3 ⟨rfl, rfl⟩
      exact ⟨_, rfl, hK.out _ _ (hF.out.put (k := 13) (s := 20) rfl (by decide) hN (by decide) (fun u hu => Option.some.inj (Option.some.inj (show some (some (.int .i64 (pkI lm b))) = some (some u) from hu))) hW.out)⟩
    | 14, _ =>
      obtain rfl := Option.some.inj ho
      have l6 : L 6 = true := dep_of hd (n := 6) (by decide)
      have e13 : T.getD 13 undef = .int .i64 (pkI lm a) := hF.out.val 6 13 _ l6 rfl rfl
      clear hd ho hi hc hLi
      exact st_val (v := .int .i64 (pkI lm a)) (w' := W) (want_none rfl) (by unfold execOp; dsimp only [Act.eval]; simp only [e13]; go_simp) (hK.out _ _ (hF.out.put (k := 14) (s := 5) rfl (by decide) hN (by decide) (fun u hu => Option.some.inj (Option.some.inj (show some (some (.int .i64 (pkI lm a))) = some (some u) from hu))) hW.out))
    | 15, _ =>
      obtain rfl := Option.some.inj ho
      have l13 : L 13 = true := dep_of hd (n := 13) (by decide)
      have e20 : T.getD 20 undef = .int .i64 (pkI lm b) := hF.out.val 13 20 _ l13 rfl rfl
      clear hd ho hi hc hLi
      exact st_val (v := .int .i64 (pkI lm b)) (w' := W) (want_none rfl) (by unfold execOp; dsimp only [Act.eval]; simp only [e20]; go_simp) (hK.out _ _ (hF.out.put (k := 15) (s := 6) rfl (by decide) hN (by decide) (fun u hu => Option.some.inj (Option.some.inj (show some (some (.int .i64 (pkI lm b))) = some (some u) from hu))) hW.out))
  case hdone =>
    intro L T W2 hF hW hall
    have hT : T = #[.pointer (some ⟨q, 0, none⟩), .agg #[.int .i64 k, .int .i64 a, .int .i64 b, .int .i64 c, .string y], undef, .pointer (some ⟨(V.heap.size), 0, none⟩), .int .i64 0, .int .i64 (pkI lm a), .int .i64 (pkI lm b), .pointer (some ⟨q, 0, none⟩), .pointer (some ⟨q, 0, none⟩), .pointer (some ⟨q, 3, none⟩), .slice mA mn mc, .pointer (some ⟨(V.heap.size), 1, none⟩), .int .i64 a, .int .i64 (pkI lm a), .pointer (some ⟨q, 0, none⟩), .pointer (some ⟨q, 0, none⟩), .pointer (some ⟨q, 3, none⟩), .slice mA mn mc, .pointer (some ⟨(V.heap.size), 2, none⟩), .int .i64 b, .int .i64 (pkI lm b), undef, undef, undef, undef, undef, undef, undef, undef, undef, undef, undef, undef, undef, undef, undef, undef, undef, undef, undef, undef, undef, undef, undef, undef, undef, undef, undef, undef, undef, undef, undef, undef, undef, undef, undef, undef, undef, undef, undef, undef, undef, undef, undef, undef, undef, undef, undef, undef, undef, undef, undef, undef, undef, undef, undef, undef, undef, undef, undef, undef, undef, undef, undef, undef] := (hF.fin [(7, .pointer (some ⟨q, 0, none⟩)), (8, .pointer (some ⟨q, 0, none⟩)), (9, .pointer (some ⟨q, 3, none⟩)), (10, .slice mA mn mc), (11, .pointer (some ⟨(V.heap.size), 1, none⟩)), (12, .int .i64 a), (13, .int .i64 (pkI lm a)), (14, .pointer (some ⟨q, 0, none⟩)), (15, .pointer (some ⟨q, 0, none⟩)), (16, .pointer (some ⟨q, 3, none⟩)), (17, .slice mA mn mc), (18, .pointer (some ⟨(V.heap.size), 2, none⟩)), (19, .int .i64 b), (20, .int .i64 (pkI lm b)), (5, .int .i64 (pkI lm a)), (6, .int .i64 (pkI lm b))] [7, 8, 9, 10, 11, 12, 13, 14, 15, 16, 17, 18, 19, 20, 5, 6] rfl (List.forall_mem_cons.2 ⟨hF.val 0 _ _ (hall 0 (show 0 < 16 by decide)) rfl rfl, (List.forall_mem_cons.2 ⟨hF.val 1 _ _ (hall 1 (show 1 < 16 by decide)) rfl rfl, (List.forall_mem_cons.2 ⟨hF.val 2 _ _ (hall 2 (show 2 < 16 by decide)) rfl rfl, (List.forall_mem_cons.2 ⟨hF.val 3 _ _ (hall 3 (show 3 < 16 by decide)) rfl rfl, (List.forall_mem_cons.2 ⟨hF.val 4 _ _ (hall 4 (show 4 < 16 by decide)) rfl rfl, (List.forall_mem_cons.2 ⟨hF.val 5 _ _ (hall 5 (show 5 < 16 by decide)) rfl rfl, (List.forall_mem_cons.2 ⟨hF.val 6 _ _ (hall 6 (show 6 < 16 by decide)) rfl rfl, (List.forall_mem_cons.2 ⟨hF.val 7 _ _ (hall 7 (show 7 < 16 by decide)) rfl rfl, (List.forall_mem_cons.2 ⟨hF.val 8 _ _ (hall 8 (show 8 < 16 by decide)) rfl rfl, (List.forall_mem_cons.2 ⟨hF.val 9 _ _ (hall 9 (show 9 < 16 by decide)) rfl rfl, (List.forall_mem_cons.2 ⟨hF.val 10 _ _ (hall 10 (show 10 < 16 by decide)) rfl rfl, (List.forall_mem_cons.2 ⟨hF.val 11 _ _ (hall 11 (show 11 < 16 by decide)) rfl rfl, (List.forall_mem_cons.2 ⟨hF.val 12 _ _ (hall 12 (show 12 < 16 by decide)) rfl rfl, (List.forall_mem_cons.2 ⟨hF.val 13 _ _ (hall 13 (show 13 < 16 by decide)) rfl rfl, (List.forall_mem_cons.2 ⟨hF.val 14 _ _ (hall 14 (show 14 < 16 by decide)) rfl rfl, (List.forall_mem_cons.2 ⟨hF.val 15 _ _ (hall 15 (show 15 < 16 by decide)) rfl rfl, (fun _ h => absurd h List.not_mem_nil)⟩)⟩)⟩)⟩)⟩)⟩)⟩)⟩)⟩)⟩)⟩)⟩)⟩)⟩)⟩)⟩) (by decide)).trans (by kernel_rfl)
    clear hF hall
    subst hT
    have hBW := Lib.hid hW
    clear hW
    have hSt2 := Lib.hid (hK1h.out.st.keep hBW.out)
    have hOr2 := Lib.hid (hOr.out W2 hBW.out)
    have hc2 := (hCl.out W2 (Stay.of_below hBW.out)).1.1
    have d0 := (hCl.out W2 (Stay.of_below hBW.out)).2.1
    by_cases h5 : k = 5
    · subst h5
      have e : rs = expT (pkO made a) (pkO made b) := hrs.out.trans rfl
      have cc := hSt2.out.exp hL (pkI lm a) (pkI lm b)
      rw [hK1h.out.nm.pick, hK1h.out.nm.pick] at cc
      rw [← e] at cc
      replace cc := Lib.hid cc
      clear e
      go_wp2_with (go_at_call 27; refine cc.out.mono ?_; rintro r w3 ⟨L', x', rfl, hR⟩; have hRh := Lib.hid hR; clear hR)
      go_ret
      exact SR.from hB1.out (SR.from hBW.out ⟨L', x', rfl, hRh.out⟩)
    by_cases h6 : k = 6
    · subst h6
      have e : rs = pubT (pkO made a) := hrs.out.trans rfl
      have cc := hSt2.out.pub hL (pkI lm a)
      rw [hK1h.out.nm.pick] at cc
      rw [← e] at cc
      replace cc := Lib.hid cc
      clear e
      go_wp2_with (go_at_call 55; refine cc.out.mono ?_; rintro r w3 ⟨L', x', rfl, hR⟩; have hRh := Lib.hid hR; clear hR)
      go_ret
      exact SR.from hB1.out (SR.from hBW.out ⟨L', x', rfl, hRh.out⟩)
    by_cases h7 : k = 7
    · subst h7
      have e : rs = signT s (pkO made a) (pkO made b) := hrs.out.trans rfl
      have cCall := Lib.hid (fun W' (h : Below W1.heap.size W1 W') => cSig.out W' h)
      rw [hK1h.out.nm.pick, hK1h.out.nm.pick, ← e] at cCall
      clear e hc2
      go_upto_region 14 with fail
      clear d0
      refine region_iw tbKp14 dsKp14 (vsKp14 g q (V.heap.size) kA sA mA kn kc sn sc mn mc 7 a b c y (pkI lm a) (pkI lm b) 0 ((0 : UInt8))) (fun L T W => Stay W1 W ∧ (L 8 = false → Below W1.heap.size W1 W) ∧ (L 8 = true → SR w0 g W1 Lt rs (.returned (T.getD 62 undef)) W) ∧ (L 9 = true → L 8 = true ∧ T.getD 4 undef = T.getD 62 undef)) rfl (by decide) (by kernel_rfl) ?hlt ?hstep ?hdone ?hstart
      case hstart => exact ⟨Stay.of_below (hBW.out.trans ((drewN_below 1).mono hBW.out.size)), fun _ => hBW.out.trans ((drewN_below 1).mono hBW.out.size), fun h => absurd h (inv_not (n := 10) (i := 8) (by decide)), fun h => absurd h (inv_not (n := 10) (i := 9) (by decide))⟩
      case hlt =>
        intro ix o ho
        have hi := (Array.getElem?_eq_some_iff.1 ho).1
        match ix, hi with
        | 0, _ => obtain rfl := Option.some.inj ho; decide
        | 1, _ => obtain rfl := Option.some.inj ho; decide
        | 2, _ => obtain rfl := Option.some.inj ho; decide
        | 3, _ => obtain rfl := Option.some.inj ho; decide
        | 4, _ => obtain rfl := Option.some.inj ho; decide
        | 5, _ => obtain rfl := Option.some.inj ho; decide
        | 6, _ => obtain rfl := Option.some.inj ho; decide
        | 7, _ => obtain rfl := Option.some.inj ho; decide
        | 8, _ => obtain rfl := Option.some.inj ho; decide
        | 9, _ => obtain rfl := Option.some.inj ho; decide
      case hstep =>
        intro T1 hE L T W ix o hF hW hc ho hLi hd K hK
        have hN : T1.size = 85 := by rw [hE]; rfl
        have f0 : T.getD 0 undef = .pointer (some ⟨q, 0, none⟩) := (hF.old 0 (by decide)).trans (by rw [hE]; rfl)
        have f3 : T.getD 3 undef = .pointer (some ⟨(V.heap.size), 0, none⟩) := (hF.old 3 (by decide)).trans (by rw [hE]; rfl)
        have f5 : T.getD 5 undef = .int .i64 (pkI lm a) := (hF.old 5 (by decide)).trans (by rw [hE]; rfl)
        have f6 : T.getD 6 undef = .int .i64 (pkI lm b) := (hF.old 6 (by decide)).trans (by rw [hE]; rfl)
        clear hE
        replace hF := Lib.hid hF
        replace hW := Lib.hid hW
        replace hK := Lib.hid hK
        have hi := (List.getElem?_eq_some_iff.1 ho).1
        match ix, hi with
        | 0, _ =>
          obtain rfl := Option.some.inj ho
          clear hd ho hi hc hLi
          exact st_val (v := .pointer (some ⟨q, 0, none⟩)) (w' := W) (want_none rfl) (by unfold execOp; dsimp only [Act.eval]; simp only [f0]; go_simp) (hK.out _ _ (hF.out.put (k := 0) (s := 54) rfl (by decide) hN (by decide) (fun u hu => Option.some.inj (Option.some.inj (show some (some (.pointer (some ⟨q, 0, none⟩))) = some (some u) from hu))) (by dsimp only; rw [gd_ne (show 54 ≠ 62 by decide), gd_ne (show 54 ≠ 4 by decide)]; exact hW.out)))
        | 1, _ =>
          obtain rfl := Option.some.inj ho
          have l0 : L 0 = true := dep_of hd (n := 0) (by decide)
          have e54 : T.getD 54 undef = .pointer (some ⟨q, 0, none⟩) := hF.out.val 0 54 _ l0 rfl rfl
          clear hd ho hi hc hLi
          exact st_val (v := .pointer (some ⟨q, 0, none⟩)) (w' := W) (want_none rfl) (by unfold execOp; dsimp only [Act.eval]; simp only [e54]; go_simp) (hK.out _ _ (hF.out.put (k := 1) (s := 55) rfl (by decide) hN (by decide) (fun u hu => Option.some.inj (Option.some.inj (show some (some (.pointer (some ⟨q, 0, none⟩))) = some (some u) from hu))) (by dsimp only; rw [gd_ne (show 55 ≠ 62 by decide), gd_ne (show 55 ≠ 4 by decide)]; exact hW.out)))
        | 2, _ =>
          obtain rfl := Option.some.inj ho
          have l1 : L 1 = true := dep_of hd (n := 1) (by decide)
          have e55 : T.getD 55 undef = .pointer (some ⟨q, 0, none⟩) := hF.out.val 1 55 _ l1 rfl rfl
          clear hd ho hi hc hLi
          exact st_val (v := .pointer (some ⟨q, 0, none⟩)) (w' := W) (want_none rfl) (by unfold execOp; dsimp only [Act.eval]; simp only [e55]; go_simp) (hK.out _ _ (hF.out.put (k := 2) (s := 56) rfl (by decide) hN (by decide) (fun u hu => Option.some.inj (Option.some.inj (show some (some (.pointer (some ⟨q, 0, none⟩))) = some (some u) from hu))) (by dsimp only; rw [gd_ne (show 56 ≠ 62 by decide), gd_ne (show 56 ≠ 4 by decide)]; exact hW.out)))
        | 3, _ =>
          obtain rfl := Option.some.inj ho
          have l2 : L 2 = true := dep_of hd (n := 2) (by decide)
          have e56 : T.getD 56 undef = .pointer (some ⟨q, 0, none⟩) := hF.out.val 2 56 _ l2 rfl rfl
          have hcc := (hCl.out W hW.out.1).1.1
          clear hd ho hi hc hLi
          exact st_val (v := .pointer (some ⟨g, 0, none⟩)) (w' := W) (want_none rfl) (by unfold execOp; dsimp only [Act.eval]; simp only [e56]; go_simp) (hK.out _ _ (hF.out.put (k := 3) (s := 57) rfl (by decide) hN (by decide) (fun u hu => Option.some.inj (Option.some.inj (show some (some (.pointer (some ⟨g, 0, none⟩))) = some (some u) from hu))) (by dsimp only; rw [gd_ne (show 57 ≠ 62 by decide), gd_ne (show 57 ≠ 4 by decide)]; exact hW.out)))
        | 4, _ =>
          obtain rfl := Option.some.inj ho
          clear hd ho hi hc hLi
          exact st_val (v := .pointer (some ⟨(V.heap.size), 4, none⟩)) (w' := W) (want_none rfl) (by unfold execOp; dsimp only [Act.eval]; simp only [f3]; go_simp) (hK.out _ _ (hF.out.put (k := 4) (s := 58) rfl (by decide) hN (by decide) (fun u hu => Option.some.inj (Option.some.inj (show some (some (.pointer (some ⟨(V.heap.size), 4, none⟩))) = some (some u) from hu))) (by dsimp only; rw [gd_ne (show 58 ≠ 62 by decide), gd_ne (show 58 ≠ 4 by decide)]; exact hW.out)))
        | 5, _ =>
          obtain rfl := Option.some.inj ho
          have l4 : L 4 = true := dep_of hd (n := 4) (by decide)
          have e58 : T.getD 58 undef = .pointer (some ⟨(V.heap.size), 4, none⟩) := hF.out.val 4 58 _ l4 rfl rfl
          have hcc := (hCl.out W hW.out.1).2.2.2.2.2
          clear hd ho hi hc hLi
          exact st_val (v := .string y) (w' := W) (want_none rfl) (by unfold execOp; dsimp only [Act.eval]; simp only [e58]; go_simp) (hK.out _ _ (hF.out.put (k := 5) (s := 59) rfl (by decide) hN (by decide) (fun u hu => Option.some.inj (Option.some.inj (show some (some (.string y)) = some (some u) from hu))) (by dsimp only; rw [gd_ne (show 59 ≠ 62 by decide), gd_ne (show 59 ≠ 4 by decide)]; exact hW.out)))
        | 6, _ =>
          obtain rfl := Option.some.inj ho
          clear hd ho hi hc hLi
          exact st_val (v := .int .i64 (pkI lm a)) (w' := W) (want_none rfl) (by unfold execOp; dsimp only [Act.eval]; simp only [f5]; go_simp) (hK.out _ _ (hF.out.put (k := 6) (s := 60) rfl (by decide) hN (by decide) (fun u hu => Option.some.inj (Option.some.inj (show some (some (.int .i64 (pkI lm a))) = some (some u) from hu))) (by dsimp only; rw [gd_ne (show 60 ≠ 62 by decide), gd_ne (show 60 ≠ 4 by decide)]; exact hW.out)))
        | 7, _ =>
          obtain rfl := Option.some.inj ho
          clear hd ho hi hc hLi
          exact st_val (v := .int .i64 (pkI lm b)) (w' := W) (want_none rfl) (by unfold execOp; dsimp only [Act.eval]; simp only [f6]; go_simp) (hK.out _ _ (hF.out.put (k := 7) (s := 61) rfl (by decide) hN (by decide) (fun u hu => Option.some.inj (Option.some.inj (show some (some (.int .i64 (pkI lm b))) = some (some u) from hu))) (by dsimp only; rw [gd_ne (show 61 ≠ 62 by decide), gd_ne (show 61 ≠ 4 by decide)]; exact hW.out)))
        | 8, _ =>
          obtain rfl := Option.some.inj ho
          have l3 : L 3 = true := dep_of hd (n := 3) (by decide)
          have e57 : T.getD 57 undef = .pointer (some ⟨g, 0, none⟩) := hF.out.val 3 57 _ l3 rfl rfl
          have l5 : L 5 = true := dep_of hd (n := 5) (by decide)
          have e59 : T.getD 59 undef = .string y := hF.out.val 5 59 _ l5 rfl rfl
          have l6 : L 6 = true := dep_of hd (n := 6) (by decide)
          have e60 : T.getD 60 undef = .int .i64 (pkI lm a) := hF.out.val 6 60 _ l6 rfl rfl
          have l7 : L 7 = true := dep_of hd (n := 7) (by decide)
          have e61 : T.getD 61 undef = .int .i64 (pkI lm b) := hF.out.val 7 61 _ l7 rfl rfl
          have hb := hW.out.2.1 hLi
          have cc := Lib.hid (cCall.out W hb)
          clear hd ho hi hc
          refine st_call (want_none rfl) (by unfold execOp; go_simp) cc.out ?_
          rintro r w3 ⟨L', x', rfl, a1, a2, a3, a4, a5, a6⟩
          exact ⟨_, rfl, hK.out _ _ (hF.out.put (k := 8) (s := 62) rfl (by decide) hN (by decide) (fun u hu => by cases hu) ⟨hW.out.1.trans a4, fun h => absurd h (by simp), fun _ => (by rw [gd_eq (by rw [hF.out.size, hN]; decide)]; exact SR.from hb ⟨L', x', rfl, a1, a2, a3, a4, a5, a6⟩), fun h => absurd (hW.out.2.2.2 h).1 (by rw [hLi]; decide)⟩)⟩
        | 9, _ =>
          obtain rfl := Option.some.inj ho
          have l8 : L 8 = true := dep_of hd (n := 8) (by decide)
          clear hd ho hi hc hLi
          exact st_val (v := T.getD 62 undef) (w' := W) (want_none rfl) rfl (hK.out _ _ (hF.out.put (k := 9) (s := 4) rfl (by decide) hN (by decide) (fun u hu => by cases hu) ⟨hW.out.1, hW.out.2.1, fun h => (by rw [gd_ne (show 4 ≠ 62 by decide)]; exact hW.out.2.2.1 h), fun _ => ⟨l8, (by rw [gd_eq (by rw [hF.out.size, hN]; decide), gd_ne (show 4 ≠ 62 by decide)])⟩⟩))
      case hdone =>
        intro L T W2 hF hW hall
        obtain ⟨L', x', es, hR⟩ := hW.2.2.1 (hall 8 (by decide))
        replace es := Ending.returned.inj es
        have e4 := (hW.2.2.2 (hall 9 (by decide))).2.trans es
        have hRh := Lib.hid hR
        have hT : T = #[.pointer (some ⟨q, 0, none⟩), .agg #[.int .i64 7, .int .i64 a, .int .i64 b, .int .i64 c, .string y], undef, .pointer (some ⟨(V.heap.size), 0, none⟩), .int .i64 x', .int .i64 (pkI lm a), .int .i64 (pkI lm b), .pointer (some ⟨q, 0, none⟩), .pointer (some ⟨q, 0, none⟩), .pointer (some ⟨q, 3, none⟩), .slice mA mn mc, .pointer (some ⟨(V.heap.size), 1, none⟩), .int .i64 a, .int .i64 (pkI lm a), .pointer (some ⟨q, 0, none⟩), .pointer (some ⟨q, 0, none⟩), .pointer (some ⟨q, 3, none⟩), .slice mA mn mc, .pointer (some ⟨(V.heap.size), 2, none⟩), .int .i64 b, .int .i64 (pkI lm b), .pointer (some ⟨(V.heap.size), 0, none⟩), .int .i64 7, .bool false, .bool false, .bool false, .bool false, .bool true, .bool true, undef, undef, undef, undef, undef, undef, undef, undef, undef, undef, undef, undef, undef, undef, undef, undef, undef, undef, undef, undef, undef, undef, undef, undef, undef, .pointer (some ⟨q, 0, none⟩), .pointer (some ⟨q, 0, none⟩), .pointer (some ⟨q, 0, none⟩), .pointer (some ⟨g, 0, none⟩), .pointer (some ⟨(V.heap.size), 4, none⟩), .string y, .int .i64 (pkI lm a), .int .i64 (pkI lm b), .int .i64 x', undef, undef, undef, undef, undef, undef, undef, undef, undef, undef, undef, undef, undef, undef, undef, undef, undef, undef, undef, undef, undef, undef] := (hF.fin [(54, .pointer (some ⟨q, 0, none⟩)), (55, .pointer (some ⟨q, 0, none⟩)), (56, .pointer (some ⟨q, 0, none⟩)), (57, .pointer (some ⟨g, 0, none⟩)), (58, .pointer (some ⟨(V.heap.size), 4, none⟩)), (59, .string y), (60, .int .i64 (pkI lm a)), (61, .int .i64 (pkI lm b)), (62, .int .i64 x'), (4, .int .i64 x')] [54, 55, 56, 57, 58, 59, 60, 61, 62, 4] rfl (List.forall_mem_cons.2 ⟨hF.val 0 _ _ (hall 0 (show 0 < 10 by decide)) rfl rfl, (List.forall_mem_cons.2 ⟨hF.val 1 _ _ (hall 1 (show 1 < 10 by decide)) rfl rfl, (List.forall_mem_cons.2 ⟨hF.val 2 _ _ (hall 2 (show 2 < 10 by decide)) rfl rfl, (List.forall_mem_cons.2 ⟨hF.val 3 _ _ (hall 3 (show 3 < 10 by decide)) rfl rfl, (List.forall_mem_cons.2 ⟨hF.val 4 _ _ (hall 4 (show 4 < 10 by decide)) rfl rfl, (List.forall_mem_cons.2 ⟨hF.val 5 _ _ (hall 5 (show 5 < 10 by decide)) rfl rfl, (List.forall_mem_cons.2 ⟨hF.val 6 _ _ (hall 6 (show 6 < 10 by decide)) rfl rfl, (List.forall_mem_cons.2 ⟨hF.val 7 _ _ (hall 7 (show 7 < 10 by decide)) rfl rfl, (List.forall_mem_cons.2 ⟨es, (List.forall_mem_cons.2 ⟨e4, (fun _ h => absurd h List.not_mem_nil)⟩)⟩)⟩)⟩)⟩)⟩)⟩)⟩)⟩)⟩) (by decide)).trans (by kernel_rfl)
        clear hF hall
        subst hT
        clear hR hW es e4
        go_wp2_with fail
        go_ret
        exact SR.from hB1.out ⟨L', x', rfl, hRh.out⟩
    by_cases h8 : k = 8
    · subst h8
      have e : rs = hashT (pkO made a) := hrs.out.trans rfl
      have cc := hSt2.out.hash hL (pkI lm a)
      rw [hK1h.out.nm.pick] at cc
      rw [← e] at cc
      replace cc := Lib.hid cc
      clear e
      go_wp2_with (go_at_call 57; refine cc.out.mono ?_; rintro r w3 ⟨L', x', rfl, hR⟩; have hRh := Lib.hid hR; clear hR)
      go_ret
      exact SR.from hB1.out (SR.from hBW.out ⟨L', x', rfl, hRh.out⟩)
    by_cases h9 : k = 9
    · subst h9
      have e : rs = if s = [] then none else deriveT (ltr s).toNat (pkO made a) (pkO made b) (pkO made c) := hrs.out.trans rfl
      have cc := cDer.out W2 hBW.out
      rw [← e] at cc
      replace cc := Lib.hid cc
      clear e
      go_wp2_with (first | (refine wpList_load_at 79 _ rfl rfl V.heap.size 0 rfl [.int .i64 9, .int .i64 a, .int .i64 b, .int .i64 c, .string y] _ hOr2.out Tryz.underlying79 rfl (by kernel_rfl) ?_) | (go_at_call 77; refine cc.out.mono ?_; rintro r w3 ⟨L', x', rfl, hR⟩; have hRh := Lib.hid hR; clear hR))
      go_ret
      exact SR.from hB1.out (SR.from hBW.out ⟨L', x', rfl, hRh.out⟩)
    by_cases h10 : k = 10
    · subst h10
      have e : rs = if 0 ≤ c ∧ c ≤ 4294967295 then sealT (pkO made a) c.toNat (pkO made b) else none := hrs.out.trans rfl
      have cc := cSea.out W2 hBW.out
      rw [← e] at cc
      replace cc := Lib.hid cc
      clear e
      go_wp2_with (first | (refine wpList_load_at 79 _ rfl rfl V.heap.size 0 rfl [.int .i64 10, .int .i64 a, .int .i64 b, .int .i64 c, .string y] _ hOr2.out Tryz.underlying79 rfl (by kernel_rfl) ?_) | (go_at_call 78; refine cc.out.mono ?_; rintro r w3 ⟨L', x', rfl, hR⟩; have hRh := Lib.hid hR; clear hR))
      go_ret
      exact SR.from hB1.out (SR.from hBW.out ⟨L', x', rfl, hRh.out⟩)
    by_cases h11 : k = 11
    · subst h11
      have e : rs = openT (pkO made a) (pkO made b) := hrs.out.trans rfl
      have cc := cOpe.out W2 hBW.out
      rw [← e] at cc
      unfold OpnR at cc
      replace cc := Lib.hid cc
      clear e
      go_wp2_with (go_at_call 79; refine cc.out.mono ?_; rintro r w3 ⟨z, rfl, hz, hbz⟩; have hzh := Lib.hid hz; have hbh := Lib.hid hbz; clear hz hbz)
      go_ret
      exact SR.from hB1.out (SR.from hBW.out (SR.same (hSt2.out.keep hbh.out) hzh.out hbh.out))
    by_cases h14 : k = 14
    · subst h14
      have e : rs = atT (pkO made a) b := hrs.out.trans rfl
      have cc := cLis.out W2 hBW.out
      rw [show listsT made 14 a b = atT (pkO made a) b from rfl] at cc
      rw [← e] at cc
      replace cc := Lib.hid cc
      clear e
      go_wp2_with (first | (refine wpList_load_at 79 _ rfl rfl V.heap.size 0 rfl [.int .i64 14, .int .i64 a, .int .i64 b, .int .i64 c, .string y] _ hOr2.out Tryz.underlying79 rfl (by kernel_rfl) ?_) | (go_at_call 80; refine cc.out.mono ?_; rintro r w3 ⟨L', x', rfl, hR⟩; have hRh := Lib.hid hR; clear hR))
      go_ret
      exact SR.from hB1.out (SR.from hBW.out ⟨L', x', rfl, hRh.out⟩)
    by_cases h13 : k = 13
    · subst h13
      have e : rs = addT (pkO made a) (pkO made b) := hrs.out.trans rfl
      have cc := cLis.out W2 hBW.out
      rw [show listsT made 13 a b = addT (pkO made a) (pkO made b) from rfl] at cc
      rw [← e] at cc
      replace cc := Lib.hid cc
      clear e
      go_wp2_with (first | (refine wpList_load_at 79 _ rfl rfl V.heap.size 0 rfl [.int .i64 13, .int .i64 a, .int .i64 b, .int .i64 c, .string y] _ hOr2.out Tryz.underlying79 rfl (by kernel_rfl) ?_) | (go_at_call 80; refine cc.out.mono ?_; rintro r w3 ⟨L', x', rfl, hR⟩; have hRh := Lib.hid hR; clear hR))
      go_ret
      exact SR.from hB1.out (SR.from hBW.out ⟨L', x', rfl, hRh.out⟩)
    have e : rs = givenT known sent k a s := by
      rw [hrs.out]
      unfold stepT givenT
      simp only [sel, if_neg h5, if_neg h6, if_neg h7, if_neg h8, if_neg h9, if_neg h10, if_neg h11, if_neg h13, if_neg h14]
    have cc := cGiv.out W2 hBW.out
    rw [← e] at cc
    replace cc := Lib.hid cc
    have e5 : (k == 5) = false := by simpa using h5
    have e6 : (k == 6) = false := by simpa using h6
    have e7 : (k == 7) = false := by simpa using h7
    have e8 : (k == 8) = false := by simpa using h8
    have e9 : (k == 9) = false := by simpa using h9
    have e10 : (k == 10) = false := by simpa using h10
    have e11 : (k == 11) = false := by simpa using h11
    have e14 : (k == 14) = false := by simpa using h14
    have e13 : (k == 13) = false := by simpa using h13
    clear e h5 h6 h7 h8 h9 h10 h11 h13 h14
    go_wp2_with (first | (refine wpList_load_at 79 _ rfl rfl V.heap.size 0 rfl [.int .i64 k, .int .i64 a, .int .i64 b, .int .i64 c, .string y] _ hOr2.out Tryz.underlying79 rfl (by kernel_rfl) ?_) | (go_at_call 81; refine cc.out.mono ?_; rintro r w3 ⟨L', x', rfl, hR⟩; have hRh := Lib.hid hR; clear hR))
    go_ret
    exact SR.from hB1.out (SR.from hBW.out ⟨L', x', rfl, hRh.out⟩)
end Go.Proofs.YtphnakdgpilcmaaGreatDoor
