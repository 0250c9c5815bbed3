/- Recipes: what is done with lists. (printed by wip/gen_rcd.py) -/
import Derived.Test.YtphnakdgpilcmaaGreatDoorRb22
import Derived.Test.YtphnakdgpilcmaaGreatDoorRb13
namespace Go.Proofs.YtphnakdgpilcmaaGreatDoor
open Go.RowKit Go.Maps

def LsP (Lt : List Tm) (B : Nat) (p : Option Tm) (A : Option Addr) (n c : Nat) (bb : Bool) (W : World) : Prop := (kindO p = 10 ↔ bb = true) ∧ (bb = true → ∃ (t : Tm) (l : List Int), p = some t ∧ t.kind = 10 ∧ n = l.length ∧ n ≤ 32 ∧ OwnD W B (.slice A n c) l ∧ NmL Lt l (t.args.map some))
theorem LsP.below {Lt : List Tm} {B : Nat} {p : Option Tm} {A : Option Addr} {n c : Nat} {bb : Bool} {W W' : World} (h : LsP Lt B p A n c bb W) (hb : Below W.heap.size W W') : LsP Lt B p A n c bb W' :=
  ⟨h.1, fun e => by obtain ⟨t, l, h1, h2, h3, h4, h5, h6⟩ := h.2 e; exact ⟨t, l, h1, h2, h3, h4, OwnR.keep h5 hb, h6⟩⟩
theorem LstR.lsp {Lt : List Tm} {W : World} {B : Nat} {p : Option Tm} {r : Ending} {w' : World} (h : LstR Lt W p r w') (hB : B ≤ W.heap.size) : ∃ A n c bb, r = .returned (.tuple #[.slice A n c, .bool bb]) ∧ Below W.heap.size W w' ∧ LsP Lt B p A n c bb w' := by
  obtain ⟨A, n, c, bb, rfl, hb, hk, hx⟩ := h
  refine ⟨A, n, c, bb, rfl, hb, hk, fun e => ?_⟩
  obtain ⟨t, xs, h1, h2, h3, h4, h5, h6⟩ := hx e
  have hl : xs.length = t.args.length := by have := congrArg List.length h6; simpa using this
  refine ⟨t, xs.map fun x : Nat => (x : Int), h1, h2, by rw [List.length_map, hl, h3], h4, ?_, by rw [List.length_map, List.length_map, hl], fun i x o hx ho => ?_⟩
  · have h7 : OwnR w' B 1 33 (.slice A n c) (xs.map idv) := OwnR.monoB h5 hB
    unfold OwnD
    rw [List.map_map]
    exact h7
  · rw [List.getElem?_map] at hx ho
    cases hy : xs[i]? with
    | none => rw [hy] at hx; cases hx
    | some y =>
      rw [hy] at hx
      obtain rfl : (y : Int) = x := Option.some.inj hx
      cases hu : t.args[i]? with
      | none => rw [hu] at ho; cases ho
      | some u =>
        rw [hu] at ho
        obtain rfl : some u = o := Option.some.inj ho
        exact arg_nm h6 hy hu
theorem atT_pick {p : Option Tm} {t : Tm} (i : Int) (hp : p = some t) (h : t.kind = 10) : atT p i = pkO (t.args.map some) i := by
  subst hp
  unfold atT pkO
  dsimp only
  by_cases h0 : i < 0
  · rw [if_neg (by omega), if_pos h0]
  · rw [if_pos ⟨h, by omega⟩, if_neg h0, List.getElem?_map]
    cases t.args[i.toNat]? <;> rfl
theorem atT_no {p : Option Tm} {i : Int} (h : ¬ kindO p = 10) : atT p i = none := by
  unfold atT
  cases p with
  | none => rfl
  | some t => dsimp only; rw [if_neg (fun e => h e.1)]
theorem addT_no {p q : Option Tm} (h : ¬ kindO p = 10) : addT p q = none := by
  unfold addT
  cases p with
  | none => rfl
  | some t => dsimp only; rw [if_neg (show ¬ t.kind = 10 from h)]
theorem addT_list {p q : Option Tm} {t : Tm} {Lt : List Tm} {l : List Int} {x : Int} (hp : p = some t) (h : t.kind = 10) (hl : NmL Lt l (t.args.map some)) (hx : Nm Lt x q) : addT p q = listT ((l ++ [x]).map (get Lt)) := by
  subst hp
  unfold addT
  dsimp only
  rw [if_pos h, List.map_append, hl.map_, List.map_cons, List.map_nil, hx.1]
theorem OwnR.typ_ge {w : World} {base k : Nat} {E : TypeId} {v : Value} {zs : List (List Value)} (h : OwnR w base k E v zs) {q : Nat} (hq : v.ownBlock = some q) : base ≤ q := (h.1.lt q hq).1
theorem SR.from2 {w W W1 : World} {g : Nat} {L : List Tm} {o : Option Tm} {r : Ending} {W' : World} (hb : Below W.heap.size W W1) (h : SR w g W1 L o r W') : SR w g W L o r W' := SR.from hb h
def listsT (made : List (Option Tm)) (k a b : Int) : Option Tm := if k = 14 then atT (pkO made a) b else addT (pkO made a) (pkO made b)
def dsKl1 : List (Option Nat) := [some 8, some 9, some 10, some 11, some 12, some 13, some 14, some 15, some 16, some 7, some 17, some 18, some 5, some 6]
def tbKl1 : List (List Nat) := [[], [], [1], [2], [3], [], [5], [4, 6], [0, 7], [8], [9], [9], [10], [11]]
def vsKl1 (g : Nat) (q : Nat) (p : Nat) (kA : Option Addr) (sA : Option Addr) (mA : Option Addr) (kn : Nat) (kc : Nat) (sn : Nat) (sc : Nat) (mn : Nat) (mc : Nat) (k : Int) (a : Int) (b : Int) (c : Int) (y : ByteArray) (x1 : Int) (x2 : Int) (x3 : Int) (c0 : UInt8) : List (Option Value) := [some (.pointer (some ⟨q, 0, none⟩)), some (.pointer (some ⟨q, 0, none⟩)), some (.pointer (some ⟨q, 0, none⟩)), some (.pointer (some ⟨q, 3, none⟩)), some (.slice mA mn mc), some (.pointer (some ⟨p, 1, none⟩)), some (.int .i64 a), some (.int .i64 x1), none, none, none, none, none, none]
def dsKl5 : List (Option Nat) := [some 23, some 24, some 25, some 26, some 27, some 28, some 29, some 30, some 31, some 32, some 33, some 34, some 35, some 36, some 37, some 4]
def tbKl5 : List (List Nat) := [[], [0], [1], [2], [], [], [5], [6], [7], [], [9], [8, 10], [11], [4, 12], [3, 13], [14]]
def vsKl5 (g : Nat) (q : Nat) (p : Nat) (kA : Option Addr) (sA : Option Addr) (mA : Option Addr) (kn : Nat) (kc : Nat) (sn : Nat) (sc : Nat) (mn : Nat) (mc : Nat) (k : Int) (a : Int) (b : Int) (c : Int) (y : ByteArray) (x1 : Int) (x2 : Int) (x3 : Int) (c0 : UInt8) (A : Option Addr) (n : Nat) (c' : Nat) : List (Option Value) := [some (.pointer (some ⟨q, 0, none⟩)), some (.pointer (some ⟨q, 0, none⟩)), some (.pointer (some ⟨q, 0, none⟩)), some (.pointer (some ⟨g, 0, none⟩)), some (.slice A n c'), some (.pointer (some ⟨q, 0, none⟩)), some (.pointer (some ⟨q, 0, none⟩)), some (.pointer (some ⟨q, 3, none⟩)), some (.slice mA mn mc), some (.pointer (some ⟨p, 2, none⟩)), some (.int .i64 b), some (.int .i64 x2), none, none, none, none]
set_option maxRecDepth 100000 in
set_option maxHeartbeats 4000000 in
theorem lists_any {w0 : World} {g q : Nat} {V : World} {Lt : List Tm} {kA sA mA : Option Addr} {kn kc sn sc mn mc : Nat} {lk ls lm : List Int} {known sent made : List (Option Tm)} (hK : KS w0 g q V Lt kA sA mA kn kc sn sc mn mc lk ls lm known sent made) (hL : Lt.length < 100) (k a b c : Int) (s : List UInt8) (hsl : s.length ≤ 4000000000) :
    Calls Tryz.prog 80 #[.pointer (some ⟨q, 0, none⟩), .agg (mkRow k a b c s).toArray] V (SR w0 g V Lt (listsT made k a b)) := by
  have hB1 := below_new V (.cells (mkRow k a b c s).toArray 79)
  have hK1 := hK.below hB1
  have hO1 := op_box V k a b c s
  obtain ⟨j0, hj0, hj1, hj2, hj3⟩ := info_parts id_info
  have d0 := hO1.cells.1
  obtain ⟨pO, hpO⟩ : ∃ pO, pO = pkO made a := ⟨_, rfl⟩
  have hCl := Lib.hid (fun W' (h : Stay (V.alloc (.cells (mkRow k a b c s).toArray 79)) W') => And.intro (hK1.kf.stay h).cells (hO1.stay h).cells)
  have hAtm := Lib.hid (fun W' (h : Stay (V.alloc (.cells (mkRow k a b c s).toArray 79)) W') (i : Int) => rat_any (c := mc) i W' hK.hm (hK1.kf.stay h).m.ints)
  have cLs := Lib.hid (fun W' (h : Below (V.alloc (.cells (mkRow k a b c s).toArray 79)).heap.size (V.alloc (.cells (mkRow k a b c s).toArray 79)) W') => klist_any (hK1.st.keep h) (hK1.kf.stay (Stay.of_below h)).blk (pkI lm a) pO (by rw [hpO]; exact hK1.nm.pickN a))
  have hK1h := Lib.hid hK1
  have hres : listsT made k a b = if k = 14 then atT pO b else addT pO (pkO made b) := by rw [hpO]; rfl
  obtain ⟨rs, hrs⟩ : ∃ rs, rs = listsT made k a b := ⟨_, rfl⟩
  rw [← hrs]
  rw [hres] at hrs
  replace hrs := Lib.hid hrs
  replace hB1 := Lib.hid hB1
  clear hK1 hO1 hK hpO hres
  unfold mkRow at *
  generalize bs s = y at *
  go_enter Tryz.func80, Tryz.ntmps80
  go_upto_region 1 with fail
  generalize (V.alloc (.cells [Value.int .i64 k, .int .i64 a, .int .i64 b, .int .i64 c, .string y].toArray 79)) = W1 at *
  refine region_iw tbKl1 dsKl1 (vsKl1 g q (V.heap.size) kA sA mA kn kc sn sc mn mc k a b c y (pkI lm a) 0 0 ((0 : UInt8))) (fun L T W => Below W1.heap.size W1 W ∧ (L 8 = true → ∃ (A : Option Addr) (n c' : Nat) (bb : Bool), T.getD 16 undef = .tuple #[.slice A n c', .bool bb] ∧ (L 9 = true → T.getD 7 undef = .tuple #[.slice A n c', .bool bb]) ∧ (L 10 = true → T.getD 17 undef = .slice A n c') ∧ (L 11 = true → T.getD 18 undef = .bool bb) ∧ (L 12 = true → T.getD 5 undef = .slice A n c') ∧ (L 13 = true → T.getD 6 undef = .bool bb) ∧ LsP Lt W1.heap.size pO A n c' bb W)) rfl (by decide) (by kernel_rfl) ?hlt ?hstep ?hdone ?hstart
  case hstart => exact ⟨drewN_below 1, fun h => absurd h (inv_not (n := 14) (i := 8) (by decide))⟩
  case hlt =>
    intro ix o ho
    have hi := (Array.getElem?_eq_some_iff.1 ho).1
    match ix, hi with
    | 0, _ => obtain rfl := Option.some.inj ho; decide
    | 1, _ => obtain rfl := Option.some.inj ho; decide
    | 2, _ => obtain rfl := Option.some.inj ho; decide
    | 3, _ => obtain rfl := Option.some.inj ho; decide
    | 4, _ => obtain rfl := Option.some.inj ho; decide
    | 5, _ => obtain rfl := Option.some.inj ho; decide
    | 6, _ => obtain rfl := Option.some.inj ho; decide
    | 7, _ => obtain rfl := Option.some.inj ho; decide
    | 8, _ => obtain rfl := Option.some.inj ho; decide
    | 9, _ => obtain rfl := Option.some.inj ho; decide
    | 10, _ => obtain rfl := Option.some.inj ho; decide
    | 11, _ => obtain rfl := Option.some.inj ho; decide
    | 12, _ => obtain rfl := Option.some.inj ho; decide
    | 13, _ => obtain rfl := Option.some.inj ho; decide
  case hstep =>
    intro T1 hE L T W ix o hF hW hc ho hLi hd K hK
    have hN : T1.size = 44 := by rw [hE]; rfl
    have f0 : T.getD 0 undef = .pointer (some ⟨q, 0, none⟩) := (hF.old 0 (by decide)).trans (by rw [hE]; rfl)
    have f3 : T.getD 3 undef = .pointer (some ⟨(V.heap.size), 0, none⟩) := (hF.old 3 (by decide)).trans (by rw [hE]; rfl)
    clear hE
    replace hF := Lib.hid hF
    replace hW := Lib.hid hW
    replace hK := Lib.hid hK
    have hi := (List.getElem?_eq_some_iff.1 ho).1
    match ix, hi with
    | 0, _ =>
      obtain rfl := Option.some.inj ho
      clear hd ho hi hc hLi
      exact st_val (v := .pointer (some ⟨q, 0, none⟩)) (w' := W) (want_none rfl) (by unfold execOp; dsimp only [Act.eval]; simp only [f0]; go_simp) (hK.out _ _ (hF.out.put (k := 0) (s := 8) rfl (by decide) hN (by decide) (fun u hu => Option.some.inj (Option.some.inj (show some (some (.pointer (some ⟨q, 0, none⟩))) = some (some u) from hu))) (by dsimp only; rw [gd_ne (show 8 ≠ 16 by decide), gd_ne (show 8 ≠ 7 by decide), gd_ne (show 8 ≠ 17 by decide), gd_ne (show 8 ≠ 18 by decide), gd_ne (show 8 ≠ 5 by decide), gd_ne (show 8 ≠ 6 by decide)]; exact hW.out)))
    | 1, _ =>
      obtain rfl := Option.some.inj ho
      clear hd ho hi hc hLi
      exact st_val (v := .pointer (some ⟨q, 0, none⟩)) (w' := W) (want_none rfl) (by unfold execOp; dsimp only [Act.eval]; simp only [f0]; go_simp) (hK.out _ _ (hF.out.put (k := 1) (s := 9) rfl (by decide) hN (by decide) (fun u hu => Option.some.inj (Option.some.inj (show some (some (.pointer (some ⟨q, 0, none⟩))) = some (some u) from hu))) (by dsimp only; rw [gd_ne (show 9 ≠ 16 by decide), gd_ne (show 9 ≠ 7 by decide), gd_ne (show 9 ≠ 17 by decide), gd_ne (show 9 ≠ 18 by decide), gd_ne (show 9 ≠ 5 by decide), gd_ne (show 9 ≠ 6 by decide)]; exact hW.out)))
    | 2, _ =>
      obtain rfl := Option.some.inj ho
      have l1 : L 1 = true := dep_of hd (n := 1) (by decide)
      have e9 : T.getD 9 undef = .pointer (some ⟨q, 0, none⟩) := hF.out.val 1 9 _ l1 rfl rfl
      clear hd ho hi hc hLi
      exact st_val (v := .pointer (some ⟨q, 0, none⟩)) (w' := W) (want_none rfl) (by unfold execOp; dsimp only [Act.eval]; simp only [e9]; go_simp) (hK.out _ _ (hF.out.put (k := 2) (s := 10) rfl (by decide) hN (by decide) (fun u hu => Option.some.inj (Option.some.inj (show some (some (.pointer (some ⟨q, 0, none⟩))) = some (some u) from hu))) (by dsimp only; rw [gd_ne (show 10 ≠ 16 by decide), gd_ne (show 10 ≠ 7 by decide), gd_ne (show 10 ≠ 17 by decide), gd_ne (show 10 ≠ 18 by decide), gd_ne (show 10 ≠ 5 by decide), gd_ne (show 10 ≠ 6 by decide)]; exact hW.out)))
    | 3, _ =>
      obtain rfl := Option.some.inj ho
      have l2 : L 2 = true := dep_of hd (n := 2) (by decide)
      have e10 : T.getD 10 undef = .pointer (some ⟨q, 0, none⟩) := hF.out.val 2 10 _ l2 rfl rfl
      clear hd ho hi hc hLi
      exact st_val (v := .pointer (some ⟨q, 3, none⟩)) (w' := W) (want_none rfl) (by unfold execOp; dsimp only [Act.eval]; simp only [e10]; go_simp) (hK.out _ _ (hF.out.put (k := 3) (s := 11) rfl (by decide) hN (by decide) (fun u hu => Option.some.inj (Option.some.inj (show some (some (.pointer (some ⟨q, 3, none⟩))) = some (some u) from hu))) (by dsimp only; rw [gd_ne (show 11 ≠ 16 by decide), gd_ne (show 11 ≠ 7 by decide), gd_ne (show 11 ≠ 17 by decide), gd_ne (show 11 ≠ 18 by decide), gd_ne (show 11 ≠ 5 by decide), gd_ne (show 11 ≠ 6 by decide)]; exact hW.out)))
    | 4, _ =>
      obtain rfl := Option.some.inj ho
      have l3 : L 3 = true := dep_of hd (n := 3) (by decide)
      have e11 : T.getD 11 undef = .pointer (some ⟨q, 3, none⟩) := hF.out.val 3 11 _ l3 rfl rfl
      have hcc := (hCl.out W (Stay.of_below hW.out.1)).1.2.2.2
      clear hd ho hi hc hLi
      exact st_val (v := .slice mA mn mc) (w' := W) (want_none rfl) (by unfold execOp; dsimp only [Act.eval]; simp only [e11]; go_simp) (hK.out _ _ (hF.out.put (k := 4) (s := 12) rfl (by decide) hN (by decide) (fun u hu => Option.some.inj (Option.some.inj (show some (some (.slice mA mn mc)) = some (some u) from hu))) (by dsimp only; rw [gd_ne (show 12 ≠ 16 by decide), gd_ne (show 12 ≠ 7 by decide), gd_ne (show 12 ≠ 17 by decide), gd_ne (show 12 ≠ 18 by decide), gd_ne (show 12 ≠ 5 by decide), gd_ne (show 12 ≠ 6 by decide)]; exact hW.out)))
    | 5, _ =>
      obtain rfl := Option.some.inj ho
      clear hd ho hi hc hLi
      exact st_val (v := .pointer (some ⟨(V.heap.size), 1, none⟩)) (w' := W) (want_none rfl) (by unfold execOp; dsimp only [Act.eval]; simp only [f3]; go_simp) (hK.out _ _ (hF.out.put (k := 5) (s := 13) rfl (by decide) hN (by decide) (fun u hu => Option.some.inj (Option.some.inj (show some (some (.pointer (some ⟨(V.heap.size), 1, none⟩))) = some (some u) from hu))) (by dsimp only; rw [gd_ne (show 13 ≠ 16 by decide), gd_ne (show 13 ≠ 7 by decide), gd_ne (show 13 ≠ 17 by decide), gd_ne (show 13 ≠ 18 by decide), gd_ne (show 13 ≠ 5 by decide), gd_ne (show 13 ≠ 6 by decide)]; exact hW.out)))
    | 6, _ =>
      obtain rfl := Option.some.inj ho
      have l5 : L 5 = true := dep_of hd (n := 5) (by decide)
      have e13 : T.getD 13 undef = .pointer (some ⟨(V.heap.size), 1, none⟩) := hF.out.val 5 13 _ l5 rfl rfl
      have hcc := (hCl.out W (Stay.of_below hW.out.1)).2.2.1
      clear hd ho hi hc hLi
      exact st_val (v := .int .i64 a) (w' := W) (want_none rfl) (by unfold execOp; dsimp only [Act.eval]; simp only [e13]; go_simp) (hK.out _ _ (hF.out.put (k := 6) (s := 14) rfl (by decide) hN (by decide) (fun u hu => Option.some.inj (Option.some.inj (show some (some (.int .i64 a)) = some (some u) from hu))) (by dsimp only; rw [gd_ne (show 14 ≠ 16 by decide), gd_ne (show 14 ≠ 7 by decide), gd_ne (show 14 ≠ 17 by decide), gd_ne (show 14 ≠ 18 by decide), gd_ne (show 14 ≠ 5 by decide), gd_ne (show 14 ≠ 6 by decide)]; exact hW.out)))
    | 7, _ =>
      obtain rfl := Option.some.inj ho
      have l4 : L 4 = true := dep_of hd (n := 4) (by decide)
      have e12 : T.getD 12 undef = .slice mA mn mc := hF.out.val 4 12 _ l4 rfl rfl
      have l6 : L 6 = true := dep_of hd (n := 6) (by decide)
      have e14 : T.getD 14 undef = .int .i64 a := hF.out.val 6 14 _ l6 rfl rfl
      have cc := Lib.hid (hAtm.out W (Stay.of_below hW.out.1) a)
      clear hd ho hi hc hLi
      refine st_call (want_none rfl) (by unfold execOp; go_simp) cc.out ?_
      rintro r w3 ⟨rfl, rfl⟩
      exact ⟨_, rfl, hK.out _ _ (hF.out.put (k := 7) (s := 15) rfl (by decide) hN (by decide) (fun u hu => Option.some.inj (Option.some.inj (show some (some (.int .i64 (pkI lm a))) = some (some u) from hu))) (by dsimp only; rw [gd_ne (show 15 ≠ 16 by decide), gd_ne (show 15 ≠ 7 by decide), gd_ne (show 15 ≠ 17 by decide), gd_ne (show 15 ≠ 18 by decide), gd_ne (show 15 ≠ 5 by decide), gd_ne (show 15 ≠ 6 by decide)]; exact hW.out))⟩
    | 8, _ =>
      obtain rfl := Option.some.inj ho
      have l0 : L 0 = true := dep_of hd (n := 0) (by decide)
      have e8 : T.getD 8 undef = .pointer (some ⟨q, 0, none⟩) := hF.out.val 0 8 _ l0 rfl rfl
      have l7 : L 7 = true := dep_of hd (n := 7) (by decide)
      have e15 : T.getD 15 undef = .int .i64 (pkI lm a) := hF.out.val 7 15 _ l7 rfl rfl
      have n9 : ¬ L 9 = true := fun h => by have := hc 9 8 h (by decide); rw [hLi] at this; cases this
      have n10 : ¬ L 10 = true := fun h => n9 (hc 10 9 h (by decide))
      have n11 : ¬ L 11 = true := fun h => n9 (hc 11 9 h (by decide))
      have n12 : ¬ L 12 = true := fun h => n10 (hc 12 10 h (by decide))
      have n13 : ¬ L 13 = true := fun h => n11 (hc 13 11 h (by decide))
      have cc := Lib.hid (cLs.out W hW.out.1)
      clear hd ho hi hc
      refine st_call (want_none rfl) (by unfold execOp; go_simp) cc.out ?_
      intro r w3 hR
      obtain ⟨A, n, c', bb, rfl, hb3, hP⟩ := hR.lsp hW.out.1.size
      exact ⟨_, rfl, hK.out _ _ (hF.out.put (k := 8) (s := 16) rfl (by decide) hN (by decide) (fun u hu => by cases hu) ⟨hW.out.1.trans (hb3.mono hW.out.1.size), fun _ => ⟨A, n, c', bb, gd_eq (by rw [hF.out.size, hN]; decide), fun h => absurd h n9, fun h => absurd h n10, fun h => absurd h n11, fun h => absurd h n12, fun h => absurd h n13, hP⟩⟩)⟩
    | 9, _ =>
      obtain rfl := Option.some.inj ho
      have l8 : L 8 = true := dep_of hd (n := 8) (by decide)
      obtain ⟨A, n, c', bb, h16, h7, h17, h18, h5, h6, hP⟩ := hW.out.2 l8
      have e16 := h16
      clear hd ho hi hc hLi
      exact st_val (v := .tuple #[.slice A n c', .bool bb]) (w' := W) (want_none rfl) (by unfold execOp; dsimp only [Act.eval]; simp only [e16]; go_simp) (hK.out _ _ (hF.out.put (k := 9) (s := 7) rfl (by decide) hN (by decide) (fun u hu => by cases hu) ⟨hW.out.1, fun _ => ⟨A, n, c', bb, (gd_ne (show 7 ≠ 16 by decide)).trans h16, fun _ => gd_eq (by rw [hF.out.size, hN]; decide), fun h => (gd_ne (show 7 ≠ 17 by decide)).trans (h17 h), fun h => (gd_ne (show 7 ≠ 18 by decide)).trans (h18 h), fun h => (gd_ne (show 7 ≠ 5 by decide)).trans (h5 h), fun h => (gd_ne (show 7 ≠ 6 by decide)).trans (h6 h), hP⟩⟩))
    | 10, _ =>
      obtain rfl := Option.some.inj ho
      have l9 : L 9 = true := dep_of hd (n := 9) (by decide)
      have l8 : L 8 = true := hc 9 8 l9 (by decide)
      obtain ⟨A, n, c', bb, h16, h7, h17, h18, h5, h6, hP⟩ := hW.out.2 l8
      have e7 := (h7 l9)
      clear hd ho hi hc hLi
      exact st_val (v := .slice A n c') (w' := W) (want_none rfl) (by unfold execOp; dsimp only [Act.eval]; simp only [e7]; go_simp) (hK.out _ _ (hF.out.put (k := 10) (s := 17) rfl (by decide) hN (by decide) (fun u hu => by cases hu) ⟨hW.out.1, fun _ => ⟨A, n, c', bb, (gd_ne (show 17 ≠ 16 by decide)).trans h16, fun h => (gd_ne (show 17 ≠ 7 by decide)).trans (h7 h), fun _ => gd_eq (by rw [hF.out.size, hN]; decide), fun h => (gd_ne (show 17 ≠ 18 by decide)).trans (h18 h), fun h => (gd_ne (show 17 ≠ 5 by decide)).trans (h5 h), fun h => (gd_ne (show 17 ≠ 6 by decide)).trans (h6 h), hP⟩⟩))
    | 11, _ =>
      obtain rfl := Option.some.inj ho
      have l9 : L 9 = true := dep_of hd (n := 9) (by decide)
      have l8 : L 8 = true := hc 9 8 l9 (by decide)
      obtain ⟨A, n, c', bb, h16, h7, h17, h18, h5, h6, hP⟩ := hW.out.2 l8
      have e7 := (h7 l9)
      clear hd ho hi hc hLi
      exact st_val (v := .bool bb) (w' := W) (want_none rfl) (by unfold execOp; dsimp only [Act.eval]; simp only [e7]; go_simp) (hK.out _ _ (hF.out.put (k := 11) (s := 18) rfl (by decide) hN (by decide) (fun u hu => by cases hu) ⟨hW.out.1, fun _ => ⟨A, n, c', bb, (gd_ne (show 18 ≠ 16 by decide)).trans h16, fun h => (gd_ne (show 18 ≠ 7 by decide)).trans (h7 h), fun h => (gd_ne (show 18 ≠ 17 by decide)).trans (h17 h), fun _ => gd_eq (by rw [hF.out.size, hN]; decide), fun h => (gd_ne (show 18 ≠ 5 by decide)).trans (h5 h), fun h => (gd_ne (show 18 ≠ 6 by decide)).trans (h6 h), hP⟩⟩))
    | 12, _ =>
      obtain rfl := Option.some.inj ho
      have l10 : L 10 = true := dep_of hd (n := 10) (by decide)
      have l9 : L 9 = true := hc 10 9 l10 (by decide)
      have l8 : L 8 = true := hc 9 8 l9 (by decide)
      obtain ⟨A, n, c', bb, h16, h7, h17, h18, h5, h6, hP⟩ := hW.out.2 l8
      have e17 := (h17 l10)
      clear hd ho hi hc hLi
      exact st_val (v := .slice A n c') (w' := W) (want_none rfl) (by unfold execOp; dsimp only [Act.eval]; simp only [e17]; go_simp) (hK.out _ _ (hF.out.put (k := 12) (s := 5) rfl (by decide) hN (by decide) (fun u hu => by cases hu) ⟨hW.out.1, fun _ => ⟨A, n, c', bb, (gd_ne (show 5 ≠ 16 by decide)).trans h16, fun h => (gd_ne (show 5 ≠ 7 by decide)).trans (h7 h), fun h => (gd_ne (show 5 ≠ 17 by decide)).trans (h17 h), fun h => (gd_ne (show 5 ≠ 18 by decide)).trans (h18 h), fun _ => gd_eq (by rw [hF.out.size, hN]; decide), fun h => (gd_ne (show 5 ≠ 6 by decide)).trans (h6 h), hP⟩⟩))
    | 13, _ =>
      obtain rfl := Option.some.inj ho
      have l11 : L 11 = true := dep_of hd (n := 11) (by decide)
      have l9 : L 9 = true := hc 11 9 l11 (by decide)
      have l8 : L 8 = true := hc 9 8 l9 (by decide)
      obtain ⟨A, n, c', bb, h16, h7, h17, h18, h5, h6, hP⟩ := hW.out.2 l8
      have e18 := (h18 l11)
      clear hd ho hi hc hLi
      exact st_val (v := .bool bb) (w' := W) (want_none rfl) (by unfold execOp; dsimp only [Act.eval]; simp only [e18]; go_simp) (hK.out _ _ (hF.out.put (k := 13) (s := 6) rfl (by decide) hN (by decide) (fun u hu => by cases hu) ⟨hW.out.1, fun _ => ⟨A, n, c', bb, (gd_ne (show 6 ≠ 16 by decide)).trans h16, fun h => (gd_ne (show 6 ≠ 7 by decide)).trans (h7 h), fun h => (gd_ne (show 6 ≠ 17 by decide)).trans (h17 h), fun h => (gd_ne (show 6 ≠ 18 by decide)).trans (h18 h), fun h => (gd_ne (show 6 ≠ 5 by decide)).trans (h5 h), fun _ => gd_eq (by rw [hF.out.size, hN]; decide), hP⟩⟩))
  case hdone =>
    intro L T W2 hF hW hall
    obtain ⟨A, n, c', bb, e16, h7, h17, h18, h5, h6, hP⟩ := hW.2 (hall 8 (by decide))
    have e7 := h7 (hall 9 (by decide))
    have e17 := h17 (hall 10 (by decide))
    have e18 := h18 (hall 11 (by decide))
    have e5 := h5 (hall 12 (by decide))
    have e6 := h6 (hall 13 (by decide))
    have hBW := Lib.hid hW.1
    have hPh := Lib.hid hP
    have hT : T = #[.pointer (some ⟨q, 0, none⟩), .agg #[.int .i64 k, .int .i64 a, .int .i64 b, .int .i64 c, .string y], undef, .pointer (some ⟨(V.heap.size), 0, none⟩), .int .i64 0, .slice A n c', .bool bb, .tuple #[.slice A n c', .bool bb], .pointer (some ⟨q, 0, none⟩), .pointer (some ⟨q, 0, none⟩), .pointer (some ⟨q, 0, none⟩), .pointer (some ⟨q, 3, none⟩), .slice mA mn mc, .pointer (some ⟨(V.heap.size), 1, none⟩), .int .i64 a, .int .i64 (pkI lm a), .tuple #[.slice A n c', .bool bb], .slice A n c', .bool bb, undef, undef, undef, undef, undef, undef, undef, undef, undef, undef, undef, undef, undef, undef, undef, undef, undef, undef, undef, undef, undef, undef, undef, undef, undef] := (hF.fin [(8, .pointer (some ⟨q, 0, none⟩)), (9, .pointer (some ⟨q, 0, none⟩)), (10, .pointer (some ⟨q, 0, none⟩)), (11, .pointer (some ⟨q, 3, none⟩)), (12, .slice mA mn mc), (13, .pointer (some ⟨(V.heap.size), 1, none⟩)), (14, .int .i64 a), (15, .int .i64 (pkI lm a)), (16, .tuple #[.slice A n c', .bool bb]), (7, .tuple #[.slice A n c', .bool bb]), (17, .slice A n c'), (18, .bool bb), (5, .slice A n c'), (6, .bool bb)] [8, 9, 10, 11, 12, 13, 14, 15, 16, 7, 17, 18, 5, 6] rfl (List.forall_mem_cons.2 ⟨hF.val 0 _ _ (hall 0 (show 0 < 14 by decide)) rfl rfl, (List.forall_mem_cons.2 ⟨hF.val 1 _ _ (hall 1 (show 1 < 14 by decide)) rfl rfl, (List.forall_mem_cons.2 ⟨hF.val 2 _ _ (hall 2 (show 2 < 14 by decide)) rfl rfl, (List.forall_mem_cons.2 ⟨hF.val 3 _ _ (hall 3 (show 3 < 14 by decide)) rfl rfl, (List.forall_mem_cons.2 ⟨hF.val 4 _ _ (hall 4 (show 4 < 14 by decide)) rfl rfl, (List.forall_mem_cons.2 ⟨hF.val 5 _ _ (hall 5 (show 5 < 14 by decide)) rfl rfl, (List.forall_mem_cons.2 ⟨hF.val 6 _ _ (hall 6 (show 6 < 14 by decide)) rfl rfl, (List.forall_mem_cons.2 ⟨hF.val 7 _ _ (hall 7 (show 7 < 14 by decide)) rfl rfl, (List.forall_mem_cons.2 ⟨e16, (List.forall_mem_cons.2 ⟨e7, (List.forall_mem_cons.2 ⟨e17, (List.forall_mem_cons.2 ⟨e18, (List.forall_mem_cons.2 ⟨e5, (List.forall_mem_cons.2 ⟨e6, (fun _ h => absurd h List.not_mem_nil)⟩)⟩)⟩)⟩)⟩)⟩)⟩)⟩)⟩)⟩)⟩)⟩)⟩)⟩) (by decide)).trans (by kernel_rfl)
    clear hF hall
    subst hT
    clear hW hP e16 h7 h17 h18 h5 h6 e7 e17 e18 e5 e6
    have d0 := (hCl.out W2 (Stay.of_below hBW.out)).2.1
    have hSt2 := Lib.hid (hK1h.out.st.keep hBW.out)
    cases bb with
    | false =>
      have hno : ¬ kindO pO = 10 := fun h => by have := hPh.out.1.1 h; cases this
      have e : rs = none := by rw [hrs.out, atT_no hno, addT_no hno]; simp
      have hR := SR.none_ hSt2.out (hB1.out.trans (hBW.out.mono hB1.out.size))
      rw [← e] at hR
      replace hR := Lib.hid hR
      clear e hno d0
      go_wp2_with fail
      go_ret
      exact hR.out
    | true =>
      obtain ⟨t, l, hp, hk10, hnl, hn32, hO, hNl⟩ := hPh.out.2 rfl
      by_cases hk : k = 14
      · subst hk
        have e : rs = pkO (t.args.map some) b := by rw [hrs.out, if_pos rfl, atT_pick b hp hk10]
        have hx := hNl.pickN b
        obtain ⟨A', c2, ev, hI⟩ := hO.ints
        injection ev with q1 q2 q3
        subst q1
        rw [← hnl] at hI
        have cA := Lib.hid (rat_any (c := c') b W2 (by omega) hI)
        have dp := Lib.hid (hCl.out W2 (Stay.of_below hBW.out)).2.2.2.1
        have hR := SR.same hSt2.out hx (hB1.out.trans (hBW.out.mono hB1.out.size))
        rw [← e] at hR
        replace hR := Lib.hid hR
        clear e
        have d2 := dp.out
        clear hx hI hO hNl hnl q2 q3 hp hk10 hPh
        go_wp2_with (go_at_call 76; refine cA.out.mono ?_; rintro r w3 ⟨rfl, rfl⟩)
        go_ret
        exact hR.out
      · have e : rs = listT ((l ++ [pkI lm b]).map (get Lt)) := by rw [hrs.out, if_neg hk, addT_list hp hk10 hNl (hK1h.out.nm.pickN b)]
        have hkb : (k == 14) = false := by simpa using hk
        have cCall := Lib.hid (fun W' (h : Below W1.heap.size W1 W') A' c2 (hI : Ints W' A' (l ++ [pkI lm b]).length (l ++ [pkI lm b])) => (hK1h.out.st.keep h).list hL (l ++ [pkI lm b]) A' (l ++ [pkI lm b]).length c2 (by rw [List.length_append]; simp; omega) hI)
        have hlen : l.length ≤ 32 := by omega
        have hOh := Lib.hid hO
        rw [← e] at cCall
        clear e
        clear hp hk10 hNl hO hnl hPh hk hrs
        go_upto_region 5 with fail
        refine region_iw tbKl5 dsKl5 (vsKl5 g q (V.heap.size) kA sA mA kn kc sn sc mn mc k a b c y (pkI lm a) (pkI lm b) 0 ((0 : UInt8)) A n c') (fun L T W => Stay W1 W ∧ (L 14 = false → Below W1.heap.size W1 W) ∧ (L 12 = false → OwnD W W1.heap.size (.slice A n c') l) ∧ (L 12 = true → L 13 = false → ∃ g1 : Nat, T.getD 35 undef = .slice (some ⟨g1, 0, none⟩) 1 1 ∧ W.rangeAt g1 0 [.int .i64 (pkI lm b)] ∧ OwnD W W1.heap.size (.slice A n c') l) ∧ (L 13 = true → L 14 = false → OwnD W W1.heap.size (T.getD 36 undef) (l ++ [pkI lm b])) ∧ (L 14 = true → SR w0 g W1 Lt rs (.returned (T.getD 37 undef)) W) ∧ (L 15 = true → L 14 = true ∧ T.getD 4 undef = T.getD 37 undef)) rfl (by decide) (by kernel_rfl) ?hlt ?hstep ?hdone ?hstart
        case hstart => exact ⟨Stay.of_below (hBW.out.trans ((drewN_below 1).mono hBW.out.size)), fun _ => hBW.out.trans ((drewN_below 1).mono hBW.out.size), fun _ => OwnR.keep hOh.out (drewN_below 1), fun h => absurd h (inv_not (n := 16) (i := 12) (by decide)), fun h => absurd h (inv_not (n := 16) (i := 13) (by decide)), fun h => absurd h (inv_not (n := 16) (i := 14) (by decide)), fun h => absurd h (inv_not (n := 16) (i := 15) (by decide))⟩
        case hlt =>
          intro ix o ho
          have hi := (Array.getElem?_eq_some_iff.1 ho).1
          match ix, hi with
          | 0, _ => obtain rfl := Option.some.inj ho; decide
          | 1, _ => obtain rfl := Option.some.inj ho; decide
          | 2, _ => obtain rfl := Option.some.inj ho; decide
          | 3, _ => obtain rfl := Option.some.inj ho; decide
          | 4, _ => obtain rfl := Option.some.inj ho; decide
          | 5, _ => obtain rfl := Option.some.inj ho; decide
          | 6, _ => obtain rfl := Option.some.inj ho; decide
          | 7, _ => obtain rfl := Option.some.inj ho; decide
          | 8, _ => obtain rfl := Option.some.inj ho; decide
          | 9, _ => obtain rfl := Option.some.inj ho; decide
          | 10, _ => obtain rfl := Option.some.inj ho; decide
          | 11, _ => obtain rfl := Option.some.inj ho; decide
          | 12, _ => obtain rfl := Option.some.inj ho; decide
          | 13, _ => obtain rfl := Option.some.inj ho; decide
          | 14, _ => obtain rfl := Option.some.inj ho; decide
          | 15, _ => obtain rfl := Option.some.inj ho; decide
        case hstep =>
          intro T1 hE L T W ix o hF hW hc ho hLi hd K hK
          have hN : T1.size = 44 := by rw [hE]; rfl
          have f0 : T.getD 0 undef = .pointer (some ⟨q, 0, none⟩) := (hF.old 0 (by decide)).trans (by rw [hE]; rfl)
          have f3 : T.getD 3 undef = .pointer (some ⟨(V.heap.size), 0, none⟩) := (hF.old 3 (by decide)).trans (by rw [hE]; rfl)
          have f5 : T.getD 5 undef = .slice A n c' := (hF.old 5 (by decide)).trans (by rw [hE]; rfl)
          clear hE
          replace hF := Lib.hid hF
          replace hW := Lib.hid hW
          replace hK := Lib.hid hK
          have hi := (List.getElem?_eq_some_iff.1 ho).1
          match ix, hi with
          | 0, _ =>
            obtain rfl := Option.some.inj ho
            clear hd ho hi hc hLi
            exact st_val (v := .pointer (some ⟨q, 0, none⟩)) (w' := W) (want_none rfl) (by unfold execOp; dsimp only [Act.eval]; simp only [f0]; go_simp) (hK.out _ _ (hF.out.put (k := 0) (s := 23) rfl (by decide) hN (by decide) (fun u hu => Option.some.inj (Option.some.inj (show some (some (.pointer (some ⟨q, 0, none⟩))) = some (some u) from hu))) (by dsimp only; rw [gd_ne (show 23 ≠ 35 by decide), gd_ne (show 23 ≠ 36 by decide), gd_ne (show 23 ≠ 37 by decide), gd_ne (show 23 ≠ 4 by decide)]; exact hW.out)))
          | 1, _ =>
            obtain rfl := Option.some.inj ho
            have l0 : L 0 = true := dep_of hd (n := 0) (by decide)
            have e23 : T.getD 23 undef = .pointer (some ⟨q, 0, none⟩) := hF.out.val 0 23 _ l0 rfl rfl
            clear hd ho hi hc hLi
            exact st_val (v := .pointer (some ⟨q, 0, none⟩)) (w' := W) (want_none rfl) (by unfold execOp; dsimp only [Act.eval]; simp only [e23]; go_simp) (hK.out _ _ (hF.out.put (k := 1) (s := 24) rfl (by decide) hN (by decide) (fun u hu => Option.some.inj (Option.some.inj (show some (some (.pointer (some ⟨q, 0, none⟩))) = some (some u) from hu))) (by dsimp only; rw [gd_ne (show 24 ≠ 35 by decide), gd_ne (show 24 ≠ 36 by decide), gd_ne (show 24 ≠ 37 by decide), gd_ne (show 24 ≠ 4 by decide)]; exact hW.out)))
          | 2, _ =>
            obtain rfl := Option.some.inj ho
            have l1 : L 1 = true := dep_of hd (n := 1) (by decide)
            have e24 : T.getD 24 undef = .pointer (some ⟨q, 0, none⟩) := hF.out.val 1 24 _ l1 rfl rfl
            clear hd ho hi hc hLi
            exact st_val (v := .pointer (some ⟨q, 0, none⟩)) (w' := W) (want_none rfl) (by unfold execOp; dsimp only [Act.eval]; simp only [e24]; go_simp) (hK.out _ _ (hF.out.put (k := 2) (s := 25) rfl (by decide) hN (by decide) (fun u hu => Option.some.inj (Option.some.inj (show some (some (.pointer (some ⟨q, 0, none⟩))) = some (some u) from hu))) (by dsimp only; rw [gd_ne (show 25 ≠ 35 by decide), gd_ne (show 25 ≠ 36 by decide), gd_ne (show 25 ≠ 37 by decide), gd_ne (show 25 ≠ 4 by decide)]; exact hW.out)))
          | 3, _ =>
            obtain rfl := Option.some.inj ho
            have l2 : L 2 = true := dep_of hd (n := 2) (by decide)
            have e25 : T.getD 25 undef = .pointer (some ⟨q, 0, none⟩) := hF.out.val 2 25 _ l2 rfl rfl
            have hcc := (hCl.out W hW.out.1).1.1
            clear hd ho hi hc hLi
            exact st_val (v := .pointer (some ⟨g, 0, none⟩)) (w' := W) (want_none rfl) (by unfold execOp; dsimp only [Act.eval]; simp only [e25]; go_simp) (hK.out _ _ (hF.out.put (k := 3) (s := 26) rfl (by decide) hN (by decide) (fun u hu => Option.some.inj (Option.some.inj (show some (some (.pointer (some ⟨g, 0, none⟩))) = some (some u) from hu))) (by dsimp only; rw [gd_ne (show 26 ≠ 35 by decide), gd_ne (show 26 ≠ 36 by decide), gd_ne (show 26 ≠ 37 by decide), gd_ne (show 26 ≠ 4 by decide)]; exact hW.out)))
          | 4, _ =>
            obtain rfl := Option.some.inj ho
            clear hd ho hi hc hLi
            exact st_val (v := .slice A n c') (w' := W) (want_none rfl) (by unfold execOp; dsimp only [Act.eval]; simp only [f5]; go_simp) (hK.out _ _ (hF.out.put (k := 4) (s := 27) rfl (by decide) hN (by decide) (fun u hu => Option.some.inj (Option.some.inj (show some (some (.slice A n c')) = some (some u) from hu))) (by dsimp only; rw [gd_ne (show 27 ≠ 35 by decide), gd_ne (show 27 ≠ 36 by decide), gd_ne (show 27 ≠ 37 by decide), gd_ne (show 27 ≠ 4 by decide)]; exact hW.out)))
          | 5, _ =>
            obtain rfl := Option.some.inj ho
            clear hd ho hi hc hLi
            exact st_val (v := .pointer (some ⟨q, 0, none⟩)) (w' := W) (want_none rfl) (by unfold execOp; dsimp only [Act.eval]; simp only [f0]; go_simp) (hK.out _ _ (hF.out.put (k := 5) (s := 28) rfl (by decide) hN (by decide) (fun u hu => Option.some.inj (Option.some.inj (show some (some (.pointer (some ⟨q, 0, none⟩))) = some (some u) from hu))) (by dsimp only; rw [gd_ne (show 28 ≠ 35 by decide), gd_ne (show 28 ≠ 36 by decide), gd_ne (show 28 ≠ 37 by decide), gd_ne (show 28 ≠ 4 by decide)]; exact hW.out)))
          | 6, _ =>
            obtain rfl := Option.some.inj ho
            have l5 : L 5 = true := dep_of hd (n := 5) (by decide)
            have e28 : T.getD 28 undef = .pointer (some ⟨q, 0, none⟩) := hF.out.val 5 28 _ l5 rfl rfl
            clear hd ho hi hc hLi
            exact st_val (v := .pointer (some ⟨q, 0, none⟩)) (w' := W) (want_none rfl) (by unfold execOp; dsimp only [Act.eval]; simp only [e28]; go_simp) (hK.out _ _ (hF.out.put (k := 6) (s := 29) rfl (by decide) hN (by decide) (fun u hu => Option.some.inj (Option.some.inj (show some (some (.pointer (some ⟨q, 0, none⟩))) = some (some u) from hu))) (by dsimp only; rw [gd_ne (show 29 ≠ 35 by decide), gd_ne (show 29 ≠ 36 by decide), gd_ne (show 29 ≠ 37 by decide), gd_ne (show 29 ≠ 4 by decide)]; exact hW.out)))
          | 7, _ =>
            obtain rfl := Option.some.inj ho
            have l6 : L 6 = true := dep_of hd (n := 6) (by decide)
            have e29 : T.getD 29 undef = .pointer (some ⟨q, 0, none⟩) := hF.out.val 6 29 _ l6 rfl rfl
            clear hd ho hi hc hLi
            exact st_val (v := .pointer (some ⟨q, 3, none⟩)) (w' := W) (want_none rfl) (by unfold execOp; dsimp only [Act.eval]; simp only [e29]; go_simp) (hK.out _ _ (hF.out.put (k := 7) (s := 30) rfl (by decide) hN (by decide) (fun u hu => Option.some.inj (Option.some.inj (show some (some (.pointer (some ⟨q, 3, none⟩))) = some (some u) from hu))) (by dsimp only; rw [gd_ne (show 30 ≠ 35 by decide), gd_ne (show 30 ≠ 36 by decide), gd_ne (show 30 ≠ 37 by decide), gd_ne (show 30 ≠ 4 by decide)]; exact hW.out)))
          | 8, _ =>
            obtain rfl := Option.some.inj ho
            have l7 : L 7 = true := dep_of hd (n := 7) (by decide)
            have e30 : T.getD 30 undef = .pointer (some ⟨q, 3, none⟩) := hF.out.val 7 30 _ l7 rfl rfl
            have hcc := (hCl.out W hW.out.1).1.2.2.2
            clear hd ho hi hc hLi
            exact st_val (v := .slice mA mn mc) (w' := W) (want_none rfl) (by unfold execOp; dsimp only [Act.eval]; simp only [e30]; go_simp) (hK.out _ _ (hF.out.put (k := 8) (s := 31) rfl (by decide) hN (by decide) (fun u hu => Option.some.inj (Option.some.inj (show some (some (.slice mA mn mc)) = some (some u) from hu))) (by dsimp only; rw [gd_ne (show 31 ≠ 35 by decide), gd_ne (show 31 ≠ 36 by decide), gd_ne (show 31 ≠ 37 by decide), gd_ne (show 31 ≠ 4 by decide)]; exact hW.out)))
          | 9, _ =>
            obtain rfl := Option.some.inj ho
            clear hd ho hi hc hLi
            exact st_val (v := .pointer (some ⟨(V.heap.size), 2, none⟩)) (w' := W) (want_none rfl) (by unfold execOp; dsimp only [Act.eval]; simp only [f3]; go_simp) (hK.out _ _ (hF.out.put (k := 9) (s := 32) rfl (by decide) hN (by decide) (fun u hu => Option.some.inj (Option.some.inj (show some (some (.pointer (some ⟨(V.heap.size), 2, none⟩))) = some (some u) from hu))) (by dsimp only; rw [gd_ne (show 32 ≠ 35 by decide), gd_ne (show 32 ≠ 36 by decide), gd_ne (show 32 ≠ 37 by decide), gd_ne (show 32 ≠ 4 by decide)]; exact hW.out)))
          | 10, _ =>
            obtain rfl := Option.some.inj ho
            have l9 : L 9 = true := dep_of hd (n := 9) (by decide)
            have e32 : T.getD 32 undef = .pointer (some ⟨(V.heap.size), 2, none⟩) := hF.out.val 9 32 _ l9 rfl rfl
            have hcc := (hCl.out W hW.out.1).2.2.2.1
            clear hd ho hi hc hLi
            exact st_val (v := .int .i64 b) (w' := W) (want_none rfl) (by unfold execOp; dsimp only [Act.eval]; simp only [e32]; go_simp) (hK.out _ _ (hF.out.put (k := 10) (s := 33) rfl (by decide) hN (by decide) (fun u hu => Option.some.inj (Option.some.inj (show some (some (.int .i64 b)) = some (some u) from hu))) (by dsimp only; rw [gd_ne (show 33 ≠ 35 by decide), gd_ne (show 33 ≠ 36 by decide), gd_ne (show 33 ≠ 37 by decide), gd_ne (show 33 ≠ 4 by decide)]; exact hW.out)))
          | 11, _ =>
            obtain rfl := Option.some.inj ho
            have l8 : L 8 = true := dep_of hd (n := 8) (by decide)
            have e31 : T.getD 31 undef = .slice mA mn mc := hF.out.val 8 31 _ l8 rfl rfl
            have l10 : L 10 = true := dep_of hd (n := 10) (by decide)
            have e33 : T.getD 33 undef = .int .i64 b := hF.out.val 10 33 _ l10 rfl rfl
            have cc := Lib.hid (hAtm.out W hW.out.1 b)
            clear hd ho hi hc hLi
            refine st_call (want_none rfl) (by unfold execOp; go_simp) cc.out ?_
            rintro r w3 ⟨rfl, rfl⟩
            exact ⟨_, rfl, hK.out _ _ (hF.out.put (k := 11) (s := 34) rfl (by decide) hN (by decide) (fun u hu => Option.some.inj (Option.some.inj (show some (some (.int .i64 (pkI lm b))) = some (some u) from hu))) (by dsimp only; rw [gd_ne (show 34 ≠ 35 by decide), gd_ne (show 34 ≠ 36 by decide), gd_ne (show 34 ≠ 37 by decide), gd_ne (show 34 ≠ 4 by decide)]; exact hW.out))⟩
          | 12, _ =>
            obtain rfl := Option.some.inj ho
            have l11 : L 11 = true := dep_of hd (n := 11) (by decide)
            have e34 : T.getD 34 undef = .int .i64 (pkI lm b) := hF.out.val 11 34 _ l11 rfl rfl
            have n13 : ¬ L 13 = true := fun h => by have := hc 13 12 h (by decide); rw [hLi] at this; cases this
            have n14 : ¬ L 14 = true := fun h => n13 (hc 14 13 h (by decide))
            have n15 : ¬ L 15 = true := fun h => n14 (hc 15 14 h (by decide))
            have hb := hW.out.2.1 (by cases h : L 14 with | false => rfl | true => exact absurd h n14)
            have hO := hW.out.2.2.1 hLi
            have hbn := below_new W (.cells #[.int .i64 (pkI lm b)] 33)
            have hrow := rangeAt_list (heap_new W (.cells [Value.int .i64 (pkI lm b)].toArray 33))
            have hlive := Lib.hid (And.intro hb (And.intro hO (And.intro hbn hrow)))
            clear hb hO hbn hrow
            clear hd ho hi hc
            exact st_val (v := .slice (some ⟨W.heap.size, 0, none⟩) 1 1) (w' := W.alloc (.cells #[.int .i64 (pkI lm b)] 33)) (want_none rfl) (by unfold execOp; simp only [List.map_toArray, List.map_cons, List.map_nil, Act.eval, e34]; go_simp) (hK.out _ _ (hF.out.put (k := 12) (s := 35) rfl (by decide) hN (by decide) (fun u hu => by cases hu) ⟨hW.out.1.trans (Stay.of_below hlive.out.2.2.1), fun _ => hlive.out.1.trans (hlive.out.2.2.1.mono hlive.out.1.size), fun h => absurd h (by simp), fun _ _ => ⟨W.heap.size, gd_eq (by rw [hF.out.size, hN]; decide), hlive.out.2.2.2, OwnR.keep hlive.out.2.1 hlive.out.2.2.1⟩, fun h => absurd h n13, fun h => absurd h n14, fun h => absurd h n15⟩))
          | 13, _ =>
            obtain rfl := Option.some.inj ho
            have l4 : L 4 = true := dep_of hd (n := 4) (by decide)
            have e27 : T.getD 27 undef = .slice A n c' := hF.out.val 4 27 _ l4 rfl rfl
            have l12 : L 12 = true := dep_of hd (n := 12) (by decide)
            have n14 : ¬ L 14 = true := fun h => by have := hc 14 13 h (by decide); rw [hLi] at this; cases this
            have n15 : ¬ L 15 = true := fun h => n14 (hc 15 14 h (by decide))
            have hb := hW.out.2.1 (by cases h : L 14 with | false => rfl | true => exact absurd h n14)
            obtain ⟨g1, e35, hrow, hO⟩ := hW.out.2.2.2.1 l12 hLi
            have hl12 := Lib.hid l12
            clear hd ho hi hc
            refine st_append (want_none rfl) _ _ 28 rfl 33 j0 _ 1 8 Tryz.underlying28 hj0 hj1 hj2 hj3 rfl (by decide) W1.heap.size hb.size (.slice A n c') (l.map iv) (show T.getD 27 undef = _ from e27) hO g1 1 [.int .i64 (pkI lm b)] (show T.getD 35 undef = _ from e35) hrow rfl (by simp; rfl) (by rw [List.length_map]; unfold maxLen; omega) (by rw [List.length_map]; omega) ?_
            intro v' w3 hO2 hg _
            have hbw : Below W1.heap.size W1 w3 := hb.trans ((Keeps.of_grown (F := fun q => (Value.slice A n c').ownBlock = some q) hg fun q hq => hq).below (fun q hq => (OwnR.typ_ge hO hq)) hb.size)
            exact hK.out _ _ (hF.out.put (k := 13) (s := 36) rfl (by decide) hN (by decide) (fun u hu => by cases hu) ⟨Stay.of_below hbw, fun _ => hbw, fun h => absurd ((show L 12 = false from h).symm.trans hl12.out) (by decide), fun _ h => absurd h (by simp), fun _ _ => (by rw [gd_eq (by rw [hF.out.size, hN]; decide)]; unfold OwnD; rw [List.map_append]; exact hO2), fun h => absurd h n14, fun h => absurd h n15⟩)
          | 14, _ =>
            obtain rfl := Option.some.inj ho
            have l3 : L 3 = true := dep_of hd (n := 3) (by decide)
            have e26 : T.getD 26 undef = .pointer (some ⟨g, 0, none⟩) := hF.out.val 3 26 _ l3 rfl rfl
            have l13 : L 13 = true := dep_of hd (n := 13) (by decide)
            have n15 : ¬ L 15 = true := fun h => by have := hc 15 14 h (by decide); rw [hLi] at this; cases this
            have hb := hW.out.2.1 hLi
            have hO := hW.out.2.2.2.2.1 l13 hLi
            obtain ⟨A', c2, e36, hI⟩ := hO.ints
            have cc := cCall.out W hb A' c2 hI
            replace cc := Lib.hid cc
            have hl13 := Lib.hid l13
            have hl12 := Lib.hid (hc 13 12 l13 (by decide))
            clear hd ho hi hc
            refine st_call (want_none rfl) (by unfold execOp; go_simp) cc.out ?_
            rintro r w3 ⟨L', x', rfl, a1, a2, a3, a4, a5, a6⟩
            exact ⟨_, rfl, hK.out _ _ (hF.out.put (k := 14) (s := 37) rfl (by decide) hN (by decide) (fun u hu => by cases hu) ⟨hW.out.1.trans a4, fun h => absurd h (by simp), fun h => absurd ((show L 12 = false from h).symm.trans hl12.out) (by decide), fun _ h => absurd ((show L 13 = false from h).symm.trans hl13.out) (by decide), fun _ h => absurd h (by simp), fun _ => (by rw [gd_eq (by rw [hF.out.size, hN]; decide)]; exact SR.from2 hb ⟨L', x', rfl, a1, a2, a3, a4, a5, a6⟩), fun h => absurd h n15⟩)⟩
          | 15, _ =>
            obtain rfl := Option.some.inj ho
            have l14 : L 14 = true := dep_of hd (n := 14) (by decide)
            have hl13 := Lib.hid (hc 14 13 l14 (by decide))
            have hl12 := Lib.hid (hc 13 12 hl13.out (by decide))
            have hl14 := Lib.hid l14
            clear hd ho hi hc hLi
            exact st_val (v := T.getD 37 undef) (w' := W) (want_none rfl) rfl (hK.out _ _ (hF.out.put (k := 15) (s := 4) rfl (by decide) hN (by decide) (fun u hu => by cases hu) ⟨hW.out.1, hW.out.2.1, fun h => absurd ((show L 12 = false from h).symm.trans hl12.out) (by decide), fun _ h => absurd ((show L 13 = false from h).symm.trans hl13.out) (by decide), fun _ h => absurd ((show L 14 = false from h).symm.trans hl14.out) (by decide), fun h => (by rw [gd_ne (show 4 ≠ 37 by decide)]; exact hW.out.2.2.2.2.2.1 h), fun _ => ⟨l14, (by rw [gd_eq (by rw [hF.out.size, hN]; decide), gd_ne (show 4 ≠ 37 by decide)])⟩⟩))
        case hdone =>
          intro L T W2 hF hW hall
          obtain ⟨L', x', es, hR⟩ := hW.2.2.2.2.2.1 (hall 14 (by decide))
          replace es := Ending.returned.inj es
          have e4 := (hW.2.2.2.2.2.2 (hall 15 (by decide))).2.trans es
          have hRh := Lib.hid hR
          obtain ⟨z35, e35⟩ : ∃ z, T.getD 35 undef = z := ⟨_, rfl⟩
          obtain ⟨z36, e36⟩ : ∃ z, T.getD 36 undef = z := ⟨_, rfl⟩
          have hT : T = #[.pointer (some ⟨q, 0, none⟩), .agg #[.int .i64 k, .int .i64 a, .int .i64 b, .int .i64 c, .string y], undef, .pointer (some ⟨(V.heap.size), 0, none⟩), .int .i64 x', .slice A n c', .bool true, .tuple #[.slice A n c', .bool true], .pointer (some ⟨q, 0, none⟩), .pointer (some ⟨q, 0, none⟩), .pointer (some ⟨q, 0, none⟩), .pointer (some ⟨q, 3, none⟩), .slice mA mn mc, .pointer (some ⟨(V.heap.size), 1, none⟩), .int .i64 a, .int .i64 (pkI lm a), .tuple #[.slice A n c', .bool true], .slice A n c', .bool true, .bool true, .bool false, .pointer (some ⟨(V.heap.size), 0, none⟩), .int .i64 k, .pointer (some ⟨q, 0, none⟩), .pointer (some ⟨q, 0, none⟩), .pointer (some ⟨q, 0, none⟩), .pointer (some ⟨g, 0, none⟩), .slice A n c', .pointer (some ⟨q, 0, none⟩), .pointer (some ⟨q, 0, none⟩), .pointer (some ⟨q, 3, none⟩), .slice mA mn mc, .pointer (some ⟨(V.heap.size), 2, none⟩), .int .i64 b, .int .i64 (pkI lm b), z35, z36, .int .i64 x', .bool false, .bool false, undef, undef, undef, undef] := (hF.fin [(23, .pointer (some ⟨q, 0, none⟩)), (24, .pointer (some ⟨q, 0, none⟩)), (25, .pointer (some ⟨q, 0, none⟩)), (26, .pointer (some ⟨g, 0, none⟩)), (27, .slice A n c'), (28, .pointer (some ⟨q, 0, none⟩)), (29, .pointer (some ⟨q, 0, none⟩)), (30, .pointer (some ⟨q, 3, none⟩)), (31, .slice mA mn mc), (32, .pointer (some ⟨(V.heap.size), 2, none⟩)), (33, .int .i64 b), (34, .int .i64 (pkI lm b)), (35, z35), (36, z36), (37, .int .i64 x'), (4, .int .i64 x')] [23, 24, 25, 26, 27, 28, 29, 30, 31, 32, 33, 34, 35, 36, 37, 4] rfl (List.forall_mem_cons.2 ⟨hF.val 0 _ _ (hall 0 (show 0 < 16 by decide)) rfl rfl, (List.forall_mem_cons.2 ⟨hF.val 1 _ _ (hall 1 (show 1 < 16 by decide)) rfl rfl, (List.forall_mem_cons.2 ⟨hF.val 2 _ _ (hall 2 (show 2 < 16 by decide)) rfl rfl, (List.forall_mem_cons.2 ⟨hF.val 3 _ _ (hall 3 (show 3 < 16 by decide)) rfl rfl, (List.forall_mem_cons.2 ⟨hF.val 4 _ _ (hall 4 (show 4 < 16 by decide)) rfl rfl, (List.forall_mem_cons.2 ⟨hF.val 5 _ _ (hall 5 (show 5 < 16 by decide)) rfl rfl, (List.forall_mem_cons.2 ⟨hF.val 6 _ _ (hall 6 (show 6 < 16 by decide)) rfl rfl, (List.forall_mem_cons.2 ⟨hF.val 7 _ _ (hall 7 (show 7 < 16 by decide)) rfl rfl, (List.forall_mem_cons.2 ⟨hF.val 8 _ _ (hall 8 (show 8 < 16 by decide)) rfl rfl, (List.forall_mem_cons.2 ⟨hF.val 9 _ _ (hall 9 (show 9 < 16 by decide)) rfl rfl, (List.forall_mem_cons.2 ⟨hF.val 10 _ _ (hall 10 (show 10 < 16 by decide)) rfl rfl, (List.forall_mem_cons.2 ⟨hF.val 11 _ _ (hall 11 (show 11 < 16 by decide)) rfl rfl, (List.forall_mem_cons.2 ⟨e35, (List.forall_mem_cons.2 ⟨e36, (List.forall_mem_cons.2 ⟨es, (List.forall_mem_cons.2 ⟨e4, (fun _ h => absurd h List.not_mem_nil)⟩)⟩)⟩)⟩)⟩)⟩)⟩)⟩)⟩)⟩)⟩)⟩)⟩)⟩)⟩)⟩) (by decide)).trans (by kernel_rfl)
          clear hF hall
          subst hT
          clear hR hW es e4 e35 e36
          go_wp2_with fail
          go_ret
          exact SR.from hB1.out ⟨L', x', rfl, hRh.out⟩
end Go.Proofs.YtphnakdgpilcmaaGreatDoor
