/- The keys of both ways. (printed by wip/gen_ksb.py) -/
import Derived.Test.YtbeanjaenmpoeaaGreatDoorZb6
import Derived.Test.YtbeanjaenmpoeaaGreatDoorZb17
namespace Go.Proofs.YtbeanjaenmpoeaaGreatDoor
open Go.RowKit Go.Maps

set_option maxRecDepth 100000 in
set_option maxHeartbeats 4000000 in
theorem kway_any {w0 W : World} {g : Nat} {L : List Tm} (hS : St w0 g W L) (hL : L.length < 100) (b : Bool) (a0 a1 a2 a3 a4 a5 : Int) (x y z : Option Tm) (hN : NmL L [a0, a1, a2, a3, a4, a5] (sixT x y z)) :
    Calls Tryz.prog 16 #[.pointer (some ⟨g, 0, none⟩), .agg #[.int .i64 a0, .int .i64 a1, .int .i64 a2, .int .i64 a3, .int .i64 a4, .int .i64 a5], .bool b] W (SR w0 g W L (wayT b x y z)) := by
  have hb1 := below_new W (.cells #[.int .i64 a0, .int .i64 a1, .int .i64 a2, .int .i64 a3, .int .i64 a4, .int .i64 a5] 36)
  have hS1 := hS.keep hb1
  have hrow := heap_new W (.cells #[.int .i64 a0, .int .i64 a1, .int .i64 a2, .int .i64 a3, .int .i64 a4, .int .i64 a5] 36)
  have c0 := cell_of_row _ _ 0 _ _ _ hrow
  have c1 := cell_of_row _ _ 1 _ _ _ hrow
  have c2 := cell_of_row _ _ 2 _ _ _ hrow
  have c3 := cell_of_row _ _ 3 _ _ _ hrow
  have c4 := cell_of_row _ _ 4 _ _ _ hrow
  have c5 := cell_of_row _ _ 5 _ _ _ hrow
  simp only [List.getElem?_toArray, List.getElem?_cons_zero, List.getElem?_cons_succ] at c0 c1 c2 c3 c4 c5
  cases b with
  | true =>
    have hb2 := below_new (W.alloc (.cells #[.int .i64 a0, .int .i64 a1, .int .i64 a2, .int .i64 a3, .int .i64 a4, .int .i64 a5] 36)) (.cells #[.int .i64 a0, .int .i64 a2, .int .i64 a4] 33)
    have hI : Ints ((W.alloc (.cells #[.int .i64 a0, .int .i64 a1, .int .i64 a2, .int .i64 a3, .int .i64 a4, .int .i64 a5] 36)).alloc (.cells #[.int .i64 a0, .int .i64 a2, .int .i64 a4] 33)) (some ⟨(W.alloc (.cells #[.int .i64 a0, .int .i64 a1, .int .i64 a2, .int .i64 a3, .int .i64 a4, .int .i64 a5] 36)).heap.size, 0, none⟩) 3 [a0, a2, a4] := Rws.block (k := 1) (zs := [a0, a2, a4].map iv) (by intro z hz; simp [iv] at hz; rcases hz with rfl | rfl | rfl <;> rfl) (heap_new (W.alloc (.cells #[.int .i64 a0, .int .i64 a1, .int .i64 a2, .int .i64 a3, .int .i64 a4, .int .i64 a5] 36)) _) (by simp)
    have cL := (hS1.keep hb2).list hL [a0, a2, a4] _ 3 3 (by decide) hI
    rw [List.map_cons, List.map_cons, List.map_cons, List.map_nil, (hN.nm 0 _ _ rfl (sixT_at _ _ _ (by decide))).1, (hN.nm 2 _ _ rfl (sixT_at _ _ _ (by decide))).1, (hN.nm 4 _ _ rfl (sixT_at _ _ _ (by decide))).1, ← wayT_up] at cL
    have hbb := Lib.hid (hb1.trans (hb2.mono hb1.size))
    rw [World.size_alloc] at cL
    replace cL := Lib.hid cL
    have hrowh := Lib.hid hrow
    clear hb1 hb2 hI hS1 hN hL hS hrow
    go_enter Tryz.func16, Tryz.ntmps16
    go_wp2_with (go_at_call 42; refine cL.out.mono ?_; rintro r w3 ⟨L', x', rfl, a1, a2, a3, a4, a5, a6⟩)
    go_ret
    exact SR.from hbb.out ⟨L', x', rfl, a1, a2, a3, a4, a5, a6⟩
  | false =>
    have hb2 := below_new (W.alloc (.cells #[.int .i64 a0, .int .i64 a1, .int .i64 a2, .int .i64 a3, .int .i64 a4, .int .i64 a5] 36)) (.cells #[.int .i64 a1, .int .i64 a3, .int .i64 a5] 33)
    have hI : Ints ((W.alloc (.cells #[.int .i64 a0, .int .i64 a1, .int .i64 a2, .int .i64 a3, .int .i64 a4, .int .i64 a5] 36)).alloc (.cells #[.int .i64 a1, .int .i64 a3, .int .i64 a5] 33)) (some ⟨(W.alloc (.cells #[.int .i64 a0, .int .i64 a1, .int .i64 a2, .int .i64 a3, .int .i64 a4, .int .i64 a5] 36)).heap.size, 0, none⟩) 3 [a1, a3, a5] := Rws.block (k := 1) (zs := [a1, a3, a5].map iv) (by intro z hz; simp [iv] at hz; rcases hz with rfl | rfl | rfl <;> rfl) (heap_new (W.alloc (.cells #[.int .i64 a0, .int .i64 a1, .int .i64 a2, .int .i64 a3, .int .i64 a4, .int .i64 a5] 36)) _) (by simp)
    have cL := (hS1.keep hb2).list hL [a1, a3, a5] _ 3 3 (by decide) hI
    rw [List.map_cons, List.map_cons, List.map_cons, List.map_nil, (hN.nm 1 _ _ rfl (sixT_at _ _ _ (by decide))).1, (hN.nm 3 _ _ rfl (sixT_at _ _ _ (by decide))).1, (hN.nm 5 _ _ rfl (sixT_at _ _ _ (by decide))).1, ← wayT_down] at cL
    have hbb := Lib.hid (hb1.trans (hb2.mono hb1.size))
    rw [World.size_alloc] at cL
    replace cL := Lib.hid cL
    have hrowh := Lib.hid hrow
    clear hb1 hb2 hI hS1 hN hL hS hrow
    go_enter Tryz.func16, Tryz.ntmps16
    go_wp2_with (go_at_call 42; refine cL.out.mono ?_; rintro r w3 ⟨L', x', rfl, a1, a2, a3, a4, a5, a6⟩)
    go_ret
    exact SR.from hbb.out ⟨L', x', rfl, a1, a2, a3, a4, a5, a6⟩
noncomputable def ld6 (a : Addr) : Sem Value := loadVar 36 a
theorem ld6_eq (a : Addr) : loadVar 36 a = ld6 a := rfl
theorem ld6_run {w : World} {b o : Nat} {a0 a1 a2 a3 a4 a5 : Int} (h : w.rangeAt b o [.int .i64 a0, .int .i64 a1, .int .i64 a2, .int .i64 a3, .int .i64 a4, .int .i64 a5]) : (ld6 ⟨b, o, none⟩).run Tryz.prog w = .ok (.agg #[.int .i64 a0, .int .i64 a1, .int .i64 a2, .int .i64 a3, .int .i64 a4, .int .i64 a5]) w := by
  unfold ld6
  exact run_loadVar_mid (P := Tryz.prog) w b o 36 [.int .i64 a0, .int .i64 a1, .int .i64 a2, .int .i64 a3, .int .i64 a4, .int .i64 a5] _ h Tryz.underlying36 rfl (by kernel_rfl)
attribute [local go_sem ↓] ld6_eq
def BothR (w0 W : World) (g : Nat) (L : List Tm) (x y z : Option Tm) (r : Ending) (W' : World) : Prop := ∃ p q L', r = .returned (.tuple #[.int .i64 p, .int .i64 q]) ∧ St w0 g W' L' ∧ (∃ e, L' = L ++ e) ∧ L'.length ≤ L.length + 8 ∧ Nm L' p (wayT true x y z) ∧ Nm L' q (wayT false x y z) ∧ Stay W W' ∧ W.heap.size ≤ W'.heap.size
def dsKsb : List (Option Nat) := [some 16, some 17, some 18, some 19, some 20, some 21, some 8, some 9]
def tbKsb : List (List Nat) := [[], [], [0, 1], [], [], [2, 3, 4], [2, 5], [5, 6]]
def vsKsb (g : Nat) (p : Nat) (a0 : Int) (a1 : Int) (a2 : Int) (a3 : Int) (a4 : Int) (a5 : Int) : List (Option Value) := [some (.pointer (some ⟨g, 0, none⟩)), some (.agg #[.int .i64 a0, .int .i64 a1, .int .i64 a2, .int .i64 a3, .int .i64 a4, .int .i64 a5]), none, some (.pointer (some ⟨g, 0, none⟩)), some (.agg #[.int .i64 a0, .int .i64 a1, .int .i64 a2, .int .i64 a3, .int .i64 a4, .int .i64 a5]), none, none, none]
set_option maxRecDepth 100000 in
set_option maxHeartbeats 4000000 in
theorem both_any {w0 W : World} {g : Nat} {L : List Tm} (hS : St w0 g W L) (hL : L.length + 8 ≤ 100) (x y z : Int) (o1 o2 o3 : Option Tm) (hx : Nm L x o1) (hy : Nm L y o2) (hz : Nm L z o3) :
    Calls Tryz.prog 14 #[.pointer (some ⟨g, 0, none⟩), .int .i64 x, .int .i64 y, .int .i64 z] W (BothR w0 W g L o1 o2 o3) := by
  have c6 := Lib.hid (six_any hS (by omega) x y z o1 o2 o3 hx hy hz)
  have hLh := Lib.hid hL
  clear hS hL hx hy hz
  unfold BothR
  go_enter Tryz.func14, Tryz.ntmps14
  go_upto_region 2 with (first
    | (go_at_call 11; refine c6.out.mono ?_; rintro r w3 ⟨l, L4, rfl, hl, hS3, hE4, hl4, hN3, hY3, hz3⟩
       obtain ⟨z, b5, r5, a5⟩ := six_box w3 l hl
       have hz := Lib.hid z
       have hr5 := Lib.hid r5
       have hlh := Lib.hid hl
       have ha5 := Lib.hid a5
       have hS4 := Lib.hid (hS3.keep b5)
       have hN4 := Lib.hid hN3
       have hE4 := Lib.hid hE4
       have hl4 := Lib.hid hl4
       have hY4 := Lib.hid (hY3.trans (Stay.of_below b5))
       have hz4 := Lib.hid (Nat.le_trans hz3 b5.size)
       clear z b5 r5 a5 hS3 hN3 c6 hY3 hz3 hl)
    | (refine wpList_alloc_row 36 rfl rfl (six0 []).toArray six_zero ?_; try simp only [World.size_alloc])
    | (refine wpList_store_at 36 _ _ rfl rfl w3.heap.size (l.map (Value.int .i64)).toArray rfl rfl 36 (six0 []).toArray hz.out (six_info l hlh.out) (by simp [six0, hlh.out]) ha5.out ?_))
  generalize (w3.alloc (.cells (six0 []).toArray 36)).setRow w3.heap.size (l.map (Value.int .i64)).toArray = w4 at *
  generalize w3.heap.size = p at *
  have hL4 := Lib.hid (show L4.length + 2 ≤ 100 by have := hl4.out; have := hLh.out; omega)
  obtain ⟨a0, a1, a2, a3, a4, a5, rfl⟩ : ∃ a0 a1 a2 a3 a4 a5, l = [a0, a1, a2, a3, a4, a5] := by
    match l, hlh.out with
    | [a0, a1, a2, a3, a4, a5], _ => exact ⟨a0, a1, a2, a3, a4, a5, rfl⟩
  have hr4 : Hid (w4.heap[p]? = some (.cells #[.int .i64 a0, .int .i64 a1, .int .i64 a2, .int .i64 a3, .int .i64 a4, .int .i64 a5] 36 (0, 0))) := hr5.out
  clear hr5 hz ha5 hlh
  dsimp only [Act.put]
  refine region_iw tbKsb dsKsb (vsKsb g p a0 a1 a2 a3 a4 a5) (fun L T W => Stay w4 W ∧ (L 2 = false → Below w4.heap.size w4 W) ∧ (L 2 = true → L 5 = false → ∃ (L1 : List Tm) (x1 : Int), T.getD 18 undef = .int .i64 x1 ∧ St w0 g W L1 ∧ (∃ e, L1 = L4 ++ e) ∧ L1.length ≤ L4.length + 1 ∧ Nm L1 x1 (wayT true o1 o2 o3) ∧ w4.heap.size ≤ W.heap.size) ∧ (L 5 = true → ∃ (L1 : List Tm) (x1 x2 : Int), T.getD 18 undef = .int .i64 x1 ∧ T.getD 21 undef = .int .i64 x2 ∧ St w0 g W L1 ∧ (∃ e, L1 = L4 ++ e) ∧ L1.length ≤ L4.length + 2 ∧ Nm L1 x1 (wayT true o1 o2 o3) ∧ Nm L1 x2 (wayT false o1 o2 o3) ∧ w4.heap.size ≤ W.heap.size) ∧ (L 6 = true → L 5 = true ∧ T.getD 8 undef = T.getD 18 undef) ∧ (L 7 = true → T.getD 9 undef = T.getD 21 undef)) rfl (by decide) (by kernel_rfl) ?hlt ?hstep ?hdone ?hstart
  case hstart => exact ⟨Stay.of_below (drewN_below 1), fun _ => drewN_below 1, fun h => absurd h (inv_not (n := 8) (i := 2) (by decide)), fun h => absurd h (inv_not (n := 8) (i := 5) (by decide)), fun h => absurd h (inv_not (n := 8) (i := 6) (by decide)), fun h => absurd h (inv_not (n := 8) (i := 7) (by decide))⟩
  case hlt =>
    intro ix o ho
    have hi := (Array.getElem?_eq_some_iff.1 ho).1
    match ix, hi with
    | 0, _ => obtain rfl := Option.some.inj ho; decide
    | 1, _ => obtain rfl := Option.some.inj ho; decide
    | 2, _ => obtain rfl := Option.some.inj ho; decide
    | 3, _ => obtain rfl := Option.some.inj ho; decide
    | 4, _ => obtain rfl := Option.some.inj ho; decide
    | 5, _ => obtain rfl := Option.some.inj ho; decide
    | 6, _ => obtain rfl := Option.some.inj ho; decide
    | 7, _ => obtain rfl := Option.some.inj ho; decide
  case hstep =>
    intro T1 hE L T W ix o hF hW hc ho hLi hd K hK
    have hN : T1.size = 22 := by rw [hE]; rfl
    have f0 : T.getD 0 undef = .pointer (some ⟨g, 0, none⟩) := (hF.old 0 (by decide)).trans (by rw [hE]; rfl)
    have f10 : T.getD 10 undef = .pointer (some ⟨p, 0, none⟩) := (hF.old 10 (by decide)).trans (by rw [hE]; rfl)
    clear hE
    replace hF := Lib.hid hF
    replace hW := Lib.hid hW
    replace hK := Lib.hid hK
    have hi := (List.getElem?_eq_some_iff.1 ho).1
    match ix, hi with
    | 0, _ =>
      obtain rfl := Option.some.inj ho
      clear hd ho hi hc hLi
      exact st_val (v := .pointer (some ⟨g, 0, none⟩)) (w' := W) (want_none rfl) (by unfold execOp; dsimp only [Act.eval]; simp only [f0]; go_simp) (hK.out _ _ (hF.out.put (k := 0) (s := 16) rfl (by decide) hN (by decide) (fun u hu => Option.some.inj (Option.some.inj (show some (some (.pointer (some ⟨g, 0, none⟩))) = some (some u) from hu))) (by dsimp only; rw [gd_ne (show 16 ≠ 18 by decide), gd_ne (show 16 ≠ 21 by decide), gd_ne (show 16 ≠ 8 by decide), gd_ne (show 16 ≠ 9 by decide)]; exact hW.out)))
    | 1, _ =>
      obtain rfl := Option.some.inj ho
      have hld := ld6_run (rangeAt_list (hW.out.1 _ _ _ _ hr4.out (by decide) (by decide) (by decide)))
      clear hd ho hi hc hLi
      exact st_val (v := .agg #[.int .i64 a0, .int .i64 a1, .int .i64 a2, .int .i64 a3, .int .i64 a4, .int .i64 a5]) (w' := W) (want_none rfl) (by unfold execOp; dsimp only [Act.eval]; simp only [f10]; go_simp) (hK.out _ _ (hF.out.put (k := 1) (s := 17) rfl (by decide) hN (by decide) (fun u hu => Option.some.inj (Option.some.inj (show some (some (.agg #[.int .i64 a0, .int .i64 a1, .int .i64 a2, .int .i64 a3, .int .i64 a4, .int .i64 a5])) = some (some u) from hu))) (by dsimp only; rw [gd_ne (show 17 ≠ 18 by decide), gd_ne (show 17 ≠ 21 by decide), gd_ne (show 17 ≠ 8 by decide), gd_ne (show 17 ≠ 9 by decide)]; exact hW.out)))
    | 2, _ =>
      obtain rfl := Option.some.inj ho
      have l0 : L 0 = true := dep_of hd (n := 0) (by decide)
      have e16 : T.getD 16 undef = .pointer (some ⟨g, 0, none⟩) := hF.out.val 0 16 _ l0 rfl rfl
      have l1 : L 1 = true := dep_of hd (n := 1) (by decide)
      have e17 : T.getD 17 undef = .agg #[.int .i64 a0, .int .i64 a1, .int .i64 a2, .int .i64 a3, .int .i64 a4, .int .i64 a5] := hF.out.val 1 17 _ l1 rfl rfl
      have hb := hW.out.2.1 hLi
      have n15 : ¬ L 5 = true := fun h => by have := hc 5 2 h (by decide); rw [hLi] at this; cases this
      have n16 : ¬ L 6 = true := fun h => n15 (hc 6 5 h (by decide))
      have n17 : ¬ L 7 = true := fun h => n16 (hc 7 6 h (by decide))
      have cc := Lib.hid (kway_any (hS4.out.keep hb) (by have := hL4.out; omega) true _ _ _ _ _ _ o1 o2 o3 hN4.out)
      have hbs := hb.size
      clear hd ho hi hc
      refine st_call (want_none rfl) (by unfold execOp; go_simp) cc.out ?_
      rintro r w3 ⟨L', x', rfl, a1, a2, a3, a4, a5, a6⟩
      exact ⟨_, rfl, hK.out _ _ (hF.out.put (k := 2) (s := 18) rfl (by decide) hN (by decide) (fun u hu => by cases hu) ⟨hW.out.1.trans a4, fun h => absurd h (by simp), fun _ _ => ⟨L', x', gd_eq (by rw [hF.out.size, hN]; decide), a1, a2.pre, a2.len.2, a3, Nat.le_trans hbs a5⟩, fun h => absurd h n15, fun h => absurd h n16, fun h => absurd h n17⟩)⟩
    | 3, _ =>
      obtain rfl := Option.some.inj ho
      clear hd ho hi hc hLi
      exact st_val (v := .pointer (some ⟨g, 0, none⟩)) (w' := W) (want_none rfl) (by unfold execOp; dsimp only [Act.eval]; simp only [f0]; go_simp) (hK.out _ _ (hF.out.put (k := 3) (s := 19) rfl (by decide) hN (by decide) (fun u hu => Option.some.inj (Option.some.inj (show some (some (.pointer (some ⟨g, 0, none⟩))) = some (some u) from hu))) (by dsimp only; rw [gd_ne (show 19 ≠ 18 by decide), gd_ne (show 19 ≠ 21 by decide), gd_ne (show 19 ≠ 8 by decide), gd_ne (show 19 ≠ 9 by decide)]; exact hW.out)))
    | 4, _ =>
      obtain rfl := Option.some.inj ho
      have hld := ld6_run (rangeAt_list (hW.out.1 _ _ _ _ hr4.out (by decide) (by decide) (by decide)))
      clear hd ho hi hc hLi
      exact st_val (v := .agg #[.int .i64 a0, .int .i64 a1, .int .i64 a2, .int .i64 a3, .int .i64 a4, .int .i64 a5]) (w' := W) (want_none rfl) (by unfold execOp; dsimp only [Act.eval]; simp only [f10]; go_simp) (hK.out _ _ (hF.out.put (k := 4) (s := 20) rfl (by decide) hN (by decide) (fun u hu => Option.some.inj (Option.some.inj (show some (some (.agg #[.int .i64 a0, .int .i64 a1, .int .i64 a2, .int .i64 a3, .int .i64 a4, .int .i64 a5])) = some (some u) from hu))) (by dsimp only; rw [gd_ne (show 20 ≠ 18 by decide), gd_ne (show 20 ≠ 21 by decide), gd_ne (show 20 ≠ 8 by decide), gd_ne (show 20 ≠ 9 by decide)]; exact hW.out)))
    | 5, _ =>
      obtain rfl := Option.some.inj ho
      have l3 : L 3 = true := dep_of hd (n := 3) (by decide)
      have e19 : T.getD 19 undef = .pointer (some ⟨g, 0, none⟩) := hF.out.val 3 19 _ l3 rfl rfl
      have l4 : L 4 = true := dep_of hd (n := 4) (by decide)
      have e20 : T.getD 20 undef = .agg #[.int .i64 a0, .int .i64 a1, .int .i64 a2, .int .i64 a3, .int .i64 a4, .int .i64 a5] := hF.out.val 4 20 _ l4 rfl rfl
      have l2 : L 2 = true := dep_of hd (n := 2) (by decide)
      obtain ⟨L1, x1, e33, s1, hE1, hl1, m1, hz1⟩ := hW.out.2.2.1 l2 hLi
      have n16 : ¬ L 6 = true := fun h => by have := hc 6 5 h (by decide); rw [hLi] at this; cases this
      have n17 : ¬ L 7 = true := fun h => n16 (hc 7 6 h (by decide))
      have hNx : NmL L1 [a0, a1, a2, a3, a4, a5] (sixT o1 o2 o3) := by obtain ⟨e, he⟩ := hE1; rw [he]; exact hN4.out.app
      have cc := Lib.hid (kway_any s1 (by have := hL4.out; omega) false _ _ _ _ _ _ o1 o2 o3 hNx)
      replace e33 := Lib.hid e33
      replace hE1 := Lib.hid hE1
      clear hd ho hi hc
      refine st_call (want_none rfl) (by unfold execOp; go_simp) cc.out ?_
      rintro r w3 ⟨L', x', rfl, a1, a2, a3, a4, a5, a6⟩
      exact ⟨_, rfl, hK.out _ _ (hF.out.put (k := 5) (s := 21) rfl (by decide) hN (by decide) (fun u hu => by cases hu) ⟨hW.out.1.trans a4, fun h => absurd (l2.symm.trans (show L 2 = false from h)) (by decide), fun _ h => absurd h (by simp), fun _ => ⟨L', x1, x', (gd_ne (show 21 ≠ 18 by decide)).trans e33.out, gd_eq (by rw [hF.out.size, hN]; decide), a1, (by obtain ⟨e1, q1⟩ := a2.pre; obtain ⟨e2', q2⟩ := hE1.out; exact ⟨e2' ++ e1, by rw [q1, q2, List.append_assoc]⟩), (by have := a2.len.2; omega), m1.grow a2, a3, Nat.le_trans hz1 a5⟩, fun h => absurd h n16, fun h => absurd h n17⟩)⟩
    | 6, _ =>
      obtain rfl := Option.some.inj ho
      have l2 : L 2 = true := dep_of hd (n := 2) (by decide)
      have l5 : L 5 = true := dep_of hd (n := 5) (by decide)
      clear hd ho hi hc hLi
      exact st_val (v := T.getD 18 undef) (w' := W) (want_none rfl) rfl (hK.out _ _ (hF.out.put (k := 6) (s := 8) rfl (by decide) hN (by decide) (fun u hu => by cases hu) (by rw [gd_ne (show 8 ≠ 18 by decide), gd_ne (show 8 ≠ 21 by decide), gd_ne (show 8 ≠ 9 by decide), gd_eq (by rw [hF.out.size, hN]; decide)]; exact ⟨hW.out.1, hW.out.2.1, hW.out.2.2.1, hW.out.2.2.2.1, fun _ => ⟨l5, rfl⟩, hW.out.2.2.2.2.2⟩)))
    | 7, _ =>
      obtain rfl := Option.some.inj ho
      have l5 : L 5 = true := dep_of hd (n := 5) (by decide)
      clear hd ho hi hc hLi
      exact st_val (v := T.getD 21 undef) (w' := W) (want_none rfl) rfl (hK.out _ _ (hF.out.put (k := 7) (s := 9) rfl (by decide) hN (by decide) (fun u hu => by cases hu) (by rw [gd_ne (show 9 ≠ 18 by decide), gd_ne (show 9 ≠ 21 by decide), gd_ne (show 9 ≠ 8 by decide), gd_eq (by rw [hF.out.size, hN]; decide)]; exact ⟨hW.out.1, hW.out.2.1, hW.out.2.2.1, hW.out.2.2.2.1, hW.out.2.2.2.2.1, fun _ => rfl⟩)))
  case hdone =>
    intro L T W2 hF hW hall
    obtain ⟨Lz, x1, x2, e33, e43, hSz, hEz, hlz, m1, m2, hzz⟩ := hW.2.2.2.1 (hall 5 (by decide))
    have e8 := (hW.2.2.2.2.1 (hall 6 (by decide))).2.trans e33
    have e9 := (hW.2.2.2.2.2 (hall 7 (by decide))).trans e43
    have hYz := hW.1
    have hT : T = #[.pointer (some ⟨g, 0, none⟩), .int .i64 x, .int .i64 y, .int .i64 z, undef, undef, undef, undef, .int .i64 x1, .int .i64 x2, .pointer (some ⟨p, 0, none⟩), .pointer (some ⟨g, 0, none⟩), .int .i64 x, .int .i64 y, .int .i64 z, .agg #[.int .i64 a0, .int .i64 a1, .int .i64 a2, .int .i64 a3, .int .i64 a4, .int .i64 a5], .pointer (some ⟨g, 0, none⟩), .agg #[.int .i64 a0, .int .i64 a1, .int .i64 a2, .int .i64 a3, .int .i64 a4, .int .i64 a5], .int .i64 x1, .pointer (some ⟨g, 0, none⟩), .agg #[.int .i64 a0, .int .i64 a1, .int .i64 a2, .int .i64 a3, .int .i64 a4, .int .i64 a5], .int .i64 x2] := (hF.fin [(16, .pointer (some ⟨g, 0, none⟩)), (17, .agg #[.int .i64 a0, .int .i64 a1, .int .i64 a2, .int .i64 a3, .int .i64 a4, .int .i64 a5]), (18, .int .i64 x1), (19, .pointer (some ⟨g, 0, none⟩)), (20, .agg #[.int .i64 a0, .int .i64 a1, .int .i64 a2, .int .i64 a3, .int .i64 a4, .int .i64 a5]), (21, .int .i64 x2), (8, .int .i64 x1), (9, .int .i64 x2)] [16, 17, 18, 19, 20, 21, 8, 9] rfl (List.forall_mem_cons.2 ⟨hF.val 0 _ _ (hall 0 (show 0 < 8 by decide)) rfl rfl, (List.forall_mem_cons.2 ⟨hF.val 1 _ _ (hall 1 (show 1 < 8 by decide)) rfl rfl, (List.forall_mem_cons.2 ⟨e33, (List.forall_mem_cons.2 ⟨hF.val 3 _ _ (hall 3 (show 3 < 8 by decide)) rfl rfl, (List.forall_mem_cons.2 ⟨hF.val 4 _ _ (hall 4 (show 4 < 8 by decide)) rfl rfl, (List.forall_mem_cons.2 ⟨e43, (List.forall_mem_cons.2 ⟨e8, (List.forall_mem_cons.2 ⟨e9, (fun _ h => absurd h List.not_mem_nil)⟩)⟩)⟩)⟩)⟩)⟩)⟩)⟩) (by decide)).trans (by kernel_rfl)
    clear hF hall
    subst hT
    have hR := Lib.hid (And.intro hSz (And.intro hEz (And.intro hlz (And.intro m1 (And.intro m2 (And.intro hYz hzz))))))
    clear hW e8 e9 e33 e43 hSz hEz hlz m1 m2 hYz hzz
    go_wp2_with fail
    go_ret2
    exact ⟨x1, x2, Lz, rfl, hR.out.1, (by obtain ⟨e1, q1⟩ := hR.out.2.1; obtain ⟨e2', q2⟩ := hE4.out; exact ⟨e2' ++ e1, by rw [q1, q2, List.append_assoc]⟩), (by have := hR.out.2.2.1; have := hl4.out; omega), hR.out.2.2.2.1, hR.out.2.2.2.2.1, hY4.out.trans hR.out.2.2.2.2.2.1, Nat.le_trans hz4.out hR.out.2.2.2.2.2.2⟩
end Go.Proofs.YtbeanjaenmpoeaaGreatDoor
