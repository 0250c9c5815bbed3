/- A recipe that is being written: one step more (put). (printed by wip/gen_sfa.py) -/
import Derived.Test.YtphnakdgpilcmaaGreatDoorHb19
namespace Go.Proofs.YtphnakdgpilcmaaGreatDoor
open Go.RowKit Go.Maps
/-- Blocks of other types than a cook's and its steps' stay. -/
def StayK (w w' : World) : Prop := ∀ (q : Nat) (cur : Array Value) (t : TypeId) (fr : Nat × Nat), w.heap[q]? = some (.cells cur t fr) → t ≠ 86 → t ≠ 79 → w'.heap[q]? = some (.cells cur t fr)
theorem StayK.refl (w : World) : StayK w w := fun _ _ _ _ h _ _ => h
theorem StayK.trans {a b c : World} (h : StayK a b) (k : StayK b c) : StayK a c := fun q cur t fr hq h1 h2 => k q cur t fr (h q cur t fr hq h1 h2) h1 h2
theorem StayK.of_below {w w' : World} (h : Below w.heap.size w w') : StayK w w' := fun q _ _ _ hq _ _ => (h.block q (Array.getElem?_eq_some_iff.1 hq).1).trans hq
theorem StayK.of_grown {w w' : World} {row : Option Nat} {E : TypeId} (hg : w.grownBy w' row) (hr : ∀ q, row = some q → Typ w q E) (hE : E = 86 ∨ E = 79) : StayK w w' := fun q cur t fr hq h1 h2 =>
  (hg.block q (Array.getElem?_eq_some_iff.1 hq).1 fun e => (hr q e.symm).ne ⟨_, _, hq⟩ (hE.elim (fun e h => h1 (h.symm.trans e)) fun e h => h2 (h.symm.trans e)) rfl).trans hq
theorem StayK.of_map {w w' : World} {b n : Nat} {f : Int → Option Int} (hI : IMap w b n f) (hg : w.grownBy w' (some b)) : StayK w w' := fun q cur t fr hq _ _ => hI.blk hg hq
theorem op_info : (Tryz.prog.info? 79).map (fun i => (i.zero, i.size, i.bytes)) = some (some (.agg #[.int .i64 0, .int .i64 0, .int .i64 0, .int .i64 0, .string ⟨#[]⟩]), 5, 48) := by kernel_rfl
theorem op_one (x : Mk) : ∀ u ∈ x.row, u.oneCell' = true := by
  obtain ⟨k, a, b, e, s⟩ := x
  intro u hu
  simp only [Mk.row, mkRow, List.mem_cons, List.not_mem_nil, or_false] at hu
  rcases hu with rfl | rfl | rfl | rfl | rfl <;> rfl
/-- What a cook is in memory: the steps so far, and which numbers they make. -/
structure CookW (V W : World) (m q bm : Nat) (A : Option Addr) (c : Nat) (kl : List Mk) (nb : Nat) (F : Int → Option Int) : Prop where
  below : Below V.heap.size V W
  blk : W.heap[q]? = some (.cells #[.pointer (some ⟨m, 0, none⟩), .slice A kl.length c, .map (some bm)] 86)
  ge : V.heap.size ≤ q
  bge : V.heap.size ≤ bm
  own : OwnR W V.heap.size 5 79 (.slice A kl.length c) (kl.map Mk.row)
  map : IMap W bm nb F
theorem CookW.keep {V W W' : World} {m q bm : Nat} {A : Option Addr} {c : Nat} {kl : List Mk} {nb : Nat} {F : Int → Option Int} (h : CookW V W m q bm A c kl nb F) (hb : Below W.heap.size W W') : CookW V W' m q bm A c kl nb F :=
  ⟨h.below.trans (hb.mono h.below.size), (hb.block q (Array.getElem?_eq_some_iff.1 h.blk).1).trans h.blk, h.ge, h.bge, OwnR.keep h.own hb, h.map.keep hb⟩
theorem CookW.c0 {V W : World} {m q bm : Nat} {A : Option Addr} {c : Nat} {kl : List Mk} {nb : Nat} {F : Int → Option Int} (h : CookW V W m q bm A c kl nb F) : W.cell? ⟨q, 0, none⟩ = some (.pointer (some ⟨m, 0, none⟩)) ∧ W.cell? ⟨q, 1, none⟩ = some (.slice A kl.length c) ∧ W.cell? ⟨q, 2, none⟩ = some (.map (some bm)) :=
  ⟨cell_of_row _ _ 0 _ _ _ h.blk, cell_of_row _ _ 1 _ _ _ h.blk, cell_of_row _ _ 2 _ _ _ h.blk⟩
/-- Half of a step: the block of the steps has grown already. -/
structure MidK (V W : World) (m q bm : Nat) (A : Option Addr) (c : Nat) (v : Value) (kl kl2 : List Mk) (nb : Nat) (F : Int → Option Int) : Prop where
  below : Below V.heap.size V W
  blk : W.heap[q]? = some (.cells #[.pointer (some ⟨m, 0, none⟩), .slice A kl.length c, .map (some bm)] 86)
  own : OwnR W V.heap.size 5 79 v (kl2.map Mk.row)
  map : IMap W bm nb F
theorem CookW.app {V W W' : World} {m q bm : Nat} {A : Option Addr} {c : Nat} {kl : List Mk} {nb : Nat} {F : Int → Option Int} (h : CookW V W m q bm A c kl nb F) {v' : Value} {x : Mk}
    (hO : OwnR W' V.heap.size 5 79 v' (kl.map Mk.row ++ [x.row])) (hg : W.grownBy W' (Value.slice A kl.length c).ownBlock) : MidK V W' m q bm A c v' kl (kl ++ [x]) nb F := by
  have hT : ∀ z, (Value.slice A kl.length c).ownBlock = some z → Typ W z 79 := fun z hz => OwnR.typ h.own hz
  refine ⟨h.below.grown hg h.below.size fun k hk => (h.own.1.lt k hk).1, block_grown h.blk hg hT (by decide), ?_, h.map.grownT hg hT⟩
  rw [List.map_append]
  exact hO
theorem cook_row {W : World} {q : Nat} {cs : Array Value} (h : W.heap[q]? = some (.cells cs 86)) : ∀ z, some (⟨q, 1, none⟩ : Addr).block = some z → Typ W z 86 := fun z hz => by
  injection hz with hz
  exact ⟨cs, (0, 0), by rw [← hz]; exact h⟩
theorem MidK.done {V W : World} {m q bm : Nat} {A A' : Option Addr} {c c' : Nat} {kl kl2 : List Mk} {nb : Nat} {F : Int → Option Int} (h : MidK V W m q bm A c (.slice A' kl2.length c') kl kl2 nb F) (hmg : V.heap.size ≤ q) (hbg : V.heap.size ≤ bm) :
    CookW V (W.setCell ⟨q, 1, none⟩ (.slice A' kl2.length c')) m q bm A' c' kl2 nb F ∧ StayK W (W.setCell ⟨q, 1, none⟩ (.slice A' kl2.length c')) := by
  have hg := grown_set W ⟨q, 1, none⟩ (.slice A' kl2.length c')
  have hT := cook_row h.blk
  refine ⟨⟨h.below.setCell hmg _, ?_, hmg, hbg, OwnR.grown_ h.own hg hT (by decide), h.map.grownT hg hT⟩, StayK.of_grown hg hT (.inl rfl)⟩
  rw [heap_setCell_same W q 1 _ _ _ h.blk]; rfl
/-- What put leaves. -/
def PutK (V W : World) (m q bm : Nat) (kl : List Mk) (nb : Nat) (F : Int → Option Int) (x : Mk) (r : Ending) (W' : World) : Prop :=
  r = .returned (.int .i64 kl.length) ∧ StayK W W' ∧ W.heap.size ≤ W'.heap.size ∧ ∃ A' c', CookW V W' m q bm A' c' (kl ++ [x]) nb F
noncomputable def ldP (a : Addr) : Sem Value := loadVar 79 a
theorem ldP_eq (a : Addr) : loadVar 79 a = ldP a := rfl
theorem ldP_run {w : World} {b o : Nat} {x : Mk} (h : w.rangeAt b o x.row) : (ldP ⟨b, o, none⟩).run Tryz.prog w = .ok (.agg x.row.toArray) w := by
  unfold ldP
  obtain ⟨k, a, b2, e, s⟩ := x
  exact run_loadVar_mid (P := Tryz.prog) w b o 79 (mkRow k a b2 e s) _ h Tryz.underlying79 rfl (by kernel_rfl)
theorem stK_run {w : World} {q : Nat} {A : Option Addr} {n c : Nat} {v0 v1 v2 : Value} (h : w.heap[q]? = some (.cells #[v0, v1, v2] 86 (0, 0))) :
    (do Instr.storeAt 40 (.pointer (some ⟨q, 1, none⟩)) (.slice A n c); pure Next.skip : Sem Next).run Tryz.prog w = .ok .skip (w.setCell ⟨q, 1, none⟩ (.slice A n c)) := by
  have c3 : w.cell? ⟨q, 1, none⟩ = some v1 := cell_of_row w q 1 _ _ _ h
  have f3 : w.frozen? ⟨q, 1, none⟩ = false := by simp [World.frozen?, h]
  go_simp
attribute [local go_sem ↓] ldP_eq
def dsSf1 : List (Option Nat) := [some 5, some 6, some 7, some 8, some 9, some 10, some 11, some 12, some 13, some 14, none]
def tbSf1 : List (List Nat) := [[], [], [1], [2], [3], [], [5], [4, 6], [0], [8], [7, 9]]
def vsSf1 (q : Nat) (p0 : Nat) (A : Option Addr) (n : Nat) (c : Nat) (x : Mk) : List (Option Value) := [some (.pointer (some ⟨q, 0, none⟩)), some (.pointer (some ⟨q, 0, none⟩)), some (.pointer (some ⟨q, 0, none⟩)), some (.pointer (some ⟨q, 1, none⟩)), some (.slice A n c), some (.agg x.row.toArray), none, none, some (.pointer (some ⟨q, 0, none⟩)), some (.pointer (some ⟨q, 1, none⟩)), none]
set_option maxRecDepth 100000 in
set_option maxHeartbeats 4000000 in
theorem mput_any {V W : World} {m q bm : Nat} {A : Option Addr} {c : Nat} {kl : List Mk} {nb : Nat} {F : Int → Option Int} (h : CookW V W m q bm A c kl nb F) (x : Mk) (hl : kl.length ≤ 2000000000000) :
    Calls Tryz.prog 103 #[.pointer (some ⟨q, 0, none⟩), .agg x.row.toArray] W (PutK V W m q bm kl nb F x) := by
  obtain ⟨j0, hj0, hj1, hj2, hj3⟩ := info_parts op_info
  have hbx := below_new W (.cells x.row.toArray 79)
  have hrx := heap_new W (.cells x.row.toArray 79)
  obtain ⟨W4, hW4⟩ : ∃ W4, W4 = W.alloc (.cells x.row.toArray 79) := ⟨_, rfl⟩
  rw [← hW4] at hbx hrx
  have hMid := Lib.hid (h.keep hbx)
  have hSt := Lib.hid (StayK.of_below hbx)
  have hz4 := Lib.hid hbx.size
  have hr0 := Lib.hid hrx
  have hch := Lib.hid (And.intro h.ge h.bge)
  clear h hbx hrx
  go_enter Tryz.func103, Tryz.ntmps103
  go_upto_region 1 with fail
  rw [← hW4]
  clear hW4
  obtain ⟨p0, hp0⟩ : ∃ p0, W.heap.size = p0 := ⟨_, rfl⟩
  rw [hp0] at hr0 ⊢
  replace hp0 := Lib.hid hp0
  refine region_iw tbSf1 dsSf1 (vsSf1 q p0 A (kl.length) c x) (fun L T W => (L 7 = false → Below W4.heap.size W4 W) ∧ (L 6 = true → L 7 = false → ∃ g1 : Nat, T.getD 11 undef = .slice (some ⟨g1, 0, none⟩) 1 1 ∧ W.rangeAt g1 0 x.row) ∧ (L 7 = true → L 10 = false → MidK V W m q bm A c (T.getD 12 undef) kl (kl ++ [x]) nb F ∧ StayK W4 W ∧ W4.heap.size ≤ W.heap.size) ∧ (L 10 = true → (∃ A' c', CookW V W m q bm A' c' (kl ++ [x]) nb F) ∧ StayK W4 W ∧ W4.heap.size ≤ W.heap.size)) rfl (by decide) (by kernel_rfl) ?hlt ?hstep ?hdone ?hstart
  case hstart => exact ⟨fun _ => drewN_below 1, fun h => absurd h (inv_not (n := 11) (i := 6) (by decide)), fun h => absurd h (inv_not (n := 11) (i := 7) (by decide)), fun h => absurd h (inv_not (n := 11) (i := 10) (by decide))⟩
  case hlt =>
    intro ix o ho
    have hi := (Array.getElem?_eq_some_iff.1 ho).1
    match ix, hi with
    | 0, _ => obtain rfl := Option.some.inj ho; decide
    | 1, _ => obtain rfl := Option.some.inj ho; decide
    | 2, _ => obtain rfl := Option.some.inj ho; decide
    | 3, _ => obtain rfl := Option.some.inj ho; decide
    | 4, _ => obtain rfl := Option.some.inj ho; decide
    | 5, _ => obtain rfl := Option.some.inj ho; decide
    | 6, _ => obtain rfl := Option.some.inj ho; decide
    | 7, _ => obtain rfl := Option.some.inj ho; decide
    | 8, _ => obtain rfl := Option.some.inj ho; decide
    | 9, _ => obtain rfl := Option.some.inj ho; decide
    | 10, _ => obtain rfl := Option.some.inj ho; decide
  case hstep =>
    intro T1 hE L T W ix o hF hW hc ho hLi hd K hK
    have hN : T1.size = 21 := by rw [hE]; rfl
    have f0 : T.getD 0 undef = .pointer (some ⟨q, 0, none⟩) := (hF.old 0 (by decide)).trans (by rw [hE]; rfl)
    have f3 : T.getD 3 undef = .pointer (some ⟨p0, 0, none⟩) := (hF.old 3 (by decide)).trans (by rw [hE]; rfl)
    clear hE
    replace hF := Lib.hid hF
    replace hW := Lib.hid hW
    replace hK := Lib.hid hK
    have hi := (List.getElem?_eq_some_iff.1 ho).1
    match ix, hi with
    | 0, _ =>
      obtain rfl := Option.some.inj ho
      clear hd ho hi hc hLi
      exact st_val (v := .pointer (some ⟨q, 0, none⟩)) (w' := W) (want_none rfl) (by unfold execOp; dsimp only [Act.eval]; simp only [f0]; go_simp) (hK.out _ _ (hF.out.put (k := 0) (s := 5) rfl (by decide) hN (by decide) (fun u_v hu => Option.some.inj (Option.some.inj (show some (some (.pointer (some ⟨q, 0, none⟩))) = some (some u_v) from hu))) (by dsimp only; rw [gd_ne (show 5 ≠ 11 by decide), gd_ne (show 5 ≠ 12 by decide)]; exact hW.out)))
    | 1, _ =>
      obtain rfl := Option.some.inj ho
      clear hd ho hi hc hLi
      exact st_val (v := .pointer (some ⟨q, 0, none⟩)) (w' := W) (want_none rfl) (by unfold execOp; dsimp only [Act.eval]; simp only [f0]; go_simp) (hK.out _ _ (hF.out.put (k := 1) (s := 6) rfl (by decide) hN (by decide) (fun u_v hu => Option.some.inj (Option.some.inj (show some (some (.pointer (some ⟨q, 0, none⟩))) = some (some u_v) from hu))) (by dsimp only; rw [gd_ne (show 6 ≠ 11 by decide), gd_ne (show 6 ≠ 12 by decide)]; exact hW.out)))
    | 2, _ =>
      obtain rfl := Option.some.inj ho
      have l1 : L 1 = true := dep_of hd (n := 1) (by decide)
      have e6 : T.getD 6 undef = .pointer (some ⟨q, 0, none⟩) := hF.out.val 1 6 _ l1 rfl rfl
      clear hd ho hi hc hLi
      exact st_val (v := .pointer (some ⟨q, 0, none⟩)) (w' := W) (want_none rfl) (by unfold execOp; dsimp only [Act.eval]; simp only [e6]; go_simp) (hK.out _ _ (hF.out.put (k := 2) (s := 7) rfl (by decide) hN (by decide) (fun u_v hu => Option.some.inj (Option.some.inj (show some (some (.pointer (some ⟨q, 0, none⟩))) = some (some u_v) from hu))) (by dsimp only; rw [gd_ne (show 7 ≠ 11 by decide), gd_ne (show 7 ≠ 12 by decide)]; exact hW.out)))
    | 3, _ =>
      obtain rfl := Option.some.inj ho
      have l2 : L 2 = true := dep_of hd (n := 2) (by decide)
      have e7 : T.getD 7 undef = .pointer (some ⟨q, 0, none⟩) := hF.out.val 2 7 _ l2 rfl rfl
      clear hd ho hi hc hLi
      exact st_val (v := .pointer (some ⟨q, 1, none⟩)) (w' := W) (want_none rfl) (by unfold execOp; dsimp only [Act.eval]; simp only [e7]; go_simp) (hK.out _ _ (hF.out.put (k := 3) (s := 8) rfl (by decide) hN (by decide) (fun u_v hu => Option.some.inj (Option.some.inj (show some (some (.pointer (some ⟨q, 1, none⟩))) = some (some u_v) from hu))) (by dsimp only; rw [gd_ne (show 8 ≠ 11 by decide), gd_ne (show 8 ≠ 12 by decide)]; exact hW.out)))
    | 4, _ =>
      obtain rfl := Option.some.inj ho
      have l3 : L 3 = true := dep_of hd (n := 3) (by decide)
      have e8 : T.getD 8 undef = .pointer (some ⟨q, 1, none⟩) := hF.out.val 3 8 _ l3 rfl rfl
      have n7 : L 7 = false := by cases h : L 7 with | false => rfl | true => exact absurd ((hc 7 4 h (by decide) : L 4 = true).symm.trans hLi) (by decide)
      have hb := hW.out.1 n7
      have hcc : W.cell? ⟨q, 1, none⟩ = some (.slice A kl.length c) := cell_of_row W q 1 _ _ _ ((hb.block q (Array.getElem?_eq_some_iff.1 hMid.out.blk).1).trans hMid.out.blk)
      clear hd ho hi hc
      exact st_val (v := .slice A (kl.length) c) (w' := W) (want_none rfl) (by unfold execOp; dsimp only [Act.eval]; simp only [e8]; go_simp) (hK.out _ _ (hF.out.put (k := 4) (s := 9) rfl (by decide) hN (by decide) (fun u_v hu => Option.some.inj (Option.some.inj (show some (some (.slice A (kl.length) c)) = some (some u_v) from hu))) (by dsimp only; rw [gd_ne (show 9 ≠ 11 by decide), gd_ne (show 9 ≠ 12 by decide)]; exact hW.out)))
    | 5, _ =>
      obtain rfl := Option.some.inj ho
      have n7 : L 7 = false := by cases h : L 7 with | false => rfl | true => exact absurd ((hc 6 5 (hc 7 6 h (by decide)) (by decide) : L 5 = true).symm.trans hLi) (by decide)
      have hb := hW.out.1 n7
      have hld := ldP_run (rangeAt_list ((hb.block p0 (Array.getElem?_eq_some_iff.1 hr0.out).1).trans hr0.out))
      clear hd ho hi hc
      exact st_val (v := .agg x.row.toArray) (w' := W) (want_none rfl) (by unfold execOp; dsimp only [Act.eval]; simp only [f3]; go_simp) (hK.out _ _ (hF.out.put (k := 5) (s := 10) rfl (by decide) hN (by decide) (fun u_v hu => Option.some.inj (Option.some.inj (show some (some (.agg x.row.toArray)) = some (some u_v) from hu))) (by dsimp only; rw [gd_ne (show 10 ≠ 11 by decide), gd_ne (show 10 ≠ 12 by decide)]; exact hW.out)))
    | 6, _ =>
      obtain rfl := Option.some.inj ho
      have l5 : L 5 = true := dep_of hd (n := 5) (by decide)
      have e10 : T.getD 10 undef = .agg x.row.toArray := hF.out.val 5 10 _ l5 rfl rfl
      have n7 : L 7 = false := by cases h : L 7 with | false => rfl | true => exact absurd ((hc 7 6 h (by decide) : L 6 = true).symm.trans hLi) (by decide)
      have hb := hW.out.1 n7
      have n10 : ¬ L 10 = true := fun h => by have := hc 10 7 h (by decide); rw [n7] at this; cases this
      have hbn := below_new W (.cells x.row.toArray 79)
      have hrw := rangeAt_list (heap_new W (.cells x.row.toArray 79))
      have hn7 := Lib.hid n7
      clear hd ho hi hc
      exact st_val (v := .slice (some ⟨W.heap.size, 0, none⟩) 1 1) (w' := W.alloc (.cells x.row.toArray 79)) (want_none rfl) (run_build1_ 40 79 (.tmp 10) rfl j0 _ _ Tryz.underlying40 hj0 hj1 hj2 (by decide) (by decide) (show T.getD 10 undef = _ from e10) rfl) (hK.out _ _ (hF.out.put (k := 6) (s := 11) rfl (by decide) hN (by decide) (fun u hu => by cases hu) ⟨fun _ => hb.trans (hbn.mono hb.size), fun _ _ => ⟨W.heap.size, gd_eq (by rw [hF.out.size, hN]; decide), hrw⟩, fun h _ => absurd ((show L 7 = true from h).symm.trans hn7.out) (by decide), fun h => absurd h n10⟩))
    | 7, _ =>
      obtain rfl := Option.some.inj ho
      have l4 : L 4 = true := dep_of hd (n := 4) (by decide)
      have e9 : T.getD 9 undef = .slice A (kl.length) c := hF.out.val 4 9 _ l4 rfl rfl
      have l6 : L 6 = true := dep_of hd (n := 6) (by decide)
      have n10 : ¬ L 10 = true := fun h => by have := hc 10 7 h (by decide); rw [hLi] at this; cases this
      obtain ⟨g1, e11, hrw⟩ := hW.out.2.1 l6 hLi
      have hb := hW.out.1 hLi
      have hl6 := Lib.hid l6
      have hMb := hMid.out.keep hb
      have hbh := Lib.hid hb
      clear hd ho hi hc
      refine st_append (want_none rfl) _ _ 40 rfl 79 j0 _ 5 48 Tryz.underlying40 hj0 hj1 hj2 hj3 rfl (by decide) V.heap.size hMb.below.size (.slice A kl.length c) (kl.map Mk.row) (show T.getD 9 undef = _ from e9) hMb.own g1 1 x.row (show T.getD 11 undef = _ from e11) hrw rfl (op_one x) (by rw [List.length_map]; unfold maxLen; omega) (by rw [List.length_map]; omega) ?_
      intro v' w3 hO2 hg hat
      exact hK.out _ _ (hF.out.put (k := 7) (s := 12) rfl (by decide) hN (by decide) (fun u hu => by cases hu) ⟨fun h => absurd h (by simp), fun _ h => absurd h (by simp), fun _ _ => (by rw [gd_eq (by rw [hF.out.size, hN]; decide)]; exact ⟨hMb.app hO2 hg, (StayK.of_below hbh.out).trans (StayK.of_grown hg (fun q hq => OwnR.typ hMb.own hq) (.inr rfl)), Nat.le_trans hbh.out.size hg.size⟩), fun h => absurd h n10⟩)
    | 8, _ =>
      obtain rfl := Option.some.inj ho
      have l0 : L 0 = true := dep_of hd (n := 0) (by decide)
      have e5 : T.getD 5 undef = .pointer (some ⟨q, 0, none⟩) := hF.out.val 0 5 _ l0 rfl rfl
      clear hd ho hi hc hLi
      exact st_val (v := .pointer (some ⟨q, 0, none⟩)) (w' := W) (want_none rfl) (by unfold execOp; dsimp only [Act.eval]; simp only [e5]; go_simp) (hK.out _ _ (hF.out.put (k := 8) (s := 13) rfl (by decide) hN (by decide) (fun u_v hu => Option.some.inj (Option.some.inj (show some (some (.pointer (some ⟨q, 0, none⟩))) = some (some u_v) from hu))) (by dsimp only; rw [gd_ne (show 13 ≠ 11 by decide), gd_ne (show 13 ≠ 12 by decide)]; exact hW.out)))
    | 9, _ =>
      obtain rfl := Option.some.inj ho
      have l8 : L 8 = true := dep_of hd (n := 8) (by decide)
      have e13 : T.getD 13 undef = .pointer (some ⟨q, 0, none⟩) := hF.out.val 8 13 _ l8 rfl rfl
      clear hd ho hi hc hLi
      exact st_val (v := .pointer (some ⟨q, 1, none⟩)) (w' := W) (want_none rfl) (by unfold execOp; dsimp only [Act.eval]; simp only [e13]; go_simp) (hK.out _ _ (hF.out.put (k := 9) (s := 14) rfl (by decide) hN (by decide) (fun u_v hu => Option.some.inj (Option.some.inj (show some (some (.pointer (some ⟨q, 1, none⟩))) = some (some u_v) from hu))) (by dsimp only; rw [gd_ne (show 14 ≠ 11 by decide), gd_ne (show 14 ≠ 12 by decide)]; exact hW.out)))
    | 10, _ =>
      obtain rfl := Option.some.inj ho
      have l7 : L 7 = true := dep_of hd (n := 7) (by decide)
      have l9 : L 9 = true := dep_of hd (n := 9) (by decide)
      have e14 : T.getD 14 undef = .pointer (some ⟨q, 1, none⟩) := hF.out.val 9 14 _ l9 rfl rfl
      obtain ⟨hx, hs1, hs2⟩ := hW.out.2.2.1 l7 hLi
      have hl7 := Lib.hid l7
      obtain ⟨v9, e12⟩ : ∃ v, T.getD 12 undef = v := ⟨_, rfl⟩
      rw [e12] at hx
      obtain ⟨A9, c9, ev9, _⟩ := OwnR.rws hx.own
      rw [List.length_map] at ev9
      have hbk := hx.blk
      have hdn := (show MidK V W m q bm A c (.slice A9 (kl ++ [x]).length c9) kl (kl ++ [x]) nb F by rw [← ev9]; exact hx).done hch.out.1 hch.out.2
      have hdh := Lib.hid hdn
      have hsh := Lib.hid (And.intro hs1 hs2)
      clear hx hdn hs1 hs2
      clear hd ho hi hc
      exact st_do (w' := W.setCell ⟨q, 1, none⟩ (.slice A9 (kl ++ [x]).length c9)) (want_none rfl) (by unfold execOp; dsimp only [Act.eval]; simp only [e14, e12]; subst ev9; exact stK_run hbk) (hK.out _ _ (hF.out.pass (k := 10) rfl ⟨fun h => absurd ((show L 7 = false from h).symm.trans hl7.out) (by decide), fun _ h => absurd ((show L 7 = false from h).symm.trans hl7.out) (by decide), fun _ h => absurd h (by simp), fun _ => ⟨⟨A9, c9, hdh.out.1⟩, hsh.out.1.trans hdh.out.2, Nat.le_trans hsh.out.2 (by simp [World.setCell])⟩⟩))
  case hdone =>
    intro L T W2 hF hW hall
    obtain ⟨⟨A', c', hMd⟩, hs1, hs2⟩ := hW.2.2.2 (hall 10 (by decide))
    obtain ⟨z11, e11⟩ : ∃ z, T.getD 11 undef = z := ⟨_, rfl⟩
    obtain ⟨z12, e12⟩ : ∃ z, T.getD 12 undef = z := ⟨_, rfl⟩
    have hT : T = #[.pointer (some ⟨q, 0, none⟩), .agg x.row.toArray, undef, .pointer (some ⟨p0, 0, none⟩), .int .i64 0, .pointer (some ⟨q, 0, none⟩), .pointer (some ⟨q, 0, none⟩), .pointer (some ⟨q, 0, none⟩), .pointer (some ⟨q, 1, none⟩), .slice A (kl.length) c, .agg x.row.toArray, z11, z12, .pointer (some ⟨q, 0, none⟩), .pointer (some ⟨q, 1, none⟩), undef, undef, undef, undef, undef, undef] := (hF.fin [(5, .pointer (some ⟨q, 0, none⟩)), (6, .pointer (some ⟨q, 0, none⟩)), (7, .pointer (some ⟨q, 0, none⟩)), (8, .pointer (some ⟨q, 1, none⟩)), (9, .slice A (kl.length) c), (10, .agg x.row.toArray), (11, z11), (12, z12), (13, .pointer (some ⟨q, 0, none⟩)), (14, .pointer (some ⟨q, 1, none⟩))] [5, 6, 7, 8, 9, 10, 11, 12, 13, 14] rfl (List.forall_mem_cons.2 ⟨hF.val 0 _ _ (hall 0 (show 0 < 11 by decide)) rfl rfl, (List.forall_mem_cons.2 ⟨hF.val 1 _ _ (hall 1 (show 1 < 11 by decide)) rfl rfl, (List.forall_mem_cons.2 ⟨hF.val 2 _ _ (hall 2 (show 2 < 11 by decide)) rfl rfl, (List.forall_mem_cons.2 ⟨hF.val 3 _ _ (hall 3 (show 3 < 11 by decide)) rfl rfl, (List.forall_mem_cons.2 ⟨hF.val 4 _ _ (hall 4 (show 4 < 11 by decide)) rfl rfl, (List.forall_mem_cons.2 ⟨hF.val 5 _ _ (hall 5 (show 5 < 11 by decide)) rfl rfl, (List.forall_mem_cons.2 ⟨e11, (List.forall_mem_cons.2 ⟨e12, (List.forall_mem_cons.2 ⟨hF.val 8 _ _ (hall 8 (show 8 < 11 by decide)) rfl rfl, (List.forall_mem_cons.2 ⟨hF.val 9 _ _ (hall 9 (show 9 < 11 by decide)) rfl rfl, (fun _ h => absurd h List.not_mem_nil)⟩)⟩)⟩)⟩)⟩)⟩)⟩)⟩)⟩)⟩) (by decide)).trans (by kernel_rfl)
    clear hF hall
    subst hT
    obtain ⟨c0, c1, c2⟩ := hMd.c0
    rw [List.length_append] at c1
    replace hMd := Lib.hid (show PutK V W m q bm kl nb F x (.returned (.int .i64 kl.length)) W2 from ⟨rfl, hSt.out.trans hs1, Nat.le_trans hz4.out hs2, A', c', hMd⟩)
    clear hs1 hs2 hW e11 e12 c0 c2
    go_wp2_with fail
    go_ret
    obtain ⟨_, h2, h3, h4⟩ := hMd.out
    exact ⟨congrArg Ending.returned (by go_num), h2, h3, h4⟩
end Go.Proofs.YtphnakdgpilcmaaGreatDoor
