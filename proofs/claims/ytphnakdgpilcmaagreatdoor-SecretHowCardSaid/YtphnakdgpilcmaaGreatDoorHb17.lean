/- A mind: of what a share can be made (raise). (printed by wip/gen_scs.py) -/
import Derived.Test.YtphnakdgpilcmaaGreatDoorHb16
import Derived.Test.YtphnakdgpilcmaaGreatDoorHb11
namespace Go.Proofs.YtphnakdgpilcmaaGreatDoor
open Go.RowKit Go.Maps

theorem ok_sorted {t : Tm} (h : t.ok) (hk : t.kind = 5) : t.args.Pairwise nle := by
  obtain ⟨k, a, b, s, args⟩ := t
  exact ((ok_mk.1 h).2.1.2.1 hk).2
/-- Numbers that name a list's terms, one by one. -/
theorem zip_named {L : List Tm} {xs : List Nat} {args : List Tm} (h : xs.map (fun i => L[i]?) = args.map some) : ∃ oz : List (Int × Tm), oz.map Prod.fst = xs.map (fun i : Nat => (i : Int)) ∧ oz.map Prod.snd = args ∧ (∀ z ∈ oz, get L z.1 = some z.2) ∧ oz.length = args.length := by
  induction xs generalizing args with
  | nil =>
    cases args with
    | nil => exact ⟨[], rfl, rfl, by simp, rfl⟩
    | cons a r => simp at h
  | cons x r ih =>
    cases args with
    | nil => simp at h
    | cons a q =>
      simp only [List.map_cons, List.cons.injEq] at h
      obtain ⟨oz, h1, h2, h3, h4⟩ := ih h.2
      refine ⟨((x : Int), a) :: oz, by simp [h1], by simp [h2], fun z hz => ?_, by simp [h4]⟩
      rcases List.mem_cons.1 hz with rfl | hz
      · (rw [get_nat]; exact h.1)
      · exact h3 z hz
theorem raise_one {L : List Tm} {its : List It} {ls : List Tm} (h : Named L its ls) (hL : L.Nodup) (n : Nat) {ez ms : List (Int × Tm)} {y : Tm} (hms : ∀ z ∈ ms, get L z.1 = some z.2) (hy : y.ok) (hk : y.kind = 5)
    (he : (ez.map Prod.snd).Pairwise nle) (ke : ∀ x ∈ ez.map Prod.snd, x.ok ∧ x.kind = 2) (hr : (restL (ez.map Prod.snd) y.args).1 = ms.map Prod.snd) :
    ((restL (ez.map Prod.snd) y.args).2 && allI its n ms) = true ↔ fromP (ls.take n) (ez.map Prod.snd) y.args := by
  rw [← rest_from he (ok_sorted hy hk) ke (fun x hx => ⟨ok_args hy x hx, ok_exps hy hk x hx⟩), Bool.and_eq_true, allI_iff h hL n hms, hr]
/-- What raise answers. -/
def RaiseR (L : List Tm) (W : World) (ls : List Tm) (n : Nat) (s : List UInt8) (ez : List (Int × Tm)) (Ax : Option Addr) (cx : Nat) (r : Ending) (w' : World) : Prop :=
  Below W.heap.size W w' ∧ ∃ (i : Int) (v : Value) (q : Bool), r = .returned (.tuple #[.int .i64 i, v, .bool q]) ∧ (q = true ↔ raiseP (ls.take n) s (ez.map Prod.snd)) ∧
    (q = true → (i = -1 ∧ v = .slice Ax ez.length cx ∧ ∀ x ∈ ez.map Prod.snd, nder (ls.take n) x) ∨
      ∃ (j : Nat) (y : Tm) (ms : List (Int × Tm)), i = j ∧ j < n ∧ ls[j]? = some y ∧ y.kind = 5 ∧ y.s = s ∧ OwnD w' W.heap.size v (ms.map Prod.fst) ∧ (∀ z ∈ ms, z ∈ ez) ∧ (restL (ez.map Prod.snd) y.args).2 = true ∧ (restL (ez.map Prod.snd) y.args).1 = ms.map Prod.snd ∧ ∀ x ∈ ms.map Prod.snd, nder (ls.take n) x)
theorem lt_of_cell {W : World} {p : Addr} {v : Value} (h : W.cell? p = some v) : p.block < W.heap.size := by
  unfold World.cell? at h
  cases hq : W.heap[p.block]? with
  | none => rw [hq] at h; simp at h
  | some o => exact (Array.getElem?_eq_some_iff.1 hq).1
theorem MindW.at_ {V W : World} {g m b : Nat} {A : Option Addr} {c : Nat} {its : List It} (h : MindW V W g m b A c its) {j : Nat} {it : It} (hj : its[j]? = some it) :
    ∃ b1 o1, W.cell? ⟨m, 0, none⟩ = some (.pointer (some ⟨g, 0, none⟩)) ∧ W.cell? ⟨m, 1, none⟩ = some (.slice A its.length c) ∧ A = some ⟨b1, o1, none⟩ ∧ W.cell? ⟨b1, o1 + j * 4, none⟩ = some (.int .i64 it.t) := by
  obtain ⟨c0, c1, -⟩ := h.c0
  obtain ⟨A', c', e, hr⟩ := h.own.rws
  injection e with e1 _ _
  subst e1
  have hlt := (List.getElem?_eq_some_iff.1 hj).1
  rw [List.length_map] at hr
  obtain ⟨b1, o1, z, rfl, _, hz, _, hc⟩ := hr.row hlt
  rw [List.getElem?_map, hj] at hz
  have hz : it.row = z := Option.some.inj hz
  subst hz
  exact ⟨b1, o1, c0, c1, rfl, hc 0 _ rfl⟩
theorem OwnR.low {w : World} {base base' k : Nat} {E : TypeId} {v : Value} {zs : List (List Value)} (h : OwnR w base k E v zs) (hb : base' ≤ base) : OwnR w base' k E v zs := by
  obtain ⟨⟨hl, hh⟩, hz⟩ := h
  refine ⟨⟨hl, ?_⟩, hz⟩
  rcases hh with h0 | ⟨g, cap, cur, hv, hg, r⟩
  · exact .inl h0
  · exact .inr ⟨g, cap, cur, hv, Nat.le_trans hb hg, r⟩
theorem bs_list_ (l : List UInt8) : (bs l).toList = l := by rw [ByteArray.toList_eq]; rfl
theorem box_cells {w2 : World} {p1 : Nat} {k a b : Nat} {s : List UInt8} {v : Value} (r1 : w2.heap[p1]? = some (.cells (ndC k a b s v).toArray 52 (0, 0))) :
    w2.cell? ⟨p1, 0, none⟩ = some (.int .i64 k) ∧ w2.cell? ⟨p1, 1, none⟩ = some (.int .i64 a) ∧ w2.cell? ⟨p1, 2, none⟩ = some (.int .i64 b) ∧ w2.cell? ⟨p1, 3, none⟩ = some (.string (bs s)) ∧ w2.cell? ⟨p1, 4, none⟩ = some v :=
  ⟨cell_of_row w2 p1 0 _ _ _ r1, cell_of_row w2 p1 1 _ _ _ r1, cell_of_row w2 p1 2 _ _ _ r1, cell_of_row w2 p1 3 _ _ _ r1, cell_of_row w2 p1 4 _ _ _ r1⟩
theorem own_zip {w : World} {B : Nat} {v : Value} {xs : List Nat} {oz : List (Int × Tm)} (h : OwnR w B 1 33 v (xs.map idv)) (ho : oz.map Prod.fst = xs.map (fun i : Nat => (i : Int))) : OwnD w B v (oz.map Prod.fst) := by
  unfold OwnD
  rw [ho, List.map_map]
  exact h
theorem none_next {Q : Tm → Prop} {ls : List Tm} {j : Nat} {y0 : Tm} (h : ∀ i y, i < j → ls[i]? = some y → Q y) (hy : ls[j]? = some y0) (h0 : Q y0) : ∀ i y, i < j + 1 → ls[i]? = some y → Q y := fun i y hi hiy => by
  by_cases e : i = j
  · subst e; rw [hy] at hiy; obtain rfl := Option.some.inj hiy; exact h0
  · exact h i y (by omega) hiy
theorem fromP_all {H e : List Tm} (h : fromP H e []) : ∀ x ∈ e, nder H x := fun x hx => h.2 x (by rw [cnt_nil]; exact cnt_pos.2 hx)
theorem fromP_nil {H e : List Tm} (h : ∀ x ∈ e, nder H x) : fromP H e [] := ⟨fun x => by rw [cnt_nil]; omega, fun x hx => h x (cnt_pos.1 (by rw [cnt_nil] at hx; exact hx))⟩
def dsSc6 : List (Option Nat) := [some 27, some 28, some 29, some 30, some 31, some 32, some 33, some 34, some 35, some 36, some 37, some 38, some 39, some 26, some 40, some 41, some 10, none, some 11]
def tbSc6 : List (List Nat) := [[], [0], [1], [2], [], [4], [5], [6], [], [7, 8], [9], [10], [3, 11], [12], [13], [13], [], [14, 16], [15]]
def vsSc6 (g : Nat) (m : Nat) (b1 : Nat) (o1 : Nat) (j : Nat) (ni : Nat) (c : Nat) (xt : Int) : List (Option Value) := [some (.pointer (some ⟨m, 0, none⟩)), some (.pointer (some ⟨m, 0, none⟩)), some (.pointer (some ⟨m, 0, none⟩)), some (.pointer (some ⟨g, 0, none⟩)), some (.pointer (some ⟨m, 0, none⟩)), some (.pointer (some ⟨m, 0, none⟩)), some (.pointer (some ⟨m, 1, none⟩)), some (.slice (some ⟨b1, o1, none⟩) ni c), some (.int .i64 j), some (.pointer (some ⟨b1, o1 + j * 4, none⟩)), some (.pointer (some ⟨b1, o1 + j * 4, none⟩)), some (.int .i64 xt), none, none, none, some (.bool true), none, none, some (.bool true)]
set_option maxRecDepth 100000 in
set_option maxHeartbeats 4000000 in
theorem mraise_any {V W w0 : World} {g m b : Nat} {A : Option Addr} {c : Nat} {its : List It} {Ls : List Tm} {ls : List Tm} (h : MindW V W g m b A c its) (hS : St w0 g W Ls) (hN : Named Ls its ls)
    (k a b' : Nat) (s : List UInt8) (ez : List (Int × Tm)) (Ax : Option Addr) (cx : Nat) (hz : Ints W Ax ez.length (ez.map Prod.fst)) (hx : ∀ z ∈ ez, i64 z.1 ∧ get Ls z.1 = some z.2) (n : Nat) (hn : n ≤ its.length) (hel : ez.length ≤ 200000)
    (he : (ez.map Prod.snd).Pairwise nle) (ke : ∀ x ∈ ez.map Prod.snd, x.ok ∧ x.kind = 2) :
    Calls Tryz.prog 101 #[.pointer (some ⟨m, 0, none⟩), .agg (ndC k a b' s (.slice Ax ez.length cx)).toArray, .int .i64 n] W (RaiseR Ls W ls n s ez Ax cx) := by
  have hbx := below_new W (.cells (ndC k a b' s (.slice Ax ez.length cx)).toArray 52)
  have hrx := heap_new W (.cells (ndC k a b' s (.slice Ax ez.length cx)).toArray 52)
  obtain ⟨W1, hW1⟩ : ∃ W1, W1 = W.alloc (.cells (ndC k a b' s (.slice Ax ez.length cx)).toArray 52) := ⟨_, rfl⟩
  rw [← hW1] at hbx hrx
  have hM1 := Lib.hid (h.keep hbx)
  have hS1 := Lib.hid (hS.keep hbx)
  have hz1 := Lib.hid (hz.keep hbx)
  have hxh := Lib.hid hx
  have heh := Lib.hid (And.intro he ke)
  have hNh := Lib.hid hN
  have hcl := Lib.hid (fun W' (hb : Below W1.heap.size W1 W') => (⟨cell_of_row W' W.heap.size 3 _ _ _ ((hb.block W.heap.size (Array.getElem?_eq_some_iff.1 hrx).1).trans hrx), cell_of_row W' W.heap.size 4 _ _ _ ((hb.block W.heap.size (Array.getElem?_eq_some_iff.1 hrx).1).trans hrx)⟩ : W'.cell? ⟨W.heap.size, 3, none⟩ = some (.string (bs s)) ∧ W'.cell? ⟨W.heap.size, 4, none⟩ = some (.slice Ax ez.length cx)))
  have hbxh := Lib.hid hbx
  have cA := Lib.hid (mall_any hM1.out hS1.out ez Ax cx hz1.out hx n (by omega))
  obtain ⟨-, d4⟩ := hcl.out W1 (Below.refl _ _)
  have hn100 : n ≤ 100 := Nat.le_trans hn hM1.out.few
  have hnh := Lib.hid hn
  clear h hS hz hx he ke hN hbx hrx hn
  go_enter Tryz.func101, Tryz.ntmps101
  go_upto_region 1 with fail
  rw [← hW1]
  clear hW1
  cases hq : allI its n ez with
  | true =>
    rw [hq] at cA
    have hqh := Lib.hid ((allI_iff hNh.out hS1.out.good.once n (fun z hz => (hxh.out z hz).2)).1 hq)
    clear hq
    go_upto_region 2 with (go_at_call 125; refine cA.out.mono ?_; rintro r w2 ⟨rfl, hb2⟩; obtain ⟨-, d4b⟩ := hcl.out w2 hb2; have hb2h := Lib.hid (hbxh.out.trans (hb2.mono hbxh.out.size)); clear hb2)
    clear cA d4
    go_quiet (fail)
    go_wp2_with fail
    go_ret3
    exact ⟨hb2h.out.trans ((drewN_below nq : Below w2.heap.size w2 (w2.drewN nq)).mono hb2h.out.size), -1, _, true, rfl, by simp only [true_iff]; exact .inl (fromP_nil hqh.out), fun _ => .inl ⟨rfl, rfl, hqh.out⟩⟩
  | false =>
    rw [hq] at cA
    have hqh := Lib.hid (show ¬ ∀ x ∈ ez.map Prod.snd, nder (ls.take n) x from fun q => by rw [(allI_iff hNh.out hS1.out.good.once n (fun z hz => (hxh.out z hz).2)).2 q] at hq; cases hq)
    clear hq
    have h0 : Hid (∀ i y, i < 0 → ls[i]? = some y → y.kind = 5 → y.s = s → ¬ fromP (ls.take n) (ez.map Prod.snd) y.args) := Lib.hid (fun i y hi => absurd hi (Nat.not_lt_zero i))
    go_upto_region 4 with (go_at_call 125; refine cA.out.mono ?_; rintro r w2 ⟨rfl, hb2⟩; replace hb2 := Lib.hid hb2)
    clear cA d4
    go_loopw [9] (fun iv wr => ∃ j : Nat, j ≤ n ∧ iv = .int .i64 j ∧ Hid (Below W1.heap.size W1 wr) ∧ Hid (∀ i y, i < j → ls[i]? = some y → y.kind = 5 → y.s = s → ¬ fromP (ls.take n) (ez.map Prod.snd) y.args)) (fun iv _ => n - (intOf iv).toNat)
    case atStart => exact ⟨0, Nat.zero_le _, rfl, hb2, h0⟩
    case round =>
      clear h0 hb2
      obtain ⟨j, hj, rfl, hb, hno⟩ := hrel
      by_cases hlt : j < n
      · have hlt' : (j : Int) < (n : Int) := by omega
        obtain ⟨y, hy⟩ : ∃ y, ls[j]? = some y := ⟨ls[j]'(by rw [← hNh.out.len]; have := hnh.out; omega), List.getElem?_eq_getElem _⟩
        obtain ⟨it, hit, hgt⟩ := hNh.out.back hy
        have hM := hM1.out.keep hb.out
        obtain ⟨b1, o1, c0, c1, c3⟩ := hM.at_ hit
        obtain ⟨rfl, c3⟩ := c3
        have hcx := Lib.hid (fun W' (h : Below wr.heap.size wr W') => (⟨(h.cell (p := ⟨m, 0, none⟩) (lt_of_cell c0)).trans c0, (h.cell (p := ⟨m, 1, none⟩) (lt_of_cell c1)).trans c1, (h.cell (p := ⟨b1, o1 + j * 4, none⟩) (lt_of_cell c3)).trans c3⟩ : W'.cell? ⟨m, 0, none⟩ = some (.pointer (some ⟨g, 0, none⟩)) ∧ W'.cell? ⟨m, 1, none⟩ = some (.slice (some ⟨b1, o1, none⟩) its.length c) ∧ W'.cell? ⟨b1, o1 + j * 4, none⟩ = some (.int .i64 it.t)))
        have hlti : (j : Int) < (its.length : Int) := by have := hnh.out; omega
        have hok := Lib.hid (hS1.out.good.ok y (get_mem hgt))
        have hyh := Lib.hid hy
        have hgh := Lib.hid hgt
        have cV := fun W' (h : Below wr.heap.size wr W') => ((hS1.out.keep hb.out).keep h).vown3 it.t y hgt
        obtain ⟨k2, a2, b2, s2, args2⟩ := y
        simp only [Tm.kind, Tm.a, Tm.b, Tm.s, Tm.args] at cV
        replace cV := Lib.hid cV
        clear hM c0 c1 c3 hit hgt hy
        go_upto_region 6 with fail
        refine region_iw tbSc6 dsSc6 (vsSc6 g m b1 o1 j (its.length) c (it.t)) (fun L T W => Below wr.heap.size wr W ∧ ∃ (Av : Option Addr) (cv : Nat) (xs : List Nat) (pp : Nat), (L 12 = true → T.getD 39 undef = .tuple #[.agg (ndC k2 a2 b2 s2 (.slice Av args2.length cv)).toArray, .bool true] ∧ OwnR W wr.heap.size 1 33 (.slice Av args2.length cv) (xs.map idv) ∧ xs.map (fun i => Ls[i]?) = args2.map some) ∧ (L 13 = true → T.getD 26 undef = .tuple #[.agg (ndC k2 a2 b2 s2 (.slice Av args2.length cv)).toArray, .bool true]) ∧ (L 14 = true → T.getD 40 undef = .agg (ndC k2 a2 b2 s2 (.slice Av args2.length cv)).toArray) ∧ (L 16 = true → T.getD 10 undef = .pointer (some ⟨pp, 0, none⟩) ∧ wr.heap.size ≤ pp ∧ (L 17 = false → W.heap[pp]? = some (.cells zNd.toArray 52)) ∧ (L 17 = true → W.heap[pp]? = some (.cells (ndC k2 a2 b2 s2 (.slice Av args2.length cv)).toArray 52)))) rfl (by decide) (by kernel_rfl) ?hlt ?hstep ?hdone ?hstart
        case hstart => exact ⟨drewN_below 1, none, 0, [], 0, fun h => absurd h (inv_not (n := 19) (i := 12) (by decide)), fun h => absurd h (inv_not (n := 19) (i := 13) (by decide)), fun h => absurd h (inv_not (n := 19) (i := 14) (by decide)), fun h => absurd h (inv_not (n := 19) (i := 16) (by decide))⟩
        case hlt =>
          intro ix o ho
          have hi := (Array.getElem?_eq_some_iff.1 ho).1
          match ix, hi with
          | 0, _ => obtain rfl := Option.some.inj ho; decide
          | 1, _ => obtain rfl := Option.some.inj ho; decide
          | 2, _ => obtain rfl := Option.some.inj ho; decide
          | 3, _ => obtain rfl := Option.some.inj ho; decide
          | 4, _ => obtain rfl := Option.some.inj ho; decide
          | 5, _ => obtain rfl := Option.some.inj ho; decide
          | 6, _ => obtain rfl := Option.some.inj ho; decide
          | 7, _ => obtain rfl := Option.some.inj ho; decide
          | 8, _ => obtain rfl := Option.some.inj ho; decide
          | 9, _ => obtain rfl := Option.some.inj ho; decide
          | 10, _ => obtain rfl := Option.some.inj ho; decide
          | 11, _ => obtain rfl := Option.some.inj ho; decide
          | 12, _ => obtain rfl := Option.some.inj ho; decide
          | 13, _ => obtain rfl := Option.some.inj ho; decide
          | 14, _ => obtain rfl := Option.some.inj ho; decide
          | 15, _ => obtain rfl := Option.some.inj ho; decide
          | 16, _ => obtain rfl := Option.some.inj ho; decide
          | 17, _ => obtain rfl := Option.some.inj ho; decide
          | 18, _ => obtain rfl := Option.some.inj ho; decide
        case hstep =>
          intro T1 hE L T W ix o hF hW hc ho hLi hd K hK
          have hN : T1.size = 69 := by rw [hE]; rfl
          have f0 : T.getD 0 undef = .pointer (some ⟨m, 0, none⟩) := (hF.old 0 (by decide)).trans (by rw [hE]; rfl)
          have f9 : T.getD 9 undef = .int .i64 j := (hF.old 9 (by decide)).trans (by rw [hE]; rfl)
          clear hE
          replace hF := Lib.hid hF
          replace hW := Lib.hid hW
          replace hK := Lib.hid hK
          have hi := (List.getElem?_eq_some_iff.1 ho).1
          match ix, hi with
          | 0, _ =>
            obtain rfl := Option.some.inj ho
            clear hd ho hi hc hLi
            exact st_val (v := .pointer (some ⟨m, 0, none⟩)) (w' := W) (want_none rfl) (by unfold execOp; dsimp only [Act.eval]; simp only [f0]; go_simp) (hK.out _ _ (hF.out.put (k := 0) (s := 27) rfl (by decide) hN (by decide) (fun u_v hu => Option.some.inj (Option.some.inj (show some (some (.pointer (some ⟨m, 0, none⟩))) = some (some u_v) from hu))) (by dsimp only; rw [gd_ne (show 27 ≠ 39 by decide), gd_ne (show 27 ≠ 26 by decide), gd_ne (show 27 ≠ 40 by decide), gd_ne (show 27 ≠ 10 by decide)]; exact hW.out)))
          | 1, _ =>
            obtain rfl := Option.some.inj ho
            have l0 : L 0 = true := dep_of hd (n := 0) (by decide)
            have e27 : T.getD 27 undef = .pointer (some ⟨m, 0, none⟩) := hF.out.val 0 27 _ l0 rfl rfl
            clear hd ho hi hc hLi
            exact st_val (v := .pointer (some ⟨m, 0, none⟩)) (w' := W) (want_none rfl) (by unfold execOp; dsimp only [Act.eval]; simp only [e27]; go_simp) (hK.out _ _ (hF.out.put (k := 1) (s := 28) rfl (by decide) hN (by decide) (fun u_v hu => Option.some.inj (Option.some.inj (show some (some (.pointer (some ⟨m, 0, none⟩))) = some (some u_v) from hu))) (by dsimp only; rw [gd_ne (show 28 ≠ 39 by decide), gd_ne (show 28 ≠ 26 by decide), gd_ne (show 28 ≠ 40 by decide), gd_ne (show 28 ≠ 10 by decide)]; exact hW.out)))
          | 2, _ =>
            obtain rfl := Option.some.inj ho
            have l1 : L 1 = true := dep_of hd (n := 1) (by decide)
            have e28 : T.getD 28 undef = .pointer (some ⟨m, 0, none⟩) := hF.out.val 1 28 _ l1 rfl rfl
            clear hd ho hi hc hLi
            exact st_val (v := .pointer (some ⟨m, 0, none⟩)) (w' := W) (want_none rfl) (by unfold execOp; dsimp only [Act.eval]; simp only [e28]; go_simp) (hK.out _ _ (hF.out.put (k := 2) (s := 29) rfl (by decide) hN (by decide) (fun u_v hu => Option.some.inj (Option.some.inj (show some (some (.pointer (some ⟨m, 0, none⟩))) = some (some u_v) from hu))) (by dsimp only; rw [gd_ne (show 29 ≠ 39 by decide), gd_ne (show 29 ≠ 26 by decide), gd_ne (show 29 ≠ 40 by decide), gd_ne (show 29 ≠ 10 by decide)]; exact hW.out)))
          | 3, _ =>
            obtain rfl := Option.some.inj ho
            have l2 : L 2 = true := dep_of hd (n := 2) (by decide)
            have e29 : T.getD 29 undef = .pointer (some ⟨m, 0, none⟩) := hF.out.val 2 29 _ l2 rfl rfl
            have hb := hW.out.1
            have hcc := (hcx.out W hb).1
            clear hd ho hi hc hLi
            exact st_val (v := .pointer (some ⟨g, 0, none⟩)) (w' := W) (want_none rfl) (by unfold execOp; dsimp only [Act.eval]; simp only [e29]; go_simp) (hK.out _ _ (hF.out.put (k := 3) (s := 30) rfl (by decide) hN (by decide) (fun u_v hu => Option.some.inj (Option.some.inj (show some (some (.pointer (some ⟨g, 0, none⟩))) = some (some u_v) from hu))) (by dsimp only; rw [gd_ne (show 30 ≠ 39 by decide), gd_ne (show 30 ≠ 26 by decide), gd_ne (show 30 ≠ 40 by decide), gd_ne (show 30 ≠ 10 by decide)]; exact hW.out)))
          | 4, _ =>
            obtain rfl := Option.some.inj ho
            clear hd ho hi hc hLi
            exact st_val (v := .pointer (some ⟨m, 0, none⟩)) (w' := W) (want_none rfl) (by unfold execOp; dsimp only [Act.eval]; simp only [f0]; go_simp) (hK.out _ _ (hF.out.put (k := 4) (s := 31) rfl (by decide) hN (by decide) (fun u_v hu => Option.some.inj (Option.some.inj (show some (some (.pointer (some ⟨m, 0, none⟩))) = some (some u_v) from hu))) (by dsimp only; rw [gd_ne (show 31 ≠ 39 by decide), gd_ne (show 31 ≠ 26 by decide), gd_ne (show 31 ≠ 40 by decide), gd_ne (show 31 ≠ 10 by decide)]; exact hW.out)))
          | 5, _ =>
            obtain rfl := Option.some.inj ho
            have l4 : L 4 = true := dep_of hd (n := 4) (by decide)
            have e31 : T.getD 31 undef = .pointer (some ⟨m, 0, none⟩) := hF.out.val 4 31 _ l4 rfl rfl
            clear hd ho hi hc hLi
            exact st_val (v := .pointer (some ⟨m, 0, none⟩)) (w' := W) (want_none rfl) (by unfold execOp; dsimp only [Act.eval]; simp only [e31]; go_simp) (hK.out _ _ (hF.out.put (k := 5) (s := 32) rfl (by decide) hN (by decide) (fun u_v hu => Option.some.inj (Option.some.inj (show some (some (.pointer (some ⟨m, 0, none⟩))) = some (some u_v) from hu))) (by dsimp only; rw [gd_ne (show 32 ≠ 39 by decide), gd_ne (show 32 ≠ 26 by decide), gd_ne (show 32 ≠ 40 by decide), gd_ne (show 32 ≠ 10 by decide)]; exact hW.out)))
          | 6, _ =>
            obtain rfl := Option.some.inj ho
            have l5 : L 5 = true := dep_of hd (n := 5) (by decide)
            have e32 : T.getD 32 undef = .pointer (some ⟨m, 0, none⟩) := hF.out.val 5 32 _ l5 rfl rfl
            clear hd ho hi hc hLi
            exact st_val (v := .pointer (some ⟨m, 1, none⟩)) (w' := W) (want_none rfl) (by unfold execOp; dsimp only [Act.eval]; simp only [e32]; go_simp) (hK.out _ _ (hF.out.put (k := 6) (s := 33) rfl (by decide) hN (by decide) (fun u_v hu => Option.some.inj (Option.some.inj (show some (some (.pointer (some ⟨m, 1, none⟩))) = some (some u_v) from hu))) (by dsimp only; rw [gd_ne (show 33 ≠ 39 by decide), gd_ne (show 33 ≠ 26 by decide), gd_ne (show 33 ≠ 40 by decide), gd_ne (show 33 ≠ 10 by decide)]; exact hW.out)))
          | 7, _ =>
            obtain rfl := Option.some.inj ho
            have l6 : L 6 = true := dep_of hd (n := 6) (by decide)
            have e33 : T.getD 33 undef = .pointer (some ⟨m, 1, none⟩) := hF.out.val 6 33 _ l6 rfl rfl
            have hb := hW.out.1
            have hcc := (hcx.out W hb).2.1
            clear hd ho hi hc hLi
            exact st_val (v := .slice (some ⟨b1, o1, none⟩) (its.length) c) (w' := W) (want_none rfl) (by unfold execOp; dsimp only [Act.eval]; simp only [e33]; go_simp) (hK.out _ _ (hF.out.put (k := 7) (s := 34) rfl (by decide) hN (by decide) (fun u_v hu => Option.some.inj (Option.some.inj (show some (some (.slice (some ⟨b1, o1, none⟩) (its.length) c)) = some (some u_v) from hu))) (by dsimp only; rw [gd_ne (show 34 ≠ 39 by decide), gd_ne (show 34 ≠ 26 by decide), gd_ne (show 34 ≠ 40 by decide), gd_ne (show 34 ≠ 10 by decide)]; exact hW.out)))
          | 8, _ =>
            obtain rfl := Option.some.inj ho
            clear hd ho hi hc hLi
            exact st_val (v := .int .i64 j) (w' := W) (want_none rfl) (by unfold execOp; dsimp only [Act.eval]; simp only [f9]; go_simp) (hK.out _ _ (hF.out.put (k := 8) (s := 35) rfl (by decide) hN (by decide) (fun u_v hu => Option.some.inj (Option.some.inj (show some (some (.int .i64 j)) = some (some u_v) from hu))) (by dsimp only; rw [gd_ne (show 35 ≠ 39 by decide), gd_ne (show 35 ≠ 26 by decide), gd_ne (show 35 ≠ 40 by decide), gd_ne (show 35 ≠ 10 by decide)]; exact hW.out)))
          | 9, _ =>
            obtain rfl := Option.some.inj ho
            have l7 : L 7 = true := dep_of hd (n := 7) (by decide)
            have e34 : T.getD 34 undef = .slice (some ⟨b1, o1, none⟩) (its.length) c := hF.out.val 7 34 _ l7 rfl rfl
            have l8 : L 8 = true := dep_of hd (n := 8) (by decide)
            have e35 : T.getD 35 undef = .int .i64 j := hF.out.val 8 35 _ l8 rfl rfl
            clear hd ho hi hc hLi
            exact st_val (v := .pointer (some ⟨b1, o1 + j * 4, none⟩)) (w' := W) (want_none rfl) (by unfold execOp; dsimp only [Act.eval]; simp only [e34, e35]; go_simp) (hK.out _ _ (hF.out.put (k := 9) (s := 36) rfl (by decide) hN (by decide) (fun u_v hu => Option.some.inj (Option.some.inj (show some (some (.pointer (some ⟨b1, o1 + j * 4, none⟩))) = some (some u_v) from hu))) (by dsimp only; rw [gd_ne (show 36 ≠ 39 by decide), gd_ne (show 36 ≠ 26 by decide), gd_ne (show 36 ≠ 40 by decide), gd_ne (show 36 ≠ 10 by decide)]; exact hW.out)))
          | 10, _ =>
            obtain rfl := Option.some.inj ho
            have l9 : L 9 = true := dep_of hd (n := 9) (by decide)
            have e36 : T.getD 36 undef = .pointer (some ⟨b1, o1 + j * 4, none⟩) := hF.out.val 9 36 _ l9 rfl rfl
            clear hd ho hi hc hLi
            exact st_val (v := .pointer (some ⟨b1, o1 + j * 4, none⟩)) (w' := W) (want_none rfl) (by unfold execOp; dsimp only [Act.eval]; simp only [e36]; go_simp) (hK.out _ _ (hF.out.put (k := 10) (s := 37) rfl (by decide) hN (by decide) (fun u_v hu => Option.some.inj (Option.some.inj (show some (some (.pointer (some ⟨b1, o1 + j * 4, none⟩))) = some (some u_v) from hu))) (by dsimp only; rw [gd_ne (show 37 ≠ 39 by decide), gd_ne (show 37 ≠ 26 by decide), gd_ne (show 37 ≠ 40 by decide), gd_ne (show 37 ≠ 10 by decide)]; exact hW.out)))
          | 11, _ =>
            obtain rfl := Option.some.inj ho
            have l10 : L 10 = true := dep_of hd (n := 10) (by decide)
            have e37 : T.getD 37 undef = .pointer (some ⟨b1, o1 + j * 4, none⟩) := hF.out.val 10 37 _ l10 rfl rfl
            have hb := hW.out.1
            have hcc := (hcx.out W hb).2.2
            clear hd ho hi hc hLi
            exact st_val (v := .int .i64 (it.t)) (w' := W) (want_none rfl) (by unfold execOp; dsimp only [Act.eval]; simp only [e37]; go_simp) (hK.out _ _ (hF.out.put (k := 11) (s := 38) rfl (by decide) hN (by decide) (fun u_v hu => Option.some.inj (Option.some.inj (show some (some (.int .i64 (it.t))) = some (some u_v) from hu))) (by dsimp only; rw [gd_ne (show 38 ≠ 39 by decide), gd_ne (show 38 ≠ 26 by decide), gd_ne (show 38 ≠ 40 by decide), gd_ne (show 38 ≠ 10 by decide)]; exact hW.out)))
          | 12, _ =>
            obtain rfl := Option.some.inj ho
            have l3 : L 3 = true := dep_of hd (n := 3) (by decide)
            have e30 : T.getD 30 undef = .pointer (some ⟨g, 0, none⟩) := hF.out.val 3 30 _ l3 rfl rfl
            have l11 : L 11 = true := dep_of hd (n := 11) (by decide)
            have e38 : T.getD 38 undef = .int .i64 (it.t) := hF.out.val 11 38 _ l11 rfl rfl
            have n13 : ¬ L 13 = true := fun h => by have := hc 13 12 h (by decide); rw [hLi] at this; cases this
            have n14 : ¬ L 14 = true := fun h => n13 (hc 14 13 h (by decide))
            have n17 : ¬ L 17 = true := fun h => n14 (hc 17 14 h (by decide))
            have hb := hW.out.1
            obtain ⟨Av, cv, xs, pp, hI⟩ := hW.out.2
            replace hI := Lib.hid hI
            have cc := Lib.hid (cV.out W hb)
            clear hd ho hi hc
            refine st_call (want_none rfl) (by unfold execOp; go_simp) cc.out ?_
            rintro r w3 ⟨Av2, cv2, xs2, rfl, hO2, hx2, hb4⟩
            exact ⟨_, rfl, hK.out _ _ (hF.out.put (k := 12) (s := 39) rfl (by decide) hN (by decide) (fun u hu => by cases hu) ⟨hb.trans (hb4.mono hb.size), Av2, cv2, xs2, pp, fun _ => ⟨gd_eq (by rw [hF.out.size, hN]; decide), OwnR.low hO2 hb.size, hx2⟩, fun h => absurd h n13, fun h => absurd h n14, fun h => (by obtain ⟨q1, q2, q3, q4⟩ := hI.out.2.2.2 h; exact ⟨(gd_ne (show 39 ≠ 10 by decide)).trans q1, q2, fun h17 => (hb4.block pp (Array.getElem?_eq_some_iff.1 (q3 h17)).1).trans (q3 h17), fun h17 => absurd h17 n17⟩)⟩)⟩
          | 13, _ =>
            obtain rfl := Option.some.inj ho
            have l12 : L 12 = true := dep_of hd (n := 12) (by decide)
            have n14 : ¬ L 14 = true := fun h => by have := hc 14 13 h (by decide); rw [hLi] at this; cases this
            have n17 : ¬ L 17 = true := fun h => n14 (hc 17 14 h (by decide))
            have hb := hW.out.1
            obtain ⟨Av, cv, xs, pp, hI⟩ := hW.out.2
            replace hI := Lib.hid hI
            have e12 := (hI.out.1 l12).1
            clear hd ho hi hc
            exact st_val (v := _) (w' := W) (want_none rfl) (by unfold execOp; dsimp only [Act.eval]; simp only [e12]; go_simp) (hK.out _ _ (hF.out.put (k := 13) (s := 26) rfl (by decide) hN (by decide) (fun u hu => by cases hu) ⟨hb, Av, cv, xs, pp, fun _ => ⟨(gd_ne (show 26 ≠ 39 by decide)).trans e12, (hI.out.1 l12).2⟩, fun _ => gd_eq (by rw [hF.out.size, hN]; decide), fun h => absurd h n14, fun h => (by obtain ⟨q1, q2⟩ := hI.out.2.2.2 h; exact ⟨(gd_ne (show 26 ≠ 10 by decide)).trans q1, q2⟩)⟩))
          | 14, _ =>
            obtain rfl := Option.some.inj ho
            have l13 : L 13 = true := dep_of hd (n := 13) (by decide)
            have n17 : ¬ L 17 = true := fun h => by have := hc 17 14 h (by decide); rw [hLi] at this; cases this
            have hb := hW.out.1
            obtain ⟨Av, cv, xs, pp, hI⟩ := hW.out.2
            replace hI := Lib.hid hI
            have e13 := hI.out.2.1 l13
            clear hd ho hi hc
            exact st_val (v := _) (w' := W) (want_none rfl) (by unfold execOp; dsimp only [Act.eval]; simp only [e13]; go_simp) (hK.out _ _ (hF.out.put (k := 14) (s := 40) rfl (by decide) hN (by decide) (fun u hu => by cases hu) ⟨hb, Av, cv, xs, pp, fun h => (by obtain ⟨q1, q2⟩ := hI.out.1 h; exact ⟨(gd_ne (show 40 ≠ 39 by decide)).trans q1, q2⟩), fun _ => (gd_ne (show 40 ≠ 26 by decide)).trans e13, fun _ => gd_eq (by rw [hF.out.size, hN]; decide), fun h => (by obtain ⟨q1, q2⟩ := hI.out.2.2.2 h; exact ⟨(gd_ne (show 40 ≠ 10 by decide)).trans q1, q2⟩)⟩))
          | 15, _ =>
            obtain rfl := Option.some.inj ho
            have l13 : L 13 = true := dep_of hd (n := 13) (by decide)
            have hb := hW.out.1
            obtain ⟨Av, cv, xs, pp, hI⟩ := hW.out.2
            replace hI := Lib.hid hI
            have e13 := hI.out.2.1 l13
            clear hd ho hi hc hLi
            exact st_val (v := .bool true) (w' := W) (want_none rfl) (by unfold execOp; dsimp only [Act.eval]; simp only [e13]; go_simp) (hK.out _ _ (hF.out.put (k := 15) (s := 41) rfl (by decide) hN (by decide) (fun u_v hu => Option.some.inj (Option.some.inj (show some (some (.bool true)) = some (some u_v) from hu))) (by dsimp only; rw [gd_ne (show 41 ≠ 39 by decide), gd_ne (show 41 ≠ 26 by decide), gd_ne (show 41 ≠ 40 by decide), gd_ne (show 41 ≠ 10 by decide)]; exact hW.out)))
          | 16, _ =>
            obtain rfl := Option.some.inj ho
            have n17 : ¬ L 17 = true := fun h => by have := hc 17 16 h (by decide); rw [hLi] at this; cases this
            have hb := hW.out.1
            obtain ⟨Av, cv, xs, pp, hI⟩ := hW.out.2
            replace hI := Lib.hid hI
            have hbn := below_new W (.cells zNd.toArray 52)
            clear hd ho hi hc
            exact st_val (v := .pointer (some ⟨W.heap.size, 0, none⟩)) (w' := W.alloc (.cells zNd.toArray 52)) (want_none rfl) (run_alloc_ 52 rfl _ (by kernel_rfl)) (hK.out _ _ (hF.out.put (k := 16) (s := 10) rfl (by decide) hN (by decide) (fun u hu => by cases hu) ⟨hb.trans (hbn.mono hb.size), Av, cv, xs, W.heap.size, fun h => (by obtain ⟨q1, q2, q3⟩ := hI.out.1 h; exact ⟨(gd_ne (show 10 ≠ 39 by decide)).trans q1, OwnR.keep q2 hbn, q3⟩), fun h => (gd_ne (show 10 ≠ 26 by decide)).trans (hI.out.2.1 h), fun h => (gd_ne (show 10 ≠ 40 by decide)).trans (hI.out.2.2.1 h), fun _ => ⟨gd_eq (by rw [hF.out.size, hN]; decide), hb.size, fun _ => heap_new W _, fun h17 => absurd h17 n17⟩⟩))
          | 17, _ =>
            obtain rfl := Option.some.inj ho
            have l16 : L 16 = true := dep_of hd (n := 16) (by decide)
            have l14 : L 14 = true := dep_of hd (n := 14) (by decide)
            have hb := hW.out.1
            obtain ⟨Av, cv, xs, pp, hI⟩ := hW.out.2
            replace hI := Lib.hid hI
            obtain ⟨q1, q2, q3, q4⟩ := hI.out.2.2.2 l16
            have e14 := hI.out.2.2.1 l14
            have q5 := q3 hLi
            have hst : Stay W (W.setRow pp (ndC k2 a2 b2 s2 (.slice Av args2.length cv)).toArray) := fun r cur t fr hc' a1 a2 a3 => (hsetRow_off (show r ≠ pp from fun e => by subst e; rw [q5] at hc'; injection hc' with hc'; injection hc' with _ hc' _; exact a2 hc'.symm) _).trans hc'
            clear hd ho hi hc
            exact st_do (w' := W.setRow pp (ndC k2 a2 b2 s2 (.slice Av args2.length cv)).toArray) (want_none rfl) (run_store_ 52 (.tmp 10) (.tmp 40) rfl pp _ (show T.getD 10 undef = _ from q1) (show T.getD 40 undef = _ from e14) _ _ q5 (by kernel_rfl) rfl nd_all) (hK.out _ _ (hF.out.pass (k := 17) rfl ⟨below_setRow_ hb q2 _, Av, cv, xs, pp, fun h => (by obtain ⟨p1, p2, p3⟩ := hI.out.1 h; exact ⟨p1, OwnR.stay p2 hst (by decide) (by decide) (by decide), p3⟩), hI.out.2.1, hI.out.2.2.1, fun _ => ⟨q1, q2, fun h => absurd h (by simp), fun _ => hsetRow _ _ _ _ _ _ q5⟩⟩))
          | 18, _ =>
            obtain rfl := Option.some.inj ho
            have l15 : L 15 = true := dep_of hd (n := 15) (by decide)
            have e41 : T.getD 41 undef = .bool true := hF.out.val 15 41 _ l15 rfl rfl
            clear hd ho hi hc hLi
            exact st_val (v := .bool true) (w' := W) (want_none rfl) (by unfold execOp; dsimp only [Act.eval]; simp only [e41]; go_simp) (hK.out _ _ (hF.out.put (k := 18) (s := 11) rfl (by decide) hN (by decide) (fun u_v hu => Option.some.inj (Option.some.inj (show some (some (.bool true)) = some (some u_v) from hu))) (by dsimp only; rw [gd_ne (show 11 ≠ 39 by decide), gd_ne (show 11 ≠ 26 by decide), gd_ne (show 11 ≠ 40 by decide), gd_ne (show 11 ≠ 10 by decide)]; exact hW.out)))
        case hdone =>
          intro L T W2 hF hW hall
          obtain ⟨hb6, Av, cv, xs, pp, hI⟩ := hW
          obtain ⟨e12, hO6, hx6⟩ := hI.1 (hall 12 (by decide))
          have e13 := hI.2.1 (hall 13 (by decide))
          have e14 := hI.2.2.1 (hall 14 (by decide))
          obtain ⟨e16, hp6, -, hr6⟩ := hI.2.2.2 (hall 16 (by decide))
          replace hr6 := hr6 (hall 17 (by decide))
          clear hI
          have hT : T = #[.pointer (some ⟨m, 0, none⟩), .agg (ndC k a b' s (.slice Ax ez.length cx)).toArray, .int .i64 n, undef, .pointer (some ⟨W.heap.size, 0, none⟩), undef, u6, u7, u8, .int .i64 j, .pointer (some ⟨pp, 0, none⟩), .bool true, u12, u13, .pointer (some ⟨m, 0, none⟩), .pointer (some ⟨W.heap.size, 4, none⟩), .slice Ax ez.length cx, .int .i64 n, .bool false, undef, undef, .int .i64 j, .int .i64 n, .bool true, u24, u25, .tuple #[.agg (ndC k2 a2 b2 s2 (.slice Av args2.length cv)).toArray, .bool true], .pointer (some ⟨m, 0, none⟩), .pointer (some ⟨m, 0, none⟩), .pointer (some ⟨m, 0, none⟩), .pointer (some ⟨g, 0, none⟩), .pointer (some ⟨m, 0, none⟩), .pointer (some ⟨m, 0, none⟩), .pointer (some ⟨m, 1, none⟩), .slice (some ⟨b1, o1, none⟩) (its.length) c, .int .i64 j, .pointer (some ⟨b1, o1 + j * 4, none⟩), .pointer (some ⟨b1, o1 + j * 4, none⟩), .int .i64 (it.t), .tuple #[.agg (ndC k2 a2 b2 s2 (.slice Av args2.length cv)).toArray, .bool true], .agg (ndC k2 a2 b2 s2 (.slice Av args2.length cv)).toArray, .bool true, u42, u43, u44, u45, u46, u47, u48, u49, u50, u51, u52, u53, u54, u55, u56, u57, u58, u59, u60, u61, u62, u63, u64, u65, u66, u67, u68] := (hF.fin [(27, .pointer (some ⟨m, 0, none⟩)), (28, .pointer (some ⟨m, 0, none⟩)), (29, .pointer (some ⟨m, 0, none⟩)), (30, .pointer (some ⟨g, 0, none⟩)), (31, .pointer (some ⟨m, 0, none⟩)), (32, .pointer (some ⟨m, 0, none⟩)), (33, .pointer (some ⟨m, 1, none⟩)), (34, .slice (some ⟨b1, o1, none⟩) (its.length) c), (35, .int .i64 j), (36, .pointer (some ⟨b1, o1 + j * 4, none⟩)), (37, .pointer (some ⟨b1, o1 + j * 4, none⟩)), (38, .int .i64 (it.t)), (39, .tuple #[.agg (ndC k2 a2 b2 s2 (.slice Av args2.length cv)).toArray, .bool true]), (26, .tuple #[.agg (ndC k2 a2 b2 s2 (.slice Av args2.length cv)).toArray, .bool true]), (40, .agg (ndC k2 a2 b2 s2 (.slice Av args2.length cv)).toArray), (41, .bool true), (10, .pointer (some ⟨pp, 0, none⟩)), (11, .bool true)] [27, 28, 29, 30, 31, 32, 33, 34, 35, 36, 37, 38, 39, 26, 40, 41, 10, 11] rfl (List.forall_mem_cons.2 ⟨hF.val 0 _ _ (hall 0 (show 0 < 19 by decide)) rfl rfl, (List.forall_mem_cons.2 ⟨hF.val 1 _ _ (hall 1 (show 1 < 19 by decide)) rfl rfl, (List.forall_mem_cons.2 ⟨hF.val 2 _ _ (hall 2 (show 2 < 19 by decide)) rfl rfl, (List.forall_mem_cons.2 ⟨hF.val 3 _ _ (hall 3 (show 3 < 19 by decide)) rfl rfl, (List.forall_mem_cons.2 ⟨hF.val 4 _ _ (hall 4 (show 4 < 19 by decide)) rfl rfl, (List.forall_mem_cons.2 ⟨hF.val 5 _ _ (hall 5 (show 5 < 19 by decide)) rfl rfl, (List.forall_mem_cons.2 ⟨hF.val 6 _ _ (hall 6 (show 6 < 19 by decide)) rfl rfl, (List.forall_mem_cons.2 ⟨hF.val 7 _ _ (hall 7 (show 7 < 19 by decide)) rfl rfl, (List.forall_mem_cons.2 ⟨hF.val 8 _ _ (hall 8 (show 8 < 19 by decide)) rfl rfl, (List.forall_mem_cons.2 ⟨hF.val 9 _ _ (hall 9 (show 9 < 19 by decide)) rfl rfl, (List.forall_mem_cons.2 ⟨hF.val 10 _ _ (hall 10 (show 10 < 19 by decide)) rfl rfl, (List.forall_mem_cons.2 ⟨hF.val 11 _ _ (hall 11 (show 11 < 19 by decide)) rfl rfl, (List.forall_mem_cons.2 ⟨e12, (List.forall_mem_cons.2 ⟨e13, (List.forall_mem_cons.2 ⟨e14, (List.forall_mem_cons.2 ⟨hF.val 15 _ _ (hall 15 (show 15 < 19 by decide)) rfl rfl, (List.forall_mem_cons.2 ⟨e16, (List.forall_mem_cons.2 ⟨hF.val 18 _ _ (hall 18 (show 18 < 19 by decide)) rfl rfl, (fun _ h => absurd h List.not_mem_nil)⟩)⟩)⟩)⟩)⟩)⟩)⟩)⟩)⟩)⟩)⟩)⟩)⟩)⟩)⟩)⟩)⟩)⟩) (by decide)).trans (by kernel_rfl)
          clear hF hall
          subst hT
          obtain ⟨d0, -, -, d3, d4⟩ := box_cells hr6
          have hB6 := hb.out.trans (hb6.mono hb.out.size)
          obtain ⟨x3, x4⟩ := hcl.out W2 hB6
          replace hB6 := Lib.hid hB6
          have hO6h := Lib.hid hO6
          have hx6h := Lib.hid hx6
          clear hb6 hr6 hO6 hx6 hp6 e12 e13 e14 e16 hcx cV hb
          by_cases hk : k2 = 5
          · subst hk
            by_cases hs : s2 = s
            · have hs' := hs.symm
              subst hs'
              obtain ⟨oz, z1, z2, z3, z4⟩ := zip_named hx6h.out
              obtain ⟨ms, m1, m2, m3⟩ := restI_L hS1.out.good.once (zs := ez) (os := oz) (fun z hz => (hxh.out z hz).2) z3
              obtain ⟨A9, c9, e9, hI9⟩ := (own_zip hO6h.out z1).ints
              injection e9 with e1 e2 e3
              subst e1
              rw [List.length_map] at hI9
              have hm8 : args2.length ≤ 8 := by
                have := (ok_mk.1 hok.out).1; unfold okHd at this; omega
              have cR := mrest_any (ez.map Prod.fst) (oz.map Prod.fst) Ax Av ez.length cx args2.length cv W2 hel (by omega) (hz1.out.keep hB6.out) (by rw [← z4]; exact hI9)
              have hml : ms.length ≤ ez.length := by
                have := restI_len (ez.map Prod.fst) (oz.map Prod.fst)
                rw [m2] at this
                simpa using this
              have hone := raise_one hNh.out hS1.out.good.once n (ez := ez) (ms := ms) (y := .mk 5 a2 b2 s args2) (fun z hz => (hxh.out z (m1 z hz)).2) hok.out rfl heh.out.1 heh.out.2 (by rw [← z2] at *; exact m3)
              rw [z2] at m2 m3
              rw [m2] at cR
              have hres := Lib.hid (show (restL (ez.map Prod.snd) args2).1 = ms.map Prod.snd from m3)
              have hone : ((restL (ez.map Prod.snd) args2).2 && allI its n ms) = true ↔ fromP (ls.take n) (ez.map Prod.snd) args2 := hone
              obtain ⟨q1, hq1⟩ : ∃ q1, (restL (ez.map Prod.snd) args2).2 = q1 := ⟨_, rfl⟩
              rw [hq1] at cR hone
              replace hq1 := Lib.hid hq1
              have cA := Lib.hid (fun W3 (h : Below W2.heap.size W2 W3) (Am : Option Addr) (cm : Nat) (hI : Ints W3 Am ms.length (ms.map Prod.fst)) => mall_any ((hM1.out.keep hB6.out).keep h) ((hS1.out.keep hB6.out).keep h) ms Am cm hI (fun z hz => hxh.out z (m1 z hz)) n (by omega))
              replace cR := Lib.hid cR
              replace hone := Lib.hid hone
              have m1h := Lib.hid m1
              clear z1 z2 z3 z4 m1 m2 m3 hI9 e2 e3 hO6h hx6h
              cases q1 with
              | false =>
                have hnext := Lib.hid (none_next (Q := fun y => y.kind = 5 → y.s = s → ¬ fromP (ls.take n) (ez.map Prod.snd) y.args) hno.out hyh.out (fun _ _ hf => by have := hone.out.2 hf; cases this))
                clear hno
                go_wp2_with (go_at_call 126; refine cR.out.mono ?_; rintro r w7 ⟨v7, rfl, _, hb7⟩; replace hb7 := Lib.hid (hB6.out.trans (hb7.mono hB6.out.size)))
                go_roundw
                case rel => exact ⟨j + 1, by omega, by go_num, hb7, hnext⟩
                case measure => simp [intOf]; omega
              | true =>
                have cR := Lib.hid (Calls.mono cR.out fun (r : Ending) (W' : World) ⟨v7, h1, h2, h3⟩ => (show ∃ Am cm, r = Ending.returned (.tuple #[.slice Am ms.length cm, .bool true]) ∧ Ints W' Am ms.length (ms.map Prod.fst) ∧ OwnD W' W2.heap.size (.slice Am ms.length cm) (ms.map Prod.fst) ∧ Below W2.heap.size W2 W' by
                  obtain ⟨Am, cm, e, hI⟩ := h2.ints
                  rw [List.length_map] at e hI
                  subst e
                  exact ⟨Am, cm, h1, hI, h2, h3⟩))
                cases hq2 : allI its n ms with
                | false =>
                  rw [hq2] at cA hone
                  have hnext := Lib.hid (none_next (Q := fun y => y.kind = 5 → y.s = s → ¬ fromP (ls.take n) (ez.map Prod.snd) y.args) hno.out hyh.out (fun _ _ hf => by have := hone.out.2 hf; cases this))
                  clear hno hq2
                  go_wp2_with (first
                    | (go_at_call 126; refine cR.out.mono ?_; rintro r w7 ⟨Am, cm, rfl, hI7, _, hb7⟩; have cA := Lib.hid (cA.out w7 hb7 Am cm hI7); replace hb7 := Lib.hid (hB6.out.trans (hb7.mono hB6.out.size)); clear hI7)
                    | (go_at_call 125; refine cA.out.mono ?_; rintro r w8 ⟨rfl, hb8⟩; replace hb8 := Lib.hid (hb7.out.trans (hb8.mono hb7.out.size))))
                  go_roundw
                  case rel => exact ⟨j + 1, by omega, by go_num, hb8, hnext⟩
                  case measure => simp [intOf]; omega
                | true =>
                  rw [hq2] at cA hone
                  have hfrom := Lib.hid (hone.out.1 rfl)
                  have hnd := Lib.hid ((allI_iff hNh.out hS1.out.good.once n (fun z hz => (hxh.out z (m1h.out z hz)).2)).1 hq2)
                  clear hno hq2
                  go_wp2_with (first
                    | (go_at_call 126; refine cR.out.mono ?_; rintro r w7 ⟨Am, cm, rfl, hI7, hO7, hb7⟩; have cA := Lib.hid (cA.out w7 hb7 Am cm hI7); replace hO7 := Lib.hid hO7; have hsz7 := Lib.hid (hB6.out.size); replace hb7 := Lib.hid (hB6.out.trans (hb7.mono hB6.out.size)); clear hI7)
                    | (go_at_call 125; refine cA.out.mono ?_; rintro r w8 ⟨rfl, hb8⟩; have hO8 := Lib.hid (OwnR.keep hO7.out hb8); replace hb8 := Lib.hid (hb7.out.trans (hb8.mono hb7.out.size))))
                  go_ret3
                  exact ⟨hbxh.out.trans (hb8.out.mono hbxh.out.size), j, _, true, rfl, by simp only [true_iff]; exact .inr ⟨.mk 5 a2 b2 s args2, List.mem_of_getElem? (by rw [List.getElem?_take_of_lt hlt]; exact hyh.out), rfl, rfl, hfrom.out⟩,
                    fun _ => .inr ⟨j, .mk 5 a2 b2 s args2, ms, rfl, hlt, hyh.out, rfl, rfl, OwnR.low hO8.out (Nat.le_trans hbxh.out.size hsz7.out), m1h.out, hq1.out, hres.out, hnd.out⟩⟩
            · have hnd : ((bs s2).toList == (bs s).toList) = false := by rw [beq_eq_false_iff_ne]; rw [bs_list_, bs_list_]; exact hs
              have hnext := Lib.hid (none_next (Q := fun y => y.kind = 5 → y.s = s → ¬ fromP (ls.take n) (ez.map Prod.snd) y.args) hno.out hyh.out (fun _ h _ => hs h))
              clear hno hs
              generalize bs s2 = S2 at *
              generalize bs s = S1 at *
              go_wp2_with fail
              go_roundw
              case rel => exact ⟨j + 1, by omega, by go_num, hB6, hnext⟩
              case measure => simp [intOf]; omega
          · have hkf : ((k2 : Int) == 5) = false := by rw [beq_eq_false_iff_ne]; omega
            have hnext := Lib.hid (none_next (Q := fun y => y.kind = 5 → y.s = s → ¬ fromP (ls.take n) (ez.map Prod.snd) y.args) hno.out hyh.out (fun h _ _ => hk h))
            clear hno
            go_wp2_with fail
            go_roundw
            case rel => exact ⟨j + 1, by omega, by go_num, hB6, hnext⟩
            case measure => simp [intOf]; omega
      · have hnot : ¬ raiseP (ls.take n) s (ez.map Prod.snd) := by
          rintro (h | ⟨y, hy, hk, hs, hf⟩)
          · exact hqh.out (fromP_all h)
          · obtain ⟨i, hi⟩ := List.getElem?_of_mem hy
            have hin : i < n := by
              have := (List.getElem?_eq_some_iff.1 hi).1
              rw [List.length_take] at this; omega
            rw [List.getElem?_take_of_lt hin] at hi
            exact hno.out i y (by omega) hi hk hs hf
        replace hnot := Lib.hid hnot
        go_wp2_with fail
        go_ret3
        exact ⟨hbxh.out.trans (hb.out.mono hbxh.out.size), 0, _, false, rfl, ⟨fun h => (by cases h), fun h => absurd h hnot.out⟩, fun h => (by cases h)⟩
end Go.Proofs.YtphnakdgpilcmaaGreatDoor
