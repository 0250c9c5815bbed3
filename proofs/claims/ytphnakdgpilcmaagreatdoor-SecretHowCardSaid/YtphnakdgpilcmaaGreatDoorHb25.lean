/- A recipe that is being written: fetch. (printed by wip/gen_sfj.py) -/
import Derived.Test.YtphnakdgpilcmaaGreatDoorHb24
namespace Go.Proofs.YtphnakdgpilcmaaGreatDoor
open Go.RowKit Go.Maps

/-- What is known of all terms that are nearer. -/
def Near (V1 : World) (m q bm : Nat) (Ls ls : List Tm) (known sent : List (Option Tm)) (ni M : Nat) : Prop :=
  ∀ (n' M' : Nat) (t' : Tm), M' + 1 ≤ M → n' ≤ ni → Meas ls n' t' M' → der (ls.take n') t' → MkP V1 m q bm Ls known sent n' M' t'
theorem it_one (x : It) : x.row.toArray.all (·.oneCell') = true := by
  obtain ⟨a, b, c, d⟩ := x
  kernel_rfl
theorem it_box (w : World) (x : It) : (w.alloc (.cells #[.int .i64 0, .int .i64 0, .int .i64 0, .int .i64 0] 75)).heap[w.heap.size]? = some (.cells #[.int .i64 0, .int .i64 0, .int .i64 0, .int .i64 0] 75 (0, 0)) ∧
    Below w.heap.size w ((w.alloc (.cells #[.int .i64 0, .int .i64 0, .int .i64 0, .int .i64 0] 75)).setRow w.heap.size x.row.toArray) ∧
    ((w.alloc (.cells #[.int .i64 0, .int .i64 0, .int .i64 0, .int .i64 0] 75)).setRow w.heap.size x.row.toArray).heap[w.heap.size]? = some (.cells x.row.toArray 75 (0, 0)) :=
  ⟨heap_new w _, below_setRow_ (below_new w _) (Nat.le_refl _) _, hsetRow _ _ _ _ _ _ (heap_new w _)⟩
theorem it_cells {w : World} {p : Nat} {x : It} (h : w.heap[p]? = some (.cells x.row.toArray 75 (0, 0))) :
    w.cell? ⟨p, 0, none⟩ = some (.int .i64 x.t) ∧ w.cell? ⟨p, 1, none⟩ = some (.int .i64 x.w) ∧ w.cell? ⟨p, 2, none⟩ = some (.int .i64 x.o) ∧ w.cell? ⟨p, 3, none⟩ = some (.int .i64 x.p) :=
  ⟨cell_of_row _ _ 0 _ _ _ h, cell_of_row _ _ 1 _ _ _ h, cell_of_row _ _ 2 _ _ _ h, cell_of_row _ _ 3 _ _ _ h⟩
theorem MindW.row_ {V W : World} {g m b : Nat} {A : Option Addr} {c : Nat} {its : List It} (h : MindW V W g m b A c its) {j : Nat} {it : It} (hj : its[j]? = some it) {b1 o1 : Nat} (hA : A = some ⟨b1, o1, none⟩) : W.rangeAt b1 (o1 + j * 4) it.row := by
  obtain ⟨A', c', e, hr⟩ := h.own.rws
  injection e with e1 _ _
  subst e1
  have hlt := (List.getElem?_eq_some_iff.1 hj).1
  rw [List.length_map] at hr
  obtain ⟨b2, o2, z, hA2, _, hz, _, hc⟩ := hr.row hlt
  rw [hA] at hA2
  injection hA2 with hA2
  injection hA2 with e1 e2 _
  subst e1
  subst e2
  rw [List.getElem?_map, hj] at hz
  have hz : it.row = z := Option.some.inj hz
  subst hz
  exact fun i v hv => hc i v hv
def dsSj10 : List (Option Nat) := [some 63, some 64, some 65, some 66, some 67, some 68, some 69, some 70, some 71, some 72, some 73, some 74, some 75, some 76, some 77, some 78, some 79, some 80, some 81, some 82, some 62, some 83, some 84, some 7, none, some 8]
def tbSj10 : List (List Nat) := [[], [0], [1], [2], [3], [4], [5], [], [7], [8], [9], [10], [11], [12], [], [14], [13, 15], [16], [17], [6, 18], [19], [20], [20], [], [21, 23], [22]]
def vsSj10 (q : Nat) (g : Nat) (m : Nat) (p1 : Nat) (b1 : Nat) (o1 : Nat) (i : Nat) (jj : Nat) (ni : Nat) (c0 : Nat) (xt : Int) (j2 : Nat) (it : It) : List (Option Value) := [some (.pointer (some ⟨q, 0, none⟩)), some (.pointer (some ⟨q, 0, none⟩)), some (.pointer (some ⟨q, 0, none⟩)), some (.pointer (some ⟨m, 0, none⟩)), some (.pointer (some ⟨m, 0, none⟩)), some (.pointer (some ⟨m, 0, none⟩)), some (.pointer (some ⟨g, 0, none⟩)), some (.pointer (some ⟨q, 0, none⟩)), some (.pointer (some ⟨q, 0, none⟩)), some (.pointer (some ⟨q, 0, none⟩)), some (.pointer (some ⟨m, 0, none⟩)), some (.pointer (some ⟨m, 0, none⟩)), some (.pointer (some ⟨m, 1, none⟩)), some (.slice (some ⟨b1, o1, none⟩) ni c0), some (.pointer (some ⟨p1, 2, none⟩)), some (.int .i64 jj), some (.pointer (some ⟨b1, o1 + jj * 4, none⟩)), some (.pointer (some ⟨b1, o1 + jj * 4, none⟩)), some (.int .i64 xt), none, none, none, some (.bool true), none, none, some (.bool true)]
set_option maxRecDepth 100000 in
set_option maxHeartbeats 4000000 in
theorem mfetch_any {V V1 wr w0 : World} {g m b q bm : Nat} {A0 A : Option Addr} {c0 c : Nat} {its : List It} {Ls ls : List Tm} {known sent : List (Option Tm)} {kl : List Mk} {nb : Nat} {F : Int → Option Int} {M i : Nat} {t : Tm} {it : It}
    (hM : MindW V V1 g m b A0 c0 its) (hS : St w0 g V1 Ls) (hN : Named Ls its ls) (hc : CookW V1 wr m q bm A c kl nb F) (ho : Coo Ls known sent kl F) (hnb : nb ≤ kl.length) (hR : Room Ls.length M F kl.length) (hMi : M = (i + 1) * 200000)
    (hit : its[i]? = some it) (hti : ls[i]? = some t) (hex : Expl known sent ls i it t) (hnear : Near V1 m q bm Ls ls known sent its.length M) :
    Calls Tryz.prog 82 #[.pointer (some ⟨q, 0, none⟩), .int .i64 i] wr (CkR V1 wr m q bm Ls known sent (M - 1) 34 1 kl F t) := by
  have hM1 : 1 ≤ M := by omega
  obtain ⟨it2, hit2, hgt⟩ := hN.back hti
  rw [hit] at hit2
  obtain rfl := Option.some.inj hit2
  clear hit2
  have hok := hS.good.ok t (get_mem hgt)
  have hlen := hS.good.size t (get_mem hgt)
  have hMW := hM.keep hc.below
  obtain ⟨b1, o1, m0, m1, hA1, m2⟩ := hMW.at_ hit
  have hrow := Lib.hid (hMW.row_ hit hA1)
  subst hA1
  obtain ⟨c0', c1', c2'⟩ := hc.c0
  have hilt := (List.getElem?_eq_some_iff.1 hit).1
  have hlti : (i : Int) < (its.length : Int) := by omega
  have hn100 : its.length ≤ 100 := hM.few
  obtain ⟨z1, hbx, hrx⟩ := it_box wr it
  have z1 := Lib.hid z1
  have hbxh := Lib.hid hbx
  have hrxh := Lib.hid hrx
  have hch := Lib.hid (And.intro hc (And.intro ho (And.intro hnb (And.intro hR hMi))))
  have hMh := Lib.hid (And.intro hM (And.intro hS (And.intro hN hnear)))
  have hexh := Lib.hid hex
  have hkh := Lib.hid (And.intro hok hlen)
  have hti2 := Lib.hid hti
  clear hM hS hN hc ho hnb hR hMi hit hti hex hnear hM1 hgt hok hlen hMW m2 c1' c2' hbx hrx hilt
  go_enter Tryz.func82, Tryz.ntmps82
  go_upto_region 2 with (first
    | (refine wpList_load_at 75 (.tmp 18) rfl rfl b1 (o1 + i * 4) rfl it.row _ hrow.out Tryz.underlying75 rfl (by kernel_rfl) ?_)
    | (refine wpList_store_at 75 _ _ rfl rfl wr.heap.size it.row.toArray rfl rfl 75 #[.int .i64 0, .int .i64 0, .int .i64 0, .int .i64 0] z1.out (by kernel_rfl) rfl (it_one it) ?_))
  have hb2 := hbxh.out
  have hr2 := hrxh.out
  clear z1 hbxh hrxh hrow
  generalize (wr.alloc (.cells #[.int .i64 0, .int .i64 0, .int .i64 0, .int .i64 0] 75)).setRow wr.heap.size it.row.toArray = Wb at *
  obtain ⟨hc, ho, hnb, hR, hMi⟩ := hch.out
  have hc2 := hc.keep hb2
  have hS2 : CkS V1 Wb Wb m q bm Ls known sent (M - 1) 0 0 kl F [] F [] := CkS.start hc2 ho hnb
  have hfrom := Lib.hid (show ∀ r W', CkR V1 Wb m q bm Ls known sent (M - 1) 34 1 kl F t r W' → CkR V1 wr m q bm Ls known sent (M - 1) 34 1 kl F t r W' from fun r W' h => h.from_ hb2)
  generalize wr.heap.size = p1 at *
  obtain ⟨d0, d1, d2, d3⟩ := it_cells hr2
  have hr2h := Lib.hid hr2
  have hM1 : 1 ≤ M := by omega
  have hRh := Lib.hid (And.intro hR hMi)
  have hS2h := Lib.hid hS2
  have hcV := Lib.hid (show Below V1.heap.size V1 Wb from hc2.below)
  clear hc ho hnb hR hMi hc2 hS2 hb2 hr2 hch m0 m1 c0'
  rcases hexh.out with ⟨hw, p, hp, hk⟩ | ⟨hw, p, hp, hk⟩ | ⟨hw, jj, p, u, hjo, hji, hju, hku, hp, hau⟩ | ⟨hw, jj, u, kk, hjo, hji, hju, hku, hau, hdk⟩
  · rw [hw] at d1
    rw [hp] at d3
    have cP : Calls Tryz.prog 103 #[.pointer (some ⟨q, 0, none⟩), .agg #[.int .i64 2, .int .i64 p, .int .i64 0, .int .i64 0, .string ⟨#[]⟩]] Wb (fun r W3 => CkR V1 wr m q bm Ls known sent (M - 1) 34 1 kl F t r W3 ∧ ∃ j : Nat, r = .returned (.int .i64 j)) :=
      Calls.mono (hS2h.out.put_ hRh.out.1 hM1 (by decide) ⟨2, p, 0, 0, []⟩ t (fun made _ => st_know hk) hkh.out.1 hkh.out.2 (by simp)) fun (r : Ending) (W3 : World) hr => by
        obtain ⟨j, e, rfl, h2⟩ := hr
        exact ⟨hfrom.out _ _ (h2.done (by decide) (by simp)), j, rfl⟩
    replace cP := Lib.hid cP
    clear hw hp hk d0 d2 hlti
    go_wp2_with (go_at_call 103; (with_reducible refine cP.out.mono ?_); rintro r w3 ⟨hfin, j, rfl⟩; replace hfin := Lib.hid hfin)
    go_ret
    exact hfin.out
  · rw [hw] at d1
    rw [hp] at d3
    have cP : Calls Tryz.prog 103 #[.pointer (some ⟨q, 0, none⟩), .agg #[.int .i64 3, .int .i64 p, .int .i64 0, .int .i64 0, .string ⟨#[]⟩]] Wb (fun r W3 => CkR V1 wr m q bm Ls known sent (M - 1) 34 1 kl F t r W3 ∧ ∃ j : Nat, r = .returned (.int .i64 j)) :=
      Calls.mono (hS2h.out.put_ hRh.out.1 hM1 (by decide) ⟨3, p, 0, 0, []⟩ t (fun made _ => st_sent hk) hkh.out.1 hkh.out.2 (by simp)) fun (r : Ending) (W3 : World) hr => by
        obtain ⟨j, e, rfl, h2⟩ := hr
        exact ⟨hfrom.out _ _ (h2.done (by decide) (by simp)), j, rfl⟩
    replace cP := Lib.hid cP
    clear hw hp hk d0 d2 hlti
    go_wp2_with (go_at_call 103; (with_reducible refine cP.out.mono ?_); rintro r w3 ⟨hfin, j, rfl⟩; replace hfin := Lib.hid hfin)
    go_ret
    exact hfin.out
  · obtain ⟨itu, hitu, hgu⟩ := hMh.out.2.2.1.back hju
    have hMp := Meas.place hju hji
    have hmk := hMh.out.2.2.2 (jj + 1) _ u (Nat.le_trans hMp.2 (Nat.le_of_eq hRh.out.2.symm)) (by omega) hMp.1 (der_had (mem_take hju (Nat.lt_succ_self jj)))
    have hw2 := Lib.hid hw
    have hp2 := Lib.hid hp
    have hd1 : Below Wb.heap.size Wb Wb.drew := drewN_below 1
    obtain ⟨W3, hwd⟩ : ∃ W3, Wb.drew = W3 := ⟨_, rfl⟩
    rw [hwd] at hd1
    rw [hw] at d1
    go_upto_region 7 with fail
    clear d0 d1 d2 d3
    have hr3 := (hd1.block p1 (Array.getElem?_eq_some_iff.1 hr2h.out).1).trans hr2h.out
    obtain ⟨d0, d1, d2, d3⟩ := it_cells hr3
    clear hr3
    have hMW := hMh.out.1.keep (hcV.out.trans (hd1.mono hcV.out.size))
    obtain ⟨bu, ou, k0, k1, hA1, k2⟩ := hMW.at_ hitu
    injection hA1 with hA1
    injection hA1 with e1 e2 _
    subst e1
    subst e2
    have k3 : W3.cell? ⟨q, 0, none⟩ = some (.pointer (some ⟨m, 0, none⟩)) := by
      obtain ⟨_, _, _, h, _⟩ := (hS2h.out.keep hd1).cook
      exact h.c0.1
    have hjl : (jj : Int) < (its.length : Int) := by
      have := (List.getElem?_eq_some_iff.1 hitu).1
      omega
    have cM : Calls Tryz.prog 37 #[.pointer (some ⟨q, 0, none⟩), .int .i64 itu.t, .int .i64 ((jj : Int) + 1)] W3 (fun r W4 => ∃ (j : Nat) (e' : List Mk) (F2 : Int → Option Int), r = .returned (.int .i64 j) ∧ CkS V1 Wb W4 m q bm Ls known sent (M - 1) 0 0 kl F e' F2 [(j, u)]) :=
      (hS2h.out.keep hd1).make_ hRh.out.1 (by decide) (Nat.le_trans hMp.2 (Nat.le_of_eq hRh.out.2.symm)) (Nat.le_sub_of_add_le (Nat.le_trans hMp.2 (Nat.le_of_eq hRh.out.2.symm))) hgu hmk
    replace cM := Lib.hid cM
    clear hd1 hMW
    have cP := Lib.hid (show ∀ (W' : World) (j2 : Nat) (e2 : List Mk) (F2 : Int → Option Int), CkS V1 Wb W' m q bm Ls known sent (M - 1) 0 0 kl F e2 F2 [(j2, u)] →
        Calls Tryz.prog 103 #[.pointer (some ⟨q, 0, none⟩), .agg #[.int .i64 14, .int .i64 j2, .int .i64 p, .int .i64 0, .string ⟨#[]⟩]] W' (fun r W3 => CkR V1 wr m q bm Ls known sent (M - 1) 34 1 kl F t r W3 ∧ ∃ j : Nat, r = .returned (.int .i64 j)) from fun W' j2 e2 F2 h =>
      Calls.mono (h.put_ hRh.out.1 hM1 (by decide) ⟨14, j2, p, 0, []⟩ t (fun made hm => st_at (hm _ List.mem_cons_self) hku hau) hkh.out.1 hkh.out.2 (by simp)) fun (r : Ending) (W3 : World) hr => by
        obtain ⟨j, e, rfl, h2⟩ := hr
        exact ⟨hfrom.out _ _ (h2.done (by decide) (by simp)), j, rfl⟩)
    rw [hjo] at d2
    clear hw hp hjo hji hju hku hau hitu hgu hMp hmk d0 d1 d3
    go_still_tail 16, (by kernel_rfl)
    change wpList _ _ _ _ _ Wb.drew
    rw [hwd]
    clear hwd
    go_upto_region 8 with (go_at_call 37; (with_reducible refine cM.out.mono ?_); rintro r w4 ⟨j2, e2, F2, rfl, h4⟩)
    obtain ⟨-, d1, -, d3⟩ := it_cells (h4.stay p1 _ _ _ hr2h.out (by decide) (by decide))
    rw [hw2.out] at d1
    rw [hp2.out] at d3
    replace cP := Lib.hid (cP.out w4 j2 e2 F2 h4)
    clear h4 cM k0 k1 k2 k3 d2 
    go_wp2_with (go_at_call 103; (with_reducible refine cP.out.mono ?_); rintro r w5 ⟨hfin, j, rfl⟩; replace hfin := Lib.hid hfin)
    go_ret
    exact hfin.out
  · obtain ⟨itu, hitu, hgu⟩ := hMh.out.2.2.1.back hju
    have hMp := Meas.place hju hji
    have hmk := hMh.out.2.2.2 (jj + 1) _ u (Nat.le_trans hMp.2 (Nat.le_of_eq hRh.out.2.symm)) (by omega) hMp.1 (der_had (mem_take hju (Nat.lt_succ_self jj)))
    have hw2 := Lib.hid hw
    have hjo2 := Lib.hid (And.intro hjo (And.intro hji (And.intro hju (And.intro hku (And.intro hau (And.intro hdk (And.intro hitu hgu)))))))
    have cP2 := Lib.hid trivial
    have hd1 : Below Wb.heap.size Wb Wb.drew := drewN_below 1
    obtain ⟨W3, hwd⟩ : ∃ W3, Wb.drew = W3 := ⟨_, rfl⟩
    rw [hwd] at hd1
    rw [hw] at d1
    go_upto_region 7 with fail
    clear d0 d1 d2 d3
    have hr3 := (hd1.block p1 (Array.getElem?_eq_some_iff.1 hr2h.out).1).trans hr2h.out
    obtain ⟨d0, d1, d2, d3⟩ := it_cells hr3
    clear hr3
    have hMW := hMh.out.1.keep (hcV.out.trans (hd1.mono hcV.out.size))
    obtain ⟨bu, ou, k0, k1, hA1, k2⟩ := hMW.at_ hitu
    injection hA1 with hA1
    injection hA1 with e1 e2 _
    subst e1
    subst e2
    have k3 : W3.cell? ⟨q, 0, none⟩ = some (.pointer (some ⟨m, 0, none⟩)) := by
      obtain ⟨_, _, _, h, _⟩ := (hS2h.out.keep hd1).cook
      exact h.c0.1
    have hjl : (jj : Int) < (its.length : Int) := by
      have := (List.getElem?_eq_some_iff.1 hitu).1
      omega
    have cM : Calls Tryz.prog 37 #[.pointer (some ⟨q, 0, none⟩), .int .i64 itu.t, .int .i64 ((jj : Int) + 1)] W3 (fun r W4 => ∃ (j : Nat) (e' : List Mk) (F2 : Int → Option Int), r = .returned (.int .i64 j) ∧ CkS V1 Wb W4 m q bm Ls known sent (M - 1) 0 0 kl F e' F2 [(j, u)]) :=
      (hS2h.out.keep hd1).make_ hRh.out.1 (by decide) (Nat.le_trans hMp.2 (Nat.le_of_eq hRh.out.2.symm)) (Nat.le_sub_of_add_le (Nat.le_trans hMp.2 (Nat.le_of_eq hRh.out.2.symm))) hgu hmk
    replace cM := Lib.hid cM
    clear hd1 hMW
    rw [hjo] at d2
    clear hw hjo hji hju hku hau hitu hgu hMp hmk d0 d1 d3
    go_still_tail 16, (by kernel_rfl)
    change wpList _ _ _ _ _ Wb.drew
    rw [hwd]
    clear hwd
    go_upto_region 8 with (go_at_call 37; (with_reducible refine cM.out.mono ?_); rintro r w4 ⟨j2, e2, F2, rfl, h4⟩)
    have r4 := h4.stay p1 _ _ _ hr2h.out (by decide) (by decide)
    obtain ⟨-, d1, d2, -⟩ := it_cells r4
    rw [hw2.out] at d1
    rw [hjo2.out.1] at d2
    clear cM k0 k1 k2 k3 cP2
    go_upto_region 10 with fail
    obtain ⟨k9, a, b', s, args⟩ := u
    obtain ⟨hjo, hji, hju, hku, hau, hdk, hitu, hgu⟩ := hjo2.out
    have hku : k9 = 9 := hku
    have hau : args = [kk, t] := hau
    subst hku
    subst hau
    obtain ⟨hM, hS, hN, hnear⟩ := hMh.out
    obtain ⟨A4, c4, nb4, hc4, hn4⟩ := h4.cook
    have hgd := Lib.hid hS.good
    have hMW := hM.keep hc4.below
    obtain ⟨bu, ou, k0, k1, hA1, k2⟩ := hMW.at_ hitu
    injection hA1 with hA1
    injection hA1 with e1 e2 _
    subst e1
    subst e2
    obtain ⟨k3, -, -⟩ := hc4.c0
    have hcx := Lib.hid (fun W' (h : Below w4.heap.size w4 W') => (⟨(h.cell (p := ⟨q, 0, none⟩) (lt_of_cell k3)).trans k3, (h.cell (p := ⟨m, 0, none⟩) (lt_of_cell k0)).trans k0, (h.cell (p := ⟨m, 1, none⟩) (lt_of_cell k1)).trans k1, (h.cell (p := ⟨p1, 2, none⟩) (lt_of_cell d2)).trans d2, (h.cell (p := ⟨b1, o1 + jj * 4, none⟩) (lt_of_cell k2)).trans k2⟩ :
      W'.cell? ⟨q, 0, none⟩ = some (.pointer (some ⟨m, 0, none⟩)) ∧ W'.cell? ⟨m, 0, none⟩ = some (.pointer (some ⟨g, 0, none⟩)) ∧ W'.cell? ⟨m, 1, none⟩ = some (.slice (some ⟨b1, o1, none⟩) its.length c0) ∧ W'.cell? ⟨p1, 2, none⟩ = some (.int .i64 jj) ∧ W'.cell? ⟨b1, o1 + jj * 4, none⟩ = some (.int .i64 itu.t)))
    have cV := fun W' (h : Below w4.heap.size w4 W') => ((hS.keep hc4.below).keep h).vown3 itu.t (.mk 9 a b' s [kk, t]) hgu
    simp only [Tm.kind, Tm.a, Tm.b, Tm.s, Tm.args, List.length_cons, List.length_nil, Nat.zero_add, Nat.reduceAdd] at cV
    replace cV := Lib.hid cV
    have hjl : (jj : Int) < (its.length : Int) := by
      have := (List.getElem?_eq_some_iff.1 hitu).1
      omega
    have hgkt := hgd.out.clos _ (get_mem hgu) kk (by simp [Tm.args])
    obtain ⟨Mk1, hMk1, hMk2⟩ := Meas.before (ls := ls) (i := i) (u := kk) (Nat.le_trans (tsz_le kk) (hgd.out.size kk hgkt))
    have hmkk := hnear i Mk1 kk (Nat.le_trans hMk2 (Nat.le_of_eq hRh.out.2.symm)) (by omega) hMk1 hdk
    have hkk := Lib.hid (And.intro hmkk (And.intro hMk2 hjo2.out.2.1))
    have h4h := Lib.hid h4
    clear hM hS hN hnear hc4 hn4 hitu hgu hMW hgkt hMk1 hMk2 hmkk hjo hji hju hdk hjo2 h4 k0 k1 k2 k3 d1 d2 r4
    refine region_iw tbSj10 dsSj10 (vsSj10 q g m p1 b1 o1 i jj (its.length) c0 (itu.t) j2 it) (fun L T W => Below w4.heap.size w4 W ∧ ∃ (Av : Option Addr) (cv : Nat) (xs : List Nat) (pp : Nat), (L 19 = true → T.getD 82 undef = .tuple #[.agg (ndC 9 a b' s (.slice Av 2 cv)).toArray, .bool true] ∧ OwnR W w4.heap.size 1 33 (.slice Av 2 cv) (xs.map idv) ∧ xs.map (fun i => Ls[i]?) = [kk, t].map some) ∧ (L 20 = true → T.getD 62 undef = .tuple #[.agg (ndC 9 a b' s (.slice Av 2 cv)).toArray, .bool true]) ∧ (L 21 = true → T.getD 83 undef = .agg (ndC 9 a b' s (.slice Av 2 cv)).toArray) ∧ (L 23 = true → T.getD 7 undef = .pointer (some ⟨pp, 0, none⟩) ∧ w4.heap.size ≤ pp ∧ (L 24 = false → W.heap[pp]? = some (.cells zNd.toArray 52)) ∧ (L 24 = true → W.heap[pp]? = some (.cells (ndC 9 a b' s (.slice Av 2 cv)).toArray 52)))) rfl (by decide) (by kernel_rfl) ?hlt ?hstep ?hdone ?hstart
    case hstart => exact ⟨drewN_below 1, none, 0, [], 0, fun h => absurd h (inv_not (n := 26) (i := 19) (by decide)), fun h => absurd h (inv_not (n := 26) (i := 20) (by decide)), fun h => absurd h (inv_not (n := 26) (i := 21) (by decide)), fun h => absurd h (inv_not (n := 26) (i := 23) (by decide))⟩
    case hlt =>
      intro ix o ho
      have hi := (Array.getElem?_eq_some_iff.1 ho).1
      match ix, hi with
      | 0, _ => obtain rfl := Option.some.inj ho; decide
      | 1, _ => obtain rfl := Option.some.inj ho; decide
      | 2, _ => obtain rfl := Option.some.inj ho; decide
      | 3, _ => obtain rfl := Option.some.inj ho; decide
      | 4, _ => obtain rfl := Option.some.inj ho; decide
      | 5, _ => obtain rfl := Option.some.inj ho; decide
      | 6, _ => obtain rfl := Option.some.inj ho; decide
      | 7, _ => obtain rfl := Option.some.inj ho; decide
      | 8, _ => obtain rfl := Option.some.inj ho; decide
      | 9, _ => obtain rfl := Option.some.inj ho; decide
      | 10, _ => obtain rfl := Option.some.inj ho; decide
      | 11, _ => obtain rfl := Option.some.inj ho; decide
      | 12, _ => obtain rfl := Option.some.inj ho; decide
      | 13, _ => obtain rfl := Option.some.inj ho; decide
      | 14, _ => obtain rfl := Option.some.inj ho; decide
      | 15, _ => obtain rfl := Option.some.inj ho; decide
      | 16, _ => obtain rfl := Option.some.inj ho; decide
      | 17, _ => obtain rfl := Option.some.inj ho; decide
      | 18, _ => obtain rfl := Option.some.inj ho; decide
      | 19, _ => obtain rfl := Option.some.inj ho; decide
      | 20, _ => obtain rfl := Option.some.inj ho; decide
      | 21, _ => obtain rfl := Option.some.inj ho; decide
      | 22, _ => obtain rfl := Option.some.inj ho; decide
      | 23, _ => obtain rfl := Option.some.inj ho; decide
      | 24, _ => obtain rfl := Option.some.inj ho; decide
      | 25, _ => obtain rfl := Option.some.inj ho; decide
    case hstep =>
      intro T1 hE L T W ix o hF hW hc ho hLi hd K hK
      have hN : T1.size = 97 := by rw [hE]; rfl
      have f0 : T.getD 0 undef = .pointer (some ⟨q, 0, none⟩) := (hF.old 0 (by decide)).trans (by rw [hE]; rfl)
      have f5 : T.getD 5 undef = .pointer (some ⟨p1, 0, none⟩) := (hF.old 5 (by decide)).trans (by rw [hE]; rfl)
      clear hE
      replace hF := Lib.hid hF
      replace hW := Lib.hid hW
      replace hK := Lib.hid hK
      have hi := (List.getElem?_eq_some_iff.1 ho).1
      match ix, hi with
      | 0, _ =>
        obtain rfl := Option.some.inj ho
        clear hd ho hi hc hLi
        exact st_val (v := .pointer (some ⟨q, 0, none⟩)) (w' := W) (want_none rfl) (by unfold execOp; dsimp only [Act.eval]; simp only [f0]; go_simp) (hK.out _ _ (hF.out.put (k := 0) (s := 63) rfl (by decide) hN (by decide) (fun u_v hu => Option.some.inj (Option.some.inj (show some (some (.pointer (some ⟨q, 0, none⟩))) = some (some u_v) from hu))) (by dsimp only; rw [gd_ne (show 63 ≠ 82 by decide), gd_ne (show 63 ≠ 62 by decide), gd_ne (show 63 ≠ 83 by decide), gd_ne (show 63 ≠ 7 by decide)]; exact hW.out)))
      | 1, _ =>
        obtain rfl := Option.some.inj ho
        have l0 : L 0 = true := dep_of hd (n := 0) (by decide)
        have e63 : T.getD 63 undef = .pointer (some ⟨q, 0, none⟩) := hF.out.val 0 63 _ l0 rfl rfl
        clear hd ho hi hc hLi
        exact st_val (v := .pointer (some ⟨q, 0, none⟩)) (w' := W) (want_none rfl) (by unfold execOp; dsimp only [Act.eval]; simp only [e63]; go_simp) (hK.out _ _ (hF.out.put (k := 1) (s := 64) rfl (by decide) hN (by decide) (fun u_v hu => Option.some.inj (Option.some.inj (show some (some (.pointer (some ⟨q, 0, none⟩))) = some (some u_v) from hu))) (by dsimp only; rw [gd_ne (show 64 ≠ 82 by decide), gd_ne (show 64 ≠ 62 by decide), gd_ne (show 64 ≠ 83 by decide), gd_ne (show 64 ≠ 7 by decide)]; exact hW.out)))
      | 2, _ =>
        obtain rfl := Option.some.inj ho
        have l1 : L 1 = true := dep_of hd (n := 1) (by decide)
        have e64 : T.getD 64 undef = .pointer (some ⟨q, 0, none⟩) := hF.out.val 1 64 _ l1 rfl rfl
        clear hd ho hi hc hLi
        exact st_val (v := .pointer (some ⟨q, 0, none⟩)) (w' := W) (want_none rfl) (by unfold execOp; dsimp only [Act.eval]; simp only [e64]; go_simp) (hK.out _ _ (hF.out.put (k := 2) (s := 65) rfl (by decide) hN (by decide) (fun u_v hu => Option.some.inj (Option.some.inj (show some (some (.pointer (some ⟨q, 0, none⟩))) = some (some u_v) from hu))) (by dsimp only; rw [gd_ne (show 65 ≠ 82 by decide), gd_ne (show 65 ≠ 62 by decide), gd_ne (show 65 ≠ 83 by decide), gd_ne (show 65 ≠ 7 by decide)]; exact hW.out)))
      | 3, _ =>
        obtain rfl := Option.some.inj ho
        have l2 : L 2 = true := dep_of hd (n := 2) (by decide)
        have e65 : T.getD 65 undef = .pointer (some ⟨q, 0, none⟩) := hF.out.val 2 65 _ l2 rfl rfl
        have hb := hW.out.1
        have hcc := (hcx.out W hb).1
        clear hd ho hi hc hLi
        exact st_val (v := .pointer (some ⟨m, 0, none⟩)) (w' := W) (want_none rfl) (by unfold execOp; dsimp only [Act.eval]; simp only [e65]; go_simp) (hK.out _ _ (hF.out.put (k := 3) (s := 66) rfl (by decide) hN (by decide) (fun u_v hu => Option.some.inj (Option.some.inj (show some (some (.pointer (some ⟨m, 0, none⟩))) = some (some u_v) from hu))) (by dsimp only; rw [gd_ne (show 66 ≠ 82 by decide), gd_ne (show 66 ≠ 62 by decide), gd_ne (show 66 ≠ 83 by decide), gd_ne (show 66 ≠ 7 by decide)]; exact hW.out)))
      | 4, _ =>
        obtain rfl := Option.some.inj ho
        have l3 : L 3 = true := dep_of hd (n := 3) (by decide)
        have e66 : T.getD 66 undef = .pointer (some ⟨m, 0, none⟩) := hF.out.val 3 66 _ l3 rfl rfl
        clear hd ho hi hc hLi
        exact st_val (v := .pointer (some ⟨m, 0, none⟩)) (w' := W) (want_none rfl) (by unfold execOp; dsimp only [Act.eval]; simp only [e66]; go_simp) (hK.out _ _ (hF.out.put (k := 4) (s := 67) rfl (by decide) hN (by decide) (fun u_v hu => Option.some.inj (Option.some.inj (show some (some (.pointer (some ⟨m, 0, none⟩))) = some (some u_v) from hu))) (by dsimp only; rw [gd_ne (show 67 ≠ 82 by decide), gd_ne (show 67 ≠ 62 by decide), gd_ne (show 67 ≠ 83 by decide), gd_ne (show 67 ≠ 7 by decide)]; exact hW.out)))
      | 5, _ =>
        obtain rfl := Option.some.inj ho
        have l4 : L 4 = true := dep_of hd (n := 4) (by decide)
        have e67 : T.getD 67 undef = .pointer (some ⟨m, 0, none⟩) := hF.out.val 4 67 _ l4 rfl rfl
        clear hd ho hi hc hLi
        exact st_val (v := .pointer (some ⟨m, 0, none⟩)) (w' := W) (want_none rfl) (by unfold execOp; dsimp only [Act.eval]; simp only [e67]; go_simp) (hK.out _ _ (hF.out.put (k := 5) (s := 68) rfl (by decide) hN (by decide) (fun u_v hu => Option.some.inj (Option.some.inj (show some (some (.pointer (some ⟨m, 0, none⟩))) = some (some u_v) from hu))) (by dsimp only; rw [gd_ne (show 68 ≠ 82 by decide), gd_ne (show 68 ≠ 62 by decide), gd_ne (show 68 ≠ 83 by decide), gd_ne (show 68 ≠ 7 by decide)]; exact hW.out)))
      | 6, _ =>
        obtain rfl := Option.some.inj ho
        have l5 : L 5 = true := dep_of hd (n := 5) (by decide)
        have e68 : T.getD 68 undef = .pointer (some ⟨m, 0, none⟩) := hF.out.val 5 68 _ l5 rfl rfl
        have hb := hW.out.1
        have hcc := (hcx.out W hb).2.1
        clear hd ho hi hc hLi
        exact st_val (v := .pointer (some ⟨g, 0, none⟩)) (w' := W) (want_none rfl) (by unfold execOp; dsimp only [Act.eval]; simp only [e68]; go_simp) (hK.out _ _ (hF.out.put (k := 6) (s := 69) rfl (by decide) hN (by decide) (fun u_v hu => Option.some.inj (Option.some.inj (show some (some (.pointer (some ⟨g, 0, none⟩))) = some (some u_v) from hu))) (by dsimp only; rw [gd_ne (show 69 ≠ 82 by decide), gd_ne (show 69 ≠ 62 by decide), gd_ne (show 69 ≠ 83 by decide), gd_ne (show 69 ≠ 7 by decide)]; exact hW.out)))
      | 7, _ =>
        obtain rfl := Option.some.inj ho
        clear hd ho hi hc hLi
        exact st_val (v := .pointer (some ⟨q, 0, none⟩)) (w' := W) (want_none rfl) (by unfold execOp; dsimp only [Act.eval]; simp only [f0]; go_simp) (hK.out _ _ (hF.out.put (k := 7) (s := 70) rfl (by decide) hN (by decide) (fun u_v hu => Option.some.inj (Option.some.inj (show some (some (.pointer (some ⟨q, 0, none⟩))) = some (some u_v) from hu))) (by dsimp only; rw [gd_ne (show 70 ≠ 82 by decide), gd_ne (show 70 ≠ 62 by decide), gd_ne (show 70 ≠ 83 by decide), gd_ne (show 70 ≠ 7 by decide)]; exact hW.out)))
      | 8, _ =>
        obtain rfl := Option.some.inj ho
        have l7 : L 7 = true := dep_of hd (n := 7) (by decide)
        have e70 : T.getD 70 undef = .pointer (some ⟨q, 0, none⟩) := hF.out.val 7 70 _ l7 rfl rfl
        clear hd ho hi hc hLi
        exact st_val (v := .pointer (some ⟨q, 0, none⟩)) (w' := W) (want_none rfl) (by unfold execOp; dsimp only [Act.eval]; simp only [e70]; go_simp) (hK.out _ _ (hF.out.put (k := 8) (s := 71) rfl (by decide) hN (by decide) (fun u_v hu => Option.some.inj (Option.some.inj (show some (some (.pointer (some ⟨q, 0, none⟩))) = some (some u_v) from hu))) (by dsimp only; rw [gd_ne (show 71 ≠ 82 by decide), gd_ne (show 71 ≠ 62 by decide), gd_ne (show 71 ≠ 83 by decide), gd_ne (show 71 ≠ 7 by decide)]; exact hW.out)))
      | 9, _ =>
        obtain rfl := Option.some.inj ho
        have l8 : L 8 = true := dep_of hd (n := 8) (by decide)
        have e71 : T.getD 71 undef = .pointer (some ⟨q, 0, none⟩) := hF.out.val 8 71 _ l8 rfl rfl
        clear hd ho hi hc hLi
        exact st_val (v := .pointer (some ⟨q, 0, none⟩)) (w' := W) (want_none rfl) (by unfold execOp; dsimp only [Act.eval]; simp only [e71]; go_simp) (hK.out _ _ (hF.out.put (k := 9) (s := 72) rfl (by decide) hN (by decide) (fun u_v hu => Option.some.inj (Option.some.inj (show some (some (.pointer (some ⟨q, 0, none⟩))) = some (some u_v) from hu))) (by dsimp only; rw [gd_ne (show 72 ≠ 82 by decide), gd_ne (show 72 ≠ 62 by decide), gd_ne (show 72 ≠ 83 by decide), gd_ne (show 72 ≠ 7 by decide)]; exact hW.out)))
      | 10, _ =>
        obtain rfl := Option.some.inj ho
        have l9 : L 9 = true := dep_of hd (n := 9) (by decide)
        have e72 : T.getD 72 undef = .pointer (some ⟨q, 0, none⟩) := hF.out.val 9 72 _ l9 rfl rfl
        have hb := hW.out.1
        have hcc := (hcx.out W hb).1
        clear hd ho hi hc hLi
        exact st_val (v := .pointer (some ⟨m, 0, none⟩)) (w' := W) (want_none rfl) (by unfold execOp; dsimp only [Act.eval]; simp only [e72]; go_simp) (hK.out _ _ (hF.out.put (k := 10) (s := 73) rfl (by decide) hN (by decide) (fun u_v hu => Option.some.inj (Option.some.inj (show some (some (.pointer (some ⟨m, 0, none⟩))) = some (some u_v) from hu))) (by dsimp only; rw [gd_ne (show 73 ≠ 82 by decide), gd_ne (show 73 ≠ 62 by decide), gd_ne (show 73 ≠ 83 by decide), gd_ne (show 73 ≠ 7 by decide)]; exact hW.out)))
      | 11, _ =>
        obtain rfl := Option.some.inj ho
        have l10 : L 10 = true := dep_of hd (n := 10) (by decide)
        have e73 : T.getD 73 undef = .pointer (some ⟨m, 0, none⟩) := hF.out.val 10 73 _ l10 rfl rfl
        clear hd ho hi hc hLi
        exact st_val (v := .pointer (some ⟨m, 0, none⟩)) (w' := W) (want_none rfl) (by unfold execOp; dsimp only [Act.eval]; simp only [e73]; go_simp) (hK.out _ _ (hF.out.put (k := 11) (s := 74) rfl (by decide) hN (by decide) (fun u_v hu => Option.some.inj (Option.some.inj (show some (some (.pointer (some ⟨m, 0, none⟩))) = some (some u_v) from hu))) (by dsimp only; rw [gd_ne (show 74 ≠ 82 by decide), gd_ne (show 74 ≠ 62 by decide), gd_ne (show 74 ≠ 83 by decide), gd_ne (show 74 ≠ 7 by decide)]; exact hW.out)))
      | 12, _ =>
        obtain rfl := Option.some.inj ho
        have l11 : L 11 = true := dep_of hd (n := 11) (by decide)
        have e74 : T.getD 74 undef = .pointer (some ⟨m, 0, none⟩) := hF.out.val 11 74 _ l11 rfl rfl
        clear hd ho hi hc hLi
        exact st_val (v := .pointer (some ⟨m, 1, none⟩)) (w' := W) (want_none rfl) (by unfold execOp; dsimp only [Act.eval]; simp only [e74]; go_simp) (hK.out _ _ (hF.out.put (k := 12) (s := 75) rfl (by decide) hN (by decide) (fun u_v hu => Option.some.inj (Option.some.inj (show some (some (.pointer (some ⟨m, 1, none⟩))) = some (some u_v) from hu))) (by dsimp only; rw [gd_ne (show 75 ≠ 82 by decide), gd_ne (show 75 ≠ 62 by decide), gd_ne (show 75 ≠ 83 by decide), gd_ne (show 75 ≠ 7 by decide)]; exact hW.out)))
      | 13, _ =>
        obtain rfl := Option.some.inj ho
        have l12 : L 12 = true := dep_of hd (n := 12) (by decide)
        have e75 : T.getD 75 undef = .pointer (some ⟨m, 1, none⟩) := hF.out.val 12 75 _ l12 rfl rfl
        have hb := hW.out.1
        have hcc := (hcx.out W hb).2.2.1
        clear hd ho hi hc hLi
        exact st_val (v := .slice (some ⟨b1, o1, none⟩) (its.length) c0) (w' := W) (want_none rfl) (by unfold execOp; dsimp only [Act.eval]; simp only [e75]; go_simp) (hK.out _ _ (hF.out.put (k := 13) (s := 76) rfl (by decide) hN (by decide) (fun u_v hu => Option.some.inj (Option.some.inj (show some (some (.slice (some ⟨b1, o1, none⟩) (its.length) c0)) = some (some u_v) from hu))) (by dsimp only; rw [gd_ne (show 76 ≠ 82 by decide), gd_ne (show 76 ≠ 62 by decide), gd_ne (show 76 ≠ 83 by decide), gd_ne (show 76 ≠ 7 by decide)]; exact hW.out)))
      | 14, _ =>
        obtain rfl := Option.some.inj ho
        clear hd ho hi hc hLi
        exact st_val (v := .pointer (some ⟨p1, 2, none⟩)) (w' := W) (want_none rfl) (by unfold execOp; dsimp only [Act.eval]; simp only [f5]; go_simp) (hK.out _ _ (hF.out.put (k := 14) (s := 77) rfl (by decide) hN (by decide) (fun u_v hu => Option.some.inj (Option.some.inj (show some (some (.pointer (some ⟨p1, 2, none⟩))) = some (some u_v) from hu))) (by dsimp only; rw [gd_ne (show 77 ≠ 82 by decide), gd_ne (show 77 ≠ 62 by decide), gd_ne (show 77 ≠ 83 by decide), gd_ne (show 77 ≠ 7 by decide)]; exact hW.out)))
      | 15, _ =>
        obtain rfl := Option.some.inj ho
        have l14 : L 14 = true := dep_of hd (n := 14) (by decide)
        have e77 : T.getD 77 undef = .pointer (some ⟨p1, 2, none⟩) := hF.out.val 14 77 _ l14 rfl rfl
        have hb := hW.out.1
        have hcc := (hcx.out W hb).2.2.2.1
        clear hd ho hi hc hLi
        exact st_val (v := .int .i64 jj) (w' := W) (want_none rfl) (by unfold execOp; dsimp only [Act.eval]; simp only [e77]; go_simp) (hK.out _ _ (hF.out.put (k := 15) (s := 78) rfl (by decide) hN (by decide) (fun u_v hu => Option.some.inj (Option.some.inj (show some (some (.int .i64 jj)) = some (some u_v) from hu))) (by dsimp only; rw [gd_ne (show 78 ≠ 82 by decide), gd_ne (show 78 ≠ 62 by decide), gd_ne (show 78 ≠ 83 by decide), gd_ne (show 78 ≠ 7 by decide)]; exact hW.out)))
      | 16, _ =>
        obtain rfl := Option.some.inj ho
        have l13 : L 13 = true := dep_of hd (n := 13) (by decide)
        have e76 : T.getD 76 undef = .slice (some ⟨b1, o1, none⟩) (its.length) c0 := hF.out.val 13 76 _ l13 rfl rfl
        have l15 : L 15 = true := dep_of hd (n := 15) (by decide)
        have e78 : T.getD 78 undef = .int .i64 jj := hF.out.val 15 78 _ l15 rfl rfl
        clear hd ho hi hc hLi
        exact st_val (v := .pointer (some ⟨b1, o1 + jj * 4, none⟩)) (w' := W) (want_none rfl) (by unfold execOp; dsimp only [Act.eval]; simp only [e76, e78]; go_simp) (hK.out _ _ (hF.out.put (k := 16) (s := 79) rfl (by decide) hN (by decide) (fun u_v hu => Option.some.inj (Option.some.inj (show some (some (.pointer (some ⟨b1, o1 + jj * 4, none⟩))) = some (some u_v) from hu))) (by dsimp only; rw [gd_ne (show 79 ≠ 82 by decide), gd_ne (show 79 ≠ 62 by decide), gd_ne (show 79 ≠ 83 by decide), gd_ne (show 79 ≠ 7 by decide)]; exact hW.out)))
      | 17, _ =>
        obtain rfl := Option.some.inj ho
        have l16 : L 16 = true := dep_of hd (n := 16) (by decide)
        have e79 : T.getD 79 undef = .pointer (some ⟨b1, o1 + jj * 4, none⟩) := hF.out.val 16 79 _ l16 rfl rfl
        clear hd ho hi hc hLi
        exact st_val (v := .pointer (some ⟨b1, o1 + jj * 4, none⟩)) (w' := W) (want_none rfl) (by unfold execOp; dsimp only [Act.eval]; simp only [e79]; go_simp) (hK.out _ _ (hF.out.put (k := 17) (s := 80) rfl (by decide) hN (by decide) (fun u_v hu => Option.some.inj (Option.some.inj (show some (some (.pointer (some ⟨b1, o1 + jj * 4, none⟩))) = some (some u_v) from hu))) (by dsimp only; rw [gd_ne (show 80 ≠ 82 by decide), gd_ne (show 80 ≠ 62 by decide), gd_ne (show 80 ≠ 83 by decide), gd_ne (show 80 ≠ 7 by decide)]; exact hW.out)))
      | 18, _ =>
        obtain rfl := Option.some.inj ho
        have l17 : L 17 = true := dep_of hd (n := 17) (by decide)
        have e80 : T.getD 80 undef = .pointer (some ⟨b1, o1 + jj * 4, none⟩) := hF.out.val 17 80 _ l17 rfl rfl
        have hb := hW.out.1
        have hcc := (hcx.out W hb).2.2.2.2
        clear hd ho hi hc hLi
        exact st_val (v := .int .i64 (itu.t)) (w' := W) (want_none rfl) (by unfold execOp; dsimp only [Act.eval]; simp only [e80]; go_simp) (hK.out _ _ (hF.out.put (k := 18) (s := 81) rfl (by decide) hN (by decide) (fun u_v hu => Option.some.inj (Option.some.inj (show some (some (.int .i64 (itu.t))) = some (some u_v) from hu))) (by dsimp only; rw [gd_ne (show 81 ≠ 82 by decide), gd_ne (show 81 ≠ 62 by decide), gd_ne (show 81 ≠ 83 by decide), gd_ne (show 81 ≠ 7 by decide)]; exact hW.out)))
      | 19, _ =>
        obtain rfl := Option.some.inj ho
        have l6 : L 6 = true := dep_of hd (n := 6) (by decide)
        have e69 : T.getD 69 undef = .pointer (some ⟨g, 0, none⟩) := hF.out.val 6 69 _ l6 rfl rfl
        have l18 : L 18 = true := dep_of hd (n := 18) (by decide)
        have e81 : T.getD 81 undef = .int .i64 (itu.t) := hF.out.val 18 81 _ l18 rfl rfl
        have n20 : ¬ L 20 = true := fun h => by have := hc 20 19 h (by decide); rw [hLi] at this; cases this
        have n21 : ¬ L 21 = true := fun h => n20 (hc 21 20 h (by decide))
        have n24 : ¬ L 24 = true := fun h => n21 (hc 24 21 h (by decide))
        have hb := hW.out.1
        obtain ⟨Av, cv, xs, pp, hI⟩ := hW.out.2
        replace hI := Lib.hid hI
        have cc := Lib.hid (cV.out W hb)
        clear hd ho hi hc
        refine st_call (want_none rfl) (by unfold execOp; go_simp) cc.out ?_
        rintro r w3 ⟨Av2, cv2, xs2, rfl, hO2, hx2, hb4⟩
        exact ⟨_, rfl, hK.out _ _ (hF.out.put (k := 19) (s := 82) rfl (by decide) hN (by decide) (fun u hu => by cases hu) ⟨hb.trans (hb4.mono hb.size), Av2, cv2, xs2, pp, fun _ => ⟨gd_eq (by rw [hF.out.size, hN]; decide), OwnR.low hO2 hb.size, hx2⟩, fun h => absurd h n20, fun h => absurd h n21, fun h => (by obtain ⟨q1, q2, q3, q4⟩ := hI.out.2.2.2 h; exact ⟨(gd_ne (show 82 ≠ 7 by decide)).trans q1, q2, fun h17 => (hb4.block pp (Array.getElem?_eq_some_iff.1 (q3 h17)).1).trans (q3 h17), fun h17 => absurd h17 n24⟩)⟩)⟩
      | 20, _ =>
        obtain rfl := Option.some.inj ho
        have l19 : L 19 = true := dep_of hd (n := 19) (by decide)
        have n21 : ¬ L 21 = true := fun h => by have := hc 21 20 h (by decide); rw [hLi] at this; cases this
        have n24 : ¬ L 24 = true := fun h => n21 (hc 24 21 h (by decide))
        have hb := hW.out.1
        obtain ⟨Av, cv, xs, pp, hI⟩ := hW.out.2
        replace hI := Lib.hid hI
        have eC := (hI.out.1 l19).1
        clear hd ho hi hc
        exact st_val (v := _) (w' := W) (want_none rfl) (by unfold execOp; dsimp only [Act.eval]; simp only [eC]; go_simp) (hK.out _ _ (hF.out.put (k := 20) (s := 62) rfl (by decide) hN (by decide) (fun u hu => by cases hu) ⟨hb, Av, cv, xs, pp, fun _ => ⟨(gd_ne (show 62 ≠ 82 by decide)).trans eC, (hI.out.1 l19).2⟩, fun _ => gd_eq (by rw [hF.out.size, hN]; decide), fun h => absurd h n21, fun h => (by obtain ⟨q1, q2⟩ := hI.out.2.2.2 h; exact ⟨(gd_ne (show 62 ≠ 7 by decide)).trans q1, q2⟩)⟩))
      | 21, _ =>
        obtain rfl := Option.some.inj ho
        have l20 : L 20 = true := dep_of hd (n := 20) (by decide)
        have n24 : ¬ L 24 = true := fun h => by have := hc 24 21 h (by decide); rw [hLi] at this; cases this
        have hb := hW.out.1
        obtain ⟨Av, cv, xs, pp, hI⟩ := hW.out.2
        replace hI := Lib.hid hI
        have eM := hI.out.2.1 l20
        clear hd ho hi hc
        exact st_val (v := _) (w' := W) (want_none rfl) (by unfold execOp; dsimp only [Act.eval]; simp only [eM]; go_simp) (hK.out _ _ (hF.out.put (k := 21) (s := 83) rfl (by decide) hN (by decide) (fun u hu => by cases hu) ⟨hb, Av, cv, xs, pp, fun h => (by obtain ⟨q1, q2⟩ := hI.out.1 h; exact ⟨(gd_ne (show 83 ≠ 82 by decide)).trans q1, q2⟩), fun _ => (gd_ne (show 83 ≠ 62 by decide)).trans eM, fun _ => gd_eq (by rw [hF.out.size, hN]; decide), fun h => (by obtain ⟨q1, q2⟩ := hI.out.2.2.2 h; exact ⟨(gd_ne (show 83 ≠ 7 by decide)).trans q1, q2⟩)⟩))
      | 22, _ =>
        obtain rfl := Option.some.inj ho
        have l20 : L 20 = true := dep_of hd (n := 20) (by decide)
        have hb := hW.out.1
        obtain ⟨Av, cv, xs, pp, hI⟩ := hW.out.2
        replace hI := Lib.hid hI
        have eM := hI.out.2.1 l20
        clear hd ho hi hc hLi
        exact st_val (v := .bool true) (w' := W) (want_none rfl) (by unfold execOp; dsimp only [Act.eval]; simp only [eM]; go_simp) (hK.out _ _ (hF.out.put (k := 22) (s := 84) rfl (by decide) hN (by decide) (fun u_v hu => Option.some.inj (Option.some.inj (show some (some (.bool true)) = some (some u_v) from hu))) (by dsimp only; rw [gd_ne (show 84 ≠ 82 by decide), gd_ne (show 84 ≠ 62 by decide), gd_ne (show 84 ≠ 83 by decide), gd_ne (show 84 ≠ 7 by decide)]; exact hW.out)))
      | 23, _ =>
        obtain rfl := Option.some.inj ho
        have n24 : ¬ L 24 = true := fun h => by have := hc 24 23 h (by decide); rw [hLi] at this; cases this
        have hb := hW.out.1
        obtain ⟨Av, cv, xs, pp, hI⟩ := hW.out.2
        replace hI := Lib.hid hI
        have hbn := below_new W (.cells zNd.toArray 52)
        clear hd ho hi hc
        exact st_val (v := .pointer (some ⟨W.heap.size, 0, none⟩)) (w' := W.alloc (.cells zNd.toArray 52)) (want_none rfl) (run_alloc_ 52 rfl _ (by kernel_rfl)) (hK.out _ _ (hF.out.put (k := 23) (s := 7) rfl (by decide) hN (by decide) (fun u hu => by cases hu) ⟨hb.trans (hbn.mono hb.size), Av, cv, xs, W.heap.size, fun h => (by obtain ⟨q1, q2, q3⟩ := hI.out.1 h; exact ⟨(gd_ne (show 7 ≠ 82 by decide)).trans q1, OwnR.keep q2 hbn, q3⟩), fun h => (gd_ne (show 7 ≠ 62 by decide)).trans (hI.out.2.1 h), fun h => (gd_ne (show 7 ≠ 83 by decide)).trans (hI.out.2.2.1 h), fun _ => ⟨gd_eq (by rw [hF.out.size, hN]; decide), hb.size, fun _ => heap_new W _, fun h17 => absurd h17 n24⟩⟩))
      | 24, _ =>
        obtain rfl := Option.some.inj ho
        have l23 : L 23 = true := dep_of hd (n := 23) (by decide)
        have l21 : L 21 = true := dep_of hd (n := 21) (by decide)
        have hb := hW.out.1
        obtain ⟨Av, cv, xs, pp, hI⟩ := hW.out.2
        replace hI := Lib.hid hI
        obtain ⟨q1, q2, q3, q4⟩ := hI.out.2.2.2 l23
        have eX := hI.out.2.2.1 l21
        have q5 := q3 hLi
        have hst : Stay W (W.setRow pp (ndC 9 a b' s (.slice Av 2 cv)).toArray) := fun r cur t fr hc' a1 a2 a3 => (hsetRow_off (show r ≠ pp from fun e => by subst e; rw [q5] at hc'; injection hc' with hc'; injection hc' with _ hc' _; exact a2 hc'.symm) _).trans hc'
        clear hd ho hi hc
        exact st_do (w' := W.setRow pp (ndC 9 a b' s (.slice Av 2 cv)).toArray) (want_none rfl) (run_store_ 52 (.tmp 7) (.tmp 83) rfl pp _ (show T.getD 7 undef = _ from q1) (show T.getD 83 undef = _ from eX) _ _ q5 (by kernel_rfl) rfl nd_all) (hK.out _ _ (hF.out.pass (k := 24) rfl ⟨below_setRow_ hb q2 _, Av, cv, xs, pp, fun h => (by obtain ⟨p1, p2, p3⟩ := hI.out.1 h; exact ⟨p1, OwnR.stay p2 hst (by decide) (by decide) (by decide), p3⟩), hI.out.2.1, hI.out.2.2.1, fun _ => ⟨q1, q2, fun h => absurd h (by simp), fun _ => hsetRow _ _ _ _ _ _ q5⟩⟩))
      | 25, _ =>
        obtain rfl := Option.some.inj ho
        have l22 : L 22 = true := dep_of hd (n := 22) (by decide)
        have e84 : T.getD 84 undef = .bool true := hF.out.val 22 84 _ l22 rfl rfl
        clear hd ho hi hc hLi
        exact st_val (v := .bool true) (w' := W) (want_none rfl) (by unfold execOp; dsimp only [Act.eval]; simp only [e84]; go_simp) (hK.out _ _ (hF.out.put (k := 25) (s := 8) rfl (by decide) hN (by decide) (fun u_v hu => Option.some.inj (Option.some.inj (show some (some (.bool true)) = some (some u_v) from hu))) (by dsimp only; rw [gd_ne (show 8 ≠ 82 by decide), gd_ne (show 8 ≠ 62 by decide), gd_ne (show 8 ≠ 83 by decide), gd_ne (show 8 ≠ 7 by decide)]; exact hW.out)))
    case hdone =>
      intro L T W2 hF hW hall
      obtain ⟨hb6, Av, cv, xs, pp, hI⟩ := hW
      obtain ⟨eC, hO6, hx6⟩ := hI.1 (hall 19 (by decide))
      have eM := hI.2.1 (hall 20 (by decide))
      have eX := hI.2.2.1 (hall 21 (by decide))
      obtain ⟨eB, hp6, -, hr6⟩ := hI.2.2.2 (hall 23 (by decide))
      replace hr6 := hr6 (hall 24 (by decide))
      clear hI
      have hT : T = #[.pointer (some ⟨q, 0, none⟩), .int .i64 i, undef, undef, .int .i64 0, .pointer (some ⟨p1, 0, none⟩), .int .i64 j2, .pointer (some ⟨pp, 0, none⟩), .bool true, undef, .pointer (some ⟨q, 0, none⟩), .pointer (some ⟨q, 0, none⟩), .pointer (some ⟨q, 0, none⟩), .pointer (some ⟨m, 0, none⟩), .pointer (some ⟨m, 0, none⟩), .pointer (some ⟨m, 1, none⟩), .slice (some ⟨b1, o1, none⟩) (its.length) c0, .int .i64 i, .pointer (some ⟨b1, o1 + i * 4, none⟩), .agg it.row.toArray, .pointer (some ⟨p1, 1, none⟩), .int .i64 3, .bool false, .bool false, undef, undef, undef, undef, undef, .bool false, .bool false, undef, undef, undef, undef, undef, .pointer (some ⟨q, 0, none⟩), .pointer (some ⟨q, 0, none⟩), .pointer (some ⟨q, 0, none⟩), .pointer (some ⟨q, 0, none⟩), .pointer (some ⟨m, 0, none⟩), .pointer (some ⟨m, 0, none⟩), .pointer (some ⟨m, 1, none⟩), .slice (some ⟨b1, o1, none⟩) (its.length) c0, .pointer (some ⟨p1, 2, none⟩), .int .i64 jj, .pointer (some ⟨b1, o1 + jj * 4, none⟩), .pointer (some ⟨b1, o1 + jj * 4, none⟩), .int .i64 (itu.t), .pointer (some ⟨p1, 2, none⟩), .int .i64 jj, .int .i64 (IntKind.i64.wrap (jj + 1)), .int .i64 j2, .pointer (some ⟨p1, 1, none⟩), .int .i64 3, .bool false, undef, undef, undef, undef, undef, undef, .tuple #[.agg (ndC 9 a b' s (.slice Av 2 cv)).toArray, .bool true], .pointer (some ⟨q, 0, none⟩), .pointer (some ⟨q, 0, none⟩), .pointer (some ⟨q, 0, none⟩), .pointer (some ⟨m, 0, none⟩), .pointer (some ⟨m, 0, none⟩), .pointer (some ⟨m, 0, none⟩), .pointer (some ⟨g, 0, none⟩), .pointer (some ⟨q, 0, none⟩), .pointer (some ⟨q, 0, none⟩), .pointer (some ⟨q, 0, none⟩), .pointer (some ⟨m, 0, none⟩), .pointer (some ⟨m, 0, none⟩), .pointer (some ⟨m, 1, none⟩), .slice (some ⟨b1, o1, none⟩) (its.length) c0, .pointer (some ⟨p1, 2, none⟩), .int .i64 jj, .pointer (some ⟨b1, o1 + jj * 4, none⟩), .pointer (some ⟨b1, o1 + jj * 4, none⟩), .int .i64 (itu.t), .tuple #[.agg (ndC 9 a b' s (.slice Av 2 cv)).toArray, .bool true], .agg (ndC 9 a b' s (.slice Av 2 cv)).toArray, .bool true, undef, undef, undef, undef, undef, undef, undef, undef, undef, undef, undef, undef] := (hF.fin [(63, .pointer (some ⟨q, 0, none⟩)), (64, .pointer (some ⟨q, 0, none⟩)), (65, .pointer (some ⟨q, 0, none⟩)), (66, .pointer (some ⟨m, 0, none⟩)), (67, .pointer (some ⟨m, 0, none⟩)), (68, .pointer (some ⟨m, 0, none⟩)), (69, .pointer (some ⟨g, 0, none⟩)), (70, .pointer (some ⟨q, 0, none⟩)), (71, .pointer (some ⟨q, 0, none⟩)), (72, .pointer (some ⟨q, 0, none⟩)), (73, .pointer (some ⟨m, 0, none⟩)), (74, .pointer (some ⟨m, 0, none⟩)), (75, .pointer (some ⟨m, 1, none⟩)), (76, .slice (some ⟨b1, o1, none⟩) (its.length) c0), (77, .pointer (some ⟨p1, 2, none⟩)), (78, .int .i64 jj), (79, .pointer (some ⟨b1, o1 + jj * 4, none⟩)), (80, .pointer (some ⟨b1, o1 + jj * 4, none⟩)), (81, .int .i64 (itu.t)), (82, .tuple #[.agg (ndC 9 a b' s (.slice Av 2 cv)).toArray, .bool true]), (62, .tuple #[.agg (ndC 9 a b' s (.slice Av 2 cv)).toArray, .bool true]), (83, .agg (ndC 9 a b' s (.slice Av 2 cv)).toArray), (84, .bool true), (7, .pointer (some ⟨pp, 0, none⟩)), (8, .bool true)] [63, 64, 65, 66, 67, 68, 69, 70, 71, 72, 73, 74, 75, 76, 77, 78, 79, 80, 81, 82, 62, 83, 84, 7, 8] rfl (List.forall_mem_cons.2 ⟨hF.val 0 _ _ (hall 0 (show 0 < 26 by decide)) rfl rfl, (List.forall_mem_cons.2 ⟨hF.val 1 _ _ (hall 1 (show 1 < 26 by decide)) rfl rfl, (List.forall_mem_cons.2 ⟨hF.val 2 _ _ (hall 2 (show 2 < 26 by decide)) rfl rfl, (List.forall_mem_cons.2 ⟨hF.val 3 _ _ (hall 3 (show 3 < 26 by decide)) rfl rfl, (List.forall_mem_cons.2 ⟨hF.val 4 _ _ (hall 4 (show 4 < 26 by decide)) rfl rfl, (List.forall_mem_cons.2 ⟨hF.val 5 _ _ (hall 5 (show 5 < 26 by decide)) rfl rfl, (List.forall_mem_cons.2 ⟨hF.val 6 _ _ (hall 6 (show 6 < 26 by decide)) rfl rfl, (List.forall_mem_cons.2 ⟨hF.val 7 _ _ (hall 7 (show 7 < 26 by decide)) rfl rfl, (List.forall_mem_cons.2 ⟨hF.val 8 _ _ (hall 8 (show 8 < 26 by decide)) rfl rfl, (List.forall_mem_cons.2 ⟨hF.val 9 _ _ (hall 9 (show 9 < 26 by decide)) rfl rfl, (List.forall_mem_cons.2 ⟨hF.val 10 _ _ (hall 10 (show 10 < 26 by decide)) rfl rfl, (List.forall_mem_cons.2 ⟨hF.val 11 _ _ (hall 11 (show 11 < 26 by decide)) rfl rfl, (List.forall_mem_cons.2 ⟨hF.val 12 _ _ (hall 12 (show 12 < 26 by decide)) rfl rfl, (List.forall_mem_cons.2 ⟨hF.val 13 _ _ (hall 13 (show 13 < 26 by decide)) rfl rfl, (List.forall_mem_cons.2 ⟨hF.val 14 _ _ (hall 14 (show 14 < 26 by decide)) rfl rfl, (List.forall_mem_cons.2 ⟨hF.val 15 _ _ (hall 15 (show 15 < 26 by decide)) rfl rfl, (List.forall_mem_cons.2 ⟨hF.val 16 _ _ (hall 16 (show 16 < 26 by decide)) rfl rfl, (List.forall_mem_cons.2 ⟨hF.val 17 _ _ (hall 17 (show 17 < 26 by decide)) rfl rfl, (List.forall_mem_cons.2 ⟨hF.val 18 _ _ (hall 18 (show 18 < 26 by decide)) rfl rfl, (List.forall_mem_cons.2 ⟨eC, (List.forall_mem_cons.2 ⟨eM, (List.forall_mem_cons.2 ⟨eX, (List.forall_mem_cons.2 ⟨hF.val 22 _ _ (hall 22 (show 22 < 26 by decide)) rfl rfl, (List.forall_mem_cons.2 ⟨eB, (List.forall_mem_cons.2 ⟨hF.val 25 _ _ (hall 25 (show 25 < 26 by decide)) rfl rfl, (fun _ h => absurd h List.not_mem_nil)⟩)⟩)⟩)⟩)⟩)⟩)⟩)⟩)⟩)⟩)⟩)⟩)⟩)⟩)⟩)⟩)⟩)⟩)⟩)⟩)⟩)⟩)⟩)⟩)⟩) (by decide)).trans (by kernel_rfl)
      clear hF hall
      subst hT
      obtain ⟨-, -, -, -, d4⟩ := box_cells hr6
      have hb6h := Lib.hid hb6
      obtain ⟨oz, z1, z2, z3, z4⟩ := zip_named hx6
      have hOD := Lib.hid (own_zip hO6 z1)
      have hz := Lib.hid (And.intro z2 z3)
      obtain ⟨zk, hzk, hgk⟩ := zip_at (j := 0) hz.out.1 hz.out.2 rfl
      obtain ⟨bb, off, rfl, x0⟩ := own_atM hOD.out (StayM.refl W2) hzk
      rw [Nat.add_zero] at x0
      have cM2 := Lib.hid ((h4h.out.keep hb6).make_ hRh.out.1 (by decide) (Nat.le_trans hkk.out.2.1 (Nat.le_of_eq hRh.out.2.symm)) (Nat.le_sub_of_add_le (Nat.le_trans hkk.out.2.1 (Nat.le_of_eq hRh.out.2.symm))) hgk hkk.out.1)
      have cP := Lib.hid (show ∀ (W' : World) (j3 : Nat) (e3 : List Mk) (F3 : Int → Option Int), CkS V1 Wb W' m q bm Ls known sent (M - 1) 0 0 kl F e3 F3 [(j3, kk), (j2, .mk 9 a b' s [kk, t])] →
          Calls Tryz.prog 103 #[.pointer (some ⟨q, 0, none⟩), .agg #[.int .i64 11, .int .i64 j2, .int .i64 j3, .int .i64 0, .string ⟨#[]⟩]] W' (fun r W3 => CkR V1 wr m q bm Ls known sent (M - 1) 34 1 kl F t r W3 ∧ ∃ j : Nat, r = .returned (.int .i64 j)) from fun W' j3 e3 F3 h =>
        Calls.mono (h.put_ hRh.out.1 hM1 (by decide) ⟨11, j2, j3, 0, []⟩ t (fun made hm => st_open (hm _ (List.mem_cons_of_mem _ List.mem_cons_self)) (hm _ List.mem_cons_self) rfl rfl) hkh.out.1 hkh.out.2 (by simp)) fun (r : Ending) (W3 : World) hr => by
          obtain ⟨j, e, rfl, h2⟩ := hr
          exact ⟨hfrom.out _ _ (h2.done (by decide) (by simp)), j, rfl⟩)
      clear hb6 hr6 hO6 hx6 hp6 eC eM eX eB hcx cV z1 z2 z3 z4 hzk hgk hjl
      go_wp2_with (first
        | (go_at_call 37; (with_reducible refine cM2.out.mono ?_); rintro r w7 ⟨j3, e3, F3, rfl, h7⟩
           have cP7 := Lib.hid (cP.out w7 j3 e3 F3 h7)
           clear h7)
        | (go_at_call 103; (with_reducible refine cP7.out.mono ?_); rintro r w8 ⟨hfin, j, rfl⟩; replace hfin := Lib.hid hfin))
      go_ret
      exact hfin.out
end Go.Proofs.YtphnakdgpilcmaaGreatDoor
