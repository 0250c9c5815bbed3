/- AgZ0, AgZk7, AgZk0, joined. -/
import Derived.Test.YtbokdbppjiegjaaDoorAgX
import Derived.Test.YtbokdbppjiegjaaDoorAgO
import Derived.Deep.DeepCutAuto
import Derived.BigQuiet
import Derived.Deep.QuietTactic
import Derived.IntWalk
namespace Go.Proofs.YtbokdbppjiegjaaDoor
section
open Go.RowKit

theorem any_countP {α : Type} (p : α → Bool) (l : List α) : l.any p = decide (0 < l.countP p) := by
  rw [Bool.eq_iff_iff, List.any_eq_true, decide_eq_true_iff, List.countP_pos_iff]
theorem count_two (B : List Ev) (ses : Int) : B.countP (ofSes ses) = B.countP (isKS 1 ses) + B.countP (isKS 2 ses) := by
  induction B with
  | nil => rfl
  | cons e B ih =>
    simp only [List.countP_cons, ih]
    have : (if ofSes ses e then 1 else 0) = (if isKS 1 ses e then 1 else 0) + (if isKS 2 ses e then 1 else 0) := by
      unfold ofSes isExch isKS
      cases h2 : (e.ses == ses) <;> cases h1 : (e.kind == 1) <;> cases h3 : (e.kind == 2) <;> simp_all
    omega
theorem ruleX_1 {es : List Ev} {k : Nat} {x : Ev} (h : b1 (es.take k) x = false) : ruleX es k x = 1 := by unfold ruleX; rw [h]; rfl
theorem ruleX_2 {es : List Ev} {k : Nat} {x : Ev} (h1 : b1 (es.take k) x = true) (h : b2 (es.take k) x = false) : ruleX es k x = 2 := by unfold ruleX; rw [h1, h]; rfl
theorem ruleX_3 {es : List Ev} {k : Nat} {x : Ev} (h1 : b1 (es.take k) x = true) (h2 : b2 (es.take k) x = true) (h : b3 (es.take k) x = false) : ruleX es k x = 3 := by unfold ruleX; rw [h1, h2, h]; rfl
theorem ruleX_4 {es : List Ev} {k : Nat} {x : Ev} (h1 : b1 (es.take k) x = true) (h2 : b2 (es.take k) x = true) (h3 : b3 (es.take k) x = true) (h : b4 (es.take k) x = false) : ruleX es k x = 4 := by unfold ruleX; rw [h1, h2, h3, h]; rfl
theorem ruleX_5 {es : List Ev} {k : Nat} {x : Ev} (h1 : b1 (es.take k) x = true) (h2 : b2 (es.take k) x = true) (h3 : b3 (es.take k) x = true) (h4 : b4 (es.take k) x = true) (h : b5 (es.take k) x = false) : ruleX es k x = 5 := by unfold ruleX; rw [h1, h2, h3, h4, h]; rfl
theorem ruleX_6 {es : List Ev} {k : Nat} {x : Ev} (h1 : b1 (es.take k) x = true) (h2 : b2 (es.take k) x = true) (h3 : b3 (es.take k) x = true) (h4 : b4 (es.take k) x = true) (h5 : b5 (es.take k) x = true) (h : b6 (es.take k) x = false) : ruleX es k x = 6 := by unfold ruleX; rw [h1, h2, h3, h4, h5, h]; rfl
theorem ruleX_s {es : List Ev} {k : Nat} {x : Ev} (h1 : b1 (es.take k) x = true) (h2 : b2 (es.take k) x = true) (h3 : b3 (es.take k) x = true) (h4 : b4 (es.take k) x = true) (h5 : b5 (es.take k) x = true) (h6 : b6 (es.take k) x = true) : ruleX es k x = ruleS es k x := by unfold ruleX; rw [h1, h2, h3, h4, h5, h6]; rfl
end

section
open Go.RowKit

set_option maxRecDepth 100000 in
set_option maxHeartbeats 16000000 in
theorem refRule_k7 (es : List Ev) (hok : ∀ e ∈ es, allOk evDs e.cells) (A : Option Addr) (n c k : Nat) (x : Ev) (w : World) (hn : n ≤ 1000000) (H : Evs w A n es) (hx : es[k]? = some x) (hK : Hid (x.kind = 7)) :
    Calls Tryd.prog 10 #[.slice A n c, .int .i64 k] w fun r w' => r = .returned (.string (wordN (ruleX es k x))) ∧ Below w.heap.size w w' := by
  have hkl : k < n := by have := (List.getElem?_eq_some_iff.1 hx).1; have := H.len; omega
  have HH := Lib.hid H
  have hlen := H.len
  have cS := Lib.hid (fun W (h : Below w.heap.size w W) => refSources_any es hok A n c k x W hn (HH.out.keep h) hx)
  have cC := Lib.hid (fun kind W (h : Below w.heap.size w W) => refCount_any es A n c k kind x.ses W hn (by omega) (HH.out.keep h))
  have cF := Lib.hid (fun W (h : Below w.heap.size w W) => refFst_any es A n c k x.ses W (by omega) (by omega) (HH.out.keep h))
  have cH := Lib.hid (fun W (h : Below w.heap.size w W) => ahead_any es A n c x.who k W (by omega) (HH.out.keep h))
  have hah : ahead es x.who k = (es.take k).any (isTaken x.who) := by unfold ahead; rw [Int.toNat_natCast]
  have hle : ∀ p : Ev → Bool, (es.take k).countP p ≤ 1000000 := fun p => Nat.le_trans List.countP_le_length (Nat.le_trans (List.length_take_le _ _) (by omega))
  have hos := opensI_cases (es.take k) x.ses
  have hcs := Lib.hid hos
  obtain ⟨b, off, x', rfl, hb, hx', hr⟩ := H.row hkl
  obtain rfl : x' = x := by rw [hx] at hx'; injection hx' with h; exact h.symm
  have hg1 := heap_new w (.cells Ev.zero.cells.toArray 55)
  have hB1 := Lib.hid (ag_below w (.cells x'.cells.toArray 55))
  have hX := rangeAt_list (heap_new w (.cells x'.cells.toArray 55))
  have c0 := hX 0 _ x'.at0
  have c1 := hX 1 _ x'.at1
  have c2 := hX 2 _ x'.at2
  have c3 := hX 3 _ x'.at3
  have c7 := hX 7 (.int .i64 x'.sid) rfl
  have c30 := hX 30 (.int .i64 x'.dn.hash) rfl
  have c31 := hX 31 (.int .i64 x'.dn.session) rfl
  simp only [Nat.zero_add] at c0 c1 c2 c3 c7 c30 c31
  clear hx hx' hX hos
  go_enter Tryd.func10, Tryd.ntmps10
  go_upto_region 2 with (first
    | (refine wpList_load_at 55 (.tmp 10) rfl rfl b (off + k * 34) rfl x'.cells _ hr Tryd.underlying55 rfl (by kernel_rfl) ?_)
    | (refine wpList_alloc_row 55 rfl rfl Ev.zero.cells.toArray ev_zero ?_)
    | (refine wpList_store_at 55 _ _ rfl rfl w.heap.size x'.cells.toArray rfl rfl 55 Ev.zero.cells.toArray hg1 (by kernel_rfl) rfl x'.one ?_
       rw [setRow_new]))
  clear hg1 hr
  generalize hW0 : w.alloc (.cells x'.cells.toArray 55) = W0 at hB1 c0 c1 c2 c3 c7 c30 c31 ⊢
  clear hW0
  have hBq := Lib.hid (fun q => hB1.out.trans (Below.mono (drewN_below (w := W0) q) hB1.out.size))
  have hBqq := Lib.hid (fun q r => (hBq.out q).trans (Below.mono (drewN_below (w := W0.drewN q) r) (hBq.out q).size))
  have v1 : b1 (es.take k) x' = (x'.kind == 7 || !decide (0 < (es.take k).countP (isKS 6 x'.ses))) := by unfold b1; rw [any_countP]
  have v2 : b2 (es.take k) x' = (!(x'.kind == 7) || !ahead es x'.who k) := by unfold b2; rw [hah]
  have v3 : b3 (es.take k) x' = (!isExch x' || x'.num == (((es.take k).countP (isKS 1 x'.ses) + (es.take k).countP (isKS 2 x'.ses) : Nat) : Int)) := by unfold b3; rw [count_two]
  have v4 : b4 (es.take k) x' = (!isExch x' || (if opensI (es.take k) x'.ses < 0 then x'.dn.session == x'.dn.hash else x'.dn.session == dnses (es.take k) (opensI (es.take k) x'.ses))) := rfl
  have v5 : b5 (es.take k) x' = (!(x'.kind == 3 || x'.kind == 4 || x'.kind == 5) || (decide (0 ≤ opensI (es.take k) x'.ses) && dnses (es.take k) (opensI (es.take k) x'.ses) == x'.sid)) := rfl
  have v6 : b6 (es.take k) x' = (!(x'.kind == 4 || x'.kind == 5) || !decide (0 < (es.take k).countP (isKS x'.kind x'.ses))) := by unfold b6; rw [any_countP]
  have z6 := hle (isKS 6 x'.ses)
  have z1 := hle (isKS 1 x'.ses)
  have z2 := hle (isKS 2 x'.ses)
  have cC6 := Lib.hid (fun W h => cC.out 6 W h)
  have cC1 := Lib.hid (fun W h => cC.out 1 W h)
  have cC2 := Lib.hid (fun W h => cC.out 2 W h)
  have hle2 := Lib.hid hle
  clear hah hle
  generalize (es.take k).countP (isKS 6 x'.ses) = t6 at v1 z6 cC6
  generalize (es.take k).countP (isKS 1 x'.ses) = t1 at v3 z1 cC1
  generalize (es.take k).countP (isKS 2 x'.ses) = t2 at v3 z2 cC2
  generalize ahead es x'.who k = qa at v2 cH
  have hfst : (opensI (es.take k) x'.ses = -1) ∨ ∃ j : Nat, opensI (es.take k) x'.ses = j ∧ j < n ∧ W0.cell? ⟨b, off + j * 34 + 8 + 23, none⟩ = some (.int .i64 (dnses (es.take k) (opensI (es.take k) x'.ses))) := by
    rcases hcs.out with h | ⟨j, y, h, hy, _⟩
    · exact .inl h
    · obtain ⟨hjk, hy2⟩ := take_get hy
      obtain ⟨b2, off2, y', e', hb2, hy', hr2⟩ := HH.out.row (show j < n by omega)
      simp only [Option.some.injEq, Addr.mk.injEq] at e'
      obtain ⟨rfl, rfl, _⟩ := e'
      obtain rfl : y' = y := by rw [hy2] at hy'; injection hy' with h; exact h.symm
      refine .inr ⟨j, h, by omega, ?_⟩
      rw [h, show dnses (es.take k) (j : Int) = y'.dn.session by unfold dnses; rw [Int.toNat_natCast, hy]]
      exact Ev.fldS (rangeAt_keep hr2 hB1.out hb)
  generalize dnses (es.take k) (opensI (es.take k) x'.ses) = dd at v4 v5 hfst
  generalize opensI (es.take k) x'.ses = fi at v4 v5 hfst cF
  generalize x'.dn.session = xs at c31 v4
  generalize x'.dn.hash = xh at c30 v4
  generalize x'.sid = xi at c7 v5
  generalize x'.num = xn at c2 v3
  clear hcs hlen
  have hw12 : IntKind.i64.wrap ((t1 : Int) + (t2 : Int)) = (t1 : Int) + (t2 : Int) := IntWalk.i64_in _ (by omega)
  have hk := hK.out
  have hex : isExch x' = false := by unfold isExch; rw [hk]; rfl
  rw [hk] at c0
  have e1 : b1 (es.take k) x' = true := by rw [v1]; simp [hk, hex]
  cases qa with
  | true =>
    have e2 : b2 (es.take k) x' = false := by rw [v2]; simp [hk, hex]
    as_aux_lemma =>
      have hR := Lib.hid (ruleX_2 e1 e2)
      clear v1 v2 v3 v4 v5 v6
      go_wp2_with (first
        | (go_at_call 20; (with_reducible refine (cC6.out _ (by first | exact hB1.out | exact hBq.out _ | exact hBqq.out _ _)).mono ?_); rintro r w5 ⟨rfl, rfl⟩)
        | (go_at_call 21; (with_reducible refine (cH.out _ (by first | exact hB1.out | exact hBq.out _ | exact hBqq.out _ _)).mono ?_); rintro r w5 ⟨rfl, rfl⟩)
        | (go_at_call 22; (with_reducible refine (cF.out _ (by first | exact hB1.out | exact hBq.out _ | exact hBqq.out _ _)).mono ?_); rintro r w5 ⟨rfl, rfl⟩)
        | (go_at_call 23; (with_reducible refine (cS.out _ (by first | exact hB1.out | exact hBq.out _ | exact hBqq.out _ _)).mono ?_); rintro r w9 ⟨rfl, hb9⟩))
      go_ret
      exact ⟨(congrArg (fun i => Ending.returned (.string (wordN i))) hR.out).symm, (by first | exact hB1.out | exact hBq.out _ | exact hBqq.out _ _)⟩
  | false =>
    have e2 : b2 (es.take k) x' = true := by rw [v2]; simp [hk, hex]
    have e3 : b3 (es.take k) x' = true := by rw [v3]; simp [hk, hex]
    have e4 : b4 (es.take k) x' = true := by rw [v4]; simp [hk, hex]
    have e5 : b5 (es.take k) x' = true := by rw [v5]; simp [hk, hex]
    have e6 : b6 (es.take k) x' = true := by rw [v6]; simp [hk, hex]
    as_aux_lemma =>
      have hR := Lib.hid (ruleX_s e1 e2 e3 e4 e5 e6)
      clear v1 v2 v3 v4 v5 v6
      go_wp2_with (first
        | (go_at_call 20; (with_reducible refine (cC6.out _ (by first | exact hB1.out | exact hBq.out _ | exact hBqq.out _ _)).mono ?_); rintro r w5 ⟨rfl, rfl⟩)
        | (go_at_call 21; (with_reducible refine (cH.out _ (by first | exact hB1.out | exact hBq.out _ | exact hBqq.out _ _)).mono ?_); rintro r w5 ⟨rfl, rfl⟩)
        | (go_at_call 22; (with_reducible refine (cF.out _ (by first | exact hB1.out | exact hBq.out _ | exact hBqq.out _ _)).mono ?_); rintro r w5 ⟨rfl, rfl⟩)
        | (go_at_call 23; (with_reducible refine (cS.out _ (by first | exact hB1.out | exact hBq.out _ | exact hBqq.out _ _)).mono ?_); rintro r w9 ⟨rfl, hb9⟩))
      go_quiet (fail)
      go_wp2_with (first
        | (go_at_call 20; (with_reducible refine (cC6.out _ (by first | exact hB1.out | exact hBq.out _ | exact hBqq.out _ _)).mono ?_); rintro r w5 ⟨rfl, rfl⟩)
        | (go_at_call 21; (with_reducible refine (cH.out _ (by first | exact hB1.out | exact hBq.out _ | exact hBqq.out _ _)).mono ?_); rintro r w5 ⟨rfl, rfl⟩)
        | (go_at_call 22; (with_reducible refine (cF.out _ (by first | exact hB1.out | exact hBq.out _ | exact hBqq.out _ _)).mono ?_); rintro r w5 ⟨rfl, rfl⟩)
        | (go_at_call 23; (with_reducible refine (cS.out _ (by first | exact hB1.out | exact hBq.out _ | exact hBqq.out _ _)).mono ?_); rintro r w9 ⟨rfl, hb9⟩))
      go_ret
      exact ⟨(congrArg (fun i => Ending.returned (.string (wordN i))) hR.out).symm, (by first | exact hB1.out.trans (hb9.mono hB1.out.size) | exact (hBq.out _).trans (hb9.mono (hBq.out _).size) | exact (hBqq.out _ _).trans (hb9.mono (hBqq.out _ _).size))⟩
end

section
open Go.RowKit

set_option maxRecDepth 100000 in
set_option maxHeartbeats 16000000 in
theorem refRule_k0 (es : List Ev) (hok : ∀ e ∈ es, allOk evDs e.cells) (A : Option Addr) (n c k : Nat) (x : Ev) (w : World) (hn : n ≤ 1000000) (H : Evs w A n es) (hx : es[k]? = some x) (hK : Hid (x.kind ≠ 7 ∧ x.kind ≠ 1 ∧ x.kind ≠ 2 ∧ x.kind ≠ 3 ∧ x.kind ≠ 4 ∧ x.kind ≠ 5)) :
    Calls Tryd.prog 10 #[.slice A n c, .int .i64 k] w fun r w' => r = .returned (.string (wordN (ruleX es k x))) ∧ Below w.heap.size w w' := by
  have hkl : k < n := by have := (List.getElem?_eq_some_iff.1 hx).1; have := H.len; omega
  have HH := Lib.hid H
  have hlen := H.len
  have cS := Lib.hid (fun W (h : Below w.heap.size w W) => refSources_any es hok A n c k x W hn (HH.out.keep h) hx)
  have cC := Lib.hid (fun kind W (h : Below w.heap.size w W) => refCount_any es A n c k kind x.ses W hn (by omega) (HH.out.keep h))
  have cF := Lib.hid (fun W (h : Below w.heap.size w W) => refFst_any es A n c k x.ses W (by omega) (by omega) (HH.out.keep h))
  have cH := Lib.hid (fun W (h : Below w.heap.size w W) => ahead_any es A n c x.who k W (by omega) (HH.out.keep h))
  have hah : ahead es x.who k = (es.take k).any (isTaken x.who) := by unfold ahead; rw [Int.toNat_natCast]
  have hle : ∀ p : Ev → Bool, (es.take k).countP p ≤ 1000000 := fun p => Nat.le_trans List.countP_le_length (Nat.le_trans (List.length_take_le _ _) (by omega))
  have hos := opensI_cases (es.take k) x.ses
  have hcs := Lib.hid hos
  obtain ⟨b, off, x', rfl, hb, hx', hr⟩ := H.row hkl
  obtain rfl : x' = x := by rw [hx] at hx'; injection hx' with h; exact h.symm
  have hg1 := heap_new w (.cells Ev.zero.cells.toArray 55)
  have hB1 := Lib.hid (ag_below w (.cells x'.cells.toArray 55))
  have hX := rangeAt_list (heap_new w (.cells x'.cells.toArray 55))
  have c0 := hX 0 _ x'.at0
  have c1 := hX 1 _ x'.at1
  have c2 := hX 2 _ x'.at2
  have c3 := hX 3 _ x'.at3
  have c7 := hX 7 (.int .i64 x'.sid) rfl
  have c30 := hX 30 (.int .i64 x'.dn.hash) rfl
  have c31 := hX 31 (.int .i64 x'.dn.session) rfl
  simp only [Nat.zero_add] at c0 c1 c2 c3 c7 c30 c31
  clear hx hx' hX hos
  go_enter Tryd.func10, Tryd.ntmps10
  go_upto_region 2 with (first
    | (refine wpList_load_at 55 (.tmp 10) rfl rfl b (off + k * 34) rfl x'.cells _ hr Tryd.underlying55 rfl (by kernel_rfl) ?_)
    | (refine wpList_alloc_row 55 rfl rfl Ev.zero.cells.toArray ev_zero ?_)
    | (refine wpList_store_at 55 _ _ rfl rfl w.heap.size x'.cells.toArray rfl rfl 55 Ev.zero.cells.toArray hg1 (by kernel_rfl) rfl x'.one ?_
       rw [setRow_new]))
  clear hg1 hr
  generalize hW0 : w.alloc (.cells x'.cells.toArray 55) = W0 at hB1 c0 c1 c2 c3 c7 c30 c31 ⊢
  clear hW0
  have hBq := Lib.hid (fun q => hB1.out.trans (Below.mono (drewN_below (w := W0) q) hB1.out.size))
  have hBqq := Lib.hid (fun q r => (hBq.out q).trans (Below.mono (drewN_below (w := W0.drewN q) r) (hBq.out q).size))
  have v1 : b1 (es.take k) x' = (x'.kind == 7 || !decide (0 < (es.take k).countP (isKS 6 x'.ses))) := by unfold b1; rw [any_countP]
  have v2 : b2 (es.take k) x' = (!(x'.kind == 7) || !ahead es x'.who k) := by unfold b2; rw [hah]
  have v3 : b3 (es.take k) x' = (!isExch x' || x'.num == (((es.take k).countP (isKS 1 x'.ses) + (es.take k).countP (isKS 2 x'.ses) : Nat) : Int)) := by unfold b3; rw [count_two]
  have v4 : b4 (es.take k) x' = (!isExch x' || (if opensI (es.take k) x'.ses < 0 then x'.dn.session == x'.dn.hash else x'.dn.session == dnses (es.take k) (opensI (es.take k) x'.ses))) := rfl
  have v5 : b5 (es.take k) x' = (!(x'.kind == 3 || x'.kind == 4 || x'.kind == 5) || (decide (0 ≤ opensI (es.take k) x'.ses) && dnses (es.take k) (opensI (es.take k) x'.ses) == x'.sid)) := rfl
  have v6 : b6 (es.take k) x' = (!(x'.kind == 4 || x'.kind == 5) || !decide (0 < (es.take k).countP (isKS x'.kind x'.ses))) := by unfold b6; rw [any_countP]
  have z6 := hle (isKS 6 x'.ses)
  have z1 := hle (isKS 1 x'.ses)
  have z2 := hle (isKS 2 x'.ses)
  have cC6 := Lib.hid (fun W h => cC.out 6 W h)
  have cC1 := Lib.hid (fun W h => cC.out 1 W h)
  have cC2 := Lib.hid (fun W h => cC.out 2 W h)
  have hle2 := Lib.hid hle
  clear hah hle
  generalize (es.take k).countP (isKS 6 x'.ses) = t6 at v1 z6 cC6
  generalize (es.take k).countP (isKS 1 x'.ses) = t1 at v3 z1 cC1
  generalize (es.take k).countP (isKS 2 x'.ses) = t2 at v3 z2 cC2
  generalize ahead es x'.who k = qa at v2 cH
  have hfst : (opensI (es.take k) x'.ses = -1) ∨ ∃ j : Nat, opensI (es.take k) x'.ses = j ∧ j < n ∧ W0.cell? ⟨b, off + j * 34 + 8 + 23, none⟩ = some (.int .i64 (dnses (es.take k) (opensI (es.take k) x'.ses))) := by
    rcases hcs.out with h | ⟨j, y, h, hy, _⟩
    · exact .inl h
    · obtain ⟨hjk, hy2⟩ := take_get hy
      obtain ⟨b2, off2, y', e', hb2, hy', hr2⟩ := HH.out.row (show j < n by omega)
      simp only [Option.some.injEq, Addr.mk.injEq] at e'
      obtain ⟨rfl, rfl, _⟩ := e'
      obtain rfl : y' = y := by rw [hy2] at hy'; injection hy' with h; exact h.symm
      refine .inr ⟨j, h, by omega, ?_⟩
      rw [h, show dnses (es.take k) (j : Int) = y'.dn.session by unfold dnses; rw [Int.toNat_natCast, hy]]
      exact Ev.fldS (rangeAt_keep hr2 hB1.out hb)
  generalize dnses (es.take k) (opensI (es.take k) x'.ses) = dd at v4 v5 hfst
  generalize opensI (es.take k) x'.ses = fi at v4 v5 hfst cF
  generalize x'.dn.session = xs at c31 v4
  generalize x'.dn.hash = xh at c30 v4
  generalize x'.sid = xi at c7 v5
  generalize x'.num = xn at c2 v3
  clear hcs hlen
  have hw12 : IntKind.i64.wrap ((t1 : Int) + (t2 : Int)) = (t1 : Int) + (t2 : Int) := IntWalk.i64_in _ (by omega)
  obtain ⟨h7, h1, h2, h3, h4, h5⟩ := hK.out
  have hex : isExch x' = false := by unfold isExch; simp [h1, h2]
  have k7 : (x'.kind == 7) = false := beq_eq_false_iff_ne.2 h7
  have m7 : (x'.kind != 7) = true := by unfold bne; rw [k7]; rfl
  have k1 : (x'.kind == 1) = false := beq_eq_false_iff_ne.2 h1
  have k2 : (x'.kind == 2) = false := beq_eq_false_iff_ne.2 h2
  have k3 : (x'.kind == 3) = false := beq_eq_false_iff_ne.2 h3
  have k4 : (x'.kind == 4) = false := beq_eq_false_iff_ne.2 h4
  have k5 : (x'.kind == 5) = false := beq_eq_false_iff_ne.2 h5
  clear h7 h1 h2 h3 h4 h5
  by_cases h6 : 0 < t6
  · have h6' : (0 : Int) < (t6 : Int) := by omega
    have e1 : b1 (es.take k) x' = false := by rw [v1]; simp [k7, k1, k2, k3, k4, k5, hex, h6]
    as_aux_lemma =>
      have hR := Lib.hid (ruleX_1 e1)
      clear v1 v2 v3 v4 v5 v6
      go_wp2_with (first
        | (go_at_call 20; (with_reducible refine (cC6.out _ (by first | exact hB1.out | exact hBq.out _ | exact hBqq.out _ _)).mono ?_); rintro r w5 ⟨rfl, rfl⟩)
        | (go_at_call 21; (with_reducible refine (cH.out _ (by first | exact hB1.out | exact hBq.out _ | exact hBqq.out _ _)).mono ?_); rintro r w5 ⟨rfl, rfl⟩)
        | (go_at_call 22; (with_reducible refine (cF.out _ (by first | exact hB1.out | exact hBq.out _ | exact hBqq.out _ _)).mono ?_); rintro r w5 ⟨rfl, rfl⟩)
        | (go_at_call 23; (with_reducible refine (cS.out _ (by first | exact hB1.out | exact hBq.out _ | exact hBqq.out _ _)).mono ?_); rintro r w9 ⟨rfl, hb9⟩))
      go_ret
      exact ⟨(congrArg (fun i => Ending.returned (.string (wordN i))) hR.out).symm, (by first | exact hB1.out | exact hBq.out _ | exact hBqq.out _ _)⟩
  obtain rfl : t6 = 0 := by omega
  have e1 : b1 (es.take k) x' = true := by rw [v1]; simp [k7, k1, k2, k3, k4, k5, hex]
  have e2 : b2 (es.take k) x' = true := by rw [v2]; simp [k7, k1, k2, k3, k4, k5, hex]
  have e3 : b3 (es.take k) x' = true := by rw [v3]; simp [k7, k1, k2, k3, k4, k5, hex]
  have e4 : b4 (es.take k) x' = true := by rw [v4]; simp [k7, k1, k2, k3, k4, k5, hex]
  have e5 : b5 (es.take k) x' = true := by rw [v5]; simp [k7, k1, k2, k3, k4, k5, hex]
  have e6 : b6 (es.take k) x' = true := by rw [v6]; simp [k7, k1, k2, k3, k4, k5, hex]
  as_aux_lemma =>
    have hR := Lib.hid (ruleX_s e1 e2 e3 e4 e5 e6)
    clear v1 v2 v3 v4 v5 v6
    go_wp2_with (first
      | (go_at_call 20; (with_reducible refine (cC6.out _ (by first | exact hB1.out | exact hBq.out _ | exact hBqq.out _ _)).mono ?_); rintro r w5 ⟨rfl, rfl⟩)
      | (go_at_call 21; (with_reducible refine (cH.out _ (by first | exact hB1.out | exact hBq.out _ | exact hBqq.out _ _)).mono ?_); rintro r w5 ⟨rfl, rfl⟩)
      | (go_at_call 22; (with_reducible refine (cF.out _ (by first | exact hB1.out | exact hBq.out _ | exact hBqq.out _ _)).mono ?_); rintro r w5 ⟨rfl, rfl⟩)
      | (go_at_call 23; (with_reducible refine (cS.out _ (by first | exact hB1.out | exact hBq.out _ | exact hBqq.out _ _)).mono ?_); rintro r w9 ⟨rfl, hb9⟩))
    go_quiet (fail)
    go_wp2_with (first
      | (go_at_call 20; (with_reducible refine (cC6.out _ (by first | exact hB1.out | exact hBq.out _ | exact hBqq.out _ _)).mono ?_); rintro r w5 ⟨rfl, rfl⟩)
      | (go_at_call 21; (with_reducible refine (cH.out _ (by first | exact hB1.out | exact hBq.out _ | exact hBqq.out _ _)).mono ?_); rintro r w5 ⟨rfl, rfl⟩)
      | (go_at_call 22; (with_reducible refine (cF.out _ (by first | exact hB1.out | exact hBq.out _ | exact hBqq.out _ _)).mono ?_); rintro r w5 ⟨rfl, rfl⟩)
      | (go_at_call 23; (with_reducible refine (cS.out _ (by first | exact hB1.out | exact hBq.out _ | exact hBqq.out _ _)).mono ?_); rintro r w9 ⟨rfl, hb9⟩))
    go_ret
    exact ⟨(congrArg (fun i => Ending.returned (.string (wordN i))) hR.out).symm, (by first | exact hB1.out.trans (hb9.mono hB1.out.size) | exact (hBq.out _).trans (hb9.mono (hBq.out _).size) | exact (hBqq.out _ _).trans (hb9.mono (hBqq.out _ _).size))⟩
end
end Go.Proofs.YtbokdbppjiegjaaDoor
