/- Trust: the walks of exchange, opens, First, Keys; the reference's First, Partners. -/
import Derived.Test.YtkgkpoiacbjdfaaTpA
import Derived.Test.YtkgkpoiacbjdfaaTrC
import Derived.Test.YtkgkpoiacbjdfaaRes
import Derived.Test.YtkgkpoiacbjdfaaTpE
import Derived.BigQuiet
import Derived.Deep.QuietTactic
namespace Go.Proofs.Ytkgkpoiacbjdfaa
open Go.RowKit

theorem below_new (w : World) (o : Obj) : Below w.heap.size w (w.alloc o) := (Below.refl _ _).alloc (Nat.le_refl _) o

theorem exch_any (e : Ev) (w : World) :
    Calls Try.prog 31 #[.agg e.cells.toArray] w fun r w' => r = .returned (.bool (exch e)) ∧ Below w.heap.size w w' := by
  have h0 := e.at0
  by_cases hk : (e.kind == 1) = true
  · have hq := Lib.hid (show exch e = true by unfold exch; rw [hk]; rfl)
    go_enter Try.func31, Try.ntmps31
    go_wp2
    go_ret
    exact ⟨ret_bool hq.out.symm, below_new _ _⟩
  · rw [Bool.not_eq_true] at hk
    have hq := Lib.hid (show exch e = (e.kind == 2) by unfold exch; rw [hk]; rfl)
    go_enter Try.func31, Try.ntmps31
    go_wp2
    go_ret
    exact ⟨ret_bool hq.out.symm, below_new _ _⟩

theorem opens_fn (e : Ev) (ses : Int) (w : World) (bw : Nat) (hlt : bw < w.heap.size) (hb : w.cell? ⟨bw, 0, none⟩ = some (.int .i64 ses)) :
    Calls Try.prog 45 #[.agg e.cells.toArray, .pointer (some ⟨bw, 0, none⟩)] w fun r w' => r = .returned (.bool (isOpen ses e)) ∧ Below w.heap.size w w' := by
  have hE := rangeAt_list (heap_new w (.cells e.cells.toArray 37))
  have hl := (Array.getElem?_eq_some_iff.1 (heap_new w (.cells e.cells.toArray 37))).1
  have hB := below_new w (.cells e.cells.toArray 37)
  have hc := (hB.cell (p := ⟨bw, 0, none⟩) hlt).trans hb
  have cX := Lib.hid (fun W => exch_any e W)
  have hB := Lib.hid hB
  have hlt := Nat.lt_of_lt_of_le hlt hB.out.size
  cases hx : exch e with
  | false =>
    have hq := Lib.hid (show isOpen ses e = false by unfold isOpen; rw [hx]; rfl)
    rw [hx] at cX
    clear hx
    go_enter Try.func45, Try.ntmps45
    go_wp2_with (first
      | (refine wpList_load_at 37 _ rfl rfl w.heap.size 0 rfl e.cells _ hE Try.underlying37 rfl (by kernel_rfl) ?_)
      | (go_at_call 31; refine (cX.out _).mono ?_; rintro r w1 ⟨rfl, hb1⟩))
    go_ret
    exact ⟨ret_bool hq.out.symm, hB.out.trans (hb1.mono hB.out.size)⟩
  | true =>
    have hq := Lib.hid (show isOpen ses e = (e.ses == ses && e.num == 0) by unfold isOpen; rw [hx]; rfl)
    rw [hx] at cX
    clear hx
    go_enter Try.func45, Try.ntmps45
    go_wp2_with (first
      | (refine wpList_load_at 37 _ rfl rfl w.heap.size 0 rfl e.cells _ hE Try.underlying37 rfl (by kernel_rfl) ?_)
      | (go_at_call 31; refine (cX.out _).mono ?_; rintro r w1 ⟨rfl, hb1⟩
         obtain ⟨_, g1, g2, _⟩ := Ev.flds (rangeAt_keep hE hb1 hl)
         have g3 := (hb1.cell (p := ⟨bw, 0, none⟩) hlt).trans hc))
    all_goals
      go_ret
      exact ⟨ret_bool (by rw [hq.out]; simp [*]), hB.out.trans (hb1.mono hB.out.size)⟩

def openV (o : Option Ev) : Value := match o with
  | some e => .tuple #[.agg e.cells.toArray, .bool true]
  | none => .tuple #[.agg Ev.zero.cells.toArray, .bool false]
set_option maxRecDepth 100000 in
theorem opens_any (es : List Ev) (A : Option Addr) (n c : Nat) (ses : Int) (w : World) (hn : n ≤ 9223372036854775807) (H : Evs w A n es) :
    Calls Try.prog 30 #[.slice A n c, .int .i64 ses] w fun r w' => r = .returned (openV (openE es ses)) ∧ Below w.heap.size w w' := by
  have HH := Lib.hid H
  have b0 := below_new w (.cells #[.int .i64 ses] 3)
  have b1 := b0.alloc (Nat.le_trans (Nat.le_refl _) b0.size) (.cells Ev.zero.cells.toArray 37)
  have hz := heap_new (w.alloc (.cells #[.int .i64 ses] 3)) (.cells Ev.zero.cells.toArray 37)
  have cF := find_any (isOpen ses) 45 #[.pointer (some ⟨w.heap.size, 0, none⟩)] (by intro args w; kernel_rfl) es A n c _ hn (H.keep b1) (fun W e hW => opens_fn e ses W w.heap.size (Nat.lt_of_lt_of_le (by simp; omega) hW.size) ((hW.cell (p := ⟨w.heap.size, 0, none⟩) (by simp; omega)).trans (by simp)))
  simp only [World.size_alloc] at hz
  have cF := Lib.hid cF
  have b1 := Lib.hid b1
  have hz := Lib.hid hz
  have ez : Try.prog.built 37 [] = some Ev.zero.cells.toArray := by kernel_rfl
  clear b0
  rcases find_idx (isOpen ses) es with ⟨hi, hf⟩ | ⟨k, x, hi, hx, hf⟩
  · have hf := Lib.hid hf
    rw [hi] at cF
    go_enter Try.func30, Try.ntmps30
    go_wp2_with (first
      | (refine wpList_alloc_row 37 rfl rfl Ev.zero.cells.toArray ev_zero ?_; try simp only [World.size_alloc]))
    refine cF.out.mono ?_
    rintro r w1 ⟨rfl, hb1⟩
    have hz1 := Lib.hid ((hb1.block (w.heap.size + 1) (by simp)).trans hz.out)
    have hB1 := Lib.hid (b1.out.trans (hb1.mono b1.out.size))
    have hl1 := Lib.hid (Nat.lt_of_lt_of_le (show w.heap.size + 1 < ((w.alloc (.cells #[.int .i64 ses] 3)).alloc (.cells Ev.zero.cells.toArray 37)).heap.size by simp) hb1.size)
    clear hb1 cF hz b1
    go_wp2_with (first
      | (refine wpList_build_as 37 _ rfl rfl Ev.zero.cells.toArray ?_ ?_; exact ez)
      | (refine wpList_store_at 37 _ _ rfl rfl (w.heap.size + 1) Ev.zero.cells.toArray rfl rfl 37 Ev.zero.cells.toArray hz1.out (by kernel_rfl) rfl Ev.zero.one ?_))
    refine bodyPost_ret (resV2 rfl _ _ (w.heap.size + 1) 37 Ev.zero.cells.toArray (0, 0) _ _ rfl (hsetRow _ _ _ _ _ _ hz1.out) Try.underlying37 rfl (by kernel_rfl) rfl) rfl ⟨?_, below_setRow hB1.out (by omega) _⟩
    unfold openE
    rw [hf.out]; rfl
  · have hf := Lib.hid hf
    have hkl := (List.getElem?_eq_some_iff.1 hx).1
    obtain ⟨b, off, x', rfl, hb, hx', hr⟩ := H.row (show k < n by have := H.len; omega)
    obtain rfl : x' = x := by rw [hx] at hx'; injection hx' with h; exact h.symm
    have hkn : k < n := by have := H.len; omega
    rw [hi] at cF
    clear hx hx' hkl
    go_enter Try.func30, Try.ntmps30
    go_wp2_with (first
      | (refine wpList_alloc_row 37 rfl rfl Ev.zero.cells.toArray ev_zero ?_; try simp only [World.size_alloc]))
    refine cF.out.mono ?_
    rintro r w1 ⟨rfl, hb1⟩
    have hz1 := Lib.hid ((hb1.block (w.heap.size + 1) (by simp)).trans hz.out)
    have hB1 := Lib.hid (b1.out.trans (hb1.mono b1.out.size))
    have hr1 := rangeAt_keep hr hB1.out hb
    clear hb1 cF hz b1 hr
    go_wp2_with (first
      | (refine wpList_load_at 37 _ rfl rfl b (off + k * 34) rfl x'.cells _ hr1 Try.underlying37 rfl (by kernel_rfl) ?_)
      | (refine wpList_store_at 37 _ _ rfl rfl (w.heap.size + 1) x'.cells.toArray rfl rfl 37 Ev.zero.cells.toArray hz1.out (by kernel_rfl) rfl x'.one ?_))
    refine bodyPost_ret (resV2 rfl _ _ (w.heap.size + 1) 37 x'.cells.toArray (0, 0) _ _ rfl (hsetRow _ _ _ _ _ _ hz1.out) Try.underlying37 rfl (by kernel_rfl) rfl) rfl ⟨?_, below_setRow hB1.out (by omega) _⟩
    unfold openE
    rw [hf.out]; rfl

def firstV (o : Option Ev) : Value := match o with
  | some e => .tuple #[.agg e.dn.cells.toArray, .bool true]
  | none => .tuple #[.agg Ev.zero.dn.cells.toArray, .bool false]
def openX (o : Option Ev) : Ev := match o with | some e => e | none => Ev.zero
theorem openV_eq (o : Option Ev) : openV o = .tuple #[.agg (openX o).cells.toArray, .bool o.isSome] := by cases o <;> rfl
theorem firstV_eq (o : Option Ev) : firstV o = .tuple #[.agg (openX o).dn.cells.toArray, .bool o.isSome] := by cases o <;> rfl
theorem dn_zero : (Try.prog.info? 35).bind (·.zero) = some (.agg Ev.zero.dn.cells.toArray) := by kernel_rfl
theorem Dn.one (d : Dn) : d.cells.toArray.all (·.oneCell') = true := by simp [Dn.cells, Value.oneCell']
set_option maxRecDepth 100000 in
theorem first_any (es : List Ev) (A : Option Addr) (n c : Nat) (ses : Int) (w : World) (hn : n ≤ 9223372036854775807) (H : Evs w A n es) :
    Calls Try.prog 11 #[.slice A n c, .int .i64 ses] w fun r w' => r = .returned (firstV (openE es ses)) ∧ Below w.heap.size w w' := by
  have b0 := below_new w (.cells Ev.zero.dn.cells.toArray 35)
  have h0 := heap_new w (.cells Ev.zero.dn.cells.toArray 35)
  have cO := opens_any es A n c ses _ hn (H.keep b0)
  rw [openV_eq] at cO
  rw [firstV_eq]
  generalize openX (openE es ses) = x at cO ⊢
  generalize (openE es ses).isSome = q at cO ⊢
  have cO := Lib.hid cO
  have b0 := Lib.hid b0
  have h0 := Lib.hid h0
  go_enter Try.func11, Try.ntmps11
  go_wp2_with (first
    | (refine wpList_alloc_row 35 rfl rfl Ev.zero.dn.cells.toArray dn_zero ?_))
  refine cO.out.mono ?_
  rintro r w1 ⟨rfl, hb1⟩
  have hg1 := heap_new w1 (.cells Ev.zero.cells.toArray 37)
  have hr1 := rangeAt_list (heap_new w1 (.cells x.cells.toArray 37))
  have hrd := Ev.fldD hr1
  have hb2 : Below w1.heap.size w1 (w1.alloc (.cells x.cells.toArray 37)) := below_new _ _
  have hd1 := (hb2.block w.heap.size (Nat.lt_of_lt_of_le (by simp) hb1.size)).trans ((hb1.block w.heap.size (by simp)).trans h0.out)
  have hB := Lib.hid ((b0.out.trans (hb1.mono b0.out.size)).trans (hb2.mono (Nat.le_trans b0.out.size hb1.size)))
  have hd1 := Lib.hid hd1
  clear hr1 hb1 hb2 cO h0 b0
  go_wp2_with (first
    | (refine wpList_alloc_row 37 rfl rfl Ev.zero.cells.toArray ev_zero ?_; try simp only [World.size_alloc])
    | (refine wpList_store_at 37 _ _ rfl rfl w1.heap.size x.cells.toArray rfl rfl 37 Ev.zero.cells.toArray hg1 (by kernel_rfl) rfl x.one ?_
       rw [setRow_new])
    | (refine wpList_load_at 35 _ rfl rfl w1.heap.size (0 + 8) rfl x.dn.cells _ hrd Try.underlying35 rfl (by kernel_rfl) ?_)
    | (refine wpList_store_at 35 _ _ rfl rfl w.heap.size x.dn.cells.toArray rfl rfl 35 Ev.zero.dn.cells.toArray hd1.out (by kernel_rfl) rfl x.dn.one ?_))
  refine bodyPost_ret (resV2 rfl _ _ w.heap.size 35 x.dn.cells.toArray (0, 0) _ _ rfl (hsetRow _ _ _ _ _ _ hd1.out) Try.underlying35 rfl (by kernel_rfl) rfl) rfl ⟨rfl, below_setRow hB.out (by omega) _⟩

set_option maxHeartbeats 400000 in
theorem refFirst_any (es : List Ev) (A : Option Addr) (n c : Nat) (ses : Int) (w : World) (hn : n ≤ 9223372036854775807) (H : Evs w A n es) :
    Calls Try.prog 12 #[.slice A n c, .int .i64 ses] w fun r w' => r = .returned (.int .i64 (idx (isOpen ses) es)) ∧ Below w.heap.size w w' := by
  have hlen := Lib.hid H.len
  go_enter Try.func12, Try.ntmps12
  go_wp2
  go_loopw [5] (fun i wr => ∃ k : Nat, k ≤ n ∧ i = .int .i64 k ∧ Hid (((es.take k).any (isOpen ses)) = false) ∧ Hid (Below w.heap.size w wr)) (fun i _ => n - (intOf i).toNat)
  case atStart => exact ⟨0, by omega, rfl, by simp [Hid], Below.refl _ _⟩
  case round =>
    obtain ⟨k, hk, rfl, hf, hB⟩ := hrel
    by_cases hlt : k < n
    · obtain ⟨b, off, e, rfl, hb, he, hr⟩ := H.row hlt
      obtain ⟨h0, h1, h2, h3⟩ := Ev.flds (rangeAt_keep hr hB.out hb)
      have he := Lib.hid he
      clear hr
      clear hlt
      have hlt : k < n := hlen.out ▸ (List.getElem?_eq_some_iff.1 he.out).1
      go_wp2
      all_goals first
        | (go_ret
           exact ⟨ret_int (idx_hit he.out (by simp [isOpen, exch, *]) hf.out).symm, hB.out⟩)
        | (go_roundw
           case rel => exact ⟨k + 1, by omega, by go_num, (by unfold Hid; rw [any_take_succ _ he.out, hf.out]; simp [isOpen, exch, *]), hB⟩
           case measure => simp [intOf]; omega)
    · go_wp2
      go_ret
      exact ⟨ret_int (idx_miss (any_whole (n := k) (by rw [hlen.out]; omega) hf.out)).symm, hB.out⟩

theorem mate_of (es : List Ev) (a b : Int) : mate es a b = ((openE es a).isSome && (openE es b).isSome && ((openX (openE es a)).kind + (openX (openE es b)).kind == 3) && decide ((openX (openE es a)).dn = (openX (openE es b)).dn)) := by
  unfold mate
  cases openE es a <;> cases openE es b <;> first | rfl | simp [openX]
theorem open_at {es : List Ev} {ses : Int} : (idx (isOpen ses) es = -1 ∧ openE es ses = none) ∨ ∃ k x, idx (isOpen ses) es = (k : Nat) ∧ es[k]? = some x ∧ openE es ses = some x := find_idx _ _
theorem kind_lt {e : Ev} (h : exch e = true) : 1 ≤ e.kind ∧ e.kind ≤ 2 := by
  unfold exch at h
  simp only [Bool.or_eq_true, beq_iff_eq] at h
  omega

attribute [local go_sem ↓] ldD_eq eqD_eq egE_eq
attribute [local go_sem] egE_run
set_option maxHeartbeats 1000000 in
theorem refPartners_any (es : List Ev) (hok : ∀ e ∈ es, allOk evDs e.cells) (A : Option Addr) (n c : Nat) (a b : Int) (w : World) (hn : n ≤ 9223372036854775807) (H : Evs w A n es) :
    Calls Try.prog 10 #[.slice A n c, .int .i64 a, .int .i64 b] w fun r w' => r = .returned (.bool (mate es a b)) ∧ Below w.heap.size w w' := by
  have cA := refFirst_any es A n c a w hn H
  have cB := Lib.hid (fun W (h : Below w.heap.size w W) => refFirst_any es A n c b W hn (H.keep h))
  have hlen := H.len
  rcases open_at (es := es) (ses := a) with ⟨ia, fa⟩ | ⟨i, x, ia, hx, fa⟩
  · have hq := Lib.hid (show mate es a b = false by rw [mate_of, fa]; rfl)
    rw [ia] at cA
    have cA := Lib.hid cA
    clear ia fa H hlen
    go_enter Try.func10, Try.ntmps10
    go_wp2_with fail
    refine cA.out.mono ?_
    rintro r w1 ⟨rfl, hb1⟩
    go_wp2_with fail
    refine (cB.out _ hb1).mono ?_
    rintro r w2 ⟨rfl, hb2⟩
    have hB := Lib.hid (hb1.trans (hb2.mono hb1.size))
    clear hb1 hb2
    go_wp2_with fail
    go_quiet (fail)
    go_wp2_with fail
    go_ret
    exact ⟨ret_bool hq.out.symm, hB.out.trans (Below.mono (drewN_below _) hB.out.size)⟩
  · rcases open_at (es := es) (ses := b) with ⟨ib, fb⟩ | ⟨k, y, ib, hy, fb⟩
    · have hq := Lib.hid (show mate es a b = false by rw [mate_of, fa, fb]; rfl)
      rw [ia] at cA
      rw [ib] at cB
      have cA := Lib.hid cA
      clear ia fa ib fb H hlen hx
      go_enter Try.func10, Try.ntmps10
      go_wp2_with fail
      refine cA.out.mono ?_
      rintro r w1 ⟨rfl, hb1⟩
      go_wp2_with fail
      refine (cB.out _ hb1).mono ?_
      rintro r w2 ⟨rfl, hb2⟩
      have hB := Lib.hid (hb1.trans (hb2.mono hb1.size))
      clear hb1 hb2
      go_wp2_with fail
      go_quiet (fail)
      go_wp2_with fail
      go_ret
      exact ⟨ret_bool hq.out.symm, hB.out.trans (Below.mono (drewN_below _) hB.out.size)⟩
    · have hq := show mate es a b = (x.kind + y.kind == 3 && decide (x.dn = y.dn)) by rw [mate_of, fa, fb]; rfl
      have hil := (List.getElem?_eq_some_iff.1 hx).1
      have hkl := (List.getElem?_eq_some_iff.1 hy).1
      obtain ⟨bl, off, x', rfl, hb, hx', hr⟩ := H.row (show i < n by omega)
      obtain rfl : x' = x := by rw [hx] at hx'; injection hx' with h; exact h.symm
      obtain ⟨bl', off', y', e', hb', hy', hr'⟩ := H.row (show k < n by omega)
      simp only [Option.some.injEq, Addr.mk.injEq] at e'
      obtain ⟨rfl, rfl, _⟩ := e'
      obtain rfl : y' = y := by rw [hy] at hy'; injection hy' with h; exact h.symm
      have hnq := Lib.hid (eqD_run x'.dn y'.dn (dn_ok (hok x' (List.mem_of_getElem? hx))) (dn_ok (hok y' (List.mem_of_getElem? hy))))
      have hS := Lib.hid (fun W (h : Below w.heap.size w W) => (⟨(Ev.flds (rangeAt_keep hr h hb)).1, (Ev.flds (rangeAt_keep hr' h hb)).1, ldD_run (Ev.fldD (rangeAt_keep hr h hb)), ldD_run (Ev.fldD (rangeAt_keep hr' h hb))⟩ :
        W.cell? ⟨bl, off + i * 34, none⟩ = some (.int .i64 x'.kind) ∧ W.cell? ⟨bl, off + k * 34, none⟩ = some (.int .i64 y'.kind) ∧ (ldD ⟨bl, off + i * 34 + 8, none⟩).run Try.prog W = .ok (.agg x'.dn.cells.toArray) W ∧ (ldD ⟨bl, off + k * 34 + 8, none⟩).run Try.prog W = .ok (.agg y'.dn.cells.toArray) W))
      have i1 : (0 : Int) ≤ (i : Int) := by omega
      have i2 : (i : Int) < (n : Int) := by omega
      have k1 : (0 : Int) ≤ (k : Int) := by omega
      have k2 : (k : Int) < (n : Int) := by omega
      have w1 := kind_lt (openE_some fa).1
      have w2 := kind_lt (openE_some fb).1
      have hkk : IntKind.i64.wrap (x'.kind + y'.kind) = x'.kind + y'.kind := IntWalk.i64_in _ (by omega)
      rw [ia] at cA
      rw [ib] at cB
      have cA := Lib.hid cA
      clear ia fa ib fb H hlen hx hy hx' hy' hr hr' w1 w2 hok
      generalize decide (x'.dn = y'.dn) = q at hnq hq
      cases h3 : (x'.kind + y'.kind == 3)
      all_goals
        rw [h3] at hq
        have hq := Lib.hid hq
        go_enter Try.func10, Try.ntmps10
        go_wp2_with fail
        refine cA.out.mono ?_
        rintro r w1 ⟨rfl, hb1⟩
        go_wp2_with fail
        refine (cB.out _ hb1).mono ?_
        rintro r w2 ⟨rfl, hb2⟩
        have hB := Lib.hid (hb1.trans (hb2.mono hb1.size))
        clear hb1 hb2
        have hBq : ∀ q, Below w.heap.size w (w2.drewN q) := fun q => hB.out.trans (Below.mono (drewN_below q) hB.out.size)
        have v1 := fun q => (hS.out _ (hBq q)).2.2.1
        have v2 := fun q => (hS.out _ (hBq q)).2.2.2
        obtain ⟨v3, v4, _⟩ := hS.out w2 hB.out
        have v5 := hnq.out
        clear hBq
        go_wp2_with fail
        go_quiet (fail)
        clear v1 v2 v3 v4 v5
        go_wp2_with fail
        go_ret
        exact ⟨ret_bool (hq.out.trans (by simp)).symm, hB.out.trans (Below.mono (drewN_below _) hB.out.size)⟩
end Go.Proofs.Ytkgkpoiacbjdfaa
