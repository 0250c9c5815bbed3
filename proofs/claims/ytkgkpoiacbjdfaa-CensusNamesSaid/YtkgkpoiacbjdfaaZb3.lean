/- The walk of census.Of. -/
import Derived.Test.YtkgkpoiacbjdfaaZb2
import Derived.Deep.DeepCutAuto
import Derived.Laws.CopyOwn
namespace Go.Proofs.Ytkgkpoiacbjdfaa
open Go.RowKit

def cenZ : Array Value := ci (List.replicate 30 0)
theorem cen_zero : (Try.prog.info? 64).bind (·.zero) = some (.agg cenZ) := by kernel_rfl
theorem cens_zero (es : List Ev) : cens es 0 = List.replicate 30 0 := by
  unfold cens cnt
  simp only [List.range_zero, List.filter_nil, List.length_nil, List.map_const', List.length_range]
  rfl
theorem CB.bump_ {w : World} {g : Nat} {C : List Int} (h : CB w g C) (i : Nat) : CB (w.setCell ⟨g, i, none⟩ (.int .i64 (C.getD i 0 + 1))) g (bump C i) := by
  refine ⟨?_, by rw [bump_len]; exact h.2⟩
  rw [heap_setCell_same w g i _ _ _ h.1]
  unfold ci bump
  congr 2
  simp
theorem CB.far {w : World} {g g' : Nat} {C : List Int} (h : CB w g C) (hg : g ≠ g') (i : Nat) (v : Value) : CB (w.setCell ⟨g', i, none⟩ v) g C := ⟨(Below.heap_setCell w _ v g hg).trans h.1, h.2⟩

/-- What the round keeps: the census, the result's zeros, the event's own block, all else below. -/
structure St (w W : World) (v : Nat) (e : Ev) (C : List Int) : Prop where
  c : CB W (w.heap.size + 1) C
  z : CB W w.heap.size (List.replicate 30 0)
  b : Below w.heap.size w W
  ev : W.heap[v]? = some (.cells e.cells.toArray 37 (0, 0))
  lt : w.heap.size + 1 < v
theorem St.bump_ {w W : World} {v : Nat} {e : Ev} {C : List Int} (h : St w W v e C) (i : Nat) (x : Int) (hx : C.getD i 0 = x) : St w (W.setCell ⟨w.heap.size + 1, i, none⟩ (.int .i64 (x + 1))) v e (bump C i) := by
  subst hx
  exact ⟨h.c.bump_ i, h.z.far (by omega) i _, h.b.setCell (by show w.heap.size ≤ w.heap.size + 1; omega) _, (Below.heap_setCell W ⟨w.heap.size + 1, i, none⟩ _ v (by have := h.lt; show v ≠ w.heap.size + 1; omega)).trans h.ev, h.lt⟩
theorem St.below {w W W' : World} {v : Nat} {e : Ev} {C : List Int} (h : St w W v e C) (hb : Below W.heap.size W W') : St w W' v e C := by
  have hv : v < W.heap.size := (Array.getElem?_eq_some_iff.1 h.ev).1
  exact ⟨h.c.below hb, h.z.below hb, h.b.trans (hb.mono h.b.size), (hb.block v hv).trans h.ev, h.lt⟩
theorem St.cell {w W : World} {v : Nat} {e : Ev} {C : List Int} (h : St w W v e C) {i : Nat} (hi : i < 30) {x : Int} (hx : C.getD i 0 = x) : W.cell? ⟨w.heap.size + 1, i, none⟩ = some (.int .i64 x) ∧ W.frozen? ⟨w.heap.size + 1, i, none⟩ = false := by
  subst hx; exact h.c.cell hi
theorem St.fld {w W : World} {v : Nat} {e : Ev} {C : List Int} (h : St w W v e C) : W.cell? ⟨v, 0, none⟩ = some (.int .i64 e.kind) ∧ W.cell? ⟨v, 2, none⟩ = some (.int .i64 e.num) ∧ W.cell? ⟨v, 8 + 12, none⟩ = some (.int .i64 e.dn.method) :=
  ⟨cell_of_row W v 0 _ _ _ h.ev, cell_of_row W v 2 _ _ _ h.ev, cell_of_row W v 20 _ _ _ h.ev⟩
theorem heap_setRow_same (w : World) (g : Nat) (old cs : Array Value) (t : TypeId) (fr : Nat × Nat) (h : w.heap[g]? = some (.cells old t fr)) : (w.setRow g cs).heap[g]? = some (.cells cs t fr) := by
  simp only [World.setRow, Array.getElem?_modify, if_true, h, Option.map_some]
theorem cens_fin {es : List Ev} {k : Nat} {L : List Nat} {p : Prop} [Decidable p] {C : List Int} (h : cens es (k + 1) = (L ++ (if p then [29] else [])).foldl bump C) : cens es (k + 1) = (if p then [29] else []).foldl bump (L.foldl bump C) := by
  rw [h, List.foldl_append]
theorem bump_ne (C : List Int) {i j : Nat} (h : i ≠ j) : (bump C i).getD j 0 = C.getD j 0 := by
  unfold bump
  simp only [List.getD_eq_getElem?_getD, List.getElem?_set_ne h]
theorem cens_getD (es : List Ev) (k : Nat) {i : Nat} (h : i < 30) : (cens es k).getD i 0 = (cnt es k i : Int) := by
  rw [List.getD_eq_getElem?_getD, cens_get h]; rfl

set_option maxRecDepth 1000000 in
set_option maxHeartbeats 20000000 in
theorem cenOf_any (es : List Ev) (A : Option Addr) (n c : Nat) (w : World) (hn : n ≤ 1000000) (H : Evs w A n es) :
    Calls Try.prog 34 #[.slice A n c] w fun r w' => r = .returned (.agg (ci (cens es n))) ∧ Below w.heap.size w w' := by
  have HH := Lib.hid H
  have hlen := Lib.hid H.len
  have hz := cens_zero es
  have hg3 := heap_new (w.alloc (.cells cenZ 64)) (.cells cenZ 64)
  have hg2 := heap_past (heap_new w (.cells cenZ 64)) (.cells cenZ 64)
  simp only [World.size_alloc] at hg3
  have hC3 := Lib.hid (show CB _ (w.heap.size + 1) (cens es 0) from ⟨by rw [hz]; exact hg3, cens_len es 0⟩)
  have hC2 := Lib.hid (show CB _ w.heap.size (List.replicate 30 0) from ⟨hg2, by simp⟩)
  have hB0 := Lib.hid (((Below.refl w.heap.size w).alloc (Nat.le_refl _) (.cells cenZ 64)).alloc (by simp) (.cells cenZ 64))
  clear hz hg3 hg2
  go_enter Try.func34, Try.ntmps34
  go_wp2_with (refine wpList_alloc_row 64 rfl rfl cenZ cen_zero ?_; try simp only [World.size_alloc])
  go_loopw [4, 5, 8] (fun _ _ i wr => ∃ k : Nat, k ≤ n ∧ i = .int .i64 k ∧ Hid (CB wr (w.heap.size + 1) (cens es k)) ∧ Hid (CB wr w.heap.size (List.replicate 30 0)) ∧ Hid (Below w.heap.size w wr)) (fun _ _ i _ => n - (intOf i).toNat)
  case atStart => exact ⟨0, by omega, rfl, hC3, hC2, hB0⟩
  case round =>
    obtain ⟨k, hk, rfl, hC, hZ, hB⟩ := hrel
    by_cases hlt : k < n
    · obtain ⟨b, off, e, rfl, hb, he, hr⟩ := H.row hlt
      have hr' := rangeAt_keep hr hB.out hb
      have hg1 := heap_new wr (.cells Ev.zero.cells.toArray 37)
      have e0 := e.at0
      obtain ⟨a, ha⟩ := Int.eq_ofNat_of_zero_le (win_range (x := e.kind) (m := 7) (by decide)).1
      have ha7 : a ≤ 7 := by have := (win_range (x := e.kind) (m := 7) (by decide)).2; omega
      have cW := within_any e.kind 7
      rw [ha] at cW
      have cW := Lib.hid cW
      have hxa := cnt_le es k a
      have hcell := (hC.out.alloc (.cells e.cells.toArray 37)).cell (i := a) (by omega)
      rw [show (cens es k).getD a 0 = (cnt es k a : Int) by rw [List.getD_eq_getElem?_getD, cens_get (by omega)]; rfl] at hcell
      obtain ⟨hcell, hfr⟩ := hcell
      have hsz := hC.out.lt
      have he' := he
      have he' := Lib.hid he'
      clear hr he
      go_upto_region 6 with (first
        | (refine wpList_load_at 37 _ rfl rfl b (off + k * 34) rfl e.cells _ hr' Try.underlying37 rfl (by kernel_rfl) ?_)
        | (refine wpList_alloc_row 37 rfl rfl Ev.zero.cells.toArray ev_zero ?_)
        | (refine wpList_store_at 37 _ _ rfl rfl wr.heap.size e.cells.toArray rfl rfl 37 Ev.zero.cells.toArray hg1 (by kernel_rfl) rfl e.one ?_
           rw [setRow_new])
        | (go_at_call 49; refine (cW.out _).mono ?_; rintro r w1 ⟨rfl, rfl⟩))
      -- the rest, way by way
      obtain ⟨q, hq⟩ := Int.eq_ofNat_of_zero_le (win_range (x := e.num) (m := 15) (by decide)).1
      have hq15 : q ≤ 15 := by have := (win_range (x := e.num) (m := 15) (by decide)).2; omega
      obtain ⟨m, hm⟩ := Int.eq_ofNat_of_zero_le (win_range (x := e.dn.method) (m := 3) (by decide)).1
      have hm3 : m ≤ 3 := by have := (win_range (x := e.dn.method) (m := 3) (by decide)).2; omega
      have cQ := within_any e.num 15
      rw [hq] at cQ
      have cM := within_any e.dn.method 3
      rw [hm] at cM
      have cQ := Lib.hid cQ
      have cM := Lib.hid cM
      have hha : (win e.kind 7).toNat = a := by omega
      have hhq : (win e.num 15).toNat = q := by omega
      have hhm : (win e.dn.method 3).toNat = m := by omega
      have hstep : cens es (k + 1) = ([a] ++ (if e.kind = 6 then [8 + q] else []) ++ (if e.kind = 2 then [24 + m] else []) ++ (if (e.kind = 2 ∨ e.kind = 1) ∧ e.num ≠ 0 then [28] else []) ++ (if safe es k then [29] else [])).foldl bump (cens es k) := by
        rw [cens_step he'.out, hits, hha, hhq, hhm]
      have hW0 : wr.heap.size = (wr.setCell ⟨w.heap.size + 1, a, none⟩ (.int .i64 ((cnt es k a : Int) + 1))).heap.size := by rw [World.size_setCell]
      have S1 : St w ((wr.setCell ⟨w.heap.size + 1, a, none⟩ (.int .i64 ((cnt es k a : Int) + 1))).alloc (.cells e.cells.toArray 37)) wr.heap.size e (bump (cens es k) a) := by
        have c1 := hC.out.bump_ a
        rw [cens_getD es k (by omega)] at c1
        refine ⟨c1.alloc _, (hZ.out.far (by omega) a _).alloc _, (hB.out.setCell (by show w.heap.size ≤ w.heap.size + 1; omega) _).alloc (by rw [← hW0]; exact hB.out.size) _, ?_, hsz⟩
        have := heap_new (wr.setCell ⟨w.heap.size + 1, a, none⟩ (.int .i64 ((cnt es k a : Int) + 1))) (.cells e.cells.toArray 37)
        rw [← hW0] at this
        exact this
      clear hW0
      obtain ⟨W1, hW1⟩ : ∃ W, W = (wr.setCell ⟨w.heap.size + 1, a, none⟩ (.int .i64 ((cnt es k a : Int) + 1))).alloc (.cells e.cells.toArray 37) := ⟨_, rfl⟩
      rw [← hW1] at S1 ⊢
      have hStep := Lib.hid hstep
      have hx8 := cnt_le es k (8 + q)
      have hx24 := cnt_le es k (24 + m)
      have hx28 := cnt_le es k 28
      have hx29 := cnt_le es k 29
      clear hW1 hcell hfr hC hZ hB hg1 hr' hq hm ha hha hhq hhm hstep e0 hsz hxa
      have hE := Lib.hid S1
      obtain ⟨f0, f2, fm⟩ := S1.fld
      have k8 := S1.cell (i := 8 + q) (by omega) (x := (cnt es k (8 + q) : Int)) (by rw [bump_ne _ (by omega), cens_getD es k (by omega)])
      obtain ⟨g8, z8⟩ := k8
      obtain ⟨g24, z24⟩ := S1.cell (i := 24 + m) (by omega) (x := (cnt es k (24 + m) : Int)) (by rw [bump_ne _ (by omega), cens_getD es k (by omega)])
      obtain ⟨g28, z28⟩ := S1.cell (i := 28) (by omega) (x := (cnt es k 28 : Int)) (by rw [bump_ne _ (by omega), cens_getD es k (by omega)])
      clear S1
      have b29 : ∀ (L : List Nat), (∀ i ∈ L, i ≠ 29) → (L.foldl bump (cens es k)).getD 29 0 = (cnt es k 29 : Int) := by
        intro L hL
        have : ∀ (L : List Nat) (C : List Int), (∀ i ∈ L, i ≠ 29) → (L.foldl bump C).getD 29 0 = C.getD 29 0 := by
          intro L
          induction L with
          | nil => intro C _; rfl
          | cons i L ih => intro C h; rw [List.foldl_cons, ih _ (fun j hj => h j (List.mem_cons_of_mem _ hj)), bump_ne _ (h i List.mem_cons_self)]
        rw [this L _ hL, cens_getD es k (by omega)]
      have cS := Lib.hid (fun w3 (h : Below w.heap.size w w3) => safe_any es (some ⟨b, off, none⟩) n c (k : Int) w3 (by omega) (HH.out.keep h))
      by_cases h6 : e.kind = 6
      · as_aux_lemma =>
          have S2 := Lib.hid (hE.out.bump_ (8 + q) (cnt es k (8 + q) : Int) (by rw [bump_ne _ (by omega),  cens_getD es k (by omega)]))
          have hF : cens es (k + 1) = (if safe es k then [29] else []).foldl bump (bump (bump (cens es k) a) (8 + q)) := by
            rw [hStep.out]; simp only [h6, show ¬ ((6 : Int) = 2) by decide, show ¬ ((6 : Int) = 1) by decide, if_true, if_false, or_true, true_or, or_false, false_or, or_self, true_and, false_and, and_true, and_false, not_true, not_false_iff, not_false_eq_true, ne_eq, List.append_nil, List.foldl_append, List.foldl_cons, List.foldl_nil]
          have h29 := b29 [a, 8 + q] (by simp <;> omega)
          simp only [List.foldl_cons, List.foldl_nil] at h29
          have hF := Lib.hid hF
          have h29 := Lib.hid h29
          clear b29 hStep
          go_upto_region 14 with (go_at_call 49; refine (cQ.out _).mono ?_; rintro r w1 ⟨rfl, rfl⟩)
          generalize (W1).setCell ⟨w.heap.size + 1, 8 + q, none⟩ (Value.int .i64 (↑(cnt es k (8 + q)) + 1)) = W2 at S2 ⊢
          generalize bump (bump (cens es k) a) (8 + q) = C2 at S2 hF h29
          by_cases hs : safe es k = true
          · go_upto_region 15 with (go_at_call 28; first | (refine (cS.out _ S2.out.b).mono ?_; rintro r w1 ⟨rfl, hb1⟩; simp only [hs]))
            have S3 := S2.out.below hb1
            obtain ⟨g29, z29⟩ := S3.cell (i := 29) (by omega) h29.out
            have S4 := Lib.hid (S3.bump_ 29 _ h29.out)
            rw [hs, if_pos rfl] at hF
            clear S3 S2 hb1
            go_wp2_with fail
            go_roundw
            case rel => exact ⟨k + 1, by omega, by go_num, by rw [hF.out]; exact Lib.hid S4.out.c, Lib.hid S4.out.z, Lib.hid S4.out.b⟩
            case measure => simp [intOf]; omega
          · have hs' : safe es k = false := by simpa using hs
            go_wp2_with (go_at_call 28; first | (refine (cS.out _ S2.out.b).mono ?_; rintro r w1 ⟨rfl, hb1⟩; simp only [hs']))
            have S3 := Lib.hid (S2.out.below hb1)
            rw [hs', if_neg (by decide)] at hF
            clear S2 hb1
            go_roundw
            case rel => exact ⟨k + 1, by omega, by go_num, by rw [hF.out]; exact Lib.hid S3.out.c, Lib.hid S3.out.z, Lib.hid S3.out.b⟩
            case measure => simp [intOf]; omega
      · by_cases h2 : e.kind = 2
        · by_cases h0 : e.num = 0
          · as_aux_lemma =>
              have S2 := Lib.hid (hE.out.bump_ (24 + m) (cnt es k (24 + m) : Int) (by rw [bump_ne _ (by omega),  cens_getD es k (by omega)]))
              have hF : cens es (k + 1) = (if safe es k then [29] else []).foldl bump (bump (bump (cens es k) a) (24 + m)) := by
                rw [hStep.out]; simp only [h2, h0, show ¬ ((2 : Int) = 6) by decide, if_true, if_false, or_true, true_or, or_false, false_or, or_self, true_and, false_and, and_true, and_false, not_true, not_false_iff, not_false_eq_true, ne_eq, List.append_nil, List.foldl_append, List.foldl_cons, List.foldl_nil]
              have h29 := b29 [a, 24 + m] (by simp <;> omega)
              simp only [List.foldl_cons, List.foldl_nil] at h29
              have hF := Lib.hid hF
              have h29 := Lib.hid h29
              clear b29 hStep
              go_upto_region 14 with (go_at_call 49; refine (cM.out _).mono ?_; rintro r w1 ⟨rfl, rfl⟩)
              generalize (W1).setCell ⟨w.heap.size + 1, 24 + m, none⟩ (Value.int .i64 (↑(cnt es k (24 + m)) + 1)) = W2 at S2 ⊢
              generalize bump (bump (cens es k) a) (24 + m) = C2 at S2 hF h29
              by_cases hs : safe es k = true
              · go_upto_region 15 with (go_at_call 28; first | (refine (cS.out _ S2.out.b).mono ?_; rintro r w1 ⟨rfl, hb1⟩; simp only [hs]))
                have S3 := S2.out.below hb1
                obtain ⟨g29, z29⟩ := S3.cell (i := 29) (by omega) h29.out
                have S4 := Lib.hid (S3.bump_ 29 _ h29.out)
                rw [hs, if_pos rfl] at hF
                clear S3 S2 hb1
                go_wp2_with fail
                go_roundw
                case rel => exact ⟨k + 1, by omega, by go_num, by rw [hF.out]; exact Lib.hid S4.out.c, Lib.hid S4.out.z, Lib.hid S4.out.b⟩
                case measure => simp [intOf]; omega
              · have hs' : safe es k = false := by simpa using hs
                go_wp2_with (go_at_call 28; first | (refine (cS.out _ S2.out.b).mono ?_; rintro r w1 ⟨rfl, hb1⟩; simp only [hs']))
                have S3 := Lib.hid (S2.out.below hb1)
                rw [hs', if_neg (by decide)] at hF
                clear S2 hb1
                go_roundw
                case rel => exact ⟨k + 1, by omega, by go_num, by rw [hF.out]; exact Lib.hid S3.out.c, Lib.hid S3.out.z, Lib.hid S3.out.b⟩
                case measure => simp [intOf]; omega
          · as_aux_lemma =>
              have S0' := Lib.hid (hE.out.bump_ (24 + m) (cnt es k (24 + m) : Int) (by rw [bump_ne _ (by omega),  cens_getD es k (by omega)]))
              have S2 := Lib.hid (S0'.out.bump_ (28) (cnt es k (28) : Int) (by rw [bump_ne _ (by omega), bump_ne _ (by omega),  cens_getD es k (by omega)]))
              have hF : cens es (k + 1) = (if safe es k then [29] else []).foldl bump (bump (bump (bump (cens es k) a) (24 + m)) (28)) := by
                rw [hStep.out]; simp only [h2, h0, show ¬ ((2 : Int) = 6) by decide, if_true, if_false, or_true, true_or, or_false, false_or, or_self, true_and, false_and, and_true, and_false, not_true, not_false_iff, not_false_eq_true, ne_eq, List.append_nil, List.foldl_append, List.foldl_cons, List.foldl_nil]
              have h29 := b29 [a, 24 + m, 28] (by simp <;> omega)
              simp only [List.foldl_cons, List.foldl_nil] at h29
              have hF := Lib.hid hF
              have h29 := Lib.hid h29
              clear b29 hStep
              obtain ⟨g1, z1⟩ := S0'.out.cell (i := 28) (by omega) (x := (cnt es k (28) : Int)) (by rw [bump_ne _ (by omega), bump_ne _ (by omega),  cens_getD es k (by omega)])
              go_upto_region 14 with (go_at_call 49; refine (cM.out _).mono ?_; rintro r w1 ⟨rfl, rfl⟩)
              generalize ((W1).setCell ⟨w.heap.size + 1, 24 + m, none⟩ (Value.int .i64 (↑(cnt es k (24 + m)) + 1))).setCell ⟨w.heap.size + 1, 28, none⟩ (Value.int .i64 (↑(cnt es k (28)) + 1)) = W2 at S2 ⊢
              generalize bump (bump (bump (cens es k) a) (24 + m)) (28) = C2 at S2 hF h29
              by_cases hs : safe es k = true
              · go_upto_region 15 with (go_at_call 28; first | (refine (cS.out _ S2.out.b).mono ?_; rintro r w1 ⟨rfl, hb1⟩; simp only [hs]))
                have S3 := S2.out.below hb1
                obtain ⟨g29, z29⟩ := S3.cell (i := 29) (by omega) h29.out
                have S4 := Lib.hid (S3.bump_ 29 _ h29.out)
                rw [hs, if_pos rfl] at hF
                clear S3 S2 hb1
                go_wp2_with fail
                go_roundw
                case rel => exact ⟨k + 1, by omega, by go_num, by rw [hF.out]; exact Lib.hid S4.out.c, Lib.hid S4.out.z, Lib.hid S4.out.b⟩
                case measure => simp [intOf]; omega
              · have hs' : safe es k = false := by simpa using hs
                go_wp2_with (go_at_call 28; first | (refine (cS.out _ S2.out.b).mono ?_; rintro r w1 ⟨rfl, hb1⟩; simp only [hs']))
                have S3 := Lib.hid (S2.out.below hb1)
                rw [hs', if_neg (by decide)] at hF
                clear S2 hb1
                go_roundw
                case rel => exact ⟨k + 1, by omega, by go_num, by rw [hF.out]; exact Lib.hid S3.out.c, Lib.hid S3.out.z, Lib.hid S3.out.b⟩
                case measure => simp [intOf]; omega
        · by_cases h1 : e.kind = 1
          · by_cases h0 : e.num = 0
            · as_aux_lemma =>
                have S2 := Lib.hid hE.out
                have hF : cens es (k + 1) = (if safe es k then [29] else []).foldl bump (bump (cens es k) a) := by
                  rw [hStep.out]; simp only [h1, h0, show ¬ ((1 : Int) = 6) by decide, show ¬ ((1 : Int) = 2) by decide, if_true, if_false, or_true, true_or, or_false, false_or, or_self, true_and, false_and, and_true, and_false, not_true, not_false_iff, not_false_eq_true, ne_eq, List.append_nil, List.foldl_append, List.foldl_cons, List.foldl_nil]
                have h29 := b29 [a] (by simp <;> omega)
                simp only [List.foldl_cons, List.foldl_nil] at h29
                have hF := Lib.hid hF
                have h29 := Lib.hid h29
                clear b29 hStep
                go_upto_region 14 with fail
                generalize bump (cens es k) a = C2 at S2 hF h29
                by_cases hs : safe es k = true
                · go_upto_region 15 with (go_at_call 28; first | (refine (cS.out _ S2.out.b).mono ?_; rintro r w1 ⟨rfl, hb1⟩; simp only [hs]))
                  have S3 := S2.out.below hb1
                  obtain ⟨g29, z29⟩ := S3.cell (i := 29) (by omega) h29.out
                  have S4 := Lib.hid (S3.bump_ 29 _ h29.out)
                  rw [hs, if_pos rfl] at hF
                  clear S3 S2 hb1
                  go_wp2_with fail
                  go_roundw
                  case rel => exact ⟨k + 1, by omega, by go_num, by rw [hF.out]; exact Lib.hid S4.out.c, Lib.hid S4.out.z, Lib.hid S4.out.b⟩
                  case measure => simp [intOf]; omega
                · have hs' : safe es k = false := by simpa using hs
                  go_wp2_with (go_at_call 28; first | (refine (cS.out _ S2.out.b).mono ?_; rintro r w1 ⟨rfl, hb1⟩; simp only [hs']))
                  have S3 := Lib.hid (S2.out.below hb1)
                  rw [hs', if_neg (by decide)] at hF
                  clear S2 hb1
                  go_roundw
                  case rel => exact ⟨k + 1, by omega, by go_num, by rw [hF.out]; exact Lib.hid S3.out.c, Lib.hid S3.out.z, Lib.hid S3.out.b⟩
                  case measure => simp [intOf]; omega
            · as_aux_lemma =>
                have S2 := Lib.hid (hE.out.bump_ (28) (cnt es k (28) : Int) (by rw [bump_ne _ (by omega),  cens_getD es k (by omega)]))
                have hF : cens es (k + 1) = (if safe es k then [29] else []).foldl bump (bump (bump (cens es k) a) (28)) := by
                  rw [hStep.out]; simp only [h1, h0, show ¬ ((1 : Int) = 6) by decide, show ¬ ((1 : Int) = 2) by decide, if_true, if_false, or_true, true_or, or_false, false_or, or_self, true_and, false_and, and_true, and_false, not_true, not_false_iff, not_false_eq_true, ne_eq, List.append_nil, List.foldl_append, List.foldl_cons, List.foldl_nil]
                have h29 := b29 [a, 28] (by simp <;> omega)
                simp only [List.foldl_cons, List.foldl_nil] at h29
                have hF := Lib.hid hF
                have h29 := Lib.hid h29
                clear b29 hStep
                go_upto_region 14 with fail
                generalize (W1).setCell ⟨w.heap.size + 1, 28, none⟩ (Value.int .i64 (↑(cnt es k (28)) + 1)) = W2 at S2 ⊢
                generalize bump (bump (cens es k) a) (28) = C2 at S2 hF h29
                by_cases hs : safe es k = true
                · go_upto_region 15 with (go_at_call 28; first | (refine (cS.out _ S2.out.b).mono ?_; rintro r w1 ⟨rfl, hb1⟩; simp only [hs]))
                  have S3 := S2.out.below hb1
                  obtain ⟨g29, z29⟩ := S3.cell (i := 29) (by omega) h29.out
                  have S4 := Lib.hid (S3.bump_ 29 _ h29.out)
                  rw [hs, if_pos rfl] at hF
                  clear S3 S2 hb1
                  go_wp2_with fail
                  go_roundw
                  case rel => exact ⟨k + 1, by omega, by go_num, by rw [hF.out]; exact Lib.hid S4.out.c, Lib.hid S4.out.z, Lib.hid S4.out.b⟩
                  case measure => simp [intOf]; omega
                · have hs' : safe es k = false := by simpa using hs
                  go_wp2_with (go_at_call 28; first | (refine (cS.out _ S2.out.b).mono ?_; rintro r w1 ⟨rfl, hb1⟩; simp only [hs']))
                  have S3 := Lib.hid (S2.out.below hb1)
                  rw [hs', if_neg (by decide)] at hF
                  clear S2 hb1
                  go_roundw
                  case rel => exact ⟨k + 1, by omega, by go_num, by rw [hF.out]; exact Lib.hid S3.out.c, Lib.hid S3.out.z, Lib.hid S3.out.b⟩
                  case measure => simp [intOf]; omega
          · as_aux_lemma =>
              have S2 := Lib.hid hE.out
              have hF : cens es (k + 1) = (if safe es k then [29] else []).foldl bump (bump (cens es k) a) := by
                rw [hStep.out]; simp only [h1, h2, h6, if_true, if_false, or_true, true_or, or_false, false_or, or_self, true_and, false_and, and_true, and_false, not_true, not_false_iff, not_false_eq_true, ne_eq, List.append_nil, List.foldl_append, List.foldl_cons, List.foldl_nil]
              have h29 := b29 [a] (by simp <;> omega)
              simp only [List.foldl_cons, List.foldl_nil] at h29
              have hF := Lib.hid hF
              have h29 := Lib.hid h29
              clear b29 hStep
              go_upto_region 14 with fail
              generalize bump (cens es k) a = C2 at S2 hF h29
              by_cases hs : safe es k = true
              · go_upto_region 15 with (go_at_call 28; first | (refine (cS.out _ S2.out.b).mono ?_; rintro r w1 ⟨rfl, hb1⟩; simp only [hs]))
                have S3 := S2.out.below hb1
                obtain ⟨g29, z29⟩ := S3.cell (i := 29) (by omega) h29.out
                have S4 := Lib.hid (S3.bump_ 29 _ h29.out)
                rw [hs, if_pos rfl] at hF
                clear S3 S2 hb1
                go_wp2_with fail
                go_roundw
                case rel => exact ⟨k + 1, by omega, by go_num, by rw [hF.out]; exact Lib.hid S4.out.c, Lib.hid S4.out.z, Lib.hid S4.out.b⟩
                case measure => simp [intOf]; omega
              · have hs' : safe es k = false := by simpa using hs
                go_wp2_with (go_at_call 28; first | (refine (cS.out _ S2.out.b).mono ?_; rintro r w1 ⟨rfl, hb1⟩; simp only [hs']))
                have S3 := Lib.hid (S2.out.below hb1)
                rw [hs', if_neg (by decide)] at hF
                clear S2 hb1
                go_roundw
                case rel => exact ⟨k + 1, by omega, by go_num, by rw [hF.out]; exact Lib.hid S3.out.c, Lib.hid S3.out.z, Lib.hid S3.out.b⟩
                case measure => simp [intOf]; omega
    · have hkn : k = n := by omega
      subst hkn
      have hl3 := hC.out.1
      have hl2 := hZ.out.1
      go_wp2_with (first
        | (refine wpList_load_at 64 _ rfl rfl (w.heap.size + 1) 0 rfl ((cens es k).map (Value.int .i64)) _ (rangeAt_list hl3) Try.underlying64 rfl (by rw [List.length_map, cens_len]; kernel_rfl) ?_)
        | (refine wpList_store_at 64 _ _ rfl rfl w.heap.size (ci (cens es k)) rfl rfl 64 (ci (List.replicate 30 0)) hl2 (by unfold ci; rw [List.size_toArray, List.length_map, cens_len]; kernel_rfl) (by unfold ci; simp [cens_len]) (ci_one _) ?_))
      refine bodyPost_ret (results_cell_row rfl _ _ w.heap.size 64 (ci (cens es k)) (0, 0) _ rfl (heap_setRow_same wr _ _ _ _ _ hl2) Try.underlying64 rfl (by unfold ci; rw [List.size_toArray, List.length_map, cens_len]; kernel_rfl)) rfl ⟨rfl, below_setRow hB.out (Nat.le_refl _) _⟩
end Go.Proofs.Ytkgkpoiacbjdfaa
