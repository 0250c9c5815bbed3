/- The census of a list and of its parts; the walk of Sum. -/
import Derived.Test.YtbokdbppjiegjaaCnO
import Derived.StillTailTactics
namespace Go.Proofs.Ytbokdbppjiegjaa
open Go.RowKit

/-! ### Plain laws: the counts of a list are the sums of those of its parts -/
def base (e : Ev) : List Nat :=
  [(win e.kind 7).toNat] ++ (if e.kind = 6 then [8 + (win e.num 15).toNat] else []) ++ (if e.kind = 2 then [24 + (win e.dn.method 3).toNat] else []) ++
  (if (e.kind = 2 ∨ e.kind = 1) ∧ e.num ≠ 0 then [28] else [])
theorem hits_base (es : List Ev) (k : Nat) (e : Ev) {i : Nat} (hi : i < 29) : (hits es k e).contains i = (base e).contains i := by
  have hh : hits es k e = base e ++ (if safe es k then [29] else []) := rfl
  rw [hh, Bool.eq_iff_iff, List.contains_iff_mem, List.contains_iff_mem, List.mem_append]
  constructor
  · rintro (h | h)
    · exact h
    · split at h
      · simp at h; omega
      · simp at h
  · exact .inl
theorem cnt_base (es : List Ev) {i : Nat} (hi : i < 29) : cnt es es.length i = es.countP (fun e => (base e).contains i) := by
  have := cnt_countP es i (fun e => (base e).contains i) (fun k e he => by rw [hitAt_of he, hits_base es k e hi]) es.length (Nat.le_refl _)
  rw [this, List.take_length]
theorem cnt_append (es ms : List Ev) {i : Nat} (hi : i < 29) : cnt (es ++ ms) (es ++ ms).length i = cnt es es.length i + cnt ms ms.length i := by
  rw [cnt_base _ hi, cnt_base _ hi, cnt_base _ hi, List.countP_append]
theorem hitSafe {es : List Ev} {k : Nat} (hk : k < es.length) : hitAt es 29 k = safe es k := by rw [hitAt_of (List.getElem?_eq_getElem hk), hits_29]
theorem cnt_first (es ms : List Ev) : ∀ k, k ≤ es.length → cnt (es ++ ms) k 29 = cnt es k 29 := by
  intro k
  induction k with
  | zero => intro _; rfl
  | succ k ih =>
    intro hk
    have h1 : safe (es ++ ms) k = safe es k := by
      unfold safe
      rw [if_neg (by omega), if_neg (by omega), Int.toNat_natCast, List.getElem?_append_left (by omega)]
      rw [List.getElem?_eq_getElem (show k < es.length by omega)]
      simp only [kept_eq]
      have : ahead (es ++ ms) es[k].who k = ahead es es[k].who k := by
        unfold ahead
        rw [Int.toNat_natCast, List.take_append_of_le_length (by omega)]
      rw [this]
    rw [cnt_succ, cnt_succ, ih (by omega), hitSafe (by rw [List.length_append]; omega), hitSafe (by omega), h1]
theorem safe_shift (es ms : List Ev) {j : Nat} (hj : j < ms.length) :
    safe (es ++ ms) ((es.length + j : Nat) : Int) = (safe ms j && !es.any (isTaken ms[j].who)) := by
  unfold safe
  rw [if_neg (by omega), if_neg (by omega), Int.toNat_natCast, Int.toNat_natCast, List.getElem?_append_right (by omega), show es.length + j - es.length = j by omega, List.getElem?_eq_getElem hj]
  simp only [kept_eq]
  have : ahead (es ++ ms) ms[j].who ((es.length + j : Nat) : Int) = (es.any (isTaken ms[j].who) || ahead ms ms[j].who j) := by
    unfold ahead
    rw [Int.toNat_natCast, Int.toNat_natCast, List.take_append, List.any_append, List.take_of_length_le (by omega), show es.length + j - es.length = j by omega]
  rw [this]
  generalize es.any (isTaken ms[j].who) = p
  generalize ahead ms ms[j].who j = q
  generalize (ms[j].kind == 2 || ms[j].kind == 4) = r
  cases p <;> cases q <;> cases r <;> rfl
theorem cnt_safe_le (es ms : List Ev) : ∀ j, j ≤ ms.length → cnt (es ++ ms) (es.length + j) 29 ≤ cnt es es.length 29 + cnt ms j 29 := by
  intro j
  induction j with
  | zero => intro _; rw [Nat.add_zero, cnt_first es ms _ (Nat.le_refl _)]; simp [cnt]
  | succ j ih =>
    intro hj
    have h1 := ih (by omega)
    rw [show es.length + (j + 1) = (es.length + j) + 1 by omega, cnt_succ, cnt_succ, hitSafe (by rw [List.length_append]; omega), hitSafe (by omega), safe_shift es ms (by omega)]
    cases safe ms j <;> cases es.any (isTaken ms[j].who) <;> simp <;> omega
theorem cnt_safe_eq (es ms : List Ev) (h : es.any (fun e => e.kind == 7) = false) : ∀ j, j ≤ ms.length → cnt (es ++ ms) (es.length + j) 29 = cnt es es.length 29 + cnt ms j 29 := by
  intro j
  induction j with
  | zero => intro _; rw [Nat.add_zero, cnt_first es ms _ (Nat.le_refl _)]; simp [cnt]
  | succ j ih =>
    intro hj
    have h1 := ih (by omega)
    have h2 : es.any (isTaken ms[j].who) = false := by
      rw [List.any_eq_false] at h ⊢
      intro x hx
      have := h x hx
      unfold isTaken
      simp only [Bool.not_eq_true] at this ⊢
      rw [this]; rfl
    rw [show es.length + (j + 1) = (es.length + j) + 1 by omega, cnt_succ, cnt_succ, hitSafe (by rw [List.length_append]; omega), hitSafe (by omega), safe_shift es ms (by omega), h2]
    cases safe ms j <;> simp <;> omega

/-! ### Sum -/
def mix (C D : List Int) (m : Nat) : List Int := (List.range 30).map fun i => if i < m then C.getD i 0 + D.getD i 0 else C.getD i 0
theorem mix_len (C D : List Int) (m : Nat) : (mix C D m).length = 30 := by simp [mix]
theorem mix_getD (C D : List Int) (m : Nat) {i : Nat} (hi : i < 30) : (mix C D m).getD i 0 = if i < m then C.getD i 0 + D.getD i 0 else C.getD i 0 := by
  rw [List.getD_eq_getElem?_getD]
  unfold mix
  rw [List.getElem?_map, List.getElem?_range hi]
  rfl
theorem mix_zero {C : List Int} (D : List Int) (h : C.length = 30) : mix C D 0 = C := by
  apply List.ext_getElem?
  intro i
  by_cases hi : i < 30
  · unfold mix
    rw [List.getElem?_map, List.getElem?_range hi]
    simp [List.getElem?_eq_getElem (show i < C.length by omega)]
  · rw [List.getElem?_eq_none (by rw [mix_len]; omega), List.getElem?_eq_none (by omega)]
theorem mix_succ (C D : List Int) {m : Nat} (hm : m < 30) : (mix C D m).set m (C.getD m 0 + D.getD m 0) = mix C D (m + 1) := by
  apply List.ext_getElem?
  intro i
  by_cases hi : i < 30
  · rw [List.getElem?_set]
    unfold mix
    simp only [List.getElem?_map, List.getElem?_range hi, List.length_map, List.length_range]
    by_cases e : m = i
    · subst e; simp [hi]
    · simp only [e, if_false, Option.map_some]
      by_cases h2 : i < m
      · simp [h2, show i < m + 1 by omega]
      · simp [h2, show ¬ i < m + 1 by omega]
  · rw [List.getElem?_eq_none (by rw [List.length_set, mix_len]; omega), List.getElem?_eq_none (by rw [mix_len]; omega)]
theorem CB.put {w : World} {g : Nat} {C : List Int} (h : CB w g C) (i : Nat) (x : Int) : CB (w.setCell ⟨g, i, none⟩ (.int .i64 x)) g (C.set i x) := by
  refine ⟨?_, by rw [List.length_set]; exact h.2⟩
  rw [heap_setCell_same w g i _ _ _ h.1]
  unfold ci
  congr 2
  simp
/-- What Sum's rounds keep. -/
structure SSt (w W : World) (C D : List Int) (m : Nat) : Prop where
  c : CB W w.heap.size (mix C D m)
  d : CB W (w.heap.size + 1) D
  z : CB W (w.heap.size + 1 + 1) (List.replicate 30 0)
  b : Below w.heap.size w W
theorem SSt.drew {w W : World} {C D : List Int} {m : Nat} (h : SSt w W C D m) : SSt w W.drew C D m :=
  ⟨h.c.below (drewN_below 1), h.d.below (drewN_below 1), h.z.below (drewN_below 1), h.b.trans (Below.mono (drewN_below 1) h.b.size)⟩
theorem SSt.step {w W : World} {C D : List Int} {m : Nat} (h : SSt w W C D m) (hm : m < 30) : SSt w (W.setCell ⟨w.heap.size, m, none⟩ (.int .i64 (C.getD m 0 + D.getD m 0))) C D (m + 1) := by
  have h1 := h.c.put m (C.getD m 0 + D.getD m 0)
  rw [mix_succ C D hm] at h1
  exact ⟨h1, h.d.far (by omega) _ _, h.z.far (by omega) _ _, h.b.setCell (Nat.le_refl _) _⟩
theorem SSt.at_ {w W : World} {C D : List Int} {m : Nat} (h : SSt w W C D m) (hm : m < 30) : W.cell? ⟨w.heap.size, m, none⟩ = some (.int .i64 (C.getD m 0)) ∧ W.frozen? ⟨w.heap.size, m, none⟩ = false ∧ W.cell? ⟨w.heap.size + 1, m, none⟩ = some (.int .i64 (D.getD m 0)) := by
  obtain ⟨h1, h2⟩ := h.c.cell hm
  rw [mix_getD C D m hm, if_neg (by omega)] at h1
  exact ⟨h1, h2, (h.d.cell hm).1⟩
set_option maxRecDepth 1000000 in
set_option maxHeartbeats 4000000 in
theorem sum_any (C D : List Int) (w : World) (hC : C.length = 30) (hD : D.length = 30) (hc : ∀ i, 0 ≤ C.getD i 0 ∧ C.getD i 0 ≤ 1000000) (hd : ∀ i, 0 ≤ D.getD i 0 ∧ D.getD i 0 ≤ 1000000) :
    Calls Try.prog 17 #[.agg (ci C), .agg (ci D)] w fun r w' => r = .returned (.agg (ci (mix C D 30))) ∧ Below w.heap.size w w' := by
  have hS : SSt w (((w.alloc (.cells (ci C) 29)).alloc (.cells (ci D) 29)).alloc (.cells cenZ 29)) C D 0 := by
    have a1 : CB (w.alloc (.cells (ci C) 29)) w.heap.size C := ⟨heap_new w _, hC⟩
    have a2 : CB ((w.alloc (.cells (ci C) 29)).alloc (.cells (ci D) 29)) (w.heap.size + 1) D := ⟨by have := heap_new (w.alloc (.cells (ci C) 29)) (.cells (ci D) 29); simpa using this, hD⟩
    have a3 : CB (((w.alloc (.cells (ci C) 29)).alloc (.cells (ci D) 29)).alloc (.cells cenZ 29)) (w.heap.size + 1 + 1) (List.replicate 30 0) := ⟨by have := heap_new ((w.alloc (.cells (ci C) 29)).alloc (.cells (ci D) 29)) (.cells cenZ 29); simpa [cenZ] using this, by simp⟩
    exact ⟨by rw [mix_zero D hC]; exact (a1.alloc _).alloc _, a2.alloc _, a3, (((Below.refl _ _).alloc (Nat.le_refl _) _).alloc (by simp) _).alloc (by simp; omega) _⟩
  have hS := Lib.hid hS
  have hc := Lib.hid hc
  have hd := Lib.hid hd
  go_enter Try.func17, Try.ntmps17
  go_wp2_with (first
    | (refine wpList_box_row 29 (.tmp 0) rfl rfl (ci C) rfl ?_)
    | (refine wpList_box_row 29 (.tmp 1) rfl rfl (ci D) rfl ?_)
    | (refine wpList_alloc_row 29 rfl rfl cenZ cen_zero ?_))
  go_loopw [5, 8] (fun _ i wr => ∃ k : Nat, k ≤ 8 ∧ i = .int .i64 k ∧ Hid (SSt w wr C D k)) (fun _ i _ => 8 - (intOf i).toNat)
  case atStart => exact ⟨0, by omega, rfl, hS⟩
  case round =>
    obtain ⟨k, hk, rfl, hS⟩ := hrel
    by_cases hlt : k < 8
    · as_aux_lemma =>
        obtain ⟨c1, c2, c3⟩ := hS.out.drew.at_ (show k < 30 by omega)
        obtain ⟨b1, b2⟩ := hc.out k
        obtain ⟨b3, b4⟩ := hd.out k
        have hN := Lib.hid (hS.out.drew.step (show k < 30 by omega))
        generalize C.getD k 0 = x at c1 b1 b2 hN
        generalize D.getD k 0 = y at c3 b3 b4 hN
        have hl0 : (0 : Int) ≤ (k : Int) := by omega
        have hl1 : (k : Int) < 8 := by omega
        go_wp2_with fail
        go_still_tail 11, (by kernel_rfl)
        change wpList _ _ _ _ _ wr.drew
        generalize wr.drew = w2 at c1 c2 c3 hN ⊢
        go_wp2_with fail
        go_roundw
        case rel => exact ⟨k + 1, by omega, by go_num, hN⟩
        case measure => simp [intOf]; omega
    · have hS2 := Lib.hid (show SSt w wr C D (8 + 0) by have h := hS.out; rwa [show k = 8 + 0 by omega] at h)
      clear hS
      go_wp2_with fail
      go_loopw [6, 23] (fun _ i wr => ∃ k : Nat, k ≤ 16 ∧ i = .int .i64 k ∧ Hid (SSt w wr C D (8 + k))) (fun _ i _ => 16 - (intOf i).toNat)
      case atStart => exact ⟨0, by omega, rfl, hS2⟩
      case round =>
        obtain ⟨k2, hk2, rfl, hS⟩ := hrel
        by_cases hlt2 : k2 < 16
        · as_aux_lemma =>
            obtain ⟨c1, c2, c3⟩ := hS.out.drew.at_ (show 8 + k2 < 30 by omega)
            obtain ⟨b1, b2⟩ := hc.out (8 + k2)
            obtain ⟨b3, b4⟩ := hd.out (8 + k2)
            have hN := Lib.hid (hS.out.drew.step (show 8 + k2 < 30 by omega))
            generalize C.getD (8 + k2) 0 = x at c1 b1 b2 hN
            generalize D.getD (8 + k2) 0 = y at c3 b3 b4 hN
            have hl0 : (0 : Int) ≤ (k2 : Int) := by omega
            have hl1 : (k2 : Int) < 16 := by omega
            go_wp2_with fail
            go_still_tail 11, (by kernel_rfl)
            change wpList _ _ _ _ _ wr.drew
            generalize wr.drew = w2 at c1 c2 c3 hN ⊢
            go_wp2_with fail
            go_roundw
            case rel => exact ⟨k2 + 1, by omega, by go_num, hN⟩
            case measure => simp [intOf]; omega
        · have hS3 := Lib.hid (show SSt w wr C D (24 + 0) by have h := hS.out; rwa [show 8 + k2 = 24 + 0 by omega] at h)
          clear hS hS2
          go_wp2_with fail
          go_loopw [7, 38] (fun _ i wr => ∃ k : Nat, k ≤ 4 ∧ i = .int .i64 k ∧ Hid (SSt w wr C D (24 + k))) (fun _ i _ => 4 - (intOf i).toNat)
          case atStart => exact ⟨0, by omega, rfl, hS3⟩
          case round =>
            obtain ⟨k3, hk3, rfl, hS⟩ := hrel
            by_cases hlt3 : k3 < 4
            · as_aux_lemma =>
                obtain ⟨c1, c2, c3⟩ := hS.out.drew.at_ (show 24 + k3 < 30 by omega)
                obtain ⟨b1, b2⟩ := hc.out (24 + k3)
                obtain ⟨b3, b4⟩ := hd.out (24 + k3)
                have hN := Lib.hid (hS.out.drew.step (show 24 + k3 < 30 by omega))
                generalize C.getD (24 + k3) 0 = x at c1 b1 b2 hN
                generalize D.getD (24 + k3) 0 = y at c3 b3 b4 hN
                have hl0 : (0 : Int) ≤ (k3 : Int) := by omega
                have hl1 : (k3 : Int) < 4 := by omega
                go_wp2_with fail
                go_still_tail 11, (by kernel_rfl)
                change wpList _ _ _ _ _ wr.drew
                generalize wr.drew = w2 at c1 c2 c3 hN ⊢
                go_wp2_with fail
                go_roundw
                case rel => exact ⟨k3 + 1, by omega, by go_num, hN⟩
                case measure => simp [intOf]; omega
            · as_aux_lemma =>
                have hS28 := (show SSt w wr C D 28 by have h := hS.out; rwa [show 24 + k3 = 28 by omega] at h)
                clear hS hS3
                obtain ⟨c1, c2, c3⟩ := hS28.at_ (show 28 < 30 by omega)
                obtain ⟨b1, b2⟩ := hc.out 28
                obtain ⟨b3, b4⟩ := hd.out 28
                have hS29 := hS28.step (show 28 < 30 by omega)
                obtain ⟨d1, d2, d3⟩ := hS29.at_ (show 29 < 30 by omega)
                have hS30 := hS29.step (show 29 < 30 by omega)
                obtain ⟨e1, e2⟩ := hc.out 29
                obtain ⟨e3, e4⟩ := hd.out 29
                have hN := Lib.hid hS30
                clear hS28 hS29 hS30
                generalize C.getD 28 0 = x at c1 b1 b2 d1 d2 d3 hN
                generalize D.getD 28 0 = y at c3 b3 b4 d1 d2 d3 hN
                generalize C.getD 29 0 = x2 at d1 e1 e2 hN
                generalize D.getD 29 0 = y2 at d3 e3 e4 hN
                go_upto_region 17 with (fail)
                generalize wr.setCell ⟨w.heap.size, 28, none⟩ (.int .i64 (x + y)) = wA at d1 d2 d3 hN ⊢
                go_upto_region 18 with (fail)
                generalize wA.setCell ⟨w.heap.size, 29, none⟩ (.int .i64 (x2 + y2)) = wB at hN ⊢
                clear c1 c2 c3 d1 d2 d3
                have hl3 := hN.out.c.1
                have hl2 := hN.out.z.1
                have hB := Lib.hid hN.out.b
                have hml := mix_len C D 30
                go_wp2_with (first
                  | (refine wpList_load_at 29 _ rfl rfl w.heap.size 0 rfl ((mix C D 30).map (Value.int .i64)) _ (rangeAt_list hl3) Try.underlying29 rfl (by rw [List.length_map, hml]; kernel_rfl) ?_)
                  | (refine wpList_store_at 29 _ _ rfl rfl (w.heap.size + 1 + 1) (ci (mix C D 30)) rfl rfl 29 (ci (List.replicate 30 0)) hl2 (by unfold ci; rw [List.size_toArray, List.length_map, hml]; kernel_rfl) (by unfold ci; simp [hml]) (ci_one _) ?_))
                refine bodyPost_ret (results_cell_row rfl _ _ (w.heap.size + 1 + 1) 29 (ci (mix C D 30)) (0, 0) _ rfl (heap_setRow_same wB _ _ _ _ _ hl2) Try.underlying29 rfl (by unfold ci; rw [List.size_toArray, List.length_map, hml]; kernel_rfl)) rfl ⟨rfl, below_setRow hB.out (by omega) _⟩
end Go.Proofs.Ytbokdbppjiegjaa
