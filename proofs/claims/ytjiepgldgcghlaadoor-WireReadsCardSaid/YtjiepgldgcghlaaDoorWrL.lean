/- The two readers, act for act: what one reads the other reads. -/
import Derived.Test.YtjiepgldgcghlaaDoorWrK
namespace Go.Proofs.YtjiepgldgcghlaaDoor
open Go.RowKit

section
variable (g : Nat) (s : ByteArray) (k : Nat)
set_option maxHeartbeats 1000000 in
theorem rBytes_in {n : Int} {Q : Ending → World → Prop} {e : Int} (w : World) (h : RD w g s k e) (hs : s.size ≤ 1000000) (hk : k ≤ s.size) (hn : n ≤ ((s.size - k : Nat) : Int))
    (c : ∀ W, RD W g s k e → Chg w W g → Calls Tryd.prog 54 #[.pointer (some ⟨g, 0, none⟩), .int .i64 0, .int .i64 n, fv 55] W (fun r w' => ∃ t, r = .returned (.string t) ∧ Q (.returned (.string t)) w')) :
    Calls Tryd.prog 40 #[.pointer (some ⟨g, 0, none⟩), .int .i64 n] w Q := by
  have cL := Lib.hid (left_any g s k e w h hs hk)
  have cT := Lib.hid (fun q => c (w.drewN q) (h.keep (drewN_below q)) (chg_of (drewN_below q) (Nat.le_of_lt h.lt)))
  have hn' : ¬ (((s.size - k : Nat) : Int) < n) := by omega
  generalize s.size - k = L at cL hn'
  clear c h hn
  go_enter Tryd.func40, Tryd.ntmps40
  go_wp2_with (first
    | (go_at_call 14; refine cL.out.mono ?_; rintro r w1 ⟨rfl, q, rfl⟩)
    | (go_at_call 54; refine (cT.out q).mono ?_; rintro r w1 ⟨t, rfl, hQ⟩; have hQ := Lib.hid hQ))
  exact hQ.out
set_option maxHeartbeats 1000000 in
theorem rBytes_over {n : Int} {Q : Ending → World → Prop} {e : Int} (w : World) (h : RD w g s k e) (hs : s.size ≤ 1000000) (hk : k ≤ s.size) (hn : ((s.size - k : Nat) : Int) < n)
    (c : ∀ W, RD W g s k e → Chg w W g → Calls Tryd.prog 54 #[.pointer (some ⟨g, 0, none⟩), .int .i64 0, .int .i64 (-1), fv 55] W (fun r w' => ∃ t, r = .returned (.string t) ∧ Q (.returned (.string t)) w')) :
    Calls Tryd.prog 40 #[.pointer (some ⟨g, 0, none⟩), .int .i64 n] w Q := by
  have cL := Lib.hid (left_any g s k e w h hs hk)
  have cT := Lib.hid (fun q => c (w.drewN q) (h.keep (drewN_below q)) (chg_of (drewN_below q) (Nat.le_of_lt h.lt)))
  generalize s.size - k = L at cL hn
  clear c h
  go_enter Tryd.func40, Tryd.ntmps40
  go_wp2_with (first
    | (go_at_call 14; refine cL.out.mono ?_; rintro r w1 ⟨rfl, q, rfl⟩)
    | (go_at_call 54; refine (cT.out q).mono ?_; rintro r w1 ⟨t, rfl, hQ⟩; have hQ := Lib.hid hQ))
  exact hQ.out
end

/-- Both yield mk x and stand alike behind it. -/
def Sim {α : Type} (mk : α → Value) (fw fr : Nat) (A : Value → Array Value) (Y : ByteArray) (k : Nat) (e : Int) : Prop :=
  ∃ x k' e', k' ≤ Y.size ∧
    (∀ g W, RD W g Y k e → Calls Tryd.prog fw (A (.pointer (some ⟨g, 0, none⟩))) W fun r w' => r = .returned (mk x) ∧ RD w' g Y k' e' ∧ Chg W w' g) ∧
    (∀ g W, RQ W g (Y.extract k Y.size) e → Calls Tryd.prog fr (A (.pointer (some ⟨g, 0, none⟩))) W fun r w' => r = .returned (mk x) ∧ RQ w' g (Y.extract k' Y.size) e' ∧ Chg W w' g)

section
variable (Y : ByteArray) (k : Nat) (e : Int)
theorem left_size (hk : k ≤ Y.size) : (Y.extract k Y.size).size = Y.size - k := by rw [ByteArray.size_extract]; omega
theorem ee (a b c d : Nat) (h : a + d ≤ b) : (Y.extract a b).extract c d = Y.extract (a + c) (a + d) := by
  rw [ByteArray.extract_extract, Nat.min_eq_left h]

theorem take_err' (f : Nat) (g : Nat) (n : Int) (W : World) (h : RD W g Y k e) (he : e ≠ 0) :
    Calls Tryd.prog 54 #[.pointer (some ⟨g, 0, none⟩), .int .i64 0, .int .i64 n, fv f] W fun r w' => r = .returned (.string ⟨#[]⟩) ∧ RD w' g Y k e ∧ Chg W w' g :=
  (take_err g Y k f e 0 n W h he).mono fun r w' ⟨h1, h2⟩ => by subst h2; exact ⟨h1, h, Chg.refl W (Nat.le_of_lt h.lt)⟩
theorem qBytes_err' (g : Nat) (n : Int) (S : ByteArray) (W : World) (h : RQ W g S e) (he : e ≠ 0) :
    Calls Tryd.prog 41 #[.pointer (some ⟨g, 0, none⟩), .int .i64 n] W fun r w' => r = .returned (.string ⟨#[]⟩) ∧ RQ w' g S e ∧ Chg W w' g :=
  (qBytes_err g S W e n h he).mono fun r w' ⟨h1, h2⟩ => by subst h2; exact ⟨h1, h, Chg.refl W (Nat.le_of_lt h.lt)⟩

/-- So many bytes, of both. -/
theorem sim_take (n : Nat) (hY : Y.size ≤ 500) (hk : k ≤ Y.size) (hn : n ≤ 1000) :
    ∃ t k' e', t.size ≤ n ∧ k' ≤ Y.size ∧
    (∀ g W, RD W g Y k e → Calls Tryd.prog 54 #[.pointer (some ⟨g, 0, none⟩), .int .i64 0, .int .i64 n, fv 55] W fun r w' => r = .returned (.string t) ∧ RD w' g Y k' e' ∧ Chg W w' g) ∧
    (∀ g W, RQ W g (Y.extract k Y.size) e → Calls Tryd.prog 41 #[.pointer (some ⟨g, 0, none⟩), .int .i64 n] W fun r w' => r = .returned (.string t) ∧ RQ w' g (Y.extract k' Y.size) e' ∧ Chg W w' g) := by
  have hz := left_size Y k hk
  by_cases he : e = 0
  · subst he
    by_cases hb : n ≤ Y.size - k
    · refine ⟨Y.extract k (k + n), k + n, 0, by rw [ByteArray.size_extract]; omega, by omega, fun g W h => ?_, fun g W h => ?_⟩
      · have c := take_may g Y k 55 0 n true W h (by omega) hk (by decide) (by omega) eg_all (fun W => all_any _ W)
        rw [if_pos rfl, if_pos rfl, if_pos rfl, Nat.add_zero] at c
        exact c
      · have c := qBytes_ok g _ W n h (by omega) (by omega)
        rw [hz, ee Y k Y.size 0 n (by omega), ee Y k Y.size n (Y.size - k) (by omega), show k + (Y.size - k) = Y.size by omega] at c
        exact c
    · refine ⟨⟨#[]⟩, k, 4, Nat.zero_le _, hk, fun g W h => ?_, fun g W h => ?_⟩
      · exact take_short g Y k 55 0 n W h (by omega) hk (by decide) (by omega) (by right; omega)
      · exact qBytes_short g _ W n h (by omega) (by right; omega)
  · refine ⟨⟨#[]⟩, k, e, Nat.zero_le _, hk, fun g W h => ?_, fun g W h => ?_⟩
    · exact (take_err g Y k 55 e 0 n W h he).mono fun r w' ⟨h1, h2⟩ => by subst h2; exact ⟨h1, h, Chg.refl W (Nat.le_of_lt h.lt)⟩
    · exact (qBytes_err g _ W e n h he).mono fun r w' ⟨h1, h2⟩ => by subst h2; exact ⟨h1, h, Chg.refl W (Nat.le_of_lt h.lt)⟩
theorem sim_byte (hY : Y.size ≤ 500) (hk : k ≤ Y.size) : Sim (.int .u8) 31 32 (fun p => #[p]) Y k e := by
  obtain ⟨t, k', e', _, h1, h2, h3⟩ := sim_take Y k e 1 hY hk (by decide)
  exact ⟨firstN t, k', e', h1, fun g W h => rByte_of (h2 g W h), fun g W h => qByte_of (h3 g W h)⟩
theorem sim_u32 (hY : Y.size ≤ 500) (hk : k ≤ Y.size) : Sim (.int .u32) 35 36 (fun p => #[p]) Y k e := by
  obtain ⟨t, k', e', ht, h1, h2, h3⟩ := sim_take Y k e 4 hY hk (by decide)
  exact ⟨numb t.toList, k', e', h1, fun g W h => rU32_of ht (h2 g W h), fun g W h => qU32_of ht (h3 g W h)⟩
theorem sim_bytes (n : Int) (hY : Y.size ≤ 500) (hk : k ≤ Y.size) : Sim .string 40 41 (fun p => #[p, .int .i64 n]) Y k e := by
  have hz := left_size Y k hk
  by_cases hov : ((Y.size - k : Nat) : Int) < n
  · by_cases he : e = 0
    · subst he
      refine ⟨⟨#[]⟩, k, 4, hk, fun g W h => ?_, fun g W h => ?_⟩
      · exact rBytes_over g Y k W h (by omega) hk hov fun W1 h1 hC => (take_short g Y k 55 0 (-1) W1 h1 (by omega) hk (by decide) (by decide) (by left; decide)).mono fun r w' ⟨e1, hR, hC2⟩ => ⟨_, e1, rfl, hR, hC.trans hC2⟩
      · exact qBytes_short g _ W n h (by omega) (by right; omega)
    · refine ⟨⟨#[]⟩, k, e, hk, fun g W h => ?_, fun g W h => ?_⟩
      · exact rBytes_over g Y k W h (by omega) hk hov fun W1 h1 hC => (take_err g Y k 55 e 0 (-1) W1 h1 he).mono fun r w' ⟨e1, e2⟩ => by subst e2; exact ⟨_, e1, rfl, h1, hC⟩
      · exact (qBytes_err g _ W e n h he).mono fun r w' ⟨h1, h2⟩ => by subst h2; exact ⟨h1, h, Chg.refl W (Nat.le_of_lt h.lt)⟩
  · by_cases he : e = 0
    · by_cases hneg : n < 0
      · subst he
        refine ⟨⟨#[]⟩, k, 4, hk, fun g W h => ?_, fun g W h => ?_⟩
        · exact rBytes_in g Y k W h (by omega) hk (by omega) fun W1 h1 hC => (take_short g Y k 55 0 n W1 h1 (by omega) hk (by decide) (by omega) (by left; exact hneg)).mono fun r w' ⟨e1, hR, hC2⟩ => ⟨_, e1, rfl, hR, hC.trans hC2⟩
        · exact qBytes_short g _ W n h (by omega) (by left; exact hneg)
      · obtain ⟨m, rfl⟩ : ∃ m : Nat, n = m := ⟨n.toNat, by omega⟩
        obtain ⟨t, k', e', ht, h1, h2, h3⟩ := sim_take Y k e m hY hk (by omega)
        refine ⟨t, k', e', h1, fun g W h => ?_, fun g W h => h3 g W h⟩
        exact rBytes_in g Y k W h (by omega) hk (by omega) fun W1 h1 hC => (h2 g W1 h1).mono fun r w' ⟨e1, hR, hC2⟩ => ⟨_, e1, rfl, hR, hC.trans hC2⟩
    · refine ⟨⟨#[]⟩, k, e, hk, fun g W h => ?_, fun g W h => ?_⟩
      · exact rBytes_in g Y k W h (by omega) hk (by omega) fun W1 h1 hC => (take_err g Y k 55 e 0 n W1 h1 he).mono fun r w' ⟨e1, e2⟩ => by subst e2; exact ⟨_, e1, rfl, h1, hC⟩
      · exact (qBytes_err g _ W e n h he).mono fun r w' ⟨h1, h2⟩ => by subst h2; exact ⟨h1, h, Chg.refl W (Nat.le_of_lt h.lt)⟩
theorem lenAt_left (h : k + 4 ≤ Y.size) : lenAt (Y.extract k Y.size) 0 = lenAt Y k := by
  unfold lenAt
  rw [ee Y k Y.size 0 (0 + 4) (by omega), Nat.add_zero, Nat.zero_add]
/-- A text, of both: what Text and Whole are made of. -/
theorem sim_text (hY : Y.size ≤ 500) (hk : k ≤ Y.size) : Sim .string 37 38 (fun p => #[p]) Y k e := by
  have hz := left_size Y k hk
  by_cases he : e = 0
  · subst he
    by_cases h4 : Y.size - k < 4
    · exact ⟨⟨#[]⟩, k, 4, hk, fun g W h => rText_of (text_few g Y k 55 W h (by omega) hk h4), fun g W h => qText_short g _ W h (by omega) (by left; omega)⟩
    · have hl := lenAt_left Y k (by omega)
      by_cases hs : Y.size - k < 4 + lenAt Y k
      · exact ⟨⟨#[]⟩, k, 4, hk, fun g W h => rText_of (text_short g Y k 55 W h (by omega) hk (by omega) hs), fun g W h => qText_short g _ W h (by omega) (by right; omega)⟩
      · refine ⟨Y.extract (k + 4) (k + 4 + lenAt Y k), k + 4 + lenAt Y k, 0, by omega, fun g W h => ?_, fun g W h => ?_⟩
        · have c := text_may g Y k 55 true W h (by omega) hk (by omega) eg_all (fun W => all_any _ W)
          rw [if_pos rfl, if_pos rfl, if_pos rfl] at c
          exact rText_of c
        · have c := qText_ok g _ W h (by omega) (by omega)
          rw [hl, hz, ee Y k Y.size 4 (Y.size - k) (by omega), show k + (Y.size - k) = Y.size by omega, left_size Y (k + 4) (by omega), ee Y (k + 4) Y.size 0 (lenAt Y k) (by omega), ee Y (k + 4) Y.size (lenAt Y k) (Y.size - (k + 4)) (by omega), show k + 4 + (Y.size - (k + 4)) = Y.size by omega] at c
          exact c
  · refine ⟨⟨#[]⟩, k, e, hk, fun g W h => ?_, fun g W h => ?_⟩
    · exact rText_of ((text_err g Y k 55 e W h he).mono fun r w' ⟨h1, h2⟩ => by subst h2; exact ⟨h1, h, Chg.refl W (Nat.le_of_lt h.lt)⟩)
    · exact (qText_err g _ W e h he).mono fun r w' ⟨h1, h2⟩ => by subst h2; exact ⟨h1, h, Chg.refl W (Nat.le_of_lt h.lt)⟩
theorem plain_nil : plainS ⟨#[]⟩ = ⟨#[]⟩ := bs_ext (by rw [plainS_list, bsl]; rfl)
theorem whole_nil : wholeB ⟨#[]⟩ = true := by unfold wholeB; rw [bsl]; rfl
theorem sim_whole (hY : Y.size ≤ 500) (hk : k ≤ Y.size) : Sim .string 12 39 (fun p => #[p]) Y k e := by
  have hz := left_size Y k hk
  have nz : (⟨#[]⟩ : ByteArray).size ≤ 90000 := by decide
  by_cases he : e = 0
  · subst he
    by_cases h4 : Y.size - k < 4
    · refine ⟨plainS ⟨#[]⟩, k, 4, hk, fun g W h => ?_, fun g W h => ?_⟩
      · exact rWhole_of (by decide) (text_few g Y k 49 W h (by omega) hk h4)
      · exact qWhole_of g _ W 0 4 _ _ h nz (.inl (by decide)) fun W h => qText_short g _ W h (by omega) (by left; omega)
    · have hl := lenAt_left Y k (by omega)
      by_cases hs : Y.size - k < 4 + lenAt Y k
      · refine ⟨plainS ⟨#[]⟩, k, 4, hk, fun g W h => ?_, fun g W h => ?_⟩
        · exact rWhole_of (by decide) (text_short g Y k 49 W h (by omega) hk (by omega) hs)
        · exact qWhole_of g _ W 0 4 _ _ h nz (.inl (by decide)) fun W h => qText_short g _ W h (by omega) (by right; omega)
      · have hT : ∀ g W, RQ W g (Y.extract k Y.size) 0 → Calls Tryd.prog 38 #[.pointer (some ⟨g, 0, none⟩)] W fun r w' => r = .returned (.string (Y.extract (k + 4) (k + 4 + lenAt Y k))) ∧ RQ w' g (Y.extract (k + 4 + lenAt Y k) Y.size) 0 ∧ Chg W w' g := by
          intro g W h
          have c := qText_ok g _ W h (by omega) (by omega)
          rw [hl, hz, ee Y k Y.size 4 (Y.size - k) (by omega), show k + (Y.size - k) = Y.size by omega, left_size Y (k + 4) (by omega), ee Y (k + 4) Y.size 0 (lenAt Y k) (by omega), ee Y (k + 4) Y.size (lenAt Y k) (Y.size - (k + 4)) (by omega), show k + 4 + (Y.size - (k + 4)) = Y.size by omega] at c
          exact c
        have tz : (Y.extract (k + 4) (k + 4 + lenAt Y k)).size ≤ 500 := by rw [ByteArray.size_extract]; omega
        have cw := fun g W h => text_may g Y k 49 (wholeB (Y.extract (k + 4) (k + 4 + lenAt Y k))) W h (by omega) hk (by omega) eg_whole (fun W => whole_any _ W (by omega))
        cases hb : wholeB (Y.extract (k + 4) (k + 4 + lenAt Y k)) with
        | true =>
          rw [hb] at cw
          refine ⟨plainS (Y.extract (k + 4) (k + 4 + lenAt Y k)), k + 4 + lenAt Y k, 0, by omega, fun g W h => ?_, fun g W h => ?_⟩
          · have c := cw g W h
            rw [if_pos rfl, if_pos rfl, if_pos rfl] at c
            exact rWhole_of (by omega) c
          · exact qWhole_of g _ W 0 0 _ _ h (by omega) (.inr hb) fun W h => hT g W h
        | false =>
          rw [hb] at cw
          refine ⟨⟨#[]⟩, k, 3, hk, fun g W h => ?_, fun g W h => ?_⟩
          · have c := cw g W h
            rw [if_neg (by decide), if_neg (by decide), if_neg (by decide)] at c
            have := rWhole_of (by decide) c
            rw [plain_nil] at this
            exact this
          · exact qWhole_form g _ W _ _ h (by omega) hb fun W h => hT g W h
  · refine ⟨plainS ⟨#[]⟩, k, e, hk, fun g W h => ?_, fun g W h => ?_⟩
    · exact rWhole_of (by decide) ((text_err g Y k 49 e W h he).mono fun r w' ⟨h1, h2⟩ => by subst h2; exact ⟨h1, h, Chg.refl W (Nat.le_of_lt h.lt)⟩)
    · exact qWhole_of g _ W e e _ _ h nz (.inl he) fun W h => (qText_err g _ W e h he).mono fun r w' ⟨h1, h2⟩ => by subst h2; exact ⟨h1, h, Chg.refl W (Nat.le_of_lt h.lt)⟩
theorem one_byte {t : ByteArray} (h : t.size = 1) : (t.toList == [1]) = (firstN t == 1) := by
  have hc := bsl_cons (s := t) (k := 0) (by omega)
  rw [List.drop_zero] at hc
  have hd : t.toList.drop (0 + 1) = [] := List.drop_of_length_le (by rw [bsl_len]; omega)
  rw [hd] at hc
  have hf : firstN t = ((t[0]'(by omega)).toNat : Int) := by unfold firstN; rw [dif_pos (by omega)]
  rw [hc, hf, Bool.eq_iff_iff, beq_iff_eq, beq_iff_eq, List.cons.injEq]
  constructor
  · rintro ⟨h, -⟩; rw [h]; rfl
  · intro h; exact ⟨UInt8.toNat_inj.1 (by have : (1 : UInt8).toNat = 1 := rfl; omega), rfl⟩
theorem first_left (h : k < Y.size) : firstN (Y.extract k Y.size) = firstN (Y.extract k (k + 1)) := by
  have h1 : Y.extract k (k + 1) = (Y.extract k Y.size).extract 0 1 := (ee Y k Y.size 0 1 (by omega)).symm
  have hz := left_size Y k (by omega)
  rw [h1]
  generalize Y.extract k Y.size = S at hz ⊢
  have a1 : 0 < S.size := by omega
  have a2 : 0 < (S.extract 0 1).size := by rw [ByteArray.size_extract]; omega
  unfold firstN
  rw [dif_pos a1, dif_pos a2]
  have hc := bsl_cons (s := S) (k := 0) a1
  have hd := bsl_cons (s := S.extract 0 1) (k := 0) a2
  rw [List.drop_zero] at hc hd
  rw [bsl_ext, hc, List.drop_zero] at hd
  simp only [List.take_succ_cons, List.cons.injEq] at hd
  rw [← hd.1]
theorem sim_bool (hY : Y.size ≤ 500) (hk : k ≤ Y.size) : Sim .bool 33 34 (fun p => #[p]) Y k e := by
  have hz := left_size Y k hk
  have z0 : ((⟨#[]⟩ : ByteArray).toList == [1]) = false := by rw [bsl]; rfl
  have z1 : (firstN ⟨#[]⟩ == 1) = false := by rfl
  by_cases he : e = 0
  · subst he
    by_cases h0 : k = Y.size
    · refine ⟨false, k, 4, hk, fun g W h => ?_, fun g W h => ?_⟩
      · have := rBool_of (take_short g Y k 56 0 1 W h (by omega) hk (by decide) (by decide) (by right; omega))
        rw [z0] at this
        exact this
      · have := qBool_nil g _ W h (by omega) (qByte_of (qBytes_short g _ W 1 h (by omega) (by right; omega)))
        rw [z1] at this
        exact this
    · have tz : (Y.extract k (k + 1)).size = 1 := by rw [ByteArray.size_extract]; omega
      have hf := first_left Y k (by omega)
      have cw := fun g W h => take_may g Y k 56 0 1 (decide (firstN (Y.extract k (k + 1)) ≤ 1)) W h (by omega) hk (by decide) (by omega) eg_bool1 (fun W => bool1_any (Y.extract k (k + 1)) W (by omega))
      by_cases h1 : firstN (Y.extract k (k + 1)) ≤ 1
      · rw [decide_eq_true h1] at cw
        refine ⟨((Y.extract k (k + 1)).toList == [1]), k + 1, 0, by omega, fun g W h => ?_, fun g W h => ?_⟩
        · have c := cw g W h
          rw [if_pos rfl, if_pos rfl, if_pos rfl, Nat.add_zero] at c
          exact rBool_of c
        · have c := qBytes_ok g _ W 1 h (by omega) (by omega)
          rw [hz, ee Y k Y.size 0 1 (by omega), ee Y k Y.size 1 (Y.size - k) (by omega), show k + (Y.size - k) = Y.size by omega] at c
          rw [one_byte tz]
          exact qBool_ok g _ W h (by omega) (by omega) (by rw [hf]; exact h1) (qByte_of c)
      · rw [decide_eq_false h1] at cw
        refine ⟨false, k, 3, hk, fun g W h => ?_, fun g W h => ?_⟩
        · have c := cw g W h
          rw [if_neg (by decide), if_neg (by decide), if_neg (by decide)] at c
          have := rBool_of c
          rw [z0] at this
          exact this
        · exact qBool_form g _ W h (by omega) (by omega) (by rw [hf]; omega)
  · refine ⟨false, k, e, hk, fun g W h => ?_, fun g W h => ?_⟩
    · have := rBool_of (take_err' Y k e 56 g 1 W h he)
      rw [z0] at this
      exact this
    · have := qBool_err g _ W e h he (qByte_of (qBytes_err' e g 1 _ W h he))
      rw [z1] at this
      exact this
end
end Go.Proofs.YtjiepgldgcghlaaDoor
