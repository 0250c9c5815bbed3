/- The walk of WireBack. -/
import Derived.Test.YtjiepgldgcghlaaDoorWrG
import Derived.Test.YtjiepgldgcghlaaDoorWrH
import Derived.Deep.RegionHeld3
namespace Go.Proofs.YtjiepgldgcghlaaDoor
open Go.RowKit

theorem nilL : (⟨#[]⟩ : ByteArray).toList = [] := by rw [bsl]
theorem below_alloc (w : World) (o : Obj) : Below w.heap.size w (w.alloc o) := (Below.refl w.heap.size w).alloc (Nat.le_refl _) o
theorem plain_enc (s : ByteArray) : plainS (encS s) = plainS s := by
  apply bs_ext
  rw [plainS_list, plainS_list, encS_list]
  unfold encL
  split
  · rw [dw_z (by rfl)]; exact dropWhile_twice _
  · exact dropWhile_twice _
theorem whole_enc (s : ByteArray) : wholeB (encS s) = true := by
  cases h : wholeB (encS s) with
  | true => rfl
  | false => exact absurd (by rw [← encS_plain, plain_enc, encS_plain] : encS (encS s) = encS s) (encS_ne h)
theorem bool_byte (v : Bool) : ((byteS (if v = true then 1 else 0)).toList == [1]) = v ∧ firstN (byteS (if v = true then 1 else 0)) ≤ 1 := by
  cases v
  · rw [if_neg (by decide)]; exact ⟨by unfold byteS; decide +kernel, by rw [firstN_byte _ (by decide) (by decide)]; decide⟩
  · rw [if_pos rfl]; exact ⟨by unfold byteS; decide +kernel, by rw [firstN_byte _ (by decide) (by decide)]; decide⟩

/-- What the reader of WireBack reads, call by call. -/
theorem back_reads (s t : ByteArray) (a : Int) (v : Bool) (hs : s.size ≤ 300) (ht : t.size ≤ 300) (ha0 : 0 ≤ a) (ha1 : a < 256) (Y : ByteArray)
    (hY : Y = textS s ++ byteS a ++ textS (encS t) ++ byteS (if v = true then 1 else 0) ++ textS t) :
    ∃ k1 k2 k3 k4, Y.size ≤ 2000 ∧ ∀ g,
      (∀ W, RD W g Y 0 0 → Calls Tryd.prog 37 #[.pointer (some ⟨g, 0, none⟩)] W fun r w' => r = .returned (.string s) ∧ RD w' g Y k1 0 ∧ Chg W w' g) ∧
      (∀ W, RD W g Y k1 0 → Calls Tryd.prog 31 #[.pointer (some ⟨g, 0, none⟩)] W fun r w' => r = .returned (.int .u8 a) ∧ RD w' g Y k2 0 ∧ Chg W w' g) ∧
      (∀ W, RD W g Y k2 0 → Calls Tryd.prog 12 #[.pointer (some ⟨g, 0, none⟩)] W fun r w' => r = .returned (.string (plainS t)) ∧ RD w' g Y k3 0 ∧ Chg W w' g) ∧
      (∀ W, RD W g Y k3 0 → Calls Tryd.prog 33 #[.pointer (some ⟨g, 0, none⟩)] W fun r w' => r = .returned (.bool v) ∧ RD w' g Y k4 0 ∧ Chg W w' g) ∧
      (∀ W, RD W g Y k4 0 → Calls Tryd.prog 37 #[.pointer (some ⟨g, 0, none⟩)] W fun r w' => r = .returned (.string t) ∧ RD w' g Y Y.size 0 ∧ Chg W w' g) := by
  have z1 := textS_size s
  have z2 := byteS_size a
  have z3 := textS_size (encS t)
  have z3' := encS_size t
  have z4 := byteS_size (if v = true then 1 else 0)
  have z5 := textS_size t
  have hz : Y.size = (textS s).size + (byteS a).size + (textS (encS t)).size + (byteS (if v = true then 1 else 0)).size + (textS t).size := by
    rw [hY]; simp only [ByteArray.size_append]
  obtain ⟨hv1, hv2⟩ := bool_byte v
  have h1 : Y = ⟨#[]⟩ ++ (textS s ++ (byteS a ++ textS (encS t) ++ byteS (if v = true then 1 else 0) ++ textS t)) := by
    rw [hY]; apply bs_ext; simp only [bsl_app, List.append_assoc, nilL, List.nil_append, List.append_nil]
  have h2 : Y = textS s ++ (byteS a ++ (textS (encS t) ++ byteS (if v = true then 1 else 0) ++ textS t)) := by
    rw [hY]; apply bs_ext; simp only [bsl_app, List.append_assoc]
  have h3 : Y = (textS s ++ byteS a) ++ (textS (encS t) ++ (byteS (if v = true then 1 else 0) ++ textS t)) := by
    rw [hY]; apply bs_ext; simp only [bsl_app, List.append_assoc]
  have h4 : Y = (textS s ++ byteS a ++ textS (encS t)) ++ (byteS (if v = true then 1 else 0) ++ (textS t)) := by
    rw [hY]; apply bs_ext; simp only [bsl_app, List.append_assoc]
  have h5 : Y = (textS s ++ byteS a ++ textS (encS t) ++ byteS (if v = true then 1 else 0)) ++ (textS t ++ ⟨#[]⟩) := by
    rw [hY]; apply bs_ext; simp only [bsl_app, List.append_assoc, nilL, List.nil_append, List.append_nil]
  have l1 := lenAt_of (k := 0) h1 rfl (by omega)
  have x1 := txt_of (k := 0) h1 rfl
  have x2 := sub_of (k := s.size + 4) h2 (by omega)
  have l3 := lenAt_of (k := s.size + 5) h3 (by rw [ByteArray.size_append]; omega) (by omega)
  have x3 := txt_of (k := s.size + 5) h3 (by rw [ByteArray.size_append]; omega)
  have x4 := sub_of (k := s.size + 5 + 4 + (encS t).size) h4 (by simp only [ByteArray.size_append]; omega)
  have l5 := lenAt_of (k := s.size + 5 + 4 + (encS t).size + 1) h5 (by simp only [ByteArray.size_append]; omega) (by omega)
  have x5 := txt_of (k := s.size + 5 + 4 + (encS t).size + 1) h5 (by simp only [ByteArray.size_append]; omega)
  rw [z2] at x2
  rw [z4] at x4
  clear h1 h2 h3 h4 h5 hY
  have hY2 : Y.size ≤ 2000 := by omega
  refine ⟨s.size + 4, s.size + 5, s.size + 5 + 4 + (encS t).size, s.size + 5 + 4 + (encS t).size + 1, hY2, fun g => ⟨?_, ?_, ?_, ?_, ?_⟩⟩
  · intro W h
    have c := text_may g Y 0 55 true W h (by omega) (by omega) (by rw [l1]; omega) eg_all (fun W => all_any _ W)
    rw [l1, x1, if_pos rfl, if_pos rfl, if_pos rfl, show 0 + 4 + s.size = s.size + 4 by omega] at c
    exact rText_of c
  · intro W h
    have c := take_may g Y (s.size + 4) 55 0 1 true W h (by omega) (by omega) (by decide) (by omega) eg_all (fun W => all_any _ W)
    rw [if_pos rfl, if_pos rfl, if_pos rfl, Nat.add_zero, x2] at c
    have := rByte_of c
    rw [firstN_byte a ha0 ha1] at this
    exact this
  · intro W h
    have c := text_may g Y (s.size + 5) 49 true W h (by omega) (by omega) (by rw [l3]; omega) eg_whole (fun W => by rw [l3, x3]; have := whole_any (encS t) W (by omega); rw [whole_enc] at this; exact this)
    rw [l3, x3, if_pos rfl, if_pos rfl, if_pos rfl] at c
    have := rWhole_of (by omega) c
    rw [plain_enc] at this
    exact this
  · intro W h
    have c := take_may g Y (s.size + 5 + 4 + (encS t).size) 56 0 1 true W h (by omega) (by omega) (by decide) (by omega) eg_bool1 (fun W => by
      rw [Nat.add_zero, x4]
      have := bool1_any (byteS (if v = true then 1 else 0)) W (by omega)
      rw [decide_eq_true hv2] at this
      exact this)
    rw [if_pos rfl, if_pos rfl, if_pos rfl, Nat.add_zero, x4] at c
    have := rBool_of c
    rw [hv1] at this
    exact this
  · intro W h
    have c := text_may g Y (s.size + 5 + 4 + (encS t).size + 1) 55 true W h (by omega) (by omega) (by rw [l5]; omega) eg_all (fun W => all_any _ W)
    rw [l5, x5, if_pos rfl, if_pos rfl, if_pos rfl, show s.size + 5 + 4 + (encS t).size + 1 + 4 + t.size = Y.size by omega] at c
    exact rText_of c

set_option maxRecDepth 100000 in
set_option maxHeartbeats 4000000 in
theorem law_wireBack (s t : ByteArray) (a b : Int) (w : World) (hs : s.size ≤ 9223372036854775807) (ht : t.size ≤ 9223372036854775807) (ha0 : 0 ≤ a) (ha1 : a < 256) (hb0 : 0 ≤ b) (hb1 : b < 256) :
    Calls Tryd.prog 8 #[.string s, .string t, .agg #[.int .u8 a, .int .u8 b]] w fun r w' => r = .returned (.bool true) ∧ Below w.heap.size w w' := by
  have aw := Lib.hid awake03_any
  have hB0 := below_alloc w (.cells #[.int .u8 a, .int .u8 b] 61)
  have hRow := heap_new w (.cells #[.int .u8 a, .int .u8 b] 61)
  by_cases h3 : 300 < s.size
  · go_enter Tryd.func8, Tryd.ntmps8
    go_wp2_with (go_at_call 9; refine (aw.out _).mono ?_; rintro r w1 ⟨rfl, hb⟩)
    go_ret
    exact ⟨rfl, hB0.trans (hb.mono hB0.size)⟩
  by_cases h4 : 300 < t.size
  · go_enter Tryd.func8, Tryd.ntmps8
    go_wp2_with (go_at_call 9; refine (aw.out _).mono ?_; rintro r w1 ⟨rfl, hb⟩)
    go_ret
    exact ⟨rfl, hB0.trans (hb.mono hB0.size)⟩
  have hs : s.size ≤ 300 := by omega
  have ht : t.size ≤ 300 := by omega
  clear h3 h4
  obtain ⟨v, hv⟩ : ∃ v, v = (b % 2 == 1) := ⟨_, rfl⟩
  obtain ⟨Y, hY⟩ : ∃ Y, Y = textS s ++ byteS a ++ textS (encS t) ++ byteS (if v = true then 1 else 0) ++ textS t := ⟨_, rfl⟩
  obtain ⟨k1, k2, k3, k4, hYz, hRds⟩ := back_reads s t a v hs ht ha0 ha1 Y hY
  have cN : ∀ W, Calls Tryd.prog 10 #[.string (textS s ++ byteS a ++ textS (encS t) ++ byteS (if v = true then 1 else 0) ++ textS t)] W fun r w' => r = .returned (.pointer (some ⟨W.heap.size, 0, none⟩)) ∧ w' = W.alloc (.cells #[.string Y, .int .i64 0, .int .i64 0] 66) := fun W => by
    rw [← hY]
    exact new_any Y W
  have cTs := fun W => text_any s W (by omega)
  have cTt := fun W => text_any t W (by omega)
  have cW := fun W => wholeW_any t W (by omega)
  have cB := fun W => byte_any a W ha0 ha1
  have cV := fun W => bool_any v W
  have cP := Lib.hid (fun W => refPlain_any t W (by omega))
  have z1 := textS_size s
  have z2 := byteS_size a
  have z3 := textS_size (encS t)
  have z3' := encS_size t
  have z4 := byteS_size (if v = true then 1 else 0)
  have z5 := textS_size t
  have s1 : (textS s).size ≤ 400 := by omega
  have s2 : (byteS a).size ≤ 400 := by omega
  have s3 : (textS (encS t)).size ≤ 400 := by omega
  have s4 : (byteS (if v = true then 1 else 0)).size ≤ 400 := by omega
  have s5 : (textS t).size ≤ 400 := by omega
  clear z1 z2 z3 z3' z4 z5 hY
  generalize textS s = S1 at *
  generalize byteS a = S2 at *
  generalize textS (encS t) = S3 at *
  generalize byteS (if v = true then 1 else 0) = S4 at *
  generalize textS t = S5 at *
  generalize plainS t = pt at cP hRds
  have n1 : ¬ (9223372036854775807 < S1.size + S2.size) := by omega
  have n2 : ¬ (9223372036854775807 < S1.size + S2.size + S3.size) := by omega
  have n3 : ¬ (9223372036854775807 < S1.size + S2.size + S3.size + S4.size) := by omega
  have n4 : ¬ (9223372036854775807 < S1.size + S2.size + S3.size + S4.size + S5.size) := by omega
  clear s1 s2 s3 s4 s5
  have hNw := Lib.hid cN
  have hTs := Lib.hid cTs
  have hTt := Lib.hid cTt
  have hWh := Lib.hid cW
  have hBy := Lib.hid cB
  have hVa := Lib.hid cV
  have hRd := Lib.hid hRds
  clear cN cTs cTt cW cB cV hRds
  have hlt : w.heap.size < (w.alloc (.cells #[.int .u8 a, .int .u8 b] 61)).heap.size := (Array.getElem?_eq_some_iff.1 hRow).1
  have hKeep := Lib.hid (fun W (h : Below (w.alloc (.cells #[.int .u8 a, .int .u8 b] 61)).heap.size (w.alloc (.cells #[.int .u8 a, .int .u8 b] 61)) W) => cell_of_row W w.heap.size 0 _ _ _ ((h.block _ hlt).trans hRow))
  have hEnd := Lib.hid (fun W (h : Below (w.alloc (.cells #[.int .u8 a, .int .u8 b] 61)).heap.size (w.alloc (.cells #[.int .u8 a, .int .u8 b] 61)) W) => hB0.trans (h.mono hB0.size))
  have c0 := cell_of_row _ w.heap.size 0 _ _ _ hRow
  have c1 := cell_of_row _ w.heap.size 1 _ _ _ hRow
  clear hRow hB0 hlt
  go_enter Tryd.func8, Tryd.ntmps8
  go_wp2_with fail
  generalize w.alloc (.cells #[.int .u8 a, .int .u8 b] 61) = w2 at *
  rw [← hv]
  clear c0 c1 hs ht hv hb0 hb1
  have hB2 := Lib.hid (show Below w2.heap.size w2 w2.drew from drewN_below 1)
  go_region_held3 (fun W => W.cell? ⟨w.heap.size, 0, none⟩ = some (.int .u8 a)) (first | exact hKeep.out _ hB2.out | exact hKeep.out _ hB3.out | exact hKeep.out _ hB4.out | exact hKeep.out _ hB5.out | exact hKeep.out _ hB6.out | exact hKeep.out _ hB7.out | exact hKeep.out _ hB8.out)
    (first
      | (go_at_call 11; refine (hTs.out _).mono ?_; rintro r w3 ⟨rfl, hb3⟩; have hB3 := Lib.hid (hB2.out.trans (hb3.mono hB2.out.size)); clear hb3)
      | (go_at_call 43; refine (hBy.out _).mono ?_; rintro r w4 ⟨rfl, hb4⟩; have hB4 := Lib.hid (hB3.out.trans (hb4.mono hB3.out.size)); clear hb4)
      | (go_at_call 15; refine (hWh.out _).mono ?_; rintro r w5 ⟨rfl, hb5⟩; have hB5 := Lib.hid (hB4.out.trans (hb5.mono hB4.out.size)); clear hb5)
      | (go_at_call 44; refine (hVa.out _).mono ?_; rintro r w6 ⟨rfl, hb6⟩; have hB6 := Lib.hid (hB5.out.trans (hb6.mono hB5.out.size)); clear hb6)
      | (go_at_call 11; refine (hTt.out _).mono ?_; rintro r w7 ⟨rfl, hb7⟩; have hB7 := Lib.hid (hB6.out.trans (hb7.mono hB6.out.size)); clear hb7)
      | (go_at_call 10; refine (hNw.out _).mono ?_; rintro r w8 ⟨rfl, rfl⟩; have hR8 := Lib.hid (new_rd Y w7); have hB8 := Lib.hid (hB7.out.alloc hB7.out.size (.cells #[.string Y, .int .i64 0, .int .i64 0] 66)); have hG := Lib.hid hB7.out.size; generalize w7.alloc (.cells #[.string Y, .int .i64 0, .int .i64 0] 66) = w8 at hR8 hB8 ⊢; generalize w7.heap.size = g at hR8 hG ⊢))
  all_goals
    obtain ⟨r1, r2, r3, r4, r5⟩ := hRd.out g
    have r1 := Lib.hid r1
    have r2 := Lib.hid r2
    have r3 := Lib.hid r3
    have r4 := Lib.hid r4
    have r5 := Lib.hid r5
    go_wp2_with fail
    refine (r1.out _ hR8.out).mono ?_
    rintro r x1 ⟨rfl, hR, hC⟩
    have hR1 := Lib.hid hR
    have hX1 := Lib.hid (hC.below hB8.out hG.out hB8.out.size)
    clear hR hC
    go_wp2_with fail
    refine (r2.out _ hR1.out).mono ?_
    rintro r x2 ⟨rfl, hR, hC⟩
    have hR2 := Lib.hid hR
    have hX2 := Lib.hid (hC.below hX1.out hG.out hX1.out.size)
    clear hR hC
    go_wp2_with fail
    refine (r3.out _ hR2.out).mono ?_
    rintro r x3 ⟨rfl, hR, hC⟩
    have hR3 := Lib.hid hR
    have hX3 := Lib.hid (hC.below hX2.out hG.out hX2.out.size)
    clear hR hC
    go_wp2_with fail
    refine (r4.out _ hR3.out).mono ?_
    rintro r x4 ⟨rfl, hR, hC⟩
    have hR4 := Lib.hid hR
    have hX4 := Lib.hid (hC.below hX3.out hG.out hX3.out.size)
    clear hR hC
    go_wp2_with fail
    refine (r5.out _ hR4.out).mono ?_
    rintro r x5 ⟨rfl, hR, hC⟩
    have hR5 := Lib.hid hR
    have hX5 := Lib.hid (hC.below hX4.out hG.out hX4.out.size)
    clear hR hC
    go_wp2_with fail
    refine (aw.out _).mono ?_
    rintro r x6 ⟨rfl, hb⟩
    have hR6 := Lib.hid (hR5.out.keep hb)
    have hX6 := Lib.hid (hX5.out.trans (hb.mono hX5.out.size))
    have c6 := hKeep.out _ hX6.out
    clear hb
    go_wp2_with fail
    refine (cP.out _).mono ?_
    rintro r x7 ⟨rfl, rfl⟩
    go_wp2_with fail
    refine (end_any _ Y _ 0 _ hR6.out (by omega) (Nat.le_refl _)).mono ?_
    rintro r x8 ⟨rfl, q, rfl⟩
    rw [Nat.sub_self, show endM 0 0 = 0 from rfl]
    have hX8 := Lib.hid (hX6.out.trans ((drewN_below q).mono hX6.out.size))
    generalize World.drewN _ q = x8 at hX8 ⊢
    go_wp2_with fail
    go_ret
    exact ⟨rfl, hEnd.out _ hX8.out⟩
end Go.Proofs.YtjiepgldgcghlaaDoor
