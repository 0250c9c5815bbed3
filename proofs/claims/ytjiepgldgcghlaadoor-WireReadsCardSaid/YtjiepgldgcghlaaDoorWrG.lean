/- The walk of WireWhole. -/
import Derived.Test.YtjiepgldgcghlaaDoorWrF
namespace Go.Proofs.YtjiepgldgcghlaaDoor
open Go.RowKit

theorem awakeT : textS (encS ⟨#[128]⟩) = ⟨#[0, 0, 0, 2, 0, 128]⟩ := by
  have h1 : encS ⟨#[128]⟩ = ⟨#[0, 128]⟩ := by
    apply bs_ext
    rw [encS_list, bsl, bsl]
    decide
  rw [h1]
  rfl
theorem awake03_any (w : World) :
    Calls Tryd.prog 9 #[] w fun r w' => r = .returned (.bool true) ∧ Below w.heap.size w w' := by
  have c := wholeW_any ⟨#[128]⟩ w (by decide)
  rw [awakeT] at c
  have c := Lib.hid c
  go_enter Tryd.func9, Tryd.ntmps9
  go_wp2_with (go_at_call 15; refine c.out.mono ?_; rintro r w1 ⟨rfl, hb⟩)
  go_ret
  exact ⟨rfl, hb⟩
theorem lenAt_text (s : ByteArray) (hs : s.size ≤ 1000000) : lenAt (textS s) 0 = s.size := by
  unfold lenAt
  have h1 : (textS s).extract 0 (0 + 4) = u32S s.size := by
    apply bs_ext
    rw [bsl_head]
    unfold textS
    rw [bsl_app, List.take_append_of_le_length (by rw [bsl_len, u32S_size]; exact Nat.le_refl _), List.take_of_length_le (by rw [bsl_len, u32S_size]; exact Nat.le_refl _)]
  rw [h1, numb_u32S _ (by omega) (by omega)]
  omega
theorem sub_text (s : ByteArray) : (textS s).extract (0 + 4) (0 + 4 + s.size) = s := by
  apply bs_ext
  rw [bsl_ext, List.take_of_length_le (by rw [bsl_len, textS_size]; omega)]
  unfold textS
  rw [bsl_app, List.drop_append, List.drop_of_length_le (by rw [bsl_len, u32S_size]; omega), bsl_len, u32S_size]
  rfl
theorem plain_first {s : ByteArray} (h : 0 < (plainS s).size) : ((((plainS s)[0]'h).toNat : Int) == 0) = false := by
  rw [byte0]
  have hc := bsl_cons (s := plainS s) (k := 0) h
  rw [List.drop_zero] at hc
  cases hz : ((plainS s)[0]'h == 0) with
  | false => rfl
  | true =>
    exfalso
    have h2 : (plainS s).toList.dropWhile (· == 0) = (plainS s).toList := by rw [plainS_list]; exact dropWhile_twice s.toList
    rw [hc, dw_z hz] at h2
    have := dropWhile_len ((plainS s).toList.drop (0 + 1))
    have h3 := congrArg List.length h2
    rw [List.length_cons] at h3
    omega
theorem neq_lists {a b : ByteArray} (h : a ≠ b) : (a.toList == b.toList) = false := by
  rw [beq_eq_false_iff_ne]
  exact fun e => h (bs_ext e)

set_option maxRecDepth 100000 in
set_option maxHeartbeats 4000000 in
theorem law_wireWhole (s : ByteArray) (w : World) (hs : s.size ≤ 9223372036854775807) :
    Calls Tryd.prog 3 #[.string s] w fun r w' => r = .returned (.bool true) ∧ Below w.heap.size w w' := by
  have aw := Lib.hid awake03_any
  by_cases h3 : 300 < s.size
  · go_enter Tryd.func3, Tryd.ntmps3
    go_wp2_with (go_at_call 9; refine (aw.out _).mono ?_; rintro r w1 ⟨rfl, hb⟩)
    go_ret
    exact ⟨rfl, hb⟩
  have hs : s.size ≤ 300 := by omega
  have cT := Lib.hid (fun W => text_any s W (by omega))
  have hSz := textS_size s
  have hlen := lenAt_text s (by omega)
  have hsub := sub_text s
  have cW := fun g W (h : RD W g (textS s) 0 0) => rWhole_of (g := g) (w := W) (t := if wholeB s then s else ⟨#[]⟩) (by split; omega; decide)
    (by
      have c := text_may g (textS s) 0 49 (wholeB s) W h (by omega) (by omega) (by rw [hlen]; omega) eg_whole (fun W => by rw [hlen, hsub]; exact whole_any s W (by omega))
      rw [hlen, hsub] at c
      exact c)
  have cX := Lib.hid (fun W => wholeW_any s W (by omega))
  have cX2 := fun W => wholeW_any (plainS s) W (by have := plainS_size s; omega)
  have hpz := plainS_size s
  clear h3
  cases hb : wholeB s with
  | false =>
    rw [hb] at cW
    have hne := encS_ne hb
    have hne2 : textS (encS s) ≠ textS s := fun e => hne (textS_inj e)
    have n1 := neq_lists hne2
    have n2 : (!((textS (encS s)).toList == (textS s).toList)) = true := by rw [n1]; rfl
    have hpe : plainS ⟨#[]⟩ = ⟨#[]⟩ := bs_ext (by rw [plainS_list, bsl]; rfl)
    simp only [Bool.false_eq_true, if_false, hpe] at cW
    generalize textS (encS s) = X at cX n1 n2
    generalize textS s = Y at cT cW hSz n1 n2
    have cW := Lib.hid cW
    clear hne hne2 hlen hsub hpe cX2 hb
    go_enter Tryd.func3, Tryd.ntmps3
    go_wp2_with (go_at_call 11; refine (cT.out _).mono ?_; rintro r w1 ⟨rfl, hb1⟩)
    have hW1 := Lib.hid hb1
    clear hb1
    refine (new_any Y w1).mono ?_
    rintro r w2 ⟨rfl, rfl⟩
    have hR0 := new_rd Y w1
    have hW2 := hW1.out.alloc hW1.out.size (.cells #[.string Y, .int .i64 0, .int .i64 0] 66)
    generalize w1.alloc (.cells #[.string Y, .int .i64 0, .int .i64 0] 66) = w2 at hR0 hW2 ⊢
    have hR0 := Lib.hid hR0
    have hW2H := Lib.hid hW2
    clear hW2
    go_wp2_with fail
    refine (cW.out _ w2 hR0.out).mono ?_
    rintro r w3 ⟨rfl, hR, hC⟩
    have hW3 := Lib.hid (hC.below hW2H.out hW1.out.size hW2H.out.size)
    have hR3 := Lib.hid hR
    clear hR hC
    go_wp2_with fail
    refine (err_any _ Y 0 3 w3 hR3.out).mono ?_
    rintro r w4 ⟨rfl, rfl⟩
    go_wp2_with fail
    refine (aw.out w3).mono ?_
    rintro r w4 ⟨rfl, hb⟩
    have hR4 := Lib.hid (hR3.out.keep hb)
    have hW4 := Lib.hid (hW3.out.trans (hb.mono hW3.out.size))
    clear hb
    go_wp2_with fail
    refine (err_any _ Y 0 3 w4 hR4.out).mono ?_
    rintro r w5 ⟨rfl, rfl⟩
    go_wp2_with fail
    refine (left_any _ Y 0 3 w4 hR4.out (by omega) (by omega)).mono ?_
    rintro r w5 ⟨rfl, q, rfl⟩
    have hLv : Y.size - 0 = s.size + 4 := by omega
    rw [hLv]
    have hW5 := Lib.hid (hW4.out.trans ((drewN_below q).mono hW4.out.size))
    generalize w4.drewN q = w5 at hW5 ⊢
    clear hLv
    go_wp2_with fail
    refine (cX.out w5).mono ?_
    rintro r w6 ⟨rfl, hb⟩
    have hW6 := Lib.hid (hW5.out.trans (hb.mono hW5.out.size))
    clear hb
    go_wp2_with fail
    refine (cT.out w6).mono ?_
    rintro r w7 ⟨rfl, hb⟩
    have hW7 := Lib.hid (hW6.out.trans (hb.mono hW6.out.size))
    clear hb
    go_wp2_with fail
    go_ret
    exact ⟨rfl, hW7.out⟩
  | true =>
    rw [hb] at cW
    have heq := encS_eq hb
    simp only [if_true] at cW
    have hp2 : encS (plainS s) = s := by rw [encS_plain, heq]
    rw [hp2] at cX2
    have hpf := fun h => plain_first (s := s) h
    have hop := empty_or (plainS s)
    have hSz2 : (textS s).size - (0 + 4 + s.size) = 0 := by omega
    generalize plainS s = p at cW cX2 hpz hpf hop
    have hkk : 0 + 4 + s.size ≤ (textS s).size := by omega
    generalize textS s = Y at cT cW hSz cX2 hSz2 hkk
    have cW := Lib.hid cW
    have cX2 := Lib.hid cX2
    have hSz2 := Lib.hid hSz2
    have fin : p = ⟨#[]⟩ ∨ ∃ h : 0 < p.size, (((p[0]'h).toNat : Int) == 0) = false ∧ ((p.size : Int) == 0) = false := by
      rcases hop with h | ⟨h, _⟩
      · exact .inl h
      · exact .inr ⟨h, hpf h, beq_eq_false_iff_ne.2 (by omega)⟩
    clear heq hlen hsub hp2 hb hpf hop cX
    have main : ∀ w1, Below w.heap.size w w1 → True := fun _ _ => trivial
    clear main
    rcases fin with rfl | ⟨h0, h1, h2⟩
    all_goals
      go_enter Tryd.func3, Tryd.ntmps3
      go_wp2_with (go_at_call 11; refine (cT.out _).mono ?_; rintro r w1 ⟨rfl, hb1⟩)
      have hW1 := Lib.hid hb1
      clear hb1
      refine (new_any Y w1).mono ?_
      rintro r w2 ⟨rfl, rfl⟩
      have hR0 := new_rd Y w1
      have hW2 := hW1.out.alloc hW1.out.size (.cells #[.string Y, .int .i64 0, .int .i64 0] 66)
      generalize w1.alloc (.cells #[.string Y, .int .i64 0, .int .i64 0] 66) = w2 at hR0 hW2 ⊢
      have hR0 := Lib.hid hR0
      have hW2H := Lib.hid hW2
      clear hW2
      go_wp2_with fail
      refine (cW.out _ w2 hR0.out).mono ?_
      rintro r w3 ⟨rfl, hR, hC⟩
      have hW3 := Lib.hid (hC.below hW2H.out hW1.out.size hW2H.out.size)
      have hR3 := Lib.hid hR
      clear hR hC
      go_wp2_with fail
      refine (err_any _ Y _ 0 w3 hR3.out).mono ?_
      rintro r w4 ⟨rfl, rfl⟩
      go_wp2_with fail
      refine (aw.out w3).mono ?_
      rintro r w4 ⟨rfl, hb⟩
      have hR4 := Lib.hid (hR3.out.keep hb)
      have hW4 := Lib.hid (hW3.out.trans (hb.mono hW3.out.size))
      clear hb
      go_wp2_with fail
      refine (end_any _ Y _ 0 w4 hR4.out (by omega) hkk).mono ?_
      rintro r w5 ⟨rfl, q, rfl⟩
      rw [hSz2.out, show endM 0 0 = 0 from rfl]
      have hW5 := Lib.hid (hW4.out.trans ((drewN_below q).mono hW4.out.size))
      generalize w4.drewN q = w5 at hW5 ⊢
      go_wp2_with fail
      refine (cX2.out w5).mono ?_
      rintro r w6 ⟨rfl, hb⟩
      have hW6 := Lib.hid (hW5.out.trans (hb.mono hW5.out.size))
      clear hb
      go_wp2_with fail
      refine (cT.out w6).mono ?_
      rintro r w7 ⟨rfl, hb⟩
      have hW7 := Lib.hid (hW6.out.trans (hb.mono hW6.out.size))
      clear hb
      go_wp2_with fail
      go_ret
      refine ⟨?_, hW7.out⟩
      first
        | rfl
        | exact congrArg (fun b => Ending.returned (Value.bool (!b))) h1
end Go.Proofs.YtjiepgldgcghlaaDoor
