/- The census' own check, whole: total, Check. -/
import Derived.Test.YtbokdbppjiegjaaDoorCnC
import Derived.Test.YtbokdbppjiegjaaDoorFlV
namespace Go.Proofs.YtbokdbppjiegjaaDoor
open Go.RowKit

set_option maxHeartbeats 1000000 in
theorem total_bd (xs : List Int) (A : Option Addr) (n c : Nat) (w : World) (hn : n ≤ 1000) (H : Ints w A n xs) (hx : ∀ x ∈ xs, -1099511627776 ≤ x ∧ x ≤ 1099511627776) :
    Calls Tryd.prog 15 #[.slice A n c] w fun r w' => r = .returned (.tuple #[.int .i64 xs.sum, .bool (xs.all fun x => decide (0 ≤ x))]) ∧ w = w' := by
  have hlen := Lib.hid H.len
  have hX := Lib.hid hx
  clear hx
  go_enter Tryd.func15, Tryd.ntmps15
  go_wp2
  go_loop [4, 5, 10] (fun m b i => ∃ k : Nat, ∃ q : Int, ∃ a : Bool, k ≤ n ∧ -1099511627776 * (k : Int) ≤ q ∧ q ≤ 1099511627776 * k ∧ i = .int .i64 k ∧ m = .int .i64 q ∧ b = .bool a ∧ Hid (q = (xs.take k).sum) ∧ Hid (a = (xs.take k).all fun x => decide (0 ≤ x))) (fun _ _ i => n - (intOf i).toNat)
  case atStart => exact ⟨0, 0, true, by omega, by omega, by omega, rfl, rfl, rfl, by simp [Hid], by simp [Hid]⟩
  case round =>
    obtain ⟨k, q, a, hk, hq0, hq1, rfl, rfl, rfl, hq, ha⟩ := hrel
    by_cases hlt : k < n
    · obtain ⟨b, off, x, rfl, hb, hx, hc⟩ := H.at_ hlt
      obtain ⟨hx0, hx1⟩ := hX.out x (List.mem_of_getElem? hx)
      have hs := Lib.hid (show q + x = (xs.take (k + 1)).sum by rw [take_succ_of hx, List.sum_append, hq.out]; simp)
      have hA := all_take_succ (fun x : Int => decide (0 ≤ x)) hx
      rw [← ha.out] at hA
      clear hx
      cases a with
      | true =>
        rw [Bool.true_and] at hA
        have hA := Lib.hid hA.symm
        go_wp2
        go_round
        case rel => exact ⟨k + 1, q + x, decide (0 ≤ x), by omega, by omega, by omega, by go_num, rfl, rfl, hs, hA⟩
        case measure => simp [intOf]; omega
      | false =>
        rw [Bool.false_and] at hA
        have hA := Lib.hid hA.symm
        go_wp2
        go_round
        case rel => exact ⟨k + 1, q + x, false, by omega, by omega, by omega, by go_num, rfl, rfl, hs, hA⟩
        case measure => simp [intOf]; omega
    · have hall : xs.take k = xs := List.take_of_length_le (by rw [hlen.out]; omega)
      rw [hall] at hq ha
      clear hall
      go_wp2
      go_ret2
      exact ⟨by rw [hq.out, ha.out]; rfl, rfl⟩

def posB (xs : List Int) : Bool := xs.all fun x => decide (0 ≤ x)
def ckB (pK pR pM : Bool) (sR sM x1 x2 x4 x6 x28 x29 : Int) : Nat :=
  if pK then (if pR && sR == x6 then (if pM && sM == x2 then (if decide (x28 < 0) || decide (x2 < x28 - x1) then 4 else if decide (x29 < 0) || decide (x4 < x29 - x2) then 5 else 0) else 3) else 2) else 1
def kiL (C : List Int) : List Int := (C.drop 0).take 8
def reL (C : List Int) : List Int := (C.drop 8).take 16
def meL (C : List Int) : List Int := (C.drop 24).take 4
def ckN (C : List Int) : Nat := ckB (posB (kiL C)) (posB (reL C)) (posB (meL C)) (reL C).sum (meL C).sum (C.getD 1 0) (C.getD 2 0) (C.getD 4 0) (C.getD 6 0) (C.getD 28 0) (C.getD 29 0)
def ckW : Nat → ByteArray
  | 1 => ⟨#[107, 105, 110, 100, 115]⟩
  | 2 => ⟨#[114, 101, 97, 115, 111, 110, 115]⟩
  | 3 => ⟨#[109, 101, 116, 104, 111, 100, 115]⟩
  | 4 => ⟨#[108, 97, 116, 101, 114]⟩
  | 5 => ⟨#[115, 97, 102, 101]⟩
  | _ => ⟨#[]⟩
def Bd (x : Int) : Prop := -1099511627776 ≤ x ∧ x ≤ 1099511627776
structure Bdd (C : List Int) : Prop where
  len : C.length = 30
  all : ∀ x ∈ C, -1099511627776 ≤ x ∧ x ≤ 1099511627776
theorem Bdd.at_ {C : List Int} (h : Bdd C) {i : Nat} (hi : i < 30) : -1099511627776 ≤ C.getD i 0 ∧ C.getD i 0 ≤ 1099511627776 := by
  rw [List.getD_eq_getElem?_getD, List.getElem?_eq_getElem (by rw [h.len]; exact hi)]
  exact h.all _ (List.getElem_mem _)
theorem Bdd.sub {C : List Int} (h : Bdd C) (o n : Nat) : ∀ x ∈ (C.drop o).take n, -1099511627776 ≤ x ∧ x ≤ 1099511627776 := fun x hx => h.all x (List.mem_of_mem_drop (List.mem_of_mem_take hx))
def censusS : ByteArray := ⟨#[99, 101, 110, 115, 117, 115]⟩
/-- What Check answers. -/
def CkOut (k : Nat) (w : World) (r : Ending) (w' : World) : Prop := if k = 0 then r = .returned .nilIface ∧ Below w.heap.size w w' else Mk w (some 14) [censusS, ckW k] r w'
theorem CkOut.ok {w w' : World} (h : Below w.heap.size w w') : CkOut 0 w (.returned .nilIface) w' := ⟨rfl, h⟩
theorem CkOut.bad {w w' : World} {k : Nat} {v : Value} (hk : k ≠ 0) (h : isErr w' (some 14) [censusS, ckW k] v) (hb : Below w.heap.size w w') : CkOut k w (.returned v) w' := by
  unfold CkOut
  rw [if_neg hk]
  exact ⟨v, rfl, h, hb⟩
theorem ckB_le (pK pR pM : Bool) (sR sM x1 x2 x4 x6 x28 x29 : Int) : ckB pK pR pM sR sM x1 x2 x4 x6 x28 x29 ≤ 5 := by
  unfold ckB
  repeat' split
  all_goals omega

set_option maxRecDepth 100000 in
set_option maxHeartbeats 16000000 in
theorem check_any (C : List Int) (w : World) (h : Bdd C) :
    Calls Tryd.prog 6 #[.agg (ci C)] w (CkOut (ckN C) w) := by
  have hCB : CB (w.alloc (.cells (ci C) 26)) w.heap.size C := ⟨heap_new w _, h.len⟩
  have t0 := Lib.hid (total_bd (kiL C) (some ⟨w.heap.size, 0, none⟩) 8 8 _ (by decide) (hCB.ints (o := 0) (n := 8) (by decide)) (h.sub 0 8))
  have t1 := Lib.hid (total_bd (reL C) (some ⟨w.heap.size, 8, none⟩) 16 16 _ (by decide) (hCB.ints (o := 8) (n := 16) (by decide)) (h.sub 8 16))
  have t2 := Lib.hid (total_bd (meL C) (some ⟨w.heap.size, 8 + 16, none⟩) 4 4 _ (by decide) (hCB.ints (o := 24) (n := 4) (by decide)) (h.sub 24 4))
  obtain ⟨c6, _⟩ := hCB.cell (i := 6) (by decide)
  obtain ⟨c2, _⟩ := hCB.cell (i := 2) (by decide)
  obtain ⟨c1, _⟩ := hCB.cell (i := 1) (by decide)
  obtain ⟨c4, _⟩ := hCB.cell (i := 4) (by decide)
  obtain ⟨c28, _⟩ := hCB.cell (i := 28) (by decide)
  obtain ⟨c29, _⟩ := hCB.cell (i := 29) (by decide)
  obtain ⟨p10, p11⟩ := h.at_ (i := 1) (by decide)
  obtain ⟨p20, p21⟩ := h.at_ (i := 2) (by decide)
  obtain ⟨p40, p41⟩ := h.at_ (i := 4) (by decide)
  obtain ⟨p280, p281⟩ := h.at_ (i := 28) (by decide)
  obtain ⟨p290, p291⟩ := h.at_ (i := 29) (by decide)
  have hv : ckN C = ckB (posB (kiL C)) (posB (reL C)) (posB (meL C)) (reL C).sum (meL C).sum (C.getD 1 0) (C.getD 2 0) (C.getD 4 0) (C.getD 6 0) (C.getD 28 0) (C.getD 29 0) := rfl
  generalize (reL C).sum = sR at hv t1
  generalize (meL C).sum = sM at hv t2
  generalize (kiL C).sum = s0 at t0
  generalize hpK : posB (kiL C) = pK at hv
  generalize hpR : posB (reL C) = pR at hv
  generalize hpM : posB (meL C) = pM at hv
  unfold posB at hpK hpR hpM
  rw [hpK] at t0
  rw [hpR] at t1
  rw [hpM] at t2
  clear hpK hpR hpM
  generalize C.getD 1 0 = x1 at *
  generalize C.getD 2 0 = x2 at *
  generalize C.getD 4 0 = x4 at *
  generalize C.getD 6 0 = x6 at *
  generalize C.getD 28 0 = x28 at *
  generalize C.getD 29 0 = x29 at *
  have hB := Lib.hid ((Below.refl w.heap.size w).alloc (Nat.le_refl _) (.cells (ci C) 26))
  have cO := Lib.hid (fun s W => of_any s 14 W (by decide))
  have cA := Lib.hid (fun s T u W h => at_any censusS (some 14) [s] T u W h)
  clear hCB h
  go_enter Tryd.func6, Tryd.ntmps6
  go_wp2_with (refine wpList_box_row 26 _ rfl rfl (ci C) rfl ?_)
  refine t0.out.mono ?_
  rintro r w1 ⟨rfl, rfl⟩
  go_wp2_with fail
  refine t1.out.mono ?_
  rintro r w1 ⟨rfl, rfl⟩
  go_wp2_with fail
  refine t2.out.mono ?_
  rintro r w1 ⟨rfl, rfl⟩
  generalize hW0 : w.alloc (.cells (ci C) 26) = W0 at hB c1 c2 c4 c6 c28 c29 ⊢
  clear hW0 t0 t1 t2
  cases pK with
  | false =>
    have hk := Lib.hid (show ckN C = 1 by rw [hv]; first | rfl | (unfold ckB; simp))
    clear hv
    as_aux_lemma =>
      go_wp2_with (first
        | (go_at_call 17; refine (cO.out _ _).mono ?_; rintro r w6 ⟨v6, rfl, hE6, hb6⟩; obtain ⟨T6, u6, rfl⟩ := isErr_some hE6; have hE6 := Lib.hid hE6; have hB6 := Lib.hid (hB.out.trans (hb6.mono hB.out.size)); clear hb6)
        | (go_at_call 16; refine (cA.out _ _ _ _ hE6.out).mono ?_; rintro r w7 ⟨v7, rfl, hE7, hb7⟩; obtain ⟨T7, u7, rfl⟩ := isErr_some hE7; have hE7 := Lib.hid hE7; have hB7 := Lib.hid (hB6.out.trans (hb7.mono hB6.out.size)); clear hb7))
      go_ret
      rw [hk.out]
      exact CkOut.bad (by decide) hE7.out hB7.out
  | true =>
    cases pR with
    | false =>
      have hk := Lib.hid (show ckN C = 2 by rw [hv]; first | rfl | (unfold ckB; simp))
      clear hv
      as_aux_lemma =>
        go_wp2_with (first
          | (go_at_call 17; refine (cO.out _ _).mono ?_; rintro r w6 ⟨v6, rfl, hE6, hb6⟩; obtain ⟨T6, u6, rfl⟩ := isErr_some hE6; have hE6 := Lib.hid hE6; have hB6 := Lib.hid (hB.out.trans (hb6.mono hB.out.size)); clear hb6)
          | (go_at_call 16; refine (cA.out _ _ _ _ hE6.out).mono ?_; rintro r w7 ⟨v7, rfl, hE7, hb7⟩; obtain ⟨T7, u7, rfl⟩ := isErr_some hE7; have hE7 := Lib.hid hE7; have hB7 := Lib.hid (hB6.out.trans (hb7.mono hB6.out.size)); clear hb7))
        go_ret
        rw [hk.out]
        exact CkOut.bad (by decide) hE7.out hB7.out
    | true =>
      by_cases h6 : sR = x6
      case neg =>
        have k6 : (sR != x6) = true := by unfold bne; rw [beq_eq_false_iff_ne.2 h6]; rfl
        have hk := Lib.hid (show ckN C = 2 by rw [hv]; first | rfl | (unfold ckB; simp [h6]))
        clear hv
        as_aux_lemma =>
          go_wp2_with (first
            | (go_at_call 17; refine (cO.out _ _).mono ?_; rintro r w6 ⟨v6, rfl, hE6, hb6⟩; obtain ⟨T6, u6, rfl⟩ := isErr_some hE6; have hE6 := Lib.hid hE6; have hB6 := Lib.hid (hB.out.trans (hb6.mono hB.out.size)); clear hb6)
            | (go_at_call 16; refine (cA.out _ _ _ _ hE6.out).mono ?_; rintro r w7 ⟨v7, rfl, hE7, hb7⟩; obtain ⟨T7, u7, rfl⟩ := isErr_some hE7; have hE7 := Lib.hid hE7; have hB7 := Lib.hid (hB6.out.trans (hb7.mono hB6.out.size)); clear hb7))
          go_ret
          rw [hk.out]
          exact CkOut.bad (by decide) hE7.out hB7.out
      subst h6
      cases pM with
      | false =>
        have hk := Lib.hid (show ckN C = 3 by rw [hv]; first | rfl | (unfold ckB; simp))
        clear hv
        as_aux_lemma =>
          go_wp2_with (first
            | (go_at_call 17; refine (cO.out _ _).mono ?_; rintro r w6 ⟨v6, rfl, hE6, hb6⟩; obtain ⟨T6, u6, rfl⟩ := isErr_some hE6; have hE6 := Lib.hid hE6; have hB6 := Lib.hid (hB.out.trans (hb6.mono hB.out.size)); clear hb6)
            | (go_at_call 16; refine (cA.out _ _ _ _ hE6.out).mono ?_; rintro r w7 ⟨v7, rfl, hE7, hb7⟩; obtain ⟨T7, u7, rfl⟩ := isErr_some hE7; have hE7 := Lib.hid hE7; have hB7 := Lib.hid (hB6.out.trans (hb7.mono hB6.out.size)); clear hb7))
          go_ret
          rw [hk.out]
          exact CkOut.bad (by decide) hE7.out hB7.out
      | true =>
        by_cases h2 : sM = x2
        case neg =>
          have k2 : (sM != x2) = true := by unfold bne; rw [beq_eq_false_iff_ne.2 h2]; rfl
          have hk := Lib.hid (show ckN C = 3 by rw [hv]; first | rfl | (unfold ckB; simp [h2]))
          clear hv
          as_aux_lemma =>
            go_wp2_with (first
              | (go_at_call 17; refine (cO.out _ _).mono ?_; rintro r w6 ⟨v6, rfl, hE6, hb6⟩; obtain ⟨T6, u6, rfl⟩ := isErr_some hE6; have hE6 := Lib.hid hE6; have hB6 := Lib.hid (hB.out.trans (hb6.mono hB.out.size)); clear hb6)
              | (go_at_call 16; refine (cA.out _ _ _ _ hE6.out).mono ?_; rintro r w7 ⟨v7, rfl, hE7, hb7⟩; obtain ⟨T7, u7, rfl⟩ := isErr_some hE7; have hE7 := Lib.hid hE7; have hB7 := Lib.hid (hB6.out.trans (hb7.mono hB6.out.size)); clear hb7))
            go_ret
            rw [hk.out]
            exact CkOut.bad (by decide) hE7.out hB7.out
        subst h2
        by_cases h4 : x28 < 0
        case pos =>
          have hk := Lib.hid (show ckN C = 4 by rw [hv]; first | rfl | (unfold ckB; simp [h4]))
          clear hv
          as_aux_lemma =>
            go_wp2_with (first
              | (go_at_call 17; refine (cO.out _ _).mono ?_; rintro r w6 ⟨v6, rfl, hE6, hb6⟩; obtain ⟨T6, u6, rfl⟩ := isErr_some hE6; have hE6 := Lib.hid hE6; have hB6 := Lib.hid (hB.out.trans (hb6.mono hB.out.size)); clear hb6)
              | (go_at_call 16; refine (cA.out _ _ _ _ hE6.out).mono ?_; rintro r w7 ⟨v7, rfl, hE7, hb7⟩; obtain ⟨T7, u7, rfl⟩ := isErr_some hE7; have hE7 := Lib.hid hE7; have hB7 := Lib.hid (hB6.out.trans (hb7.mono hB6.out.size)); clear hb7))
            go_ret
            rw [hk.out]
            exact CkOut.bad (by decide) hE7.out hB7.out
        have h4' : 0 ≤ x28 := by omega
        by_cases h5 : sM < x28 - x1
        case pos =>
          have hk := Lib.hid (show ckN C = 4 by rw [hv]; first | rfl | (unfold ckB; simp [h5]))
          clear hv
          as_aux_lemma =>
            go_wp2_with (first
              | (go_at_call 17; refine (cO.out _ _).mono ?_; rintro r w6 ⟨v6, rfl, hE6, hb6⟩; obtain ⟨T6, u6, rfl⟩ := isErr_some hE6; have hE6 := Lib.hid hE6; have hB6 := Lib.hid (hB.out.trans (hb6.mono hB.out.size)); clear hb6)
              | (go_at_call 16; refine (cA.out _ _ _ _ hE6.out).mono ?_; rintro r w7 ⟨v7, rfl, hE7, hb7⟩; obtain ⟨T7, u7, rfl⟩ := isErr_some hE7; have hE7 := Lib.hid hE7; have hB7 := Lib.hid (hB6.out.trans (hb7.mono hB6.out.size)); clear hb7))
            go_ret
            rw [hk.out]
            exact CkOut.bad (by decide) hE7.out hB7.out
        have h5' : x28 - x1 ≤ sM := by omega
        by_cases h7 : x29 < 0
        case pos =>
          have hk := Lib.hid (show ckN C = 5 by rw [hv]; first | rfl | (unfold ckB; simp [h4, h5, h7]))
          clear hv
          as_aux_lemma =>
            go_wp2_with (first
              | (go_at_call 17; refine (cO.out _ _).mono ?_; rintro r w6 ⟨v6, rfl, hE6, hb6⟩; obtain ⟨T6, u6, rfl⟩ := isErr_some hE6; have hE6 := Lib.hid hE6; have hB6 := Lib.hid (hB.out.trans (hb6.mono hB.out.size)); clear hb6)
              | (go_at_call 16; refine (cA.out _ _ _ _ hE6.out).mono ?_; rintro r w7 ⟨v7, rfl, hE7, hb7⟩; obtain ⟨T7, u7, rfl⟩ := isErr_some hE7; have hE7 := Lib.hid hE7; have hB7 := Lib.hid (hB6.out.trans (hb7.mono hB6.out.size)); clear hb7))
            go_ret
            rw [hk.out]
            exact CkOut.bad (by decide) hE7.out hB7.out
        have h7' : 0 ≤ x29 := by omega
        by_cases h8 : x4 < x29 - sM
        case pos =>
          have hk := Lib.hid (show ckN C = 5 by rw [hv]; first | rfl | (unfold ckB; simp [h4, h5, h8]))
          clear hv
          as_aux_lemma =>
            go_wp2_with (first
              | (go_at_call 17; refine (cO.out _ _).mono ?_; rintro r w6 ⟨v6, rfl, hE6, hb6⟩; obtain ⟨T6, u6, rfl⟩ := isErr_some hE6; have hE6 := Lib.hid hE6; have hB6 := Lib.hid (hB.out.trans (hb6.mono hB.out.size)); clear hb6)
              | (go_at_call 16; refine (cA.out _ _ _ _ hE6.out).mono ?_; rintro r w7 ⟨v7, rfl, hE7, hb7⟩; obtain ⟨T7, u7, rfl⟩ := isErr_some hE7; have hE7 := Lib.hid hE7; have hB7 := Lib.hid (hB6.out.trans (hb7.mono hB6.out.size)); clear hb7))
            go_ret
            rw [hk.out]
            exact CkOut.bad (by decide) hE7.out hB7.out
        have h8' : x29 - sM ≤ x4 := by omega
        have hk := Lib.hid (show ckN C = 0 by rw [hv]; unfold ckB; simp [h4, h5, h7, h8])
        clear hv
        as_aux_lemma =>
          go_wp2_with fail
          go_ret
          rw [hk.out]
          exact CkOut.ok hB.out
end Go.Proofs.YtbokdbppjiegjaaDoor
