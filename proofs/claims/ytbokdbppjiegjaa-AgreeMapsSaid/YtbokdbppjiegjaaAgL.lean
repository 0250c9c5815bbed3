/- Agree: the rules on sessions, on what comes early, and again. -/
import Derived.Test.YtbokdbppjiegjaaAgK
namespace Go.Proofs.Ytbokdbppjiegjaa
open Go.RowKit

theorem Ev.fldS {w : World} {b o : Nat} {e : Ev} (h : w.rangeAt b o e.cells) : w.cell? ⟨b, o + 8 + 23, none⟩ = some (.int .i64 e.dn.session) := by
  have := h 31 (.int .i64 e.dn.session) rfl
  rw [show o + 8 + 23 = o + 31 by omega]; exact this
/-- The session's first exchange among the events below, in memory. -/
theorem OC.first {W : World} {be bb bf bm : Nat} {x : Ev} {A : Option Addr} {n c : Nat} {B : List Ev} (h : OC W be bb bf bm x A n c B) :
    (opensI B x.ses = -1) ∨ ∃ (j b off : Nat), opensI B x.ses = j ∧ j < n ∧ A = some ⟨b, off, none⟩ ∧ W.cell? ⟨b, off + j * 34 + 8 + 23, none⟩ = some (.int .i64 (dnses B j)) := by
  rcases opensI_cases B x.ses with h1 | ⟨j, y, h1, hy, _⟩
  · exact .inl h1
  · have hj : j < n := by have := (List.getElem?_eq_some_iff.1 hy).1; have := h.hE.len; omega
    obtain ⟨b, off, y', rfl, hb, hy', hr⟩ := h.hE.row hj
    obtain rfl : y' = y := by rw [hy] at hy'; injection hy' with h; exact h.symm
    exact .inr ⟨j, b, off, h1, hj, rfl, by rw [show dnses B j = y'.dn.session by unfold dnses; simp [hy]]; exact Ev.fldS hr⟩

set_option maxHeartbeats 2000000 in
theorem rule4_any {W : World} {be bb bf bm : Nat} {x : Ev} {A : Option Addr} {n c : Nat} {B : List Ev} (h : OC W be bb bf bm x A n c B) :
    Calls Try.prog 83 #[.pointer (some ⟨be, 0, none⟩), .pointer (some ⟨bf, 0, none⟩), .pointer (some ⟨bb, 0, none⟩)] W fun r w' => r = .returned (.bool (b4 B x)) ∧ Below W.heap.size W w' := by
  have hv := show b4 B x = (!isExch x || (if opensI B x.ses < 0 then x.dn.session == x.dn.hash else x.dn.session == dnses B (opensI B x.ses))) from rfl
  have cX := Lib.hid (fun W' => exchange_any x W')
  have hK := Lib.hid (fun W' (hb : Below W.heap.size W W') => h.keep hb)
  have g := h.ev
  generalize isExch x = q at cX hv
  clear h
  cases q with
  | false =>
    have hv := Lib.hid hv
    go_enter Try.func83, Try.ntmps83
    go_wp2_with (first
      | (refine wpList_load_at 46 (.tmp 0) rfl rfl be 0 rfl x.cells _ g Try.underlying46 rfl (by kernel_rfl) ?_)
      | (go_at_call 62; (with_reducible refine (cX.out _).mono ?_); rintro r w5 ⟨rfl, hb5⟩))
    go_ret
    exact ⟨ret_bool (hv.out.trans (by simp)).symm, hb5⟩
  | true =>
    rw [Bool.not_true, Bool.false_or] at hv
    have hv := Lib.hid hv
    go_enter Try.func83, Try.ntmps83
    go_wp2_with (first
      | (refine wpList_load_at 46 (.tmp 0) rfl rfl be 0 rfl x.cells _ g Try.underlying46 rfl (by kernel_rfl) ?_)
      | (go_at_call 62; (with_reducible refine (cX.out _).mono ?_); rintro r w5 ⟨rfl, hb5⟩
         obtain ⟨_, _, _, _, _, s22, s23⟩ := (hK.out w5 hb5).flds
         have s1 := (hK.out w5 hb5).sl
         have s2 := (hK.out w5 hb5).fi
         have hF := (hK.out w5 hb5).first
         have hn := (hK.out w5 hb5).hn
         rcases hF with hF | ⟨j, b, off, hF, hj, rfl, s3⟩
         · rw [hF] at s2 hv
           have hv := Lib.hid (hv.out.trans (if_pos (by omega)))
           clear hF
           go_wp2_with fail
           go_ret
           exact ⟨ret_bool hv.out.symm, hb5⟩
         rw [hF] at s2 hv
         have hv := Lib.hid (hv.out.trans (if_neg (by omega)))
         have j1 : (0 : Int) ≤ (j : Int) := by omega
         have j2 : (j : Int) < (n : Int) := by omega
         generalize dnses B j = d at s3 hv
         clear hF
         go_wp2_with fail
         go_quiet (fail)
         go_wp2_with fail
         go_ret
         exact ⟨ret_bool hv.out.symm, hb5.trans (Below.mono (drewN_below _) hb5.size)⟩))

set_option maxHeartbeats 2000000 in
theorem rule5_any {W : World} {be bb bf bm : Nat} {x : Ev} {A : Option Addr} {n c : Nat} {B : List Ev} (h : OC W be bb bf bm x A n c B) :
    Calls Try.prog 84 #[.pointer (some ⟨be, 0, none⟩), .pointer (some ⟨bf, 0, none⟩), .pointer (some ⟨bb, 0, none⟩)] W fun r w' => r = .returned (.bool (b5 B x)) ∧ Below W.heap.size W w' := by
  have hv := show b5 B x = (!(x.kind == 3 || x.kind == 4 || x.kind == 5) || (decide (0 ≤ opensI B x.ses) && dnses B (opensI B x.ses) == x.sid)) from rfl
  obtain ⟨s0, _, _, _, s7, _, _⟩ := h.flds
  have s1 := h.sl
  have s2 := h.fi
  have hF := h.first
  have hn := h.hn
  clear h
  have hp : (x.kind = 3 ∨ x.kind = 4 ∨ x.kind = 5) ∨ (x.kind ≠ 3 ∧ x.kind ≠ 4 ∧ x.kind ≠ 5) := by omega
  rcases hp with hp | ⟨h3, h4, h5⟩
  · have hk : (x.kind == 3 || x.kind == 4 || x.kind == 5) = true := by rcases hp with h | h | h <;> simp [h]
    rw [hk, Bool.not_true, Bool.false_or] at hv
    clear hk
    rcases hF with hF | ⟨j, b, off, hF, hj, rfl, s3⟩
    · rw [hF] at s2 hv
      have hv := Lib.hid (hv.trans (by simp : _ = false))
      clear hF
      rcases hp with h | h | h
      all_goals
        rw [h] at s0
        clear h
        go_enter Try.func84, Try.ntmps84
        go_wp2_with fail
        go_quiet (fail)
        go_wp2_with fail
        go_ret
        exact ⟨ret_bool hv.out.symm, drewN_below _⟩
    · rw [hF] at s2 hv
      have j1 : (0 : Int) ≤ (j : Int) := by omega
      have j2 : (j : Int) < (n : Int) := by omega
      rw [decide_eq_true j1, Bool.true_and] at hv
      have hv := Lib.hid hv
      generalize dnses B j = d at s3 hv
      clear hF
      rcases hp with h | h | h
      all_goals
        rw [h] at s0
        clear h
        go_enter Try.func84, Try.ntmps84
        go_wp2_with fail
        go_quiet (fail)
        go_wp2_with fail
        go_ret
        exact ⟨ret_bool hv.out.symm, drewN_below _⟩
  · have k3 : (x.kind == 3) = false := beq_eq_false_iff_ne.2 h3
    have k4 : (x.kind == 4) = false := beq_eq_false_iff_ne.2 h4
    have k5 : (x.kind == 5) = false := beq_eq_false_iff_ne.2 h5
    rw [k3, k4, k5] at hv
    have hv := Lib.hid hv
    clear h3 h4 h5 hF
    go_enter Try.func84, Try.ntmps84
    go_wp2_with fail
    go_ret
    exact ⟨ret_bool (hv.out.trans (by simp)).symm, Below.refl _ _⟩

set_option maxHeartbeats 2000000 in
theorem rule6_any {W : World} {be bb bf bm : Nat} {x : Ev} {A : Option Addr} {n c : Nat} {B : List Ev} (h : OC W be bb bf bm x A n c B) :
    Calls Try.prog 85 #[.pointer (some ⟨be, 0, none⟩), .pointer (some ⟨bb, 0, none⟩), .pointer (some ⟨bm, 0, none⟩)] W fun r w' => r = .returned (.bool (b6 B x)) ∧ Below W.heap.size W w' := by
  have hv := show b6 B x = (!(x.kind == 4 || x.kind == 5) || !(B.any (isKS x.kind x.ses))) from rfl
  have cN := Lib.hid (fun W' (hb : Below W.heap.size W W') bk hk l => noneMine (h.keep hb) x.kind bk hk l)
  have hS := Lib.hid (fun W' (hb : Below W.heap.size W W') => (⟨(h.keep hb).flds.1, (h.keep hb).sl, (h.keep hb).mi⟩ : W'.cell? ⟨be, 0, none⟩ = some (.int .i64 x.kind) ∧ W'.cell? ⟨bb, 0, none⟩ = some (.slice A n c) ∧ W'.cell? ⟨bm, 0, none⟩ = some (.func (.func 77) #[] #[.pointer (some ⟨be, 0, none⟩)])))
  have cM := Lib.hid (fun W' => mine_any x.kind be W')
  generalize B.any (isKS x.kind x.ses) = q at cN hv
  have hB0 := Lib.hid (show Below W.heap.size W W.drew from drewN_below 1)
  generalize x.kind = kd at hv cN hS cM
  clear h
  have hp : (kd = 4 ∨ kd = 5) ∨ (kd ≠ 4 ∧ kd ≠ 5) := by omega
  rcases hp with hp | ⟨h4, h5⟩
  · have hk : (kd == 4 || kd == 5) = true := by rcases hp with h | h <;> simp [h]
    rw [hk, Bool.not_true, Bool.false_or] at hv
    have hv := Lib.hid hv
    clear hk
    rcases hp with rfl | rfl
    · go_enter Try.func85, Try.ntmps85
      go_wp2_with fail
      obtain ⟨s1, s2, s3⟩ := hS.out W.drew hB0.out
      first
        | (go_region_with (first
            | (go_at_call 77; (with_reducible refine (cM.out _).mono ?_); rintro r w5 ⟨bk, rfl, hk5, l5, hb5⟩; have hB5 := Lib.hid (hB0.out.trans (hb5.mono hB0.out.size)); clear hb5; obtain ⟨t1, t2, t3⟩ := hS.out w5 hB5.out)
            | (go_at_call 80; (with_reducible refine (cN.out _ hB5.out bk hk5 l5).mono ?_); rintro r w6 ⟨rfl, hb6⟩; have hB6 := Lib.hid (hB5.out.trans (hb6.mono hB5.out.size)); clear hb6)))
        | fail
      all_goals
        go_wp2_with fail
        go_ret
        exact ⟨ret_bool hv.out.symm, hB6.out⟩
    · go_enter Try.func85, Try.ntmps85
      go_wp2_with fail
      go_region_held3 (fun W' => W'.cell? ⟨be, 0, none⟩ = some (.int .i64 5) ∧ W'.cell? ⟨bb, 0, none⟩ = some (.slice A n c) ∧ W'.cell? ⟨bm, 0, none⟩ = some (.func (.func 77) #[] #[.pointer (some ⟨be, 0, none⟩)]))
        (first | exact hS.out _ hB0.out | exact hS.out _ hB5.out | exact hS.out _ hB6.out)
        (first
          | (go_at_call 77; (with_reducible refine (cM.out _).mono ?_); rintro r w5 ⟨bk, rfl, hk5, l5, hb5⟩; have hB5 := Lib.hid (hB0.out.trans (hb5.mono hB0.out.size)); clear hb5)
          | (go_at_call 80; (with_reducible refine (cN.out _ hB5.out bk hk5 l5).mono ?_); rintro r w6 ⟨rfl, hb6⟩; have hB6 := Lib.hid (hB5.out.trans (hb6.mono hB5.out.size)); clear hb6))
      all_goals
        go_wp2_with fail
        go_ret
        exact ⟨ret_bool hv.out.symm, hB6.out⟩
  · have k4 : (kd == 4) = false := beq_eq_false_iff_ne.2 h4
    have m4 : (kd != 4) = true := by unfold bne; rw [k4]; rfl
    have m5 : (kd != 5) = true := by unfold bne; rw [beq_eq_false_iff_ne.2 h5]; rfl
    have k5 : (kd == 5) = false := beq_eq_false_iff_ne.2 h5
    rw [k4, k5] at hv
    have hv := Lib.hid hv
    obtain ⟨s1, s2, s3⟩ := hS.out W (Below.refl _ _)
    clear h4 h5
    go_enter Try.func85, Try.ntmps85
    go_wp2_with fail
    go_quiet (fail)
    go_wp2_with fail
    go_ret
    exact ⟨ret_bool (hv.out.trans (by simp)).symm, drewN_below _⟩
end Go.Proofs.Ytbokdbppjiegjaa
