/- Agree: like. -/
import Derived.Test.YtbokdbppjiegjaaAgC
import Derived.Test.YtbokdbppjiegjaaAgD
import Derived.BigQuiet
import Derived.Deep.QuietTactic
import Derived.Deep.RegionWith
import Derived.Deep.RegionHeld3
namespace Go.Proofs.Ytbokdbppjiegjaa
open Go.RowKit

/-- The load of an event, behind a name: so a load inside a region that draws its order is one step. -/
noncomputable def ldE (a : Addr) : Sem Value := loadVar 46 a
theorem ldE_eq (a : Addr) : loadVar 46 a = ldE a := rfl
theorem ldE_run {w : World} {b o : Nat} {e : Ev} (h : w.rangeAt b o e.cells) : (ldE ⟨b, o, none⟩).run Try.prog w = .ok (.agg e.cells.toArray) w := by
  unfold ldE
  exact run_loadVar_mid (P := Try.prog) w b o 46 e.cells _ h Try.underlying46 rfl (by kernel_rfl)
theorem two_evs (e x : Ev) (w : World) : Below w.heap.size w ((w.alloc (.cells e.cells.toArray 46)).alloc (.cells x.cells.toArray 46)) ∧ w.heap.size + 1 < ((w.alloc (.cells e.cells.toArray 46)).alloc (.cells x.cells.toArray 46)).heap.size ∧
    ((w.alloc (.cells e.cells.toArray 46)).alloc (.cells x.cells.toArray 46)).rangeAt w.heap.size 0 e.cells ∧ ((w.alloc (.cells e.cells.toArray 46)).alloc (.cells x.cells.toArray 46)).rangeAt (w.heap.size + 1) 0 x.cells := by
  refine ⟨?_, ?_, ?_, ?_⟩
  · exact ((Below.refl w.heap.size w).alloc (Nat.le_refl _) _).alloc (by simp) _
  · simp
  · exact rangeAt_list (heap_past (heap_new w (.cells e.cells.toArray 46)) (.cells x.cells.toArray 46))
  · have := rangeAt_list (heap_new (w.alloc (.cells e.cells.toArray 46)) (.cells x.cells.toArray 46))
    simp only [World.size_alloc] at this
    exact this

/-- '==' at what an event tells about a user, behind a name. -/
noncomputable def eqU (x y : Value) : Sem Value := binOp .eql 95 x y
theorem eqU_eq (x y : Value) : binOp .eql 95 x y = eqU x y := rfl
theorem eqU_run (e f : Ev) (he : allOk evDs e.cells) (hf : allOk evDs f.cells) (w : World) : (eqU (.agg (uCells e).toArray) (.agg (uCells f).toArray)).run Try.prog w = .ok (.bool (sameU e f)) w := eql_us e f he hf w
noncomputable def egU (x y : Operand) (a b : Value) : Sem Unit := eqGuard .eql 95 x y a b
theorem egU_eq (x y : Operand) (a b : Value) : eqGuard .eql 95 x y a b = egU x y a b := rfl
theorem egU_run (x y : Operand) (xs ys : Array Value) (w : World) : (egU x y (.agg xs) (.agg ys)).run Try.prog w = .ok () w := run_eqGuard_agg (w := w) .eql _ x y xs ys us_guard

attribute [local go_sem ↓] ldE_eq eqU_eq egU_eq
attribute [local go_sem] egU_run
set_option maxHeartbeats 2000000 in
theorem like_2 (e x : Ev) (he : allOk evDs e.cells) (hx : allOk evDs x.cells) (w : World) (k2 : x.kind = 2) :
    Calls Try.prog 46 #[.agg e.cells.toArray, .agg x.cells.toArray] w fun r w' => r = .returned (.bool (likeE e x)) ∧ Below w.heap.size w w' := by
  obtain ⟨hB, hlt, hE, hX⟩ := two_evs e x w
  have hq := Lib.hid (eql_dn e.dn x.dn (dn_ok he) (dn_ok hx))
  have hdE := Ev.fldD hE
  have hdX := Ev.fldD hX
  have c0 := hE 0 _ e.at0
  have c3 := hE 3 _ e.at3
  have d0 := hX 0 _ x.at0
  have d3 := hX 3 _ x.at3
  simp only [Nat.zero_add] at c0 c3 d0 d3 hdE hdX
  have hB := Lib.hid hB
  have hv := show likeE e x = (e.kind == 1 && e.who == x.who && decide (e.dn = x.dn)) by unfold likeE; rw [if_pos (by simp [k2])]
  rw [k2] at d0
  clear hE hX he hx k2 hlt
  generalize decide (e.dn = x.dn) = q at hq hv
  have e1 : (e.kind == 1) = false ∨ (e.kind == 1) = true := by cases (e.kind == 1) <;> simp
  have e2 : (e.who == x.who) = false ∨ (e.who == x.who) = true := by cases (e.who == x.who) <;> simp
  rcases e1 with e1 | e1 <;> rcases e2 with e2 | e2
  all_goals
    rw [e1, e2] at hv
    have hv := Lib.hid hv
    go_enter Try.func46, Try.ntmps46
    go_wp2_with (first
      | (refine wpList_load_at 44 (.tmp 20) rfl rfl w.heap.size 8 rfl e.dn.cells _ hdE Try.underlying44 rfl (by kernel_rfl) ?_)
      | (refine wpList_load_at 44 (.tmp 22) rfl rfl (w.heap.size + 1) 8 rfl x.dn.cells _ hdX Try.underlying44 rfl (by kernel_rfl) ?_)
      | (refine wpList_eql_at 44 44 (.tmp 21) (.tmp 23) rfl rfl e.dn.cells.toArray x.dn.cells.toArray rfl rfl dn_guard q (hq.out _) ?_))
    go_ret
    exact ⟨ret_bool (hv.out.trans (by simp)).symm, hB.out⟩

set_option maxHeartbeats 2000000 in
theorem like_no (e x : Ev) (w : World) (hv : likeE e x = false) (h : (x.kind = 4 ∧ e.kind ≠ 3) ∨ (x.kind = 5 ∧ e.kind ≠ 4) ∨ (x.kind ≠ 2 ∧ x.kind ≠ 4 ∧ x.kind ≠ 5)) :
    Calls Try.prog 46 #[.agg e.cells.toArray, .agg x.cells.toArray] w fun r w' => r = .returned (.bool (likeE e x)) ∧ Below w.heap.size w w' := by
  obtain ⟨hB, hlt, hE, hX⟩ := two_evs e x w
  have c0 := hE 0 _ e.at0
  have d0 := hX 0 _ x.at0
  simp only [Nat.zero_add] at c0 d0
  have hB := Lib.hid hB
  rw [hv]
  clear hE hX hlt hv
  rcases h with ⟨h1, h2⟩ | ⟨h1, h2⟩ | ⟨h1, h2, h3⟩
  · rw [h1] at d0
    have k1 : (e.kind == 3) = false := beq_eq_false_iff_ne.2 h2
    clear h1 h2
    go_enter Try.func46, Try.ntmps46
    go_wp2_with fail
    go_quiet (fail)
    go_wp2_with fail
    go_ret
    exact ⟨rfl, hB.out.trans (Below.mono (drewN_below _) hB.out.size)⟩
  · rw [h1] at d0
    have k1 : (e.kind == 4) = false := beq_eq_false_iff_ne.2 h2
    clear h1 h2
    go_enter Try.func46, Try.ntmps46
    go_wp2_with fail
    go_quiet (fail)
    go_wp2_with fail
    go_ret
    exact ⟨rfl, hB.out.trans (Below.mono (drewN_below _) hB.out.size)⟩
  · have k1 : (x.kind == 2) = false := beq_eq_false_iff_ne.2 h1
    have k2 : (x.kind == 4) = false := beq_eq_false_iff_ne.2 h2
    have k3 : (x.kind == 5) = false := beq_eq_false_iff_ne.2 h3
    clear h1 h2 h3
    go_enter Try.func46, Try.ntmps46
    go_wp2_with fail
    go_ret
    exact ⟨rfl, hB.out⟩

set_option maxHeartbeats 4000000 in
set_option maxRecDepth 100000 in
theorem like_45 (e x : Ev) (he : allOk evDs e.cells) (hx : allOk evDs x.cells) (w : World) (h : (x.kind = 4 ∧ e.kind = 3) ∨ (x.kind = 5 ∧ e.kind = 4)) :
    Calls Try.prog 46 #[.agg e.cells.toArray, .agg x.cells.toArray] w fun r w' => r = .returned (.bool (likeE e x)) ∧ Below w.heap.size w w' := by
  obtain ⟨hB, hlt, hE, hX⟩ := two_evs e x w
  have hq := eqU_run e x he hx
  have hv : likeE e x = sameU e x := by unfold likeE; rcases h with ⟨h1, h2⟩ | ⟨h1, h2⟩ <;> simp [h1, h2]
  have c0 := hE 0 _ e.at0
  have d0 := hX 0 _ x.at0
  simp only [Nat.zero_add] at c0 d0
  have hS : ∀ W, Below ((w.alloc (.cells e.cells.toArray 46)).alloc (.cells x.cells.toArray 46)).heap.size ((w.alloc (.cells e.cells.toArray 46)).alloc (.cells x.cells.toArray 46)) W →
      (W.cell? ⟨w.heap.size, 0, none⟩ = some (.int .i64 e.kind) ∧ (ldE ⟨w.heap.size, 0, none⟩).run Try.prog W = .ok (.agg e.cells.toArray) W ∧ (ldE ⟨w.heap.size + 1, 0, none⟩).run Try.prog W = .ok (.agg x.cells.toArray) W) := fun W hW =>
    ⟨(hW.cell (p := ⟨w.heap.size, 0, none⟩) (Nat.lt_of_succ_lt hlt)).trans c0, ldE_run (rangeAt_keep hE hW (Nat.lt_of_succ_lt hlt)), ldE_run (rangeAt_keep hX hW hlt)⟩
  have hS := Lib.hid hS
  have hB := Lib.hid hB
  have aE := Lib.hid (fun W => about_any e W)
  have aX := Lib.hid (fun W => about_any x W)
  rw [hv]
  clear hE hX hlt hv
  generalize sameU e x = q at hq
  rcases h with ⟨h1, h2⟩ | ⟨h1, h2⟩
  · rw [h1] at d0
    rw [h2] at c0 hS
    clear h1 h2
    go_enter Try.func46, Try.ntmps46
    go_wp2_with fail
    generalize ((w.alloc (.cells e.cells.toArray 46)).alloc (.cells x.cells.toArray 46)) = W0 at hB hS c0 d0 ⊢
    have hB0 := Lib.hid (show Below W0.heap.size W0 W0.drew from drewN_below 1)
    go_region_held3 (fun W => W.cell? ⟨w.heap.size, 0, none⟩ = some (.int .i64 3) ∧ (ldE ⟨w.heap.size, 0, none⟩).run Try.prog W = .ok (.agg e.cells.toArray) W ∧ (ldE ⟨w.heap.size + 1, 0, none⟩).run Try.prog W = .ok (.agg x.cells.toArray) W)
      (first | exact hS.out _ hB0.out | exact hS.out _ hB5.out | exact hS.out _ hB6.out)
      (first
        | (go_at_call 60; (with_reducible refine (aE.out _).mono ?_); rintro r w5 ⟨rfl, hb5⟩; have hB5 := Lib.hid (Below.trans (by first | exact hB6.out | exact hB0.out) (hb5.mono (by first | exact hB6.out.size | exact hB0.out.size))); clear hb5)
        | (go_at_call 60; (with_reducible refine (aX.out _).mono ?_); rintro r w6 ⟨rfl, hb6⟩; have hB6 := Lib.hid (Below.trans (by first | exact hB5.out | exact hB0.out) (hb6.mono (by first | exact hB5.out.size | exact hB0.out.size))); clear hb6))
    all_goals
      go_wp2_with fail
      go_ret
      exact ⟨rfl, hB.out.trans (Below.mono (by first | exact hB5.out | exact hB6.out) hB.out.size)⟩
  · rw [h1] at d0
    rw [h2] at c0 hS
    clear h1 h2
    go_enter Try.func46, Try.ntmps46
    go_wp2_with fail
    generalize ((w.alloc (.cells e.cells.toArray 46)).alloc (.cells x.cells.toArray 46)) = W0 at hB hS c0 d0 ⊢
    have hB0 := Lib.hid (show Below W0.heap.size W0 W0.drew from drewN_below 1)
    go_region_held3 (fun W => W.cell? ⟨w.heap.size, 0, none⟩ = some (.int .i64 4) ∧ (ldE ⟨w.heap.size, 0, none⟩).run Try.prog W = .ok (.agg e.cells.toArray) W ∧ (ldE ⟨w.heap.size + 1, 0, none⟩).run Try.prog W = .ok (.agg x.cells.toArray) W)
      (first | exact hS.out _ hB0.out | exact hS.out _ hB5.out | exact hS.out _ hB6.out)
      (first
        | (go_at_call 60; (with_reducible refine (aE.out _).mono ?_); rintro r w5 ⟨rfl, hb5⟩; have hB5 := Lib.hid (Below.trans (by first | exact hB6.out | exact hB0.out) (hb5.mono (by first | exact hB6.out.size | exact hB0.out.size))); clear hb5)
        | (go_at_call 60; (with_reducible refine (aX.out _).mono ?_); rintro r w6 ⟨rfl, hb6⟩; have hB6 := Lib.hid (Below.trans (by first | exact hB5.out | exact hB0.out) (hb6.mono (by first | exact hB5.out.size | exact hB0.out.size))); clear hb6))
    all_goals
      go_wp2_with fail
      go_ret
      exact ⟨rfl, hB.out.trans (Below.mono (by first | exact hB5.out | exact hB6.out) hB.out.size)⟩
end Go.Proofs.Ytbokdbppjiegjaa
