/- Agree: the rules on a taken key and on numbers. -/
import Derived.Test.YtbokdbppjiegjaaAgJ
import Derived.StillTailTactics
namespace Go.Proofs.Ytbokdbppjiegjaa
open Go.RowKit

theorem idx_eq_neg {α : Type} (p : α → Bool) (l : List α) : (idx p l == -1) = !(l.any p) := by
  rcases idx_cases p l with ⟨h, hm⟩ | ⟨k, x, h, hx, hq, _⟩
  · rw [h, hm]; rfl
  · rw [h, any_hit p hx hq]
    simp
set_option maxHeartbeats 1000000 in
theorem rule2_any {W : World} {be bb bf bm : Nat} {x : Ev} {A : Option Addr} {n c : Nat} {B : List Ev} (h : OC W be bb bf bm x A n c B) :
    Calls Try.prog 81 #[.pointer (some ⟨be, 0, none⟩), .pointer (some ⟨bb, 0, none⟩)] W fun r w' => r = .returned (.bool (b2 B x)) ∧ Below W.heap.size W w' := by
  have hv := show b2 B x = (!(x.kind == 7) || !(B.any (isTaken x.who))) from rfl
  rw [← idx_eq_neg] at hv
  have cT := Lib.hid (takenAt_any B A n c x.who W (by have := h.hn; omega) h.hE)
  have hi : -1 ≤ idx (isTaken x.who) B := by rcases idx_cases (isTaken x.who) B with ⟨h, _⟩ | ⟨k, y, h, _⟩ <;> omega
  generalize idx (isTaken x.who) B = i at cT hv hi
  obtain ⟨s0, _, _, s3, _⟩ := h.flds
  have s4 := h.sl
  clear h
  cases e1 : (x.kind == 7)
  all_goals
    rw [e1] at hv
    have hv := Lib.hid hv
    have e1' : (x.kind != 7) = !(x.kind == 7) := rfl
    rw [e1] at e1'
    go_enter Try.func81, Try.ntmps81
    go_wp2_with (go_at_call 76; (with_reducible refine cT.out.mono ?_); rintro r w5 ⟨rfl, hb5⟩)
    go_ret
    first
      | exact ⟨ret_bool (hv.out.trans (by simp)).symm, Below.refl _ _⟩
      | exact ⟨ret_bool (hv.out.trans (by simp)).symm, hb5⟩

attribute [local go_sem ↓] ldE_eq
set_option maxHeartbeats 2000000 in
set_option maxRecDepth 100000 in
theorem rule3_any {W : World} {be bb bf bm : Nat} {x : Ev} {A : Option Addr} {n c : Nat} {B : List Ev} (h : OC W be bb bf bm x A n c B) :
    Calls Try.prog 82 #[.pointer (some ⟨be, 0, none⟩), .pointer (some ⟨bb, 0, none⟩)] W fun r w' => r = .returned (.bool (b3 B x)) ∧ Below W.heap.size W w' := by
  have hv := show b3 B x = (!isExch x || x.num == ((B.countP (ofSes x.ses) : Nat) : Int)) from rfl
  rw [← keysL_len] at hv
  have cX := Lib.hid (fun W' => exchange_any x W')
  have cK := Lib.hid (fun W' (hb : Below W.heap.size W W') => keys_any B A n c x.ses W' h.hn (h.hE.keep hb))
  have hS := Lib.hid (fun W' (hb : Below W.heap.size W W') => (⟨ldE_run (h.keep hb).ev, (h.keep hb).flds.2.2.1, (h.keep hb).sl, (h.keep hb).flds.2.1⟩ :
    (ldE ⟨be, 0, none⟩).run Try.prog W' = .ok (.agg x.cells.toArray) W' ∧ W'.cell? ⟨be, 2, none⟩ = some (.int .i64 x.num) ∧ W'.cell? ⟨bb, 0, none⟩ = some (.slice A n c) ∧ W'.cell? ⟨be, 1, none⟩ = some (.int .i64 x.ses)))
  generalize isExch x = q at cX hv
  have hl : (keysL B x.ses).length ≤ 1000000 := by
    have h1 := h.hE.len
    have h2 := h.hn
    rw [keysL_len]
    exact Nat.le_trans List.countP_le_length (by omega)
  generalize keysL B x.ses = ds at cK hv hl
  have hB0 := Lib.hid (show Below W.heap.size W W.drew from drewN_below 1)
  clear h
  cases q with
  | false =>
    have hv := Lib.hid hv
    go_enter Try.func82, Try.ntmps82
    go_wp2_with fail
    obtain ⟨s1, s2, s3, s4⟩ := hS.out W.drew hB0.out
    obtain ⟨r1, r2, r3, r4⟩ := hS.out W (Below.refl _ _)
    first
      | (go_region_with (go_at_call 62; (with_reducible refine (cX.out _).mono ?_); rintro r w5 ⟨rfl, hb5⟩; have hB5 := Lib.hid (hB0.out.trans (hb5.mono hB0.out.size)); clear hb5))
      | fail
    all_goals
      go_wp2_with fail
      go_ret
      exact ⟨ret_bool (hv.out.trans (by simp)).symm, hB5.out⟩
  | true =>
    have hv := Lib.hid hv
    go_enter Try.func82, Try.ntmps82
    go_wp2_with fail
    go_region_held3 (fun W' => (ldE ⟨be, 0, none⟩).run Try.prog W' = .ok (.agg x.cells.toArray) W' ∧ W'.cell? ⟨be, 2, none⟩ = some (.int .i64 x.num) ∧ W'.cell? ⟨bb, 0, none⟩ = some (.slice A n c) ∧ W'.cell? ⟨be, 1, none⟩ = some (.int .i64 x.ses))
      (first | exact hS.out _ hB0.out | exact hS.out _ hB5.out | exact hS.out _ hB6.out)
      (first
        | (go_at_call 62; (with_reducible refine (cX.out _).mono ?_); rintro r w5 ⟨rfl, hb5⟩; have hB5 := Lib.hid (hB0.out.trans (hb5.mono hB0.out.size)); clear hb5)
        | (go_at_call 53; (with_reducible refine (cK.out _ hB5.out).mono ?_); rintro r w6 hp6; obtain ⟨A6, n6, c6, rfl, hn6, _, hb6⟩ := hp6.slice; have hB6 := Lib.hid (hB5.out.trans (hb6.mono hB5.out.size)); clear hb6 hp6))
    all_goals
      go_wp2_with fail
      go_ret
      exact ⟨ret_bool (hv.out.trans (by rw [← hn6.out]; simp)).symm, hB6.out⟩
end Go.Proofs.Ytbokdbppjiegjaa
