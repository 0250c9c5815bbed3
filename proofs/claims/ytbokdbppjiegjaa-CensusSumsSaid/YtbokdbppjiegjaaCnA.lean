/- The census: the walks of the reference's counts, of few and of within. -/
import Derived.Test.YtbokdbppjiegjaaTrE
import Derived.Deep.DeepCutAuto
namespace Go.Proofs.Ytbokdbppjiegjaa
open Go.RowKit

def win (x most : Int) : Int := if x < 0 ∨ most < x then 0 else x
theorem within_any (x most : Int) (w : World) :
    Calls Try.prog 38 #[.int .i64 x, .int .i64 most] w fun r w' => r = .returned (.int .i64 (win x most)) ∧ w = w' := by
  have hw : win x most = if x < 0 ∨ most < x then 0 else x := rfl
  by_cases h1 : x < 0
  · rw [if_pos (.inl h1)] at hw
    have hW := Lib.hid hw
    clear hw
    go_enter Try.func38, Try.ntmps38
    go_wp2_with fail
    go_ret
    exact ⟨ret_int hW.out.symm, rfl⟩
  by_cases h2 : most < x
  · rw [if_pos (.inr h2)] at hw
    have hW := Lib.hid hw
    clear hw
    go_enter Try.func38, Try.ntmps38
    go_wp2_with fail
    go_ret
    exact ⟨ret_int hW.out.symm, rfl⟩
  · rw [if_neg (by omega)] at hw
    have hW := Lib.hid hw
    clear hw
    go_enter Try.func38, Try.ntmps38
    go_wp2_with fail
    go_ret
    exact ⟨ret_int hW.out.symm, rfl⟩

theorem countP_take_succ {α : Type} (p : α → Bool) {l : List α} {k : Nat} {x : α} (h : l[k]? = some x) : (l.take (k + 1)).countP p = (l.take k).countP p + (if p x then 1 else 0) := by
  rw [take_succ_of h, List.countP_append]
  simp [List.countP_cons]
theorem countP_take_le {α : Type} (p : α → Bool) (l : List α) (k : Nat) : (l.take k).countP p ≤ k := Nat.le_trans List.countP_le_length (List.length_take_le _ _)

def kHit (place : Int) (e : Ev) : Bool := win e.kind 7 == place
def rHit (place : Int) (e : Ev) : Bool := e.kind == 6 && win e.num 15 == place
def mHit (place : Int) (e : Ev) : Bool := e.kind == 2 && win e.dn.method 3 == place
set_option maxRecDepth 100000 in
set_option maxHeartbeats 1000000 in
theorem countK_any (es : List Ev) (A : Option Addr) (n c : Nat) (place : Int) (w : World) (hn : n ≤ 1000000) (H : Evs w A n es) :
    Calls Try.prog 13 #[.slice A n c, .int .i64 0, .int .i64 0, .int .i64 place, .int .i64 7] w fun r w' => r = .returned (.int .i64 (es.countP (kHit place) : Nat)) ∧ w = w' := by
  have hlen := Lib.hid H.len
  go_enter Try.func13, Try.ntmps13
  go_wp2_with fail
  go_loop [11, 12, 13] (fun m i _ => ∃ k : Nat, ∃ q : Nat, k ≤ n ∧ q ≤ k ∧ i = .int .i64 k ∧ m = .int .i64 q ∧ Hid (q = (es.take k).countP (kHit place))) (fun _ i _ => n - (intOf i).toNat)
  case atStart => exact ⟨0, 0, by omega, by omega, rfl, rfl, by simp [Hid]⟩
  case round =>
    obtain ⟨k, q, hk, hqk, rfl, rfl, hq⟩ := hrel
    by_cases hlt : k < n
    · obtain ⟨b, off, e, rfl, hb, he, hr⟩ := H.row hlt
      obtain ⟨f0, f1, f2, f3⟩ := Ev.flds hr
      have fM := Ev.fldM hr
      have hstep := countP_take_succ (kHit place) he
      rw [← hq.out] at hstep
      have hh : kHit place e = (win e.kind 7 == place) := by simp [kHit]
      have hw : win e.kind 7 = if e.kind < 0 ∨ 7 < e.kind then 0 else e.kind := rfl
      clear hr he f1 f3
      have hcs : e.kind < 0 ∨ (0 ≤ e.kind ∧ 7 < e.kind) ∨ (0 ≤ e.kind ∧ e.kind ≤ 7) := by omega
      rcases hcs with h1 | ⟨h1, h2⟩ | ⟨h1, h2⟩ <;> cases hp : (win e.kind 7 == place)
      all_goals
        first | rw [if_pos (Or.inl h1)] at hw | rw [if_pos (Or.inr h2)] at hw | rw [if_neg (by omega)] at hw
        rw [hp] at hh
        rw [hh] at hstep
        rw [hw] at hp
        have hS := Lib.hid hstep
        clear hstep hh hw
        go_wp2_with fail
        go_round
        case rel => first | exact ⟨k + 1, q + 1, by omega, by omega, by go_num, by go_num, hS.out.symm⟩ | exact ⟨k + 1, q, by omega, by omega, by go_num, rfl, hS.out.symm⟩
        case measure => simp [intOf]; omega
    · go_wp2_with fail
      go_ret
      refine ⟨ret_int ?_, rfl⟩
      rw [hq.out, List.take_of_length_le (by rw [hlen.out]; omega)]
set_option maxRecDepth 100000 in
set_option maxHeartbeats 1000000 in
theorem countR_any (es : List Ev) (A : Option Addr) (n c : Nat) (place : Int) (w : World) (hn : n ≤ 1000000) (H : Evs w A n es) :
    Calls Try.prog 13 #[.slice A n c, .int .i64 6, .int .i64 1, .int .i64 place, .int .i64 15] w fun r w' => r = .returned (.int .i64 (es.countP (rHit place) : Nat)) ∧ w = w' := by
  have hlen := Lib.hid H.len
  go_enter Try.func13, Try.ntmps13
  go_wp2_with fail
  go_loop [11, 12, 13] (fun m i _ => ∃ k : Nat, ∃ q : Nat, k ≤ n ∧ q ≤ k ∧ i = .int .i64 k ∧ m = .int .i64 q ∧ Hid (q = (es.take k).countP (rHit place))) (fun _ i _ => n - (intOf i).toNat)
  case atStart => exact ⟨0, 0, by omega, by omega, rfl, rfl, by simp [Hid]⟩
  case round =>
    obtain ⟨k, q, hk, hqk, rfl, rfl, hq⟩ := hrel
    by_cases hlt : k < n
    · obtain ⟨b, off, e, rfl, hb, he, hr⟩ := H.row hlt
      obtain ⟨f0, f1, f2, f3⟩ := Ev.flds hr
      have fM := Ev.fldM hr
      have hstep := countP_take_succ (rHit place) he
      rw [← hq.out] at hstep
      have hh : rHit place e = (e.kind == 6 && win e.num 15 == place) := by simp [rHit]
      have hw : win e.num 15 = if e.num < 0 ∨ 15 < e.num then 0 else e.num := rfl
      clear hr he f1 f3
      have hcs : e.num < 0 ∨ (0 ≤ e.num ∧ 15 < e.num) ∨ (0 ≤ e.num ∧ e.num ≤ 15) := by omega
      cases hkk : (e.kind == 6) <;> rcases hcs with h1 | ⟨h1, h2⟩ | ⟨h1, h2⟩ <;> cases hp : (win e.num 15 == place)
      all_goals
        first | rw [if_pos (Or.inl h1)] at hw | rw [if_pos (Or.inr h2)] at hw | rw [if_neg (by omega)] at hw
        rw [hp, hkk] at hh
        rw [hh] at hstep
        rw [hw] at hp
        have hS := Lib.hid hstep
        clear hstep hh hw
        go_wp2_with fail
        go_round
        case rel => first | exact ⟨k + 1, q + 1, by omega, by omega, by go_num, by go_num, hS.out.symm⟩ | exact ⟨k + 1, q, by omega, by omega, by go_num, rfl, hS.out.symm⟩
        case measure => simp [intOf]; omega
    · go_wp2_with fail
      go_ret
      refine ⟨ret_int ?_, rfl⟩
      rw [hq.out, List.take_of_length_le (by rw [hlen.out]; omega)]
set_option maxRecDepth 100000 in
set_option maxHeartbeats 1000000 in
theorem countM_any (es : List Ev) (A : Option Addr) (n c : Nat) (place : Int) (w : World) (hn : n ≤ 1000000) (H : Evs w A n es) :
    Calls Try.prog 13 #[.slice A n c, .int .i64 2, .int .i64 2, .int .i64 place, .int .i64 3] w fun r w' => r = .returned (.int .i64 (es.countP (mHit place) : Nat)) ∧ w = w' := by
  have hlen := Lib.hid H.len
  go_enter Try.func13, Try.ntmps13
  go_wp2_with fail
  go_loop [11, 12, 13] (fun m i _ => ∃ k : Nat, ∃ q : Nat, k ≤ n ∧ q ≤ k ∧ i = .int .i64 k ∧ m = .int .i64 q ∧ Hid (q = (es.take k).countP (mHit place))) (fun _ i _ => n - (intOf i).toNat)
  case atStart => exact ⟨0, 0, by omega, by omega, rfl, rfl, by simp [Hid]⟩
  case round =>
    obtain ⟨k, q, hk, hqk, rfl, rfl, hq⟩ := hrel
    by_cases hlt : k < n
    · obtain ⟨b, off, e, rfl, hb, he, hr⟩ := H.row hlt
      obtain ⟨f0, f1, f2, f3⟩ := Ev.flds hr
      have fM := Ev.fldM hr
      have hstep := countP_take_succ (mHit place) he
      rw [← hq.out] at hstep
      have hh : mHit place e = (e.kind == 2 && win e.dn.method 3 == place) := by simp [mHit]
      have hw : win e.dn.method 3 = if e.dn.method < 0 ∨ 3 < e.dn.method then 0 else e.dn.method := rfl
      clear hr he f1 f3
      have hcs : e.dn.method < 0 ∨ (0 ≤ e.dn.method ∧ 3 < e.dn.method) ∨ (0 ≤ e.dn.method ∧ e.dn.method ≤ 3) := by omega
      cases hkk : (e.kind == 2) <;> rcases hcs with h1 | ⟨h1, h2⟩ | ⟨h1, h2⟩ <;> cases hp : (win e.dn.method 3 == place)
      all_goals
        first | rw [if_pos (Or.inl h1)] at hw | rw [if_pos (Or.inr h2)] at hw | rw [if_neg (by omega)] at hw
        rw [hp, hkk] at hh
        rw [hh] at hstep
        rw [hw] at hp
        have hS := Lib.hid hstep
        clear hstep hh hw
        go_wp2_with fail
        go_round
        case rel => first | exact ⟨k + 1, q + 1, by omega, by omega, by go_num, by go_num, hS.out.symm⟩ | exact ⟨k + 1, q, by omega, by omega, by go_num, rfl, hS.out.symm⟩
        case measure => simp [intOf]; omega
    · go_wp2_with fail
      go_ret
      refine ⟨ret_int ?_, rfl⟩
      rw [hq.out, List.take_of_length_le (by rw [hlen.out]; omega)]
end Go.Proofs.Ytbokdbppjiegjaa
