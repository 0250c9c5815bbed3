/- At, Of, Code and Reason. -/
import Derived.Test.YtjiepgldgcghlaaDoorFlC
import Derived.Test.YtjiepgldgcghlaaDoorFlD
namespace Go.Proofs.YtjiepgldgcghlaaDoor
open Go.RowKit

/-- A new error: its chain; all that was there is as it was. -/
def Mk (w : World) (o : Option Int) (p : List ByteArray) (r : Ending) (w' : World) : Prop := ∃ v, r = .returned v ∧ isErr w' o p v ∧ Below w.heap.size w w'
theorem isErr_new {w : World} {o : Option Int} {p : List ByteArray} {v : Value} (H : isErr w o p v) (s : ByteArray) (t : TypeId) :
    isErr (w.alloc (.cells #[.string s, v] t)) o (s :: p) (.iface 44 (.pointer (some ⟨w.heap.size, 0, none⟩))) :=
  ⟨w.heap.size, v, rfl, by simp, by simp, by simp, H.keep ((Below.refl _ _).alloc (Nat.le_refl _) _)⟩

theorem at_any (s : ByteArray) (o : Option Int) (p : List ByteArray) (T : TypeId) (u : Value) (w : World) (H : isErr w o p (.iface T u)) :
    Calls Tryd.prog 30 #[.string s, .iface T u] w (Mk w o (s :: p)) := by
  have H := Lib.hid H
  go_enter Tryd.func30, Tryd.ntmps30
  go_wp2
  go_ret
  exact ⟨_, rfl, isErr_new H.out s _, (Below.refl _ _).alloc (Nat.le_refl _) _⟩
theorem at_nil (s : ByteArray) (w : World) :
    Calls Tryd.prog 30 #[.string s, .nilIface] w fun r w' => r = .returned .nilIface ∧ w = w' := by
  go_enter Tryd.func30, Tryd.ntmps30
  go_wp2
  go_ret
  exact ⟨rfl, rfl⟩
theorem of_any (s : ByteArray) (n : Int) (w : World) (hn : n ≠ 0) :
    Calls Tryd.prog 50 #[.string s, .int .i64 n] w (Mk w (some n) [s]) := by
  have h0 : (n == 0) = false := beq_eq_false_iff_ne.2 hn
  clear hn
  go_enter Tryd.func50, Tryd.ntmps50
  go_wp2
  go_ret
  exact ⟨_, rfl, isErr_new (show isErr w (some n) [] (.iface 27 (.int .i64 n)) from rfl) s _, (Below.refl _ _).alloc (Nat.le_refl _) _⟩
theorem of_zero (s : ByteArray) (w : World) :
    Calls Tryd.prog 50 #[.string s, .int .i64 0] w fun r w' => r = .returned .nilIface ∧ w = w' := by
  go_enter Tryd.func50, Tryd.ntmps50
  go_wp2
  go_ret
  exact ⟨rfl, rfl⟩

theorem code_nil (w : World) :
    Calls Tryd.prog 19 #[.nilIface] w fun r w' => r = .returned (.int .i64 0) ∧ Below w.heap.size w w' := by
  go_enter Tryd.func19, Tryd.ntmps19
  go_wp2
  go_ret
  exact ⟨rfl, (Below.refl _ _).alloc (Nat.le_refl _) _⟩
set_option maxHeartbeats 400000 in
theorem code_num (n : Int) (p : List ByteArray) (v : Value) (w : World) (H : isErr w (some n) p v) (G : ETy w) :
    Calls Tryd.prog 19 #[v] w fun r w' => r = .returned (.int .i64 n) ∧ Below w.heap.size w w' := by
  obtain ⟨T, u, rfl⟩ := isErr_some H
  have hB := (Below.refl w.heap.size w).alloc (Nat.le_refl _) (.cells #[.int .i64 0] 27)
  have ht : (w.alloc (.cells #[.int .i64 0] 27)).cell? ⟨w.heap.size, 0, none⟩ = some (.int .i64 0) := by simp
  have hT := Lib.hid ht
  have cA := Lib.hid (AsN_hit n p _ ⟨w.heap.size, 0, none⟩ (.int .i64 0) _ (H.keep hB) (G.keep hB) ht (by simp))
  have hB := Lib.hid hB
  clear ht
  go_enter Tryd.func19, Tryd.ntmps19
  go_wp2_with (go_at_call 51; refine cA.out.mono ?_; rintro r w1 ⟨rfl, hq⟩; have hc := hq.cell hT.out)
  go_ret
  exact ⟨rfl, hq.below hB.out (by simp) (Nat.le_refl _)⟩
set_option maxHeartbeats 400000 in
theorem code_none (s : ByteArray) (p : List ByteArray) (v : Value) (w : World) (H : isErr w none (s :: p) v) (G : ETy w) :
    Calls Tryd.prog 19 #[v] w fun r w' => r = .returned (.int .i64 14) ∧ Below w.heap.size w w' := by
  obtain ⟨T, u, rfl⟩ := isErr_cons H
  have hB := (Below.refl w.heap.size w).alloc (Nat.le_refl _) (.cells #[.int .i64 0] 27)
  have cA := Lib.hid (AsN_miss s p _ ⟨w.heap.size, 0, none⟩ (.int .i64 0) (w.alloc (.cells #[.int .i64 0] 27)) (H.keep hB) (G.keep hB) (by simp) (by simp))
  have hB := Lib.hid hB
  go_enter Tryd.func19, Tryd.ntmps19
  go_wp2_with (go_at_call 51; refine cA.out.mono ?_; rintro r w1 ⟨rfl, hq⟩)
  go_ret
  exact ⟨rfl, hB.out.trans (hq.mono (by simp))⟩

def reasonL : List Int := [0, 2, 2, 2, 2, 3, 2, 2, 5, 9, 3, 8, 14, 7, 2]
def reasonR (n : Int) : Int := if 0 ≤ n ∧ n < 15 then reasonL.getD n.toNat 0 else 11
set_option maxHeartbeats 1000000 in
theorem reasonOf_any (n : Int) (w : World) :
    Calls Tryd.prog 27 #[.int .i64 n] w fun r w' => r = .returned (.int .i64 (reasonR n)) ∧ w = w' := by
  by_cases h : 0 ≤ n ∧ n < 15
  · have h : n = 0 ∨ n = 1 ∨ n = 2 ∨ n = 3 ∨ n = 4 ∨ n = 5 ∨ n = 6 ∨ n = 7 ∨ n = 8 ∨ n = 9 ∨ n = 10 ∨ n = 11 ∨ n = 12 ∨ n = 13 ∨ n = 14 := by omega
    rcases h with rfl | rfl | rfl | rfl | rfl | rfl | rfl | rfl | rfl | rfl | rfl | rfl | rfl | rfl | rfl
    all_goals
      go_enter Tryd.func27, Tryd.ntmps27
      go_wp2
      go_ret
      exact ⟨rfl, rfl⟩
  · have hr := Lib.hid (show reasonR n = 11 by unfold reasonR; rw [if_neg h])
    have b0 : (n == 0) = false := beq_eq_false_iff_ne.2 (by omega)
    have b1 : (n == 1) = false := beq_eq_false_iff_ne.2 (by omega)
    have b2 : (n == 2) = false := beq_eq_false_iff_ne.2 (by omega)
    have b3 : (n == 3) = false := beq_eq_false_iff_ne.2 (by omega)
    have b4 : (n == 4) = false := beq_eq_false_iff_ne.2 (by omega)
    have b5 : (n == 5) = false := beq_eq_false_iff_ne.2 (by omega)
    have b6 : (n == 6) = false := beq_eq_false_iff_ne.2 (by omega)
    have b7 : (n == 7) = false := beq_eq_false_iff_ne.2 (by omega)
    have b8 : (n == 8) = false := beq_eq_false_iff_ne.2 (by omega)
    have b9 : (n == 9) = false := beq_eq_false_iff_ne.2 (by omega)
    have b10 : (n == 10) = false := beq_eq_false_iff_ne.2 (by omega)
    have b11 : (n == 11) = false := beq_eq_false_iff_ne.2 (by omega)
    have b12 : (n == 12) = false := beq_eq_false_iff_ne.2 (by omega)
    have b13 : (n == 13) = false := beq_eq_false_iff_ne.2 (by omega)
    have b14 : (n == 14) = false := beq_eq_false_iff_ne.2 (by omega)
    clear h
    go_enter Tryd.func27, Tryd.ntmps27
    go_wp2
    go_ret
    exact ⟨ret_int hr.out.symm, rfl⟩
theorem reason_of {v : Value} {w : World} {n : Int} (c : Calls Tryd.prog 19 #[v] w fun r w' => r = .returned (.int .i64 n) ∧ Below w.heap.size w w') :
    Calls Tryd.prog 22 #[v] w fun r w' => r = .returned (.int .i64 (reasonR n)) ∧ Below w.heap.size w w' := by
  have c := Lib.hid c
  go_enter Tryd.func22, Tryd.ntmps22
  go_wp2_with (first
    | (go_at_call 19; refine c.out.mono ?_; rintro r w1 ⟨rfl, hb⟩)
    | (go_at_call 27; refine (reasonOf_any _ _).mono ?_; rintro r w2 ⟨rfl, rfl⟩))
  go_ret
  exact ⟨rfl, hb⟩
end Go.Proofs.YtjiepgldgcghlaaDoor
