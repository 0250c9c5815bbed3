/- At, Of, Code and Reason. -/
import Derived.Test.YtbokdbppjiegjaaDoorFlC
import Derived.Test.YtbokdbppjiegjaaDoorFlD
namespace Go.Proofs.YtbokdbppjiegjaaDoor
open Go.RowKit

/-- A new error: its chain; all that was there is as it was. -/
def Mk (w : World) (o : Option Int) (p : List ByteArray) (r : Ending) (w' : World) : Prop := ∃ v, r = .returned v ∧ isErr w' o p v ∧ Below w.heap.size w w'
theorem isErr_new {w : World} {o : Option Int} {p : List ByteArray} {v : Value} (H : isErr w o p v) (s : ByteArray) (t : TypeId) :
    isErr (w.alloc (.cells #[.string s, v] t)) o (s :: p) (.iface 73 (.pointer (some ⟨w.heap.size, 0, none⟩))) :=
  ⟨w.heap.size, v, rfl, by simp, by simp, by simp, H.keep ((Below.refl _ _).alloc (Nat.le_refl _) _)⟩

theorem at_any (s : ByteArray) (o : Option Int) (p : List ByteArray) (T : TypeId) (u : Value) (w : World) (H : isErr w o p (.iface T u)) :
    Calls Tryd.prog 16 #[.string s, .iface T u] w (Mk w o (s :: p)) := by
  have H := Lib.hid H
  go_enter Tryd.func16, Tryd.ntmps16
  go_wp2
  go_ret
  exact ⟨_, rfl, isErr_new H.out s _, (Below.refl _ _).alloc (Nat.le_refl _) _⟩
theorem at_nil (s : ByteArray) (w : World) :
    Calls Tryd.prog 16 #[.string s, .nilIface] w fun r w' => r = .returned .nilIface ∧ w = w' := by
  go_enter Tryd.func16, Tryd.ntmps16
  go_wp2
  go_ret
  exact ⟨rfl, rfl⟩
theorem of_any (s : ByteArray) (n : Int) (w : World) (hn : n ≠ 0) :
    Calls Tryd.prog 17 #[.string s, .int .i64 n] w (Mk w (some n) [s]) := by
  have h0 : (n == 0) = false := beq_eq_false_iff_ne.2 hn
  clear hn
  go_enter Tryd.func17, Tryd.ntmps17
  go_wp2
  go_ret
  exact ⟨_, rfl, isErr_new (show isErr w (some n) [] (.iface 34 (.int .i64 n)) from rfl) s _, (Below.refl _ _).alloc (Nat.le_refl _) _⟩
theorem of_zero (s : ByteArray) (w : World) :
    Calls Tryd.prog 17 #[.string s, .int .i64 0] w fun r w' => r = .returned .nilIface ∧ w = w' := by
  go_enter Tryd.func17, Tryd.ntmps17
  go_wp2
  go_ret
  exact ⟨rfl, rfl⟩

theorem code_nil (w : World) :
    Calls Tryd.prog 19 #[.nilIface] w fun r w' => r = .returned (.int .i64 0) ∧ Below w.heap.size w w' := by
  go_enter Tryd.func19, Tryd.ntmps19
  go_wp2
  go_ret
  exact ⟨rfl, (Below.refl _ _).alloc (Nat.le_refl _) _⟩
set_option maxHeartbeats 400000 in
theorem code_num (n : Int) (p : List ByteArray) (v : Value) (w : World) (H : isErr w (some n) p v) (G : ETy w) :
    Calls Tryd.prog 19 #[v] w fun r w' => r = .returned (.int .i64 n) ∧ Below w.heap.size w w' := by
  obtain ⟨T, u, rfl⟩ := isErr_some H
  have hB := (Below.refl w.heap.size w).alloc (Nat.le_refl _) (.cells #[.int .i64 0] 34)
  have ht : (w.alloc (.cells #[.int .i64 0] 34)).cell? ⟨w.heap.size, 0, none⟩ = some (.int .i64 0) := by simp
  have hT := Lib.hid ht
  have cA := Lib.hid (AsN_hit n p _ ⟨w.heap.size, 0, none⟩ (.int .i64 0) _ (H.keep hB) (G.keep hB) ht (by simp))
  have hB := Lib.hid hB
  clear ht
  go_enter Tryd.func19, Tryd.ntmps19
  go_wp2_with (go_at_call 31; refine cA.out.mono ?_; rintro r w1 ⟨rfl, hq⟩; have hc := hq.cell hT.out)
  go_ret
  exact ⟨rfl, hq.below hB.out (by simp) (Nat.le_refl _)⟩
set_option maxHeartbeats 400000 in
theorem code_none (s : ByteArray) (p : List ByteArray) (v : Value) (w : World) (H : isErr w none (s :: p) v) (G : ETy w) :
    Calls Tryd.prog 19 #[v] w fun r w' => r = .returned (.int .i64 14) ∧ Below w.heap.size w w' := by
  obtain ⟨T, u, rfl⟩ := isErr_cons H
  have hB := (Below.refl w.heap.size w).alloc (Nat.le_refl _) (.cells #[.int .i64 0] 34)
  have cA := Lib.hid (AsN_miss s p _ ⟨w.heap.size, 0, none⟩ (.int .i64 0) (w.alloc (.cells #[.int .i64 0] 34)) (H.keep hB) (G.keep hB) (by simp) (by simp))
  have hB := Lib.hid hB
  go_enter Tryd.func19, Tryd.ntmps19
  go_wp2_with (go_at_call 31; refine cA.out.mono ?_; rintro r w1 ⟨rfl, hq⟩)
  go_ret
  exact ⟨rfl, hB.out.trans (hq.mono (by simp))⟩

def reasonL : List Int := [0, 2, 2, 2, 2, 3, 2, 2, 5, 9, 3, 8, 14, 7, 2]
def reasonR (n : Int) : Int := if 0 ≤ n ∧ n < 15 then reasonL.getD n.toNat 0 else 11
end Go.Proofs.YtbokdbppjiegjaaDoor
