/- At, Of, Code and Reason. -/
import Derived.Test.YtfoegpacjkcidaaDoorFlC
import Derived.Test.YtfoegpacjkcidaaDoorFlD
namespace Go.Proofs.YtfoegpacjkcidaaDoor
open Go.RowKit

theorem code_nil (w : World) :
    Calls Tryd.prog 42 #[.nilIface] w fun r w' => r = .returned (.int .i64 0) ∧ Below w.heap.size w w' := by
  go_enter Tryd.func42, Tryd.ntmps42
  go_wp2
  go_ret
  exact ⟨rfl, (Below.refl _ _).alloc (Nat.le_refl _) _⟩
set_option maxHeartbeats 400000 in
theorem code_num (n : Int) (p : List ByteArray) (v : Value) (w : World) (H : isErr w (some n) p v) (G : ETy w) :
    Calls Tryd.prog 42 #[v] w fun r w' => r = .returned (.int .i64 n) ∧ Below w.heap.size w w' := by
  obtain ⟨T, u, rfl⟩ := isErr_some H
  have hB := (Below.refl w.heap.size w).alloc (Nat.le_refl _) (.cells #[.int .i64 0] 43)
  have ht : (w.alloc (.cells #[.int .i64 0] 43)).cell? ⟨w.heap.size, 0, none⟩ = some (.int .i64 0) := by simp
  have hT := Lib.hid ht
  have cA := Lib.hid (AsN_hit n p _ ⟨w.heap.size, 0, none⟩ (.int .i64 0) _ (H.keep hB) (G.keep hB) ht (by simp))
  have hB := Lib.hid hB
  clear ht
  go_enter Tryd.func42, Tryd.ntmps42
  go_wp2_with (go_at_call 53; refine cA.out.mono ?_; rintro r w1 ⟨rfl, hq⟩; have hc := hq.cell hT.out)
  go_ret
  exact ⟨rfl, hq.below hB.out (by simp) (Nat.le_refl _)⟩
set_option maxHeartbeats 400000 in
theorem code_none (s : ByteArray) (p : List ByteArray) (v : Value) (w : World) (H : isErr w none (s :: p) v) (G : ETy w) :
    Calls Tryd.prog 42 #[v] w fun r w' => r = .returned (.int .i64 14) ∧ Below w.heap.size w w' := by
  obtain ⟨T, u, rfl⟩ := isErr_cons H
  have hB := (Below.refl w.heap.size w).alloc (Nat.le_refl _) (.cells #[.int .i64 0] 43)
  have cA := Lib.hid (AsN_miss s p _ ⟨w.heap.size, 0, none⟩ (.int .i64 0) (w.alloc (.cells #[.int .i64 0] 43)) (H.keep hB) (G.keep hB) (by simp) (by simp))
  have hB := Lib.hid hB
  go_enter Tryd.func42, Tryd.ntmps42
  go_wp2_with (go_at_call 53; refine cA.out.mono ?_; rintro r w1 ⟨rfl, hq⟩)
  go_ret
  exact ⟨rfl, hB.out.trans (hq.mono (by simp))⟩

def reasonL : List Int := [0, 2, 2, 2, 2, 3, 2, 2, 5, 9, 3, 8, 14, 7, 2]
def reasonR (n : Int) : Int := if 0 ≤ n ∧ n < 15 then reasonL.getD n.toNat 0 else 11
end Go.Proofs.YtfoegpacjkcidaaDoor
