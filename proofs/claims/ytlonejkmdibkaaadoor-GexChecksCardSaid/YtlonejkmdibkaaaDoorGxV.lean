/- Gex: 'wrong'. -/
import Derived.Test.YtlonejkmdibkaaaDoorGxU
import Derived.Test.YtlonejkmdibkaaaDoorFlV
namespace Go.Proofs.YtlonejkmdibkaaaDoor
open Go.RowKit

theorem spS_gex : spS [gexS] = ⟨#[103, 101, 120, 32]⟩ := by decide +kernel
theorem err07_built (n : Int) (s : ByteArray) : Tryd.prog.built 71 [(0, .int .i64 n), (1, .string s)] = some #[.int .i64 n, .string s] := by kernel_rfl
theorem wrong18_any (T : TypeId) (u : Value) (w : World) (hE : isErr w (some 5) [gexS] (.iface T u)) (hG : ETy w) :
    Calls Tryd.prog 40 #[.iface T u] w fun r w' => r = .returned (.bool true) ∧ Below w.heap.size w w' := by
  have c := wrong07_any 5 [gexS] (.iface T u) w (by simp) (by rw [spS_gex]; decide) hE hG
  rw [spS_gex] at c
  have c := Lib.hid c
  clear hE hG
  go_enter Tryd.func40, Tryd.ntmps40
  go_wp2_with (first
    | (refine wpList_build_as 71 _ rfl rfl #[.int .i64 5, .string ⟨#[103, 101, 120, 32]⟩] ?_ ?_; exact err07_built _ _)
    | (go_at_call 46; refine c.out.mono ?_; rintro r w5 ⟨rfl, hb5⟩))
  go_ret
  exact ⟨rfl, hb5⟩
end Go.Proofs.YtlonejkmdibkaaaDoor
