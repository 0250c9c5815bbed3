/- Gex: the example. -/
import Derived.Test.YtlonejkmdibkaaaDoorGxP
import Derived.Test.YtlonejkmdibkaaaDoorGxT
namespace Go.Proofs.YtlonejkmdibkaaaDoor
open Go.RowKit

theorem pick_awake : pickK 1024 2000 8192 = 2 := by decide
theorem Tab.slice {w w' : World} {r : Ending} (h : Tab w r w') : ∃ A c, r = .returned (.slice A 4 c) ∧ Hid (Rws w' 2 A 4 tabL) ∧ Below w.heap.size w w' := by
  obtain ⟨v, rfl, hO, hB⟩ := h
  obtain ⟨A, c, rfl, hR⟩ := OwnR.rws hO
  exact ⟨A, c, rfl, hR, hB⟩
theorem pick2 {w w' : World} {r : Ending} {k : Nat} (h : PickR w k r w') (hk : k ≠ 0) : r = .returned (.tuple #[.agg #[.string (gxP k), .string ⟨#[2]⟩], .nilIface]) ∧ Below w.heap.size w w' := by
  rcases h with ⟨h0, _⟩ | ⟨_, h1, h2⟩
  · exact absurd h0 hk
  · exact ⟨h1, h2⟩
set_option maxHeartbeats 2000000 in
theorem awake18_any (w : World) :
    Calls Tryd.prog 13 #[] w fun r w' => r = .returned (.bool true) ∧ Below w.heap.size w w' := by
  have cP := gexPick_any 1024 2000 8192 w
  rw [pick_awake] at cP
  have cP := Calls.mono cP (fun r w' h => pick2 h (by decide))
  have cP := Lib.hid cP
  have hb := gxP_bits 2 (by decide) (by decide)
  have hsz := gxP_size 2
  have cB := fun W => gxBits_any (gxP 2) ⟨#[2]⟩ W (by omega)
  rw [hb] at cB
  have cB := Lib.hid cB
  have cT := Lib.hid (fun W => table_any W)
  clear hb hsz
  generalize gxP 2 = p at cP cB
  go_enter Tryd.func13, Tryd.ntmps13
  go_wp2_with (first
    | (go_at_call 17; refine cP.out.mono ?_; rintro r w5 ⟨rfl, hb5⟩; have hB5 := Lib.hid (hb5.trans ((below_new w5 (.cells #[.string p, .string ⟨#[2]⟩] 23)).mono hb5.size)); clear hb5)
    | (go_at_call 41; (with_reducible refine (cB.out _).mono ?_); rintro r w6 ⟨rfl, hb6⟩; have hB6 := Lib.hid (hB5.out.trans (hb6.mono hB5.out.size)); clear hb6)
    | (go_at_call 16; (with_reducible refine (cT.out _).mono ?_); rintro r w7 hr; obtain ⟨A7, c7, rfl, _, hb7⟩ := hr.slice; clear hr))
  go_ret
  exact ⟨rfl, hB6.out.trans (hb7.mono hB6.out.size)⟩
end Go.Proofs.YtlonejkmdibkaaaDoor
