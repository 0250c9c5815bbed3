/- Prefs: the same lists; the example. -/
import Derived.Test.YtlonejkmdibkaaaDoorPfM
import Derived.Test.YtlonejkmdibkaaaDoorPfN
import Derived.Test.YtlonejkmdibkaaaDoorNmC
namespace Go.Proofs.YtlonejkmdibkaaaDoor
open Go.RowKit

def zeroL : List (List ByteArray) := List.replicate 8 []
theorem pf_of_zero (w : World) : Pf w [.slice none 0 0, .slice none 0 0, .slice none 0 0, .slice none 0 0, .slice none 0 0, .slice none 0 0, .slice none 0 0, .slice none 0 0] zeroL :=
  Pf.mk8 ⟨none, 0, 0, rfl, by decide, by decide, Strs.nil_⟩ ⟨none, 0, 0, rfl, by decide, by decide, Strs.nil_⟩ ⟨none, 0, 0, rfl, by decide, by decide, Strs.nil_⟩ ⟨none, 0, 0, rfl, by decide, by decide, Strs.nil_⟩ ⟨none, 0, 0, rfl, by decide, by decide, Strs.nil_⟩ ⟨none, 0, 0, rfl, by decide, by decide, Strs.nil_⟩ ⟨none, 0, 0, rfl, by decide, by decide, Strs.nil_⟩ ⟨none, 0, 0, rfl, by decide, by decide, Strs.nil_⟩
theorem pfE_plain : pfE plainL = (0, -1) := by decide +kernel
theorem pfE_zero : pfE zeroL = (6, 0) := by decide +kernel
theorem plain_sizes : ∀ l ∈ plainL, ∀ s ∈ l, s.size ≤ 9223372036854775807 := by decide +kernel
theorem plain_lens : ∀ l ∈ plainL, l.length ≤ 1000000 := by decide +kernel
theorem zero_sizes : ∀ l ∈ zeroL, ∀ s ∈ l, s.size ≤ 9223372036854775807 := by intro l hl s hs; rw [List.eq_of_mem_replicate hl] at hs; cases hs
theorem zero_lens : ∀ l ∈ zeroL, l.length ≤ 1000000 := by intro l hl; rw [List.eq_of_mem_replicate hl]; decide
theorem PfC.ok {w w' : World} {e : Int × Int} {r : Ending} (h : PfC w e r w') (he : e.1 = 0) : r = .returned .nilIface ∧ Below w.heap.size w w' := by
  unfold PfC at h; rwa [if_pos he] at h
theorem PfC.bad {w w' : World} {e : Int × Int} {r : Ending} (h : PfC w e r w') (he : e.1 ≠ 0) : ∃ T u, r = .returned (.iface T u) ∧ isErr w' (some e.1) [prefsS, wordAt e.2] (.iface T u) ∧ Below w.heap.size w w' := by
  unfold PfC at h; rwa [if_neg he] at h
set_option maxRecDepth 100000 in
set_option maxHeartbeats 4000000 in
theorem awake15_any (w : World) (P : PV w) :
    Calls Tryd.prog 20 #[] w fun r w' => r = .returned (.bool true) ∧ Below w.heap.size w w' := by
  have cM := method_any ⟨#[99, 117, 114, 118, 101, 50, 53, 53, 49, 57, 45, 115, 104, 97, 50, 53, 54]⟩ w P
  rw [show methN ⟨#[99, 117, 114, 118, 101, 50, 53, 53, 49, 57, 45, 115, 104, 97, 50, 53, 54]⟩ = 1 by decide +kernel] at cM
  have cM := Lib.hid cM
  have cP := Lib.hid (plainPf_any w P)
  have cC := Lib.hid (fun V W (h : Below w.heap.size w W) (hP : Pf W V plainL) => Calls.mono (pfCheck_any V plainL W hP plain_sizes plain_lens (P.keep h)) (fun r w' h => h.ok (by rw [pfE_plain])))
  have cD := Lib.hid (fun W (h : Below w.heap.size w W) => Calls.mono (pfCheck_any [.slice none 0 0, .slice none 0 0, .slice none 0 0, .slice none 0 0, .slice none 0 0, .slice none 0 0, .slice none 0 0, .slice none 0 0] zeroL W (pf_of_zero W) zero_sizes zero_lens (P.keep h)) (fun r w' h => h.bad (by rw [pfE_zero]; decide)))
  clear P
  go_enter Tryd.func20, Tryd.ntmps20
  go_wp2_with (first
    | (go_at_call 23; (with_reducible refine cM.out.mono ?_); rintro r w3 ⟨rfl, rfl⟩)
    | (go_at_call 22; (with_reducible refine cP.out.mono ?_); rintro r w4 ⟨V4, rfl, hP4, hb4⟩; have hB4 := Lib.hid hb4; have hP4 := Lib.hid hP4; clear hb4)
    | (go_at_call 44; (with_reducible refine (cC.out _ _ hB4.out hP4.out).mono ?_); rintro r w5 ⟨rfl, hb5⟩; have hB5 := Lib.hid (hB4.out.trans (hb5.mono hB4.out.size)); clear hb5)
    | (refine wpList_build_as 44 _ rfl rfl #[.slice none 0 0, .slice none 0 0, .slice none 0 0, .slice none 0 0, .slice none 0 0, .slice none 0 0, .slice none 0 0, .slice none 0 0] (by kernel_rfl) ?_)
    | (go_at_call 44; refine (cD.out _ hB5.out).mono ?_; rintro r w6 ⟨T6, u6, rfl, _, hb6⟩))
  go_ret
  exact ⟨rfl, hB5.out.trans (hb6.mono hB5.out.size)⟩
end Go.Proofs.YtlonejkmdibkaaaDoor
