/- What a number is called. -/
import Derived.Test.YtjiepgldgcghlaaDoorFlE
import Derived.Deep.DeepCutAuto
namespace Go.Proofs.YtjiepgldgcghlaaDoor
open Go.RowKit

def errNm : List ByteArray := [⟨#[111, 107]⟩, ⟨#[97, 114, 103]⟩, ⟨#[108, 111, 110, 103]⟩, ⟨#[102, 111, 114, 109]⟩, ⟨#[115, 104, 111, 114, 116]⟩, ⟨#[114, 97, 110, 103, 101]⟩, ⟨#[110, 111, 110, 101]⟩, ⟨#[111, 114, 100, 101, 114]⟩, ⟨#[115, 101, 97, 108]⟩, ⟨#[104, 111, 115, 116]⟩, ⟨#[97, 108, 103]⟩, ⟨#[108, 105, 110, 101]⟩, ⟨#[97, 117, 116, 104]⟩, ⟨#[115, 101, 114, 118, 105, 99, 101]⟩, ⟨#[114, 117, 108, 101]⟩]
def nameOf (n : Int) : ByteArray := if 0 ≤ n ∧ n < 15 then errNm.getD n.toNat ⟨#[]⟩ else ⟨#[117, 110, 107, 110, 111, 119, 110]⟩
theorem nameOf_size (n : Int) : (nameOf n).size ≤ 7 := by
  unfold nameOf
  split
  · rename_i h
    have h : n = 0 ∨ n = 1 ∨ n = 2 ∨ n = 3 ∨ n = 4 ∨ n = 5 ∨ n = 6 ∨ n = 7 ∨ n = 8 ∨ n = 9 ∨ n = 10 ∨ n = 11 ∨ n = 12 ∨ n = 13 ∨ n = 14 := by omega
    rcases h with rfl | rfl | rfl | rfl | rfl | rfl | rfl | rfl | rfl | rfl | rfl | rfl | rfl | rfl | rfl <;> decide
  · decide
theorem outside {n : Int} (h : ¬ (0 ≤ n ∧ n < 15)) : n < 0 ∨ (0 ≤ n ∧ 15 ≤ n) := by omega

set_option maxHeartbeats 2000000 in
theorem errnoError_any (n : Int) (w : World) :
    Calls Tryd.prog 68 #[.int .i64 n] w fun r w' => r = .returned (.string (nameOf n)) ∧ Below w.heap.size w w' := by
  by_cases h : 0 ≤ n ∧ n < 15
  · have h : n = 0 ∨ n = 1 ∨ n = 2 ∨ n = 3 ∨ n = 4 ∨ n = 5 ∨ n = 6 ∨ n = 7 ∨ n = 8 ∨ n = 9 ∨ n = 10 ∨ n = 11 ∨ n = 12 ∨ n = 13 ∨ n = 14 := by omega
    rcases h with rfl | rfl | rfl | rfl | rfl | rfl | rfl | rfl | rfl | rfl | rfl | rfl | rfl | rfl | rfl
    all_goals
      go_enter Tryd.func68, Tryd.ntmps68
      go_wp2
      go_ret
      exact ⟨rfl, (Below.refl _ _).alloc (Nat.le_refl _) _⟩
  · have hr := Lib.hid (show nameOf n = ⟨#[117, 110, 107, 110, 111, 119, 110]⟩ by unfold nameOf; rw [if_neg h])
    rcases outside h with h | ⟨h, h2⟩
    all_goals
      go_enter Tryd.func68, Tryd.ntmps68
      go_wp2
      go_ret
      exact ⟨by rw [hr.out]; rfl, (Below.refl _ _).alloc (Nat.le_refl _) _⟩

end Go.Proofs.YtjiepgldgcghlaaDoor
