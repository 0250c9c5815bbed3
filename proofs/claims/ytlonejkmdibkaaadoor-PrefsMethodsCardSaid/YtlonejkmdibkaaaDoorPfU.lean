/- The walk of PrefsMethods. -/
import Derived.Test.YtlonejkmdibkaaaDoorPfTA
import Derived.Test.YtlonejkmdibkaaaDoorPfTB
import Derived.Test.YtlonejkmdibkaaaDoorPfTC
namespace Go.Proofs.YtlonejkmdibkaaaDoor
open Go.RowKit

theorem law_prefsMethods (s : ByteArray) (m : Int) (b : Bool) (w : World) (hs : s.size ≤ 9223372036854775807) (P : PV w) :
    Calls Tryd.prog 5 #[.string s, .int .i64 m, .bool b] w fun r w' => r = .returned (.bool true) ∧ Below w.heap.size w w' := by
  by_cases h100 : 100 < s.size
  · have aw := Lib.hid (fun W (h : Below w.heap.size w W) => awake15_any W (P.keep h))
    clear P
    go_enter Tryd.func5, Tryd.ntmps5
    go_wp2_with (go_at_call 20; refine (aw.out _ (Below.refl _ _)).mono ?_; rintro r w8 ⟨rfl, hb8⟩)
    go_ret
    exact ⟨rfl, hb8⟩
  by_cases h1 : m < 1
  · exact prefsMethods_A s m b w h1 h100 P
  by_cases h3 : 3 < m
  · exact prefsMethods_B s m b w h3 h100 P
  obtain ⟨k, rfl⟩ : ∃ k : Nat, m = (k : Int) + 1 := ⟨(m - 1).toNat, by omega⟩
  exact prefsMethods_C s k b w (by omega) h100 P
end Go.Proofs.YtlonejkmdibkaaaDoor
