/- The reference's Line: under way. -/
import Derived.Test.YtmicohmbmgbnkaaGreatDoorYb27
import Derived.Test.YtmicohmbmgbnkaaGreatDoorYb5
namespace Go.Proofs.YtmicohmbmgbnkaaGreatDoor
open Go Go.RowKit Go.Shelf

def erZ : Array Value := #[.int .i64 0, .string ByteArray.empty]
theorem er_zero : (Tryz.prog.info? 53).bind (·.zero) = some (.agg erZ) := by kernel_rfl
theorem keys_at {W : World} {b j : Nat} {kg : List UInt8 × Tag} (h : Strs W (some ⟨b, 0, none⟩) 26 ((keyT.map (fun x : List UInt8 × Tag => x.1)).map bs)) (hk : keyT[j]? = some kg) (hj : j < 26) : (b < W.heap.size ∧ W.cell? ⟨b, j, none⟩ = some (.string (bs kg.1))) ∧ (bs kg.1).size ≤ 20 := by
  obtain ⟨b', off, s, e, hlt, hs, hcell⟩ := h.at_ hj
  obtain ⟨rfl, rfl⟩ : b = b' ∧ 0 = off := by injection e with e; injection e with e1 e2; exact ⟨e1, e2⟩
  have h2 := key_small ⟨j, hj⟩
  rw [List.getD_eq_getElem?_getD] at h2
  rw [List.getElem?_map, List.getElem?_map, hk] at hs
  rw [List.getElem?_map, hk] at h2
  rw [Nat.zero_add] at hcell
  obtain rfl := Option.some.inj hs
  exact ⟨⟨hlt, hcell⟩, h2⟩
end Go.Proofs.YtmicohmbmgbnkaaGreatDoor
