/- The reference's Read. (printed by wip/gen_slz.py) -/
import Derived.Test.YtmicohmbmgbnkaaGreatDoorWb36
namespace Go.Proofs.YtmicohmbmgbnkaaGreatDoor
open Go Go.RowKit Go.Shelf

def erB (a : List UInt8) : List Value := [.int .i64 3, .string (bs a ++ ⟨#[32]⟩)]
def erL : List Value := [.int .i64 0, .string ByteArray.empty]
def RReadR (L : List UInt8) (w : World) (r : Ending) (w' : World) : Prop :=
  (∃ (k : Nat) (vs : List PV) (cs : List Value), rdLine L = .ok k vs ∧ r = .returned (.tuple #[.agg cs.toArray, .agg erZ]) ∧ StC w' k vs cs ∧ OkVs keyT vs ∧ Below w.heap.size w w') ∨
  (∃ a : List UInt8, rdLine L = .bad a ∧ r = .returned (.tuple #[.agg (stZ 0).toArray, .agg (erB a).toArray]) ∧ Below w.heap.size w w')
def RReadRN (L : List UInt8) (w : World) (r : Ending) (w' : World) : Prop :=
  (∃ (k : Nat) (vs : List PV) (cs : List Value), rdLine L = .ok k vs ∧ r = .returned (.tuple #[.agg cs.toArray, .agg erZ]) ∧ StN w.heap.size w' k vs cs ∧ Below w.heap.size w w') ∨
  (∃ a : List UInt8, rdLine L = .bad a ∧ r = .returned (.tuple #[.agg (stZ 0).toArray, .agg (erB a).toArray]) ∧ Below w.heap.size w w')
theorem RReadRN.r {L : List UInt8} {w : World} {r : Ending} {w' : World} (h : RReadRN L w r w') : RReadR L w r w' := by
  rcases h with ⟨k, vs, cs, h1, h2, h3, h4⟩ | h
  · exact .inl ⟨k, vs, cs, h1, h2, h3.c, h3.ok, h4⟩
  · exact .inr h
structure RdI3 (V : World) (j : Nat) (ky : ByteArray) (l1 l3 l4 l8 : Bool) (t81 t83 : Value) (W : World) : Prop where
  bl : Below V.heap.size V W
  rs : Row W V.heap.size 44 (stZ 0)
  re : Row W (V.heap.size + 1) 53 (if l8 = true then [.int .i64 3, .string (ky ++ (⟨#[32]⟩ : ByteArray))] else erL)
  s81 : l1 = true → l3 = false → ∃ b, t81 = .slice (some ⟨b, 0, none⟩) 26 26 ∧ Strs W (some ⟨b, 0, none⟩) 26 ((keyT.map (fun x : List UInt8 × Tag => x.1)).map bs) ∧ V.heap.size + 1 < b
  s83 : l3 = true → l4 = false → ∃ b, t83 = .pointer (some ⟨b, j, none⟩) ∧ V.heap.size + 1 < b ∧ W.cell? ⟨b, j, none⟩ = some (.string ky)
theorem RdI3.grow {V : World} {j : Nat} {ky : ByteArray} {l1 l3 l4 l8 : Bool} {t81 t83 : Value} {W W' : World} (h : RdI3 V j ky l1 l3 l4 l8 t81 t83 W) (hb : Below W.heap.size W W') : RdI3 V j ky l1 l3 l4 l8 t81 t83 W' :=
  ⟨h.bl.trans (hb.mono h.bl.size), h.rs.keep hb, h.re.keep hb, fun a b => by obtain ⟨A, e, hS, h3⟩ := h.s81 a b; exact ⟨A, e, hS.keep hb, h3⟩, fun a b => by obtain ⟨A, e, h1, h2⟩ := h.s83 a b; exact ⟨A, e, h1, (hb.cell (p := ⟨A, j, none⟩) (block_lt_of_cell h2)).trans h2⟩⟩
structure RdI2 (w3 : World) (z : Int) (l0 l4 l6 l7 : Bool) (t15 t5 : Value) (W : World) : Prop where
  bl : Below w3.heap.size w3 W
  s15 : l0 = true → l4 = false → ∃ A, t15 = .slice A 9 9 ∧ Strs W A 9 (kindW.map bs)
  s5 : l6 = true → ∃ p, t5 = .pointer (some ⟨p, 0, none⟩) ∧ w3.heap.size ≤ p ∧ Row W p 44 (if l7 = true then stZ z else stZ 0)
theorem RdI2.grow {w3 : World} {z : Int} {l0 l4 l6 l7 : Bool} {t15 t5 : Value} {W W' : World} (h : RdI2 w3 z l0 l4 l6 l7 t15 t5 W) (hb : Below W.heap.size W W') : RdI2 w3 z l0 l4 l6 l7 t15 t5 W' :=
  ⟨h.bl.trans (hb.mono h.bl.size), fun a b => by obtain ⟨A, e, hS⟩ := h.s15 a b; exact ⟨A, e, hS.keep hb⟩, fun a => by obtain ⟨p, e, h1, h2⟩ := h.s5 a; exact ⟨p, e, h1, h2.keep hb⟩⟩
end Go.Proofs.YtmicohmbmgbnkaaGreatDoor
