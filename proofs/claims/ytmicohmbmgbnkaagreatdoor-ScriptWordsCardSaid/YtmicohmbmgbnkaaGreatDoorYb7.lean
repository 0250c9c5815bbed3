/- Slices of integers: as a list; made by the call itself; the laws' 'has' and 'rises'. -/
import Derived.Test.YtmicohmbmgbnkaaGreatDoorYb0
import Derived.Test.YtmicohmbmgbnkaaGreatDoorProg
import Derived.BigQuiet
import Derived.Deep.QuietTactic
namespace Go.Proofs.YtmicohmbmgbnkaaGreatDoor
open Go.RowKit

def iv (x : Int) : List Value := [.int .i64 x]
def Ints (w : World) (A : Option Addr) (n : Nat) (xs : List Int) : Prop := Rws w 1 A n (xs.map iv)
theorem Ints.keep {w w' : World} {A : Option Addr} {n : Nat} {xs : List Int} (h : Ints w A n xs) (hb : Below w.heap.size w w') : Ints w' A n xs := Rws.keep h hb
theorem Ints.len {w : World} {A : Option Addr} {n : Nat} {xs : List Int} (h : Ints w A n xs) : xs.length = n := by simpa using h.1
theorem Ints.at_ {w : World} {A : Option Addr} {n : Nat} {xs : List Int} (h : Ints w A n xs) {j : Nat} (hj : j < n) :
    ∃ b off x, A = some ⟨b, off, none⟩ ∧ b < w.heap.size ∧ xs[j]? = some x ∧ w.cell? ⟨b, off + j, none⟩ = some (.int .i64 x) := by
  obtain ⟨b, off, z, e, hlt, hz, _, hr⟩ := Rws.row h hj
  rw [List.getElem?_map] at hz
  cases he : xs[j]? with
  | none => rw [he] at hz; cases hz
  | some x =>
    rw [he] at hz
    simp only [Option.map_some, Option.some.injEq] at hz
    subst hz
    have := hr 0 _ rfl
    rw [Nat.mul_one, Nat.add_zero] at this
    exact ⟨b, off, x, e, hlt, rfl, this⟩
def OwnI (w : World) (base : Nat) (v : Value) (xs : List Int) : Prop := OwnR w base 1 3 v (xs.map iv)
theorem OwnI.ints {w : World} {base : Nat} {v : Value} {xs : List Int} (h : OwnI w base v xs) : ∃ A c, v = .slice A xs.length c ∧ Ints w A xs.length xs := by
  obtain ⟨A, c, hv, hr⟩ := OwnR.rws h
  rw [List.length_map] at hv hr
  exact ⟨A, c, hv, hr⟩
theorem OwnI.keep {w w' : World} {base : Nat} {v : Value} {xs : List Int} (h : OwnI w base v xs) (hb : Below w.heap.size w w') : OwnI w' base v xs := OwnR.keep h hb
theorem int_info : (Tryz.prog.info? 3).map (fun i => (i.zero, i.size, i.bytes)) = some (some (.int .i64 0), 1, 8) := by kernel_rfl

def hasI (xs : List Int) (x : Int) : Bool := xs.any (· == x)
def risesTo (xs : List Int) (k : Nat) : Bool := (List.range k).all fun i => decide (xs.getD i 0 < xs.getD (i + 1) 0)
def rises (xs : List Int) : Bool := risesTo xs (xs.length - 1)
theorem risesTo_succ (xs : List Int) (k : Nat) : risesTo xs (k + 1) = (risesTo xs k && decide (xs.getD k 0 < xs.getD (k + 1) 0)) := by
  unfold risesTo; rw [List.range_succ, List.all_append]; simp
theorem risesTo_le {xs : List Int} {m k : Nat} (h : m ≤ k) (hk : risesTo xs k = true) : risesTo xs m = true := by
  unfold risesTo at *
  rw [List.all_eq_true] at *
  intro i hi
  exact hk i (List.mem_range.2 (by have := List.mem_range.1 hi; omega))
theorem rises_bad {xs : List Int} {k : Nat} (hk : k + 1 < xs.length) (h : ¬ xs.getD k 0 < xs.getD (k + 1) 0) : rises xs = false := by
  unfold rises risesTo
  rw [List.all_eq_false]
  exact ⟨k, List.mem_range.2 (by omega), by rw [decide_eq_false h]; decide⟩
end Go.Proofs.YtmicohmbmgbnkaaGreatDoor
