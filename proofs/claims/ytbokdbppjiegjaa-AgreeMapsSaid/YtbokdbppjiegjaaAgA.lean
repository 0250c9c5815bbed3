/- Agree: exchange, about; the reference's same. -/
import Derived.Test.YtbokdbppjiegjaaEv
import Derived.Test.YtbokdbppjiegjaaTrA
namespace Go.Proofs.Ytbokdbppjiegjaa
open Go.RowKit

theorem ev_cell (e : Ev) (w : World) (t : TypeId) (i : Nat) (v : Value) (h : e.cells[i]? = some v) : (w.alloc (.cells e.cells.toArray t)).cell? ⟨w.heap.size, i, none⟩ = some v := by
  have hr := rangeAt_list (heap_new w (.cells e.cells.toArray t))
  have := hr i v h
  rw [Nat.zero_add] at this
  exact this
theorem ag_below (w : World) (o : Obj) : Below w.heap.size w (w.alloc o) := (Below.refl w.heap.size w).alloc (Nat.le_refl _) o
def isExch (e : Ev) : Bool := e.kind == 1 || e.kind == 2
theorem exchange_any (e : Ev) (w : World) :
    Calls Try.prog 62 #[.agg e.cells.toArray] w fun r w' => r = .returned (.bool (isExch e)) ∧ Below w.heap.size w w' := by
  have c0 := ev_cell e w 46 0 _ e.at0
  have hB := Lib.hid (ag_below w (.cells e.cells.toArray 46))
  generalize hw2 : w.alloc (.cells e.cells.toArray 46) = w2 at c0 hB
  have hv := Lib.hid (show isExch e = (e.kind == 1 || e.kind == 2) from rfl)
  by_cases h1 : e.kind = 1
  · have k1 : (e.kind == 1) = true := beq_iff_eq.2 h1
    rw [k1] at hv
    clear h1
    go_enter Try.func62, Try.ntmps62
    go_wp2_with fail
    go_ret
    exact ⟨ret_bool hv.out.symm, hB.out⟩
  · have k1 : (e.kind == 1) = false := beq_eq_false_iff_ne.2 h1
    rw [k1] at hv
    clear h1
    go_enter Try.func62, Try.ntmps62
    go_wp2_with fail
    go_ret
    exact ⟨ret_bool hv.out.symm, hB.out⟩
end Go.Proofs.Ytbokdbppjiegjaa
