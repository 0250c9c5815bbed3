/- Agree: about; the reference's same. -/
import Derived.Test.YtbokdbppjiegjaaAgA
namespace Go.Proofs.Ytbokdbppjiegjaa
open Go.RowKit

def uCells (e : Ev) : List Value := [.int .i64 e.who, .string e.user, .string e.svc, .string e.alg, .int .i64 e.sid]
def sameU (e f : Ev) : Bool := e.who == f.who && (e.user.toList == f.user.toList) && (e.svc.toList == f.svc.toList) && (e.alg.toList == f.alg.toList) && e.sid == f.sid
set_option maxHeartbeats 8000000 in
theorem same_any (e f : Ev) (w : World) :
    Calls Try.prog 48 #[.agg e.cells.toArray, .agg f.cells.toArray] w fun r w' => r = .returned (.bool (sameU e f)) ∧ Below w.heap.size w w' := by
  have hB1 := ag_below w (.cells e.cells.toArray 46)
  have hB := Lib.hid (hB1.alloc hB1.size (.cells f.cells.toArray 46))
  have hx := heap_new w (.cells e.cells.toArray 46)
  have hlt := (Array.getElem?_eq_some_iff.1 hx).1
  have hK : ∀ (i : Nat) (v : Value), e.cells[i]? = some v → ((w.alloc (.cells e.cells.toArray 46)).alloc (.cells f.cells.toArray 46)).cell? ⟨w.heap.size, i, none⟩ = some v := fun i v h =>
    ((ag_below (w.alloc (.cells e.cells.toArray 46)) (.cells f.cells.toArray 46)).cell (p := ⟨w.heap.size, i, none⟩) hlt).trans (ev_cell e w 46 i v h)
  have hsz : (w.alloc (.cells e.cells.toArray 46)).heap.size = w.heap.size + 1 := by simp only [World.size_alloc]
  have hF := fun i v h => ev_cell f (w.alloc (.cells e.cells.toArray 46)) 46 i v h
  rw [hsz] at hF
  have c3 := hK 3 _ rfl
  have c4 := hK 4 _ rfl
  have c5 := hK 5 _ rfl
  have c6 := hK 6 _ rfl
  have c7 := hK 7 _ rfl
  have d3 := hF 3 _ rfl
  have d4 := hF 4 _ rfl
  have d5 := hF 5 _ rfl
  have d6 := hF 6 _ rfl
  have d7 := hF 7 _ rfl
  clear hK hF hsz hlt hx hB1
  have hv := show sameU e f = (e.who == f.who && (e.user.toList == f.user.toList) && (e.svc.toList == f.svc.toList) && (e.alg.toList == f.alg.toList) && e.sid == f.sid) from rfl
  cases k1 : (e.who == f.who) <;> cases k2 : (e.user.toList == f.user.toList) <;> cases k3 : (e.svc.toList == f.svc.toList) <;> cases k4 : (e.alg.toList == f.alg.toList) <;> cases k5 : (e.sid == f.sid)
  all_goals
    rw [k1, k2, k3, k4, k5] at hv
    have hv := Lib.hid hv
    go_enter Try.func48, Try.ntmps48
    go_wp2_with fail
    go_ret
    exact ⟨ret_bool (hv.out.trans rfl).symm, hB.out⟩
end Go.Proofs.Ytbokdbppjiegjaa
