/- An error of the program as a chain: places, the outermost one first, then a number, or nothing; At, Of. -/
import Derived.Test.YtifliohljcafgaaDoorProg
import Derived.Test.YtifliohljcafgaaDoorBase
namespace Go.Proofs.YtifliohljcafgaaDoor
open Go.RowKit

def isErr (w : World) (o : Option Int) : List ByteArray → Value → Prop
  | [], v => (match o with | some n => v = .iface 45 (.int .i64 n) | none => v = .nilIface)
  | s :: p, v => ∃ b v', v = .iface 91 (.pointer (some ⟨b, 0, none⟩)) ∧ b < w.heap.size ∧ w.cell? ⟨b, 0, none⟩ = some (.string s) ∧ w.cell? ⟨b, 1, none⟩ = some v' ∧ isErr w o p v'
theorem isErr.keep {w w' : World} {o : Option Int} (hb : Below w.heap.size w w') : ∀ {p : List ByteArray} {v : Value}, isErr w o p v → isErr w' o p v
  | [], _, h => h
  | _ :: _, _, ⟨b, v', e, hlt, h1, h2, h3⟩ => ⟨b, v', e, Nat.lt_of_lt_of_le hlt hb.size, (hb.cell (p := ⟨b, 0, none⟩) hlt).trans h1, (hb.cell (p := ⟨b, 1, none⟩) hlt).trans h2, isErr.keep hb h3⟩

theorem isErr_some {w : World} {n : Int} : ∀ {p : List ByteArray} {v : Value}, isErr w (some n) p v → ∃ T u, v = .iface T u
  | [], _, h => ⟨_, _, h⟩
  | _ :: _, _, ⟨_, _, e, _⟩ => ⟨_, _, e⟩
theorem isErr_cons {w : World} {o : Option Int} {s : ByteArray} {p : List ByteArray} {v : Value} (h : isErr w o (s :: p) v) : ∃ T u, v = .iface T u := by
  obtain ⟨_, _, e, _⟩ := h
  exact ⟨_, _, e⟩

/-- A new error: its chain; all that was there is as it was. -/
def Mk (w : World) (o : Option Int) (p : List ByteArray) (r : Ending) (w' : World) : Prop := ∃ v, r = .returned v ∧ isErr w' o p v ∧ Below w.heap.size w w'
theorem isErr_new {w : World} {o : Option Int} {p : List ByteArray} {v : Value} (H : isErr w o p v) (s : ByteArray) (t : TypeId) :
    isErr (w.alloc (.cells #[.string s, v] t)) o (s :: p) (.iface 91 (.pointer (some ⟨w.heap.size, 0, none⟩))) :=
  ⟨w.heap.size, v, rfl, by simp, by simp, by simp, H.keep ((Below.refl _ _).alloc (Nat.le_refl _) _)⟩

theorem at_any (s : ByteArray) (o : Option Int) (p : List ByteArray) (T : TypeId) (u : Value) (w : World) (H : isErr w o p (.iface T u)) :
    Calls Tryd.prog 35 #[.string s, .iface T u] w (Mk w o (s :: p)) := by
  have H := Lib.hid H
  go_enter Tryd.func35, Tryd.ntmps35
  go_wp2
  go_ret
  exact ⟨_, rfl, isErr_new H.out s _, (Below.refl _ _).alloc (Nat.le_refl _) _⟩
theorem at_nil (s : ByteArray) (w : World) :
    Calls Tryd.prog 35 #[.string s, .nilIface] w fun r w' => r = .returned .nilIface ∧ w = w' := by
  go_enter Tryd.func35, Tryd.ntmps35
  go_wp2
  go_ret
  exact ⟨rfl, rfl⟩
theorem of_any (s : ByteArray) (n : Int) (w : World) (hn : n ≠ 0) :
    Calls Tryd.prog 36 #[.string s, .int .i64 n] w (Mk w (some n) [s]) := by
  have h0 : (n == 0) = false := beq_eq_false_iff_ne.2 hn
  clear hn
  go_enter Tryd.func36, Tryd.ntmps36
  go_wp2
  go_ret
  exact ⟨_, rfl, isErr_new (show isErr w (some n) [] (.iface 45 (.int .i64 n)) from rfl) s _, (Below.refl _ _).alloc (Nat.le_refl _) _⟩
theorem of_zero (s : ByteArray) (w : World) :
    Calls Tryd.prog 36 #[.string s, .int .i64 0] w fun r w' => r = .returned .nilIface ∧ w = w' := by
  go_enter Tryd.func36, Tryd.ntmps36
  go_wp2
  go_ret
  exact ⟨rfl, rfl⟩

end Go.Proofs.YtifliohljcafgaaDoor
