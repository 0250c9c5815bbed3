import Derived.Test.YtkgkpoiacbjdfaaTrA
namespace Go.Proofs.Ytkgkpoiacbjdfaa
open Go.RowKit


set_option maxHeartbeats 400000 in
theorem find_any (p : Ev → Bool) (g : Nat) (lb : Array Value) (eg : ∀ args w, (callFunc g args).run Try.prog w = .ok (.enter g args) w)
    (es : List Ev) (A : Option Addr) (n c : Nat) (w : World) (hn : n ≤ 9223372036854775807) (H : Evs w A n es)
    (hp : ∀ (W : World) (e : Ev), Below w.heap.size w W → Calls Try.prog g (#[.agg e.cells.toArray] ++ lb) W fun r w' => r = .returned (.bool (p e)) ∧ Below W.heap.size W w') :
    Calls Try.prog 43 #[.slice A n c, .func (.func g) #[] lb] w fun r w' => r = .returned (.int .i64 (idx p es)) ∧ Below w.heap.size w w' := by
  have hP := Lib.hid hp
  clear hp
  have HH := Lib.hid H
  go_enter Try.func43, Try.ntmps43
  go_wp2_with (go_at_call 60; refine (indexFunc_any p g lb eg es A n c _ hn HH.out hP.out).mono ?_; rintro r w1 ⟨rfl, hb1⟩)
  go_ret
  exact ⟨rfl, hb1⟩

set_option maxHeartbeats 400000 in
theorem takenAt_any (es : List Ev) (A : Option Addr) (n c : Nat) (who : Int) (w : World) (hn : n ≤ 9223372036854775807) (H : Evs w A n es) :
    Calls Try.prog 29 #[.slice A n c, .int .i64 who] w fun r w' => r = .returned (.int .i64 (idx (isTaken who) es)) ∧ Below w.heap.size w w' := by
  have HH := Lib.hid H
  go_enter Try.func29, Try.ntmps29
  go_wp2_with fail
  have b0 : Below w.heap.size w (w.alloc (.cells #[.int .i64 who] 3)) := (Below.refl _ _).alloc (Nat.le_refl _) _
  refine (find_any (isTaken who) 44 _ (by intro args w; kernel_rfl) es A n c _ hn (HH.out.keep b0) ?_).mono ?_
  · intro W e hW
    exact taken_fn e who W w.heap.size (Nat.lt_of_lt_of_le (by simp) hW.size) ((hW.cell (p := ⟨w.heap.size, 0, none⟩) (by simp)).trans (by simp))
  rintro r w1 ⟨rfl, hb1⟩
  go_wp2
  go_ret
  exact ⟨rfl, b0.trans (hb1.mono b0.size)⟩

def kept (es : List Ev) (who at_ : Int) : Bool := decide (idx (isTaken who) es < 0) || decide (at_ ≤ idx (isTaken who) es)
set_option maxHeartbeats 400000 in
theorem kept_any (es : List Ev) (A : Option Addr) (n c : Nat) (who at_ : Int) (w : World) (hn : n ≤ 9223372036854775807) (H : Evs w A n es) :
    Calls Try.prog 42 #[.slice A n c, .int .i64 who, .int .i64 at_] w fun r w' => r = .returned (.bool (kept es who at_)) ∧ Below w.heap.size w w' := by
  have HH := Lib.hid H
  go_enter Try.func42, Try.ntmps42
  go_wp2_with (go_at_call 29; refine (takenAt_any es A n c who _ hn HH.out).mono ?_; rintro r w1 ⟨rfl, hb1⟩)
  all_goals
    go_ret
    exact ⟨ret_bool (by simp [kept, *]), hb1⟩
end Go.Proofs.Ytkgkpoiacbjdfaa
