/- The reader: its block; Err, Left, End, New. -/
import Derived.Test.YtjiepgldgcghlaaDoorWrC
import Derived.BigQuiet
import Derived.Deep.QuietTactic
import Derived.StillTailTactics
namespace Go.Proofs.YtjiepgldgcghlaaDoor
open Go.RowKit

/-- Only block g of what was there has turned. -/
def Chg (w w' : World) (g : Nat) : Prop := Below g w w' ∧ w.heap.size ≤ w'.heap.size ∧ ∀ b, g < b → b < w.heap.size → w'.heap[b]? = w.heap[b]?
theorem chg_of {w w' : World} (h : Below w.heap.size w w') {g : Nat} (hg : g ≤ w.heap.size) : Chg w w' g := ⟨h.mono hg, h.size, fun b _ hb => h.block b hb⟩
theorem Chg.trans {w w1 w2 : World} {g : Nat} (h : Chg w w1 g) (k : Chg w1 w2 g) : Chg w w2 g :=
  ⟨h.1.trans k.1, Nat.le_trans h.2.1 k.2.1, fun b h1 h2 => (k.2.2 b h1 (Nat.lt_of_lt_of_le h2 h.2.1)).trans (h.2.2 b h1 h2)⟩
theorem Chg.refl (w : World) {g : Nat} (hg : g ≤ w.heap.size) : Chg w w g := chg_of (Below.refl w.heap.size w) hg
theorem Chg.setCell {w w' : World} {g : Nat} (h : Chg w w' g) (i : Nat) (v : Value) : Chg w (w'.setCell ⟨g, i, none⟩ v) g :=
  ⟨h.1.setCell (Nat.le_refl _) _, by rw [World.size_setCell]; exact h.2.1, fun b h1 h2 => (Below.heap_setCell w' _ v b (by show b ≠ g; omega)).trans (h.2.2 b h1 h2)⟩
theorem Chg.below {w w0 w' : World} {g B : Nat} (h : Chg w w' g) (hb : Below B w0 w) (hB : B ≤ g) (hw : B ≤ w.heap.size) : Below B w0 w' := hb.trans (h.1.mono hB)

/-- Block g is a reader of the bytes s, k of which were read; e is its error. -/
def RD (w : World) (g : Nat) (s : ByteArray) (k : Nat) (e : Int) : Prop := w.heap[g]? = some (.cells #[.string s, .int .i64 k, .int .i64 e] 66 (0, 0))
theorem RD.lt {w : World} {g : Nat} {s : ByteArray} {k : Nat} {e : Int} (h : RD w g s k e) : g < w.heap.size := (Array.getElem?_eq_some_iff.1 h).1
theorem RD.cells {w : World} {g : Nat} {s : ByteArray} {k : Nat} {e : Int} (h : RD w g s k e) : w.cell? ⟨g, 0, none⟩ = some (.string s) ∧ w.cell? ⟨g, 1, none⟩ = some (.int .i64 k) ∧ w.cell? ⟨g, 2, none⟩ = some (.int .i64 e) ∧ w.frozen? ⟨g, 1, none⟩ = false ∧ w.frozen? ⟨g, 2, none⟩ = false :=
  ⟨cell_of_row w g 0 _ _ _ h, cell_of_row w g 1 _ _ _ h, cell_of_row w g 2 _ _ _ h, frozen_of_row w g 1 _ _ h, frozen_of_row w g 2 _ _ h⟩
theorem RD.keep {w w' : World} {g : Nat} {s : ByteArray} {k : Nat} {e : Int} (h : RD w g s k e) (hb : Below w.heap.size w w') : RD w' g s k e := (hb.block g h.lt).trans h
theorem RD.err {w : World} {g : Nat} {s : ByteArray} {k : Nat} {e : Int} (h : RD w g s k e) (e' : Int) : RD (w.setCell ⟨g, 2, none⟩ (.int .i64 e')) g s k e' := by
  unfold RD
  rw [heap_setCell_same w g 2 _ _ _ h]
  rfl
theorem RD.at_ {w : World} {g : Nat} {s : ByteArray} {k : Nat} {e : Int} (h : RD w g s k e) (k' : Nat) : RD (w.setCell ⟨g, 1, none⟩ (.int .i64 k')) g s k' e := by
  unfold RD
  rw [heap_setCell_same w g 1 _ _ _ h]
  rfl

theorem new_any (s : ByteArray) (w : World) :
    Calls Tryd.prog 10 #[.string s] w fun r w' => r = .returned (.pointer (some ⟨w.heap.size, 0, none⟩)) ∧ w' = w.alloc (.cells #[.string s, .int .i64 0, .int .i64 0] 66) := by
  go_enter Tryd.func10, Tryd.ntmps10
  go_wp2
  go_ret
  exact ⟨rfl, rfl⟩
theorem new_rd (s : ByteArray) (w : World) : RD (w.alloc (.cells #[.string s, .int .i64 0, .int .i64 0] 66)) w.heap.size s 0 0 := heap_new w _
theorem err_any (g : Nat) (s : ByteArray) (k : Nat) (e : Int) (w : World) (h : RD w g s k e) :
    Calls Tryd.prog 13 #[.pointer (some ⟨g, 0, none⟩)] w fun r w' => r = .returned (.int .i64 e) ∧ w = w' := by
  obtain ⟨c0, c1, c2, _, _⟩ := h.cells
  clear h
  go_enter Tryd.func13, Tryd.ntmps13
  go_wp2
  go_ret
  exact ⟨rfl, rfl⟩
theorem err_nil (w : World) :
    Calls Tryd.prog 13 #[.pointer none] w fun r w' => r = .returned (.int .i64 1) ∧ w = w' := by
  go_enter Tryd.func13, Tryd.ntmps13
  go_wp2
  go_ret
  exact ⟨rfl, rfl⟩
theorem left_any (g : Nat) (s : ByteArray) (k : Nat) (e : Int) (w : World) (h : RD w g s k e) (hs : s.size ≤ 1000000) (hk : k ≤ s.size) :
    Calls Tryd.prog 14 #[.pointer (some ⟨g, 0, none⟩)] w fun r w' => r = .returned (.int .i64 ((s.size - k : Nat) : Int)) ∧ ∃ q, w' = w.drewN q := by
  obtain ⟨c0, c1, c2, _, _⟩ := h.cells
  have e0 : IntKind.i64.wrap ((s.size : Int) - (k : Int)) = ((s.size - k : Nat) : Int) := by rw [IntWalk.i64_in _ (by omega)]; omega
  clear h
  go_enter Tryd.func14, Tryd.ntmps14
  go_wp2
  go_quiet (fail)
  go_wp2
  go_ret
  exact ⟨rfl, _, rfl⟩
theorem left_nil (w : World) :
    Calls Tryd.prog 14 #[.pointer none] w fun r w' => r = .returned (.int .i64 0) ∧ w = w' := by
  go_enter Tryd.func14, Tryd.ntmps14
  go_wp2
  go_ret
  exact ⟨rfl, rfl⟩
def endM (left : Nat) (e : Int) : Int := if e ≠ 0 ∨ left = 0 then e else 3
set_option maxHeartbeats 1000000 in
theorem end_any (g : Nat) (s : ByteArray) (k : Nat) (e : Int) (w : World) (h : RD w g s k e) (hs : s.size ≤ 1000000) (hk : k ≤ s.size) :
    Calls Tryd.prog 16 #[.pointer (some ⟨g, 0, none⟩)] w fun r w' => r = .returned (.int .i64 (endM (s.size - k) e)) ∧ ∃ q, w' = w.drewN q := by
  have cE := Lib.hid (err_any g s k e w h)
  have cL := left_any g s k e w h hs hk
  by_cases he : e = 0
  · subst he
    by_cases hl : s.size - k = 0
    · have hv := Lib.hid (show endM (s.size - k) 0 = 0 by unfold endM; rw [if_pos (.inr hl)])
      rw [hl] at cL
      have cL := Lib.hid cL
      clear hl
      go_enter Tryd.func16, Tryd.ntmps16
      go_wp2_with (first
        | (go_at_call 13; refine cE.out.mono ?_; rintro r w1 ⟨rfl, rfl⟩)
        | (go_at_call 14; refine cL.out.mono ?_; rintro r w1 ⟨rfl, q, rfl⟩))
      go_ret
      exact ⟨ret_int hv.out.symm, _, rfl⟩
    · generalize hL : s.size - k = L at cL hl
      have hv := Lib.hid (show endM L 0 = 3 by unfold endM; rw [if_neg (by omega)])
      have hb : ((L : Int) == 0) = false := beq_eq_false_iff_ne.2 (by omega)
      have cL := Lib.hid cL
      clear hL hl
      go_enter Tryd.func16, Tryd.ntmps16
      go_wp2_with (first
        | (go_at_call 13; refine cE.out.mono ?_; rintro r w1 ⟨rfl, rfl⟩)
        | (go_at_call 14; refine cL.out.mono ?_; rintro r w1 ⟨rfl, q, rfl⟩))
      go_ret
      exact ⟨ret_int hv.out.symm, _, rfl⟩
  · have hv := Lib.hid (show endM (s.size - k) e = e by unfold endM; rw [if_pos (.inl he)])
    have hb : (e != 0) = true := by rw [bne_iff_ne]; exact he
    clear he cL
    go_enter Tryd.func16, Tryd.ntmps16
    go_wp2_with (go_at_call 13; refine cE.out.mono ?_; rintro r w1 ⟨rfl, rfl⟩)
    go_ret
    exact ⟨ret_int hv.out.symm, 0, rfl⟩
theorem all_any (s : ByteArray) (w : World) :
    Calls Tryd.prog 55 #[.string s] w fun r w' => r = .returned (.bool true) ∧ w = w' := by
  go_enter Tryd.func55, Tryd.ntmps55
  go_wp2
  go_ret
  exact ⟨rfl, rfl⟩
end Go.Proofs.YtjiepgldgcghlaaDoor
