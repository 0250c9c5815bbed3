/- The reference's reader: Bytes, Byte, U32, End. -/
import Derived.Test.YtjiepgldgcghlaaDoorWrH
namespace Go.Proofs.YtjiepgldgcghlaaDoor
open Go.RowKit

/-- Block h is the reference's reader: S is left, e is its error. -/
def RQ (w : World) (h : Nat) (S : ByteArray) (e : Int) : Prop := w.heap[h]? = some (.cells #[.string S, .int .i64 e] 53 (0, 0))
theorem RQ.lt {w : World} {g : Nat} {s : ByteArray} {e : Int} (h : RQ w g s e) : g < w.heap.size := (Array.getElem?_eq_some_iff.1 h).1
theorem RQ.cells {w : World} {g : Nat} {s : ByteArray} {e : Int} (h : RQ w g s e) : w.cell? ⟨g, 0, none⟩ = some (.string s) ∧ w.cell? ⟨g, 1, none⟩ = some (.int .i64 e) ∧ w.frozen? ⟨g, 0, none⟩ = false ∧ w.frozen? ⟨g, 1, none⟩ = false :=
  ⟨cell_of_row w g 0 _ _ _ h, cell_of_row w g 1 _ _ _ h, frozen_of_row w g 0 _ _ h, frozen_of_row w g 1 _ _ h⟩
theorem RQ.keep {w w' : World} {g : Nat} {s : ByteArray} {e : Int} (h : RQ w g s e) (hb : Below w.heap.size w w') : RQ w' g s e := (hb.block g h.lt).trans h
theorem RQ.err {w : World} {g : Nat} {s : ByteArray} {e : Int} (h : RQ w g s e) (e' : Int) : RQ (w.setCell ⟨g, 1, none⟩ (.int .i64 e')) g s e' := by
  unfold RQ
  rw [heap_setCell_same w g 1 _ _ _ h]
  rfl
theorem RQ.at_ {w : World} {g : Nat} {s : ByteArray} {e : Int} (h : RQ w g s e) (s' : ByteArray) : RQ (w.setCell ⟨g, 0, none⟩ (.string s')) g s' e := by
  unfold RQ
  rw [heap_setCell_same w g 0 _ _ _ h]
  rfl

section
variable (g : Nat) (S : ByteArray) (w : World)
theorem qBytes_err (e n : Int) (h : RQ w g S e) (he : e ≠ 0) :
    Calls Tryd.prog 41 #[.pointer (some ⟨g, 0, none⟩), .int .i64 n] w fun r w' => r = .returned (.string ⟨#[]⟩) ∧ w = w' := by
  obtain ⟨c0, c1, z0, z1⟩ := h.cells
  have hb : (e != 0) = true := by rw [bne_iff_ne]; exact he
  clear he h
  go_enter Tryd.func41, Tryd.ntmps41
  go_wp2
  go_ret
  exact ⟨rfl, rfl⟩
theorem qBytes_short (n : Int) (h : RQ w g S 0) (hs : S.size ≤ 1000000) (hn : n < 0 ∨ (S.size : Int) < n) :
    Calls Tryd.prog 41 #[.pointer (some ⟨g, 0, none⟩), .int .i64 n] w fun r w' => r = .returned (.string ⟨#[]⟩) ∧ RQ w' g S 4 ∧ Chg w w' g := by
  obtain ⟨c0, c1, z0, z1⟩ := h.cells
  have hR := Lib.hid (h.err 4)
  have hC := Lib.hid ((Chg.refl w (Nat.le_of_lt h.lt)).setCell 1 (.int .i64 4))
  clear h
  by_cases h0 : n < 0
  · clear hn
    go_enter Tryd.func41, Tryd.ntmps41
    go_wp2
    go_ret
    exact ⟨rfl, hR.out, hC.out⟩
  · have hn : (S.size : Int) < n := by omega
    go_enter Tryd.func41, Tryd.ntmps41
    go_wp2
    go_ret
    exact ⟨rfl, hR.out, hC.out⟩
theorem qBytes_ok (m : Nat) (h : RQ w g S 0) (hs : S.size ≤ 1000000) (hn : m ≤ S.size) :
    Calls Tryd.prog 41 #[.pointer (some ⟨g, 0, none⟩), .int .i64 m] w fun r w' => r = .returned (.string (S.extract 0 m)) ∧ RQ w' g (S.extract m S.size) 0 ∧ Chg w w' g := by
  obtain ⟨c0, c1, z0, z1⟩ := h.cells
  have hR := Lib.hid (h.at_ (S.extract m S.size))
  have hC := Lib.hid ((Chg.refl w (Nat.le_of_lt h.lt)).setCell 0 (.string (S.extract m S.size)))
  clear h
  have l1 : (0 : Int) ≤ (m : Int) := by omega
  have l2 : (m : Int) ≤ (S.size : Int) := by omega
  go_enter Tryd.func41, Tryd.ntmps41
  go_wp2
  go_ret
  exact ⟨rfl, hR.out, hC.out⟩
theorem qEnd_any (e : Int) (h : RQ w g S e) (hs : S.size ≤ 1000000) :
    Calls Tryd.prog 42 #[.pointer (some ⟨g, 0, none⟩)] w fun r w' => r = .returned (.int .i64 (endM S.size e)) ∧ w = w' := by
  obtain ⟨c0, c1, z0, z1⟩ := h.cells
  clear h
  by_cases he : e = 0
  · subst he
    by_cases hz : S.size = 0
    · have hv := Lib.hid (show endM S.size 0 = 0 by unfold endM; rw [if_pos (.inr hz)])
      go_enter Tryd.func42, Tryd.ntmps42
      go_wp2
      go_ret
      exact ⟨ret_int hv.out.symm, rfl⟩
    · have hv := Lib.hid (show endM S.size 0 = 3 by unfold endM; rw [if_neg (by omega)])
      have hp : (0 : Int) < (S.size : Int) := by omega
      clear hz
      go_enter Tryd.func42, Tryd.ntmps42
      go_wp2
      go_ret
      exact ⟨ret_int hv.out.symm, rfl⟩
  · have hv := Lib.hid (show endM S.size e = e by unfold endM; rw [if_pos (.inl he)])
    have hb : (e == 0) = false := beq_eq_false_iff_ne.2 he
    clear he
    go_enter Tryd.func42, Tryd.ntmps42
    go_wp2
    go_ret
    exact ⟨ret_int hv.out.symm, rfl⟩
end
theorem qByte_of {g : Nat} {w : World} {t : ByteArray} {Q : World → Prop}
    (c : Calls Tryd.prog 41 #[.pointer (some ⟨g, 0, none⟩), .int .i64 1] w fun r w' => r = .returned (.string t) ∧ Q w') :
    Calls Tryd.prog 32 #[.pointer (some ⟨g, 0, none⟩)] w fun r w' => r = .returned (.int .u8 (firstN t)) ∧ Q w' := by
  have c := Lib.hid c
  by_cases h0 : 0 < t.size
  · have hv := Lib.hid (show ((t[0]'h0).toNat : Int) = firstN t by unfold firstN; rw [dif_pos h0])
    have hz : ((t.size : Int) == 0) = false := beq_eq_false_iff_ne.2 (by omega)
    go_enter Tryd.func32, Tryd.ntmps32
    go_wp2_with (go_at_call 41; refine c.out.mono ?_; rintro r w1 ⟨rfl, hQ⟩; have hQ := Lib.hid hQ)
    go_ret
    exact ⟨congrArg (fun x => Ending.returned (Value.int .u8 x)) hv.out, hQ.out⟩
  · have hz : t.size = 0 := by omega
    have hv := Lib.hid (show firstN t = 0 by unfold firstN; rw [dif_neg h0])
    clear h0
    go_enter Tryd.func32, Tryd.ntmps32
    go_wp2_with (go_at_call 41; refine c.out.mono ?_; rintro r w1 ⟨rfl, hQ⟩; have hQ := Lib.hid hQ)
    go_ret
    exact ⟨congrArg (fun x => Ending.returned (Value.int .u8 x)) hv.out.symm, hQ.out⟩
theorem qU32_of {g : Nat} {w : World} {t : ByteArray} {Q : World → Prop} (ht : t.size ≤ 4)
    (c : Calls Tryd.prog 41 #[.pointer (some ⟨g, 0, none⟩), .int .i64 4] w fun r w' => r = .returned (.string t) ∧ Q w') :
    Calls Tryd.prog 36 #[.pointer (some ⟨g, 0, none⟩)] w fun r w' => r = .returned (.int .u32 (numb t.toList)) ∧ Q w' := by
  have c := Lib.hid c
  have cV := Lib.hid (fun W => value_any t W ht)
  have hv := numb_lt (l := t.toList) (by rw [bsl_len]; exact ht)
  generalize numb t.toList = x at cV hv ⊢
  obtain ⟨h0, h1⟩ := hv
  have e0 : x % 4294967296 = x := Int.emod_eq_of_lt h0 h1
  have e1 : IntKind.u32.wrap x = x := by simp [IntKind.wrap, IntKind.signed, IntKind.bits, e0]
  go_enter Tryd.func36, Tryd.ntmps36
  go_wp2_with (first
    | (go_at_call 41; refine c.out.mono ?_; rintro r w1 ⟨rfl, hQ⟩; have hQ := Lib.hid hQ)
    | (go_at_call 58; refine (cV.out _).mono ?_; rintro r w2 ⟨rfl, rfl⟩))
  go_ret
  exact ⟨rfl, hQ.out⟩
end Go.Proofs.YtjiepgldgcghlaaDoor
