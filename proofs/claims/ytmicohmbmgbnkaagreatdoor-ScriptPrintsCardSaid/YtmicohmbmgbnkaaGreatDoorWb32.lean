/- A struct's block: what a store leaves of it; the reference's name. (printed by wip/gen_slu.py) -/
import Derived.Test.YtmicohmbmgbnkaaGreatDoorWb28
import Derived.Test.YtmicohmbmgbnkaaGreatDoorWb31
import Derived.Deep.MidRow
import Derived.Test.YtmicohmbmgbnkaaGreatDoorWb9
namespace Go.Proofs.YtmicohmbmgbnkaaGreatDoor
open Go Go.RowKit Go.Shelf
open Go.Lib (itoa)

def Row (W : World) (b : Nat) (t : TypeId) (cs : List Value) : Prop := W.heap[b]? = some (.cells cs.toArray t (0, 0))
theorem Row.lt {W : World} {b : Nat} {t : TypeId} {cs : List Value} (h : Row W b t cs) : b < W.heap.size := (Array.getElem?_eq_some_iff.1 h).1
theorem Row.keep {W W' : World} {b : Nat} {t : TypeId} {cs : List Value} (h : Row W b t cs) (hb : Below W.heap.size W W') : Row W' b t cs := (hb.block b h.lt).trans h
theorem Row.cell {W : World} {b off : Nat} {t : TypeId} {cs : List Value} {v : Value} (h : Row W b t cs) (hv : cs[off]? = some v) : W.cell? ⟨b, off, none⟩ = some v := (cell_of_row W b off _ _ _ h).trans (by simpa using hv)
theorem Row.froz {W : World} {b : Nat} {t : TypeId} {cs : List Value} (h : Row W b t cs) (off : Nat) : W.frozen? ⟨b, off, none⟩ = false := frozen_of_row W b off _ _ h
theorem Row.range {W : World} {b : Nat} {t : TypeId} {cs : List Value} (h : Row W b t cs) : W.rangeAt b 0 cs := rangeAt_list h
theorem Row.mid {W : World} {b off : Nat} {t : TypeId} {cs fs : List Value} (h : Row W b t cs) (hf : ∀ (j : Nat) x, fs[j]? = some x → cs[off + j]? = some x) : W.rangeAt b off fs := fun j x hx => h.cell (hf j x hx)
theorem Row.set {W : World} {b off : Nat} {t : TypeId} {cs : List Value} (h : Row W b t cs) (v : Value) : Row (W.setCell ⟨b, off, none⟩ v) b t (cs.set off v) := by
  have := heap_setCell_same W b off _ _ v h
  rw [set_arr] at this
  exact this
theorem Row.other {W : World} {b b2 off : Nat} {t : TypeId} {cs : List Value} (h : Row W b t cs) (hn : b ≠ b2) (v : Value) : Row (W.setCell ⟨b2, off, none⟩ v) b t cs := (heap_setCell_other W ⟨b2, off, none⟩ b v hn).trans h
theorem Row.setRow {W : World} {b : Nat} {t : TypeId} {cs : List Value} (h : Row W b t cs) (ds : List Value) : Row (W.setRow b ds.toArray) b t ds := hsetRow W b _ _ _ _ h
theorem Row.setRow_other {W : World} {b b2 : Nat} {t : TypeId} {cs : List Value} (h : Row W b t cs) (hn : b ≠ b2) (ds : Array Value) : Row (W.setRow b2 ds) b t cs := (hsetRow_off hn ds).trans h
theorem Row.there {W : World} {b : Nat} {t : TypeId} {cs : List Value} (h : Row W b t cs) {off n : Nat} (hn : off + n ≤ cs.length) : W.there b off n := fun j hj => by
  have hl : off + j < cs.length := by omega
  rw [h.cell (List.getElem?_eq_getElem hl)]
  exact ⟨rfl, h.froz _⟩
theorem cf_in9 (fs : List Value) (h : fs.length = 23) : (Tryz.prog.info? 41).map (·.size) = some fs.length := by rw [h]; kernel_rfl
theorem st_in9 (fs : List Value) (h : fs.length = 29) : (Tryz.prog.info? 44).map (·.size) = some fs.length := by rw [h]; kernel_rfl
theorem st_in9' (fs : List Value) (h : fs.length = 29) : (Tryz.prog.info? 44).map (·.size) = some fs.toArray.size := by rw [List.size_toArray]; exact st_in9 fs h
theorem st_old (fs : List Value) (h : fs.length = 29) : (stZ 0).toArray.size = fs.toArray.size := by rw [List.size_toArray, List.size_toArray, h]; rfl
theorem one_arr {l : List Value} (h : ∀ x ∈ l, x.oneCell' = true) : l.toArray.all (·.oneCell') = true := by rw [List.all_toArray]; exact List.all_eq_true.2 h
theorem one_list {l : List Value} (h : l.toArray.all (·.oneCell') = true) : ∀ x ∈ l, x.oneCell' = true := by rw [List.all_toArray] at h; exact List.all_eq_true.1 h
end Go.Proofs.YtmicohmbmgbnkaaGreatDoor
