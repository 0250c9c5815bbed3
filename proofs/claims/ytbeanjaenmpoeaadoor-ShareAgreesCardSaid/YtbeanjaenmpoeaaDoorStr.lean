/- Slices of strings: as a list of byte strings; opened; made by the call itself. -/
import Derived.Test.YtbeanjaenmpoeaaDoorFlat
import Derived.Test.YtbeanjaenmpoeaaDoorOpenRows
import Derived.Test.YtbeanjaenmpoeaaDoorOwn
import Derived.Test.YtbeanjaenmpoeaaDoorLst
import Derived.Test.YtbeanjaenmpoeaaDoorProg
namespace Go.Proofs.YtbeanjaenmpoeaaDoor
open Go.RowKit Go.ChangeShapes Go.WideShapes Go.Deep

def sv (s : ByteArray) : List Value := [.string s]
def Strs (w : World) (A : Option Addr) (n : Nat) (ss : List ByteArray) : Prop := Rws w 1 A n (ss.map sv)
theorem Strs.keep {w w' : World} {A : Option Addr} {n : Nat} {ss : List ByteArray} (h : Strs w A n ss) (hb : Below w.heap.size w w') : Strs w' A n ss := Rws.keep h hb
theorem Strs.len {w : World} {A : Option Addr} {n : Nat} {ss : List ByteArray} (h : Strs w A n ss) : ss.length = n := by simpa using h.1
theorem Strs.nil_ {w : World} {A : Option Addr} : Strs w A 0 [] := Rws.nil_
theorem Strs.at_ {w : World} {A : Option Addr} {n : Nat} {ss : List ByteArray} (h : Strs w A n ss) {j : Nat} (hj : j < n) :
    ∃ b off s, A = some ⟨b, off, none⟩ ∧ b < w.heap.size ∧ ss[j]? = some s ∧ w.cell? ⟨b, off + j, none⟩ = some (.string s) := by
  obtain ⟨b, off, z, e, hlt, hz, _, hr⟩ := Rws.row h hj
  rw [List.getElem?_map] at hz
  cases he : ss[j]? with
  | none => rw [he] at hz; cases hz
  | some x =>
    rw [he] at hz
    simp only [Option.map_some, Option.some.injEq] at hz
    subst hz
    have := hr 0 _ rfl
    rw [Nat.mul_one, Nat.add_zero] at this
    exact ⟨b, off, x, e, hlt, rfl, this⟩
/-- A beginning of a slice. -/
theorem Rws.take_ {w : World} {k n m : Nat} {A : Option Addr} {zs : List (List Value)} (h : Rws w k A n zs) (hm : m ≤ n) : Rws w k A m (zs.take m) :=
  ⟨by rw [List.length_take, h.1]; omega, fun z hz => h.2.1 z (List.mem_of_mem_take hz), fun hp => by
    obtain ⟨b, off, e, hlt, hc⟩ := h.2.2 (by omega)
    refine ⟨b, off, e, hlt, fun j z hz => ?_⟩
    rw [List.getElem?_take] at hz
    split at hz
    · exact hc j z hz
    · cases hz⟩
theorem Strs.take_ {w : World} {A : Option Addr} {n m : Nat} {ss : List ByteArray} (h : Strs w A n ss) (hm : m ≤ n) : Strs w A m (ss.take m) := by
  unfold Strs
  rw [List.map_take]
  exact Rws.take_ h hm

def strDs : List TypeDesc := [.string]
theorem str_flat : flatDesc Tryd.prog 2 9 = some strDs := by kernel_rfl
theorem strs_of_rows : ∀ (zs : List (List Value)), (∀ z ∈ zs, allOk strDs z) → ∃ ss : List ByteArray, zs = ss.map sv ∧ ∀ s ∈ ss, s.size ≤ maxLen
  | [], _ => ⟨[], rfl, by simp⟩
  | z :: r, h => by
    obtain ⟨hl, hc⟩ := h z (by simp)
    match z, hl with
    | [c0], _ =>
      obtain ⟨s, rfl, hs⟩ := hc 0 _ _ rfl rfl
      obtain ⟨ss, rfl, hss⟩ := strs_of_rows r (fun y hy => h y (by simp [hy]))
      refine ⟨s :: ss, rfl, fun x hx => ?_⟩
      rcases List.mem_cons.1 hx with rfl | hx
      · exact hs
      · exact hss x hx
set_option maxRecDepth 100000 in
theorem open_strs' {H : Type} {enc : TypeId × Value → H} {w : World} {base : Nat} {spare : Nat → Bool} {held : Bool} {r : Reach} {b0 : Nat} {v : Value} {d : DataW H} {ps : List MemPlace}
    (hv : Value.okWide Tryd.prog w r b0 41 v) (h : DataW.Trod enc Tryd.prog w base spare held 41 v d ps) :
    ∃ A n c ss, v = .slice A n c ∧ n ≤ c ∧ c ≤ 9223372036854775807 ∧ Strs w A n ss ∧ ∀ s ∈ ss, s.size ≤ 9223372036854775807 := by
  obtain ⟨a, len, cap, rfl⟩ := okWide_slice Tryd.underlying41 hv
  obtain ⟨fuel, hf⟩ := h
  obtain ⟨A, n, c, zs, hcs, hl, hm, hr, hok⟩ := open_rows Tryd.underlying41 str_flat (by kernel_rfl) (by decide) hf
  obtain ⟨ss, rfl, hss⟩ := strs_of_rows zs hok
  have : Value.slice a len cap = .slice A n c := by simpa [Value.cells] using hcs
  unfold maxLen at hm hss
  exact ⟨A, n, c, ss, this, hl, by omega, hr, fun s hs => by have := hss s hs; omega⟩

/-- A slice of strings of the call's own. -/
def OwnS (w : World) (base : Nat) (v : Value) (ss : List ByteArray) : Prop := OwnR w base 1 9 v (ss.map sv)
theorem OwnS.strs {w : World} {base : Nat} {v : Value} {ss : List ByteArray} (h : OwnS w base v ss) : ∃ A c, v = .slice A ss.length c ∧ Strs w A ss.length ss := by
  obtain ⟨A, c, hv, hr⟩ := OwnR.rws h
  rw [List.length_map] at hv hr
  exact ⟨A, c, hv, hr⟩
theorem OwnS.keep {w w' : World} {base : Nat} {v : Value} {ss : List ByteArray} (h : OwnS w base v ss) (hb : Below w.heap.size w w') : OwnS w' base v ss := OwnR.keep h hb
theorem str_info : (Tryd.prog.info? 9).map (fun i => (i.zero, i.size, i.bytes)) = some (some (.string ByteArray.empty), 1, 16) := by kernel_rfl

theorem Strs.block {w : World} {g : Nat} {ss : List ByteArray} {t : TypeId} {fr : Nat × Nat} (h : w.heap[g]? = some (.cells (ss.flatMap sv).toArray t fr)) (hlt : g < w.heap.size) : Strs w (some ⟨g, 0, none⟩) ss.length ss := by
  have := Rws.block (w := w) (zs := ss.map sv) (k := 1) (by intro z hz; obtain ⟨e, _, rfl⟩ := List.mem_map.1 hz; rfl) (by rw [← List.flatMap_def]; exact h) hlt
  simpa [Strs] using this

def has (ss : List ByteArray) (s : ByteArray) : Bool := ss.any (· == s)
def first (ss ts : List ByteArray) : Option ByteArray := ss.find? (has ts)
end Go.Proofs.YtbeanjaenmpoeaaDoor
