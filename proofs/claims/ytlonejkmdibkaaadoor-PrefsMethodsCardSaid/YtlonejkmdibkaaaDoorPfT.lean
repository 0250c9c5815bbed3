/- The walk of PrefsMethods. -/
import Derived.Test.YtlonejkmdibkaaaDoorPfS
import Derived.Test.YtlonejkmdibkaaaDoorPfE
namespace Go.Proofs.YtlonejkmdibkaaaDoor
open Go.RowKit

/-- Two lists of the same names: they are. -/
theorem same_one (l : List ByteArray) (A B : Option Addr) (n c m d : Nat) (w : World) (hn : n ≤ 9223372036854775807) (hm : m ≤ 9223372036854775807) (H : Strs w A n l) (K : Strs w B m l) :
    Calls Tryd.prog 28 #[.slice A n c, .slice B m d] w fun r w' => r = .returned (.bool true) ∧ Below w.heap.size w w' := by
  have h := same_any l l A B n c m d w hn hm H K
  rw [decide_eq_true rfl] at h
  refine h.mono ?_
  rintro r w' ⟨rfl, q, rfl⟩
  exact ⟨rfl, drewN_below q⟩
theorem nameAt_none {m : Int} (h : m < 1 ∨ 3 < m) : nameAt m = ⟨#[]⟩ := by
  unfold nameAt
  split
  · have : m = 0 := by omega
    subst this; rfl
  · rfl
theorem names_cells (w : World) : (w.alloc (.cells #[.string ⟨#[99, 117, 114, 118, 101, 50, 53, 53, 49, 57, 45, 115, 104, 97, 50, 53, 54]⟩, .string ⟨#[101, 99, 100, 104, 45, 115, 104, 97, 50, 45, 110, 105, 115, 116, 112, 50, 53, 54]⟩, .string ⟨#[100, 105, 102, 102, 105, 101, 45, 104, 101, 108, 108, 109, 97, 110, 45, 103, 114, 111, 117, 112, 45, 101, 120, 99, 104, 97, 110, 103, 101, 45, 115, 104, 97, 50, 53, 54]⟩] 9)).cell? ⟨w.heap.size, 0, none⟩ = some (.string ⟨#[99, 117, 114, 118, 101, 50, 53, 53, 49, 57, 45, 115, 104, 97, 50, 53, 54]⟩) ∧ (w.alloc (.cells #[.string ⟨#[99, 117, 114, 118, 101, 50, 53, 53, 49, 57, 45, 115, 104, 97, 50, 53, 54]⟩, .string ⟨#[101, 99, 100, 104, 45, 115, 104, 97, 50, 45, 110, 105, 115, 116, 112, 50, 53, 54]⟩, .string ⟨#[100, 105, 102, 102, 105, 101, 45, 104, 101, 108, 108, 109, 97, 110, 45, 103, 114, 111, 117, 112, 45, 101, 120, 99, 104, 97, 110, 103, 101, 45, 115, 104, 97, 50, 53, 54]⟩] 9)).cell? ⟨w.heap.size, 1, none⟩ = some (.string ⟨#[101, 99, 100, 104, 45, 115, 104, 97, 50, 45, 110, 105, 115, 116, 112, 50, 53, 54]⟩) ∧ (w.alloc (.cells #[.string ⟨#[99, 117, 114, 118, 101, 50, 53, 53, 49, 57, 45, 115, 104, 97, 50, 53, 54]⟩, .string ⟨#[101, 99, 100, 104, 45, 115, 104, 97, 50, 45, 110, 105, 115, 116, 112, 50, 53, 54]⟩, .string ⟨#[100, 105, 102, 102, 105, 101, 45, 104, 101, 108, 108, 109, 97, 110, 45, 103, 114, 111, 117, 112, 45, 101, 120, 99, 104, 97, 110, 103, 101, 45, 115, 104, 97, 50, 53, 54]⟩] 9)).cell? ⟨w.heap.size, 2, none⟩ = some (.string ⟨#[100, 105, 102, 102, 105, 101, 45, 104, 101, 108, 108, 109, 97, 110, 45, 103, 114, 111, 117, 112, 45, 101, 120, 99, 104, 97, 110, 103, 101, 45, 115, 104, 97, 50, 53, 54]⟩) :=
  ⟨cell_of_row _ _ 0 _ _ _ (heap_new w _), cell_of_row _ _ 1 _ _ _ (heap_new w _), cell_of_row _ _ 2 _ _ _ (heap_new w _)⟩
theorem lits (l : List ByteArray) (w : World) (hl : l.length ≤ 1000) : Strs (w.alloc (.cells (l.map Value.string).toArray 9)) (some ⟨w.heap.size, 0, none⟩) l.length l := by
  have := StrF.block (l := l) (base := 0) (heap_new w (.cells (l.map Value.string).toArray 9)) (by omega) (Nat.zero_le _)
  obtain ⟨A, n, c, e, _, _, h, _⟩ := this
  injection e with e1 e2 e3
  subst e1 e2 e3
  exact h
theorem pf_parts {w : World} {V : List Value} (h : Pf w V plainL) : ∃ A0 n0 c0 A1 n1 c1 A2 n2 c2 A3 n3 c3 A4 n4 c4 A5 n5 c5 A6 n6 c6 A7 n7 c7, V = [.slice A0 n0 c0, .slice A1 n1 c1, .slice A2 n2 c2, .slice A3 n3 c3, .slice A4 n4 c4, .slice A5 n5 c5, .slice A6 n6 c6, .slice A7 n7 c7] ∧ (n0 ≤ 9223372036854775807 ∧ n1 ≤ 9223372036854775807 ∧ n2 ≤ 9223372036854775807 ∧ n3 ≤ 9223372036854775807 ∧ n4 ≤ 9223372036854775807 ∧ n5 ≤ 9223372036854775807 ∧ n6 ≤ 9223372036854775807 ∧ n7 ≤ 9223372036854775807) ∧ ∀ W, Below w.heap.size w W → Strs W A0 n0 methL ∧ Strs W A1 n1 hostL ∧ Strs W A2 n2 encL ∧ Strs W A3 n3 encL ∧ Strs W A4 n4 macL ∧ Strs W A5 n5 macL ∧ Strs W A6 n6 nonL ∧ Strs W A7 n7 nonL := by
  have h8 := h.v8
  match V, h8, h with
  | [v0, v1, v2, v3, v4, v5, v6, v7], _, h =>
    obtain ⟨A0, n0, c0, l0, e0, f0, p0, q0, S0⟩ := h.get (i := 0) (by decide)
    simp only [List.getElem?_cons_zero, List.getElem?_cons_succ, Option.some.injEq] at e0
    subst e0
    injection f0 with f0
    subst f0
    obtain ⟨A1, n1, c1, l1, e1, f1, p1, q1, S1⟩ := h.get (i := 1) (by decide)
    simp only [List.getElem?_cons_zero, List.getElem?_cons_succ, Option.some.injEq] at e1
    subst e1
    injection f1 with f1
    subst f1
    obtain ⟨A2, n2, c2, l2, e2, f2, p2, q2, S2⟩ := h.get (i := 2) (by decide)
    simp only [List.getElem?_cons_zero, List.getElem?_cons_succ, Option.some.injEq] at e2
    subst e2
    injection f2 with f2
    subst f2
    obtain ⟨A3, n3, c3, l3, e3, f3, p3, q3, S3⟩ := h.get (i := 3) (by decide)
    simp only [List.getElem?_cons_zero, List.getElem?_cons_succ, Option.some.injEq] at e3
    subst e3
    injection f3 with f3
    subst f3
    obtain ⟨A4, n4, c4, l4, e4, f4, p4, q4, S4⟩ := h.get (i := 4) (by decide)
    simp only [List.getElem?_cons_zero, List.getElem?_cons_succ, Option.some.injEq] at e4
    subst e4
    injection f4 with f4
    subst f4
    obtain ⟨A5, n5, c5, l5, e5, f5, p5, q5, S5⟩ := h.get (i := 5) (by decide)
    simp only [List.getElem?_cons_zero, List.getElem?_cons_succ, Option.some.injEq] at e5
    subst e5
    injection f5 with f5
    subst f5
    obtain ⟨A6, n6, c6, l6, e6, f6, p6, q6, S6⟩ := h.get (i := 6) (by decide)
    simp only [List.getElem?_cons_zero, List.getElem?_cons_succ, Option.some.injEq] at e6
    subst e6
    injection f6 with f6
    subst f6
    obtain ⟨A7, n7, c7, l7, e7, f7, p7, q7, S7⟩ := h.get (i := 7) (by decide)
    simp only [List.getElem?_cons_zero, List.getElem?_cons_succ, Option.some.injEq] at e7
    subst e7
    injection f7 with f7
    subst f7
    exact ⟨A0, n0, c0, A1, n1, c1, A2, n2, c2, A3, n3, c3, A4, n4, c4, A5, n5, c5, A6, n6, c6, A7, n7, c7, rfl, ⟨by omega, by omega, by omega, by omega, by omega, by omega, by omega, by omega⟩, fun W hb => ⟨S0.keep hb, S1.keep hb, S2.keep hb, S3.keep hb, S4.keep hb, S5.keep hb, S6.keep hb, S7.keep hb⟩⟩
theorem pf_cells {w W : World} {g : Nat} {A0 A1 A2 A3 A4 A5 A6 A7 : Option Addr} {n0 c0 n1 c1 n2 c2 n3 c3 n4 c4 n5 c5 n6 c6 n7 c7 : Nat} {t : TypeId} (hg : w.heap[g]? = some (.cells #[.slice A0 n0 c0, .slice A1 n1 c1, .slice A2 n2 c2, .slice A3 n3 c3, .slice A4 n4 c4, .slice A5 n5 c5, .slice A6 n6 c6, .slice A7 n7 c7] t (0, 0))) (hb : Below w.heap.size w W) : W.cell? ⟨g, 0, none⟩ = some (.slice A0 n0 c0) ∧ W.cell? ⟨g, 1, none⟩ = some (.slice A1 n1 c1) ∧ W.cell? ⟨g, 2, none⟩ = some (.slice A2 n2 c2) ∧ W.cell? ⟨g, 3, none⟩ = some (.slice A3 n3 c3) ∧ W.cell? ⟨g, 4, none⟩ = some (.slice A4 n4 c4) ∧ W.cell? ⟨g, 5, none⟩ = some (.slice A5 n5 c5) ∧ W.cell? ⟨g, 6, none⟩ = some (.slice A6 n6 c6) ∧ W.cell? ⟨g, 7, none⟩ = some (.slice A7 n7 c7) := by
  have hlt := (Array.getElem?_eq_some_iff.1 hg).1
  exact ⟨(hb.cell (p := ⟨g, 0, none⟩) hlt).trans (cell_of_row _ _ 0 _ _ _ hg), (hb.cell (p := ⟨g, 1, none⟩) hlt).trans (cell_of_row _ _ 1 _ _ _ hg), (hb.cell (p := ⟨g, 2, none⟩) hlt).trans (cell_of_row _ _ 2 _ _ _ hg), (hb.cell (p := ⟨g, 3, none⟩) hlt).trans (cell_of_row _ _ 3 _ _ _ hg), (hb.cell (p := ⟨g, 4, none⟩) hlt).trans (cell_of_row _ _ 4 _ _ _ hg), (hb.cell (p := ⟨g, 5, none⟩) hlt).trans (cell_of_row _ _ 5 _ _ _ hg), (hb.cell (p := ⟨g, 6, none⟩) hlt).trans (cell_of_row _ _ 6 _ _ _ hg), (hb.cell (p := ⟨g, 7, none⟩) hlt).trans (cell_of_row _ _ 7 _ _ _ hg)⟩
end Go.Proofs.YtlonejkmdibkaaaDoor
