/- Prefs: the reference's Lists. -/
import Derived.Test.YtfoegpacjkcidaaDoorPfD
namespace Go.Proofs.YtfoegpacjkcidaaDoor
open Go.RowKit

/-- What Lists hands back: a slice of eight slices with these names; all that was there is as it was. -/
def Ls8 (w : World) (L : List (List ByteArray)) (r : Ending) (w' : World) : Prop := ∃ g U, r = .returned (.slice (some ⟨g, 0, none⟩) 8 8) ∧ Vls w' (some ⟨g, 0, none⟩) 8 U ∧ Pf w' U L ∧ w.heap.size ≤ g ∧ Below w.heap.size w w'
set_option maxRecDepth 100000 in
set_option maxHeartbeats 4000000 in
theorem refLists_eq (A0 A1 A2 A3 A4 A5 A6 A7 : Option Addr) (n0 c0 n1 c1 n2 c2 n3 c3 n4 c4 n5 c5 n6 c6 n7 c7 : Nat) (w : World) :
    Calls Tryd.prog 12 #[.agg #[.slice A0 n0 c0, .slice A1 n1 c1, .slice A2 n2 c2, .slice A3 n3 c3, .slice A4 n4 c4, .slice A5 n5 c5, .slice A6 n6 c6, .slice A7 n7 c7]] w fun r w' => r = .returned (.slice (some ⟨w.heap.size + 1, 0, none⟩) 8 8) ∧ w' = (w.alloc (.cells #[.slice A0 n0 c0, .slice A1 n1 c1, .slice A2 n2 c2, .slice A3 n3 c3, .slice A4 n4 c4, .slice A5 n5 c5, .slice A6 n6 c6, .slice A7 n7 c7] 24)).alloc (.cells #[.slice A0 n0 c0, .slice A1 n1 c1, .slice A2 n2 c2, .slice A3 n3 c3, .slice A4 n4 c4, .slice A5 n5 c5, .slice A6 n6 c6, .slice A7 n7 c7] 22) := by
  go_enter Tryd.func12, Tryd.ntmps12
  go_wp2
  go_ret
  exact ⟨rfl, rfl⟩
theorem refLists_any (V : List Value) (L : List (List ByteArray)) (w : World) (H : Pf w V L) :
    Calls Tryd.prog 12 #[.agg V.toArray] w (Ls8 w L) := by
  have h8 := H.v8
  match V, h8, H with
  | [v0, v1, v2, v3, v4, v5, v6, v7], _, H =>
    obtain ⟨A0, n0, c0, l0, e0, _⟩ := H.get (i := 0) (by decide)
    simp only [List.getElem?_cons_zero, List.getElem?_cons_succ, Option.some.injEq] at e0
    subst e0
    obtain ⟨A1, n1, c1, l1, e1, _⟩ := H.get (i := 1) (by decide)
    simp only [List.getElem?_cons_zero, List.getElem?_cons_succ, Option.some.injEq] at e1
    subst e1
    obtain ⟨A2, n2, c2, l2, e2, _⟩ := H.get (i := 2) (by decide)
    simp only [List.getElem?_cons_zero, List.getElem?_cons_succ, Option.some.injEq] at e2
    subst e2
    obtain ⟨A3, n3, c3, l3, e3, _⟩ := H.get (i := 3) (by decide)
    simp only [List.getElem?_cons_zero, List.getElem?_cons_succ, Option.some.injEq] at e3
    subst e3
    obtain ⟨A4, n4, c4, l4, e4, _⟩ := H.get (i := 4) (by decide)
    simp only [List.getElem?_cons_zero, List.getElem?_cons_succ, Option.some.injEq] at e4
    subst e4
    obtain ⟨A5, n5, c5, l5, e5, _⟩ := H.get (i := 5) (by decide)
    simp only [List.getElem?_cons_zero, List.getElem?_cons_succ, Option.some.injEq] at e5
    subst e5
    obtain ⟨A6, n6, c6, l6, e6, _⟩ := H.get (i := 6) (by decide)
    simp only [List.getElem?_cons_zero, List.getElem?_cons_succ, Option.some.injEq] at e6
    subst e6
    obtain ⟨A7, n7, c7, l7, e7, _⟩ := H.get (i := 7) (by decide)
    simp only [List.getElem?_cons_zero, List.getElem?_cons_succ, Option.some.injEq] at e7
    subst e7
    refine (refLists_eq A0 A1 A2 A3 A4 A5 A6 A7 n0 c0 n1 c1 n2 c2 n3 c3 n4 c4 n5 c5 n6 c6 n7 c7 w).mono ?_
    rintro r w' ⟨rfl, rfl⟩
    have hz : (w.alloc (.cells #[.slice A0 n0 c0, .slice A1 n1 c1, .slice A2 n2 c2, .slice A3 n3 c3, .slice A4 n4 c4, .slice A5 n5 c5, .slice A6 n6 c6, .slice A7 n7 c7] 24)).heap.size = w.heap.size + 1 := by simp
    have hb1 := below_got w (.cells #[.slice A0 n0 c0, .slice A1 n1 c1, .slice A2 n2 c2, .slice A3 n3 c3, .slice A4 n4 c4, .slice A5 n5 c5, .slice A6 n6 c6, .slice A7 n7 c7] 24)
    have hb2 := hb1.alloc hb1.size (.cells #[.slice A0 n0 c0, .slice A1 n1 c1, .slice A2 n2 c2, .slice A3 n3 c3, .slice A4 n4 c4, .slice A5 n5 c5, .slice A6 n6 c6, .slice A7 n7 c7] 22)
    have hg := heap_new (w.alloc (.cells #[.slice A0 n0 c0, .slice A1 n1 c1, .slice A2 n2 c2, .slice A3 n3 c3, .slice A4 n4 c4, .slice A5 n5 c5, .slice A6 n6 c6, .slice A7 n7 c7] 24)) (.cells #[.slice A0 n0 c0, .slice A1 n1 c1, .slice A2 n2 c2, .slice A3 n3 c3, .slice A4 n4 c4, .slice A5 n5 c5, .slice A6 n6 c6, .slice A7 n7 c7] 22)
    rw [hz] at hg
    exact ⟨w.heap.size + 1, [.slice A0 n0 c0, .slice A1 n1 c1, .slice A2 n2 c2, .slice A3 n3 c3, .slice A4 n4 c4, .slice A5 n5 c5, .slice A6 n6 c6, .slice A7 n7 c7], rfl, Vls.block (V := [.slice A0 n0 c0, .slice A1 n1 c1, .slice A2 n2 c2, .slice A3 n3 c3, .slice A4 n4 c4, .slice A5 n5 c5, .slice A6 n6 c6, .slice A7 n7 c7]) hg (Array.getElem?_eq_some_iff.1 hg).1, H.keep hb2, by omega, hb2⟩
end Go.Proofs.YtfoegpacjkcidaaDoor
