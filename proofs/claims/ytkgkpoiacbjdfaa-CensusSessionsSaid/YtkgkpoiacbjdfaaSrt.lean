/- Sorting a slice of numbers of the call's own. -/
import Derived.Test.YtkgkpoiacbjdfaaInt
import Derived.Test.YtkgkpoiacbjdfaaShelf
import Derived.Sort.OwnSortedInts
namespace Go.Proofs.Ytkgkpoiacbjdfaa
open Go.RowKit Go.Sort

def srt (l : List Int) : List Int := l.mergeSort fun x y => decide (x ≤ y)
theorem iv_flat (xs : List Int) : (xs.map iv).flatten = xs.map (Value.int .i64) := by
  induction xs with
  | nil => rfl
  | cons x r ih => simp only [List.map_cons, List.flatten_cons, ih]; rfl
theorem OwnI.of_row {w : World} {base : Nat} {v : Value} {xs : List Int} (h : w.ownsRow base 3 1 v xs.length (xs.map (Value.int .i64))) : OwnI w base v xs := by
  refine ⟨?_, ?_⟩
  · rw [List.length_map, iv_flat]; exact h
  · intro z hz
    rw [List.mem_map] at hz
    obtain ⟨x, _, rfl⟩ := hz
    rfl
theorem OwnI.row {w : World} {base : Nat} {v : Value} {xs : List Int} (h : OwnI w base v xs) : w.ownsRow base 3 1 v xs.length (xs.map (Value.int .i64)) := by
  have := h.1
  rwa [List.length_map, iv_flat] at this
theorem sortI_any (xs : List Int) (base : Nat) (v : Value) (w : World) (H : OwnI w base v xs) (hl : xs.length ≤ 1000000) :
    Calls Try.prog 33 #[v] w fun r w' => r = .returned (.tuple #[]) ∧ OwnI w' base v (srt xs) ∧ w.grownBy w' v.ownBlock := by
  have hr := H.row
  rcases hr.2 with ⟨rfl, h0⟩ | ⟨g, cap, cur, rfl, hbase, hb, h1, h2, h3, h4⟩
  · obtain rfl := List.eq_nil_of_length_eq_zero h0
    refine (Try.slices_Sort_int_none none 0 w).mono ?_
    rintro r w' ⟨rfl, rfl⟩
    exact ⟨rfl, (by simpa [srt] using H), ⟨rfl, rfl, rfl, Nat.le_refl _, fun _ _ _ => rfl⟩⟩
  · have hH := holds_of_blockI (ss := xs) hb (by simpa using h4)
    refine (Try.slices_Sort_int g 0 cap xs w hH (Array.getElem?_eq_some_iff.1 hb).1 (by omega)).mono ?_
    rintro r w' ⟨rfl, nn, os, rfl⟩
    refine ⟨rfl, ?_, grownBy_sortedI _⟩
    have hsl : (srt xs).length = xs.length := (List.mergeSort_perm xs _).length_eq
    refine OwnI.of_row ?_
    have := ownsRow_sortedI (w := w) (base := base) (g := g) (cap := cap) (n := nn) (e := 3) (os := os) (cur := cur) (ss := xs) (ts := srt xs) hsl hbase hb h1 h2 h3
    rw [hsl]
    exact this
theorem contains_eq (xs : List Int) (x : Int) : xs.contains x = decide (x ∈ xs) := by simp
theorem containsI_any (xs : List Int) (base : Nat) (v : Value) (x : Int) (w : World) (H : OwnI w base v xs) (hl : xs.length ≤ 1000000) :
    Calls Try.prog 32 #[v, .int .i64 x] w fun r w' => r = .returned (.bool (xs.contains x)) ∧ w = w' := by
  obtain ⟨A, c, rfl, hI⟩ := H.ints
  cases xs with
  | nil =>
    refine (Try.slices_Contains_int_empty A c x w).mono ?_
    rintro r w' ⟨rfl, rfl⟩
    exact ⟨rfl, rfl⟩
  | cons y ys =>
    obtain ⟨b, off, z, rfl, hlt, hz, hc⟩ := hI.at_ (show 0 < (y :: ys).length by simp)
    refine (Try.slices_Contains_int b off (y :: ys).length c (y :: ys) x w (Nat.le_refl _) (by omega) ?_).mono ?_
    · intro j hj
      obtain ⟨b', off', z', e, _, hz', hc'⟩ := hI.at_ hj
      simp only [Option.some.injEq, Addr.mk.injEq] at e
      obtain ⟨rfl, rfl, _⟩ := e
      rw [hc', List.getD_eq_getElem?_getD, hz']
      rfl
    · rintro r w' ⟨rfl, rfl⟩
      exact ⟨by rw [List.take_of_length_le (Nat.le_refl _)], rfl⟩
end Go.Proofs.Ytkgkpoiacbjdfaa
