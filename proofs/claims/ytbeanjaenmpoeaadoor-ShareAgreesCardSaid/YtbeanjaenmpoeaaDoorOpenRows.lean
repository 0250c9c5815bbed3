/- A slice of flat structs that came in, opened: its rows. -/
import Derived.Test.YtbeanjaenmpoeaaDoorFlatW
namespace Go.Proofs.YtbeanjaenmpoeaaDoor
open Go.RowKit Go.ChangeShapes Go.WideShapes Go.Deep

section
variable {H : Type} {enc : TypeId × Value → H} {P : Program} {w : World} {base : Nat} {spare : Nat → Bool} {held : Bool}
theorem open_rows_w {t e : TypeId} {n : Nat} {ds : List TypeDesc} {fuel : Nat} {cs : List Value} {x : DataW H × List MemPlace} (ht : P.underlying t = some (.slice e)) (hfl : flatDesc P n e = some ds) (hcl : P.cellsOf e = ds.length) (hpos : 0 < ds.length)
    (h : DataW.trod enc P w base spare held fuel t cs = some x) :
    ∃ A len cap zs, cs = [.slice A len cap] ∧ len ≤ cap ∧ cap ≤ maxLen ∧ Rws w ds.length A len zs ∧ ∀ z ∈ zs, allOk ds z ∧ ∀ (i : Nat) (s : ByteArray), z[i]? = some (.string s) → s.size ∈ x.1.weights P t := by
  rcases open_slice ht h with ⟨h0, _⟩ | ⟨a, len, cap, m, k, D, Pl, hcs, hb, hl, hm, hmm, hx, hi⟩
  · exact ⟨none, 0, 0, [], h0, Nat.le_refl _, by decide, Rws.nil_, by simp⟩
  · have hrows : ∀ i, i < len → ∃ cs', w.cells? base (a.add (i * ds.length)) ds.length = some cs' ∧ (allOk ds cs' ∧ ∀ (i : Nat) (s : ByteArray), cs'[i]? = some (.string s) → s.size ∈ x.1.weights P t) := by
      intro i hil
      have him : i < m := by rw [hmm]; split <;> omega
      obtain ⟨cs', hc, htr⟩ := hi i him
      rw [hcl] at hc
      refine ⟨cs', hc, flat_trod n e ds _ _ _ hfl htr, fun q s hq => ?_⟩
      have hwt := flat_weights n e ds _ _ _ hfl htr q s hq
      rw [hx]
      simp only [DataW.weights, ht, List.mem_cons, List.mem_append]
      exact Or.inr (Or.inl (weightsAll_mem (j := i) (d := D i) (by rw [List.getElem?_map, List.getElem?_range hil]; rfl) _ hwt))
    rcases Nat.eq_zero_or_pos len with h0 | h0
    · subst h0
      exact ⟨some a, 0, cap, [], hcs, hl, hm, Rws.nil_, by simp⟩
    · -- the address is plain
      have hspot : a.spot = none := by
        obtain ⟨cs', hc, _⟩ := hrows 0 h0
        obtain ⟨_, hcl', hat⟩ := World.cells?_some hc
        have h1 := hat 0 hpos
        have h2 : ((a.add (0 * ds.length)).add 0) = a := by simp [Addr.add]
        rw [h2, List.getElem?_eq_getElem (by omega)] at h1
        unfold World.cell? at h1
        cases hs : a.spot with
        | none => rfl
        | some s =>
          simp only [hs, Option.isSome_some, if_true] at h1
          split at h1 <;> cases h1
      obtain ⟨b, off, sp⟩ := a
      subst hspot
      have hz : ∃ zs : List (List Value), zs.length = len ∧ ∀ j z, zs[j]? = some z → w.cells? base ((⟨b, off, none⟩ : Addr).add (j * ds.length)) ds.length = some z ∧ (allOk ds z ∧ ∀ (i : Nat) (s : ByteArray), z[i]? = some (.string s) → s.size ∈ x.1.weights P t) := by
        clear hcs hl hmm hi h0 h
        have : ∀ l, l ≤ len → ∃ zs : List (List Value), zs.length = l ∧ ∀ j z, zs[j]? = some z → w.cells? base ((⟨b, off, none⟩ : Addr).add (j * ds.length)) ds.length = some z ∧ (allOk ds z ∧ ∀ (i : Nat) (s : ByteArray), z[i]? = some (.string s) → s.size ∈ x.1.weights P t) := by
          intro l
          induction l with
          | zero => intro _; exact ⟨[], rfl, by simp⟩
          | succ l ih =>
            intro hl
            obtain ⟨zs, hlz, hzz⟩ := ih (by omega)
            obtain ⟨c, hc, hok⟩ := hrows l (by omega)
            refine ⟨zs ++ [c], by simp [hlz], fun j z hj => ?_⟩
            by_cases hjl : j < zs.length
            · rw [List.getElem?_append_left hjl] at hj
              exact hzz j z hj
            · rw [List.getElem?_append_right (by omega)] at hj
              have : j = l := by
                have := (List.getElem?_eq_some_iff.1 hj).1
                simp at this
                omega
              subst this
              rw [hlz, Nat.sub_self] at hj
              simp only [List.getElem?_cons_zero, Option.some.injEq] at hj
              subst hj
              exact ⟨hc, hok⟩
        exact this len (Nat.le_refl _)
      obtain ⟨zs, hzl, hzz⟩ := hz
      have hblt : b < w.heap.size := by
        obtain ⟨cs', hc, _⟩ := hrows 0 h0
        obtain ⟨_, hcl', hat⟩ := World.cells?_some hc
        have h1 := hat 0 hpos
        have h2 : (((⟨b, off, none⟩ : Addr).add (0 * ds.length)).add 0) = ⟨b, off, none⟩ := by simp [Addr.add]
        rw [h2, List.getElem?_eq_getElem (by omega)] at h1
        exact block_lt_of_cell h1
      refine ⟨some ⟨b, off, none⟩, len, cap, zs, hcs, hl, hm, ⟨hzl, fun z hz => ?_, fun _ => ⟨b, off, rfl, hblt, fun j z hj i v hv => ?_⟩⟩, fun z hz => ?_⟩
      · obtain ⟨j, hj, rfl⟩ := List.getElem_of_mem hz
        exact (hzz j _ (List.getElem?_eq_getElem hj)).2.1.1
      · obtain ⟨hc, hok⟩ := hzz j z hj
        obtain ⟨_, hcl', hat⟩ := World.cells?_some hc
        have hi' : i < ds.length := by have := (List.getElem?_eq_some_iff.1 hv).1; omega
        have := hat i hi'
        rw [Addr.add_mid, Addr.add_mid] at this
        rw [this, hv]
      · obtain ⟨j, hj, rfl⟩ := List.getElem_of_mem hz
        exact (hzz j _ (List.getElem?_eq_getElem hj)).2
theorem open_rows {t e : TypeId} {n : Nat} {ds : List TypeDesc} {fuel : Nat} {cs : List Value} {x : DataW H × List MemPlace} (ht : P.underlying t = some (.slice e)) (hfl : flatDesc P n e = some ds) (hcl : P.cellsOf e = ds.length) (hpos : 0 < ds.length)
    (h : DataW.trod enc P w base spare held fuel t cs = some x) :
    ∃ A len cap zs, cs = [.slice A len cap] ∧ len ≤ cap ∧ cap ≤ maxLen ∧ Rws w ds.length A len zs ∧ ∀ z ∈ zs, allOk ds z := by
  obtain ⟨A, len, cap, zs, h1, h2, h3, h4, h5⟩ := open_rows_w ht hfl hcl hpos h
  exact ⟨A, len, cap, zs, h1, h2, h3, h4, fun z hz => (h5 z hz).1⟩
end

end Go.Proofs.YtbeanjaenmpoeaaDoor
