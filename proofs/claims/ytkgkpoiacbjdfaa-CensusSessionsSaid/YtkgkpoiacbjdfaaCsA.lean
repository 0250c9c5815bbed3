/- Census: sessions, the busiest one, the lost ones: plainly; Compact. -/
import Derived.Test.YtkgkpoiacbjdfaaTpC
import Derived.Test.YtkgkpoiacbjdfaaStr
import Derived.Lib.SlicesCompact
namespace Go.Proofs.Ytkgkpoiacbjdfaa
open Go.RowKit Go.Sort

theorem compact_mem {zs : List Int} {x : Int} : x ∈ Lib.compact zs ↔ x ∈ zs := by
  unfold Lib.compact Lib.compactUpTo
  rw [List.mem_map]
  constructor
  · rintro ⟨j, hj, rfl⟩
    rw [List.mem_filter, List.mem_range] at hj
    rw [show zs.toArray[j]! = zs[j]! from by simp, List.getElem!_eq_getElem?_getD, List.getElem?_eq_getElem hj.1]
    exact List.getElem_mem hj.1
  · intro h
    obtain ⟨j, hj, hx, hmin⟩ : ∃ j, j < zs.length ∧ zs.getD j 0 = x ∧ ∀ i, i < j → zs.getD i 0 ≠ x := by
      obtain ⟨i, hi, he⟩ := List.getElem_of_mem h
      have : zs.getD i 0 = x := by rw [List.getD_eq_getElem?_getD, List.getElem?_eq_getElem hi]; exact he
      clear he h
      induction i using Nat.strongRecOn with
      | _ i ih =>
        by_cases hm : ∀ k, k < i → zs.getD k 0 ≠ x
        · exact ⟨i, hi, this, hm⟩
        · simp only [Classical.not_forall, Classical.not_not] at hm
          obtain ⟨k, hk, hkx⟩ := hm
          exact ih k hk (by omega) hkx
    refine ⟨j, ?_, ?_⟩
    · rw [List.mem_filter, List.mem_range]
      refine ⟨hj, ?_⟩
      cases j with
      | zero => exact Lib.keeps_lt_one _ 0 (by omega)
      | succ j =>
        apply Lib.keeps_pos
        rw [show zs.toArray[j + 1]! = zs[j + 1]! from by simp, show zs.toArray[j + 1 - 1]! = zs[j]! from by simp]
        rw [List.getElem!_eq_getElem?_getD, List.getElem!_eq_getElem?_getD]
        have h1 := hmin j (by omega)
        rw [List.getD_eq_getElem?_getD] at h1 hx
        intro e
        exact h1 (e.symm.trans hx)
    · rw [show zs.toArray[j]! = zs[j]! from by simp, List.getElem!_eq_getElem?_getD]
      rw [List.getD_eq_getElem?_getD] at hx
      exact hx
theorem compact_len (zs : List Int) : (Lib.compact zs).length ≤ zs.length := by
  unfold Lib.compact Lib.compactUpTo
  rw [List.length_map]
  exact Nat.le_trans (List.length_filter_le _ _) (by simp)
theorem compact_rises {zs : List Int} (h : zs.Pairwise fun x y => x ≤ y) : (Lib.compact zs).Pairwise fun x y => x < y := by
  unfold Lib.compact Lib.compactUpTo
  rw [List.pairwise_map, List.pairwise_filter]
  have hr : (List.range zs.length).Pairwise (fun a b => a < b ∧ b < zs.length) := by
    have h1 := List.pairwise_lt_range (n := zs.length)
    rw [List.pairwise_iff_getElem] at h1 ⊢
    intro i j hi hj hij
    refine ⟨h1 i j hi hj hij, ?_⟩
    rw [List.getElem_range]
    simpa using hj
  refine hr.imp ?_
  rintro a b ⟨hab, hb⟩ _ hkb
  rw [List.pairwise_iff_getElem] at h
  have e1 : ∀ i (hi : i < zs.length), zs.toArray[i]! = zs[i] := fun i hi => by simp [hi]
  rw [e1 a (by omega), e1 b hb]
  have hab1 : zs[a] ≤ zs[b - 1] := by
    by_cases e : a = b - 1
    · subst e; exact Int.le_refl _
    · exact h a (b - 1) (by omega) (by omega) (by omega)
  have hb1 : zs[b - 1] ≤ zs[b] := h (b - 1) b (by omega) hb (by omega)
  have hne : zs[b - 1] ≠ zs[b] := fun e => by
    have := Lib.keeps_neg (d := zs.toArray) (m := b) (by omega) (by rw [e1 b hb, e1 (b - 1) (by omega)]; exact e.symm)
    rw [this] at hkb
    cases hkb
  omega
def nubs (l : List Int) : List Int := Lib.compact (srt l)
theorem nubs_mem {l : List Int} {x : Int} : x ∈ nubs l ↔ x ∈ l := by unfold nubs; rw [compact_mem, srt_mem]
theorem nubs_len (l : List Int) : (nubs l).length ≤ l.length := by unfold nubs; have := compact_len (srt l); rw [srt_len] at this; exact this
theorem nubs_pair (l : List Int) : (nubs l).Pairwise fun x y => x < y := compact_rises (srt_pair l)
theorem nubs_rises (l : List Int) : rises (nubs l) = true := rises_of (nubs_pair l)
theorem hasI_nubs (l : List Int) (x : Int) : hasI (nubs l) x = decide (x ∈ l) := by rw [hasI_mem, Bool.eq_iff_iff]; simp [nubs_mem]

/-- Compact at a slice of the call's own. -/
theorem compactI_any (xs : List Int) (base : Nat) (v : Value) (w : World) (H : OwnI w base v xs) (hl : xs.length ≤ 1000000) :
    Calls Try.prog 36 #[v] w fun r w' => ∃ A m c, r = .returned (.slice A m c) ∧ m = (Lib.compact xs).length ∧ Ints w' A m (Lib.compact xs) ∧ w.grownBy w' v.ownBlock := by
  have hr := H.row
  rcases hr.2 with ⟨rfl, h0⟩ | ⟨g, cap, cur, rfl, hbase, hb, h1, h2, h3, h4⟩
  · obtain rfl := List.eq_nil_of_length_eq_zero h0
    refine (Try.slices_Compact_int_empty none 0 w).mono ?_
    rintro r w' ⟨rfl, rfl⟩
    exact ⟨_, _, _, rfl, rfl, Rws.nil_, ⟨rfl, rfl, rfl, Nat.le_refl _, fun _ _ _ => rfl⟩⟩
  · have hH := holds_of_blockI (ss := xs) hb (by simpa using h4)
    refine (Try.slices_Compact_int g 0 cap xs w hH (by omega) (by simpa using h1)).mono ?_
    rintro r w' ⟨rfl, q, hw'⟩
    have hcl := compact_len xs
    obtain ⟨ts, hts⟩ : ∃ ts : List Int, ts = Lib.compact xs ++ List.replicate (xs.length - (Lib.compact xs).length) (0 : Int) := ⟨_, rfl⟩
    rw [← hts] at hw'
    have hsl : ts.length = xs.length := by rw [hts]; simp; omega
    have htk : ts.take (Lib.compact xs).length = Lib.compact xs := by rw [hts, List.take_left]
    clear hts
    subst hw'
    have hg := grownBy_sortedI (w := w) (g := g) (n := q) (os := #[]) ts.toArray
    have hown := ownsRow_sortedI (w := w) (base := base) (g := g) (cap := cap) (n := q) (e := 3) (os := #[]) (cur := cur) (ss := xs) (ts := ts) hsl hbase hb h1 h2 h3
    rw [grow_empty] at hg hown
    rw [← hsl] at hown
    obtain ⟨A', c', e, hI⟩ := (OwnI.of_row hown).ints
    injection e with e1 e2 e3
    subst e1
    have hT := Rws.take_ (m := (Lib.compact xs).length) hI (by omega)
    rw [← List.map_take, htk] at hT
    exact ⟨_, _, _, rfl, rfl, hT, hg⟩

/-! What is counted. -/
def notTaken (e : Ev) : Bool := e.kind != 7
def sesTo (es : List Ev) (k : Nat) : List Int := ((es.take k).filter notTaken).map Ev.ses
theorem sesTo_succ {es : List Ev} {k : Nat} {e : Ev} (h : es[k]? = some e) : sesTo es (k + 1) = sesTo es k ++ (if notTaken e then [e.ses] else []) := by
  unfold sesTo
  rw [take_succ_of h, List.filter_append, List.map_append]
  congr 1
  by_cases hq : notTaken e = true <;> simp [hq]
theorem sesTo_len (es : List Ev) (k : Nat) : (sesTo es k).length ≤ k := by
  unfold sesTo
  rw [List.length_map]
  exact Nat.le_trans (List.length_filter_le _ _) (by simp; omega)
def isEv (s : Int) (e : Ev) : Bool := e.kind != 7 && e.ses == s
def evN (es : List Ev) (s : Int) : Nat := es.countP (isEv s)
theorem ev_take_succ {es : List Ev} {k : Nat} {e : Ev} (s : Int) (h : es[k]? = some e) : (es.take (k + 1)).countP (isEv s) = (es.take k).countP (isEv s) + (if isEv s e then 1 else 0) := by
  rw [take_succ_of h, List.countP_append]; simp [List.countP_cons]
theorem sesTo_mem {es : List Ev} {s : Int} {k : Nat} (h : es.length ≤ k) : s ∈ sesTo es k ↔ 0 < evN es s := by
  unfold sesTo evN
  rw [List.take_of_length_le h, List.mem_map, List.countP_pos_iff]
  constructor
  · rintro ⟨e, he, rfl⟩
    rw [List.mem_filter] at he
    exact ⟨e, he.1, by unfold isEv; rw [show (e.kind != 7) = true from he.2]; simp⟩
  · rintro ⟨e, he, hq⟩
    unfold isEv at hq
    rw [Bool.and_eq_true, beq_iff_eq] at hq
    exact ⟨e, List.mem_filter.2 ⟨he, hq.1⟩, hq.2⟩
/-- The busiest of the first k sessions of a list: it, and how many events it has. -/
def busyTo (es : List Ev) (S : List Int) : Nat → Int × Nat
  | 0 => (0, 0)
  | k + 1 => match S[k]? with
    | none => busyTo es S k
    | some s => if (busyTo es S k).2 < evN es s then (s, evN es s) else busyTo es S k
theorem busyTo_step {es : List Ev} {S : List Int} {k : Nat} {s : Int} (h : S[k]? = some s) : busyTo es S (k + 1) = if (busyTo es S k).2 < evN es s then (s, evN es s) else busyTo es S k := by rw [busyTo, h]
structure BusyOk (es : List Ev) (S : List Int) (k : Nat) (b : Int × Nat) : Prop where
  zero : b.2 = 0 → b.1 = 0
  pos : 0 < b.2 → b.1 ∈ S.take k ∧ evN es b.1 = b.2
  most : ∀ s ∈ S.take k, evN es s ≤ b.2
  least : ∀ s ∈ S.take k, evN es s = b.2 → 0 < b.2 → b.1 ≤ s
theorem busy_ok {es : List Ev} {S : List Int} (hS : S.Pairwise fun x y => x < y) : ∀ k, k ≤ S.length → BusyOk es S k (busyTo es S k)
  | 0, _ => ⟨fun _ => rfl, fun h => absurd h (by simp [busyTo]), by simp, by simp⟩
  | k + 1, hk => by
    have ih := busy_ok (es := es) hS k (by omega)
    have hs : S[k]? = some S[k] := List.getElem?_eq_getElem (by omega)
    rw [busyTo_step hs]
    have ht := take_succ_of hs
    split
    · rename_i hlt
      refine ⟨fun h => by simp only at h; omega, fun _ => ⟨by rw [ht]; exact List.mem_append_right _ (List.mem_singleton.2 rfl), rfl⟩, fun s h => ?_, fun s h he _ => ?_⟩
      · rw [ht, List.mem_append, List.mem_singleton] at h
        rcases h with h | rfl
        · have := ih.most s h; simp only; omega
        · exact Nat.le_refl _
      · rw [ht, List.mem_append, List.mem_singleton] at h
        rcases h with h | rfl
        · have := ih.most s h
          simp only at he
          omega
        · exact Int.le_refl _
    · rename_i hlt
      refine ⟨ih.zero, fun h => ⟨by rw [ht]; exact List.mem_append_left _ (ih.pos h).1, (ih.pos h).2⟩, fun s h => ?_, fun s h he h0 => ?_⟩
      · rw [ht, List.mem_append, List.mem_singleton] at h
        rcases h with h | rfl
        · exact ih.most s h
        · omega
      · rw [ht, List.mem_append, List.mem_singleton] at h
        rcases h with h | rfl
        · exact ih.least s h he h0
        · have hm := (ih.pos h0).1
          obtain ⟨i, hi, e⟩ := List.getElem_of_mem hm
          rw [List.getElem_take] at e
          rw [List.length_take] at hi
          rw [List.pairwise_iff_getElem] at hS
          have := hS i k (by omega) (by omega) (by omega)
          omega
/-- Sessions that ended ahead of an exchange's end. -/
def isLost (es : List Ev) (i : Nat) (e : Ev) : Bool := e.kind == 6 && (keysTo es e.ses i).length == 0
def lostTo (es : List Ev) : Nat → List Int
  | 0 => []
  | k + 1 => match es[k]? with
    | none => lostTo es k
    | some e => if isLost es k e then lostTo es k ++ [e.ses] else lostTo es k
theorem lostTo_step {es : List Ev} {k : Nat} {e : Ev} (h : es[k]? = some e) : lostTo es (k + 1) = if isLost es k e then lostTo es k ++ [e.ses] else lostTo es k := by rw [lostTo, h]
theorem lostTo_len (es : List Ev) : ∀ k, (lostTo es k).length ≤ k
  | 0 => by simp [lostTo]
  | k + 1 => by
    have := lostTo_len es k
    rw [lostTo]
    split
    · omega
    · split <;> simp <;> omega
def marks (s : Int) (e : Ev) : Bool := e.ses == s && (exch e || e.kind == 6)
def lostR (es : List Ev) (s : Int) : Bool := match es.find? (marks s) with
  | some e => e.kind == 6
  | none => false
theorem lostTo_mem {es : List Ev} {s : Int} : ∀ k, s ∈ lostTo es k ↔ ∃ i e, i < k ∧ es[i]? = some e ∧ e.ses = s ∧ isLost es i e = true
  | 0 => by simp [lostTo]
  | k + 1 => by
    have ih := lostTo_mem (es := es) (s := s) k
    cases hk : es[k]? with
    | none =>
      rw [lostTo, hk]
      rw [ih]
      constructor
      · rintro ⟨i, e, hi, h⟩; exact ⟨i, e, by omega, h⟩
      · rintro ⟨i, e, hi, h1, h2⟩
        refine ⟨i, e, ?_, h1, h2⟩
        have := (List.getElem?_eq_some_iff.1 h1).1
        have := List.getElem?_eq_none_iff.1 hk
        omega
    | some e0 =>
      rw [lostTo_step hk]
      constructor
      · intro h
        split at h
        · rename_i hq
          rcases List.mem_append.1 h with h | h
          · obtain ⟨i, e, hi, h⟩ := ih.1 h
            exact ⟨i, e, by omega, h⟩
          · simp only [List.mem_singleton] at h
            exact ⟨k, e0, by omega, hk, h.symm, hq⟩
        · obtain ⟨i, e, hi, h⟩ := ih.1 h
          exact ⟨i, e, by omega, h⟩
      · rintro ⟨i, e, hi, h1, h2, h3⟩
        by_cases e1 : i = k
        · subst e1
          rw [hk] at h1
          injection h1 with h1
          subst h1
          rw [if_pos h3, h2]
          simp
        · have := ih.2 ⟨i, e, by omega, h1, h2, h3⟩
          split
          · exact List.mem_append_left _ this
          · exact this
theorem lost_iff {es : List Ev} {s : Int} {k : Nat} (hk : es.length ≤ k) : decide (s ∈ lostTo es k) = lostR es s := by
  rw [Bool.eq_iff_iff, decide_eq_true_eq, lostTo_mem]
  unfold lostR
  constructor
  · rintro ⟨i, e, hi, h1, rfl, h3⟩
    unfold isLost at h3
    rw [Bool.and_eq_true] at h3
    have hl := (List.getElem?_eq_some_iff.1 h1).1
    have hnone : (es.take i).find? (fun x => x.ses == e.ses && exch x) = none := by
      rw [List.find?_eq_none]
      intro x hx hq
      have : (keysTo es e.ses i) = [] := List.eq_nil_of_length_eq_zero (by simpa using h3.2)
      unfold keysTo at this
      rw [List.map_eq_nil_iff, List.filter_eq_nil_iff] at this
      have := this x hx
      unfold isKey at this
      rw [Bool.and_eq_true] at hq
      rw [hq.2, hq.1] at this
      exact this rfl
    have hs : es = es.take i ++ e :: es.drop (i + 1) := by
      have e2 : es.drop i = es[i] :: es.drop (i + 1) := List.drop_eq_getElem_cons hl
      rw [(List.getElem?_eq_some_iff.1 h1).2] at e2
      rw [← e2, List.take_append_drop]
    cases hf : (es.take i).find? (marks e.ses) with
    | some x =>
      have hfx : es.find? (marks e.ses) = some x := by
        conv => lhs; rw [hs]
        rw [List.find?_append, hf]; rfl
      rw [hfx]
      have hm := List.find?_some hf
      unfold marks at hm
      rw [Bool.and_eq_true, Bool.or_eq_true] at hm
      rcases hm.2 with hm2 | hm2
      · rw [List.find?_eq_none] at hnone
        exact absurd (by rw [hm.1, hm2]; rfl) (hnone x (List.mem_of_find?_eq_some hf))
      · exact hm2
    | none =>
      have hfx : es.find? (marks e.ses) = some e := by
        conv => lhs; rw [hs]
        rw [List.find?_append, hf, List.find?_cons]
        rw [show marks e.ses e = true by unfold marks; rw [h3.1]; simp]
        rfl
      rw [hfx]
      exact h3.1
  · intro h
    rcases find_idx (marks s) es with ⟨_, hf⟩ | ⟨i, x, hi, hx, hf⟩
    · rw [hf] at h; cases h
    · rw [hf] at h
      have h : (x.kind == 6) = true := h
      have hm := List.find?_some hf
      have hl := (List.getElem?_eq_some_iff.1 hx).1
      have hes : x.ses = s := by unfold marks at hm; rw [Bool.and_eq_true, beq_iff_eq] at hm; exact hm.1
      refine ⟨i, x, by omega, hx, hes, ?_⟩
      unfold isLost
      rw [h, Bool.true_and, beq_iff_eq]
      unfold keysTo
      rw [List.length_map, List.length_eq_zero_iff, List.filter_eq_nil_iff]
      intro y hy hq
      have hm2 : marks s y = true := by
        unfold isKey at hq
        rw [Bool.and_eq_true] at hq
        unfold marks
        rw [hq.1, ← hes, hq.2]; rfl
      rcases idx_cases (marks s) es with ⟨h0, _⟩ | ⟨j, z, hj, _, _, hmj⟩
      · omega
      · rw [hi] at hj
        have hij : i = j := by omega
        subst hij
        rw [List.any_eq_false] at hmj
        exact hmj y hy hm2
end Go.Proofs.Ytkgkpoiacbjdfaa
