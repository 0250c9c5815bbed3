/- The reach of the strings that lie in an argument of a flat type, or in a slice of such. -/
import Derived.Test.YtbeanjaenmpoeaaDoorFlat
import Derived.SizedLaws
namespace Go.Proofs.YtbeanjaenmpoeaaDoor
open Go.RowKit Go.ChangeShapes Go.WideShapes Go.Deep

theorem weightsAll_mem {H : Type} {P : Program} {e : TypeId} : ∀ {ds : List (DataW H)} {j : Nat} {d : DataW H}, ds[j]? = some d → ∀ n ∈ d.weights P e, n ∈ DataW.weightsAll P e ds
  | d0 :: ds, 0, d, hd, n, hn => by
    simp only [List.getElem?_cons_zero, Option.some.injEq] at hd
    subst hd
    simp only [DataW.weightsAll, List.mem_append]
    exact Or.inl hn
  | d0 :: ds, j + 1, d, hd, n, hn => by
    simp only [List.getElem?_cons_succ] at hd
    simp only [DataW.weightsAll, List.mem_append]
    exact Or.inr (weightsAll_mem hd n hn)
  | [], _, _, hd, _, _ => by simp at hd

section
variable {H : Type} {enc : TypeId × Value → H} {P : Program} {w : World} {base : Nat} {spare : Nat → Bool} {held : Bool}
theorem flat_weights : ∀ (n : Nat) (t : TypeId) (ds : List TypeDesc) (fuel : Nat) (cs : List Value) (x : DataW H × List MemPlace), flatDesc P n t = some ds → DataW.trod enc P w base spare held fuel t cs = some x →
    ∀ (i : Nat) (s : ByteArray), cs[i]? = some (.string s) → s.size ∈ x.1.weights P t := by
  intro n
  induction n with
  | zero => intro t ds fuel cs x h; simp [flatDesc] at h
  | succ n ih =>
    intro t ds fuel cs x h ht i s hs
    have hall := flat_trod (n + 1) t ds fuel cs x h ht
    unfold flatDesc at h
    cases hu : P.underlying t with
    | none => simp [hu] at h
    | some d =>
      rw [hu] at h
      cases d with
      | int k =>
        obtain ⟨m, rfl, _, hw⟩ := DataW.trod_int hu ht
        match i with
        | 0 => simp at hs
        | i + 1 => simp at hs
      | bool =>
        obtain ⟨m, rfl, _⟩ := DataW.trod_bool hu ht
        match i with
        | 0 => simp at hs
        | i + 1 => simp at hs
      | string =>
        obtain ⟨m, rfl, hx, hw⟩ := DataW.trod_string hu ht
        match i with
        | 0 =>
          simp only [List.getElem?_cons_zero, Option.some.injEq, Value.string.injEq] at hs
          subst hs
          rw [hx]
          unfold DataW.weights
          rw [List.mem_singleton]
          exact Array.length_toList.symm
        | i + 1 => simp at hs
      | struct fs =>
        simp only [Option.bind_eq_bind, Option.bind_eq_some_iff] at h
        obtain ⟨ds0, h, hlast⟩ := h
        have hct : P.cellsOf t = ds0.length := by
          by_cases hc : P.cellsOf t = ds0.length
          · exact hc
          · rw [if_neg hc] at hlast; cases hlast
        obtain ⟨xs, m, _, hx, hl, hxl, hf⟩ := DataW.trod_struct hu ht
        have hW : x.1.weights P t = DataW.weightsEach P (fs.toList.map (·.type)) (xs.map (·.1)) := by rw [hx]; simp [DataW.weights, hu]
        rw [hW]
        have key : ∀ (l : List Field) (acc ds : List TypeDesc), (∀ f ∈ l, ∃ y, DataW.trod enc P w base spare held m f.type ((cs.drop f.offset).take (P.cellsOf f.type)) = some y ∧ ∀ q ∈ y.1.weights P f.type, q ∈ DataW.weightsEach P (fs.toList.map (·.type)) (xs.map (·.1))) →
            l.foldlM (fun (acc : List TypeDesc) f => if f.offset = acc.length then (flatDesc P n f.type).bind (fun l => if P.cellsOf f.type = l.length then some (acc ++ l) else none) else none) acc = some ds →
            (∀ (i : Nat) (s : ByteArray), i < acc.length → cs[i]? = some (.string s) → s.size ∈ DataW.weightsEach P (fs.toList.map (·.type)) (xs.map (·.1))) →
            ∀ (i : Nat) (s : ByteArray), i < ds.length → cs[i]? = some (.string s) → s.size ∈ DataW.weightsEach P (fs.toList.map (·.type)) (xs.map (·.1)) := by
          intro l
          induction l with
          | nil => intro acc ds _ h ha; simp at h; subst h; exact ha
          | cons f r ihl =>
            intro acc ds hall h ha
            rw [List.foldlM_cons] at h
            by_cases ho : f.offset = acc.length
            · rw [if_pos ho] at h
              cases hfd : flatDesc P n f.type with
              | none => simp [hfd] at h
              | some l0 =>
                rw [hfd] at h
                by_cases hc : P.cellsOf f.type = l0.length
                · simp only [Option.bind_some, if_pos hc, Option.bind_eq_bind] at h
                  obtain ⟨y, hy, hyw⟩ := hall f (by simp)
                  refine ihl _ _ (fun g hg => hall g (by simp [hg])) h (fun i s hi hv => ?_)
                  by_cases hia : i < acc.length
                  · exact ha i s hia hv
                  · rw [List.length_append] at hi
                    refine hyw _ (ih _ _ _ _ _ hfd hy (i - acc.length) s ?_)
                    rw [List.getElem?_take, if_pos (by omega), List.getElem?_drop, ho, show acc.length + (i - acc.length) = i by omega]
                    exact hv
                · simp only [Option.bind_some, if_neg hc] at h
                  simp at h
            · rw [if_neg ho] at h; simp at h
        have hall' : ∀ f ∈ fs.toList, ∃ y, DataW.trod enc P w base spare held m f.type ((cs.drop f.offset).take (P.cellsOf f.type)) = some y ∧ ∀ q ∈ y.1.weights P f.type, q ∈ DataW.weightsEach P (fs.toList.map (·.type)) (xs.map (·.1)) := by
          intro f hfm
          obtain ⟨j, hj, hjf⟩ := List.getElem_of_mem hfm
          have hj' : fs[j]? = some f := by
            rw [← Array.getElem?_toList, List.getElem?_eq_getElem hj, hjf]
          have := hf j f hj'
          have hjx : j < xs.length := by rw [hxl]; simpa using hj
          refine ⟨xs[j], by rw [this, List.getElem?_eq_getElem hjx], fun q hq => DataW.weights_mem_each (j := j) (t := f.type) (d := xs[j].1) ?_ ?_ q hq⟩
          · rw [List.getElem?_map, List.getElem?_eq_getElem hj, hjf]; rfl
          · rw [List.getElem?_map, List.getElem?_eq_getElem hjx]; rfl
        refine key fs.toList [] ds0 hall' h (fun i s hi => by simp at hi) i s ?_ hs
        have := (List.getElem?_eq_some_iff.1 hs).1
        omega
      | array m e =>
        simp only at h
        cases hfd : flatDesc P n e with
        | none => simp [hfd] at h
        | some l0 =>
          rw [hfd] at h
          by_cases hc : P.cellsOf e = l0.length ∧ P.cellsOf t = m * l0.length
          · obtain ⟨xs, k, _, hx, hl, hxl, hf⟩ := DataW.trod_array hu ht
            have hW : x.1.weights P t = DataW.weightsAll P e (xs.map (·.1)) := by rw [hx]; simp [DataW.weights, hu]
            rw [hW]
            have hi : i < m * l0.length := by have := (List.getElem?_eq_some_iff.1 hs).1; omega
            have hpos : 0 < l0.length := by rcases Nat.eq_zero_or_pos l0.length with h0 | h0; · rw [h0] at hi; omega
                                            · exact h0
            have hq : i / l0.length < m := Nat.div_lt_of_lt_mul (by rw [Nat.mul_comm]; exact hi)
            have hp := hf (i / l0.length) hq
            have hxx : i / l0.length < xs.length := by rw [hxl]; exact hq
            rw [List.getElem?_eq_getElem hxx] at hp
            refine weightsAll_mem (j := i / l0.length) (d := xs[i / l0.length].1) (by rw [List.getElem?_map, List.getElem?_eq_getElem hxx]; rfl) _ (ih _ _ _ _ _ hfd hp (i % l0.length) s ?_)
            rw [hc.1, List.getElem?_take, if_pos (Nat.mod_lt _ hpos), List.getElem?_drop, Nat.mul_comm, Nat.div_add_mod]
            exact hs
          · simp only [Option.bind_some, if_neg hc] at h
            simp at h
      | _ => simp at h
end
end Go.Proofs.YtbeanjaenmpoeaaDoor
