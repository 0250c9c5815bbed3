/- Opening an argument whose type is flat (integers, bools, strings, structs and arrays of these): its cells, each of its kind. -/
import Derived.Test.YtbeanjaenmpoeaaDoorBase
import Derived.ProofKit
import Derived.Deep.Slices
import Derived.OpenShut
import Derived.ChangeSame
namespace Go.Proofs.YtbeanjaenmpoeaaDoor
open Go.RowKit Go.ChangeShapes Go.WideShapes Go.Deep

/-- The cells' kinds of a flat type; none: it is not flat. -/
def flatDesc (P : Program) : Nat → TypeId → Option (List TypeDesc)
  | 0, _ => none
  | n + 1, t => match P.underlying t with
    | some (.int k) => some [.int k]
    | some .bool => some [.bool]
    | some .string => some [.string]
    | some (.struct fs) => fs.toList.foldlM (fun (acc : List TypeDesc) f => if f.offset = acc.length then (flatDesc P n f.type).bind (fun l => if P.cellsOf f.type = l.length then some (acc ++ l) else none) else none) [] >>= (fun ds => if P.cellsOf t = ds.length then some ds else none)
    | some (.array m e) => (flatDesc P n e).bind (fun l => if P.cellsOf e = l.length ∧ P.cellsOf t = m * l.length then some (List.replicate m l).flatten else none)
    | _ => none

/-- A cell is of its kind. -/
def cellOk (d : TypeDesc) (v : Value) : Prop := match d with
  | .int k => ∃ n, v = .int k n ∧ k.min ≤ n ∧ n ≤ k.max
  | .bool => ∃ b, v = .bool b
  | .string => ∃ s, v = .string s ∧ s.size ≤ maxLen
  | _ => False

theorem replicate_flatten_get {α : Type} {l : List α} : ∀ (m i : Nat), (List.replicate m l).flatten[i]? = if i < m * l.length then l[i % l.length]? else none := by
  intro m
  induction m with
  | zero => intro i; simp
  | succ m ih =>
    intro i
    rw [List.replicate_succ, List.flatten_cons]
    by_cases h : i < l.length
    · rw [List.getElem?_append_left h, if_pos (by rw [Nat.succ_mul]; omega), Nat.mod_eq_of_lt h]
    · rw [List.getElem?_append_right (by omega), ih]
      by_cases h2 : i < (m + 1) * l.length
      · rw [Nat.succ_mul] at h2
        rw [if_pos (by omega), if_pos (by rw [Nat.succ_mul]; omega), ← Nat.mod_eq_sub_mod (by omega)]
      · rw [if_neg (by rw [Nat.succ_mul] at h2; omega), if_neg h2]

section
variable {H : Type} {enc : TypeId × Value → H} {P : Program} {w : World} {base : Nat} {spare : Nat → Bool} {held : Bool}

/-- All cells of its kinds. -/
def allOk (ds : List TypeDesc) (cs : List Value) : Prop := cs.length = ds.length ∧ ∀ (i : Nat) (d : TypeDesc) (v : Value), ds[i]? = some d → cs[i]? = some v → cellOk d v

theorem flat_trod : ∀ (n : Nat) (t : TypeId) (ds : List TypeDesc) (fuel : Nat) (cs : List Value) (x : DataW H × List MemPlace), flatDesc P n t = some ds → DataW.trod enc P w base spare held fuel t cs = some x → allOk ds cs := by
  intro n
  induction n with
  | zero => intro t ds fuel cs x h; simp [flatDesc] at h
  | succ n ih =>
    intro t ds fuel cs x h ht
    unfold flatDesc at h
    cases hu : P.underlying t with
    | none => simp [hu] at h
    | some d =>
      rw [hu] at h
      cases d with
      | int k =>
        simp only [Option.some.injEq] at h
        subst h
        obtain ⟨m, rfl, _, hw⟩ := DataW.trod_int hu ht
        simp only [Lit.wf, Bool.and_eq_true, decide_eq_true_eq] at hw
        refine ⟨rfl, fun i d v hd hv => ?_⟩
        match i with
        | 0 => simp only [List.getElem?_cons_zero, Option.some.injEq] at hd hv; subst hd; subst hv; exact ⟨m, rfl, hw.1, hw.2⟩
        | i + 1 => simp at hd
      | bool =>
        simp only [Option.some.injEq] at h
        subst h
        obtain ⟨m, rfl, _⟩ := DataW.trod_bool hu ht
        refine ⟨rfl, fun i d v hd hv => ?_⟩
        match i with
        | 0 => simp only [List.getElem?_cons_zero, Option.some.injEq] at hd hv; subst hd; subst hv; exact ⟨m, rfl⟩
        | i + 1 => simp at hd
      | string =>
        simp only [Option.some.injEq] at h
        subst h
        obtain ⟨m, rfl, _, hw⟩ := DataW.trod_string hu ht
        refine ⟨rfl, fun i d v hd hv => ?_⟩
        match i with
        | 0 => simp only [List.getElem?_cons_zero, Option.some.injEq] at hd hv; subst hd; subst hv; exact ⟨m, rfl, hw⟩
        | i + 1 => simp at hd
      | struct fs =>
        simp only [Option.bind_eq_bind, Option.bind_eq_some_iff] at h
        obtain ⟨ds0, h, hlast⟩ := h
        have hct : P.cellsOf t = ds0.length := by
          by_cases hc : P.cellsOf t = ds0.length
          · exact hc
          · rw [if_neg hc] at hlast; cases hlast
        rw [if_pos hct, Option.some.injEq] at hlast
        subst hlast
        obtain ⟨xs, m, _, _, hl, hxl, hf⟩ := DataW.trod_struct hu ht
        -- the pieces, one behind the other
        have key : ∀ (l : List Field) (acc ds : List TypeDesc), (∀ f ∈ l, ∃ y, DataW.trod enc P w base spare held m f.type ((cs.drop f.offset).take (P.cellsOf f.type)) = some y) →
            l.foldlM (fun (acc : List TypeDesc) f => if f.offset = acc.length then (flatDesc P n f.type).bind (fun l => if P.cellsOf f.type = l.length then some (acc ++ l) else none) else none) acc = some ds →
            (acc.length ≤ cs.length ∧ ∀ (i : Nat) (d : TypeDesc) (v : Value), acc[i]? = some d → cs[i]? = some v → cellOk d v) →
            ds.length ≤ cs.length ∧ ∀ (i : Nat) (d : TypeDesc) (v : Value), ds[i]? = some d → cs[i]? = some v → cellOk d v := by
          intro l
          induction l with
          | nil => intro acc ds _ h ha; simp at h; subst h; exact ha
          | cons f r ihl =>
            intro acc ds hall h ha
            rw [List.foldlM_cons] at h
            by_cases ho : f.offset = acc.length
            · rw [if_pos ho] at h
              cases hfd : flatDesc P n f.type with
              | none => simp [hfd] at h
              | some l0 =>
                rw [hfd] at h
                by_cases hc : P.cellsOf f.type = l0.length
                · simp only [Option.bind_some, if_pos hc, Option.bind_eq_bind] at h
                  obtain ⟨y, hy⟩ := hall f (by simp)
                  obtain ⟨pl, pc⟩ := ih _ _ _ _ _ hfd hy
                  rw [List.length_take, List.length_drop, hc, ho] at pl
                  refine ihl _ _ (fun g hg => hall g (by simp [hg])) h ⟨by rw [List.length_append]; omega, fun i d v hd hv => ?_⟩
                  by_cases hi : i < acc.length
                  · rw [List.getElem?_append_left hi] at hd
                    exact ha.2 i d v hd hv
                  · rw [List.getElem?_append_right (by omega)] at hd
                    have hil : i - acc.length < l0.length := (List.getElem?_eq_some_iff.1 hd).1
                    refine pc (i - acc.length) d v hd ?_
                    rw [List.getElem?_take, if_pos (by omega), List.getElem?_drop, ho, show acc.length + (i - acc.length) = i by omega]
                    exact hv
                · simp only [Option.bind_some, if_neg hc] at h
                  simp at h
            · rw [if_neg ho] at h; simp at h
        have hall : ∀ f ∈ fs.toList, ∃ y, DataW.trod enc P w base spare held m f.type ((cs.drop f.offset).take (P.cellsOf f.type)) = some y := by
          intro f hfm
          obtain ⟨j, hj, hjf⟩ := List.getElem_of_mem hfm
          have hj' : fs[j]? = some f := by
            rw [← Array.getElem?_toList, List.getElem?_eq_getElem hj, hjf]
          have := hf j f hj'
          have hjx : j < xs.length := by rw [hxl]; simpa using hj
          exact ⟨xs[j], by rw [this, List.getElem?_eq_getElem hjx]⟩
        have hk := key fs.toList [] ds0 hall h ⟨by simp, fun i d v hd => by simp at hd⟩
        exact ⟨by rw [hl, hct], hk.2⟩
      | array m e =>
        simp only at h
        cases hfd : flatDesc P n e with
        | none => simp [hfd] at h
        | some l0 =>
          rw [hfd] at h
          by_cases hc : P.cellsOf e = l0.length ∧ P.cellsOf t = m * l0.length
          · simp only [Option.bind_some, if_pos hc, Option.some.injEq] at h
            subst h
            obtain ⟨xs, k, _, _, hl, hxl, hf⟩ := DataW.trod_array hu ht
            have hfl : (List.replicate m l0).flatten.length = m * l0.length := by simp
            refine ⟨by rw [hl, hc.2, hfl], fun i d v hd hv => ?_⟩
            rw [replicate_flatten_get] at hd
            by_cases hi : i < m * l0.length
            · rw [if_pos hi] at hd
              have hpos : 0 < l0.length := by rcases Nat.eq_zero_or_pos l0.length with h0 | h0; · rw [h0] at hi; omega
                                              · exact h0
              have hq : i / l0.length < m := Nat.div_lt_of_lt_mul (by rw [Nat.mul_comm]; exact hi)
              have hp := hf (i / l0.length) hq
              have hx : i / l0.length < xs.length := by rw [hxl]; exact hq
              rw [List.getElem?_eq_getElem hx] at hp
              obtain ⟨pl, pc⟩ := ih _ _ _ _ _ hfd hp
              refine pc (i % l0.length) d v hd ?_
              rw [hc.1, List.getElem?_take, if_pos (Nat.mod_lt _ hpos), List.getElem?_drop, Nat.mul_comm, Nat.div_add_mod]
              exact hv
            · rw [if_neg hi] at hd; cases hd
          · simp only [Option.bind_some, if_neg hc] at h
            simp at h
      | _ => simp at h
end
end Go.Proofs.YtbeanjaenmpoeaaDoor
