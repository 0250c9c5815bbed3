/- A region that draws its order: one invariant for all orders; each operation is walked once, whatever has come up ahead of it. -/
import Derived.Orders
import Derived.RegionTactic
namespace Go.Proofs.YtbeanjaenmpoeaaDoor
open Go

theorem getD_put_same {l : Array Bool} {i : Nat} (h : i < l.size) : (l.setIfInBounds i true).getD i true = true := by
  simp [Array.getD, h]
theorem getD_put_other {l : Array Bool} {i j : Nat} (h : i ≠ j) : (l.setIfInBounds i true).getD j true = l.getD j true := by
  simp [Array.getD_eq_getD_getElem?, Array.getElem?_setIfInBounds, h]
def todo (l : Array Bool) : Nat := ((List.range l.size).filter (fun j => !(l.getD j true))).length
theorem todo_put {l : Array Bool} {i : Nat} (h : l.getD i true = false) : todo (l.setIfInBounds i true) + 1 ≤ todo l := by
  have hi : i < l.size := by
    rcases Nat.lt_or_ge i l.size with h1 | h1
    · exact h1
    · simp [Array.getD_eq_getD_getElem?, Array.getElem?_eq_none h1] at h
  unfold todo
  rw [Array.size_setIfInBounds]
  have hs : (List.range l.size).filter (fun j => !((l.setIfInBounds i true).getD j true)) = ((List.range l.size).filter (fun j => !(l.getD j true))).filter (fun j => j != i) := by
    rw [List.filter_filter]
    refine List.filter_congr fun j _ => ?_
    by_cases e : i = j
    · subst e
      rw [getD_put_same hi]; simp
    · rw [getD_put_other e]
      have : (j != i) = true := by simp [Ne.symm e]
      rw [this]; simp
  rw [hs]
  have hm : i ∈ (List.range l.size).filter (fun j => !(l.getD j true)) := List.mem_filter.2 ⟨List.mem_range.2 hi, by simp [h]⟩
  generalize (List.range l.size).filter (fun j => !(l.getD j true)) = L at hm
  induction L with
  | nil => cases hm
  | cons x r ih =>
    rcases List.mem_cons.1 hm with rfl | hm
    · rw [List.filter_cons_of_neg (by simp)]
      exact Nat.succ_le_succ (List.length_filter_le _ _)
    · by_cases e : x = i
      · subst e
        rw [List.filter_cons_of_neg (by simp)]
        exact Nat.succ_le_succ (List.length_filter_le _ _)
      · rw [List.filter_cons_of_pos (by simp [e])]
        exact Nat.succ_le_succ (ih hm)
theorem todo_zero {l : Array Bool} (h : todo l = 0) (j : Nat) : l.getD j true = true := by
  rcases Nat.lt_or_ge j l.size with h1 | h1
  · cases hq : l.getD j true with
    | true => rfl
    | false =>
      have : j ∈ (List.range l.size).filter (fun j => !(l.getD j true)) := List.mem_filter.2 ⟨List.mem_range.2 h1, by simp [hq]⟩
      unfold todo at h
      rw [List.eq_nil_of_length_eq_zero h] at this
      cases this
  · simp [Array.getD_eq_getD_getElem?, Array.getElem?_eq_none h1]
theorem getD_both {l : Array Bool} {j : Nat} (h : j < l.size) : l.getD j false = l.getD j true := by
  simp [Array.getD_eq_getD_getElem?, Array.getElem?_eq_getElem h]

section
variable {P : Program} {md : Region.Mode} {ops : Array Oper} {Q : Exit → Act → World → Prop} (I : (Nat → Bool) → Act → World → Prop)
  (hlt : ∀ (i : Nat) (o : Oper), ops[i]? = some o → ∀ e ∈ o.after, Region.binds md e = true → e.on < i)
  (hstep : ∀ (L : Nat → Bool) (a : Act) (w : World) (i : Nat) (o : Oper), I L a w → ops[i]? = some o → L i = false → (∀ e ∈ o.after, Region.binds md e = true → L e.on = true) →
    ∀ K : Act → World → Prop, (∀ a' w', I (fun j => j == i || L j) a' w' → K a' w') → if Region.wanted o (yielded ops a.tmps) = true then Oper.wp P o a w K Q else K (a.put o.dst undef) w)
  (hdone : ∀ L a w, I L a w → (∀ i, i < ops.size → L i = true) → Q .normal a w)
include hlt hstep hdone
theorem wpAny_inv : ∀ (fuel : Nat) (listed : Array Bool) (a : Act) (w : World), listed.size = ops.size → todo listed ≤ fuel → I (fun j => listed.getD j true) a w → wpAny P md ops Q fuel listed a w := by
  intro fuel
  induction fuel with
  | zero =>
    intro listed a w hs ht hI
    have h0 := todo_zero (Nat.le_zero.1 ht)
    refine ⟨List.eq_nil_iff_forall_not_mem.2 fun j hj => ?_, hdone _ _ _ hI (fun i _ => h0 i)⟩
    have := (mem_ready.1 hj).1
    rw [h0 j] at this
    cases this
  | succ fuel ih =>
    intro listed a w hs ht hI
    refine ⟨fun hr => ?_, fun i hi => ?_⟩
    · refine hdone _ _ _ hI fun i hi => ?_
      induction i using Nat.strongRecOn with
      | _ i ih2 =>
        cases hq : listed.getD i true with
        | true => rfl
        | false =>
          have ho : ops[i]? = some ops[i] := Array.getElem?_eq_getElem hi
          have : i ∈ Region.ready md ops listed := mem_ready.2 ⟨hq, _, ho, fun e he hb => by
            have h1 := hlt i _ ho e he hb
            rw [getD_both (by rw [hs]; omega)]
            exact ih2 e.on h1 (by omega)⟩
          rw [hr] at this
          cases this
    · obtain ⟨h0, o, ho, hall⟩ := mem_ready.1 hi
      have hio : i < ops.size := (Array.getElem?_eq_some_iff.1 ho).1
      refine wpOp_step ho (fun K' hK => hstep _ a w i o hI ho h0 (fun e he hb => ?_) K' (fun a' w' hI' => hK a' w' (ih _ a' w' (by rw [Array.size_setIfInBounds]; exact hs) (by have := todo_put h0; omega) ?_)))
      · have h1 := hall e he hb
        rw [getD_both (by rw [hs]; have := hlt i o ho e he hb; omega)] at h1
        exact h1
      · have hf : (fun j => (listed.setIfInBounds i true).getD j true) = (fun j => j == i || listed.getD j true) := by
          funext j
          by_cases e : i = j
          · subst e
            rw [getD_put_same (by rw [hs]; exact hio)]; simp
          · rw [getD_put_other e]
            have : (j == i) = false := by simp [Ne.symm e]
            rw [this]; rfl
        rw [hf]
        exact hI'
theorem region_inv {id : Nat} {a : Act} {w : World} (hmd : md = .any) (hm : P.follows .mixedOrders = true) (hI : I (fun j => (Array.replicate ops.size false).getD j true) a w.drew) : (Code.region id ops true).wp P Q a w := by
  subst hmd
  refine wp_region_any hm (wpAny_inv I hlt hstep hdone _ _ _ _ (by simp) ?_ hI)
  unfold todo
  rw [Array.size_replicate]
  exact Nat.le_trans (List.length_filter_le _ _) (by simp)
end
/-- An operation that an edge names has come up. -/
def hasDep (md : Region.Mode) (o : Oper) (n : Nat) : Bool := o.after.toList.any (fun e => Region.binds md e && e.on == n)
theorem dep_of {md : Region.Mode} {o : Oper} {L : Nat → Bool} (h : ∀ e ∈ o.after, Region.binds md e = true → L e.on = true) {n : Nat} (hn : hasDep md o n = true) : L n = true := by
  unfold hasDep at hn
  rw [List.any_eq_true] at hn
  obtain ⟨e, he, h1⟩ := hn
  rw [Bool.and_eq_true] at h1
  have h2 : e.on = n := by simpa using h1.2
  rw [← h2]
  exact h e (Array.mem_toList_iff.1 he) h1.1
end Go.Proofs.YtbeanjaenmpoeaaDoor
