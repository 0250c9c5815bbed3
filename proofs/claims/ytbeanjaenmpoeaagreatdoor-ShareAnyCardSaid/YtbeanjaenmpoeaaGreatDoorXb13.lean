/- Recipes, plainly: what each step makes. -/
import Derived.Test.YtbeanjaenmpoeaaGreatDoorXb12
namespace Go.Proofs.YtbeanjaenmpoeaaGreatDoor
open Classical in
/-- What is sealed in a term, opened with another one. -/
noncomputable def openT (p q : Option Tm) : Option Tm := match p with
  | some t => if t.kind = 9 ∧ t.args[0]? = q then t.args[1]? else none
  | none => none
def atT (p : Option Tm) (i : Int) : Option Tm := match p with
  | some t => if t.kind = 10 ∧ 0 ≤ i then t.args[i.toNat]? else none
  | none => none
def addT (p q : Option Tm) : Option Tm := match p with
  | some t => if t.kind = 10 then listT (t.args.map some ++ [q]) else none
  | none => none
/-- The first of a list with a key. -/
def sel {α : Type} (d : α) (k : Int) : List (Int × α) → α
  | [] => d
  | (i, a) :: r => if k = i then a else sel d k r
theorem sel_all {α : Type} {P : α → Prop} {d : α} {k : Int} (h0 : P d) : ∀ {l : List (Int × α)}, (∀ p ∈ l, k = p.1 → P p.2) → P (sel d k l)
  | [], _ => h0
  | (i, a) :: r, h => by
    rw [sel]
    split
    · rename_i e; exact h (i, a) (by simp) e
    · exact sel_all h0 fun p hp => h p (by simp [hp])
theorem sel_none {α : Type} {d : α} {k : Int} : ∀ {l : List (Int × α)}, (∀ p ∈ l, k ≠ p.1) → sel d k l = d
  | [], _ => rfl
  | (i, a) :: r, h => by rw [sel, if_neg (h (i, a) (by simp)), sel_none fun p hp => h p (by simp [hp])]
/-- What one step makes. -/
noncomputable def stepT (known sent made : List (Option Tm)) (x : Mk) : Option Tm :=
  sel none x.k [(0, dataT x.s), (1, nonceT 0 x.a), (2, pkO known x.a), (3, pkO sent x.a), (4, baseT x.s), (5, expT (pkO made x.a) (pkO made x.b)), (6, pubT (pkO made x.a)),
    (7, signT x.s (pkO made x.a) (pkO made x.b)), (8, hashT (pkO made x.a)), (9, if x.s = [] then none else deriveT (ltr x.s).toNat (pkO made x.a) (pkO made x.b) (pkO made x.c)),
    (10, if 0 ≤ x.c ∧ x.c ≤ 4294967295 then sealT (pkO made x.a) x.c.toNat (pkO made x.b) else none), (11, openT (pkO made x.a) (pkO made x.b)), (12, listT []), (13, addT (pkO made x.a) (pkO made x.b)), (14, atT (pkO made x.a) x.b)]
noncomputable def recT (known sent : List (Option Tm)) : List Mk → List (Option Tm) → List (Option Tm)
  | [], os => os
  | x :: r, os => recT known sent r (os ++ [stepT known sent os x])
theorem recT_app (known sent : List (Option Tm)) (l m : List Mk) (os : List (Option Tm)) : recT known sent (l ++ m) os = recT known sent m (recT known sent l os) := by
  induction l generalizing os with
  | nil => rfl
  | cons x r ih => exact ih _
theorem recT_len (known sent : List (Option Tm)) (l : List Mk) (os : List (Option Tm)) : (recT known sent l os).length = l.length + os.length := by
  induction l generalizing os with
  | nil => simp [recT]
  | cons x r ih => rw [recT, ih]; simp; omega
theorem recT_take {known sent : List (Option Tm)} {l : List Mk} {j : Nat} {x : Mk} (h : l[j]? = some x) : recT known sent (l.take (j + 1)) [] = recT known sent (l.take j) [] ++ [stepT known sent (recT known sent (l.take j) []) x] := by
  rw [take_succ_of h, recT_app]
  rfl
theorem recT_pre (known sent : List (Option Tm)) (l : List Mk) (os : List (Option Tm)) : ∃ r, recT known sent l os = os ++ r := by
  induction l generalizing os with
  | nil => exact ⟨[], by simp [recT]⟩
  | cons x r ih =>
    obtain ⟨m, hm⟩ := ih (os ++ [stepT known sent os x])
    exact ⟨[stepT known sent os x] ++ m, by rw [recT, hm, List.append_assoc]⟩
/-- What is to be shown of all steps is to be shown of one. -/
theorem recT_all {known sent : List (Option Tm)} {P : Option Tm → Prop} (l : List Mk) (hs : ∀ os x, x ∈ l → (∀ o ∈ os, P o) → P (stepT known sent os x)) : ∀ (os : List (Option Tm)), (∀ o ∈ os, P o) → ∀ o ∈ recT known sent l os, P o := by
  induction l with
  | nil => intro os h; exact h
  | cons x r ih =>
    intro os h
    rw [recT]
    refine ih (fun os x hx => hs os x (by simp [hx])) _ fun o ho => ?_
    rcases List.mem_append.1 ho with ho | ho
    · exact h o ho
    · rw [List.mem_singleton.1 ho]; exact hs os x (by simp) h

theorem openT_ok {p q : Option Tm} (h : okO p) : okO (openT p q) := by
  unfold openT
  cases p with
  | none => exact okO_none
  | some t =>
    dsimp only
    split
    · intro u hu
      have ht := h t rfl
      obtain ⟨k, a, b, s, args⟩ := t
      exact (ok_mk.1 ht).2.2 u (List.mem_of_getElem? hu)
    · exact okO_none
theorem atT_ok {p : Option Tm} {i : Int} (h : okO p) : okO (atT p i) := by
  unfold atT
  cases p with
  | none => exact okO_none
  | some t =>
    dsimp only
    split
    · intro u hu
      have ht := h t rfl
      obtain ⟨k, a, b, s, args⟩ := t
      exact (ok_mk.1 ht).2.2 u (List.mem_of_getElem? hu)
    · exact okO_none
theorem addT_ok {p q : Option Tm} (h : okO p) (hq : okO q) : okO (addT p q) := by
  unfold addT
  cases p with
  | none => exact okO_none
  | some t =>
    dsimp only
    split
    · refine listT_ok fun o ho => ?_
      have ht := h t rfl
      obtain ⟨k, a, b, s, args⟩ := t
      rcases List.mem_append.1 ho with ho | ho
      · obtain ⟨u, hu, rfl⟩ := List.mem_map.1 ho
        intro v hv
        obtain rfl := Option.some.inj hv
        exact (ok_mk.1 ht).2.2 _ hu
      · rw [List.mem_singleton.1 ho]; exact hq
    · exact okO_none
theorem stepT_ok {known sent made : List (Option Tm)} (x : Mk) (hk : ∀ o ∈ known, okO o) (hs : ∀ o ∈ sent, okO o) (hm : ∀ o ∈ made, okO o) : okO (stepT known sent made x) := by
  have a1 := fun i => pkO_all (P := okO) (os := made) i okO_none hm
  refine sel_all okO_none fun p hp e => ?_
  simp only [List.mem_cons, List.not_mem_nil, or_false] at hp
  rcases hp with rfl | rfl | rfl | rfl | rfl | rfl | rfl | rfl | rfl | rfl | rfl | rfl | rfl | rfl | rfl
  · exact dataT_ok _
  · exact nonceT_ok _ _
  · exact pkO_all _ okO_none hk
  · exact pkO_all _ okO_none hs
  · exact baseT_ok _
  · exact expT_ok (a1 _) (a1 _)
  · exact pubT_ok (a1 _)
  · exact signT_ok (a1 _) (a1 _)
  · exact hashT_ok (a1 _)
  · dsimp only
    split
    · exact okO_none
    · exact deriveT_ok (UInt8.toNat_lt _) (a1 _) (a1 _) (a1 _)
  · dsimp only
    split
    · exact sealT_ok (by omega) (a1 _) (a1 _)
    · exact okO_none
  · exact openT_ok (a1 _)
  · exact listT_ok (l := []) (fun _ h => absurd h (List.not_mem_nil))
  · exact addT_ok (a1 _) (a1 _)
  · exact atT_ok (a1 _)
end Go.Proofs.YtbeanjaenmpoeaaGreatDoor
