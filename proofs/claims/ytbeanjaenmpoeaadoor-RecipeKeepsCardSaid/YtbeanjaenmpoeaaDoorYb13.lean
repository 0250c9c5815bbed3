/- Texts joined: what each shows stands ahead of its theorems. -/
import Derived.Test.YtbeanjaenmpoeaaDoorYb12
namespace Go.Proofs.YtbeanjaenmpoeaaDoor
section
open Classical in
/-- What is sealed in a term, opened with another one. -/
noncomputable def openT (p q : Option Tm) : Option Tm := match p with
  | some t => if t.kind = 9 ∧ t.args[0]? = q then t.args[1]? else none
  | none => none
def atT (p : Option Tm) (i : Int) : Option Tm := match p with
  | some t => if t.kind = 10 ∧ 0 ≤ i then t.args[i.toNat]? else none
  | none => none
def addT (p q : Option Tm) : Option Tm := match p with
  | some t => if t.kind = 10 then listT (t.args.map some ++ [q]) else none
  | none => none
/-- The first of a list with a key. -/
def sel {α : Type} (d : α) (k : Int) : List (Int × α) → α
  | [] => d
  | (i, a) :: r => if k = i then a else sel d k r
theorem sel_all {α : Type} {P : α → Prop} {d : α} {k : Int} (h0 : P d) : ∀ {l : List (Int × α)}, (∀ p ∈ l, k = p.1 → P p.2) → P (sel d k l)
  | [], _ => h0
  | (i, a) :: r, h => by
    rw [sel]
    split
    · rename_i e; exact h (i, a) (by simp) e
    · exact sel_all h0 fun p hp => h p (by simp [hp])
theorem sel_none {α : Type} {d : α} {k : Int} : ∀ {l : List (Int × α)}, (∀ p ∈ l, k ≠ p.1) → sel d k l = d
  | [], _ => rfl
  | (i, a) :: r, h => by rw [sel, if_neg (h (i, a) (by simp)), sel_none fun p hp => h p (by simp [hp])]
/-- What one step makes. -/
noncomputable def stepT (known sent made : List (Option Tm)) (x : Mk) : Option Tm :=
  sel none x.k [(0, dataT x.s), (1, nonceT 0 x.a), (2, pkO known x.a), (3, pkO sent x.a), (4, baseT x.s), (5, expT (pkO made x.a) (pkO made x.b)), (6, pubT (pkO made x.a)),
    (7, signT x.s (pkO made x.a) (pkO made x.b)), (8, hashT (pkO made x.a)), (9, if x.s = [] then none else deriveT (ltr x.s).toNat (pkO made x.a) (pkO made x.b) (pkO made x.c)),
    (10, if 0 ≤ x.c ∧ x.c ≤ 4294967295 then sealT (pkO made x.a) x.c.toNat (pkO made x.b) else none), (11, openT (pkO made x.a) (pkO made x.b)), (12, listT []), (13, addT (pkO made x.a) (pkO made x.b)), (14, atT (pkO made x.a) x.b)]
noncomputable def recT (known sent : List (Option Tm)) : List Mk → List (Option Tm) → List (Option Tm)
  | [], os => os
  | x :: r, os => recT known sent r (os ++ [stepT known sent os x])
theorem recT_app (known sent : List (Option Tm)) (l m : List Mk) (os : List (Option Tm)) : recT known sent (l ++ m) os = recT known sent m (recT known sent l os) := by
  induction l generalizing os with
  | nil => rfl
  | cons x r ih => exact ih _
theorem recT_len (known sent : List (Option Tm)) (l : List Mk) (os : List (Option Tm)) : (recT known sent l os).length = l.length + os.length := by
  induction l generalizing os with
  | nil => simp [recT]
  | cons x r ih => rw [recT, ih]; simp; omega
theorem recT_take {known sent : List (Option Tm)} {l : List Mk} {j : Nat} {x : Mk} (h : l[j]? = some x) : recT known sent (l.take (j + 1)) [] = recT known sent (l.take j) [] ++ [stepT known sent (recT known sent (l.take j) []) x] := by
  rw [take_succ_of h, recT_app]
  rfl
theorem recT_pre (known sent : List (Option Tm)) (l : List Mk) (os : List (Option Tm)) : ∃ r, recT known sent l os = os ++ r := by
  induction l generalizing os with
  | nil => exact ⟨[], by simp [recT]⟩
  | cons x r ih =>
    obtain ⟨m, hm⟩ := ih (os ++ [stepT known sent os x])
    exact ⟨[stepT known sent os x] ++ m, by rw [recT, hm, List.append_assoc]⟩
/-- What is to be shown of all steps is to be shown of one. -/
theorem recT_all {known sent : List (Option Tm)} {P : Option Tm → Prop} (l : List Mk) (hs : ∀ os x, x ∈ l → (∀ o ∈ os, P o) → P (stepT known sent os x)) : ∀ (os : List (Option Tm)), (∀ o ∈ os, P o) → ∀ o ∈ recT known sent l os, P o := by
  induction l with
  | nil => intro os h; exact h
  | cons x r ih =>
    intro os h
    rw [recT]
    refine ih (fun os x hx => hs os x (by simp [hx])) _ fun o ho => ?_
    rcases List.mem_append.1 ho with ho | ho
    · exact h o ho
    · rw [List.mem_singleton.1 ho]; exact hs os x (by simp) h

theorem openT_ok {p q : Option Tm} (h : okO p) : okO (openT p q) := by
  unfold openT
  cases p with
  | none => exact okO_none
  | some t =>
    dsimp only
    split
    · intro u hu
      have ht := h t rfl
      obtain ⟨k, a, b, s, args⟩ := t
      exact (ok_mk.1 ht).2.2 u (List.mem_of_getElem? hu)
    · exact okO_none
theorem atT_ok {p : Option Tm} {i : Int} (h : okO p) : okO (atT p i) := by
  unfold atT
  cases p with
  | none => exact okO_none
  | some t =>
    dsimp only
    split
    · intro u hu
      have ht := h t rfl
      obtain ⟨k, a, b, s, args⟩ := t
      exact (ok_mk.1 ht).2.2 u (List.mem_of_getElem? hu)
    · exact okO_none
theorem addT_ok {p q : Option Tm} (h : okO p) (hq : okO q) : okO (addT p q) := by
  unfold addT
  cases p with
  | none => exact okO_none
  | some t =>
    dsimp only
    split
    · refine listT_ok fun o ho => ?_
      have ht := h t rfl
      obtain ⟨k, a, b, s, args⟩ := t
      rcases List.mem_append.1 ho with ho | ho
      · obtain ⟨u, hu, rfl⟩ := List.mem_map.1 ho
        intro v hv
        obtain rfl := Option.some.inj hv
        exact (ok_mk.1 ht).2.2 _ hu
      · rw [List.mem_singleton.1 ho]; exact hq
    · exact okO_none
theorem stepT_ok {known sent made : List (Option Tm)} (x : Mk) (hk : ∀ o ∈ known, okO o) (hs : ∀ o ∈ sent, okO o) (hm : ∀ o ∈ made, okO o) : okO (stepT known sent made x) := by
  have a1 := fun i => pkO_all (P := okO) (os := made) i okO_none hm
  refine sel_all okO_none fun p hp e => ?_
  simp only [List.mem_cons, List.not_mem_nil, or_false] at hp
  rcases hp with rfl | rfl | rfl | rfl | rfl | rfl | rfl | rfl | rfl | rfl | rfl | rfl | rfl | rfl | rfl
  · exact dataT_ok _
  · exact nonceT_ok _ _
  · exact pkO_all _ okO_none hk
  · exact pkO_all _ okO_none hs
  · exact baseT_ok _
  · exact expT_ok (a1 _) (a1 _)
  · exact pubT_ok (a1 _)
  · exact signT_ok (a1 _) (a1 _)
  · exact hashT_ok (a1 _)
  · dsimp only
    split
    · exact okO_none
    · exact deriveT_ok (UInt8.toNat_lt _) (a1 _) (a1 _) (a1 _)
  · dsimp only
    split
    · exact sealT_ok (by omega) (a1 _) (a1 _)
    · exact okO_none
  · exact openT_ok (a1 _)
  · exact listT_ok (l := []) (fun _ h => absurd h (List.not_mem_nil))
  · exact addT_ok (a1 _) (a1 _)
  · exact atT_ok (a1 _)
end

section
mutual
/-- What may be had: h is the hidden text; base: may a share be the base alone? -/
def gd (h : List UInt8) (base : Bool) : Tm → Prop
  | .mk k a _ s args => (k = 1 → s ≠ h) ∧ (k = 2 → a = 0) ∧ k ≠ 3 ∧ (k = 5 → base = false → args ≠ []) ∧ (k = 9 → gdS h base args) ∧ (k = 10 → gdL h base args)
def gdL (h : List UInt8) (base : Bool) : List Tm → Prop
  | [] => True
  | t :: r => gd h base t ∧ gdL h base r
def gdS (h : List UInt8) (base : Bool) : List Tm → Prop
  | [] => True
  | t :: r => gd h base t → gdL h base r
end
section
variable {h : List UInt8} {base : Bool}
theorem gd_mk {k a b : Nat} {s : List UInt8} {args : List Tm} : gd h base (.mk k a b s args) ↔ (k = 1 → s ≠ h) ∧ (k = 2 → a = 0) ∧ k ≠ 3 ∧ (k = 5 → base = false → args ≠ []) ∧ (k = 9 → gdS h base args) ∧ (k = 10 → gdL h base args) := by rw [gd]
theorem gdL_iff : ∀ l : List Tm, gdL h base l ↔ ∀ t ∈ l, gd h base t
  | [] => by simp [gdL]
  | t :: r => by rw [gdL, gdL_iff r]; simp
theorem gdS_two (x y : Tm) : gdS h base [x, y] ↔ (gd h base x → gd h base y) := by rw [gdS, gdL_iff]; simp
def gdO (h : List UInt8) (base : Bool) (o : Option Tm) : Prop := ∀ t, o = some t → gd h base t
theorem gdO_none : gdO h base none := fun _ e => by cases e
/-- A term of a kind that says nothing. -/
theorem gd_plain {k a b : Nat} {s : List UInt8} {os : List (Option Tm)} (hk : k = 4 ∨ k = 6 ∨ k = 7 ∨ k = 8) : gdO h base (mkO k a b s os) := fun t ht => by
  obtain ⟨l, _, rfl, _⟩ := mkO_some ht
  rw [gd_mk]
  refine ⟨fun e => ?_, fun e => ?_, fun e => ?_, fun e => ?_, fun e => ?_, fun e => ?_⟩ <;> exfalso <;> omega
theorem gd_data {s : List UInt8} (hs : s ≠ h) : gdO h base (dataT s) := fun t ht => by
  obtain ⟨l, _, rfl, _⟩ := mkO_some ht
  rw [gd_mk]
  exact ⟨fun _ => hs, fun e => absurd e (by decide), by decide, fun e => absurd e (by decide), fun e => absurd e (by decide), fun e => absurd e (by decide)⟩
theorem gd_nonce0 {q : Int} : gdO h base (nonceT 0 q) := fun t ht => by
  unfold nonceT at ht
  split at ht
  · obtain ⟨l, _, rfl, _⟩ := mkO_some ht
    rw [gd_mk]
    exact ⟨fun e => absurd e (by decide), fun _ => rfl, by decide, fun e => absurd e (by decide), fun e => absurd e (by decide), fun e => absurd e (by decide)⟩
  · cases ht
theorem gd_base {s : List UInt8} (hb : base = true) : gdO h base (baseT s) := fun t ht => by
  unfold baseT at ht
  split at ht
  · obtain ⟨l, _, rfl, _⟩ := mkO_some ht
    rw [gd_mk]
    exact ⟨fun e => absurd e (by decide), fun e => absurd e (by decide), by decide, fun _ e => (by rw [hb] at e; cases e), fun e => absurd e (by decide), fun e => absurd e (by decide)⟩
  · cases ht
theorem gd_exp {so xo : Option Tm} : gdO h base (expT so xo) := fun t ht => by
  unfold expT at ht
  split at ht
  · split at ht
    · obtain ⟨l, e, rfl, _⟩ := mkO_some ht
      rw [gd_mk]
      refine ⟨fun e => absurd e (by decide), fun e => absurd e (by decide), by decide, fun _ _ hl => ?_, fun e => absurd e (by decide), fun e => absurd e (by decide)⟩
      subst hl
      have := congrArg List.length e
      simp [ins_len] at this
    · cases ht
  · cases ht
theorem gd_pub {o : Option Tm} : gdO h base (pubT o) := by
  unfold pubT
  split
  · exact gd_plain (.inl rfl)
  · exact gdO_none
theorem gd_sign {s : List UInt8} {k t : Option Tm} : gdO h base (signT s k t) := by
  unfold signT
  split
  · exact gd_plain (.inr (.inl rfl))
  · exact gdO_none
theorem gd_hash {o : Option Tm} : gdO h base (hashT o) := gd_plain (.inr (.inr (.inl rfl)))
theorem gd_derive {b : Nat} {x y z : Option Tm} : gdO h base (deriveT b x y z) := gd_plain (.inr (.inr (.inr rfl)))
theorem gd_seal {n : Nat} {k t : Option Tm} (hkt : gdO h base k → gdO h base t) : gdO h base (sealT k n t) := fun u hu => by
  obtain ⟨l, e, rfl, _⟩ := mkO_some hu
  rw [gd_mk]
  refine ⟨fun e => absurd e (by decide), fun e => absurd e (by decide), by decide, fun e => absurd e (by decide), fun _ => ?_, fun e => absurd e (by decide)⟩
  match l, e with
  | [x, y], e =>
    simp only [List.map_cons, List.map_nil, List.cons.injEq, and_true] at e
    obtain ⟨rfl, rfl⟩ := e
    rw [gdS_two]
    intro hx
    exact hkt (fun t ht => by obtain rfl := Option.some.inj ht; exact hx) y rfl
theorem gd_list {os : List (Option Tm)} (ho : ∀ o ∈ os, gdO h base o) : gdO h base (listT os) := fun t ht => by
  unfold listT at ht
  split at ht
  · obtain ⟨l, e, rfl, _⟩ := mkO_some ht
    rw [gd_mk]
    refine ⟨fun e => absurd e (by decide), fun e => absurd e (by decide), by decide, fun e => absurd e (by decide), fun e => absurd e (by decide), fun _ => ?_⟩
    rw [gdL_iff]
    intro u hu
    exact ho (some u) (by rw [e]; exact List.mem_map.2 ⟨u, hu, rfl⟩) u rfl
  · cases ht
theorem gd_open {p q : Option Tm} (hp : gdO h base p) (hq : gdO h base q) (hok : okO p) : gdO h base (openT p q) := by
  unfold openT
  cases p with
  | none => exact gdO_none
  | some t =>
    dsimp only
    split
    · rename_i hc
      obtain ⟨k, a, b, s, args⟩ := t
      have h9 : k = 9 := hc.1
      have hg := (gd_mk.1 (hp _ rfl)).2.2.2.2.1 h9
      have ho := (ok_mk.1 (hok _ rfl)).1
      subst h9
      have hl : args.length = 2 := by
        simp only [okHd, reduceCtorEq, false_and, or_false, false_or, true_and, Nat.reduceEqDiff] at ho
        omega
      match args, hl with
      | [x, y], _ =>
        rw [gdS_two] at hg
        intro u hu
        have hu : some y = some u := hu
        obtain rfl := Option.some.inj hu
        have hq' : some x = q := hc.2
        exact hg (hq x hq'.symm)
    · exact gdO_none
theorem gd_args {t : Tm} (hp : gd h base t) (hk : t.kind = 10) : ∀ u ∈ t.args, gd h base u := by
  obtain ⟨k, a, b, s, args⟩ := t
  exact (gdL_iff _).1 ((gd_mk.1 hp).2.2.2.2.2 hk)
theorem gd_at {p : Option Tm} {i : Int} (hp : gdO h base p) : gdO h base (atT p i) := by
  unfold atT
  cases p with
  | none => exact gdO_none
  | some t =>
    dsimp only
    split
    · rename_i hc
      intro u hu
      exact gd_args (hp t rfl) hc.1 u (List.mem_of_getElem? hu)
    · exact gdO_none
theorem gd_add {p q : Option Tm} (hp : gdO h base p) (hq : gdO h base q) : gdO h base (addT p q) := by
  unfold addT
  cases p with
  | none => exact gdO_none
  | some t =>
    dsimp only
    split
    · rename_i hc
      refine gd_list fun o ho => ?_
      rcases List.mem_append.1 ho with ho | ho
      · obtain ⟨u, hu, rfl⟩ := List.mem_map.1 ho
        intro v hv
        obtain rfl := Option.some.inj hv
        exact gd_args (hp t rfl) hc _ hu
      · rw [List.mem_singleton.1 ho]; exact hq
    · exact gdO_none
/-- No step leaves what may be had. -/
theorem gd_step {known sent made : List (Option Tm)} (x : Mk) (h1 : ¬ (x.k = 0 ∧ x.s = h)) (h4 : base = false → x.k ≠ 4) (hk : ∀ o ∈ known, gdO h base o) (hs : ∀ o ∈ sent, gdO h base o) (hm : ∀ o ∈ made, gdO h base o ∧ okO o) : gdO h base (stepT known sent made x) := by
  have a1 := fun i => (pkO_all (P := fun o => gdO h base o ∧ okO o) (os := made) i ⟨gdO_none, okO_none⟩ hm)
  refine sel_all gdO_none fun p hp e => ?_
  simp only [List.mem_cons, List.not_mem_nil, or_false] at hp
  rcases hp with rfl | rfl | rfl | rfl | rfl | rfl | rfl | rfl | rfl | rfl | rfl | rfl | rfl | rfl | rfl
  · exact gd_data fun hx => h1 ⟨e, hx⟩
  · exact gd_nonce0
  · exact pkO_all _ gdO_none hk
  · exact pkO_all _ gdO_none hs
  · refine gd_base ?_
    cases hb : base with
    | true => rfl
    | false => exact absurd e (h4 hb)
  · exact gd_exp
  · exact gd_pub
  · exact gd_sign
  · exact gd_hash
  · dsimp only
    split
    · exact gdO_none
    · exact gd_derive
  · dsimp only
    split
    · exact gd_seal fun _ => (a1 _).1
    · exact gdO_none
  · exact gd_open (a1 _).1 (a1 _).1 (a1 _).2
  · exact gd_list (os := []) fun _ h => absurd h List.not_mem_nil
  · exact gd_add (a1 _).1 (a1 _).1
  · exact gd_at (a1 _).1
theorem gd_rec {known sent : List (Option Tm)} (l : List Mk) (h1 : ∀ x ∈ l, ¬ (x.k = 0 ∧ x.s = h)) (h4 : base = false → ∀ x ∈ l, x.k ≠ 4) (hk : ∀ o ∈ known, gdO h base o ∧ okO o) (hs : ∀ o ∈ sent, gdO h base o ∧ okO o) : ∀ o ∈ recT known sent l [], gdO h base o ∧ okO o :=
  recT_all (P := fun o => gdO h base o ∧ okO o) l (fun os x hx ho => ⟨gd_step x (h1 x hx) (fun hb => h4 hb x hx) (fun o h => (hk o h).1) (fun o h => (hs o h).1) ho, stepT_ok x (fun o h => (hk o h).2) (fun o h => (hs o h).2) (fun o h => (ho o h).2)⟩) [] (fun _ h => absurd h List.not_mem_nil)
end
/-- A nonce of another one, and a key, may not be had. -/
theorem gd_nonce1 {h : List UInt8} {base : Bool} {p q : Int} (hp : 0 < p) : gdO h base (nonceT p q) → nonceT p q = none := fun hg => by
  cases e : nonceT p q with
  | none => rfl
  | some t =>
    exfalso
    have hg := hg t e
    unfold nonceT at e
    split at e
    · obtain ⟨l, _, rfl, _⟩ := mkO_some e
      have := (gd_mk.1 hg).2.1 rfl
      omega
    · cases e
theorem gd_key {h : List UInt8} {base : Bool} {p : Int} : gdO h base (keyT p) → keyT p = none := fun hg => by
  cases e : keyT p with
  | none => rfl
  | some t =>
    exfalso
    have hg := hg t e
    unfold keyT at e
    split at e
    · obtain ⟨l, _, rfl, _⟩ := mkO_some e
      exact (gd_mk.1 hg).2.2.1 rfl
    · cases e
/-- What a term that may be had is not. -/
theorem gd_fine {h : List UInt8} {base : Bool} {t : Tm} (hg : gd h base t) : t.kind ≠ 3 ∧ (t.kind = 2 → t.a = 0) ∧ t ≠ .mk 1 0 0 h [] ∧ (t.kind = 5 → base = false → t.args ≠ []) := by
  obtain ⟨k, a, b, s, args⟩ := t
  have hg := gd_mk.1 hg
  refine ⟨hg.2.2.1, hg.2.1, fun e => ?_, hg.2.2.2.1⟩
  injection e with e1 _ _ e2 _
  exact hg.1 e1 e2
/-- What is known in RecipeKeeps. -/
def hidS : List UInt8 := [104, 105, 100, 100, 101, 110, 32]
def keepL (data : List UInt8) (key x : Option Tm) : List (Option Tm) := [pubT key, expT (baseT [112, 50, 53, 54]) x, signT [115, 115, 104, 45, 97] key (dataT data), hashT x, hashT key, sealT x 0 (dataT (hidS ++ data)), sealT key 1 (listT [dataT (hidS ++ data), x]), dataT data, deriveT 65 x key x]
theorem keep_known {base : Bool} {data : List UInt8} {K P Q : Int} (hK : numOk K) (hP : 0 < P) (hPn : numOk P) (hQ : numOk Q) : ∀ o ∈ keepL data (keyT K) (nonceT P Q), gdO (hidS ++ data) base o ∧ okO o := by
  have hk : keyT K ≠ none := by unfold keyT mkO; rw [if_pos hK]; simp [alls, own, lens]
  have hx : nonceT P Q ≠ none := by unfold nonceT mkO; rw [if_pos ⟨hPn, hQ⟩]; simp [alls, own, lens]
  have kk := keyT_ok K
  have kx := nonceT_ok P Q
  have kl : okO (listT [dataT (hidS ++ data), nonceT P Q]) := listT_ok fun o ho => by
    simp only [List.mem_cons, List.not_mem_nil, or_false] at ho
    rcases ho with rfl | rfl
    · exact dataT_ok _
    · exact kx
  intro o ho
  simp only [keepL, List.mem_cons, List.not_mem_nil, or_false] at ho
  rcases ho with rfl | rfl | rfl | rfl | rfl | rfl | rfl | rfl | rfl
  · exact ⟨gd_pub, pubT_ok kk⟩
  · exact ⟨gd_exp, expT_ok (baseT_ok _) kx⟩
  · exact ⟨gd_sign, signT_ok kk (dataT_ok _)⟩
  · exact ⟨gd_hash, hashT_ok kx⟩
  · exact ⟨gd_hash, hashT_ok kk⟩
  · exact ⟨gd_seal fun h => absurd (gd_nonce1 hP h) hx, sealT_ok (by decide) kx (dataT_ok _)⟩
  · exact ⟨gd_seal fun h => absurd (gd_key h) hk, sealT_ok (by decide) kk kl⟩
  · exact ⟨gd_data fun e => by have := congrArg List.length e; simp [hidS] at this; omega, dataT_ok _⟩
  · exact ⟨gd_derive, deriveT_ok (by decide) kx kk kx⟩
end
end Go.Proofs.YtbeanjaenmpoeaaDoor
