/- Texts joined: what each shows stands ahead of its theorems. -/
import Derived.Test.YtphnakdgpilcmaaGreatDoorHb12
import Derived.Test.YtphnakdgpilcmaaGreatDoorHb2
import Derived.WalkMore
import Derived.Test.YtphnakdgpilcmaaGreatDoorHb10
import Derived.Test.YtphnakdgpilcmaaGreatDoorHb4
import Derived.Test.YtphnakdgpilcmaaGreatDoorHb0
import Derived.Maps.AppendAt
import Derived.Test.YtphnakdgpilcmaaGreatDoorHb6
namespace Go.Proofs.YtphnakdgpilcmaaGreatDoor
section
open Classical in
/-- What is sealed in a term, opened with another one. -/
noncomputable def openT (p q : Option Tm) : Option Tm := match p with
  | some t => if t.kind = 9 ∧ t.args[0]? = q then t.args[1]? else none
  | none => none
def atT (p : Option Tm) (i : Int) : Option Tm := match p with
  | some t => if t.kind = 10 ∧ 0 ≤ i then t.args[i.toNat]? else none
  | none => none
def addT (p q : Option Tm) : Option Tm := match p with
  | some t => if t.kind = 10 then listT (t.args.map some ++ [q]) else none
  | none => none
/-- The first of a list with a key. -/
def sel {α : Type} (d : α) (k : Int) : List (Int × α) → α
  | [] => d
  | (i, a) :: r => if k = i then a else sel d k r
theorem sel_all {α : Type} {P : α → Prop} {d : α} {k : Int} (h0 : P d) : ∀ {l : List (Int × α)}, (∀ p ∈ l, k = p.1 → P p.2) → P (sel d k l)
  | [], _ => h0
  | (i, a) :: r, h => by
    rw [sel]
    split
    · rename_i e; exact h (i, a) (by simp) e
    · exact sel_all h0 fun p hp => h p (by simp [hp])
theorem sel_none {α : Type} {d : α} {k : Int} : ∀ {l : List (Int × α)}, (∀ p ∈ l, k ≠ p.1) → sel d k l = d
  | [], _ => rfl
  | (i, a) :: r, h => by rw [sel, if_neg (h (i, a) (by simp)), sel_none fun p hp => h p (by simp [hp])]
/-- What one step makes. -/
noncomputable def stepT (known sent made : List (Option Tm)) (x : Mk) : Option Tm :=
  sel none x.k [(0, dataT x.s), (1, nonceT 0 x.a), (2, pkO known x.a), (3, pkO sent x.a), (4, baseT x.s), (5, expT (pkO made x.a) (pkO made x.b)), (6, pubT (pkO made x.a)),
    (7, signT x.s (pkO made x.a) (pkO made x.b)), (8, hashT (pkO made x.a)), (9, if x.s = [] then none else deriveT (ltr x.s).toNat (pkO made x.a) (pkO made x.b) (pkO made x.c)),
    (10, if 0 ≤ x.c ∧ x.c ≤ 4294967295 then sealT (pkO made x.a) x.c.toNat (pkO made x.b) else none), (11, openT (pkO made x.a) (pkO made x.b)), (12, listT []), (13, addT (pkO made x.a) (pkO made x.b)), (14, atT (pkO made x.a) x.b)]
noncomputable def recT (known sent : List (Option Tm)) : List Mk → List (Option Tm) → List (Option Tm)
  | [], os => os
  | x :: r, os => recT known sent r (os ++ [stepT known sent os x])
theorem recT_app (known sent : List (Option Tm)) (l m : List Mk) (os : List (Option Tm)) : recT known sent (l ++ m) os = recT known sent m (recT known sent l os) := by
  induction l generalizing os with
  | nil => rfl
  | cons x r ih => exact ih _
theorem recT_len (known sent : List (Option Tm)) (l : List Mk) (os : List (Option Tm)) : (recT known sent l os).length = l.length + os.length := by
  induction l generalizing os with
  | nil => simp [recT]
  | cons x r ih => rw [recT, ih]; simp; omega
theorem recT_take {known sent : List (Option Tm)} {l : List Mk} {j : Nat} {x : Mk} (h : l[j]? = some x) : recT known sent (l.take (j + 1)) [] = recT known sent (l.take j) [] ++ [stepT known sent (recT known sent (l.take j) []) x] := by
  rw [take_succ_of h, recT_app]
  rfl
theorem recT_pre (known sent : List (Option Tm)) (l : List Mk) (os : List (Option Tm)) : ∃ r, recT known sent l os = os ++ r := by
  induction l generalizing os with
  | nil => exact ⟨[], by simp [recT]⟩
  | cons x r ih =>
    obtain ⟨m, hm⟩ := ih (os ++ [stepT known sent os x])
    exact ⟨[stepT known sent os x] ++ m, by rw [recT, hm, List.append_assoc]⟩
/-- What is to be shown of all steps is to be shown of one. -/
theorem recT_all {known sent : List (Option Tm)} {P : Option Tm → Prop} (l : List Mk) (hs : ∀ os x, x ∈ l → (∀ o ∈ os, P o) → P (stepT known sent os x)) : ∀ (os : List (Option Tm)), (∀ o ∈ os, P o) → ∀ o ∈ recT known sent l os, P o := by
  induction l with
  | nil => intro os h; exact h
  | cons x r ih =>
    intro os h
    rw [recT]
    refine ih (fun os x hx => hs os x (by simp [hx])) _ fun o ho => ?_
    rcases List.mem_append.1 ho with ho | ho
    · exact h o ho
    · rw [List.mem_singleton.1 ho]; exact hs os x (by simp) h

theorem openT_ok {p q : Option Tm} (h : okO p) : okO (openT p q) := by
  unfold openT
  cases p with
  | none => exact okO_none
  | some t =>
    dsimp only
    split
    · intro u hu
      have ht := h t rfl
      obtain ⟨k, a, b, s, args⟩ := t
      exact (ok_mk.1 ht).2.2 u (List.mem_of_getElem? hu)
    · exact okO_none
theorem atT_ok {p : Option Tm} {i : Int} (h : okO p) : okO (atT p i) := by
  unfold atT
  cases p with
  | none => exact okO_none
  | some t =>
    dsimp only
    split
    · intro u hu
      have ht := h t rfl
      obtain ⟨k, a, b, s, args⟩ := t
      exact (ok_mk.1 ht).2.2 u (List.mem_of_getElem? hu)
    · exact okO_none
theorem addT_ok {p q : Option Tm} (h : okO p) (hq : okO q) : okO (addT p q) := by
  unfold addT
  cases p with
  | none => exact okO_none
  | some t =>
    dsimp only
    split
    · refine listT_ok fun o ho => ?_
      have ht := h t rfl
      obtain ⟨k, a, b, s, args⟩ := t
      rcases List.mem_append.1 ho with ho | ho
      · obtain ⟨u, hu, rfl⟩ := List.mem_map.1 ho
        intro v hv
        obtain rfl := Option.some.inj hv
        exact (ok_mk.1 ht).2.2 _ hu
      · rw [List.mem_singleton.1 ho]; exact hq
    · exact okO_none
theorem stepT_ok {known sent made : List (Option Tm)} (x : Mk) (hk : ∀ o ∈ known, okO o) (hs : ∀ o ∈ sent, okO o) (hm : ∀ o ∈ made, okO o) : okO (stepT known sent made x) := by
  have a1 := fun i => pkO_all (P := okO) (os := made) i okO_none hm
  refine sel_all okO_none fun p hp e => ?_
  simp only [List.mem_cons, List.not_mem_nil, or_false] at hp
  rcases hp with rfl | rfl | rfl | rfl | rfl | rfl | rfl | rfl | rfl | rfl | rfl | rfl | rfl | rfl | rfl
  · exact dataT_ok _
  · exact nonceT_ok _ _
  · exact pkO_all _ okO_none hk
  · exact pkO_all _ okO_none hs
  · exact baseT_ok _
  · exact expT_ok (a1 _) (a1 _)
  · exact pubT_ok (a1 _)
  · exact signT_ok (a1 _) (a1 _)
  · exact hashT_ok (a1 _)
  · dsimp only
    split
    · exact okO_none
    · exact deriveT_ok (UInt8.toNat_lt _) (a1 _) (a1 _) (a1 _)
  · dsimp only
    split
    · exact sealT_ok (by omega) (a1 _) (a1 _)
    · exact okO_none
  · exact openT_ok (a1 _)
  · exact listT_ok (l := []) (fun _ h => absurd h (List.not_mem_nil))
  · exact addT_ok (a1 _) (a1 _)
  · exact atT_ok (a1 _)
end

section
open Classical

/-- How often a term is in a list. -/
noncomputable def cnt (x : Tm) (l : List Tm) : Nat := (l.filter fun y => decide (y = x)).length
theorem cnt_nil (x : Tm) : cnt x [] = 0 := rfl
theorem cnt_cons (x y : Tm) (l : List Tm) : cnt x (y :: l) = (if y = x then 1 else 0) + cnt x l := by
  unfold cnt
  rw [List.filter_cons]
  by_cases h : y = x
  · simp [h]; omega
  · simp [h]
theorem cnt_pos {x : Tm} : ∀ {l : List Tm}, 0 < cnt x l ↔ x ∈ l
  | [] => by simp [cnt_nil]
  | y :: l => by
    rw [cnt_cons, List.mem_cons]
    by_cases h : y = x
    · simp only [h, if_true, true_or, iff_true]; omega
    · have h' : ¬ x = y := fun e => h e.symm
      simp only [h, if_false, Nat.zero_add, h', false_or]
      exact cnt_pos
theorem cnt_ins (x y : Tm) : ∀ (l : List Tm), cnt x (ins y l) = (if y = x then 1 else 0) + cnt x l
  | [] => by rw [ins, cnt_cons, cnt_nil]
  | z :: l => by
    rw [ins]
    split
    · rw [cnt_cons, cnt_ins x y l, cnt_cons]; omega
    · rw [cnt_cons, cnt_cons]
/-- Can a nonce be made? -/
def nder (H : List Tm) (x : Tm) : Prop := x ∈ H ∨ (x.kind = 2 ∧ x.a = 0)
/-- Can a share with these exponents be made of one with less? -/
def fromP (H : List Tm) (exps less : List Tm) : Prop := (∀ x, cnt x less ≤ cnt x exps) ∧ ∀ x, cnt x less < cnt x exps → nder H x
def raiseP (H : List Tm) (s : List UInt8) (exps : List Tm) : Prop := fromP H exps [] ∨ ∃ y ∈ H, y.kind = 5 ∧ y.s = s ∧ fromP H exps y.args
mutual
def der (H : List Tm) : Tm → Prop
  | .mk k a b s args => .mk k a b s args ∈ H ∨ k = 1 ∨ (k = 2 ∧ a = 0) ∨ (k = 5 ∧ raiseP H s args) ∨ ((k = 4 ∨ k = 6 ∨ k = 7 ∨ k = 8 ∨ k = 9 ∨ k = 10) ∧ ders H args)
def ders (H : List Tm) : List Tm → Prop
  | [] => True
  | t :: r => der H t ∧ ders H r
end
theorem ders_iff {H : List Tm} : ∀ {l : List Tm}, ders H l ↔ ∀ t ∈ l, der H t
  | [] => by simp [ders]
  | t :: r => by rw [ders, ders_iff]; simp
theorem der_mk {H : List Tm} {k a b : Nat} {s : List UInt8} {args : List Tm} : der H (.mk k a b s args) ↔ .mk k a b s args ∈ H ∨ k = 1 ∨ (k = 2 ∧ a = 0) ∨ (k = 5 ∧ raiseP H s args) ∨ ((k = 4 ∨ k = 6 ∨ k = 7 ∨ k = 8 ∨ k = 9 ∨ k = 10) ∧ ∀ t ∈ args, der H t) := by rw [der, ders_iff]
theorem der_had {H : List Tm} {t : Tm} (h : t ∈ H) : der H t := by
  obtain ⟨k, a, b, s, args⟩ := t
  exact der_mk.2 (.inl h)
theorem der_nonce {H : List Tm} {t : Tm} (hk : t.kind = 2) : der H t ↔ nder H t := by
  obtain ⟨k, a, b, s, args⟩ := t
  have hk : k = 2 := hk
  subst hk
  rw [der_mk]
  unfold nder
  simp [Tm.kind, Tm.a]
theorem der_key {H : List Tm} {t : Tm} (hk : t.kind = 3) : der H t ↔ t ∈ H := by
  obtain ⟨k, a, b, s, args⟩ := t
  have hk : k = 3 := hk
  subst hk
  rw [der_mk]
  simp
theorem der_data {H : List Tm} {t : Tm} (hk : t.kind = 1) : der H t := by
  obtain ⟨k, a, b, s, args⟩ := t
  exact der_mk.2 (.inr (.inl hk))
theorem der_share {H : List Tm} {t : Tm} (hk : t.kind = 5) : der H t ↔ t ∈ H ∨ raiseP H t.s t.args := by
  obtain ⟨k, a, b, s, args⟩ := t
  have hk : k = 5 := hk
  subst hk
  rw [der_mk]
  simp [Tm.s, Tm.args]
theorem der_made {H : List Tm} {t : Tm} (hk : t.kind = 4 ∨ t.kind = 6 ∨ t.kind = 7 ∨ t.kind = 8 ∨ t.kind = 9 ∨ t.kind = 10) : der H t ↔ t ∈ H ∨ ∀ u ∈ t.args, der H u := by
  obtain ⟨k, a, b, s, args⟩ := t
  have hk : k = 4 ∨ k = 6 ∨ k = 7 ∨ k = 8 ∨ k = 9 ∨ k = 10 := hk
  rw [der_mk]
  show _ ↔ _ ∨ ∀ u ∈ args, der H u
  constructor
  · rintro (h | h | h | h | h)
    · exact .inl h
    · omega
    · omega
    · omega
    · exact .inr h.2
  · rintro (h | h)
    · exact .inl h
    · exact .inr (.inr (.inr (.inr ⟨hk, h⟩)))
theorem fromP_mono {H H' : List Tm} (h : ∀ x ∈ H, x ∈ H') {e l : List Tm} (hf : fromP H e l) : fromP H' e l :=
  ⟨hf.1, fun x hx => (hf.2 x hx).imp (h x) id⟩
theorem raiseP_mono {H H' : List Tm} (h : ∀ x ∈ H, x ∈ H') {s : List UInt8} {e : List Tm} (hf : raiseP H s e) : raiseP H' s e :=
  hf.imp (fromP_mono h) fun ⟨y, hy, h1, h2, h3⟩ => ⟨y, h y hy, h1, h2, fromP_mono h h3⟩
/-- How deep a term is. -/
theorem tm_rec {P : Tm → Prop} (h : ∀ t : Tm, (∀ u ∈ t.args, P u) → P t) : ∀ t, P t := fun t => by
  have key : ∀ (n : Nat) (t : Tm), SizeOf.sizeOf t ≤ n → P t := by
    intro n
    induction n with
    | zero => intro t ht; obtain ⟨k, a, b, s, args⟩ := t; simp at ht
    | succ n ih =>
      intro t ht
      refine h t fun u hu => ih u ?_
      obtain ⟨k, a, b, s, args⟩ := t
      have h1 := List.sizeOf_lt_of_mem (show u ∈ args from hu)
      simp only [Tm.mk.sizeOf_spec] at ht
      omega
  exact key _ t (Nat.le_refl _)
/-- More that is had makes no less. -/
theorem der_mono {H H' : List Tm} (h : ∀ x ∈ H, x ∈ H') : ∀ t, der H t → der H' t := by
  refine tm_rec fun t ih hd => ?_
  obtain ⟨k, a, b, s, args⟩ := t
  rw [der_mk] at hd ⊢
  rcases hd with hd | hd | hd | ⟨h5, hd⟩ | ⟨hk, hd⟩
  · exact .inl (h _ hd)
  · exact .inr (.inl hd)
  · exact .inr (.inr (.inl hd))
  · exact .inr (.inr (.inr (.inl ⟨h5, raiseP_mono h hd⟩)))
  · exact .inr (.inr (.inr (.inr ⟨hk, fun u hu => ih u hu (hd u hu)⟩)))
/-- The exponents of a share are nonces. -/
theorem ok_exps {t : Tm} (h : t.ok) (hk : t.kind = 5) : ∀ x ∈ t.args, x.kind = 2 := by
  obtain ⟨k, a, b, s, args⟩ := t
  exact ((ok_mk.1 h).2.1.2.1 hk).1
theorem ok_args {t : Tm} (h : t.ok) : ∀ x ∈ t.args, x.ok := by
  obtain ⟨k, a, b, s, args⟩ := t
  exact (ok_mk.1 h).2.2
theorem ok_kind {t : Tm} (h : t.ok) : 1 ≤ t.kind ∧ t.kind ≤ 10 := by
  obtain ⟨k, a, b, s, args⟩ := t
  have := (ok_mk.1 h).1
  unfold okHd at this
  show 1 ≤ k ∧ k ≤ 10
  omega
/-- A share that is made of one that can be made can be made. -/
theorem raise_of {H : List Tm} {y : Tm} (hy : y.ok) (hk : y.kind = 5) (hd : der H y) {e : List Tm} (hf : fromP H e y.args) : raiseP H y.s e := by
  rw [der_share hk] at hd
  rcases hd with hd | hd | ⟨z, hz, hz5, hzs, hd⟩
  · exact .inr ⟨y, hd, hk, rfl, hf⟩
  · refine .inl ⟨fun x => by rw [cnt_nil]; omega, fun x hx => ?_⟩
    rw [cnt_nil] at hx
    by_cases h : cnt x y.args < cnt x e
    · exact hf.2 x h
    · exact hd.2 x (by rw [cnt_nil]; omega)
  · refine .inr ⟨z, hz, hz5, hzs, fun x => Nat.le_trans (hd.1 x) (hf.1 x), fun x hx => ?_⟩
    by_cases h : cnt x y.args < cnt x e
    · exact hf.2 x h
    · exact hd.2 x (by omega)
/-- What is made of what can be made can be made. -/
theorem der_cut {H S : List Tm} (hS : ∀ x ∈ S, der H x) (hok : ∀ x ∈ S, x.ok) : ∀ t, t.ok → der S t → der H t := by
  refine tm_rec fun t ih ht hd => ?_
  have hn : t.kind = 5 → ∀ (e l : List Tm), (∀ x ∈ e, x.kind = 2) → fromP S e l → fromP H e l := fun _ e l he hf => ⟨hf.1, fun x hx => by
    have hxe : x ∈ e := cnt_pos.1 (by omega)
    rcases hf.2 x hx with h | h
    · exact (der_nonce (he x hxe)).1 (hS x h)
    · exact .inr h⟩
  by_cases h1 : t.kind = 1
  · exact der_data h1
  by_cases h2 : t.kind = 2
  · rw [der_nonce h2] at hd
    rcases hd with h | h
    · exact hS t h
    · exact (der_nonce h2).2 (.inr h)
  by_cases h3 : t.kind = 3
  · rw [der_key h3] at hd
    exact hS t hd
  by_cases h5 : t.kind = 5
  · rw [der_share h5] at hd
    have he := ok_exps ht h5
    rcases hd with h | h | ⟨y, hy, hy5, hys, h⟩
    · exact hS t h
    · exact (der_share h5).2 (.inr (.inl (hn h5 _ _ he h)))
    · have := raise_of (hok y hy) hy5 (hS y hy) (hn h5 _ _ he h)
      rw [hys] at this
      exact (der_share h5).2 (.inr this)
  · have hk : t.kind = 4 ∨ t.kind = 6 ∨ t.kind = 7 ∨ t.kind = 8 ∨ t.kind = 9 ∨ t.kind = 10 := by have := ok_kind ht; omega
    rw [der_made hk] at hd
    rcases hd with h | h
    · exact hS t h
    · exact (der_made hk).2 (.inr fun u hu => ih u hu (ok_args ht u hu) (h u hu))
/-- What is had of some terms: these, and what can be taken out. -/
inductive Hd (H0 : List Tm) : Tm → Prop
  | base {t : Tm} : t ∈ H0 → Hd H0 t
  | part {t u : Tm} : Hd H0 t → t.kind = 10 → u ∈ t.args → Hd H0 u
  | opn {t k c : Tm} (S : List Tm) : Hd H0 t → t.kind = 9 → t.args = [k, c] → (∀ x ∈ S, Hd H0 x) → der S k → Hd H0 c
/-- A list that has all that can be taken out of it. -/
structure Closed (l : List Tm) : Prop where
  part : ∀ t ∈ l, t.kind = 10 → ∀ u ∈ t.args, u ∈ l
  opn : ∀ t ∈ l, t.kind = 9 → ∀ k c, t.args = [k, c] → der l k → c ∈ l
theorem Hd.ok {H0 : List Tm} (h0 : ∀ t ∈ H0, t.ok) {t : Tm} (h : Hd H0 t) : t.ok := by
  induction h with
  | base h => exact h0 _ h
  | part _ _ hu ih => exact ok_args ih _ hu
  | opn S _ _ ha _ _ ih _ => exact ok_args ih _ (by rw [ha]; simp)
theorem Hd.mono {H0 H1 : List Tm} (h01 : ∀ t ∈ H0, t ∈ H1) {t : Tm} (h : Hd H0 t) : Hd H1 t := by
  induction h with
  | base h => exact .base (h01 _ h)
  | part _ hk hu ih => exact .part ih hk hu
  | opn S _ hk ha _ hd ih ihS => exact .opn S ih hk ha ihS hd
/-- A closed list that has the first ones has all that is had. -/
theorem Closed.of {H0 l : List Tm} (hc : Closed l) (h0 : ∀ t ∈ H0, t ∈ l) {t : Tm} (h : Hd H0 t) : t ∈ l := by
  induction h with
  | base h => exact h0 _ h
  | part _ hk hu ih => exact hc.part _ ih hk _ hu
  | opn S _ hk ha _ hd ih ihS => exact hc.opn _ ih hk _ _ ha (der_mono ihS _ hd)
/-- What can be made, once more: it takes nothing out. -/
theorem der_parts {l : List Tm} (hc : Closed l) {t : Tm} (hd : der l t) (hk : t.kind = 10) : ∀ u ∈ t.args, der l u := by
  rw [der_made (by omega)] at hd
  rcases hd with h | h
  · exact fun u hu => der_had (hc.part t h hk u hu)
  · exact h
theorem der_open {l : List Tm} (hc : Closed l) {t k c : Tm} (hd : der l t) (hk : t.kind = 9) (ha : t.args = [k, c]) (hdk : der l k) : der l c := by
  rw [der_made (by omega)] at hd
  rcases hd with h | h
  · exact der_had (hc.opn t h hk k c ha hdk)
  · exact h c (by rw [ha]; simp)
/-- Of terms that can be made of a closed list nothing else is had than what can be made. -/
theorem Hd.der {H0 l : List Tm} (hc : Closed l) (hlok : ∀ t ∈ H0, t.ok) (h0 : ∀ t ∈ H0, Go.Proofs.YtphnakdgpilcmaaGreatDoor.der l t) {t : Tm} (h : Hd H0 t) : Go.Proofs.YtphnakdgpilcmaaGreatDoor.der l t := by
  induction h with
  | base h => exact h0 _ h
  | part _ hk hu ih => exact der_parts hc ih hk _ hu
  | @opn t k c S ht hk ha hS hd ih ihS =>
    have hkok : k.ok := ok_args (ht.ok hlok) k (by rw [ha]; simp)
    exact der_open hc ih hk ha (der_cut ihS (fun x hx => (hS x hx).ok hlok) k hkok hd)
end

section
open Classical

/-- What of one sorted list is not in another one; is all of the other one in it? -/
noncomputable def restL : List Tm → List Tm → List Tm × Bool
  | [], os => ([], os.isEmpty)
  | x :: l, [] => (x :: l, true)
  | x :: l, o :: os => if o = x then restL l os else (x :: (restL l (o :: os)).1, (restL l (o :: os)).2)
theorem nle_anti {x y : Tm} (hx : x.ok) (hy : y.ok) (kx : x.kind = 2) (ky : y.kind = 2) (h1 : nle x y) (h2 : nle y x) : x = y := by
  obtain ⟨k, a, b, s, args⟩ := x
  obtain ⟨k', a', b', s', args'⟩ := y
  have kx : k = 2 := kx
  have ky : k' = 2 := ky
  subst kx ky
  have ox := (ok_mk.1 hx).1
  have oy := (ok_mk.1 hy).1
  simp only [okHd, reduceCtorEq, false_and, or_false, false_or, true_and, Nat.reduceEqDiff] at ox oy
  obtain ⟨_, _, rfl, hl⟩ := ox
  obtain ⟨_, _, rfl, hl'⟩ := oy
  obtain rfl := List.length_eq_zero_iff.1 hl
  obtain rfl := List.length_eq_zero_iff.1 hl'
  simp only [nle, Tm.a, Tm.b] at h1 h2
  have e1 : a = a' := by omega
  have e2 : b = b' := by omega
  rw [e1, e2]
theorem restL_ok : ∀ {l os : List Tm}, l.Pairwise nle → os.Pairwise nle → (∀ x ∈ l, x.ok ∧ x.kind = 2) → (∀ x ∈ os, x.ok ∧ x.kind = 2) →
    ((restL l os).2 = true ↔ ∀ x, cnt x os ≤ cnt x l) ∧ ((restL l os).2 = true → ∀ x, cnt x (restL l os).1 + cnt x os = cnt x l) ∧ ∀ x ∈ (restL l os).1, x ∈ l
  | [], os, _, _, _, _ => by
    refine ⟨?_, ?_, by simp [restL]⟩
    · cases os with
      | nil => simp [restL, cnt_nil]
      | cons o os =>
        simp only [restL, List.isEmpty_cons, Bool.false_eq_true, false_iff]
        intro h
        have := h o
        rw [cnt_cons, cnt_nil] at this
        simp at this
    · cases os with
      | nil => intro _ x; rfl
      | cons o os => intro h; simp [restL] at h
  | x :: l, [], _, _, _, _ => by
    refine ⟨?_, ?_, by simp [restL]⟩
    · simp only [restL, true_iff]
      intro z; rw [cnt_nil]; omega
    · intro _ z; simp only [restL, cnt_nil, Nat.add_zero]
  | x :: l, o :: os, hl, hos, kl, kos => by
    have hl' := List.pairwise_cons.1 hl
    have hos' := List.pairwise_cons.1 hos
    by_cases e : o = x
    · subst e
      have ih := restL_ok hl'.2 hos'.2 (fun z hz => kl z (by simp [hz])) (fun z hz => kos z (by simp [hz]))
      have er : restL (o :: l) (o :: os) = restL l os := by rw [restL, if_pos rfl]
      rw [er]
      refine ⟨?_, ?_, fun z hz => List.mem_cons_of_mem _ (ih.2.2 z hz)⟩
      · rw [ih.1]
        constructor
        · intro h z
          rw [cnt_cons, cnt_cons]
          have := h z
          omega
        · intro h z
          have := h z
          rw [cnt_cons, cnt_cons] at this
          omega
      · intro h z
        rw [cnt_cons, cnt_cons]
        have := ih.2.1 h z
        omega
    · have ih := restL_ok hl'.2 hos (fun z hz => kl z (by simp [hz])) kos
      have er : restL (x :: l) (o :: os) = (x :: (restL l (o :: os)).1, (restL l (o :: os)).2) := by rw [restL, if_neg e]
      rw [er]
      refine ⟨?_, ?_, fun z hz => ?_⟩
      · show (restL l (o :: os)).2 = true ↔ _
        rw [ih.1]
        constructor
        · intro h z
          have := h z
          rw [cnt_cons z x]
          omega
        · intro h z
          by_cases ez : x = z
          · subst ez
            have hn : x ∉ o :: os := fun hx => by
              rcases List.mem_cons.1 hx with hx | hx
              · exact e hx.symm
              · have ho : o ∈ x :: l := cnt_pos.1 (by have := h o; rw [cnt_cons] at this; simp at this; omega)
                rcases List.mem_cons.1 ho with ho | ho
                · exact e ho
                · exact e (nle_anti (kos o (by simp)).1 (kl x (by simp)).1 (kos o (by simp)).2 (kl x (by simp)).2 (hos'.1 x hx) (hl'.1 o ho))
            have : cnt x (o :: os) = 0 := by
              rcases Nat.eq_zero_or_pos (cnt x (o :: os)) with h0 | h0
              · exact h0
              · exact absurd (cnt_pos.1 h0) hn
            omega
          · have := h z
            rw [cnt_cons z x, if_neg ez] at this
            omega
      · intro h z
        have := ih.2.1 h z
        show cnt z (x :: (restL l (o :: os)).1) + _ = _
        rw [cnt_cons, cnt_cons z x]
        omega
      · rcases List.mem_cons.1 hz with hz | hz
        · rw [hz]; simp
        · exact List.mem_cons_of_mem _ (ih.2.2 z hz)
/-- What raise asks of one share. -/
theorem rest_from {H : List Tm} {e l : List Tm} (he : e.Pairwise nle) (hl : l.Pairwise nle) (ke : ∀ x ∈ e, x.ok ∧ x.kind = 2) (kl : ∀ x ∈ l, x.ok ∧ x.kind = 2) :
    ((restL e l).2 = true ∧ ∀ x ∈ (restL e l).1, nder H x) ↔ fromP H e l := by
  have h := restL_ok he hl ke kl
  constructor
  · rintro ⟨h1, h2⟩
    refine ⟨h.1.1 h1, fun x hx => h2 x (cnt_pos.1 ?_)⟩
    have := h.2.1 h1 x
    omega
  · rintro ⟨h1, h2⟩
    have hb := h.1.2 h1
    refine ⟨hb, fun x hx => h2 x ?_⟩
    have := h.2.1 hb x
    have := cnt_pos.2 hx
    omega
theorem all_from {H : List Tm} {e : List Tm} : (∀ x ∈ e, nder H x) ↔ fromP H e [] := by
  constructor
  · intro h
    exact ⟨fun x => by rw [cnt_nil]; omega, fun x hx => h x (cnt_pos.1 (by omega))⟩
  · rintro ⟨_, h⟩ x hx
    exact h x (by rw [cnt_nil]; exact cnt_pos.2 hx)
/-! ### Recipes -/
def derO (l : List Tm) (o : Option Tm) : Prop := ∀ t, o = some t → der l t
theorem derO_none {l : List Tm} : derO l none := fun _ e => by cases e
theorem derO_mk {l : List Tm} {k a b : Nat} {s : List UInt8} {os : List (Option Tm)} (hk : k = 4 ∨ k = 6 ∨ k = 7 ∨ k = 8 ∨ k = 9 ∨ k = 10) (ho : ∀ o ∈ os, derO l o) : derO l (mkO k a b s os) := fun t ht => by
  obtain ⟨r, e, rfl, _⟩ := mkO_some ht
  refine (der_made (t := .mk k a b s r) hk).2 (.inr fun u hu => ho (some u) ?_ u rfl)
  rw [e]
  exact List.mem_map.2 ⟨u, hu, rfl⟩
theorem derO_data {l : List Tm} {s : List UInt8} : derO l (dataT s) := fun t ht => by
  obtain ⟨r, _, rfl, _⟩ := mkO_some ht
  exact der_data rfl
theorem derO_nonce0 {l : List Tm} {q : Int} : derO l (nonceT 0 q) := fun t ht => by
  unfold nonceT at ht
  split at ht
  · obtain ⟨r, _, rfl, _⟩ := mkO_some ht
    exact (der_nonce rfl).2 (.inr ⟨rfl, rfl⟩)
  · cases ht
theorem derO_base {l : List Tm} {s : List UInt8} : derO l (baseT s) := fun t ht => by
  unfold baseT at ht
  split at ht
  · obtain ⟨r, e, rfl, _⟩ := mkO_some ht
    obtain rfl := map_some_nil e
    exact (der_share rfl).2 (.inr (.inl (all_from.1 (fun x hx => absurd hx List.not_mem_nil))))
  · cases ht
theorem derO_exp {l : List Tm} {so xo : Option Tm} (hs : derO l so) (hx : derO l xo) (os : okO so) (ox : okO xo) : derO l (expT so xo) := fun t ht => by
  unfold expT at ht
  split at ht
  · rename_i sx x
    split at ht
    · rename_i hc
      obtain ⟨r, e, rfl, _⟩ := mkO_some ht
      have hr : r = ins x sx.args := by
        have := congrArg (List.filterMap id) e
        simpa using this.symm
      subst hr
      refine (der_share rfl).2 (.inr ?_)
      have hk5 : sx.kind = 5 := hc.1
      have hk2 : x.kind = 2 := hc.2.1
      exact raise_of (os sx rfl) hk5 (hs sx rfl) ⟨fun z => by show cnt z sx.args ≤ cnt z (ins x sx.args); rw [cnt_ins]; omega, fun z hz => by
        replace hz : cnt z sx.args < cnt z (ins x sx.args) := hz
        rw [cnt_ins] at hz
        by_cases ez : x = z
        · subst ez; exact (der_nonce hk2).1 (hx x rfl)
        · rw [if_neg ez] at hz; omega⟩
    · cases ht
  · cases ht
theorem derO_step {l : List Tm} (hc : Closed l) {known sent made : List (Option Tm)} (x : Mk) (hk : ∀ o ∈ known, derO l o) (hs : ∀ o ∈ sent, derO l o) (hm : ∀ o ∈ made, derO l o ∧ okO o) : derO l (stepT known sent made x) := by
  have a1 := fun i => (pkO_all (P := fun o => derO l o ∧ okO o) (os := made) i ⟨derO_none, okO_none⟩ hm)
  refine sel_all derO_none fun p hp e => ?_
  simp only [List.mem_cons, List.not_mem_nil, or_false] at hp
  rcases hp with rfl | rfl | rfl | rfl | rfl | rfl | rfl | rfl | rfl | rfl | rfl | rfl | rfl | rfl | rfl
  · exact derO_data
  · exact derO_nonce0
  · exact pkO_all _ derO_none hk
  · exact pkO_all _ derO_none hs
  · exact derO_base
  · exact derO_exp (a1 _).1 (a1 _).1 (a1 _).2 (a1 _).2
  · dsimp only [pubT]
    split
    · exact derO_mk (.inl rfl) fun o ho => by rw [List.mem_singleton.1 ho]; exact (a1 _).1
    · exact derO_none
  · dsimp only [signT]
    split
    · refine derO_mk (.inr (.inl rfl)) fun o ho => ?_
      simp only [List.mem_cons, List.not_mem_nil, or_false] at ho
      rcases ho with rfl | rfl <;> exact (a1 _).1
    · exact derO_none
  · exact derO_mk (.inr (.inr (.inl rfl))) fun o ho => by rw [List.mem_singleton.1 ho]; exact (a1 _).1
  · dsimp only
    split
    · exact derO_none
    · refine derO_mk (.inr (.inr (.inr (.inl rfl)))) fun o ho => ?_
      simp only [List.mem_cons, List.not_mem_nil, or_false] at ho
      rcases ho with rfl | rfl | rfl <;> exact (a1 _).1
  · dsimp only
    split
    · refine derO_mk (.inr (.inr (.inr (.inr (.inl rfl))))) fun o ho => ?_
      simp only [List.mem_cons, List.not_mem_nil, or_false] at ho
      rcases ho with rfl | rfl <;> exact (a1 _).1
    · exact derO_none
  · dsimp only [openT]
    have h1 := a1 x.a
    have h2 := a1 x.b
    revert h1 h2
    cases pkO made x.a with
    | none => intro _ _; exact derO_none
    | some t =>
      intro h1 h2
      dsimp only
      split
      · rename_i hcc
        intro u hu
        have hok := h1.2 t rfl
        have hl : t.args.length = 2 := by
          obtain ⟨k, a, b, s, args⟩ := t
          have h9 : k = 9 := hcc.1
          have ho := (ok_mk.1 hok).1
          subst h9
          simp only [okHd, reduceCtorEq, false_and, or_false, false_or, true_and, Nat.reduceEqDiff] at ho
          exact ho.2.2.2
        obtain ⟨k, c, hkc⟩ : ∃ k c, t.args = [k, c] := by
          revert hl
          cases t.args with
          | nil => intro hl; cases hl
          | cons k r =>
            cases r with
            | nil => intro hl; cases hl
            | cons c r =>
              cases r with
              | nil => intro _; exact ⟨k, c, rfl⟩
              | cons d r => intro hl; simp at hl
        have hq := hcc.2
        rw [hkc] at hq hu
        have hu : some c = some u := hu
        obtain rfl := Option.some.inj hu
        have hq : some k = pkO made x.b := hq
        exact der_open hc (h1.1 t rfl) hcc.1 hkc (h2.1 k hq.symm)
      · exact derO_none
  · show derO l (listT [])
    unfold listT
    rw [if_pos (by decide)]
    exact derO_mk (.inr (.inr (.inr (.inr (.inr rfl))))) fun o ho => absurd ho List.not_mem_nil
  · dsimp only [addT]
    have h1 := a1 x.a
    have h2 := a1 x.b
    revert h1 h2
    cases pkO made x.a with
    | none => intro _ _; exact derO_none
    | some t =>
      intro h1 h2
      dsimp only
      split
      · rename_i hcc
        unfold listT
        split
        · refine derO_mk (.inr (.inr (.inr (.inr (.inr rfl))))) fun o ho => ?_
          rcases List.mem_append.1 ho with ho | ho
          · obtain ⟨u, hu, rfl⟩ := List.mem_map.1 ho
            intro v hv
            obtain rfl := Option.some.inj hv
            exact der_parts hc (h1.1 t rfl) hcc _ hu
          · rw [List.mem_singleton.1 ho]; exact h2.1
        · exact derO_none
      · exact derO_none
  · dsimp only [atT]
    have h1 := a1 x.a
    revert h1
    cases pkO made x.a with
    | none => intro _; exact derO_none
    | some t =>
      intro h1
      dsimp only
      split
      · rename_i hcc
        intro u hu
        exact der_parts hc (h1.1 t rfl) hcc.1 u (List.mem_of_getElem? hu)
      · exact derO_none
/-- WHATEVER A RECIPE MAKES CAN BE MADE. -/
theorem derO_rec {l : List Tm} (hc : Closed l) {known sent : List (Option Tm)} (ops : List Mk) (hk : ∀ o ∈ known, derO l o ∧ okO o) (hs : ∀ o ∈ sent, derO l o ∧ okO o) : ∀ o ∈ recT known sent ops [], derO l o ∧ okO o :=
  recT_all (P := fun o => derO l o ∧ okO o) ops (fun os x _ ho => ⟨derO_step hc x (fun o h => (hk o h).1) (fun o h => (hs o h).1) ho, stepT_ok x (fun o h => (hk o h).2) (fun o h => (hs o h).2) (fun o h => (ho o h).2)⟩) [] (fun _ h => absurd h List.not_mem_nil)
/-- A list of what is had. -/
structure Mind (H0 l : List Tm) : Prop where
  closed : Closed l
  all : ∀ t ∈ H0, t ∈ l
  had : ∀ t ∈ l, Hd H0 t
  once : l.Nodup
theorem Mind.iff {H0 l : List Tm} (h : Mind H0 l) {t : Tm} : t ∈ l ↔ Hd H0 t := ⟨h.had t, h.closed.of h.all⟩
/-- WITH MORE, NO LESS CAN BE MADE. -/
theorem Mind.more {H0 H1 l0 l1 : List Tm} (h0 : Mind H0 l0) (h1 : Mind H1 l1) (h01 : ∀ t ∈ H0, t ∈ H1) {t : Tm} (hd : der l0 t) : der l1 t :=
  der_mono (fun x hx => h1.iff.2 ((h0.had x hx).mono h01)) t hd
/-- WHAT CAN BE MADE ALREADY MAKES NOTHING NEW. -/
theorem Mind.nothing {H0 H1 l0 l1 : List Tm} (h0 : Mind H0 l0) (h1 : Mind H1 l1) (hok : ∀ t ∈ H1, t.ok) (h01 : ∀ t ∈ H1, der l0 t) {t : Tm} (ht : t.ok) (hd : der l1 t) : der l0 t :=
  der_cut (fun x hx => (h1.had x hx).der h0.closed hok h01) (fun x hx => (h1.had x hx).ok hok) t ht hd
/-- Nothing more can be taken out of a term. -/
def SplitD (l : List Tm) (t : Tm) : Prop := (t.kind = 10 → ∀ u ∈ t.args, u ∈ l) ∧ (t.kind = 9 → ∀ k c, t.args = [k, c] → der l k → c ∈ l)
theorem closed_of {l : List Tm} (h : ∀ t ∈ l, SplitD l t) : Closed l := ⟨fun t ht => (h t ht).1, fun t ht => (h t ht).2⟩
theorem Mind.len {H0 l l' : List Tm} (h : Mind H0 l) (h' : Mind H0 l') : l.length = l'.length :=
  ((List.perm_ext_iff_of_nodup h.once h'.once).2 fun _ => h.iff.trans h'.iff.symm).length_eq
theorem Mind.same {H0 l l' : List Tm} (h : Mind H0 l) (h' : Mind H0 l') {t : Tm} : der l t ↔ der l' t :=
  ⟨der_mono (fun _ hx => h'.iff.2 (h.iff.1 hx)) t, der_mono (fun _ hx => h.iff.2 (h'.iff.1 hx)) t⟩
/-- Of terms that are had, what is taken out is had. -/
theorem had_part {H0 l : List Tm} (h : ∀ t ∈ l, Hd H0 t) {t u : Tm} (ht : t ∈ l) (hk : t.kind = 10) (hu : u ∈ t.args) : Hd H0 u := .part (h t ht) hk hu
theorem had_open {H0 l : List Tm} (h : ∀ t ∈ l, Hd H0 t) {t k c : Tm} (ht : t ∈ l) (hk : t.kind = 9) (ha : t.args = [k, c]) (hd : der l k) : Hd H0 c := .opn l (h t ht) hk ha h hd
end

section
open Go.RowKit Go.Maps

def freshT (s n : Int) : Option Tm := if 0 ≤ s ∧ s < 2147483647 then nonceT (s + 1) n else none
def chkB (g : List UInt8) (o : Option Tm) : Bool := match o with
  | some t => t.kind == 5 && t.s == g && decide (1 ≤ t.args.length) && decide (t.args.length < 8)
  | none => false
def zN5 : Array Value := #[.int .i64 0, .int .i64 0, .int .i64 0, .string ⟨#[]⟩, .slice none 0 0]
/-- The world behind a struct's copy into a block of its own. -/
def cpW (w : World) (cs : Array Value) : World := (w.alloc (.cells #[.int .i64 0, .int .i64 0, .int .i64 0, .string ⟨#[]⟩, .slice none 0 0] 52)).setRow w.heap.size cs
theorem cpW_row (w : World) (cs : Array Value) : (cpW w cs).heap[w.heap.size]? = some (.cells cs 52 (0, 0)) := hsetRow _ _ _ _ _ _ (heap_new w _)
theorem cpW_below (w : World) (cs : Array Value) : Below w.heap.size w (cpW w cs) := below_setRow (below_new w _) (Nat.le_refl _) _
theorem bs_ext_ {x y : ByteArray} (h : x.toList = y.toList) : x = y := by
  rw [ByteArray.toList_eq, ByteArray.toList_eq] at h
  cases x; cases y
  simp only [ByteArray.mk.injEq]
  exact Array.toList_inj.1 h
end

section
open Go.RowKit Go.Maps

/-- A list with at most so many terms more. -/
def Ext (L L' : List Tm) (k : Nat) : Prop := ∃ r, L' = L ++ r ∧ r.length ≤ k
theorem Ext.refl (L : List Tm) : Ext L L 0 := ⟨[], by simp, by simp⟩
theorem Ext.trans {a b c : List Tm} {j k : Nat} (h : Ext a b j) (h2 : Ext b c k) : Ext a c (j + k) := by
  obtain ⟨r, rfl, hr⟩ := h
  obtain ⟨s, rfl, hs⟩ := h2
  exact ⟨r ++ s, by simp, by simp; omega⟩
theorem Ext.mono {a b : List Tm} {j k : Nat} (h : Ext a b j) (hjk : j ≤ k) : Ext a b k := by
  obtain ⟨r, e, hr⟩ := h
  exact ⟨r, e, by omega⟩
theorem Ext.of_grow {L L' : List Tm} {o : Option Tm} (h : Grow L L' o) : Ext L L' 1 := by
  rcases h with ⟨rfl, _⟩ | ⟨t, _, _, rfl⟩
  · exact ⟨[], by simp, by simp⟩
  · exact ⟨[t], rfl, by simp⟩
theorem Ext.len {L L' : List Tm} {k : Nat} (h : Ext L L' k) : L'.length ≤ L.length + k := by
  obtain ⟨r, rfl, hr⟩ := h
  simp; omega
theorem Nm.ext {L L' : List Tm} {x : Int} {o : Option Tm} {k : Nat} (h : Nm L x o) (e : Ext L L' k) : Nm L' x o := by
  obtain ⟨r, rfl, _⟩ := e
  exact h.app
theorem Nm.of_get {L : List Tm} {x : Int} {t : Tm} (h : get L x = some t) : Nm L x (some t) := ⟨h, fun e => by cases e⟩
/-- A term more, in at most so many steps. -/
def SP (w : World) (g : Nat) (W : World) (L : List Tm) (k : Nat) (o : Option Tm) (r : Ending) (W' : World) : Prop := ∃ L' x, r = .returned (.int .i64 x) ∧ St w g W' L' ∧ Ext L L' k ∧ Nm L' x o ∧ Stay W W' ∧ W.heap.size ≤ W'.heap.size
theorem SP.of_sr {w : World} {g : Nat} {W : World} {L : List Tm} {o : Option Tm} {r : Ending} {W' : World} (h : SR w g W L o r W') : SP w g W L 1 o r W' := by
  obtain ⟨L', x, e, hS, hG, hM, hY, hZ, -⟩ := h
  exact ⟨L', x, e, hS, .of_grow hG, hM, hY, hZ⟩
def offerT (g : List UInt8) (x : Option Tm) : Option Tm := expT (baseT g) x
def secretT (g : List UInt8) (s x : Option Tm) : Option Tm := if chkB g s then expT s x else none
def errT (o : Option Tm) : Int := match o with | none => 5 | some _ => 0
section
variable {w : World} {g : Nat} {W : World} {L : List Tm} (h : St w g W L)
include h
theorem St.view_none (x : Int) (hg : get L x = none) : Calls Tryz.prog 23 #[.pointer (some ⟨g, 0, none⟩), .int .i64 x] W fun r w' => r = .returned (.tuple #[.agg zNd.toArray, .bool false]) ∧ Below W.heap.size W w' := by
  obtain ⟨A, rfl, rfl, H, _⟩ := h; exact Go.Proofs.YtphnakdgpilcmaaGreatDoor.view_none A _ W H x hg
theorem St.view_some (x : Int) (t : Tm) (hg : get L x = some t) : Calls Tryz.prog 23 #[.pointer (some ⟨g, 0, none⟩), .int .i64 x] W fun r w' => ∃ (Av : Option Addr) (c : Nat) (xs : List Nat), r = .returned (.tuple #[.agg (ndC t.kind t.a t.b t.s (.slice Av t.args.length c)).toArray, .bool true]) ∧ Rws w' 1 Av t.args.length (xs.map idv) ∧ xs.map (fun i => L[i]?) = t.args.map some ∧ Below W.heap.size W w' := by
  obtain ⟨A, rfl, rfl, H, _⟩ := h; exact Go.Proofs.YtphnakdgpilcmaaGreatDoor.view_some A _ W H x t hg
end
end

section
/-- Known numbers, with what they name. -/
def Kn (L : List Tm) (ks : List (Int × Option Tm)) : Prop := ∀ k ∈ ks, Nm L k.1 k.2
theorem Kn.nil_ (L : List Tm) : Kn L [] := fun _ h => by cases h
theorem Kn.ext {L L' : List Tm} {ks : List (Int × Option Tm)} {k : Nat} (h : Kn L ks) (e : Ext L L' k) : Kn L' ks := fun x hx => (h x hx).ext e
theorem Kn.add {L : List Tm} {ks : List (Int × Option Tm)} (h : Kn L ks) {z : Int} {o : Option Tm} (hz : Nm L z o) : Kn L ((z, o) :: ks) := fun x hx => by
  rcases List.mem_cons.1 hx with rfl | hx
  · exact hz
  · exact h x hx
theorem Kn.beq {L : List Tm} {ks : List (Int × Option Tm)} (h : Kn L ks) (hn : L.Nodup) {x y : Int} {o p : Option Tm} (hx : (x, o) ∈ ks) (hy : (y, p) ∈ ks) {b : Prop} [Decidable b] (hb : o = p ↔ b) : (x == y) = decide b := by
  have := (Nm.inj hn (h _ hx) (h _ hy)).trans hb
  rw [Bool.eq_iff_iff]
  simpa using this
def nT (a b : Nat) : Tm := .mk 2 (a + 1) b [] []
theorem nT_inj {a b c d : Nat} : nT a b = nT c d ↔ a = c ∧ b = d := by
  unfold nT
  constructor
  · intro h; injection h with _ h1 h2; exact ⟨by omega, h2⟩
  · rintro ⟨rfl, rfl⟩; rfl
theorem freshT_eq {a b : Nat} (ha : a ≤ 65535) (hb : b ≤ 65535) : freshT a b = some (nT a b) := by
  unfold freshT
  rw [if_pos ⟨by omega, by omega⟩]
  unfold nonceT
  rw [if_pos ⟨by unfold numOk; omega, by unfold numOk; omega⟩]
  have h1 : ((a : Int) + 1).toNat = a + 1 := by omega
  rw [h1, Int.toNat_natCast]
  simp [mkO, alls, own, lens, nT]
theorem nT_ok {a b : Nat} (ha : a ≤ 65535) (hb : b ≤ 65535) : (nT a b).ok ∧ (nT a b).kind = 2 := by
  have h := freshT_eq ha hb
  unfold freshT at h
  rw [if_pos ⟨by omega, by omega⟩] at h
  exact nonceT_kind h
/-- A share of a group with these exponents. -/
def shT (g : List UInt8) (xs : List Tm) : Tm := .mk 5 0 0 g (insAll [] xs)
theorem shT_eq {g : List UInt8} (h1 : 1 ≤ g.length) (h2 : g.length ≤ 2100) {xs : List Tm} (hx : ∀ t ∈ xs, t.ok ∧ t.kind = 2) (hn : xs.length ≤ 8) : exps (baseT g) (xs.map some) = some (shT g xs) := by
  have hb : baseT g = some (.mk 5 0 0 g []) := by
    unfold baseT
    rw [if_pos ⟨h1, h2⟩]
    have : own 5 g.length = 9 + g.length := rfl
    simp [mkO, alls, lens, this]
    omega
  rw [hb, exps_some h2 xs [] hx (by simp) (by simpa using hn)]
  rfl
theorem offer_eq {g : List UInt8} (h1 : 1 ≤ g.length) (h2 : g.length ≤ 2100) {x : Tm} (hx : x.ok ∧ x.kind = 2) : offerT g (some x) = some (shT g [x]) := by
  have := shT_eq h1 h2 (xs := [x]) (by simpa using hx) (by simp)
  exact this
theorem secret_eq {g : List UInt8} (h1 : 1 ≤ g.length) (h2 : g.length ≤ 2100) {x y : Tm} (hx : x.ok ∧ x.kind = 2) (hy : y.ok ∧ y.kind = 2) : secretT g (some (shT g [x])) (some y) = some (shT g [x, y]) := by
  have hc : chkB g (some (shT g [x])) = true := by simp [chkB, shT, insAll, ins, Tm.kind, Tm.s, Tm.args]
  unfold secretT
  rw [if_pos hc]
  have h := shT_eq h1 h2 (xs := [x, y]) (by simpa using ⟨hx, hy⟩) (by simp)
  have e : exps (baseT g) ([x, y].map some) = expT (exps (baseT g) ([x].map some)) (some y) := rfl
  rw [e, shT_eq h1 h2 (xs := [x]) (by simpa using hx) (by simp)] at h
  exact h
theorem secret_other {g o : List UInt8} {x : Tm} {y : Option Tm} (h : o ≠ g) : secretT g (some (shT o [x])) y = none := by
  have hc : ¬ chkB g (some (shT o [x])) = true := by simp [chkB, shT, Tm.kind, Tm.s, Tm.args, h]
  unfold secretT
  rw [if_neg hc]
theorem shT_same {g o : List UInt8} {x y z : Tm} (hx : x.ok ∧ x.kind = 2) (hy : y.ok ∧ y.kind = 2) (hz : z.ok ∧ z.kind = 2) : shT g [x, y] = shT o [x, z] ↔ g = o ∧ y = z := by
  constructor
  · intro h
    unfold shT at h
    injection h with _ _ _ h1 h2
    have p1 := insAll_perm [x, y] []
    have p2 := insAll_perm [x, z] []
    rw [h2] at p1
    have p := p1.symm.trans p2
    simp only [List.cons_append, List.nil_append, List.append_nil] at p
    have := (List.perm_cons x).1 p
    exact ⟨h1, by simpa using this⟩
  · rintro ⟨rfl, rfl⟩; rfl
theorem shT_swap {g : List UInt8} {x y : Tm} (hx : x.ok ∧ x.kind = 2) (hy : y.ok ∧ y.kind = 2) : shT g [x, y] = shT g [y, x] := by
  unfold shT
  have p : (insAll [] [x, y]).Perm (insAll [] [y, x]) := by
    have p1 := insAll_perm [x, y] []
    have p2 := insAll_perm [y, x] []
    simp only [List.cons_append, List.nil_append] at p1 p2
    exact p1.trans ((List.Perm.swap y x []).trans p2.symm)
  have hm : ∀ (l : List Tm), (∀ t ∈ l, t.ok ∧ t.kind = 2) → ∀ t ∈ insAll [] l, t.ok ∧ t.kind = 2 := fun l hl t ht => by
    have := (insAll_perm l []).mem_iff.1 ht
    exact hl t (by simpa using this)
  rw [sorted_same (hm _ (by simpa using ⟨hx, hy⟩)) (hm _ (by simpa using ⟨hy, hx⟩)) (insAll_sorted _ List.Pairwise.nil) (insAll_sorted _ List.Pairwise.nil) p]
end

section
open Go

/-- A frame, with some slots written. -/
def upd (us : List (Nat × Value)) (A : Array Value) : Array Value := us.foldl (fun A p => A.setIfInBounds p.1 p.2) A
theorem gd_eq {A : Array Value} {s : Nat} {v : Value} (h : s < A.size) : (A.setIfInBounds s v).getD s undef = v := by simp [Array.getD_eq_getD_getElem?, h]
theorem gd_ne {A : Array Value} {s r : Nat} {v : Value} (h : s ≠ r) : (A.setIfInBounds s v).getD r undef = A.getD r undef := by simp [Array.getD_eq_getD_getElem?, Array.getElem?_setIfInBounds, h]
theorem gd_out {A : Array Value} {s : Nat} (h : A.size ≤ s) : A.getD s undef = undef := by simp [Array.getD_eq_getD_getElem?, Array.getElem?_eq_none h]
theorem arr_ext {T U : Array Value} (hs : T.size = U.size) (h : ∀ s, T.getD s undef = U.getD s undef) : T = U := by
  refine Array.ext hs fun i h1 h2 => ?_
  have := h i
  simpa [Array.getD_eq_getD_getElem?, Array.getElem?_eq_getElem h1, Array.getElem?_eq_getElem h2] using this
theorem upd_eq {T : Array Value} : ∀ {us : List (Nat × Value)} {A : Array Value}, T.size = A.size → (∀ p ∈ us, T.getD p.1 undef = p.2) → (∀ s, s ∉ us.map Prod.fst → T.getD s undef = A.getD s undef) → T = upd us A
  | [], A, hs, _, h => arr_ext hs fun s => h s (by simp)
  | (s, v) :: r, A, hs, hv, h => by
    have h0 : T.getD s undef = v := hv (s, v) (by simp)
    refine upd_eq (us := r) (A := A.setIfInBounds s v) (by simpa using hs) (fun p hp => hv p (by simp [hp])) fun s' hs' => ?_
    by_cases e : s = s'
    · subst e
      rcases Nat.lt_or_ge s A.size with h1 | h1
      · rw [gd_eq h1, h0]
      · rw [gd_out (by omega), gd_out (by simpa using h1)]
    · rw [gd_ne e]
      exact h s' (by simp only [List.map_cons, List.mem_cons, not_or]; exact ⟨Ne.symm e, hs'⟩)
/-- No other operation writes this slot. -/
def uniq (ds : List (Option Nat)) (k s : Nat) : Bool := (List.range ds.length).all fun j => j == k || ds[j]? != some (some s)
theorem uniq_of {ds : List (Option Nat)} {k s j : Nat} (h : uniq ds k s = true) (hj : ds[j]? = some (some s)) : j = k := by
  unfold uniq at h
  have hl : j < ds.length := by
    rcases Nat.lt_or_ge j ds.length with h1 | h1
    · exact h1
    · rw [List.getElem?_eq_none h1] at hj; cases hj
  have := List.all_eq_true.1 h j (List.mem_range.2 hl)
  rw [hj] at this
  simpa using this
section
variable (T0 : Array Value) (ds : List (Option Nat)) (vs : List (Option Value)) (Wi : (Nat → Bool) → Array Value → World → Prop)
/-- What is known of the frame. -/
structure FW (L : Nat → Bool) (T : Array Value) : Prop where
  size : T.size = T0.size
  old : ∀ s, some s ∉ ds → T.getD s undef = T0.getD s undef
  val : ∀ k s u, L k = true → ds[k]? = some (some s) → vs[k]? = some (some u) → T.getD s undef = u
def IW (L : Nat → Bool) (ac : Act) (W : World) : Prop := ∃ T, ac = ⟨T, []⟩ ∧ FW T0 ds vs L T ∧ Wi L T W
end
section
variable {T0 : Array Value} {ds : List (Option Nat)} {vs : List (Option Value)} {Wi : (Nat → Bool) → Array Value → World → Prop} {L : Nat → Bool} {T : Array Value} {W' : World}
theorem FW.put (h : FW T0 ds vs L T) {k s : Nat} {v : Value} (hk : ds[k]? = some (some s)) (hu : uniq ds k s = true) {N : Nat} (hN : T0.size = N) (hs : s < N) (hv : ∀ u, vs[k]? = some (some u) → v = u) (hW : Wi (fun q => q == k || L q) (T.setIfInBounds s v) W') :
    IW T0 ds vs Wi (fun q => q == k || L q) ⟨T.setIfInBounds s v, []⟩ W' := by
  refine ⟨_, rfl, ⟨by simpa using h.size, fun r hr => ?_, fun j r u hl hj hv' => ?_⟩, hW⟩
  · have : s ≠ r := fun e => hr (by rw [← e]; exact List.mem_of_getElem? hk)
    rw [gd_ne this]
    exact h.old r hr
  · by_cases e : j = k
    · subst e
      rw [hk] at hj
      obtain rfl := Option.some.inj (Option.some.inj hj)
      rw [gd_eq (by rw [h.size, hN]; exact hs)]
      exact hv u hv'
    · have hne : s ≠ r := fun e' => e (uniq_of hu (by rw [e']; exact hj))
      rw [gd_ne hne]
      exact h.val j r u (by simpa [e] using hl) hj hv'
theorem FW.pass (h : FW T0 ds vs L T) {k : Nat} (hk : ds[k]? = some none) (hW : Wi (fun q => q == k || L q) T W') : IW T0 ds vs Wi (fun q => q == k || L q) ⟨T, []⟩ W' := by
  refine ⟨_, rfl, ⟨h.size, h.old, fun j r u hl hj hv' => h.val j r u ?_ hj hv'⟩, hW⟩
  by_cases e : j = k
  · subst e; rw [hk] at hj; cases hj
  · simpa [e] using hl
theorem FW.fin (h : FW T0 ds vs L T) (us : List (Nat × Value)) (keys : List Nat) (hkeys : us.map Prod.fst = keys) (hv : ∀ p ∈ us, T.getD p.1 undef = p.2) (hc : (ds.all fun x => match x with | none => true | some s => keys.contains s) = true) : T = upd us T0 := by
  refine upd_eq h.size hv fun s hs => h.old s fun hd => hs ?_
  have := List.all_eq_true.1 hc (some s) hd
  rw [hkeys]
  simpa using this
end
section
variable {P : Program} {ops : Array Oper} {Q : Exit → Act → World → Prop} {T0 : Array Value} {w : World}
/-- Which operations must have come up ahead of each. -/
def tbOk (ops : List Oper) (tb : List (List Nat)) : Bool := (List.range tb.length).all fun k => (tb.getD k []).all fun n => match ops[k]? with | some o => hasDep .any o n | none => false
theorem tb_of {ops : List Oper} {tb : List (List Nat)} (h : tbOk ops tb = true) {k n : Nat} (hn : n ∈ tb.getD k []) : ∃ o, ops[k]? = some o ∧ hasDep .any o n = true := by
  have hk : k < tb.length := by
    rcases Nat.lt_or_ge k tb.length with h1 | h1
    · exact h1
    · simp [List.getD_eq_getElem?_getD, List.getElem?_eq_none h1] at hn
  have := List.all_eq_true.1 (List.all_eq_true.1 h k (List.mem_range.2 hk)) n hn
  cases ho : ops[k]? with
  | none => rw [ho] at this; cases this
  | some o => rw [ho] at this; exact ⟨o, rfl, this⟩
theorem region_iw {id : Nat} (tb : List (List Nat)) (ds : List (Option Nat)) (vs : List (Option Value)) (Wi : (Nat → Bool) → Array Value → World → Prop) (hlen : vs.length = ops.size) (htb : tbOk ops.toList tb = true) (hm : P.follows .mixedOrders = true)
    (hlt : ∀ (i : Nat) (o : Oper), ops[i]? = some o → ∀ e ∈ o.after, Region.binds .any e = true → e.on < i)
    (hstep : ∀ T1, T1 = T0 → ∀ (L : Nat → Bool) (T : Array Value) (W : World) (i : Nat) (o : Oper), FW T1 ds vs L T → Wi L T W → (∀ k n, L k = true → n ∈ tb.getD k [] → L n = true) → ops.toList[i]? = some o → L i = false → (∀ e ∈ o.after, Region.binds .any e = true → L e.on = true) →
      ∀ K : Act → World → Prop, (∀ a' w', IW T1 ds vs Wi (fun j => j == i || L j) a' w' → K a' w') → if Region.wanted o (yielded ops T) = true then Oper.wp P o ⟨T, []⟩ W K Q else K ((⟨T, []⟩ : Act).put o.dst undef) W)
    (hdone : ∀ L T W, FW T0 ds vs L T → Wi L T W → (∀ i, i < ops.size → L i = true) → Q .normal ⟨T, []⟩ W)
    (hstart : Wi (fun j => (Array.replicate ops.size false).getD j true) T0 w.drew) : (Code.region id ops true).wp P Q ⟨T0, []⟩ w := by
  refine region_inv (md := .any) (fun L a W => IW T0 ds vs Wi L a W ∧ ∀ k n, k < ops.size → L k = true → n ∈ tb.getD k [] → L n = true) hlt ?_ ?_ rfl hm ⟨⟨T0, rfl, ⟨rfl, fun _ _ => rfl, fun k s u hl _ hv => ?_⟩, hstart⟩, fun k n hk hl _ => ?_⟩
  · rintro L a W i o ⟨⟨T, rfl, hF, hW⟩, hc⟩ ho hLi hd K hK
    have hio : i < ops.size := (Array.getElem?_eq_some_iff.1 ho).1
    have hcl : ∀ k n, L k = true → n ∈ tb.getD k [] → L n = true := fun k n hl hn => by
      obtain ⟨o', ho', _⟩ := tb_of htb hn
      have := (List.getElem?_eq_some_iff.1 ho').1
      exact hc k n (by simpa using this) hl hn
    refine hstep T0 rfl L T W i o hF hW hcl (by rw [Array.getElem?_toList]; exact ho) hLi hd K fun a' w' h => hK a' w' ⟨h, fun k n _ hl hn => ?_⟩
    by_cases e : k = i
    · subst e
      obtain ⟨o', ho', hd'⟩ := tb_of htb hn
      rw [Array.getElem?_toList, ho] at ho'
      obtain rfl := Option.some.inj ho'
      have := dep_of hd hd'
      simp [this]
    · have := hcl k n (by simpa [e] using hl) hn
      simp [this]
  · rintro L a W ⟨⟨T, rfl, hF, hW⟩, _⟩ hall
    exact hdone L T W hF hW hall
  · have hk : k < ops.size := by
      rw [← hlen]
      rcases Nat.lt_or_ge k vs.length with h1 | h1
      · exact h1
      · rw [List.getElem?_eq_none h1] at hv; cases hv
    rw [inv_none hk] at hl
    cases hl
  · have hl : (Array.replicate ops.size false).getD k true = true := hl
    rw [inv_none hk] at hl
    cases hl
/-! ### One operation -/
variable {o : Oper} {a : Act} {w' : World} {K : Act → World → Prop} {T : Array Value}
theorem st_val {v : Value} (hw : Region.wanted o (yielded ops T) = true) (hrun : (execOp (⟨T, []⟩ : Act).eval o).run P w = .ok (.value v) w') (h : K ((⟨T, []⟩ : Act).put o.dst v) w') :
    if Region.wanted o (yielded ops T) = true then Oper.wp P o ⟨T, []⟩ w K Q else K ((⟨T, []⟩ : Act).put o.dst undef) w := by
  rw [if_pos hw]
  unfold Oper.wp
  rw [hrun]
  exact h
theorem st_do (hw : Region.wanted o (yielded ops T) = true) (hrun : (execOp (⟨T, []⟩ : Act).eval o).run P w = .ok .skip w') (h : K ((⟨T, []⟩ : Act).put o.dst undef) w') :
    if Region.wanted o (yielded ops T) = true then Oper.wp P o ⟨T, []⟩ w K Q else K ((⟨T, []⟩ : Act).put o.dst undef) w := by
  rw [if_pos hw]
  unfold Oper.wp
  rw [hrun]
  exact h
theorem st_no (hw : Region.wanted o (yielded ops T) = false) (h : K ((⟨T, []⟩ : Act).put o.dst undef) w) :
    if Region.wanted o (yielded ops T) = true then Oper.wp P o ⟨T, []⟩ w K Q else K ((⟨T, []⟩ : Act).put o.dst undef) w := by
  rw [if_neg (by rw [hw]; decide)]
  exact h
theorem st_call {f : FuncId} {args : Array Value} {R : Ending → World → Prop} (hw : Region.wanted o (yielded ops T) = true) (hrun : (execOp (⟨T, []⟩ : Act).eval o).run P w = .ok (.enter f args) w') (hc : Calls P f args w' R)
    (h : ∀ r w2, R r w2 → ∃ v, r = .returned v ∧ K ((⟨T, []⟩ : Act).put o.dst v) w2) :
    if Region.wanted o (yielded ops T) = true then Oper.wp P o ⟨T, []⟩ w K Q else K ((⟨T, []⟩ : Act).put o.dst undef) w := by
  rw [if_pos hw]
  unfold Oper.wp
  rw [hrun]
  refine hc.mono fun r w2 hr => ?_
  obtain ⟨v, rfl, hk⟩ := h r w2 hr
  exact hk
theorem want_none (h : o.guard = none) : Region.wanted o (yielded ops T) = true := by unfold Region.wanted; rw [h]
theorem want_some {j s : Nat} {b b' : Bool} (h : o.guard = some (j, b)) (hd : (ops[j]?).bind (·.dst) = some s) (e : T.getD s undef = .bool b') : Region.wanted o (yielded ops T) = (b' == b) := by
  have hs : s < T.size := by
    rcases Nat.lt_or_ge s T.size with h1 | h1
    · exact h1
    · rw [gd_out h1] at e; cases e
  have e2 : T[s]? = some (.bool b') := by
    rw [Array.getElem?_eq_getElem hs]
    simpa [Array.getD_eq_getD_getElem?, Array.getElem?_eq_getElem hs] using e
  unfold Region.wanted
  rw [h]
  unfold yielded
  dsimp only
  rw [hd]
  simp only [Option.bind_some, e2]
  cases b' <;> cases b <;> rfl
end
end

section
open Go Go.RowKit

section
variable {P : Program} {ops : Array Oper} {Q : Exit → Act → World → Prop} {w : World} {o : Oper} {K : Act → World → Prop} {T : Array Value}
theorem st_append (hw : Region.wanted o (yielded ops T) = true) (s x : Operand) (t : TypeId)
    (ho : o.op = .call { callee := .builtin .append, args := #[s, x], argTypes := #[t, t] })
    (e : TypeId) (i : TypeInfo) (z : Value) (size bytes : Nat) (ht : P.underlying t = some (.slice e)) (hi : P.info? e = some i) (hz : i.zero = some z)
    (hsize : i.size = size) (hby : i.bytes = bytes) (hzs : z.cells.size = size) (hsz : 0 < size)
    (base : Nat) (hB : base ≤ w.heap.size) (v : Value) (zs : List (List Value)) (hs : (⟨T, []⟩ : Act).eval s = v) (hown : OwnR w base size e v zs)
    (g c : Nat) (row : List Value) (hx : (⟨T, []⟩ : Act).eval x = .slice (some ⟨g, 0, none⟩) 1 c) (hrow : w.rangeAt g 0 row) (hl : row.length = size) (h1 : ∀ u ∈ row, u.oneCell' = true)
    (h63 : zs.length + 1 ≤ maxLen) (hbytes : (zs.length + 1) * bytes ≤ 140737488355328)
    (h : ∀ v' w', OwnR w' base size e v' (zs ++ [row]) → w.grownBy w' v.ownBlock → (v'.ownBlock = v.ownBlock ∨ v'.ownBlock = some w.heap.size) → K ((⟨T, []⟩ : Act).put o.dst v') w') :
    if Region.wanted o (yielded ops T) = true then Oper.wp P o ⟨T, []⟩ w K Q else K ((⟨T, []⟩ : Act).put o.dst undef) w := by
  rw [if_pos hw]
  obtain ⟨v', w', hr, h2, h3, _, h5⟩ := run_append_own_at (P := P) (w := w) base t o.type e i z size bytes ht hi hz hsize hby hzs hsz v zs.length zs.flatten hown.1 ⟨g, 0, none⟩ 1 c row (by rw [hl, Nat.one_mul])
    (fun j u hu => by rw [Addr.add_mid]; exact hrow j u hu) h1 h63 hbytes hB
  unfold Oper.wp execOp
  simp only [ho, resolve, invoke, builtin, Sem.run_bind, Sem.run_pure, Result.andThen_ok, List.map_toArray, List.map_cons, List.map_nil, hs, hx, hr]
  refine h v' w' ⟨by simpa [List.length_append, List.flatten_append] using h2, fun z hz => ?_⟩ h3 h5
  rcases List.mem_append.1 hz with hz | hz
  · exact hown.2 z hz
  · simp only [List.mem_singleton] at hz
    subst hz
    exact hl
/-- 'var x T': a new block of zeros. -/
theorem run_alloc_ (ty : TypeId) (ho : o.op = .alloc ty) (cs : Array Value) (hz : (P.info? ty).bind (·.zero) = some (.agg cs)) : (execOp (⟨T, []⟩ : Act).eval o).run P w = .ok (.value (.pointer (some ⟨w.heap.size, 0, none⟩))) (w.alloc (.cells cs ty)) := by
  unfold execOp
  cases hq : P.info? ty with
  | none => simp [hq] at hz
  | some i =>
    have hzz : i.zero = some (.agg cs) := by simpa [hq] using hz
    simp [ho, Instr.alloc, zeroValue, typeInfo, hq, hzz, newVar, newRow, Value.cells]
/-- '*p = x', the block whole. -/
theorem run_store_ (ty : TypeId) (x y : Operand) (ho : o.op = .store ty x y) (g : Nat) (cells : Array Value) (hx : (⟨T, []⟩ : Act).eval x = .pointer (some ⟨g, 0, none⟩)) (hy : (⟨T, []⟩ : Act).eval y = .agg cells)
    (t : TypeId) (old : Array Value) (hg : w.heap[g]? = some (.cells old t (0, 0))) (hi : (P.info? ty).map (·.size) = some cells.size) (hold : old.size = cells.size) (h1 : cells.all (·.oneCell') = true) :
    (execOp (⟨T, []⟩ : Act).eval o).run P w = .ok .skip (w.setRow g cells) := by
  unfold execOp
  simp only [ho, hx, hy, Instr.storeAt, Instr.sureAddr, Sem.run_bind, Sem.run_pure, Result.andThen_ok, run_storeVar_row w g t ty old cells hg hi hold h1]
/-- 'x == y' at structs and arrays. -/
theorem run_eql_at_ (t t' : TypeId) (x y : Operand) (ho : o.op = .binOp .eql t x y t') (xs ys : Array Value) (hx : (⟨T, []⟩ : Act).eval x = .agg xs) (hy : (⟨T, []⟩ : Act).eval y = .agg ys)
    (hm : P.eqGuardType P.depth t = false) (q : Bool) (hq : (binOp .eql t (.agg xs) (.agg ys)).run P w = .ok (.bool q) w) : (execOp (⟨T, []⟩ : Act).eval o).run P w = .ok (.value (.bool q)) w := by
  unfold execOp
  simp only [ho, hx, hy, Sem.run_bind, run_eqGuard_agg w .eql t x y xs ys hm, Result.andThen_ok, hq, Sem.run_pure]
/-- 'x := *p', a struct or an array. -/
theorem run_load_ (ty : TypeId) (x : Operand) (ho : o.op = .load ty x) (b off : Nat) (hx : (⟨T, []⟩ : Act).eval x = .pointer (some ⟨b, off, none⟩)) (cs : List Value) (d : TypeDesc) (hc : w.rangeAt b off cs)
    (hu : P.underlying ty = some d) (hd : d.isRow = true) (hi : (P.info? ty).map (·.size) = some cs.length) : (execOp (⟨T, []⟩ : Act).eval o).run P w = .ok (.value (.agg cs.toArray)) w := by
  unfold execOp
  simp only [ho, hx, Instr.loadAt, Instr.sureAddr, Sem.run_bind, Sem.run_pure, Result.andThen_ok, run_loadVar_mid w b off ty cs d hc hu hd hi]
end
end

section
open Go.RowKit Go.Maps

structure It where
  t : Int
  w : Int
  o : Int
  p : Int
def It.row (x : It) : List Value := [.int .i64 x.t, .int .i64 x.w, .int .i64 x.o, .int .i64 x.p]
/-- The place of a number in a list. -/
def atF (l : List Int) (x : Int) : Option Int := if x ∈ l then some (l.idxOf x : Int) else none
theorem atF_nil : atF [] = fun _ => none := by funext x; unfold atF; simp
theorem atF_app {l : List Int} {x : Int} (h : x ∉ l) : atF (l ++ [x]) = setF (atF l) x l.length := by
  funext y
  show (if y ∈ l ++ [x] then some ((l ++ [x]).idxOf y : Int) else none) = if y = x then some (l.length : Int) else if y ∈ l then some (l.idxOf y : Int) else none
  by_cases e : y = x
  · subst e
    rw [if_pos rfl, if_pos (by simp), List.idxOf_append, if_neg h]
    simp
  · rw [if_neg e]
    by_cases hy : y ∈ l
    · rw [if_pos hy, if_pos (by simp [hy]), List.idxOf_append, if_pos hy]
    · rw [if_neg hy, if_neg (by simp [hy, e])]
theorem atF_some {l : List Int} {x i : Int} (h : atF l x = some i) : ∃ j : Nat, i = j ∧ l[j]? = some x := by
  unfold atF at h
  split at h
  · rename_i hm
    obtain rfl := Option.some.inj h
    exact ⟨l.idxOf x, rfl, by rw [List.getElem?_eq_getElem (List.idxOf_lt_length_of_mem hm), List.getElem_idxOf]⟩
  · cases h
/-- One of the first so many. -/
def hasM (l : List Int) (x : Int) (n : Nat) : Bool := match atF l x with | some i => decide (i < (n : Int)) | none => false
theorem hasM_iff {l : List Int} {x : Int} {n : Nat} : hasM l x n = true ↔ x ∈ l.take n := by
  unfold hasM atF
  by_cases h : x ∈ l
  · rw [if_pos h]
    simp only [decide_eq_true_eq]
    constructor
    · intro hi
      have hlt := List.idxOf_lt_length_of_mem h
      have h1 : l[l.idxOf x]? = some x := by rw [List.getElem?_eq_getElem hlt, List.getElem_idxOf]
      exact List.mem_of_getElem? (i := l.idxOf x) (by rw [List.getElem?_take_of_lt (by omega)]; exact h1)
    · intro hm
      obtain ⟨j, hj⟩ := List.getElem?_of_mem hm
      have hjn : j < n := by
        have := (List.getElem?_eq_some_iff.1 hj).1
        rw [List.length_take] at this; omega
      have e : l.take n ++ l.drop n = l := List.take_append_drop n l
      have h2 : l.idxOf x = (l.take n).idxOf x := by
        conv => lhs; rw [← e]
        rw [List.idxOf_append, if_pos hm]
      have h3 := List.idxOf_lt_length_of_mem hm
      rw [List.length_take] at h3
      omega
  · rw [if_neg h]
    simp only [Bool.false_eq_true, false_iff]
    exact fun hm => h (List.mem_of_mem_take hm)
def itsT (its : List It) : List Int := its.map It.t
structure MindW (V W : World) (g m b : Nat) (A : Option Addr) (c : Nat) (its : List It) : Prop where
  below : Below V.heap.size V W
  blk : W.heap[m]? = some (.cells #[.pointer (some ⟨g, 0, none⟩), .slice A its.length c, .map (some b)] 72)
  ge : V.heap.size ≤ m
  bge : V.heap.size ≤ b
  own : OwnR W V.heap.size 4 75 (.slice A its.length c) (its.map It.row)
  map : IMap W b its.length (atF (itsT its))
  few : its.length ≤ 100
  wf : ∀ i ∈ its, i64 i.t
theorem MindW.keep {V W W' : World} {g m b : Nat} {A : Option Addr} {c : Nat} {its : List It} (h : MindW V W g m b A c its) (hb : Below W.heap.size W W') : MindW V W' g m b A c its :=
  ⟨h.below.trans (hb.mono h.below.size), (hb.block m (Array.getElem?_eq_some_iff.1 h.blk).1).trans h.blk, h.ge, h.bge, OwnR.keep h.own hb, h.map.keep hb, h.few, h.wf⟩
theorem MindW.c0 {V W : World} {g m b : Nat} {A : Option Addr} {c : Nat} {its : List It} (h : MindW V W g m b A c its) : W.cell? ⟨m, 0, none⟩ = some (.pointer (some ⟨g, 0, none⟩)) ∧ W.cell? ⟨m, 1, none⟩ = some (.slice A its.length c) ∧ W.cell? ⟨m, 2, none⟩ = some (.map (some b)) :=
  ⟨cell_of_row _ _ 0 _ _ _ h.blk, cell_of_row _ _ 1 _ _ _ h.blk, cell_of_row _ _ 2 _ _ _ h.blk⟩
theorem has_and (f : Option Int) (n : Nat) (hf : ∀ i, f = some i → 0 ≤ i) : (f.isSome && decide (f.getD 0 < (n : Int))) = (match f with | some i => decide (i < (n : Int)) | none => false) := by
  cases f <;> simp
set_option maxRecDepth 100000 in
set_option maxHeartbeats 2000000 in
theorem mhas_any {V W : World} {g m b : Nat} {A : Option Addr} {c : Nat} {its : List It} (h : MindW V W g m b A c its) (x : Int) (hx : i64 x) (n : Nat) :
    Calls Tryz.prog 34 #[.pointer (some ⟨m, 0, none⟩), .int .i64 x, .int .i64 n] W fun r w' => r = .returned (.bool (hasM (itsT its) x n)) ∧ W = w' := by
  have hl := h.map.look hx
  obtain ⟨c0, c1, c2⟩ := h.c0
  unfold hasM
  clear h hx
  generalize atF (itsT its) x = f at hl ⊢
  cases f with
  | none =>
    simp only [Option.getD_none, Option.isSome_none] at hl
    go_enter Tryz.func34, Tryz.ntmps34
    go_wp2
    go_ret
    exact ⟨rfl, rfl⟩
  | some i =>
    simp only [Option.getD_some, Option.isSome_some] at hl
    go_enter Tryz.func34, Tryz.ntmps34
    go_wp2
    go_ret
    exact ⟨rfl, rfl⟩
end
end Go.Proofs.YtphnakdgpilcmaaGreatDoor
