/- Terms, plainly: how each is made of others; lists of terms, each once, by number. -/
import Derived.Test.YtbeanjaenmpoeaaDoorTmA
namespace Go.Proofs.YtbeanjaenmpoeaaDoor

def alls : List (Option Tm) → Option (List Tm)
  | [] => some []
  | none :: _ => none
  | some t :: r => match alls r with | none => none | some l => some (t :: l)
theorem alls_some : ∀ {os : List (Option Tm)} {l : List Tm}, alls os = some l ↔ os = l.map some
  | [], l => by cases l <;> simp [alls]
  | none :: r, l => by cases l <;> simp [alls]
  | some t :: r, l => by
    rw [alls]
    cases h : alls r with
    | none =>
      simp only [reduceCtorEq, false_iff]
      intro e
      cases l with
      | nil => simp at e
      | cons u m =>
        simp only [List.map_cons, List.cons.injEq] at e
        rw [alls_some.2 e.2] at h
        cases h
    | some m =>
      have := (alls_some (os := r) (l := m)).1 h
      subst this
      cases l with
      | nil => simp
      | cons u n =>
        simp only [Option.some.injEq, List.cons.injEq, List.map_cons]
        constructor
        · rintro ⟨rfl, rfl⟩; exact ⟨rfl, rfl⟩
        · rintro ⟨rfl, h2⟩
          refine ⟨rfl, ?_⟩
          have := (alls_some (os := m.map some) (l := n)).2 h2
          rw [h] at this; exact Option.some.inj this
theorem alls_map (l : List Tm) : alls (l.map some) = some l := alls_some.2 rfl
theorem alls_none {os : List (Option Tm)} (h : none ∈ os) : alls os = none := by
  cases e : alls os with
  | none => rfl
  | some l =>
    rw [alls_some.1 e] at h
    simp at h
theorem alls_none_iff {os : List (Option Tm)} : alls os = none ↔ none ∈ os := by
  refine ⟨fun h => ?_, alls_none⟩
  induction os with
  | nil => simp [alls] at h
  | cons o r ih =>
    cases o with
    | none => simp
    | some t =>
      rw [alls] at h
      cases e : alls r with
      | none => simp [ih e]
      | some l => rw [e] at h; cases h

/-- The bytes of a term; none: no bytes. -/
def encO : Option Tm → List UInt8
  | none => []
  | some t => t.enc
theorem encO_nil {o : Option Tm} : encO o = [] ↔ o = none := by
  cases o with
  | none => simp [encO]
  | some t => simp [encO, enc_ne]
def kindO : Option Tm → Nat
  | none => 0
  | some t => t.kind
def okO (o : Option Tm) : Prop := ∀ t, o = some t → t.ok
theorem okO_none : okO none := fun _ h => by cases h
theorem encO_eq {o p : Option Tm} (h : okO o) (h' : okO p) : encO o = encO p ↔ o = p := by
  refine ⟨fun e => ?_, fun e => by rw [e]⟩
  cases o with
  | none =>
    cases p with
    | none => rfl
    | some t => exact absurd e.symm enc_ne
  | some t =>
    cases p with
    | none => exact absurd e enc_ne
    | some u => rw [(enc_eq (h t rfl) (h' u rfl)).1 e]

/-- A term of others, if all are there and it is not too long. -/
def mkO (k a b : Nat) (s : List UInt8) (os : List (Option Tm)) : Option Tm :=
  match alls os with
  | none => none
  | some l => if own k s.length + lens l ≤ 131072 then some (.mk k a b s l) else none
def dataT (s : List UInt8) : Option Tm := mkO 1 0 0 s []
def numOk (n : Int) : Prop := 0 ≤ n ∧ n ≤ 2147483647
instance (n : Int) : Decidable (numOk n) := by unfold numOk; infer_instance
def txtOk (s : List UInt8) (most : Nat) : Prop := 1 ≤ s.length ∧ s.length ≤ most
instance (s : List UInt8) (m : Nat) : Decidable (txtOk s m) := by unfold txtOk; infer_instance
def nonceT (w n : Int) : Option Tm := if numOk w ∧ numOk n then mkO 2 w.toNat n.toNat [] [] else none
def keyT (w : Int) : Option Tm := if numOk w then mkO 3 w.toNat 0 [] [] else none
def pubT (o : Option Tm) : Option Tm := if kindO o = 3 then mkO 4 0 0 [] [o] else none
def baseT (g : List UInt8) : Option Tm := if txtOk g 2100 then mkO 5 0 0 g [] else none
/-- A nonce among others, in its place. -/
def ins (x : Tm) : List Tm → List Tm
  | [] => [x]
  | y :: r => if nle y x then y :: ins x r else x :: y :: r
def expT (so xo : Option Tm) : Option Tm := match so, xo with
  | some s, some x => if s.kind = 5 ∧ x.kind = 2 ∧ s.args.length < 8 then mkO 5 0 0 s.s ((ins x s.args).map some) else none
  | _, _ => none
def signT (alg : List UInt8) (k t : Option Tm) : Option Tm := if txtOk alg 64 ∧ kindO k = 3 then mkO 6 0 0 alg [k, t] else none
def hashT (t : Option Tm) : Option Tm := mkO 7 0 0 [] [t]
def deriveT (b : Nat) (x y z : Option Tm) : Option Tm := mkO 8 0 b [] [x, y, z]
def sealT (k : Option Tm) (n : Nat) (t : Option Tm) : Option Tm := mkO 9 0 n [] [k, t]
def listT (l : List (Option Tm)) : Option Tm := if l.length ≤ 32 then mkO 10 0 0 [] l else none

theorem mkO_some {k a b : Nat} {s : List UInt8} {os : List (Option Tm)} {t : Tm} (h : mkO k a b s os = some t) : ∃ l, os = l.map some ∧ t = .mk k a b s l ∧ own k s.length + lens l ≤ 131072 := by
  unfold mkO at h
  split at h
  · cases h
  · rename_i l hl
    split at h
    · rename_i hs
      exact ⟨l, alls_some.1 hl, (Option.some.inj h).symm, hs⟩
    · cases h
theorem mkO_ok {k a b : Nat} {s : List UInt8} {os : List (Option Tm)} (hh : ∀ m : Nat, m = os.length → own k s.length ≤ 131072 → okHd k a b s m) (ha : ∀ l, os = l.map some → okArgs k l) (ho : ∀ o ∈ os, okO o) : okO (mkO k a b s os) := by
  intro t h
  obtain ⟨l, rfl, rfl, hl⟩ := mkO_some h
  rw [ok_mk]
  refine ⟨hh _ (by simp) (by omega), ha l rfl, fun u hu => ho (some u) (by simp [hu]) u rfl⟩
theorem okArgs_none {k : Nat} (h4 : k ≠ 4) (h5 : k ≠ 5) (h6 : k ≠ 6) (l : List Tm) : okArgs k l := ⟨fun h => absurd h h4, fun h => absurd h h5, fun h => absurd h h6⟩
theorem okArgs_nil (k : Nat) : okArgs k [] := ⟨fun _ => by simp, fun _ => by simp, fun _ => by simp⟩
theorem map_some_nil {l : List Tm} (h : ([] : List (Option Tm)) = l.map some) : l = [] := by cases l <;> simp at h <;> rfl
theorem dataT_ok (s : List UInt8) : okO (dataT s) :=
  mkO_ok (fun m hm hl => .inl ⟨rfl, rfl, rfl, hm, by simp [own] at hl; omega⟩) (fun l _ => okArgs_none (by decide) (by decide) (by decide) l) (by simp)
theorem nonceT_ok (w n : Int) : okO (nonceT w n) := by
  unfold nonceT
  split
  · rename_i h
    unfold numOk at h
    exact mkO_ok (fun m hm _ => .inr (.inl ⟨rfl, by omega, by omega, rfl, hm⟩)) (fun l _ => okArgs_none (by decide) (by decide) (by decide) l) (by simp)
  · exact okO_none
theorem keyT_ok (w : Int) : okO (keyT w) := by
  unfold keyT
  split
  · rename_i h
    unfold numOk at h
    exact mkO_ok (fun m hm _ => .inr (.inr (.inl ⟨rfl, by omega, rfl, rfl, hm⟩))) (fun l _ => okArgs_none (by decide) (by decide) (by decide) l) (by simp)
  · exact okO_none
theorem pubT_ok {o : Option Tm} (h : okO o) : okO (pubT o) := by
  unfold pubT
  split
  · rename_i hk
    refine mkO_ok (fun m hm _ => .inr (.inr (.inr (.inl ⟨rfl, rfl, rfl, rfl, hm⟩)))) (fun l hl => ⟨fun _ => ?_, fun h => (by cases h), fun h => (by cases h)⟩) (by simpa using h)
    cases l with
    | nil => simp at hl
    | cons t r =>
      simp only [List.map_cons, List.cons.injEq] at hl
      obtain ⟨rfl, hr⟩ := hl
      obtain rfl := map_some_nil hr
      have hk' : t.kind = 3 := hk
      simpa using hk'
  · exact okO_none
theorem baseT_ok (g : List UInt8) : okO (baseT g) := by
  unfold baseT
  split
  · rename_i h
    unfold txtOk at h
    refine mkO_ok (fun m hm _ => .inr (.inr (.inr (.inr (.inl ⟨rfl, rfl, rfl, h.1, h.2, by simp at hm; omega⟩))))) (fun l hl => ?_) (by simp)
    obtain rfl := map_some_nil hl
    exact okArgs_nil 5
  · exact okO_none
theorem ins_len (x : Tm) : ∀ l, (ins x l).length = l.length + 1
  | [] => rfl
  | y :: r => by
    rw [ins]
    split
    · simp [ins_len x r]
    · simp
theorem ins_mem {x y : Tm} : ∀ {l}, y ∈ ins x l ↔ y = x ∨ y ∈ l
  | [] => by simp [ins]
  | z :: r => by
    rw [ins]
    split
    · simp only [List.mem_cons, ins_mem (l := r)]
      constructor
      · rintro (h | h | h) <;> simp [h]
      · rintro (h | h | h) <;> simp [h]
    · simp
theorem nle_total (x y : Tm) : nle x y ∨ nle y x := by unfold nle; omega
theorem nle_trans {x y z : Tm} (h : nle x y) (k : nle y z) : nle x z := by unfold nle at *; omega
theorem ins_sorted (x : Tm) : ∀ {l : List Tm}, l.Pairwise nle → (ins x l).Pairwise nle
  | [], _ => by simp [ins]
  | y :: r, h => by
    obtain ⟨h1, h2⟩ := List.pairwise_cons.1 h
    rw [ins]
    split
    · rename_i hyx
      refine List.pairwise_cons.2 ⟨fun z hz => ?_, ins_sorted x h2⟩
      rcases ins_mem.1 hz with rfl | hz
      · exact hyx
      · exact h1 z hz
    · rename_i hyx
      have hxy : nle x y := (nle_total x y).resolve_right hyx
      refine List.pairwise_cons.2 ⟨fun z hz => ?_, h⟩
      rcases List.mem_cons.1 hz with rfl | hz
      · exact hxy
      · exact nle_trans hxy (h1 z hz)
theorem expT_ok {so xo : Option Tm} (hs : okO so) (hx : okO xo) : okO (expT so xo) := by
  unfold expT
  split
  · rename_i s x
    split
    · rename_i h
      obtain ⟨h1, h2, h3⟩ := h
      have ks := hs s rfl
      have kx := hx x rfl
      cases s with
      | mk k a b g args =>
        have h1' : k = 5 := h1
        subst h1'
        rw [ok_mk] at ks
        obtain ⟨ka, kb, kc⟩ := ks
        unfold okHd at ka
        simp only [reduceCtorEq, false_and, or_false, false_or, true_and, Nat.reduceEqDiff] at ka
        simp only [Tm.s, Tm.args] at h3 ⊢
        refine mkO_ok (fun m hm _ => .inr (.inr (.inr (.inr (.inl ⟨rfl, rfl, rfl, ka.2.2.1, ka.2.2.2.1, by rw [hm, List.length_map, ins_len]; omega⟩))))) (fun l hl => ?_) (fun o ho => ?_)
        · have : l = ins x args := by
            have := congrArg alls hl
            rw [alls_map, alls_map] at this
            exact (Option.some.inj this).symm
          subst this
          refine ⟨fun h => (by cases h), fun _ => ⟨fun t ht => ?_, ins_sorted x (kb.2.1 rfl).2⟩, fun h => (by cases h)⟩
          rcases ins_mem.1 ht with rfl | ht
          · exact h2
          · exact (kb.2.1 rfl).1 t ht
        · rw [List.mem_map] at ho
          obtain ⟨u, hu, rfl⟩ := ho
          intro t ht
          obtain rfl := Option.some.inj ht
          rcases ins_mem.1 hu with rfl | hu
          · exact kx
          · exact kc _ hu
    · exact okO_none
  · exact okO_none
theorem signT_ok {alg : List UInt8} {k t : Option Tm} (hk : okO k) (ht : okO t) : okO (signT alg k t) := by
  unfold signT
  split
  · rename_i h
    unfold txtOk at h
    refine mkO_ok (fun m hm _ => .inr (.inr (.inr (.inr (.inr (.inl ⟨rfl, rfl, rfl, h.1.1, h.1.2, hm⟩)))))) (fun l hl => ⟨fun h => (by cases h), fun h => (by cases h), fun _ u hu => ?_⟩) (by simpa using ⟨hk, ht⟩)
    cases l with
    | nil => simp at hl
    | cons v r =>
      simp only [List.map_cons, List.cons.injEq] at hl
      simp only [List.getElem?_cons_zero, Option.some.injEq] at hu
      subst hu
      rw [hl.1] at h
      exact h.2
  · exact okO_none
theorem hashT_ok {t : Option Tm} (ht : okO t) : okO (hashT t) :=
  mkO_ok (fun m hm _ => .inr (.inr (.inr (.inr (.inr (.inr (.inl ⟨rfl, rfl, rfl, rfl, hm⟩))))))) (fun l _ => okArgs_none (by decide) (by decide) (by decide) l) (by simpa using ht)
theorem deriveT_ok {b : Nat} {x y z : Option Tm} (hb : b < 256) (hx : okO x) (hy : okO y) (hz : okO z) : okO (deriveT b x y z) :=
  mkO_ok (fun m hm _ => .inr (.inr (.inr (.inr (.inr (.inr (.inr (.inl ⟨rfl, rfl, hb, rfl, hm⟩)))))))) (fun l _ => okArgs_none (by decide) (by decide) (by decide) l) (by simpa using ⟨hx, hy, hz⟩)
theorem sealT_ok {n : Nat} {k t : Option Tm} (hn : n < 4294967296) (hk : okO k) (ht : okO t) : okO (sealT k n t) :=
  mkO_ok (fun m hm _ => .inr (.inr (.inr (.inr (.inr (.inr (.inr (.inr (.inl ⟨rfl, rfl, hn, rfl, hm⟩))))))))) (fun l _ => okArgs_none (by decide) (by decide) (by decide) l) (by simpa using ⟨hk, ht⟩)
theorem listT_ok {l : List (Option Tm)} (hl : ∀ o ∈ l, okO o) : okO (listT l) := by
  unfold listT
  split
  · rename_i h
    exact mkO_ok (fun m hm _ => .inr (.inr (.inr (.inr (.inr (.inr (.inr (.inr (.inr ⟨rfl, rfl, rfl, rfl, by omega⟩))))))))) (fun l _ => okArgs_none (by decide) (by decide) (by decide) l) hl
  · exact okO_none

/-! Lists of terms, each once. -/
def get (L : List Tm) (x : Int) : Option Tm := if x < 0 then none else L[x.toNat]?
theorem get_nat (L : List Tm) (j : Nat) : get L j = L[j]? := by
  unfold get
  rw [if_neg (by omega), Int.toNat_natCast]
theorem get_neg {L : List Tm} {x : Int} (h : x < 0) : get L x = none := by unfold get; rw [if_pos h]
theorem get_some {L : List Tm} {x : Int} {t : Tm} (h : get L x = some t) : ∃ j : Nat, x = j ∧ L[j]? = some t := by
  unfold get at h
  split at h
  · cases h
  · exact ⟨x.toNat, by omega, h⟩
theorem get_none {L : List Tm} {x : Int} (h : get L x = none) : x < 0 ∨ L.length ≤ x := by
  unfold get at h
  split at h
  · exact .inl (by assumption)
  · have := List.getElem?_eq_none_iff.1 h
    exact .inr (by omega)
/-- What all terms of a list are: each is there once, is well made, and so are those that it is made of. -/
structure Good (L : List Tm) : Prop where
  once : L.Nodup
  ok : ∀ t ∈ L, t.ok
  size : ∀ t ∈ L, t.len ≤ 131072
  clos : ∀ t ∈ L, ∀ u ∈ t.args, u ∈ L
theorem Good.nil_ : Good [] := ⟨List.nodup_nil, by simp, by simp, by simp⟩
theorem get_mem {L : List Tm} {x : Int} {t : Tm} (h : get L x = some t) : t ∈ L := by
  obtain ⟨j, rfl, h⟩ := get_some h
  exact List.mem_of_getElem? h
theorem Good.okO {L : List Tm} (h : Good L) (x : Int) : okO (get L x) := fun t ht => h.ok t (get_mem ht)
theorem once_inj {L : List Tm} (h : L.Nodup) {i j : Nat} {t : Tm} (hi : L[i]? = some t) (hj : L[j]? = some t) : i = j := by
  have hl := (List.getElem?_eq_some_iff.1 hi).1
  exact (List.getElem?_inj hl h).1 (hi.trans hj.symm)
/-- A number that a call has handed back names o in L: -1 where there is none. -/
def Nm (L : List Tm) (x : Int) (o : Option Tm) : Prop := get L x = o ∧ (o = none → x = -1)
theorem Nm.none_ (L : List Tm) : Nm L (-1) none := ⟨get_neg (by decide), fun _ => rfl⟩
theorem Nm.inj {L : List Tm} (h : L.Nodup) {x y : Int} {o p : Option Tm} (hx : Nm L x o) (hy : Nm L y p) : x = y ↔ o = p := by
  constructor
  · rintro rfl; exact hx.1.symm.trans hy.1
  · rintro rfl
    cases o with
    | none => rw [hx.2 rfl, hy.2 rfl]
    | some t =>
      obtain ⟨i, rfl, hi⟩ := get_some hx.1
      obtain ⟨j, rfl, hj⟩ := get_some hy.1
      rw [once_inj h hi hj]
theorem Nm.lt {L : List Tm} {x : Int} {o : Option Tm} (h : Nm L x o) : -1 ≤ x ∧ x < L.length := by
  cases o with
  | none => rw [h.2 rfl]; exact ⟨by decide, by omega⟩
  | some t =>
    obtain ⟨j, rfl, hj⟩ := get_some h.1
    have := (List.getElem?_eq_some_iff.1 hj).1
    exact ⟨by omega, by omega⟩
/-- What a list becomes when a term is made. -/
def Grow (L L' : List Tm) (o : Option Tm) : Prop := L' = L ∧ (∀ t, o = some t → t ∈ L) ∨ ∃ t, o = some t ∧ t ∉ L ∧ L' = L ++ [t]
theorem Grow.pre {L L' : List Tm} {o : Option Tm} (h : Grow L L' o) : ∃ r, L' = L ++ r := by
  rcases h with ⟨h, _⟩ | ⟨t, _, _, h⟩
  · exact ⟨[], by simp [h]⟩
  · exact ⟨[t], h⟩
theorem Grow.len {L L' : List Tm} {o : Option Tm} (h : Grow L L' o) : L.length ≤ L'.length ∧ L'.length ≤ L.length + 1 := by
  rcases h with ⟨rfl, _⟩ | ⟨t, _, _, rfl⟩
  · omega
  · simp
theorem get_app {L r : List Tm} {x : Int} {t : Tm} (h : get L x = some t) : get (L ++ r) x = some t := by
  obtain ⟨j, rfl, hj⟩ := get_some h
  rw [get_nat, List.getElem?_append_left (List.getElem?_eq_some_iff.1 hj).1, hj]
theorem Nm.app {L r : List Tm} {x : Int} {o : Option Tm} (h : Nm L x o) : Nm (L ++ r) x o := by
  refine ⟨?_, h.2⟩
  cases o with
  | none => rw [h.2 rfl]; exact get_neg (by decide)
  | some t => exact get_app h.1
theorem Nm.grow {L L' : List Tm} {x : Int} {o p : Option Tm} (h : Nm L x o) (g : Grow L L' p) : Nm L' x o := by
  obtain ⟨r, rfl⟩ := g.pre
  exact h.app
end Go.Proofs.YtbeanjaenmpoeaaDoor
