/- Texts joined: what each shows stands ahead of its theorems. -/
import Derived.Test.YtphnakdgpilcmaaGreatDoorHb22
import Derived.Test.YtphnakdgpilcmaaGreatDoorHb20
import Derived.Test.YtphnakdgpilcmaaGreatDoorHb11
namespace Go.Proofs.YtphnakdgpilcmaaGreatDoor
section
open Go.RowKit Go.Maps

theorem recT_snoc (known sent : List (Option Tm)) (kl : List Mk) (x : Mk) : recT known sent (kl ++ [x]) [] = recT known sent kl [] ++ [stepT known sent (recT known sent kl []) x] := by rw [recT_app]; rfl
theorem recT_keep {known sent : List (Option Tm)} {kl e : List Mk} {j : Nat} {v : Option Tm} (h : (recT known sent kl [])[j]? = some v) : (recT known sent (kl ++ e) [])[j]? = some v := by
  rw [recT_app]
  obtain ⟨r, hr⟩ := recT_pre known sent e (recT known sent kl [])
  rw [hr, List.getElem?_append_left (List.getElem?_eq_some_iff.1 h).1]
  exact h
theorem recT_at (known sent : List (Option Tm)) (kl : List Mk) (x : Mk) : (recT known sent (kl ++ [x]) [])[kl.length]? = some (stepT known sent (recT known sent kl []) x) := by
  have h := recT_len known sent kl []
  rw [recT_snoc, List.getElem?_append_right (by rw [h]; simp), h]
  simp
theorem pkO_of {os : List (Option Tm)} {j : Nat} {o : Option Tm} (h : os[j]? = some o) : pkO os (j : Int) = o := by
  unfold pkO
  rw [if_neg (by omega)]
  simp [h]
/-- What the steps so far make, and what of it is noted. -/
structure Coo (L : List Tm) (known sent : List (Option Tm)) (kl : List Mk) (F : Int → Option Int) : Prop where
  said : ∀ x j, F x = some j → ∃ jn : Nat, j = jn ∧ ∃ t, get L x = some t ∧ (recT known sent kl [])[jn]? = some (some t)
  fine : ∀ o ∈ recT known sent kl [], okO o ∧ (encO o).length ≤ 131072
  ops : ∀ x ∈ kl, x.s.length ≤ 131072
theorem Coo.nil_ (L : List Tm) (known sent : List (Option Tm)) : Coo L known sent [] (fun _ => none) := ⟨fun _ _ h => (by cases h), fun _ h => (by cases h), fun _ h => (by cases h)⟩
theorem Coo.put {L : List Tm} {known sent : List (Option Tm)} {kl : List Mk} {F : Int → Option Int} (h : Coo L known sent kl F) (x : Mk) {t : Tm} (ht : stepT known sent (recT known sent kl []) x = some t) (hok : t.ok) (hl : t.len ≤ 131072) (hs : x.s.length ≤ 131072) :
    Coo L known sent (kl ++ [x]) F ∧ (recT known sent (kl ++ [x]) [])[kl.length]? = some (some t) := by
  refine ⟨⟨fun y j hj => ?_, fun o ho => ?_, fun y hy => ?_⟩, ?_⟩
  · obtain ⟨jn, e, u, hu, hju⟩ := h.said y j hj
    exact ⟨jn, e, u, hu, recT_keep hju⟩
  · rw [recT_snoc] at ho
    rcases List.mem_append.1 ho with ho | ho
    · exact h.fine o ho
    · rw [List.mem_singleton.1 ho, ht]
      exact ⟨fun u hu => by obtain rfl := Option.some.inj hu; exact hok, hl⟩
  · rcases List.mem_append.1 hy with hy | hy
    · exact h.ops y hy
    · rw [List.mem_singleton.1 hy]; exact hs
  · rw [recT_at, ht]
theorem Coo.set_ {L : List Tm} {known sent : List (Option Tm)} {kl : List Mk} {F : Int → Option Int} (h : Coo L known sent kl F) {x : Int} {t : Tm} {j : Nat} (hx : get L x = some t) (hj : (recT known sent kl [])[j]? = some (some t)) : Coo L known sent kl (setF F x j) :=
  ⟨fun y i hi => by
    unfold setF at hi
    by_cases e : y = x
    · rw [if_pos e] at hi
      exact ⟨j, (Option.some.inj hi).symm, t, by rw [e]; exact hx, hj⟩
    · rw [if_neg e] at hi
      exact h.said y i hi, h.fine, h.ops⟩

/-- How many of the first so many numbers are not made yet. -/
def unm : Nat → (Int → Option Int) → Nat
  | 0, _ => 0
  | n + 1, F => unm n F + (if (F (n : Int)).isNone then 1 else 0)
theorem unm_le : ∀ (n : Nat) (F : Int → Option Int), unm n F ≤ n
  | 0, _ => Nat.le_refl _
  | n + 1, F => by rw [unm]; have := unm_le n F; split <;> omega
theorem unm_ge : ∀ (n : Nat) (F : Int → Option Int) (i : Nat) (j : Int), n ≤ i → unm n (setF F i j) = unm n F
  | 0, _, _, _, _ => rfl
  | n + 1, F, i, j, h => by
    rw [unm, unm, unm_ge n F i j (by omega)]
    have : setF F i j (n : Int) = F n := by unfold setF; rw [if_neg (by omega)]
    rw [this]
theorem unm_new : ∀ (n : Nat) (F : Int → Option Int) (i : Nat) (j : Int), i < n → F i = none → unm n (setF F i j) + 1 = unm n F
  | 0, _, _, _, h, _ => absurd h (Nat.not_lt_zero _)
  | n + 1, F, i, j, h, hF => by
    rw [unm, unm]
    by_cases e : i = n
    · subst e
      have : setF F i j (i : Int) = some j := by unfold setF; rw [if_pos rfl]
      rw [this, unm_ge i F i j (Nat.le_refl _), hF]
      simp
    · have := unm_new n F i j (by omega) hF
      have e2 : setF F i j (n : Int) = F n := by unfold setF; rw [if_neg (by omega)]
      rw [e2]; omega
theorem unm_old : ∀ (n : Nat) (F : Int → Option Int) (i : Nat) (j : Int), F i ≠ none → unm n (setF F i j) = unm n F
  | 0, _, _, _, _ => rfl
  | n + 1, F, i, j, hF => by
    rw [unm, unm, unm_old n F i j hF]
    by_cases e : i = n
    · subst e
      have : setF F i j (i : Int) = some j := by unfold setF; rw [if_pos rfl]
      rw [this]
      cases h : F (i : Int) with
      | none => exact absurd h hF
      | some v => simp
    · have e2 : setF F i j (n : Int) = F n := by unfold setF; rw [if_neg (by omega)]
      rw [e2]
/-- How many steps more there are: from so many to so many, by at most d beyond what the numbers that are made pay for; each of these leaves something over, if M is not great. -/
structure Pot (n M d : Nat) (F F' : Int → Option Int) (a a' : Nat) : Prop where
  mono : ∀ y, F y ≠ none → F' y ≠ none
  len : a ≤ a'
  tot : a' + 10000000000 * unm n F' ≤ a + 10000000000 * unm n F + d
  new : ∀ y, F y = none → F' y ≠ none → a' + 10000000000 * unm n F' + 10000000000 ≤ a + 10000000000 * unm n F + 34 * (M + 1) + d
theorem Pot.refl (n M : Nat) (F : Int → Option Int) (a : Nat) : Pot n M 0 F F a a := ⟨fun _ h => h, Nat.le_refl _, by omega, fun _ h h' => absurd h h'⟩
theorem Pot.trans {n M d e : Nat} {F F1 F2 : Int → Option Int} {a a1 a2 : Nat} (h : Pot n M d F F1 a a1) (k : Pot n M e F1 F2 a1 a2) : Pot n M (d + e) F F2 a a2 :=
  ⟨fun y hy => k.mono y (h.mono y hy), Nat.le_trans h.len k.len, by have := h.tot; have := k.tot; omega, fun y h0 h2 => by
    by_cases h1 : F1 y = none
    · have := k.new y h1 h2; have := h.tot; omega
    · have := h.new y h0 h1; have := k.tot; omega⟩
theorem Pot.one (n M : Nat) (F : Int → Option Int) (a : Nat) : Pot n M 1 F F a (a + 1) := ⟨fun _ h => h, Nat.le_succ _, by omega, fun _ h h' => absurd h h'⟩
theorem Pot.up {n M M' d d' : Nat} {F F' : Int → Option Int} {a a' : Nat} (h : Pot n M d F F' a a') (hM : M ≤ M') (hd : d ≤ d') : Pot n M' d' F F' a a' :=
  ⟨h.mono, h.len, Nat.le_trans h.tot (by omega), fun y h0 h1 => Nat.le_trans (h.new y h0 h1) (by omega)⟩
theorem Pot.done {n M M' d : Nat} {F F' : Int → Option Int} {a a' : Nat} (h : Pot n M' d F F' a a') (hM : M' + 1 ≤ M) (hd : d ≤ 34) (hK : M ≤ 100000000) {x : Nat} (hx : x < n) (h0 : F x = none) (j : Int) : Pot n M 0 F (setF F' x j) a a' := by
  have hm : ∀ y, F y ≠ none → setF F' x j y ≠ none := fun y hy => by
    unfold setF
    split
    · simp
    · exact h.mono y hy
  by_cases h1 : F' x = none
  · have hu := unm_new n F' x j hx h1
    have ht := h.tot
    refine ⟨hm, h.len, by omega, fun y hy hy' => ?_⟩
    by_cases e : y = (x : Int)
    · omega
    · unfold setF at hy'
      rw [if_neg e] at hy'
      have := h.new y hy hy'
      omega
  · have hu := unm_old n F' x j h1
    have ht := h.new x h0 h1
    exact ⟨hm, h.len, by rw [hu]; omega, fun y _ _ => by rw [hu]; omega⟩
/-- There is room for more steps. -/
def Room (n M : Nat) (F : Int → Option Int) (a : Nat) : Prop := M ≤ 100000000 ∧ a + 10000000000 * unm n F + 35 * M ≤ 2000000000000
theorem Room.sub {n M M1 M2 d : Nat} {F F' : Int → Option Int} {a a' : Nat} (h : Room n M F a) (p : Pot n M1 d F F' a a') (hd : d ≤ 34) (hM : M2 + 1 ≤ M) : Room n M2 F' a' := by
  unfold Room at *
  have := p.tot
  omega
theorem Room.len {n M M1 d : Nat} {F F' : Int → Option Int} {a a' : Nat} (h : Room n M F a) (p : Pot n M1 d F F' a a') (hd : d ≤ 34) (hM : 1 ≤ M) : a' ≤ 2000000000000 := by
  unfold Room at *
  have := p.tot
  omega
theorem Room.len0 {n M : Nat} {F : Int → Option Int} {a : Nat} (h : Room n M F a) : a ≤ 2000000000000 := by unfold Room at *; omega
theorem Room.start {n M : Nat} (hn : n ≤ 100) (hM : M ≤ 100000000 / 2) : Room n M (fun _ => none) 0 := by
  unfold Room
  have := unm_le n (fun _ => none)
  omega
/-- How far a term is from being made: of the first so many that are had. -/
def Meas (ls : List Tm) (n : Nat) (t : Tm) (M : Nat) : Prop := (∃ i, i < n ∧ ls[i]? = some t ∧ M = (i + 1) * 200000) ∨ (t ∉ ls.take n ∧ M = n * 200000 + 1 + tsz t)
theorem Meas.ex (ls : List Tm) (n : Nat) (t : Tm) : ∃ M, Meas ls n t M ∧ M ≤ n * 200000 + 1 + tsz t := by
  classical
  by_cases h : t ∈ ls.take n
  · obtain ⟨i, hi⟩ := List.getElem?_of_mem h
    have hl := (List.getElem?_eq_some_iff.1 hi).1
    rw [List.length_take] at hl
    rw [List.getElem?_take_of_lt (by omega)] at hi
    have hin : i < n := by omega
    exact ⟨(i + 1) * 200000, .inl ⟨i, hin, hi, rfl⟩, by omega⟩
  · exact ⟨_, .inr ⟨h, rfl⟩, Nat.le_refl _⟩
theorem Meas.pos {ls : List Tm} {n : Nat} {t : Tm} {M : Nat} (h : Meas ls n t M) : 1 ≤ M := by
  rcases h with ⟨i, _, _, h⟩ | ⟨_, h⟩ <;> omega
theorem mem_take {ls : List Tm} {i n : Nat} {t : Tm} (h : ls[i]? = some t) (hi : i < n) : t ∈ ls.take n :=
  List.mem_of_getElem? (i := i) (by rw [List.getElem?_take_of_lt hi]; exact h)
/-- Of what was found when place i was: less far than place i. -/
theorem Meas.before {ls : List Tm} {i : Nat} {u : Tm} (hu : tsz u ≤ 131072) : ∃ M, Meas ls i u M ∧ M + 1 ≤ (i + 1) * 200000 := by
  obtain ⟨M, h, hM⟩ := Meas.ex ls i u
  exact ⟨M, h, by omega⟩
theorem Meas.place {ls : List Tm} {j i : Nat} {u : Tm} (hj : ls[j]? = some u) (hji : j < i) : Meas ls (j + 1) u ((j + 1) * 200000) ∧ (j + 1) * 200000 + 1 ≤ (i + 1) * 200000 :=
  ⟨.inl ⟨j, Nat.lt_succ_self j, hj, rfl⟩, by omega⟩
theorem Meas.part {ls : List Tm} {n : Nat} {t u : Tm} (hu : u ∈ t.args) : ∃ M, Meas ls n u M ∧ M + 1 ≤ n * 200000 + 1 + tsz t := by
  obtain ⟨M, h, hM⟩ := Meas.ex ls n u
  have := tsz_arg hu
  exact ⟨M, h, by omega⟩
theorem Meas.share {ls : List Tm} {n j : Nat} {u : Tm} (t : Tm) (hj : ls[j]? = some u) (hjn : j < n) : Meas ls (j + 1) u ((j + 1) * 200000) ∧ (j + 1) * 200000 + 1 ≤ n * 200000 + 1 + tsz t :=
  ⟨.inl ⟨j, Nat.lt_succ_self j, hj, rfl⟩, by omega⟩
/-- 'm[k] = v', however many there are. -/
theorem IMap.set2 {w : World} {b n : Nat} {f : Int → Option Int} (h : IMap w b n f) (hn : n ≤ 2000000000000) {x v : Int} (hx : i64 x) (hv : i64 v) :
    ∃ w', (Instr.mapUpdate 69 (.map (some b)) (.int .i64 x) (.int .i64 v)).run Tryz.prog w = .ok () w' ∧ IMap w' b (n + 1) (setF f x v) ∧ w.grownBy w' (some b) := by
  obtain ⟨D, hD, h2⟩ := h
  obtain ⟨w', hrun, hD', hg⟩ := hD.update id_keyed Tryz.underlying69 (by unfold maxLen; omega) (id_keyOf hx) (plainElem_int (a := v) Tryz.underlying3 (i64_wf hv))
  refine ⟨w', hrun, ⟨_, hD', fun y hy => ?_⟩, hg⟩
  unfold setF
  by_cases e : y = x
  · subst e
    rw [if_pos rfl]
    exact ⟨has_put_same hD.isMap (by trivial) _, fun z => atKey_put_same hD.isMap (by trivial) _ _⟩
  · have hne : (Lit.int .i64 y) ≠ .int .i64 x := fun h => e (Lit.int.inj h).2
    rw [if_neg e]
    exact ⟨by rw [has_put_other hne]; exact (h2 y hy).1, fun z => by rw [atKey_put_other hne]; exact (h2 y hy).2 z⟩
end

section
theorem mkO_of {k a b : Nat} {s : List UInt8} {l : List Tm} (h : (Tm.mk k a b s l).ok) (hl : (Tm.mk k a b s l).len ≤ 131072) : mkO k a b s (l.map some) = some (.mk k a b s l) := by
  unfold mkO
  rw [alls_map]
  dsimp only
  rw [if_pos (by rw [← len_mk (ok_mk.1 h).1]; exact hl)]
section
variable {known sent made : List (Option Tm)} {t : Tm}
theorem st_data (h : t.ok) (hl : t.len ≤ 131072) (hk : t.kind = 1) : stepT known sent made ⟨0, 0, 0, 0, t.s⟩ = some t := by
  obtain ⟨k, a, b, s, l⟩ := t
  obtain rfl : k = 1 := hk
  have hh := (ok_mk.1 h).1
  unfold okHd at hh
  simp only [reduceCtorEq, false_and, or_false, false_or, true_and, Nat.reduceEqDiff] at hh
  obtain ⟨rfl, rfl, hm, _⟩ := hh
  obtain rfl := List.eq_nil_of_length_eq_zero hm
  have := mkO_of h hl
  simpa [stepT, sel, dataT, Tm.s] using this
theorem st_nonce (h : t.ok) (hl : t.len ≤ 131072) (hk : t.kind = 2) (ha : t.a = 0) : stepT known sent made ⟨1, t.b, 0, 0, []⟩ = some t := by
  obtain ⟨k, a, b, s, l⟩ := t
  obtain rfl : k = 2 := hk
  obtain rfl : a = 0 := ha
  have hh := (ok_mk.1 h).1
  unfold okHd at hh
  simp only [reduceCtorEq, false_and, or_false, false_or, true_and, Nat.reduceEqDiff] at hh
  obtain ⟨_, hb, rfl, hm⟩ := hh
  obtain rfl := List.eq_nil_of_length_eq_zero hm
  have := mkO_of h hl
  have hb' : (b : Int) ≤ 2147483647 := by omega
  simpa [stepT, sel, nonceT, numOk, Tm.b, hb'] using this
theorem st_know {p : Nat} (h : known[p]? = some (some t)) : stepT known sent made ⟨2, p, 0, 0, []⟩ = some t := by simp [stepT, sel, pkO_of h]
theorem st_sent {p : Nat} (h : sent[p]? = some (some t)) : stepT known sent made ⟨3, p, 0, 0, []⟩ = some t := by simp [stepT, sel, pkO_of h]
theorem st_base {s : List UInt8} (h1 : 1 ≤ s.length) (h2 : s.length ≤ 2100) : stepT known sent made ⟨4, 0, 0, 0, s⟩ = some (.mk 5 0 0 s []) := by
  have h : txtOk s 2100 := ⟨h1, h2⟩
  have hl : own 5 s.length + lens [] ≤ 131072 := by simp [own, lens]; omega
  simp [stepT, sel, baseT, h, mkO, alls, hl]
theorem st_exp {s : List UInt8} {l : List Tm} {x : Tm} {p q : Nat} (hp : made[p]? = some (some (.mk 5 0 0 s l))) (hq : made[q]? = some (some x)) (hx : x.kind = 2) (hm : l.length < 8)
    (h : (Tm.mk 5 0 0 s (ins x l)).ok) (hl : (Tm.mk 5 0 0 s (ins x l)).len ≤ 131072) : stepT known sent made ⟨5, p, q, 0, []⟩ = some (.mk 5 0 0 s (ins x l)) := by
  have := mkO_of h hl
  obtain ⟨k', a', b', s', l'⟩ := x
  obtain rfl : k' = 2 := hx
  simpa [stepT, sel, pkO_of hp, pkO_of hq, expT, Tm.kind, Tm.args, Tm.s, hm] using this
theorem st_pub {u : Tm} {p : Nat} (hp : made[p]? = some (some u)) (h : t.ok) (hl : t.len ≤ 131072) (hk : t.kind = 4) (ha : t.args = [u]) : stepT known sent made ⟨6, p, 0, 0, []⟩ = some t := by
  obtain ⟨k, a, b, s, l⟩ := t
  obtain rfl : k = 4 := hk
  obtain rfl : l = [u] := ha
  have hh := (ok_mk.1 h).1
  unfold okHd at hh
  simp only [reduceCtorEq, false_and, or_false, false_or, true_and, Nat.reduceEqDiff] at hh
  obtain ⟨rfl, rfl, rfl, _⟩ := hh
  have hu : u.kind = 3 := (ok_mk.1 h).2.1.1 rfl u (by simp)
  have := mkO_of h hl
  simpa [stepT, sel, pkO_of hp, pubT, kindO, hu] using this
theorem st_sign {u v : Tm} {p q : Nat} (hp : made[p]? = some (some u)) (hq : made[q]? = some (some v)) (h : t.ok) (hl : t.len ≤ 131072) (hk : t.kind = 6) (ha : t.args = [u, v]) : stepT known sent made ⟨7, p, q, 0, t.s⟩ = some t := by
  obtain ⟨k, a, b, s, l⟩ := t
  obtain rfl : k = 6 := hk
  obtain rfl : l = [u, v] := ha
  have hh := (ok_mk.1 h).1
  unfold okHd at hh
  simp only [reduceCtorEq, false_and, or_false, false_or, true_and, Nat.reduceEqDiff] at hh
  obtain ⟨rfl, rfl, h1, h2, _⟩ := hh
  have hu : u.kind = 3 := (ok_mk.1 h).2.1.2.2 rfl u (by simp)
  have ht : txtOk s 64 := ⟨h1, h2⟩
  have := mkO_of h hl
  simpa [stepT, sel, pkO_of hp, pkO_of hq, signT, kindO, hu, ht, Tm.s] using this
theorem st_hash {u : Tm} {p : Nat} (hp : made[p]? = some (some u)) (h : t.ok) (hl : t.len ≤ 131072) (hk : t.kind = 7) (ha : t.args = [u]) : stepT known sent made ⟨8, p, 0, 0, []⟩ = some t := by
  obtain ⟨k, a, b, s, l⟩ := t
  obtain rfl : k = 7 := hk
  obtain rfl : l = [u] := ha
  have hh := (ok_mk.1 h).1
  unfold okHd at hh
  simp only [reduceCtorEq, false_and, or_false, false_or, true_and, Nat.reduceEqDiff] at hh
  obtain ⟨rfl, rfl, rfl, _⟩ := hh
  have := mkO_of h hl
  simpa [stepT, sel, pkO_of hp, hashT] using this
theorem st_derive {u v x : Tm} {p q r : Nat} (hp : made[p]? = some (some u)) (hq : made[q]? = some (some v)) (hr : made[r]? = some (some x)) (h : t.ok) (hl : t.len ≤ 131072) (hk : t.kind = 8) (ha : t.args = [u, v, x]) : stepT known sent made ⟨9, p, q, r, [UInt8.ofNat t.b]⟩ = some t := by
  obtain ⟨k, a, b, s, l⟩ := t
  obtain rfl : k = 8 := hk
  obtain rfl : l = [u, v, x] := ha
  have hh := (ok_mk.1 h).1
  unfold okHd at hh
  simp only [reduceCtorEq, false_and, or_false, false_or, true_and, Nat.reduceEqDiff] at hh
  obtain ⟨rfl, hb, rfl, _⟩ := hh
  have := mkO_of h hl
  simpa [stepT, sel, pkO_of hp, pkO_of hq, pkO_of hr, deriveT, Tm.b, ltr, Nat.mod_eq_of_lt hb] using this
theorem st_seal {u v : Tm} {p q : Nat} (hp : made[p]? = some (some u)) (hq : made[q]? = some (some v)) (h : t.ok) (hl : t.len ≤ 131072) (hk : t.kind = 9) (ha : t.args = [u, v]) : stepT known sent made ⟨10, p, q, t.b, []⟩ = some t := by
  obtain ⟨k, a, b, s, l⟩ := t
  obtain rfl : k = 9 := hk
  obtain rfl : l = [u, v] := ha
  have hh := (ok_mk.1 h).1
  unfold okHd at hh
  simp only [reduceCtorEq, false_and, or_false, false_or, true_and, Nat.reduceEqDiff] at hh
  obtain ⟨rfl, hb, rfl, _⟩ := hh
  have := mkO_of h hl
  have hb' : (b : Int) ≤ 4294967295 := by omega
  simpa [stepT, sel, pkO_of hp, pkO_of hq, sealT, Tm.b, hb'] using this
theorem st_open {u k : Tm} {p q : Nat} (hp : made[p]? = some (some u)) (hq : made[q]? = some (some k)) (hk : u.kind = 9) (ha : u.args = [k, t]) : stepT known sent made ⟨11, p, q, 0, []⟩ = some t := by
  simp [stepT, sel, pkO_of hp, pkO_of hq, openT, hk, ha]
theorem st_empty : stepT known sent made ⟨12, 0, 0, 0, []⟩ = some (.mk 10 0 0 [] []) := by
  simp [stepT, sel, listT, mkO, alls, own, lens]
theorem st_add {l : List Tm} {x : Tm} {p q : Nat} (hp : made[p]? = some (some (.mk 10 0 0 [] l))) (hq : made[q]? = some (some x)) (hm : l.length < 32)
    (h : (Tm.mk 10 0 0 [] (l ++ [x])).ok) (hl : (Tm.mk 10 0 0 [] (l ++ [x])).len ≤ 131072) : stepT known sent made ⟨13, p, q, 0, []⟩ = some (.mk 10 0 0 [] (l ++ [x])) := by
  have := mkO_of h hl
  rw [List.map_append] at this
  simpa [stepT, sel, pkO_of hp, pkO_of hq, addT, listT, Tm.kind, Tm.args, show l.length + 1 ≤ 32 by omega] using this
theorem st_at {u : Tm} {p i : Nat} (hp : made[p]? = some (some u)) (hk : u.kind = 10) (hi : u.args[i]? = some t) : stepT known sent made ⟨14, p, i, 0, []⟩ = some t := by
  simp [stepT, sel, pkO_of hp, atT, hk, hi]
end
end

section
open Go.RowKit Go.Maps

/-- What a step leaves: the number of the step that makes t. -/
def CkR (V1 W : World) (m q bm : Nat) (L : List Tm) (known sent : List (Option Tm)) (M d k : Nat) (kl : List Mk) (F : Int → Option Int) (t : Tm) (r : Ending) (W' : World) : Prop :=
  ∃ (j : Nat) (A' : Option Addr) (c' : Nat) (e : List Mk) (nb' : Nat) (F' : Int → Option Int), r = .returned (.int .i64 j) ∧ CookW V1 W' m q bm A' c' (kl ++ e) nb' F' ∧ Coo L known sent (kl ++ e) F' ∧ (recT known sent (kl ++ e) [])[j]? = some (some t) ∧
    (nb' + k ≤ (kl ++ e).length ∧ (k = 1 ∨ kl = [] → j + 1 = (kl ++ e).length)) ∧ Pot L.length M d F F' kl.length (kl ++ e).length ∧ StayK W W' ∧ W.heap.size ≤ W'.heap.size
theorem CookW.noted {V W W' : World} {m q bm : Nat} {A : Option Addr} {c : Nat} {kl : List Mk} {nb : Nat} {F F2 : Int → Option Int} (h : CookW V W m q bm A c kl nb F) (hI : IMap W' bm (nb + 1) F2) (hg : W.grownBy W' (some bm)) :
    CookW V W' m q bm A c kl (nb + 1) F2 ∧ StayK W W' ∧ W.heap.size ≤ W'.heap.size := by
  obtain ⟨D, ⟨es, cl, hb, _⟩, _⟩ := h.map
  refine ⟨⟨h.below.grown hg h.below.size (fun k hk => by injection hk with hk; rw [← hk]; exact h.bge), h.map.blk hg h.blk, h.ge, h.bge, ?_, hI⟩, StayK.of_map h.map hg, hg.size⟩
  exact OwnR.keepF h.own (Keeps.of_grown (F := fun z => z = bm) hg fun q hq => (Option.some.inj hq).symm) fun q hq e => (OwnR.typ h.own hq).no_map hb e
theorem get_i64 {L : List Tm} {x : Int} {t : Tm} (h : get L x = some t) (hl : L.length ≤ 100) : ∃ i : Nat, x = i ∧ i < L.length := by
  obtain ⟨j, rfl, h⟩ := get_some h
  exact ⟨j, rfl, (List.getElem?_eq_some_iff.1 h).1⟩
set_option maxRecDepth 100000 in
set_option maxHeartbeats 2000000 in
theorem mmake_step {V V1 w0 W : World} {g m b q bm : Nat} {A0 A : Option Addr} {c0 c : Nat} {its : List It} {L ls : List Tm} {known sent : List (Option Tm)} {kl : List Mk} {nb : Nat} {F : Int → Option Int} {n M : Nat} {x : Int} {t : Tm}
    (hM : MindW V V1 g m b A0 c0 its) (hS : St w0 g V1 L) (hN : Named L its ls) (hc : CookW V1 W m q bm A c kl nb F) (ho : Coo L known sent kl F) (hnb : nb ≤ kl.length) (hx : get L x = some t) (hR : Room L.length M F kl.length) (hM1 : 1 ≤ M)
    (hf : ∀ i, i < n → ls[i]? = some t → Calls Tryz.prog 82 #[.pointer (some ⟨q, 0, none⟩), .int .i64 i] W (CkR V1 W m q bm L known sent (M - 1) 34 1 kl F t))
    (hb : t ∉ ls.take n → Calls Tryz.prog 83 #[.pointer (some ⟨q, 0, none⟩), .int .i64 x, .int .i64 n] W (CkR V1 W m q bm L known sent (M - 1) 34 1 kl F t)) :
    Calls Tryz.prog 37 #[.pointer (some ⟨q, 0, none⟩), .int .i64 x, .int .i64 n] W (CkR V1 W m q bm L known sent M 0 0 kl F t) := by
  have hx64 : i64 x := i64_get hx hS.few
  obtain ⟨c0', c1', c2'⟩ := hc.c0
  have hl := hc.map.look hx64
  have hMW := hM.keep hc.below
  cases hF : F x with
  | some j =>
    rw [hF] at hl
    simp only [Option.getD_some, Option.isSome_some] at hl
    obtain ⟨jn, rfl, u, hu, hj⟩ := ho.said x j hF
    rw [hx] at hu
    obtain rfl := Option.some.inj hu
    have hfin := Lib.hid (show CkR V1 W m q bm L known sent M 0 0 kl F t (.returned (.int .i64 jn)) W from ⟨jn, A, c, [], nb, F, rfl, by rw [List.append_nil]; exact hc, by rw [List.append_nil]; exact ho, by rw [List.append_nil]; exact hj, ⟨by rw [List.append_nil]; exact hnb, fun h => h.elim (fun h => absurd h (by decide)) fun h => by rw [h] at hj; exact absurd hj (by simp [recT])⟩, by rw [List.append_nil]; exact Pot.refl _ _ _ _, StayK.refl _, Nat.le_refl _⟩)
    clear hf hb hM hS hN hc ho hnb hx hR hM1 hMW hF hj hx64
    go_enter Tryz.func37, Tryz.ntmps37
    go_wp2
    go_ret
    exact hfin.out
  | none =>
    rw [hF] at hl
    simp only [Option.getD_none, Option.isSome_none] at hl
    obtain ⟨xi, rfl, hxi⟩ := get_i64 hx hS.few
    have hend := Lib.hid (show ∀ (r : Ending) (W2 : World), CkR V1 W m q bm L known sent (M - 1) 34 1 kl F t r W2 → ∃ (j : Nat) (W3 : World), r = .returned (.int .i64 j) ∧ W2.cell? ⟨q, 2, none⟩ = some (.map (some bm)) ∧ (Instr.mapUpdate 69 (.map (some bm)) (.int .i64 xi) (.int .i64 j)).run Tryz.prog W2 = .ok () W3 ∧ CkR V1 W m q bm L known sent M 0 0 kl F t (.returned (.int .i64 j)) W3 from by
      rintro r W2 ⟨j, A', c', e, nb', F', rfl, hc2, ho2, hj, hk, hp, hst, hsz⟩
      have hjl := (List.getElem?_eq_some_iff.1 hj).1
      rw [recT_len] at hjl
      have hlen := hR.len hp (Nat.le_refl _) hM1
      simp only [List.length_nil, Nat.add_zero] at hjl
      obtain ⟨W3, hrun, hI3, hg3⟩ := hc2.map.set2 (by omega) hx64 (show i64 (j : Int) by unfold i64; omega)
      obtain ⟨hc3, hst3, hsz3⟩ := hc2.noted hI3 hg3
      refine ⟨j, W3, rfl, hc2.c0.2.2, hrun, j, A', c', e, nb' + 1, _, rfl, hc3, ho2.set_ hx hj, hj, ⟨by have := hk.1; omega, fun h => hk.2 (.inl rfl)⟩, hp.done (by omega) (Nat.le_refl _) hR.1 hxi hF _, hst.trans hst3, Nat.le_trans hsz hsz3⟩)
    have cH := mhas_any hMW xi hx64 n
    have hiff := hN.has hS.good.once hx n
    by_cases ht : t ∈ ls.take n
    · rw [hiff.2 ht] at cH
      obtain ⟨d0, d1, d2⟩ := hMW.c0
      have hl1 := hMW.map.look1 hx64
      have hin := hasM_iff.1 (hiff.2 ht)
      obtain ⟨i, hai, hit, hilt⟩ : ∃ i : Nat, atF (itsT its) xi = some (i : Int) ∧ (itsT its)[i]? = some (xi : Int) ∧ i < n := by
        have h1 := hiff.2 ht
        unfold hasM at h1
        cases ha : atF (itsT its) xi with
        | none => rw [ha] at h1; cases h1
        | some v =>
          obtain ⟨i, rfl, hi⟩ := atF_some ha
          rw [ha] at h1
          exact ⟨i, rfl, hi, by simpa using h1⟩
      rw [hai] at hl1
      simp only [Option.getD_some] at hl1
      have hls : ls[i]? = some t := by
        unfold itsT at hit
        rw [List.getElem?_map] at hit
        obtain ⟨it, h1, h2⟩ := Option.map_eq_some_iff.1 hit
        obtain ⟨u, hu, hg⟩ := hN.at_ h1
        rw [h2, hx] at hg
        rw [hu, Option.some.inj hg]
      have cF := Lib.hid (hf i hilt hls)
      replace cH := Lib.hid cH
      clear hf hb hM hS hN hc ho hnb hx hR hM1 hMW hF hx64 hiff ht hin hai hit hilt hls hxi
      go_enter Tryz.func37, Tryz.ntmps37
      go_wp2_with (first
        | (go_at_call 34; (with_reducible refine cH.out.mono ?_); rintro r w1 ⟨rfl, rfl⟩)
        | (go_at_call 82; (with_reducible refine cF.out.mono ?_); rintro r w2 hr
           obtain ⟨j, W3, rfl, e2, hrun, hfin⟩ := hend.out r w2 hr
           replace hfin := Lib.hid hfin
           clear hr))
      go_ret
      exact hfin.out
    · have hfl : hasM (itsT its) xi n = false := by
        cases h : hasM (itsT its) xi n with
        | false => rfl
        | true => exact absurd (hiff.1 h) ht
      rw [hfl] at cH
      have cB := Lib.hid (hb ht)
      replace cH := Lib.hid cH
      clear hf hb hM hS hN hc ho hnb hx hR hM1 hMW hF hx64 hiff ht hfl hxi
      go_enter Tryz.func37, Tryz.ntmps37
      go_wp2_with (first
        | (go_at_call 34; (with_reducible refine cH.out.mono ?_); rintro r w1 ⟨rfl, rfl⟩)
        | (go_at_call 83; (with_reducible refine cB.out.mono ?_); rintro r w2 hr
           obtain ⟨j, W3, rfl, e2, hrun, hfin⟩ := hend.out r w2 hr
           replace hfin := Lib.hid hfin
           clear hr))
      go_ret
      exact hfin.out
end

section
open Go.RowKit Go.Maps

/-- make, of one term, of the first n that are had. -/
def MkP (V1 : World) (m q bm : Nat) (L : List Tm) (known sent : List (Option Tm)) (n M : Nat) (t : Tm) : Prop :=
  ∀ (W : World) (A : Option Addr) (c : Nat) (kl : List Mk) (nb : Nat) (F : Int → Option Int) (x : Int), CookW V1 W m q bm A c kl nb F → Coo L known sent kl F → nb ≤ kl.length → get L x = some t → Room L.length M F kl.length →
    Calls Tryz.prog 37 #[.pointer (some ⟨q, 0, none⟩), .int .i64 x, .int .i64 n] W (CkR V1 W m q bm L known sent M 0 0 kl F t)
theorem OwnR.stayK {w W : World} {base k : Nat} {E : TypeId} {v : Value} {zs : List (List Value)} (h : OwnR w base k E v zs) (hs : StayK w W) (h1 : E ≠ 86) (h2 : E ≠ 79) : OwnR W base k E v zs := by
  refine ⟨⟨h.1.1, ?_⟩, h.2⟩
  rcases h.1.2 with hn | ⟨g, cap, cur, e, hg, hc, r⟩
  · exact .inl hn
  · exact .inr ⟨g, cap, cur, e, hg, hs g cur E _ hc h1 h2, r⟩
theorem CookW.grownT {V W W' : World} {m q bm : Nat} {A : Option Addr} {c : Nat} {kl : List Mk} {nb : Nat} {F : Int → Option Int} {row : Option Nat} {E : TypeId} (h : CookW V W m q bm A c kl nb F) (hg : W.grownBy W' row) (hr : ∀ z, row = some z → Typ W z E) (hb : ∀ z, row = some z → V.heap.size ≤ z)
    (h1 : E ≠ 86) (h2 : E ≠ 79) : CookW V W' m q bm A c kl nb F :=
  ⟨h.below.grown hg h.below.size hb, block_grown h.blk hg hr (fun e => h1 e.symm), h.ge, h.bge, OwnR.grown_ h.own hg hr (fun e => h2 e.symm), h.map.grownT hg hr⟩
theorem StayK.up {W w w' : World} {row : Option Nat} (h : StayK W w) (hs : W.heap.size ≤ w.heap.size) (hg : w.grownBy w' row) (hr : ∀ z, row = some z → W.heap.size ≤ z) : StayK W w' := fun q cur t fr hq h1 h2 => by
  have hlt := (Array.getElem?_eq_some_iff.1 hq).1
  exact (hg.block q (Nat.lt_of_lt_of_le hlt hs) fun e => absurd (hr q e.symm) (by omega)).trans (h q cur t fr hq h1 h2)
/-- What parts leave so far: a step for each. -/
structure PtsW (V1 W W' : World) (m q bm : Nat) (L : List Tm) (known sent : List (Option Tm)) (M : Nat) (kl : List Mk) (F : Int → Option Int) (us : List Tm) (v : Value) (js : List Nat) (e : List Mk) (F' : Int → Option Int) : Prop where
  cook : ∃ A' c' nb', CookW V1 W' m q bm A' c' (kl ++ e) nb' F' ∧ nb' ≤ (kl ++ e).length
  coo : Coo L known sent (kl ++ e) F'
  own : OwnI W' W.heap.size v (js.map fun j : Nat => (j : Int))
  len : js.length = us.length
  all : ∀ (i j : Nat) (u : Tm), js[i]? = some j → us[i]? = some u → (recT known sent (kl ++ e) [])[j]? = some (some u)
  pot : Pot L.length M 0 F F' kl.length (kl ++ e).length
  stay : StayK W W'
  size : W.heap.size ≤ W'.heap.size
def PtsR (V1 W : World) (m q bm : Nat) (L : List Tm) (known sent : List (Option Tm)) (M : Nat) (kl : List Mk) (F : Int → Option Int) (us : List Tm) (r : Ending) (W' : World) : Prop :=
  ∃ (v : Value) (js : List Nat) (e : List Mk) (F' : Int → Option Int), r = .returned v ∧ PtsW V1 W W' m q bm L known sent M kl F us v js e F'
theorem int_one (x : Int) : ∀ u ∈ iv x, u.oneCell' = true := by intro u hu; simp only [iv, List.mem_cons, List.not_mem_nil, or_false] at hu; subst hu; rfl
/-- One part more. -/
theorem PtsW.next {V1 W W1 W2 W3 : World} {m q bm : Nat} {L : List Tm} {known sent : List (Option Tm)} {M : Nat} {kl : List Mk} {F : Int → Option Int} {us : List Tm} {v v' : Value} {js : List Nat} {e : List Mk} {F' : Int → Option Int} {u : Tm}
    (h : PtsW V1 W W1 m q bm L known sent M kl F us v js e F') (hV : V1.heap.size ≤ W.heap.size) {A' : Option Addr} {c' : Nat} {e2 : List Mk} {nb' : Nat} {F2 : Int → Option Int} {j : Nat}
    (hc : CookW V1 W2 m q bm A' c' (kl ++ e ++ e2) nb' F2) (ho : Coo L known sent (kl ++ e ++ e2) F2) (hj : (recT known sent (kl ++ e ++ e2) [])[j]? = some (some u)) (hn : nb' ≤ (kl ++ e ++ e2).length) (hp : Pot L.length M 0 F' F2 (kl ++ e).length (kl ++ e ++ e2).length) (hs : StayK W1 W2) (hz : W1.heap.size ≤ W2.heap.size)
    (hO : OwnR W3 W.heap.size 1 3 v' ((js.map fun j : Nat => (j : Int)).map iv ++ [iv j])) (hg : (W2.alloc (.cells (iv j).toArray 3)).grownBy W3 v.ownBlock) (hov : OwnI W2 W.heap.size v (js.map fun j : Nat => (j : Int))) :
    PtsW V1 W W3 m q bm L known sent M kl F (us ++ [u]) v' (js ++ [j]) (e ++ e2) F2 := by
  have hb := below_new W2 (.cells (iv j).toArray 3)
  have hov2 : OwnI (W2.alloc (.cells (iv j).toArray 3)) W.heap.size v (js.map fun j : Nat => (j : Int)) := OwnI.keep hov hb
  have hT : ∀ z, v.ownBlock = some z → Typ (W2.alloc (.cells (iv j).toArray 3)) z 3 := fun z hz => OwnR.typ hov2 hz
  have hlo : ∀ z, v.ownBlock = some z → W.heap.size ≤ z := fun z hz => (hov2.1.lt z hz).1
  have hstay : StayK W (W2.alloc (.cells (iv j).toArray 3)) := (h.stay.trans hs).trans (StayK.of_below hb)
  have hsz : W.heap.size ≤ (W2.alloc (.cells (iv j).toArray 3)).heap.size := Nat.le_trans (Nat.le_trans h.size hz) hb.size
  refine ⟨⟨A', c', nb', ?_, by rw [← List.append_assoc]; exact hn⟩, by rw [← List.append_assoc]; exact ho, ?_, by simp [h.len], fun i j' u' hi hu => ?_, ?_, hstay.up hsz hg hlo, Nat.le_trans hsz hg.size⟩
  · rw [← List.append_assoc]
    exact (hc.keep hb).grownT hg hT (fun z hz => Nat.le_trans hV (hlo z hz)) (by decide) (by decide)
  · unfold OwnI
    rw [List.map_append, List.map_append]
    exact hO
  · rw [← List.append_assoc]
    by_cases hlt : i < js.length
    · rw [List.getElem?_append_left hlt] at hi
      rw [List.getElem?_append_left (by rw [← h.len]; exact hlt)] at hu
      exact recT_keep (h.all i j' u' hi hu)
    · have hi' : i = js.length := by
        have := (List.getElem?_eq_some_iff.1 hi).1
        simp at this; omega
      subst hi'
      have hi : j = j' := by simpa using hi
      rw [h.len] at hu
      have hu : u = u' := by simpa using hu
      rw [← hi, ← hu]; exact hj
  · rw [← List.append_assoc]
    exact (h.pot.trans hp).up (Nat.le_refl _) (Nat.le_refl _)
set_option maxRecDepth 100000 in
set_option maxHeartbeats 2000000 in
theorem mparts_any {V1 W : World} {m q bm : Nat} {A : Option Addr} {c : Nat} {L : List Tm} {known sent : List (Option Tm)} {kl : List Mk} {nb : Nat} {F : Int → Option Int} {n M B : Nat} {Az : Option Addr} {cz : Nat} (zs : List (Int × Tm))
    (hc : CookW V1 W m q bm A c kl nb F) (ho : Coo L known sent kl F) (hnb : nb ≤ kl.length) (hR : Room L.length M F kl.length) (hM1 : 1 ≤ M) (hz : OwnD W B (.slice Az zs.length cz) (zs.map Prod.fst)) (hl : zs.length ≤ 32)
    (hmk : ∀ z ∈ zs, get L z.1 = some z.2 ∧ ∃ M1, M1 + 1 ≤ M ∧ MkP V1 m q bm L known sent n M1 z.2) :
    Calls Tryz.prog 106 #[.pointer (some ⟨q, 0, none⟩), .slice Az zs.length cz, .int .i64 n] W (PtsR V1 W m q bm L known sent (M - 1) kl F (zs.map Prod.snd)) := by
  obtain ⟨i0, hi, hz0, hz1, hz2⟩ := info_parts int_info
  have h0 : Hid (PtsW V1 W W m q bm L known sent (M - 1) kl F ((zs.map Prod.snd).take 0) (.slice none 0 0) [] [] F) := Lib.hid ⟨⟨A, c, nb, by rw [List.append_nil]; exact hc, by rw [List.append_nil]; exact hnb⟩, by rw [List.append_nil]; exact ho, OwnR.nil_ _ _ _ _, rfl, fun i j u hi => (by simp at hi), by rw [List.append_nil]; exact Pot.refl _ _ _ _, StayK.refl _, Nat.le_refl _⟩
  have hV := Lib.hid hc.below.size
  have hzI := Lib.hid (show ∀ W', StayK W W' → Ints W' Az zs.length (zs.map Prod.fst) from fun W' hs => by
    have hzr : OwnD W' B (.slice Az zs.length cz) (zs.map Prod.fst) := OwnR.stayK hz hs (by decide) (by decide)
    obtain ⟨A3, c3, e3, hI3⟩ := hzr.ints
    rw [List.length_map] at e3 hI3
    injection e3 with e31 _ _
    rw [e31]
    exact hI3)
  have hmkh := Lib.hid hmk
  have hRh := Lib.hid hR
  have hM1h := Lib.hid hM1
  unfold PtsR
  clear hc ho hnb hR hz hmk hM1
  go_enter Tryz.func106, Tryz.ntmps106
  go_wp2_with fail
  go_loopw [7, 12] (fun vv iv wr => ∃ (j : Nat) (js : List Nat) (e : List Mk) (F' : Int → Option Int) (v : Value), j ≤ zs.length ∧ vv = v ∧ iv = .int .i64 j ∧ Hid (PtsW V1 W wr m q bm L known sent (M - 1) kl F ((zs.map Prod.snd).take j) v js e F')) (fun _ iv _ => zs.length - (intOf iv).toNat)
  case atStart => exact ⟨0, [], [], F, _, Nat.zero_le _, rfl, rfl, h0⟩
  case round =>
    clear h0
    obtain ⟨j, js, e, F', vv, hj, hvv, rfl, hP⟩ := hrel
    obtain ⟨Av, cv, ev, _⟩ := hP.out.own.ints
    rw [List.length_map] at ev
    subst ev
    subst hvv
    by_cases hlt : j < zs.length
    · have hlt' : (j : Int) < (zs.length : Int) := by omega
      obtain ⟨z, hzj⟩ : ∃ z, zs[j]? = some z := ⟨zs[j], List.getElem?_eq_getElem hlt⟩
      obtain ⟨hgz, M1, hM1, hmk1⟩ := hmkh.out z (List.mem_of_getElem? hzj)
      have hI3 := hzI.out wr hP.out.stay
      obtain ⟨b3, o3, y3, rfl, hb3, hy3, hc3⟩ := hI3.at_ hlt
      rw [List.getElem?_map, hzj] at hy3
      obtain rfl : z.1 = y3 := Option.some.inj hy3
      obtain ⟨⟨A4, c4, nb4, hc4, hn4⟩, ho4, hov, hjl, -, hpot, -, -⟩ := id hP.out
      have cM := Lib.hid (hmk1 wr A4 c4 (kl ++ e) nb4 F' z.1 hc4 ho4 hn4 hgz (hRh.out.sub hpot (by decide) hM1))
      have hnext := Lib.hid (show ∀ (r : Ending) (W2 : World), CkR V1 wr m q bm L known sent M1 0 0 (kl ++ e) F' z.2 r W2 → ∃ jn : Nat, r = .returned (.int .i64 jn) ∧ OwnR (W2.alloc (.cells (iv jn).toArray 3)) W.heap.size 1 3 (.slice Av js.length cv) ((js.map fun j : Nat => (j : Int)).map iv) ∧ W.heap.size ≤ (W2.alloc (.cells (iv jn).toArray 3)).heap.size ∧
          ∀ v' W3, OwnR W3 W.heap.size 1 3 v' ((js.map fun j : Nat => (j : Int)).map iv ++ [iv jn]) → (W2.alloc (.cells (iv jn).toArray 3)).grownBy W3 (Value.slice Av js.length cv).ownBlock → ∃ js' e' F2, PtsW V1 W W3 m q bm L known sent (M - 1) kl F ((zs.map Prod.snd).take (j + 1)) v' js' e' F2 from by
        rintro r W2 ⟨jn, A2, c2, e2, nb2, F2, rfl, hc2, ho2, hj2, hk2, hp2, hst2, hsz2⟩
        have hov2 : OwnI W2 W.heap.size (.slice Av js.length cv) (js.map fun j : Nat => (j : Int)) := OwnR.stayK hov hst2 (by decide) (by decide)
        have hbn := below_new W2 (.cells (iv jn).toArray 3)
        refine ⟨jn, rfl, OwnR.keep hov2 hbn, Nat.le_trans (Nat.le_trans hP.out.size hsz2) hbn.size, fun v' W3 hO hg => ⟨js ++ [jn], e ++ e2, F2, ?_⟩⟩
        rw [show (zs.map Prod.snd).take (j + 1) = (zs.map Prod.snd).take j ++ [z.2] from take_succ_of (by rw [List.getElem?_map, hzj]; rfl)]
        exact hP.out.next hV.out hc2 ho2 hj2 hk2.1 (hp2.up (by omega) (Nat.le_refl _)) hst2 hsz2 hO hg hov2)
      have hjlen : js.length = j := by rw [hjl, List.length_take, List.length_map]; omega
      have hjl3 := Lib.hid hjlen
      clear hzj hgz hmk1 hI3 hy3 hc4 hn4 ho4 hov hjl hpot hjlen hM1
      go_upto_region 6 with (first
        | (go_at_call 37; (with_reducible refine cM.out.mono ?_); rintro r w2 hr
           obtain ⟨jn, rfl, hO1, hB1, hup⟩ := hnext.out r w2 hr
           have hO1 := Lib.hid hO1
           have hB1 := Lib.hid hB1
           have hup := Lib.hid hup
           have hrow := Lib.hid (rangeAt_list (heap_new w2 (.cells (iv jn).toArray 3)))
           clear hr cM hnext)
        | (at_builtin; refine wpList_append_one_at rfl _ _ 62 rfl 3 i0 _ 1 8 Tryz.underlying62 hi hz0 hz1 hz2 rfl (by decide) W.heap.size hB1.out _ _ rfl hO1.out w2.heap.size 1 (iv jn) rfl hrow.out rfl (int_one _) (by have := hjl3.out; simp only [List.length_map]; unfold maxLen; omega) (by have := hjl3.out; simp only [List.length_map]; omega) ?_
           intro v3 w3 hO3 hg3 _
           obtain ⟨js', e', F2, hP3⟩ := hup.out v3 w3 hO3 hg3
           have hP3 := Lib.hid hP3
           clear hO3 hg3))
      clear hO1 hB1 hup hrow
      go_wp2_with fail
      go_roundw
      case rel => exact ⟨j + 1, js', e', F2, v3, by omega, rfl, by go_num, hP3⟩
      case measure => simp [intOf]; omega
    · have hje : j = zs.length := by omega
      subst hje
      have hfin := Lib.hid (show PtsW V1 W wr m q bm L known sent (M - 1) kl F (zs.map Prod.snd) (.slice Av js.length cv) js e F' by have := hP.out; rwa [List.take_of_length_le (by simp)] at this)
      go_wp2_with fail
      go_ret
      exact ⟨_, js, e, F', rfl, hfin.out⟩
end

section
open Go.RowKit Go.Maps

theorem Pot.puts (n M : Nat) (F : Int → Option Int) (a k : Nat) : Pot n M k F F a (a + k) := ⟨fun _ h => h, Nat.le_add_right _ _, by omega, fun _ h h' => absurd h h'⟩
theorem lens_take (l : List Tm) (i : Nat) : lens (l.take i) ≤ lens l := by
  have h : lens l = lens (l.take i) + lens (l.drop i) := by
    conv => lhs; rw [← List.take_append_drop i l]
    unfold lens
    rw [List.map_append, List.sum_append]
  omega
/-- The first of a list's terms make a list too. -/
theorem list_pre {us : List Tm} (h : (Tm.mk 10 0 0 [] us).ok) (hl : (Tm.mk 10 0 0 [] us).len ≤ 131072) (i : Nat) : (Tm.mk 10 0 0 [] (us.take i)).ok ∧ (Tm.mk 10 0 0 [] (us.take i)).len ≤ 131072 := by
  have hh := (ok_mk.1 h).1
  have h2 := (ok_mk.1 h).2.2
  have hm : us.length ≤ 32 := by
    unfold okHd at hh
    simp only [reduceCtorEq, false_and, or_false, false_or, true_and, Nat.reduceEqDiff] at hh
    omega
  have hh' : okHd 10 0 0 [] (us.take i).length := .inr (.inr (.inr (.inr (.inr (.inr (.inr (.inr (.inr ⟨rfl, rfl, rfl, rfl, by rw [List.length_take]; omega⟩))))))))
  have hok : (Tm.mk 10 0 0 [] (us.take i)).ok := ok_mk.2 ⟨hh', okArgs_none (by decide) (by decide) (by decide) _, fun t ht => h2 t (List.mem_of_mem_take ht)⟩
  refine ⟨hok, ?_⟩
  rw [len_mk hh'] 
  rw [len_mk hh] at hl
  have := lens_take us i
  omega
/-- A put that makes a term. -/
theorem put_made {V1 W W' : World} {m q bm : Nat} {L : List Tm} {known sent : List (Option Tm)} {kl : List Mk} {nb : Nat} {F : Int → Option Int} {x : Mk} {r : Ending} {t : Tm} (ho : Coo L known sent kl F) (h : PutK V1 W m q bm kl nb F x r W')
    (ht : stepT known sent (recT known sent kl []) x = some t) (hok : t.ok) (hl : t.len ≤ 131072) (hs : x.s.length ≤ 131072) :
    r = .returned (.int .i64 kl.length) ∧ (∃ A' c', CookW V1 W' m q bm A' c' (kl ++ [x]) nb F) ∧ Coo L known sent (kl ++ [x]) F ∧ (recT known sent (kl ++ [x]) [])[kl.length]? = some (some t) ∧ StayK W W' ∧ W.heap.size ≤ W'.heap.size :=
  ⟨h.1, h.2.2.2, (ho.put x ht hok hl hs).1, (ho.put x ht hok hl hs).2, h.2.1, h.2.2.1⟩
/-- What list has made so far. -/
structure LstW (V1 W W' : World) (m q bm : Nat) (L : List Tm) (known sent : List (Option Tm)) (kl : List Mk) (nb : Nat) (F : Int → Option Int) (us : List Tm) (i j : Nat) (e : List Mk) : Prop where
  cook : ∃ A' c', CookW V1 W' m q bm A' c' (kl ++ e) nb F
  coo : Coo L known sent (kl ++ e) F
  at_ : (recT known sent (kl ++ e) [])[j]? = some (some (.mk 10 0 0 [] (us.take i)))
  len : e.length = i + 1
  last : j + 1 = (kl ++ e).length
  stay : StayK W W'
  size : W.heap.size ≤ W'.heap.size
set_option maxRecDepth 100000 in
set_option maxHeartbeats 2000000 in
theorem mlist_any {V1 W : World} {m q bm : Nat} {A : Option Addr} {c : Nat} {L : List Tm} {known sent : List (Option Tm)} {kl : List Mk} {nb : Nat} {F : Int → Option Int} {M B : Nat} {Ap : Option Addr} {cp : Nat} (us : List Tm) (js : List Nat)
    (hc : CookW V1 W m q bm A c kl nb F) (ho : Coo L known sent kl F) (hnb : nb ≤ kl.length) (hkl : kl.length ≤ 1999999999960) (hp : OwnI W B (.slice Ap js.length cp) (js.map fun j : Nat => (j : Int))) (hjl : js.length = us.length)
    (hall : ∀ (i j : Nat) (u : Tm), js[i]? = some j → us[i]? = some u → (recT known sent kl [])[j]? = some (some u)) (hok : (Tm.mk 10 0 0 [] us).ok) (hlen : (Tm.mk 10 0 0 [] us).len ≤ 131072) (hm : us.length ≤ 32) :
    Calls Tryz.prog 105 #[.pointer (some ⟨q, 0, none⟩), .slice Ap js.length cp] W (CkR V1 W m q bm L known sent M 33 1 kl F (.mk 10 0 0 [] us)) := by
  have hpI := Lib.hid (show ∀ W', StayK W W' → Ints W' Ap js.length (js.map fun j : Nat => (j : Int)) from fun W' hs => by
    have hzr : OwnI W' B (.slice Ap js.length cp) (js.map fun j : Nat => (j : Int)) := OwnR.stayK hp hs (by decide) (by decide)
    obtain ⟨A3, c3, e3, hI3⟩ := hzr.ints
    rw [List.length_map] at e3 hI3
    injection e3 with e31 _ _
    rw [e31]
    exact hI3)
  have hpre := fun i => list_pre hok hlen i
  have cE : Calls Tryz.prog 103 #[.pointer (some ⟨q, 0, none⟩), .agg #[.int .i64 12, .int .i64 0, .int .i64 0, .int .i64 0, .string ⟨#[]⟩]] W (fun r W' => r = .returned (.int .i64 kl.length) ∧ LstW V1 W W' m q bm L known sent kl nb F us 0 kl.length [⟨12, 0, 0, 0, []⟩]) :=
    Calls.mono (mput_any hc ⟨12, 0, 0, 0, []⟩ (by omega)) fun (r : Ending) (W' : World) h => by
      obtain ⟨h1, h2, h3, h4, h5, h6⟩ := put_made ho h st_empty (hpre 0).1 (hpre 0).2 (by simp)
      exact ⟨h1, h2, h3, h4, rfl, by simp, h5, h6⟩
  have cA := Lib.hid (show ∀ (W1 : World) (i j : Nat) (e : List Mk) (jn : Nat), i < us.length → js[i]? = some jn → LstW V1 W W1 m q bm L known sent kl nb F us i j e →
      Calls Tryz.prog 103 #[.pointer (some ⟨q, 0, none⟩), .agg #[.int .i64 13, .int .i64 j, .int .i64 jn, .int .i64 0, .string ⟨#[]⟩]] W1 (fun r W' => ∃ j' e', r = .returned (.int .i64 (j' : Nat)) ∧ LstW V1 W W' m q bm L known sent kl nb F us (i + 1) j' e') from fun W1 i j e jn hi hj h => by
    obtain ⟨⟨A', c', hc1⟩, ho1, hat, hel, hla, hst, hsz⟩ := h
    refine Calls.mono (mput_any hc1 ⟨13, j, jn, 0, []⟩ (by rw [List.length_append]; omega)) fun (r : Ending) (W' : World) h => ?_
    obtain ⟨u, hu⟩ : ∃ u, us[i]? = some u := ⟨us[i], List.getElem?_eq_getElem hi⟩
    have hq := recT_keep (e := e) (hall i jn u hj hu)
    have htk := take_succ_of hu
    have h32 : (us.take i).length < 32 := by rw [List.length_take]; omega
    have hs := st_add (known := known) (sent := sent) hat hq h32 (by rw [← htk]; exact (hpre (i + 1)).1) (by rw [← htk]; exact (hpre (i + 1)).2)
    rw [← htk] at hs
    obtain ⟨h1, ⟨A2, c2, h2⟩, h3, h4, h5, h6⟩ := put_made ho1 h hs (hpre (i + 1)).1 (hpre (i + 1)).2 (by simp)
    rw [List.append_assoc] at h2 h3 h4
    exact ⟨_, e ++ [⟨13, j, jn, 0, []⟩], h1, ⟨A2, c2, h2⟩, h3, h4, by simp [hel], by simp; omega, hst.trans h5, Nat.le_trans hsz h6⟩)
  have hfin := Lib.hid (show ∀ (W' : World) (j : Nat) (e : List Mk), LstW V1 W W' m q bm L known sent kl nb F us us.length j e → CkR V1 W m q bm L known sent M 33 1 kl F (.mk 10 0 0 [] us) (.returned (.int .i64 j)) W' from fun W' j e h => by
    obtain ⟨⟨A', c', hc1⟩, ho1, hat, hel, hla, hst, hsz⟩ := h
    rw [List.take_of_length_le (Nat.le_refl _)] at hat
    exact ⟨j, A', c', e, nb, F, rfl, hc1, ho1, hat, ⟨by rw [List.length_append]; omega, fun _ => hla⟩, by rw [List.length_append]; exact (Pot.puts _ _ _ _ _).up (Nat.le_refl _) (by omega), hst, hsz⟩)
  have hjh := Lib.hid hjl
  have hmh := Lib.hid hm
  replace cE := Lib.hid cE
  obtain ⟨nj, hnj⟩ : ∃ nj, js.length = nj := ⟨_, rfl⟩
  rw [hnj] at hpI ⊢
  have hn32 : nj ≤ 32 := by omega
  replace hnj := Lib.hid hnj
  clear hc ho hnb hkl hp hjl hall hok hlen hm hpre
  go_enter Tryz.func105, Tryz.ntmps105
  go_upto_region 2 with (go_at_call 103; (with_reducible refine cE.out.mono ?_); rintro r w1 ⟨rfl, h0⟩; have h0 := Lib.hid h0)
  clear cE
  go_wp2_with fail
  go_loopw [5, 13] (fun vv iv wr => ∃ (i j : Nat) (e : List Mk), i ≤ nj ∧ vv = .int .i64 j ∧ iv = .int .i64 i ∧ Hid (LstW V1 W wr m q bm L known sent kl nb F us i j e)) (fun _ iv _ => nj - (intOf iv).toNat)
  case atStart => exact ⟨0, _, _, Nat.zero_le _, rfl, rfl, h0⟩
  case round =>
    clear h0
    obtain ⟨i, j, e, hi, rfl, rfl, hP⟩ := hrel
    by_cases hlt : i < nj
    · have hlt' : (i : Int) < (nj : Int) := by omega
      obtain ⟨jn, hjn⟩ : ∃ jn, js[i]? = some jn := ⟨js[i]'(by have := hnj.out; omega), List.getElem?_eq_getElem _⟩
      obtain ⟨b3, o3, y3, rfl, hb3, hy3, hc3⟩ := (hpI.out wr hP.out.stay).at_ hlt
      rw [List.getElem?_map, hjn] at hy3
      obtain rfl : (jn : Int) = y3 := Option.some.inj hy3
      have cB := Lib.hid (cA.out wr i j e jn (by have := hnj.out; have := hjh.out; omega) hjn hP.out)
      clear hjn hy3
      go_wp2_with (go_at_call 103; (with_reducible refine cB.out.mono ?_); rintro r w2 ⟨j', e', rfl, h2⟩; have h2 := Lib.hid h2)
      go_roundw
      case rel => exact ⟨i + 1, j', e', by omega, rfl, by go_num, h2⟩
      case measure => simp [intOf]; omega
    · have hje : i = us.length := by have := hnj.out; have := hjh.out; omega
      subst hje
      have hf := Lib.hid (hfin.out wr j e hP.out)
      clear hfin cA
      go_wp2_with fail
      go_ret
      exact hf.out
end

section
/-- Nonces in their order. -/
def Nons (l : List Tm) : Prop := l.Pairwise nle ∧ ∀ x ∈ l, x.ok ∧ x.kind = 2
theorem Nons.eq {l m : List Tm} (hl : Nons l) (hm : Nons m) (h : ∀ x, cnt x l = cnt x m) : l = m := by
  induction l generalizing m with
  | nil =>
    cases m with
    | nil => rfl
    | cons y m =>
      have := h y
      rw [cnt_nil, cnt_cons, if_pos rfl] at this
      omega
  | cons x l ih =>
    cases m with
    | nil =>
      have := h x
      rw [cnt_nil, cnt_cons, if_pos rfl] at this
      omega
    | cons y m =>
      have hxm : x ∈ y :: m := cnt_pos.1 (by rw [← h x]; exact cnt_pos.2 (by simp))
      have hyl : y ∈ x :: l := cnt_pos.1 (by rw [h y]; exact cnt_pos.2 (by simp))
      have hl' := List.pairwise_cons.1 hl.1
      have hm' := List.pairwise_cons.1 hm.1
      have e : x = y := by
        rcases List.mem_cons.1 hxm with e | hx
        · exact e
        · rcases List.mem_cons.1 hyl with e | hy
          · exact e.symm
          · have kx := hl.2 x (by simp)
            have ky := hm.2 y (by simp)
            exact nle_anti kx.1 ky.1 kx.2 ky.2 (hl'.1 y hy) (hm'.1 x hx)
      subst e
      rw [ih ⟨hl'.2, fun z hz => hl.2 z (by simp [hz])⟩ ⟨hm'.2, fun z hz => hm.2 z (by simp [hz])⟩ fun z => by
        have := h z
        rw [cnt_cons, cnt_cons] at this
        omega]
theorem nonce_len9 {x : Tm} (h : x.ok) (hk : x.kind = 2) : x.len = 9 := by
  obtain ⟨k, a, b, s, args⟩ := x
  obtain rfl : k = 2 := hk
  have hh := (ok_mk.1 h).1
  rw [len_mk hh]
  unfold okHd at hh
  simp only [reduceCtorEq, false_and, or_false, false_or, true_and, Nat.reduceEqDiff] at hh
  obtain ⟨_, _, rfl, hm⟩ := hh
  obtain rfl := List.eq_nil_of_length_eq_zero hm
  simp [own, lens]
theorem lens_non : ∀ {l : List Tm}, (∀ x ∈ l, x.ok ∧ x.kind = 2) → lens l = 9 * l.length
  | [], _ => rfl
  | x :: l, h => by
    have h1 := nonce_len9 (h x (by simp)).1 (h x (by simp)).2
    have h2 := lens_non (l := l) fun z hz => h z (by simp [hz])
    unfold lens at h2 ⊢
    rw [List.map_cons, List.sum_cons, h1, h2, List.length_cons]
    omega
theorem share_hd {s : List UInt8} {m : Nat} (h1 : 1 ≤ s.length) (h2 : s.length ≤ 2100) (hm : m ≤ 8) : okHd 5 0 0 s m := .inr (.inr (.inr (.inr (.inl ⟨rfl, rfl, rfl, h1, h2, hm⟩))))
theorem share_ok {s : List UInt8} {l : List Tm} (h1 : 1 ≤ s.length) (h2 : s.length ≤ 2100) (hm : l.length ≤ 8) (hl : Nons l) : (Tm.mk 5 0 0 s l).ok :=
  ok_mk.2 ⟨share_hd h1 h2 hm, ⟨fun h => (by cases h), fun _ => ⟨fun x hx => (hl.2 x hx).2, hl.1⟩, fun h => (by cases h)⟩, fun x hx => (hl.2 x hx).1⟩
theorem share_len {s : List UInt8} {l : List Tm} (h1 : 1 ≤ s.length) (h2 : s.length ≤ 2100) (hm : l.length ≤ 8) (hl : Nons l) : (Tm.mk 5 0 0 s l).len ≤ 131072 := by
  rw [len_mk (share_hd h1 h2 hm), lens_non hl.2]
  simp [own]
  omega
/-- One after the other. -/
def insA (S : List Tm) : List Tm → List Tm
  | [] => S
  | x :: r => insA (ins x S) r
theorem insA_app (S l : List Tm) (x : Tm) : insA S (l ++ [x]) = ins x (insA S l) := by
  induction l generalizing S with
  | nil => rfl
  | cons y l ih => exact ih _
theorem insA_len (S l : List Tm) : (insA S l).length = S.length + l.length := by
  induction l generalizing S with
  | nil => rfl
  | cons y l ih => rw [insA, ih, ins_len]; simp; omega
theorem insA_cnt (x : Tm) (S l : List Tm) : cnt x (insA S l) = cnt x S + cnt x l := by
  induction l generalizing S with
  | nil => rw [insA, cnt_nil]; omega
  | cons y l ih => rw [insA, ih, cnt_ins, cnt_cons]; omega
theorem insA_non {S l : List Tm} (hS : Nons S) (hl : ∀ x ∈ l, x.ok ∧ x.kind = 2) : Nons (insA S l) := by
  induction l generalizing S with
  | nil => exact hS
  | cons y l ih =>
    refine ih ⟨ins_sorted y hS.1, fun z hz => ?_⟩ fun z hz => hl z (by simp [hz])
    rcases ins_mem.1 hz with rfl | hz
    · exact hl z (by simp)
    · exact hS.2 z hz
/-- What is made, when all are in. -/
theorem insA_all {S l args : List Tm} (hS : Nons S) (hl : ∀ x ∈ l, x.ok ∧ x.kind = 2) (ha : Nons args) (h : ∀ x, cnt x l + cnt x S = cnt x args) : insA S l = args :=
  (insA_non hS hl).eq ha fun x => by rw [insA_cnt, ← h x]; omega
end

section
open Go.RowKit Go.Maps

/-- What a call has written so far. -/
structure CkS (V1 W W' : World) (m q bm : Nat) (L : List Tm) (known sent : List (Option Tm)) (M d k : Nat) (kl : List Mk) (F : Int → Option Int) (e : List Mk) (F' : Int → Option Int) (ps : List (Nat × Tm)) : Prop where
  cook : ∃ A' c' nb', CookW V1 W' m q bm A' c' (kl ++ e) nb' F' ∧ nb' + k ≤ (kl ++ e).length
  coo : Coo L known sent (kl ++ e) F'
  pot : Pot L.length M d F F' kl.length (kl ++ e).length
  stay : StayK W W'
  size : W.heap.size ≤ W'.heap.size
  at_ : ∀ p ∈ ps, (recT known sent (kl ++ e) [])[p.1]? = some (some p.2)
  last : k = 1 → ∀ p, ps.head? = some p → p.1 + 1 = (kl ++ e).length
section
variable {V1 W W1 : World} {m q bm : Nat} {L : List Tm} {known sent : List (Option Tm)} {M d k : Nat} {kl : List Mk} {F : Int → Option Int} {e : List Mk} {F' : Int → Option Int} {ps : List (Nat × Tm)}
theorem CkS.start {A : Option Addr} {c nb : Nat} (hc : CookW V1 W m q bm A c kl nb F) (ho : Coo L known sent kl F) (hnb : nb ≤ kl.length) : CkS V1 W W m q bm L known sent M 0 0 kl F [] F [] :=
  ⟨⟨A, c, nb, by rw [List.append_nil]; exact hc, by rw [List.append_nil]; exact hnb⟩, by rw [List.append_nil]; exact ho, by rw [List.append_nil]; exact Pot.refl _ _ _ _, StayK.refl _, Nat.le_refl _, fun _ h => absurd h List.not_mem_nil, fun h => absurd h (by decide)⟩
theorem CkS.keep (h : CkS V1 W W1 m q bm L known sent M d k kl F e F' ps) {W2 : World} (hb : Below W1.heap.size W1 W2) : CkS V1 W W2 m q bm L known sent M d k kl F e F' ps := by
  obtain ⟨⟨A', c', nb', hc, hn⟩, ho, hp, hs, hz, ha, hla⟩ := h
  exact ⟨⟨A', c', nb', hc.keep hb, hn⟩, ho, hp, hs.trans (StayK.of_below hb), Nat.le_trans hz hb.size, ha, hla⟩
/-- A cook's own step. -/
theorem CkS.put_ (h : CkS V1 W W1 m q bm L known sent M d k kl F e F' ps) {M0 : Nat} (hR : Room L.length M0 F kl.length) (hM0 : 1 ≤ M0) (hd : d ≤ 34) (x : Mk) (t : Tm) (ht : ∀ made : List (Option Tm), (∀ p ∈ ps, made[p.1]? = some (some p.2)) → stepT known sent made x = some t) (hok : t.ok) (hl : t.len ≤ 131072) (hs : x.s.length ≤ 131072) :
    Calls Tryz.prog 103 #[.pointer (some ⟨q, 0, none⟩), .agg x.row.toArray] W1 (fun r W2 => ∃ (j : Nat) (e' : List Mk), r = .returned (.int .i64 j) ∧ CkS V1 W W2 m q bm L known sent M (d + 1) 1 kl F e' F' ((j, t) :: ps)) := by
  obtain ⟨⟨A', c', nb', hc, hn⟩, ho, hp, hst, hz, ha, hla⟩ := h
  refine Calls.mono (mput_any hc x (hR.len hp hd hM0)) fun (r : Ending) (W2 : World) hr => ?_
  obtain ⟨h1, ⟨A2, c2, h2⟩, h3, h4, h5, h6⟩ := put_made ho hr (ht _ ha) hok hl hs
  refine ⟨_, e ++ [x], h1, ⟨A2, c2, nb', by rw [← List.append_assoc]; exact h2, ?_⟩, by rw [← List.append_assoc]; exact h3, ?_, hst.trans h5, Nat.le_trans hz h6, fun p hp' => ?_, fun _ p hp' => by obtain rfl := Option.some.inj hp'; simp; omega⟩
  · rw [← List.append_assoc, List.length_append]
    simp only [List.length_cons, List.length_nil]
    omega
  · rw [← List.append_assoc, List.length_append]
    exact hp.trans (Pot.one _ _ _ _)
  · rw [← List.append_assoc]
    rcases List.mem_cons.1 hp' with rfl | hp'
    · exact h4
    · exact recT_keep (ha p hp')
/-- A term more is made. -/
theorem CkS.make_ (h : CkS V1 W W1 m q bm L known sent M d k kl F e F' ps) {M0 M1 n : Nat} (hR : Room L.length M0 F kl.length) (hd : d ≤ 34) (hM1 : M1 + 1 ≤ M0) (hM : M1 ≤ M) {x : Int} {t : Tm} (hx : get L x = some t) (hmk : MkP V1 m q bm L known sent n M1 t) :
    Calls Tryz.prog 37 #[.pointer (some ⟨q, 0, none⟩), .int .i64 x, .int .i64 n] W1 (fun r W2 => ∃ (j : Nat) (e' : List Mk) (F2 : Int → Option Int), r = .returned (.int .i64 j) ∧ CkS V1 W W2 m q bm L known sent M d 0 kl F e' F2 ((j, t) :: ps)) := by
  obtain ⟨⟨A', c', nb', hc, hn⟩, ho, hp, hst, hz, ha, hla⟩ := h
  refine Calls.mono (hmk W1 A' c' (kl ++ e) nb' F' x hc ho (by omega) hx (hR.sub hp hd hM1)) fun (r : Ending) (W2 : World) hr => ?_
  obtain ⟨j, A2, c2, e2, nb2, F2, h1, h2, h3, h4, h5, h6, h7, h8⟩ := hr
  refine ⟨j, e ++ e2, F2, h1, ⟨A2, c2, nb2, by rw [← List.append_assoc]; exact h2, by rw [← List.append_assoc]; exact h5.1⟩, by rw [← List.append_assoc]; exact h3, ?_, hst.trans h7, Nat.le_trans hz h8, fun p hp' => ?_, fun h => absurd h (by decide)⟩
  · rw [← List.append_assoc]
    exact hp.trans (h6.up hM (Nat.le_refl _))
  · rw [← List.append_assoc]
    rcases List.mem_cons.1 hp' with rfl | hp'
    · exact h4
    · exact recT_keep (ha p hp')
theorem CkS.done (h : CkS V1 W W1 m q bm L known sent M d 1 kl F e F' ps) (hd : d ≤ 34) {j : Nat} {t : Tm} (hj : ps.head? = some (j, t)) : CkR V1 W m q bm L known sent M 34 1 kl F t (.returned (.int .i64 j)) W1 := by
  obtain ⟨⟨A', c', nb', hc, hn⟩, ho, hp, hst, hz, ha, hla⟩ := h
  exact ⟨j, A', c', e, nb', F', rfl, hc, ho, ha _ (List.mem_of_mem_head? hj), ⟨hn, fun _ => hla rfl _ hj⟩, hp.up (Nat.le_refl _) hd, hst, hz⟩
theorem CkS.le (h : CkS V1 W W1 m q bm L known sent M d 1 kl F e F' ps) : CkS V1 W W1 m q bm L known sent M d 0 kl F e F' ps := by
  obtain ⟨⟨A', c', nb', hc, hn⟩, ho, hp, hst, hz, ha, hla⟩ := h
  exact ⟨⟨A', c', nb', hc, by omega⟩, ho, hp, hst, hz, ha, fun h => absurd h (by decide)⟩
theorem CkS.few (h : CkS V1 W W1 m q bm L known sent M d k kl F e F' ps) {ps' : List (Nat × Tm)} (hp : ∀ p ∈ ps', p ∈ ps) (hh : ps'.head? = ps.head?) : CkS V1 W W1 m q bm L known sent M d k kl F e F' ps' := by
  obtain ⟨h1, ho, hp', hst, hz, ha, hla⟩ := h
  exact ⟨h1, ho, hp', hst, hz, fun p h => ha p (hp p h), fun h p hp => hla h p (hh ▸ hp)⟩
theorem CkS.more (h : CkS V1 W W1 m q bm L known sent M d k kl F e F' ps) {d' : Nat} (hd : d ≤ d') : CkS V1 W W1 m q bm L known sent M d' k kl F e F' ps := by
  obtain ⟨h1, ho, hp', hst, hz, ha, hla⟩ := h
  exact ⟨h1, ho, hp'.up (Nat.le_refl _) hd, hst, hz, ha, hla⟩
end
end
end Go.Proofs.YtphnakdgpilcmaaGreatDoor
