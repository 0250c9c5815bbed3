/- Texts joined: what each shows stands ahead of its theorems. -/
import Derived.Test.YtbeanjaenmpoeaaGreatDoorXb0
import Derived.Test.YtbeanjaenmpoeaaGreatDoorXb2
import Derived.Test.YtbeanjaenmpoeaaGreatDoorXb6
import Derived.Test.YtbeanjaenmpoeaaGreatDoorProg
import Derived.Laws.BytesArg
import Derived.Laws.BitsLemmas
import Derived.IntWalk
import Derived.OpenShut
import Derived.WalkKit
import Derived.Deep.QuietTactic
import Derived.BigQuiet
import Derived.Deep.DeepCutAuto
import Derived.WalkMore
namespace Go.Proofs.YtbeanjaenmpoeaaGreatDoor
section
def exps (s : Option Tm) (xs : List (Option Tm)) : Option Tm := xs.foldl expT s
theorem expT_none_l (x : Option Tm) : expT none x = none := rfl
theorem expT_none_r (s : Option Tm) : expT s none = none := by cases s <;> rfl
theorem exps_none (xs : List (Option Tm)) : exps none xs = none := by
  induction xs with
  | nil => rfl
  | cons x r ih => exact ih
theorem exps_mem_none : ∀ {xs : List (Option Tm)}, none ∈ xs → ∀ s, exps s xs = none
  | x :: r, h, s => by
    rcases List.mem_cons.1 h with h | h
    · subst h
      show exps (expT s none) r = none
      rw [expT_none_r]
      exact exps_none r
    · exact exps_mem_none h _
theorem exps_snoc (s : Option Tm) (xs : List (Option Tm)) (x : Option Tm) : exps s (xs ++ [x]) = expT (exps s xs) x := by simp [exps]
/-- A nonce's bytes are nine. -/
theorem nonce_len {t : Tm} (h : t.ok) (hk : t.kind = 2) : t.len = 9 := by
  obtain ⟨k, a, b, s, args⟩ := t
  have hk : k = 2 := hk
  subst hk
  rw [ok_mk] at h
  have h1 := h.1
  rw [len_mk h1]
  unfold okHd at h1
  simp only [reduceCtorEq, false_and, or_false, false_or, true_and, Nat.reduceEqDiff] at h1
  have : args = [] := List.eq_nil_of_length_eq_zero h1.2.2.2
  subst this
  rfl
theorem nonce_anti {t u : Tm} (ht : t.ok) (hu : u.ok) (kt : t.kind = 2) (ku : u.kind = 2) (h1 : nle t u) (h2 : nle u t) : t = u := by
  obtain ⟨k, a, b, s, args⟩ := t
  obtain ⟨k', a', b', s', args'⟩ := u
  have kt : k = 2 := kt
  have ku : k' = 2 := ku
  subst kt ku
  rw [ok_mk] at ht hu
  have e1 := ht.1
  have e2 := hu.1
  unfold okHd at e1 e2
  simp only [reduceCtorEq, false_and, or_false, false_or, true_and, Nat.reduceEqDiff] at e1 e2
  obtain ⟨_, _, rfl, e1⟩ := e1
  obtain ⟨_, _, rfl, e2⟩ := e2
  obtain rfl := List.eq_nil_of_length_eq_zero e1
  obtain rfl := List.eq_nil_of_length_eq_zero e2
  unfold nle at h1 h2
  simp only [Tm.a, Tm.b] at h1 h2
  obtain ⟨rfl, rfl⟩ : a = a' ∧ b = b' := by omega
  rfl
theorem ins_perm (x : Tm) : ∀ l, (ins x l).Perm (x :: l)
  | [] => List.Perm.refl _
  | y :: r => by
    rw [ins]
    split
    · exact ((ins_perm x r).cons y).trans (List.Perm.swap x y r)
    · exact List.Perm.refl _
theorem lens_perm {l m : List Tm} (h : l.Perm m) : lens l = lens m := by
  unfold lens
  exact (h.map Tm.len).sum_nat
theorem lens_nine : ∀ {l : List Tm}, (∀ t ∈ l, t.ok ∧ t.kind = 2) → lens l = 9 * l.length
  | [], _ => rfl
  | t :: r, h => by
    have h1 := nonce_len (h t (by simp)).1 (h t (by simp)).2
    have h2 := lens_nine (l := r) (fun u hu => h u (by simp [hu]))
    unfold lens at h2 ⊢
    simp only [List.map_cons, List.sum_cons, List.length_cons, h1, h2]
    omega
/-- The exponents that stand in order behind several steps. -/
def insAll (l : List Tm) (xs : List Tm) : List Tm := xs.foldl (fun a x => ins x a) l
theorem insAll_perm : ∀ (xs l : List Tm), (insAll l xs).Perm (xs ++ l)
  | [], l => List.Perm.refl _
  | x :: r, l => by
    show (insAll (ins x l) r).Perm (x :: r ++ l)
    exact (insAll_perm r _).trans (((ins_perm x l).append_left r).trans List.perm_middle)
theorem insAll_sorted : ∀ (xs : List Tm) {l : List Tm}, l.Pairwise nle → (insAll l xs).Pairwise nle
  | [], _, h => h
  | x :: r, _, h => insAll_sorted r (ins_sorted x h)
theorem insAll_len (xs l : List Tm) : (insAll l xs).length = xs.length + l.length := by
  rw [(insAll_perm xs l).length_eq]; simp
/-- What a share is behind several steps. -/
theorem exps_some {g : List UInt8} (hg : g.length ≤ 2100) : ∀ (xs l : List Tm), (∀ t ∈ xs, t.ok ∧ t.kind = 2) → (∀ t ∈ l, t.ok ∧ t.kind = 2) → xs.length + l.length ≤ 8 → exps (some (.mk 5 0 0 g l)) (xs.map some) = some (.mk 5 0 0 g (insAll l xs))
  | [], l, _, _, _ => rfl
  | x :: r, l, hx, hl, hn => by
    have hx1 := hx x (by simp)
    simp only [List.length_cons] at hn
    have hi : ∀ t ∈ ins x l, t.ok ∧ t.kind = 2 := fun t ht => by
      rcases ins_mem.1 ht with rfl | ht
      · exact hx1
      · exact hl t ht
    have hlen := lens_nine hi
    rw [ins_len] at hlen
    have h1 : expT (some (.mk 5 0 0 g l)) (some x) = some (.mk 5 0 0 g (ins x l)) := by
      show (if (5 : Nat) = 5 ∧ x.kind = 2 ∧ l.length < 8 then mkO 5 0 0 g ((ins x l).map some) else none) = _
      rw [if_pos ⟨rfl, hx1.2, by omega⟩]
      unfold mkO
      rw [alls_map]
      have : own 5 g.length = 9 + g.length := rfl
      dsimp only
      rw [if_pos (by omega)]
    show exps (expT _ (some x)) (r.map some) = _
    rw [h1, exps_some hg r (ins x l) (fun t ht => hx t (by simp [ht])) hi (by rw [ins_len]; omega)]
    rfl
/-- Nonces that stand in order, the same ones: the same list. -/
theorem sorted_same {l m : List Tm} (hl : ∀ t ∈ l, t.ok ∧ t.kind = 2) (hm : ∀ t ∈ m, t.ok ∧ t.kind = 2) (h1 : l.Pairwise nle) (h2 : m.Pairwise nle) (h : l.Perm m) : l = m :=
  List.Perm.eq_of_pairwise (fun a b ha hb x y => nonce_anti (hl a ha).1 (hm b hb).1 (hl a ha).2 (hm b hb).2 x y) h1 h2 h
theorem all_some_of : ∀ {os : List (Option Tm)}, none ∉ os → ∃ l : List Tm, os = l.map some
  | [], _ => ⟨[], rfl⟩
  | none :: r, h => absurd (by simp) h
  | some t :: r, h => by
    obtain ⟨l, rfl⟩ := all_some_of (os := r) (fun hh => h (by simp [hh]))
    exact ⟨t :: l, rfl⟩
theorem nonceT_some {w n : Int} {t : Tm} (h : nonceT w n = some t) : t = .mk 2 w.toNat n.toNat [] [] ∧ numOk w ∧ numOk n := by
  unfold nonceT at h
  split at h
  · rename_i hh
    obtain ⟨l, hl, rfl, _⟩ := mkO_some h
    obtain rfl := map_some_nil hl
    exact ⟨rfl, hh⟩
  · cases h
theorem nonceT_kind {w n : Int} {t : Tm} (h : nonceT w n = some t) : t.ok ∧ t.kind = 2 := ⟨nonceT_ok w n t h, by rw [(nonceT_some h).1]; rfl⟩
theorem baseT_some {g : List UInt8} {t : Tm} (h : baseT g = some t) : t = .mk 5 0 0 g [] ∧ txtOk g 2100 := by
  unfold baseT at h
  split at h
  · rename_i hh
    obtain ⟨l, hl, rfl, _⟩ := mkO_some h
    obtain rfl := map_some_nil hl
    exact ⟨rfl, hh⟩
  · cases h
/-- In which order a share is raised plays no part. -/
theorem exps_perm {g : List UInt8} {l m : List (Option Tm)} (hp : l.Perm m) (hl : ∀ o ∈ l, ∃ w n, o = nonceT w n) (hn : l.length ≤ 8) : exps (baseT g) l = exps (baseT g) m := by
  by_cases h0 : none ∈ l
  · rw [exps_mem_none h0, exps_mem_none (hp.mem_iff.1 h0)]
  · obtain ⟨xs, rfl⟩ := all_some_of h0
    obtain ⟨ys, rfl⟩ := all_some_of (fun h => h0 (hp.mem_iff.2 h))
    cases hb : baseT g with
    | none => rw [exps_none, exps_none]
    | some t =>
      obtain ⟨rfl, hg⟩ := baseT_some hb
      have hx : ∀ t ∈ xs, t.ok ∧ t.kind = 2 := fun t ht => by
        obtain ⟨w, n, e⟩ := hl (some t) (List.mem_map_of_mem ht)
        exact nonceT_kind e.symm
      have hy : ∀ t ∈ ys, t.ok ∧ t.kind = 2 := fun t ht => by
        obtain ⟨w, n, e⟩ := hl (some t) (hp.mem_iff.2 (List.mem_map_of_mem ht))
        exact nonceT_kind e.symm
      have hle := hp.length_eq
      simp only [List.length_map] at hn hle
      rw [exps_some hg.2 xs [] hx (by simp) (by simpa using hn), exps_some hg.2 ys [] hy (by simp) (by simpa [← hle] using hn)]
      have hxy : xs.Perm ys := by
        have h1 := hp.filterMap id
        simpa [List.filterMap_map] using h1
      have e : insAll [] xs = insAll [] ys := by
        refine sorted_same ?_ ?_ (insAll_sorted xs List.Pairwise.nil) (insAll_sorted ys List.Pairwise.nil) ?_
        · intro t ht
          exact hx t (by simpa using (insAll_perm xs []).mem_iff.1 ht)
        · intro t ht
          exact hy t (by simpa using (insAll_perm ys []).mem_iff.1 ht)
        · have h1 := insAll_perm xs []
          have h2 := insAll_perm ys []
          rw [List.append_nil] at h1 h2
          exact h1.trans (hxy.trans h2.symm)
      rw [e]
/-- What a share is that there is. -/
theorem exps_base {g : List UInt8} {l : List (Option Tm)} (hl : ∀ o ∈ l, ∃ w n, o = nonceT w n) (hn : l.length ≤ 8) {t : Tm} (h : exps (baseT g) l = some t) : ∃ xs : List Tm, l = xs.map some ∧ t = .mk 5 0 0 g (insAll [] xs) ∧ txtOk g 2100 ∧ ∀ t ∈ xs, t.ok ∧ t.kind = 2 := by
  by_cases h0 : none ∈ l
  · rw [exps_mem_none h0] at h; cases h
  · obtain ⟨xs, rfl⟩ := all_some_of h0
    have hx : ∀ t ∈ xs, t.ok ∧ t.kind = 2 := fun t ht => by
      obtain ⟨w, n, e⟩ := hl (some t) (List.mem_map_of_mem ht)
      exact nonceT_kind e.symm
    cases hb : baseT g with
    | none => rw [hb, exps_none] at h; cases h
    | some u =>
      obtain ⟨rfl, hg⟩ := baseT_some hb
      rw [List.length_map] at hn
      rw [hb, exps_some hg.2 xs [] hx (by simp) (by simpa using hn)] at h
      exact ⟨xs, rfl, (Option.some.inj h).symm, hg, hx⟩
/-- How often by one exponent does: one more is another share. -/
theorem exps_more {g : List UInt8} {l : List (Option Tm)} {x : Option Tm} (hl : ∀ o ∈ l, ∃ w n, o = nonceT w n) (hn : l.length ≤ 8) (h : exps (baseT g) l ≠ none) : expT (exps (baseT g) l) x ≠ exps (baseT g) l := by
  cases e : exps (baseT g) l with
  | none => exact absurd e h
  | some t =>
    obtain ⟨xs, rfl, rfl, hg, hx⟩ := exps_base hl hn e
    intro he
    cases x with
    | none => cases he
    | some x =>
      have he : (if (5 : Nat) = 5 ∧ x.kind = 2 ∧ (insAll [] xs).length < 8 then mkO 5 0 0 g ((ins x (insAll [] xs)).map some) else none) = _ := he
      split at he
      · obtain ⟨m, hm, h2, _⟩ := mkO_some he
        injection h2 with _ _ _ _ h2
        have := congrArg List.length hm
        rw [List.length_map, List.length_map, ins_len, h2] at this
        omega
      · cases he
theorem exps_some_base {g : List UInt8} {l : List (Option Tm)} (hl : ∀ o ∈ l, ∃ w n, o = nonceT w n) (hn : l.length ≤ 8) (h0 : 0 < l.length) (h : exps (baseT g) l ≠ none) : baseT g ≠ exps (baseT g) l := by
  cases e : exps (baseT g) l with
  | none => exact absurd e h
  | some t =>
    obtain ⟨xs, rfl, rfl, hg, hx⟩ := exps_base hl hn e
    intro he
    obtain ⟨h1, _⟩ := baseT_some he
    injection h1 with _ _ _ _ h1
    have := congrArg List.length h1
    rw [insAll_len] at this
    simp at this h0
    exact absurd this (by intro h; rw [h] at h0; exact absurd h0 (by decide))
end

section
open Go.RowKit Go.Maps

/-- A list with at most so many terms more. -/
def Ext (L L' : List Tm) (k : Nat) : Prop := ∃ r, L' = L ++ r ∧ r.length ≤ k
theorem Ext.refl (L : List Tm) : Ext L L 0 := ⟨[], by simp, by simp⟩
theorem Ext.trans {a b c : List Tm} {j k : Nat} (h : Ext a b j) (h2 : Ext b c k) : Ext a c (j + k) := by
  obtain ⟨r, rfl, hr⟩ := h
  obtain ⟨s, rfl, hs⟩ := h2
  exact ⟨r ++ s, by simp, by simp; omega⟩
theorem Ext.mono {a b : List Tm} {j k : Nat} (h : Ext a b j) (hjk : j ≤ k) : Ext a b k := by
  obtain ⟨r, e, hr⟩ := h
  exact ⟨r, e, by omega⟩
theorem Ext.of_grow {L L' : List Tm} {o : Option Tm} (h : Grow L L' o) : Ext L L' 1 := by
  rcases h with ⟨rfl, _⟩ | ⟨t, _, _, rfl⟩
  · exact ⟨[], by simp, by simp⟩
  · exact ⟨[t], rfl, by simp⟩
theorem Ext.len {L L' : List Tm} {k : Nat} (h : Ext L L' k) : L'.length ≤ L.length + k := by
  obtain ⟨r, rfl, hr⟩ := h
  simp; omega
theorem Nm.ext {L L' : List Tm} {x : Int} {o : Option Tm} {k : Nat} (h : Nm L x o) (e : Ext L L' k) : Nm L' x o := by
  obtain ⟨r, rfl, _⟩ := e
  exact h.app
theorem Nm.of_get {L : List Tm} {x : Int} {t : Tm} (h : get L x = some t) : Nm L x (some t) := ⟨h, fun e => by cases e⟩
/-- A term more, in at most so many steps. -/
def SP (w : World) (g : Nat) (W : World) (L : List Tm) (k : Nat) (o : Option Tm) (r : Ending) (W' : World) : Prop := ∃ L' x, r = .returned (.int .i64 x) ∧ St w g W' L' ∧ Ext L L' k ∧ Nm L' x o ∧ Stay W W' ∧ W.heap.size ≤ W'.heap.size
theorem SP.of_sr {w : World} {g : Nat} {W : World} {L : List Tm} {o : Option Tm} {r : Ending} {W' : World} (h : SR w g W L o r W') : SP w g W L 1 o r W' := by
  obtain ⟨L', x, e, hS, hG, hM, hY, hZ, -⟩ := h
  exact ⟨L', x, e, hS, .of_grow hG, hM, hY, hZ⟩
def offerT (g : List UInt8) (x : Option Tm) : Option Tm := expT (baseT g) x
def secretT (g : List UInt8) (s x : Option Tm) : Option Tm := if chkB g s then expT s x else none
def errT (o : Option Tm) : Int := match o with | none => 5 | some _ => 0
section
variable {w : World} {g : Nat} {W : World} {L : List Tm} (h : St w g W L)
include h
theorem St.view_none (x : Int) (hg : get L x = none) : Calls Tryz.prog 34 #[.pointer (some ⟨g, 0, none⟩), .int .i64 x] W fun r w' => r = .returned (.tuple #[.agg zNd.toArray, .bool false]) ∧ Below W.heap.size W w' := by
  obtain ⟨A, rfl, rfl, H, _⟩ := h; exact Go.Proofs.YtbeanjaenmpoeaaGreatDoor.view_none A _ W H x hg
theorem St.view_some (x : Int) (t : Tm) (hg : get L x = some t) : Calls Tryz.prog 34 #[.pointer (some ⟨g, 0, none⟩), .int .i64 x] W fun r w' => ∃ (Av : Option Addr) (c : Nat) (xs : List Nat), r = .returned (.tuple #[.agg (ndC t.kind t.a t.b t.s (.slice Av t.args.length c)).toArray, .bool true]) ∧ Rws w' 1 Av t.args.length (xs.map idv) ∧ xs.map (fun i => L[i]?) = t.args.map some ∧ Below W.heap.size W w' := by
  obtain ⟨A, rfl, rfl, H, _⟩ := h; exact Go.Proofs.YtbeanjaenmpoeaaGreatDoor.view_some A _ W H x t hg
theorem St.check (gs : List UInt8) (x : Int) :
    Calls Tryz.prog 20 #[.pointer (some ⟨g, 0, none⟩), .string (bs gs), .int .i64 x] W fun r w' => r = .returned (.int .i64 (if chkB gs (get L x) then 0 else 5)) ∧ Below W.heap.size W w' := by
  obtain ⟨A, rfl, rfl, H, _⟩ := h
  cases e : get A.L x with
  | none => exact check_none A _ W H gs x e
  | some t => exact check_some A _ W H gs x t e
theorem St.fresh (hL : L.length < 100) (s n : Int) : Calls Tryz.prog 24 #[.pointer (some ⟨g, 0, none⟩), .int .i64 s, .int .i64 n] W (SR w g W L (freshT s n)) :=
  h.put hL fun A h1 _ H hB hN => by subst h1; exact fresh_any A _ W H hB hN s n
theorem St.offer (hL : L.length < 99) (gs : List UInt8) (hs : gs.length ≤ 4000000000) (x : Int) (o : Option Tm) (hx : Nm L x o) :
    Calls Tryz.prog 22 #[.pointer (some ⟨g, 0, none⟩), .string (bs gs), .int .i64 x] W (SP w g W L 2 (offerT gs o)) := by
  have cB := Lib.hid (h.base (by omega) gs hs)
  have hx := Lib.hid hx
  clear h
  go_enter Tryz.func22, Tryz.ntmps22
  go_wp2_with (first
    | (go_at_call 48; refine cB.out.mono ?_; rintro r w1 ⟨L1, b, rfl, hS1, hG1, hM1, hY1, hz1, -⟩
       have cE := hS1.exp (by have := hG1.len.2; omega) b x
       rw [hM1.1, (hx.out.grow hG1).1] at cE
       have cE := Lib.hid cE
       have hE1 := Lib.hid (Ext.of_grow hG1)
       have hY1 := Lib.hid hY1
       clear hS1 hG1 hM1 cB)
    | (go_at_call 44; refine cE.out.mono ?_; rintro r w2 ⟨L2, y, rfl, hS2, hG2, hM2, hY2, hz2, -⟩))
  go_ret
  exact ⟨L2, y, rfl, hS2, hE1.out.trans (.of_grow hG2), hM2, hY1.out.trans hY2, Nat.le_trans hz1 hz2⟩
theorem St.secret (hL : L.length < 100) (gs : List UInt8) (y x : Int) (so o : Option Tm) (hy : Nm L y so) (hx : Nm L x o) :
    Calls Tryz.prog 18 #[.pointer (some ⟨g, 0, none⟩), .string (bs gs), .int .i64 y, .int .i64 x] W fun r w' => ∃ L' z, r = .returned (.tuple #[.int .i64 z, .int .i64 (errT (secretT gs so o))]) ∧ St w g w' L' ∧ Ext L L' 1 ∧ Nm L' z (secretT gs so o) ∧ Stay W w' ∧ W.heap.size ≤ w'.heap.size := by
  have cC := h.check gs y
  rw [hy.1] at cC
  by_cases hc : chkB gs so = true
  · have e : secretT gs so o = expT so o := by unfold secretT; rw [if_pos hc]
    rw [e]
    rw [if_pos hc] at cC
    have cE := fun (w1 : World) (hb : Below W.heap.size W w1) => (h.keep hb).exp hL y x
    rw [hy.1, hx.1] at cE
    have cE := Lib.hid cE
    have cC := Lib.hid cC
    clear h hc e
    go_enter Tryz.func18, Tryz.ntmps18
    go_upto_region 5 with (first
      | (go_at_call 20; refine cC.out.mono ?_; rintro r w1 ⟨rfl, hb⟩
         have cE1 := Lib.hid (cE.out w1 hb)
         have hY1 := Lib.hid (Stay.of_below hb)
         have hz1 := hb.size
         clear hb cE)
      | (go_at_call 44; refine cE1.out.mono ?_; rintro r w2 ⟨L2, z, rfl, hS2, hG2, hM2, hY2, hz2, -⟩))
    have hE := Lib.hid (Ext.of_grow hG2)
    have hS2 := Lib.hid hS2
    have hY := Lib.hid (hY1.out.trans hY2)
    have hz := Nat.le_trans hz1 hz2
    have hM3 := hM2
    clear hG2 hY1 hY2 hz1 hz2 cE1 cC
    cases hq : expT so o with
    | none =>
      rw [hq] at hM2
      obtain rfl := hM2.2 rfl
      have hM2 := Lib.hid hM2
      have hqh := Lib.hid hq
      clear hM3 hq
      go_wp2_with fail
      go_ret2
      rw [hqh.out]
      exact ⟨L2, -1, rfl, hS2.out, hE.out, hM2.out, hY.out, hz⟩
    | some t =>
      rw [hq] at hM2
      have hzn : (z == -1) = false := by
        rw [beq_eq_false_iff_ne]
        obtain ⟨i, e, _⟩ := get_some hM2.1
        omega
      have hzn2 : ¬ z = -1 := beq_eq_false_iff_ne.1 hzn
      have hM2 := Lib.hid hM2
      have hqh := Lib.hid hq
      clear hM3 hq
      go_wp2_with fail
      go_ret2
      rw [hqh.out]
      exact ⟨L2, z, rfl, hS2.out, hE.out, hM2.out, hY.out, hz⟩
  · have e : secretT gs so o = none := by unfold secretT; rw [if_neg hc]
    rw [e]
    rw [if_neg hc] at cC
    have hk := Lib.hid (fun (w1 : World) (hb : Below W.heap.size W w1) => h.keep hb)
    have cC := Lib.hid cC
    clear h hc e
    go_enter Tryz.func18, Tryz.ntmps18
    go_wp2_with (go_at_call 20; refine cC.out.mono ?_; rintro r w1 ⟨rfl, hb⟩)
    go_ret2
    exact ⟨L, -1, rfl, hk.out w1 hb, (Ext.refl L).mono (by decide), Nm.none_ L, Stay.of_below hb, hb.size⟩
end
end

section
open Go.RowKit

theorem bss_size (l : List UInt8) : (⟨l.toArray⟩ : ByteArray).size = l.length := by simp [ByteArray.size]
theorem bs_add (l m : List UInt8) : bs l ++ bs m = bs (l ++ m) := by
  apply ByteArray.ext
  simp [bs]
theorem nums_bs (l : List Nat) : strOfNums (l.map fun x : Nat => (x : Int)) = bs (l.map UInt8.ofNat) := by
  unfold strOfNums bs
  congr 1
  simp [List.map_map, Function.comp_def]
theorem conv_nums (w : World) (l : List Nat) : (convert 80 9 (.slice (some ⟨w.heap.size, 0, none⟩) l.length l.length)).run Tryz.prog (w.alloc (.cells (l.map (fun x : Nat => Value.int .u8 x)).toArray 5)) = .ok (.string (bs (l.map UInt8.ofNat))) (w.alloc (.cells (l.map (fun x : Nat => Value.int .u8 x)).toArray 5)) := by
  have h := run_convert_bytes_arg (P := Tryz.prog) (w.alloc (.cells (l.map (fun x : Nat => Value.int .u8 x)).toArray 5)) 80 5 Tryz.underlying80 Tryz.underlying5 w.heap.size 0 l.length l.length (l.map fun x : Nat => (x : Int)) (by simp) (fun i hi => by
    rw [Nat.zero_add, World.cell?_alloc_at _ _ _ _ rfl]
    simp [List.getElem?_eq_getElem hi, List.getD_eq_getElem?_getD]) 9 Tryz.underlying9
  rw [nums_bs] at h
  exact h
theorem u32_nums (n : Nat) : u32 n = [n / 16777216 % 256, n / 65536 % 256, n / 256 % 256, n % 256].map UInt8.ofNat := rfl
theorem ret_bs {a b : List UInt8} (h : a = b) : Ending.returned (.string (bs a)) = .returned (.string (bs b)) := by rw [h]
/-- A call that makes a text, and only new blocks. -/
def TxR (w : World) (l : List UInt8) (r : Ending) (w' : World) : Prop := r = .returned (.string (bs l)) ∧ Below w.heap.size w w'

set_option maxRecDepth 100000 in
theorem rU32_any (n : Nat) (w : World) (h1 : n < 4294967296) :
    Calls Tryz.prog 75 #[.int .i64 n] w (TxR w (u32 n)) := by
  have kc : (convert 80 9 (.slice (some ⟨w.heap.size, 0, none⟩) 4 4)).run Tryz.prog (w.alloc (.cells #[.int .u8 ((n : Int) / 16777216 % 256), .int .u8 ((n : Int) / 65536 % 256), .int .u8 ((n : Int) / 256 % 256), .int .u8 ((n : Int) % 256)] 5)) = .ok (.string (bs (u32 n))) (w.alloc (.cells #[.int .u8 ((n : Int) / 16777216 % 256), .int .u8 ((n : Int) / 65536 % 256), .int .u8 ((n : Int) / 256 % 256), .int .u8 ((n : Int) % 256)] 5)) := by
    have h := conv_nums w [n / 16777216 % 256, n / 65536 % 256, n / 256 % 256, n % 256]
    rw [← u32_nums] at h
    simpa using h
  have hB := Lib.hid ((Below.refl w.heap.size w).alloc (Nat.le_refl _) (.cells #[.int .u8 ((n : Int) / 16777216 % 256), .int .u8 ((n : Int) / 65536 % 256), .int .u8 ((n : Int) / 256 % 256), .int .u8 ((n : Int) % 256)] 5))
  go_enter Tryz.func75, Tryz.ntmps75
  go_wp2
  go_ret
  exact ⟨rfl, hB.out⟩
theorem rTag_any (n : Nat) (w : World) (h1 : n < 16) :
    Calls Tryz.prog 74 #[.int .i64 n] w (TxR w [UInt8.ofNat (240 + n)]) := by
  have kc : (convert 80 9 (.slice (some ⟨w.heap.size, 0, none⟩) 1 1)).run Tryz.prog (w.alloc (.cells #[.int .u8 (240 + (n : Int))] 5)) = .ok (.string (bs [UInt8.ofNat (240 + n)])) (w.alloc (.cells #[.int .u8 (240 + (n : Int))] 5)) := by
    have h := conv_nums w [240 + n]
    simpa using h
  have hB := Lib.hid ((Below.refl w.heap.size w).alloc (Nat.le_refl _) (.cells #[.int .u8 (240 + (n : Int))] 5))
  have hT : bs [UInt8.ofNat (240 + n)] = bs [240 + UInt8.ofNat n] := by rw [UInt8.ofNat_add]; rfl
  unfold TxR
  rw [hT]
  rw [hT] at kc
  clear hT
  go_enter Tryz.func74, Tryz.ntmps74
  go_wp2
  go_ret
  exact ⟨rfl, hB.out⟩
def fitsL (l : List UInt8) : List UInt8 := if l.length ≤ 131072 then l else []
theorem rFits_any (l : List UInt8) (w : World) (h : l.length ≤ 4000000000) :
    Calls Tryz.prog 73 #[.string (bs l)] w fun r w' => r = .returned (.string (bs (fitsL l))) ∧ w = w' := by
  have hz := bs_size l
  by_cases h1 : l.length ≤ 131072
  · have e : fitsL l = l := by unfold fitsL; rw [if_pos h1]
    rw [e]
    have h2 : (bs l).size ≤ 131072 := by omega
    clear hz h h1 e
    go_enter Tryz.func73, Tryz.ntmps73
    go_wp2
    go_ret
    exact ⟨rfl, rfl⟩
  · have e : fitsL l = [] := by unfold fitsL; rw [if_neg h1]
    rw [e]
    have h2 : 131072 < (bs l).size := by omega
    have h3 : (bs l).size ≤ 4000000000 := by omega
    clear hz h h1 e
    go_enter Tryz.func73, Tryz.ntmps73
    go_wp2
    go_ret
    exact ⟨rfl, rfl⟩
theorem rNumber_any (n : Int) (w : World) :
    Calls Tryz.prog 83 #[.int .i64 n] w fun r w' => r = .returned (.bool (decide (numOk n))) ∧ w = w' := by
  by_cases h0 : 0 ≤ n
  · go_enter Tryz.func83, Tryz.ntmps83
    go_wp2
    go_ret
    exact ⟨ret_bool (by unfold numOk; simp [h0]), rfl⟩
  · have hn : ¬ numOk n := fun h => h0 h.1
    rw [decide_eq_false hn]
    go_enter Tryz.func83, Tryz.ntmps83
    go_wp2
    go_ret
    exact ⟨rfl, rfl⟩
theorem rText_any (s : List UInt8) (m : Nat) (w : World) (hs : s.length ≤ 4000000000) :
    Calls Tryz.prog 82 #[.string (bs s), .int .i64 m] w fun r w' => r = .returned (.bool (decide (txtOk s m))) ∧ w = w' := by
  have hz := bs_size s
  by_cases h0 : 1 ≤ s.length
  · have h1 : 1 ≤ (bs s).size := by omega
    have h2 : (bs s).size ≤ 4000000000 := by omega
    go_enter Tryz.func82, Tryz.ntmps82
    go_wp2
    go_ret
    exact ⟨ret_bool (by unfold txtOk; simp [h0, hz]), rfl⟩
  · have hn : ¬ txtOk s m := fun h => h0 h.1
    have h1 : (bs s).size = 0 := by omega
    rw [decide_eq_false hn]
    clear h0 hn hz
    go_enter Tryz.func82, Tryz.ntmps82
    go_wp2
    go_ret
    exact ⟨rfl, rfl⟩
end

section
theorem bsl (s : ByteArray) : s.toList = s.data.toList := ByteArray.toList_eq s
theorem bsl_len (s : ByteArray) : s.toList.length = s.size := by rw [bsl]; exact Array.length_toList
theorem bsl_ext (s : ByteArray) (a b : Nat) : (s.extract a b).toList = (s.toList.take b).drop a := by
  rw [bsl, bsl, ByteArray.data_extract, Array.toList_extract]
  rw [List.extract_eq_take_drop, List.drop_take]
theorem bsl_tail (s : ByteArray) (a : Nat) : (s.extract a s.size).toList = s.toList.drop a := by
  rw [bsl_ext, List.take_of_length_le (by rw [bsl_len]; exact Nat.le_refl _)]
theorem bsl_head (s : ByteArray) (b : Nat) : (s.extract 0 b).toList = s.toList.take b := by
  rw [bsl_ext, List.drop_zero]
theorem bsl_get {s : ByteArray} {i : Nat} (h : i < s.size) : s.toList[i]? = some s[i] := by
  rw [bsl, Array.getElem?_toList]
  exact Array.getElem?_eq_getElem h
theorem bsl_app (s t : ByteArray) : (s ++ t).toList = s.toList ++ t.toList := by
  rw [bsl, bsl, bsl]; simp
theorem bsl_cons {s : ByteArray} {k : Nat} (h : k < s.size) : s.toList.drop k = s[k] :: s.toList.drop (k + 1) := by
  have hl : k < s.toList.length := by rw [bsl_len]; exact h
  rw [List.drop_eq_getElem_cons hl]
  congr 1
  have := bsl_get h
  rw [List.getElem?_eq_getElem hl] at this
  injection this
theorem bsl_end {s : ByteArray} {k : Nat} (h : s.size ≤ k) : s.toList.drop k = [] := List.drop_of_length_le (by rw [bsl_len]; exact h)
theorem bs_ext {x y : ByteArray} (h : x.toList = y.toList) : x = y := by
  rw [ByteArray.toList_eq, ByteArray.toList_eq] at h
  cases x; cases y
  simp only [ByteArray.mk.injEq]
  exact Array.toList_inj.1 h
theorem bs_eq {x y : ByteArray} (h : (x.toList == y.toList) = true) : x = y := bs_ext (by simpa using h)
theorem bs_ne {x y : ByteArray} (h : (x.toList == y.toList) = false) : x ≠ y := by
  rintro rfl
  simp at h
end

section
open Go.RowKit

theorem enc_head {t : Tm} (h : t.ok) : ∃ r, t.enc = UInt8.ofNat (240 + t.kind) :: r ∧ 1 ≤ t.kind ∧ t.kind ≤ 10 := by
  obtain ⟨k, a, b, s, args⟩ := t
  rw [ok_mk] at h
  rw [enc_mk]
  exact ⟨_, rfl, okHd_kind h.1⟩
theorem rKind_any (o : Option Tm) (ho : okO o) (hl : (encO o).length ≤ 4000000000) (w : World) :
    Calls Tryz.prog 46 #[.string (bs (encO o))] w fun r w' => r = .returned (.int .i64 (kindO o)) ∧ w = w' := by
  cases o with
  | none =>
    go_enter Tryz.func46, Tryz.ntmps46
    go_wp2
    go_ret
    exact ⟨rfl, rfl⟩
  | some t =>
    obtain ⟨r, hr, h1, h2⟩ := enc_head (ho t rfl)
    have hz := bs_size t.enc
    have hk : kindO (some t) = t.kind := rfl
    rw [hk]
    rw [show encO (some t) = t.enc from rfl] at hl ⊢
    have hi : ∀ h, (bs t.enc)[0]'h = UInt8.ofNat (240 + t.kind) := by
      rw [hr]
      intro h
      rfl
    have hpos : 0 < (bs t.enc).size := by rw [hz, hr]; simp
    have hz2 : (bs t.enc).size ≤ 4000000000 := by omega
    generalize t.kind = k at *
    generalize bs t.enc = x at *
    have hm : (240 + (k : Int)) % 256 = 240 + (k : Int) := by omega
    have hx : ¬ x = ByteArray.empty := fun e => by rw [e] at hpos; exact absurd hpos (by decide)
    have hx2 : ((x.size : Int) == 0) = false := by rw [beq_eq_false_iff_ne]; omega
    have d1 : decide (240 + (k : Int) < 241) = false := decide_eq_false (by omega)
    have d2 : decide (250 < 240 + (k : Int)) = false := decide_eq_false (by omega)
    clear hr hz
    go_enter Tryz.func46, Tryz.ntmps46
    go_wp2
    go_ret
    exact ⟨ret_int (by omega), rfl⟩
end

section
open Go.RowKit

set_option maxRecDepth 100000 in
theorem rNum4_any (X : ByteArray) (p : Nat) (c0 c1 c2 c3 : UInt8) (w : World) (hX : X.size ≤ 4000000000) (h4 : p + 4 ≤ X.size)
    (i0 : ∀ h, X[p]'h = c0) (i1 : ∀ h, X[p + 1]'h = c1) (i2 : ∀ h, X[p + 2]'h = c2) (i3 : ∀ h, X[p + 3]'h = c3) :
    Calls Tryz.prog 101 #[.string X, .int .i64 p] w fun r w' => r = .returned (.tuple #[.int .i64 ((c0.toNat : Int) * 16777216 + c1.toNat * 65536 + c2.toNat * 256 + c3.toNat), .bool true]) ∧ Below w.heap.size w w' := by
  have b0 : (c0.toNat : Int) < 256 := by have := c0.toNat_lt; omega
  have b1 : (c1.toNat : Int) < 256 := by have := c1.toNat_lt; omega
  have b2 : (c2.toNat : Int) < 256 := by have := c2.toNat_lt; omega
  have b3 : (c3.toNat : Int) < 256 := by have := c3.toNat_lt; omega
  have l2 : ¬ ((X.size : Int) - (p : Int) < 4) := by omega
  have z0 : (0 : Int) ≤ (p : Int) := by omega
  have y0 : (p : Int) < (X.size : Int) := by omega
  have z1 : (0 : Int) ≤ (p : Int) + 1 := by omega
  have y1 : (p : Int) + 1 < (X.size : Int) := by omega
  have t1 : ((p : Int) + 1).toNat = p + 1 := by omega
  have z2 : (0 : Int) ≤ (p : Int) + 2 := by omega
  have y2 : (p : Int) + 2 < (X.size : Int) := by omega
  have t2 : ((p : Int) + 2).toNat = p + 2 := by omega
  have z3 : (0 : Int) ≤ (p : Int) + 3 := by omega
  have y3 : (p : Int) + 3 < (X.size : Int) := by omega
  have t3 : ((p : Int) + 3).toNat = p + 3 := by omega
  go_enter Tryz.func101, Tryz.ntmps101
  go_upto_region 3 with fail
  go_quiet (fail)
  go_wp2_with fail
  go_ret2
  exact ⟨rfl, drewN_below nq⟩
/-- The bytes of a text from a place on. -/
theorem bs_at {l : List UInt8} {p : Nat} {c : UInt8} (hc : l[p]? = some c) : ∀ h, (bs l)[p]'h = c := by
  intro h
  have hp := (List.getElem?_eq_some_iff.1 hc)
  have : (bs l)[p]'h = l[p]'hp.1 := rfl
  rw [this, hp.2]
theorem u32_val (n : Nat) (h : n < 4294967296) : ∃ c0 c1 c2 c3 : UInt8, u32 n = [c0, c1, c2, c3] ∧ (c0.toNat : Int) * 16777216 + c1.toNat * 65536 + c2.toNat * 256 + c3.toNat = n := by
  refine ⟨_, _, _, _, rfl, ?_⟩
  rw [UInt8.toNat_ofNat', UInt8.toNat_ofNat', UInt8.toNat_ofNat', UInt8.toNat_ofNat']
  omega
/-- Where a number's four bytes stand. -/
theorem at_u32 {l : List UInt8} {p n : Nat} {r : List UInt8} (h : l.drop p = u32 n ++ r) (hn : n < 4294967296) : p + 4 ≤ l.length ∧ ∃ c0 c1 c2 c3 : UInt8, l[p]? = some c0 ∧ l[p + 1]? = some c1 ∧ l[p + 2]? = some c2 ∧ l[p + 3]? = some c3 ∧ (c0.toNat : Int) * 16777216 + c1.toNat * 65536 + c2.toNat * 256 + c3.toNat = n := by
  obtain ⟨c0, c1, c2, c3, e, hv⟩ := u32_val n hn
  rw [e] at h
  have hl := congrArg List.length h
  rw [List.length_drop] at hl
  simp at hl
  have g : ∀ i, l[p + i]? = ([c0, c1, c2, c3] ++ r)[i]? := fun i => by rw [← h, List.getElem?_drop]
  exact ⟨by omega, c0, c1, c2, c3, g 0, g 1, g 2, g 3, hv⟩
theorem rNumber4 (l : List UInt8) (p n : Nat) (r : List UInt8) (w : World) (hl : l.length ≤ 4000000000) (h : l.drop p = u32 n ++ r) (hn : n < 4294967296) :
    Calls Tryz.prog 101 #[.string (bs l), .int .i64 p] w fun r w' => r = .returned (.tuple #[.int .i64 n, .bool true]) ∧ Below w.heap.size w w' := by
  obtain ⟨h4, c0, c1, c2, c3, e0, e1, e2, e3, hv⟩ := at_u32 h hn
  have c := rNum4_any (bs l) p c0 c1 c2 c3 w (by rw [bs_size]; exact hl) (by rw [bs_size]; exact h4) (bs_at e0) (bs_at e1) (bs_at e2) (bs_at e3)
  rw [hv] at c
  exact c
theorem bs_extract (l : List UInt8) (i j : Nat) : (bs l).extract i j = bs ((l.take j).drop i) := by
  apply ByteArray.ext
  apply Array.ext'
  rw [ByteArray.data_extract, Array.toList_extract, List.extract_eq_take_drop]
  simp [bs, List.drop_take]
theorem rText4 (l : List UInt8) (p : Nat) (s r : List UInt8) (w : World) (hl : l.length ≤ 4000000000) (h : l.drop p = u32 s.length ++ (s ++ r)) :
    Calls Tryz.prog 100 #[.string (bs l), .int .i64 p] w fun r w' => r = .returned (.tuple #[.string (bs s), .int .i64 ((p + 4 + s.length : Nat) : Int), .bool true]) ∧ Below w.heap.size w w' := by
  have hlen := congrArg List.length h
  rw [List.length_drop, List.length_append, u32_len, List.length_append] at hlen
  have c := Lib.hid (rNumber4 l p s.length (s ++ r) w hl h (by omega))
  have hz := bs_size l
  have hx : (bs l).extract (p + 4) (p + 4 + s.length) = bs s := by
    rw [bs_extract]
    have e1 : l.drop (p + 4) = s ++ r := by
      have := congrArg (List.drop 4) h
      rw [List.drop_drop] at this
      rw [this]
      rfl
    rw [List.drop_take, Nat.add_sub_cancel_left, e1, List.take_left]
  have b1 : p + 4 + s.length ≤ (bs l).size := by omega
  have b2 : (bs l).size ≤ 4000000000 := by omega
  generalize s.length = m at *
  have hx := hx
  generalize bs l = X at *
  clear hlen h hz hl
  rw [show ((p + 4 + m : Nat) : Int) = (p : Int) + 4 + (m : Int) by omega]
  have l1 : ¬ ((X.size : Int) - (p : Int) - 4 < (m : Int)) := by omega
  have t1 : ((p : Int) + 4).toNat = p + 4 := by omega
  have t2 : ((p : Int) + 4 + (m : Int)).toNat = p + 4 + m := by omega
  go_enter Tryz.func100, Tryz.ntmps100
  go_wp2_with (go_at_call 101; refine c.out.mono ?_; rintro r w1 ⟨rfl, hb⟩)
  go_ret3
  exact ⟨rfl, hb⟩
end

section
open Go.RowKit

theorem encO_mkO {k a b : Nat} {s : List UInt8} {l : List Tm} (h : okHd k a b s l.length) : encO (mkO k a b s (l.map some)) = fitsL (UInt8.ofNat (240 + k) :: (hd k a b s l.length ++ encs l)) := by
  unfold mkO
  rw [alls_map]
  have hl := len_mk h
  unfold Tm.len at hl
  rw [enc_mk] at hl
  dsimp only
  unfold fitsL
  rw [hl]
  split
  · show (Tm.mk k a b s l).enc = _
    rw [enc_mk]
  · rfl
theorem fitsL_id {l : List UInt8} (h : l.length ≤ 131072) : fitsL l = l := by unfold fitsL; rw [if_pos h]
theorem cat2 {x y : ByteArray} {a b : List UInt8} (hx : x = bs a) (hy : y = bs b) : x ++ y = bs (a ++ b) := by rw [hx, hy, bs_add]
theorem key_enc {t : Tm} (h : t.ok) (hk : t.kind = 3) : t.enc.length = 5 := by
  obtain ⟨k, a, b, s, args⟩ := t
  have hk : k = 3 := hk
  subst hk
  rw [ok_mk] at h
  have h1 := h.1
  have h2 := len_mk h1
  unfold okHd at h1
  simp only [reduceCtorEq, false_and, or_false, false_or, true_and, Nat.reduceEqDiff] at h1
  obtain rfl := List.eq_nil_of_length_eq_zero h1.2.2.2
  unfold Tm.len at h2
  rw [h2]
  obtain ⟨_, _, rfl, _⟩ := h1
  rfl
theorem encO_dataT (s : List UInt8) : encO (dataT s) = if s.length ≤ 131072 then fitsL ([UInt8.ofNat (240 + 1)] ++ u32 s.length ++ s) else [] := by
  split
  · rename_i h
    have := encO_mkO (k := 1) (a := 0) (b := 0) (s := s) (l := []) (.inl ⟨rfl, rfl, rfl, rfl, h⟩)
    simpa [dataT, hd, encs] using this
  · rename_i h
    unfold dataT mkO
    have : own 1 s.length = 5 + s.length := rfl
    simp only [alls, lens, this]
    rw [if_neg (by simp; omega)]
    rfl
theorem rData_any (s : List UInt8) (w : World) (hs : s.length ≤ 4000000000) :
    Calls Tryz.prog 65 #[.string (bs s)] w (TxR w (encO (dataT s))) := by
  have hz := bs_size s
  rw [encO_dataT]
  by_cases h : s.length ≤ 131072
  · rw [if_pos h]
    have c1 := fun W => rTag_any 1 W (by decide)
    have c2 := fun W => rU32_any s.length W (by omega)
    have c3 := fun W => rFits_any ([UInt8.ofNat (240 + 1)] ++ u32 s.length ++ s) W (by simp [u32_len]; omega)
    have hcat : bs [UInt8.ofNat (240 + 1)] ++ bs (u32 s.length) ++ bs s = bs ([UInt8.ofNat (240 + 1)] ++ u32 s.length ++ s) := by rw [bs_add, bs_add]
    have z1 := bs_size [UInt8.ofNat (240 + 1)]
    have z2 := bs_size (u32 s.length)
    rw [u32_len] at z2
    unfold TxR at c1 c2 ⊢
    rw [← hcat] at c3
    generalize bs [UInt8.ofNat (240 + 1)] = x1 at *
    generalize bs (u32 s.length) = x2 at *
    simp only [List.length_singleton] at z1
    rw [← hz] at c2 h
    generalize bs s = x3 at *
    have c1 := Lib.hid c1
    have c2 := Lib.hid c2
    have c3 := Lib.hid c3
    generalize fitsL ([UInt8.ofNat (240 + 1)] ++ u32 s.length ++ s) = res at *
    clear hcat hz hs
    go_enter Tryz.func65, Tryz.ntmps65
    go_wp2_with (first
      | (go_at_call 74; refine (c1.out _).mono ?_; rintro r w1 ⟨rfl, hb1⟩)
      | (go_at_call 75; refine (c2.out _).mono ?_; rintro r w2 ⟨rfl, hb2⟩; have hB := Lib.hid (hb1.trans (hb2.mono hb1.size)); clear hb1 hb2)
      | (go_at_call 73; refine (c3.out _).mono ?_; rintro r w3 ⟨rfl, rfl⟩))
    go_ret
    exact ⟨rfl, hB.out⟩
  · rw [if_neg h]
    have h2 : 131072 < (bs s).size := by omega
    have h3 : (bs s).size ≤ 4000000000 := by omega
    clear h hs hz
    go_enter Tryz.func65, Tryz.ntmps65
    go_wp2
    go_ret
    exact ⟨rfl, Below.refl _ _⟩
theorem encO_nonceT {p q : Nat} (h1 : p ≤ 2147483647) (h2 : q ≤ 2147483647) : encO (nonceT p q) = [UInt8.ofNat (240 + 2)] ++ u32 p ++ u32 q := by
  have := encO_mkO (k := 2) (a := p) (b := q) (s := []) (l := []) (.inr (.inl ⟨rfl, h1, h2, rfl, rfl⟩))
  unfold nonceT
  rw [if_pos ⟨by unfold numOk; omega, by unfold numOk; omega⟩, Int.toNat_natCast, Int.toNat_natCast]
  rw [fitsL_id (by simp [hd, encs, u32_len])] at this
  simpa [hd, encs] using this
theorem rNonce_any (p q : Int) (w : World) :
    Calls Tryz.prog 51 #[.int .i64 p, .int .i64 q] w (TxR w (encO (nonceT p q))) := by
  have cp := Lib.hid (fun W => rNumber_any p W)
  have cq := Lib.hid (fun W => rNumber_any q W)
  by_cases h : numOk p ∧ numOk q
  · obtain ⟨⟨p0, p1⟩, q0, q1⟩ := h
    have hp : numOk p := ⟨p0, p1⟩
    have hq : numOk q := ⟨q0, q1⟩
    rw [decide_eq_true hp] at cp
    rw [decide_eq_true hq] at cq
    obtain ⟨i, rfl⟩ := Int.eq_ofNat_of_zero_le p0
    obtain ⟨j, rfl⟩ := Int.eq_ofNat_of_zero_le q0
    rw [encO_nonceT (by omega) (by omega)]
    have c1 := fun W => rTag_any 2 W (by decide)
    have c2 := fun W => rU32_any i W (by omega)
    have c3 := fun W => rU32_any j W (by omega)
    have hcat : bs [UInt8.ofNat (240 + 2)] ++ bs (u32 i) ++ bs (u32 j) = bs ([UInt8.ofNat (240 + 2)] ++ u32 i ++ u32 j) := by rw [bs_add, bs_add]
    have z1 := bs_size [UInt8.ofNat (240 + 2)]
    have z2 := bs_size (u32 i)
    have z3 := bs_size (u32 j)
    rw [u32_len] at z2 z3
    unfold TxR at c1 c2 c3 ⊢
    rw [← hcat]
    generalize bs [UInt8.ofNat (240 + 2)] = x1 at *
    generalize bs (u32 i) = x2 at *
    generalize bs (u32 j) = x3 at *
    simp only [List.length_singleton] at z1
    have c1 := Lib.hid c1
    have c2 := Lib.hid c2
    have c3 := Lib.hid c3
    clear hcat hp hq p0 q0 p1 q1
    go_enter Tryz.func51, Tryz.ntmps51
    go_wp2_with (first
      | (go_at_call 83; (with_reducible refine (cp.out _).mono ?_); rintro r w1 ⟨rfl, rfl⟩)
      | (go_at_call 83; (with_reducible refine (cq.out _).mono ?_); rintro r w1 ⟨rfl, rfl⟩)
      | (go_at_call 74; refine (c1.out _).mono ?_; rintro r w1 ⟨rfl, hb1⟩)
      | (go_at_call 75; (with_reducible refine (c2.out _).mono ?_); rintro r w2 ⟨rfl, hb2⟩; have hB := Lib.hid (hb1.trans (hb2.mono hb1.size)); clear hb1 hb2)
      | (go_at_call 75; (with_reducible refine (c3.out _).mono ?_); rintro r w3 ⟨rfl, hb3⟩; have hB3 := Lib.hid (hB.out.trans (hb3.mono hB.out.size)); clear hb3))
    go_ret
    exact ⟨rfl, hB3.out⟩
  · have e : nonceT p q = none := by unfold nonceT; rw [if_neg h]
    rw [e]
    by_cases h1 : numOk p
    · have h2 : ¬ numOk q := fun h2 => h ⟨h1, h2⟩
      rw [decide_eq_true h1] at cp
      rw [decide_eq_false h2] at cq
      clear e h h1 h2
      go_enter Tryz.func51, Tryz.ntmps51
      go_wp2_with (first
        | (go_at_call 83; (with_reducible refine (cp.out _).mono ?_); rintro r w1 ⟨rfl, rfl⟩)
        | (go_at_call 83; (with_reducible refine (cq.out _).mono ?_); rintro r w1 ⟨rfl, rfl⟩))
      go_ret
      exact ⟨rfl, Below.refl _ _⟩
    · rw [decide_eq_false h1] at cp
      clear e h h1 cq
      go_enter Tryz.func51, Tryz.ntmps51
      go_wp2_with (go_at_call 83; (with_reducible refine (cp.out _).mono ?_); rintro r w1 ⟨rfl, rfl⟩)
      go_ret
      exact ⟨rfl, Below.refl _ _⟩
theorem encO_keyT {p : Nat} (h1 : p ≤ 2147483647) : encO (keyT p) = [UInt8.ofNat (240 + 3)] ++ u32 p := by
  have := encO_mkO (k := 3) (a := p) (b := 0) (s := []) (l := []) (.inr (.inr (.inl ⟨rfl, h1, rfl, rfl, rfl⟩)))
  unfold keyT
  rw [if_pos (by unfold numOk; omega), Int.toNat_natCast]
  rw [fitsL_id (by simp [hd, encs, u32_len])] at this
  simpa [hd, encs] using this
theorem rKey_any (p : Int) (w : World) :
    Calls Tryz.prog 66 #[.int .i64 p] w (TxR w (encO (keyT p))) := by
  have cp := Lib.hid (fun W => rNumber_any p W)
  by_cases hp : numOk p
  · obtain ⟨p0, p1⟩ := hp
    have hp : numOk p := ⟨p0, p1⟩
    rw [decide_eq_true hp] at cp
    obtain ⟨i, rfl⟩ := Int.eq_ofNat_of_zero_le p0
    rw [encO_keyT (by omega)]
    have c1 := fun W => rTag_any 3 W (by decide)
    have c2 := fun W => rU32_any i W (by omega)
    have hcat : bs [UInt8.ofNat (240 + 3)] ++ bs (u32 i) = bs ([UInt8.ofNat (240 + 3)] ++ u32 i) := by rw [bs_add]
    have z1 := bs_size [UInt8.ofNat (240 + 3)]
    have z2 := bs_size (u32 i)
    rw [u32_len] at z2
    unfold TxR at c1 c2 ⊢
    rw [← hcat]
    generalize bs [UInt8.ofNat (240 + 3)] = x1 at *
    generalize bs (u32 i) = x2 at *
    simp only [List.length_singleton] at z1
    have c1 := Lib.hid c1
    have c2 := Lib.hid c2
    clear hcat hp p0 p1
    go_enter Tryz.func66, Tryz.ntmps66
    go_wp2_with (first
      | (go_at_call 83; (with_reducible refine (cp.out _).mono ?_); rintro r w1 ⟨rfl, rfl⟩)
      | (go_at_call 74; refine (c1.out _).mono ?_; rintro r w1 ⟨rfl, hb1⟩)
      | (go_at_call 75; (with_reducible refine (c2.out _).mono ?_); rintro r w2 ⟨rfl, hb2⟩; have hB := Lib.hid (hb1.trans (hb2.mono hb1.size)); clear hb1 hb2))
    go_ret
    exact ⟨rfl, hB.out⟩
  · have e : keyT p = none := by unfold keyT; rw [if_neg hp]
    rw [e]
    rw [decide_eq_false hp] at cp
    clear e hp
    go_enter Tryz.func66, Tryz.ntmps66
    go_wp2_with (go_at_call 83; (with_reducible refine (cp.out _).mono ?_); rintro r w1 ⟨rfl, rfl⟩)
    go_ret
    exact ⟨rfl, Below.refl _ _⟩
theorem encO_pubT {t : Tm} (ht : t.ok) (hk : t.kind = 3) : encO (pubT (some t)) = [UInt8.ofNat (240 + 4)] ++ t.enc := by
  have := encO_mkO (k := 4) (a := 0) (b := 0) (s := []) (l := [t]) (.inr (.inr (.inr (.inl ⟨rfl, rfl, rfl, rfl, rfl⟩))))
  unfold pubT
  rw [if_pos (show kindO (some t) = 3 from hk)]
  have h5 := key_enc ht hk
  rw [fitsL_id (by simp [hd, encs, h5])] at this
  simpa [hd, encs] using this
theorem rPub_any (o : Option Tm) (ho : okO o) (hl : (encO o).length ≤ 4000000000) (w : World) :
    Calls Tryz.prog 67 #[.string (bs (encO o))] w (TxR w (encO (pubT o))) := by
  have cK := Lib.hid (fun W => rKind_any o ho hl W)
  by_cases h : kindO o = 3
  · rw [h] at cK
    obtain ⟨t, rfl, hk⟩ : ∃ t, o = some t ∧ t.kind = 3 := by
      cases o with
      | none => cases h
      | some t => exact ⟨t, rfl, h⟩
    rw [encO_pubT (ho t rfl) hk]
    have c1 := fun W => rTag_any 4 W (by decide)
    have h5 := key_enc (ho t rfl) hk
    rw [show encO (some t) = t.enc from rfl] at cK ⊢
    have hcat : bs [UInt8.ofNat (240 + 4)] ++ bs t.enc = bs ([UInt8.ofNat (240 + 4)] ++ t.enc) := by rw [bs_add]
    have z1 := bs_size [UInt8.ofNat (240 + 4)]
    have z2 := bs_size t.enc
    rw [h5] at z2
    unfold TxR at c1 ⊢
    rw [← hcat]
    generalize bs [UInt8.ofNat (240 + 4)] = x1 at *
    generalize bs t.enc = x2 at *
    simp only [List.length_singleton] at z1
    have c1 := Lib.hid c1
    clear hcat h hl
    go_enter Tryz.func67, Tryz.ntmps67
    go_wp2_with (first
      | (go_at_call 46; (with_reducible refine (cK.out _).mono ?_); rintro r w1 ⟨rfl, rfl⟩)
      | (go_at_call 74; refine (c1.out _).mono ?_; rintro r w1 ⟨rfl, hb1⟩))
    go_ret
    exact ⟨rfl, hb1⟩
  · have e : pubT o = none := by unfold pubT; rw [if_neg h]
    rw [e]
    have hne : ((kindO o : Int) == 3) = false := by rw [beq_eq_false_iff_ne]; omega
    have hne2 : ¬ (kindO o : Int) = 3 := by omega
    generalize kindO o = k at *
    generalize bs (encO o) = x at *
    clear e h hl
    go_enter Tryz.func67, Tryz.ntmps67
    go_wp2_with (go_at_call 46; (with_reducible refine (cK.out _).mono ?_); rintro r w1 ⟨rfl, rfl⟩)
    go_ret
    exact ⟨rfl, Below.refl _ _⟩
end

section
open Go.RowKit

theorem ofNat_ltu {x y : Nat} (hx : x < 256) (hy : y < 256) : (UInt8.ofNat x < UInt8.ofNat y) ↔ x < y := by
  rw [UInt8.lt_iff_toNat_lt]; simp [Nat.mod_eq_of_lt hx, Nat.mod_eq_of_lt hy]
theorem ofNat_bequ {x y : Nat} (hx : x < 256) (hy : y < 256) : (UInt8.ofNat x == UInt8.ofNat y) = (x == y) := by
  rw [Bool.eq_iff_iff]; simp only [beq_iff_eq]
  constructor
  · intro h
    have := congrArg UInt8.toNat h
    simpa [Nat.mod_eq_of_lt hx, Nat.mod_eq_of_lt hy] using this
  · rintro rfl; rfl
theorem u32_digits (x : Nat) (hx : x < 4294967296) : ∃ a b c d : Nat, a < 256 ∧ b < 256 ∧ c < 256 ∧ d < 256 ∧ x = 16777216 * a + 65536 * b + 256 * c + d ∧ u32 x = [UInt8.ofNat a, UInt8.ofNat b, UInt8.ofNat c, UInt8.ofNat d] :=
  ⟨x / 16777216 % 256, x / 65536 % 256, x / 256 % 256, x % 256, by omega, by omega, by omega, by omega, by omega, rfl⟩
theorem less_u32 {x y : Nat} (hx : x < 4294967296) (hy : y < 4294967296) (r r' : List UInt8) : Op.bytesLess (u32 x ++ r) (u32 y ++ r') = (decide (x < y) || (x == y && Op.bytesLess r r')) := by
  obtain ⟨a, b, c, d, h1, h2, h3, h4, e, eu⟩ := u32_digits x hx
  obtain ⟨a', b', c', d', k1, k2, k3, k4, e', eu'⟩ := u32_digits y hy
  rw [eu, eu']
  simp only [List.cons_append, List.nil_append, Op.bytesLess]
  rw [ofNat_bequ h1 k1, ofNat_bequ h2 k2, ofNat_bequ h3 k3, ofNat_bequ h4 k4]
  simp only [ofNat_ltu h1 k1, ofNat_ltu h2 k2, ofNat_ltu h3 k3, ofNat_ltu h4 k4]
  generalize Op.bytesLess r r' = z
  clear eu eu' hx hy
  rw [Bool.eq_iff_iff]
  simp only [Bool.or_eq_true, Bool.and_eq_true, decide_eq_true_eq, beq_iff_eq]
  cases z <;> simp <;> omega
theorem nonce_enc {t : Tm} (h : t.ok) (hk : t.kind = 2) : t.enc = UInt8.ofNat 242 :: (u32 t.a ++ (u32 t.b ++ [])) ∧ t.a < 4294967296 ∧ t.b < 4294967296 := by
  obtain ⟨k, a, b, s, args⟩ := t
  have hk : k = 2 := hk
  subst hk
  rw [ok_mk] at h
  have h1 := h.1
  unfold okHd at h1
  simp only [reduceCtorEq, false_and, or_false, false_or, true_and, Nat.reduceEqDiff] at h1
  obtain rfl := List.eq_nil_of_length_eq_zero h1.2.2.2
  rw [enc_mk]
  simp only [Tm.a, Tm.b]
  exact ⟨by simp [hd, encs], by omega, by omega⟩
/-- A nonce's text comes ahead of another one's, as they stand in a share. -/
theorem nonce_less {t u : Tm} (ht : t.ok) (hu : u.ok) (kt : t.kind = 2) (ku : u.kind = 2) : Op.bytesLess t.enc u.enc = decide (¬ nle u t) := by
  obtain ⟨e1, a1, a2⟩ := nonce_enc ht kt
  obtain ⟨e2, b1, b2⟩ := nonce_enc hu ku
  rw [e1, e2]
  simp only [Op.bytesLess]
  rw [less_u32 a1 b1, less_u32 a2 b2]
  rw [Bool.eq_iff_iff]
  simp only [Op.bytesLess, Bool.or_eq_true, Bool.and_eq_true, decide_eq_true_eq, beq_iff_eq, UInt8.lt_irrefl, false_or, true_and]
  unfold nle
  simp
  omega
theorem bs_toList (l : List UInt8) : (bs l).toList = l := by rw [ByteArray.toList_eq]; rfl
/-- A node's cells, as the reference has them. -/
def rnC (k a b : Int) (s : List UInt8) (v : Value) : List Value := [.int .i64 k, .int .i64 a, .int .i64 b, .string (bs s), v]
theorem rn_all {k a b : Int} {s : List UInt8} {A : Option Addr} {n c : Nat} : (rnC k a b s (.slice A n c)).toArray.all (·.oneCell') = true := by simp [rnC, Value.oneCell']
set_option maxRecDepth 100000 in
set_option maxHeartbeats 2000000 in
theorem rRight_any (k a b : Nat) (s : List UInt8) (args : List Tm) (hok : (Tm.mk k a b s args).ok) (A : Option Addr) (c : Nat) (w : World) (hA : Strs w A args.length (args.map fun u => bs u.enc)) (hsz : ∀ u ∈ args, u.enc.length ≤ 4000000000) :
    Calls Tryz.prog 102 #[.agg (rnC k a b s (.slice A args.length c)).toArray] w fun r w' => r = .returned (.bool true) ∧ Below w.heap.size w w' := by
  have hB := below_new w (.cells (rnC k a b s (.slice A args.length c)).toArray 91)
  have hn := heap_new w (.cells (rnC k a b s (.slice A args.length c)).toArray 91)
  have d0 := cell_of_row _ w.heap.size 0 _ _ _ hn
  have d1 := cell_of_row _ w.heap.size 1 _ _ _ hn
  have d2 := cell_of_row _ w.heap.size 2 _ _ _ hn
  have d3 := cell_of_row _ w.heap.size 3 _ _ _ hn
  have d4 := cell_of_row _ w.heap.size 4 _ _ _ hn
  have hA2 := Lib.hid (hA.keep hB)
  have hn1 := Lib.hid hn
  have hBh := Lib.hid hB
  clear hB
  have hokm := ok_mk.1 hok
  have hk1 := hokm.1
  have hka := hokm.2.1
  have hko := hokm.2.2
  unfold okHd at hk1
  have cK : ∀ u ∈ args, ∀ W, Calls Tryz.prog 46 #[.string (bs u.enc)] W fun r w' => r = .returned (.int .i64 u.kind) ∧ W = w' := fun u hu W => rKind_any (some u) (fun t ht => by obtain rfl := Option.some.inj ht; exact hko u hu) (hsz u hu) W
  clear hok hokm hsz
  unfold rnC at hn1 d0 d1 d2 d3 d4 hBh hA2 ⊢
  clear hn hA
  go_enter Tryz.func102, Tryz.ntmps102
  go_upto_region 1 with fail
  generalize (w.alloc (.cells [Value.int .i64 k, .int .i64 a, .int .i64 b, .string (bs s), .slice A args.length c].toArray 91)) = w1 at *
  rcases hk1 with hk1 | hk1 | hk1 | hk1 | hk1 | hk1 | hk1 | hk1 | hk1 | hk1
  · obtain ⟨rfl, -⟩ := hk1
    clear cK hko hka hA2 hn1
    go_wp2_with fail
    go_ret
    exact ⟨rfl, hBh.out⟩
  · obtain ⟨rfl, ha, hb, -⟩ := hk1
    have ca := fun W => rNumber_any a W
    have cb := fun W => rNumber_any b W
    rw [decide_eq_true (by unfold numOk; omega)] at ca cb
    have ca := Lib.hid ca
    have cb := Lib.hid cb
    clear cK hko hka hA2 hn1
    go_wp2_with (first
      | (go_at_call 83; (with_reducible refine (ca.out _).mono ?_); rintro r w1 ⟨rfl, rfl⟩)
      | (go_at_call 83; (with_reducible refine (cb.out _).mono ?_); rintro r w1 ⟨rfl, rfl⟩))
    go_ret
    exact ⟨rfl, hBh.out⟩
  · obtain ⟨rfl, ha, rfl, -⟩ := hk1
    have ca := fun W => rNumber_any a W
    have cb : ∀ W, Calls Tryz.prog 83 #[.int .i64 ((0 : Nat) : Int)] W fun r w' => r = .returned (.bool (decide (numOk ((0 : Nat) : Int)))) ∧ W = w' := fun W => rNumber_any ((0 : Nat) : Int) W
    rw [decide_eq_true (by unfold numOk; omega)] at ca cb
    have ca := Lib.hid ca
    have cb := Lib.hid cb
    clear cK hko hka hA2 hn1
    go_wp2_with (first
      | (go_at_call 83; (with_reducible refine (ca.out _).mono ?_); rintro r w1 ⟨rfl, rfl⟩)
      | (go_at_call 83; refine (cb.out _).mono ?_; rintro r w1 ⟨rfl, rfl⟩))
    go_ret
    exact ⟨rfl, hBh.out⟩
  · obtain ⟨rfl, rfl, rfl, rfl, hm⟩ := hk1
    obtain ⟨u, rfl⟩ := List.length_eq_one_iff.1 hm
    have hk3 := hka.1 rfl u (by simp)
    have cu := cK u (by simp)
    rw [hk3] at cu
    obtain ⟨bb, off, z, rfl, hlt, hz, hcell⟩ := hA2.out.at_ (j := 0) (by simp)
    have hz : bs u.enc = z := Option.some.inj hz
    subst hz
    rw [Nat.add_zero] at hcell
    simp only [List.length_cons, List.length_nil, Nat.zero_add, Nat.reduceAdd] at d4 ⊢
    have cu := Lib.hid cu
    clear cK hko hka hA2 hn1 hk3
    go_wp2_with (go_at_call 46; refine (cu.out _).mono ?_; rintro r w1 ⟨rfl, rfl⟩)
    go_ret
    exact ⟨rfl, hBh.out⟩
  · obtain ⟨rfl, rfl, rfl, hs1, hs2, hm⟩ := hk1
    obtain ⟨hk5, hsr⟩ := hka.2.1 rfl
    have cK2 := Lib.hid (fun u (hu : u ∈ args) W => (show Calls Tryz.prog 46 #[.string (bs u.enc)] W fun r w' => r = .returned (.int .i64 2) ∧ W = w' from by have := cK u hu W; rwa [hk5 u hu] at this))
    have hless : ∀ (j : Nat) u v, args[j + 1]? = some u → args[j]? = some v → Op.bytesLess (bs u.enc).toList (bs v.enc).toList = false := by
      intro j u v hu hv
      have mu := List.mem_of_getElem? hu
      have mv := List.mem_of_getElem? hv
      rw [bs_toList, bs_toList, nonce_less (hko u mu) (hko v mv) (hk5 u mu) (hk5 v mv)]
      have h1 := List.getElem?_eq_some_iff.1 hu
      have h2 := List.getElem?_eq_some_iff.1 hv
      have := (List.pairwise_iff_getElem.1 hsr) j (j + 1) h2.1 h1.1 (by omega)
      rw [h1.2, h2.2] at this
      simp [this]
    have hless := Lib.hid hless
    have cT : ∀ W, Calls Tryz.prog 82 #[.string (bs s), .int .i64 2100] W fun r w' => r = .returned (.bool (decide (txtOk s 2100))) ∧ W = w' := fun W => rText_any s 2100 W (by omega)
    rw [decide_eq_true (show txtOk s 2100 from ⟨hs1, hs2⟩)] at cT
    have cT := Lib.hid cT
    have hwl := (Array.getElem?_eq_some_iff.1 hn1.out).1
    have hn2 := Lib.hid (fun W (hb : Below w1.heap.size w1 W) => (hb.block w.heap.size hwl).trans hn1.out)
    have hA3 := Lib.hid (fun W (hb : Below w1.heap.size w1 W) => hA2.out.keep hb)
    generalize hna : args.length = n at *
    have hna := Lib.hid hna
    clear cK hko hka hA2 hk5 hsr hn1 d1 d2 d3
    go_wp2_with fail
    go_loopw [3] (fun i wr => ∃ j : Nat, j ≤ n ∧ i = .int .i64 j ∧ Hid (Below w1.heap.size w1 wr)) (fun i _ => n - (intOf i).toNat)
    case atStart => exact ⟨0, by omega, rfl, Lib.hid (Below.refl _ _)⟩
    case round =>
      clear d0 d4
      obtain ⟨j, hj, rfl, hBr⟩ := hrel
      have hrow := hn2.out wr hBr.out
      have d4 : wr.cell? ⟨w.heap.size, 4, none⟩ = some (.slice A n c) := cell_of_row wr _ 4 _ _ _ hrow
      have d3 : wr.cell? ⟨w.heap.size, 3, none⟩ = some (.string (bs s)) := cell_of_row wr _ 3 _ _ _ hrow
      clear hrow
      by_cases hlt : j < n
      · obtain ⟨bb, off, z, rfl, hltb, hz, hcell⟩ := (hA3.out wr hBr.out).at_ hlt
        rw [List.getElem?_map] at hz
        obtain ⟨u, hu⟩ : ∃ u, args[j]? = some u := ⟨args[j]'(by have := hna.out; omega), List.getElem?_eq_getElem (by have := hna.out; omega)⟩
        rw [hu] at hz
        have hz : bs u.enc = z := Option.some.inj hz
        subst hz
        have cu := Lib.hid (cK2.out u (List.mem_of_getElem? hu))
        have i1 : (0 : Int) ≤ (j : Int) := by omega
        have i2 : (j : Int) < (n : Int) := by omega
        by_cases h0 : j = 0
        · subst h0
          rw [Nat.add_zero] at hcell
          clear hu
          go_upto_region 11 with fail
          go_quiet ((go_at_call 46; exact Calls.quiet_of_same ((cu.out _).mono (fun e w' h => ⟨h.1, h.2.symm⟩))))
          have hBq := Lib.hid (hBr.out.trans ((drewN_below (w := wr) nq).mono hBr.out.size))
          generalize wr.drewN nq = w5 at hBq ⊢
          clear d3 d4 hcell
          go_wp2_with fail
          go_roundw
          case rel => exact ⟨1, by omega, by go_num, hBq⟩
          case measure => simp [intOf]; omega
        · obtain ⟨m, rfl⟩ : ∃ m, j = m + 1 := ⟨j - 1, by omega⟩
          obtain ⟨bb2, off2, z2, e2, hltb2, hz2, hcell2⟩ := (hA3.out wr hBr.out).at_ (j := m) (by omega)
          injection e2 with e2
          injection e2 with e3 e4 _
          subst e3 e4
          rw [List.getElem?_map] at hz2
          obtain ⟨v, hv⟩ : ∃ v, args[m]? = some v := ⟨args[m]'(by have := hna.out; omega), List.getElem?_eq_getElem (by have := hna.out; omega)⟩
          rw [hv] at hz2
          have hz2 : bs v.enc = z2 := Option.some.inj hz2
          subst hz2
          have hls := hless.out m u v hu hv
          obtain ⟨J, hJ⟩ : ∃ J, J = m + 1 := ⟨_, rfl⟩
          rw [← hJ] at hcell hlt hj i1 i2 ⊢
          have g1 : (J : Int) - 1 = (m : Int) := by omega
          have g2 : IntKind.i64.wrap (m : Int) = (m : Int) := by rw [IntKind.wrap_i64]; omega
          have g3 : (0 : Int) ≤ (m : Int) := by omega
          have g4 : (m : Int) < (n : Int) := by omega
          have g5 : decide ((0 : Int) < (J : Int)) = true := decide_eq_true (by omega)
          have g6 : decide (0 < J) = true := decide_eq_true (by omega)
          have hJh := Lib.hid hJ
          clear hu hv h0 hJ
          go_upto_region 11 with fail
          go_quiet ((go_at_call 46; exact Calls.quiet_of_same ((cu.out _).mono (fun e w' h => ⟨h.1, h.2.symm⟩))))
          have hBq := Lib.hid (hBr.out.trans ((drewN_below (w := wr) nq).mono hBr.out.size))
          generalize wr.drewN nq = w5 at hBq ⊢
          clear d3 d4 hcell hcell2 hls g1 g2 g5 g6
          go_wp2_with fail
          go_roundw
          case rel => exact ⟨J + 1, by omega, by go_num, hBq⟩
          case measure => simp [intOf]; omega
      · go_wp2_with (go_at_call 82; refine (cT.out _).mono ?_; rintro r w6 ⟨rfl, rfl⟩)
        go_ret
        exact ⟨rfl, hBh.out.trans (hBr.out.mono hBh.out.size)⟩
  · obtain ⟨rfl, rfl, rfl, hs1, hs2, hm⟩ := hk1
    obtain ⟨u, v, rfl⟩ : ∃ u v, args = [u, v] := by
      match args, hm with
      | [u, v], _ => exact ⟨u, v, rfl⟩
    have hk3 := hka.2.2 rfl u rfl
    have cu := cK u (by simp)
    rw [hk3] at cu
    have cT : ∀ W, Calls Tryz.prog 82 #[.string (bs s), .int .i64 64] W fun r w' => r = .returned (.bool (decide (txtOk s 64))) ∧ W = w' := fun W => rText_any s 64 W (by omega)
    rw [decide_eq_true (show txtOk s 64 from ⟨hs1, hs2⟩)] at cT
    obtain ⟨bb, off, z, rfl, hlt, hz, hcell⟩ := hA2.out.at_ (j := 0) (by simp)
    have hz : bs u.enc = z := Option.some.inj hz
    subst hz
    rw [Nat.add_zero] at hcell
    simp only [List.length_cons, List.length_nil, Nat.zero_add, Nat.reduceAdd] at d4 ⊢
    have cu := Lib.hid cu
    have cT := Lib.hid cT
    clear cK hko hka hA2 hn1 hk3
    go_wp2_with (first
      | (go_at_call 82; refine (cT.out _).mono ?_; rintro r w1 ⟨rfl, rfl⟩)
      | (go_at_call 46; refine (cu.out _).mono ?_; rintro r w1 ⟨rfl, rfl⟩))
    go_ret
    exact ⟨rfl, hBh.out⟩
  · obtain ⟨rfl, -⟩ := hk1
    clear cK hko hka hA2 hn1
    go_wp2_with fail
    go_ret
    exact ⟨rfl, hBh.out⟩
  · obtain ⟨rfl, -⟩ := hk1
    clear cK hko hka hA2 hn1
    go_wp2_with fail
    go_ret
    exact ⟨rfl, hBh.out⟩
  · obtain ⟨rfl, -⟩ := hk1
    clear cK hko hka hA2 hn1
    go_wp2_with fail
    go_ret
    exact ⟨rfl, hBh.out⟩
  · obtain ⟨rfl, -⟩ := hk1
    clear cK hko hka hA2 hn1
    go_wp2_with fail
    go_ret
    exact ⟨rfl, hBh.out⟩
end
end Go.Proofs.YtbeanjaenmpoeaaGreatDoor
