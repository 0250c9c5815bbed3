/- Texts joined: what each shows stands ahead of its theorems. -/
import Derived.Test.YtphnakdgpilcmaaGreatDoorHb3
import Derived.Laws.CopyRow
import Derived.Test.YtphnakdgpilcmaaGreatDoorHb0
import Derived.Test.YtphnakdgpilcmaaGreatDoorHb2
import Derived.Deep.DeepCutAuto
import Derived.Deep.RegionWith
import Derived.Deep.RegionHeld3
namespace Go.Proofs.YtphnakdgpilcmaaGreatDoor
section
open Go.RowKit

/-- Texts of terms do not lie in an empty node. -/
theorem strs_off {w : World} {g : Nat} {A : Option Addr} {n : Nat} {args : List Tm} (hz : w.heap[g]? = some (.cells rz 91 (0, 0))) (h : Strs w A n (args.map fun u => bs u.enc)) (cs : Array Value) : Strs (w.setRow g cs) A n (args.map fun u => bs u.enc) := by
  refine ⟨h.1, h.2.1, fun hp => ?_⟩
  obtain ⟨b1, o1, e1, hl1, hc1⟩ := h.2.2 hp
  refine ⟨b1, o1, e1, by simpa [World.setRow] using hl1, fun jj z hzj i vv hv => ?_⟩
  have hne : b1 ≠ g := by
    rintro rfl
    have h0 : 0 < (args.map fun u => bs u.enc).length := by rw [h.len]; exact hp
    have hx : ((args.map fun u => bs u.enc).map sv)[0]? = some (sv ((args.map fun u => bs u.enc)[0])) := by rw [List.getElem?_map, List.getElem?_eq_getElem h0]; rfl
    have h2 := hc1 0 _ hx 0 _ rfl
    rw [cell_of_row w b1 _ _ _ _ hz] at h2
    have h3 := (Array.getElem?_eq_some_iff.1 h2).1
    generalize o1 + 0 * 1 + 0 = m at h2 h3
    have h3 : m < 5 := h3
    match m, h3, h2 with
    | 0, _, h2 => cases h2
    | 1, _, h2 => cases h2
    | 2, _, h2 => cases h2
    | 3, _, h2 =>
      have h4 := Option.some.inj h2
      injection h4 with h4
      rw [List.getElem_map] at h4
      have h5 := bs_inj (l := []) h4
      exact enc_ne h5.symm
    | 4, _, h2 => cases h2
  rw [World.cell?_of_block (hsetRow_off hne _)]
  exact hc1 jj z hzj i vv hv
theorem strs_new {w : World} {A : Option Addr} {n : Nat} {ss : List ByteArray} (h : Strs w A n ss) (o : Obj) (cs : Array Value) : Strs ((w.alloc o).setRow w.heap.size cs) A n ss :=
  h.keep (below_setRow (below_new w o) (Nat.le_refl _) cs)
set_option maxRecDepth 100000 in
set_option maxHeartbeats 4000000 in
theorem rView_own (t : Tm) (hok : t.ok) (hl : t.enc.length ≤ 4000000000) (w : World) :
    Calls Tryz.prog 41 #[.string (bs t.enc)] w fun r w' => ∃ (A : Option Addr) (c : Nat), r = .returned (.agg (rnC t.kind t.a t.b t.s (.slice A t.args.length c)).toArray) ∧ Strs w' A t.args.length (t.args.map fun u => bs u.enc) ∧ Below w.heap.size w w' ∧ OwnS w' w.heap.size (.slice A t.args.length c) (t.args.map fun u => bs u.enc) := by
  have hB1 := below_new w (.cells rz 91)
  have n1 := Lib.hid (heap_new w (.cells rz 91))
  have cP : Calls Tryz.prog 86 #[.string (bs t.enc), .int .i64 0] (w.alloc (.cells rz 91)) (ParseR t (0 + t.len) (w.alloc (.cells rz 91))) := rParse_any t.len t (Nat.le_refl _) hok t.enc 0 [] (w.alloc (.cells rz 91)) hl (by simp)
  unfold ParseR at cP
  have cPh := Lib.hid cP
  have hB1h := Lib.hid hB1
  have hlt1 : w.heap.size < (w.alloc (.cells rz 91)).heap.size := by simp
  clear hok hl cP hB1
  go_enter Tryz.func41, Tryz.ntmps41
  go_upto_region 1 with (refine wpList_alloc_row 91 rfl rfl rz rn_zero ?_; try simp only [World.size_alloc])
  generalize (w.alloc (.cells rz 91)) = w1 at *
  go_upto_region 2 with (first
    | (go_at_call 86; refine cPh.out.mono ?_; rintro r w2 ⟨A, c, rfl, hS, hb, hO⟩
       have z1 := Lib.hid (heap_new w2 (.cells rz 91))
       have hS1 := Lib.hid (strs_new hS (.cells rz 91) (rnC t.kind t.a t.b t.s (.slice A t.args.length c)).toArray)
       have hO1 := Lib.hid (OwnS.keep (w' := (w2.alloc (.cells rz 91)).setRow w2.heap.size (rnC t.kind t.a t.b t.s (.slice A t.args.length c)).toArray) hO (below_setRow (below_new w2 (.cells rz 91)) (Nat.le_refl _) (rnC t.kind t.a t.b t.s (.slice A t.args.length c)).toArray))
       have hb2 := Lib.hid (hb.trans (Below.mono (below_setRow (below_new w2 (.cells rz 91)) (Nat.le_refl _) (rnC t.kind t.a t.b t.s (.slice A t.args.length c)).toArray) hb.size))
       clear hS hb hO)
    | (refine wpList_alloc_row 91 rfl rfl rz rn_zero ?_; try simp only [World.size_alloc])
    | (refine wpList_store_at 91 _ _ rfl rfl w2.heap.size (rnC t.kind t.a t.b t.s (.slice A t.args.length c)).toArray rfl rfl 91 rz z1.out (rn_info rfl) rfl rn_all ?_))
  have hr := hsetRow _ _ _ (rnC t.kind t.a t.b t.s (.slice A t.args.length c)).toArray _ _ z1.out
  have hb2 : Below w1.heap.size w1 ((w2.alloc (.cells rz 91)).setRow w2.heap.size (rnC t.kind t.a t.b t.s (.slice A t.args.length c)).toArray) := hb2.out
  have hS1 : Strs ((w2.alloc (.cells rz 91)).setRow w2.heap.size (rnC t.kind t.a t.b t.s (.slice A t.args.length c)).toArray) A t.args.length (t.args.map fun u => bs u.enc) := hS1.out
  have hO1 : OwnS ((w2.alloc (.cells rz 91)).setRow w2.heap.size (rnC t.kind t.a t.b t.s (.slice A t.args.length c)).toArray) w1.heap.size (.slice A t.args.length c) (t.args.map fun u => bs u.enc) := hO1.out
  generalize ((w2.alloc (.cells rz 91)).setRow w2.heap.size (rnC t.kind t.a t.b t.s (.slice A t.args.length c)).toArray) = w3 at *
  have hr3 := Lib.hid (rangeAt_list hr)
  have z3 := (hb2.block w.heap.size hlt1).trans n1.out
  have hS3 := Lib.hid (strs_off z3 hS1 (rnC t.kind t.a t.b t.s (.slice A t.args.length c)).toArray)
  have hB3 := hB1h.out.trans (hb2.mono hB1h.out.size)
  have hB4 := Lib.hid (below_setRow hB3 (Nat.le_refl _) (g := w.heap.size) (rnC t.kind t.a t.b t.s (.slice A t.args.length c)).toArray)
  have z3h := Lib.hid z3
  have hO3 := Lib.hid (OwnR.monoB (OwnR.keepF (w' := w3.setRow w.heap.size (rnC t.kind t.a t.b t.s (.slice A t.args.length c)).toArray) (F := fun q => q = w.heap.size) hO1 ⟨rfl, rfl, rfl, by simp [World.setRow], fun q _ hq => hsetRow_off hq _⟩ (fun q hq hf => by have h1 := (hO1.1.lt q hq).1; rw [hf] at h1; exact Nat.lt_irrefl _ (Nat.lt_of_lt_of_le hlt1 h1))) (Nat.le_of_lt hlt1))
  clear hb2 hS1 hB3 z1 hr z3 n1 cPh hO1
  go_wp2_with (first
    | (refine wpList_load_at 91 _ rfl rfl w2.heap.size 0 rfl (rnC t.kind t.a t.b t.s (.slice A t.args.length c)) _ hr3.out Tryz.underlying91 rfl (rn_info (cs := (rnC t.kind t.a t.b t.s (.slice A t.args.length c)).toArray) rfl) ?_)
    | (refine wpList_store_at 91 _ _ rfl rfl w.heap.size (rnC t.kind t.a t.b t.s (.slice A t.args.length c)).toArray rfl rfl 91 rz z3h.out (rn_info rfl) rfl rn_all ?_))
  refine bodyPost_ret (results_cell_row rfl _ _ w.heap.size 91 (rnC t.kind t.a t.b t.s (.slice A t.args.length c)).toArray (0, 0) _ rfl (hsetRow _ _ _ _ _ _ z3h.out) Tryz.underlying91 rfl (rn_info rfl)) rfl ⟨A, c, rfl, hS3.out, hB4.out, hO3.out⟩
theorem rView_any (t : Tm) (hok : t.ok) (hl : t.enc.length ≤ 4000000000) (w : World) :
    Calls Tryz.prog 41 #[.string (bs t.enc)] w fun r w' => ∃ (A : Option Addr) (c : Nat), r = .returned (.agg (rnC t.kind t.a t.b t.s (.slice A t.args.length c)).toArray) ∧ Strs w' A t.args.length (t.args.map fun u => bs u.enc) ∧ Below w.heap.size w w' :=
  (rView_own t hok hl w).mono fun _ _ ⟨A, c, h1, h2, h3, _⟩ => ⟨A, c, h1, h2, h3⟩
end

section
def exps (s : Option Tm) (xs : List (Option Tm)) : Option Tm := xs.foldl expT s
theorem expT_none_l (x : Option Tm) : expT none x = none := rfl
theorem expT_none_r (s : Option Tm) : expT s none = none := by cases s <;> rfl
theorem exps_none (xs : List (Option Tm)) : exps none xs = none := by
  induction xs with
  | nil => rfl
  | cons x r ih => exact ih
theorem exps_mem_none : ∀ {xs : List (Option Tm)}, none ∈ xs → ∀ s, exps s xs = none
  | x :: r, h, s => by
    rcases List.mem_cons.1 h with h | h
    · subst h
      show exps (expT s none) r = none
      rw [expT_none_r]
      exact exps_none r
    · exact exps_mem_none h _
theorem exps_snoc (s : Option Tm) (xs : List (Option Tm)) (x : Option Tm) : exps s (xs ++ [x]) = expT (exps s xs) x := by simp [exps]
/-- A nonce's bytes are nine. -/
theorem nonce_len {t : Tm} (h : t.ok) (hk : t.kind = 2) : t.len = 9 := by
  obtain ⟨k, a, b, s, args⟩ := t
  have hk : k = 2 := hk
  subst hk
  rw [ok_mk] at h
  have h1 := h.1
  rw [len_mk h1]
  unfold okHd at h1
  simp only [reduceCtorEq, false_and, or_false, false_or, true_and, Nat.reduceEqDiff] at h1
  have : args = [] := List.eq_nil_of_length_eq_zero h1.2.2.2
  subst this
  rfl
theorem nonce_anti {t u : Tm} (ht : t.ok) (hu : u.ok) (kt : t.kind = 2) (ku : u.kind = 2) (h1 : nle t u) (h2 : nle u t) : t = u := by
  obtain ⟨k, a, b, s, args⟩ := t
  obtain ⟨k', a', b', s', args'⟩ := u
  have kt : k = 2 := kt
  have ku : k' = 2 := ku
  subst kt ku
  rw [ok_mk] at ht hu
  have e1 := ht.1
  have e2 := hu.1
  unfold okHd at e1 e2
  simp only [reduceCtorEq, false_and, or_false, false_or, true_and, Nat.reduceEqDiff] at e1 e2
  obtain ⟨_, _, rfl, e1⟩ := e1
  obtain ⟨_, _, rfl, e2⟩ := e2
  obtain rfl := List.eq_nil_of_length_eq_zero e1
  obtain rfl := List.eq_nil_of_length_eq_zero e2
  unfold nle at h1 h2
  simp only [Tm.a, Tm.b] at h1 h2
  obtain ⟨rfl, rfl⟩ : a = a' ∧ b = b' := by omega
  rfl
theorem ins_perm (x : Tm) : ∀ l, (ins x l).Perm (x :: l)
  | [] => List.Perm.refl _
  | y :: r => by
    rw [ins]
    split
    · exact ((ins_perm x r).cons y).trans (List.Perm.swap x y r)
    · exact List.Perm.refl _
theorem lens_perm {l m : List Tm} (h : l.Perm m) : lens l = lens m := by
  unfold lens
  exact (h.map Tm.len).sum_nat
theorem lens_nine : ∀ {l : List Tm}, (∀ t ∈ l, t.ok ∧ t.kind = 2) → lens l = 9 * l.length
  | [], _ => rfl
  | t :: r, h => by
    have h1 := nonce_len (h t (by simp)).1 (h t (by simp)).2
    have h2 := lens_nine (l := r) (fun u hu => h u (by simp [hu]))
    unfold lens at h2 ⊢
    simp only [List.map_cons, List.sum_cons, List.length_cons, h1, h2]
    omega
/-- The exponents that stand in order behind several steps. -/
def insAll (l : List Tm) (xs : List Tm) : List Tm := xs.foldl (fun a x => ins x a) l
theorem insAll_perm : ∀ (xs l : List Tm), (insAll l xs).Perm (xs ++ l)
  | [], l => List.Perm.refl _
  | x :: r, l => by
    show (insAll (ins x l) r).Perm (x :: r ++ l)
    exact (insAll_perm r _).trans (((ins_perm x l).append_left r).trans List.perm_middle)
theorem insAll_sorted : ∀ (xs : List Tm) {l : List Tm}, l.Pairwise nle → (insAll l xs).Pairwise nle
  | [], _, h => h
  | x :: r, _, h => insAll_sorted r (ins_sorted x h)
theorem insAll_len (xs l : List Tm) : (insAll l xs).length = xs.length + l.length := by
  rw [(insAll_perm xs l).length_eq]; simp
/-- What a share is behind several steps. -/
theorem exps_some {g : List UInt8} (hg : g.length ≤ 2100) : ∀ (xs l : List Tm), (∀ t ∈ xs, t.ok ∧ t.kind = 2) → (∀ t ∈ l, t.ok ∧ t.kind = 2) → xs.length + l.length ≤ 8 → exps (some (.mk 5 0 0 g l)) (xs.map some) = some (.mk 5 0 0 g (insAll l xs))
  | [], l, _, _, _ => rfl
  | x :: r, l, hx, hl, hn => by
    have hx1 := hx x (by simp)
    simp only [List.length_cons] at hn
    have hi : ∀ t ∈ ins x l, t.ok ∧ t.kind = 2 := fun t ht => by
      rcases ins_mem.1 ht with rfl | ht
      · exact hx1
      · exact hl t ht
    have hlen := lens_nine hi
    rw [ins_len] at hlen
    have h1 : expT (some (.mk 5 0 0 g l)) (some x) = some (.mk 5 0 0 g (ins x l)) := by
      show (if (5 : Nat) = 5 ∧ x.kind = 2 ∧ l.length < 8 then mkO 5 0 0 g ((ins x l).map some) else none) = _
      rw [if_pos ⟨rfl, hx1.2, by omega⟩]
      unfold mkO
      rw [alls_map]
      have : own 5 g.length = 9 + g.length := rfl
      dsimp only
      rw [if_pos (by omega)]
    show exps (expT _ (some x)) (r.map some) = _
    rw [h1, exps_some hg r (ins x l) (fun t ht => hx t (by simp [ht])) hi (by rw [ins_len]; omega)]
    rfl
/-- Nonces that stand in order, the same ones: the same list. -/
theorem sorted_same {l m : List Tm} (hl : ∀ t ∈ l, t.ok ∧ t.kind = 2) (hm : ∀ t ∈ m, t.ok ∧ t.kind = 2) (h1 : l.Pairwise nle) (h2 : m.Pairwise nle) (h : l.Perm m) : l = m :=
  List.Perm.eq_of_pairwise (fun a b ha hb x y => nonce_anti (hl a ha).1 (hm b hb).1 (hl a ha).2 (hm b hb).2 x y) h1 h2 h
theorem all_some_of : ∀ {os : List (Option Tm)}, none ∉ os → ∃ l : List Tm, os = l.map some
  | [], _ => ⟨[], rfl⟩
  | none :: r, h => absurd (by simp) h
  | some t :: r, h => by
    obtain ⟨l, rfl⟩ := all_some_of (os := r) (fun hh => h (by simp [hh]))
    exact ⟨t :: l, rfl⟩
theorem nonceT_some {w n : Int} {t : Tm} (h : nonceT w n = some t) : t = .mk 2 w.toNat n.toNat [] [] ∧ numOk w ∧ numOk n := by
  unfold nonceT at h
  split at h
  · rename_i hh
    obtain ⟨l, hl, rfl, _⟩ := mkO_some h
    obtain rfl := map_some_nil hl
    exact ⟨rfl, hh⟩
  · cases h
theorem nonceT_kind {w n : Int} {t : Tm} (h : nonceT w n = some t) : t.ok ∧ t.kind = 2 := ⟨nonceT_ok w n t h, by rw [(nonceT_some h).1]; rfl⟩
theorem baseT_some {g : List UInt8} {t : Tm} (h : baseT g = some t) : t = .mk 5 0 0 g [] ∧ txtOk g 2100 := by
  unfold baseT at h
  split at h
  · rename_i hh
    obtain ⟨l, hl, rfl, _⟩ := mkO_some h
    obtain rfl := map_some_nil hl
    exact ⟨rfl, hh⟩
  · cases h
/-- In which order a share is raised plays no part. -/
theorem exps_perm {g : List UInt8} {l m : List (Option Tm)} (hp : l.Perm m) (hl : ∀ o ∈ l, ∃ w n, o = nonceT w n) (hn : l.length ≤ 8) : exps (baseT g) l = exps (baseT g) m := by
  by_cases h0 : none ∈ l
  · rw [exps_mem_none h0, exps_mem_none (hp.mem_iff.1 h0)]
  · obtain ⟨xs, rfl⟩ := all_some_of h0
    obtain ⟨ys, rfl⟩ := all_some_of (fun h => h0 (hp.mem_iff.2 h))
    cases hb : baseT g with
    | none => rw [exps_none, exps_none]
    | some t =>
      obtain ⟨rfl, hg⟩ := baseT_some hb
      have hx : ∀ t ∈ xs, t.ok ∧ t.kind = 2 := fun t ht => by
        obtain ⟨w, n, e⟩ := hl (some t) (List.mem_map_of_mem ht)
        exact nonceT_kind e.symm
      have hy : ∀ t ∈ ys, t.ok ∧ t.kind = 2 := fun t ht => by
        obtain ⟨w, n, e⟩ := hl (some t) (hp.mem_iff.2 (List.mem_map_of_mem ht))
        exact nonceT_kind e.symm
      have hle := hp.length_eq
      simp only [List.length_map] at hn hle
      rw [exps_some hg.2 xs [] hx (by simp) (by simpa using hn), exps_some hg.2 ys [] hy (by simp) (by simpa [← hle] using hn)]
      have hxy : xs.Perm ys := by
        have h1 := hp.filterMap id
        simpa [List.filterMap_map] using h1
      have e : insAll [] xs = insAll [] ys := by
        refine sorted_same ?_ ?_ (insAll_sorted xs List.Pairwise.nil) (insAll_sorted ys List.Pairwise.nil) ?_
        · intro t ht
          exact hx t (by simpa using (insAll_perm xs []).mem_iff.1 ht)
        · intro t ht
          exact hy t (by simpa using (insAll_perm ys []).mem_iff.1 ht)
        · have h1 := insAll_perm xs []
          have h2 := insAll_perm ys []
          rw [List.append_nil] at h1 h2
          exact h1.trans (hxy.trans h2.symm)
      rw [e]
/-- What a share is that there is. -/
theorem exps_base {g : List UInt8} {l : List (Option Tm)} (hl : ∀ o ∈ l, ∃ w n, o = nonceT w n) (hn : l.length ≤ 8) {t : Tm} (h : exps (baseT g) l = some t) : ∃ xs : List Tm, l = xs.map some ∧ t = .mk 5 0 0 g (insAll [] xs) ∧ txtOk g 2100 ∧ ∀ t ∈ xs, t.ok ∧ t.kind = 2 := by
  by_cases h0 : none ∈ l
  · rw [exps_mem_none h0] at h; cases h
  · obtain ⟨xs, rfl⟩ := all_some_of h0
    have hx : ∀ t ∈ xs, t.ok ∧ t.kind = 2 := fun t ht => by
      obtain ⟨w, n, e⟩ := hl (some t) (List.mem_map_of_mem ht)
      exact nonceT_kind e.symm
    cases hb : baseT g with
    | none => rw [hb, exps_none] at h; cases h
    | some u =>
      obtain ⟨rfl, hg⟩ := baseT_some hb
      rw [List.length_map] at hn
      rw [hb, exps_some hg.2 xs [] hx (by simp) (by simpa using hn)] at h
      exact ⟨xs, rfl, (Option.some.inj h).symm, hg, hx⟩
/-- How often by one exponent does: one more is another share. -/
theorem exps_more {g : List UInt8} {l : List (Option Tm)} {x : Option Tm} (hl : ∀ o ∈ l, ∃ w n, o = nonceT w n) (hn : l.length ≤ 8) (h : exps (baseT g) l ≠ none) : expT (exps (baseT g) l) x ≠ exps (baseT g) l := by
  cases e : exps (baseT g) l with
  | none => exact absurd e h
  | some t =>
    obtain ⟨xs, rfl, rfl, hg, hx⟩ := exps_base hl hn e
    intro he
    cases x with
    | none => cases he
    | some x =>
      have he : (if (5 : Nat) = 5 ∧ x.kind = 2 ∧ (insAll [] xs).length < 8 then mkO 5 0 0 g ((ins x (insAll [] xs)).map some) else none) = _ := he
      split at he
      · obtain ⟨m, hm, h2, _⟩ := mkO_some he
        injection h2 with _ _ _ _ h2
        have := congrArg List.length hm
        rw [List.length_map, List.length_map, ins_len, h2] at this
        omega
      · cases he
theorem exps_some_base {g : List UInt8} {l : List (Option Tm)} (hl : ∀ o ∈ l, ∃ w n, o = nonceT w n) (hn : l.length ≤ 8) (h0 : 0 < l.length) (h : exps (baseT g) l ≠ none) : baseT g ≠ exps (baseT g) l := by
  cases e : exps (baseT g) l with
  | none => exact absurd e h
  | some t =>
    obtain ⟨xs, rfl, rfl, hg, hx⟩ := exps_base hl hn e
    intro he
    obtain ⟨h1, _⟩ := baseT_some he
    injection h1 with _ _ _ _ h1
    have := congrArg List.length h1
    rw [insAll_len] at this
    simp at this h0
    exact absurd this (by intro h; rw [h] at h0; exact absurd h0 (by decide))
end

section
open Go.RowKit

/-- The texts of terms, none's is empty. -/
def TxS (w : World) (A : Option Addr) (n : Nat) (os : List (Option Tm)) : Prop := Strs w A n (os.map fun o => bs (encO o))
def small (os : List (Option Tm)) : Prop := ∀ o ∈ os, (encO o).length ≤ 131072
theorem alls_encs {l : List Tm} : (l.map some).map (fun o => bs (encO o)) = l.map fun t => bs t.enc := by
  rw [List.map_map]; rfl
set_option maxRecDepth 100000 in
set_option maxHeartbeats 1000000 in
theorem rShare_any (g : List UInt8) (l : List Tm) (A : Option Addr) (n c : Nat) (w : World) (hn : l.length = n) (hg : g.length ≤ 2100) (hl : n ≤ 8) (hok : ∀ t ∈ l, t.ok ∧ t.kind = 2) (hA : Strs w A n (l.map fun t => bs t.enc)) :
    Calls Tryz.prog 100 #[.string (bs g), .slice A n c] w (TxR w (fitsL ([UInt8.ofNat (240 + 5)] ++ u32 g.length ++ g ++ u32 n ++ encs l))) := by
  have h9 := lens_nine hok
  have c1 := fun W => rTag_any 5 W (by decide)
  have c2 := fun W => rU32_any g.length W (by omega)
  have c3 := fun W => rU32_any n W (by omega)
  have c4 := fun W => rFits_any ([UInt8.ofNat (240 + 5)] ++ u32 g.length ++ g ++ u32 n ++ encs l) W (by simp [u32_len, lens_encs, h9]; omega)
  have hz := bs_size g
  have hcat : bs [UInt8.ofNat (240 + 5)] ++ bs (u32 g.length) ++ bs g ++ bs (u32 n) = bs ([UInt8.ofNat (240 + 5)] ++ u32 g.length ++ g ++ u32 n) := by rw [bs_add, bs_add, bs_add]
  have z1 := bs_size [UInt8.ofNat (240 + 5)]
  have z2 := bs_size (u32 g.length)
  have z3 := bs_size (u32 n)
  rw [u32_len] at z2 z3
  simp only [List.length_singleton] at z1
  generalize hgm : g.length = m at *
  unfold TxR at c1 c2 c3 ⊢
  generalize hpre : [UInt8.ofNat (240 + 5)] ++ u32 m ++ g ++ u32 n = pre at *
  have hpl : pre.length ≤ 2109 := by rw [← hpre]; simp [u32_len]; omega
  generalize bs [UInt8.ofNat (240 + 5)] = x1 at *
  generalize bs (u32 m) = x2 at *
  generalize bs (u32 n) = x3 at *
  generalize bs g = x0 at *
  have hpcat : bs pre = x1 ++ x2 ++ x0 ++ x3 := hcat.symm
  have c1 := Lib.hid c1
  have c2 := Lib.hid c2
  have c3 := Lib.hid c3
  have c4 := Lib.hid c4
  have hA := Lib.hid hA
  have hnh := Lib.hid hn
  have h9h := Lib.hid h9
  have hokh := Lib.hid hok
  have hpch := Lib.hid hpcat
  have hplh := Lib.hid hpl
  clear hcat hpre hpcat hpl h9 hok hn hgm
  go_enter Tryz.func100, Tryz.ntmps100
  go_upto_region 2 with (first
    | (go_at_call 96; refine (c1.out _).mono ?_; rintro r w1 ⟨rfl, hb1⟩)
    | (go_at_call 97; (with_reducible refine (c2.out _).mono ?_); rintro r w2 ⟨rfl, hb2⟩; have hB := Lib.hid (hb1.trans (hb2.mono hb1.size)); clear hb1 hb2)
    | (go_at_call 97; (with_reducible refine (c3.out _).mono ?_); rintro r w3 ⟨rfl, hb3⟩; have hB3 := Lib.hid (hB.out.trans (hb3.mono hB.out.size)); clear hb3))
  have hxs : (x1 ++ x2 ++ x0 ++ x3) = bs pre := hpch.out.symm
  rw [hxs]
  clear hxs hpch z1 z2 z3 hz c1 c2 c3
  go_wp2_with fail
  go_loopw [5, 6] (fun sv iv wr => ∃ j : Nat, j ≤ n ∧ iv = .int .i64 j ∧ sv = .string (bs (pre ++ encs (l.take j))) ∧ Hid (Below w.heap.size w wr)) (fun _ iv _ => n - (intOf iv).toNat)
  case atStart => exact ⟨0, by omega, rfl, by simp [encs], hB3⟩
  case round =>
    obtain ⟨j, hj, rfl, rfl, hBr⟩ := hrel
    by_cases hlt : j < n
    · obtain ⟨b, off, x, rfl, hbl, hx, hcell⟩ := hA.out.at_ hlt
      rw [List.getElem?_map] at hx
      obtain ⟨t, ht⟩ : ∃ t, l[j]? = some t := ⟨l[j]'(by have := hnh.out; omega), List.getElem?_eq_getElem (by have := hnh.out; omega)⟩
      rw [ht] at hx
      have hx : bs t.enc = x := Option.some.inj hx
      subst hx
      have hc := (hBr.out.cell (p := ⟨b, off + j, none⟩) hbl).trans hcell
      have hadd := bs_add (pre ++ encs (l.take j)) t.enc
      have hnext : pre ++ encs (l.take j) ++ t.enc = pre ++ encs (l.take (j + 1)) := by rw [take_succ_of ht, encs_append, List.append_assoc]; simp [encs]
      have z1 := bs_size (pre ++ encs (l.take j))
      have z2 := bs_size t.enc
      have h92 : t.enc.length = 9 := nonce_len (hokh.out t (List.mem_of_getElem? ht)).1 (hokh.out t (List.mem_of_getElem? ht)).2
      have hb1 : (pre ++ encs (l.take j)).length ≤ 3000 := by
        have h1 := lens_nine (l := l.take j) (fun t ht => hokh.out t (List.mem_of_mem_take ht))
        rw [List.length_append, lens_encs, h1, List.length_take]
        have := hplh.out
        have := hnh.out
        omega
      rw [hnext] at hadd
      have zz1 : (bs (pre ++ encs (l.take j))).size ≤ 3000 := by omega
      have zz2 : (bs t.enc).size = 9 := by omega
      have haddh := Lib.hid hadd
      obtain ⟨y1, hy1⟩ : ∃ y, y = bs (pre ++ encs (l.take j)) := ⟨_, rfl⟩
      obtain ⟨y2, hy2⟩ : ∃ y, y = bs t.enc := ⟨_, rfl⟩
      rw [← hy1] at zz1 ⊢
      rw [← hy2] at zz2 hc
      have hy1 := Lib.hid hy1
      have hy2 := Lib.hid hy2
      clear hadd hnext z1 z2 h92 hb1 hcell ht
      rename_i oy1 oy2
      clear oy1 oy2
      go_wp2_with fail
      go_roundw
      case rel => exact ⟨j + 1, by omega, by go_num, by rw [hy1.out, hy2.out, haddh.out], hBr⟩
      case measure => simp [intOf]; omega
    · have hjn : j = n := by omega
      subst hjn
      rw [List.take_of_length_le (by rw [hnh.out]; exact Nat.le_refl _)]
      go_wp2_with (go_at_call 95; refine (c4.out _).mono ?_; rintro r w6 ⟨rfl, rfl⟩)
      go_ret
      exact ⟨rfl, hBr.out⟩
end

section
open Go.RowKit

theorem encO_small {o : Option Tm} (h : okO o) (hl : ∀ t, o = some t → t.len ≤ 131072) : (encO o).length ≤ 131072 := by
  cases o with
  | none => simp [encO]
  | some t => exact hl t rfl
theorem enc_pos {t : Tm} : 0 < t.enc.length := List.length_pos_iff.2 enc_ne
theorem bs_toList' (l : List UInt8) : (bs l).toList = l := by rw [ByteArray.toList_eq]; rfl
/-- Is a text the empty one? -/
theorem empty_test {t : Tm} : (bs t.enc).toList.isEmpty = false := by
  rw [bs_toList']
  cases h : t.enc with
  | nil => exact absurd h enc_ne
  | cons a l => rfl
theorem empty_none : (bs (encO none)).toList.isEmpty = true := by
  rw [bs_toList']
  rfl
theorem none_nil : encO none = [] := rfl
theorem encO_baseT {g : List UInt8} (h : txtOk g 2100) : encO (baseT g) = fitsL ([UInt8.ofNat (240 + 5)] ++ u32 g.length ++ g ++ u32 0 ++ encs []) := by
  have := encO_mkO (k := 5) (a := 0) (b := 0) (s := g) (l := []) (.inr (.inr (.inr (.inr (.inl ⟨rfl, rfl, rfl, h.1, h.2, by decide⟩)))))
  unfold baseT
  rw [if_pos h]
  simpa [hd, encs] using this
theorem rBase_any (g : List UInt8) (w : World) (hg : g.length ≤ 4000000000) :
    Calls Tryz.prog 67 #[.string (bs g)] w (TxR w (encO (baseT g))) := by
  have cT : ∀ W, Calls Tryz.prog 99 #[.string (bs g), .int .i64 2100] W fun r w' => r = .returned (.bool (decide (txtOk g 2100))) ∧ W = w' := fun W => rText_any g 2100 W hg
  by_cases h : txtOk g 2100
  · rw [decide_eq_true h] at cT
    have cS := fun W => rShare_any g [] none 0 0 W rfl h.2 (by decide) (by simp) Strs.nil_
    rw [← encO_baseT h] at cS
    unfold TxR at cS ⊢
    have cT := Lib.hid cT
    have cS := Lib.hid cS
    clear h hg
    go_enter Tryz.func67, Tryz.ntmps67
    go_wp2_with (first
      | (go_at_call 99; refine (cT.out _).mono ?_; rintro r w1 ⟨rfl, rfl⟩)
      | (go_at_call 100; refine (cS.out _).mono ?_; rintro r w1 ⟨rfl, hb⟩))
    go_ret
    exact ⟨rfl, hb⟩
  · have e : baseT g = none := by unfold baseT; rw [if_neg h]
    rw [decide_eq_false h] at cT
    rw [e]
    have cT := Lib.hid cT
    clear e h hg
    go_enter Tryz.func67, Tryz.ntmps67
    go_wp2_with (go_at_call 99; refine (cT.out _).mono ?_; rintro r w1 ⟨rfl, rfl⟩)
    go_ret
    exact ⟨rfl, Below.refl _ _⟩
theorem encO_hashT (t : Tm) : encO (hashT (some t)) = fitsL ([UInt8.ofNat (240 + 7)] ++ t.enc) := by
  have := encO_mkO (k := 7) (a := 0) (b := 0) (s := []) (l := [t]) (.inr (.inr (.inr (.inr (.inr (.inr (.inl ⟨rfl, rfl, rfl, rfl, rfl⟩)))))))
  simpa [hashT, hd, encs] using this
theorem hashT_none : hashT none = none := rfl
theorem rHash_any (o : Option Tm) (hl : (encO o).length ≤ 131072) (w : World) :
    Calls Tryz.prog 70 #[.string (bs (encO o))] w (TxR w (encO (hashT o))) := by
  cases o with
  | none =>
    have he := empty_none
    rw [show encO (hashT none) = [] from rfl]
    generalize bs (encO none) = x at *
    go_enter Tryz.func70, Tryz.ntmps70
    go_wp2
    go_ret
    exact ⟨rfl, Below.refl _ _⟩
  | some t =>
    rw [encO_hashT]
    rw [show encO (some t) = t.enc from rfl] at hl ⊢
    have c1 := fun W => rTag_any 7 W (by decide)
    have c3 := fun W => rFits_any ([UInt8.ofNat (240 + 7)] ++ t.enc) W (by simp; omega)
    have he := empty_test (t := t)
    have hcat : bs [UInt8.ofNat (240 + 7)] ++ bs t.enc = bs ([UInt8.ofNat (240 + 7)] ++ t.enc) := by rw [bs_add]
    have z1 := bs_size [UInt8.ofNat (240 + 7)]
    have z2 := bs_size t.enc
    have zz2 : (bs t.enc).size ≤ 131072 := by omega
    unfold TxR at c1 ⊢
    rw [← hcat] at c3
    generalize bs [UInt8.ofNat (240 + 7)] = x1 at *
    generalize fitsL ([UInt8.ofNat (240 + 7)] ++ t.enc) = res at *
    generalize bs t.enc = x2 at *
    simp only [List.length_singleton] at z1
    have c1 := Lib.hid c1
    have c3 := Lib.hid c3
    clear hcat z2 hl
    go_enter Tryz.func70, Tryz.ntmps70
    go_wp2_with (first
      | (go_at_call 96; refine (c1.out _).mono ?_; rintro r w1 ⟨rfl, hb1⟩)
      | (go_at_call 95; refine (c3.out _).mono ?_; rintro r w3 ⟨rfl, rfl⟩))
    go_ret
    exact ⟨rfl, hb1⟩
theorem encO_signT {alg : List UInt8} {k t : Tm} (ha : txtOk alg 64) (hk : k.kind = 3) : encO (signT alg (some k) (some t)) = fitsL ([UInt8.ofNat (240 + 6)] ++ u32 alg.length ++ alg ++ k.enc ++ t.enc) := by
  have := encO_mkO (k := 6) (a := 0) (b := 0) (s := alg) (l := [k, t]) (.inr (.inr (.inr (.inr (.inr (.inl ⟨rfl, rfl, rfl, ha.1, ha.2, rfl⟩))))))
  unfold signT
  rw [if_pos ⟨ha, hk⟩]
  simpa [hd, encs] using this
theorem signT_bad {alg : List UInt8} {k t : Option Tm} (h : ¬ (txtOk alg 64 ∧ kindO k = 3 ∧ t ≠ none)) : signT alg k t = none := by
  unfold signT
  split
  · rename_i h1
    cases t with
    | none =>
      cases k with
      | none => rfl
      | some k => rfl
    | some t => exact absurd ⟨h1.1, h1.2, by simp⟩ h
  · rfl
theorem rSign_any (alg : List UInt8) (k t : Option Tm) (hal : alg.length ≤ 4000000000) (hk : okO k) (hkl : (encO k).length ≤ 131072) (htl : (encO t).length ≤ 131072) (w : World) :
    Calls Tryz.prog 69 #[.string (bs alg), .string (bs (encO k)), .string (bs (encO t))] w (TxR w (encO (signT alg k t))) := by
  have cT : ∀ W, Calls Tryz.prog 99 #[.string (bs alg), .int .i64 64] W fun r w' => r = .returned (.bool (decide (txtOk alg 64))) ∧ W = w' := fun W => rText_any alg 64 W hal
  have cK := fun W => rKind_any k hk (by omega) W
  by_cases h1 : txtOk alg 64
  · rw [decide_eq_true h1] at cT
    by_cases h2 : kindO k = 3
    · rw [h2] at cK
      obtain ⟨k, rfl, hk3⟩ : ∃ k', k = some k' ∧ k'.kind = 3 := by
        cases k with
        | none => cases h2
        | some k => exact ⟨k, rfl, h2⟩
      cases t with
      | none =>
        have e : signT alg (some k) none = none := signT_bad (fun h => h.2.2 rfl)
        rw [e, show TxR w (encO none) = TxR w [] from rfl]
        have he := empty_none
        generalize bs (encO (some k)) = x at *
        generalize bs (encO none) = y at *
        have cT := Lib.hid cT
        have cK := Lib.hid cK
        clear e h1 h2 hal hkl htl
        go_enter Tryz.func69, Tryz.ntmps69
        go_wp2_with (first
          | (go_at_call 99; refine (cT.out _).mono ?_; rintro r w1 ⟨rfl, rfl⟩)
          | (go_at_call 40; refine (cK.out _).mono ?_; rintro r w1 ⟨rfl, rfl⟩))
        go_ret
        exact ⟨rfl, Below.refl _ _⟩
      | some t =>
        rw [encO_signT h1 hk3]
        rw [show encO (some t) = t.enc from rfl] at htl ⊢
        rw [show encO (some k) = k.enc from rfl] at hkl cK ⊢
        have h64 : alg.length ≤ 64 := h1.2
        have c1 := fun W => rTag_any 6 W (by decide)
        have c2 := fun W => rU32_any alg.length W (by omega)
        have c3 := fun W => rFits_any ([UInt8.ofNat (240 + 6)] ++ u32 alg.length ++ alg ++ k.enc ++ t.enc) W (by simp [u32_len]; omega)
        have he := empty_test (t := t)
        have hcat : bs [UInt8.ofNat (240 + 6)] ++ bs (u32 alg.length) ++ bs alg ++ bs k.enc ++ bs t.enc = bs ([UInt8.ofNat (240 + 6)] ++ u32 alg.length ++ alg ++ k.enc ++ t.enc) := by rw [bs_add, bs_add, bs_add, bs_add]
        have z1 := bs_size [UInt8.ofNat (240 + 6)]
        have z2 := bs_size (u32 alg.length)
        have z3 := bs_size alg
        have z4 := bs_size k.enc
        have z5 := bs_size t.enc
        rw [u32_len] at z2
        generalize hm : alg.length = m at *
        have zz4 : (bs k.enc).size ≤ 131072 := by omega
        have zz5 : (bs t.enc).size ≤ 131072 := by omega
        unfold TxR at c1 c2 ⊢
        rw [← hcat] at c3
        generalize fitsL ([UInt8.ofNat (240 + 6)] ++ u32 m ++ alg ++ k.enc ++ t.enc) = res at *
        generalize bs [UInt8.ofNat (240 + 6)] = x1 at *
        generalize bs (u32 m) = x2 at *
        generalize bs alg = x3 at *
        generalize bs k.enc = x4 at *
        generalize bs t.enc = x5 at *
        simp only [List.length_singleton] at z1
        have cT := Lib.hid cT
        have cK := Lib.hid cK
        have c1 := Lib.hid c1
        have c2 := Lib.hid c2
        have c3 := Lib.hid c3
        clear hcat z4 z5 hkl htl hal h1 h2
        go_enter Tryz.func69, Tryz.ntmps69
        go_wp2_with (first
          | (go_at_call 99; refine (cT.out _).mono ?_; rintro r w1 ⟨rfl, rfl⟩)
          | (go_at_call 40; refine (cK.out _).mono ?_; rintro r w1 ⟨rfl, rfl⟩)
          | (go_at_call 96; refine (c1.out _).mono ?_; rintro r w1 ⟨rfl, hb1⟩)
          | (go_at_call 97; refine (c2.out _).mono ?_; rintro r w2 ⟨rfl, hb2⟩; have hB := Lib.hid (hb1.trans (hb2.mono hb1.size)); clear hb1 hb2)
          | (go_at_call 95; refine (c3.out _).mono ?_; rintro r w3 ⟨rfl, rfl⟩))
        go_ret
        exact ⟨rfl, hB.out⟩
    · have e : signT alg k t = none := signT_bad (fun h => h2 h.2.1)
      rw [e]
      have hne : ((kindO k : Int) == 3) = false := by rw [beq_eq_false_iff_ne]; omega
      have hne2 : ¬ (kindO k : Int) = 3 := by omega
      generalize kindO k = kk at *
      generalize bs (encO k) = x at *
      have cT := Lib.hid cT
      have cK := Lib.hid cK
      clear e h1 h2 hal hkl htl
      go_enter Tryz.func69, Tryz.ntmps69
      go_wp2_with (first
        | (go_at_call 99; refine (cT.out _).mono ?_; rintro r w1 ⟨rfl, rfl⟩)
        | (go_at_call 40; refine (cK.out _).mono ?_; rintro r w1 ⟨rfl, rfl⟩))
      go_ret
      exact ⟨rfl, Below.refl _ _⟩
  · have e : signT alg k t = none := signT_bad (fun h => h1 h.1)
    rw [decide_eq_false h1] at cT
    rw [e]
    have cT := Lib.hid cT
    clear e h1 hal hkl htl cK
    go_enter Tryz.func69, Tryz.ntmps69
    go_wp2_with (go_at_call 99; refine (cT.out _).mono ?_; rintro r w1 ⟨rfl, rfl⟩)
    go_ret
    exact ⟨rfl, Below.refl _ _⟩
theorem encO_sealT {n : Nat} {k t : Tm} (hn : n < 4294967296) : encO (sealT (some k) n (some t)) = fitsL ([UInt8.ofNat (240 + 9)] ++ u32 n ++ k.enc ++ t.enc) := by
  have := encO_mkO (k := 9) (a := 0) (b := n) (s := []) (l := [k, t]) (.inr (.inr (.inr (.inr (.inr (.inr (.inr (.inr (.inl ⟨rfl, rfl, hn, rfl, rfl⟩)))))))))
  simpa [sealT, hd, encs] using this
theorem rSeal_any (k t : Option Tm) (n : Nat) (hn : n < 4294967296) (hkl : (encO k).length ≤ 131072) (htl : (encO t).length ≤ 131072) (w : World) :
    Calls Tryz.prog 72 #[.string (bs (encO k)), .int .u32 n, .string (bs (encO t))] w (TxR w (encO (sealT k n t))) := by
  cases k with
  | none =>
    have e : sealT none n t = none := by cases t <;> rfl
    rw [e, show TxR w (encO none) = TxR w [] from rfl]
    have he := empty_none
    generalize bs (encO none) = x at *
    clear e hkl htl
    go_enter Tryz.func72, Tryz.ntmps72
    go_wp2_with fail
    go_ret
    exact ⟨rfl, Below.refl _ _⟩
  | some k =>
    have he1 := empty_test (t := k)
    cases t with
    | none =>
      rw [show sealT (some k) n none = none from rfl]
      rw [show encO (some k) = k.enc from rfl, show TxR w (encO none) = TxR w [] from rfl]
      have he := empty_none
      generalize bs k.enc = x at *
      generalize bs (encO none) = y at *
      clear hkl htl
      go_enter Tryz.func72, Tryz.ntmps72
      go_wp2_with fail
      go_ret
      exact ⟨rfl, Below.refl _ _⟩
    | some t =>
      rw [encO_sealT hn]
      rw [show encO (some t) = t.enc from rfl] at htl ⊢
      rw [show encO (some k) = k.enc from rfl] at hkl ⊢
      have c1 := fun W => rTag_any 9 W (by decide)
      have c2 := fun W => rU32_any n W hn
      have c3 := fun W => rFits_any ([UInt8.ofNat (240 + 9)] ++ u32 n ++ k.enc ++ t.enc) W (by simp [u32_len]; omega)
      have he := empty_test (t := t)
      have hcat : bs [UInt8.ofNat (240 + 9)] ++ bs (u32 n) ++ bs k.enc ++ bs t.enc = bs ([UInt8.ofNat (240 + 9)] ++ u32 n ++ k.enc ++ t.enc) := by rw [bs_add, bs_add, bs_add]
      have z1 := bs_size [UInt8.ofNat (240 + 9)]
      have z2 := bs_size (u32 n)
      have z4 := bs_size k.enc
      have z5 := bs_size t.enc
      rw [u32_len] at z2
      have zz4 : (bs k.enc).size ≤ 131072 := by omega
      have zz5 : (bs t.enc).size ≤ 131072 := by omega
      unfold TxR at c1 c2 ⊢
      rw [← hcat] at c3
      generalize fitsL ([UInt8.ofNat (240 + 9)] ++ u32 n ++ k.enc ++ t.enc) = res at *
      generalize bs [UInt8.ofNat (240 + 9)] = x1 at *
      generalize bs (u32 n) = x2 at *
      generalize bs k.enc = x4 at *
      generalize bs t.enc = x5 at *
      simp only [List.length_singleton] at z1
      have c1 := Lib.hid c1
      have c2 := Lib.hid c2
      have c3 := Lib.hid c3
      clear hcat z4 z5 hkl htl
      go_enter Tryz.func72, Tryz.ntmps72
      go_wp2_with (first
        | (go_at_call 96; refine (c1.out _).mono ?_; rintro r w1 ⟨rfl, hb1⟩)
        | (go_at_call 97; refine (c2.out _).mono ?_; rintro r w2 ⟨rfl, hb2⟩; have hB := Lib.hid (hb1.trans (hb2.mono hb1.size)); clear hb1 hb2)
        | (go_at_call 95; refine (c3.out _).mono ?_; rintro r w3 ⟨rfl, rfl⟩))
      go_ret
      exact ⟨rfl, hB.out⟩
end

section
open Go.RowKit

theorem encO_listT {l : List Tm} (h : l.length ≤ 32) : encO (listT (l.map some)) = fitsL ([UInt8.ofNat (240 + 10)] ++ u32 l.length ++ encs l) := by
  have := encO_mkO (k := 10) (a := 0) (b := 0) (s := []) (l := l) (.inr (.inr (.inr (.inr (.inr (.inr (.inr (.inr (.inr ⟨rfl, rfl, rfl, rfl, h⟩)))))))))
  unfold listT
  rw [if_pos (by rw [List.length_map]; exact h)]
  simpa [hd] using this
theorem listT_none {os : List (Option Tm)} (h : none ∈ os) : listT os = none := by
  unfold listT
  split
  · unfold mkO
    rw [alls_none h]
  · rfl
theorem lens_app (l m : List Tm) : lens (l ++ m) = lens l + lens m := by simp [lens]
/-- A beginning that is too long already. -/
theorem listT_long {os : List (Option Tm)} {ts : List Tm} {j : Nat} (ht : os.take j = ts.map some) (hl : 131072 < 5 + lens ts) : listT os = none := by
  by_cases h0 : none ∈ os
  · exact listT_none h0
  · obtain ⟨l, rfl⟩ := all_some_of h0
    have h1 : l.take j = ts := by
      rw [← List.map_take] at ht
      have := congrArg alls ht
      rw [alls_map, alls_map] at this
      exact Option.some.inj this
    have h2 : lens l = lens ts + lens (l.drop j) := by
      rw [← h1, ← lens_app, List.take_append_drop]
    unfold listT
    split
    · unfold mkO
      rw [alls_map]
      have : own 10 ([] : List UInt8).length = 5 := rfl
      dsimp only
      rw [if_neg (by omega)]
    · rfl
set_option maxRecDepth 100000 in
set_option maxHeartbeats 1000000 in
theorem rList_any (os : List (Option Tm)) (A : Option Addr) (n c : Nat) (w : World) (hn : os.length = n) (hn2 : n ≤ 1000) (hsm : ∀ o ∈ os, (encO o).length ≤ 131072) (hA : Strs w A n (os.map fun o => bs (encO o))) :
    Calls Tryz.prog 73 #[.slice A n c] w (TxR w (encO (listT os))) := by
  by_cases h32 : 32 < n
  · have e : listT os = none := by unfold listT; rw [if_neg (by omega)]
    rw [e]
    clear e hsm hA hn
    go_enter Tryz.func73, Tryz.ntmps73
    go_wp2_with fail
    go_ret
    exact ⟨rfl, Below.refl _ _⟩
  · have c1 := fun W => rTag_any 10 W (by decide)
    have c2 := fun W => rU32_any n W (by omega)
    have hcat : bs [UInt8.ofNat (240 + 10)] ++ bs (u32 n) = bs ([UInt8.ofNat (240 + 10)] ++ u32 n) := by rw [bs_add]
    have z1 := bs_size [UInt8.ofNat (240 + 10)]
    have z2 := bs_size (u32 n)
    rw [u32_len] at z2
    simp only [List.length_singleton] at z1
    generalize hpre : [UInt8.ofNat (240 + 10)] ++ u32 n = pre at *
    have hpl : pre.length = 5 := by rw [← hpre]; simp [u32_len]
    unfold TxR at c1 c2
    generalize bs [UInt8.ofNat (240 + 10)] = x1 at *
    generalize bs (u32 n) = x2 at *
    have c1 := Lib.hid c1
    have c2 := Lib.hid c2
    have hcath := Lib.hid hcat
    have hAh := Lib.hid hA
    have hnh := Lib.hid hn
    have hsmh := Lib.hid hsm
    have hpreh := Lib.hid hpre
    have hplh := Lib.hid hpl
    clear hcat hA hn hsm hpre hpl
    go_enter Tryz.func73, Tryz.ntmps73
    go_upto_region 4 with (first
      | (go_at_call 96; refine (c1.out _).mono ?_; rintro r w1 ⟨rfl, hb1⟩)
      | (go_at_call 97; refine (c2.out _).mono ?_; rintro r w2 ⟨rfl, hb2⟩; have hB := Lib.hid (hb1.trans (hb2.mono hb1.size)); clear hb1 hb2))
    rw [hcath.out]
    clear z1 z2 c1 c2 hcath
    go_wp2_with fail
    go_loopw [3, 4] (fun sv iv wr => ∃ (j : Nat) (ts : List Tm), j ≤ n ∧ iv = .int .i64 j ∧ sv = .string (bs (pre ++ encs ts)) ∧ Hid (os.take j = ts.map some) ∧ Hid ((pre ++ encs ts).length ≤ 131072) ∧ Hid (wr = w2)) (fun _ iv _ => n - (intOf iv).toNat)
    case atStart => exact ⟨0, [], by omega, rfl, by simp [encs], by simp [Hid], by simp [Hid, encs, hplh.out], rfl⟩
    case round =>
      obtain ⟨j, ts, hj, rfl, rfl, hts, hlen, hwr⟩ := hrel
      have hwr := hwr.out
      subst hwr
      by_cases hlt : j < n
      · obtain ⟨o, ho⟩ : ∃ o, os[j]? = some o := ⟨os[j]'(by have := hnh.out; omega), List.getElem?_eq_getElem (by have := hnh.out; omega)⟩
        obtain ⟨b, off, x, rfl, hbl, hx, hcell⟩ := (hAh.out.keep hB.out).at_ hlt
        rw [List.getElem?_map, ho] at hx
        have hx : bs (encO o) = x := Option.some.inj hx
        subst hx
        have hom := List.mem_of_getElem? ho
        cases o with
        | none =>
          have e := listT_none hom
          rw [e]
          have he := empty_none
          rw [show TxR w (encO none) = TxR w [] from rfl]
          generalize bs (encO none) = y at *
          generalize bs (pre ++ encs ts) = x0 at *
          clear e ho hom
          go_wp2_with fail
          go_ret
          exact ⟨rfl, hB.out⟩
        | some t =>
          have he := empty_test (t := t)
          have hsz := hsmh.out _ hom
          rw [show encO (some t) = t.enc from rfl] at hcell hsz
          have hadd := bs_add (pre ++ encs ts) t.enc
          have hnext : pre ++ encs ts ++ t.enc = pre ++ encs (ts ++ [t]) := by rw [encs_append, List.append_assoc]; simp [encs]
          rw [hnext] at hadd
          have z1 := bs_size (pre ++ encs ts)
          have z2 := bs_size t.enc
          have z3 := bs_size (pre ++ encs (ts ++ [t]))
          have hl1 : (pre ++ encs (ts ++ [t])).length = (pre ++ encs ts).length + t.enc.length := by rw [← hnext, List.length_append]
          have hl2 : (pre ++ encs (ts ++ [t])).length = 5 + lens (ts ++ [t]) := by rw [List.length_append, lens_encs, hplh.out]
          have htk : Hid (os.take (j + 1) = (ts ++ [t]).map some) := by unfold Hid; rw [take_succ_of ho, hts.out]; simp
          have zz1 : (bs (pre ++ encs ts)).size ≤ 131072 := by have := hlen.out; omega
          have zz2 : (bs t.enc).size ≤ 131072 := by omega
          have hl1 := Lib.hid hl1
          by_cases hbig : 131072 < (pre ++ encs (ts ++ [t])).length
          · have e := listT_long htk.out (by omega)
            rw [e]
            have zz3 : 131072 < (bs (pre ++ encs (ts ++ [t]))).size := by omega
            have zz4 : (bs (pre ++ encs (ts ++ [t]))).size ≤ 262144 := by have := hl1.out; have := hlen.out; omega
            generalize bs (pre ++ encs ts) = x0 at *
            generalize bs (pre ++ encs (ts ++ [t])) = x3 at *
            generalize bs t.enc = y at *
            clear e z1 z2 z3 ho hom hnext hsz hl2
            go_wp2_with fail
            go_ret
            exact ⟨rfl, hB.out⟩
          · have zz3 : ¬ 131072 < (bs (pre ++ encs (ts ++ [t]))).size := by omega
            have hlen2 : Hid ((pre ++ encs (ts ++ [t])).length ≤ 131072) := by unfold Hid; omega
            obtain ⟨x3, hx3⟩ : ∃ y, bs (pre ++ encs (ts ++ [t])) = y := ⟨_, rfl⟩
            rw [hx3] at zz3 hadd
            have hx3h := Lib.hid hx3
            generalize bs (pre ++ encs ts) = x0 at *
            generalize bs t.enc = y at *
            clear z1 z2 z3 ho hom hnext hsz hx3 hbig hl2
            go_wp2_with fail
            go_roundw
            case rel => exact ⟨j + 1, ts ++ [t], by omega, by go_num, by rw [hx3h.out], htk, hlen2, by unfold Hid; first | rfl | trivial⟩
            case measure => simp [intOf]; omega
      · have hjn : j = n := by omega
        subst hjn
        have hos : os = ts.map some := by
          have := hts.out
          rwa [List.take_of_length_le (by rw [hnh.out]; exact Nat.le_refl _)] at this
        have hfin : encO (listT os) = pre ++ encs ts := by
          have hl := hnh.out
          rw [hos, List.length_map] at hl
          rw [hos, encO_listT (by omega), hl, hpreh.out, fitsL_id hlen.out]
        have hfinh := Lib.hid hfin
        clear hos hfin
        go_wp2_with fail
        go_ret
        exact ⟨by rw [hfinh.out]; rfl, hB.out⟩
end

section
open Go.RowKit

def PDv (b : Nat) (y1 : ByteArray) (y2 : ByteArray) (y3 : ByteArray) (y4 : ByteArray) (y5 : ByteArray) (rs : ByteArray) (i : Nat) (x : Value) : Prop := match i with
  | 0 => x = .string y1
  | 1 => x = .int .u8 b
  | 3 => x = .string y2
  | 4 => x = .string (y1 ++ y2)
  | 5 => x = .string y3
  | 6 => x = .string (y1 ++ y2 ++ y3)
  | 7 => x = .string y4
  | 8 => x = .string (y1 ++ y2 ++ y3 ++ y4)
  | 9 => x = .string y5
  | 10 => x = .string (y1 ++ y2 ++ y3 ++ y4 ++ y5)
  | 11 => x = .string rs
  | 12 => x = .string rs
  | _ => True
def IDv (F : Value → Value → Value → Value → Value → Value → Value → Value → Value → Value → Value → Value → Value → Array Value) (b : Nat) (y1 : ByteArray) (y2 : ByteArray) (y3 : ByteArray) (y4 : ByteArray) (y5 : ByteArray) (rs : ByteArray) (Wi : (Nat → Bool) → Value → World → Prop) (L : Nat → Bool) (ac : Act) (W : World) : Prop :=
  ∃ x0 x1 x2 x3 x4 x5 x6 x7 x8 x9 x10 x11 x12, ac = ⟨F x0 x1 x2 x3 x4 x5 x6 x7 x8 x9 x10 x11 x12, []⟩ ∧ (∀ jj, L jj = true → PDv b y1 y2 y3 y4 y5 rs jj ([x0, x1, x2, x3, x4, x5, x6, x7, x8, x9, x10, x11, x12].getD jj undef)) ∧ Wi L x2 W
theorem encO_deriveT {b : Nat} {x y z : Tm} (hb : b < 256) : encO (deriveT b (some x) (some y) (some z)) = fitsL ([UInt8.ofNat (240 + 8)] ++ [UInt8.ofNat b] ++ x.enc ++ y.enc ++ z.enc) := by
  have := encO_mkO (k := 8) (a := 0) (b := b) (s := []) (l := [x, y, z]) (.inr (.inr (.inr (.inr (.inr (.inr (.inr (.inl ⟨rfl, rfl, hb, rfl, rfl⟩))))))))
  simpa [deriveT, hd, encs] using this
theorem conv_one (W : World) (g b : Nat) (hg : W.heap[g]? = some (.cells #[.int .u8 b] 5 (0, 0))) : (convert 96 9 (.slice (some ⟨g, 0, none⟩) 1 1)).run Tryz.prog W = .ok (.string (bs [UInt8.ofNat b])) W := by
  have h := run_convert_bytes_arg (P := Tryz.prog) W 96 5 Tryz.underlying96 Tryz.underlying5 g 0 1 1 [(b : Int)] rfl (fun i hi => by
    have hi : i < 1 := hi
    obtain rfl : i = 0 := by omega
    rw [cell_of_row W g _ _ _ _ hg]
    rfl) 9 Tryz.underlying9
  have e := nums_bs [b]
  simp only [List.map_cons, List.map_nil] at e
  rw [e] at h
  exact h
theorem deriveT_bad {b : Nat} {x y z : Option Tm} (h : x = none ∨ y = none ∨ z = none) : deriveT b x y z = none := by
  unfold deriveT mkO
  have : none ∈ [x, y, z] := by rcases h with rfl | rfl | rfl <;> simp
  rw [alls_none this]
set_option maxRecDepth 100000 in
set_option maxHeartbeats 1000000 in
theorem rDerive_any (b : Nat) (x y z : Option Tm) (hb : b < 256) (hx : (encO x).length ≤ 131072) (hy : (encO y).length ≤ 131072) (hz : (encO z).length ≤ 131072) (w : World) :
    Calls Tryz.prog 71 #[.int .u8 b, .string (bs (encO x)), .string (bs (encO y)), .string (bs (encO z))] w (TxR w (encO (deriveT b x y z))) := by
  have e0 := empty_none
  cases x with
  | none =>
    rw [deriveT_bad (.inl rfl), show TxR w (encO none) = TxR w [] from rfl]
    generalize bs (encO none) = y0 at *
    generalize bs (encO y) = y1 at *
    generalize bs (encO z) = y2 at *
    clear hx hy hz
    go_enter Tryz.func71, Tryz.ntmps71
    go_wp2_with fail
    go_ret
    exact ⟨rfl, Below.refl _ _⟩
  | some x =>
    have e1 := empty_test (t := x)
    rw [show encO (some x) = x.enc from rfl] at hx ⊢
    cases y with
    | none =>
      rw [deriveT_bad (.inr (.inl rfl)), show TxR w (encO none) = TxR w [] from rfl]
      generalize bs x.enc = y1 at *
      generalize bs (encO none) = y0 at *
      generalize bs (encO z) = y2 at *
      clear hx hy hz
      go_enter Tryz.func71, Tryz.ntmps71
      go_wp2_with fail
      go_ret
      exact ⟨rfl, Below.refl _ _⟩
    | some y =>
      have e2 := empty_test (t := y)
      rw [show encO (some y) = y.enc from rfl] at hy ⊢
      cases z with
      | none =>
        rw [deriveT_bad (.inr (.inr rfl)), show TxR w (encO none) = TxR w [] from rfl]
        generalize bs x.enc = y1 at *
        generalize bs y.enc = y2 at *
        generalize bs (encO none) = y0 at *
        clear hx hy hz
        go_enter Tryz.func71, Tryz.ntmps71
        go_wp2_with fail
        go_ret
        exact ⟨rfl, Below.refl _ _⟩
      | some z =>
        have e3 := empty_test (t := z)
        rw [show encO (some z) = z.enc from rfl] at hz ⊢
        rw [encO_deriveT hb]
        have c1 := fun W => rTag_any 8 W (by decide)
        have c3 := fun W => rFits_any ([UInt8.ofNat (240 + 8)] ++ [UInt8.ofNat b] ++ x.enc ++ y.enc ++ z.enc) W (by simp; omega)
        have hcat : bs [UInt8.ofNat (240 + 8)] ++ bs [UInt8.ofNat b] ++ bs x.enc ++ bs y.enc ++ bs z.enc = bs ([UInt8.ofNat (240 + 8)] ++ [UInt8.ofNat b] ++ x.enc ++ y.enc ++ z.enc) := by rw [bs_add, bs_add, bs_add, bs_add]
        have z1 := bs_size [UInt8.ofNat (240 + 8)]
        have z2 := bs_size [UInt8.ofNat b]
        have z3 := bs_size x.enc
        have z4 := bs_size y.enc
        have z5 := bs_size z.enc
        have zz3 : (bs x.enc).size ≤ 131072 := by omega
        have zz4 : (bs y.enc).size ≤ 131072 := by omega
        have zz5 : (bs z.enc).size ≤ 131072 := by omega
        have kc := fun (W : World) (g : Nat) (hg : W.heap[g]? = some (.cells #[.int .u8 b] 5 (0, 0))) => conv_one W g b hg
        unfold TxR at c1 ⊢
        rw [← hcat] at c3
        generalize fitsL ([UInt8.ofNat (240 + 8)] ++ [UInt8.ofNat b] ++ x.enc ++ y.enc ++ z.enc) = res at *
        generalize bs [UInt8.ofNat (240 + 8)] = v1 at *
        generalize bs [UInt8.ofNat b] = v2 at *
        generalize bs x.enc = v3 at *
        generalize bs y.enc = v4 at *
        generalize bs z.enc = v5 at *
        simp only [List.length_singleton] at z1 z2
        have n1 : ¬ (9223372036854775807 < v1.size + v2.size) := by omega
        have n2 : ¬ (9223372036854775807 < v1.size + v2.size + v3.size) := by omega
        have n3 : ¬ (9223372036854775807 < v1.size + v2.size + v3.size + v4.size) := by omega
        have n4 : ¬ (9223372036854775807 < v1.size + v2.size + v3.size + v4.size + v5.size) := by omega
        have c1 := Lib.hid c1
        have c3 := Lib.hid c3
        have kc := Lib.hid kc
        clear hcat z1 z2 z3 z4 z5 hx hy hz e0
        go_enter Tryz.func71, Tryz.ntmps71
        go_upto_region 3 with fail
        refine region_inv (IDv (fun x0 x1 x2 x3 x4 x5 x6 x7 x8 x9 x10 x11 x12 => #[.int .u8 b, .string v3, .string v4, .string v5, undef, undef, undef, undef, x12, .string v3, .bool false, .bool false, .string v4, .bool false, .bool false, .bool false, .string v5, .bool false, .bool false, x0, x1, x2, x3, x4, x5, x6, x7, x8, x9, x10, x11]) b v1 v2 v3 v4 v5 (bs res) (fun L x2 W => Below w.heap.size w W ∧ (L 2 = true → ∃ g, x2 = .slice (some ⟨g, 0, none⟩) 1 1 ∧ W.heap[g]? = some (.cells #[.int .u8 b] 5 (0, 0))))) ?hlt ?hstep ?hdone rfl (by kernel_rfl) ?start
        case start => exact ⟨_, _, _, _, _, _, _, _, _, _, _, _, _, rfl, inv_start (n := 13) (fun _ => trivial), ⟨drewN_below 1, fun h => absurd h (inv_not (n := 13) (i := 2) (by decide))⟩⟩
        case hlt =>
          intro i o ho
          have hi := (Array.getElem?_eq_some_iff.1 ho).1
          match i, hi with
          | 0, _ => obtain rfl := Option.some.inj ho; decide
          | 1, _ => obtain rfl := Option.some.inj ho; decide
          | 2, _ => obtain rfl := Option.some.inj ho; decide
          | 3, _ => obtain rfl := Option.some.inj ho; decide
          | 4, _ => obtain rfl := Option.some.inj ho; decide
          | 5, _ => obtain rfl := Option.some.inj ho; decide
          | 6, _ => obtain rfl := Option.some.inj ho; decide
          | 7, _ => obtain rfl := Option.some.inj ho; decide
          | 8, _ => obtain rfl := Option.some.inj ho; decide
          | 9, _ => obtain rfl := Option.some.inj ho; decide
          | 10, _ => obtain rfl := Option.some.inj ho; decide
          | 11, _ => obtain rfl := Option.some.inj ho; decide
          | 12, _ => obtain rfl := Option.some.inj ho; decide
        case hstep =>
          rintro L ac W i o ⟨x0, x1, x2, x3, x4, x5, x6, x7, x8, x9, x10, x11, x12, rfl, hF, hW⟩ ho hLi hd K hK
          have hF := Lib.hid hF
          have hW := Lib.hid hW
          have hK := Lib.hid hK
          have hi := (Array.getElem?_eq_some_iff.1 ho).1
          match i, hi with
          | 0, _ =>
            obtain rfl := Option.some.inj ho
            have ct := Lib.hid (c1.out W)
            clear hd ho hi hLi
            go_simp
            go_at_call 96
            refine ct.out.mono ?_
            rintro r w3 ⟨rfl, hb3⟩
            exact hK.out _ _ ⟨_, x1, x2, x3, x4, x5, x6, x7, x8, x9, x10, x11, x12, rfl, inv_step (i := 0) (x' := .string v1) hF.out rfl (show 0 < 13 by decide), ⟨hW.out.1.trans (hb3.mono hW.out.1.size), fun l => by obtain ⟨g, e, h⟩ := hW.out.2 l; exact ⟨g, e, (hb3.block g (Array.getElem?_eq_some_iff.1 h).1).trans h⟩⟩⟩
          | 1, _ =>
            obtain rfl := Option.some.inj ho
            clear hd ho hi hLi
            go_simp
            exact hK.out _ _ ⟨x0, _, x2, x3, x4, x5, x6, x7, x8, x9, x10, x11, x12, rfl, inv_step (i := 1) (x' := .int .u8 b) hF.out rfl (show 1 < 13 by decide), hW.out⟩
          | 2, _ =>
            obtain rfl := Option.some.inj ho
            have l1 : L 1 = true := dep_of hd (n := 1) (by decide)
            obtain rfl := Eq.symm (hF.out 1 l1 : x1 = _)
            have hn := Lib.hid (heap_new W (.cells #[.int .u8 b] 5))
            have hbn := Lib.hid (hW.out.1.trans (Below.mono (below_new W (.cells #[.int .u8 b] 5)) hW.out.1.size))
            clear hd ho hi hLi l1
            go_simp
            exact hK.out _ _ ⟨x0, _, _, x3, x4, x5, x6, x7, x8, x9, x10, x11, x12, rfl, inv_step (i := 2) (x' := .slice (some ⟨W.heap.size, 0, none⟩) 1 1) hF.out trivial (show 2 < 13 by decide), ⟨hbn.out, fun _ => ⟨W.heap.size, rfl, hn.out⟩⟩⟩
          | 3, _ =>
            obtain rfl := Option.some.inj ho
            have l2 : L 2 = true := dep_of hd (n := 2) (by decide)
            obtain ⟨g, eg, hg⟩ := hW.out.2 l2
            subst eg
            have hcv := kc.out W g hg
            have hWr := Lib.hid (hW.out.1)
            have hgr := Lib.hid hg
            clear hg
            clear hd ho hi hLi l2
            go_simp
            exact hK.out _ _ ⟨x0, x1, _, _, x4, x5, x6, x7, x8, x9, x10, x11, x12, rfl, inv_step (i := 3) (x' := .string v2) hF.out rfl (show 3 < 13 by decide), ⟨hWr.out, fun _ => ⟨g, rfl, hgr.out⟩⟩⟩
          | 4, _ =>
            obtain rfl := Option.some.inj ho
            have l0 : L 0 = true := dep_of hd (n := 0) (by decide)
            obtain rfl := Eq.symm (hF.out 0 l0 : x0 = _)
            have l3 : L 3 = true := dep_of hd (n := 3) (by decide)
            obtain rfl := Eq.symm (hF.out 3 l3 : x3 = _)
            clear hd ho hi hLi l0 l3
            go_simp
            exact hK.out _ _ ⟨_, x1, x2, _, _, x5, x6, x7, x8, x9, x10, x11, x12, rfl, inv_step (i := 4) (x' := .string (v1 ++ v2)) hF.out rfl (show 4 < 13 by decide), hW.out⟩
          | 5, _ =>
            obtain rfl := Option.some.inj ho
            clear hd ho hi hLi
            go_simp
            exact hK.out _ _ ⟨x0, x1, x2, x3, x4, _, x6, x7, x8, x9, x10, x11, x12, rfl, inv_step (i := 5) (x' := .string v3) hF.out rfl (show 5 < 13 by decide), hW.out⟩
          | 6, _ =>
            obtain rfl := Option.some.inj ho
            have l4 : L 4 = true := dep_of hd (n := 4) (by decide)
            obtain rfl := Eq.symm (hF.out 4 l4 : x4 = _)
            have l5 : L 5 = true := dep_of hd (n := 5) (by decide)
            obtain rfl := Eq.symm (hF.out 5 l5 : x5 = _)
            clear hd ho hi hLi l4 l5
            go_simp
            exact hK.out _ _ ⟨x0, x1, x2, x3, _, _, _, x7, x8, x9, x10, x11, x12, rfl, inv_step (i := 6) (x' := .string (v1 ++ v2 ++ v3)) hF.out rfl (show 6 < 13 by decide), hW.out⟩
          | 7, _ =>
            obtain rfl := Option.some.inj ho
            clear hd ho hi hLi
            go_simp
            exact hK.out _ _ ⟨x0, x1, x2, x3, x4, x5, x6, _, x8, x9, x10, x11, x12, rfl, inv_step (i := 7) (x' := .string v4) hF.out rfl (show 7 < 13 by decide), hW.out⟩
          | 8, _ =>
            obtain rfl := Option.some.inj ho
            have l6 : L 6 = true := dep_of hd (n := 6) (by decide)
            obtain rfl := Eq.symm (hF.out 6 l6 : x6 = _)
            have l7 : L 7 = true := dep_of hd (n := 7) (by decide)
            obtain rfl := Eq.symm (hF.out 7 l7 : x7 = _)
            clear hd ho hi hLi l6 l7
            go_simp
            exact hK.out _ _ ⟨x0, x1, x2, x3, x4, x5, _, _, _, x9, x10, x11, x12, rfl, inv_step (i := 8) (x' := .string (v1 ++ v2 ++ v3 ++ v4)) hF.out rfl (show 8 < 13 by decide), hW.out⟩
          | 9, _ =>
            obtain rfl := Option.some.inj ho
            clear hd ho hi hLi
            go_simp
            exact hK.out _ _ ⟨x0, x1, x2, x3, x4, x5, x6, x7, x8, _, x10, x11, x12, rfl, inv_step (i := 9) (x' := .string v5) hF.out rfl (show 9 < 13 by decide), hW.out⟩
          | 10, _ =>
            obtain rfl := Option.some.inj ho
            have l8 : L 8 = true := dep_of hd (n := 8) (by decide)
            obtain rfl := Eq.symm (hF.out 8 l8 : x8 = _)
            have l9 : L 9 = true := dep_of hd (n := 9) (by decide)
            obtain rfl := Eq.symm (hF.out 9 l9 : x9 = _)
            clear hd ho hi hLi l8 l9
            go_simp
            exact hK.out _ _ ⟨x0, x1, x2, x3, x4, x5, x6, x7, _, _, _, x11, x12, rfl, inv_step (i := 10) (x' := .string (v1 ++ v2 ++ v3 ++ v4 ++ v5)) hF.out rfl (show 10 < 13 by decide), hW.out⟩
          | 11, _ =>
            obtain rfl := Option.some.inj ho
            have l10 : L 10 = true := dep_of hd (n := 10) (by decide)
            obtain rfl := Eq.symm (hF.out 10 l10 : x10 = _)
            have l0 : L 0 = true := dep_of hd (n := 0) (by decide)
            obtain rfl := Eq.symm (hF.out 0 l0 : x0 = _)
            have ct := Lib.hid (c3.out W)
            clear hd ho hi hLi l10 l0
            go_simp
            go_at_call 95
            refine ct.out.mono ?_
            rintro r w3 ⟨rfl, rfl⟩
            exact hK.out _ _ ⟨_, x1, x2, x3, x4, x5, x6, x7, x8, x9, _, _, x12, rfl, inv_step (i := 11) (x' := .string (bs res)) hF.out rfl (show 11 < 13 by decide), hW.out⟩
          | 12, _ =>
            obtain rfl := Option.some.inj ho
            have l11 : L 11 = true := dep_of hd (n := 11) (by decide)
            obtain rfl := Eq.symm (hF.out 11 l11 : x11 = _)
            clear hd ho hi hLi l11
            go_simp
            exact hK.out _ _ ⟨x0, x1, x2, x3, x4, x5, x6, x7, x8, x9, x10, _, _, rfl, inv_step (i := 12) (x' := .string (bs res)) hF.out rfl (show 12 < 13 by decide), hW.out⟩
        case hdone =>
          rintro L ac W2 ⟨x0, x1, x2, x3, x4, x5, x6, x7, x8, x9, x10, x11, x12, rfl, hF, hW⟩ hall
          obtain rfl := Eq.symm (hF 0 (hall 0 (show 0 < 13 by decide)) : x0 = _)
          obtain rfl := Eq.symm (hF 1 (hall 1 (show 1 < 13 by decide)) : x1 = _)
          obtain rfl := Eq.symm (hF 3 (hall 3 (show 3 < 13 by decide)) : x3 = _)
          obtain rfl := Eq.symm (hF 4 (hall 4 (show 4 < 13 by decide)) : x4 = _)
          obtain rfl := Eq.symm (hF 5 (hall 5 (show 5 < 13 by decide)) : x5 = _)
          obtain rfl := Eq.symm (hF 6 (hall 6 (show 6 < 13 by decide)) : x6 = _)
          obtain rfl := Eq.symm (hF 7 (hall 7 (show 7 < 13 by decide)) : x7 = _)
          obtain rfl := Eq.symm (hF 8 (hall 8 (show 8 < 13 by decide)) : x8 = _)
          obtain rfl := Eq.symm (hF 9 (hall 9 (show 9 < 13 by decide)) : x9 = _)
          obtain rfl := Eq.symm (hF 10 (hall 10 (show 10 < 13 by decide)) : x10 = _)
          obtain rfl := Eq.symm (hF 11 (hall 11 (show 11 < 13 by decide)) : x11 = _)
          obtain rfl := Eq.symm (hF 12 (hall 12 (show 12 < 13 by decide)) : x12 = _)
          dsimp only
          have hWr := Lib.hid hW.1
          clear hF hall hW
          go_wp2_with fail
          go_ret
          exact ⟨rfl, hWr.out⟩
end
end Go.Proofs.YtphnakdgpilcmaaGreatDoor
