/- Agree: the six rules on the order of events, each a function value. -/
import Derived.Test.YtbokdbppjiegjaaAgI
namespace Go.Proofs.Ytbokdbppjiegjaa
open Go.RowKit

set_option maxHeartbeats 400000 in
theorem contF_any (p : Ev → Bool) (g : Nat) (lb : Array Value) (eg : ∀ args w, (callFunc g args).run Try.prog w = .ok (.enter g args) w)
    (es : List Ev) (A : Option Addr) (n c : Nat) (w : World) (hn : n ≤ 9223372036854775807) (H : Evs w A n es)
    (hp : ∀ (W : World) (e : Ev), e ∈ es → Below w.heap.size w W → Calls Try.prog g (#[.agg e.cells.toArray] ++ lb) W fun r w' => r = .returned (.bool (p e)) ∧ Below W.heap.size W w') :
    Calls Try.prog 103 #[.slice A n c, .func (.func g) #[] lb] w fun r w' => r = .returned (.bool (es.any p)) ∧ Below w.heap.size w w' := by
  have cI := Lib.hid (indexFunc_mem p g lb eg es A n c w hn H hp)
  have hv : decide (0 ≤ idx p es) = es.any p := by
    rcases idx_cases p es with ⟨h, hm⟩ | ⟨k, x, h, hx, hq, _⟩
    · rw [h, hm]; rfl
    · rw [h, any_hit p hx hq]; simp
  have hV := Lib.hid hv
  clear hp eg H hv
  go_enter Try.func103, Try.ntmps103
  go_wp2_with (go_at_call 44; refine cI.out.mono ?_; rintro r w1 ⟨rfl, hb1⟩)
  go_ret
  exact ⟨ret_bool hV.out, hb1⟩
set_option maxHeartbeats 400000 in
theorem none_any (p : Ev → Bool) (g : Nat) (lb : Array Value) (eg : ∀ args w, (callFunc g args).run Try.prog w = .ok (.enter g args) w)
    (es : List Ev) (A : Option Addr) (n c : Nat) (w : World) (hn : n ≤ 9223372036854775807) (H : Evs w A n es)
    (hp : ∀ (W : World) (e : Ev), e ∈ es → Below w.heap.size w W → Calls Try.prog g (#[.agg e.cells.toArray] ++ lb) W fun r w' => r = .returned (.bool (p e)) ∧ Below W.heap.size W w') :
    Calls Try.prog 80 #[.slice A n c, .func (.func g) #[] lb] w fun r w' => r = .returned (.bool (!(es.any p))) ∧ Below w.heap.size w w' := by
  have cI := Lib.hid (contF_any p g lb eg es A n c w hn H hp)
  clear hp eg H
  go_enter Try.func80, Try.ntmps80
  go_wp2_with (go_at_call 103; refine cI.out.mono ?_; rintro r w1 ⟨rfl, hb1⟩)
  go_ret
  exact ⟨rfl, hb1⟩

/-- What the rules' function values hold: the event, the events below, the place of the session's first exchange, 'mine'. -/
structure OC (W : World) (be bb bf bm : Nat) (x : Ev) (A : Option Addr) (n c : Nat) (B : List Ev) : Prop where
  ev : W.rangeAt be 0 x.cells
  sl : W.cell? ⟨bb, 0, none⟩ = some (.slice A n c)
  fi : W.cell? ⟨bf, 0, none⟩ = some (.int .i64 (opensI B x.ses))
  mi : W.cell? ⟨bm, 0, none⟩ = some (.func (.func 77) #[] #[.pointer (some ⟨be, 0, none⟩)])
  le : be < W.heap.size
  lb : bb < W.heap.size
  lf : bf < W.heap.size
  lm : bm < W.heap.size
  hE : Evs W A n B
  hn : n ≤ 1000000
theorem OC.keep {W W' : World} {be bb bf bm : Nat} {x : Ev} {A : Option Addr} {n c : Nat} {B : List Ev} (h : OC W be bb bf bm x A n c B) (hb : Below W.heap.size W W') : OC W' be bb bf bm x A n c B :=
  ⟨rangeAt_keep h.ev hb h.le, (hb.cell (p := ⟨bb, 0, none⟩) h.lb).trans h.sl, (hb.cell (p := ⟨bf, 0, none⟩) h.lf).trans h.fi, (hb.cell (p := ⟨bm, 0, none⟩) h.lm).trans h.mi,
   Nat.lt_of_lt_of_le h.le hb.size, Nat.lt_of_lt_of_le h.lb hb.size, Nat.lt_of_lt_of_le h.lf hb.size, Nat.lt_of_lt_of_le h.lm hb.size, h.hE.keep hb, h.hn⟩
theorem OC.flds {W : World} {be bb bf bm : Nat} {x : Ev} {A : Option Addr} {n c : Nat} {B : List Ev} (h : OC W be bb bf bm x A n c B) :
    W.cell? ⟨be, 0, none⟩ = some (.int .i64 x.kind) ∧ W.cell? ⟨be, 1, none⟩ = some (.int .i64 x.ses) ∧ W.cell? ⟨be, 2, none⟩ = some (.int .i64 x.num) ∧ W.cell? ⟨be, 3, none⟩ = some (.int .i64 x.who) ∧ W.cell? ⟨be, 7, none⟩ = some (.int .i64 x.sid) ∧ W.cell? ⟨be, 8 + 22, none⟩ = some (.int .i64 x.dn.hash) ∧ W.cell? ⟨be, 8 + 23, none⟩ = some (.int .i64 x.dn.session) := by
  have g := h.ev
  refine ⟨?_, ?_, ?_, ?_, ?_, ?_, ?_⟩
  · simpa using g 0 _ x.at0
  · simpa using g 1 _ x.at1
  · simpa using g 2 _ x.at2
  · simpa using g 3 _ x.at3
  · have := g 7 (.int .i64 x.sid) rfl; simpa using this
  · have := g 30 (.int .i64 x.dn.hash) rfl; simpa using this
  · have := g 31 (.int .i64 x.dn.session) rfl; simpa using this

def Mine (w : World) (kind : Int) (be : Nat) (r : Ending) (w' : World) : Prop := ∃ bk, r = .returned (.func (.func 78) #[] #[.pointer (some ⟨bk, 0, none⟩), .pointer (some ⟨be, 0, none⟩)]) ∧ w'.cell? ⟨bk, 0, none⟩ = some (.int .i64 kind) ∧ bk < w'.heap.size ∧ Below w.heap.size w w'
theorem mine_any (kind : Int) (be : Nat) (w : World) :
    Calls Try.prog 77 #[.int .i64 kind, .pointer (some ⟨be, 0, none⟩)] w (Mine w kind be) := by
  go_enter Try.func77, Try.ntmps77
  go_wp2_with fail
  go_ret
  exact ⟨_, rfl, by simp, by simp, ag_below w _⟩
set_option maxHeartbeats 400000 in
theorem mine_fn (e : Ev) (kind ses : Int) (bk be : Nat) (w : World) (h1 : w.cell? ⟨bk, 0, none⟩ = some (.int .i64 kind)) (h2 : w.cell? ⟨be, 1, none⟩ = some (.int .i64 ses)) (l1 : bk < w.heap.size) (l2 : be < w.heap.size) :
    Calls Try.prog 78 #[.agg e.cells.toArray, .pointer (some ⟨bk, 0, none⟩), .pointer (some ⟨be, 0, none⟩)] w fun r w' => r = .returned (.bool (isKS kind ses e)) ∧ Below w.heap.size w w' := by
  have hB := ag_below w (.cells e.cells.toArray 46)
  have c0 := ev_cell e w 46 0 _ e.at0
  have c1 := ev_cell e w 46 1 _ e.at1
  have d1 := (hB.cell (p := ⟨bk, 0, none⟩) l1).trans h1
  have d2 := (hB.cell (p := ⟨be, 1, none⟩) l2).trans h2
  have hv := show isKS kind ses e = (e.kind == kind && e.ses == ses) from rfl
  have hB := Lib.hid hB
  clear h1 h2 l1 l2
  cases e1 : (e.kind == kind)
  all_goals
    rw [e1] at hv
    have hv := Lib.hid hv
    go_enter Try.func78, Try.ntmps78
    go_wp2_with fail
    go_ret
    exact ⟨ret_bool (hv.out.trans (by simp)).symm, hB.out⟩
theorem noneMine {W : World} {be bb bf bm : Nat} {x : Ev} {A : Option Addr} {n c : Nat} {B : List Ev} (h : OC W be bb bf bm x A n c B) (kind : Int) (bk : Nat) (hk : W.cell? ⟨bk, 0, none⟩ = some (.int .i64 kind)) (l : bk < W.heap.size) :
    Calls Try.prog 80 #[.slice A n c, .func (.func 78) #[] #[.pointer (some ⟨bk, 0, none⟩), .pointer (some ⟨be, 0, none⟩)]] W
      fun r w' => r = .returned (.bool (!(B.any (isKS kind x.ses)))) ∧ Below W.heap.size W w' := by
  refine none_any (isKS kind x.ses) _ _ (by intro args w; kernel_rfl) B A n c _ (by have := h.hn; omega) h.hE (fun W1 e _ hW => ?_)
  exact mine_fn e kind x.ses bk be W1 ((hW.cell (p := ⟨bk, 0, none⟩) l).trans hk) ((hW.cell (p := ⟨be, 1, none⟩) h.le).trans h.flds.2.1) (Nat.lt_of_lt_of_le l hW.size) (Nat.lt_of_lt_of_le h.le hW.size)

set_option maxHeartbeats 1000000 in
theorem rule1_any {W : World} {be bb bf bm : Nat} {x : Ev} {A : Option Addr} {n c : Nat} {B : List Ev} (h : OC W be bb bf bm x A n c B) :
    Calls Try.prog 79 #[.pointer (some ⟨be, 0, none⟩), .pointer (some ⟨bb, 0, none⟩), .pointer (some ⟨bm, 0, none⟩)] W fun r w' => r = .returned (.bool (b1 B x)) ∧ Below W.heap.size W w' := by
  have hv := show b1 B x = (x.kind == 7 || !(B.any (isKS 6 x.ses))) from rfl
  have cN := Lib.hid (fun W' (hb : Below W.heap.size W W') bk hk l => noneMine (h.keep hb) 6 bk hk l)
  have hS := Lib.hid (fun W' (hb : Below W.heap.size W W') => (⟨(h.keep hb).flds.1, (h.keep hb).sl, (h.keep hb).mi⟩ : W'.cell? ⟨be, 0, none⟩ = some (.int .i64 x.kind) ∧ W'.cell? ⟨bb, 0, none⟩ = some (.slice A n c) ∧ W'.cell? ⟨bm, 0, none⟩ = some (.func (.func 77) #[] #[.pointer (some ⟨be, 0, none⟩)])))
  generalize B.any (isKS 6 x.ses) = q at cN hv
  have hB0 := Lib.hid (show Below W.heap.size W W.drew from drewN_below 1)
  cases e1 : (x.kind == 7) with
  | true =>
    rw [e1] at hv
    have hv := Lib.hid hv
    obtain ⟨s1, s2, s3⟩ := hS.out W (Below.refl _ _)
    go_enter Try.func79, Try.ntmps79
    go_wp2_with fail
    go_quiet (fail)
    go_wp2_with fail
    go_ret
    exact ⟨ret_bool (hv.out.trans (by simp)).symm, drewN_below _⟩
  | false =>
    rw [e1] at hv
    have hv := Lib.hid hv
    have cM := Lib.hid (fun W' => mine_any 6 be W')
    clear h
    go_enter Try.func79, Try.ntmps79
    go_wp2_with fail
    go_region_held3 (fun W' => W'.cell? ⟨be, 0, none⟩ = some (.int .i64 x.kind) ∧ W'.cell? ⟨bb, 0, none⟩ = some (.slice A n c) ∧ W'.cell? ⟨bm, 0, none⟩ = some (.func (.func 77) #[] #[.pointer (some ⟨be, 0, none⟩)]))
      (first | exact hS.out _ hB0.out | exact hS.out _ hB5.out | exact hS.out _ hB6.out)
      (first
        | (go_at_call 77; (with_reducible refine (cM.out _).mono ?_); rintro r w5 ⟨bk, rfl, hk5, l5, hb5⟩; have hB5 := Lib.hid (hB0.out.trans (hb5.mono hB0.out.size)); clear hb5)
        | (go_at_call 80; (with_reducible refine (cN.out _ hB5.out bk hk5 l5).mono ?_); rintro r w6 ⟨rfl, hb6⟩; have hB6 := Lib.hid (hB5.out.trans (hb6.mono hB5.out.size)); clear hb6))
    all_goals
      go_wp2_with fail
      go_ret
      exact ⟨ret_bool (hv.out.trans (by simp)).symm, hB6.out⟩
end Go.Proofs.Ytbokdbppjiegjaa
