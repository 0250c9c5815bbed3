/- Agree: Asked. -/
import Derived.Test.YtbokdbppjiegjaaAgF
namespace Go.Proofs.Ytbokdbppjiegjaa
open Go.RowKit

theorem opensI_cases (es : List Ev) (ses : Int) : opensI es ses = -1 ∨ ∃ (s : Nat) (y : Ev), opensI es ses = s ∧ es[s]? = some y ∧ ofSes ses y = true := by
  unfold opensI
  rcases idx_cases (ofSes ses) es with ⟨h, _⟩ | ⟨s, y, h1, h2, h3, _⟩
  · exact .inl h
  · exact .inr ⟨s, y, h1, h2, h3⟩
theorem take_get {α : Type} {l : List α} {k j : Nat} {x : α} (h : (l.take k)[j]? = some x) : j < k ∧ l[j]? = some x := by
  rw [List.getElem?_take] at h
  split at h
  · exact ⟨by assumption, h⟩
  · cases h

set_option maxHeartbeats 1000000 in
theorem asked_not5 (es : List Ev) (A : Option Addr) (n c k : Nat) (x : Ev) (w : World) (hn : n ≤ 9223372036854775807) (H : Evs w A n es) (hx : es[k]? = some x) (h5 : x.kind ≠ 5) :
    Calls Try.prog 20 #[.slice A n c, .int .i64 k] w fun r w' => r = .returned (.bool (askedX es k x)) ∧ Below w.heap.size w w' := by
  have hkl : k < n := by have := (List.getElem?_eq_some_iff.1 hx).1; have := H.len; omega
  have hv := Lib.hid (show askedX es k x = safe es k by unfold askedX; rw [if_neg (by simp [h5])])
  have cS := Lib.hid (fun W (h : Evs W A n es) => safe_any es A n c k W hn h)
  have HH := Lib.hid H
  obtain ⟨b, off, x', rfl, hb, hx', hr⟩ := H.row hkl
  obtain rfl : x' = x := by rw [hx] at hx'; injection hx' with h; exact h.symm
  obtain ⟨c0, c1, c2, c3⟩ := Ev.flds hr
  have k5 : (x'.kind == 5) = false := beq_eq_false_iff_ne.2 h5
  clear hr hx hx' c1 c2 c3 h5
  go_enter Try.func20, Try.ntmps20
  go_wp2_with (go_at_call 39; refine (cS.out _ HH.out).mono ?_; rintro r w1 ⟨rfl, hb1⟩)
  go_ret
  exact ⟨ret_bool hv.out.symm, hb1⟩

set_option maxHeartbeats 2000000 in
theorem asked_5 (es : List Ev) (A : Option Addr) (n c k : Nat) (x : Ev) (w : World) (hc : n ≤ c) (hn : c ≤ 9223372036854775807) (H : Evs w A n es) (hx : es[k]? = some x) (h5 : x.kind = 5) :
    Calls Try.prog 20 #[.slice A n c, .int .i64 k] w fun r w' => r = .returned (.bool (askedX es k x)) ∧ Below w.heap.size w w' := by
  have hkl : k < n := by have := (List.getElem?_eq_some_iff.1 hx).1; have := H.len; omega
  have hv : askedX es k x = commitSafe es (opensI (es.take k) x.ses) := by unfold askedX; rw [if_pos (by simp [h5])]
  have hcs := opensI_cases (es.take k) x.ses
  have HH := Lib.hid H
  obtain ⟨b, off, x', rfl, hb, hx', hr⟩ := H.row hkl
  obtain rfl : x' = x := by rw [hx] at hx'; injection hx' with h; exact h.symm
  have cO := Lib.hid (fun W (h : Evs W (some ⟨b, off, none⟩) n es) => opens_any (es.take k) (some ⟨b, off, none⟩) k c x'.ses W (by omega) (h.take_ (by omega)))
  have cS := Lib.hid (fun (j : Nat) W (h : Evs W (some ⟨b, off, none⟩) n es) => safe_any es (some ⟨b, off, none⟩) n c j W (by omega) h)
  obtain ⟨c0, c1, c2, c3⟩ := Ev.flds hr
  rw [h5] at c0
  clear hr hx hx' c2 c3 h5
  generalize hO : opensI (es.take k) x'.ses = i at hv hcs cO
  clear hO
  have i1 : (0 : Int) ≤ (k : Int) := by omega
  have i2 : (k : Int) < (n : Int) := by omega
  have i3 : (k : Int) ≤ (c : Int) := by omega
  rw [hv]
  clear hv
  generalize x'.ses = sx at c1 hcs cO
  have hS : ∀ W, Below w.heap.size w W → W.cell? ⟨b, off + k * 34 + 1, none⟩ = some (.int .i64 sx) := fun W hW => (hW.cell (p := ⟨b, off + k * 34 + 1, none⟩) hb).trans c1
  have hS := Lib.hid hS
  rcases hcs with rfl | ⟨j, y, rfl, hy, hoy⟩
  · have hv := Lib.hid (show commitSafe es (-1) = false from rfl)
    go_enter Try.func20, Try.ntmps20
    go_wp2_with fail
    have hB0 := Lib.hid (show Below w.heap.size w w.drew from drewN_below 1)
    go_region_held3 (fun W => W.cell? ⟨b, off + k * 34 + 1, none⟩ = some (.int .i64 sx))
      (first | exact hS.out _ hB0.out | exact hS.out _ hB5.out)
      (first
        | (go_at_call 47; (with_reducible refine (cO.out _ (HH.out.keep hB0.out)).mono ?_); rintro r w5 ⟨rfl, hb5⟩; have hB5 := Lib.hid (Below.trans hB0.out (hb5.mono hB0.out.size)); clear hb5))
    all_goals
      go_wp2_with fail
      go_ret
      exact ⟨ret_bool hv.out.symm, hB5.out⟩
  · obtain ⟨hjk, hy⟩ := take_get hy
    obtain ⟨b', off', y', e', hb', hy', hr'⟩ := H.row (show j < n by omega)
    simp only [Option.some.injEq, Addr.mk.injEq] at e'
    obtain ⟨rfl, rfl, _⟩ := e'
    obtain rfl : y' = y := by rw [hy] at hy'; injection hy' with h; exact h.symm
    obtain ⟨d0, _, _, _⟩ := Ev.flds hr'
    have hv : commitSafe es j = (y'.kind == 2 && safe es j) := by unfold commitSafe kindAt; simp [hy]
    have cS := Lib.hid (fun W (h : Below w.heap.size w W) => cS.out j W (HH.out.keep h))
    have d0' := Lib.hid (fun W (h : Below w.heap.size w W) => (h.cell (p := ⟨b, off + j * 34, none⟩) hb).trans d0)
    clear hr' hy hy' hoy d0
    have j1 : (0 : Int) ≤ (j : Int) := by omega
    have j2 : (j : Int) < (n : Int) := by omega
    generalize safe es j = sf at hv cS
    cases e2 : (y'.kind == 2)
    all_goals
      rw [e2] at hv
      have hv := Lib.hid hv
      go_enter Try.func20, Try.ntmps20
      go_wp2_with fail
      have hB0 := Lib.hid (show Below w.heap.size w w.drew from drewN_below 1)
      go_region_held3 (fun W => W.cell? ⟨b, off + k * 34 + 1, none⟩ = some (.int .i64 sx))
        (first | exact hS.out _ hB0.out | exact hS.out _ hB5.out)
        (first
          | (go_at_call 47; (with_reducible refine (cO.out _ (HH.out.keep hB0.out)).mono ?_); rintro r w5 ⟨rfl, hb5⟩; have hB5 := Lib.hid (Below.trans hB0.out (hb5.mono hB0.out.size)); clear hb5))
      all_goals
        have dd := d0'.out _ hB5.out
        go_wp2_with (go_at_call 39; refine (cS.out _ hB5.out).mono ?_; rintro r w6 ⟨rfl, hb6⟩)
        go_ret
        first
          | exact ⟨ret_bool (hv.out.trans (by simp)).symm, hB5.out⟩
          | exact ⟨ret_bool (hv.out.trans (by simp)).symm, hB5.out.trans (hb6.mono hB5.out.size)⟩
theorem asked_any (es : List Ev) (A : Option Addr) (n c k : Nat) (x : Ev) (w : World) (hc : n ≤ c) (hn : c ≤ 9223372036854775807) (H : Evs w A n es) (hx : es[k]? = some x) :
    Calls Try.prog 20 #[.slice A n c, .int .i64 k] w fun r w' => r = .returned (.bool (askedX es k x)) ∧ Below w.heap.size w w' := by
  by_cases h5 : x.kind = 5
  · exact asked_5 es A n c k x w hc hn H hx h5
  · exact asked_not5 es A n c k x w (by omega) H hx h5
theorem asked_out (A : Option Addr) (n c : Nat) (at_ : Int) (w : World) (hn : n ≤ 9223372036854775807) (h : at_ < 0 ∨ (0 ≤ at_ ∧ (n : Int) ≤ at_)) :
    Calls Try.prog 20 #[.slice A n c, .int .i64 at_] w fun r w' => r = .returned (.bool false) ∧ w = w' := by
  rcases h with h | ⟨h0, h⟩
  all_goals
    go_enter Try.func20, Try.ntmps20
    go_wp2_with fail
    go_ret
    exact ⟨rfl, rfl⟩
end Go.Proofs.Ytbokdbppjiegjaa
