/- Agree: the reference's first, Asked, Source. -/
import Derived.Test.YtbokdbppjiegjaaDoorAgG
namespace Go.Proofs.YtbokdbppjiegjaaDoor
open Go.RowKit

set_option maxHeartbeats 1000000 in
theorem refFst_any (es : List Ev) (A : Option Addr) (n c k : Nat) (ses : Int) (w : World) (hn : n ≤ 9223372036854775807) (hk : k ≤ n) (H : Evs w A n es) :
    Calls Tryd.prog 22 #[.slice A n c, .int .i64 ses, .int .i64 k] w fun r w' => r = .returned (.int .i64 (opensI (es.take k) ses)) ∧ w = w' := by
  have hlen := Lib.hid H.len
  go_enter Tryd.func22, Tryd.ntmps22
  go_wp2
  go_loop [7] (fun i => ∃ m : Nat, m ≤ k ∧ i = .int .i64 m ∧ Hid (((es.take m).any (ofSes ses)) = false)) (fun i => k - (intOf i).toNat)
  case atStart => exact ⟨0, by omega, rfl, by simp [Hid]⟩
  case round =>
    obtain ⟨m, hm, rfl, hf⟩ := hrel
    by_cases hlt : m < k
    · obtain ⟨b, off, e, rfl, hb, he, hr⟩ := H.row (show m < n by omega)
      obtain ⟨c0, c1, c2, c3⟩ := Ev.flds hr
      have hmn : m < n := by omega
      have hv := show ofSes ses e = ((e.kind == 1 || e.kind == 2) && e.ses == ses) from rfl
      have he := Lib.hid he
      clear hr c2 c3
      cases e1 : (e.ses == ses) <;> cases e2 : (e.kind == 1) <;> cases e3 : (e.kind == 2)
      all_goals
        rw [e1, e2, e3] at hv
        simp only [Bool.or_true, Bool.or_false, Bool.true_or, Bool.and_true, Bool.and_false] at hv
        have hv := Lib.hid hv
        go_wp2
        first
          | (go_ret
             refine ⟨ret_int ?_, rfl⟩
             unfold opensI
             exact (idx_hit (x := e) (by rw [List.getElem?_take, if_pos hlt]; exact he.out) hv.out (by rw [List.take_take, Nat.min_eq_left (by omega)]; exact hf.out)).symm)
          | (go_round
             case rel => exact ⟨m + 1, by omega, by go_num, (by unfold Hid; rw [any_take_succ _ he.out, hf.out, hv.out]; rfl)⟩
             case measure => simp [intOf]; omega)
    · obtain rfl : m = k := by omega
      go_wp2
      go_ret
      exact ⟨ret_int (by unfold opensI; exact (idx_miss hf.out).symm), rfl⟩

set_option maxHeartbeats 1000000 in
theorem refAsked_any (es : List Ev) (A : Option Addr) (n c k : Nat) (x : Ev) (w : World) (hn : n ≤ 9223372036854775807) (H : Evs w A n es) (hx : es[k]? = some x) :
    Calls Tryd.prog 32 #[.slice A n c, .int .i64 k] w fun r w' => r = .returned (.bool (askedX es k x)) ∧ w = w' := by
  have hkl : k < n := by have := (List.getElem?_eq_some_iff.1 hx).1; have := H.len; omega
  have cS := Lib.hid (fun (j : Nat) (h : j < n) => refSafe_any es A n c j w hn h H)
  have cF := refFst_any es A n c k x.ses w hn (by omega) H
  have hcs := opensI_cases (es.take k) x.ses
  have HH := Lib.hid H
  obtain ⟨b, off, x', rfl, hb, hx', hr⟩ := H.row hkl
  obtain rfl : x' = x := by rw [hx] at hx'; injection hx' with h; exact h.symm
  obtain ⟨c0, c1, c2, c3⟩ := Ev.flds hr
  by_cases h5 : x'.kind = 5
  · have hv : askedX es k x' = commitSafe es (opensI (es.take k) x'.ses) := by unfold askedX; rw [if_pos (by simp [h5])]
    rw [h5] at c0
    rw [hv]
    clear hr hx hx' c2 c3 h5 hv
    generalize opensI (es.take k) x'.ses = i at hcs cF
    generalize x'.ses = sx at c1 hcs cF
    have cF := Lib.hid cF
    rcases hcs with rfl | ⟨j, y, rfl, hy, hoy⟩
    · have hv := Lib.hid (show commitSafe es (-1) = false from rfl)
      go_enter Tryd.func32, Tryd.ntmps32
      go_wp2_with (go_at_call 22; refine cF.out.mono ?_; rintro r w1 ⟨rfl, rfl⟩)
      go_ret
      exact ⟨ret_bool hv.out.symm, rfl⟩
    · obtain ⟨hjk, hy⟩ := take_get hy
      obtain ⟨b', off', y', e', hb', hy', hr'⟩ := H.row (show j < n by omega)
      simp only [Option.some.injEq, Addr.mk.injEq] at e'
      obtain ⟨rfl, rfl, _⟩ := e'
      obtain rfl : y' = y := by rw [hy] at hy'; injection hy' with h; exact h.symm
      obtain ⟨d0, _, _, _⟩ := Ev.flds hr'
      have hv : commitSafe es j = (y'.kind == 2 && safe es j) := by unfold commitSafe kindAt; simp [hy]
      have cS := cS.out j (by omega)
      have hjn : j < n := by omega
      clear hr' hy hy' hoy
      generalize safe es j = sf at hv cS
      have cS := Lib.hid cS
      cases e2 : (y'.kind == 2)
      all_goals
        rw [e2] at hv
        have hv := Lib.hid hv
        go_enter Tryd.func32, Tryd.ntmps32
        go_wp2_with (first
          | (go_at_call 22; refine cF.out.mono ?_; rintro r w1 ⟨rfl, rfl⟩)
          | (go_at_call 55; refine cS.out.mono ?_; rintro r w1 ⟨rfl, rfl⟩))
        go_ret
        exact ⟨ret_bool (hv.out.trans (by simp)).symm, rfl⟩
  · have hv := Lib.hid (show askedX es k x' = safe es k by unfold askedX; rw [if_neg (by simp [h5])])
    have k5 : (x'.kind == 5) = false := beq_eq_false_iff_ne.2 h5
    have cS := Lib.hid (cS.out k hkl)
    clear hr hx hx' c1 c2 c3 h5 hcs cF
    go_enter Tryd.func32, Tryd.ntmps32
    go_wp2_with (go_at_call 55; refine cS.out.mono ?_; rintro r w1 ⟨rfl, rfl⟩)
    go_ret
    exact ⟨ret_bool hv.out.symm, rfl⟩

end Go.Proofs.YtbokdbppjiegjaaDoor
