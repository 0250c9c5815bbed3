/- Agree: the reference's count and sources. -/
import Derived.Test.YtbokdbppjiegjaaDoorAgS
import Derived.Test.YtbokdbppjiegjaaDoorAgN
namespace Go.Proofs.YtbokdbppjiegjaaDoor
open Go.RowKit

theorem countP_succ_of {α : Type} (p : α → Bool) {l : List α} {k : Nat} {x : α} (h : l[k]? = some x) : (l.take (k + 1)).countP p = (l.take k).countP p + (if p x then 1 else 0) := by
  rw [take_succ_of h, List.countP_append]; simp [List.countP_cons]
set_option maxHeartbeats 1000000 in
theorem refCount_any (es : List Ev) (A : Option Addr) (n c k : Nat) (kind ses : Int) (w : World) (hn : n ≤ 1000000) (hk : k ≤ n) (H : Evs w A n es) :
    Calls Tryd.prog 20 #[.slice A n c, .int .i64 kind, .int .i64 ses, .int .i64 k] w fun r w' => r = .returned (.int .i64 ((es.take k).countP (isKS kind ses) : Nat)) ∧ w = w' := by
  have hlen := Lib.hid H.len
  go_enter Tryd.func20, Tryd.ntmps20
  go_wp2
  go_loop [9, 10] (fun q i => ∃ m : Nat, ∃ t : Nat, m ≤ k ∧ t ≤ m ∧ i = .int .i64 m ∧ q = .int .i64 t ∧ Hid (t = (es.take m).countP (isKS kind ses))) (fun _ i => k - (intOf i).toNat)
  case atStart => exact ⟨0, 0, by omega, by omega, rfl, rfl, by simp [Hid]⟩
  case round =>
    obtain ⟨m, t, hm, ht, rfl, rfl, hf⟩ := hrel
    by_cases hlt : m < k
    · obtain ⟨b, off, e, rfl, hb, he, hr⟩ := H.row (show m < n by omega)
      obtain ⟨c0, c1, _, _⟩ := Ev.flds hr
      have hmn : m < n := by omega
      have hstep := countP_succ_of (isKS kind ses) he
      have hv := show isKS kind ses e = (e.kind == kind && e.ses == ses) from rfl
      clear hr he
      cases e1 : (e.kind == kind) <;> cases e2 : (e.ses == ses)
      all_goals
        rw [hv, e1, e2] at hstep
        have hst := Lib.hid hstep
        clear hstep hv
        go_wp2
        go_round
        case rel =>
          first
            | exact ⟨m + 1, t, by omega, by omega, by go_num, rfl, by unfold Hid; rw [hst.out, hf.out]; rfl⟩
            | exact ⟨m + 1, t + 1, by omega, by omega, by go_num, by go_num, by unfold Hid; rw [hst.out, hf.out]; rfl⟩
        case measure => simp [intOf]; omega
    · obtain rfl : m = k := by omega
      go_wp2
      go_ret
      exact ⟨ret_int (by rw [hf.out]), rfl⟩
set_option maxRecDepth 100000 in
set_option maxHeartbeats 8000000 in
theorem refSources_any (es : List Ev) (hok : ∀ e ∈ es, allOk evDs e.cells) (A : Option Addr) (n c k : Nat) (x : Ev) (w : World) (hn : n ≤ 1000000) (H : Evs w A n es) (hx : es[k]? = some x) :
    Calls Tryd.prog 23 #[.slice A n c, .int .i64 k] w fun r w' => r = .returned (.string (wordN (ruleS es k x))) ∧ Below w.heap.size w w' := by
  have hkl : k < n := by have := (List.getElem?_eq_some_iff.1 hx).1; have := H.len; omega
  have cA := refAsked_any es A n c k x w (by omega) H hx
  have cS := Lib.hid (refSource_any es hok A n c k x w (by omega) H hx)
  have hsc := srcI_cases es k x
  have hv : ruleS es k x = if askedX es k x then (if srcI es k x < 0 then srcWord x.kind else if twiceB es k x (srcI es k x) then 10 else 0) else 0 := rfl
  have HH := Lib.hid H
  have hok := Lib.hid hok
  obtain ⟨b, off, x', rfl, hb, hx', hr⟩ := H.row hkl
  obtain rfl : x' = x := by rw [hx] at hx'; injection hx' with h; exact h.symm
  obtain ⟨c0, _, _, _⟩ := Ev.flds hr
  have c0 := Lib.hid c0
  clear hr hx hx'
  generalize askedX es k x' = q at cA hv
  have cA := Lib.hid cA
  cases q with
  | false =>
    have hv := Lib.hid hv
    go_enter Tryd.func23, Tryd.ntmps23
    go_wp2_with (go_at_call 32; refine cA.out.mono ?_; rintro r w5 ⟨rfl, rfl⟩)
    go_ret
    exact ⟨(congrArg (fun i => Ending.returned (.string (wordN i))) hv.out).symm, Below.refl _ _⟩
  | true =>
    rw [if_pos rfl] at hv
    rcases hsc with hs | ⟨s, hs, _, _⟩
    · rw [hs, if_pos (by omega)] at hv
      rw [hs] at cS
      have hp : (x'.kind = 2 ∨ x'.kind = 4) ∨ (x'.kind ≠ 2 ∧ x'.kind ≠ 4) := by omega
      have hcc := Lib.hid (fun W (h : Below w.heap.size w W) => (h.cell (p := ⟨b, off + k * 34, none⟩) hb).trans c0.out)
      rcases hp with (h2 | h4) | ⟨h2, h4⟩
      · rw [h2] at hcc hv
        have hv := Lib.hid hv
        clear h2 hs
        go_enter Tryd.func23, Tryd.ntmps23
        go_wp2_with (first
          | (go_at_call 32; refine cA.out.mono ?_; rintro r w5 ⟨rfl, rfl⟩)
          | (go_at_call 33; refine cS.out.mono ?_; rintro r w6 ⟨rfl, hb6⟩; have d0 := hcc.out w6 hb6))
        go_ret
        exact ⟨(congrArg (fun i => Ending.returned (.string (wordN i))) hv.out).symm, hb6⟩
      · rw [h4] at hcc hv
        have hv := Lib.hid hv
        clear h4 hs
        go_enter Tryd.func23, Tryd.ntmps23
        go_wp2_with (first
          | (go_at_call 32; refine cA.out.mono ?_; rintro r w5 ⟨rfl, rfl⟩)
          | (go_at_call 33; refine cS.out.mono ?_; rintro r w6 ⟨rfl, hb6⟩; have d0 := hcc.out w6 hb6))
        go_ret
        exact ⟨(congrArg (fun i => Ending.returned (.string (wordN i))) hv.out).symm, hb6⟩
      · have k2 : (x'.kind == 2) = false := beq_eq_false_iff_ne.2 h2
        have k4 : (x'.kind == 4) = false := beq_eq_false_iff_ne.2 h4
        have hv := Lib.hid (hv.trans (show srcWord x'.kind = 9 by unfold srcWord; rw [k2, k4]; rfl))
        clear h2 h4 hs
        go_enter Tryd.func23, Tryd.ntmps23
        go_wp2_with (first
          | (go_at_call 32; refine cA.out.mono ?_; rintro r w5 ⟨rfl, rfl⟩)
          | (go_at_call 33; refine cS.out.mono ?_; rintro r w6 ⟨rfl, hb6⟩; have d0 := hcc.out w6 hb6))
        go_ret
        exact ⟨(congrArg (fun i => Ending.returned (.string (wordN i))) hv.out).symm, hb6⟩
    · rw [hs, if_neg (by omega)] at hv
      rw [hs] at cS
      have hv := Lib.hid hv
      clear hs
      go_enter Tryd.func23, Tryd.ntmps23
      go_wp2_with (first
        | (go_at_call 32; refine cA.out.mono ?_; rintro r w5 ⟨rfl, rfl⟩)
        | (go_at_call 33; refine cS.out.mono ?_; rintro r w6 ⟨rfl, hb6⟩; have hB6 := Lib.hid hb6; clear hb6))
      go_loopw [6] (fun i wr => ∃ m : Nat, m ≤ k ∧ i = .int .i64 m ∧ Hid ((List.range m).any (twiceAt es x' s) = false) ∧ Hid (Below w.heap.size w wr)) (fun i _ => k - (intOf i).toNat)
      case atStart => exact ⟨0, by omega, rfl, rfl, hB6⟩
      case round =>
        obtain ⟨m, hm, rfl, hf, hB⟩ := hrel
        by_cases hlt : m < k
        · obtain ⟨b', off', y, e', hb', hy, hr⟩ := H.row (show m < n by omega)
          simp only [Option.some.injEq, Addr.mk.injEq] at e'
          obtain ⟨rfl, rfl, _⟩ := e'
          obtain ⟨d0, _, _, _⟩ := Ev.flds hr
          have hvt : twiceAt es x' s m = (y.kind == x'.kind && askedX es m y && srcI es m y == (s : Int)) := by unfold twiceAt; rw [hy]
          have cAm := Lib.hid (fun W (h : Below w.heap.size w W) => refAsked_any es (some ⟨b, off, none⟩) n c m y W (by omega) (HH.out.keep h) hy)
          have cSm := Lib.hid (fun W (h : Below w.heap.size w W) => refSource_any es hok.out (some ⟨b, off, none⟩) n c m y W (by omega) (HH.out.keep h) hy)
          have hstep := range_any_succ (twiceAt es x' s) m
          have hhit := Lib.hid (fun h => range_any_hit (p := twiceAt es x' s) hlt h)
          have hmn : m < n := by omega
          have i1 : (0 : Int) ≤ (m : Int) := by omega
          have i2 : (m : Int) < (n : Int) := by omega
          have i3 : (0 : Int) ≤ (k : Int) := by omega
          have i4 : (k : Int) < (n : Int) := by omega
          have hS := Lib.hid (fun W (h : Below w.heap.size w W) => (⟨(h.cell (p := ⟨b, off + m * 34, none⟩) hb).trans d0, (h.cell (p := ⟨b, off + k * 34, none⟩) hb).trans c0.out⟩ : W.cell? ⟨b, off + m * 34, none⟩ = some (.int .i64 y.kind) ∧ W.cell? ⟨b, off + k * 34, none⟩ = some (.int .i64 x'.kind)))
          clear hr d0 hy
          generalize askedX es m y = q2 at hvt cAm
          generalize srcI es m y = z at hvt cSm
          generalize x'.kind = kx at hvt hS
          generalize y.kind = ky at hvt hS
          have hB0 := Lib.hid (hB.out.trans (show Below w.heap.size wr wr.drew from Below.mono (drewN_below 1) hB.out.size))
          obtain ⟨s1, s2⟩ := hS.out wr hB.out
          by_cases hk : ky = kx
          · subst hk
            rw [beq_self_eq_true, Bool.true_and] at hvt
            cases q2 with
            | false =>
              rw [Bool.false_and] at hvt
              rw [hvt] at hstep
              have hst := Lib.hid hstep
              have cQ := Lib.hid (fun q => cAm.out (wr.drewN q) (hB.out.trans (Below.mono (drewN_below q) hB.out.size)))
              clear hvt hhit hstep
              go_wp2_with fail
              go_quiet ((go_at_call 32; exact Calls.quiet_of_same ((cQ.out _).mono (fun e w' h => ⟨h.1, h.2.symm⟩))))
              go_wp2_with fail
              go_roundw
              case rel => exact ⟨m + 1, by omega, by go_num, (by unfold Hid; rw [hst.out, hf.out]; rfl), hB.out.trans (Below.mono (drewN_below _) hB.out.size)⟩
              case measure => simp [intOf]; omega
            | true =>
              rw [Bool.true_and] at hvt
              cases hz : (z == (s : Int))
              all_goals
                rw [hz] at hvt
                rw [hvt] at hstep
                have hvt := Lib.hid hvt
                have hst := Lib.hid hstep
                clear hstep
                go_wp2_with fail
                go_region_held3 (fun W => W.cell? ⟨b, off + m * 34, none⟩ = some (.int .i64 ky) ∧ W.cell? ⟨b, off + k * 34, none⟩ = some (.int .i64 ky))
                  (first | exact hS.out _ hB0.out | exact hS.out _ hB7.out)
                  (first
                    | (go_at_call 32; (with_reducible refine (cAm.out _ hB0.out).mono ?_); rintro r w7 ⟨rfl, rfl⟩)
                    | (go_at_call 33; (with_reducible refine (cSm.out _ hB0.out).mono ?_); rintro r w7 ⟨rfl, hb7⟩; have hB7 := Lib.hid (hB0.out.trans (hb7.mono hB0.out.size)); clear hb7))
                all_goals
                  go_wp2_with fail
                  first
                    | (go_ret
                       exact ⟨(congrArg (fun i => Ending.returned (.string (wordN i))) (hv.out.trans (by rw [show twiceB es k x' (s : Int) = true from hhit.out hvt.out]; rfl : (if twiceB es k x' (s : Int) = true then (10 : Nat) else 0) = 10))).symm, hB7.out⟩)
                    | (go_roundw
                       case rel => exact ⟨m + 1, by omega, by go_num, (by unfold Hid; rw [hst.out, hf.out]; rfl), hB7⟩
                       case measure => simp [intOf]; omega)
          · have k1 : (ky == kx) = false := beq_eq_false_iff_ne.2 hk
            rw [hvt, k1] at hstep
            have hst := Lib.hid hstep
            clear hvt hhit hk hstep
            go_wp2_with fail
            go_quiet (fail)
            go_wp2_with fail
            go_roundw
            case rel => exact ⟨m + 1, by omega, by go_num, (by unfold Hid; rw [hst.out, hf.out]; rfl), hB.out.trans (Below.mono (drewN_below _) hB.out.size)⟩
            case measure => simp [intOf]; omega
        · obtain rfl : m = k := by omega
          go_wp2
          go_ret
          exact ⟨(congrArg (fun i => Ending.returned (.string (wordN i))) (hv.out.trans (by rw [show twiceB es m x' (s : Int) = false from hf.out]; rfl : (if twiceB es m x' (s : Int) = true then (10 : Nat) else 0) = 0))).symm, hB.out⟩
end Go.Proofs.YtbokdbppjiegjaaDoor
