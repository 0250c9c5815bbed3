/- Agree: twice, and the word of the first rule that does not hold of an event. -/
import Derived.Test.YtbokdbppjiegjaaAgM
namespace Go.Proofs.Ytbokdbppjiegjaa
open Go.RowKit

def srcWord (kind : Int) : Nat := if kind == 2 then 7 else if kind == 4 then 8 else 9
theorem word_any (kind : Int) (w : World) :
    Calls Try.prog 64 #[.int .i64 kind] w fun r w' => r = .returned (.string (wordN (srcWord kind))) ∧ w = w' := by
  by_cases h2 : kind = 2
  · subst h2
    go_enter Try.func64, Try.ntmps64
    go_wp2_with fail
    go_ret
    exact ⟨rfl, rfl⟩
  by_cases h4 : kind = 4
  · subst h4
    go_enter Try.func64, Try.ntmps64
    go_wp2_with fail
    go_ret
    exact ⟨rfl, rfl⟩
  have hv := Lib.hid (show srcWord kind = 9 by unfold srcWord; simp [h2, h4])
  have k2 : (kind == 2) = false := beq_eq_false_iff_ne.2 h2
  have k4 : (kind == 4) = false := beq_eq_false_iff_ne.2 h4
  clear h2 h4
  go_enter Try.func64, Try.ntmps64
  go_wp2_with fail
  go_ret
  exact ⟨by rw [hv.out]; rfl, rfl⟩

theorem range_any_succ (p : Nat → Bool) (i : Nat) : (List.range (i + 1)).any p = ((List.range i).any p || p i) := by rw [List.range_succ, List.any_append]; simp
theorem range_any_hit {p : Nat → Bool} {i k : Nat} (h : i < k) (hp : p i = true) : (List.range k).any p = true := by
  rw [List.any_eq_true]
  exact ⟨i, List.mem_range.2 h, hp⟩
set_option maxRecDepth 100000 in
set_option maxHeartbeats 4000000 in
theorem twice_any (es : List Ev) (hok : ∀ e ∈ es, allOk evDs e.cells) (A : Option Addr) (n c k s : Nat) (x : Ev) (w : World) (hc : n ≤ c) (hn : c ≤ 9223372036854775807) (H : Evs w A n es) (hx : es[k]? = some x) :
    Calls Try.prog 65 #[.slice A n c, .int .i64 k, .int .i64 s] w fun r w' => r = .returned (.bool (twiceB es k x s)) ∧ Below w.heap.size w w' := by
  have hkl : k < n := by have := (List.getElem?_eq_some_iff.1 hx).1; have := H.len; omega
  obtain ⟨b, off, x', rfl, hb, hx', hr⟩ := H.row hkl
  obtain rfl : x' = x := by rw [hx] at hx'; injection hx' with h; exact h.symm
  obtain ⟨c0, _, _, _⟩ := Ev.flds hr
  have c0 := Lib.hid c0
  have HH := Lib.hid H
  have hok := Lib.hid hok
  clear hr hx hx'
  go_enter Try.func65, Try.ntmps65
  go_wp2
  go_loopw [7, 8, 9, 11, 31] (fun _ _ _ i _ wr => ∃ m : Nat, m ≤ k ∧ i = .int .i64 m ∧ Hid ((List.range m).any (twiceAt es x' s) = false) ∧ Hid (Below w.heap.size w wr)) (fun _ _ _ i _ _ => k - (intOf i).toNat)
  case atStart => exact ⟨0, by omega, rfl, rfl, Below.refl _ _⟩
  case round =>
    obtain ⟨m, hm, rfl, hf, hB⟩ := hrel
    by_cases hlt : m < k
    · obtain ⟨b', off', y, e', hb', hy, hr⟩ := H.row (show m < n by omega)
      simp only [Option.some.injEq, Addr.mk.injEq] at e'
      obtain ⟨rfl, rfl, _⟩ := e'
      obtain ⟨d0, _, _, _⟩ := Ev.flds hr
      have hv : twiceAt es x' s m = (y.kind == x'.kind && askedX es m y && srcI es m y == (s : Int)) := by unfold twiceAt; rw [hy]
      have cA := Lib.hid (fun W (h : Below w.heap.size w W) => asked_any es (some ⟨b, off, none⟩) n c m y W hc hn (HH.out.keep h) hy)
      have cS := Lib.hid (fun W (h : Below w.heap.size w W) => source_any es hok.out (some ⟨b, off, none⟩) n c m y W hc hn (HH.out.keep h) hy)
      have hsc := srcI_cases es m y
      have hstep := range_any_succ (twiceAt es x' s) m
      have hhit := Lib.hid (fun h => range_any_hit (p := twiceAt es x' s) hlt h)
      have hmn : m < n := by omega
      have i1 : (0 : Int) ≤ (m : Int) := by omega
      have i2 : (m : Int) < (n : Int) := by omega
      have i3 : (0 : Int) ≤ (k : Int) := by omega
      have i4 : (k : Int) < (n : Int) := by omega
      have hS := Lib.hid (fun W (h : Below w.heap.size w W) => (⟨(h.cell (p := ⟨b, off + m * 34, none⟩) hb).trans d0, (h.cell (p := ⟨b, off + k * 34, none⟩) hb).trans c0.out⟩ : W.cell? ⟨b, off + m * 34, none⟩ = some (.int .i64 y.kind) ∧ W.cell? ⟨b, off + k * 34, none⟩ = some (.int .i64 x'.kind)))
      clear hr d0 hy
      generalize askedX es m y = q at hv cA
      generalize srcI es m y = z at hv cS hsc
      generalize x'.kind = kx at hv hS
      generalize y.kind = ky at hv hS
      have hB0 := Lib.hid (hB.out.trans (show Below w.heap.size wr wr.drew from Below.mono (drewN_below 1) hB.out.size))
      by_cases hk : ky = kx
      · subst hk
        rw [beq_self_eq_true, Bool.true_and] at hv
        cases q with
        | false =>
          rw [Bool.false_and] at hv
          rw [hv] at hstep
          have hstep := Lib.hid hstep
          clear hv hhit
          go_wp2_with fail
          go_region_held3 (fun W => W.cell? ⟨b, off + m * 34, none⟩ = some (.int .i64 ky) ∧ W.cell? ⟨b, off + k * 34, none⟩ = some (.int .i64 ky))
            (first | exact hS.out _ hB0.out | exact hS.out _ hB5.out)
            (first
              | (go_at_call 20; (with_reducible refine (cA.out _ hB0.out).mono ?_); rintro r w5 ⟨rfl, hb5⟩; have hB5 := Lib.hid (hB0.out.trans (hb5.mono hB0.out.size)); clear hb5))
          all_goals
            go_wp2_with fail
            go_roundw
            case rel => exact ⟨m + 1, by omega, by go_num, (by unfold Hid; rw [hstep.out, hf.out]; rfl), hB5⟩
            case measure => simp [intOf]; omega
        | true =>
          rw [Bool.true_and] at hv
          have hz : (z = -1 ∨ ∃ t : Nat, z = t ∧ t ≠ s) ∨ z = s := by
            rcases hsc with h | ⟨t, h, _, _⟩
            · exact .inl (.inl h)
            · by_cases ht : t = s
              · exact .inr (by rw [h, ht])
              · exact .inl (.inr ⟨t, h, ht⟩)
          clear hsc
          rcases hz with hz | rfl
          · have hzf : (z == (s : Int)) = false := by rcases hz with h | ⟨t, h, ht⟩ <;> (rw [h, beq_eq_false_iff_ne]; omega)
            rw [hv, hzf] at hstep
            have hstep := Lib.hid hstep
            clear hv hhit hzf
            rcases hz with rfl | ⟨t, rfl, ht⟩
            · go_wp2_with fail
              go_region_held3 (fun W => W.cell? ⟨b, off + m * 34, none⟩ = some (.int .i64 ky) ∧ W.cell? ⟨b, off + k * 34, none⟩ = some (.int .i64 ky))
                (first | exact hS.out _ hB0.out | exact hS.out _ hB5.out)
                (first
                  | (go_at_call 20; (with_reducible refine (cA.out _ hB0.out).mono ?_); rintro r w5 ⟨rfl, hb5⟩; have hB5 := Lib.hid (hB0.out.trans (hb5.mono hB0.out.size)); clear hb5))
              all_goals
                go_wp2_with (go_at_call 19; (with_reducible refine (cS.out _ hB5.out).mono ?_); rintro r w6 ⟨rfl, hb6⟩; simp only [srcV])
                go_roundw
                case rel => exact ⟨m + 1, by omega, by go_num, (by unfold Hid; rw [hstep.out, hf.out]; rfl), hB5.out.trans (hb6.mono hB5.out.size)⟩
                case measure => simp [intOf]; omega
            · have ht1 : ((t : Int) == (s : Int)) = false := beq_eq_false_iff_ne.2 (by omega)
              have hV := Lib.hid (show srcV (t : Int) = .tuple #[.int .i64 t, .bool true] by unfold srcV; rw [if_neg (by omega), decide_eq_true (by omega)])
              go_wp2_with fail
              go_region_held3 (fun W => W.cell? ⟨b, off + m * 34, none⟩ = some (.int .i64 ky) ∧ W.cell? ⟨b, off + k * 34, none⟩ = some (.int .i64 ky))
                (first | exact hS.out _ hB0.out | exact hS.out _ hB5.out)
                (first
                  | (go_at_call 20; (with_reducible refine (cA.out _ hB0.out).mono ?_); rintro r w5 ⟨rfl, hb5⟩; have hB5 := Lib.hid (hB0.out.trans (hb5.mono hB0.out.size)); clear hb5))
              all_goals
                go_wp2_with (go_at_call 19; (with_reducible refine (cS.out _ hB5.out).mono ?_); rintro r w6 ⟨rfl, hb6⟩; rw [hV.out])
                go_roundw
                case rel => exact ⟨m + 1, by omega, by go_num, (by unfold Hid; rw [hstep.out, hf.out]; rfl), hB5.out.trans (hb6.mono hB5.out.size)⟩
                case measure => simp [intOf]; omega
          · have hv := Lib.hid (hv.trans (beq_self_eq_true _))
            have hV := Lib.hid (show srcV (s : Int) = .tuple #[.int .i64 s, .bool true] by unfold srcV; rw [if_neg (by omega), decide_eq_true (by omega)])
            clear hstep
            go_wp2_with fail
            go_region_held3 (fun W => W.cell? ⟨b, off + m * 34, none⟩ = some (.int .i64 ky) ∧ W.cell? ⟨b, off + k * 34, none⟩ = some (.int .i64 ky))
              (first | exact hS.out _ hB0.out | exact hS.out _ hB5.out)
              (first
                | (go_at_call 20; (with_reducible refine (cA.out _ hB0.out).mono ?_); rintro r w5 ⟨rfl, hb5⟩; have hB5 := Lib.hid (hB0.out.trans (hb5.mono hB0.out.size)); clear hb5))
            all_goals
              go_wp2_with (go_at_call 19; (with_reducible refine (cS.out _ hB5.out).mono ?_); rintro r w6 ⟨rfl, hb6⟩; rw [hV.out])
              go_ret
              exact ⟨ret_bool (by unfold twiceB; exact (hhit.out hv.out).symm), hB5.out.trans (hb6.mono hB5.out.size)⟩
      · have k1 : (ky == kx) = false := beq_eq_false_iff_ne.2 hk
        have k2 : (ky != kx) = true := by unfold bne; rw [k1]; rfl
        rw [hv, k1] at hstep
        have hstep := Lib.hid hstep
        obtain ⟨s1, s2⟩ := hS.out wr hB.out
        clear hv hhit hk
        go_wp2_with fail
        go_quiet (fail)
        go_wp2_with fail
        go_roundw
        case rel => exact ⟨m + 1, by omega, by go_num, (by unfold Hid; rw [hstep.out, hf.out]; rfl), hB.out.trans (Below.mono (drewN_below _) hB.out.size)⟩
        case measure => simp [intOf]; omega
    · obtain rfl : m = k := by omega
      go_wp2
      go_ret
      exact ⟨ret_bool (by unfold twiceB; exact hf.out.symm), hB.out⟩
end Go.Proofs.Ytbokdbppjiegjaa
