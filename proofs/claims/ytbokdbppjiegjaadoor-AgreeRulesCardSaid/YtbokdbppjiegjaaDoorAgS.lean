/- Agree: the reference's Source. -/
import Derived.Test.YtbokdbppjiegjaaDoorAgH
import Derived.Deep.DeepCutAuto
namespace Go.Proofs.YtbokdbppjiegjaaDoor
open Go.RowKit

set_option maxRecDepth 100000 in
set_option maxHeartbeats 4000000 in
theorem refSource_any (es : List Ev) (hok : ∀ e ∈ es, allOk evDs e.cells) (A : Option Addr) (n c k : Nat) (x : Ev) (w : World) (hn : n ≤ 9223372036854775807) (H : Evs w A n es) (hx : es[k]? = some x) :
    Calls Tryd.prog 33 #[.slice A n c, .int .i64 k] w fun r w' => r = .returned (.int .i64 (srcI es k x)) ∧ Below w.heap.size w w' := by
  have hkl : k < n := by have := (List.getElem?_eq_some_iff.1 hx).1; have := H.len; omega
  have HH := Lib.hid H
  obtain ⟨b, off, x', rfl, hb, hx', hr⟩ := H.row hkl
  obtain rfl : x' = x := by rw [hx] at hx'; injection hx' with h; exact h.symm
  have hg1 := heap_new w (.cells Ev.zero.cells.toArray 55)
  have hxo := Lib.hid (hok x' (List.mem_of_getElem? hx))
  have hX := Lib.hid (rangeAt_list (heap_new w (.cells x'.cells.toArray 55)))
  have hB1 := Lib.hid (ag_below w (.cells x'.cells.toArray 55))
  have hlt := Lib.hid (Array.getElem?_eq_some_iff.1 (heap_new w (.cells x'.cells.toArray 55))).1
  have hok := Lib.hid hok
  clear hx hx'
  go_enter Tryd.func33, Tryd.ntmps33
  go_wp2_with (first
      | (refine wpList_load_at 55 _ rfl rfl b (off + k * 34) rfl x'.cells _ hr Tryd.underlying55 rfl (by kernel_rfl) ?_)
      | (refine wpList_alloc_row 55 rfl rfl Ev.zero.cells.toArray ev_zero ?_)
      | (refine wpList_store_at 55 _ _ rfl rfl w.heap.size x'.cells.toArray rfl rfl 55 Ev.zero.cells.toArray hg1 (by kernel_rfl) rfl x'.one ?_
         rw [setRow_new]))
  clear hg1 hr
  generalize hW0 : w.alloc (.cells x'.cells.toArray 55) = W0 at hX hB1 hlt ⊢
  clear hW0
  go_loopw [6, 7] (fun i _ wr => ∃ m : Nat, m ≤ k ∧ i = .int .i64 m ∧ Hid (((es.take m).any (fun e => likeE e x')) = false) ∧ Hid (Below W0.heap.size W0 wr)) (fun i _ _ => k - (intOf i).toNat)
  case atStart => exact ⟨0, by omega, rfl, by simp [Hid], Below.refl _ _⟩
  case round =>
    obtain ⟨m, hm, rfl, hf, hB⟩ := hrel
    by_cases hlm : m < k
    · obtain ⟨b', off', e, e', hb', he, hr⟩ := H.row (show m < n by omega)
      simp only [Option.some.injEq, Addr.mk.injEq] at e'
      obtain ⟨rfl, rfl, _⟩ := e'
      have hmn : m < n := by omega
      have hB1r := hB1.out.trans (hB.out.mono hB1.out.size)
      have hr' := rangeAt_keep hr hB1r hb
      have heo := hok.out e (List.mem_of_getElem? he)
      have hBe := ag_below wr (.cells e.cells.toArray 55)
      have hE := rangeAt_list (heap_new wr (.cells e.cells.toArray 55))
      have hX' := rangeAt_keep (rangeAt_keep hX.out hB.out hlt.out) hBe (Nat.lt_of_lt_of_le hlt.out hB.out.size)
      have hg2 := heap_new wr (.cells Ev.zero.cells.toArray 55)
      have hq := Lib.hid (eql_dn e.dn x'.dn (dn_ok heo) (dn_ok hxo.out))
      have hdE := Ev.fldD hE
      have hdX := Ev.fldD hX'
      have c0 := hE 0 _ e.at0
      have c3 := hE 3 _ e.at3
      have d0 := hX' 0 _ x'.at0
      have d3 := hX' 3 _ x'.at3
      have cM := Lib.hid (fun W => same_any e x' W)
      have he := Lib.hid he
      have hlX := Lib.hid (Nat.lt_of_lt_of_le (Nat.lt_of_lt_of_le hlt.out hB.out.size) hBe.size)
      have hBe := Lib.hid (hB.out.trans (hBe.mono hB.out.size))
      simp only [Nat.zero_add] at c0 c3 d0 d3 hdE hdX
      have hv : likeE e x' = if x'.kind == 2 then e.kind == 1 && e.who == x'.who && decide (e.dn = x'.dn) else if x'.kind == 4 then e.kind == 3 && sameU e x' else if x'.kind == 5 then e.kind == 4 && sameU e x' else false := rfl
      generalize hQ : decide (e.dn = x'.dn) = q at hq hv
      generalize hU : sameU e x' = u at cM hv
      clear hr heo hQ hU
      go_upto_region 6 with (first
        | (refine wpList_load_at 55 (.tmp 19) rfl rfl b (off + m * 34) rfl e.cells _ hr' Tryd.underlying55 rfl (by kernel_rfl) ?_)
        | (refine wpList_alloc_row 55 rfl rfl Ev.zero.cells.toArray ev_zero ?_)
        | (refine wpList_store_at 55 _ _ rfl rfl wr.heap.size e.cells.toArray rfl rfl 55 Ev.zero.cells.toArray hg2 (by kernel_rfl) rfl e.one ?_
           rw [setRow_new]))
      clear hg2 hr'
      have hp : (x'.kind = 2 ∨ x'.kind = 4) ∨ (x'.kind = 5 ∨ (x'.kind ≠ 2 ∧ x'.kind ≠ 4 ∧ x'.kind ≠ 5)) := by omega
      rcases hp with (h2 | h4) | (h5 | ⟨h2, h4, h5⟩)
      · rw [h2] at d0
        rw [if_pos (by simp [h2])] at hv
        clear h2
        cases e1 : (e.kind == 1) with
        | false =>
          as_aux_lemma =>
            rw [e1] at hv
            simp only [Bool.and_true, Bool.and_false, Bool.false_and, Bool.true_and, Bool.false_eq_true, if_false] at hv
            have hv := Lib.hid hv
            go_wp2_with fail
            go_roundw
            case rel => exact ⟨m + 1, by omega, by go_num, (by unfold Hid; rw [any_take_succ _ he.out, hf.out, hv.out]; rfl), hBe⟩
            case measure => simp [intOf]; omega
        | true =>
          cases e2 : (e.who == x'.who) with
          | false =>
            as_aux_lemma =>
              rw [e1, e2] at hv
              simp only [Bool.and_true, Bool.and_false, Bool.false_and, Bool.true_and, Bool.false_eq_true, if_false] at hv
              have hv := Lib.hid hv
              go_wp2_with fail
              go_roundw
              case rel => exact ⟨m + 1, by omega, by go_num, (by unfold Hid; rw [any_take_succ _ he.out, hf.out, hv.out]; rfl), hBe⟩
              case measure => simp [intOf]; omega
          | true =>
            cases q with
            | false =>
              as_aux_lemma =>
                rw [e1, e2] at hv
                simp only [Bool.and_true, Bool.and_false, Bool.false_and, Bool.true_and, Bool.false_eq_true, if_false] at hv
                have hv := Lib.hid hv
                go_wp2_with (first
                  | (refine wpList_load_at 53 (.tmp 37) rfl rfl wr.heap.size 8 rfl e.dn.cells _ hdE Tryd.underlying53 rfl (by kernel_rfl) ?_)
                  | (refine wpList_load_at 53 (.tmp 39) rfl rfl w.heap.size 8 rfl x'.dn.cells _ hdX Tryd.underlying53 rfl (by kernel_rfl) ?_)
                  | (refine wpList_eql_at 53 53 (.tmp 38) (.tmp 40) rfl rfl e.dn.cells.toArray x'.dn.cells.toArray rfl rfl dn_guard _ (hq.out _) ?_))
                go_roundw
                case rel => exact ⟨m + 1, by omega, by go_num, (by unfold Hid; rw [any_take_succ _ he.out, hf.out, hv.out]; rfl), hBe⟩
                case measure => simp [intOf]; omega
            | true =>
              as_aux_lemma =>
                rw [e1, e2] at hv
                simp only [Bool.and_true, Bool.and_false, Bool.false_and, Bool.true_and, Bool.false_eq_true, if_false] at hv
                have hv := Lib.hid hv
                go_wp2_with (first
                  | (refine wpList_load_at 53 (.tmp 37) rfl rfl wr.heap.size 8 rfl e.dn.cells _ hdE Tryd.underlying53 rfl (by kernel_rfl) ?_)
                  | (refine wpList_load_at 53 (.tmp 39) rfl rfl w.heap.size 8 rfl x'.dn.cells _ hdX Tryd.underlying53 rfl (by kernel_rfl) ?_)
                  | (refine wpList_eql_at 53 53 (.tmp 38) (.tmp 40) rfl rfl e.dn.cells.toArray x'.dn.cells.toArray rfl rfl dn_guard _ (hq.out _) ?_))
                go_ret
                refine ⟨ret_int ?_, hB1.out.trans (hBe.out.mono hB1.out.size)⟩
                exact (idx_hit (x := e) (by rw [List.getElem?_take, if_pos hlm]; exact he.out) hv.out (by rw [List.take_take, Nat.min_eq_left (by omega)]; exact hf.out)).symm
      all_goals clear hq hdE hdX
      · rw [h4] at d0
        rw [if_neg (by simp [h4]), if_pos (by simp [h4])] at hv
        clear h4
        cases e1 : (e.kind == 3) with
        | false =>
          as_aux_lemma =>
            rw [e1] at hv
            simp only [Bool.and_true, Bool.and_false, Bool.false_and, Bool.true_and, Bool.false_eq_true, if_false] at hv
            have hv := Lib.hid hv
            go_wp2_with fail
            go_roundw
            case rel => exact ⟨m + 1, by omega, by go_num, (by unfold Hid; rw [any_take_succ _ he.out, hf.out, hv.out]; rfl), hBe⟩
            case measure => simp [intOf]; omega
        | true =>
          cases u with
          | false =>
            as_aux_lemma =>
              rw [e1] at hv
              simp only [Bool.and_true, Bool.and_false, Bool.false_and, Bool.true_and, Bool.false_eq_true, if_false] at hv
              have hv := Lib.hid hv
              go_wp2_with (first
                | (go_at_call 56; refine (cM.out _).mono ?_; rintro r w5 ⟨rfl, hb5⟩; have d0 := (hb5.cell (p := ⟨w.heap.size, 0, none⟩) hlX.out).trans d0)
                | (refine wpList_load_at 55 (.tmp 7) rfl rfl wr.heap.size 0 rfl e.cells _ hE Tryd.underlying55 rfl (by kernel_rfl) ?_)
                | (refine wpList_load_at 55 (.tmp 5) rfl rfl w.heap.size 0 rfl x'.cells _ hX' Tryd.underlying55 rfl (by kernel_rfl) ?_))
              go_roundw
              case rel => exact ⟨m + 1, by omega, by go_num, (by unfold Hid; rw [any_take_succ _ he.out, hf.out, hv.out]; rfl), hBe.out.trans (hb5.mono hBe.out.size)⟩
              case measure => simp [intOf]; omega
          | true =>
            as_aux_lemma =>
              rw [e1] at hv
              simp only [Bool.and_true, Bool.and_false, Bool.false_and, Bool.true_and, Bool.false_eq_true, if_false] at hv
              have hv := Lib.hid hv
              go_wp2_with (first
                | (go_at_call 56; refine (cM.out _).mono ?_; rintro r w5 ⟨rfl, hb5⟩; have d0 := (hb5.cell (p := ⟨w.heap.size, 0, none⟩) hlX.out).trans d0)
                | (refine wpList_load_at 55 (.tmp 7) rfl rfl wr.heap.size 0 rfl e.cells _ hE Tryd.underlying55 rfl (by kernel_rfl) ?_)
                | (refine wpList_load_at 55 (.tmp 5) rfl rfl w.heap.size 0 rfl x'.cells _ hX' Tryd.underlying55 rfl (by kernel_rfl) ?_))
              go_ret
              refine ⟨ret_int ?_, hB1.out.trans ((hBe.out.trans (hb5.mono hBe.out.size)).mono hB1.out.size)⟩
              exact (idx_hit (x := e) (by rw [List.getElem?_take, if_pos hlm]; exact he.out) hv.out (by rw [List.take_take, Nat.min_eq_left (by omega)]; exact hf.out)).symm
      · rw [h5] at d0
        rw [if_neg (by simp [h5]), if_neg (by simp [h5]), if_pos (by simp [h5])] at hv
        clear h5
        cases e1 : (e.kind == 4) with
        | false =>
          as_aux_lemma =>
            rw [e1] at hv
            simp only [Bool.and_true, Bool.and_false, Bool.false_and, Bool.true_and, Bool.false_eq_true, if_false] at hv
            have hv := Lib.hid hv
            go_wp2_with fail
            go_roundw
            case rel => exact ⟨m + 1, by omega, by go_num, (by unfold Hid; rw [any_take_succ _ he.out, hf.out, hv.out]; rfl), hBe⟩
            case measure => simp [intOf]; omega
        | true =>
          cases u with
          | false =>
            as_aux_lemma =>
              rw [e1] at hv
              simp only [Bool.and_true, Bool.and_false, Bool.false_and, Bool.true_and, Bool.false_eq_true, if_false] at hv
              have hv := Lib.hid hv
              go_wp2_with (first
                | (go_at_call 56; refine (cM.out _).mono ?_; rintro r w5 ⟨rfl, hb5⟩; have d0 := (hb5.cell (p := ⟨w.heap.size, 0, none⟩) hlX.out).trans d0)
                | (refine wpList_load_at 55 (.tmp 7) rfl rfl wr.heap.size 0 rfl e.cells _ hE Tryd.underlying55 rfl (by kernel_rfl) ?_)
                | (refine wpList_load_at 55 (.tmp 5) rfl rfl w.heap.size 0 rfl x'.cells _ hX' Tryd.underlying55 rfl (by kernel_rfl) ?_))
              go_roundw
              case rel => exact ⟨m + 1, by omega, by go_num, (by unfold Hid; rw [any_take_succ _ he.out, hf.out, hv.out]; rfl), hBe.out.trans (hb5.mono hBe.out.size)⟩
              case measure => simp [intOf]; omega
          | true =>
            as_aux_lemma =>
              rw [e1] at hv
              simp only [Bool.and_true, Bool.and_false, Bool.false_and, Bool.true_and, Bool.false_eq_true, if_false] at hv
              have hv := Lib.hid hv
              go_wp2_with (first
                | (go_at_call 56; refine (cM.out _).mono ?_; rintro r w5 ⟨rfl, hb5⟩; have d0 := (hb5.cell (p := ⟨w.heap.size, 0, none⟩) hlX.out).trans d0)
                | (refine wpList_load_at 55 (.tmp 7) rfl rfl wr.heap.size 0 rfl e.cells _ hE Tryd.underlying55 rfl (by kernel_rfl) ?_)
                | (refine wpList_load_at 55 (.tmp 5) rfl rfl w.heap.size 0 rfl x'.cells _ hX' Tryd.underlying55 rfl (by kernel_rfl) ?_))
              go_ret
              refine ⟨ret_int ?_, hB1.out.trans ((hBe.out.trans (hb5.mono hBe.out.size)).mono hB1.out.size)⟩
              exact (idx_hit (x := e) (by rw [List.getElem?_take, if_pos hlm]; exact he.out) hv.out (by rw [List.take_take, Nat.min_eq_left (by omega)]; exact hf.out)).symm
      · have k1 : (x'.kind == 2) = false := beq_eq_false_iff_ne.2 h2
        have k2 : (x'.kind == 4) = false := beq_eq_false_iff_ne.2 h4
        have k3 : (x'.kind == 5) = false := beq_eq_false_iff_ne.2 h5
        rw [k1, k2, k3] at hv
        simp only [Bool.false_eq_true, if_false] at hv
        have hv := Lib.hid hv
        clear h2 h4 h5
        go_wp2_with fail
        go_roundw
        case rel => exact ⟨m + 1, by omega, by go_num, (by unfold Hid; rw [any_take_succ _ he.out, hf.out, hv.out]; rfl), hBe⟩
        case measure => simp [intOf]; omega
    · obtain rfl : m = k := by omega
      go_wp2
      go_ret
      exact ⟨ret_int (idx_miss hf.out).symm, hB1.out.trans (hB.out.mono hB1.out.size)⟩
end Go.Proofs.YtbokdbppjiegjaaDoor
