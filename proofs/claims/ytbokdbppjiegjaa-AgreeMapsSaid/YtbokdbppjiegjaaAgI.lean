/- What a session's exchanges came to (trust.Keys). -/
import Derived.Test.YtbokdbppjiegjaaAgG
import Derived.Test.YtbokdbppjiegjaaTrE
namespace Go.Proofs.Ytbokdbppjiegjaa
open Go.RowKit

theorem xchg_any (e : Ev) (w : World) :
    Calls Try.prog 68 #[.agg e.cells.toArray] w fun r w' => r = .returned (.bool (isExch e)) ∧ Below w.heap.size w w' := by
  have c0 := ev_cell e w 46 0 _ e.at0
  have hB := Lib.hid (ag_below w (.cells e.cells.toArray 46))
  generalize hw2 : w.alloc (.cells e.cells.toArray 46) = w2 at c0 hB
  have hv := show isExch e = (e.kind == 1 || e.kind == 2) from rfl
  cases k1 : (e.kind == 1)
  all_goals
    rw [k1] at hv
    have hv := Lib.hid hv
    go_enter Try.func68, Try.ntmps68
    go_wp2_with fail
    go_ret
    exact ⟨ret_bool hv.out.symm, hB.out⟩

def Dn.zero : Dn := Ev.zero.dn
theorem dn_info : (Try.prog.info? 44).map (fun i => (i.zero, i.size, i.bytes)) = some (some (.agg Dn.zero.cells.toArray), 26, 312) := by kernel_rfl
theorem Dn.one_ (d : Dn) : ∀ u ∈ d.cells, u.oneCell' = true := by
  intro u hu
  have : d.cells.toArray.all (·.oneCell') = true := by simp [Dn.cells, Value.oneCell']
  rw [Array.all_eq_true_iff_forall_mem] at this
  exact this u (by simpa using hu)
def OwnD (w : World) (base : Nat) (v : Value) (ds : List Dn) : Prop := OwnR w base 26 44 v (ds.map Dn.cells)
def keysL (es : List Ev) (ses : Int) : List Dn := (es.filter (ofSes ses)).map (·.dn)
theorem keysL_len (es : List Ev) (ses : Int) : (keysL es ses).length = es.countP (ofSes ses) := by unfold keysL; rw [List.length_map, List.countP_eq_length_filter]
theorem keysL_succ {es : List Ev} {k : Nat} {e : Ev} (h : es[k]? = some e) (ses : Int) : keysL (es.take (k + 1)) ses = keysL (es.take k) ses ++ (if ofSes ses e then [e.dn] else []) := by
  unfold keysL
  rw [take_succ_of h, List.filter_append, List.map_append]
  cases hq : ofSes ses e <;> simp [hq]
theorem keysL_le (es : List Ev) (ses : Int) (k : Nat) : (keysL (es.take k) ses).length ≤ k := by
  rw [keysL_len]
  exact Nat.le_trans List.countP_le_length (List.length_take_le _ _)
def KeysPost (w : World) (ds : List Dn) (r : Ending) (w' : World) : Prop := ∃ v, r = .returned v ∧ OwnD w' w.heap.size v ds ∧ Below w.heap.size w w'

set_option maxRecDepth 100000 in
set_option maxHeartbeats 2000000 in
theorem keys_any (es : List Ev) (A : Option Addr) (n c : Nat) (ses : Int) (w : World) (hn : n ≤ 1000000) (H : Evs w A n es) :
    Calls Try.prog 53 #[.slice A n c, .int .i64 ses] w (KeysPost w (keysL es ses)) := by
  obtain ⟨i0, hi0, hz0, hz1, hz2⟩ := info_parts dn_info
  have hlen := Lib.hid H.len
  have HH := Lib.hid H
  go_enter Try.func53, Try.ntmps53
  go_wp2
  go_loopw [5, 7, 10] (fun v _ i wr => ∃ k : Nat, k ≤ n ∧ i = .int .i64 k ∧ Hid (OwnD wr w.heap.size v (keysL (es.take k) ses)) ∧ Hid (Below w.heap.size w wr)) (fun _ _ i _ => n - (intOf i).toNat)
  case atStart => exact ⟨0, by omega, rfl, OwnR.nil_ _ _ _ _, Below.refl _ _⟩
  case round =>
    obtain ⟨k, hk, rfl, hO, hB⟩ := hrel
    by_cases hlt : k < n
    · obtain ⟨b, off, e, rfl, hb, he, hr⟩ := H.row hlt
      have hr' := rangeAt_keep hr hB.out hb
      have hstep := keysL_succ he ses
      have hle := keysL_le es ses k
      have hv := show ofSes ses e = (isExch e && e.ses == ses) from rfl
      have hg1 := heap_new wr (.cells Ev.zero.cells.toArray 46)
      have hE := rangeAt_list (heap_new wr (.cells e.cells.toArray 46))
      have hlE := (Array.getElem?_eq_some_iff.1 (heap_new wr (.cells e.cells.toArray 46))).1
      have hBe := ag_below wr (.cells e.cells.toArray 46)
      have hOe := Lib.hid (OwnR.keep hO.out hBe)
      have hBw := Lib.hid (hB.out.trans (hBe.mono hB.out.size))
      have cX := Lib.hid (fun W => xchg_any e W)
      generalize isExch e = q at cX hv
      clear hr he
      have facts := Lib.hid (fun W (h : Below (wr.alloc (.cells e.cells.toArray 46)).heap.size (wr.alloc (.cells e.cells.toArray 46)) W) =>
        (⟨rangeAt_keep hE h hlE 1 _ e.at1, Ev.fldD (rangeAt_keep hE h hlE)⟩ : W.cell? ⟨wr.heap.size, 0 + 1, none⟩ = some (.int .i64 e.ses) ∧ W.rangeAt wr.heap.size (0 + 8) e.dn.cells))
      simp only [Nat.zero_add] at facts
      clear hlE hBe
      cases q with
      | false =>
        rw [Bool.false_and] at hv
        rw [hv] at hstep
        have hstep := Lib.hid hstep
        clear hv
        go_wp2_with (first
          | (refine wpList_load_at 46 (.tmp 12) rfl rfl b (off + k * 34) rfl e.cells _ hr' Try.underlying46 rfl (by kernel_rfl) ?_)
          | (refine wpList_alloc_row 46 rfl rfl Ev.zero.cells.toArray ev_zero ?_)
          | (refine wpList_store_at 46 _ _ rfl rfl wr.heap.size e.cells.toArray rfl rfl 46 Ev.zero.cells.toArray hg1 (by kernel_rfl) rfl e.one ?_
             rw [setRow_new])
          | (refine wpList_load_at 46 (.tmp 7) rfl rfl wr.heap.size 0 rfl e.cells _ hE Try.underlying46 rfl (by kernel_rfl) ?_)
          | (go_at_call 68; refine (cX.out _).mono ?_; rintro r w1 ⟨rfl, hb1⟩))
        go_roundw
        case rel => exact ⟨k + 1, by omega, by go_num, (by unfold Hid OwnD; rw [hstep.out]; simpa using OwnR.keep hOe.out hb1), hBw.out.trans (hb1.mono hBw.out.size)⟩
        case measure => simp [intOf]; omega
      | true =>
        rw [Bool.true_and] at hv
        cases e1 : (e.ses == ses) with
        | false =>
          rw [hv, e1] at hstep
          have hstep := Lib.hid hstep
          clear hv
          go_wp2_with (first
            | (refine wpList_load_at 46 (.tmp 12) rfl rfl b (off + k * 34) rfl e.cells _ hr' Try.underlying46 rfl (by kernel_rfl) ?_)
            | (refine wpList_alloc_row 46 rfl rfl Ev.zero.cells.toArray ev_zero ?_)
            | (refine wpList_store_at 46 _ _ rfl rfl wr.heap.size e.cells.toArray rfl rfl 46 Ev.zero.cells.toArray hg1 (by kernel_rfl) rfl e.one ?_
               rw [setRow_new])
            | (refine wpList_load_at 46 (.tmp 7) rfl rfl wr.heap.size 0 rfl e.cells _ hE Try.underlying46 rfl (by kernel_rfl) ?_)
            | (go_at_call 68; refine (cX.out _).mono ?_; rintro r w1 ⟨rfl, hb1⟩; obtain ⟨s1, s2⟩ := facts.out w1 hb1))
          go_roundw
          case rel => exact ⟨k + 1, by omega, by go_num, (by unfold Hid OwnD; rw [hstep.out]; simpa using OwnR.keep hOe.out hb1), hBw.out.trans (hb1.mono hBw.out.size)⟩
          case measure => simp [intOf]; omega
        | true =>
          rw [hv, e1] at hstep
          have hstep := Lib.hid hstep
          clear hv
          go_wp2_with (first
            | (refine wpList_load_at 46 (.tmp 12) rfl rfl b (off + k * 34) rfl e.cells _ hr' Try.underlying46 rfl (by kernel_rfl) ?_)
            | (refine wpList_alloc_row 46 rfl rfl Ev.zero.cells.toArray ev_zero ?_)
            | (refine wpList_store_at 46 _ _ rfl rfl wr.heap.size e.cells.toArray rfl rfl 46 Ev.zero.cells.toArray hg1 (by kernel_rfl) rfl e.one ?_
               rw [setRow_new])
            | (refine wpList_load_at 46 (.tmp 7) rfl rfl wr.heap.size 0 rfl e.cells _ hE Try.underlying46 rfl (by kernel_rfl) ?_)
            | (go_at_call 68; refine (cX.out _).mono ?_; rintro r w1 ⟨rfl, hb1⟩; obtain ⟨s1, s2⟩ := facts.out w1 hb1
               have hO1 := Lib.hid ((OwnR.keep hOe.out hb1).keep ((Below.refl w1.heap.size w1).alloc (Nat.le_refl _) (.cells e.dn.cells.toArray 44)))
               have hBx := hBw.out.trans (hb1.mono hBw.out.size)
               have hB1 := Lib.hid (hBx.alloc hBx.size (.cells e.dn.cells.toArray 44))
               clear hBx hb1)
            | (refine wpList_load_at 44 (.tmp 23) rfl rfl wr.heap.size 8 rfl e.dn.cells _ s2 Try.underlying44 rfl (by kernel_rfl) ?_)
            | (refine wpList_buildSlice_as 82 44 1 _ rfl rfl i0 (.agg Dn.zero.cells.toArray) e.dn.cells.toArray Try.underlying82 hi0 hz0 (by rw [hz1]; decide) (by rw [hz1]; decide) ?_ ?_
               · rw [hz1]; exact fill_one 26 _ _ (by simp) rfl)
            | (at_builtin
               refine wpList_append_one rfl _ _ 82 rfl 44 i0 (.agg Dn.zero.cells.toArray) 26 312 Try.underlying82 hi0 hz0 hz1 hz2 rfl (by decide) w hB1.out _ _ rfl hO1.out w1.heap.size 1 e.dn.cells rfl ?_ rfl e.dn.one_ ?_ ?_ ?_
               · exact rangeAt_list (heap_new w1 (.cells e.dn.cells.toArray 44))
               · simp only [List.length_map]; unfold maxLen; omega
               · simp only [List.length_map]; omega
               intro v' w2 hO2 hB2 _
               have hO2 := Lib.hid hO2
               have hB2 := Lib.hid hB2))
          go_roundw
          case rel => exact ⟨k + 1, by omega, by go_num, (by unfold Hid OwnD; rw [hstep.out, List.map_append]; simpa using hO2.out), hB2⟩
          case measure => simp [intOf]; omega
    · have hkn : es.take k = es := List.take_of_length_le (by rw [hlen.out]; omega)
      rw [hkn] at hO
      clear hkn
      go_wp2
      go_ret
      exact ⟨_, rfl, hO.out, hB.out⟩
theorem KeysPost.slice {w w' : World} {ds : List Dn} {r : Ending} (h : KeysPost w ds r w') : ∃ A n c, r = .returned (.slice A n c) ∧ Hid (n = ds.length) ∧ Hid (Rws w' 26 A n (ds.map Dn.cells)) ∧ Below w.heap.size w w' := by
  obtain ⟨v, rfl, hO, hB⟩ := h
  obtain ⟨A, c, rfl, hr⟩ := OwnR.rws hO
  rw [List.length_map] at hr ⊢
  exact ⟨A, _, c, rfl, rfl, hr, hB⟩
end Go.Proofs.Ytbokdbppjiegjaa
