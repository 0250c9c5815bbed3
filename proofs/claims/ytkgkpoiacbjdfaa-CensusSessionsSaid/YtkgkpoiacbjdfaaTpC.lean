/- Trust: the walks of Keys and Partners. -/
import Derived.Test.YtkgkpoiacbjdfaaTpB
import Derived.Test.YtkgkpoiacbjdfaaOpenEv
namespace Go.Proofs.Ytkgkpoiacbjdfaa
open Go.RowKit

theorem dn_info : (Try.prog.info? 35).map (fun i => (i.zero, i.size, i.bytes)) = some (some (.agg Ev.zero.dn.cells.toArray), 26, 312) := by kernel_rfl
theorem Dn.one_ (d : Dn) : ∀ u ∈ d.cells, u.oneCell' = true := by
  have := d.one
  rw [Array.all_eq_true] at this
  intro u hu
  obtain ⟨i, hi, rfl⟩ := List.getElem_of_mem hu
  exact this i (by simpa using hi)
theorem Dn.len (d : Dn) : d.cells.length = 26 := rfl
def OwnD (w : World) (base : Nat) (v : Value) (ds : List Dn) : Prop := OwnR w base 26 35 v (ds.map Dn.cells)
def DoneV (w : World) (base : Nat) (r : Ending) (w' : World) (ds : List Dn) : Prop := ∃ v, r = .returned v ∧ OwnD w' base v ds ∧ Below w.heap.size w w'

set_option maxHeartbeats 1000000 in
theorem keys_any (es : List Ev) (A : Option Addr) (n c : Nat) (ses : Int) (w : World) (hn : n ≤ 1000000) (H : Evs w A n es) :
    Calls Try.prog 13 #[.slice A n c, .int .i64 ses] w fun r w' => ∃ v, r = .returned v ∧ OwnD w' w.heap.size v (keysTo es ses n) ∧ Below w.heap.size w w' := by
  obtain ⟨i0, hi0, hz0, hz1, hz2⟩ := info_parts dn_info
  have cX := Lib.hid (fun e W => exch_any e W)
  go_enter Try.func13, Try.ntmps13
  go_wp2
  go_loopw [5, 10] (fun v i wr => ∃ k : Nat, k ≤ n ∧ i = .int .i64 k ∧ Hid (OwnD wr w.heap.size v (keysTo es ses k)) ∧ Hid (Below w.heap.size w wr)) (fun _ i _ => n - (intOf i).toNat)
  case atStart => exact ⟨0, by omega, rfl, OwnR.nil_ _ _ _ _, Below.refl _ _⟩
  case round =>
    obtain ⟨k, hk, rfl, hO, hB⟩ := hrel
    by_cases hlt : k < n
    · obtain ⟨b, off, e, rfl, hb, he, hr⟩ := H.row hlt
      have hr' := rangeAt_keep hr hB.out hb
      have hg1 := heap_new wr (.cells Ev.zero.cells.toArray 37)
      have hE := rangeAt_list (heap_new wr (.cells e.cells.toArray 37))
      have hlW : wr.heap.size < (wr.alloc (.cells e.cells.toArray 37)).heap.size := by simp
      have hBW := Lib.hid (below_new wr (.cells e.cells.toArray 37))
      have hle := keysTo_len es ses k
      have hstep := keysTo_succ (ses := ses) he
      have hk2 : isKey ses e = (exch e && e.ses == ses) := rfl
      have cX := Lib.hid (cX.out e)
      clear hr he
      generalize exch e = q at cX hk2
      cases q with
      | false =>
        rw [hk2] at hstep
        have hstep := Lib.hid hstep
        clear hk2
        go_wp2_with (first
          | (refine wpList_load_at 37 (.tmp 12) rfl rfl b (off + k * 34) rfl e.cells _ hr' Try.underlying37 rfl (by kernel_rfl) ?_)
          | (refine wpList_alloc_row 37 rfl rfl Ev.zero.cells.toArray ev_zero ?_; try simp only [World.size_alloc])
          | (refine wpList_store_at 37 _ _ rfl rfl wr.heap.size e.cells.toArray rfl rfl 37 Ev.zero.cells.toArray hg1 (by kernel_rfl) rfl e.one ?_
             rw [setRow_new])
          | (refine wpList_load_at 37 (.tmp 7) rfl rfl wr.heap.size 0 rfl e.cells _ hE Try.underlying37 rfl (by kernel_rfl) ?_)
          | (go_at_call 31; refine (cX.out _).mono ?_; rintro r w1 ⟨rfl, hb1⟩; have hB1 := Lib.hid (hBW.out.trans (hb1.mono hBW.out.size)); clear hb1))
        go_roundw
        case rel => exact ⟨k + 1, by omega, by go_num, (by unfold Hid; rw [hstep.out]; simp only [Bool.false_and, Bool.and_false, Bool.false_eq_true, if_false, List.append_nil]; exact OwnR.keep hO.out hB1.out), hB.out.trans (hB1.out.mono hB.out.size)⟩
        case measure => simp [intOf]; omega
      | true =>
        cases hs : (e.ses == ses) with
        | false =>
          rw [hk2, hs] at hstep
          have hstep := Lib.hid hstep
          clear hk2
          go_wp2_with (first
            | (refine wpList_load_at 37 (.tmp 12) rfl rfl b (off + k * 34) rfl e.cells _ hr' Try.underlying37 rfl (by kernel_rfl) ?_)
            | (refine wpList_alloc_row 37 rfl rfl Ev.zero.cells.toArray ev_zero ?_; try simp only [World.size_alloc])
            | (refine wpList_store_at 37 _ _ rfl rfl wr.heap.size e.cells.toArray rfl rfl 37 Ev.zero.cells.toArray hg1 (by kernel_rfl) rfl e.one ?_
               rw [setRow_new])
            | (refine wpList_load_at 37 (.tmp 7) rfl rfl wr.heap.size 0 rfl e.cells _ hE Try.underlying37 rfl (by kernel_rfl) ?_)
            | (go_at_call 31; refine (cX.out _).mono ?_; rintro r w1 ⟨rfl, hb1⟩
               have hB1 := Lib.hid (hBW.out.trans (hb1.mono hBW.out.size))
               have hf1 := (Ev.flds (rangeAt_keep hE hb1 hlW)).2.1
               simp only [Nat.zero_add] at hf1
               clear hb1))
          go_roundw
          case rel => exact ⟨k + 1, by omega, by go_num, (by unfold Hid; rw [hstep.out]; simp only [Bool.false_and, Bool.and_false, Bool.false_eq_true, if_false, List.append_nil]; exact OwnR.keep hO.out hB1.out), hB.out.trans (hB1.out.mono hB.out.size)⟩
          case measure => simp [intOf]; omega
        | true =>
          rw [hk2, hs] at hstep
          have hstep := Lib.hid hstep
          clear hk2
          go_wp2_with (first
            | (refine wpList_load_at 37 (.tmp 12) rfl rfl b (off + k * 34) rfl e.cells _ hr' Try.underlying37 rfl (by kernel_rfl) ?_)
            | (refine wpList_alloc_row 37 rfl rfl Ev.zero.cells.toArray ev_zero ?_; try simp only [World.size_alloc])
            | (refine wpList_store_at 37 _ _ rfl rfl wr.heap.size e.cells.toArray rfl rfl 37 Ev.zero.cells.toArray hg1 (by kernel_rfl) rfl e.one ?_
               rw [setRow_new])
            | (refine wpList_load_at 37 (.tmp 7) rfl rfl wr.heap.size 0 rfl e.cells _ hE Try.underlying37 rfl (by kernel_rfl) ?_)
            | (go_at_call 31; refine (cX.out _).mono ?_; rintro r w1 ⟨rfl, hb1⟩
               have hB1 := Lib.hid (hBW.out.trans (hb1.mono hBW.out.size))
               have hE1 := rangeAt_keep hE hb1 hlW
               have hf1 := (Ev.flds hE1).2.1
               have hd1 := Ev.fldD hE1
               simp only [Nat.zero_add] at hf1 hd1
               have hO1 := Lib.hid (OwnR.keep (OwnR.keep hO.out hB1.out) (below_new w1 (.cells e.dn.cells.toArray 35)))
               have hB2 := Lib.hid ((hB.out.trans (hB1.out.mono hB.out.size)).alloc (Nat.le_trans hB.out.size hB1.out.size) (.cells e.dn.cells.toArray 35))
               clear hb1 hE1)
            | (refine wpList_load_at 35 (.tmp 23) rfl rfl wr.heap.size 8 rfl e.dn.cells _ hd1 Try.underlying35 rfl (by kernel_rfl) ?_)
            | (refine wpList_buildSlice_as 43 35 1 _ rfl rfl i0 (.agg Ev.zero.dn.cells.toArray) e.dn.cells.toArray Try.underlying43 hi0 hz0 (by rw [hz1]; decide) (by rw [hz1]; decide) ?_ ?_
               · rw [hz1]; exact fill_one 26 _ _ (by simp) rfl)
            | (at_builtin
               refine wpList_append_one rfl _ _ 43 rfl 35 i0 (.agg Ev.zero.dn.cells.toArray) 26 312 Try.underlying43 hi0 hz0 hz1 hz2 rfl (by decide) w hB2.out _ _ rfl hO1.out w1.heap.size 1 e.dn.cells rfl ?_ rfl e.dn.one_ ?_ ?_ ?_
               · exact rangeAt_list (heap_new w1 (.cells e.dn.cells.toArray 35))
               · simp only [List.length_map]; unfold maxLen; omega
               · simp only [List.length_map]; omega
               intro v' w2 hO2 hB3 _
               have hO2 := Lib.hid hO2
               have hB3 := Lib.hid hB3))
          go_roundw
          case rel => exact ⟨k + 1, by omega, by go_num, (by unfold Hid OwnD; rw [hstep.out]; simpa using hO2.out), hB3⟩
          case measure => simp [intOf]; omega
    · go_wp2
      go_ret
      rw [show k = n by omega] at hO
      exact ⟨_, rfl, hO.out, hB.out⟩

theorem OwnI.mono {w : World} {base base' : Nat} {v : Value} {xs : List Int} (h : OwnI w base v xs) (hb : base' ≤ base) : OwnI w base' v xs := by
  obtain ⟨⟨hl, hh⟩, hz⟩ := h
  refine ⟨⟨hl, ?_⟩, hz⟩
  rcases hh with h0 | ⟨g, cap, cur, hv, hg, r⟩
  · exact .inl h0
  · exact .inr ⟨g, cap, cur, hv, by omega, r⟩
theorem openX_ok {es : List Ev} (hok : ∀ e ∈ es, allOk evDs e.cells) {s : Int} {x : Ev} (h : openE es s = some x) : allOk evDs x.cells := hok x (openE_some h).2.2.2
theorem mate_mine {es : List Ev} {ses : Int} {m : Ev} (hm : openE es ses = some m) (s : Int) : mate es ses s = (exch (openX (openE es s)) && ((openX (openE es s)).kind != m.kind && decide ((openX (openE es s)).dn = m.dn))) := by
  rw [mate_of, hm]
  have km := kind_lt (openE_some hm).1
  cases hs : openE es s with
  | none => rfl
  | some y =>
    have ky := openE_some hs
    have ky2 := kind_lt ky.1
    show (true && true && (m.kind + y.kind == 3) && decide (m.dn = y.dn)) = (exch y && (y.kind != m.kind && decide (y.dn = m.dn)))
    rw [ky.1]
    simp only [Bool.true_and]
    have e1 : (m.kind + y.kind == 3) = (y.kind != m.kind) := by
      rw [Bool.eq_iff_iff]
      simp only [beq_iff_eq, bne_iff_ne, ne_eq]
      omega
    rw [e1]
    congr 1
    rw [Bool.eq_iff_iff]
    simp only [decide_eq_true_eq]
    exact eq_comm
theorem pt_none {es : List Ev} {ses : Int} (h : openE es ses = none) : pt es ses = [] := by
  have h1 : ∀ s, s ∉ pt es ses := fun s hs => by
    have := (pt_iff es ses s).1 hs
    unfold mate at this
    rw [h] at this
    simp at this
  exact List.eq_nil_iff_forall_not_mem.2 h1

theorem ptTo_step {es : List Ev} {ses : Int} {k : Nat} {e : Ev} (h : es[k]? = some e) : ptTo es ses (k + 1) = if (exch e && !((ptTo es ses k).contains e.ses) && mate es ses e.ses) = true then ptTo es ses k ++ [e.ses] else ptTo es ses k := by
  rw [ptTo, h]
attribute [local go_sem ↓] ldD_eq eqD_eq egE_eq
attribute [local go_sem] egE_run
set_option maxRecDepth 100000 in
set_option maxHeartbeats 4000000 in
theorem partners_any (es : List Ev) (hok : ∀ e ∈ es, allOk evDs e.cells) (A : Option Addr) (n c : Nat) (ses : Int) (w : World) (hn : n ≤ 100000) (H : Evs w A n es) :
    Calls Try.prog 7 #[.slice A n c, .int .i64 ses] w fun r w' => ∃ v, r = .returned v ∧ OwnI w' w.heap.size v (srt (pt es ses)) ∧ Below w.heap.size w w' := by
  obtain ⟨i0, hi0, hz0, hz1, hz2⟩ := info_parts int_info
  have cX := Lib.hid (fun e W => exch_any e W)
  have cO := opens_any es A n c ses w (by omega) H
  have cP := Lib.hid (fun s W (h : Below w.heap.size w W) => opens_any es A n c s W (by omega) (H.keep h))
  rw [openV_eq] at cO
  cases hm : openE es ses with
  | none =>
    have hp := Lib.hid (show srt (pt es ses) = [] by rw [pt_none hm]; simp [srt])
    rw [hm] at cO
    have cO := Lib.hid cO
    clear hm H
    go_enter Try.func7, Try.ntmps7
    go_wp2_with fail
    refine cO.out.mono ?_
    rintro r w1 ⟨rfl, hb1⟩
    have hg1 := heap_new w1 (.cells Ev.zero.cells.toArray 37)
    have hB := Lib.hid (hb1.alloc hb1.size (.cells (openX none).cells.toArray 37))
    clear hb1
    go_wp2_with (first
      | (refine wpList_alloc_row 37 rfl rfl Ev.zero.cells.toArray ev_zero ?_; try simp only [World.size_alloc])
      | (refine wpList_store_at 37 _ _ rfl rfl w1.heap.size (openX none).cells.toArray rfl rfl 37 Ev.zero.cells.toArray hg1 (by kernel_rfl) rfl (openX none).one ?_
         rw [setRow_new]))
    go_ret
    exact ⟨_, rfl, by rw [hp.out]; exact OwnR.nil_ _ _ _ _, hB.out⟩
  | some m =>
    have hmate := Lib.hid (fun s => mate_mine hm s)
    have mok := openX_ok hok hm
    have hlen := Lib.hid H.len
    rw [hm] at cO
    simp only [openX, Option.isSome_some] at cO
    have cO := Lib.hid cO
    clear hm
    go_enter Try.func7, Try.ntmps7
    go_wp2_with fail
    refine cO.out.mono ?_
    rintro r w1 ⟨rfl, hb1⟩
    have hg1 := heap_new w1 (.cells Ev.zero.cells.toArray 37)
    have hM := Lib.hid (heap_new w1 (.cells m.cells.toArray 37))
    have hB := Lib.hid (hb1.alloc hb1.size (.cells m.cells.toArray 37))
    have hml : w1.heap.size < (w1.alloc (.cells m.cells.toArray 37)).heap.size := by simp
    clear hb1
    go_wp2_with (first
      | (refine wpList_alloc_row 37 rfl rfl Ev.zero.cells.toArray ev_zero ?_; try simp only [World.size_alloc])
      | (refine wpList_store_at 37 _ _ rfl rfl w1.heap.size m.cells.toArray rfl rfl 37 Ev.zero.cells.toArray hg1 (by kernel_rfl) rfl m.one ?_
         rw [setRow_new]))
    generalize hgm : w1.heap.size = gm at hM hml ⊢
    clear hgm
    generalize w1.alloc (.cells m.cells.toArray 37) = w2 at hB hM hml ⊢
    have hml2 := Lib.hid hml
    clear hml
    have hml := hml2
    clear hml2
    clear hg1
    have hmd := Lib.hid (fun W (h : Below w2.heap.size w2 W) => (⟨(Ev.flds (rangeAt_keep (rangeAt_list hM.out) h hml.out)).1, Ev.fldD (rangeAt_keep (rangeAt_list hM.out) h hml.out)⟩ : W.cell? ⟨gm, 0, none⟩ = some (.int .i64 m.kind) ∧ W.rangeAt gm (0 + 8) m.dn.cells))
    clear hM cO
    go_loopw [7, 22] (fun v i wr => ∃ k : Nat, k ≤ n ∧ i = .int .i64 k ∧ Hid (OwnI wr w2.heap.size v (ptTo es ses k)) ∧ Hid (Below w2.heap.size w2 wr)) (fun _ i _ => n - (intOf i).toNat)
    case atStart => exact ⟨0, by omega, rfl, OwnR.nil_ _ _ _ _, Below.refl _ _⟩
    case round =>
      obtain ⟨k, hk, rfl, hO, hD⟩ := hrel
      have hDw := Lib.hid (hB.out.trans (hD.out.mono hB.out.size))
      by_cases hlt : k < n
      · obtain ⟨b, off, e, rfl, hb, he, hr⟩ := H.row hlt
        have hr' := rangeAt_keep hr hDw.out hb
        have hg1 := heap_new wr (.cells Ev.zero.cells.toArray 37)
        have hE := rangeAt_list (heap_new wr (.cells e.cells.toArray 37))
        have hlW : wr.heap.size < (wr.alloc (.cells e.cells.toArray 37)).heap.size := by simp
        have hBW := Lib.hid (below_new wr (.cells e.cells.toArray 37))
        have hle := ptTo_len es ses k
        have hstep := ptTo_step (ses := ses) he
        have cE := Lib.hid (cX.out e)
        clear hr he
        generalize exch e = q at cE hstep
        cases q with
        | false =>
          simp only [Bool.false_and, Bool.false_eq_true, if_false] at hstep
          have hstep2 := Lib.hid hstep
          clear hstep
          go_wp2_with (first
          | (refine wpList_load_at 37 (.tmp 24) rfl rfl b (off + k * 34) rfl e.cells _ hr' Try.underlying37 rfl (by kernel_rfl) ?_)
          | (refine wpList_alloc_row 37 rfl rfl Ev.zero.cells.toArray ev_zero ?_; try simp only [World.size_alloc])
          | (refine wpList_store_at 37 (.tmp 9) _ rfl rfl wr.heap.size e.cells.toArray rfl rfl 37 Ev.zero.cells.toArray hg1 (by kernel_rfl) rfl e.one ?_
             rw [setRow_new])
          | (refine wpList_load_at 37 (.tmp 9) rfl rfl wr.heap.size 0 rfl e.cells _ hE Try.underlying37 rfl (by kernel_rfl) ?_)
          | (go_at_call 31; refine (cE.out _).mono ?_; rintro r w3 ⟨rfl, hb1⟩; have hB1 := Lib.hid (hBW.out.trans (hb1.mono hBW.out.size)); clear hb1))
          go_roundw
          case rel => exact ⟨k + 1, by omega, by go_num, (by unfold Hid; rw [hstep2.out]; exact OwnR.keep hO.out hB1.out), hD.out.trans (hB1.out.mono hD.out.size)⟩
          case measure => simp [intOf]; omega
        | true =>
          have cC := Lib.hid (fun W (h : Below wr.heap.size wr W) => containsI_any (ptTo es ses k) w2.heap.size _ e.ses W (hO.out.keep h) (by omega))
          cases hc : (ptTo es ses k).contains e.ses with
          | true =>
            rw [hc] at hstep cC
            simp only [Bool.not_true, Bool.and_false, Bool.false_and, Bool.false_eq_true, if_false] at hstep
            have hstep2 := Lib.hid hstep
            clear hstep hc
            go_wp2_with (first
            | (refine wpList_load_at 37 (.tmp 24) rfl rfl b (off + k * 34) rfl e.cells _ hr' Try.underlying37 rfl (by kernel_rfl) ?_)
            | (refine wpList_alloc_row 37 rfl rfl Ev.zero.cells.toArray ev_zero ?_; try simp only [World.size_alloc])
            | (refine wpList_store_at 37 (.tmp 9) _ rfl rfl wr.heap.size e.cells.toArray rfl rfl 37 Ev.zero.cells.toArray hg1 (by kernel_rfl) rfl e.one ?_
               rw [setRow_new])
            | (refine wpList_load_at 37 (.tmp 9) rfl rfl wr.heap.size 0 rfl e.cells _ hE Try.underlying37 rfl (by kernel_rfl) ?_)
            | (go_at_call 31; refine (cE.out _).mono ?_; rintro r w3 ⟨rfl, hb1⟩; have hB1 := Lib.hid (hBW.out.trans (hb1.mono hBW.out.size))
               have hf1 := (Ev.flds (rangeAt_keep hE hb1 hlW)).2.1
               simp only [Nat.zero_add] at hf1
               clear hb1)
            | (go_at_call 32; refine (cC.out _ hB1.out).mono ?_; rintro r w4 ⟨rfl, rfl⟩))
            go_roundw
            case rel => exact ⟨k + 1, by omega, by go_num, (by unfold Hid; rw [hstep2.out]; exact OwnR.keep hO.out hB1.out), hD.out.trans (hB1.out.mono hD.out.size)⟩
            case measure => simp [intOf]; omega
          | false =>
            rw [hc] at hstep cC
            simp only [Bool.not_false, Bool.true_and] at hstep
            rw [hmate.out e.ses] at hstep
            have cT := Lib.hid (cP.out e.ses)
            have tok : exch (openX (openE es e.ses)) = true → allOk evDs (openX (openE es e.ses)).cells := fun h => by
              cases ht : openE es e.ses with
              | none => rw [ht] at h; cases h
              | some y => exact openX_ok hok ht
            rw [openV_eq] at cT
            generalize openX (openE es e.ses) = th at cT tok hstep
            generalize (openE es e.ses).isSome = qs at cT
            have cY := Lib.hid (cX.out th)
            have hstep2 := Lib.hid hstep
            clear hstep hc
            go_upto_region 10 with (first
            | (refine wpList_load_at 37 (.tmp 24) rfl rfl b (off + k * 34) rfl e.cells _ hr' Try.underlying37 rfl (by kernel_rfl) ?_)
            | (refine wpList_alloc_row 37 rfl rfl Ev.zero.cells.toArray ev_zero ?_; try simp only [World.size_alloc])
            | (refine wpList_store_at 37 (.tmp 9) _ rfl rfl wr.heap.size e.cells.toArray rfl rfl 37 Ev.zero.cells.toArray hg1 (by kernel_rfl) rfl e.one ?_
               rw [setRow_new])
            | (refine wpList_load_at 37 (.tmp 9) rfl rfl wr.heap.size 0 rfl e.cells _ hE Try.underlying37 rfl (by kernel_rfl) ?_)
            | (go_at_call 31; refine (cE.out _).mono ?_; rintro r w3 ⟨rfl, hb1⟩; have hB1 := Lib.hid (hBW.out.trans (hb1.mono hBW.out.size))
               have hf1 := (Ev.flds (rangeAt_keep hE hb1 hlW)).2.1
               simp only [Nat.zero_add] at hf1
               have hl3 := Lib.hid (Nat.lt_of_lt_of_le hlW hb1.size)
               clear hb1)
            | (go_at_call 32; refine (cC.out _ hB1.out).mono ?_; rintro r w4 ⟨rfl, rfl⟩)
            | (go_at_call 30; refine (cT.out _ (hDw.out.trans (hB1.out.mono hDw.out.size))).mono ?_; rintro r w4 ⟨rfl, hb4⟩
               have hf4 := (hb4.cell (p := ⟨wr.heap.size, 1, none⟩) hl3.out).trans hf1
               have hg4 := heap_new w4 (.cells Ev.zero.cells.toArray 37)
               have hT := rangeAt_list (heap_new w4 (.cells th.cells.toArray 37))
               have hB4 := Lib.hid ((hB1.out.trans (hb4.mono hB1.out.size)).alloc (Nat.le_trans hB1.out.size hb4.size) (.cells th.cells.toArray 37))
               have hf5 := ((below_new w4 (.cells th.cells.toArray 37)).cell (p := ⟨wr.heap.size, 1, none⟩) (Nat.lt_of_lt_of_le hl3.out hb4.size)).trans hf4
               have hl4 := Lib.hid (Nat.lt_of_lt_of_le hl3.out hb4.size)
               clear hb4)
            | (refine wpList_store_at 37 (.tmp 10) _ rfl rfl w4.heap.size th.cells.toArray rfl rfl 37 Ev.zero.cells.toArray hg4 (by kernel_rfl) rfl th.one ?_
               rw [setRow_new]))
            have hl6 := Lib.hid (show wr.heap.size < (w4.alloc (.cells th.cells.toArray 37)).heap.size from Nat.lt_of_lt_of_le hl4.out (by simp))
            cases hx : exch th with
            | false =>
              have hstep3 := hstep2.out
              rw [hx] at hstep3 cY
              simp only [Bool.false_and, Bool.false_eq_true, if_false] at hstep3
              have hstep2 := Lib.hid hstep3
              clear hstep3 hx tok
              have hnq : True := trivial
              go_wp2_with (first
              | (refine wpList_load_at 37 (.tmp 10) rfl rfl w4.heap.size 0 rfl th.cells _ hT Try.underlying37 rfl (by kernel_rfl) ?_)
              | (go_at_call 31; refine (cY.out _).mono ?_; rintro r w5 ⟨rfl, hb5⟩
                 have hB5 := Lib.hid (hB4.out.trans (hb5.mono hB4.out.size))
                 have hT5 := rangeAt_keep hT hb5 (by simp)
                 have hk5 := (Ev.flds hT5).1
                 have hd5 := Ev.fldD hT5
                 have hf6 := (hb5.cell (p := ⟨wr.heap.size, 1, none⟩) hl6.out).trans hf5
                 obtain ⟨hm5, hmd5⟩ := hmd.out w5 (hD.out.trans (hB5.out.mono hD.out.size))
                 simp only [Nat.zero_add] at hd5 hmd5
                 clear hb5 hT5))
              go_roundw
              case rel => exact ⟨k + 1, by omega, by go_num, (by unfold Hid; rw [hstep2.out]; exact OwnR.keep hO.out hB5.out), hD.out.trans (hB5.out.mono hD.out.size)⟩
              case measure => simp [intOf]; omega
            | true =>
              have hstep3 := hstep2.out
              rw [hx] at hstep3 cY
              have hnq := Lib.hid (fun W => eql_dn th.dn m.dn (dn_ok (tok hx)) (dn_ok mok) W)
              generalize decide (th.dn = m.dn) = qd at hnq hstep3
              cases hk3 : (th.kind != m.kind) with
              | false =>
                rw [hk3] at hstep3
                simp only [Bool.false_and, Bool.and_false, Bool.false_eq_true, if_false] at hstep3
                have hstep2 := Lib.hid hstep3
                clear hstep3 hx tok
                go_wp2_with (first
                | (refine wpList_load_at 37 (.tmp 10) rfl rfl w4.heap.size 0 rfl th.cells _ hT Try.underlying37 rfl (by kernel_rfl) ?_)
                | (go_at_call 31; refine (cY.out _).mono ?_; rintro r w5 ⟨rfl, hb5⟩
                   have hB5 := Lib.hid (hB4.out.trans (hb5.mono hB4.out.size))
                   have hT5 := rangeAt_keep hT hb5 (by simp)
                   have hk5 := (Ev.flds hT5).1
                   have hd5 := Ev.fldD hT5
                   have hf6 := (hb5.cell (p := ⟨wr.heap.size, 1, none⟩) hl6.out).trans hf5
                   obtain ⟨hm5, hmd5⟩ := hmd.out w5 (hD.out.trans (hB5.out.mono hD.out.size))
                   simp only [Nat.zero_add] at hd5 hmd5
                   clear hb5 hT5)
                | (refine wpList_load_at 35 (.tmp 52) rfl rfl w4.heap.size 8 rfl th.dn.cells _ hd5 Try.underlying35 rfl (by kernel_rfl) ?_)
                | (refine wpList_load_at 35 (.tmp 54) rfl rfl gm 8 rfl m.dn.cells _ hmd5 Try.underlying35 rfl (by kernel_rfl) ?_)
                | (refine wpList_eql_at 35 35 (.tmp 53) (.tmp 55) rfl rfl th.dn.cells.toArray m.dn.cells.toArray rfl rfl dn_guard qd (hnq.out _) ?_))
                go_roundw
                case rel => exact ⟨k + 1, by omega, by go_num, (by unfold Hid; rw [hstep2.out]; exact OwnR.keep hO.out hB5.out), hD.out.trans (hB5.out.mono hD.out.size)⟩
                case measure => simp [intOf]; omega
              | true =>
                rw [hk3] at hstep3
                simp only [Bool.true_and] at hstep3
                cases qd with
                | false =>
                  simp only [Bool.false_eq_true, if_false] at hstep3
                  have hstep2 := Lib.hid hstep3
                  clear hstep3 hx tok
                  go_wp2_with (first
                  | (refine wpList_load_at 37 (.tmp 10) rfl rfl w4.heap.size 0 rfl th.cells _ hT Try.underlying37 rfl (by kernel_rfl) ?_)
                  | (go_at_call 31; refine (cY.out _).mono ?_; rintro r w5 ⟨rfl, hb5⟩
                     have hB5 := Lib.hid (hB4.out.trans (hb5.mono hB4.out.size))
                     have hT5 := rangeAt_keep hT hb5 (by simp)
                     have hk5 := (Ev.flds hT5).1
                     have hd5 := Ev.fldD hT5
                     have hf6 := (hb5.cell (p := ⟨wr.heap.size, 1, none⟩) hl6.out).trans hf5
                     obtain ⟨hm5, hmd5⟩ := hmd.out w5 (hD.out.trans (hB5.out.mono hD.out.size))
                     simp only [Nat.zero_add] at hd5 hmd5
                     clear hb5 hT5)
                  | (refine wpList_load_at 35 (.tmp 52) rfl rfl w4.heap.size 8 rfl th.dn.cells _ hd5 Try.underlying35 rfl (by kernel_rfl) ?_)
                  | (refine wpList_load_at 35 (.tmp 54) rfl rfl gm 8 rfl m.dn.cells _ hmd5 Try.underlying35 rfl (by kernel_rfl) ?_)
                  | (refine wpList_eql_at 35 35 (.tmp 53) (.tmp 55) rfl rfl th.dn.cells.toArray m.dn.cells.toArray rfl rfl dn_guard false (hnq.out _) ?_))
                  go_roundw
                  case rel => exact ⟨k + 1, by omega, by go_num, (by unfold Hid; rw [hstep2.out]; exact OwnR.keep hO.out hB5.out), hD.out.trans (hB5.out.mono hD.out.size)⟩
                  case measure => simp [intOf]; omega
                | true =>
                  simp only [if_true] at hstep3
                  have hstep2 := Lib.hid hstep3
                  clear hstep3 hx tok
                  go_wp2_with (first
                  | (refine wpList_load_at 37 (.tmp 10) rfl rfl w4.heap.size 0 rfl th.cells _ hT Try.underlying37 rfl (by kernel_rfl) ?_)
                  | (go_at_call 31; refine (cY.out _).mono ?_; rintro r w5 ⟨rfl, hb5⟩
                     have hB5 := Lib.hid (hB4.out.trans (hb5.mono hB4.out.size))
                     have hT5 := rangeAt_keep hT hb5 (by simp)
                     have hk5 := (Ev.flds hT5).1
                     have hd5 := Ev.fldD hT5
                     have hf6 := (hb5.cell (p := ⟨wr.heap.size, 1, none⟩) hl6.out).trans hf5
                     obtain ⟨hm5, hmd5⟩ := hmd.out w5 (hD.out.trans (hB5.out.mono hD.out.size))
                     simp only [Nat.zero_add] at hd5 hmd5
                     clear hb5 hT5)
                  | (refine wpList_load_at 35 (.tmp 52) rfl rfl w4.heap.size 8 rfl th.dn.cells _ hd5 Try.underlying35 rfl (by kernel_rfl) ?_)
                  | (refine wpList_load_at 35 (.tmp 54) rfl rfl gm 8 rfl m.dn.cells _ hmd5 Try.underlying35 rfl (by kernel_rfl) ?_)
                  | (refine wpList_eql_at 35 35 (.tmp 53) (.tmp 55) rfl rfl th.dn.cells.toArray m.dn.cells.toArray rfl rfl dn_guard true (hnq.out _) ?_)
                  | (at_builtin
                     refine wpList_append_one rfl _ _ 24 rfl 3 i0 (.int .i64 0) 1 8 Try.underlying24 hi0 hz0 hz1 hz2 rfl (by decide) w2 ((hD.out.trans (hB5.out.mono hD.out.size)).alloc (Nat.le_trans hD.out.size hB5.out.size) (.cells #[.int .i64 e.ses] 3)) _ _ rfl ((OwnR.keep hO.out hB5.out).keep (below_new w5 (.cells #[.int .i64 e.ses] 3))) w5.heap.size 1 (iv e.ses) rfl ?_ rfl ?_ ?_ ?_ ?_
                     · exact rangeAt_list (heap_new w5 (.cells #[.int .i64 e.ses] 3))
                     · intro u hu; simp [iv] at hu; subst hu; rfl
                     · simp only [List.length_map]; unfold maxLen; omega
                     · simp only [List.length_map]; omega
                     intro v' w6 hO2 hB6 _
                     have hO2 := Lib.hid hO2
                     have hB6 := Lib.hid hB6))
                  go_roundw
                  case rel => exact ⟨k + 1, by omega, by go_num, (by unfold Hid OwnI; rw [hstep2.out]; simpa using hO2.out), hB6⟩
                  case measure => simp [intOf]; omega
      · have hkn : ptTo es ses k = pt es ses := by unfold pt; rw [hlen.out, show n = k by omega]
        rw [hkn] at hO
        have hplen := ptTo_len es ses es.length
        have cS := sortI_any (pt es ses) w2.heap.size _ wr hO.out (by unfold pt; rw [hlen.out] at hplen ⊢; omega)
        have hlt2 := OwnR.lt hO.out
        have cS := Lib.hid cS
        clear hplen
        go_wp2_with (go_at_call 33; refine cS.out.mono ?_; rintro r w5 ⟨rfl, hO5, hg5⟩; have hD5 := Lib.hid (hD.out.grown hg5 hD.out.size hlt2); have hO5 := Lib.hid hO5; clear hg5)
        go_ret
        exact ⟨_, rfl, OwnI.mono hO5.out hB.out.size, hB.out.trans (hD5.out.mono hB.out.size)⟩
end Go.Proofs.Ytkgkpoiacbjdfaa
