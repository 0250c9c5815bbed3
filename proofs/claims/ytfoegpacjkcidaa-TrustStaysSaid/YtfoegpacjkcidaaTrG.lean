/- The walk of TrustStays. -/
import Derived.Test.YtfoegpacjkcidaaTrF
namespace Go.Proofs.Ytfoegpacjkcidaa
open Go.RowKit

theorem ahead_append (es ms : List Ev) (who : Int) {k : Nat} (hk : k ≤ es.length) : ahead (es ++ ms) who k = ahead es who k := by
  unfold ahead
  rw [Int.toNat_natCast, List.take_append_of_le_length hk]
theorem safe_append (es ms : List Ev) {k : Nat} (hk : k < es.length) : safe (es ++ ms) k = safe es k := by
  rw [← refSafe_eq, ← refSafe_eq]
  unfold refSafe
  rw [List.getElem?_append_left hk]
  cases es[k]? with
  | none => rfl
  | some e => simp only [ahead_append es ms _ (Nat.le_of_lt hk)]
theorem sesOf_append (es ms : List Ev) {k : Nat} (hk : k < es.length) : sesOf (es ++ ms) k = sesOf es k := by
  unfold sesOf; rw [List.getElem?_append_left hk]
theorem good_append {es ms : List Ev} {ses : Int} (h : good es ses = true) : good (es ++ ms) ses = true := by
  unfold good goodTo at *
  rw [List.any_eq_true] at *
  obtain ⟨i, hi, h⟩ := h
  have hi := List.mem_range.1 hi
  refine ⟨i, List.mem_range.2 (by simp; omega), ?_⟩
  rw [safe_append es ms hi, sesOf_append es ms hi]
  exact h

set_option maxHeartbeats 2000000 in
theorem law_trustStays (es ms : List Ev) (A B : Option Addr) (n c m d : Nat) (w : World) (hn : n ≤ 9223372036854775807) (hm : m ≤ 9223372036854775807) (H : Evs w A n es) (K : Evs w B m ms) :
    Calls Try.prog 6 #[.slice A n c, .slice B m d] w fun r w' => r = .returned (.bool true) ∧ Below w.heap.size w w' := by
  have HH := Lib.hid H
  have KK := Lib.hid K
  have hlen := Lib.hid H.len
  have klen := Lib.hid K.len
  have aw := Lib.hid awake_any
  obtain ⟨i0, hi0, hz0, hz1, hz2⟩ := info_parts ev_info
  by_cases h60 : 60 < n
  · go_enter Try.func6, Try.ntmps6
    go_wp2_with (go_at_call 9; refine (aw.out _).mono ?_; rintro r w1 ⟨rfl, hb1⟩)
    go_ret
    exact ⟨rfl, hb1⟩
  by_cases h61 : 60 < m
  · go_enter Try.func6, Try.ntmps6
    go_wp2_with (go_at_call 9; refine (aw.out _).mono ?_; rintro r w1 ⟨rfl, hb1⟩)
    go_ret
    exact ⟨rfl, hb1⟩
  have hn60 : n ≤ 60 := by omega
  have hm60 : m ≤ 60 := by omega
  go_enter Try.func6, Try.ntmps6
  go_wp2_with fail
  go_loopw [5, 6] (fun v i wr => ∃ k : Nat, k ≤ n ∧ i = .int .i64 k ∧ Hid (OwnE wr w.heap.size v (es.take k)) ∧ Hid (Below w.heap.size w wr)) (fun _ i _ => n - (intOf i).toNat)
  case atStart => exact ⟨0, by omega, rfl, OwnR.nil_ _ _ _ _, Below.refl _ _⟩
  case round =>
    obtain ⟨k, hk, rfl, hO, hB⟩ := hrel
    by_cases hlt : k < n
    · obtain ⟨b, off, e, rfl, hb, he, hr⟩ := H.row hlt
      have hr' := rangeAt_keep hr hB.out hb
      have hstep := Lib.hid (take_succ_of he)
      have hle : (es.take k).length ≤ k := List.length_take_le _ _
      have hO1 := Lib.hid (hO.out.keep ((Below.refl wr.heap.size wr).alloc (Nat.le_refl _) (.cells e.cells.toArray 36)))
      have hB1 := Lib.hid (hB.out.alloc hB.out.size (.cells e.cells.toArray 36))
      clear hr he
      go_wp2_with (first
        | (refine wpList_load_at rfl 36 _ rfl b (off + k * 34) rfl e.cells _ hr' Try.underlying36 rfl (by kernel_rfl) ?_)
        | (refine wpList_buildSlice_as rfl 22 36 1 _ rfl i0 (.agg Ev.zero.cells.toArray) e.cells.toArray Try.underlying22 hi0 hz0 (by rw [hz1]; decide) (by rw [hz1]; decide) ?_ ?_
           · rw [hz1]; exact fill_one 34 _ _ (by simp) rfl)
        | (at_builtin
           refine wpList_append_one rfl _ _ 22 rfl 36 i0 (.agg Ev.zero.cells.toArray) 34 400 Try.underlying22 hi0 hz0 hz1 hz2 rfl (by decide) w hB1.out _ _ rfl hO1.out wr.heap.size 1 e.cells rfl ?_ rfl e.one_ ?_ ?_ ?_
           · exact rangeAt_list (heap_new wr (.cells e.cells.toArray 36))
           · simp only [List.length_map]; unfold maxLen; omega
           · simp only [List.length_map]; omega
           intro v' w2 hO2 hB2 _
           have hO2 := Lib.hid hO2
           have hB2 := Lib.hid hB2))
      go_roundw
      case rel => exact ⟨k + 1, by omega, by go_num, (by unfold Hid OwnE; rw [hstep.out, List.map_append]; simpa using hO2.out), hB2⟩
      case measure => simp [intOf]; omega
    · have hkn : es.take k = es := List.take_of_length_le (by rw [hlen.out]; omega)
      rw [hkn] at hO
      obtain ⟨wo, rfl⟩ : ∃ wo : World, wo = wr := ⟨_, rfl⟩
      clear hkn
      go_wp2_with fail
      go_loopw [5, 7] (fun v i wr => ∃ j : Nat, j ≤ m ∧ i = .int .i64 j ∧ Hid (OwnE wr w.heap.size v (es ++ ms.take j)) ∧ Hid (Below w.heap.size w wr)) (fun _ i _ => m - (intOf i).toNat)
      case atStart => exact ⟨0, by omega, rfl, by simpa [Hid] using hO.out, hB⟩
      case round =>
        obtain ⟨j, hj, rfl, hO, hB⟩ := hrel
        by_cases hjt : j < m
        · obtain ⟨b, off, e, rfl, hb, he, hr⟩ := K.row hjt
          have hr' := rangeAt_keep hr hB.out hb
          have hstep := Lib.hid (take_succ_of he)
          have hle : (es ++ ms.take j).length ≤ 60 + j := by
            have : (ms.take j).length ≤ j := List.length_take_le _ _
            rw [List.length_append, hlen.out]; omega
          have hO1 := Lib.hid (hO.out.keep ((Below.refl wr.heap.size wr).alloc (Nat.le_refl _) (.cells e.cells.toArray 36)))
          have hB1 := Lib.hid (hB.out.alloc hB.out.size (.cells e.cells.toArray 36))
          clear hr he
          go_wp2_with (first
            | (refine wpList_load_at rfl 36 _ rfl b (off + j * 34) rfl e.cells _ hr' Try.underlying36 rfl (by kernel_rfl) ?_)
            | (refine wpList_buildSlice_as rfl 22 36 1 _ rfl i0 (.agg Ev.zero.cells.toArray) e.cells.toArray Try.underlying22 hi0 hz0 (by rw [hz1]; decide) (by rw [hz1]; decide) ?_ ?_
               · rw [hz1]; exact fill_one 34 _ _ (by simp) rfl)
            | (at_builtin
               refine wpList_append_one rfl _ _ 22 rfl 36 i0 (.agg Ev.zero.cells.toArray) 34 400 Try.underlying22 hi0 hz0 hz1 hz2 rfl (by decide) w hB1.out _ _ rfl hO1.out wr.heap.size 1 e.cells rfl ?_ rfl e.one_ ?_ ?_ ?_
               · exact rangeAt_list (heap_new wr (.cells e.cells.toArray 36))
               · simp only [List.length_map]; unfold maxLen; omega
               · simp only [List.length_map]; omega
               intro v' w2 hO2 hB2 _
               have hO2 := Lib.hid hO2
               have hB2 := Lib.hid hB2))
          go_roundw
          case rel => exact ⟨j + 1, by omega, by go_num, (by unfold Hid OwnE; rw [hstep.out, ← List.append_assoc, List.map_append (l₂ := [e])]; simpa using hO2.out), hB2⟩
          case measure => simp [intOf]; omega
        · have hkn : ms.take j = ms := List.take_of_length_le (by rw [klen.out]; omega)
          rw [hkn] at hO
          obtain ⟨A1, N, c1, hv, hN, hE1⟩ := hO.out.evs_
          obtain ⟨w1, rfl⟩ : ∃ w1 : World, w1 = wr := ⟨_, rfl⟩
          have hE1 := Lib.hid hE1
          have hl1 : N ≤ 9223372036854775807 := by rw [hN.out, List.length_append, hlen.out, klen.out]; omega
          have hv := Lib.hid hv
          clear hkn hO
          rw [hv.out]
          go_wp2_with fail
          go_loopw [8] (fun i wr => ∃ q : Nat, q ≤ n ∧ i = .int .i64 q ∧ Hid (Below w1.heap.size w1 wr)) (fun i _ => n - (intOf i).toNat)
          case atStart => exact ⟨0, by omega, rfl, Below.refl _ _⟩
          case round =>
            obtain ⟨q, hq, rfl, hD⟩ := hrel
            have hD0 := Lib.hid (hB.out.trans (hD.out.mono hB.out.size))
            by_cases hqt : q < n
            · obtain ⟨b, off, e, rfl, hb, he, hr⟩ := H.row hqt
              obtain ⟨_, f1, _, _⟩ := Ev.flds hr
              have cS := fun W (h : Below w.heap.size w W) => safe_any es (some ⟨b, off, none⟩) n c q W hn (HH.out.keep h)
              have cT := fun W (h : Below w1.heap.size w1 W) => safe_any (es ++ ms) A1 N c1 q W hl1 (hE1.out.keep h)
              have cG := fun W (h : Below w.heap.size w W) => good_any es (some ⟨b, off, none⟩) n c e.ses W hn (HH.out.keep h)
              have cF := fun W (h : Below w1.heap.size w1 W) => good_any (es ++ ms) A1 N c1 e.ses W hl1 (hE1.out.keep h)
              have hcell := fun W (h : Below w.heap.size w W) => (h.cell (p := ⟨b, off + q * 34 + 1, none⟩) hb).trans f1
              rw [safe_append es ms (by rw [hlen.out]; exact hqt)] at cT
              have hga := good_append (es := es) (ms := ms) (ses := e.ses)
              have hcell := Lib.hid hcell
              have cS := Lib.hid cS
              clear hr he f1
              cases hs : safe es q <;> cases hg : good es e.ses
              all_goals
                try rw [hga hg] at cF
                rw [hs] at cT
                rw [hg] at cG
                have cT := Lib.hid cT
                have cG := Lib.hid cG
                have cF := Lib.hid cF
                clear hg hga
                go_wp2_with fail
                refine (cS.out wr hD0.out).mono ?_
                rintro r w2 ⟨rfl, hb2⟩
                rw [hs]
                clear hs
                have hD2 := Lib.hid (hD.out.trans (hb2.mono hD.out.size))
                clear hb2
                go_wp2_with fail
                refine (cT.out w2 hD2.out).mono ?_
                rintro r w3 ⟨rfl, hb3⟩
                have hD3 := Lib.hid (hD2.out.trans (hb3.mono hD2.out.size))
                clear hb3
                have hw3 := Lib.hid (hB.out.trans (hD3.out.mono hB.out.size))
                have hc3 := hcell.out w3 hw3.out
                go_wp2_with fail
                refine (cG.out w3 hw3.out).mono ?_
                rintro r w4 ⟨rfl, hb4⟩
                have hD4 := Lib.hid (hD3.out.trans (hb4.mono hD3.out.size))
                clear hb4 hc3
                have hw4 := Lib.hid (hB.out.trans (hD4.out.mono hB.out.size))
                have hc4 := hcell.out w4 hw4.out
                go_wp2_with (go_at_call 24; refine (cF.out w4 hD4.out).mono ?_; rintro r w5 ⟨rfl, hb5⟩)
                go_roundw
                case rel => first | exact ⟨q + 1, by omega, by go_num, hD4.out.trans (hb5.mono hD4.out.size)⟩ | exact ⟨q + 1, by omega, by go_num, hD4⟩
                case measure => simp [intOf]; omega
            · go_wp2_with (go_at_call 9; refine (aw.out _).mono ?_; rintro r w2 ⟨rfl, hb2⟩)
              go_ret
              exact ⟨rfl, hD0.out.trans (hb2.mono hD0.out.size)⟩
end Go.Proofs.Ytfoegpacjkcidaa
