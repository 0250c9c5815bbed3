/- Census: the walks of Sessions, Busy, Lost, and of the reference's Events, Lost. -/
import Derived.Test.YtkgkpoiacbjdfaaCsA
import Derived.Deep.RegionHeld3
namespace Go.Proofs.Ytkgkpoiacbjdfaa
open Go.RowKit

set_option maxHeartbeats 400000 in
theorem hasC_any (xs : List Int) (A : Option Addr) (n c : Nat) (s : Int) (w : World) (hn : n ≤ 9223372036854775807) (H : Ints w A n xs) :
    Calls Try.prog 21 #[.slice A n c, .int .i64 s] w fun r w' => r = .returned (.bool (hasI xs s)) ∧ w = w' := by
  have hlen := Lib.hid H.len
  go_enter Try.func21, Try.ntmps21
  go_wp2
  go_loop [5] (fun i => ∃ k : Nat, k ≤ n ∧ i = .int .i64 k ∧ Hid (((xs.take k).any (· == s)) = false)) (fun i => n - (intOf i).toNat)
  case atStart => exact ⟨0, by omega, rfl, by simp [Hid]⟩
  case round =>
    obtain ⟨k, hk, rfl, hf⟩ := hrel
    by_cases hlt : k < n
    · obtain ⟨b, off, x, rfl, hb, hx, hc⟩ := H.at_ hlt
      have hx := Lib.hid hx
      cases he : (x == s) with
      | true =>
        have hq := Lib.hid he
        go_wp2
        go_ret
        exact ⟨ret_bool (any_hit _ hx.out hq.out).symm, rfl⟩
      | false =>
        have hq := Lib.hid he
        go_wp2
        go_round
        case rel => exact ⟨k + 1, by omega, by go_num, (by unfold Hid; rw [any_take_succ _ hx.out, hf.out, hq.out]; rfl)⟩
        case measure => simp [intOf]; omega
    · go_wp2
      go_ret
      exact ⟨ret_bool (any_whole (n := k) (by rw [hlen.out]; omega) hf.out).symm, rfl⟩

set_option maxHeartbeats 400000 in
theorem risesC_any (xs : List Int) (A : Option Addr) (n c : Nat) (w : World) (hn : n ≤ 9223372036854775807) (H : Ints w A n xs) :
    Calls Try.prog 19 #[.slice A n c] w fun r w' => r = .returned (.bool (rises xs)) ∧ Below w.heap.size w w' := by
  have hlen := Lib.hid H.len
  go_enter Try.func19, Try.ntmps19
  go_wp2
  go_loopw [3] (fun i wr => ∃ k : Nat, k + 1 ≤ n + 1 ∧ i = .int .i64 (k + 1 : Nat) ∧ Hid (risesTo xs k = true) ∧ Hid (Below w.heap.size w wr)) (fun i _ => n + 1 - (intOf i).toNat)
  case atStart => exact ⟨0, by omega, rfl, by simp [Hid, risesTo], Below.refl _ _⟩
  case round =>
    obtain ⟨k, hk, rfl, hf, hD⟩ := hrel
    by_cases hlt : k + 1 < n
    · obtain ⟨b, off, x, rfl, hb, hx, hc0⟩ := H.at_ hlt
      obtain ⟨b', off', y, e, hb', hy, hd0⟩ := H.at_ (show k < n by omega)
      simp only [Option.some.injEq, Addr.mk.injEq] at e
      obtain ⟨rfl, rfl, _⟩ := e
      have hc := (hD.out.cell (p := ⟨b, off + (k + 1), none⟩) hb).trans hc0
      have hd := (hD.out.cell (p := ⟨b, off + k, none⟩) hb).trans hd0
      have hgx : xs.getD (k + 1) 0 = x := by rw [List.getD_eq_getElem?_getD, hx]; rfl
      have hgy : xs.getD k 0 = y := by rw [List.getD_eq_getElem?_getD, hy]; rfl
      have hstep := risesTo_succ xs k
      rw [hgx, hgy] at hstep
      have hbad := Lib.hid (fun h : ¬ y < x => rises_bad (xs := xs) (k := k) (by rw [hlen.out]; exact hlt) (by rw [hgx, hgy]; exact h))
      have hstep := Lib.hid hstep
      have e1 : ((k + 1 : Nat) : Int) = (k : Int) + 1 := by omega
      have e2 : IntKind.i64.wrap ((k : Int) + 1 - 1) = (k : Int) := by rw [show (k : Int) + 1 - 1 = k by omega]; exact IntWalk.i64_in _ (by omega)
      have hl0 : (0 : Int) ≤ (k : Int) + 1 := by omega
      have hl1 : (k : Int) + 1 < (n : Int) := by omega
      have hl2 : (k : Int) < (n : Int) := by omega
      have hl3 : (0 : Int) ≤ (k : Int) := by omega
      clear hgx hgy hx hy hc0 hd0
      rw [e1]
      clear e1
      by_cases hxy : x ≤ y
      · have hq : decide (x ≤ y) = true := decide_eq_true hxy
        go_wp2
        go_quiet (fail)
        go_wp2
        go_ret
        exact ⟨ret_bool (hbad.out (by omega)).symm, hD.out.trans (Below.mono (drewN_below _) hD.out.size)⟩
      · have hq : decide (x ≤ y) = false := decide_eq_false hxy
        go_wp2
        go_quiet (fail)
        go_wp2
        go_roundw
        case rel => exact ⟨k + 1, by omega, by go_num, (by unfold Hid; rw [hstep.out, hf.out]; simp; omega), hD.out.trans (Below.mono (drewN_below _) hD.out.size)⟩
        case measure => simp [intOf]; omega
    · go_wp2
      go_ret
      refine ⟨ret_bool ?_, hD.out⟩
      unfold rises
      rw [hlen.out]
      exact (risesTo_le (by omega) hf.out).symm

theorem Evs.take_ {w : World} {A : Option Addr} {n m : Nat} {es : List Ev} (h : Evs w A n es) (hm : m ≤ n) : Evs w A m (es.take m) := by
  unfold Evs at *
  rw [List.map_take]
  exact Rws.take_ h hm

set_option maxHeartbeats 1000000 in
theorem refEvents_any (es : List Ev) (A : Option Addr) (n c : Nat) (s : Int) (w : World) (hn : n ≤ 1000000) (H : Evs w A n es) :
    Calls Try.prog 20 #[.slice A n c, .int .i64 s] w fun r w' => r = .returned (.int .i64 (evN es s)) ∧ w = w' := by
  have hlen := Lib.hid H.len
  go_enter Try.func20, Try.ntmps20
  go_wp2
  go_loop [5, 6] (fun q i => ∃ k : Nat, k ≤ n ∧ i = .int .i64 k ∧ q = .int .i64 ((es.take k).countP (isEv s) : Nat)) (fun _ i => n - (intOf i).toNat)
  case atStart => exact ⟨0, by omega, rfl, rfl⟩
  case round =>
    obtain ⟨k, hk, rfl, rfl⟩ := hrel
    have hle : (es.take k).countP (isEv s) ≤ k := Nat.le_trans List.countP_le_length (List.length_take_le _ _)
    by_cases hlt : k < n
    · obtain ⟨b, off, e, rfl, hb, he, hr⟩ := H.row hlt
      obtain ⟨h0, h1, _, _⟩ := Ev.flds hr
      have hstep := ev_take_succ s he
      clear hr he
      generalize (es.take k).countP (isEv s) = q at *
      cases e1 : (e.kind != 7) <;> cases e2 : (e.ses == s)
      all_goals
        have hh : isEv s e = ((e.kind != 7) && (e.ses == s)) := rfl
        rw [e1, e2] at hh
        rw [hh] at hstep
        simp only [Bool.and_self, Bool.false_and, Bool.and_false, Bool.false_eq_true, if_false, if_true, Nat.add_zero] at hstep
        have hstep2 := Lib.hid hstep
        clear hstep hh
        go_wp2
        go_round
        case rel => exact ⟨k + 1, by omega, by go_num, by rw [hstep2.out]; try go_num⟩
        case measure => simp [intOf]; omega
    · have hq := Lib.hid (show (es.take k).countP (isEv s) = evN es s by unfold evN; rw [List.take_of_length_le (by rw [hlen.out]; omega)])
      rw [hq.out]
      go_wp2
      go_ret
      exact ⟨rfl, rfl⟩

set_option maxHeartbeats 1000000 in
theorem refLost_any (es : List Ev) (A : Option Addr) (n c : Nat) (s : Int) (w : World) (hn : n ≤ 1000000) (H : Evs w A n es) :
    Calls Try.prog 22 #[.slice A n c, .int .i64 s] w fun r w' => r = .returned (.bool (lostR es s)) ∧ w = w' := by
  have hlen := Lib.hid H.len
  go_enter Try.func22, Try.ntmps22
  go_wp2
  go_loop [5] (fun i => ∃ k : Nat, k ≤ n ∧ i = .int .i64 k ∧ Hid ((es.take k).any (marks s) = false)) (fun i => n - (intOf i).toNat)
  case atStart => exact ⟨0, by omega, rfl, by simp [Hid]⟩
  case round =>
    obtain ⟨k, hk, rfl, hf⟩ := hrel
    by_cases hlt : k < n
    · obtain ⟨b, off, e, rfl, hb, he, hr⟩ := H.row hlt
      obtain ⟨h0, h1, _, _⟩ := Ev.flds hr
      have he := Lib.hid he
      have hhit := Lib.hid (fun (hm : marks s e = true) => (show lostR es s = (e.kind == 6) by
        rcases find_idx (marks s) es with ⟨hi, _⟩ | ⟨j, x, hi, hx, hff⟩
        · rw [idx_hit he.out hm hf.out] at hi; omega
        · rw [idx_hit he.out hm hf.out] at hi
          have : j = k := by omega
          subst this
          rw [he.out] at hx
          injection hx with hx
          subst hx
          unfold lostR
          rw [hff]))
      clear hr
      cases e1 : (e.ses != s)
      · have e1' : (e.ses == s) = true := by
          rw [bne_eq_false_iff_eq] at e1
          rw [e1]; simp
        cases e2 : (e.kind == 1) <;> cases e3 : (e.kind == 2) <;> cases e4 : (e.kind == 6)
        all_goals
          have hm : marks s e = ((e.kind == 1) || (e.kind == 2) || (e.kind == 6)) := by unfold marks exch; rw [e1', Bool.true_and]
          rw [e2, e3, e4] at hm
          simp only [Bool.or_self, Bool.or_true, Bool.true_or, Bool.or_false, Bool.false_or] at hm
          first
            | (have hl := hhit.out hm
               rw [e4] at hl
               have hl2 := Lib.hid hl
               clear hl hm e1'
               go_wp2
               go_ret
               exact ⟨ret_bool hl2.out.symm, rfl⟩)
            | (have hl2 := Lib.hid hm
               clear hm e1'
               go_wp2
               go_round
               case rel => exact ⟨k + 1, by omega, by go_num, (by unfold Hid; rw [any_take_succ _ he.out, hf.out, hl2.out]; rfl)⟩
               case measure => simp [intOf]; omega)
            | (exfalso
               simp only [beq_iff_eq, beq_eq_false_iff_ne] at e2 e3 e4
               omega)
      · have hm : marks s e = false := by unfold marks; rw [show (e.ses == s) = false by rw [bne_iff_ne] at e1; simpa using e1]; rfl
        have hl2 := Lib.hid hm
        clear hm
        go_wp2
        go_round
        case rel => exact ⟨k + 1, by omega, by go_num, (by unfold Hid; rw [any_take_succ _ he.out, hf.out, hl2.out]; rfl)⟩
        case measure => simp [intOf]; omega
    · have hq := Lib.hid (show lostR es s = false by
        unfold lostR
        rw [List.find?_eq_none.2]
        intro x hx
        have := any_whole (n := k) (by rw [hlen.out]; omega) hf.out
        rw [List.any_eq_false] at this
        exact this x hx)
      go_wp2
      go_ret
      exact ⟨ret_bool hq.out.symm, rfl⟩

/-- A list of sessions that a call hands back. -/
def SesR (w : World) (l : List Int) (r : Ending) (w' : World) : Prop := ∃ A m c, r = .returned (.slice A m c) ∧ m = (nubs l).length ∧ Ints w' A m (nubs l) ∧ Below w.heap.size w w'
set_option maxHeartbeats 1000000 in
theorem sessions_any (es : List Ev) (A : Option Addr) (n c : Nat) (w : World) (hn : n ≤ 100000) (H : Evs w A n es) :
    Calls Try.prog 16 #[.slice A n c] w (SesR w (sesTo es n)) := by
  obtain ⟨i0, hi0, hz0, hz1, hz2⟩ := info_parts int_info
  go_enter Try.func16, Try.ntmps16
  go_wp2
  go_loopw [3, 8] (fun v i wr => ∃ k : Nat, k ≤ n ∧ i = .int .i64 k ∧ Hid (OwnI wr w.heap.size v (sesTo es k)) ∧ Hid (Below w.heap.size w wr)) (fun _ i _ => n - (intOf i).toNat)
  case atStart => exact ⟨0, by omega, rfl, OwnR.nil_ _ _ _ _, Below.refl _ _⟩
  case round =>
    obtain ⟨k, hk, rfl, hO, hB⟩ := hrel
    by_cases hlt : k < n
    · obtain ⟨b, off, e, rfl, hb, he, hr⟩ := H.row hlt
      have hr' := rangeAt_keep hr hB.out hb
      have hg1 := heap_new wr (.cells Ev.zero.cells.toArray 37)
      have hE := rangeAt_list (heap_new wr (.cells e.cells.toArray 37))
      obtain ⟨hf0, hf1, _, _⟩ := Ev.flds hE
      simp only [Nat.zero_add] at hf1
      have hBW := Lib.hid (below_new wr (.cells e.cells.toArray 37))
      have hle := sesTo_len es k
      have hstep := sesTo_succ he
      have hnt : notTaken e = (e.kind != 7) := rfl
      clear hr he hE
      cases hq : (e.kind != 7) with
      | false =>
        rw [hnt, hq] at hstep
        simp only [Bool.false_eq_true, if_false, List.append_nil] at hstep
        have hstep2 := Lib.hid hstep
        clear hstep hnt
        go_wp2_with (first
          | (refine wpList_load_at 37 (.tmp 10) rfl rfl b (off + k * 34) rfl e.cells _ hr' Try.underlying37 rfl (by kernel_rfl) ?_)
          | (refine wpList_alloc_row 37 rfl rfl Ev.zero.cells.toArray ev_zero ?_; try simp only [World.size_alloc])
          | (refine wpList_store_at 37 _ _ rfl rfl wr.heap.size e.cells.toArray rfl rfl 37 Ev.zero.cells.toArray hg1 (by kernel_rfl) rfl e.one ?_
             rw [setRow_new]))
        go_roundw
        case rel => exact ⟨k + 1, by omega, by go_num, (by unfold Hid; rw [hstep2.out]; exact OwnR.keep hO.out hBW.out), hB.out.trans (hBW.out.mono hB.out.size)⟩
        case measure => simp [intOf]; omega
      | true =>
        rw [hnt, hq] at hstep
        simp only [if_true] at hstep
        have hstep2 := Lib.hid hstep
        clear hstep hnt
        have hO1 := Lib.hid ((OwnR.keep hO.out hBW.out).keep (below_new (wr.alloc (.cells e.cells.toArray 37)) (.cells #[.int .i64 e.ses] 3)))
        have hB2 := Lib.hid ((hB.out.trans (hBW.out.mono hB.out.size)).alloc (Nat.le_trans hB.out.size hBW.out.size) (.cells #[.int .i64 e.ses] 3))
        go_wp2_with (first
          | (refine wpList_load_at 37 (.tmp 10) rfl rfl b (off + k * 34) rfl e.cells _ hr' Try.underlying37 rfl (by kernel_rfl) ?_)
          | (refine wpList_alloc_row 37 rfl rfl Ev.zero.cells.toArray ev_zero ?_; try simp only [World.size_alloc])
          | (refine wpList_store_at 37 _ _ rfl rfl wr.heap.size e.cells.toArray rfl rfl 37 Ev.zero.cells.toArray hg1 (by kernel_rfl) rfl e.one ?_
             rw [setRow_new])
          | (at_builtin
             refine wpList_append_one rfl _ _ 24 rfl 3 i0 (.int .i64 0) 1 8 Try.underlying24 hi0 hz0 hz1 hz2 rfl (by decide) w hB2.out _ _ rfl hO1.out (wr.heap.size + 1) 1 (iv e.ses) rfl ?_ rfl ?_ ?_ ?_ ?_
             · have := rangeAt_list (heap_new (wr.alloc (.cells e.cells.toArray 37)) (.cells #[.int .i64 e.ses] 3))
               simp only [World.size_alloc] at this
               exact this
             · intro u hu; simp [iv] at hu; subst hu; rfl
             · simp only [List.length_map]; unfold maxLen; omega
             · simp only [List.length_map]; omega
             intro v' w6 hO2 hB6 _
             have hO2 := Lib.hid hO2
             have hB6 := Lib.hid hB6))
        go_roundw
        case rel => exact ⟨k + 1, by omega, by go_num, (by unfold Hid OwnI; rw [hstep2.out]; simpa using hO2.out), hB6⟩
        case measure => simp [intOf]; omega
    · obtain rfl : k = n := by omega
      have hle := sesTo_len es k
      have cS := Lib.hid (sortI_any (sesTo es k) w.heap.size _ wr hO.out (by omega))
      have hlt2 := OwnR.lt hO.out
      have hsl := srt_len (sesTo es k)
      go_wp2_with (first
        | (go_at_call 33; refine cS.out.mono ?_; rintro r w5 ⟨rfl, hO5, hg5⟩; have hD5 := Lib.hid (hB.out.grown hg5 hB.out.size hlt2); have cC := Lib.hid (compactI_any (srt (sesTo es k)) w.heap.size _ w5 hO5 (by omega)); have hlt5 := OwnR.lt hO5; clear hg5)
        | (go_at_call 36; refine cC.out.mono ?_; rintro r w6 ⟨A6, _, c6, rfl, rfl, hI6, hg6⟩; have hD6 := Lib.hid (hD5.out.grown hg6 hD5.out.size hlt5); have hI6 := Lib.hid hI6; clear hg6))
      go_ret
      exact ⟨_, _, _, rfl, rfl, hI6.out, hD6.out⟩

theorem lostTo_tail {es : List Ev} {k : Nat} (h : es.length ≤ k) : lostTo es (k + 1) = lostTo es k := by
  rw [lostTo, List.getElem?_eq_none_iff.2 h]
theorem keysTo_take {es : List Ev} {k : Nat} (s : Int) : keysTo (es.take k) s k = keysTo es s k := by
  unfold keysTo
  rw [List.take_take, Nat.min_self]
set_option maxRecDepth 100000 in
set_option maxHeartbeats 2000000 in
theorem lost_any (es : List Ev) (A : Option Addr) (n c : Nat) (w : World) (hn : n ≤ 100000) (hc : n ≤ c) (hc2 : c ≤ 9223372036854775807) (H : Evs w A n es) :
    Calls Try.prog 17 #[.slice A n c] w (SesR w (lostTo es n)) := by
  obtain ⟨i0, hi0, hz0, hz1, hz2⟩ := info_parts int_info
  go_enter Try.func17, Try.ntmps17
  go_wp2
  go_loopw [3, 8] (fun v i wr => ∃ k : Nat, k ≤ n ∧ i = .int .i64 k ∧ Hid (OwnI wr w.heap.size v (lostTo es k)) ∧ Hid (Below w.heap.size w wr)) (fun _ i _ => n - (intOf i).toNat)
  case atStart => exact ⟨0, by omega, rfl, OwnR.nil_ _ _ _ _, Below.refl _ _⟩
  case round =>
    obtain ⟨k, hk, rfl, hO, hB⟩ := hrel
    by_cases hlt : k < n
    · obtain ⟨b, off, e, rfl, hb, he, hr⟩ := H.row hlt
      have hr' := rangeAt_keep hr hB.out hb
      have hg1 := heap_new wr (.cells Ev.zero.cells.toArray 37)
      have hE := rangeAt_list (heap_new wr (.cells e.cells.toArray 37))
      obtain ⟨hf0, hf1, _, _⟩ := Ev.flds hE
      simp only [Nat.zero_add] at hf1
      have hBW := Lib.hid (below_new wr (.cells e.cells.toArray 37))
      have hlW : wr.heap.size < (wr.alloc (.cells e.cells.toArray 37)).heap.size := by simp
      have hle := lostTo_len es k
      have hstep := lostTo_step he
      have hil : isLost es k e = (e.kind == 6 && (keysTo es e.ses k).length == 0) := rfl
      have hBw := Lib.hid (hB.out.trans (hBW.out.mono hB.out.size))
      have cK := Lib.hid (fun W (h : Below w.heap.size w W) => keys_any (es.take k) (some ⟨b, off, none⟩) k c e.ses W (by omega) ((H.keep h).take_ (by omega)))
      rw [keysTo_take] at cK
      clear hr he hE
      have w1 := fun (W1 : World) => True
      go_upto_region 5 with (first
          | (refine wpList_load_at 37 (.tmp 11) rfl rfl b (off + k * 34) rfl e.cells _ hr' Try.underlying37 rfl (by kernel_rfl) ?_)
          | (refine wpList_alloc_row 37 rfl rfl Ev.zero.cells.toArray ev_zero ?_; try simp only [World.size_alloc])
          | (refine wpList_store_at 37 _ _ rfl rfl wr.heap.size e.cells.toArray rfl rfl 37 Ev.zero.cells.toArray hg1 (by kernel_rfl) rfl e.one ?_
             rw [setRow_new]))
      have hO1 := Lib.hid (OwnR.keep hO.out hBW.out)
      generalize wr.alloc (.cells e.cells.toArray 37) = wA at hBW hBw hlW hf0 hf1 hO1 ⊢
      cases hq : (e.kind != 6) with
      | true =>
        have hq2 : (e.kind == 6) = false := by rw [bne_iff_ne] at hq; simpa using hq
        rw [hil, hq2] at hstep
        simp only [Bool.false_and, Bool.false_eq_true, if_false] at hstep
        have hstep2 := Lib.hid hstep
        clear hstep hil hq2
        go_wp2_with fail
        go_roundw
        case rel => exact ⟨k + 1, by omega, by go_num, (by unfold Hid; rw [hstep2.out]; exact hO1.out), hBw⟩
        case measure => simp [intOf]; omega
      | false =>
        have hq2 : (e.kind == 6) = true := by rw [bne_eq_false_iff_eq] at hq; rw [hq]; rfl
        rw [hil, hq2, Bool.true_and] at hstep
        have hkn : (0 : Int) ≤ (k : Int) := by omega
        have hkn2 : (k : Int) ≤ (c : Int) := by omega
        clear hil hq2
        go_upto_region 6 with fail
        have hB0 := Lib.hid (show Below wA.heap.size wA wA.drew from drewN_below 1)
        have hS := Lib.hid (fun W (h : Below wA.heap.size wA W) => (h.cell (p := ⟨wr.heap.size, 1, none⟩) hlW).trans hf1)
        have hK2 := Lib.hid (keysTo_len es e.ses k)
        clear hf0 hf1
        go_region_held3 (fun W => W.cell? ⟨wr.heap.size, 1, none⟩ = some (.int .i64 e.ses))
          (first | exact hS.out _ hB0.out | exact hS.out _ hB5.out)
          (first
            | (go_at_call 13; (with_reducible refine (cK.out _ (hBw.out.trans (hB0.out.mono hBw.out.size))).mono ?_); rintro r w5 ⟨v5, rfl, hO5, hb5⟩
               obtain ⟨A5, c5, rfl, hI5⟩ := OwnR.rws hO5
               rw [List.length_map]
               have hB5 := Lib.hid (Below.trans hB0.out (hb5.mono hB0.out.size))
               clear hO5 hI5 hb5))
        all_goals
          have hO2 := Lib.hid (OwnR.keep hO1.out hB5.out)
          have hB6 := Lib.hid (hBw.out.trans (hB5.out.mono hBw.out.size))
          have hf5 := hS.out _ hB5.out
          generalize hkl : (keysTo es e.ses k).length = kl at *
          clear hkl
          have hO3 := Lib.hid (OwnR.keep hO2.out (below_new w5 (.cells #[.int .i64 e.ses] 3)))
          have hB7 := Lib.hid (hB6.out.alloc hB6.out.size (.cells #[.int .i64 e.ses] 3))
          by_cases h0 : kl = 0
          · have hz : ((kl : Int) == 0) = true := by rw [h0]; rfl
            rw [h0] at hstep
            simp only [beq_self_eq_true, if_true] at hstep
            have hstep2 := Lib.hid hstep
            clear hstep h0
            go_wp2_with (at_builtin
                         refine wpList_append_one rfl _ _ 24 rfl 3 i0 (.int .i64 0) 1 8 Try.underlying24 hi0 hz0 hz1 hz2 rfl (by decide) w hB7.out _ _ rfl hO3.out w5.heap.size 1 (iv e.ses) rfl ?_ rfl ?_ ?_ ?_ ?_
                         · exact rangeAt_list (heap_new w5 (.cells #[.int .i64 e.ses] 3))
                         · intro u hu; simp [iv] at hu; subst hu; rfl
                         · simp only [List.length_map]; unfold maxLen; omega
                         · simp only [List.length_map]; omega
                         intro v' w6 hO4 hB8 _
                         have hO4 := Lib.hid hO4
                         have hB8 := Lib.hid hB8)
            go_roundw
            case rel => exact ⟨k + 1, by omega, by go_num, (by unfold Hid OwnI; rw [hstep2.out]; simpa using hO4.out), hB8⟩
            case measure => simp [intOf]; omega
          · have hz : ((kl : Int) == 0) = false := by rw [beq_eq_false_iff_ne]; omega
            have hz2 : (kl == 0) = false := by rw [beq_eq_false_iff_ne]; exact h0
            rw [hz2] at hstep
            simp only [Bool.false_eq_true, if_false] at hstep
            have hstep2 := Lib.hid hstep
            clear hstep h0 hz2
            go_wp2_with fail
            go_roundw
            case rel => exact ⟨k + 1, by omega, by go_num, (by unfold Hid; rw [hstep2.out]; exact hO2.out), hB6⟩
            case measure => simp [intOf]; omega
    · obtain rfl : k = n := by omega
      have hle := lostTo_len es k
      have cS := Lib.hid (sortI_any (lostTo es k) w.heap.size _ wr hO.out (by omega))
      have hlt2 := OwnR.lt hO.out
      have hsl := srt_len (lostTo es k)
      go_wp2_with (first
        | (go_at_call 33; refine cS.out.mono ?_; rintro r w5 ⟨rfl, hO5, hg5⟩; have hD5 := Lib.hid (hB.out.grown hg5 hB.out.size hlt2); have cC := Lib.hid (compactI_any (srt (lostTo es k)) w.heap.size _ w5 hO5 (by omega)); have hlt5 := OwnR.lt hO5; clear hg5)
        | (go_at_call 36; refine cC.out.mono ?_; rintro r w6 ⟨A6, _, c6, rfl, rfl, hI6, hg6⟩; have hD6 := Lib.hid (hD5.out.grown hg6 hD5.out.size hlt5); have hI6 := Lib.hid hI6; clear hg6))
      go_ret
      exact ⟨_, _, _, rfl, rfl, hI6.out, hD6.out⟩

def busyV (b : Int × Nat) : Value := .tuple #[.int .i64 b.1, .int .i64 b.2]
set_option maxHeartbeats 2000000 in
theorem busy_any (es : List Ev) (A : Option Addr) (n c : Nat) (w : World) (hn : n ≤ 100000) (H : Evs w A n es) :
    Calls Try.prog 18 #[.slice A n c] w fun r w' => r = .returned (busyV (busyTo es (nubs (sesTo es n)) (nubs (sesTo es n)).length)) ∧ Below w.heap.size w w' := by
  have hlen := Lib.hid H.len
  have cS := Lib.hid (sessions_any es A n c w hn H)
  have hnl := nubs_len (sesTo es n)
  have hsl := sesTo_len es n
  go_enter Try.func18, Try.ntmps18
  go_wp2_with (go_at_call 16; refine cS.out.mono ?_; rintro r w1 ⟨A1, m, c1, rfl, hm, hI, hb1⟩)
  have hI := Lib.hid hI
  have hb1 := Lib.hid hb1
  rw [← hm] at hnl ⊢
  have hm2 := Lib.hid hm
  clear hm
  have hm := hm2
  clear hm2
  generalize hS : nubs (sesTo es n) = S at *
  have hS2 := Lib.hid hS
  clear cS hS
  go_loopw [4, 5, 14] (fun b q i wr => ∃ k : Nat, k ≤ m ∧ i = .int .i64 k ∧ b = .int .i64 (busyTo es S k).1 ∧ q = .int .i64 (busyTo es S k).2 ∧ Hid (Below w1.heap.size w1 wr)) (fun _ _ i _ => m - (intOf i).toNat)
  case atStart => exact ⟨0, by omega, rfl, rfl, rfl, Below.refl _ _⟩
  case round =>
    obtain ⟨k, hk, rfl, rfl, rfl, hD⟩ := hrel
    by_cases hlt : k < m
    · obtain ⟨b, off, s, rfl, hb, hs, hc⟩ := (hI.out.keep hD.out).at_ hlt
      have hstep := busyTo_step (es := es) hs
      have hq2 : evN es s ≤ 1000000 := Nat.le_trans List.countP_le_length (by rw [hlen.out]; omega)
      have hbq : (busyTo es S k).2 ≤ 1000000 := by
        clear hstep hs hlt hq2
        clear hD hc hb
        induction k with
        | zero => exact Nat.zero_le _
        | succ k ih =>
          rw [busyTo]
          split
          · exact ih (by omega)
          · split
            · exact Nat.le_trans List.countP_le_length (by rw [hlen.out]; omega)
            · exact ih (by omega)
      generalize busyTo es S k = bq at *
      obtain ⟨b0, q0⟩ := bq
      simp only at hbq hstep
      have hstep := Lib.hid hstep
      clear hs
      go_wp2_with fail
      go_loopw [8, 20] (fun q i wr => ∃ j : Nat, j ≤ n ∧ i = .int .i64 j ∧ q = .int .i64 ((es.take j).countP (isEv s) : Nat) ∧ Hid (Below w1.heap.size w1 wr)) (fun _ i _ => n - (intOf i).toNat)
      case atStart => exact ⟨0, by omega, rfl, rfl, hD⟩
      case round =>
        obtain ⟨j, hj, rfl, rfl, hG⟩ := hrel
        have hle : (es.take j).countP (isEv s) ≤ j := Nat.le_trans List.countP_le_length (List.length_take_le _ _)
        have hDw := Lib.hid (hb1.out.trans (hG.out.mono hb1.out.size))
        by_cases hjt : j < n
        · obtain ⟨b', off', e, rfl, hb', he, hr⟩ := H.row hjt
          have hr' := rangeAt_keep hr hDw.out hb'
          have hg1 := heap_new wr (.cells Ev.zero.cells.toArray 37)
          have hE := rangeAt_list (heap_new wr (.cells e.cells.toArray 37))
          obtain ⟨hf0, hf1, _, _⟩ := Ev.flds hE
          simp only [Nat.zero_add] at hf1
          have hBW := Lib.hid (hG.out.alloc hG.out.size (.cells e.cells.toArray 37))
          have hst := ev_take_succ s he
          clear hr he hE
          generalize (es.take j).countP (isEv s) = q at *
          cases e1 : (e.kind != 7) <;> cases e2 : (e.ses == s)
          all_goals
            have hh : isEv s e = ((e.kind != 7) && (e.ses == s)) := rfl
            rw [e1, e2] at hh
            rw [hh] at hst
            simp only [Bool.and_self, Bool.false_and, Bool.and_false, Bool.false_eq_true, if_false, if_true, Nat.add_zero] at hst
            have hst2 := Lib.hid hst
            clear hst hh
            go_wp2_with (first
              | (refine wpList_load_at 37 (.tmp 22) rfl rfl b' (off' + j * 34) rfl e.cells _ hr' Try.underlying37 rfl (by kernel_rfl) ?_)
              | (refine wpList_alloc_row 37 rfl rfl Ev.zero.cells.toArray ev_zero ?_; try simp only [World.size_alloc])
              | (refine wpList_store_at 37 _ _ rfl rfl wr.heap.size e.cells.toArray rfl rfl 37 Ev.zero.cells.toArray hg1 (by kernel_rfl) rfl e.one ?_
                 rw [setRow_new]))
            go_roundw
            case rel => exact ⟨j + 1, by omega, by go_num, by rw [hst2.out]; try go_num, hBW⟩
            case measure => simp [intOf]; omega
        · have hq := Lib.hid (show (es.take j).countP (isEv s) = evN es s by unfold evN; rw [List.take_of_length_le (by rw [hlen.out]; omega)])
          rw [hq.out]
          generalize evN es s = q at *
          have hqz : (q0 : Int) < (q : Int) ↔ q0 < q := by omega
          by_cases hqq : q0 < q
          · rw [if_pos hqq] at hstep
            have hd : decide ((q0 : Int) < (q : Int)) = true := decide_eq_true (by omega)
            clear hqz
            go_wp2_with fail
            go_roundw
            case rel => exact ⟨k + 1, by omega, by go_num, by rw [hstep.out], by rw [hstep.out], hG⟩
            case measure => simp [intOf]; omega
          · rw [if_neg hqq] at hstep
            have hd : decide ((q0 : Int) < (q : Int)) = false := decide_eq_false (by omega)
            clear hqz
            go_wp2_with fail
            go_roundw
            case rel => exact ⟨k + 1, by omega, by go_num, by rw [hstep.out], by rw [hstep.out], hG⟩
            case measure => simp [intOf]; omega
    · go_wp2
      rw [show k = m by omega]
      go_ret2
      rw [hS2.out, ← hm.out]
      exact ⟨rfl, hb1.out.trans (hD.out.mono hb1.out.size)⟩
end Go.Proofs.Ytkgkpoiacbjdfaa
