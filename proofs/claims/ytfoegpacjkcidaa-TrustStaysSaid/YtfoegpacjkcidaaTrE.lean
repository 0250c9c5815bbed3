/- The walks of the reference's Safe, of Good and of Safes. -/
import Derived.Test.YtfoegpacjkcidaaTrD
import Derived.Test.YtfoegpacjkcidaaInt
namespace Go.Proofs.Ytfoegpacjkcidaa
open Go.RowKit

/-- A key was kept until a place: it was not taken ahead of it. -/
theorem kept_eq (es : List Ev) (who at_ : Int) : kept es who at_ = !ahead es who at_ := by
  unfold kept ahead
  rcases idx_cases (isTaken who) es with ⟨hi, hm⟩ | ⟨k, e, hi, he, hp, hm⟩
  · rw [hi]
    have : (es.take at_.toNat).any (isTaken who) = false := ahead_none hm at_
    rw [this]; rfl
  · rw [hi]
    by_cases h : at_ ≤ k
    · rw [any_take_miss (by omega) hm, decide_eq_true h]; simp
    · rw [any_take_hit (isTaken who) he (by omega) hp, decide_eq_false (by omega), decide_eq_false (by omega)]; rfl
def refSafe (es : List Ev) (k : Nat) : Bool := match es[k]? with | none => false | some e => (e.kind == 2 || e.kind == 4) && !ahead es e.who k
theorem refSafe_eq (es : List Ev) (k : Nat) : refSafe es k = safe es k := by
  unfold refSafe safe
  rw [if_neg (by omega), Int.toNat_natCast]
  cases es[k]? with
  | none => rfl
  | some e => simp only [kept_eq]

set_option maxHeartbeats 400000 in
theorem refSafe_any (es : List Ev) (A : Option Addr) (n c k : Nat) (w : World) (hn : n ≤ 9223372036854775807) (hk : k < n) (H : Evs w A n es) :
    Calls Try.prog 26 #[.slice A n c, .int .i64 k] w fun r w' => r = .returned (.bool (safe es k)) ∧ w = w' := by
  have HH := Lib.hid H
  obtain ⟨b, off, e, rfl, hb, he, hr⟩ := H.row hk
  have hs : safe es k = ((e.kind == 2 || e.kind == 4) && !ahead es e.who k) := by rw [← refSafe_eq]; simp [refSafe, he]
  obtain ⟨c0, c1, c2, c3⟩ := Ev.flds hr
  have hA := ahead_any es (some ⟨b, off, none⟩) n c e.who k w hn H
  clear hr he c1 c2
  cases h2 : (e.kind == 2) with
  | true =>
    rw [h2] at hs
    cases ha : ahead es e.who k with
    | true =>
      rw [ha] at hA hs
      have hA := Lib.hid hA
      have hs := Lib.hid hs
      go_enter Try.func26, Try.ntmps26
      go_wp2_with (go_at_call 11; refine hA.out.mono ?_; rintro r w1 ⟨rfl, rfl⟩)
      go_ret
      exact ⟨ret_bool (by rw [hs.out]; rfl), rfl⟩
    | false =>
      rw [ha] at hA hs
      have hA := Lib.hid hA
      have hs := Lib.hid hs
      go_enter Try.func26, Try.ntmps26
      go_wp2_with (go_at_call 11; refine hA.out.mono ?_; rintro r w1 ⟨rfl, rfl⟩)
      go_ret
      exact ⟨ret_bool (by rw [hs.out]; rfl), rfl⟩
  | false =>
    rw [h2] at hs
    cases h4 : (e.kind == 4) with
    | true =>
      rw [h4] at hs
      cases ha : ahead es e.who k with
      | true =>
        rw [ha] at hA hs
        have hA := Lib.hid hA
        have hs := Lib.hid hs
        go_enter Try.func26, Try.ntmps26
        go_wp2_with (go_at_call 11; refine hA.out.mono ?_; rintro r w1 ⟨rfl, rfl⟩)
        go_ret
        exact ⟨ret_bool (by rw [hs.out]; rfl), rfl⟩
      | false =>
        rw [ha] at hA hs
        have hA := Lib.hid hA
        have hs := Lib.hid hs
        go_enter Try.func26, Try.ntmps26
        go_wp2_with (go_at_call 11; refine hA.out.mono ?_; rintro r w1 ⟨rfl, rfl⟩)
        go_ret
        exact ⟨ret_bool (by rw [hs.out]; rfl), rfl⟩
    | false =>
      rw [h4] at hs
      have hs := Lib.hid hs
      clear hA
      go_enter Try.func26, Try.ntmps26
      go_wp2_with fail
      go_ret
      exact ⟨ret_bool (by rw [hs.out]; rfl), rfl⟩

def sesOf (es : List Ev) (i : Nat) : Int := match es[i]? with | some e => e.ses | none => 0
def goodTo (es : List Ev) (ses : Int) (k : Nat) : Bool := (List.range k).any fun i => safe es i && sesOf es i == ses
def good (es : List Ev) (ses : Int) : Bool := goodTo es ses es.length
theorem goodTo_succ (es : List Ev) (ses : Int) (k : Nat) : goodTo es ses (k + 1) = (goodTo es ses k || (safe es k && sesOf es k == ses)) := by
  unfold goodTo; rw [List.range_succ, List.any_append]; simp
theorem good_hit {es : List Ev} {ses : Int} {k : Nat} (hk : k < es.length) (h : safe es k = true) (hs : (sesOf es k == ses) = true) : good es ses = true := by
  unfold good goodTo
  rw [List.any_eq_true]
  exact ⟨k, List.mem_range.2 hk, by rw [h, hs]; rfl⟩

set_option maxHeartbeats 1000000 in
theorem good_any (es : List Ev) (A : Option Addr) (n c : Nat) (ses : Int) (w : World) (hn : n ≤ 9223372036854775807) (H : Evs w A n es) :
    Calls Try.prog 24 #[.slice A n c, .int .i64 ses] w fun r w' => r = .returned (.bool (good es ses)) ∧ Below w.heap.size w w' := by
  have hlen := Lib.hid H.len
  have HH := Lib.hid H
  go_enter Try.func24, Try.ntmps24
  go_wp2
  go_loopw [5, 6, 9] (fun _ _ i wr => ∃ k : Nat, k ≤ n ∧ i = .int .i64 k ∧ Hid (goodTo es ses k = false) ∧ Hid (Below w.heap.size w wr)) (fun _ _ i _ => n - (intOf i).toNat)
  case atStart => exact ⟨0, by omega, rfl, rfl, Below.refl _ _⟩
  case round =>
    obtain ⟨k, hk, rfl, hf, hB⟩ := hrel
    by_cases hlt : k < n
    · obtain ⟨b, off, e, rfl, hb, he, hr⟩ := H.row hlt
      have hr' := rangeAt_keep hr hB.out hb
      have hse : sesOf es k = e.ses := by simp [sesOf, he]
      have hstep := goodTo_succ es ses k
      rw [hse] at hstep
      have hhit := Lib.hid (good_hit (es := es) (ses := ses) (k := k) (by rw [hlen.out]; exact hlt))
      rw [hse] at hhit
      have hg1 := heap_new wr (.cells Ev.zero.cells.toArray 36)
      have e1 := e.at1
      have bA : Below wr.heap.size wr (wr.alloc (.cells e.cells.toArray 36)) := (Below.refl _ _).alloc (Nat.le_refl _) _
      have cS := safe_any es (some ⟨b, off, none⟩) n c k _ hn ((HH.out.keep hB.out).keep bA)
      have bA := Lib.hid bA
      clear hr he hse
      cases hq : (e.ses == ses) with
      | true =>
        rw [hq] at hstep
        cases hs : safe es k with
        | true =>
          rw [hs] at cS
          have hs := Lib.hid hs
          have cS := Lib.hid cS
          have hq' := Lib.hid hq
          clear hstep
          go_wp2_with (first
            | (refine wpList_load_at rfl 36 _ rfl b (off + k * 34) rfl e.cells _ hr' Try.underlying36 rfl (by kernel_rfl) ?_)
            | (refine wpList_alloc_row rfl 36 rfl Ev.zero.cells.toArray ev_zero ?_)
            | (refine wpList_store_at rfl 36 _ _ rfl wr.heap.size e.cells.toArray rfl rfl 36 Ev.zero.cells.toArray hg1 (by kernel_rfl) rfl e.one ?_
               rw [setRow_new])
            | (go_at_call 23; refine cS.out.mono ?_; rintro r w1 ⟨rfl, hb1⟩))
          go_ret
          exact ⟨ret_bool (hhit.out hs.out hq'.out).symm, (hB.out.trans (bA.out.mono hB.out.size)).trans (hb1.mono (Nat.le_trans hB.out.size bA.out.size))⟩
        | false =>
          rw [hs] at cS hstep
          have hstep := Lib.hid hstep
          have cS := Lib.hid cS
          clear hhit hs
          go_wp2_with (first
            | (refine wpList_load_at rfl 36 _ rfl b (off + k * 34) rfl e.cells _ hr' Try.underlying36 rfl (by kernel_rfl) ?_)
            | (refine wpList_alloc_row rfl 36 rfl Ev.zero.cells.toArray ev_zero ?_)
            | (refine wpList_store_at rfl 36 _ _ rfl wr.heap.size e.cells.toArray rfl rfl 36 Ev.zero.cells.toArray hg1 (by kernel_rfl) rfl e.one ?_
               rw [setRow_new])
            | (go_at_call 23; refine cS.out.mono ?_; rintro r w1 ⟨rfl, hb1⟩))
          go_roundw
          case rel => exact ⟨k + 1, by omega, by go_num, (by unfold Hid; rw [hstep.out, hf.out]; rfl), (hB.out.trans (bA.out.mono hB.out.size)).trans (hb1.mono (Nat.le_trans hB.out.size bA.out.size))⟩
          case measure => simp [intOf]; omega
      | false =>
        rw [hq, Bool.and_false, Bool.or_false] at hstep
        have hstep := Lib.hid hstep
        clear hhit cS
        go_wp2_with (first
            | (refine wpList_load_at rfl 36 _ rfl b (off + k * 34) rfl e.cells _ hr' Try.underlying36 rfl (by kernel_rfl) ?_)
            | (refine wpList_alloc_row rfl 36 rfl Ev.zero.cells.toArray ev_zero ?_)
            | (refine wpList_store_at rfl 36 _ _ rfl wr.heap.size e.cells.toArray rfl rfl 36 Ev.zero.cells.toArray hg1 (by kernel_rfl) rfl e.one ?_
               rw [setRow_new]))
        go_roundw
        case rel => exact ⟨k + 1, by omega, by go_num, (by unfold Hid; rw [hstep.out, hf.out]), hB.out.trans (bA.out.mono hB.out.size)⟩
        case measure => simp [intOf]; omega
    · go_wp2
      go_ret
      exact ⟨ret_bool (by unfold good; rw [hlen.out, show n = k by omega]; exact hf.out.symm), hB.out⟩

def safesTo (es : List Ev) (k : Nat) : List Int := ((List.range k).filter fun (i : Nat) => safe es i).map fun (i : Nat) => (i : Int)
def safes (es : List Ev) : List Int := safesTo es es.length
theorem safesTo_succ (es : List Ev) (k : Nat) : safesTo es (k + 1) = safesTo es k ++ (if safe es k then [(k : Int)] else []) := by
  unfold safesTo
  rw [List.range_succ, List.filter_append, List.map_append]
  congr 1
  by_cases h : safe es k = true <;> simp [h]
theorem safesTo_len (es : List Ev) (k : Nat) : (safesTo es k).length ≤ k := by
  unfold safesTo
  rw [List.length_map]
  exact Nat.le_trans (List.length_filter_le _ _) (by simp)

set_option maxHeartbeats 1000000 in
theorem safes_any (es : List Ev) (A : Option Addr) (n c : Nat) (w : World) (hn : n ≤ 1000000) (H : Evs w A n es) :
    Calls Try.prog 25 #[.slice A n c] w fun r w' => ∃ v, r = .returned v ∧ OwnI w' w.heap.size v (safes es) ∧ Below w.heap.size w w' := by
  obtain ⟨i0, hi0, hz0, hz1, hz2⟩ := info_parts int_info
  have hlen := Lib.hid H.len
  have HH := Lib.hid H
  go_enter Try.func25, Try.ntmps25
  go_wp2
  go_loopw [3, 4, 7] (fun v _ i wr => ∃ k : Nat, k ≤ n ∧ i = .int .i64 k ∧ Hid (OwnI wr w.heap.size v (safesTo es k)) ∧ Hid (Below w.heap.size w wr)) (fun _ _ i _ => n - (intOf i).toNat)
  case atStart => exact ⟨0, by omega, rfl, OwnR.nil_ _ _ _ _, Below.refl _ _⟩
  case round =>
    obtain ⟨k, hk, rfl, hO, hB⟩ := hrel
    by_cases hlt : k < n
    · have cS := safe_any es A n c k wr (by omega) (HH.out.keep hB.out)
      have hstep := safesTo_succ es k
      cases hs : safe es k with
      | true =>
        rw [hs] at cS hstep
        have hstep := Lib.hid hstep
        have cS := Lib.hid cS
        have hle := safesTo_len es k
        clear hs
        go_wp2_with fail
        refine cS.out.mono ?_
        rintro r w1 ⟨rfl, hb1⟩
        have hO1 := Lib.hid ((hO.out.keep hb1).keep ((Below.refl w1.heap.size w1).alloc (Nat.le_refl _) (.cells #[.int .i64 k] 3)))
        have hB1 := Lib.hid ((hB.out.trans (hb1.mono hB.out.size)).alloc (Nat.le_trans hB.out.size hb1.size) (.cells #[.int .i64 k] 3))
        clear hb1
        go_wp2_with (at_builtin
                     refine wpList_append_one rfl _ _ 49 rfl 3 i0 (.int .i64 0) 1 8 Try.underlying49 hi0 hz0 hz1 hz2 rfl (by decide) w hB1.out _ _ rfl hO1.out w1.heap.size 1 (iv k) rfl ?_ rfl ?_ ?_ ?_ ?_
                     · exact rangeAt_list (heap_new w1 (.cells #[.int .i64 k] 3))
                     · intro u hu; simp [iv] at hu; subst hu; rfl
                     · simp only [List.length_map]; unfold maxLen; omega
                     · simp only [List.length_map]; omega
                     intro v' w2 hO2 hB2 _
                     have hO2 := Lib.hid hO2
                     have hB2 := Lib.hid hB2)
        go_roundw
        case rel => exact ⟨k + 1, by omega, by go_num, (by unfold Hid OwnI; rw [hstep.out]; simpa using hO2.out), hB2⟩
        case measure => simp [intOf]; omega
      | false =>
        rw [hs] at cS hstep
        have hstep := Lib.hid hstep
        have cS := Lib.hid cS
        clear hs
        go_wp2_with fail
        refine cS.out.mono ?_
        rintro r w1 ⟨rfl, hb1⟩
        have hO1 := Lib.hid (hO.out.keep hb1)
        have hB1 := Lib.hid (hB.out.trans (hb1.mono hB.out.size))
        clear hb1
        go_wp2_with fail
        go_roundw
        case rel => exact ⟨k + 1, by omega, by go_num, (by unfold Hid; rw [hstep.out]; simpa using hO1.out), hB1⟩
        case measure => simp [intOf]; omega
    · go_wp2
      go_ret
      have hkn : safesTo es k = safes es := by unfold safes; rw [hlen.out, show n = k by omega]
      rw [hkn] at hO
      exact ⟨_, rfl, hO.out, hB.out⟩
end Go.Proofs.Ytfoegpacjkcidaa
