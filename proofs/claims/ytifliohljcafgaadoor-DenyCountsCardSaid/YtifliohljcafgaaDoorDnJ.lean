/- Deny: whose key it is; whether one may be let in; failures, whatever a gate's. -/
import Derived.Test.YtifliohljcafgaaDoorDnG
import Derived.Test.YtifliohljcafgaaDoorTmV
import Derived.Test.YtifliohljcafgaaDoorTmR
namespace Go.Proofs.YtifliohljcafgaaDoor
open Go.RowKit Go.Maps

theorem fail_full (g : Nat) (A B : Option Addr) (n c m d : Nat) (l f : Int) (w : World) (H : GateB w g A B n c m d l f) (hlf : l ≤ f) :
    Calls Tryd.prog 10 #[.pointer (some ⟨g, 0, none⟩)] w fun r w' => r = .returned (.bool true) ∧ ∃ q, w' = w.drewN q := by
  have cF := fun q => full_any g A B n c m d l f (w.drewN q) (H.keep (drewN_below q))
  rw [decide_eq_true hlf] at cF
  have cF0 := Lib.hid (cF 0)
  have cF := Lib.hid cF
  clear H
  go_enter Tryd.func10, Tryd.ntmps10
  go_wp2_with (first
    | (go_at_call 13; (with_reducible refine (cF.out _).mono ?_); rintro r w4 ⟨rfl, q4, rfl⟩)
    | (go_at_call 13; refine cF0.out.mono ?_; rintro r w3 ⟨rfl, q3, rfl⟩))
  go_ret
  exact ⟨rfl, q3 + q4, rfl⟩
theorem fail_step (g : Nat) (A B : Option Addr) (n c m d : Nat) (l f f' : Nat) (q : Bool) (w : World) (H : GateB w g A B n c m d l f) (h1 : f ≤ 1000000) (hfl : f ≤ l) (hf : min (f + 1) l = f') (hq : decide (f' = l) = q) :
    Calls Tryd.prog 10 #[.pointer (some ⟨g, 0, none⟩)] w fun r w' => r = .returned (.bool q) ∧ GateB w' g A B n c m d l f' ∧ Keeps (fun b => b = g) w w' := by
  subst hq
  by_cases hlf : f < l
  · obtain rfl : f + 1 = f' := by omega
    refine (fail_any g A B n c m d l f w H (by omega) (by omega) (by omega)).mono ?_
    rintro r w' ⟨rfl, q1, q2, rfl⟩
    refine ⟨ret_bool (by rw [Bool.eq_iff_iff, decide_eq_true_eq, decide_eq_true_eq]; omega), by have := fail_gate H q1 q2; simpa using this, ?_⟩
    exact (Keeps.of_below (drewN_below q1)).trans ((Keeps.of_grown (grown_set (w.drewN q1) ⟨g, 3, none⟩ _) (fun b hb => (Option.some.inj hb).symm)).trans (Keeps.of_below (drewN_below q2)))
  · obtain rfl : l = f' := by omega
    obtain rfl : f = l := by omega
    refine (fail_full g A B n c m d f f w H (Int.le_refl _)).mono ?_
    rintro r w' ⟨rfl, q, rfl⟩
    exact ⟨by simp, H.keep (drewN_below q), Keeps.of_below (drewN_below q)⟩

theorem hasNm_any (ss : List ByteArray) (A : Option Addr) (n c : Nat) (s : ByteArray) (w : World) (hn : n ≤ 9223372036854775807) (H : Strs w A n ss) :
    Calls Tryd.prog 27 #[.slice A n c, .string s] w fun r w' => r = .returned (.bool (has ss s)) ∧ w = w' := by
  have cC := Lib.hid (containsS_any ss A n c s w hn H)
  clear H
  go_enter Tryd.func27, Tryd.ntmps27
  go_wp2_with (go_at_call 43; refine cC.out.mono ?_; rintro r w1 ⟨rfl, rfl⟩)
  go_ret
  exact ⟨rfl, rfl⟩

set_option maxRecDepth 100000 in
set_option maxHeartbeats 2000000 in
theorem owner_any (A : Ar) (B : Nat) (w : World) (H : Arena w B A) (x : Int) (p : Nat) (hx : get A.L x = some (.mk 4 0 0 [] [.mk 3 p 0 [] []])) :
    Calls Tryd.prog 26 #[.pointer (some ⟨A.g, 0, none⟩), .int .i64 x] w fun r w' => r = .returned (.tuple #[.int .i64 p, .bool true]) ∧ Below w.heap.size w w' := by
  have cV := Lib.hid (view_some A B w H x _ hx)
  have cW := Lib.hid (fun W (h : Below w.heap.size w W) (i : Nat) (hi : get A.L i = some (.mk 3 p 0 [] [])) => view_some A B W (H.keep h) i _ hi)
  clear H
  go_enter Tryd.func26, Tryd.ntmps26
  go_upto_region 2 with (first
    | (go_at_call 42; refine cV.out.mono ?_; rintro r w1 ⟨Av, c, xs, rfl, hR, hxs, hb⟩
       have hz1 := Lib.hid (heap_new w1 (.cells #[.int .i64 0, .int .i64 0, .int .i64 0, .string ⟨#[]⟩, .slice none 0 0] 66))
       have hB1 := Lib.hid (hb.trans (Below.mono (below_new w1 (.cells #[.int .i64 0, .int .i64 0, .int .i64 0, .string ⟨#[]⟩, .slice none 0 0] 66)) hb.size))
       have hR1 := Lib.hid (hR.keep (below_setRow (below_new w1 (.cells #[.int .i64 0, .int .i64 0, .int .i64 0, .string ⟨#[]⟩, .slice none 0 0] 66)) (Nat.le_refl _) (ndC 4 0 0 [] (.slice Av 1 c)).toArray))
       have hg1 := Lib.hid hb.size
       clear hR cV)
    | (refine wpList_store_at 66 _ _ rfl rfl w1.heap.size (ndC 4 0 0 [] (.slice Av 1 c)).toArray rfl rfl 66 #[.int .i64 0, .int .i64 0, .int .i64 0, .string ⟨#[]⟩, .slice none 0 0] hz1.out (by kernel_rfl) rfl nd_all ?_))
  have hr := hsetRow _ _ _ (ndC 4 0 0 [] (.slice Av 1 c)).toArray _ _ hz1.out
  have hB2 := Lib.hid (below_setRow hB1.out hg1.out (ndC 4 0 0 [] (.slice Av 1 c)).toArray)
  generalize (w1.alloc (.cells #[.int .i64 0, .int .i64 0, .int .i64 0, .string ⟨#[]⟩, .slice none 0 0] 66)).setRow w1.heap.size (ndC 4 0 0 [] (.slice Av 1 c)).toArray = w2 at *
  have d0 : w2.cell? ⟨w1.heap.size, 0, none⟩ = some (.int .i64 4) := cell_of_row w2 w1.heap.size 0 _ _ _ hr
  have d4 : w2.cell? ⟨w1.heap.size, 4, none⟩ = some (.slice Av 1 c) := cell_of_row w2 w1.heap.size 4 _ _ _ hr
  obtain ⟨i, rfl, hi⟩ : ∃ i, xs = [i] ∧ A.L[i]? = some (.mk 3 p 0 [] []) := by
    cases xs with
    | nil => simp [Tm.args] at hxs
    | cons i r =>
      simp only [Tm.args, List.map_cons, List.map_nil, List.cons.injEq, List.map_eq_nil_iff] at hxs
      exact ⟨i, by rw [hxs.2], hxs.1⟩
  obtain ⟨b, off, z, rfl, hbl, hz, _, hrr⟩ := hR1.out.row (j := 0) (show 0 < 1 by decide)
  simp only [Tm.args, List.map_cons, List.map_nil, List.getElem?_cons_zero, Option.some.injEq] at hz
  subst hz
  have hc := hrr 0 _ rfl
  rw [Nat.zero_mul, Nat.add_zero] at hc
  have cW2 := Lib.hid (cW.out w2 hB2.out i (by rw [get_nat]; exact hi))
  clear hr hz1 hB1 hR1 hg1 hxs hrr cW hx hi hbl
  go_upto_region 5 with (first
    | (go_at_call 42; refine cW2.out.mono ?_; rintro r w3 ⟨Au, e, us, rfl, _, _, hb3⟩
       have hz3 := Lib.hid (heap_new w3 (.cells #[.int .i64 0, .int .i64 0, .int .i64 0, .string ⟨#[]⟩, .slice none 0 0] 66))
       have hg3 : w.heap.size ≤ w3.heap.size := Nat.le_trans hB2.out.size hb3.size
       have hB3 := hB2.out.trans (hb3.mono hB2.out.size)
       have hB4 := Lib.hid (hB3.trans (Below.mono (below_new w3 (.cells #[.int .i64 0, .int .i64 0, .int .i64 0, .string ⟨#[]⟩, .slice none 0 0] 66)) hg3))
       have hg3 := Lib.hid hg3
       clear hB3 hb3)
    | (refine wpList_store_at 66 _ _ rfl rfl w3.heap.size (ndC 3 p 0 [] (.slice Au 0 e)).toArray rfl rfl 66 #[.int .i64 0, .int .i64 0, .int .i64 0, .string ⟨#[]⟩, .slice none 0 0] hz3.out (by kernel_rfl) rfl nd_all ?_))
  have hr := hsetRow _ _ _ (ndC 3 p 0 [] (.slice Au 0 e)).toArray _ _ hz3.out
  have hB5 := Lib.hid (below_setRow hB4.out hg3.out (ndC 3 p 0 [] (.slice Au 0 e)).toArray)
  generalize (w3.alloc (.cells #[.int .i64 0, .int .i64 0, .int .i64 0, .string ⟨#[]⟩, .slice none 0 0] 66)).setRow w3.heap.size (ndC 3 p 0 [] (.slice Au 0 e)).toArray = w4 at *
  have e1 : w4.cell? ⟨w3.heap.size, 1, none⟩ = some (.int .i64 p) := cell_of_row w4 w3.heap.size 1 _ _ _ hr
  clear hr hz3 hB4 d0 d4 hc
  go_wp2_with fail
  go_ret2
  exact ⟨rfl, hB5.out⟩
end Go.Proofs.YtifliohljcafgaaDoor
