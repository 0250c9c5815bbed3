/- The walk of GexTable. -/
import Derived.Test.YtlonejkmdibkaaaDoorGxU
namespace Go.Proofs.YtlonejkmdibkaaaDoor
open Go.RowKit

theorem pick_same (k : Nat) (h : k < 4) : pickK (1024 * ((k : Int) + 1)) (1024 * ((k : Int) + 1)) (1024 * ((k : Int) + 1)) = k + 1 := by
  have : k = 0 ∨ k = 1 ∨ k = 2 ∨ k = 3 := by omega
  rcases this with rfl | rfl | rfl | rfl <;> decide
attribute [local go_sem ↓] ldG_eq eqG_eq egG_eq
attribute [local go_sem] egG_run
set_option maxRecDepth 100000 in
set_option maxHeartbeats 8000000 in
theorem law_gexTable (i m : Int) (w : World) (hi0 : 0 ≤ i) (hi1 : i ≤ 255) :
    Calls Tryd.prog 4 #[.int .u8 i, .int .i64 m] w fun r w' => r = .returned (.bool true) ∧ Below w.heap.size w w' := by
  have aw := Lib.hid (fun W => awake18_any W)
  have cT := Lib.hid (table_any w)
  obtain ⟨k, hk, hk4⟩ : ∃ k : Nat, i % 4 = k ∧ k < 4 := ⟨(i % 4).toNat, by omega, by omega⟩
  have hwi : IntKind.i64.wrap i = i := IntWalk.i64_in _ (by omega)
  have htm : Int.tmod i 4 = (k : Int) := by rw [Int.tmod_eq_emod_of_nonneg hi0]; exact hk
  have cP := fun W => Calls.mono (gexPick_any (1024 * ((k : Int) + 1)) (1024 * ((k : Int) + 1)) (1024 * ((k : Int) + 1)) W) (fun r w' h => pick2 h (by rw [pick_same k hk4]; omega))
  simp only [pick_same k hk4] at cP
  have cG := fun W => refGroup_any (k + 1) W (by omega)
  rw [show ((1024 * (k + 1) : Nat) : Int) = 1024 * ((k : Int) + 1) by omega] at cG
  have hsz := gxP_size (k + 1)
  have hck := check_grp (k := k + 1) (by omega) (a := 1024) (c := 8192) (by omega) (by omega)
  have cK := fun W => gxCheck_any 1024 8192 (gxP (k + 1)) ⟨#[2]⟩ W (by omega) (by decide)
  rw [hck] at cK
  have hEq : ∀ W, (eqG (.agg #[.string (gxP (k + 1)), .string ⟨#[2]⟩]) (.agg #[.string (gxP (k + 1)), .string ⟨#[2]⟩])).run Tryd.prog W = .ok (.bool true) W := fun W => eql_grp (by omega) (by decide) (by omega) (by decide) true (by simp) W
  have hrow : ∀ (W : World) (A : Option Addr), Rws W 2 A 4 tabL → ∃ b off, A = some ⟨b, off, none⟩ ∧ b < W.heap.size ∧ W.rangeAt b (off + k * 2) [.string (gxP (k + 1)), .string ⟨#[2]⟩] := by
    intro W A h
    obtain ⟨b, off, e, hb, hc⟩ := h.2.2 (by omega)
    exact ⟨b, off, e, hb, hc k _ (tabL_at hk4)⟩
  have hl0 : (0 : Int) ≤ (k : Int) := by omega
  have hl1 : (k : Int) < 4 := by omega
  have hw32 : IntKind.u32.wrap (1024 * ((k : Int) + 1)) = 1024 * ((k : Int) + 1) := IntWalk.u32_in _ (by omega)
  generalize gxP (k + 1) = p at cP cG cK hEq hrow
  have cP := Lib.hid cP
  have cG := Lib.hid cG
  have cK := Lib.hid cK
  have hEQ := Lib.hid hEq
  have hROW := Lib.hid hrow
  clear hEq hrow hck hsz
  have cV := Lib.hid (fun W => curve_any m W)
  have hm : m = 1 ∨ m = 2 ∨ (m ≠ 1 ∧ m ≠ 2) := by omega
  rcases hm with rfl | rfl | ⟨h1, h2⟩
  · have cC : ∀ W, Calls Tryd.prog 15 #[.int .i64 1] W fun r w' => r = .returned (.tuple #[.string ⟨#[99, 117, 114, 118, 101, 50, 53, 53, 49, 57]⟩, .bool true]) ∧ W = w' := fun W => cV.out W
    have cC := Lib.hid cC
    clear cV
    as_aux_lemma =>
      go_enter Tryd.func4, Tryd.ntmps4
      go_upto_region 13 with (first
        | (go_at_call 16; (with_reducible refine cT.out.mono ?_); rintro r w5 hr; obtain ⟨A5, c5, rfl, hR5, hb5⟩ := hr.slice; clear hr; have hB5 := Lib.hid hb5; obtain ⟨b5, o5, rfl, hl5, hr5⟩ := hROW.out _ _ hR5.out; have hl5 := Lib.hid hl5; have hr5 := Lib.hid hr5; clear hb5)
        | (go_at_call 17; (with_reducible refine (cP.out _).mono ?_); rintro r w6 ⟨rfl, hb6⟩; have hn6 := below_new w6 (.cells #[.string p, .string ⟨#[2]⟩] 23); have hB6 := Lib.hid (hB5.out.trans ((hb6.trans (hn6.mono hb6.size)).mono hB5.out.size)); have hL1 := Lib.hid (fun W (h : Below (w6.alloc (.cells #[.string p, .string ⟨#[2]⟩] 23)).heap.size (w6.alloc (.cells #[.string p, .string ⟨#[2]⟩] 23)) W) => ldG_run (rangeAt_keep hr5.out ((hb6.trans (hn6.mono hb6.size)).trans (h.mono (Below.size (hb6.trans (hn6.mono hb6.size))))) hl5.out)); have hL2 := Lib.hid (fun W (h : Below (w6.alloc (.cells #[.string p, .string ⟨#[2]⟩] 23)).heap.size (w6.alloc (.cells #[.string p, .string ⟨#[2]⟩] 23)) W) => ldG_run (grp_range_keep (grp_range (heap_new w6 (.cells #[.string p, .string ⟨#[2]⟩] 23))) h (by simp))); clear hb6 hn6)
        | (go_at_call 15; (with_reducible refine (cC.out _).mono ?_); rintro r w7 ⟨rfl, rfl⟩))
      generalize w6.alloc (.cells #[.string p, .string ⟨#[2]⟩] 23) = w7 at hB6 hL1 hL2 ⊢
      have hB0 := Lib.hid (show Below w7.heap.size w7 w7.drew from drewN_below 1)
      have hEq := hEQ.out
      have hLL := Lib.hid (fun W (h : Below w7.heap.size w7 W) => (⟨hL1.out W h, hL2.out W h⟩ : (ldG ⟨b5, o5 + k * 2, none⟩).run Tryd.prog W = .ok (.agg #[.string p, .string ⟨#[2]⟩]) W ∧ (ldG ⟨w6.heap.size, 0, none⟩).run Tryd.prog W = .ok (.agg #[.string p, .string ⟨#[2]⟩]) W))
      go_region_held3 (fun W => (ldG ⟨b5, o5 + k * 2, none⟩).run Tryd.prog W = .ok (.agg #[.string p, .string ⟨#[2]⟩]) W ∧ (ldG ⟨w6.heap.size, 0, none⟩).run Tryd.prog W = .ok (.agg #[.string p, .string ⟨#[2]⟩]) W)
        (first | exact hLL.out _ hB0.out | exact hLL.out _ hB8.out | exact hLL.out _ hB9.out | exact hLL.out _ hB10.out)
        (first
          | (go_at_call 13; (with_reducible refine (aw.out _).mono ?_); rintro r w8 ⟨rfl, hb8⟩; have hB8 := Lib.hid (hB0.out.trans (hb8.mono hB0.out.size)); clear hb8)
          | (go_at_call 18; (with_reducible refine (cG.out _).mono ?_); rintro r w9 ⟨rfl, hb9⟩; have hB9 := Lib.hid (hB8.out.trans (hb9.mono hB8.out.size)); clear hb9)
          | (go_at_call 19; (with_reducible refine (cK.out _).mono ?_); rintro r w10 hr; obtain ⟨rfl, hb10⟩ := hr.ok; clear hr; have hB10 := Lib.hid (hB9.out.trans (hb10.mono hB9.out.size)); clear hb10))
      all_goals
        go_wp2_with fail
        go_ret
        exact ⟨rfl, hB6.out.trans (hB10.out.mono hB6.out.size)⟩
  · have cC : ∀ W, Calls Tryd.prog 15 #[.int .i64 2] W fun r w' => r = .returned (.tuple #[.string ⟨#[110, 105, 115, 116, 112, 50, 53, 54]⟩, .bool true]) ∧ W = w' := fun W => cV.out W
    have cC := Lib.hid cC
    clear cV
    as_aux_lemma =>
      go_enter Tryd.func4, Tryd.ntmps4
      go_upto_region 13 with (first
        | (go_at_call 16; (with_reducible refine cT.out.mono ?_); rintro r w5 hr; obtain ⟨A5, c5, rfl, hR5, hb5⟩ := hr.slice; clear hr; have hB5 := Lib.hid hb5; obtain ⟨b5, o5, rfl, hl5, hr5⟩ := hROW.out _ _ hR5.out; have hl5 := Lib.hid hl5; have hr5 := Lib.hid hr5; clear hb5)
        | (go_at_call 17; (with_reducible refine (cP.out _).mono ?_); rintro r w6 ⟨rfl, hb6⟩; have hn6 := below_new w6 (.cells #[.string p, .string ⟨#[2]⟩] 23); have hB6 := Lib.hid (hB5.out.trans ((hb6.trans (hn6.mono hb6.size)).mono hB5.out.size)); have hL1 := Lib.hid (fun W (h : Below (w6.alloc (.cells #[.string p, .string ⟨#[2]⟩] 23)).heap.size (w6.alloc (.cells #[.string p, .string ⟨#[2]⟩] 23)) W) => ldG_run (rangeAt_keep hr5.out ((hb6.trans (hn6.mono hb6.size)).trans (h.mono (Below.size (hb6.trans (hn6.mono hb6.size))))) hl5.out)); have hL2 := Lib.hid (fun W (h : Below (w6.alloc (.cells #[.string p, .string ⟨#[2]⟩] 23)).heap.size (w6.alloc (.cells #[.string p, .string ⟨#[2]⟩] 23)) W) => ldG_run (grp_range_keep (grp_range (heap_new w6 (.cells #[.string p, .string ⟨#[2]⟩] 23))) h (by simp))); clear hb6 hn6)
        | (go_at_call 15; (with_reducible refine (cC.out _).mono ?_); rintro r w7 ⟨rfl, rfl⟩))
      generalize w6.alloc (.cells #[.string p, .string ⟨#[2]⟩] 23) = w7 at hB6 hL1 hL2 ⊢
      have hB0 := Lib.hid (show Below w7.heap.size w7 w7.drew from drewN_below 1)
      have hEq := hEQ.out
      have hLL := Lib.hid (fun W (h : Below w7.heap.size w7 W) => (⟨hL1.out W h, hL2.out W h⟩ : (ldG ⟨b5, o5 + k * 2, none⟩).run Tryd.prog W = .ok (.agg #[.string p, .string ⟨#[2]⟩]) W ∧ (ldG ⟨w6.heap.size, 0, none⟩).run Tryd.prog W = .ok (.agg #[.string p, .string ⟨#[2]⟩]) W))
      go_region_held3 (fun W => (ldG ⟨b5, o5 + k * 2, none⟩).run Tryd.prog W = .ok (.agg #[.string p, .string ⟨#[2]⟩]) W ∧ (ldG ⟨w6.heap.size, 0, none⟩).run Tryd.prog W = .ok (.agg #[.string p, .string ⟨#[2]⟩]) W)
        (first | exact hLL.out _ hB0.out | exact hLL.out _ hB8.out | exact hLL.out _ hB9.out | exact hLL.out _ hB10.out)
        (first
          | (go_at_call 13; (with_reducible refine (aw.out _).mono ?_); rintro r w8 ⟨rfl, hb8⟩; have hB8 := Lib.hid (hB0.out.trans (hb8.mono hB0.out.size)); clear hb8)
          | (go_at_call 18; (with_reducible refine (cG.out _).mono ?_); rintro r w9 ⟨rfl, hb9⟩; have hB9 := Lib.hid (hB8.out.trans (hb9.mono hB8.out.size)); clear hb9)
          | (go_at_call 19; (with_reducible refine (cK.out _).mono ?_); rintro r w10 hr; obtain ⟨rfl, hb10⟩ := hr.ok; clear hr; have hB10 := Lib.hid (hB9.out.trans (hb10.mono hB9.out.size)); clear hb10))
      all_goals
        go_wp2_with fail
        go_ret
        exact ⟨rfl, hB6.out.trans (hB10.out.mono hB6.out.size)⟩
  · have cC : ∀ W, Calls Tryd.prog 15 #[.int .i64 m] W fun r w' => r = .returned (.tuple #[.string ⟨#[]⟩, .bool false]) ∧ W = w' := fun W => by have := cV.out W; unfold curveV at this; rwa [if_neg h1, if_neg h2] at this
    have cC := Lib.hid cC
    have k1 : (m == 1) = false := beq_eq_false_iff_ne.2 h1
    have k2 : (m == 2) = false := beq_eq_false_iff_ne.2 h2
    clear cV h1 h2
    as_aux_lemma =>
      go_enter Tryd.func4, Tryd.ntmps4
      go_upto_region 13 with (first
        | (go_at_call 16; (with_reducible refine cT.out.mono ?_); rintro r w5 hr; obtain ⟨A5, c5, rfl, hR5, hb5⟩ := hr.slice; clear hr; have hB5 := Lib.hid hb5; obtain ⟨b5, o5, rfl, hl5, hr5⟩ := hROW.out _ _ hR5.out; have hl5 := Lib.hid hl5; have hr5 := Lib.hid hr5; clear hb5)
        | (go_at_call 17; (with_reducible refine (cP.out _).mono ?_); rintro r w6 ⟨rfl, hb6⟩; have hn6 := below_new w6 (.cells #[.string p, .string ⟨#[2]⟩] 23); have hB6 := Lib.hid (hB5.out.trans ((hb6.trans (hn6.mono hb6.size)).mono hB5.out.size)); have hL1 := Lib.hid (fun W (h : Below (w6.alloc (.cells #[.string p, .string ⟨#[2]⟩] 23)).heap.size (w6.alloc (.cells #[.string p, .string ⟨#[2]⟩] 23)) W) => ldG_run (rangeAt_keep hr5.out ((hb6.trans (hn6.mono hb6.size)).trans (h.mono (Below.size (hb6.trans (hn6.mono hb6.size))))) hl5.out)); have hL2 := Lib.hid (fun W (h : Below (w6.alloc (.cells #[.string p, .string ⟨#[2]⟩] 23)).heap.size (w6.alloc (.cells #[.string p, .string ⟨#[2]⟩] 23)) W) => ldG_run (grp_range_keep (grp_range (heap_new w6 (.cells #[.string p, .string ⟨#[2]⟩] 23))) h (by simp))); clear hb6 hn6)
        | (go_at_call 15; (with_reducible refine (cC.out _).mono ?_); rintro r w7 ⟨rfl, rfl⟩))
      generalize w6.alloc (.cells #[.string p, .string ⟨#[2]⟩] 23) = w7 at hB6 hL1 hL2 ⊢
      have hB0 := Lib.hid (show Below w7.heap.size w7 w7.drew from drewN_below 1)
      have hEq := hEQ.out
      have hLL := Lib.hid (fun W (h : Below w7.heap.size w7 W) => (⟨hL1.out W h, hL2.out W h⟩ : (ldG ⟨b5, o5 + k * 2, none⟩).run Tryd.prog W = .ok (.agg #[.string p, .string ⟨#[2]⟩]) W ∧ (ldG ⟨w6.heap.size, 0, none⟩).run Tryd.prog W = .ok (.agg #[.string p, .string ⟨#[2]⟩]) W))
      go_region_held3 (fun W => (ldG ⟨b5, o5 + k * 2, none⟩).run Tryd.prog W = .ok (.agg #[.string p, .string ⟨#[2]⟩]) W ∧ (ldG ⟨w6.heap.size, 0, none⟩).run Tryd.prog W = .ok (.agg #[.string p, .string ⟨#[2]⟩]) W)
        (first | exact hLL.out _ hB0.out | exact hLL.out _ hB8.out | exact hLL.out _ hB9.out | exact hLL.out _ hB10.out)
        (first
          | (go_at_call 13; (with_reducible refine (aw.out _).mono ?_); rintro r w8 ⟨rfl, hb8⟩; have hB8 := Lib.hid (hB0.out.trans (hb8.mono hB0.out.size)); clear hb8)
          | (go_at_call 18; (with_reducible refine (cG.out _).mono ?_); rintro r w9 ⟨rfl, hb9⟩; have hB9 := Lib.hid (hB8.out.trans (hb9.mono hB8.out.size)); clear hb9)
          | (go_at_call 19; (with_reducible refine (cK.out _).mono ?_); rintro r w10 hr; obtain ⟨rfl, hb10⟩ := hr.ok; clear hr; have hB10 := Lib.hid (hB9.out.trans (hb10.mono hB9.out.size)); clear hb10))
      all_goals
        go_wp2_with fail
        go_ret
        exact ⟨rfl, hB6.out.trans (hB10.out.mono hB6.out.size)⟩
end Go.Proofs.YtlonejkmdibkaaaDoor
