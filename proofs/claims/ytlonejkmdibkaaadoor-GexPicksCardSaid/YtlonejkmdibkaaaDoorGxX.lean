/- The walk of GexPicks. -/
import Derived.Test.YtlonejkmdibkaaaDoorGxV
import Derived.Test.YtlonejkmdibkaaaDoorGxM
import Derived.Test.YtlonejkmdibkaaaDoorGxG
namespace Go.Proofs.YtlonejkmdibkaaaDoor
open Go.RowKit

attribute [local go_sem ↓] ldG_eq eqG_eq egG_eq
attribute [local go_sem] egG_run
set_option maxRecDepth 100000 in
set_option maxHeartbeats 8000000 in
theorem law_gexPicks (a b c : Int) (w : World) (ha0 : 0 ≤ a) (ha1 : a ≤ 4294967295) (hb0 : 0 ≤ b) (hb1 : b ≤ 4294967295) (hc0 : 0 ≤ c) (hc1 : c ≤ 4294967295) (G : ETy w) :
    Calls Tryd.prog 7 #[.int .u32 a, .int .u32 b, .int .u32 c] w fun r w' => r = .returned (.bool true) ∧ Below w.heap.size w w' := by
  have aw := Lib.hid (fun W => awake18_any W)
  have G := Lib.hid G
  have cR1 := Lib.hid (fun W => gxRight_any a b c W)
  have cR2 := Lib.hid (fun W => refRight_any a b c W)
  have cQ := fun W => refPick_any a b c W
  have cP := gexPick_any a b c w
  have hk4 := pickK_le a b c
  have hbt := @pick_between a b c
  generalize pickK a b c = k at cQ cP hk4 hbt
  have hw1 : IntKind.i64.wrap a = a := IntWalk.i64_in _ (by omega)
  have hw2 : IntKind.i64.wrap b = b := IntWalk.i64_in _ (by omega)
  have hw3 : IntKind.i64.wrap c = c := IntWalk.i64_in _ (by omega)
  by_cases hk : k = 0
  · subst hk
    have cQ := Lib.hid cQ
    have cP' : Calls Tryd.prog 17 #[.int .u32 a, .int .u32 b, .int .u32 c] w fun r w' => ∃ T u, r = .returned (.tuple #[.agg #[.string ⟨#[]⟩, .string ⟨#[]⟩], .iface T u]) ∧ isErr w' (some 5) [gexS] (.iface T u) ∧ Below w.heap.size w w' := Calls.mono cP (fun r w' h => by
      rcases h with ⟨_, h⟩ | ⟨h0, _⟩
      · exact h
      · exact absurd rfl h0)
    have cP' := Lib.hid cP'
    have hE := Lib.hid (fun W => eql_grp (p := ⟨#[]⟩) (g := ⟨#[]⟩) (q := ⟨#[]⟩) (h := ⟨#[]⟩) (by decide) (by decide) (by decide) (by decide) true (by simp) W)
    clear cP hbt hk4
    go_enter Tryd.func7, Tryd.ntmps7
    go_wp2_with (first
      | (go_at_call 17; (with_reducible refine cP'.out.mono ?_); rintro r w5 ⟨T5, u5, rfl, hE5, hb5⟩; have hn5 := below_new w5 (.cells #[.string ⟨#[]⟩, .string ⟨#[]⟩] 23); have hE5 := Lib.hid (hE5.keep hn5); have hB5 := Lib.hid (hb5.trans (hn5.mono hb5.size)); have hg5 := Lib.hid (fun W (h : Below (w5.alloc (.cells #[.string ⟨#[]⟩, .string ⟨#[]⟩] 23)).heap.size (w5.alloc (.cells #[.string ⟨#[]⟩, .string ⟨#[]⟩] 23)) W) => ldG_run (grp_range_keep (grp_range (heap_new w5 (.cells #[.string ⟨#[]⟩, .string ⟨#[]⟩] 23))) h (by simp))); have hz5 := Lib.hid (Below.size hn5); clear hb5 hn5)
      | (go_at_call 37; (with_reducible refine (cQ.out _).mono ?_); rintro r w6 ⟨rfl, rfl⟩)
      | (go_at_call 38; (with_reducible refine (cR1.out _).mono ?_); rintro r w6 ⟨rfl, rfl⟩)
      | (go_at_call 39; (with_reducible refine (cR2.out _).mono ?_); rintro r w6 ⟨rfl, rfl⟩)
      | (go_at_call 13; (with_reducible refine (aw.out _).mono ?_); rintro r w8 ⟨rfl, hb8⟩; have hE8 := Lib.hid (hE5.out.keep hb8); have hT8 := Lib.hid hb8; have hB8 := Lib.hid (hB5.out.trans (hb8.mono hB5.out.size)); clear hb8)
      | (go_at_call 40; refine (wrong18_any _ _ _ hE8.out (G.out.keep hB8.out)).mono ?_; rintro r w9 ⟨rfl, hb9⟩; have hB9 := Lib.hid (hB8.out.trans (hb9.mono hB8.out.size)); have l9 := hg5.out _ (hT8.out.trans (hb9.mono hT8.out.size)); clear hb9)
      | (refine wpList_eql_at 23 _ _ _ rfl rfl #[.string ⟨#[]⟩, .string ⟨#[]⟩] #[.string ⟨#[]⟩, .string ⟨#[]⟩] rfl rfl grp_guard true (hE.out _) ?_))
    go_ret
    exact ⟨rfl, hB9.out⟩
  · have h4 := four_of hk4 hk
    obtain ⟨hba, hbc⟩ := hbt hk
    have cG := fun W => refGroup_any k W h4
    have hbits := gxP_bits k (by omega) (by omega)
    have hsz := gxP_size k
    have cB := fun W => gxBits_any (gxP k) ⟨#[2]⟩ W (by omega)
    have hck := check_grp h4 hba hbc
    have cK := fun W => gxCheck_any a c (gxP k) ⟨#[2]⟩ W (by omega) (by decide)
    rw [hck] at cK
    rw [hbits] at cB
    have cP' : Calls Tryd.prog 17 #[.int .u32 a, .int .u32 b, .int .u32 c] w fun r w' => r = .returned (.tuple #[.agg #[.string (gxP k), .string ⟨#[2]⟩], .nilIface]) ∧ Below w.heap.size w w' := Calls.mono cP (fun r w' h => pick2 h hk)
    have hE := fun W => eql_grp (p := gxP k) (g := ⟨#[2]⟩) (q := gxP k) (h := ⟨#[2]⟩) (by omega) (by decide) (by omega) (by decide) true (by simp) W
    rw [show (1024 * (k : Int)) = ((1024 * k : Nat) : Int) by omega] at cB
    have hx0 : (((1024 * k : Nat) : Int) == 0) = false := beq_eq_false_iff_ne.2 (by omega)
    clear hck hbits hsz cP hbt hk4
    generalize gxP k = p at cP' cG cB cK hE
    generalize ((1024 * k : Nat) : Int) = x at cQ cG cB hx0
    have cP' := Lib.hid cP'
    have cG := Lib.hid cG
    have cB := Lib.hid cB
    have cK := Lib.hid cK
    have cQ := Lib.hid cQ
    have hEq : ∀ W, (eqG (.agg #[.string p, .string ⟨#[2]⟩]) (.agg #[.string p, .string ⟨#[2]⟩])).run Tryd.prog W = .ok (.bool true) W := hE
    have hEQ := Lib.hid hEq
    clear hE hEq h4 hk hba hbc
    go_enter Tryd.func7, Tryd.ntmps7
    go_upto_region 7 with (first
      | (go_at_call 17; (with_reducible refine cP'.out.mono ?_); rintro r w5 ⟨rfl, hb5⟩; have hn5 := below_new w5 (.cells #[.string p, .string ⟨#[2]⟩] 23); have hB5 := Lib.hid (hb5.trans (hn5.mono hb5.size)); have hL := Lib.hid (fun W (h : Below (w5.alloc (.cells #[.string p, .string ⟨#[2]⟩] 23)).heap.size (w5.alloc (.cells #[.string p, .string ⟨#[2]⟩] 23)) W) => ldG_run (grp_range_keep (grp_range (heap_new w5 (.cells #[.string p, .string ⟨#[2]⟩] 23))) h (by simp))); clear hb5 hn5)
      | (go_at_call 37; (with_reducible refine (cQ.out _).mono ?_); rintro r w6 ⟨rfl, rfl⟩)
      | (go_at_call 38; (with_reducible refine (cR1.out _).mono ?_); rintro r w6 ⟨rfl, rfl⟩)
      | (go_at_call 39; (with_reducible refine (cR2.out _).mono ?_); rintro r w6 ⟨rfl, rfl⟩))
    generalize w5.alloc (.cells #[.string p, .string ⟨#[2]⟩] 23) = w6 at hB5 hL ⊢
    have hB0 := Lib.hid (show Below w6.heap.size w6 w6.drew from drewN_below 1)
    have hEq := hEQ.out
    go_region_held3 (fun W => (ldG ⟨w5.heap.size, 0, none⟩).run Tryd.prog W = .ok (.agg #[.string p, .string ⟨#[2]⟩]) W)
      (first | exact hL.out _ hB0.out | exact hL.out _ hB8.out | exact hL.out _ hB9.out | exact hL.out _ hB10.out | exact hL.out _ hB11.out)
      (first
        | (go_at_call 13; (with_reducible refine (aw.out _).mono ?_); rintro r w8 ⟨rfl, hb8⟩; have hB8 := Lib.hid (hB0.out.trans (hb8.mono hB0.out.size)); clear hb8)
        | (go_at_call 18; (with_reducible refine (cG.out _).mono ?_); rintro r w9 ⟨rfl, hb9⟩; have hB9 := Lib.hid (hB8.out.trans (hb9.mono hB8.out.size)); clear hb9)
        | (go_at_call 41; (with_reducible refine (cB.out _).mono ?_); rintro r w10 ⟨rfl, hb10⟩; have hB10 := Lib.hid (hB9.out.trans (hb10.mono hB9.out.size)); clear hb10)
        | (go_at_call 19; (with_reducible refine (cK.out _).mono ?_); rintro r w11 hr; obtain ⟨rfl, hb11⟩ := hr.ok; clear hr; have hB11 := Lib.hid (hB10.out.trans (hb11.mono hB10.out.size)); clear hb11))
    all_goals
      go_wp2_with fail
      go_ret
      exact ⟨rfl, hB5.out.trans (hB11.out.mono hB5.out.size)⟩
end Go.Proofs.YtlonejkmdibkaaaDoor
