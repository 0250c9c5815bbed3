/- Gex: Bits, names, Right. -/
import Derived.Test.YtlonejkmdibkaaaDoorGxN
import Derived.Test.YtlonejkmdibkaaaDoorShelf
import Derived.Deep.DeepCutAuto
import Derived.Deep.RegionHeld3
namespace Go.Proofs.YtlonejkmdibkaaaDoor
open Go.RowKit

theorem lz_len8 : ∀ n : Fin 256, (Lib.bitLen n.val : Int) = 8 - lz n.val := by decide +kernel
theorem below_new (w : World) (o : Obj) : Below w.heap.size w (w.alloc o) := (Below.refl _ _).alloc (Nat.le_refl _) o
set_option maxHeartbeats 1000000 in
theorem bits_any (s : ByteArray) (w : World) (hs : s.size ≤ 1000000) :
    Calls Tryd.prog 73 #[.string s] w fun r w' => r = .returned (.int .i64 (bitsI s)) ∧ w = w' := by
  have c := Lib.hid (plain_any s w hs)
  have hz := plainS_size s
  unfold bitsI
  generalize plainS s = t at c hz ⊢
  have hz : t.size ≤ 1000000 := by omega
  by_cases hp : 0 < t.size
  · have hr := bitsT_pos hp
    have hb2 : t[0].toNat < 256 := t[0].toNat_lt
    have h8 := lz_len8 ⟨t[0].toNat, hb2⟩
    have hl := lz_range (t[0].toNat)
    have cL := Lib.hid (fun W => Tryd.bits_Len8 (t[0].toNat) W (by omega) (by omega))
    rw [Int.toNat_natCast] at cL
    simp only at h8
    generalize hq : (Lib.bitLen t[0].toNat : Int) = q at cL h8
    have hq8 : q ≤ 8 := by omega
    have hq0 : 0 ≤ q := by omega
    have hr := Lib.hid (show bitsT t = 8 * (t.size - 1) + q by omega)
    have hl : (t.toList == []) = false := by
      rw [beq_eq_false_iff_ne]
      intro e
      rw [← bsl_len, e] at hp
      exact absurd hp (by decide)
    have hl2 : t.toList.isEmpty = false := by
      cases hq : t.toList with
      | nil => rw [hq] at hl; cases hl
      | cons x r => rfl
    clear hq h8
    go_enter Tryd.func73, Tryd.ntmps73
    go_wp2_with (first
      | (go_at_call 102; refine c.out.mono ?_; rintro r w1 ⟨rfl, rfl⟩)
      | (go_at_call 103; refine (cL.out _).mono ?_; rintro r w1 ⟨rfl, rfl⟩))
    go_ret
    exact ⟨ret_int (by rw [hr.out]), rfl⟩
  · have hr := Lib.hid (bitsT_nil hp)
    have hl : t.toList = [] := by rw [← List.length_eq_zero_iff, bsl_len]; omega
    have he : t = ⟨#[]⟩ := bs_ext (by rw [hl, bsl])
    subst he
    go_enter Tryd.func73, Tryd.ntmps73
    go_wp2_with (go_at_call 102; refine c.out.mono ?_; rintro r w1 ⟨rfl, rfl⟩)
    go_ret
    exact ⟨ret_int hr.out.symm, rfl⟩
/-- A group. -/
def grp (p g : ByteArray) : Value := .agg #[.string p, .string g]
theorem gxBits_any (p g : ByteArray) (w : World) (hs : p.size ≤ 1000000) :
    Calls Tryd.prog 41 #[.agg #[.string p, .string g]] w fun r w' => r = .returned (.int .i64 (bitsI p)) ∧ Below w.heap.size w w' := by
  have c := Lib.hid (fun W => bits_any p W hs)
  go_enter Tryd.func41, Tryd.ntmps41
  go_wp2_with (go_at_call 73; refine (c.out _).mono ?_; rintro r w1 ⟨rfl, rfl⟩)
  go_ret
  exact ⟨rfl, below_new _ _⟩
theorem gxRight_any (a b c : Int) (w : World) :
    Calls Tryd.prog 38 #[.int .u32 a, .int .u32 b, .int .u32 c] w fun r w' => r = .returned (.bool (rightB a b c)) ∧ w = w' := by
  have hr := Lib.hid (show rightB a b c = (decide (1024 ≤ a) && decide (a ≤ b) && decide (b ≤ c) && decide (c ≤ 8192)) from rfl)
  cases h1 : decide (1024 ≤ a) <;> cases h2 : decide (a ≤ b) <;> cases h3 : decide (b ≤ c) <;> cases h4 : decide (c ≤ 8192)
  all_goals
    rw [h1, h2, h3, h4] at hr
    simp only [decide_eq_true_eq, decide_eq_false_iff_not] at h1 h2 h3 h4
    go_enter Tryd.func38, Tryd.ntmps38
    go_wp2
    go_ret
    exact ⟨by rw [hr.out]; rfl, rfl⟩
theorem refRight_any (a b c : Int) (w : World) :
    Calls Tryd.prog 39 #[.int .i64 a, .int .i64 b, .int .i64 c] w fun r w' => r = .returned (.bool (rightB a b c)) ∧ w = w' := by
  have hr := Lib.hid (show rightB a b c = (decide (1024 ≤ a) && decide (a ≤ b) && decide (b ≤ c) && decide (c ≤ 8192)) from rfl)
  cases h1 : decide (1024 ≤ a) <;> cases h2 : decide (a ≤ b) <;> cases h3 : decide (b ≤ c) <;> cases h4 : decide (c ≤ 8192)
  all_goals
    rw [h1, h2, h3, h4] at hr
    simp only [decide_eq_true_eq, decide_eq_false_iff_not] at h1 h2 h3 h4
    go_enter Tryd.func39, Tryd.ntmps39
    go_wp2
    go_ret
    exact ⟨by rw [hr.out]; rfl, rfl⟩
def curveV (m : Int) : Value := if m = 1 then .tuple #[.string curve1S, .bool true] else if m = 2 then .tuple #[.string curve2S, .bool true] else .tuple #[.string ⟨#[]⟩, .bool false]
theorem curve_any (m : Int) (w : World) :
    Calls Tryd.prog 15 #[.int .i64 m] w fun r w' => r = .returned (curveV m) ∧ w = w' := by
  have hp : m = 1 ∨ m = 2 ∨ (m ≠ 1 ∧ m ≠ 2) := by omega
  rcases hp with rfl | rfl | ⟨h1, h2⟩
  · go_enter Tryd.func15, Tryd.ntmps15
    go_wp2
    go_ret2
    exact ⟨rfl, rfl⟩
  · go_enter Tryd.func15, Tryd.ntmps15
    go_wp2
    go_ret2
    exact ⟨rfl, rfl⟩
  · have hv := Lib.hid (show curveV m = .tuple #[.string ⟨#[]⟩, .bool false] by unfold curveV; rw [if_neg h1, if_neg h2])
    have k1 : (m == 1) = false := beq_eq_false_iff_ne.2 h1
    have k2 : (m == 2) = false := beq_eq_false_iff_ne.2 h2
    clear h1 h2
    go_enter Tryd.func15, Tryd.ntmps15
    go_wp2
    go_ret2
    exact ⟨congrArg Ending.returned hv.out.symm, rfl⟩
def nameV (p g : ByteArray) : Value := if (nameS p g).size ≤ 2100 then .tuple #[.string (nameS p g), .int .i64 0] else .tuple #[.string ⟨#[]⟩, .int .i64 2]
def nameR (p g : ByteArray) : ByteArray := if (nameS p g).size ≤ 2100 then nameS p g else ⟨#[]⟩
set_option maxRecDepth 100000 in
set_option maxHeartbeats 4000000 in
theorem gxName_any (p g : ByteArray) (w : World) (hp : p.size ≤ 1000000) (hg : g.size ≤ 1000000) :
    Calls Tryd.prog 14 #[.agg #[.string p, .string g]] w fun r w' => r = .returned (nameV p g) ∧ Below w.heap.size w w' := by
  have hB1 := Lib.hid (below_new w (.cells #[.string p, .string g] 23))
  have hc := heap_new w (.cells #[.string p, .string g] 23)
  have hlt := (Array.getElem?_eq_some_iff.1 hc).1
  have c0 : (w.alloc (.cells #[.string p, .string g] 23)).cell? ⟨w.heap.size, 0, none⟩ = some (.string p) := cell_of_row _ _ 0 _ _ _ hc
  have c1 : (w.alloc (.cells #[.string p, .string g] 23)).cell? ⟨w.heap.size, 1, none⟩ = some (.string g) := cell_of_row _ _ 1 _ _ _ hc
  have hz := u32S_size p.size
  have hw : IntKind.u32.wrap (p.size : Int) = (p.size : Int) := IntWalk.u32_in _ (by omega)
  have cU := fun W => u32_any p.size W (by omega) (by omega)
  have hv : nameV p g = if (nameS p g).size ≤ 2100 then .tuple #[.string (nameS p g), .int .i64 0] else .tuple #[.string ⟨#[]⟩, .int .i64 2] := rfl
  have hU : nameS p g = ⟨#[103, 101, 120, 58]⟩ ++ u32S p.size ++ p ++ g := rfl
  have hsz := nameS_size p g
  generalize u32S p.size = u at hz cU hU
  rw [hU] at hv hsz
  clear hU hc
  have hv := Lib.hid hv
  have cU := Lib.hid cU
  have l1 : ¬ (9223372036854775807 < 8 + p.size) := by omega
  have l2 : ¬ (9223372036854775807 < 8 + p.size + g.size) := by omega
  have e4 : (⟨#[103, 101, 120, 58]⟩ : ByteArray).size = 4 := rfl
  have z1 : (⟨#[103, 101, 120, 58]⟩ ++ u : ByteArray).size = 8 := by rw [ByteArray.size_append, e4, hz]
  have z2 : (⟨#[103, 101, 120, 58]⟩ ++ u ++ p : ByteArray).size = 8 + p.size := by rw [ByteArray.size_append, z1]
  go_enter Tryd.func14, Tryd.ntmps14
  go_upto_region 1 with fail
  generalize w.alloc (.cells #[.string p, .string g] 23) = w1 at hB1 c0 c1 hlt ⊢
  have hS := Lib.hid (fun W (h : Below w1.heap.size w1 W) => (⟨(h.cell (p := ⟨w.heap.size, 0, none⟩) hlt).trans c0, (h.cell (p := ⟨w.heap.size, 1, none⟩) hlt).trans c1⟩ : W.cell? ⟨w.heap.size, 0, none⟩ = some (.string p) ∧ W.cell? ⟨w.heap.size, 1, none⟩ = some (.string g)))
  have hB0 := Lib.hid (show Below w1.heap.size w1 w1.drew from drewN_below 1)
  go_region_held3 (fun W => W.cell? ⟨w.heap.size, 0, none⟩ = some (.string p) ∧ W.cell? ⟨w.heap.size, 1, none⟩ = some (.string g))
    (first | exact hS.out _ hB0.out | exact hS.out _ hB7.out)
    (first
      | (go_at_call 65; (with_reducible refine (cU.out _).mono ?_); rintro r w7 ⟨rfl, hb7⟩; have hB7 := Lib.hid (hB0.out.trans (hb7.mono hB0.out.size)); clear hb7))
  all_goals
    by_cases h21 : (⟨#[103, 101, 120, 58]⟩ ++ u ++ p ++ g : ByteArray).size ≤ 2100
    · rw [if_pos h21] at hv
      go_wp2_with fail
      go_ret2
      exact ⟨congrArg Ending.returned hv.out.symm, hB1.out.trans (hB7.out.mono hB1.out.size)⟩
    · rw [if_neg h21] at hv
      go_wp2_with fail
      go_ret2
      exact ⟨congrArg Ending.returned hv.out.symm, hB1.out.trans (hB7.out.mono hB1.out.size)⟩
set_option maxRecDepth 100000 in
set_option maxHeartbeats 4000000 in
theorem refName_any (p g : ByteArray) (w : World) (hp : p.size ≤ 1000000) (hg : g.size ≤ 1000000) :
    Calls Tryd.prog 42 #[.agg #[.string p, .string g]] w fun r w' => r = .returned (.string (nameR p g)) ∧ Below w.heap.size w w' := by
  have hB1 := Lib.hid (below_new w (.cells #[.string p, .string g] 23))
  have hc := heap_new w (.cells #[.string p, .string g] 23)
  have hlt := (Array.getElem?_eq_some_iff.1 hc).1
  have c0 : (w.alloc (.cells #[.string p, .string g] 23)).cell? ⟨w.heap.size, 0, none⟩ = some (.string p) := cell_of_row _ _ 0 _ _ _ hc
  have c1 : (w.alloc (.cells #[.string p, .string g] 23)).cell? ⟨w.heap.size, 1, none⟩ = some (.string g) := cell_of_row _ _ 1 _ _ _ hc
  have hz := u32S_size p.size
  have cU := fun W => refU32_any p.size W (by omega) (by omega)
  have hv : nameR p g = if (nameS p g).size ≤ 2100 then nameS p g else ⟨#[]⟩ := rfl
  have hU : nameS p g = ⟨#[103, 101, 120, 58]⟩ ++ u32S p.size ++ p ++ g := rfl
  have hsz := nameS_size p g
  generalize u32S p.size = u at hz cU hU
  rw [hU] at hv hsz
  clear hU hc
  have hv := Lib.hid hv
  have cU := Lib.hid cU
  have l1 : ¬ (9223372036854775807 < 8 + p.size) := by omega
  have l2 : ¬ (9223372036854775807 < 8 + p.size + g.size) := by omega
  have e4 : (⟨#[103, 101, 120, 58]⟩ : ByteArray).size = 4 := rfl
  have z1 : (⟨#[103, 101, 120, 58]⟩ ++ u : ByteArray).size = 8 := by rw [ByteArray.size_append, e4, hz]
  have z2 : (⟨#[103, 101, 120, 58]⟩ ++ u ++ p : ByteArray).size = 8 + p.size := by rw [ByteArray.size_append, z1]
  go_enter Tryd.func42, Tryd.ntmps42
  go_upto_region 1 with fail
  generalize w.alloc (.cells #[.string p, .string g] 23) = w1 at hB1 c0 c1 hlt ⊢
  have hS := Lib.hid (fun W (h : Below w1.heap.size w1 W) => (⟨(h.cell (p := ⟨w.heap.size, 0, none⟩) hlt).trans c0, (h.cell (p := ⟨w.heap.size, 1, none⟩) hlt).trans c1⟩ : W.cell? ⟨w.heap.size, 0, none⟩ = some (.string p) ∧ W.cell? ⟨w.heap.size, 1, none⟩ = some (.string g)))
  have hB0 := Lib.hid (show Below w1.heap.size w1 w1.drew from drewN_below 1)
  go_region_held3 (fun W => W.cell? ⟨w.heap.size, 0, none⟩ = some (.string p) ∧ W.cell? ⟨w.heap.size, 1, none⟩ = some (.string g))
    (first | exact hS.out _ hB0.out | exact hS.out _ hB7.out)
    (first
      | (go_at_call 80; (with_reducible refine (cU.out _).mono ?_); rintro r w7 ⟨rfl, hb7⟩; have hB7 := Lib.hid (hB0.out.trans (hb7.mono hB0.out.size)); clear hb7))
  all_goals
    by_cases h21 : (⟨#[103, 101, 120, 58]⟩ ++ u ++ p ++ g : ByteArray).size ≤ 2100
    · rw [if_pos h21] at hv
      go_wp2_with fail
      go_ret
      exact ⟨ret_str hv.out.symm, hB1.out.trans (hB7.out.mono hB1.out.size)⟩
    · rw [if_neg h21] at hv
      go_wp2_with fail
      go_ret
      exact ⟨ret_str hv.out.symm, hB1.out.trans (hB7.out.mono hB1.out.size)⟩
end Go.Proofs.YtlonejkmdibkaaaDoor
