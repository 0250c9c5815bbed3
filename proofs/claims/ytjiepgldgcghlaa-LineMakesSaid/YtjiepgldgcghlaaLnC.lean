/- Make, Right, Ahead and the first blank. -/
import Derived.Test.YtjiepgldgcghlaaLnB
import Derived.Test.YtjiepgldgcghlaaShelf
namespace Go.Proofs.Ytjiepgldgcghlaa
open Go.RowKit

def pfx : ByteArray := ⟨#[83, 83, 72, 45, 50, 46, 48, 45]⟩
def blankS : ByteArray := ⟨#[32]⟩
/-- The version line of a software and a comment. -/
def mkLn (sw cm : ByteArray) : ByteArray := if cm.size = 0 then pfx ++ sw else pfx ++ sw ++ (blankS ++ cm)
/-- The first blank's place; -1: none. -/
def blk (s : ByteArray) : Int := Lib.indexByte s.data.toList 32

theorem blk_take {l : List UInt8} {k : Nat} (h : ∀ i, i < k → l[i]? ≠ some 32) {x : UInt8} (hx : l[k]? = some x) (h32 : x = 32) : Lib.indexByte l 32 = k := by
  induction l generalizing k with
  | nil => simp at hx
  | cons b l ih =>
    cases k with
    | zero =>
      simp only [List.getElem?_cons_zero, Option.some.injEq] at hx
      subst hx; subst h32
      simp [Lib.indexByte]
    | succ k =>
      have hb : (b == 32) = false := by
        have := h 0 (by omega)
        simpa using this
      have := ih (k := k) (fun i hi => by have := h (i + 1) (by omega); simpa using this) (by simpa using hx)
      unfold Lib.indexByte
      rw [this]
      simp [hb]
theorem blk_none {l : List UInt8} (h : ∀ i, i < l.length → l[i]? ≠ some 32) : Lib.indexByte l 32 = -1 := by
  induction l with
  | nil => rfl
  | cons b l ih =>
    have hb : (b == 32) = false := by
      have := h 0 (by simp)
      simpa using this
    have := ih (fun i hi => by have := h (i + 1) (by simp; omega); simpa using this)
    unfold Lib.indexByte
    rw [this]
    simp [hb]

set_option maxHeartbeats 400000 in
theorem blank_any (s : ByteArray) (w : World) (hs : s.size ≤ 9223372036854775807) :
    Calls Try.prog 22 #[.string s] w fun r w' => r = .returned (.int .i64 (blk s)) ∧ w = w' := by
  go_enter Try.func22, Try.ntmps22
  go_wp2
  go_loop [3] (fun i => ∃ k : Nat, k ≤ s.size ∧ i = .int .i64 k ∧ Hid (∀ i, i < k → s.data.toList[i]? ≠ some 32)) (fun i => s.size - (intOf i).toNat)
  case atStart => exact ⟨0, by omega, rfl, by intro i hi; omega⟩
  case round =>
    obtain ⟨k, hk, rfl, hf⟩ := hrel
    by_cases hlt : k < s.size
    · have hg := Lib.hid (show s.data.toList[k]? = some s[k] by have := bsl_get hlt; rwa [bsl] at this)
      by_cases h32 : (s[k].toNat : Int) = 32
      · have hx := Lib.hid (show s[k] = 32 by rw [← UInt8.toNat_inj]; simpa using (show s[k].toNat = 32 by omega))
        have hb : ((s[k].toNat : Int) == 32) = true := by rw [beq_iff_eq]; exact h32
        clear h32
        go_wp2
        go_ret
        exact ⟨ret_int (blk_take hf.out hg.out hx.out).symm, rfl⟩
      · have hx := Lib.hid (show s[k] ≠ 32 by intro e; rw [e] at h32; simp at h32)
        have hb : ((s[k].toNat : Int) == 32) = false := by rw [beq_eq_false_iff_ne]; exact h32
        clear h32
        go_wp2
        go_round
        case rel =>
          refine ⟨k + 1, by omega, by go_num, fun i hi => ?_⟩
          by_cases e : i = k
          · subst e; rw [hg.out]; intro h; injection h with h; exact hx.out h
          · exact hf.out i (by omega)
        case measure => simp [intOf]; omega
    · go_wp2
      go_ret
      refine ⟨ret_int (blk_none (l := s.data.toList) (fun i hi => hf.out i (by rw [← bsl, bsl_len] at hi; omega))).symm, rfl⟩

def okMake (sw cm : ByteArray) (n : Nat) : Bool := decide (sw.size ≠ 0) && decide (blk sw < 0) && decide (n = (mkLn sw cm).size) && decide ((mkLn sw cm).size ≤ 253)

def makeV (sw cm : ByteArray) (n : Nat) : Value := if okMake sw cm n then .tuple #[.string (mkLn sw cm), .int .i64 0] else .tuple #[.string ByteArray.empty, .int .i64 1]
theorem makeV_no {sw cm : ByteArray} {n : Nat} (h : okMake sw cm n = false) : makeV sw cm n = .tuple #[.string ⟨#[]⟩, .int .i64 1] := by unfold makeV; rw [h]; rfl
theorem makeV_yes {sw cm : ByteArray} {n : Nat} (h : okMake sw cm n = true) : makeV sw cm n = .tuple #[.string (mkLn sw cm), .int .i64 0] := by unfold makeV; rw [h]; rfl

set_option maxHeartbeats 1000000 in
theorem make_any (sw cm : ByteArray) (n : Nat) (w : World) (h1 : sw.size ≤ 1000000) (h2 : cm.size ≤ 1000000) (h : PL (mkLn sw cm) n) :
    Calls Try.prog 10 #[.string sw, .string cm] w fun r w' => r = .returned (makeV sw cm n) ∧ w = w' := by
  have hsz : (mkLn sw cm).size ≤ 9223372036854775807 := by
    unfold mkLn
    split
    · rw [ByteArray.size_append]; have : pfx.size = 8 := rfl; omega
    · rw [ByteArray.size_append, ByteArray.size_append, ByteArray.size_append]; have : pfx.size = 8 := rfl; have : blankS.size = 1 := rfl; omega
  have cA := all_any (mkLn sw cm) n w hsz h
  have cC := Try.strings_Contains_one sw 32 w
  by_cases h0 : sw.size = 0
  · have hv := Lib.hid (show okMake sw cm n = false by simp [okMake, h0])
    have e1 : sw.toList = [] := by rw [← List.length_eq_zero_iff, bsl_len]; exact h0
    clear cA cC h hsz h0
    go_enter Try.func10, Try.ntmps10
    go_wp2_with fail
    go_ret2
    exact ⟨by rw [makeV_no hv.out]; rfl, rfl⟩
  have e1 : sw.toList.isEmpty = false := by rw [← Bool.not_eq_true, List.isEmpty_iff, ← List.length_eq_zero_iff, bsl_len]; exact h0
  have e1' : sw.toList ≠ [] := by rw [ne_eq, ← List.length_eq_zero_iff, bsl_len]; exact h0
  by_cases hb : 0 ≤ blk sw
  · have hv := Lib.hid (show okMake sw cm n = false by
      unfold okMake; rw [decide_eq_false (show ¬ blk sw < 0 by omega)]; simp)
    rw [show decide (0 ≤ Lib.indexByte sw.data.toList 32) = true from decide_eq_true hb] at cC
    have cC := Lib.hid cC
    clear cA h hsz h0 hb
    go_enter Try.func10, Try.ntmps10
    go_wp2_with (go_at_call 20; refine cC.out.mono ?_; rintro r w1 ⟨rfl, rfl⟩)
    go_ret2
    exact ⟨by rw [makeV_no hv.out]; rfl, rfl⟩
  rw [show decide (0 ≤ Lib.indexByte sw.data.toList 32) = false from decide_eq_false hb] at cC
  have hv0 : okMake sw cm n = (decide (n = (mkLn sw cm).size) && decide ((mkLn sw cm).size ≤ 253)) := by
    unfold okMake; rw [decide_eq_true (show blk sw < 0 by omega), decide_eq_true h0]; simp
  rw [← hv0] at cA
  have hcm : cm.size = 0 ∨ cm.size ≠ 0 := by omega
  rcases hcm with hc | hc
  · have e2 : cm.toList = [] := by rw [← List.length_eq_zero_iff, bsl_len]; exact hc
    have em : mkLn sw cm = pfx ++ sw := by unfold mkLn; rw [if_pos hc]
    rw [em] at cA
    have cC := Lib.hid cC
    cases hok : okMake sw cm n with
    | true =>
      rw [hok] at cA
      have cA := Lib.hid cA
      have em := Lib.hid em
      have hok := Lib.hid hok
      clear hv0 h hsz h0 hb hc
      go_enter Try.func10, Try.ntmps10
      go_wp2_with (first | (go_at_call 20; refine cC.out.mono ?_; rintro r w1 ⟨rfl, rfl⟩) | (go_at_call 21; refine cA.out.mono ?_; rintro r w1 ⟨rfl, rfl⟩))
      go_ret2
      exact ⟨by rw [makeV_yes hok.out, em.out]; rfl, rfl⟩
    | false =>
      rw [hok] at cA
      have cA := Lib.hid cA
      have em := Lib.hid em
      have hok := Lib.hid hok
      clear hv0 h hsz h0 hb hc
      go_enter Try.func10, Try.ntmps10
      go_wp2_with (first | (go_at_call 20; refine cC.out.mono ?_; rintro r w1 ⟨rfl, rfl⟩) | (go_at_call 21; refine cA.out.mono ?_; rintro r w1 ⟨rfl, rfl⟩))
      go_ret2
      exact ⟨by rw [makeV_no hok.out]; rfl, rfl⟩
  · have e2 : cm.toList.isEmpty = false := by rw [← Bool.not_eq_true, List.isEmpty_iff, ← List.length_eq_zero_iff, bsl_len]; exact hc
    have e2' : cm.toList ≠ [] := by rw [ne_eq, ← List.length_eq_zero_iff, bsl_len]; exact hc
    have em : mkLn sw cm = pfx ++ sw ++ (blankS ++ cm) := by unfold mkLn; rw [if_neg hc]
    rw [em] at cA
    have cC := Lib.hid cC
    cases hok : okMake sw cm n with
    | true =>
      rw [hok] at cA
      have cA := Lib.hid cA
      have em := Lib.hid em
      have hok := Lib.hid hok
      clear hv0 h hsz h0 hb hc
      go_enter Try.func10, Try.ntmps10
      go_wp2_with (first | (go_at_call 20; refine cC.out.mono ?_; rintro r w1 ⟨rfl, rfl⟩) | (go_at_call 21; refine cA.out.mono ?_; rintro r w1 ⟨rfl, rfl⟩))
      go_ret2
      exact ⟨by rw [makeV_yes hok.out, em.out]; rfl, rfl⟩
    | false =>
      rw [hok] at cA
      have cA := Lib.hid cA
      have em := Lib.hid em
      have hok := Lib.hid hok
      clear hv0 h hsz h0 hb hc
      go_enter Try.func10, Try.ntmps10
      go_wp2_with (first | (go_at_call 20; refine cC.out.mono ?_; rintro r w1 ⟨rfl, rfl⟩) | (go_at_call 21; refine cA.out.mono ?_; rintro r w1 ⟨rfl, rfl⟩))
      go_ret2
      exact ⟨by rw [makeV_no hok.out]; rfl, rfl⟩
end Go.Proofs.Ytjiepgldgcghlaa
