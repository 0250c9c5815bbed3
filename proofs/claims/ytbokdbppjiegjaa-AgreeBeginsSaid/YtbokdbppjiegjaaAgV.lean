/- The walk of AgreeBegins. -/
import Derived.Test.YtbokdbppjiegjaaAgT
namespace Go.Proofs.Ytbokdbppjiegjaa
open Go.RowKit

theorem begins_lo {es : List Ev} {k : Nat} (hk : k ≤ es.length) (h : wrongI es = -1 ∨ (k : Int) ≤ wrongI es) : wrongV (es.take k) = .tuple #[.int .i64 (-1), .string ⟨#[]⟩] ∧ ∀ j, ruleN (es.take k) j = 0 := by
  have h0 : ∀ j, ruleN (es.take k) j = 0 := by
    intro j
    by_cases hj : j < k
    · rw [rule_take es hj hk]
      rcases wrongI_cases es with ⟨_, h1⟩ | ⟨i, h1, _, _, h2⟩
      · exact h1 j
      · exact h2 j (by omega)
    · exact rule_none _ (by rw [List.length_take]; omega)
  exact ⟨wrong_none (by rw [List.any_eq_false]; intro j _; simp [h0 j]), h0⟩
theorem begins_hi {es : List Ev} {k : Nat} (hk : k ≤ es.length) (h0 : 0 ≤ wrongI es) (h : wrongI es < k) : wrongV (es.take k) = wrongV es ∧ (wrongW es).toList.isEmpty = false := by
  rcases wrongI_cases es with ⟨h1, _⟩ | ⟨i, h1, h2, h3, h4⟩
  · omega
  · have hik : i < k := by omega
    have e1 : wrongI (es.take k) = i := by
      refine wrong_hit (by rw [List.length_take]; omega) (by rw [rule_take es hik hk]; exact h3) ?_
      rw [List.any_eq_false]
      intro j hj
      have hj := List.mem_range.1 hj
      rw [rule_take es (by omega) hk, h4 j hj]
      decide
    refine ⟨?_, ?_⟩
    · unfold wrongV wrongW
      rw [e1, h1, Int.toNat_natCast, rule_take es hik hk]
    · unfold wrongW
      rw [h1, Int.toNat_natCast]
      exact wordN_ne (ruleN_le es i) h3

set_option maxRecDepth 100000 in
set_option maxHeartbeats 4000000 in
theorem law_agreeBegins (es : List Ev) (hok : ∀ e ∈ es, allOk evDs e.cells) (A : Option Addr) (n c : Nat) (x : Int) (w : World) (hc : n ≤ c) (hn : c ≤ 9223372036854775807) (hx0 : 0 ≤ x) (hx1 : x ≤ 255) (H : Evs w A n es) :
    Calls Try.prog 7 #[.slice A n c, .int .u8 x] w fun r w' => r = .returned (.bool true) ∧ Below w.heap.size w w' := by
  have aw := Lib.hid (fun W => awake32_any W)
  by_cases h40 : 40 < n
  · go_enter Try.func7, Try.ntmps7
    go_wp2_with (go_at_call 18; refine (aw.out _).mono ?_; rintro r w5 ⟨rfl, hb5⟩)
    go_ret
    exact ⟨rfl, hb5⟩
  have h40 : n ≤ 40 := by omega
  obtain ⟨X, rfl⟩ := Int.eq_ofNat_of_zero_le hx0
  have hlen := H.len
  have hkn : X % (n + 1) ≤ n := by have := Nat.mod_lt X (show 0 < n + 1 by omega); omega
  have hrem : (X : Int) % ((n : Int) + 1) = ((X % (n + 1) : Nat) : Int) := by
    rw [Int.natCast_emod]; rfl
  generalize X % (n + 1) = k at hkn hrem
  have cW := Lib.hid (wrong_any es hok A n c w hc (by omega) hn H)
  have HH := Lib.hid H
  have hokt : ∀ e ∈ es.take k, allOk evDs e.cells := fun e he => hok e (List.mem_of_mem_take he)
  have cT := Lib.hid (fun W (h : Below w.heap.size w W) => wrong_any (es.take k) hokt A k c W (by omega) (by omega) hn ((HH.out.keep h).take_ hkn))
  have i1 : (k : Int) ≤ (c : Int) := by omega
  have hp : (wrongI es = -1 ∨ (k : Int) ≤ wrongI es) ∨ (0 ≤ wrongI es ∧ wrongI es < k) := by
    rcases wrongI_cases es with ⟨h, _⟩ | ⟨j, h, _⟩ <;> omega
  rcases hp with hp | ⟨h0, h1⟩
  · obtain ⟨e1, e2⟩ := begins_lo (by omega) hp
    have cC := Lib.hid (fun W (h : Below w.heap.size w W) => check_ok (es.take k) hokt A k c W (by omega) (by omega) hn ((HH.out.keep h).take_ hkn) e2)
    rw [e1] at cT
    have hi : wrongV es = .tuple #[.int .i64 (wrongI es), .string (wrongW es)] := rfl
    rw [hi] at cW
    generalize wrongI es = i at cW hp
    generalize wrongW es = s at cW
    clear hi e1 e2 hlen hokt H hok hx0
    rcases hp with rfl | hp
    · go_enter Try.func7, Try.ntmps7
      go_wp2_with (first
        | (go_at_call 25; (with_reducible refine cW.out.mono ?_); rintro r w5 ⟨rfl, hb5⟩; have hB5 := Lib.hid hb5; clear hb5)
        | (go_at_call 25; (with_reducible refine (cT.out _ hB5.out).mono ?_); rintro r w6 ⟨rfl, hb6⟩; have hB6 := Lib.hid (hB5.out.trans (hb6.mono hB5.out.size)); clear hb6)
        | (go_at_call 18; (with_reducible refine (aw.out _).mono ?_); rintro r w7 ⟨rfl, hb7⟩; have hB7 := Lib.hid (hB6.out.trans (hb7.mono hB6.out.size)); clear hb7)
        | (go_at_call 23; (with_reducible refine (cC.out _ hB7.out).mono ?_); rintro r w8 ⟨rfl, hb8⟩))
      go_ret
      exact ⟨rfl, hB7.out.trans (hb8.mono hB7.out.size)⟩
    · have hne : (i == -1) = false := beq_eq_false_iff_ne.2 (by omega)
      go_enter Try.func7, Try.ntmps7
      go_wp2_with (first
        | (go_at_call 25; (with_reducible refine cW.out.mono ?_); rintro r w5 ⟨rfl, hb5⟩; have hB5 := Lib.hid hb5; clear hb5)
        | (go_at_call 25; (with_reducible refine (cT.out _ hB5.out).mono ?_); rintro r w6 ⟨rfl, hb6⟩; have hB6 := Lib.hid (hB5.out.trans (hb6.mono hB5.out.size)); clear hb6)
        | (go_at_call 18; (with_reducible refine (aw.out _).mono ?_); rintro r w7 ⟨rfl, hb7⟩; have hB7 := Lib.hid (hB6.out.trans (hb7.mono hB6.out.size)); clear hb7)
        | (go_at_call 23; (with_reducible refine (cC.out _ hB7.out).mono ?_); rintro r w8 ⟨rfl, hb8⟩))
      go_ret
      exact ⟨rfl, hB7.out.trans (hb8.mono hB7.out.size)⟩
  · obtain ⟨e1, hne⟩ := begins_hi (by omega) h0 h1
    rw [e1] at cT
    have hi : wrongV es = .tuple #[.int .i64 (wrongI es), .string (wrongW es)] := rfl
    rw [hi] at cW cT
    generalize wrongI es = i at cW cT h0 h1
    generalize wrongW es = s at cW cT hne
    have hne1 : (i == -1) = false := beq_eq_false_iff_ne.2 (by omega)
    have hne2 : (!s.toList.isEmpty) = true := by rw [hne]; rfl
    clear hi e1 hlen hokt H hok hx0
    go_enter Try.func7, Try.ntmps7
    go_wp2_with (first
        | (go_at_call 25; (with_reducible refine cW.out.mono ?_); rintro r w5 ⟨rfl, hb5⟩; have hB5 := Lib.hid hb5; clear hb5)
        | (go_at_call 25; (with_reducible refine (cT.out _ hB5.out).mono ?_); rintro r w6 ⟨rfl, hb6⟩; have hB6 := Lib.hid (hB5.out.trans (hb6.mono hB5.out.size)); clear hb6)
        | (go_at_call 18; (with_reducible refine (aw.out _).mono ?_); rintro r w7 ⟨rfl, hb7⟩; have hB7 := Lib.hid (hB6.out.trans (hb7.mono hB6.out.size)); clear hb7))
    go_ret
    exact ⟨rfl, hB7.out⟩
end Go.Proofs.Ytbokdbppjiegjaa
