/- Deny: Check, and the reference's. -/
import Derived.Test.YtifliohljcafgaaDoorDnB
import Derived.Test.YtifliohljcafgaaDoorFl0
namespace Go.Proofs.YtifliohljcafgaaDoor
open Go.RowKit

def denyS : ByteArray := ⟨#[100, 101, 110, 121]⟩
def grantsS : ByteArray := ⟨#[103, 114, 97, 110, 116, 115]⟩
def algsS : ByteArray := ⟨#[97, 108, 103, 115]⟩
def limitS : ByteArray := ⟨#[108, 105, 109, 105, 116]⟩
/-- What is wrong with a gate, and within what. -/
def denyE (gs : List Gr) (ss : List ByteArray) (l : Int) : Int := if grantsN gs ≠ 0 then grantsN gs else if algsN ss ≠ 0 then algsN ss else if l < 1 ∨ 20 < l then 5 else 0
def denyW (gs : List Gr) (ss : List ByteArray) (l : Int) : ByteArray := if grantsN gs ≠ 0 then grantsS else if algsN ss ≠ 0 then algsS else if l < 1 ∨ 20 < l then limitS else ⟨#[]⟩
def DnR (w : World) (e : Int) (s : ByteArray) (r : Ending) (w' : World) : Prop := if e = 0 then r = .returned .nilIface ∧ Below w.heap.size w w' else ∃ T u, r = .returned (.iface T u) ∧ isErr w' (some e) [denyS, s] (.iface T u) ∧ Below w.heap.size w w'
set_option maxHeartbeats 2000000 in
theorem dnCheck_any (gs : List Gr) (ss : List ByteArray) (l : Int) (A B : Option Addr) (n c m d : Nat) (w : World) (hc : n ≤ c) (hn : c ≤ 9223372036854775807) (hd : m ≤ d) (hm : d ≤ 9223372036854775807)
    (H : Grs w A n gs) (hg : ∀ x ∈ gs, x.1.size ≤ 9223372036854775807) (K : Strs w B m ss) (hs : ∀ s ∈ ss, s.size ≤ 9223372036854775807) :
    Calls Tryd.prog 20 #[.slice A n c, .slice B m d, .int .i64 l] w (DnR w (denyE gs ss l) (denyW gs ss l)) := by
  have cG := grants_any gs A n c w (by omega) H hg
  have cA := fun W (h : Below w.heap.size w W) => algs_any ss B m d W hd hm (K.keep h) hs
  have he : denyE gs ss l = if grantsN gs ≠ 0 then grantsN gs else if algsN ss ≠ 0 then algsN ss else if l < 1 ∨ 20 < l then 5 else 0 := rfl
  have hw : denyW gs ss l = if grantsN gs ≠ 0 then grantsS else if algsN ss ≠ 0 then algsS else if l < 1 ∨ 20 < l then limitS else ⟨#[]⟩ := rfl
  have cAt := Lib.hid (fun (o : Option Int) (p : List ByteArray) T u W (h : isErr W o p (.iface T u)) => at_any ⟨#[100, 101, 110, 121]⟩ o p T u W h)
  generalize grantsN gs = g at cG he hw
  generalize algsN ss = a at cA he hw
  generalize denyE gs ss l = e at he ⊢
  generalize denyW gs ss l = s at hw ⊢
  have cG := Lib.hid cG
  have cA := Lib.hid cA
  clear H K hg hs
  by_cases h1 : g = 0
  · subst h1
    rw [if_neg (by decide)] at he hw
    by_cases h2 : a = 0
    · subst h2
      rw [if_neg (by decide)] at he hw
      by_cases h3 : l < 1 ∨ 20 < l
      · rw [if_pos h3] at he hw
        subst he hw
        have cO := Lib.hid (fun W => of_any ⟨#[108, 105, 109, 105, 116]⟩ 5 W (by decide))
        have h3' : l < 1 ∨ (1 ≤ l ∧ 20 < l) := by omega
        clear h3
        rcases h3' with h3 | ⟨h3, h4⟩
        all_goals
          go_enter Tryd.func20, Tryd.ntmps20
          go_wp2_with (first
            | (go_at_call 34; (with_reducible refine cG.out.mono ?_); rintro r w4 ⟨rfl, hb4⟩; have hB4 := Lib.hid hb4; clear hb4)
            | (go_at_call 37; (with_reducible refine (cA.out _ hB4.out).mono ?_); rintro r w5 ⟨rfl, hb5⟩; have hB5 := Lib.hid (hB4.out.trans (hb5.mono hB4.out.size)); clear hb5)
            | (go_at_call 36; (with_reducible refine (cO.out _).mono ?_); rintro r w6 ⟨v6, rfl, hE6, hb6⟩; obtain ⟨T6, u6, rfl⟩ := isErr_some hE6; have hE6 := Lib.hid hE6; have hB6 := Lib.hid (hB5.out.trans (hb6.mono hB5.out.size)); clear hb6)
            | (go_at_call 35; (with_reducible refine (cAt.out _ _ _ _ _ hE6.out).mono ?_); rintro r w7 ⟨v7, rfl, hE7, hb7⟩; obtain ⟨T7, u7, rfl⟩ := isErr_some hE7; have hE7 := Lib.hid hE7; have hB7 := Lib.hid (hB6.out.trans (hb7.mono hB6.out.size)); clear hb7))
          go_ret
          unfold DnR
          rw [if_neg (by decide)]
          exact ⟨_, _, rfl, hE7.out, hB7.out⟩
      · rw [if_neg h3] at he hw
        subst he hw
        have i1 : ¬ l < 1 := by omega
        have i2 : ¬ 20 < l := by omega
        clear h3
        go_enter Tryd.func20, Tryd.ntmps20
        go_wp2_with (first
          | (go_at_call 34; (with_reducible refine cG.out.mono ?_); rintro r w4 ⟨rfl, hb4⟩; have hB4 := Lib.hid hb4; clear hb4)
          | (go_at_call 37; (with_reducible refine (cA.out _ hB4.out).mono ?_); rintro r w5 ⟨rfl, hb5⟩; have hB5 := Lib.hid (hB4.out.trans (hb5.mono hB4.out.size)); clear hb5))
        go_ret
        unfold DnR
        rw [if_pos rfl]
        exact ⟨rfl, hB5.out⟩
    · rw [if_pos h2] at he hw
      subst he hw
      have hne : (e != 0) = true := by unfold bne; rw [beq_eq_false_iff_ne.2 h2]; rfl
      have cO := Lib.hid (fun W => of_any ⟨#[97, 108, 103, 115]⟩ e W h2)
      have hN := Lib.hid h2
      clear h2
      go_enter Tryd.func20, Tryd.ntmps20
      go_wp2_with (first
        | (go_at_call 34; (with_reducible refine cG.out.mono ?_); rintro r w4 ⟨rfl, hb4⟩; have hB4 := Lib.hid hb4; clear hb4)
        | (go_at_call 37; (with_reducible refine (cA.out _ hB4.out).mono ?_); rintro r w5 ⟨rfl, hb5⟩; have hB5 := Lib.hid (hB4.out.trans (hb5.mono hB4.out.size)); clear hb5)
        | (go_at_call 36; (with_reducible refine (cO.out _).mono ?_); rintro r w6 ⟨v6, rfl, hE6, hb6⟩; obtain ⟨T6, u6, rfl⟩ := isErr_some hE6; have hE6 := Lib.hid hE6; have hB6 := Lib.hid (hB5.out.trans (hb6.mono hB5.out.size)); clear hb6)
        | (go_at_call 35; (with_reducible refine (cAt.out _ _ _ _ _ hE6.out).mono ?_); rintro r w7 ⟨v7, rfl, hE7, hb7⟩; obtain ⟨T7, u7, rfl⟩ := isErr_some hE7; have hE7 := Lib.hid hE7; have hB7 := Lib.hid (hB6.out.trans (hb7.mono hB6.out.size)); clear hb7))
      go_ret
      unfold DnR
      rw [if_neg hN.out]
      exact ⟨_, _, rfl, hE7.out, hB7.out⟩
  · rw [if_pos h1] at he hw
    subst he hw
    have hne : (e != 0) = true := by unfold bne; rw [beq_eq_false_iff_ne.2 h1]; rfl
    have cO := Lib.hid (fun W => of_any ⟨#[103, 114, 97, 110, 116, 115]⟩ e W h1)
    have hN := Lib.hid h1
    clear h1
    go_enter Tryd.func20, Tryd.ntmps20
    go_wp2_with (first
      | (go_at_call 34; (with_reducible refine cG.out.mono ?_); rintro r w4 ⟨rfl, hb4⟩; have hB4 := Lib.hid hb4; clear hb4)
      | (go_at_call 36; (with_reducible refine (cO.out _).mono ?_); rintro r w6 ⟨v6, rfl, hE6, hb6⟩; obtain ⟨T6, u6, rfl⟩ := isErr_some hE6; have hE6 := Lib.hid hE6; have hB6 := Lib.hid (hB4.out.trans (hb6.mono hB4.out.size)); clear hb6)
      | (go_at_call 35; (with_reducible refine (cAt.out _ _ _ _ _ hE6.out).mono ?_); rintro r w7 ⟨v7, rfl, hE7, hb7⟩; obtain ⟨T7, u7, rfl⟩ := isErr_some hE7; have hE7 := Lib.hid hE7; have hB7 := Lib.hid (hB6.out.trans (hb7.mono hB6.out.size)); clear hb7))
    go_ret
    unfold DnR
    rw [if_neg hN.out]
    exact ⟨_, _, rfl, hE7.out, hB7.out⟩
end Go.Proofs.YtifliohljcafgaaDoor
