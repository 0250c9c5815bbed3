/- Deny: the reference's Check. -/
import Derived.Test.YtifliohljcafgaaDoorDnC
namespace Go.Proofs.YtifliohljcafgaaDoor
open Go.RowKit

set_option maxHeartbeats 2000000 in
theorem refDnCheck_any (gs : List Gr) (ss : List ByteArray) (l : Int) (A B : Option Addr) (n c m d : Nat) (w : World) (hc : n ≤ c) (hn : c ≤ 9223372036854775807) (hd : m ≤ d) (hm : d ≤ 9223372036854775807)
    (H : Grs w A n gs) (hg : ∀ x ∈ gs, x.1.size ≤ 9223372036854775807) (K : Strs w B m ss) (hs : ∀ s ∈ ss, s.size ≤ 9223372036854775807) :
    Calls Tryd.prog 15 #[.slice A n c, .slice B m d, .int .i64 l] w fun r w' => r = .returned (.tuple #[.int .i64 (denyE gs ss l), .string (denyW gs ss l)]) ∧ Below w.heap.size w w' := by
  have hlen := H.len
  have cA := refAlgs_any ss B m d w hd hm K hs
  have he : denyE gs ss l = if grantsN gs ≠ 0 then grantsN gs else if algsN ss ≠ 0 then algsN ss else if l < 1 ∨ 20 < l then 5 else 0 := rfl
  have hw : denyW gs ss l = if grantsN gs ≠ 0 then grantsS else if algsN ss ≠ 0 then algsS else if l < 1 ∨ 20 < l then limitS else ⟨#[]⟩ := rfl
  generalize algsN ss = a at cA he hw
  generalize denyE gs ss l = e at he ⊢
  generalize denyW gs ss l = s at hw ⊢
  have cA := Lib.hid cA
  clear K hs
  by_cases h16 : 16 < n
  · have hv : grantsN gs = 2 := by unfold grantsN; rw [if_pos (by omega)]
    rw [hv, if_pos (by decide)] at he hw
    subst he hw
    clear H hg hlen hv
    go_enter Tryd.func15, Tryd.ntmps15
    go_wp2
    go_ret2
    exact ⟨rfl, Below.refl _ _⟩
  have hv0 : grantsN gs = grN gs := by unfold grantsN; rw [if_neg (by omega)]
  rw [hv0] at he hw
  have he := Lib.hid he
  have hw := Lib.hid hw
  have hS := Lib.hid hg
  have hL := Lib.hid hlen
  have HH := Lib.hid H
  have h16' : n ≤ 16 := by omega
  clear hg hlen H hv0
  go_enter Tryd.func15, Tryd.ntmps15
  go_wp2
  go_loop [8] (fun i => ∃ k : Nat, k ≤ n ∧ i = .int .i64 k ∧ Hid (grN (gs.drop k) = grN gs)) (fun i => n - (intOf i).toNat)
  case atStart => exact ⟨0, by omega, rfl, by simp [Hid]⟩
  case round =>
    obtain ⟨k, hk, rfl, hf⟩ := hrel
    by_cases hlt : k < n
    · obtain ⟨b, off, ⟨u, x⟩, rfl, hb, hx, c0, c1⟩ := HH.out.at_ hlt
      have hz := hS.out _ (List.mem_of_getElem? hx)
      have cU := Lib.hid (fun W => refUser_any u W hz)
      have hst := grN_step hx
      have hone : grOne (u, x) = if userB u then (if x < 0 ∨ 15 < x then 5 else 0) else 3 := rfl
      have hl0 : (0 : Int) ≤ (k : Int) := by omega
      have hl1 : (k : Int) < (n : Int) := by omega
      simp only at c0 c1
      clear hx hz hb
      generalize userB u = q at cU hone
      cases q with
      | false =>
        have hg3 : grN gs = 3 := by rw [← hf.out, hst, hone]; rfl
        have hE := he.out
        have hW := hw.out
        rw [hg3, if_pos (by decide)] at hE hW
        have hE := Lib.hid hE
        have hW := Lib.hid hW
        clear hst hone hg3
        go_wp2_with (go_at_call 28; refine (cU.out _).mono ?_; rintro r w4 ⟨rfl, rfl⟩)
        go_ret2
        exact ⟨by rw [hE.out, hW.out]; rfl, Below.refl _ _⟩
      | true =>
        by_cases hx : x < 0 ∨ 15 < x
        · have hg5 : grN gs = 5 := by rw [← hf.out, hst, hone]; simp [hx]
          have hE := he.out
          have hW := hw.out
          rw [hg5, if_pos (by decide)] at hE hW
          have hE := Lib.hid hE
          have hW := Lib.hid hW
          clear hst hone hg5
          have hx2 : x < 0 ∨ (¬ x < 0 ∧ 15 < x) := by omega
          clear hx
          rcases hx2 with hx | ⟨hx0, hx⟩
          all_goals
            go_wp2_with (go_at_call 28; refine (cU.out _).mono ?_; rintro r w4 ⟨rfl, rfl⟩)
            go_ret2
            exact ⟨by rw [hE.out, hW.out]; rfl, Below.refl _ _⟩
        · have hn := Lib.hid (show grN (gs.drop (k + 1)) = grN gs by rw [← hf.out, hst, hone]; simp [hx])
          clear hst hone
          have hx0 : ¬ x < 0 := by omega
          have hx15 : ¬ 15 < x := by omega
          clear hx
          go_wp2_with (go_at_call 28; refine (cU.out _).mono ?_; rintro r w4 ⟨rfl, rfl⟩)
          go_round
          case rel => exact ⟨k + 1, by omega, by go_num, hn⟩
          case measure => simp [intOf]; omega
    · have hd : gs.drop k = [] := List.drop_of_length_le (by rw [hL.out]; omega)
      have hg0 : grN gs = 0 := by rw [← hf.out, hd]; rfl
      have hE := he.out
      have hW := hw.out
      rw [hg0, if_neg (by decide)] at hE hW
      clear hd hg0
      by_cases h2 : a = 0
      · subst h2
        rw [if_neg (by decide)] at hE hW
        by_cases h3 : l < 1 ∨ 20 < l
        · rw [if_pos h3] at hE hW
          have hE := Lib.hid hE
          have hW := Lib.hid hW
          have h3' : l < 1 ∨ (¬ l < 1 ∧ 20 < l) := by omega
          clear h3
          rcases h3' with h3 | ⟨h3, h4⟩
          all_goals
            go_wp2_with (go_at_call 29; refine cA.out.mono ?_; rintro r w4 ⟨rfl, hb4⟩)
            go_ret2
            exact ⟨by rw [hE.out, hW.out]; rfl, hb4⟩
        · rw [if_neg h3] at hE hW
          have hE := Lib.hid hE
          have hW := Lib.hid hW
          have i1 : ¬ l < 1 := by omega
          have i2 : ¬ 20 < l := by omega
          clear h3
          go_wp2_with (go_at_call 29; refine cA.out.mono ?_; rintro r w4 ⟨rfl, hb4⟩)
          go_ret2
          exact ⟨by rw [hE.out, hW.out]; rfl, hb4⟩
      · rw [if_pos h2] at hE hW
        have hE := Lib.hid hE
        have hW := Lib.hid hW
        have hne : (a != 0) = true := by unfold bne; rw [beq_eq_false_iff_ne.2 h2]; rfl
        clear h2
        go_wp2_with (go_at_call 29; refine cA.out.mono ?_; rintro r w4 ⟨rfl, hb4⟩)
        go_ret2
        exact ⟨by rw [hE.out, hW.out]; rfl, hb4⟩
end Go.Proofs.YtifliohljcafgaaDoor
