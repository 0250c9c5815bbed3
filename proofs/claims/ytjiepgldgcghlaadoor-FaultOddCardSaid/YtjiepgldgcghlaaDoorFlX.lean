/- The walk of FaultWraps. -/
import Derived.Test.YtjiepgldgcghlaaDoorFlW
namespace Go.Proofs.YtjiepgldgcghlaaDoor
open Go.RowKit

theorem sizes_take {p : List ByteArray} {k : Nat} {x : ByteArray} (h : p[k]? = some x) (hx : x.size ≤ 50) (hp : ∀ s ∈ p.take k, s.size ≤ 50) : ∀ s ∈ p.take (k + 1), s.size ≤ 50 := by
  rw [take_succ_of h]
  intro s hs
  rcases List.mem_append.1 hs with hs | hs
  · exact hp s hs
  · simp at hs; subst hs; exact hx
theorem Places.strs {w w' : World} {p : List ByteArray} {r : Ending} (h : Places w p r w') : ∃ A k c, r = .returned (.slice A k c) ∧ Hid (k = p.length) ∧ Strs w' A k p ∧ Below w.heap.size w w' := by
  obtain ⟨v, rfl, ho, hb⟩ := h
  obtain ⟨A, c, rfl, hs⟩ := ho.strs
  exact ⟨A, p.length, c, rfl, rfl, hs, hb⟩


set_option maxRecDepth 100000 in
set_option maxHeartbeats 4000000 in
theorem law_faultWraps (p : List ByteArray) (A : Option Addr) (k c : Nat) (n other : Int) (w : World) (hkc : k ≤ c) (hc : c ≤ 9223372036854775807) (H : Strs w A k p) (hs : ∀ s ∈ p, s.size ≤ 9223372036854775807) (G : ETy w) :
    Calls Tryd.prog 4 #[.slice A k c, .int .i64 n, .int .i64 other] w fun r w' => r = .returned (.bool true) ∧ Below w.heap.size w w' := by
  have aw := Lib.hid (fun W (h : Below w.heap.size w W) => awake05_any W (G.keep h))
  have hlen := Lib.hid H.len
  have hS := Lib.hid hs
  have HH := Lib.hid H
  have G := Lib.hid G
  have hR := Lib.hid (Below.refl w.heap.size w)
  clear hs
  by_cases hk1 : k < 1
  · go_enter Tryd.func4, Tryd.ntmps4
    go_wp2_with (go_at_call 17; refine (aw.out _ hR.out).mono ?_; rintro r w1 ⟨rfl, hb⟩)
    go_ret
    exact ⟨rfl, hb⟩
  by_cases hk2 : 20 < k
  · go_enter Tryd.func4, Tryd.ntmps4
    go_wp2_with (go_at_call 17; refine (aw.out _ hR.out).mono ?_; rintro r w1 ⟨rfl, hb⟩)
    go_ret
    exact ⟨rfl, hb⟩
  go_enter Tryd.func4, Tryd.ntmps4
  go_wp2_with fail
  go_loop [7] (fun i => ∃ j : Nat, j ≤ k ∧ i = .int .i64 j ∧ Hid (∀ s ∈ p.take j, s.size ≤ 50)) (fun i => k - (intOf i).toNat)
  case atStart => exact ⟨0, by omega, rfl, by simp [Hid]⟩
  case round =>
    obtain ⟨j, hj, rfl, hf⟩ := hrel
    by_cases hlt : j < k
    · obtain ⟨b, off, x, rfl, hb, hx, hcx⟩ := HH.out.at_ hlt
      have hsz := hS.out x (List.mem_of_getElem? hx)
      have hx := Lib.hid hx
      by_cases hq : 50 < x.size
      · go_wp2_with (go_at_call 17; refine (aw.out _ hR.out).mono ?_; rintro r w1 ⟨rfl, hb⟩)
        go_ret
        exact ⟨rfl, hb⟩
      · go_wp2_with fail
        go_round
        case rel => exact ⟨j + 1, by omega, by go_num, sizes_take hx.out (by omega) hf.out⟩
        case measure => simp [intOf]; omega
    · have hall := hf.out
      rw [List.take_of_length_le (by rw [hlen.out]; omega)] at hall
      have hpz : (preS p).size ≤ 1000000 := by
        have := preS_bound p 50 hall
        rw [hlen.out] at this
        omega
      have hpz := Lib.hid hpz
      clear hf hall
      by_cases hn : n = 0
      · subst hn
        have cW := Lib.hid (within_zero p A k c w (by omega) (by omega) HH.out)
        go_wp2_with fail
        refine cW.out.mono ?_
        rintro r w1 ⟨rfl, rfl⟩
        go_wp2_with fail
        refine (aw.out _ hR.out).mono ?_
        rintro r w1 ⟨rfl, hb1⟩
        have hW1 := Lib.hid hb1
        clear hb1
        go_wp2_with fail
        refine (code_nil w1).mono ?_
        rintro r w2 ⟨rfl, hb⟩
        have hW2 := Lib.hid (hW1.out.trans (hb.mono hW1.out.size))
        clear hb
        go_wp2_with fail
        refine (fIs_nil0 w2).mono ?_
        rintro r w3 ⟨rfl, rfl⟩
        go_wp2_with fail
        refine (path_nil w2).mono ?_
        intro r w3 hP
        obtain ⟨A3, k3, c3, rfl, hk3, _, hb⟩ := hP.strs
        obtain rfl : k3 = 0 := hk3.out
        have hW3 := Lib.hid (hW2.out.trans (hb.mono hW2.out.size))
        clear hb
        go_wp2_with fail
        refine (reason_of (code_nil w3)).mono ?_
        rintro r w4 ⟨rfl, hb⟩
        rw [show reasonR 0 = 0 from rfl]
        have hW4 := Lib.hid (hW3.out.trans (hb.mono hW3.out.size))
        clear hb
        go_wp2_with fail
        refine (fIs_nil 3 w4 (by decide)).mono ?_
        rintro r w5 ⟨rfl, rfl⟩
        go_wp2_with fail
        go_ret
        exact ⟨rfl, hW4.out⟩
      · have cW := Lib.hid (within_any p A k c n w (by omega) (by omega) hn HH.out)
        have b0 : (n == 0) = false := beq_eq_false_iff_ne.2 hn
        have hN := Lib.hid hn
        clear hn
        go_wp2_with fail
        refine cW.out.mono ?_
        rintro r w1 ⟨v, rfl, hE, hW⟩
        obtain ⟨T, u, rfl⟩ := isErr_some hE
        have hE1 := Lib.hid hE
        have hW1 := Lib.hid hW
        clear hE hW
        go_wp2_with fail
        refine (code_num n p _ w1 hE1.out (G.out.keep hW1.out)).mono ?_
        rintro r w2 ⟨rfl, hb⟩
        have hE2 := Lib.hid (hE1.out.keep hb)
        have hW2 := Lib.hid (hW1.out.trans (hb.mono hW1.out.size))
        clear hb
        go_wp2_with fail
        refine (fIs_num n n p _ w2 hE2.out hN.out).mono ?_
        rintro r w3 ⟨rfl, rfl⟩
        rw [beq_self_eq_true]
        go_wp2_with fail
        refine (fIs_zero T u w2).mono ?_
        rintro r w3 ⟨rfl, rfl⟩
        have hoth : ∃ q : Bool, ((other == n) = q) ∧ Calls Tryd.prog 20 #[.iface T u, .int .i64 other] w2 fun r w' => r = .returned (.bool q) ∧ w2 = w' := by
          by_cases ho : other = 0
          · subst ho
            exact ⟨false, beq_eq_false_iff_ne.2 (fun e => hN.out e.symm), fIs_zero T u w2⟩
          · refine ⟨other == n, rfl, ?_⟩
            rw [BEq.comm]
            exact fIs_num n other p _ w2 hE2.out ho
        obtain ⟨q, hq, cI⟩ := hoth
        have cI := Lib.hid cI
        go_wp2_with fail
        refine cI.out.mono ?_
        rintro r w3 ⟨rfl, rfl⟩
        have cT := fun W (hE : isErr W (some n) p (.iface T u)) => show Calls Tryd.prog 24 #[.iface T u] W fun r w' => r = .returned (.string (preS p ++ nameOf n)) ∧ Below W.heap.size W w' from by
          cases p with
          | nil => have := hlen.out; simp at this; omega
          | cons s p => exact text_any (some n) s p _ W hpz.out hE
        have cF := fun W (h : Below w.heap.size w W) => refText_any p A k c n W (by omega) hpz.out (HH.out.keep h)
        obtain ⟨tx, htx⟩ : ∃ t, t = preS p ++ nameOf n := ⟨_, rfl⟩
        rw [← htx] at cT cF
        obtain ⟨rs, hrs⟩ : ∃ t, t = reasonR n := ⟨_, rfl⟩
        have cR := fun W (hE : isErr W (some n) p (.iface T u)) (h : ETy W) => reason_of (code_num n p _ W hE h)
        have cQ := fun W => refReason_any n W
        rw [← hrs] at cR cQ
        have cT := Lib.hid cT
        have cF := Lib.hid cF
        have cR := Lib.hid cR
        have cQ := Lib.hid cQ
        clear htx hrs
        cases q
        all_goals
          go_wp2_with fail
          refine (aw.out _ hW2.out).mono ?_
          rintro r w3 ⟨rfl, hb⟩
          have hE3 := Lib.hid (hE2.out.keep hb)
          have hW3 := Lib.hid (hW2.out.trans (hb.mono hW2.out.size))
          clear hb
          go_wp2_with fail
          refine (path_any (some n) p _ w3 (by have := hlen.out; omega) hE3.out (G.out.keep hW3.out)).mono ?_
          intro r w4 hP
          obtain ⟨A4, k4, c4, rfl, hk4, hS4, hb⟩ := hP.strs
          have hS4 := Lib.hid hS4
          have hk4b := Lib.hid (show k4 ≤ 9223372036854775807 by rw [hk4.out, hlen.out]; omega)
          have hE4 := Lib.hid (hE3.out.keep hb)
          have hW4 := Lib.hid (hW3.out.trans (hb.mono hW3.out.size))
          clear hb
          go_wp2_with fail
          refine (same_any p p A4 A k4 c4 k c w4 hk4b.out (by omega) hS4.out (HH.out.keep hW4.out)).mono ?_
          rintro r w5 ⟨rfl, q5, rfl⟩
          rw [decide_eq_true (rfl : p = p)]
          have hE5 := Lib.hid (hE4.out.keep (drewN_below q5))
          have hW5 := Lib.hid (hW4.out.trans ((drewN_below q5).mono hW4.out.size))
          obtain ⟨w5, hw5⟩ : ∃ w5, w5 = w4.drewN q5 := ⟨_, rfl⟩
          rw [← hw5] at hE5 hW5 ⊢
          clear hw5
          go_wp2_with fail
          refine (cT.out w5 hE5.out).mono ?_
          rintro r w6 ⟨rfl, hb⟩
          have hE6 := Lib.hid (hE5.out.keep hb)
          have hW6 := Lib.hid (hW5.out.trans (hb.mono hW5.out.size))
          clear hb
          go_wp2_with fail
          refine (cF.out w6 hW6.out).mono ?_
          rintro r w7 ⟨rfl, hb⟩
          have hE7 := Lib.hid (hE6.out.keep hb)
          have hW7 := Lib.hid (hW6.out.trans (hb.mono hW6.out.size))
          clear hb
          go_wp2_with fail
          refine (cR.out w7 hE7.out (G.out.keep hW7.out)).mono ?_
          rintro r w8 ⟨rfl, hb⟩
          have hW8 := Lib.hid (hW7.out.trans (hb.mono hW7.out.size))
          clear hb
          go_wp2_with fail
          refine (cQ.out w8).mono ?_
          rintro r w9 ⟨rfl, hb⟩
          have hW9 := Lib.hid (hW8.out.trans (hb.mono hW8.out.size))
          clear hb
          go_wp2_with fail
          go_ret
          exact ⟨rfl, hW9.out⟩
end Go.Proofs.YtjiepgldgcghlaaDoor
