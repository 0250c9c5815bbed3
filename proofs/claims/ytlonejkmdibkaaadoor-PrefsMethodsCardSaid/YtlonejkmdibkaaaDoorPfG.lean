/- Prefs: what is wrong with a list. -/
import Derived.Test.YtlonejkmdibkaaaDoorPfE
import Derived.Test.YtlonejkmdibkaaaDoorNmT
namespace Go.Proofs.YtlonejkmdibkaaaDoor
open Go.RowKit

def noMeth (s : ByteArray) : Bool := methN s == 0
def pfWrong (ss : List ByteArray) (kex : Bool) : Int := if algsN ss ≠ 0 then algsN ss else if kex && ss.any noMeth then 10 else 0
set_option maxHeartbeats 2000000 in
theorem pfWrong_any (ss : List ByteArray) (kex : Bool) (A : Option Addr) (n c : Nat) (w : World) (hc : n ≤ c) (hn : c ≤ 9223372036854775807) (H : Strs w A n ss) (hs : ∀ s ∈ ss, s.size ≤ 9223372036854775807) (P : PV w) :
    Calls Tryd.prog 83 #[.slice A n c, .bool kex] w fun r w' => r = .returned (.int .i64 (pfWrong ss kex)) ∧ Below w.heap.size w w' := by
  have hlen := H.len
  have hp : pfWrong ss kex = if algsN ss ≠ 0 then algsN ss else if kex && ss.any noMeth then 10 else 0 := rfl
  by_cases h0 : n = 0
  · subst h0
    have hv := Lib.hid (show pfWrong ss kex = 6 by rw [hp, show algsN ss = 6 by unfold algsN; rw [if_pos hlen]]; rfl)
    clear H hs hlen hp
    go_enter Tryd.func83, Tryd.ntmps83
    go_wp2
    go_ret
    exact ⟨ret_int hv.out.symm, Below.refl _ _⟩
  have hne : ((n : Int) == 0) = false := beq_eq_false_iff_ne.2 (by omega)
  by_cases h15 : 15 < n
  · have hv := Lib.hid (show pfWrong ss kex = 2 by rw [hp, show algsN ss = 2 by unfold algsN; rw [if_neg (by omega), if_pos (by omega)]]; rfl)
    have i1 : (16 : Int) ≤ (n : Int) := by omega
    clear H hs hlen h0 hp
    go_enter Tryd.func83, Tryd.ntmps83
    go_wp2
    go_ret
    exact ⟨ret_int hv.out.symm, Below.refl _ _⟩
  have i1 : ¬ (16 : Int) ≤ (n : Int) := by omega
  have hv := algs_once (ss := ss) (by omega) (by omega)
  have cO := nmOnce_any ss A n c w hc hn H
  have cJ := nmJoin_any ss A n c w hc hn H hs
  have h15' : n ≤ 15 := by omega
  clear h0 h15 hs
  have HH := Lib.hid H
  have hL := Lib.hid hlen
  have PP := Lib.hid P
  clear H hlen P
  generalize once ss = q at cO hv
  have cO := Lib.hid cO
  cases q with
  | false =>
    have hv := Lib.hid (show pfWrong ss kex = 3 by rw [hp, hv]; rfl)
    clear hp cJ
    go_enter Tryd.func83, Tryd.ntmps83
    go_wp2_with (go_at_call 104; refine cO.out.mono ?_; rintro r w4 ⟨rfl, rfl⟩)
    go_ret
    exact ⟨ret_int hv.out.symm, Below.refl _ _⟩
  | true =>
    rw [if_pos rfl] at hv
    by_cases hk : checkN ss = 0
    · have hj : joinV ss = .tuple #[.string (joinS ss), .int .i64 0] := by unfold joinV; rw [if_pos hk]
      rw [hj] at cJ
      rw [hv, hk, if_neg (by decide)] at hp
      have hP := Lib.hid hp
      have cJ := Lib.hid cJ
      clear hk hj hv hp
      go_enter Tryd.func83, Tryd.ntmps83
      go_wp2_with (first
        | (go_at_call 104; refine cO.out.mono ?_; rintro r w4 ⟨rfl, rfl⟩)
        | (go_at_call 105; refine cJ.out.mono ?_; rintro r w5 ⟨rfl, hb5⟩; have hB5 := Lib.hid hb5; clear hb5))
      go_loop [8, 31] (fun _ i => ∃ k : Nat, k ≤ n ∧ i = .int .i64 k ∧ Hid ((kex && (ss.take k).any noMeth) = false)) (fun _ i => n - (intOf i).toNat)
      case atStart => exact ⟨0, by omega, rfl, by simp [Hid]⟩
      case round =>
        obtain ⟨k, hk, rfl, hf⟩ := hrel
        by_cases hlt : k < n
        · obtain ⟨b, off, s, rfl, hb, he, hr⟩ := (HH.out.keep hB5.out).at_ hlt
          have cM := method_any s w5 (PP.out.keep hB5.out)
          have hq : noMeth s = (methN s == 0) := rfl
          have hst := any_take_succ noMeth he
          have hhit := fun h => any_hit noMeth he h
          generalize methN s = m at cM hq
          have cM := Lib.hid cM
          clear he hb
          cases kex with
          | false =>
            clear hst hhit
            go_wp2_with fail
            go_round
            case rel => exact ⟨k + 1, by omega, by go_num, rfl⟩
            case measure => simp [intOf]; omega
          | true =>
            cases hm : (m == 0) with
            | true =>
              have hv := Lib.hid (show pfWrong ss true = 10 by rw [hP.out, hhit (by rw [hq, hm])]; rfl)
              clear hst hhit hq
              go_wp2_with (go_at_call 23; refine cM.out.mono ?_; rintro r w6 ⟨rfl, rfl⟩)
              go_ret
              exact ⟨ret_int hv.out.symm, hB5.out⟩
            | false =>
              have hn1 := Lib.hid (show (true && (ss.take (k + 1)).any noMeth) = false by rw [hst, hq, hm, Bool.or_false]; exact hf.out)
              clear hst hhit hq
              go_wp2_with (go_at_call 23; refine cM.out.mono ?_; rintro r w6 ⟨rfl, rfl⟩)
              go_round
              case rel => exact ⟨k + 1, by omega, by go_num, hn1⟩
              case measure => simp [intOf]; omega
        · have ht : ss.take k = ss := List.take_of_length_le (by rw [hL.out]; omega)
          have hv := Lib.hid (show pfWrong ss kex = 0 by rw [hP.out]; have := hf.out; rw [ht] at this; rw [this]; rfl)
          clear ht
          go_wp2
          go_ret
          exact ⟨ret_int hv.out.symm, hB5.out⟩
    · have hj : joinV ss = .tuple #[.string ⟨#[]⟩, .int .i64 (checkN ss)] := by unfold joinV; rw [if_neg hk]
      rw [hj] at cJ
      rw [hv, if_pos hk] at hp
      generalize checkN ss = e at cJ hp hk
      have hV := Lib.hid hp
      have cJ := Lib.hid cJ
      have he : (e != 0) = true := by unfold bne; rw [beq_eq_false_iff_ne.2 hk]; rfl
      clear hk hj hv hp
      go_enter Tryd.func83, Tryd.ntmps83
      go_wp2_with (first
        | (go_at_call 104; refine cO.out.mono ?_; rintro r w4 ⟨rfl, rfl⟩)
        | (go_at_call 105; refine cJ.out.mono ?_; rintro r w5 ⟨rfl, hb5⟩))
      go_ret
      exact ⟨ret_int hV.out.symm, hb5⟩
end Go.Proofs.YtlonejkmdibkaaaDoor
