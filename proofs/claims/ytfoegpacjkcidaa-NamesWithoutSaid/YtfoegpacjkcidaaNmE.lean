/- The walk of NamesWithout. -/
import Derived.Test.YtfoegpacjkcidaaNmD
namespace Go.Proofs.Ytfoegpacjkcidaa
open Go.RowKit

theorem first_without (ss ts : List ByteArray) : firstV (without ss ts) ts = .tuple #[.string ByteArray.empty, .bool false] := by
  have : (without ss ts).find? (has ts) = none := by
    rw [List.find?_eq_none]
    intro x hx
    unfold without at hx
    rw [List.mem_filter] at hx
    simpa using hx.2
  unfold firstV; rw [this]
set_option maxHeartbeats 1000000 in
theorem law_namesWithout (ss ts : List ByteArray) (A B : Option Addr) (n c m d : Nat) (w : World) (hn : n ≤ 9223372036854775807) (hm : m ≤ 9223372036854775807) (H : Strs w A n ss) (K : Strs w B m ts)
    (hs : ∀ s ∈ ss, s.size ≤ 9223372036854775807) (ht : ∀ s ∈ ts, s.size ≤ 9223372036854775807) :
    Calls Try.prog 5 #[.slice A n c, .slice B m d] w fun r w' => r = .returned (.bool true) ∧ Below w.heap.size w w' := by
  have HH := Lib.hid H
  have KK := Lib.hid K
  have hlen := Lib.hid H.len
  have fA := few_any ss A n c 20 w (by omega) H hs
  have fB := few_any ts B m d 20 w hm K ht
  have aw := awake04_any w
  clear hs ht
  cases h1 : fewB ss 20 with
  | false =>
    rw [h1] at fA
    have fA := Lib.hid fA
    have fB := Lib.hid fB
    have aw := Lib.hid aw
    clear h1
    go_enter Try.func5, Try.ntmps5
    go_wp2_with fail
    refine fA.out.mono ?_
    rintro r w1 ⟨rfl, rfl⟩
    go_wp2_with fail
    refine aw.out.mono ?_
    rintro r w1 ⟨rfl, hb⟩
    go_wp2_with fail
    go_ret
    exact ⟨rfl, hb⟩
  | true =>
  rw [h1] at fA
  have hl1 := fewB_len h1
  cases h2 : fewB ts 20 with
  | false =>
    rw [h2] at fB
    have fA := Lib.hid fA
    have fB := Lib.hid fB
    have aw := Lib.hid aw
    clear h1 h2 hl1
    go_enter Try.func5, Try.ntmps5
    go_wp2_with fail
    refine fA.out.mono ?_
    rintro r w1 ⟨rfl, rfl⟩
    go_wp2_with fail
    refine fB.out.mono ?_
    rintro r w1 ⟨rfl, rfl⟩
    go_wp2_with fail
    refine aw.out.mono ?_
    rintro r w1 ⟨rfl, hb⟩
    go_wp2_with fail
    go_ret
    exact ⟨rfl, hb⟩
  | true =>
  rw [h2] at fB
  have fA := Lib.hid fA
  have fB := Lib.hid fB
  rw [H.len] at hl1
  have hw : (without ss ts).length ≤ 9223372036854775807 := by
    have h1 : (without ss ts).length ≤ ss.length := by unfold without; exact List.length_filter_le _ _
    have := H.len
    omega
  have hw := Lib.hid hw
  clear h1 h2
  go_enter Try.func5, Try.ntmps5
  go_wp2_with fail
  refine fA.out.mono ?_
  rintro r w1 ⟨rfl, rfl⟩
  go_wp2_with fail
  refine fB.out.mono ?_
  rintro r w1 ⟨rfl, rfl⟩
  go_wp2_with fail
  refine (nmWithout_any ss ts A B n c m d w (by omega) hm HH.out KK.out).mono ?_
  rintro r w1 ⟨v, rfl, hO, hB⟩
  obtain ⟨A1, c1, rfl, hS⟩ := hO.strs
  have hS := Lib.hid hS
  have hB := Lib.hid hB
  clear hO
  go_wp2_with fail
  refine (nmFirst_any _ ts A1 B _ c1 m d w1 hw.out hm hS.out (KK.out.keep hB.out)).mono ?_
  rintro r w2 ⟨rfl, rfl⟩
  rw [first_without]
  go_wp2_with fail
  refine (awake04_any w1).mono ?_
  rintro r w2 ⟨rfl, hb2⟩
  have hb2 := Lib.hid hb2
  go_wp2_with fail
  have hB2 := Lib.hid (hB.out.trans (hb2.out.mono hB.out.size))
  refine (refWithout_any ss ts A B n c m d w2 (by omega) hm (HH.out.keep hB2.out) (KK.out.keep hB2.out)).mono ?_
  rintro r w3 ⟨v, rfl, hO, hb3⟩
  obtain ⟨A3, c3, rfl, hS3⟩ := hO.strs
  have hS3 := Lib.hid hS3
  have hb3 := Lib.hid hb3
  clear hO
  go_wp2_with fail
  refine (same_any _ _ A1 A3 _ c1 _ c3 w3 hw.out hw.out ((hS.out.keep hb2.out).keep hb3.out) hS3.out).mono ?_
  rintro r w4 ⟨rfl, q, rfl⟩
  rw [decide_eq_true rfl]
  go_wp2_with fail
  go_ret
  exact ⟨rfl, (hB2.out.trans (hb3.out.mono hB2.out.size)).trans (Below.mono (drewN_below q) (Nat.le_trans hB2.out.size hb3.out.size))⟩
end Go.Proofs.Ytfoegpacjkcidaa
