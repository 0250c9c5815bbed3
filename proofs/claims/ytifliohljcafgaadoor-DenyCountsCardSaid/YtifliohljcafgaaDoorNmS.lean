/- Names: check, Join. -/
import Derived.Test.YtifliohljcafgaaDoorNmR
import Derived.Test.YtifliohljcafgaaDoorStr
namespace Go.Proofs.YtifliohljcafgaaDoor
open Go.RowKit

def checkN (ss : List ByteArray) : Int := if 16 < ss.length then 2 else if ss.all nmOkB then 0 else 3
def joinS (ss : List ByteArray) : ByteArray := ⟨(Lib.join (ss.map (·.data.toList)) [44]).toArray⟩
def joinV (ss : List ByteArray) : Value := if checkN ss = 0 then .tuple #[.string (joinS ss), .int .i64 0] else .tuple #[.string ⟨#[]⟩, .int .i64 (checkN ss)]
theorem strs_miss {p : ByteArray → Bool} {ss : List ByteArray} {k : Nat} {s : ByteArray} (h : ss[k]? = some s) (hp : p s = false) : ss.all p = false := by
  rw [List.all_eq_false]
  exact ⟨s, List.mem_of_getElem? h, by rw [hp]; decide⟩
set_option maxHeartbeats 1000000 in
theorem nmCheck_any (ss : List ByteArray) (A : Option Addr) (n c : Nat) (w : World) (hn : n ≤ 9223372036854775807) (H : Strs w A n ss) (hs : ∀ s ∈ ss, s.size ≤ 9223372036854775807) :
    Calls Tryd.prog 59 #[.slice A n c] w fun r w' => r = .returned (.int .i64 (checkN ss)) ∧ w = w' := by
  have hlen := H.len
  by_cases h16 : 16 < n
  · have hv := Lib.hid (show checkN ss = 2 by unfold checkN; rw [if_pos (by omega)])
    clear H hs hlen
    go_enter Tryd.func59, Tryd.ntmps59
    go_wp2
    go_ret
    exact ⟨ret_int hv.out.symm, rfl⟩
  · have hv0 := Lib.hid (show checkN ss = if ss.all nmOkB then 0 else 3 by unfold checkN; rw [if_neg (by omega)])
    have hS := Lib.hid hs
    have hL := Lib.hid hlen
    clear hs hlen
    have h16' : n ≤ 16 := by omega
    go_enter Tryd.func59, Tryd.ntmps59
    go_wp2
    go_loop [4, 10] (fun _ i => ∃ k : Nat, k ≤ n ∧ i = .int .i64 k ∧ Hid ((ss.take k).all nmOkB = true)) (fun _ i => n - (intOf i).toNat)
    case atStart => exact ⟨0, by omega, rfl, by simp [Hid]⟩
    case round =>
      obtain ⟨k, hk, rfl, hf⟩ := hrel
      by_cases hlt : k < n
      · obtain ⟨b, off, s, rfl, hb, he, hr⟩ := H.at_ hlt
        have cR := right_any s
        have hz := hS.out s (List.mem_of_getElem? he)
        have hst := all_take_succ nmOkB he
        have hms := fun h => strs_miss (p := nmOkB) he h
        generalize nmOkB s = q at cR hst hms
        have cR := Lib.hid (fun W => cR W hz)
        clear he
        cases q with
        | true =>
          have hst := Lib.hid (show (ss.take (k + 1)).all nmOkB = true by rw [hst, hf.out]; rfl)
          clear hms
          go_wp2_with (go_at_call 66; refine (cR.out _).mono ?_; rintro r w4 ⟨rfl, rfl⟩)
          go_round
          case rel => exact ⟨k + 1, by omega, by go_num, hst⟩
          case measure => simp [intOf]; omega
        | false =>
          have hv := Lib.hid (show checkN ss = 3 by rw [hv0.out, hms rfl]; rfl)
          clear hst hms
          go_wp2_with (go_at_call 66; refine (cR.out _).mono ?_; rintro r w4 ⟨rfl, rfl⟩)
          go_ret
          exact ⟨ret_int hv.out.symm, rfl⟩
      · have ht : ss.take k = ss := List.take_of_length_le (by rw [hL.out]; omega)
        have hv := Lib.hid (show checkN ss = 0 by rw [hv0.out]; have := hf.out; rw [ht] at this; rw [this]; rfl)
        clear ht
        go_wp2
        go_ret
        exact ⟨ret_int hv.out.symm, rfl⟩
theorem lens_le : ∀ (ss : List ByteArray), (∀ s ∈ ss, s.size ≤ 64) → Lib.lens (ss.map (·.data.toList)) ≤ 64 * ss.length
  | [], _ => by simp [Lib.lens]
  | s :: ss, h => by
    have h1 := lens_le ss (fun x hx => h x (by simp [hx]))
    have h2 := h s (by simp)
    have h3 : s.data.toList.length = s.size := Array.length_toList
    simp only [List.map_cons, Lib.lens, List.length_cons] at h1 ⊢
    simp at h1 ⊢
    omega
theorem right_size {s : ByteArray} (h : nmOkB s = true) : s.size ≤ 64 := by
  unfold nmOkB at h
  simp only [Bool.and_eq_true, decide_eq_true_eq] at h
  exact h.2
theorem join_bound {ss : List ByteArray} (h : checkN ss = 0) : (Lib.join (ss.map (·.data.toList)) [44]).length ≤ 2000 := by
  unfold checkN at h
  by_cases h1 : 16 < ss.length
  · rw [if_pos h1] at h; omega
  · rw [if_neg h1] at h
    have h2 : ss.all nmOkB = true := by
      cases hq : ss.all nmOkB with
      | true => rfl
      | false => rw [hq] at h; simp at h
    have h3 := lens_le ss (fun s hs => right_size (List.all_eq_true.1 h2 s hs))
    cases ss with
    | nil => simp [Lib.join_nil]
    | cons s r =>
      rw [List.map_cons, Lib.join_length]
      rw [List.map_cons] at h3
      simp only [List.length_cons, List.length_map, List.length_nil] at h1 h3 ⊢
      omega
set_option maxHeartbeats 1000000 in
theorem nmJoin_any (ss : List ByteArray) (A : Option Addr) (n c : Nat) (w : World) (hc : n ≤ c) (hn : c ≤ 9223372036854775807) (H : Strs w A n ss) (hs : ∀ s ∈ ss, s.size ≤ 9223372036854775807) :
    Calls Tryd.prog 52 #[.slice A n c] w fun r w' => r = .returned (joinV ss) ∧ Below w.heap.size w w' := by
  have hlen := H.len
  have cC := nmCheck_any ss A n c w (by omega) H hs
  by_cases h0 : checkN ss = 0
  · have hv := Lib.hid (show joinV ss = .tuple #[.string (joinS ss), .int .i64 0] by unfold joinV; rw [if_pos h0])
    have hb := join_bound h0
    have cJ : Calls Tryd.prog 60 #[.slice A n c, .string ⟨#[44]⟩] w fun r w' => r = .returned (.string (joinS ss)) ∧ Below w.heap.size w w' := by
      by_cases hn0 : 0 < n
      · obtain ⟨b, off, e, hlt, hcl⟩ := H.2.2 hn0
        subst e
        have := Tryd.strings_Join b off c ss ⟨#[44]⟩ w (fun j x hx => by
          have := hcl j (sv x) (by rw [List.getElem?_map, hx]; rfl) 0 _ rfl
          simpa using this) hlt (by have : ss.length ≤ 16 := by { unfold checkN at h0; by_cases h1 : 16 < ss.length; · rw [if_pos h1] at h0; omega
                                                                  · omega }
                                    omega) (by omega) (by exact Nat.le_trans hb (by decide))
        rw [hlen] at this
        exact this
      · have e0 : n = 0 := by omega
        subst e0
        have hs0 : ss = [] := List.eq_nil_of_length_eq_zero hlen
        subst hs0
        refine (Tryd.strings_Join_none A c ⟨#[44]⟩ w).mono ?_
        rintro r w' ⟨rfl, rfl⟩
        exact ⟨rfl, Below.refl _ _⟩
    rw [h0] at cC
    have cC := Lib.hid cC
    have cJ := Lib.hid cJ
    clear hb h0 hs H hlen
    go_enter Tryd.func52, Tryd.ntmps52
    go_wp2_with (first
      | (go_at_call 59; refine cC.out.mono ?_; rintro r w4 ⟨rfl, rfl⟩)
      | (go_at_call 60; refine cJ.out.mono ?_; rintro r w5 ⟨rfl, hb5⟩))
    go_ret2
    exact ⟨congrArg Ending.returned hv.out.symm, hb5⟩
  · have hv := Lib.hid (show joinV ss = .tuple #[.string ⟨#[]⟩, .int .i64 (checkN ss)] by unfold joinV; rw [if_neg h0])
    generalize checkN ss = e at cC h0 hv
    have he : (e != 0) = true := by unfold bne; rw [beq_eq_false_iff_ne.2 h0]; rfl
    have he2 : (e == 0) = false := beq_eq_false_iff_ne.2 h0
    have cC := Lib.hid cC
    clear h0 hs H hlen
    go_enter Tryd.func52, Tryd.ntmps52
    go_wp2_with (go_at_call 59; refine cC.out.mono ?_; rintro r w4 ⟨rfl, rfl⟩)
    go_ret2
    exact ⟨congrArg Ending.returned hv.out.symm, Below.refl _ _⟩
end Go.Proofs.YtifliohljcafgaaDoor
