/- Agree: Wrong, Check. -/
import Derived.Test.YtbokdbppjiegjaaAgO
namespace Go.Proofs.Ytbokdbppjiegjaa
open Go.RowKit

def wrongW (es : List Ev) : ByteArray := wordN (ruleN es (wrongI es).toNat)
def wrongV (es : List Ev) : Value := .tuple #[.int .i64 (wrongI es), .string (wrongW es)]
theorem ruleN_le (es : List Ev) (k : Nat) : ruleN es k ≤ 10 := by
  unfold ruleN
  split
  · omega
  · exact ruleX_le _ _ _
theorem wordN_ne {n : Nat} (h : n ≤ 10) (h0 : n ≠ 0) : (wordN n).toList.isEmpty = false := by rw [wordN_nil h]; exact beq_eq_false_iff_ne.2 h0
theorem wrong_hit {es : List Ev} {k : Nat} (hk : k < es.length) (h : ruleN es k ≠ 0) (hf : (List.range k).any (fun j => ruleN es j != 0) = false) : wrongI es = k := by
  unfold wrongI
  refine idx_hit (range_at hk) (by simpa using h) ?_
  rw [List.take_range, Nat.min_eq_left (Nat.le_of_lt hk)]
  exact hf
theorem wrong_none {es : List Ev} (hf : (List.range es.length).any (fun j => ruleN es j != 0) = false) : wrongV es = .tuple #[.int .i64 (-1), .string ⟨#[]⟩] := by
  have h : wrongI es = -1 := by unfold wrongI; exact idx_miss hf
  unfold wrongV wrongW
  rw [h]
  have h0 : ruleN es 0 = 0 := by
    by_cases hl : 0 < es.length
    · rw [List.any_eq_false] at hf
      have := hf 0 (List.mem_range.2 hl)
      simpa using this
    · exact rule_none es (by omega)
  rw [show ((-1 : Int)).toNat = 0 from rfl, h0]
  rfl
set_option maxHeartbeats 2000000 in
theorem wrong_any (es : List Ev) (hok : ∀ e ∈ es, allOk evDs e.cells) (A : Option Addr) (n c : Nat) (w : World) (hc : n ≤ c) (hn1 : n ≤ 1000000) (hn : c ≤ 9223372036854775807) (H : Evs w A n es) :
    Calls Try.prog 25 #[.slice A n c] w fun r w' => r = .returned (wrongV es) ∧ Below w.heap.size w w' := by
  have HH := Lib.hid H
  have hlen := Lib.hid H.len
  have hok := Lib.hid hok
  go_enter Try.func25, Try.ntmps25
  go_wp2
  go_loopw [4, 5, 8] (fun _ _ i wr => ∃ m : Nat, m ≤ n ∧ i = .int .i64 m ∧ Hid ((List.range m).any (fun j => ruleN es j != 0) = false) ∧ Hid (Below w.heap.size w wr)) (fun _ _ i _ => n - (intOf i).toNat)
  case atStart => exact ⟨0, by omega, rfl, rfl, Below.refl _ _⟩
  case round =>
    obtain ⟨m, hm, rfl, hf, hB⟩ := hrel
    by_cases hlt : m < n
    · obtain ⟨b, off, x, rfl, hb, hx, _⟩ := H.row hlt
      have cR := rule_any es hok.out (some ⟨b, off, none⟩) n c m x wr hc hn1 hn (HH.out.keep hB.out) hx
      have hr : ruleN es m = ruleX es m x := by unfold ruleN; rw [hx]
      rw [← hr] at cR
      have hle := ruleN_le es m
      have hstep := range_any_succ (fun j => ruleN es j != 0) m
      have hhit := Lib.hid (fun h => wrong_hit (es := es) (k := m) (by rw [hlen.out]; exact hlt) h hf.out)
      clear hr hx
      by_cases h0 : ruleN es m = 0
      · rw [h0] at cR
        simp only [h0, bne_self_eq_false, Bool.or_false] at hstep
        have cR := Lib.hid cR
        have hstep := Lib.hid hstep
        clear h0 hhit hle
        go_wp2_with (go_at_call 50; (with_reducible refine cR.out.mono ?_); rintro r w5 ⟨rfl, hb5⟩; rw [show wordN 0 = ⟨#[]⟩ from rfl])
        go_roundw
        case rel => exact ⟨m + 1, by omega, by go_num, (by unfold Hid; rw [hstep.out, hf.out]), hB.out.trans (hb5.mono hB.out.size)⟩
        case measure => simp [intOf]; omega
      · have hne := wordN_ne hle h0
        have hwr := Lib.hid (show wrongV es = .tuple #[.int .i64 m, .string (wordN (ruleN es m))] by unfold wrongV wrongW; rw [hhit.out h0, Int.toNat_natCast])
        generalize wordN (ruleN es m) = s at cR hne hwr
        have cR := Lib.hid cR
        have hne2 : (!s.toList.isEmpty) = true := by rw [hne]; rfl
        clear h0 hhit hle hstep
        go_wp2_with (go_at_call 50; (with_reducible refine cR.out.mono ?_); rintro r w5 ⟨rfl, hb5⟩)
        go_ret2
        exact ⟨(congrArg Ending.returned hwr.out).symm, hB.out.trans (hb5.mono hB.out.size)⟩
    · obtain rfl : m = n := by omega
      have hwr := Lib.hid (wrong_none (es := es) (by rw [hlen.out]; exact hf.out))
      go_wp2
      go_ret2
      exact ⟨(congrArg Ending.returned hwr.out).symm, hB.out⟩

set_option maxHeartbeats 1000000 in
theorem check_ok (es : List Ev) (hok : ∀ e ∈ es, allOk evDs e.cells) (A : Option Addr) (n c : Nat) (w : World) (hc : n ≤ c) (hn1 : n ≤ 1000000) (hn : c ≤ 9223372036854775807) (H : Evs w A n es) (hw : ∀ k, ruleN es k = 0) :
    Calls Try.prog 23 #[.slice A n c] w fun r w' => r = .returned .nilIface ∧ Below w.heap.size w w' := by
  have cW := wrong_any es hok A n c w hc hn1 hn H
  rw [wrong_none (es := es) (by rw [List.any_eq_false]; intro j _; simp [hw j])] at cW
  have cW := Lib.hid cW
  clear hw hok H
  go_enter Try.func23, Try.ntmps23
  go_wp2_with (go_at_call 25; (with_reducible refine cW.out.mono ?_); rintro r w5 ⟨rfl, hb5⟩)
  go_ret
  exact ⟨rfl, hb5⟩

def SomeErr (w : World) (r : Ending) (w' : World) : Prop := ∃ T u, r = .returned (.iface T u) ∧ Below w.heap.size w w'
theorem fOf_any (s : ByteArray) (n : Int) (w : World) (hn : n ≠ 0) :
    Calls Try.prog 43 #[.string s, .int .i64 n] w (SomeErr w) := by
  have k0 : (n == 0) = false := beq_eq_false_iff_ne.2 hn
  clear hn
  go_enter Try.func43, Try.ntmps43
  go_wp2_with fail
  go_ret
  exact ⟨_, _, rfl, ag_below w _⟩
theorem fAt_any (s : ByteArray) (T : TypeId) (u : Value) (w : World) :
    Calls Try.prog 42 #[.string s, .iface T u] w (SomeErr w) := by
  go_enter Try.func42, Try.ntmps42
  go_wp2_with fail
  go_ret
  exact ⟨_, _, rfl, ag_below w _⟩
set_option maxHeartbeats 1000000 in
theorem check_bad (es : List Ev) (hok : ∀ e ∈ es, allOk evDs e.cells) (A : Option Addr) (n c : Nat) (w : World) (hc : n ≤ c) (hn1 : n ≤ 1000000) (hn : c ≤ 9223372036854775807) (H : Evs w A n es) {k : Nat} (hw : ruleN es k ≠ 0) :
    Calls Try.prog 23 #[.slice A n c] w (SomeErr w) := by
  have cW := wrong_any es hok A n c w hc hn1 hn H
  have hne : (wrongW es).toList.isEmpty = false := by
    unfold wrongW
    rcases wrongI_cases es with ⟨_, h⟩ | ⟨j, h1, _, h3, _⟩
    · exact absurd (h k) hw
    · rw [h1, Int.toNat_natCast]
      exact wordN_ne (ruleN_le es j) h3
  unfold wrongV at cW
  generalize wrongW es = s at cW hne
  generalize wrongI es = i at cW
  have cW := Lib.hid cW
  have hne2 : (!s.toList.isEmpty) = true := by rw [hne]; rfl
  have cO := Lib.hid (fun W => fOf_any s 14 W (by decide))
  have cA := Lib.hid (fun T u W => fAt_any ⟨#[97, 103, 114, 101, 101]⟩ T u W)
  clear hw hok H
  go_enter Try.func23, Try.ntmps23
  go_wp2_with (first
    | (go_at_call 25; (with_reducible refine cW.out.mono ?_); rintro r w5 ⟨rfl, hb5⟩)
    | (go_at_call 43; (with_reducible refine (cO.out _).mono ?_); rintro r w6 ⟨T, u, rfl, hb6⟩)
    | (go_at_call 42; (with_reducible refine (cA.out _ _ _).mono ?_); rintro r w7 ⟨T', u', rfl, hb7⟩))
  go_ret
  exact ⟨_, _, rfl, (hb5.trans (hb6.mono hb5.size)).trans (hb7.mono (Nat.le_trans hb5.size hb6.size))⟩
end Go.Proofs.Ytbokdbppjiegjaa
