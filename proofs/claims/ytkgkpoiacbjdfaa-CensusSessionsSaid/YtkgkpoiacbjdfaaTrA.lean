import Derived.Test.YtkgkpoiacbjdfaaEv
import Derived.Test.YtkgkpoiacbjdfaaLst
namespace Go.Proofs.Ytkgkpoiacbjdfaa
open Go.RowKit
set_option maxHeartbeats 400000 in
theorem taken_fn (e : Ev) (who : Int) (w : World) (bw : Nat) (hlt : bw < w.heap.size)
  (hb : w.cell? ⟨bw, 0, none⟩ = some (.int .i64 who)) :
    Calls Try.prog 44 #[.agg e.cells.toArray, .pointer (some ⟨bw, 0, none⟩)] w fun r w' => r = .returned (.bool (e.kind == 7 && e.who == who)) ∧ Below w.heap.size w w' := by
  have h0 := e.at0
  have h3 := e.at3
  by_cases hk : (e.kind == 7) = true
  · go_enter Try.func44, Try.ntmps44
    go_wp2
    go_ret
    exact ⟨ret_bool (by rw [hk]; rfl), (Below.refl _ _).alloc (Nat.le_refl _) _⟩
  · rw [Bool.not_eq_true] at hk
    go_enter Try.func44, Try.ntmps44
    go_wp2
    go_ret
    exact ⟨ret_bool (by rw [hk]; rfl), (Below.refl _ _).alloc (Nat.le_refl _) _⟩

def isTaken (who : Int) (e : Ev) : Bool := e.kind == 7 && e.who == who
def ahead (es : List Ev) (who at_ : Int) : Bool := (es.take at_.toNat).any (isTaken who)

set_option maxHeartbeats 400000 in
theorem indexFunc_any (p : Ev → Bool) (g : Nat) (lb : Array Value) (eg : ∀ args w, (callFunc g args).run Try.prog w = .ok (.enter g args) w)
    (es : List Ev) (A : Option Addr) (n c : Nat) (w : World) (hn : n ≤ 9223372036854775807) (H : Evs w A n es)
    (hp : ∀ (W : World) (e : Ev), Below w.heap.size w W → Calls Try.prog g (#[.agg e.cells.toArray] ++ lb) W fun r w' => r = .returned (.bool (p e)) ∧ Below W.heap.size W w') :
    Calls Try.prog 60 #[.slice A n c, .func (.func g) #[] lb] w fun r w' => r = .returned (.int .i64 (idx p es)) ∧ Below w.heap.size w w' := by
  have hlen := Lib.hid H.len
  have hP := Lib.hid hp
  clear hp
  go_enter Try.func60, Try.ntmps60
  go_wp2
  go_loopw [5, 8] (fun _ i wr => ∃ k : Nat, k ≤ n ∧ i = .int .i64 k ∧ Hid (((es.take k).any p) = false) ∧ Hid (Below w.heap.size w wr)) (fun _ i _ => n - (intOf i).toNat)
  case atStart => exact ⟨0, by omega, rfl, by simp [Hid], Below.refl _ _⟩
  case round =>
    obtain ⟨k, hk, rfl, hf, hB⟩ := hrel
    by_cases hlt : k < n
    · obtain ⟨b, off, e, rfl, hb, he, hr⟩ := H.row hlt
      have he := Lib.hid he
      have hr' := rangeAt_keep hr hB.out hb
      clear hr
      go_wp2_with (first | (refine wpList_load_mid rfl 37 _ rfl b (off + k * 34) rfl e.cells _ hr' Try.underlying37 rfl (by kernel_rfl) ?_))
      have hc := hP.out wr e hB.out
      cases hq : p e with
      | true =>
        rw [hq] at hc
        have hq := Lib.hid hq
        refine hc.mono ?_
        rintro r w1 ⟨rfl, hb1⟩
        go_wp2
        go_ret
        exact ⟨ret_int (idx_hit he.out hq.out hf.out).symm, hB.out.trans (hb1.mono hB.out.size)⟩
      | false =>
        rw [hq] at hc
        have hq := Lib.hid hq
        refine hc.mono ?_
        rintro r w1 ⟨rfl, hb1⟩
        go_wp2
        go_roundw
        case rel => exact ⟨k + 1, by omega, by go_num, (by unfold Hid; rw [any_take_succ _ he.out, hf.out, hq.out]; rfl), hB.out.trans (hb1.mono hB.out.size)⟩
        case measure => simp [intOf]; omega
    · go_wp2
      go_ret
      exact ⟨ret_int (idx_miss (any_whole (n := k) (by rw [hlen.out]; omega) hf.out)).symm, hB.out⟩
end Go.Proofs.Ytkgkpoiacbjdfaa
