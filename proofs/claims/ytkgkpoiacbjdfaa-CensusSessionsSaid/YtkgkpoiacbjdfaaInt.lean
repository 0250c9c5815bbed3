/- Slices of integers: as a list; made by the call itself; the laws' 'has' and 'rises'. -/
import Derived.Test.YtkgkpoiacbjdfaaOpenRows
import Derived.Test.YtkgkpoiacbjdfaaOwn
import Derived.Test.YtkgkpoiacbjdfaaLst
import Derived.Test.YtkgkpoiacbjdfaaProg
import Derived.BigQuiet
import Derived.Deep.QuietTactic
namespace Go.Proofs.Ytkgkpoiacbjdfaa
open Go.RowKit

def iv (x : Int) : List Value := [.int .i64 x]
def Ints (w : World) (A : Option Addr) (n : Nat) (xs : List Int) : Prop := Rws w 1 A n (xs.map iv)
theorem Ints.keep {w w' : World} {A : Option Addr} {n : Nat} {xs : List Int} (h : Ints w A n xs) (hb : Below w.heap.size w w') : Ints w' A n xs := Rws.keep h hb
theorem Ints.len {w : World} {A : Option Addr} {n : Nat} {xs : List Int} (h : Ints w A n xs) : xs.length = n := by simpa using h.1
theorem Ints.at_ {w : World} {A : Option Addr} {n : Nat} {xs : List Int} (h : Ints w A n xs) {j : Nat} (hj : j < n) :
    ∃ b off x, A = some ⟨b, off, none⟩ ∧ b < w.heap.size ∧ xs[j]? = some x ∧ w.cell? ⟨b, off + j, none⟩ = some (.int .i64 x) := by
  obtain ⟨b, off, z, e, hlt, hz, _, hr⟩ := Rws.row h hj
  rw [List.getElem?_map] at hz
  cases he : xs[j]? with
  | none => rw [he] at hz; cases hz
  | some x =>
    rw [he] at hz
    simp only [Option.map_some, Option.some.injEq] at hz
    subst hz
    have := hr 0 _ rfl
    rw [Nat.mul_one, Nat.add_zero] at this
    exact ⟨b, off, x, e, hlt, rfl, this⟩
def OwnI (w : World) (base : Nat) (v : Value) (xs : List Int) : Prop := OwnR w base 1 3 v (xs.map iv)
theorem OwnI.ints {w : World} {base : Nat} {v : Value} {xs : List Int} (h : OwnI w base v xs) : ∃ A c, v = .slice A xs.length c ∧ Ints w A xs.length xs := by
  obtain ⟨A, c, hv, hr⟩ := OwnR.rws h
  rw [List.length_map] at hv hr
  exact ⟨A, c, hv, hr⟩
theorem OwnI.keep {w w' : World} {base : Nat} {v : Value} {xs : List Int} (h : OwnI w base v xs) (hb : Below w.heap.size w w') : OwnI w' base v xs := OwnR.keep h hb
theorem int_info : (Try.prog.info? 3).map (fun i => (i.zero, i.size, i.bytes)) = some (some (.int .i64 0), 1, 8) := by kernel_rfl

def hasI (xs : List Int) (x : Int) : Bool := xs.any (· == x)
def risesTo (xs : List Int) (k : Nat) : Bool := (List.range k).all fun i => decide (xs.getD i 0 < xs.getD (i + 1) 0)
def rises (xs : List Int) : Bool := risesTo xs (xs.length - 1)
theorem risesTo_succ (xs : List Int) (k : Nat) : risesTo xs (k + 1) = (risesTo xs k && decide (xs.getD k 0 < xs.getD (k + 1) 0)) := by
  unfold risesTo; rw [List.range_succ, List.all_append]; simp
theorem risesTo_le {xs : List Int} {m k : Nat} (h : m ≤ k) (hk : risesTo xs k = true) : risesTo xs m = true := by
  unfold risesTo at *
  rw [List.all_eq_true] at *
  intro i hi
  exact hk i (List.mem_range.2 (by have := List.mem_range.1 hi; omega))
theorem rises_bad {xs : List Int} {k : Nat} (hk : k + 1 < xs.length) (h : ¬ xs.getD k 0 < xs.getD (k + 1) 0) : rises xs = false := by
  unfold rises risesTo
  rw [List.all_eq_false]
  exact ⟨k, List.mem_range.2 (by omega), by rw [decide_eq_false h]; decide⟩

set_option maxHeartbeats 400000 in
theorem hasI_any (xs : List Int) (A : Option Addr) (n c : Nat) (s : Int) (w : World) (hn : n ≤ 9223372036854775807) (H : Ints w A n xs) :
    Calls Try.prog 9 #[.slice A n c, .int .i64 s] w fun r w' => r = .returned (.bool (hasI xs s)) ∧ w = w' := by
  have hlen := Lib.hid H.len
  go_enter Try.func9, Try.ntmps9
  go_wp2
  go_loop [5] (fun i => ∃ k : Nat, k ≤ n ∧ i = .int .i64 k ∧ Hid (((xs.take k).any (· == s)) = false)) (fun i => n - (intOf i).toNat)
  case atStart => exact ⟨0, by omega, rfl, by simp [Hid]⟩
  case round =>
    obtain ⟨k, hk, rfl, hf⟩ := hrel
    by_cases hlt : k < n
    · obtain ⟨b, off, x, rfl, hb, hx, hc⟩ := H.at_ hlt
      have hx := Lib.hid hx
      cases he : (x == s) with
      | true =>
        have hq := Lib.hid he
        go_wp2
        go_ret
        exact ⟨ret_bool (any_hit _ hx.out hq.out).symm, rfl⟩
      | false =>
        have hq := Lib.hid he
        go_wp2
        go_round
        case rel => exact ⟨k + 1, by omega, by go_num, (by unfold Hid; rw [any_take_succ _ hx.out, hf.out, hq.out]; rfl)⟩
        case measure => simp [intOf]; omega
    · go_wp2
      go_ret
      exact ⟨ret_bool (any_whole (n := k) (by rw [hlen.out]; omega) hf.out).symm, rfl⟩

set_option maxHeartbeats 400000 in
theorem rises_any (xs : List Int) (A : Option Addr) (n c : Nat) (w : World) (hn : n ≤ 9223372036854775807) (H : Ints w A n xs) :
    Calls Try.prog 8 #[.slice A n c] w fun r w' => r = .returned (.bool (rises xs)) ∧ Below w.heap.size w w' := by
  have hlen := Lib.hid H.len
  go_enter Try.func8, Try.ntmps8
  go_wp2
  go_loopw [3] (fun i wr => ∃ k : Nat, k + 1 ≤ n + 1 ∧ i = .int .i64 (k + 1 : Nat) ∧ Hid (risesTo xs k = true) ∧ Hid (Below w.heap.size w wr)) (fun i _ => n + 1 - (intOf i).toNat)
  case atStart => exact ⟨0, by omega, rfl, by simp [Hid, risesTo], Below.refl _ _⟩
  case round =>
    obtain ⟨k, hk, rfl, hf, hD⟩ := hrel
    by_cases hlt : k + 1 < n
    · obtain ⟨b, off, x, rfl, hb, hx, hc0⟩ := H.at_ hlt
      obtain ⟨b', off', y, e, hb', hy, hd0⟩ := H.at_ (show k < n by omega)
      simp only [Option.some.injEq, Addr.mk.injEq] at e
      obtain ⟨rfl, rfl, _⟩ := e
      have hc := (hD.out.cell (p := ⟨b, off + (k + 1), none⟩) hb).trans hc0
      have hd := (hD.out.cell (p := ⟨b, off + k, none⟩) hb).trans hd0
      have hgx : xs.getD (k + 1) 0 = x := by rw [List.getD_eq_getElem?_getD, hx]; rfl
      have hgy : xs.getD k 0 = y := by rw [List.getD_eq_getElem?_getD, hy]; rfl
      have hstep := risesTo_succ xs k
      rw [hgx, hgy] at hstep
      have hbad := Lib.hid (fun h : ¬ y < x => rises_bad (xs := xs) (k := k) (by rw [hlen.out]; exact hlt) (by rw [hgx, hgy]; exact h))
      have hstep := Lib.hid hstep
      have e1 : ((k + 1 : Nat) : Int) = (k : Int) + 1 := by omega
      have e2 : IntKind.i64.wrap ((k : Int) + 1 - 1) = (k : Int) := by rw [show (k : Int) + 1 - 1 = k by omega]; exact IntWalk.i64_in _ (by omega)
      have hl0 : (0 : Int) ≤ (k : Int) + 1 := by omega
      have hl1 : (k : Int) + 1 < (n : Int) := by omega
      have hl2 : (k : Int) < (n : Int) := by omega
      have hl3 : (0 : Int) ≤ (k : Int) := by omega
      clear hgx hgy hx hy hc0 hd0
      rw [e1]
      clear e1
      by_cases hxy : x ≤ y
      · have hq : decide (x ≤ y) = true := decide_eq_true hxy
        go_wp2
        go_quiet (fail)
        go_wp2
        go_ret
        exact ⟨ret_bool (hbad.out (by omega)).symm, hD.out.trans (Below.mono (drewN_below _) hD.out.size)⟩
      · have hq : decide (x ≤ y) = false := decide_eq_false hxy
        go_wp2
        go_quiet (fail)
        go_wp2
        go_roundw
        case rel => exact ⟨k + 1, by omega, by go_num, (by unfold Hid; rw [hstep.out, hf.out]; simp; omega), hD.out.trans (Below.mono (drewN_below _) hD.out.size)⟩
        case measure => simp [intOf]; omega
    · go_wp2
      go_ret
      refine ⟨ret_bool ?_, hD.out⟩
      unfold rises
      rw [hlen.out]
      exact (risesTo_le (by omega) hf.out).symm
end Go.Proofs.Ytkgkpoiacbjdfaa
