/- few, Same: the law's own small functions on lists of names. -/
import Derived.Test.YtfoegpacjkcidaaDoorNmB
namespace Go.Proofs.YtfoegpacjkcidaaDoor
open Go.RowKit

def fewB (ss : List ByteArray) (most : Int) : Bool := decide ((ss.length : Int) ≤ most) && ss.all fun s => decide (s.size ≤ 200)
theorem all_take_miss {α : Type} {l : List α} {k : Nat} {x : α} {p : α → Bool} (h : l[k]? = some x) (hp : p x = false) : l.all p = false := by
  rw [List.all_eq_false]
  exact ⟨x, List.mem_of_getElem? h, by simp [hp]⟩
set_option maxHeartbeats 400000 in
theorem few_any (ss : List ByteArray) (A : Option Addr) (n c : Nat) (most : Int) (w : World) (hn : n ≤ 9223372036854775807) (H : Strs w A n ss) (hs : ∀ s ∈ ss, s.size ≤ 9223372036854775807) :
    Calls Tryd.prog 29 #[.slice A n c, .int .i64 most] w fun r w' => r = .returned (.bool (fewB ss most)) ∧ w = w' := by
  have hlen := Lib.hid H.len
  have hS := Lib.hid hs
  clear hs
  by_cases hm : most < n
  · have hf := Lib.hid (show fewB ss most = false by unfold fewB; rw [hlen.out, decide_eq_false (by omega)]; rfl)
    go_enter Tryd.func29, Tryd.ntmps29
    go_wp2
    go_ret
    exact ⟨ret_bool hf.out.symm, rfl⟩
  have hf0 := Lib.hid (show fewB ss most = ss.all fun s => decide (s.size ≤ 200) by unfold fewB; rw [hlen.out, decide_eq_true (by omega)]; rfl)
  go_enter Tryd.func29, Tryd.ntmps29
  go_wp2
  go_loop [5] (fun i => ∃ k : Nat, k ≤ n ∧ i = .int .i64 k ∧ Hid ((ss.take k).all (fun s => decide (s.size ≤ 200)) = true)) (fun i => n - (intOf i).toNat)
  case atStart => exact ⟨0, by omega, rfl, by simp [Hid]⟩
  case round =>
    obtain ⟨k, hk, rfl, hf⟩ := hrel
    by_cases hlt : k < n
    · obtain ⟨b, off, x, rfl, hb, hx, hc⟩ := H.at_ hlt
      have hsz := hS.out x (List.mem_of_getElem? hx)
      have hx := Lib.hid hx
      by_cases hq : 200 < x.size
      · go_wp2
        go_ret
        exact ⟨ret_bool (by rw [hf0.out, all_take_miss hx.out (by simp; omega)]), rfl⟩
      · go_wp2
        go_round
        case rel => exact ⟨k + 1, by omega, by go_num, (by unfold Hid; rw [all_take_succ _ hx.out, hf.out]; simp; omega)⟩
        case measure => simp [intOf]; omega
    · go_wp2
      go_ret
      exact ⟨ret_bool (by rw [hf0.out, ← hf.out, List.take_of_length_le (by rw [hlen.out]; omega)]), rfl⟩
theorem fewB_len {ss : List ByteArray} {m : Int} (h : fewB ss m = true) : (ss.length : Int) ≤ m := by
  unfold fewB at h; simp at h; exact h.1

theorem take_eq_iff {ss ts : List ByteArray} {k : Nat} {x y : ByteArray} (hx : ss[k]? = some x) (hy : ts[k]? = some y) : ss.take (k + 1) = ts.take (k + 1) ↔ ss.take k = ts.take k ∧ x = y := by
  rw [take_succ_of hx, take_succ_of hy]
  constructor
  · intro h
    have := List.append_inj' h rfl
    exact ⟨this.1, by simpa using this.2⟩
  · rintro ⟨h, rfl⟩
    rw [h]
set_option maxHeartbeats 400000 in
theorem same_any (ss ts : List ByteArray) (A B : Option Addr) (n c m d : Nat) (w : World) (hn : n ≤ 9223372036854775807) (hm : m ≤ 9223372036854775807) (H : Strs w A n ss) (K : Strs w B m ts) :
    Calls Tryd.prog 22 #[.slice A n c, .slice B m d] w fun r w' => r = .returned (.bool (decide (ss = ts))) ∧ ∃ q, w' = w.drewN q := by
  have hl := Lib.hid H.len
  have hm' := Lib.hid K.len
  by_cases hnm : n = m
  · subst hnm
    go_enter Tryd.func22, Tryd.ntmps22
    go_wp2
    go_loopw [5] (fun i wr => ∃ k : Nat, k ≤ n ∧ i = .int .i64 k ∧ Hid (ss.take k = ts.take k) ∧ Hid (∃ q, wr = w.drewN q)) (fun i _ => n - (intOf i).toNat)
    case atStart => exact ⟨0, by omega, rfl, by simp [Hid], ⟨0, rfl⟩⟩
    case round =>
      obtain ⟨k, hk, rfl, hf, hD⟩ := hrel
      by_cases hlt : k < n
      · obtain ⟨b, off, x, rfl, hb, hx, hc⟩ := H.at_ hlt
        obtain ⟨b', off', y, rfl, hb', hy, hc'⟩ := K.at_ hlt
        obtain ⟨q, rfl⟩ := hD.out
        have hlt0 : (0 : Int) ≤ (k : Int) := by omega
        have hlt1 : (k : Int) < (n : Int) := by omega
        have hcut := Lib.hid (take_eq_iff hx hy)
        clear hx hy
        cases he : (x.toList == y.toList) with
        | true =>
          have hb1 : (!(x.toList == y.toList)) = false := by rw [he]; rfl
          have hxy := Lib.hid (bs_eq he)
          go_wp2
          go_quiet (fail)
          go_wp2
          go_roundw
          case rel => exact ⟨k + 1, by omega, by go_num, hcut.out.2 ⟨hf.out, hxy.out⟩, ⟨_, rfl⟩⟩
          case measure => simp [intOf]; omega
        | false =>
          have hb1 : (!(x.toList == y.toList)) = true := by rw [he]; rfl
          have hxy := Lib.hid (bs_ne he)
          go_wp2
          go_quiet (fail)
          go_wp2
          go_ret
          exact ⟨ret_bool (decide_eq_false (fun e => by subst e; exact hxy.out (hcut.out.1 rfl).2)).symm, ⟨_, World.drewN_drewN _ _ _⟩⟩
      · go_wp2
        go_ret
        refine ⟨ret_bool (decide_eq_true ?_).symm, hD.out⟩
        have h1 : ss.take k = ss := List.take_of_length_le (by rw [hl.out]; omega)
        have h2 : ts.take k = ts := List.take_of_length_le (by rw [hm'.out]; omega)
        rw [← h1, ← h2]; exact hf.out
  · have hne := Lib.hid (show ss ≠ ts by intro e; subst e; exact hnm (hl.out.symm.trans hm'.out))
    go_enter Tryd.func22, Tryd.ntmps22
    go_wp2
    go_ret
    exact ⟨ret_bool (decide_eq_false hne.out).symm, ⟨0, rfl⟩⟩
end Go.Proofs.YtfoegpacjkcidaaDoor
