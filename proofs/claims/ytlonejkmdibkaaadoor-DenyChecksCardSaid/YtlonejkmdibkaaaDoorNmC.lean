/- few, Same: the law's own small functions on lists of names. -/
import Derived.Test.YtlonejkmdibkaaaDoorNmB
namespace Go.Proofs.YtlonejkmdibkaaaDoor
open Go.RowKit


theorem take_eq_iff {ss ts : List ByteArray} {k : Nat} {x y : ByteArray} (hx : ss[k]? = some x) (hy : ts[k]? = some y) : ss.take (k + 1) = ts.take (k + 1) ↔ ss.take k = ts.take k ∧ x = y := by
  rw [take_succ_of hx, take_succ_of hy]
  constructor
  · intro h
    have := List.append_inj' h rfl
    exact ⟨this.1, by simpa using this.2⟩
  · rintro ⟨h, rfl⟩
    rw [h]
set_option maxHeartbeats 400000 in
theorem same_any (ss ts : List ByteArray) (A B : Option Addr) (n c m d : Nat) (w : World) (hn : n ≤ 9223372036854775807) (hm : m ≤ 9223372036854775807) (H : Strs w A n ss) (K : Strs w B m ts) :
    Calls Tryd.prog 28 #[.slice A n c, .slice B m d] w fun r w' => r = .returned (.bool (decide (ss = ts))) ∧ ∃ q, w' = w.drewN q := by
  have hl := Lib.hid H.len
  have hm' := Lib.hid K.len
  by_cases hnm : n = m
  · subst hnm
    go_enter Tryd.func28, Tryd.ntmps28
    go_wp2
    go_loopw [5] (fun i wr => ∃ k : Nat, k ≤ n ∧ i = .int .i64 k ∧ Hid (ss.take k = ts.take k) ∧ Hid (∃ q, wr = w.drewN q)) (fun i _ => n - (intOf i).toNat)
    case atStart => exact ⟨0, by omega, rfl, by simp [Hid], ⟨0, rfl⟩⟩
    case round =>
      obtain ⟨k, hk, rfl, hf, hD⟩ := hrel
      by_cases hlt : k < n
      · obtain ⟨b, off, x, rfl, hb, hx, hc⟩ := H.at_ hlt
        obtain ⟨b', off', y, rfl, hb', hy, hc'⟩ := K.at_ hlt
        obtain ⟨q, rfl⟩ := hD.out
        have hlt0 : (0 : Int) ≤ (k : Int) := by omega
        have hlt1 : (k : Int) < (n : Int) := by omega
        have hcut := Lib.hid (take_eq_iff hx hy)
        clear hx hy
        cases he : (x.toList == y.toList) with
        | true =>
          have hb1 : (!(x.toList == y.toList)) = false := by rw [he]; rfl
          have hxy := Lib.hid (bs_eq he)
          go_wp2
          go_quiet (fail)
          go_wp2
          go_roundw
          case rel => exact ⟨k + 1, by omega, by go_num, hcut.out.2 ⟨hf.out, hxy.out⟩, ⟨_, rfl⟩⟩
          case measure => simp [intOf]; omega
        | false =>
          have hb1 : (!(x.toList == y.toList)) = true := by rw [he]; rfl
          have hxy := Lib.hid (bs_ne he)
          go_wp2
          go_quiet (fail)
          go_wp2
          go_ret
          exact ⟨ret_bool (decide_eq_false (fun e => by subst e; exact hxy.out (hcut.out.1 rfl).2)).symm, ⟨_, World.drewN_drewN _ _ _⟩⟩
      · go_wp2
        go_ret
        refine ⟨ret_bool (decide_eq_true ?_).symm, hD.out⟩
        have h1 : ss.take k = ss := List.take_of_length_le (by rw [hl.out]; omega)
        have h2 : ts.take k = ts := List.take_of_length_le (by rw [hm'.out]; omega)
        rw [← h1, ← h2]; exact hf.out
  · have hne := Lib.hid (show ss ≠ ts by intro e; subst e; exact hnm (hl.out.symm.trans hm'.out))
    go_enter Tryd.func28, Tryd.ntmps28
    go_wp2
    go_ret
    exact ⟨ret_bool (decide_eq_false hne.out).symm, ⟨0, rfl⟩⟩
end Go.Proofs.YtlonejkmdibkaaaDoor
