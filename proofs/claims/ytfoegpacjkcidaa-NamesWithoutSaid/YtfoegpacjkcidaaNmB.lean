/- Once, Without, Same, few: the walks of the functions on lists of names that cut, append or compare. -/
import Derived.Test.YtfoegpacjkcidaaNmA
import Derived.RegionTactic
import Derived.BigQuiet
import Derived.Deep.QuietTactic
namespace Go.Proofs.Ytfoegpacjkcidaa
open Go.RowKit

/-- No name stands twice. -/
def once (ss : List ByteArray) : Bool := (List.range ss.length).all fun i => !has (ss.take i) (ss.getD i ByteArray.empty)
def onceTo (ss : List ByteArray) (k : Nat) : Bool := (List.range k).all fun i => !has (ss.take i) (ss.getD i ByteArray.empty)
theorem onceTo_succ (ss : List ByteArray) (k : Nat) : onceTo ss (k + 1) = (onceTo ss k && !has (ss.take k) (ss.getD k ByteArray.empty)) := by
  unfold onceTo; rw [List.range_succ, List.all_append]; simp
theorem once_bad {ss : List ByteArray} {k : Nat} (hk : k < ss.length) (h : has (ss.take k) (ss.getD k ByteArray.empty) = true) : once ss = false := by
  unfold once
  rw [List.all_eq_false]
  exact ⟨k, List.mem_range.2 hk, by rw [h]; decide⟩
set_option maxHeartbeats 400000 in
theorem nmOnce_any (ss : List ByteArray) (A : Option Addr) (n c : Nat) (w : World) (hc : n ≤ c) (hn : c ≤ 9223372036854775807) (H : Strs w A n ss) :
    Calls Try.prog 19 #[.slice A n c] w fun r w' => r = .returned (.bool (once ss)) ∧ w = w' := by
  have hlen := Lib.hid H.len
  have HH := Lib.hid H
  go_enter Try.func19, Try.ntmps19
  go_wp2
  go_loop [3, 4, 7] (fun _ _ i => ∃ k : Nat, k ≤ n ∧ i = .int .i64 k ∧ Hid (onceTo ss k = true)) (fun _ _ i => n - (intOf i).toNat)
  case atStart => exact ⟨0, by omega, rfl, by simp [Hid, onceTo]⟩
  case round =>
    obtain ⟨k, hk, rfl, hf⟩ := hrel
    by_cases hlt : k < n
    · obtain ⟨b, off, x, rfl, hb, hx, hcell⟩ := H.at_ hlt
      have hxd : ss.getD k ByteArray.empty = x := by rw [List.getD_eq_getElem?_getD, hx]; rfl
      have hcall := nmHas_any (ss.take k) (some ⟨b, off, none⟩) k c x w (by omega) (H.take_ hk)
      cases he : has (ss.take k) x with
      | true =>
        rw [he] at hcall
        have he := Lib.hid he
        have hxd := Lib.hid hxd
        have hcall := Lib.hid hcall
        have hx := Lib.hid hx
        go_wp2_with (go_at_call 18; refine hcall.out.mono ?_; rintro r w1 ⟨rfl, rfl⟩)
        go_ret
        exact ⟨ret_bool (once_bad (k := k) (by rw [hlen.out]; exact hlt) (by rw [hxd.out]; exact he.out)).symm, rfl⟩
      | false =>
        rw [he] at hcall
        have he := Lib.hid he
        have hxd := Lib.hid hxd
        have hcall := Lib.hid hcall
        have hx := Lib.hid hx
        go_wp2_with (go_at_call 18; refine hcall.out.mono ?_; rintro r w1 ⟨rfl, rfl⟩)
        go_round
        case rel => exact ⟨k + 1, by omega, by go_num, (by unfold Hid; rw [onceTo_succ, hf.out, hxd.out, he.out]; rfl)⟩
        case measure => simp [intOf]; omega
    · go_wp2
      go_ret
      exact ⟨ret_bool (by have : k = ss.length := by rw [hlen.out]; omega
                          rw [this] at hf; exact hf.out.symm), rfl⟩

theorem filter_take_succ {α : Type} (p : α → Bool) {l : List α} {k : Nat} {x : α} (h : l[k]? = some x) : (l.take (k + 1)).filter p = (l.take k).filter p ++ (if p x then [x] else []) := by
  rw [take_succ_of h, List.filter_append]
  congr 1
  by_cases hp : p x = true <;> simp [hp]
def without (ss ts : List ByteArray) : List ByteArray := ss.filter fun s => !has ts s
theorem without_le (ss ts : List ByteArray) (k : Nat) : ((ss.take k).filter fun s => !has ts s).length ≤ k := Nat.le_trans (List.length_filter_le _ _) (List.length_take_le _ _)
set_option maxHeartbeats 1000000 in
theorem nmWithout_any (ss ts : List ByteArray) (A B : Option Addr) (n c m d : Nat) (w : World) (hn : n ≤ 1000000) (hm : m ≤ 9223372036854775807) (H : Strs w A n ss) (K : Strs w B m ts) :
    Calls Try.prog 20 #[.slice A n c, .slice B m d] w fun r w' => ∃ v, r = .returned v ∧ OwnS w' w.heap.size v (without ss ts) ∧ Below w.heap.size w w' := by
  obtain ⟨i0, hi0, hz0, hz1, hz2⟩ := info_parts str_info
  have hlen := Lib.hid H.len
  have KK := Lib.hid K
  go_enter Try.func20, Try.ntmps20
  go_wp2
  go_loopw [5, 7, 10] (fun v _ i wr => ∃ k : Nat, k ≤ n ∧ i = .int .i64 k ∧ Hid (OwnS wr w.heap.size v ((ss.take k).filter fun s => !has ts s)) ∧ Hid (Below w.heap.size w wr)) (fun _ _ i _ => n - (intOf i).toNat)
  case atStart => exact ⟨0, by omega, rfl, OwnR.nil_ _ _ _ _, Below.refl _ _⟩
  case round =>
    obtain ⟨k, hk, rfl, hO, hB⟩ := hrel
    by_cases hlt : k < n
    · obtain ⟨b, off, x, rfl, hb, hx, hcell⟩ := H.at_ hlt
      have hcell' := (hB.out.cell (p := ⟨b, off + k, none⟩) hb).trans hcell
      have hcall := nmHas_any ts B m d x wr hm (K.keep hB.out)
      have hstep := filter_take_succ (fun s => !has ts s) hx
      have hx := Lib.hid hx
      clear hcell
      cases he : has ts x with
      | true =>
        rw [he] at hcall
        rw [he] at hstep
        have hstep := Lib.hid hstep
        have hcall := Lib.hid hcall
        go_wp2_with (go_at_call 18; refine hcall.out.mono ?_; rintro r w1 ⟨rfl, rfl⟩)
        go_roundw
        case rel => exact ⟨k + 1, by omega, by go_num, (by unfold Hid; rw [hstep.out]; simpa using hO.out), hB⟩
        case measure => simp [intOf]; omega
      | false =>
        rw [he] at hcall
        rw [he] at hstep
        have hstep := Lib.hid hstep
        have hcall := Lib.hid hcall
        have hle := without_le ss ts k
        have hO1 := Lib.hid (hO.out.keep ((Below.refl wr.heap.size wr).alloc (Nat.le_refl _) (.cells #[.string x] 9)))
        have hB1 := Lib.hid (hB.out.alloc hB.out.size (.cells #[.string x] 9))
        go_wp2_with (first
          | (go_at_call 18; refine hcall.out.mono ?_; rintro r w1 ⟨rfl, rfl⟩)
          | (at_builtin
             refine wpList_append_one rfl _ _ 38 rfl 9 i0 (.string ByteArray.empty) 1 16 Try.underlying38 hi0 hz0 hz1 hz2 rfl (by decide) w hB1.out _ _ rfl hO1.out wr.heap.size 1 (sv x) rfl ?_ rfl ?_ ?_ ?_ ?_
             · exact rangeAt_list (heap_new wr (.cells #[.string x] 9))
             · intro u hu; simp [sv] at hu; subst hu; rfl
             · simp only [List.length_map]; unfold maxLen; omega
             · simp only [List.length_map]; omega
             intro v' w2 hO2 hB2 _
             have hO2 := Lib.hid hO2
             have hB2 := Lib.hid hB2))
        go_roundw
        case rel => exact ⟨k + 1, by omega, by go_num, (by unfold Hid OwnS; rw [hstep.out]; simpa using hO2.out), hB2⟩
        case measure => simp [intOf]; omega
    · go_wp2
      go_ret
      have hkn : ss.take k = ss := List.take_of_length_le (by rw [hlen.out]; omega)
      rw [hkn] at hO
      exact ⟨_, rfl, hO.out, hB.out⟩

set_option maxHeartbeats 1000000 in
theorem refWithout_any (ss ts : List ByteArray) (A B : Option Addr) (n c m d : Nat) (w : World) (hn : n ≤ 1000000) (hm : m ≤ 9223372036854775807) (H : Strs w A n ss) (K : Strs w B m ts) :
    Calls Try.prog 22 #[.slice A n c, .slice B m d] w fun r w' => ∃ v, r = .returned v ∧ OwnS w' w.heap.size v (without ss ts) ∧ Below w.heap.size w w' := by
  obtain ⟨i0, hi0, hz0, hz1, hz2⟩ := info_parts str_info
  have hlen := Lib.hid H.len
  have KK := Lib.hid K
  go_enter Try.func22, Try.ntmps22
  go_wp2
  go_loopw [5, 6] (fun v i wr => ∃ k : Nat, k ≤ n ∧ i = .int .i64 k ∧ Hid (OwnS wr w.heap.size v ((ss.take k).filter fun s => !has ts s)) ∧ Hid (Below w.heap.size w wr)) (fun _ i _ => n - (intOf i).toNat)
  case atStart => exact ⟨0, by omega, rfl, OwnR.nil_ _ _ _ _, Below.refl _ _⟩
  case round =>
    obtain ⟨k, hk, rfl, hO, hB⟩ := hrel
    by_cases hlt : k < n
    · obtain ⟨b, off, x, rfl, hb, hx, hcell⟩ := H.at_ hlt
      have hcell' := (hB.out.cell (p := ⟨b, off + k, none⟩) hb).trans hcell
      have hcall := refHas_any ts B m d x wr hm (K.keep hB.out)
      have hstep := filter_take_succ (fun s => !has ts s) hx
      have hx := Lib.hid hx
      clear hcell
      cases he : has ts x with
      | true =>
        rw [he] at hcall
        rw [he] at hstep
        have hstep := Lib.hid hstep
        have hcall := Lib.hid hcall
        go_wp2_with (go_at_call 17; refine hcall.out.mono ?_; rintro r w1 ⟨rfl, rfl⟩)
        go_roundw
        case rel => exact ⟨k + 1, by omega, by go_num, (by unfold Hid; rw [hstep.out]; simpa using hO.out), hB⟩
        case measure => simp [intOf]; omega
      | false =>
        rw [he] at hcall
        rw [he] at hstep
        have hstep := Lib.hid hstep
        have hcall := Lib.hid hcall
        have hle := without_le ss ts k
        have hO1 := Lib.hid (hO.out.keep ((Below.refl wr.heap.size wr).alloc (Nat.le_refl _) (.cells #[.string x] 9)))
        have hB1 := Lib.hid (hB.out.alloc hB.out.size (.cells #[.string x] 9))
        go_wp2_with (first
          | (go_at_call 17; refine hcall.out.mono ?_; rintro r w1 ⟨rfl, rfl⟩)
          | (at_builtin
             refine wpList_append_one rfl _ _ 38 rfl 9 i0 (.string ByteArray.empty) 1 16 Try.underlying38 hi0 hz0 hz1 hz2 rfl (by decide) w hB1.out _ _ rfl hO1.out wr.heap.size 1 (sv x) rfl ?_ rfl ?_ ?_ ?_ ?_
             · exact rangeAt_list (heap_new wr (.cells #[.string x] 9))
             · intro u hu; simp [sv] at hu; subst hu; rfl
             · simp only [List.length_map]; unfold maxLen; omega
             · simp only [List.length_map]; omega
             intro v' w2 hO2 hB2 _
             have hO2 := Lib.hid hO2
             have hB2 := Lib.hid hB2))
        go_roundw
        case rel => exact ⟨k + 1, by omega, by go_num, (by unfold Hid OwnS; rw [hstep.out]; simpa using hO2.out), hB2⟩
        case measure => simp [intOf]; omega
    · go_wp2
      go_ret
      have hkn : ss.take k = ss := List.take_of_length_le (by rw [hlen.out]; omega)
      rw [hkn] at hO
      exact ⟨_, rfl, hO.out, hB.out⟩
end Go.Proofs.Ytfoegpacjkcidaa
