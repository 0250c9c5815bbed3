/- Gex: Table. -/
import Derived.Test.YtlonejkmdibkaaaDoorGxE
namespace Go.Proofs.YtlonejkmdibkaaaDoor
open Go.RowKit

def gv (i : Nat) : List Value := [.string (gxP (i + 1)), .string ⟨#[2]⟩]
def tabL : List (List Value) := (List.range 4).map gv
theorem tabL_at {m : Nat} (hm : m < 4) : tabL[m]? = some (gv m) := by
  unfold tabL
  rw [List.getElem?_map, List.getElem?_range hm]
  rfl
theorem OwnR.low {w : World} {base base' k : Nat} {E : TypeId} {v : Value} {zs : List (List Value)} (h : OwnR w base k E v zs) (hb : base' ≤ base) : OwnR w base' k E v zs := by
  obtain ⟨⟨hl, hh⟩, hz⟩ := h
  refine ⟨⟨hl, ?_⟩, hz⟩
  rcases hh with h0 | ⟨g, cap, cur, hv, hg, r⟩
  · exact .inl h0
  · exact .inr ⟨g, cap, cur, hv, Nat.le_trans hb hg, r⟩
theorem grp_info : (Tryd.prog.info? 23).map (fun i => (i.zero, i.size, i.bytes)) = some (some (.agg #[.string ⟨#[]⟩, .string ⟨#[]⟩]), 2, 32) := by kernel_rfl
structure TG (w1 wr : World) (v : Value) (m : Nat) : Prop where
  own : OwnR wr w1.heap.size 2 23 v (tabL.take m)
  below : Below w1.heap.size w1 wr
theorem TG.next {w1 w' : World} {v' : Value} {m : Nat} (hm : m < 4) (hO : OwnR w' w1.heap.size 2 23 v' (tabL.take m ++ [gv m])) (hB : Below w1.heap.size w1 w') : TG w1 w' v' (m + 1) :=
  ⟨by rw [take_succ_at (tabL_at hm)]; exact hO, hB⟩
theorem TG.keep {w1 wr w' : World} {v : Value} {m : Nat} (h : TG w1 wr v m) (hb : Below wr.heap.size wr w') : TG w1 w' v m := ⟨h.own.keep hb, h.below.trans (hb.mono h.below.size)⟩
theorem TG.len {w1 wr : World} {v : Value} {m : Nat} (_ : TG w1 wr v m) : (tabL.take m).length ≤ 4 := by rw [List.length_take]; exact Nat.le_trans (Nat.min_le_right _ _) (by decide)
def Tab (w : World) (r : Ending) (w' : World) : Prop := ∃ v, r = .returned v ∧ OwnR w' w.heap.size 2 23 v tabL ∧ Below w.heap.size w w'
set_option maxRecDepth 100000 in
set_option maxHeartbeats 4000000 in
theorem table_any (w : World) : Calls Tryd.prog 16 #[] w (Tab w) := by
  obtain ⟨i0, hi0, hz0, hz1, hz2⟩ := info_parts grp_info
  have cS := Lib.hid (sizes_any w)
  have hI := sizes_ints w
  have hB := below_new w (.cells #[.int .i64 1024, .int .i64 2048, .int .i64 3072, .int .i64 4096] 3)
  generalize hW1 : w.alloc (.cells #[.int .i64 1024, .int .i64 2048, .int .i64 3072, .int .i64 4096] 3) = w1 at cS hI hB
  have hz : w1.heap.size = w.heap.size + 1 := by rw [← hW1]; simp
  have hz := Lib.hid hz
  have hB := Lib.hid hB
  have hI := Lib.hid hI
  clear hW1
  go_enter Tryd.func16, Tryd.ntmps16
  go_wp2_with (go_at_call 66; refine cS.out.mono ?_; rintro r w4 ⟨rfl, rfl⟩)
  have hS0 := Lib.hid (show TG w4 w4 (.slice none 0 0) 0 from ⟨OwnR.nil_ _ _ _ _, Below.refl _ _⟩)
  go_loopw [1, 3, 6] (fun v _ i wr => ∃ m : Nat, m ≤ 4 ∧ i = .int .i64 m ∧ Hid (TG w4 wr v m)) (fun _ _ i _ => 4 - (intOf i).toNat)
  case atStart => exact ⟨0, by omega, rfl, hS0⟩
  case round =>
    obtain ⟨m, hm, rfl, hS⟩ := hrel
    by_cases hlt : m < 4
    · obtain ⟨b, off, x, e, hb, hx, hc⟩ := (hI.out.keep hS.out.below).at_ hlt
      injection e with e
      injection e with e1 e2
      subst e1; subst e2
      have hx : x = ((1024 * (m + 1) : Nat) : Int) := by
        have : m = 0 ∨ m = 1 ∨ m = 2 ∨ m = 3 := by omega
        rcases this with rfl | rfl | rfl | rfl <;> simpa using hx.symm
      have cG := Lib.hid (fun W => group_any (m + 1) W (by omega))
      rw [← hx] at cG
      rw [Nat.zero_add] at hc
      have hl0 : (0 : Int) ≤ (m : Int) := by omega
      have hl1 : (m : Int) < 4 := by omega
      clear hx hb
      go_wp2_with (first
        | (go_at_call 67; (with_reducible refine (cG.out _).mono ?_); rintro r w5 ⟨rfl, hb5⟩; have hS5 := Lib.hid ((hS.out.keep hb5).keep (below_new w5 (.cells #[.string (gxP (m + 1)), .string ⟨#[2]⟩] 23))); have hO5 := Lib.hid hS5.out.own; have hB5 := Lib.hid hS5.out.below; clear hb5)
        | (refine wpList_buildSlice_as 31 23 1 _ rfl rfl i0 (.agg #[.string ⟨#[]⟩, .string ⟨#[]⟩]) #[.string (gxP (m + 1)), .string ⟨#[2]⟩] Tryd.underlying31 hi0 hz0 (by rw [hz1]; decide) (by rw [hz1]; decide) ?_ ?_
           · rw [hz1]; exact fill_one 2 _ _ (by simp) rfl)
        | (at_builtin
           refine wpList_append_one rfl _ _ 31 rfl 23 i0 (.agg #[.string ⟨#[]⟩, .string ⟨#[]⟩]) 2 32 Tryd.underlying31 hi0 hz0 hz1 hz2 rfl (by decide) w4 hB5.out _ _ rfl hO5.out w5.heap.size 1 (gv m) rfl ?_ rfl ?_ ?_ ?_ ?_
           · exact rangeAt_list (heap_new w5 (.cells #[.string (gxP (m + 1)), .string ⟨#[2]⟩] 23))
           · intro u hu; simp [gv] at hu; rcases hu with rfl | rfl <;> rfl
           · have := hS5.out.len; unfold maxLen; omega
           · have := hS5.out.len; omega
           intro v' w2 hO3 hB3 _
           have hS2 := Lib.hid (TG.next (v' := v') hlt hO3 hB3)
           clear hO3 hB3))
      go_roundw
      case rel => exact ⟨m + 1, by omega, by go_num, hS2⟩
      case measure => simp [intOf]; omega
    · obtain rfl : m = 4 := by omega
      have hF := Lib.hid (show Tab w (.returned u1) wr from ⟨_, rfl, OwnR.low hS.out.own (by rw [hz.out]; omega), hB.out.trans (hS.out.below.mono hB.out.size)⟩)
      go_wp2_with fail
      go_ret
      exact hF.out
end Go.Proofs.YtlonejkmdibkaaaDoor
