/- Gex: the reference's group. -/
import Derived.Test.YtlonejkmdibkaaaDoorGxC
import Derived.Test.YtlonejkmdibkaaaDoorOwn
namespace Go.Proofs.YtlonejkmdibkaaaDoor
open Go.RowKit

def u8v (x : Int) : List Value := [.int .u8 x]
theorem take_succ_at {α : Type} {l : List α} {k : Nat} {x : α} (h : l[k]? = some x) : l.take (k + 1) = l.take k ++ [x] := by
  rw [List.take_add_one, h]; rfl
theorem gxL_at (k : Nat) {m : Nat} (hm : m < 128 * k) : (gxL k)[m]? = some (gxAt k m : Int) := by
  unfold gxL
  rw [List.getElem?_map, List.getElem?_range hm]
  rfl
theorem gxAt_mid {k m : Nat} (h0 : m ≠ 0) (h1 : m + 1 ≠ 128 * k) : (gxAt k m : Int) = (7 * (m : Int) + 16 * k) % 251 := by
  unfold gxAt
  simp only [if_neg h0]
  rw [if_neg (by omega)]
  omega
/-- What the rounds keep. -/
structure RG (w1 wr : World) (v : Value) (k m : Nat) : Prop where
  own : OwnR wr w1.heap.size 1 5 v (((gxL k).take m).map u8v)
  below : Below w1.heap.size w1 wr
theorem RG.next {w1 w' : World} {v' : Value} {k m : Nat} {x : Int} (hm : m < 128 * k) (hx : (gxAt k m : Int) = x) (hO : OwnR w' w1.heap.size 1 5 v' (((gxL k).take m).map u8v ++ [u8v x])) (hB : Below w1.heap.size w1 w') : RG w1 w' v' k (m + 1) :=
  ⟨by rw [take_succ_at (gxL_at k hm), List.map_append, hx]; exact hO, hB⟩
theorem RG.alloc_ {w1 wr : World} {v : Value} {k m : Nat} (h : RG w1 wr v k m) (o : Obj) : OwnR (wr.alloc o) w1.heap.size 1 5 v (((gxL k).take m).map u8v) ∧ Below w1.heap.size w1 (wr.alloc o) :=
  ⟨h.own.keep (below_new _ _), h.below.alloc h.below.size o⟩
theorem RG.len {w1 wr : World} {v : Value} {k m : Nat} (_ : RG w1 wr v k m) : (((gxL k).take m).map u8v).length ≤ 128 * k := by
  rw [List.length_map, List.length_take, gxL_len]; omega
theorem RG.fin {w1 wr : World} {v : Value} {k : Nat} (h : RG w1 wr v k (128 * k)) (hk : 0 < k) : ∃ b off c, v = .slice (some ⟨b, off, none⟩) (128 * k) c ∧
    (convert 104 9 (.slice (some ⟨b, off, none⟩) (128 * k) c)).run Tryd.prog wr = .ok (.string (strOfNums (gxL k))) wr := by
  obtain ⟨A, c, hv, hR⟩ := OwnR.rws h.own
  have hl : (((gxL k).take (128 * k)).map u8v).length = 128 * k := by rw [List.length_map, List.length_take, gxL_len]; omega
  have ht : (gxL k).take (128 * k) = gxL k := List.take_of_length_le (by rw [gxL_len]; omega)
  rw [hl] at hv hR
  rw [ht] at hR
  obtain ⟨b, off, rfl, hb, hc⟩ := hR.2.2 (by omega)
  refine ⟨b, off, c, hv, run_convert_bytes_arg wr 104 5 Tryd.underlying104 Tryd.underlying5 b off (128 * k) c (gxL k) (gxL_len k) (fun i hi => ?_) 9 Tryd.underlying9⟩
  have := hc i (u8v (gxAt k i)) (by rw [List.getElem?_map, gxL_at k hi]; rfl) 0 _ rfl
  rw [List.getD_eq_getElem?_getD, gxL_at k hi]
  simpa using this

set_option maxRecDepth 100000 in
set_option maxHeartbeats 8000000 in
theorem refGroup_any (k : Nat) (w : World) (hk : k = 1 ∨ k = 2 ∨ k = 3 ∨ k = 4) :
    Calls Tryd.prog 18 #[.int .i64 ((1024 * k : Nat) : Int)] w fun r w' => r = .returned (.agg #[.string (gxP k), .string ⟨#[2]⟩]) ∧ Below w.heap.size w w' := by
  obtain ⟨i0, hi0, hz0, hz1, hz2⟩ := info_parts u8_info
  have hB1 := Lib.hid (below_new w (.cells #[.string ⟨#[]⟩, .string ⟨#[]⟩] 23))
  have hg := heap_new w (.cells #[.string ⟨#[]⟩, .string ⟨#[]⟩] 23)
  have hzz : (w.alloc (.cells #[.string ⟨#[]⟩, .string ⟨#[]⟩] 23)).heap.size = w.heap.size + 1 := by simp
  rcases hk with rfl | rfl | rfl | rfl
  · as_aux_lemma =>
    rw [show ((1024 * 1 : Nat) : Int) = 1024 from rfl]
    go_enter Tryd.func18, Tryd.ntmps18
    go_upto_region 3 with fail
    generalize w.alloc (.cells #[.string ⟨#[]⟩, .string ⟨#[]⟩] 23) = w1 at hg hzz hB1 ⊢
    have hS0 := Lib.hid (show RG w1 w1 (.slice none 0 0) 1 0 from ⟨OwnR.nil_ _ _ _ _, Below.refl _ _⟩)
    have hzz := Lib.hid hzz
    have hg := Lib.hid hg
    go_loopw [3, 4, 5] (fun v i _ wr => ∃ m : Nat, m ≤ 128 ∧ i = .int .i64 m ∧ Hid (RG w1 wr v 1 m)) (fun _ i _ _ => 128 - (intOf i).toNat)
    case atStart => exact ⟨0, by omega, rfl, hS0⟩
    case round =>
      rename_i v0 _
      obtain ⟨m, hm, rfl, hS⟩ := hrel
      have hl0 : (0 : Int) ≤ (m : Int) := by omega
      by_cases hlt : m < 128
      · have hp : m = 0 ∨ m = 127 ∨ (m ≠ 0 ∧ m ≠ 127) := by omega
        rcases hp with rfl | rfl | ⟨h0, h1⟩
        · have hx : (gxAt 1 0 : Int) = 144 := by decide +kernel
          obtain ⟨hO2, hB2⟩ := hS.out.alloc_ (.cells #[.int .u8 (144)] 5)
          have hO2 := Lib.hid hO2
          have hB2 := Lib.hid hB2
          go_wp2_with (at_builtin
                       refine wpList_append_one rfl _ _ 104 rfl 5 i0 (.int .u8 0) 1 1 Tryd.underlying104 hi0 hz0 hz1 hz2 rfl (by decide) w1 hB2.out _ _ rfl hO2.out wr.heap.size 1 (u8v (144)) rfl ?_ rfl ?_ ?_ ?_ ?_
                       · exact rangeAt_list (heap_new wr (.cells #[.int .u8 (144)] 5))
                       · intro u hu; simp [u8v] at hu; subst hu; rfl
                       · have := hS.out.len; unfold maxLen; omega
                       · have := hS.out.len; omega
                       intro v' w2 hO3 hB3 _
                       have hS2 := Lib.hid (RG.next (k := 1) (v' := v') (by omega) hx hO3 hB3)
                       clear hO3 hB3)
          go_roundw
          case rel => exact ⟨0 + 1, by omega, by go_num, hS2⟩
          case measure => simp [intOf]
        · have hx : (gxAt 1 127 : Int) = 153 := by decide +kernel
          obtain ⟨hO2, hB2⟩ := hS.out.alloc_ (.cells #[.int .u8 (153)] 5)
          have hO2 := Lib.hid hO2
          have hB2 := Lib.hid hB2
          go_wp2_with (at_builtin
                       refine wpList_append_one rfl _ _ 104 rfl 5 i0 (.int .u8 0) 1 1 Tryd.underlying104 hi0 hz0 hz1 hz2 rfl (by decide) w1 hB2.out _ _ rfl hO2.out wr.heap.size 1 (u8v (153)) rfl ?_ rfl ?_ ?_ ?_ ?_
                       · exact rangeAt_list (heap_new wr (.cells #[.int .u8 (153)] 5))
                       · intro u hu; simp [u8v] at hu; subst hu; rfl
                       · have := hS.out.len; unfold maxLen; omega
                       · have := hS.out.len; omega
                       intro v' w2 hO3 hB3 _
                       have hS2 := Lib.hid (RG.next (k := 1) (v' := v') (by omega) hx hO3 hB3)
                       clear hO3 hB3)
          go_roundw
          case rel => exact ⟨127 + 1, by omega, by go_num, hS2⟩
          case measure => simp [intOf]
        · have hx : (gxAt 1 m : Int) = (7 * (m : Int) + 16) % 251 := gxAt_mid h0 (by omega)
          obtain ⟨hO2, hB2⟩ := hS.out.alloc_ (.cells #[.int .u8 ((7 * (m : Int) + 16) % 251)] 5)
          have hO2 := Lib.hid hO2
          have hB2 := Lib.hid hB2
          have hx := Lib.hid hx
          have k0 : ((m : Int) == 0) = false := beq_eq_false_iff_ne.2 (by omega)
          have k1 : ((m : Int) == 127) = false := beq_eq_false_iff_ne.2 (by omega)
          go_wp2_with (at_builtin
                       refine wpList_append_one rfl _ _ 104 rfl 5 i0 (.int .u8 0) 1 1 Tryd.underlying104 hi0 hz0 hz1 hz2 rfl (by decide) w1 hB2.out _ _ rfl hO2.out wr.heap.size 1 (u8v ((7 * (m : Int) + 16) % 251)) rfl ?_ rfl ?_ ?_ ?_ ?_
                       · exact rangeAt_list (heap_new wr (.cells #[.int .u8 ((7 * (m : Int) + 16) % 251)] 5))
                       · intro u hu; simp [u8v] at hu; subst hu; rfl
                       · have := hS.out.len; unfold maxLen; omega
                       · have := hS.out.len; omega
                       intro v' w2 hO3 hB3 _
                       have hS2 := Lib.hid (RG.next (k := 1) (v' := v') (by omega) hx.out hO3 hB3)
                       clear hO3 hB3)
          go_roundw
          case rel => exact ⟨m + 1, by omega, by go_num, hS2⟩
          case measure => simp [intOf]; omega
      · obtain rfl : m = 128 := by omega
        obtain ⟨b, off, c, rfl, kc⟩ := hS.out.fin (by decide)
        have hgr := (hS.out.below.block w.heap.size (by rw [hzz.out]; omega)).trans hg.out
        have hob := Lib.hid (hB1.out.trans (Below.mono hS.out.below (by rw [hzz.out]; omega)))
        clear hS
        go_wp2_with (refine wpList_store_at 23 _ _ rfl rfl w.heap.size #[.string (strOfNums (gxL 1)), .string ⟨#[2]⟩] rfl rfl 23 #[.string ⟨#[]⟩, .string ⟨#[]⟩] hgr (by kernel_rfl) rfl (by simp [Value.oneCell']) ?_)
        refine bodyPost_ret (results_cell_row rfl _ _ w.heap.size 23 #[.string (strOfNums (gxL 1)), .string ⟨#[2]⟩] (0, 0) _ rfl (heap_setRow_one _ _ _ _ _ _ hgr) Tryd.underlying23 rfl (by kernel_rfl)) rfl ⟨rfl, below_setRow hob.out (Nat.le_refl _) _⟩
  · as_aux_lemma =>
    rw [show ((1024 * 2 : Nat) : Int) = 2048 from rfl]
    go_enter Tryd.func18, Tryd.ntmps18
    go_upto_region 3 with fail
    generalize w.alloc (.cells #[.string ⟨#[]⟩, .string ⟨#[]⟩] 23) = w1 at hg hzz hB1 ⊢
    have hS0 := Lib.hid (show RG w1 w1 (.slice none 0 0) 2 0 from ⟨OwnR.nil_ _ _ _ _, Below.refl _ _⟩)
    have hzz := Lib.hid hzz
    have hg := Lib.hid hg
    go_loopw [3, 4, 5] (fun v i _ wr => ∃ m : Nat, m ≤ 256 ∧ i = .int .i64 m ∧ Hid (RG w1 wr v 2 m)) (fun _ i _ _ => 256 - (intOf i).toNat)
    case atStart => exact ⟨0, by omega, rfl, hS0⟩
    case round =>
      rename_i v0 _
      obtain ⟨m, hm, rfl, hS⟩ := hrel
      have hl0 : (0 : Int) ≤ (m : Int) := by omega
      by_cases hlt : m < 256
      · have hp : m = 0 ∨ m = 255 ∨ (m ≠ 0 ∧ m ≠ 255) := by omega
        rcases hp with rfl | rfl | ⟨h0, h1⟩
        · have hx : (gxAt 2 0 : Int) = 160 := by decide +kernel
          obtain ⟨hO2, hB2⟩ := hS.out.alloc_ (.cells #[.int .u8 (160)] 5)
          have hO2 := Lib.hid hO2
          have hB2 := Lib.hid hB2
          go_wp2_with (at_builtin
                       refine wpList_append_one rfl _ _ 104 rfl 5 i0 (.int .u8 0) 1 1 Tryd.underlying104 hi0 hz0 hz1 hz2 rfl (by decide) w1 hB2.out _ _ rfl hO2.out wr.heap.size 1 (u8v (160)) rfl ?_ rfl ?_ ?_ ?_ ?_
                       · exact rangeAt_list (heap_new wr (.cells #[.int .u8 (160)] 5))
                       · intro u hu; simp [u8v] at hu; subst hu; rfl
                       · have := hS.out.len; unfold maxLen; omega
                       · have := hS.out.len; omega
                       intro v' w2 hO3 hB3 _
                       have hS2 := Lib.hid (RG.next (k := 2) (v' := v') (by omega) hx hO3 hB3)
                       clear hO3 hB3)
          go_roundw
          case rel => exact ⟨0 + 1, by omega, by go_num, hS2⟩
          case measure => simp [intOf]
        · have hx : (gxAt 2 255 : Int) = 61 := by decide +kernel
          obtain ⟨hO2, hB2⟩ := hS.out.alloc_ (.cells #[.int .u8 (61)] 5)
          have hO2 := Lib.hid hO2
          have hB2 := Lib.hid hB2
          go_wp2_with (at_builtin
                       refine wpList_append_one rfl _ _ 104 rfl 5 i0 (.int .u8 0) 1 1 Tryd.underlying104 hi0 hz0 hz1 hz2 rfl (by decide) w1 hB2.out _ _ rfl hO2.out wr.heap.size 1 (u8v (61)) rfl ?_ rfl ?_ ?_ ?_ ?_
                       · exact rangeAt_list (heap_new wr (.cells #[.int .u8 (61)] 5))
                       · intro u hu; simp [u8v] at hu; subst hu; rfl
                       · have := hS.out.len; unfold maxLen; omega
                       · have := hS.out.len; omega
                       intro v' w2 hO3 hB3 _
                       have hS2 := Lib.hid (RG.next (k := 2) (v' := v') (by omega) hx hO3 hB3)
                       clear hO3 hB3)
          go_roundw
          case rel => exact ⟨255 + 1, by omega, by go_num, hS2⟩
          case measure => simp [intOf]
        · have hx : (gxAt 2 m : Int) = (7 * (m : Int) + 32) % 251 := gxAt_mid h0 (by omega)
          obtain ⟨hO2, hB2⟩ := hS.out.alloc_ (.cells #[.int .u8 ((7 * (m : Int) + 32) % 251)] 5)
          have hO2 := Lib.hid hO2
          have hB2 := Lib.hid hB2
          have hx := Lib.hid hx
          have k0 : ((m : Int) == 0) = false := beq_eq_false_iff_ne.2 (by omega)
          have k1 : ((m : Int) == 255) = false := beq_eq_false_iff_ne.2 (by omega)
          go_wp2_with (at_builtin
                       refine wpList_append_one rfl _ _ 104 rfl 5 i0 (.int .u8 0) 1 1 Tryd.underlying104 hi0 hz0 hz1 hz2 rfl (by decide) w1 hB2.out _ _ rfl hO2.out wr.heap.size 1 (u8v ((7 * (m : Int) + 32) % 251)) rfl ?_ rfl ?_ ?_ ?_ ?_
                       · exact rangeAt_list (heap_new wr (.cells #[.int .u8 ((7 * (m : Int) + 32) % 251)] 5))
                       · intro u hu; simp [u8v] at hu; subst hu; rfl
                       · have := hS.out.len; unfold maxLen; omega
                       · have := hS.out.len; omega
                       intro v' w2 hO3 hB3 _
                       have hS2 := Lib.hid (RG.next (k := 2) (v' := v') (by omega) hx.out hO3 hB3)
                       clear hO3 hB3)
          go_roundw
          case rel => exact ⟨m + 1, by omega, by go_num, hS2⟩
          case measure => simp [intOf]; omega
      · obtain rfl : m = 256 := by omega
        obtain ⟨b, off, c, rfl, kc⟩ := hS.out.fin (by decide)
        have hgr := (hS.out.below.block w.heap.size (by rw [hzz.out]; omega)).trans hg.out
        have hob := Lib.hid (hB1.out.trans (Below.mono hS.out.below (by rw [hzz.out]; omega)))
        clear hS
        go_wp2_with (refine wpList_store_at 23 _ _ rfl rfl w.heap.size #[.string (strOfNums (gxL 2)), .string ⟨#[2]⟩] rfl rfl 23 #[.string ⟨#[]⟩, .string ⟨#[]⟩] hgr (by kernel_rfl) rfl (by simp [Value.oneCell']) ?_)
        refine bodyPost_ret (results_cell_row rfl _ _ w.heap.size 23 #[.string (strOfNums (gxL 2)), .string ⟨#[2]⟩] (0, 0) _ rfl (heap_setRow_one _ _ _ _ _ _ hgr) Tryd.underlying23 rfl (by kernel_rfl)) rfl ⟨rfl, below_setRow hob.out (Nat.le_refl _) _⟩
  · as_aux_lemma =>
    rw [show ((1024 * 3 : Nat) : Int) = 3072 from rfl]
    go_enter Tryd.func18, Tryd.ntmps18
    go_upto_region 3 with fail
    generalize w.alloc (.cells #[.string ⟨#[]⟩, .string ⟨#[]⟩] 23) = w1 at hg hzz hB1 ⊢
    have hS0 := Lib.hid (show RG w1 w1 (.slice none 0 0) 3 0 from ⟨OwnR.nil_ _ _ _ _, Below.refl _ _⟩)
    have hzz := Lib.hid hzz
    have hg := Lib.hid hg
    go_loopw [3, 4, 5] (fun v i _ wr => ∃ m : Nat, m ≤ 384 ∧ i = .int .i64 m ∧ Hid (RG w1 wr v 3 m)) (fun _ i _ _ => 384 - (intOf i).toNat)
    case atStart => exact ⟨0, by omega, rfl, hS0⟩
    case round =>
      rename_i v0 _
      obtain ⟨m, hm, rfl, hS⟩ := hrel
      have hl0 : (0 : Int) ≤ (m : Int) := by omega
      by_cases hlt : m < 384
      · have hp : m = 0 ∨ m = 383 ∨ (m ≠ 0 ∧ m ≠ 383) := by omega
        rcases hp with rfl | rfl | ⟨h0, h1⟩
        · have hx : (gxAt 3 0 : Int) = 176 := by decide +kernel
          obtain ⟨hO2, hB2⟩ := hS.out.alloc_ (.cells #[.int .u8 (176)] 5)
          have hO2 := Lib.hid hO2
          have hB2 := Lib.hid hB2
          go_wp2_with (at_builtin
                       refine wpList_append_one rfl _ _ 104 rfl 5 i0 (.int .u8 0) 1 1 Tryd.underlying104 hi0 hz0 hz1 hz2 rfl (by decide) w1 hB2.out _ _ rfl hO2.out wr.heap.size 1 (u8v (176)) rfl ?_ rfl ?_ ?_ ?_ ?_
                       · exact rangeAt_list (heap_new wr (.cells #[.int .u8 (176)] 5))
                       · intro u hu; simp [u8v] at hu; subst hu; rfl
                       · have := hS.out.len; unfold maxLen; omega
                       · have := hS.out.len; omega
                       intro v' w2 hO3 hB3 _
                       have hS2 := Lib.hid (RG.next (k := 3) (v' := v') (by omega) hx hO3 hB3)
                       clear hO3 hB3)
          go_roundw
          case rel => exact ⟨0 + 1, by omega, by go_num, hS2⟩
          case measure => simp [intOf]
        · have hx : (gxAt 3 383 : Int) = 219 := by decide +kernel
          obtain ⟨hO2, hB2⟩ := hS.out.alloc_ (.cells #[.int .u8 (219)] 5)
          have hO2 := Lib.hid hO2
          have hB2 := Lib.hid hB2
          go_wp2_with (at_builtin
                       refine wpList_append_one rfl _ _ 104 rfl 5 i0 (.int .u8 0) 1 1 Tryd.underlying104 hi0 hz0 hz1 hz2 rfl (by decide) w1 hB2.out _ _ rfl hO2.out wr.heap.size 1 (u8v (219)) rfl ?_ rfl ?_ ?_ ?_ ?_
                       · exact rangeAt_list (heap_new wr (.cells #[.int .u8 (219)] 5))
                       · intro u hu; simp [u8v] at hu; subst hu; rfl
                       · have := hS.out.len; unfold maxLen; omega
                       · have := hS.out.len; omega
                       intro v' w2 hO3 hB3 _
                       have hS2 := Lib.hid (RG.next (k := 3) (v' := v') (by omega) hx hO3 hB3)
                       clear hO3 hB3)
          go_roundw
          case rel => exact ⟨383 + 1, by omega, by go_num, hS2⟩
          case measure => simp [intOf]
        · have hx : (gxAt 3 m : Int) = (7 * (m : Int) + 48) % 251 := gxAt_mid h0 (by omega)
          obtain ⟨hO2, hB2⟩ := hS.out.alloc_ (.cells #[.int .u8 ((7 * (m : Int) + 48) % 251)] 5)
          have hO2 := Lib.hid hO2
          have hB2 := Lib.hid hB2
          have hx := Lib.hid hx
          have k0 : ((m : Int) == 0) = false := beq_eq_false_iff_ne.2 (by omega)
          have k1 : ((m : Int) == 383) = false := beq_eq_false_iff_ne.2 (by omega)
          go_wp2_with (at_builtin
                       refine wpList_append_one rfl _ _ 104 rfl 5 i0 (.int .u8 0) 1 1 Tryd.underlying104 hi0 hz0 hz1 hz2 rfl (by decide) w1 hB2.out _ _ rfl hO2.out wr.heap.size 1 (u8v ((7 * (m : Int) + 48) % 251)) rfl ?_ rfl ?_ ?_ ?_ ?_
                       · exact rangeAt_list (heap_new wr (.cells #[.int .u8 ((7 * (m : Int) + 48) % 251)] 5))
                       · intro u hu; simp [u8v] at hu; subst hu; rfl
                       · have := hS.out.len; unfold maxLen; omega
                       · have := hS.out.len; omega
                       intro v' w2 hO3 hB3 _
                       have hS2 := Lib.hid (RG.next (k := 3) (v' := v') (by omega) hx.out hO3 hB3)
                       clear hO3 hB3)
          go_roundw
          case rel => exact ⟨m + 1, by omega, by go_num, hS2⟩
          case measure => simp [intOf]; omega
      · obtain rfl : m = 384 := by omega
        obtain ⟨b, off, c, rfl, kc⟩ := hS.out.fin (by decide)
        have hgr := (hS.out.below.block w.heap.size (by rw [hzz.out]; omega)).trans hg.out
        have hob := Lib.hid (hB1.out.trans (Below.mono hS.out.below (by rw [hzz.out]; omega)))
        clear hS
        go_wp2_with (refine wpList_store_at 23 _ _ rfl rfl w.heap.size #[.string (strOfNums (gxL 3)), .string ⟨#[2]⟩] rfl rfl 23 #[.string ⟨#[]⟩, .string ⟨#[]⟩] hgr (by kernel_rfl) rfl (by simp [Value.oneCell']) ?_)
        refine bodyPost_ret (results_cell_row rfl _ _ w.heap.size 23 #[.string (strOfNums (gxL 3)), .string ⟨#[2]⟩] (0, 0) _ rfl (heap_setRow_one _ _ _ _ _ _ hgr) Tryd.underlying23 rfl (by kernel_rfl)) rfl ⟨rfl, below_setRow hob.out (Nat.le_refl _) _⟩
  · as_aux_lemma =>
    rw [show ((1024 * 4 : Nat) : Int) = 4096 from rfl]
    go_enter Tryd.func18, Tryd.ntmps18
    go_upto_region 3 with fail
    generalize w.alloc (.cells #[.string ⟨#[]⟩, .string ⟨#[]⟩] 23) = w1 at hg hzz hB1 ⊢
    have hS0 := Lib.hid (show RG w1 w1 (.slice none 0 0) 4 0 from ⟨OwnR.nil_ _ _ _ _, Below.refl _ _⟩)
    have hzz := Lib.hid hzz
    have hg := Lib.hid hg
    go_loopw [3, 4, 5] (fun v i _ wr => ∃ m : Nat, m ≤ 512 ∧ i = .int .i64 m ∧ Hid (RG w1 wr v 4 m)) (fun _ i _ _ => 512 - (intOf i).toNat)
    case atStart => exact ⟨0, by omega, rfl, hS0⟩
    case round =>
      rename_i v0 _
      obtain ⟨m, hm, rfl, hS⟩ := hrel
      have hl0 : (0 : Int) ≤ (m : Int) := by omega
      by_cases hlt : m < 512
      · have hp : m = 0 ∨ m = 511 ∨ (m ≠ 0 ∧ m ≠ 511) := by omega
        rcases hp with rfl | rfl | ⟨h0, h1⟩
        · have hx : (gxAt 4 0 : Int) = 192 := by decide +kernel
          obtain ⟨hO2, hB2⟩ := hS.out.alloc_ (.cells #[.int .u8 (192)] 5)
          have hO2 := Lib.hid hO2
          have hB2 := Lib.hid hB2
          go_wp2_with (at_builtin
                       refine wpList_append_one rfl _ _ 104 rfl 5 i0 (.int .u8 0) 1 1 Tryd.underlying104 hi0 hz0 hz1 hz2 rfl (by decide) w1 hB2.out _ _ rfl hO2.out wr.heap.size 1 (u8v (192)) rfl ?_ rfl ?_ ?_ ?_ ?_
                       · exact rangeAt_list (heap_new wr (.cells #[.int .u8 (192)] 5))
                       · intro u hu; simp [u8v] at hu; subst hu; rfl
                       · have := hS.out.len; unfold maxLen; omega
                       · have := hS.out.len; omega
                       intro v' w2 hO3 hB3 _
                       have hS2 := Lib.hid (RG.next (k := 4) (v' := v') (by omega) hx hO3 hB3)
                       clear hO3 hB3)
          go_roundw
          case rel => exact ⟨0 + 1, by omega, by go_num, hS2⟩
          case measure => simp [intOf]
        · have hx : (gxAt 4 511 : Int) = 127 := by decide +kernel
          obtain ⟨hO2, hB2⟩ := hS.out.alloc_ (.cells #[.int .u8 (127)] 5)
          have hO2 := Lib.hid hO2
          have hB2 := Lib.hid hB2
          go_wp2_with (at_builtin
                       refine wpList_append_one rfl _ _ 104 rfl 5 i0 (.int .u8 0) 1 1 Tryd.underlying104 hi0 hz0 hz1 hz2 rfl (by decide) w1 hB2.out _ _ rfl hO2.out wr.heap.size 1 (u8v (127)) rfl ?_ rfl ?_ ?_ ?_ ?_
                       · exact rangeAt_list (heap_new wr (.cells #[.int .u8 (127)] 5))
                       · intro u hu; simp [u8v] at hu; subst hu; rfl
                       · have := hS.out.len; unfold maxLen; omega
                       · have := hS.out.len; omega
                       intro v' w2 hO3 hB3 _
                       have hS2 := Lib.hid (RG.next (k := 4) (v' := v') (by omega) hx hO3 hB3)
                       clear hO3 hB3)
          go_roundw
          case rel => exact ⟨511 + 1, by omega, by go_num, hS2⟩
          case measure => simp [intOf]
        · have hx : (gxAt 4 m : Int) = (7 * (m : Int) + 64) % 251 := gxAt_mid h0 (by omega)
          obtain ⟨hO2, hB2⟩ := hS.out.alloc_ (.cells #[.int .u8 ((7 * (m : Int) + 64) % 251)] 5)
          have hO2 := Lib.hid hO2
          have hB2 := Lib.hid hB2
          have hx := Lib.hid hx
          have k0 : ((m : Int) == 0) = false := beq_eq_false_iff_ne.2 (by omega)
          have k1 : ((m : Int) == 511) = false := beq_eq_false_iff_ne.2 (by omega)
          go_wp2_with (at_builtin
                       refine wpList_append_one rfl _ _ 104 rfl 5 i0 (.int .u8 0) 1 1 Tryd.underlying104 hi0 hz0 hz1 hz2 rfl (by decide) w1 hB2.out _ _ rfl hO2.out wr.heap.size 1 (u8v ((7 * (m : Int) + 64) % 251)) rfl ?_ rfl ?_ ?_ ?_ ?_
                       · exact rangeAt_list (heap_new wr (.cells #[.int .u8 ((7 * (m : Int) + 64) % 251)] 5))
                       · intro u hu; simp [u8v] at hu; subst hu; rfl
                       · have := hS.out.len; unfold maxLen; omega
                       · have := hS.out.len; omega
                       intro v' w2 hO3 hB3 _
                       have hS2 := Lib.hid (RG.next (k := 4) (v' := v') (by omega) hx.out hO3 hB3)
                       clear hO3 hB3)
          go_roundw
          case rel => exact ⟨m + 1, by omega, by go_num, hS2⟩
          case measure => simp [intOf]; omega
      · obtain rfl : m = 512 := by omega
        obtain ⟨b, off, c, rfl, kc⟩ := hS.out.fin (by decide)
        have hgr := (hS.out.below.block w.heap.size (by rw [hzz.out]; omega)).trans hg.out
        have hob := Lib.hid (hB1.out.trans (Below.mono hS.out.below (by rw [hzz.out]; omega)))
        clear hS
        go_wp2_with (refine wpList_store_at 23 _ _ rfl rfl w.heap.size #[.string (strOfNums (gxL 4)), .string ⟨#[2]⟩] rfl rfl 23 #[.string ⟨#[]⟩, .string ⟨#[]⟩] hgr (by kernel_rfl) rfl (by simp [Value.oneCell']) ?_)
        refine bodyPost_ret (results_cell_row rfl _ _ w.heap.size 23 #[.string (strOfNums (gxL 4)), .string ⟨#[2]⟩] (0, 0) _ rfl (heap_setRow_one _ _ _ _ _ _ hgr) Tryd.underlying23 rfl (by kernel_rfl)) rfl ⟨rfl, below_setRow hob.out (Nat.le_refl _) _⟩
end Go.Proofs.YtlonejkmdibkaaaDoor
