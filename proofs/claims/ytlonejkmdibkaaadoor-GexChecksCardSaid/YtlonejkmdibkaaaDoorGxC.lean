/- Gex: the program's group. -/
import Derived.Test.YtlonejkmdibkaaaDoorGxB
import Derived.StillTailTactics
import Derived.Laws.OwnMore
import Derived.Laws.CopyOwn
namespace Go.Proofs.YtlonejkmdibkaaaDoor
open Go.RowKit

/-- What the bytes are behind m rounds. -/
def gxM (k m : Nat) : List Int := (List.range (128 * k)).map (fun i => if i < m then (((7 * i + 16 * k) % 251 : Nat) : Int) else 0)
theorem gxM_len (k m : Nat) : (gxM k m).length = 128 * k := by unfold gxM; rw [List.length_map, List.length_range]
theorem gxM_zero (k : Nat) : gxM k 0 = List.replicate (128 * k) 0 := by
  unfold gxM
  refine List.ext_getElem? fun i => ?_
  by_cases h : i < 128 * k
  · rw [List.getElem?_map, List.getElem?_range h, List.getElem?_replicate, if_pos h]; rfl
  · rw [List.getElem?_eq_none (by simpa using h), List.getElem?_eq_none (by simpa using h)]
theorem gxM_succ (k : Nat) {m : Nat} (hm : m < 128 * k) : (gxM k m).set m (((7 * m + 16 * k) % 251 : Nat) : Int) = gxM k (m + 1) := by
  refine List.ext_getElem? fun i => ?_
  by_cases h : i < 128 * k
  · rw [List.getElem?_set]
    unfold gxM
    simp only [List.getElem?_map, List.getElem?_range h, List.length_map, List.length_range]
    by_cases e : m = i
    · subst e; simp [h]
    · simp only [e, if_false, Option.map_some]
      by_cases h2 : i < m
      · simp [h2, show i < m + 1 by omega]
      · simp [h2, show ¬ i < m + 1 by omega]
  · rw [List.getElem?_eq_none (by rw [List.length_set, gxM_len]; omega), List.getElem?_eq_none (by rw [gxM_len]; omega)]
theorem heap_setRow_one (w : World) (g : Nat) (old cs : Array Value) (t : TypeId) (fr : Nat × Nat) (h : w.heap[g]? = some (.cells old t fr)) : (w.setRow g cs).heap[g]? = some (.cells cs t fr) := by
  simp only [World.setRow, Array.getElem?_modify, if_true, h, Option.map_some]
/-- Block g is these bytes. -/
def BB (w : World) (g : Nat) (L : List Int) : Prop := w.heap[g]? = some (.cells (L.map (Value.int .u8)).toArray 5 (0, 0))
theorem BB.cell {w : World} {g : Nat} {L : List Int} (h : BB w g L) {i : Nat} {x : Int} (hx : L[i]? = some x) : w.cell? ⟨g, i, none⟩ = some (.int .u8 x) ∧ w.frozen? ⟨g, i, none⟩ = false := by
  refine ⟨?_, frozen_of_row w g i _ _ h⟩
  rw [cell_of_row w g i _ _ _ h, List.getElem?_toArray, List.getElem?_map, hx]
  rfl
theorem BB.put {w : World} {g : Nat} {L : List Int} (h : BB w g L) (i : Nat) (x : Int) : BB (w.setCell ⟨g, i, none⟩ (.int .u8 x)) g (L.set i x) := by
  unfold BB
  rw [heap_setCell_same w g i _ _ _ h]
  congr 2
  simp
/-- What the rounds keep. -/
structure GS (w W : World) (L : List Int) : Prop where
  r : W.heap[w.heap.size]? = some (.cells #[.string ⟨#[]⟩, .string ⟨#[]⟩] 23 (0, 0))
  b : BB W (w.heap.size + 1) L
  o : Below w.heap.size w W
theorem GS.put {w W : World} {L : List Int} (h : GS w W L) (i : Nat) (x : Int) : GS w (W.setCell ⟨w.heap.size + 1, i, none⟩ (.int .u8 x)) (L.set i x) :=
  ⟨(Below.heap_setCell W _ _ _ (by show w.heap.size ≠ w.heap.size + 1; omega)).trans h.r, h.b.put i x, h.o.setCell (by show w.heap.size ≤ w.heap.size + 1; omega) _⟩
theorem GS.drew {w W : World} {L : List Int} (h : GS w W L) : GS w W.drew L :=
  ⟨h.r, h.b, h.o.trans (Below.mono (drewN_below 1) h.o.size)⟩
theorem u8_info : (Tryd.prog.info? 5).map (fun i => (i.zero, i.size, i.bytes)) = some (some (.int .u8 0), 1, 1) := by kernel_rfl
set_option maxRecDepth 100000 in
theorem made_bytes (k : Nat) : madeCells (Value.int .u8 0).cells (128 * k * 1) = ((gxM k 0).map (Value.int .u8)).toArray := by
  have e : (Value.int .u8 0).cells = #[.int .u8 0] := rfl
  apply Array.ext'
  rw [e, toList_madeCells_one, gxM_zero, List.map_replicate, Nat.mul_one]
set_option maxRecDepth 100000 in
theorem mk_bytes (k : Nat) (hk : k = 1 ∨ k = 2 ∨ k = 3 ∨ k = 4) (W : World) : (Instr.makeSlice 104 (.int .i64 ((128 * k : Nat) : Int)) (.int .i64 ((128 * k : Nat) : Int))).run Tryd.prog W =
    .ok (.slice (some ⟨W.heap.size, 0, none⟩) (128 * k) (128 * k)) (W.alloc (.cells ((gxM k 0).map (Value.int .u8)).toArray 5)) := by
  obtain ⟨i0, hi0, hz0, hz1, hz2⟩ := info_parts u8_info
  have hk4 : k ≤ 4 := by omega
  rw [run_makeSlice W 104 5 i0 _ Tryd.underlying104 hi0 hz0 .i64 .i64 _ _ (by omega) (by omega) (by rw [hz1]; omega) (by rw [hz2]; omega) (by omega), hz1, Int.toNat_natCast, made_bytes k]
theorem GS.new (w : World) (L : List Int) : GS w ((w.alloc (.cells #[.string ⟨#[]⟩, .string ⟨#[]⟩] 23)).alloc (.cells (L.map (Value.int .u8)).toArray 5)) L := by
  refine ⟨?_, ?_, (below_new _ _).trans (Below.mono (below_new _ _) (by simp))⟩
  · rw [(below_new (w.alloc (.cells #[.string ⟨#[]⟩, .string ⟨#[]⟩] 23)) _).block w.heap.size (by simp)]
    exact heap_new _ _
  · have := heap_new (w.alloc (.cells #[.string ⟨#[]⟩, .string ⟨#[]⟩] 23)) (.cells (L.map (Value.int .u8)).toArray 5)
    rw [show (w.alloc (.cells #[.string ⟨#[]⟩, .string ⟨#[]⟩] 23)).heap.size = w.heap.size + 1 by simp] at this
    exact this
set_option maxRecDepth 100000 in
set_option maxHeartbeats 8000000 in
theorem group_any (k : Nat) (w : World) (hk : k = 1 ∨ k = 2 ∨ k = 3 ∨ k = 4) :
    Calls Tryd.prog 67 #[.int .i64 ((1024 * k : Nat) : Int)] w fun r w' => r = .returned (.agg #[.string (gxP k), .string ⟨#[2]⟩]) ∧ Below w.heap.size w w' := by
  rcases hk with rfl | rfl | rfl | rfl
  · as_aux_lemma =>
    have hmk : ∀ W, (Instr.makeSlice 104 (.int .i64 128) (.int .i64 128)).run Tryd.prog W = .ok (.slice (some ⟨W.heap.size, 0, none⟩) 128 128) (W.alloc (.cells ((gxM 1 0).map (Value.int .u8)).toArray 5)) := fun W => mk_bytes 1 (by decide) W
    have hS0 : GS w ((w.alloc (.cells #[.string ⟨#[]⟩, .string ⟨#[]⟩] 23)).alloc (.cells ((gxM 1 0).map (Value.int .u8)).toArray 5)) (gxM 1 0) := GS.new w _
    go_enter Tryd.func67, Tryd.ntmps67
    go_upto_region 2 with fail
    generalize (w.alloc (.cells #[.string ⟨#[]⟩, .string ⟨#[]⟩] 23)).alloc (.cells ((gxM 1 0).map (Value.int .u8)).toArray 5) = w1 at hS0 ⊢
    have hS0 := Lib.hid hS0
    clear hmk
    go_wp2_with fail
    go_loopw [4, 10] (fun _ i wr => ∃ m : Nat, m ≤ 128 ∧ i = .int .i64 m ∧ Hid (GS w wr (gxM 1 m))) (fun _ i _ => 128 - (intOf i).toNat)
    case atStart => exact ⟨0, by omega, rfl, hS0⟩
    case round =>
      obtain ⟨m, hm, rfl, hS⟩ := hrel
      by_cases hlt : m < 128
      · obtain ⟨x, hx⟩ : ∃ x, (gxM 1 m)[m]? = some x := ⟨_, List.getElem?_eq_getElem (by rw [gxM_len]; omega)⟩
        obtain ⟨c1, c2⟩ := hS.out.b.cell hx
        have hN := hS.out.put m (((7 * m + 16 * 1) % 251 : Nat) : Int)
        rw [gxM_succ 1 (by omega), show (((7 * m + 16 * 1) % 251 : Nat) : Int) = (7 * (m : Int) + 16) % 251 by omega] at hN
        have hN := Lib.hid hN
        have hl0 : (0 : Int) ≤ (m : Int) := by omega
        have hl1 : (m : Int) < 128 := by omega
        clear hx
        go_wp2_with fail
        go_roundw
        case rel => exact ⟨m + 1, by omega, by go_num, hN⟩
        case measure => simp [intOf]; omega
      · have hm : m = 128 := by omega
        subst hm
        obtain ⟨c1, c2⟩ := hS.out.b.cell (i := 0) (x := 16) (by decide +kernel)
        have hA := hS.out.put 0 144
        obtain ⟨d1, d2⟩ := hA.b.cell (i := 127) (x := 152) (by decide +kernel)
        have hB := hA.put 127 153
        rw [show ((gxM 1 128).set 0 144).set 127 153 = gxL 1 by decide +kernel] at hB
        have kc := run_convert_bytes_arg ((wr.setCell ⟨w.heap.size + 1, 0, none⟩ (.int .u8 144)).setCell ⟨w.heap.size + 1, 127, none⟩ (.int .u8 153)) 104 5 Tryd.underlying104 Tryd.underlying5 (w.heap.size + 1) 0 128 128 (gxL 1) (gxL_len 1) (fun i hi => by
          have hi2 : i < (gxL 1).length := by simpa [gxL_len] using hi
          have := (hB.b.cell (i := i) (x := (gxL 1).getD i 0) (by rw [List.getD_eq_getElem?_getD, List.getElem?_eq_getElem hi2]; rfl)).1
          rw [Nat.zero_add]
          exact this) 9 Tryd.underlying9
        have hB := Lib.hid hB
        have hg := hB.out.r
        have hor : bits .or .u8 152 1 = 153 := by decide +kernel
        clear hA
        go_upto_region 9 with fail
        generalize wr.setCell ⟨w.heap.size + 1, 0, none⟩ (.int .u8 144) = wA at d1 d2 kc hB hg ⊢
        go_upto_region 10 with fail
        generalize wA.setCell ⟨w.heap.size + 1, 127, none⟩ (.int .u8 153) = wB at kc hB hg ⊢
        clear c1 c2 d1 d2
        have hob := Lib.hid (hB.out.o)
        go_wp2_with (refine wpList_store_at 23 _ _ rfl rfl w.heap.size #[.string (strOfNums (gxL 1)), .string ⟨#[2]⟩] rfl rfl 23 #[.string ⟨#[]⟩, .string ⟨#[]⟩] hg (by kernel_rfl) rfl (by simp [Value.oneCell']) ?_)
        refine bodyPost_ret (results_cell_row rfl _ _ w.heap.size 23 #[.string (strOfNums (gxL 1)), .string ⟨#[2]⟩] (0, 0) _ rfl (heap_setRow_one wB _ _ _ _ _ hg) Tryd.underlying23 rfl (by kernel_rfl)) rfl ⟨rfl, below_setRow hob.out (Nat.le_refl _) _⟩
  · as_aux_lemma =>
    have hmk : ∀ W, (Instr.makeSlice 104 (.int .i64 256) (.int .i64 256)).run Tryd.prog W = .ok (.slice (some ⟨W.heap.size, 0, none⟩) 256 256) (W.alloc (.cells ((gxM 2 0).map (Value.int .u8)).toArray 5)) := fun W => mk_bytes 2 (by decide) W
    have hS0 : GS w ((w.alloc (.cells #[.string ⟨#[]⟩, .string ⟨#[]⟩] 23)).alloc (.cells ((gxM 2 0).map (Value.int .u8)).toArray 5)) (gxM 2 0) := GS.new w _
    go_enter Tryd.func67, Tryd.ntmps67
    go_upto_region 2 with fail
    generalize (w.alloc (.cells #[.string ⟨#[]⟩, .string ⟨#[]⟩] 23)).alloc (.cells ((gxM 2 0).map (Value.int .u8)).toArray 5) = w1 at hS0 ⊢
    have hS0 := Lib.hid hS0
    clear hmk
    go_wp2_with fail
    go_loopw [4, 10] (fun _ i wr => ∃ m : Nat, m ≤ 256 ∧ i = .int .i64 m ∧ Hid (GS w wr (gxM 2 m))) (fun _ i _ => 256 - (intOf i).toNat)
    case atStart => exact ⟨0, by omega, rfl, hS0⟩
    case round =>
      obtain ⟨m, hm, rfl, hS⟩ := hrel
      by_cases hlt : m < 256
      · obtain ⟨x, hx⟩ : ∃ x, (gxM 2 m)[m]? = some x := ⟨_, List.getElem?_eq_getElem (by rw [gxM_len]; omega)⟩
        obtain ⟨c1, c2⟩ := hS.out.b.cell hx
        have hN := hS.out.put m (((7 * m + 16 * 2) % 251 : Nat) : Int)
        rw [gxM_succ 2 (by omega), show (((7 * m + 16 * 2) % 251 : Nat) : Int) = (7 * (m : Int) + 32) % 251 by omega] at hN
        have hN := Lib.hid hN
        have hl0 : (0 : Int) ≤ (m : Int) := by omega
        have hl1 : (m : Int) < 256 := by omega
        clear hx
        go_wp2_with fail
        go_roundw
        case rel => exact ⟨m + 1, by omega, by go_num, hN⟩
        case measure => simp [intOf]; omega
      · have hm : m = 256 := by omega
        subst hm
        obtain ⟨c1, c2⟩ := hS.out.b.cell (i := 0) (x := 32) (by decide +kernel)
        have hA := hS.out.put 0 160
        obtain ⟨d1, d2⟩ := hA.b.cell (i := 255) (x := 60) (by decide +kernel)
        have hB := hA.put 255 61
        rw [show ((gxM 2 256).set 0 160).set 255 61 = gxL 2 by decide +kernel] at hB
        have kc := run_convert_bytes_arg ((wr.setCell ⟨w.heap.size + 1, 0, none⟩ (.int .u8 160)).setCell ⟨w.heap.size + 1, 255, none⟩ (.int .u8 61)) 104 5 Tryd.underlying104 Tryd.underlying5 (w.heap.size + 1) 0 256 256 (gxL 2) (gxL_len 2) (fun i hi => by
          have hi2 : i < (gxL 2).length := by simpa [gxL_len] using hi
          have := (hB.b.cell (i := i) (x := (gxL 2).getD i 0) (by rw [List.getD_eq_getElem?_getD, List.getElem?_eq_getElem hi2]; rfl)).1
          rw [Nat.zero_add]
          exact this) 9 Tryd.underlying9
        have hB := Lib.hid hB
        have hg := hB.out.r
        have hor : bits .or .u8 60 1 = 61 := by decide +kernel
        clear hA
        go_upto_region 9 with fail
        generalize wr.setCell ⟨w.heap.size + 1, 0, none⟩ (.int .u8 160) = wA at d1 d2 kc hB hg ⊢
        go_upto_region 10 with fail
        generalize wA.setCell ⟨w.heap.size + 1, 255, none⟩ (.int .u8 61) = wB at kc hB hg ⊢
        clear c1 c2 d1 d2
        have hob := Lib.hid (hB.out.o)
        go_wp2_with (refine wpList_store_at 23 _ _ rfl rfl w.heap.size #[.string (strOfNums (gxL 2)), .string ⟨#[2]⟩] rfl rfl 23 #[.string ⟨#[]⟩, .string ⟨#[]⟩] hg (by kernel_rfl) rfl (by simp [Value.oneCell']) ?_)
        refine bodyPost_ret (results_cell_row rfl _ _ w.heap.size 23 #[.string (strOfNums (gxL 2)), .string ⟨#[2]⟩] (0, 0) _ rfl (heap_setRow_one wB _ _ _ _ _ hg) Tryd.underlying23 rfl (by kernel_rfl)) rfl ⟨rfl, below_setRow hob.out (Nat.le_refl _) _⟩
  · as_aux_lemma =>
    have hmk : ∀ W, (Instr.makeSlice 104 (.int .i64 384) (.int .i64 384)).run Tryd.prog W = .ok (.slice (some ⟨W.heap.size, 0, none⟩) 384 384) (W.alloc (.cells ((gxM 3 0).map (Value.int .u8)).toArray 5)) := fun W => mk_bytes 3 (by decide) W
    have hS0 : GS w ((w.alloc (.cells #[.string ⟨#[]⟩, .string ⟨#[]⟩] 23)).alloc (.cells ((gxM 3 0).map (Value.int .u8)).toArray 5)) (gxM 3 0) := GS.new w _
    go_enter Tryd.func67, Tryd.ntmps67
    go_upto_region 2 with fail
    generalize (w.alloc (.cells #[.string ⟨#[]⟩, .string ⟨#[]⟩] 23)).alloc (.cells ((gxM 3 0).map (Value.int .u8)).toArray 5) = w1 at hS0 ⊢
    have hS0 := Lib.hid hS0
    clear hmk
    go_wp2_with fail
    go_loopw [4, 10] (fun _ i wr => ∃ m : Nat, m ≤ 384 ∧ i = .int .i64 m ∧ Hid (GS w wr (gxM 3 m))) (fun _ i _ => 384 - (intOf i).toNat)
    case atStart => exact ⟨0, by omega, rfl, hS0⟩
    case round =>
      obtain ⟨m, hm, rfl, hS⟩ := hrel
      by_cases hlt : m < 384
      · obtain ⟨x, hx⟩ : ∃ x, (gxM 3 m)[m]? = some x := ⟨_, List.getElem?_eq_getElem (by rw [gxM_len]; omega)⟩
        obtain ⟨c1, c2⟩ := hS.out.b.cell hx
        have hN := hS.out.put m (((7 * m + 16 * 3) % 251 : Nat) : Int)
        rw [gxM_succ 3 (by omega), show (((7 * m + 16 * 3) % 251 : Nat) : Int) = (7 * (m : Int) + 48) % 251 by omega] at hN
        have hN := Lib.hid hN
        have hl0 : (0 : Int) ≤ (m : Int) := by omega
        have hl1 : (m : Int) < 384 := by omega
        clear hx
        go_wp2_with fail
        go_roundw
        case rel => exact ⟨m + 1, by omega, by go_num, hN⟩
        case measure => simp [intOf]; omega
      · have hm : m = 384 := by omega
        subst hm
        obtain ⟨c1, c2⟩ := hS.out.b.cell (i := 0) (x := 48) (by decide +kernel)
        have hA := hS.out.put 0 176
        obtain ⟨d1, d2⟩ := hA.b.cell (i := 383) (x := 219) (by decide +kernel)
        have hB := hA.put 383 219
        rw [show ((gxM 3 384).set 0 176).set 383 219 = gxL 3 by decide +kernel] at hB
        have kc := run_convert_bytes_arg ((wr.setCell ⟨w.heap.size + 1, 0, none⟩ (.int .u8 176)).setCell ⟨w.heap.size + 1, 383, none⟩ (.int .u8 219)) 104 5 Tryd.underlying104 Tryd.underlying5 (w.heap.size + 1) 0 384 384 (gxL 3) (gxL_len 3) (fun i hi => by
          have hi2 : i < (gxL 3).length := by simpa [gxL_len] using hi
          have := (hB.b.cell (i := i) (x := (gxL 3).getD i 0) (by rw [List.getD_eq_getElem?_getD, List.getElem?_eq_getElem hi2]; rfl)).1
          rw [Nat.zero_add]
          exact this) 9 Tryd.underlying9
        have hB := Lib.hid hB
        have hg := hB.out.r
        have hor : bits .or .u8 219 1 = 219 := by decide +kernel
        clear hA
        go_upto_region 9 with fail
        generalize wr.setCell ⟨w.heap.size + 1, 0, none⟩ (.int .u8 176) = wA at d1 d2 kc hB hg ⊢
        go_upto_region 10 with fail
        generalize wA.setCell ⟨w.heap.size + 1, 383, none⟩ (.int .u8 219) = wB at kc hB hg ⊢
        clear c1 c2 d1 d2
        have hob := Lib.hid (hB.out.o)
        go_wp2_with (refine wpList_store_at 23 _ _ rfl rfl w.heap.size #[.string (strOfNums (gxL 3)), .string ⟨#[2]⟩] rfl rfl 23 #[.string ⟨#[]⟩, .string ⟨#[]⟩] hg (by kernel_rfl) rfl (by simp [Value.oneCell']) ?_)
        refine bodyPost_ret (results_cell_row rfl _ _ w.heap.size 23 #[.string (strOfNums (gxL 3)), .string ⟨#[2]⟩] (0, 0) _ rfl (heap_setRow_one wB _ _ _ _ _ hg) Tryd.underlying23 rfl (by kernel_rfl)) rfl ⟨rfl, below_setRow hob.out (Nat.le_refl _) _⟩
  · as_aux_lemma =>
    have hmk : ∀ W, (Instr.makeSlice 104 (.int .i64 512) (.int .i64 512)).run Tryd.prog W = .ok (.slice (some ⟨W.heap.size, 0, none⟩) 512 512) (W.alloc (.cells ((gxM 4 0).map (Value.int .u8)).toArray 5)) := fun W => mk_bytes 4 (by decide) W
    have hS0 : GS w ((w.alloc (.cells #[.string ⟨#[]⟩, .string ⟨#[]⟩] 23)).alloc (.cells ((gxM 4 0).map (Value.int .u8)).toArray 5)) (gxM 4 0) := GS.new w _
    go_enter Tryd.func67, Tryd.ntmps67
    go_upto_region 2 with fail
    generalize (w.alloc (.cells #[.string ⟨#[]⟩, .string ⟨#[]⟩] 23)).alloc (.cells ((gxM 4 0).map (Value.int .u8)).toArray 5) = w1 at hS0 ⊢
    have hS0 := Lib.hid hS0
    clear hmk
    go_wp2_with fail
    go_loopw [4, 10] (fun _ i wr => ∃ m : Nat, m ≤ 512 ∧ i = .int .i64 m ∧ Hid (GS w wr (gxM 4 m))) (fun _ i _ => 512 - (intOf i).toNat)
    case atStart => exact ⟨0, by omega, rfl, hS0⟩
    case round =>
      obtain ⟨m, hm, rfl, hS⟩ := hrel
      by_cases hlt : m < 512
      · obtain ⟨x, hx⟩ : ∃ x, (gxM 4 m)[m]? = some x := ⟨_, List.getElem?_eq_getElem (by rw [gxM_len]; omega)⟩
        obtain ⟨c1, c2⟩ := hS.out.b.cell hx
        have hN := hS.out.put m (((7 * m + 16 * 4) % 251 : Nat) : Int)
        rw [gxM_succ 4 (by omega), show (((7 * m + 16 * 4) % 251 : Nat) : Int) = (7 * (m : Int) + 64) % 251 by omega] at hN
        have hN := Lib.hid hN
        have hl0 : (0 : Int) ≤ (m : Int) := by omega
        have hl1 : (m : Int) < 512 := by omega
        clear hx
        go_wp2_with fail
        go_roundw
        case rel => exact ⟨m + 1, by omega, by go_num, hN⟩
        case measure => simp [intOf]; omega
      · have hm : m = 512 := by omega
        subst hm
        obtain ⟨c1, c2⟩ := hS.out.b.cell (i := 0) (x := 64) (by decide +kernel)
        have hA := hS.out.put 0 192
        obtain ⟨d1, d2⟩ := hA.b.cell (i := 511) (x := 127) (by decide +kernel)
        have hB := hA.put 511 127
        rw [show ((gxM 4 512).set 0 192).set 511 127 = gxL 4 by decide +kernel] at hB
        have kc := run_convert_bytes_arg ((wr.setCell ⟨w.heap.size + 1, 0, none⟩ (.int .u8 192)).setCell ⟨w.heap.size + 1, 511, none⟩ (.int .u8 127)) 104 5 Tryd.underlying104 Tryd.underlying5 (w.heap.size + 1) 0 512 512 (gxL 4) (gxL_len 4) (fun i hi => by
          have hi2 : i < (gxL 4).length := by simpa [gxL_len] using hi
          have := (hB.b.cell (i := i) (x := (gxL 4).getD i 0) (by rw [List.getD_eq_getElem?_getD, List.getElem?_eq_getElem hi2]; rfl)).1
          rw [Nat.zero_add]
          exact this) 9 Tryd.underlying9
        have hB := Lib.hid hB
        have hg := hB.out.r
        have hor : bits .or .u8 127 1 = 127 := by decide +kernel
        clear hA
        go_upto_region 9 with fail
        generalize wr.setCell ⟨w.heap.size + 1, 0, none⟩ (.int .u8 192) = wA at d1 d2 kc hB hg ⊢
        go_upto_region 10 with fail
        generalize wA.setCell ⟨w.heap.size + 1, 511, none⟩ (.int .u8 127) = wB at kc hB hg ⊢
        clear c1 c2 d1 d2
        have hob := Lib.hid (hB.out.o)
        go_wp2_with (refine wpList_store_at 23 _ _ rfl rfl w.heap.size #[.string (strOfNums (gxL 4)), .string ⟨#[2]⟩] rfl rfl 23 #[.string ⟨#[]⟩, .string ⟨#[]⟩] hg (by kernel_rfl) rfl (by simp [Value.oneCell']) ?_)
        refine bodyPost_ret (results_cell_row rfl _ _ w.heap.size 23 #[.string (strOfNums (gxL 4)), .string ⟨#[2]⟩] (0, 0) _ rfl (heap_setRow_one wB _ _ _ _ _ hg) Tryd.underlying23 rfl (by kernel_rfl)) rfl ⟨rfl, below_setRow hob.out (Nat.le_refl _) _⟩
end Go.Proofs.YtlonejkmdibkaaaDoor
