import Derived.Test.YtkgkpoiacbjdfaaTrB
namespace Go.Proofs.Ytkgkpoiacbjdfaa
open Go.RowKit

def safe (es : List Ev) (at_ : Int) : Bool := if at_ < 0 then false else match es[at_.toNat]? with | none => false | some e => (e.kind == 2 || e.kind == 4) && kept es e.who at_

set_option maxHeartbeats 400000 in
theorem safe_any (es : List Ev) (A : Option Addr) (n c : Nat) (at_ : Int) (w : World) (hn : n ≤ 9223372036854775807) (H : Evs w A n es) :
    Calls Try.prog 28 #[.slice A n c, .int .i64 at_] w fun r w' => r = .returned (.bool (safe es at_)) ∧ Below w.heap.size w w' := by
  have HH := Lib.hid H
  have hlen := Lib.hid H.len
  by_cases h0 : at_ < 0
  · have hs := Lib.hid (show safe es at_ = false by simp [safe, h0])
    go_enter Try.func28, Try.ntmps28
    go_wp2_with fail
    go_ret
    exact ⟨ret_bool hs.out.symm, Below.refl _ _⟩
  obtain ⟨k, rfl⟩ := Int.eq_ofNat_of_zero_le (show 0 ≤ at_ by omega)
  by_cases hlt : k < n
  · obtain ⟨b, off, e, rfl, hb, he, hr⟩ := H.row hlt
    have hs := Lib.hid (show safe es k = ((e.kind == 2 || e.kind == 4) && kept es e.who k) by simp [safe, h0, he])
    have he := Lib.hid he
    have hg1 := heap_new w (.cells Ev.zero.cells.toArray 37)
    have e0 := e.at0
    have e3 := e.at3
    clear h0
    go_enter Try.func28, Try.ntmps28
    go_wp2_with (first
      | (refine wpList_load_at 37 _ rfl rfl b (off + k * 34) rfl e.cells _ hr Try.underlying37 rfl (by kernel_rfl) ?_)
      | (refine wpList_alloc_row 37 rfl rfl Ev.zero.cells.toArray ev_zero ?_; try simp only [World.size_alloc])
      | (refine wpList_store_at 37 _ _ rfl rfl w.heap.size e.cells.toArray rfl rfl 37 Ev.zero.cells.toArray hg1 (by kernel_rfl) rfl e.one ?_
         rw [setRow_new])
      | (go_at_call 42
         refine (kept_any es _ n c e.who k _ hn (HH.out.keep ((Below.refl _ _).alloc (Nat.le_refl _) _))).mono ?_
         rintro r w1 ⟨rfl, hb1⟩
         have hb2 : Below w.heap.size w w1 := ((Below.refl _ _).alloc (Nat.le_refl _) _).trans (hb1.mono (by simp))))
    all_goals
      go_ret
      refine ⟨ret_bool ?_, ?_⟩
      · rw [hs.out]; simp [*]
      · first | exact hb2 | exact (Below.refl _ _).alloc (Nat.le_refl _) _
  · have hs := Lib.hid (show safe es k = false by simp [safe, show es[k]? = none from List.getElem?_eq_none (by rw [hlen.out]; omega)])
    clear h0
    go_enter Try.func28, Try.ntmps28
    go_wp2_with fail
    go_ret
    exact ⟨ret_bool hs.out.symm, Below.refl _ _⟩

def evC : Ev := { Ev.zero with kind := 2, who := 3 }
def evT : Ev := { Ev.zero with kind := 7, who := 3 }
theorem builtC : Try.prog.built 37 [(0, .int .i64 2), (3, .int .i64 3)] = some evC.cells.toArray := by kernel_rfl
theorem builtT : Try.prog.built 37 [(0, .int .i64 7), (3, .int .i64 3)] = some evT.cells.toArray := by kernel_rfl

theorem fill2 : Instr.fill (fun j => some (j * 34, 34)) ((Array.range (2 * 34)).map ((Value.agg Ev.zero.cells.toArray).cells[· % (Value.agg Ev.zero.cells.toArray).cells.size]!)) [(0, .agg evC.cells.toArray), (1, .agg evT.cells.toArray)] = some ([evC, evT].flatMap Ev.cells).toArray := by kernel_rfl
theorem fill2' : Instr.fill (fun j => some (j * 34, 34)) ((Array.range (2 * 34)).map ((Value.agg Ev.zero.cells.toArray).cells[· % (Value.agg Ev.zero.cells.toArray).cells.size]!)) [(0, .agg evT.cells.toArray), (1, .agg evC.cells.toArray)] = some ([evT, evC].flatMap Ev.cells).toArray := by kernel_rfl
theorem safeCT : safe [evC, evT] 0 = true := by decide +kernel
theorem safeTC : safe [evT, evC] 1 = false := by decide +kernel
theorem takenCT : idx (isTaken 3) [evC, evT] = 1 := by decide +kernel

set_option maxRecDepth 100000 in
set_option maxHeartbeats 400000 in
theorem awake_any (w : World) :
    Calls Try.prog 6 #[] w fun r w' => r = .returned (.bool true) ∧ Below w.heap.size w w' := by
  obtain ⟨i0, hi0, hz0, hz1, hz2⟩ := info_parts ev_info
  have hg1 := heap_past (heap_new w (.cells Ev.zero.cells.toArray 37)) (.cells Ev.zero.cells.toArray 37)
  have hg2 := heap_new (w.alloc (.cells evC.cells.toArray 37)) (.cells Ev.zero.cells.toArray 37)
  simp only [World.size_alloc] at hg2
  have hC := rangeAt_list (heap_past (heap_new w (.cells evC.cells.toArray 37)) (.cells evT.cells.toArray 37))
  have hT := rangeAt_list (heap_new (w.alloc (.cells evC.cells.toArray 37)) (.cells evT.cells.toArray 37))
  simp only [World.size_alloc] at hT
  go_enter Try.func6, Try.ntmps6
  go_wp2_with (first
      | (refine wpList_build_as 37 _ rfl rfl evC.cells.toArray ?_ ?_; exact builtC)
      | (refine wpList_build_as 37 _ rfl rfl evT.cells.toArray ?_ ?_; exact builtT)
      | (refine wpList_alloc_row 37 rfl rfl Ev.zero.cells.toArray ev_zero ?_; try simp only [World.size_alloc])
      | (refine wpList_store_at 37 _ _ rfl rfl w.heap.size evC.cells.toArray rfl rfl 37 Ev.zero.cells.toArray hg1 (by kernel_rfl) rfl evC.one ?_
         rw [setRow_past _ _ _ _ (by simp), setRow_new])
      | (refine wpList_store_at 37 _ _ rfl rfl (w.heap.size + 1) evT.cells.toArray rfl rfl 37 Ev.zero.cells.toArray hg2 (by kernel_rfl) rfl evT.one ?_
         rw [setRow_at _ _ _ _ _ (by simp)])
      | (refine wpList_load_at 37 (.tmp 1) rfl rfl w.heap.size 0 rfl evC.cells _ hC Try.underlying37 rfl (by kernel_rfl) ?_)
      | (refine wpList_load_at 37 (.tmp 2) rfl rfl (w.heap.size + 1) 0 rfl evT.cells _ hT Try.underlying37 rfl (by kernel_rfl) ?_)
      | (refine wpList_buildSlice_as 22 37 2 _ rfl rfl i0 (.agg Ev.zero.cells.toArray) ([evC, evT].flatMap Ev.cells).toArray Try.underlying22 hi0 hz0 (by rw [hz1]; decide) (by rw [hz1]; decide) (by rw [hz1]; exact fill2) ?_))
  have bA : Below w.heap.size w ((w.alloc (.cells evC.cells.toArray 37)).alloc (.cells evT.cells.toArray 37)) := ((Below.refl _ _).alloc (Nat.le_refl _) _).alloc (by simp) _
  have hE := Evs.block (es := [evC, evT]) (heap_new ((w.alloc (.cells evC.cells.toArray 37)).alloc (.cells evT.cells.toArray 37)) (.cells ([evC, evT].flatMap Ev.cells).toArray 37)) (by simp)
  have bB : Below ((w.alloc (.cells evC.cells.toArray 37)).alloc (.cells evT.cells.toArray 37)).heap.size ((w.alloc (.cells evC.cells.toArray 37)).alloc (.cells evT.cells.toArray 37)) (((w.alloc (.cells evC.cells.toArray 37)).alloc (.cells evT.cells.toArray 37)).alloc (.cells ([evC, evT].flatMap Ev.cells).toArray 37)) := (Below.refl _ _).alloc (Nat.le_refl _) _
  have hE' := Lib.hid hE
  refine (safe_any [evC, evT] (some ⟨w.heap.size + 1 + 1, 0, none⟩) 2 2 0 _ (by decide) (by simpa using hE'.out)).mono ?_
  rintro r w1 ⟨rfl, hb1⟩
  rw [safeCT]
  have b1 := bB.trans (hb1.mono (by simp))
  have hC1 := rangeAt_keep hC b1 (by simp only [World.size_alloc]; omega)
  have hT1 := rangeAt_keep hT b1 (by simp only [World.size_alloc]; omega)
  have z1 : w.heap.size + 1 + 1 < w1.heap.size := by have := hb1.size; simp at this; omega
  have bW1 := Lib.hid (bA.trans (b1.mono (by simp only [World.size_alloc]; omega)))
  clear b1 bB hE hE' hb1 bA hC hT hg1 hg2
  go_wp2_with (first
      | (refine wpList_load_at 37 (.tmp 1) rfl rfl w.heap.size 0 rfl evC.cells _ hC1 Try.underlying37 rfl (by kernel_rfl) ?_)
      | (refine wpList_load_at 37 (.tmp 2) rfl rfl (w.heap.size + 1) 0 rfl evT.cells _ hT1 Try.underlying37 rfl (by kernel_rfl) ?_)
      | (refine wpList_buildSlice_as 22 37 2 _ rfl rfl i0 (.agg Ev.zero.cells.toArray) ([evT, evC].flatMap Ev.cells).toArray Try.underlying22 hi0 hz0 (by rw [hz1]; decide) (by rw [hz1]; decide) (by rw [hz1]; exact fill2') ?_))
  have hE2 := Lib.hid (Evs.block (es := [evT, evC]) (heap_new w1 (.cells ([evT, evC].flatMap Ev.cells).toArray 37)) (by simp))
  refine (safe_any [evT, evC] (some ⟨w1.heap.size, 0, none⟩) 2 2 1 _ (by decide) hE2.out).mono ?_
  rintro r w2 ⟨rfl, hb2⟩
  rw [safeTC]
  have b2 : Below w1.heap.size w1 w2 := ((Below.refl _ _).alloc (Nat.le_refl _) _).trans (hb2.mono (by simp))
  have hC2 := rangeAt_keep hC1 b2 (by omega)
  have hT2 := rangeAt_keep hT1 b2 (by omega)
  have bW2 := Lib.hid (bW1.out.trans (b2.mono bW1.out.size))
  clear b2 hE2 hb2 hC1 hT1
  go_wp2_with (first
      | (refine wpList_load_at 37 (.tmp 1) rfl rfl w.heap.size 0 rfl evC.cells _ hC2 Try.underlying37 rfl (by kernel_rfl) ?_)
      | (refine wpList_load_at 37 (.tmp 2) rfl rfl (w.heap.size + 1) 0 rfl evT.cells _ hT2 Try.underlying37 rfl (by kernel_rfl) ?_)
      | (refine wpList_buildSlice_as 22 37 2 _ rfl rfl i0 (.agg Ev.zero.cells.toArray) ([evC, evT].flatMap Ev.cells).toArray Try.underlying22 hi0 hz0 (by rw [hz1]; decide) (by rw [hz1]; decide) (by rw [hz1]; exact fill2) ?_))
  have hE3 := Lib.hid (Evs.block (es := [evC, evT]) (heap_new w2 (.cells ([evC, evT].flatMap Ev.cells).toArray 37)) (by simp))
  refine (takenAt_any [evC, evT] (some ⟨w2.heap.size, 0, none⟩) 2 2 3 _ (by decide) hE3.out).mono ?_
  rintro r w3 ⟨rfl, hb3⟩
  rw [takenCT]
  go_wp2
  go_ret
  exact ⟨rfl, bW2.out.trans ((((Below.refl _ _).alloc (Nat.le_refl _) _).trans (hb3.mono (by simp))).mono bW2.out.size)⟩
end Go.Proofs.Ytkgkpoiacbjdfaa
