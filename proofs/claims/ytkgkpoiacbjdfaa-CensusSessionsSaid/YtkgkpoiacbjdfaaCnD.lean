/- The census: the law's example. -/
import Derived.Test.YtkgkpoiacbjdfaaCnO
namespace Go.Proofs.Ytkgkpoiacbjdfaa
open Go.RowKit

theorem cast_sum (f : Nat → Nat) : ∀ (I : List Nat), (I.map fun i => (f i : Int)).sum = ((I.map f).sum : Nat)
  | [] => rfl
  | i :: I => by simp only [List.map_cons, List.sum_cons, cast_sum f I]; omega
theorem Good.of_cens (es : List Ev) (h : es.length ≤ 1000000) : Good (cens es es.length) where
  len := cens_len _ _
  pos := fun x hx => by
    unfold cens at hx
    obtain ⟨i, _, rfl⟩ := List.mem_map.1 hx
    have := cnt_le es es.length i
    omega
  reasons := by
    rw [cens_getD es _ (by decide), ← cnt_reasons es, ← cast_sum]
    rfl
  methods := by
    rw [cens_getD es _ (by decide), ← cnt_methods es, ← cast_sum]
    rfl
  later := by
    rw [cens_getD es _ (by decide), cens_getD es _ (by decide), cens_getD es _ (by decide)]
    have := cnt_later es
    omega
  safe := by
    rw [cens_getD es _ (by decide), cens_getD es _ (by decide), cens_getD es _ (by decide)]
    have := cnt_safe es
    omega

def evA : Ev := { Ev.zero with kind := 6, num := 2 }
theorem builtA : Try.prog.built 37 [(0, .int .i64 6), (2, .int .i64 2)] = some evA.cells.toArray := by kernel_rfl
theorem fillA : Instr.fill (fun j => some (j * 34, 34)) ((Array.range (1 * 34)).map ((Value.agg Ev.zero.cells.toArray).cells[· % (Value.agg Ev.zero.cells.toArray).cells.size]!)) [(0, .agg evA.cells.toArray)] = some ([evA].flatMap Ev.cells).toArray := by kernel_rfl
def cenA : List Int := [0, 0, 0, 0, 0, 0, 1, 0, 0, 0, 1, 0, 0, 0, 0, 0, 0, 0, 0, 0, 0, 0, 0, 0, 0, 0, 0, 0, 0, 0]
theorem cenA_eq : cens [evA] 1 = cenA := by decide +kernel
theorem cenA_good : Good cenA := by
  have := Good.of_cens [evA] (by decide)
  rwa [show [evA].length = 1 from rfl, cenA_eq] at this

set_option maxRecDepth 100000 in
set_option maxHeartbeats 1000000 in
theorem awake37_any (w : World) :
    Calls Try.prog 15 #[] w fun r w' => r = .returned (.bool true) ∧ Below w.heap.size w w' := by
  obtain ⟨i0, hi0, hz0, hz1, hz2⟩ := info_parts ev_info
  have hE := Lib.hid (Evs.block (es := [evA]) (heap_new w (.cells ([evA].flatMap Ev.cells).toArray 37)) (by simp))
  have hB := Lib.hid ((Below.refl w.heap.size w).alloc (Nat.le_refl _) (.cells ([evA].flatMap Ev.cells).toArray 37))
  go_enter Try.func15, Try.ntmps15
  go_wp2_with (first
      | (refine wpList_build_as 37 _ rfl rfl evA.cells.toArray ?_ ?_; exact builtA)
      | (refine wpList_buildSlice_as 22 37 1 _ rfl rfl i0 (.agg Ev.zero.cells.toArray) ([evA].flatMap Ev.cells).toArray Try.underlying22 hi0 hz0 (by rw [hz1]; decide) (by rw [hz1]; decide) (by rw [hz1]; exact fillA) ?_))
  refine (cenOf_any [evA] (some ⟨w.heap.size, 0, none⟩) 1 1 _ (by decide) hE.out).mono ?_
  rintro r w1 ⟨rfl, hb1⟩
  rw [cenA_eq]
  have hW1 := Lib.hid (hB.out.trans (hb1.mono hB.out.size))
  have hg1 := heap_new w1 (.cells cenZ 64)
  have hCB : CB (w1.alloc (.cells (ci cenA) 64)) w1.heap.size cenA := ⟨heap_new w1 _, rfl⟩
  have hl3 := rangeAt_list (cs := cenA.map (Value.int .i64)) hCB.1
  obtain ⟨c6, _⟩ := hCB.cell (i := 6) (by decide)
  obtain ⟨c10, _⟩ := hCB.cell (i := 10) (by decide)
  obtain ⟨c0, _⟩ := hCB.cell (i := 0) (by decide)
  rw [show cenA.getD 6 0 = 1 from rfl] at c6
  rw [show cenA.getD 10 0 = 1 from rfl] at c10
  rw [show cenA.getD 0 0 = 0 from rfl] at c0
  have hW2 := Lib.hid (hW1.out.alloc hW1.out.size (.cells (ci cenA) 64))
  have cC := Lib.hid (fun W => check_good cenA W cenA_good)
  clear hb1 hCB
  go_wp2_with (first
      | (refine wpList_alloc_row 64 rfl rfl cenZ cen_zero ?_)
      | (refine wpList_store_at 64 _ _ rfl rfl w1.heap.size (ci cenA) rfl rfl 64 cenZ hg1 (by kernel_rfl) rfl (ci_one _) ?_
         rw [setRow_new])
      | (refine wpList_load_at 64 _ rfl rfl w1.heap.size 0 rfl (cenA.map (Value.int .i64)) _ hl3 Try.underlying64 rfl (by kernel_rfl) ?_))
  refine (cC.out _).mono ?_
  rintro r w2 ⟨rfl, hb2⟩
  go_wp2_with fail
  go_ret
  exact ⟨rfl, hW2.out.trans (hb2.mono hW2.out.size)⟩
end Go.Proofs.Ytkgkpoiacbjdfaa
