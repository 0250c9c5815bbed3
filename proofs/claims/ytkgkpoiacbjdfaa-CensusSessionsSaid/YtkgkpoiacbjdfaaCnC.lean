/- The census: total and Check. -/
import Derived.Test.YtkgkpoiacbjdfaaCnB
import Derived.Test.YtkgkpoiacbjdfaaInt
import Derived.Laws.CopyOwn
import Derived.Deep.DeepCutAuto
namespace Go.Proofs.Ytkgkpoiacbjdfaa
open Go.RowKit

/-- The cells of a census. -/
def ci (C : List Int) : Array Value := (C.map (Value.int .i64)).toArray
theorem ci_one (C : List Int) : (ci C).all (·.oneCell') = true := by
  unfold ci
  rw [Array.all_eq_true_iff_forall_mem]
  intro v hv
  simp only [List.mem_toArray, List.mem_map] at hv
  obtain ⟨x, _, rfl⟩ := hv
  rfl
/-- Block g is a census. -/
def CB (w : World) (g : Nat) (C : List Int) : Prop := w.heap[g]? = some (.cells (ci C) 64 (0, 0)) ∧ C.length = 30
theorem CB.lt {w : World} {g : Nat} {C : List Int} (h : CB w g C) : g < w.heap.size := (Array.getElem?_eq_some_iff.1 h.1).1
theorem CB.cell {w : World} {g : Nat} {C : List Int} (h : CB w g C) {i : Nat} (hi : i < 30) : w.cell? ⟨g, i, none⟩ = some (.int .i64 (C.getD i 0)) ∧ w.frozen? ⟨g, i, none⟩ = false := by
  refine ⟨?_, frozen_of_row w g i _ _ h.1⟩
  rw [cell_of_row w g i _ _ _ h.1]
  unfold ci
  rw [List.getElem?_toArray, List.getElem?_map, List.getD_eq_getElem?_getD, List.getElem?_eq_getElem (by rw [h.2]; exact hi)]
  rfl
theorem CB.below {w w' : World} {g : Nat} {C : List Int} (h : CB w g C) (hb : Below w.heap.size w w') : CB w' g C := ⟨(hb.block g h.lt).trans h.1, h.2⟩
theorem CB.alloc {w : World} {g : Nat} {C : List Int} (h : CB w g C) (o : Obj) : CB (w.alloc o) g C := h.below ((Below.refl _ _).alloc (Nat.le_refl _) o)
theorem CB.ints {w : World} {g : Nat} {C : List Int} (h : CB w g C) {o n : Nat} (hn : o + n ≤ 30) : Ints w (some ⟨g, o, none⟩) n ((C.drop o).take n) := by
  refine ⟨?_, ?_, fun _ => ⟨g, o, rfl, h.lt, fun j z hz i v hv => ?_⟩⟩
  · rw [List.length_map, List.length_take, List.length_drop, h.2]; omega
  · intro z hz
    obtain ⟨x, _, rfl⟩ := List.mem_map.1 hz
    rfl
  · rw [List.getElem?_map, List.getElem?_take] at hz
    split at hz
    · rename_i hj
      rw [List.getElem?_drop, List.getElem?_eq_getElem (by rw [h.2]; omega)] at hz
      simp only [Option.map_some, Option.some.injEq] at hz
      subst hz
      match i with
      | 0 =>
        simp only [iv, List.getElem?_cons_zero, Option.some.injEq] at hv
        subst hv
        have := (h.cell (i := o + j) (by omega)).1
        rw [List.getD_eq_getElem?_getD, List.getElem?_eq_getElem (by rw [h.2]; omega)] at this
        rw [show o + j * 1 + 0 = o + j by omega]
        exact this
      | i + 1 => simp [iv] at hv
    · cases hz

set_option maxHeartbeats 1000000 in
theorem total_any (xs : List Int) (A : Option Addr) (n c : Nat) (w : World) (hn : n ≤ 1000) (H : Ints w A n xs) (hx : ∀ x ∈ xs, 0 ≤ x ∧ x ≤ 1000000) :
    Calls Try.prog 50 #[.slice A n c] w fun r w' => r = .returned (.tuple #[.int .i64 xs.sum, .bool true]) ∧ w = w' := by
  have hlen := Lib.hid H.len
  have hX := Lib.hid hx
  clear hx
  go_enter Try.func50, Try.ntmps50
  go_wp2
  go_loop [4, 5, 10] (fun m b i => ∃ k : Nat, ∃ q : Int, k ≤ n ∧ 0 ≤ q ∧ q ≤ 1000000 * k ∧ i = .int .i64 k ∧ m = .int .i64 q ∧ b = .bool true ∧ Hid (q = (xs.take k).sum)) (fun _ _ i => n - (intOf i).toNat)
  case atStart => exact ⟨0, 0, by omega, by omega, by omega, rfl, rfl, rfl, by simp [Hid]⟩
  case round =>
    obtain ⟨k, q, hk, hq0, hq1, rfl, rfl, rfl, hq⟩ := hrel
    by_cases hlt : k < n
    · obtain ⟨b, off, x, rfl, hb, hx, hc⟩ := H.at_ hlt
      obtain ⟨hx0, hx1⟩ := hX.out x (List.mem_of_getElem? hx)
      have hs := Lib.hid (show q + x = (xs.take (k + 1)).sum by rw [take_succ_of hx, List.sum_append, hq.out]; simp)
      clear hx
      go_wp2
      go_round
      case rel => exact ⟨k + 1, q + x, by omega, by omega, by omega, by go_num, rfl, rfl, hs⟩
      case measure => simp [intOf]; omega
    · go_wp2
      go_ret2
      exact ⟨by rw [hq.out, List.take_of_length_le (by rw [hlen.out]; omega)]; rfl, rfl⟩
/-- What Check asks of a census. -/
structure Good (C : List Int) : Prop where
  len : C.length = 30
  pos : ∀ x ∈ C, 0 ≤ x ∧ x ≤ 1000000
  reasons : ((C.drop 8).take 16).sum = C.getD 6 0
  methods : ((C.drop 24).take 4).sum = C.getD 2 0
  later : C.getD 28 0 - C.getD 1 0 ≤ C.getD 2 0
  safe : C.getD 29 0 - C.getD 2 0 ≤ C.getD 4 0
theorem Good.at_ {C : List Int} (h : Good C) {i : Nat} (hi : i < 30) : 0 ≤ C.getD i 0 ∧ C.getD i 0 ≤ 1000000 := by
  rw [List.getD_eq_getElem?_getD, List.getElem?_eq_getElem (by rw [h.len]; exact hi)]
  exact h.pos _ (List.getElem_mem _)
theorem Good.sub {C : List Int} (h : Good C) (o n : Nat) : ∀ x ∈ (C.drop o).take n, 0 ≤ x ∧ x ≤ 1000000 := fun x hx => h.pos x (List.mem_of_mem_drop (List.mem_of_mem_take hx))
set_option maxRecDepth 100000 in
set_option maxHeartbeats 4000000 in
theorem check_good (C : List Int) (w : World) (h : Good C) :
    Calls Try.prog 35 #[.agg (ci C)] w fun r w' => r = .returned .nilIface ∧ Below w.heap.size w w' := by
  have hCB : CB (w.alloc (.cells (ci C) 64)) w.heap.size C := ⟨heap_new w _, h.len⟩
  have t0 := Lib.hid (total_any _ (some ⟨w.heap.size, 0, none⟩) 8 8 _ (by decide) (hCB.ints (o := 0) (n := 8) (by decide)) (h.sub 0 8))
  have t1 := Lib.hid (total_any _ (some ⟨w.heap.size, 8, none⟩) 16 16 _ (by decide) (hCB.ints (o := 8) (n := 16) (by decide)) (h.sub 8 16))
  have t2 := Lib.hid (total_any _ (some ⟨w.heap.size, 8 + 16, none⟩) 4 4 _ (by decide) (hCB.ints (o := 24) (n := 4) (by decide)) (h.sub 24 4))
  obtain ⟨c6, _⟩ := hCB.cell (i := 6) (by decide)
  obtain ⟨c2, _⟩ := hCB.cell (i := 2) (by decide)
  obtain ⟨c1, _⟩ := hCB.cell (i := 1) (by decide)
  obtain ⟨c4, _⟩ := hCB.cell (i := 4) (by decide)
  obtain ⟨c28, _⟩ := hCB.cell (i := 28) (by decide)
  obtain ⟨c29, _⟩ := hCB.cell (i := 29) (by decide)
  have p1 := h.at_ (i := 1) (by decide)
  have p2 := h.at_ (i := 2) (by decide)
  have p4 := h.at_ (i := 4) (by decide)
  have p6 := h.at_ (i := 6) (by decide)
  have p28 := h.at_ (i := 28) (by decide)
  have p29 := h.at_ (i := 29) (by decide)
  have hl := h.later
  have hs := h.safe
  rw [h.reasons] at t1
  rw [h.methods] at t2
  generalize ((C.drop 0).take 8).sum = s0 at t0
  generalize C.getD 1 0 = x1 at *
  generalize C.getD 2 0 = x2 at *
  generalize C.getD 4 0 = x4 at *
  generalize C.getD 6 0 = x6 at *
  generalize C.getD 28 0 = x28 at *
  generalize C.getD 29 0 = x29 at *
  obtain ⟨p10, p11⟩ := p1
  obtain ⟨p20, p21⟩ := p2
  obtain ⟨p40, p41⟩ := p4
  obtain ⟨p60, p61⟩ := p6
  obtain ⟨p280, p281⟩ := p28
  obtain ⟨p290, p291⟩ := p29
  have hB := Lib.hid ((Below.refl w.heap.size w).alloc (Nat.le_refl _) (.cells (ci C) 64))
  have q6 : (x6 != x6) = false := by simp
  have q2 : (x2 != x2) = false := by simp
  clear hCB h
  go_enter Try.func35, Try.ntmps35
  go_wp2_with (refine wpList_box_row 64 _ rfl rfl (ci C) rfl ?_)
  refine t0.out.mono ?_
  rintro r w1 ⟨rfl, rfl⟩
  go_wp2_with fail
  refine t1.out.mono ?_
  rintro r w1 ⟨rfl, rfl⟩
  go_wp2_with fail
  refine t2.out.mono ?_
  rintro r w1 ⟨rfl, rfl⟩
  go_wp2_with fail
  go_ret
  exact ⟨rfl, hB.out⟩
end Go.Proofs.Ytkgkpoiacbjdfaa
