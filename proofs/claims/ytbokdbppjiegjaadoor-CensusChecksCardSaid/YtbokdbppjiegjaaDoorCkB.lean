/- The reference's check of a census. -/
import Derived.Test.YtbokdbppjiegjaaDoorCkA
namespace Go.Proofs.YtbokdbppjiegjaaDoor
open Go.RowKit

theorem sub_get {C : List Int} {o n k : Nat} (h : C.length = 30) (hk : k < n) (ho : o + n ≤ 30) : ((C.drop o).take n)[k]? = some (C.getD (o + k) 0) := by
  rw [List.getElem?_take, if_pos hk, List.getElem?_drop, List.getD_eq_getElem?_getD, List.getElem?_eq_getElem (by rw [h]; omega)]
  rfl
theorem all_hit {xs : List Int} {k : Nat} {x : Int} (h : xs[k]? = some x) (hx : x < 0) : posB xs = false := by
  unfold posB
  rw [List.all_eq_false]
  exact ⟨x, List.mem_of_getElem? h, by simpa using hx⟩
theorem posB_take {xs : List Int} {k : Nat} {x : Int} (h : xs[k]? = some x) (hx : 0 ≤ x) (ha : posB (xs.take k) = true) : posB (xs.take (k + 1)) = true := by
  unfold posB at *
  rw [all_take_succ _ h, ha]
  simpa using hx
theorem sum_take_bd {xs : List Int} (h : ∀ x ∈ xs, -1099511627776 ≤ x ∧ x ≤ 1099511627776) : ∀ k, k ≤ xs.length → -1099511627776 * (k : Int) ≤ (xs.take k).sum ∧ (xs.take k).sum ≤ 1099511627776 * k := by
  intro k
  induction k with
  | zero => intro _; simp
  | succ k ih =>
    intro hk
    have hx := List.getElem?_eq_getElem (show k < xs.length by omega)
    have hb := h _ (List.mem_of_getElem? hx)
    obtain ⟨h1, h2⟩ := ih (by omega)
    rw [take_succ_of hx, List.sum_append]
    simp only [List.sum_cons, List.sum_nil, Int.add_zero]
    omega

set_option maxRecDepth 100000 in
set_option maxHeartbeats 16000000 in
theorem refCheck_any (C : List Int) (w : World) (h : Bdd C) :
    Calls Tryd.prog 7 #[.agg (ci C)] w fun r w' => r = .returned (.string (ckW (ckN C))) ∧ Below w.heap.size w w' := by
  have hCB : CB (w.alloc (.cells (ci C) 26)) w.heap.size C := ⟨heap_new w _, h.len⟩
  have hcell := Lib.hid (fun (i : Nat) (hi : i < 30) => (hCB.cell hi).1)
  have hB := Lib.hid ((Below.refl w.heap.size w).alloc (Nat.le_refl _) (.cells (ci C) 26))
  have hv := Lib.hid (show ckN C = ckB (posB (kiL C)) (posB (reL C)) (posB (meL C)) (reL C).sum (meL C).sum (C.getD 1 0) (C.getD 2 0) (C.getD 4 0) (C.getD 6 0) (C.getD 28 0) (C.getD 29 0) from rfl)
  have hbd := Lib.hid (fun (i : Nat) (hi : i < 30) => h.at_ hi)
  have hK := Lib.hid (fun (k : Nat) (hk : k < 8) => sub_get (C := C) (o := 0) (n := 8) h.len hk (by decide))
  have hRl := Lib.hid (fun (k : Nat) (hk : k < 16) => sub_get (C := C) (o := 8) (n := 16) h.len hk (by decide))
  have hMl := Lib.hid (fun (k : Nat) (hk : k < 4) => sub_get (C := C) (o := 24) (n := 4) h.len hk (by decide))
  have hlR : (reL C).length = 16 := by unfold reL; rw [List.length_take, List.length_drop, h.len]; decide
  have hlM : (meL C).length = 4 := by unfold meL; rw [List.length_take, List.length_drop, h.len]; decide
  have hlK : (kiL C).length = 8 := by unfold kiL; rw [List.length_take, List.length_drop, h.len]; decide
  have hsR := Lib.hid (fun k hk => sum_take_bd (xs := reL C) (h.sub 8 16) k hk)
  have hsM := Lib.hid (fun k hk => sum_take_bd (xs := meL C) (h.sub 24 4) k hk)
  have hlR := Lib.hid hlR
  have hlM := Lib.hid hlM
  have hlK := Lib.hid hlK
  clear hCB
  go_enter Tryd.func7, Tryd.ntmps7
  go_wp2_with (refine wpList_box_row 26 _ rfl rfl (ci C) rfl ?_)
  generalize hW0 : w.alloc (.cells (ci C) 26) = W0 at hB hcell ⊢
  clear hW0
  go_loop [3] (fun i => ∃ k : Nat, k ≤ 8 ∧ i = .int .i64 k ∧ Hid (posB ((kiL C).take k) = true)) (fun i => 8 - (intOf i).toNat)
  case atStart => exact ⟨0, by omega, rfl, rfl⟩
  case round =>
    obtain ⟨k, hk, rfl, hp⟩ := hrel
    by_cases hlt : k < 8
    · have hc := hcell.out k (by omega)
      have hg := hK.out k hlt
      rw [Nat.zero_add] at hg
      generalize C.getD k 0 = x at hc hg
      have hl0 : (0 : Int) ≤ (k : Int) := by omega
      have hl1 : (k : Int) < 8 := by omega
      by_cases hx : x < 0
      · have hall := Lib.hid (all_hit (xs := kiL C) hg hx)
        clear hg
        go_wp2_with fail
        go_ret
        exact ⟨congrArg (fun i => Ending.returned (.string (ckW i))) (show 1 = ckN C by rw [hv.out, hall.out]; rfl), hB.out⟩
      · have hx' : 0 ≤ x := by omega
        have hall := Lib.hid (posB_take (xs := kiL C) hg hx' hp.out)
        clear hg hx
        go_wp2_with fail
        go_round
        case rel => exact ⟨k + 1, by omega, by go_num, hall⟩
        case measure => simp [intOf]; omega
    · have hpK := Lib.hid (show posB (kiL C) = true by have := hp.out; rwa [List.take_of_length_le (by rw [hlK.out]; omega)] at this)
      have c6 := hcell.out 6 (by decide)
      obtain ⟨b60, b61⟩ := hbd.out 6 (by decide)
      have hv2x := hv.out
      rw [hpK.out] at hv2x
      clear hp hv
      generalize C.getD 6 0 = x6 at c6 b60 b61 hv2x
      have hv2 := Lib.hid hv2x
      clear hv2x
      go_wp2_with fail
      go_loop [4, 5] (fun m i => ∃ k : Nat, ∃ q : Int, k ≤ 16 ∧ i = .int .i64 k ∧ m = .int .i64 q ∧ Hid (q = x6 - ((reL C).take k).sum) ∧ -20000000000000 ≤ q ∧ q ≤ 20000000000000 * 2 ∧ Hid (posB ((reL C).take k) = true)) (fun _ i => 16 - (intOf i).toNat)
      case atStart => exact ⟨0, x6, by omega, rfl, rfl, by simp [Hid], by omega, by omega, rfl⟩
      case round =>
        obtain ⟨k2, q, hk2, rfl, rfl, hq, hq0, hq1, hp2⟩ := hrel
        by_cases hlt2 : k2 < 16
        · have hc := hcell.out (8 + k2) (by omega)
          have hg := hRl.out k2 hlt2
          obtain ⟨bx0, bx1⟩ := hbd.out (8 + k2) (by omega)
          generalize C.getD (8 + k2) 0 = x at hc hg bx0 bx1
          have hl0 : (0 : Int) ≤ (k2 : Int) := by omega
          have hl1 : (k2 : Int) < 16 := by omega
          by_cases hx : x < 0
          · have hall := Lib.hid (all_hit (xs := reL C) hg hx)
            clear hg
            go_wp2_with fail
            go_ret
            exact ⟨congrArg (fun i => Ending.returned (.string (ckW i))) (show 2 = ckN C by rw [hv2.out, hall.out]; unfold ckB; simp), hB.out⟩
          · have hx' : 0 ≤ x := by omega
            have hall := Lib.hid (posB_take (xs := reL C) hg hx' hp2.out)
            have hq' := Lib.hid (show q - x = x6 - ((reL C).take (k2 + 1)).sum by rw [take_succ_of (l := reL C) hg, List.sum_append, hq.out]; simp; omega)
            have hsb := hsR.out (k2 + 1) (by rw [hlR.out]; omega)
            have hbq : -20000000000000 ≤ q - x ∧ q - x ≤ 20000000000000 * 2 := by
              rw [hq'.out]
              omega
            obtain ⟨hbq0, hbq1⟩ := hbq
            clear hg hx hsb
            go_wp2_with fail
            go_round
            case rel => exact ⟨k2 + 1, q - x, by omega, by go_num, rfl, hq', hbq0, hbq1, hall⟩
            case measure => simp [intOf]; omega
        · have htk : (reL C).take k2 = reL C := List.take_of_length_le (by rw [hlR.out]; omega)
          rw [htk] at hq hp2
          clear htk
          by_cases hq6 : q = 0
          · subst hq6
            have hsum := Lib.hid (show (reL C).sum = x6 by have := hq.out; omega)
            have hv3x := hv2.out
            rw [hp2.out, hsum.out] at hv3x
            have c2 := hcell.out 2 (by decide)
            obtain ⟨b20, b21⟩ := hbd.out 2 (by decide)
            generalize C.getD 2 0 = x2 at c2 b20 b21 hv3x
            have hv3 := Lib.hid hv3x
            clear hv3x
            clear hv2 hq hp2 hq0 hq1
            go_wp2_with fail
            go_loop [4, 6] (fun m i => ∃ k : Nat, ∃ q : Int, k ≤ 4 ∧ i = .int .i64 k ∧ m = .int .i64 q ∧ Hid (q = x2 - ((meL C).take k).sum) ∧ -20000000000000 ≤ q ∧ q ≤ 20000000000000 * 2 ∧ Hid (posB ((meL C).take k) = true)) (fun _ i => 4 - (intOf i).toNat)
            case atStart => exact ⟨0, x2, by omega, rfl, rfl, by simp [Hid], by omega, by omega, rfl⟩
            case round =>
              obtain ⟨k3, q3, hk3, rfl, rfl, hq3, hq30, hq31, hp3⟩ := hrel
              by_cases hlt3 : k3 < 4
              · have hc := hcell.out (24 + k3) (by omega)
                have hg := hMl.out k3 hlt3
                obtain ⟨bx0, bx1⟩ := hbd.out (24 + k3) (by omega)
                generalize C.getD (24 + k3) 0 = x at hc hg bx0 bx1
                have hl0 : (0 : Int) ≤ (k3 : Int) := by omega
                have hl1 : (k3 : Int) < 4 := by omega
                by_cases hx : x < 0
                · have hall := Lib.hid (all_hit (xs := meL C) hg hx)
                  clear hg
                  go_wp2_with fail
                  go_ret
                  exact ⟨congrArg (fun i => Ending.returned (.string (ckW i))) (show 3 = ckN C by rw [hv3.out, hall.out]; unfold ckB; simp), hB.out⟩
                · have hx' : 0 ≤ x := by omega
                  have hall := Lib.hid (posB_take (xs := meL C) hg hx' hp3.out)
                  have hq' := Lib.hid (show q3 - x = x2 - ((meL C).take (k3 + 1)).sum by rw [take_succ_of (l := meL C) hg, List.sum_append, hq3.out]; simp; omega)
                  have hsb := hsM.out (k3 + 1) (by rw [hlM.out]; omega)
                  have hbq : -20000000000000 ≤ q3 - x ∧ q3 - x ≤ 20000000000000 * 2 := by
                    rw [hq'.out]
                    omega
                  obtain ⟨hbq0, hbq1⟩ := hbq
                  clear hg hx hsb
                  go_wp2_with fail
                  go_round
                  case rel => exact ⟨k3 + 1, q3 - x, by omega, by go_num, rfl, hq', hbq0, hbq1, hall⟩
                  case measure => simp [intOf]; omega
              · have htk : (meL C).take k3 = meL C := List.take_of_length_le (by rw [hlM.out]; omega)
                rw [htk] at hq3 hp3
                clear htk
                by_cases hq7 : q3 = 0
                · subst hq7
                  have hsum := Lib.hid (show (meL C).sum = x2 by have := hq3.out; omega)
                  have hv4 := hv3.out
                  rw [hp3.out, hsum.out] at hv4
                  have c1 := hcell.out 1 (by decide)
                  obtain ⟨b10, b11⟩ := hbd.out 1 (by decide)
                  have c4 := hcell.out 4 (by decide)
                  obtain ⟨b40, b41⟩ := hbd.out 4 (by decide)
                  have c28 := hcell.out 28 (by decide)
                  obtain ⟨b280, b281⟩ := hbd.out 28 (by decide)
                  have c29 := hcell.out 29 (by decide)
                  obtain ⟨b290, b291⟩ := hbd.out 29 (by decide)
                  generalize C.getD 1 0 = x1 at c1 b10 b11 hv4
                  generalize C.getD 4 0 = x4 at c4 b40 b41 hv4
                  generalize C.getD 28 0 = x28 at c28 b280 b281 hv4
                  generalize C.getD 29 0 = x29 at c29 b290 b291 hv4
                  clear hv3 hq3 hp3 hq30 hq31 hsR hsM
                  by_cases h4 : x28 < 0
                  · have hk := Lib.hid (show 4 = ckN C by rw [hv4]; unfold ckB; simp [h4])
                    clear hv4
                    go_wp2_with fail
                    go_ret
                    exact ⟨congrArg (fun i => Ending.returned (.string (ckW i))) hk.out, hB.out⟩
                  have h4' : 0 ≤ x28 := by omega
                  by_cases h5 : x2 < x28 - x1
                  · have hk := Lib.hid (show 4 = ckN C by rw [hv4]; unfold ckB; simp [h5])
                    clear hv4
                    go_wp2_with fail
                    go_ret
                    exact ⟨congrArg (fun i => Ending.returned (.string (ckW i))) hk.out, hB.out⟩
                  have h5' : x28 - x1 ≤ x2 := by omega
                  by_cases h7 : x29 < 0
                  · have hk := Lib.hid (show 5 = ckN C by rw [hv4]; unfold ckB; simp [h4, h5, h7])
                    clear hv4
                    go_wp2_with fail
                    go_ret
                    exact ⟨congrArg (fun i => Ending.returned (.string (ckW i))) hk.out, hB.out⟩
                  have h7' : 0 ≤ x29 := by omega
                  by_cases h8 : x4 < x29 - x2
                  · have hk := Lib.hid (show 5 = ckN C by rw [hv4]; unfold ckB; simp [h4, h5, h8])
                    clear hv4
                    go_wp2_with fail
                    go_ret
                    exact ⟨congrArg (fun i => Ending.returned (.string (ckW i))) hk.out, hB.out⟩
                  have h8' : x29 - x2 ≤ x4 := by omega
                  have hk := Lib.hid (show 0 = ckN C by rw [hv4]; unfold ckB; simp [h4, h5, h7, h8])
                  clear hv4
                  go_wp2_with fail
                  go_ret
                  exact ⟨congrArg (fun i => Ending.returned (.string (ckW i))) hk.out, hB.out⟩
                · have hq7' : (q3 != 0) = true := by unfold bne; rw [beq_eq_false_iff_ne.2 hq7]; rfl
                  have hsum := Lib.hid (show (meL C).sum ≠ x2 by have := hq3.out; omega)
                  have hk := Lib.hid (show 3 = ckN C by rw [hv3.out]; unfold ckB; simp [hsum.out])
                  clear hq7
                  go_wp2_with fail
                  go_ret
                  exact ⟨congrArg (fun i => Ending.returned (.string (ckW i))) hk.out, hB.out⟩
          · have hq6' : (q != 0) = true := by unfold bne; rw [beq_eq_false_iff_ne.2 hq6]; rfl
            have hsum := Lib.hid (show (reL C).sum ≠ x6 by have := hq.out; omega)
            have hk := Lib.hid (show 2 = ckN C by rw [hv2.out]; unfold ckB; simp [hsum.out])
            clear hq6
            go_wp2_with fail
            go_ret
            exact ⟨congrArg (fun i => Ending.returned (.string (ckW i))) hk.out, hB.out⟩
end Go.Proofs.YtbokdbppjiegjaaDoor
