/- The walk of CensusChecks. -/
import Derived.Test.YtbokdbppjiegjaaDoorCkB
import Derived.Test.YtbokdbppjiegjaaDoorCnD
import Derived.WideShapes
namespace Go.Proofs.YtbokdbppjiegjaaDoor
open Go.ChangeShapes Go.WideShapes Go.RowKit

def cnDs : List TypeDesc := List.replicate 30 (.int .i64)
theorem cn_flat : flatDesc Tryd.prog 4 26 = some cnDs := by kernel_rfl
theorem ints_of : ∀ (n : Nat) (L : List Value), allOk (List.replicate n (.int .i64)) L → ∃ C : List Int, L = C.map (Value.int .i64) ∧ C.length = n ∧ ∀ x ∈ C, -9223372036854775808 ≤ x ∧ x ≤ 9223372036854775807 := by
  intro n
  induction n with
  | zero =>
    intro L h
    have : L = [] := List.eq_nil_of_length_eq_zero (by simpa using h.1)
    subst this
    exact ⟨[], rfl, rfl, by simp⟩
  | succ n ih =>
    intro L h
    obtain ⟨hl, hc⟩ := h
    match L, hl with
    | v :: L, hl =>
      obtain ⟨x, rfl, h1, h2⟩ := hc 0 (.int .i64) v (by simp [List.replicate_succ]) rfl
      obtain ⟨C, rfl, hC, hb⟩ := ih L ⟨by simpa using hl, fun i d v hd hv => hc (i + 1) d v (by rw [List.replicate_succ, List.getElem?_cons_succ]; exact hd) (by rw [List.getElem?_cons_succ]; exact hv)⟩
      refine ⟨x :: C, rfl, by simp [hC], fun y hy => ?_⟩
      rcases List.mem_cons.1 hy with rfl | hy
      · have e1 : IntKind.i64.min = -9223372036854775808 := by decide
        have e2 : IntKind.i64.max = 9223372036854775807 := by decide
        rw [e1] at h1
        rw [e2] at h2
        exact ⟨h1, h2⟩
      · exact hb y hy
set_option maxRecDepth 100000 in
theorem open_cen {H : Type} {enc : TypeId × Value → H} {w : World} {base : Nat} {spare : Nat → Bool} {held : Bool} {v : Value} {d : DataW H} {ps : List MemPlace} {r : Reach} {b0 : Nat}
    (hval : Value.okWide Tryd.prog w r b0 26 v) (h : DataW.Trod enc Tryd.prog w base spare held 26 v d ps) :
    ∃ C : List Int, v = .agg (ci C) ∧ C.length = 30 ∧ ∀ x ∈ C, -9223372036854775808 ≤ x ∧ x ≤ 9223372036854775807 := by
  obtain ⟨cs, rfl, hsz⟩ := okWide_struct Tryd.underlying26 hval
  obtain ⟨fuel, hf⟩ := h
  have hok := flat_trod 4 _ cnDs fuel _ _ cn_flat hf
  obtain ⟨C, hC, hl, hb⟩ := ints_of 30 _ hok
  refine ⟨C, ?_, hl, hb⟩
  unfold ci
  rw [← hC]
  simp [Value.cells]

theorem own_two (w : World) (a b : Int) : OwnI (w.alloc (.cells #[.int .i64 a, .int .i64 b] 3)) w.heap.size (.slice (some ⟨w.heap.size, 0, none⟩) 2 2) [a, b] :=
  ⟨⟨rfl, .inr ⟨w.heap.size, 2, #[.int .i64 a, .int .i64 b], rfl, Nat.le_refl _, heap_new w _, Nat.le_refl _, by unfold maxLen; omega, rfl, rfl⟩⟩, by intro z hz; simp only [List.map_cons, List.map_nil, List.mem_cons, List.not_mem_nil, or_false] at hz; rcases hz with rfl | rfl <;> rfl⟩
def inB (x : Int) : Bool := !(decide (1099511627776 < x) || decide (x < -1099511627776))
def allL (C : List Int) : List Int := [C.getD 28 0, C.getD 29 0] ++ kiL C ++ reL C ++ meL C
theorem bdd_of {C : List Int} (hl : C.length = 30) (h : (allL C).all inB = true) : Bdd C := by
  refine ⟨hl, fun x hx => ?_⟩
  obtain ⟨i, hi, rfl⟩ := List.getElem_of_mem hx
  have hm : C[i] ∈ allL C := by
    have e : C.getD i 0 = C[i] := by rw [List.getD_eq_getElem?_getD, List.getElem?_eq_getElem hi]; rfl
    unfold allL
    simp only [List.mem_append]
    by_cases h1 : i < 8
    · refine .inl (.inl (.inr ?_))
      have := List.mem_of_getElem? (sub_get (C := C) (o := 0) (n := 8) hl h1 (by decide))
      rw [Nat.zero_add, e] at this
      exact this
    by_cases h2 : i < 24
    · refine .inl (.inr ?_)
      have := List.mem_of_getElem? (sub_get (C := C) (o := 8) (n := 16) (k := i - 8) hl (by omega) (by decide))
      rw [show 8 + (i - 8) = i by omega, e] at this
      exact this
    by_cases h3 : i < 28
    · refine .inr ?_
      have := List.mem_of_getElem? (sub_get (C := C) (o := 24) (n := 4) (k := i - 24) hl (by omega) (by decide))
      rw [show 24 + (i - 24) = i by omega, e] at this
      exact this
    · refine .inl (.inl (.inl ?_))
      rw [← e]
      have hh : i = 28 ∨ i = 29 := by omega
      rcases hh with rfl | rfl <;> simp
  have := List.all_eq_true.1 h _ hm
  unfold inB at this
  simp only [Bool.not_eq_true', Bool.or_eq_false_iff, decide_eq_false_iff_not] at this
  omega
theorem err_built (n : Int) (s : ByteArray) : Tryd.prog.built 36 [(0, .int .i64 n), (1, .string s)] = some #[.int .i64 n, .string s] := by kernel_rfl
theorem spS_census (s : ByteArray) : spS [censusS, s] = ⟨#[99, 101, 110, 115, 117, 115, 32]⟩ ++ s ++ ⟨#[32]⟩ := by
  have : (⟨#[]⟩ ++ censusS ++ ⟨#[32]⟩ : ByteArray) = ⟨#[99, 101, 110, 115, 117, 115, 32]⟩ := by decide +kernel
  show (⟨#[]⟩ ++ censusS ++ ⟨#[32]⟩) ++ s ++ ⟨#[32]⟩ = _
  rw [this]
theorem ckW_facts {k : Nat} (hk : k ≤ 5) (h0 : k ≠ 0) : (ckW k).toList.isEmpty = false ∧ (ckW k).size ≤ 7 := by
  match k, hk with
  | 0, _ => exact absurd rfl h0
  | 1, _ => decide +kernel
  | 2, _ => decide +kernel
  | 3, _ => decide +kernel
  | 4, _ => decide +kernel
  | 5, _ => decide +kernel
/-- What the loops keep. -/
structure CS (w1 wr : World) (g : Nat) (C : List Int) (v : Value) (xs : List Int) : Prop where
  own : OwnI wr w1.heap.size v xs
  below : Below w1.heap.size w1 wr
  cen : CB wr g C
theorem CS.next {w1 wr w' : World} {g : Nat} {C : List Int} {v v' : Value} {xs : List Int} {x : Int} (h0 : CB w1 g C) (hO : OwnR w' w1.heap.size 1 3 v' (xs.map iv ++ [iv x])) (hB : Below w1.heap.size w1 w') : CS w1 w' g C v' (xs ++ [x]) :=
  ⟨by unfold OwnI; rw [List.map_append]; exact hO, hB, h0.below hB⟩
theorem CS.alloc_ {w1 wr : World} {g : Nat} {C : List Int} {v : Value} {xs : List Int} (h : CS w1 wr g C v xs) (o : Obj) : OwnR (wr.alloc o) w1.heap.size 1 3 v (xs.map iv) ∧ Below w1.heap.size w1 (wr.alloc o) :=
  ⟨OwnR.keep h.own ((Below.refl _ _).alloc (Nat.le_refl _) o), h.below.alloc h.below.size o⟩

set_option maxRecDepth 100000 in
set_option maxHeartbeats 16000000 in
theorem law_censusChecks (C : List Int) (w : World) (hl : C.length = 30) (hr : ∀ x ∈ C, -9223372036854775808 ≤ x ∧ x ≤ 9223372036854775807) (G : ETy w) :
    Calls Tryd.prog 3 #[.agg (ci C)] w fun r w' => r = .returned (.bool true) ∧ Below w.heap.size w w' := by
  obtain ⟨i0, hi0, hz0, hz1, hz2⟩ := info_parts int_info
  have aw := Lib.hid (fun W => awake37_any W)
  have G := Lib.hid G
  have hCB : CB (w.alloc (.cells (ci C) 26)) w.heap.size C := ⟨heap_new w _, hl⟩
  have hB := Lib.hid ((Below.refl w.heap.size w).alloc (Nat.le_refl _) (.cells (ci C) 26))
  have hK := Lib.hid (fun (k : Nat) (hk : k < 8) => sub_get (C := C) (o := 0) (n := 8) hl hk (by decide))
  have hRl := Lib.hid (fun (k : Nat) (hk : k < 16) => sub_get (C := C) (o := 8) (n := 16) hl hk (by decide))
  have hMl := Lib.hid (fun (k : Nat) (hk : k < 4) => sub_get (C := C) (o := 24) (n := 4) hl hk (by decide))
  have hlR := Lib.hid (show (reL C).length = 16 by unfold reL; rw [List.length_take, List.length_drop, hl]; decide)
  have hlM := Lib.hid (show (meL C).length = 4 by unfold meL; rw [List.length_take, List.length_drop, hl]; decide)
  have hlK := Lib.hid (show (kiL C).length = 8 by unfold kiL; rw [List.length_take, List.length_drop, hl]; decide)
  obtain ⟨c28, _⟩ := hCB.cell (i := 28) (by decide)
  obtain ⟨c29, _⟩ := hCB.cell (i := 29) (by decide)
  have hcB := Lib.hid hCB
  have hbd := Lib.hid (@bdd_of C hl)
  have hall : allL C = [C.getD 28 0, C.getD 29 0] ++ kiL C ++ reL C ++ meL C := rfl
  generalize C.getD 28 0 = x28 at c28 hall
  generalize C.getD 29 0 = x29 at c29 hall
  have hall := Lib.hid hall
  clear hCB hl hr
  go_enter Tryd.func3, Tryd.ntmps3
  go_upto_region 2 with (refine wpList_box_row 26 _ rfl rfl (ci C) rfl ?_)
  have hO := own_two (w.alloc (.cells (ci C) 26)) x28 x29
  have hb0 := (Below.refl (w.alloc (.cells (ci C) 26)).heap.size (w.alloc (.cells (ci C) 26))).alloc (Nat.le_refl _) (.cells #[.int .i64 x28, .int .i64 x29] 3)
  have hzz : (w.alloc (.cells (ci C) 26)).heap.size = w.heap.size + 1 := by simp
  generalize hW1 : w.alloc (.cells (ci C) 26) = w1 at hB hcB hO hb0 hzz c28 c29 ⊢
  have hS0 := Lib.hid (show CS w1 (w1.alloc (.cells #[.int .i64 x28, .int .i64 x29] 3)) w.heap.size C (.slice (some ⟨w1.heap.size, 0, none⟩) 2 2) [x28, x29] from ⟨hO, hb0, hcB.out.below hb0⟩)
  rw [hzz] at hS0
  have hzz := Lib.hid hzz
  clear hW1 c28 c29 hO hb0
  generalize hV0 : Value.slice (some ⟨w.heap.size + 1, 0, none⟩) 2 2 = v0 at hS0 ⊢
  clear hV0
  go_wp2_with fail
  go_loopw [3, 4] (fun v i wr => ∃ k : Nat, k ≤ 8 ∧ i = .int .i64 k ∧ Hid (CS w1 wr w.heap.size C v ([x28, x29] ++ (kiL C).take k))) (fun _ i _ => 8 - (intOf i).toNat)
  case atStart => exact ⟨0, by omega, rfl, by simpa [Hid] using hS0.out⟩
  case round =>
    obtain ⟨k, hk, rfl, hS⟩ := hrel
    by_cases hlt : k < 8
    · skip
      have hcs := (hS.out.cen.cell (i := k) (by omega)).1
      have hg := hK.out k hlt
      rw [Nat.zero_add] at hg
      generalize C.getD (k) 0 = x at hcs hg
      have hl0 : (0 : Int) ≤ (k : Int) := by omega
      have hl1 : (k : Int) < 8 := by omega
      have hst := Lib.hid (take_succ_of (l := kiL C) hg)
      obtain ⟨hO1, hB1⟩ := hS.out.alloc_ (.cells #[.int .i64 x] 3)
      have hO1 := Lib.hid hO1
      have hB1 := Lib.hid hB1
      have hlen := Lib.hid (show ([x28, x29] ++ (kiL C).take k).length ≤ 30 by simp only [List.length_append, List.length_take, List.length_cons, List.length_nil]; rw [hlK.out]; omega)
      clear hg
      go_wp2_with (at_builtin
                   refine wpList_append_one rfl _ _ 27 rfl 3 i0 (.int .i64 0) 1 8 Tryd.underlying27 hi0 hz0 hz1 hz2 rfl (by decide) w1 hB1.out _ _ rfl hO1.out wr.heap.size 1 (iv x) rfl ?_ rfl ?_ ?_ ?_ ?_
                   · exact rangeAt_list (heap_new wr (.cells #[.int .i64 x] 3))
                   · intro u hu; simp [iv] at hu; subst hu; rfl
                   · have := hlen.out; rw [List.length_map]; unfold maxLen; omega
                   · have := hlen.out; rw [List.length_map]; omega
                   intro v' w2 hO2 hB2 _
                   have hS2 := Lib.hid (CS.next (wr := wr) (v := v') hcB.out hO2 hB2)
                   clear hO2 hB2)
      go_roundw
      case rel => exact ⟨k + 1, by omega, by go_num, (by unfold Hid; rw [hst.out, ← List.append_assoc]; exact hS2.out)⟩
      case measure => simp [intOf]; omega
    · have htk : (kiL C).take k = kiL C := List.take_of_length_le (by rw [hlK.out]; omega)
      rw [htk] at hS
      clear htk
      obtain ⟨wok, rfl⟩ : ∃ wo : World, wo = wr := ⟨_, rfl⟩
      have hSk := hS
      clear hS
      go_wp2_with fail
      go_loopw [3, 5] (fun v i wr => ∃ k2 : Nat, k2 ≤ 16 ∧ i = .int .i64 k2 ∧ Hid (CS w1 wr w.heap.size C v ([x28, x29] ++ kiL C ++ (reL C).take k2))) (fun _ i _ => 16 - (intOf i).toNat)
      case atStart => exact ⟨0, by omega, rfl, by simpa [Hid] using hSk.out⟩
      case round =>
        obtain ⟨k2, hk, rfl, hS⟩ := hrel
        by_cases hlt : k2 < 16
        · skip
          have hcs := (hS.out.cen.cell (i := 8 + k2) (by omega)).1
          have hg := hRl.out k2 hlt
          generalize C.getD (8 + k2) 0 = x at hcs hg
          have hl0 : (0 : Int) ≤ (k2 : Int) := by omega
          have hl1 : (k2 : Int) < 16 := by omega
          have hst := Lib.hid (take_succ_of (l := reL C) hg)
          obtain ⟨hO1, hB1⟩ := hS.out.alloc_ (.cells #[.int .i64 x] 3)
          have hO1 := Lib.hid hO1
          have hB1 := Lib.hid hB1
          have hlen := Lib.hid (show ([x28, x29] ++ kiL C ++ (reL C).take k2).length ≤ 30 by simp only [List.length_append, List.length_take, List.length_cons, List.length_nil]; rw [hlK.out, hlR.out]; omega)
          clear hg
          go_wp2_with (at_builtin
                       refine wpList_append_one rfl _ _ 27 rfl 3 i0 (.int .i64 0) 1 8 Tryd.underlying27 hi0 hz0 hz1 hz2 rfl (by decide) w1 hB1.out _ _ rfl hO1.out wr.heap.size 1 (iv x) rfl ?_ rfl ?_ ?_ ?_ ?_
                       · exact rangeAt_list (heap_new wr (.cells #[.int .i64 x] 3))
                       · intro u hu; simp [iv] at hu; subst hu; rfl
                       · have := hlen.out; rw [List.length_map]; unfold maxLen; omega
                       · have := hlen.out; rw [List.length_map]; omega
                       intro v' w2 hO2 hB2 _
                       have hS2 := Lib.hid (CS.next (wr := wr) (v := v') hcB.out hO2 hB2)
                       clear hO2 hB2)
          go_roundw
          case rel => exact ⟨k2 + 1, by omega, by go_num, (by unfold Hid; rw [hst.out, ← List.append_assoc]; exact hS2.out)⟩
          case measure => simp [intOf]; omega
        · have htk : (reL C).take k2 = reL C := List.take_of_length_le (by rw [hlR.out]; omega)
          rw [htk] at hS
          clear htk
          obtain ⟨wok2, rfl⟩ : ∃ wo : World, wo = wr := ⟨_, rfl⟩
          have hSk2 := hS
          clear hS
          go_wp2_with fail
          go_loopw [3, 6] (fun v i wr => ∃ k3 : Nat, k3 ≤ 4 ∧ i = .int .i64 k3 ∧ Hid (CS w1 wr w.heap.size C v ([x28, x29] ++ kiL C ++ reL C ++ (meL C).take k3))) (fun _ i _ => 4 - (intOf i).toNat)
          case atStart => exact ⟨0, by omega, rfl, by simpa [Hid] using hSk2.out⟩
          case round =>
            obtain ⟨k3, hk, rfl, hS⟩ := hrel
            by_cases hlt : k3 < 4
            · skip
              have hcs := (hS.out.cen.cell (i := 24 + k3) (by omega)).1
              have hg := hMl.out k3 hlt
              generalize C.getD (24 + k3) 0 = x at hcs hg
              have hl0 : (0 : Int) ≤ (k3 : Int) := by omega
              have hl1 : (k3 : Int) < 4 := by omega
              have hst := Lib.hid (take_succ_of (l := meL C) hg)
              obtain ⟨hO1, hB1⟩ := hS.out.alloc_ (.cells #[.int .i64 x] 3)
              have hO1 := Lib.hid hO1
              have hB1 := Lib.hid hB1
              have hlen := Lib.hid (show ([x28, x29] ++ kiL C ++ reL C ++ (meL C).take k3).length ≤ 30 by simp only [List.length_append, List.length_take, List.length_cons, List.length_nil]; rw [hlK.out, hlR.out, hlM.out]; omega)
              clear hg
              go_wp2_with (at_builtin
                           refine wpList_append_one rfl _ _ 27 rfl 3 i0 (.int .i64 0) 1 8 Tryd.underlying27 hi0 hz0 hz1 hz2 rfl (by decide) w1 hB1.out _ _ rfl hO1.out wr.heap.size 1 (iv x) rfl ?_ rfl ?_ ?_ ?_ ?_
                           · exact rangeAt_list (heap_new wr (.cells #[.int .i64 x] 3))
                           · intro u hu; simp [iv] at hu; subst hu; rfl
                           · have := hlen.out; rw [List.length_map]; unfold maxLen; omega
                           · have := hlen.out; rw [List.length_map]; omega
                           intro v' w2 hO2 hB2 _
                           have hS2 := Lib.hid (CS.next (wr := wr) (v := v') hcB.out hO2 hB2)
                           clear hO2 hB2)
              go_roundw
              case rel => exact ⟨k3 + 1, by omega, by go_num, (by unfold Hid; rw [hst.out, ← List.append_assoc]; exact hS2.out)⟩
              case measure => simp [intOf]; omega
            · have htk : (meL C).take k3 = meL C := List.take_of_length_le (by rw [hlM.out]; omega)
              rw [htk] at hS
              clear htk
              obtain ⟨wok3, rfl⟩ : ∃ wo : World, wo = wr := ⟨_, rfl⟩
              have hSk3 := hS
              clear hS
              rw [← hall.out] at hSk3
              obtain ⟨A3, c3, hv3, hi3⟩ := hSk3.out.own.ints
              have hn3 := Lib.hid (show (allL C).length = 30 by unfold allL; simp only [List.length_append, List.length_cons, List.length_nil]; rw [hlK.out, hlR.out, hlM.out])
              have hcen := hSk3.out.cen
              have hBw := Lib.hid (hB.out.trans (hSk3.out.below.mono hB.out.size))
              have hi3 := Lib.hid hi3
              generalize hN : (allL C).length = n3 at hv3 hi3 hn3
              clear hSk3 hN
              subst hv3
              have h30 : n3 ≤ 30 := by rw [hn3.out]; exact Nat.le_refl _
              have hcen := Lib.hid hcen
              go_wp2_with fail
              go_loop [7] (fun i => ∃ k : Nat, k ≤ n3 ∧ i = .int .i64 k ∧ Hid (((allL C).take k).all inB = true)) (fun i => n3 - (intOf i).toNat)
              case atStart => exact ⟨0, by omega, rfl, rfl⟩
              case round =>
                obtain ⟨k4, hk4, rfl, hp4⟩ := hrel
                by_cases hlt4 : k4 < n3
                · obtain ⟨b, off, x, rfl, hb, hx, hc⟩ := hi3.out.at_ hlt4
                  have hx := Lib.hid hx
                  by_cases h1 : 1099511627776 < x
                  · go_wp2_with (go_at_call 5; refine (aw.out _).mono ?_; rintro r w6 ⟨rfl, hb6⟩)
                    go_ret
                    exact ⟨rfl, hBw.out.trans (hb6.mono hBw.out.size)⟩
                  have h1' : x ≤ 1099511627776 := by omega
                  by_cases h2 : x < -1099511627776
                  · clear h1
                    go_wp2_with (go_at_call 5; refine (aw.out _).mono ?_; rintro r w6 ⟨rfl, hb6⟩)
                    go_ret
                    exact ⟨rfl, hBw.out.trans (hb6.mono hBw.out.size)⟩
                  have h2' : -1099511627776 ≤ x := by omega
                  have hin := Lib.hid (show inB x = true by unfold inB; simp [h1, h2])
                  clear h1 h2
                  go_wp2_with fail
                  go_round
                  case rel => exact ⟨k4 + 1, by omega, by go_num, (by unfold Hid; rw [all_take_succ _ hx.out, hp4.out, hin.out]; rfl)⟩
                  case measure => simp [intOf]; omega
                · have hbdd := hbd.out (by have := hp4.out; rwa [List.take_of_length_le (by have h1 := hi3.out.len; omega)] at this)
                  have hsz := Lib.hid (show (Tryd.prog.info? 26).map (·.size) = some (C.map (Value.int .i64)).length by rw [List.length_map, hbdd.len]; kernel_rfl)
                  have hld := rangeAt_list (cs := C.map (Value.int .i64)) hcen.out.1
                  have cC := check_any C wok3 hbdd
                  have cR := Lib.hid (fun W => refCheck_any C W hbdd)
                  have hle : ckN C ≤ 5 := ckB_le _ _ _ _ _ _ _ _ _ _ _
                  clear hbd hbdd hp4
                  by_cases h0 : ckN C = 0
                  · rw [h0] at cC cR
                    have cC := Lib.hid (show Calls Tryd.prog 6 #[.agg (ci C)] wok3 fun r w' => r = .returned .nilIface ∧ Below wok3.heap.size wok3 w' from cC)
                    clear h0
                    go_wp2_with (first
                      | (refine wpList_load_at 26 (.tmp 1) rfl rfl w.heap.size 0 rfl (C.map (Value.int .i64)) _ hld Tryd.underlying26 rfl hsz.out ?_)
                      | (go_at_call 6; refine cC.out.mono ?_; rintro r w5 ⟨rfl, hb5⟩; have hB5 := Lib.hid (hBw.out.trans (hb5.mono hBw.out.size)); have hld5 := rangeAt_list (cs := C.map (Value.int .i64)) (hcen.out.below hb5).1; clear hb5)
                      | (refine wpList_load_at 26 (.tmp 1) rfl rfl w.heap.size 0 rfl (C.map (Value.int .i64)) _ hld5 Tryd.underlying26 rfl hsz.out ?_)
                      | (go_at_call 7; refine (cR.out _).mono ?_; rintro r w6 ⟨rfl, hb6⟩; have hB6 := Lib.hid (hB5.out.trans (hb6.mono hB5.out.size)); clear hb6; rw [show ckW 0 = ⟨#[]⟩ from rfl])
                      | (go_at_call 5; refine (aw.out _).mono ?_; rintro r w7 ⟨rfl, hb7⟩; have hB7 := Lib.hid (hB6.out.trans (hb7.mono hB6.out.size)); clear hb7))
                    go_ret
                    exact ⟨rfl, hB7.out⟩
                  · obtain ⟨hne, hs7⟩ := ckW_facts hle h0
                    have cC := Lib.hid (show Calls Tryd.prog 6 #[.agg (ci C)] wok3 (Mk wok3 (some 14) [censusS, ckW (ckN C)]) from cC.mono fun r w' h => by unfold CkOut at h; rwa [if_neg h0] at h)
                    generalize ckW (ckN C) = s at cC cR hne hs7
                    have hne2 : (!s.toList.isEmpty) = true := by rw [hne]; rfl
                    have hsp := Lib.hid (spS_census s)
                    have hsp7 := Lib.hid (show (spS [censusS, s]).size ≤ 1000000 by rw [hsp.out]; simp only [ByteArray.size_append]; have e1 : (⟨#[99, 101, 110, 115, 117, 115, 32]⟩ : ByteArray).size = 7 := rfl; have e2 : (⟨#[32]⟩ : ByteArray).size = 1 := rfl; omega)
                    have cWr := Lib.hid (fun (v : Value) (W : World) (hE : isErr W (some 14) [censusS, s] v) (hG : ETy W) => (by have := wrong07_any 14 [censusS, s] v W (by simp) hsp7.out hE hG; rw [hsp.out] at this; exact this : Calls Tryd.prog 8 #[v, .agg #[.int .i64 14, .string (⟨#[99, 101, 110, 115, 117, 115, 32]⟩ ++ s ++ ⟨#[32]⟩)]] W fun r w' => r = .returned (.bool true) ∧ Below W.heap.size W w'))
                    have z1 : (⟨#[99, 101, 110, 115, 117, 115, 32]⟩ ++ s : ByteArray).size ≤ 14 := by rw [ByteArray.size_append]; have e1 : (⟨#[99, 101, 110, 115, 117, 115, 32]⟩ : ByteArray).size = 7 := rfl; omega
                    clear h0 hle
                    go_wp2_with (first
                      | (refine wpList_load_at 26 (.tmp 1) rfl rfl w.heap.size 0 rfl (C.map (Value.int .i64)) _ hld Tryd.underlying26 rfl hsz.out ?_)
                      | (go_at_call 6; refine cC.out.mono ?_; rintro r w5 ⟨v5, rfl, hE5, hb5⟩; obtain ⟨T5, u5e, rfl⟩ := isErr_some hE5; have hE5 := Lib.hid hE5; have hB5 := Lib.hid (hBw.out.trans (hb5.mono hBw.out.size)); have hld5 := rangeAt_list (cs := C.map (Value.int .i64)) (hcen.out.below hb5).1; clear hb5)
                      | (refine wpList_load_at 26 (.tmp 1) rfl rfl w.heap.size 0 rfl (C.map (Value.int .i64)) _ hld5 Tryd.underlying26 rfl hsz.out ?_)
                      | (go_at_call 7; refine (cR.out _).mono ?_; rintro r w6 ⟨rfl, hb6⟩; have hE6 := Lib.hid (hE5.out.keep hb6); have hB6 := Lib.hid (hB5.out.trans (hb6.mono hB5.out.size)); clear hb6)
                      | (go_at_call 5; refine (aw.out _).mono ?_; rintro r w7 ⟨rfl, hb7⟩; have hE7 := Lib.hid (hE6.out.keep hb7); have hB7 := Lib.hid (hB6.out.trans (hb7.mono hB6.out.size)); clear hb7)
                      | (refine wpList_build_as 36 _ rfl rfl #[.int .i64 14, .string (⟨#[99, 101, 110, 115, 117, 115, 32]⟩ ++ s ++ ⟨#[32]⟩)] ?_ ?_; exact err_built _ _)
                      | (go_at_call 8; refine (cWr.out _ _ hE7.out (G.out.keep hB7.out)).mono ?_; rintro r w8 ⟨rfl, hb8⟩))
                    go_ret
                    exact ⟨rfl, hB7.out.trans (hb8.mono hB7.out.size)⟩
end Go.Proofs.YtbokdbppjiegjaaDoor
