/- Gex: Pick. -/
import Derived.Test.YtlonejkmdibkaaaDoorGxE
import Derived.Test.YtlonejkmdibkaaaDoorFl0
import Derived.Laws.ResultCell
import Derived.Laws.CopyRow
import Derived.Deep.RegionHeld3
namespace Go.Proofs.YtlonejkmdibkaaaDoor
open Go.RowKit

theorem down_ints (w : World) : Ints (w.alloc (.cells #[.int .i64 4096, .int .i64 3072, .int .i64 2048, .int .i64 1024] 3)) (some ⟨w.heap.size, 0, none⟩) 4 [4096, 3072, 2048, 1024] := by
  exact Rws.block (zs := [iv 4096, iv 3072, iv 2048, iv 1024]) (k := 1) (by decide +kernel) (by exact heap_new w _) (Array.getElem?_eq_some_iff.1 (heap_new w _)).1
def gexS : ByteArray := ⟨#[103, 101, 120]⟩
def PickR (w : World) (k : Nat) (r : Ending) (w' : World) : Prop :=
  (k = 0 ∧ ∃ T u, r = .returned (.tuple #[.agg #[.string ⟨#[]⟩, .string ⟨#[]⟩], .iface T u]) ∧ isErr w' (some 5) [gexS] (.iface T u) ∧ Below w.heap.size w w') ∨
  (k ≠ 0 ∧ r = .returned (.tuple #[.agg #[.string (gxP k), .string ⟨#[2]⟩], .nilIface]) ∧ Below w.heap.size w w')
theorem four_of {k : Nat} (h : k ≤ 4) (h0 : k ≠ 0) : k = 1 ∨ k = 2 ∨ k = 3 ∨ k = 4 := by omega
set_option maxRecDepth 100000 in
set_option maxHeartbeats 8000000 in
theorem gexPick_any (a b c : Int) (w : World) :
    Calls Tryd.prog 17 #[.int .u32 a, .int .u32 b, .int .u32 c] w (PickR w (pickK a b c)) := by
  have cR := Lib.hid (fun W => gxRight_any a b c W)
  have hk : pickK a b c = if rightB a b c then (if upK b c = 0 then dnK a c else upK b c) else 0 := rfl
  obtain ⟨g0, g1, g2, g3, hB1, hz1⟩ := blocks4 w (.cells #[.int .u32 a] 37) (.cells #[.int .u32 b] 37) (.cells #[.int .u32 c] 37) (.cells #[.string ⟨#[]⟩, .string ⟨#[]⟩] 23)
  have cO := Lib.hid (fun W => of_any ⟨#[103, 101, 120]⟩ 5 W (by decide))
  have hB1 := Lib.hid hB1
  cases hr : rightB a b c with
  | false =>
    rw [hr] at hk cR
    have hk := Lib.hid (show pickK a b c = 0 from hk)
    go_enter Tryd.func17, Tryd.ntmps17
    go_upto_region 1 with fail
    generalize (((w.alloc (.cells #[.int .u32 a] 37)).alloc (.cells #[.int .u32 b] 37)).alloc (.cells #[.int .u32 c] 37)).alloc (.cells #[.string ⟨#[]⟩, .string ⟨#[]⟩] 23) = w1 at g0 g1 g2 g3 hz1 hB1 ⊢
    have c0 : w1.cell? ⟨w.heap.size, 0, none⟩ = some (.int .u32 a) := cell_of_row _ _ 0 _ _ _ g0
    have c1 : w1.cell? ⟨w.heap.size + 1, 0, none⟩ = some (.int .u32 b) := cell_of_row _ _ 0 _ _ _ g1
    have c2 : w1.cell? ⟨w.heap.size + 2, 0, none⟩ = some (.int .u32 c) := cell_of_row _ _ 0 _ _ _ g2
    have hg3 := Lib.hid (fun W (h : Below w1.heap.size w1 W) => (h.block (w.heap.size + 3) (by omega)).trans g3)
    have hz1 := Lib.hid hz1
    clear g0 g1 g2 g3
    go_wp2_with (first
      | (go_at_call 38; (with_reducible refine (cR.out _).mono ?_); rintro r w4 ⟨rfl, rfl⟩)
      | (go_at_call 68; (with_reducible refine (cO.out _).mono ?_); rintro r w6 ⟨v6, rfl, hE6, hb6⟩; obtain ⟨T6, u6, rfl⟩ := isErr_some hE6; have hE6 := Lib.hid hE6; have hB6 := Lib.hid hb6; clear hb6; have hgr := hg3.out _ hB6.out)
      | (refine wpList_store_at 23 _ _ rfl rfl (w.heap.size + 3) #[.string ⟨#[]⟩, .string ⟨#[]⟩] rfl rfl 23 #[.string ⟨#[]⟩, .string ⟨#[]⟩] hgr (by kernel_rfl) rfl (by simp [Value.oneCell']) ?_; rw [setRow_self _ _ _ _ _ hgr]))
    refine bodyPost_ret (results_cell_two rfl _ _ (w.heap.size + 3) 23 #[.string ⟨#[]⟩, .string ⟨#[]⟩] (0, 0) _ _ rfl hgr Tryd.underlying23 rfl (by kernel_rfl) rfl) rfl (.inl ⟨hk.out, _, _, rfl, hE6.out, hB1.out.trans (hB6.out.mono (by have := hz1.out; omega))⟩)
  | true =>
    rw [hr] at hk cR
    rw [if_pos rfl] at hk
    have hup := find_up' b c
    have hdn := find_dn' a c
    have hul := upK_le b c
    have hdl := dnK_le a c
    go_enter Tryd.func17, Tryd.ntmps17
    go_upto_region 1 with fail
    generalize (((w.alloc (.cells #[.int .u32 a] 37)).alloc (.cells #[.int .u32 b] 37)).alloc (.cells #[.int .u32 c] 37)).alloc (.cells #[.string ⟨#[]⟩, .string ⟨#[]⟩] 23) = w1 at g0 g1 g2 g3 hz1 hB1 ⊢
    have c0 : w1.cell? ⟨w.heap.size, 0, none⟩ = some (.int .u32 a) := cell_of_row _ _ 0 _ _ _ g0
    have c1 : w1.cell? ⟨w.heap.size + 1, 0, none⟩ = some (.int .u32 b) := cell_of_row _ _ 0 _ _ _ g1
    have c2 : w1.cell? ⟨w.heap.size + 2, 0, none⟩ = some (.int .u32 c) := cell_of_row _ _ 0 _ _ _ g2
    have hg3 := Lib.hid (fun W (h : Below w1.heap.size w1 W) => (h.block (w.heap.size + 3) (by omega)).trans g3)
    have hBo := Lib.hid (fun W (h : Below w1.heap.size w1 W) => hB1.out.trans (h.mono (by omega)))
    have cS := sizes_any w1
    have hb5 := below_new w1 (.cells #[.int .i64 1024, .int .i64 2048, .int .i64 3072, .int .i64 4096] 3)
    have hI5 := sizes_ints w1
    have g5 := heap_new w1 (.cells #[.int .i64 1024, .int .i64 2048, .int .i64 3072, .int .i64 4096] 3)
    have hz5 : (w1.alloc (.cells #[.int .i64 1024, .int .i64 2048, .int .i64 3072, .int .i64 4096] 3)).heap.size = w1.heap.size + 1 := by simp
    have hcl : ∀ W, Below w1.heap.size w1 W → W.cell? ⟨w.heap.size, 0, none⟩ = some (.int .u32 a) ∧ W.cell? ⟨w.heap.size + 1, 0, none⟩ = some (.int .u32 b) ∧ W.cell? ⟨w.heap.size + 2, 0, none⟩ = some (.int .u32 c) := fun W h =>
      ⟨(h.cell (p := ⟨w.heap.size, 0, none⟩) (by show w.heap.size < _; omega)).trans c0, (h.cell (p := ⟨w.heap.size + 1, 0, none⟩) (by show w.heap.size + 1 < _; omega)).trans c1, (h.cell (p := ⟨w.heap.size + 2, 0, none⟩) (by show w.heap.size + 2 < _; omega)).trans c2⟩
    have cF1 := gxFirst_any (btw b c) 70 #[.pointer (some ⟨w.heap.size + 1, 0, none⟩), .pointer (some ⟨w.heap.size + 2, 0, none⟩)] (by intro args w; kernel_rfl) [1024, 2048, 3072, 4096] (some ⟨w1.heap.size, 0, none⟩) 4 4 _ (by decide) hI5 (by decide)
      (fun x _ => pick1_any x b c (w.heap.size + 1) (w.heap.size + 2) _ (hcl _ hb5).2.1 (hcl _ hb5).2.2)
    rw [hup] at cF1
    have hCl := Lib.hid hcl
    clear g0 g1 g2 g3 hup hcl
    generalize hW5 : w1.alloc (.cells #[.int .i64 1024, .int .i64 2048, .int .i64 3072, .int .i64 4096] 3) = w5 at hb5 hI5 g5 hz5 cF1 cS
    clear hW5
    have cS := Lib.hid cS
    have hb5 := Lib.hid hb5
    have hZ1 := Lib.hid hz1
    clear hz1 hz5
    by_cases hu : upK b c = 0
    · rw [if_pos hu] at hk
      rw [hu] at cF1
      have cF := Lib.hid cF1
      clear cF1
      clear hu hul
      have hl5 := Lib.hid (Array.getElem?_eq_some_iff.1 g5).1
      have d0 : w5.cell? ⟨w1.heap.size, 0, none⟩ = some (.int .i64 1024) := cell_of_row _ _ 0 _ _ _ g5
      have d1 : w5.cell? ⟨w1.heap.size, 1, none⟩ = some (.int .i64 2048) := cell_of_row _ _ 1 _ _ _ g5
      have d2 : w5.cell? ⟨w1.heap.size, 2, none⟩ = some (.int .i64 3072) := cell_of_row _ _ 2 _ _ _ g5
      have d3 : w5.cell? ⟨w1.heap.size, 3, none⟩ = some (.int .i64 4096) := cell_of_row _ _ 3 _ _ _ g5
      have cF2 := (fun (W : World) (g : Nat) (h : Below w1.heap.size w1 W) (hI : Ints W (some ⟨g, 0, none⟩) 4 [4096, 3072, 2048, 1024]) => gxFirst_any (btw a c) 71 #[.pointer (some ⟨w.heap.size, 0, none⟩), .pointer (some ⟨w.heap.size + 2, 0, none⟩)] (by intro args w; kernel_rfl) [4096, 3072, 2048, 1024] (some ⟨g, 0, none⟩) 4 4 W (by decide) hI (by decide)
        (fun x _ => pick2_any x a c w.heap.size (w.heap.size + 2) _ (hCl.out _ h).1 (hCl.out _ h).2.2))
      simp only [hdn] at cF2
      have cF2 := Lib.hid cF2
      clear hdn g5 hI5
      go_upto_region 6 with (first
        | (go_at_call 38; (with_reducible refine (cR.out _).mono ?_); rintro r w4 ⟨rfl, rfl⟩)
        | (go_at_call 66; (with_reducible refine cS.out.mono ?_); rintro r w4 ⟨rfl, rfl⟩)
        | (go_at_call 69; refine cF.out.mono ?_; rintro r w4 ⟨rfl, rfl⟩))
      have hS6 := Lib.hid (fun W (h : Below w4.heap.size w4 W) => (⟨(h.cell (p := ⟨w1.heap.size, 0, none⟩) hl5.out).trans d0, (h.cell (p := ⟨w1.heap.size, 1, none⟩) hl5.out).trans d1, (h.cell (p := ⟨w1.heap.size, 2, none⟩) hl5.out).trans d2, (h.cell (p := ⟨w1.heap.size, 3, none⟩) hl5.out).trans d3⟩ :
        W.cell? ⟨w1.heap.size, 0, none⟩ = some (.int .i64 1024) ∧ W.cell? ⟨w1.heap.size, 1, none⟩ = some (.int .i64 2048) ∧ W.cell? ⟨w1.heap.size, 2, none⟩ = some (.int .i64 3072) ∧ W.cell? ⟨w1.heap.size, 3, none⟩ = some (.int .i64 4096)))
      have hB0 := Lib.hid (show Below w4.heap.size w4 w4.drew from drewN_below 1)
      clear d0 d1 d2 d3 c0 c1 c2
      go_region_held3 (fun W => W.cell? ⟨w1.heap.size, 0, none⟩ = some (.int .i64 1024) ∧ W.cell? ⟨w1.heap.size, 1, none⟩ = some (.int .i64 2048) ∧ W.cell? ⟨w1.heap.size, 2, none⟩ = some (.int .i64 3072) ∧ W.cell? ⟨w1.heap.size, 3, none⟩ = some (.int .i64 4096))
        (first | exact hS6.out _ hB0.out | exact hS6.out _ (hB0.out.alloc hB0.out.size _))
        (fail)
      all_goals
        have hBd := hb5.out.trans ((((below_new w4 (.cells #[.int .i64 4096, .int .i64 3072, .int .i64 2048, .int .i64 1024] 3)).trans (Below.mono (drewN_below 1) (below_new w4 _).size)) : Below w4.heap.size w4 (w4.alloc (.cells #[.int .i64 4096, .int .i64 3072, .int .i64 2048, .int .i64 1024] 3)).drew).mono hb5.out.size)
        have hId := Ints.keep (down_ints w4) (show Below _ _ (w4.alloc (.cells #[.int .i64 4096, .int .i64 3072, .int .i64 2048, .int .i64 1024] 3)).drew from drewN_below 1)
        have cF3 := cF2.out _ _ hBd hId
        generalize (w4.alloc (.cells #[.int .i64 4096, .int .i64 3072, .int .i64 2048, .int .i64 1024] 3)).drew = w7 at hBd hId cF3 ⊢
        have hBd := Lib.hid hBd
        clear hId
        by_cases hd0 : dnK a c = 0
        · have hK := Lib.hid (hk.trans hd0)
          rw [hd0] at cF3
          have cF4 := Lib.hid cF3
          clear cF3 hd0 hk hr
          go_wp2_with (first
            | (go_at_call 69; refine cF4.out.mono ?_; rintro r w8 ⟨rfl, rfl⟩)
            | (go_at_call 68; (with_reducible refine (cO.out _).mono ?_); rintro r w6 ⟨v6, rfl, hE6, hb6⟩; obtain ⟨T6, u6, rfl⟩ := isErr_some hE6; have hE6 := Lib.hid hE6; have hB6 := Lib.hid (hBd.out.trans (hb6.mono hBd.out.size)); clear hb6; have hgr := hg3.out _ hB6.out)
            | (refine wpList_store_at 23 _ _ rfl rfl (w.heap.size + 3) #[.string ⟨#[]⟩, .string ⟨#[]⟩] rfl rfl 23 #[.string ⟨#[]⟩, .string ⟨#[]⟩] hgr (by kernel_rfl) rfl (by simp [Value.oneCell']) ?_; rw [setRow_self _ _ _ _ _ hgr]))
          refine bodyPost_ret (results_cell_two rfl _ _ (w.heap.size + 3) 23 #[.string ⟨#[]⟩, .string ⟨#[]⟩] (0, 0) _ _ rfl hgr Tryd.underlying23 rfl (by kernel_rfl) rfl) rfl (.inl ⟨hK.out, _, _, rfl, hE6.out, hBo.out _ hB6.out⟩)
        · have cF4 := Lib.hid cF3
          have cG := Lib.hid (fun W => group_any (dnK a c) W (four_of hdl hd0))
          have hne : (((1024 * dnK a c : Nat) : Int) == 0) = false := beq_eq_false_iff_ne.2 (by omega)
          have hk0 := Lib.hid (show pickK a b c ≠ 0 by rw [hk]; exact hd0)
          have hK := Lib.hid hk
          clear cF3
          generalize ((1024 * dnK a c : Nat) : Int) = x at cF4 cG hne
          clear hd0 hk hdl hr
          go_wp2_with (first
            | (go_at_call 69; refine cF4.out.mono ?_; rintro r w8 ⟨rfl, rfl⟩)
            | (go_at_call 67; (with_reducible refine (cG.out _).mono ?_); rintro r w6 ⟨rfl, hb6⟩; have hB6 := Lib.hid (hBd.out.trans (hb6.mono hBd.out.size)); clear hb6; have hgr := hg3.out _ hB6.out)
            | (refine wpList_store_at 23 _ _ rfl rfl (w.heap.size + 3) #[.string (gxP (dnK a c)), .string ⟨#[2]⟩] rfl rfl 23 #[.string ⟨#[]⟩, .string ⟨#[]⟩] hgr (by kernel_rfl) rfl (by simp [Value.oneCell']) ?_))
          refine bodyPost_ret (results_cell_two rfl _ _ (w.heap.size + 3) 23 #[.string (gxP (dnK a c)), .string ⟨#[2]⟩] (0, 0) _ _ rfl (heap_setRow_one _ _ _ _ _ _ hgr) Tryd.underlying23 rfl (by kernel_rfl) rfl) rfl (.inr ⟨hk0.out, by rw [hK.out]; rfl, ?_⟩)
          exact below_setRow (hBo.out _ hB6.out) (Nat.le_add_right _ _) _
    · rw [if_neg hu] at hk
      have cF := Lib.hid cF1
      clear cF1
      have cG := Lib.hid (fun W => group_any (upK b c) W (four_of hul hu))
      have hne : (((1024 * upK b c : Nat) : Int) == 0) = false := beq_eq_false_iff_ne.2 (by omega)
      have hk0 := Lib.hid (show pickK a b c ≠ 0 by rw [hk]; exact hu)
      have hK := Lib.hid hk
      clear hk hr
      generalize ((1024 * upK b c : Nat) : Int) = x at cF cG hne
      clear hu hul hdl hdn g5 hI5
      go_wp2_with (first
        | (go_at_call 38; (with_reducible refine (cR.out _).mono ?_); rintro r w4 ⟨rfl, rfl⟩)
        | (go_at_call 66; (with_reducible refine cS.out.mono ?_); rintro r w4 ⟨rfl, rfl⟩)
        | (go_at_call 69; refine cF.out.mono ?_; rintro r w4 ⟨rfl, rfl⟩)
        | (go_at_call 67; (with_reducible refine (cG.out _).mono ?_); rintro r w6 ⟨rfl, hb6⟩; have hB6 := Lib.hid (hb5.out.trans (hb6.mono hb5.out.size)); clear hb6; have hgr := hg3.out _ hB6.out)
        | (refine wpList_store_at 23 _ _ rfl rfl (w.heap.size + 3) #[.string (gxP (upK b c)), .string ⟨#[2]⟩] rfl rfl 23 #[.string ⟨#[]⟩, .string ⟨#[]⟩] hgr (by kernel_rfl) rfl (by simp [Value.oneCell']) ?_))
      refine bodyPost_ret (results_cell_two rfl _ _ (w.heap.size + 3) 23 #[.string (gxP (upK b c)), .string ⟨#[2]⟩] (0, 0) _ _ rfl (heap_setRow_one _ _ _ _ _ _ hgr) Tryd.underlying23 rfl (by kernel_rfl) rfl) rfl (.inr ⟨hk0.out, by rw [hK.out]; rfl, ?_⟩)
      exact below_setRow (hBo.out _ hB6.out) (Nat.le_add_right _ _) _
end Go.Proofs.YtlonejkmdibkaaaDoor
