/- The walk of GexNames. -/
import Derived.Test.YtlonejkmdibkaaaDoorGxL
import Derived.Test.YtlonejkmdibkaaaDoorKeyEq
import Derived.WideShapes
namespace Go.Proofs.YtlonejkmdibkaaaDoor
open Go.ChangeShapes Go.WideShapes Go.RowKit

def grDs : List TypeDesc := [.string, .string]
theorem grp_cells : Tryd.prog.cellsOf 23 = grDs.length := by kernel_rfl
theorem grp_flat : flatDesc Tryd.prog 3 23 = some grDs := by kernel_rfl
theorem grp_noBlank : noBlank Tryd.prog 3 23 = true := by kernel_rfl
theorem grp_key : Tryd.prog.keyTypeAt 3 23 = true := by kernel_rfl
theorem grp_guard : Tryd.prog.eqGuardType Tryd.prog.depth 23 = false := by kernel_rfl
theorem grp_ok {p g : ByteArray} (hp : p.size ≤ 9223372036854775807) (hg : g.size ≤ 9223372036854775807) : allOk grDs [.string p, .string g] := by
  refine ⟨rfl, fun i d v hd hv => ?_⟩
  match i with
  | 0 => simp only [grDs, List.getElem?_cons_zero, Option.some.injEq] at hd hv; subst hd; subst hv; exact ⟨p, rfl, by unfold maxLen; omega⟩
  | 1 => simp [grDs] at hd hv; subst hd; subst hv; exact ⟨g, rfl, by unfold maxLen; omega⟩
  | i + 2 => simp [grDs] at hd
theorem eql_grp {p g q h : ByteArray} (hp : p.size ≤ 9223372036854775807) (hg : g.size ≤ 9223372036854775807) (hq : q.size ≤ 9223372036854775807) (hh : h.size ≤ 9223372036854775807) (b : Bool) (hb : b = true ↔ (p = q ∧ g = h)) (w : World) :
    (binOp .eql 23 (.agg #[.string p, .string g]) (.agg #[.string q, .string h])).run Tryd.prog w = .ok (.bool b) w :=
  eql_flat Tryd.underlying23 grp_cells grp_flat grp_noBlank grp_key (by decide) [.string p, .string g] [.string q, .string h] (grp_ok hp hg) (grp_ok hq hh) b (by rw [hb]; simp) w
set_option maxRecDepth 100000 in
theorem open_grp {H : Type} {enc : TypeId × Value → H} {w : World} {base : Nat} {spare : Nat → Bool} {held : Bool} {v : Value} {d : DataW H} {ps : List MemPlace} {r : Reach} {b0 : Nat}
    (hval : Value.okWide Tryd.prog w r b0 23 v) (h : DataW.Trod enc Tryd.prog w base spare held 23 v d ps) :
    ∃ p g : ByteArray, v = .agg #[.string p, .string g] ∧ p.size ≤ 9223372036854775807 ∧ g.size ≤ 9223372036854775807 := by
  obtain ⟨cs, rfl, hsz⟩ := okWide_struct Tryd.underlying23 hval
  obtain ⟨fuel, hf⟩ := h
  obtain ⟨hl, hc⟩ := flat_trod 3 _ grDs fuel _ _ grp_flat hf
  have hcs : (Value.agg cs).cells.toList = cs.toList := by simp [Value.cells]
  rw [hcs] at hl hc
  match hq : cs.toList, hl with
  | [a, b], _ =>
    rw [hq] at hc
    obtain ⟨p, rfl, hp⟩ := hc 0 _ _ rfl rfl
    obtain ⟨g, rfl, hg⟩ := hc 1 _ _ rfl rfl
    have : cs = #[.string p, .string g] := by rw [← Array.toList_inj, hq]
    unfold maxLen at hp hg
    exact ⟨p, g, by rw [this], by omega, by omega⟩
theorem bs_neq {x y : ByteArray} (h : x ≠ y) : (x.toList == y.toList) = false := by
  rw [beq_eq_false_iff_ne]
  exact fun e => h (bs_ext e)

theorem blocks2 (w : World) (o0 o1 : Obj) : ((w.alloc o0).alloc o1).heap[w.heap.size]? = some o0 ∧ ((w.alloc o0).alloc o1).heap[w.heap.size + 1]? = some o1 ∧ ((w.alloc o0).alloc o1).heap.size = w.heap.size + 2 := by
  have s1 : (w.alloc o0).heap.size = w.heap.size + 1 := by simp
  refine ⟨heap_past (heap_new w o0) o1, ?_, by simp⟩
  have := heap_new (w.alloc o0) o1; rwa [s1] at this
set_option maxRecDepth 100000 in
set_option maxHeartbeats 8000000 in
theorem law_gexNames (p g q h : ByteArray) (w : World) (hp : p.size ≤ 9223372036854775807) (hg : g.size ≤ 9223372036854775807) (hq : q.size ≤ 9223372036854775807) (hh : h.size ≤ 9223372036854775807) :
    Calls Tryd.prog 3 #[.agg #[.string p, .string g], .agg #[.string q, .string h]] w fun r w' => r = .returned (.bool true) ∧ Below w.heap.size w w' := by
  have aw := Lib.hid (fun W => awake18_any W)
  have hB1 := (below_new w (.cells #[.string p, .string g] 23)).alloc (Below.size (below_new w (.cells #[.string p, .string g] 23))) (.cells #[.string q, .string h] 23)
  have hB1 := Lib.hid hB1
  by_cases hz : p.size ≤ 500 ∧ g.size ≤ 500 ∧ q.size ≤ 500 ∧ h.size ≤ 500
  case neg =>
    have hz : 500 < p.size ∨ (p.size ≤ 500 ∧ 500 < g.size) ∨ (p.size ≤ 500 ∧ g.size ≤ 500 ∧ 500 < q.size) ∨ (p.size ≤ 500 ∧ g.size ≤ 500 ∧ q.size ≤ 500 ∧ 500 < h.size) := by omega
    rcases hz with z | ⟨z1, z⟩ | ⟨z1, z2, z⟩ | ⟨z1, z2, z3, z⟩
    all_goals
      go_enter Tryd.func3, Tryd.ntmps3
      go_wp2_with (go_at_call 13; refine (aw.out _).mono ?_; rintro r w8 ⟨rfl, hb8⟩)
      go_ret
      exact ⟨rfl, hB1.out.trans (hb8.mono hB1.out.size)⟩
  case pos =>
    obtain ⟨z1, z2, z3, z4⟩ := hz
    have cN1 := fun W => gxName_any p g W (by omega) (by omega)
    have cN2 := fun W => gxName_any q h W (by omega) (by omega)
    have s1 := nameS_size p g
    have s2 := nameS_size q h
    have v1 : nameV p g = .tuple #[.string (nameS p g), .int .i64 0] := by unfold nameV; rw [if_pos (by omega)]
    have v2 : nameV q h = .tuple #[.string (nameS q h), .int .i64 0] := by unfold nameV; rw [if_pos (by omega)]
    rw [v1] at cN1
    rw [v2] at cN2
    have hcv1 : ((nameS p g).toList == [99, 117, 114, 118, 101, 50, 53, 53, 49, 57]) = false := by have := bs_neq (nameS_ne1 p g); rwa [show curve1S.toList = [99, 117, 114, 118, 101, 50, 53, 53, 49, 57] by rw [bsl]; rfl] at this
    have hcv2 : ((nameS p g).toList == [110, 105, 115, 116, 112, 50, 53, 54]) = false := by have := bs_neq (nameS_ne2 p g); rwa [show curve2S.toList = [110, 105, 115, 116, 112, 50, 53, 54] by rw [bsl]; rfl] at this
    have hinj : nameS p g = nameS q h ↔ (p = q ∧ g = h) := ⟨nameS_inj (by omega) (by omega), fun e => by rw [e.1, e.2]⟩
    obtain ⟨b, hb⟩ : ∃ b : Bool, b = decide (nameS p g = nameS q h) := ⟨_, rfl⟩
    have hb' : b = true ↔ (p = q ∧ g = h) := by rw [hb, decide_eq_true_iff]; exact hinj
    have hE := Lib.hid (fun W => eql_grp (by omega) (by omega) (by omega) (by omega) b hb' W : ∀ W, (binOp .eql 23 (.agg #[.string p, .string g]) (.agg #[.string q, .string h])).run Tryd.prog W = .ok (.bool b) W)
    have hst : ((nameS p g).toList == (nameS q h).toList) = b := by
      cases hbb : b with
      | true => rw [hbb] at hb; have := (decide_eq_true_iff.1 hb.symm); rw [this]; simp
      | false => rw [hbb] at hb; exact bs_neq (decide_eq_false_iff_not.1 hb.symm)
    clear v1 v2 hinj hb hb' s2
    generalize nameS p g = s at cN1 s1 hcv1 hcv2 hst
    generalize nameS q h = t at cN2 hst
    have cN1 := Lib.hid cN1
    have cN2 := Lib.hid cN2
    have hs8 : 8 ≤ s.size := by omega
    have cC1 : ∀ W, Calls Tryd.prog 15 #[.int .i64 1] W fun r w' => r = .returned (.tuple #[.string ⟨#[99, 117, 114, 118, 101, 50, 53, 53, 49, 57]⟩, .bool true]) ∧ W = w' := fun W => curve_any 1 W
    have cC1 := Lib.hid cC1
    have cC2 : ∀ W, Calls Tryd.prog 15 #[.int .i64 2] W fun r w' => r = .returned (.tuple #[.string ⟨#[110, 105, 115, 116, 112, 50, 53, 54]⟩, .bool true]) ∧ W = w' := fun W => curve_any 2 W
    have cC2 := Lib.hid cC2
    clear s1
    obtain ⟨g0, g1, hz1⟩ := blocks2 w (.cells #[.string p, .string g] 23) (.cells #[.string q, .string h] 23)
    go_enter Tryd.func3, Tryd.ntmps3
    go_upto_region 1 with fail
    generalize (w.alloc (.cells #[.string p, .string g] 23)).alloc (.cells #[.string q, .string h] 23) = w1 at hB1 g0 g1 hz1 ⊢
    have hS := (fun W (hb : Below w1.heap.size w1 W) => (⟨(hb.cell (p := ⟨w.heap.size, 0, none⟩) (by show w.heap.size < _; omega)).trans (cell_of_row _ _ 0 _ _ _ g0), (hb.cell (p := ⟨w.heap.size, 1, none⟩) (by show w.heap.size < _; omega)).trans (cell_of_row _ _ 1 _ _ _ g0),
      (hb.cell (p := ⟨w.heap.size + 1, 0, none⟩) (by show w.heap.size + 1 < _; omega)).trans (cell_of_row _ _ 0 _ _ _ g1), (hb.cell (p := ⟨w.heap.size + 1, 1, none⟩) (by show w.heap.size + 1 < _; omega)).trans (cell_of_row _ _ 1 _ _ _ g1)⟩ :
      W.cell? ⟨w.heap.size, 0, none⟩ = some (.string p) ∧ W.cell? ⟨w.heap.size, 1, none⟩ = some (.string g) ∧ W.cell? ⟨w.heap.size + 1, 0, none⟩ = some (.string q) ∧ W.cell? ⟨w.heap.size + 1, 1, none⟩ = some (.string h)))
    obtain ⟨e0, e1, e2, e3⟩ := hS w1 (Below.refl _ _)
    have hS := Lib.hid hS
    clear g0 g1 hz1
    go_wp2_with (first
      | (go_at_call 14; (with_reducible refine (cN1.out _).mono ?_); rintro r w5 ⟨rfl, hb5⟩; have hB5 := Lib.hid hb5; obtain ⟨e0, e1, e2, e3⟩ := hS.out _ hb5; clear hb5)
      | (go_at_call 14; (with_reducible refine (cN2.out _).mono ?_); rintro r w6 ⟨rfl, hb6⟩; have hB6 := Lib.hid (hB5.out.trans (hb6.mono hB5.out.size)); clear hb6)
      | (go_at_call 15; (with_reducible refine (cC1.out _).mono ?_); rintro r w7 ⟨rfl, rfl⟩)
      | (go_at_call 15; (with_reducible refine (cC2.out _).mono ?_); rintro r w7 ⟨rfl, rfl⟩)
      | (go_at_call 13; (with_reducible refine (aw.out _).mono ?_); rintro r w8 ⟨rfl, hb8⟩; have hB8 := Lib.hid (hB6.out.trans (hb8.mono hB6.out.size)); obtain ⟨e0, e1, e2, e3⟩ := hS.out _ hB8.out; clear hb8)
      | (refine wpList_eql_at 23 _ _ _ rfl rfl #[.string p, .string g] #[.string q, .string h] rfl rfl grp_guard b (hE.out _) ?_))
    go_ret
    exact ⟨ret_bool (decide_eq_true (by omega)), hB1.out.trans (hB8.out.mono hB1.out.size)⟩
end Go.Proofs.YtlonejkmdibkaaaDoor
