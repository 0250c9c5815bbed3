/- The walk of GexChecks. -/
import Derived.Test.YtlonejkmdibkaaaDoorGxV
import Derived.Test.YtlonejkmdibkaaaDoorGxR
namespace Go.Proofs.YtlonejkmdibkaaaDoor
open Go.RowKit

set_option maxRecDepth 100000 in
set_option maxHeartbeats 8000000 in
theorem law_gexChecks (least most : Int) (p g : ByteArray) (w : World) (hl0 : 0 ≤ least) (hl1 : least ≤ 4294967295) (hm0 : 0 ≤ most) (hm1 : most ≤ 4294967295) (hp : p.size ≤ 9223372036854775807) (hg : g.size ≤ 9223372036854775807) (G : ETy w) :
    Calls Tryd.prog 8 #[.int .u32 least, .int .u32 most, .agg #[.string p, .string g]] w fun r w' => r = .returned (.bool true) ∧ Below w.heap.size w w' := by
  have aw := Lib.hid (fun W => awake18_any W)
  have hB1 := Lib.hid (below_new w (.cells #[.string p, .string g] 23))
  have G := Lib.hid G
  by_cases hz : p.size ≤ 2000 ∧ g.size ≤ 2000
  case neg =>
    have hz : 2000 < p.size ∨ (p.size ≤ 2000 ∧ 2000 < g.size) := by omega
    rcases hz with z | ⟨z1, z⟩
    all_goals
      go_enter Tryd.func8, Tryd.ntmps8
      go_wp2_with (go_at_call 13; refine (aw.out _).mono ?_; rintro r w8 ⟨rfl, hb8⟩)
      go_ret
      exact ⟨rfl, hB1.out.trans (hb8.mono hB1.out.size)⟩
  case pos =>
    obtain ⟨z1, z2⟩ := hz
    have cK := fun W => gxCheck_any least most p g W (by omega) (by omega)
    have cF := fun W => refCheck_any least most p g W (by omega) (by omega)
    have cN := fun W => gxName_any p g W (by omega) (by omega)
    have cM := fun W => refName_any p g W (by omega) (by omega)
    have hc := heap_new w (.cells #[.string p, .string g] 23)
    have hlt := (Array.getElem?_eq_some_iff.1 hc).1
    have hs8 := nameS_size p g
    have hw1 : IntKind.i64.wrap least = least := IntWalk.i64_in _ (by omega)
    have hw2 : IntKind.i64.wrap most = most := IntWalk.i64_in _ (by omega)
    have hS := (fun W (hb : Below (w.alloc (.cells #[.string p, .string g] 23)).heap.size (w.alloc (.cells #[.string p, .string g] 23)) W) => (⟨(hb.cell (p := ⟨w.heap.size, 0, none⟩) hlt).trans (cell_of_row _ _ 0 _ _ _ hc), (hb.cell (p := ⟨w.heap.size, 1, none⟩) hlt).trans (cell_of_row _ _ 1 _ _ _ hc)⟩ :
      W.cell? ⟨w.heap.size, 0, none⟩ = some (.string p) ∧ W.cell? ⟨w.heap.size, 1, none⟩ = some (.string g)))
    have hS := Lib.hid hS
    clear hc hlt
    generalize checkB least most p g = qc at cK cF
    by_cases hn : (nameS p g).size ≤ 2100
    · have v1 : nameV p g = .tuple #[.string (nameS p g), .int .i64 0] := by unfold nameV; rw [if_pos hn]
      have v2 : nameR p g = nameS p g := by unfold nameR; rw [if_pos hn]
      simp only [v1] at cN
      simp only [v2] at cM
      have he0 : ((nameS p g).toList == []) = false := by
        rw [beq_eq_false_iff_ne]
        intro e
        have h0 : (nameS p g).size = 0 := by
          have h1 := congrArg List.length e
          rw [bsl_len] at h1
          exact h1
        omega
      have he2 : (nameS p g).toList.isEmpty = false := by
        cases hq2 : (nameS p g).toList with
        | nil => rw [hq2] at he0; cases he0
        | cons x r => rfl
      have he3 : (!(nameS p g).toList.isEmpty) = true := by rw [he2]; rfl
      clear v1 v2 hn hs8
      generalize nameS p g = s at cN cM he0 he2 he3
      have cN := Lib.hid cN
      have cM := Lib.hid cM
      cases qc with
      | true =>
        have cK := Lib.hid cK
        have cF := Lib.hid cF
        as_aux_lemma =>
          go_enter Tryd.func8, Tryd.ntmps8
          go_upto_region 1 with fail
          generalize w.alloc (.cells #[.string p, .string g] 23) = w1 at hB1 hS ⊢
          obtain ⟨c0, c1⟩ := hS.out w1 (Below.refl _ _)
          go_wp2_with (first
            | (go_at_call 19; (with_reducible refine (cK.out _).mono ?_); rintro r w3 hr; obtain ⟨rfl, hb3⟩ := hr.ok; clear hr; have hB3 := Lib.hid hb3; obtain ⟨d0, d1⟩ := hS.out _ hb3; clear hb3)
            | (go_at_call 14; (with_reducible refine (cN.out _).mono ?_); rintro r w4 ⟨rfl, hb4⟩; have hB4 := Lib.hid (hB3.out.trans (hb4.mono hB3.out.size)); obtain ⟨e0, e1⟩ := hS.out _ hB4.out; clear hb4)
            | (go_at_call 42; (with_reducible refine (cM.out _).mono ?_); rintro r w5 ⟨rfl, hb5⟩; have hB5 := Lib.hid (hB4.out.trans (hb5.mono hB4.out.size)); obtain ⟨f0, f1⟩ := hS.out _ hB5.out; clear hb5)
            | (go_at_call 43; (with_reducible refine (cF.out _).mono ?_); rintro r w6 ⟨rfl, hb6⟩; have hB6 := Lib.hid (hB5.out.trans (hb6.mono hB5.out.size)); clear hb6)
            | (go_at_call 13; (with_reducible refine (aw.out _).mono ?_); rintro r w8 ⟨rfl, hb8⟩; have hB8 := Lib.hid (hB6.out.trans (hb8.mono hB6.out.size)); clear hb8))
          go_ret
          exact ⟨rfl, hB1.out.trans (hB8.out.mono hB1.out.size)⟩
      | false =>
        have cK := Lib.hid cK
        have cF := Lib.hid cF
        as_aux_lemma =>
          go_enter Tryd.func8, Tryd.ntmps8
          go_upto_region 1 with fail
          generalize w.alloc (.cells #[.string p, .string g] 23) = w1 at hB1 hS ⊢
          obtain ⟨c0, c1⟩ := hS.out w1 (Below.refl _ _)
          go_wp2_with (first
            | (go_at_call 19; (with_reducible refine (cK.out _).mono ?_); rintro r w3 hr; obtain ⟨T3, u3, rfl, hE3, hb3⟩ := hr.bad; clear hr; have hE3 := Lib.hid hE3; have hB3 := Lib.hid hb3; obtain ⟨d0, d1⟩ := hS.out _ hb3; clear hb3)
            | (go_at_call 14; (with_reducible refine (cN.out _).mono ?_); rintro r w4 ⟨rfl, hb4⟩; have hE4 := Lib.hid (hE3.out.keep hb4); have hB4 := Lib.hid (hB3.out.trans (hb4.mono hB3.out.size)); obtain ⟨e0, e1⟩ := hS.out _ hB4.out; clear hb4)
            | (go_at_call 42; (with_reducible refine (cM.out _).mono ?_); rintro r w5 ⟨rfl, hb5⟩; have hE5 := Lib.hid (hE4.out.keep hb5); have hB5 := Lib.hid (hB4.out.trans (hb5.mono hB4.out.size)); obtain ⟨f0, f1⟩ := hS.out _ hB5.out; clear hb5)
            | (go_at_call 43; (with_reducible refine (cF.out _).mono ?_); rintro r w6 ⟨rfl, hb6⟩; have hE6 := Lib.hid (hE5.out.keep hb6); have hB6 := Lib.hid (hB5.out.trans (hb6.mono hB5.out.size)); clear hb6)
            | (go_at_call 13; (with_reducible refine (aw.out _).mono ?_); rintro r w8 ⟨rfl, hb8⟩; have hE8 := Lib.hid (hE6.out.keep hb8); have hB8 := Lib.hid (hB6.out.trans (hb8.mono hB6.out.size)); clear hb8)
            | (go_at_call 40; refine (wrong18_any _ _ _ hE8.out (G.out.keep (hB1.out.trans (hB8.out.mono hB1.out.size)))).mono ?_; rintro r w9 ⟨rfl, hb9⟩))
          go_ret
          exact ⟨rfl, hB1.out.trans ((hB8.out.trans (hb9.mono hB8.out.size)).mono hB1.out.size)⟩
    · have v1 : nameV p g = .tuple #[.string ⟨#[]⟩, .int .i64 2] := by unfold nameV; rw [if_neg hn]
      have v2 : nameR p g = ⟨#[]⟩ := by unfold nameR; rw [if_neg hn]
      simp only [v1] at cN
      simp only [v2] at cM
      clear v1 v2 hn hs8
      have cN := Lib.hid cN
      have cM := Lib.hid cM
      cases qc with
      | true =>
        have cK := Lib.hid cK
        have cF := Lib.hid cF
        as_aux_lemma =>
          go_enter Tryd.func8, Tryd.ntmps8
          go_upto_region 1 with fail
          generalize w.alloc (.cells #[.string p, .string g] 23) = w1 at hB1 hS ⊢
          obtain ⟨c0, c1⟩ := hS.out w1 (Below.refl _ _)
          go_wp2_with (first
            | (go_at_call 19; (with_reducible refine (cK.out _).mono ?_); rintro r w3 hr; obtain ⟨rfl, hb3⟩ := hr.ok; clear hr; have hB3 := Lib.hid hb3; obtain ⟨d0, d1⟩ := hS.out _ hb3; clear hb3)
            | (go_at_call 14; (with_reducible refine (cN.out _).mono ?_); rintro r w4 ⟨rfl, hb4⟩; have hB4 := Lib.hid (hB3.out.trans (hb4.mono hB3.out.size)); obtain ⟨e0, e1⟩ := hS.out _ hB4.out; clear hb4)
            | (go_at_call 42; (with_reducible refine (cM.out _).mono ?_); rintro r w5 ⟨rfl, hb5⟩; have hB5 := Lib.hid (hB4.out.trans (hb5.mono hB4.out.size)); obtain ⟨f0, f1⟩ := hS.out _ hB5.out; clear hb5)
            | (go_at_call 43; (with_reducible refine (cF.out _).mono ?_); rintro r w6 ⟨rfl, hb6⟩; have hB6 := Lib.hid (hB5.out.trans (hb6.mono hB5.out.size)); clear hb6)
            | (go_at_call 13; (with_reducible refine (aw.out _).mono ?_); rintro r w8 ⟨rfl, hb8⟩; have hB8 := Lib.hid (hB6.out.trans (hb8.mono hB6.out.size)); clear hb8))
          go_ret
          exact ⟨rfl, hB1.out.trans (hB8.out.mono hB1.out.size)⟩
      | false =>
        have cK := Lib.hid cK
        have cF := Lib.hid cF
        as_aux_lemma =>
          go_enter Tryd.func8, Tryd.ntmps8
          go_upto_region 1 with fail
          generalize w.alloc (.cells #[.string p, .string g] 23) = w1 at hB1 hS ⊢
          obtain ⟨c0, c1⟩ := hS.out w1 (Below.refl _ _)
          go_wp2_with (first
            | (go_at_call 19; (with_reducible refine (cK.out _).mono ?_); rintro r w3 hr; obtain ⟨T3, u3, rfl, hE3, hb3⟩ := hr.bad; clear hr; have hE3 := Lib.hid hE3; have hB3 := Lib.hid hb3; obtain ⟨d0, d1⟩ := hS.out _ hb3; clear hb3)
            | (go_at_call 14; (with_reducible refine (cN.out _).mono ?_); rintro r w4 ⟨rfl, hb4⟩; have hE4 := Lib.hid (hE3.out.keep hb4); have hB4 := Lib.hid (hB3.out.trans (hb4.mono hB3.out.size)); obtain ⟨e0, e1⟩ := hS.out _ hB4.out; clear hb4)
            | (go_at_call 42; (with_reducible refine (cM.out _).mono ?_); rintro r w5 ⟨rfl, hb5⟩; have hE5 := Lib.hid (hE4.out.keep hb5); have hB5 := Lib.hid (hB4.out.trans (hb5.mono hB4.out.size)); obtain ⟨f0, f1⟩ := hS.out _ hB5.out; clear hb5)
            | (go_at_call 43; (with_reducible refine (cF.out _).mono ?_); rintro r w6 ⟨rfl, hb6⟩; have hE6 := Lib.hid (hE5.out.keep hb6); have hB6 := Lib.hid (hB5.out.trans (hb6.mono hB5.out.size)); clear hb6)
            | (go_at_call 13; (with_reducible refine (aw.out _).mono ?_); rintro r w8 ⟨rfl, hb8⟩; have hE8 := Lib.hid (hE6.out.keep hb8); have hB8 := Lib.hid (hB6.out.trans (hb8.mono hB6.out.size)); clear hb8)
            | (go_at_call 40; refine (wrong18_any _ _ _ hE8.out (G.out.keep (hB1.out.trans (hB8.out.mono hB1.out.size)))).mono ?_; rintro r w9 ⟨rfl, hb9⟩))
          go_ret
          exact ⟨rfl, hB1.out.trans ((hB8.out.trans (hb9.mono hB8.out.size)).mono hB1.out.size)⟩
end Go.Proofs.YtlonejkmdibkaaaDoor
