/- The walk of DenyChecks. -/
import Derived.Test.YtlonejkmdibkaaaDoorDnG
import Derived.Test.YtlonejkmdibkaaaDoorFlV
import Derived.Test.YtlonejkmdibkaaaDoorNmC
import Derived.Deep.RegionHeld3
namespace Go.Proofs.YtlonejkmdibkaaaDoor
open Go.RowKit

def sp24 : ByteArray := ⟨#[32]⟩
theorem spS_deny (s : ByteArray) : spS [denyS, s] = (⟨#[100, 101, 110, 121, 32]⟩ : ByteArray) ++ s ++ sp24 := by
  unfold spS
  simp only [List.foldl_cons, List.foldl_nil]
  have : ((⟨#[]⟩ : ByteArray) ++ denyS ++ ⟨#[32]⟩) = ⟨#[100, 101, 110, 121, 32]⟩ := by decide +kernel
  rw [this]; rfl
theorem denyW_small (gs : List Gr) (ss : List ByteArray) (l : Int) : (denyW gs ss l).size ≤ 6 := by
  unfold denyW
  split
  · decide
  · split
    · decide
    · split <;> decide
theorem pre24 {s : ByteArray} (h : s.size ≤ 6) : ((⟨#[100, 101, 110, 121, 32]⟩ : ByteArray) ++ s).size ≤ 12 := by
  have h1 : (⟨#[100, 101, 110, 121, 32]⟩ : ByteArray).size = 5 := by decide +kernel
  simp only [ByteArray.size_append]
  omega
theorem spS24 {s : ByteArray} (h : s.size ≤ 6) : (spS [denyS, s]).size ≤ 1000000 := by
  have h1 : (⟨#[100, 101, 110, 121, 32]⟩ : ByteArray).size = 5 := by decide +kernel
  have h2 : sp24.size = 1 := by decide +kernel
  rw [spS_deny]
  simp only [ByteArray.size_append]
  omega
theorem built24 (n : Int) (s : ByteArray) : Tryd.prog.built 71 [(0, .int .i64 n), (1, .string s)] = some #[.int .i64 n, .string s] := by kernel_rfl
theorem err_zero : (Tryd.prog.info? 71).bind (·.zero) = some (.agg #[.int .i64 0, .string ⟨#[]⟩]) := by kernel_rfl
theorem denyE_limit {gs : List Gr} {ss : List ByteArray} {l : Int} (h : denyE gs ss l = 0) : 1 ≤ l := by
  unfold denyE at h
  by_cases h1 : grantsN gs ≠ 0
  · rw [if_pos h1] at h; exact absurd h h1
  · rw [if_neg h1] at h
    by_cases h2 : algsN ss ≠ 0
    · rw [if_pos h2] at h; exact absurd h h2
    · rw [if_neg h2] at h
      by_cases h3 : l < 1 ∨ 20 < l
      · rw [if_pos h3] at h; omega
      · omega
theorem few24_lens {gs : List Gr} {ss : List ByteArray} (h : fewB24 gs ss = true) : gs.length ≤ 20 ∧ ss.length ≤ 20 := by
  unfold fewB24 at h
  simp only [Bool.and_eq_true, decide_eq_true_eq] at h
  exact ⟨h.1.1.1, h.1.1.2⟩
set_option maxRecDepth 100000 in
set_option maxHeartbeats 8000000 in
theorem law_denyChecks (gs : List Gr) (ss : List ByteArray) (l : Int) (nm : ByteArray) (A B : Option Addr) (n c m d : Nat) (w : World) (hc : n ≤ c) (hn : c ≤ 9223372036854775807) (hd : m ≤ d) (hm : d ≤ 9223372036854775807)
    (H : Grs w A n gs) (hg : ∀ x ∈ gs, x.1.size ≤ 9223372036854775807) (K : Strs w B m ss) (hs : ∀ s ∈ ss, s.size ≤ 9223372036854775807) (hnm : nm.size ≤ 9223372036854775807) (G : ETy w) :
    Calls Tryd.prog 10 #[.agg #[.slice A n c, .slice B m d, .int .i64 l], .string nm] w fun r w' => r = .returned (.bool true) ∧ Below w.heap.size w w' := by
  have aw := Lib.hid (fun W => awake24_any W)
  have hb1 := below_grow' w (.cells #[.slice A n c, .slice B m d, .int .i64 l] 74)
  have hcs := heap_new w (.cells #[.slice A n c, .slice B m d, .int .i64 l] 74)
  have hlt := (Array.getElem?_eq_some_iff.1 hcs).1
  have hld0 := rangeAt_list (cs := [.slice A n c, .slice B m d, .int .i64 l]) (by exact hcs)
  have hS := Lib.hid (fun W (hb : Below (w.alloc (.cells #[.slice A n c, .slice B m d, .int .i64 l] 74)).heap.size (w.alloc (.cells #[.slice A n c, .slice B m d, .int .i64 l] 74)) W) => (⟨(hb.cell (p := ⟨w.heap.size, 0, none⟩) hlt).trans (cell_of_row _ _ 0 _ _ _ hcs), (hb.cell (p := ⟨w.heap.size, 1, none⟩) hlt).trans (cell_of_row _ _ 1 _ _ _ hcs), (hb.cell (p := ⟨w.heap.size, 2, none⟩) hlt).trans (cell_of_row _ _ 2 _ _ _ hcs)⟩ :
    W.cell? ⟨w.heap.size, 0, none⟩ = some (.slice A n c) ∧ W.cell? ⟨w.heap.size, 1, none⟩ = some (.slice B m d) ∧ W.cell? ⟨w.heap.size, 2, none⟩ = some (.int .i64 l)))
  have cF := fun W (h : Below w.heap.size w W) => few24_any gs ss l A B n c m d W (by omega) (by omega) (H.keep h) hg (K.keep h) hs
  have cU := fun W => user_any nm W hnm
  have cV := fun W => refUser_any nm W hnm
  have cC := Lib.hid (fun W (h : Below w.heap.size w W) => dnCheck_any gs ss l A B n c m d W hc hn hd hm (H.keep h) hg (K.keep h) hs)
  have cN := Lib.hid (fun W (h : Below w.heap.size w W) (h1 : n ≤ 1000000) (h2 : m ≤ 1000000) => new_any gs ss l A B n c m d W hc hn hd hm h1 h2 (H.keep h) hg (K.keep h) hs)
  have cR := Lib.hid (fun W (h : Below w.heap.size w W) => refDnCheck_any gs ss l A B n c m d W hc hn hd hm (H.keep h) hg (K.keep h) hs)
  have hKS := Lib.hid (fun W (h : Below w.heap.size w W) => K.keep h)
  have hgl := H.len
  have hsl := K.len
  have hfew := @few24_lens gs ss
  have hB1 := Lib.hid hb1
  have GG := Lib.hid G
  clear H K hg hs hb1 hcs hlt G
  generalize fewB24 gs ss = q at cF hfew
  generalize userB nm = qu at cU cV
  have cU := Lib.hid cU
  have cV := Lib.hid cV
  have cF := Lib.hid cF
  by_cases hq : q = true ∧ nm.size ≤ 100
  case neg =>
    have hq2 : q = false ∨ (q = true ∧ 100 < nm.size) := by
      cases q with
      | false => exact .inl rfl
      | true => exact .inr ⟨rfl, by have : ¬ nm.size ≤ 100 := fun h => hq ⟨rfl, h⟩
                                    omega⟩
    clear hq hfew hgl hsl
    rcases hq2 with rfl | ⟨rfl, h100⟩
    all_goals
      go_enter Tryd.func10, Tryd.ntmps10
      go_upto_region 1 with fail
      generalize w.alloc (.cells #[.slice A n c, .slice B m d, .int .i64 l] 74) = w1 at hS hB1 hld0 ⊢
      go_wp2_with (first
        | (refine wpList_load_at 74 (.tmp 2) rfl rfl w.heap.size 0 rfl [.slice A n c, .slice B m d, .int .i64 l] _ hld0 Tryd.underlying74 rfl (by kernel_rfl) ?_)
        | (go_at_call 47; (with_reducible refine (cF.out _ hB1.out).mono ?_); rintro r w2 ⟨rfl, hb2⟩; have hB2 := Lib.hid (hB1.out.trans (hb2.mono hB1.out.size)); clear hb2)
        | (go_at_call 48; refine (aw.out _).mono ?_; rintro r w8 ⟨rfl, hb8⟩))
      go_ret
      exact ⟨rfl, hB2.out.trans (hb8.mono hB2.out.size)⟩
  case pos =>
    obtain ⟨rfl, h100⟩ := hq
    obtain ⟨k1, k2⟩ := hfew rfl
    have cN := Lib.hid (fun W (h : Below w.heap.size w W) => cN.out W h (by omega) (by omega))
    have m1 : m ≤ 20 := by omega
    have m2 : m ≤ 1000000 := by omega
    clear hfew hgl hsl k1 k2
    by_cases h0 : denyE gs ss l = 0
    · have hl1 := denyE_limit h0
      have cC := Lib.hid (fun W (h : Below w.heap.size w W) => Calls.mono (cC.out W h) (fun r w' h => (show r = .returned .nilIface ∧ Below W.heap.size W w' by unfold DnR at h; rwa [if_pos h0] at h)))
      have cN := Lib.hid (fun W (h : Below w.heap.size w W) => Calls.mono (cN.out W h) (fun r w' h => (show ∃ g A n c B m d, r = .returned (.tuple #[.pointer (some ⟨g, 0, none⟩), .nilIface]) ∧ GateB w' g A B n c m d l 0 ∧ Grs w' A n gs ∧ Strs w' B m ss ∧ W.heap.size ≤ g ∧ Below W.heap.size W w' by unfold NewR at h; rwa [if_pos h0] at h)))
      have cR := fun W (h : Below w.heap.size w W) => cR.out W h
      rw [h0] at cR
      generalize denyW gs ss l = s at cR
      have cR := Lib.hid cR
      clear h0 m1
      go_enter Tryd.func10, Tryd.ntmps10
      go_upto_region 1 with fail
      generalize w.alloc (.cells #[.slice A n c, .slice B m d, .int .i64 l] 74) = w1 at hS hB1 hld0 ⊢
      obtain ⟨s0, s1, s2⟩ := hS.out w1 (Below.refl _ _)
      go_upto_region 9 with (first
        | (refine wpList_load_at 74 (.tmp 2) rfl rfl w.heap.size 0 rfl [.slice A n c, .slice B m d, .int .i64 l] _ hld0 Tryd.underlying74 rfl (by kernel_rfl) ?_)
        | (go_at_call 47; (with_reducible refine (cF.out _ hB1.out).mono ?_); rintro r w2 ⟨rfl, hb2⟩; have hD2 := Lib.hid hb2; have hB2 := Lib.hid (hB1.out.trans (hb2.mono hB1.out.size)); obtain ⟨s3, s4, s5⟩ := hS.out _ hb2; clear hb2)
        | (go_at_call 49; (with_reducible refine (cU.out _).mono ?_); rintro r w4 ⟨rfl, rfl⟩)
        | (go_at_call 50; (with_reducible refine (cV.out _).mono ?_); rintro r w4 ⟨rfl, rfl⟩)
        | (go_at_call 51; (with_reducible refine (cC.out _ hB2.out).mono ?_); rintro r w5 ⟨rfl, hb5⟩; have hD5 := Lib.hid (hD2.out.trans (hb5.mono hD2.out.size)); have hB5 := Lib.hid (hB2.out.trans (hb5.mono hB2.out.size)); obtain ⟨s6, s7, s8⟩ := hS.out _ hD5.out; clear hb5)
        | (go_at_call 52; (with_reducible refine (cN.out _ hB5.out).mono ?_); rintro r w6 ⟨g, A6, n6, c6, B6, m6, d6, rfl, hG6, _, hS6, _, hb6⟩; have hG6 := Lib.hid hG6; have hS6 := Lib.hid hS6; have hD6 := Lib.hid (hD5.out.trans (hb6.mono hD5.out.size)); have hB6 := Lib.hid (hB5.out.trans (hb6.mono hB5.out.size)); obtain ⟨s9, s10, s11⟩ := hS.out _ hD6.out; clear hb6)
        | (go_at_call 53; (with_reducible refine (cR.out _ hB6.out).mono ?_); rintro r w7 ⟨rfl, hb7⟩; have hG7 := Lib.hid (hG6.out.keep hb7); have hS7 := Lib.hid (hS6.out.keep hb7); have hD7 := Lib.hid (hD6.out.trans (hb7.mono hD6.out.size)); have hB7 := Lib.hid (hB6.out.trans (hb7.mono hB6.out.size)); clear hb7))
      (try clear s0 s1 s2); (try clear s3 s4 s5); (try clear s6 s7 s8); (try clear s9 s10 s11); (try clear hld0)
      have hm6 : m6 ≤ 1000000 := by have h1 := hS7.out.len; have h2 := (hKS.out _ hB7.out).len; omega
      have d0 := Lib.hid (show Below w7.heap.size w7 w7.drew from drewN_below 1)
      have hT := Lib.hid (fun W (h : Below w7.heap.size w7 W) => (hS.out W (hD7.out.trans (h.mono hD7.out.size))).2.1)
      have cFa := Lib.hid (fun W (h : Below w7.heap.size w7 W) => failures_any g A6 B6 n6 c6 m6 d6 l 0 W (hG7.out.keep h))
      have cFu := Lib.hid (fun W (h : Below w7.heap.size w7 W) => Calls.mono (full_any g A6 B6 n6 c6 m6 d6 l 0 W (hG7.out.keep h)) (fun r w' ⟨h1, q, h2⟩ => (⟨by rw [h1, decide_eq_false (by omega)], by rw [h2]; exact drewN_below q⟩ : r = Ending.returned (.bool false) ∧ Below W.heap.size W w')))
      have cAl := Lib.hid (fun W (h : Below w7.heap.size w7 W) => algsG_any ss g A6 B6 n6 c6 m6 d6 l 0 W (hG7.out.keep h) (hS7.out.keep h) hm6)
      have cSa := Lib.hid (fun W A' c' (h : Below w7.heap.size w7 W) (hA : Strs W A' m6 ss) => Calls.mono (same_any ss ss A' B m6 c' m d W (by omega) (by omega) hA (hKS.out W (hB7.out.trans (h.mono hB7.out.size)))) (fun r w' ⟨h1, q, h2⟩ => (⟨by rw [h1, decide_eq_true rfl], by rw [h2]; exact drewN_below q⟩ : r = Ending.returned (.bool true) ∧ Below W.heap.size W w')))
      go_region_held3 (fun W => W.cell? ⟨w.heap.size, 1, none⟩ = some (.slice B m d))
        (first | exact hT.out _ d0.out | exact hT.out _ d1.out | exact hT.out _ d2.out | exact hT.out _ d3.out | exact hT.out _ d4.out)
        (first
          | (go_at_call 48; (with_reducible refine (aw.out _).mono ?_); rintro r v1 ⟨rfl, hb⟩; have d1 := Lib.hid (d0.out.trans (hb.mono d0.out.size)); clear hb)
          | (go_at_call 54; (with_reducible refine (cFa.out _ d1.out).mono ?_); rintro r v2 ⟨rfl, rfl⟩)
          | (go_at_call 55; (with_reducible refine (cFu.out _ d1.out).mono ?_); rintro r v2 ⟨rfl, hb⟩; have d2 := Lib.hid (d1.out.trans (hb.mono d1.out.size)); clear hb)
          | (go_at_call 56; (with_reducible refine (cAl.out _ d2.out).mono ?_); rintro r v3 ⟨A3, c3, rfl, hS3, hb⟩; have hS3 := Lib.hid hS3; have d3 := Lib.hid (d2.out.trans (hb.mono d2.out.size)); clear hb)
          | (go_at_call 28; (with_reducible refine (cSa.out _ _ _ d3.out hS3.out).mono ?_); rintro r v4 ⟨rfl, hb⟩; have d4 := Lib.hid (d3.out.trans (hb.mono d3.out.size)); clear hb))
      go_wp2_with fail
      go_ret
      exact ⟨rfl, hB7.out.trans (d4.out.mono hB7.out.size)⟩
    · have cC := (fun W (h : Below w.heap.size w W) => Calls.mono (cC.out W h) (fun r w' h => (show ∃ T u, r = .returned (.iface T u) ∧ isErr w' (some (denyE gs ss l)) [denyS, denyW gs ss l] (.iface T u) ∧ Below W.heap.size W w' by unfold DnR at h; rwa [if_neg h0] at h)))
      have cN := (fun W (h : Below w.heap.size w W) => Calls.mono (cN.out W h) (fun r w' h => (show ∃ T u, r = .returned (.tuple #[.pointer none, .iface T u]) ∧ isErr w' (some (denyE gs ss l)) [denyS, denyW gs ss l] (.iface T u) ∧ Below W.heap.size W w' by unfold NewR at h; rwa [if_neg h0] at h)))
      have cR := fun W (h : Below w.heap.size w W) => cR.out W h
      have hsm := denyW_small gs ss l
      have hW := fun T u W (hE : isErr W (some (denyE gs ss l)) [denyS, denyW gs ss l] (.iface T u)) (h : Below w.heap.size w W) => wrong07_any (denyE gs ss l) [denyS, denyW gs ss l] (.iface T u) W (by simp) (spS24 hsm) hE (GG.out.keep h)
      simp only [spS_deny] at hW
      have hne : (denyE gs ss l == 0) = false := beq_eq_false_iff_ne.2 h0
      have hzE := err_zero
      generalize denyE gs ss l = e at cC cN cR hW hne
      generalize denyW gs ss l = s at cC cN cR hW hsm
      have s12 : ((⟨#[100, 101, 110, 121, 32]⟩ : ByteArray) ++ s).size ≤ 12 := pre24 hsm
      have cC := Lib.hid cC
      have cN := Lib.hid cN
      have cR := Lib.hid cR
      have hW := Lib.hid hW
      clear h0 m1
      go_enter Tryd.func10, Tryd.ntmps10
      go_upto_region 1 with fail
      generalize w.alloc (.cells #[.slice A n c, .slice B m d, .int .i64 l] 74) = w1 at hS hB1 hld0 ⊢
      obtain ⟨s0, s1, s2⟩ := hS.out w1 (Below.refl _ _)
      go_wp2_with (first
        | (refine wpList_load_at 74 (.tmp 2) rfl rfl w.heap.size 0 rfl [.slice A n c, .slice B m d, .int .i64 l] _ hld0 Tryd.underlying74 rfl (by kernel_rfl) ?_)
        | (go_at_call 47; (with_reducible refine (cF.out _ hB1.out).mono ?_); rintro r w2 ⟨rfl, hb2⟩; have hD2 := Lib.hid hb2; have hB2 := Lib.hid (hB1.out.trans (hb2.mono hB1.out.size)); obtain ⟨s3, s4, s5⟩ := hS.out _ hb2; clear hb2)
        | (go_at_call 49; (with_reducible refine (cU.out _).mono ?_); rintro r w4 ⟨rfl, rfl⟩)
        | (go_at_call 50; (with_reducible refine (cV.out _).mono ?_); rintro r w4 ⟨rfl, rfl⟩)
        | (go_at_call 51; (with_reducible refine (cC.out _ hB2.out).mono ?_); rintro r w5 ⟨T5, u5, rfl, hE5, hb5⟩; have hE5 := Lib.hid hE5; have hD5 := Lib.hid (hD2.out.trans (hb5.mono hD2.out.size)); have hB5 := Lib.hid (hB2.out.trans (hb5.mono hB2.out.size)); obtain ⟨s6, s7, s8⟩ := hS.out _ hD5.out; clear hb5)
        | (go_at_call 52; (with_reducible refine (cN.out _ hB5.out).mono ?_); rintro r w6 ⟨T6, u6, rfl, hF6, hb6⟩; have hE6 := Lib.hid (hE5.out.keep hb6); have hF6 := Lib.hid hF6; have hD6 := Lib.hid (hD5.out.trans (hb6.mono hD5.out.size)); have hB6 := Lib.hid (hB5.out.trans (hb6.mono hB5.out.size)); obtain ⟨s9, s10, s11⟩ := hS.out _ hD6.out; clear hb6)
        | (go_at_call 53; (with_reducible refine (cR.out _ hB6.out).mono ?_); rintro r w7 ⟨rfl, hb7⟩; have hE7 := Lib.hid (hE6.out.keep hb7); have hF7 := Lib.hid (hF6.out.keep hb7); have hB7 := Lib.hid (hB6.out.trans (hb7.mono hB6.out.size)); have hn7 := heap_new w7 (.cells #[.int .i64 0, .string ⟨#[]⟩] 71); clear hb7)
        | (refine wpList_build_as 71 _ rfl rfl #[.int .i64 e, .string ((⟨#[100, 101, 110, 121, 32]⟩ : ByteArray) ++ s ++ sp24)] ?_ ?_; exact built24 _ _)
        | (refine wpList_alloc_row 71 rfl rfl #[.int .i64 0, .string ⟨#[]⟩] hzE ?_)
        | (refine wpList_store_at 71 _ _ rfl rfl w7.heap.size #[.int .i64 e, .string ((⟨#[100, 101, 110, 121, 32]⟩ : ByteArray) ++ s ++ sp24)] rfl rfl 71 #[.int .i64 0, .string ⟨#[]⟩] hn7 (by kernel_rfl) rfl (by simp [Value.oneCell']) ?_; rw [setRow_new])
        | (go_at_call 48; (with_reducible refine (aw.out _).mono ?_); rintro r w8 ⟨rfl, hb8⟩; have hN8 := below_grow' w7 (.cells #[.int .i64 e, .string ((⟨#[100, 101, 110, 121, 32]⟩ : ByteArray) ++ s ++ sp24)] 71); have hg8 := heap_new w7 (.cells #[.int .i64 e, .string ((⟨#[100, 101, 110, 121, 32]⟩ : ByteArray) ++ s ++ sp24)] 71); have hr8 := rangeAt_keep (rangeAt_list (cs := [.int .i64 e, .string ((⟨#[100, 101, 110, 121, 32]⟩ : ByteArray) ++ s ++ sp24)]) hg8) hb8 (Array.getElem?_eq_some_iff.1 hg8).1; have hlt8 := Nat.lt_of_lt_of_le (Array.getElem?_eq_some_iff.1 hg8).1 hb8.size; have hM8 := hN8.trans (hb8.mono hN8.size); have hE8 := Lib.hid (hE7.out.keep hM8); have hF8 := Lib.hid (hF7.out.keep hM8); have hB8 := Lib.hid (hB7.out.trans (hM8.mono hB7.out.size)); clear hb8 hN8 hg8 hM8)
        | (refine wpList_load_at 71 (.tmp 10) rfl (by rfl) w7.heap.size 0 rfl [.int .i64 e, .string ((⟨#[100, 101, 110, 121, 32]⟩ : ByteArray) ++ s ++ sp24)] _ (by assumption) Tryd.underlying71 rfl (by kernel_rfl) ?_)
        | (go_at_call 46; (with_reducible refine (hW.out _ _ _ hE8.out hB8.out).mono ?_); rintro r w9 ⟨rfl, hb9⟩; have hr9 := rangeAt_keep hr8 hb9 hlt8; have hF9 := Lib.hid (hF8.out.keep hb9); have hB9 := Lib.hid (hB8.out.trans (hb9.mono hB8.out.size)); clear hb9)
        | (go_at_call 46; (with_reducible refine (hW.out _ _ _ hF9.out hB9.out).mono ?_); rintro r w10 ⟨rfl, hb10⟩; have hB10 := Lib.hid (hB9.out.trans (hb10.mono hB9.out.size)); clear hb10))
      go_ret
      exact ⟨rfl, hB10.out⟩
end Go.Proofs.YtlonejkmdibkaaaDoor
