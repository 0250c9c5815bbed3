/- The walk of CensusCounts. -/
import Derived.Test.YtbokdbppjiegjaaCnD
import Derived.Test.YtbokdbppjiegjaaCnF
import Derived.BigQuiet
import Derived.Deep.QuietTactic
import Derived.Deep.RegionWith
import Derived.Deep.RegionHeld3
namespace Go.Proofs.Ytbokdbppjiegjaa
open Go.RowKit

/-- The load of a census, behind a name: so a load inside a region that draws its order is one step. -/
noncomputable def ldC (a : Addr) : Sem Value := loadVar 29 a
theorem ldC_eq (a : Addr) : loadVar 29 a = ldC a := rfl
attribute [local go_sem ↓] ldC_eq
theorem CB.load {w : World} {g : Nat} {C : List Int} (h : CB w g C) : (ldC ⟨g, 0, none⟩).run Try.prog w = .ok (.agg (ci C)) w := by
  unfold ldC
  have := run_loadVar_mid (P := Try.prog) w g 0 29 (ci C).toList _ (rangeAt_block h.1) Try.underlying29 rfl (by rw [Array.length_toList]; unfold ci; rw [List.size_toArray, List.length_map, h.2]; kernel_rfl)
  simpa using this

set_option maxRecDepth 100000 in
set_option maxHeartbeats 4000000 in
theorem law_censusCounts (es : List Ev) (A : Option Addr) (n c : Nat) (w : World) (hn : n ≤ 9223372036854775807) (H : Evs w A n es) (hst : ∀ e ∈ es, ∀ (i : Nat) (s : ByteArray), e.cells[i]? = some (.string s) → s.size ≤ 140737488351232) :
    Calls Try.prog 3 #[.slice A n c] w fun r w' => r = .returned (.bool true) ∧ Below w.heap.size w w' := by
  have aw := Lib.hid awake37_any
  have hlen := Lib.hid H.len
  have cF := Lib.hid (few_any es A n c w hn H hst)
  have HH := Lib.hid H
  clear hst H
  go_enter Try.func3, Try.ntmps3
  go_wp2_with fail
  refine cF.out.mono ?_
  rintro r w1 ⟨f, hf, rfl, hb⟩
  have hW1 := Lib.hid hb
  clear hb
  cases f with
  | false =>
    go_wp2_with fail
    refine (aw.out w1).mono ?_
    rintro r w2 ⟨rfl, hb⟩
    go_wp2_with fail
    go_ret
    exact ⟨rfl, hW1.out.trans (hb.mono hW1.out.size)⟩
  | true =>
    have h60 := hf rfl
    clear hf
    go_wp2_with fail
    refine (of_any es A n c w1 (by omega) (HH.out.keep hW1.out)).mono ?_
    rintro r w2 ⟨rfl, hb2⟩
    have hW2 := Lib.hid (hW1.out.trans (hb2.mono hW1.out.size))
    have hg1 := heap_new w2 (.cells cenZ 29)
    have hCB : CB (w2.alloc (.cells (ci (cens es n)) 29)) w2.heap.size (cens es n) := ⟨heap_new w2 _, cens_len _ _⟩
    have hCB := Lib.hid hCB
    have hW3 := Lib.hid (hW2.out.alloc hW2.out.size (.cells (ci (cens es n)) 29))
    clear hb2
    have hsz := Lib.hid (show (Try.prog.info? 29).map (·.size) = some (ci (cens es n)).size by unfold ci; rw [List.size_toArray, List.length_map, cens_len]; kernel_rfl)
    have hsz2 := Lib.hid (show cenZ.size = (ci (cens es n)).size by unfold cenZ ci; simp [cens_len])
    go_wp2_with (first
      | (refine wpList_alloc_row 29 rfl rfl cenZ cen_zero ?_)
      | (refine wpList_store_at 29 _ _ rfl rfl w2.heap.size (ci (cens es n)) rfl rfl 29 cenZ hg1 hsz.out hsz2.out (ci_one _) ?_
         rw [setRow_new]))
    clear hg1
    go_loopw [4] (fun i wr => ∃ k : Nat, k ≤ 8 ∧ i = .int .i64 k ∧ Hid (CB wr w2.heap.size (cens es n)) ∧ Hid (Below w.heap.size w wr)) (fun i _ => 8 - (intOf i).toNat)
    case atStart => exact ⟨0, by omega, rfl, hCB, hW3⟩
    case round =>
      obtain ⟨k, hk, rfl, hC, hB⟩ := hrel
      by_cases hlt : k < 8
      · as_aux_lemma =>
          obtain ⟨hcell, _⟩ := hC.out.cell (i := k) (by omega)
          rw [cens_getD es n (by omega), show n = es.length from hlen.out.symm, cnt_k es hlt] at hcell
          have hcall := Lib.hid (fun q => countK_any es A n c k (wr.drewN q) (by omega) ((HH.out.keep hB.out).keep (drewN_below q)))
          have hl0 : (0 : Int) ≤ (k : Int) := by omega
          have hl1 : (k : Int) < 8 := by omega
          go_wp2_with fail
          go_quiet ((go_at_call 13; exact Calls.quiet_of_same ((hcall.out _).mono (fun e w' h => ⟨h.1, h.2.symm⟩))))
          go_wp2_with fail
          go_roundw
          case rel => exact ⟨k + 1, by omega, by go_num, hC.out.below (drewN_below _), hB.out.trans (Below.mono (drewN_below _) hB.out.size)⟩
          case measure => simp [intOf]; omega
      · clear hCB hW3
        have hCB := hC
        have hW3 := hB
        clear hC hB
        go_wp2_with fail
        go_loopw [5] (fun i wr => ∃ k : Nat, k ≤ 16 ∧ i = .int .i64 k ∧ Hid (CB wr w2.heap.size (cens es n)) ∧ Hid (Below w.heap.size w wr)) (fun i _ => 16 - (intOf i).toNat)
        case atStart => exact ⟨0, by omega, rfl, hCB, hW3⟩
        case round =>
          obtain ⟨k2, hk2, rfl, hC, hB⟩ := hrel
          by_cases hlt2 : k2 < 16
          · as_aux_lemma =>
              obtain ⟨hcell, _⟩ := hC.out.cell (i := 8 + k2) (by omega)
              rw [cens_getD es n (by omega), show n = es.length from hlen.out.symm, cnt_r es hlt2] at hcell
              have hcall := Lib.hid (fun q => countR_any es A n c k2 (wr.drewN q) (by omega) ((HH.out.keep hB.out).keep (drewN_below q)))
              have hl0 : (0 : Int) ≤ (k2 : Int) := by omega
              have hl1 : (k2 : Int) < 16 := by omega
              go_wp2_with fail
              go_quiet ((go_at_call 13; exact Calls.quiet_of_same ((hcall.out _).mono (fun e w' h => ⟨h.1, h.2.symm⟩))))
              go_wp2_with fail
              go_roundw
              case rel => exact ⟨k2 + 1, by omega, by go_num, hC.out.below (drewN_below _), hB.out.trans (Below.mono (drewN_below _) hB.out.size)⟩
              case measure => simp [intOf]; omega
          · clear hCB hW3
            have hCB := hC
            have hW3 := hB
            clear hC hB
            go_wp2_with fail
            go_loopw [6] (fun i wr => ∃ k : Nat, k ≤ 4 ∧ i = .int .i64 k ∧ Hid (CB wr w2.heap.size (cens es n)) ∧ Hid (Below w.heap.size w wr)) (fun i _ => 4 - (intOf i).toNat)
            case atStart => exact ⟨0, by omega, rfl, hCB, hW3⟩
            case round =>
              obtain ⟨k3, hk3, rfl, hC, hB⟩ := hrel
              by_cases hlt3 : k3 < 4
              · as_aux_lemma =>
                  obtain ⟨hcell, _⟩ := hC.out.cell (i := 24 + k3) (by omega)
                  rw [cens_getD es n (by omega), show n = es.length from hlen.out.symm, cnt_m es hlt3] at hcell
                  have hcall := Lib.hid (fun q => countM_any es A n c k3 (wr.drewN q) (by omega) ((HH.out.keep hB.out).keep (drewN_below q)))
                  have hl0 : (0 : Int) ≤ (k3 : Int) := by omega
                  have hl1 : (k3 : Int) < 4 := by omega
                  go_wp2_with fail
                  go_quiet ((go_at_call 13; exact Calls.quiet_of_same ((hcall.out _).mono (fun e w' h => ⟨h.1, h.2.symm⟩))))
                  go_wp2_with fail
                  go_roundw
                  case rel => exact ⟨k3 + 1, by omega, by go_num, hC.out.below (drewN_below _), hB.out.trans (Below.mono (drewN_below _) hB.out.size)⟩
                  case measure => simp [intOf]; omega
              · as_aux_lemma =>
                  clear hCB hW3
                  have cL := fun W (h : Below w.heap.size w W) => refLater_any es A n c W (by omega) (HH.out.keep h)
                  have cS := fun W (h : Below w.heap.size w W) => refSafeN_any es A n c W (by omega) (HH.out.keep h)
                  have hgood : Good (cens es n) := by rw [show n = es.length from hlen.out.symm]; exact Good.of_cens es (by rw [hlen.out]; omega)
                  have v28 := cens_getD es n (i := 28) (by decide)
                  have v29 := cens_getD es n (i := 29) (by decide)
                  have hCl := cens_len es n
                  generalize cens es n = C at hC hgood v28 v29 hCl
                  have cC := fun W => check_good C W hgood
                  rw [← v28] at cL
                  rw [← v29] at cS
                  have cC := Lib.hid cC
                  clear hgood v28 v29 hCl
                  have hS := fun W (h : CB W w2.heap.size C) => (⟨(h.cell (i := 28) (by decide)).1, (h.cell (i := 29) (by decide)).1, h.load⟩ : W.cell? ⟨w2.heap.size, 28, none⟩ = some (.int .i64 (C.getD 28 0)) ∧ W.cell? ⟨w2.heap.size, 29, none⟩ = some (.int .i64 (C.getD 29 0)) ∧ (ldC ⟨w2.heap.size, 0, none⟩).run Try.prog W = .ok (.agg (ci C)) W)
                  generalize C.getD 28 0 = y28 at cL hS
                  generalize C.getD 29 0 = y29 at cS hS
                  have cL := Lib.hid cL
                  have cS := Lib.hid cS
                  have hS := Lib.hid hS
                  go_wp2_with fail
                  have hC0 := Lib.hid (hC.out.below (show Below wr.heap.size wr wr.drew from drewN_below 1))
                  go_region_held3 (fun W => W.cell? ⟨w2.heap.size, 28, none⟩ = some (.int .i64 y28) ∧ W.cell? ⟨w2.heap.size, 29, none⟩ = some (.int .i64 y29) ∧ (ldC ⟨w2.heap.size, 0, none⟩).run Try.prog W = .ok (.agg (ci C)) W) (first | exact hS.out _ hC0.out | exact hS.out _ hC5.out | exact hS.out _ hC7.out)
                    (first
                      | (go_at_call 11; refine (aw.out _).mono ?_; rintro r w5 ⟨rfl, hb5'⟩; have hb5 : Below wr.heap.size wr w5 := (show Below wr.heap.size wr wr.drew from drewN_below 1).trans hb5'; have hW5 := Lib.hid (hB.out.trans (hb5.mono hB.out.size)); have hC5 := Lib.hid (hC.out.below hb5); clear hb5 hb5')
                      | (go_at_call 14; refine (cL.out _ hW5.out).mono ?_; rintro r w6 ⟨rfl, rfl⟩)
                      | (go_at_call 16; refine (cC.out _).mono ?_; rintro r w7 ⟨rfl, hb7⟩; have hW7 := Lib.hid (hW5.out.trans (hb7.mono hW5.out.size)); have hC7 := Lib.hid (hC5.out.below hb7); clear hb7)
                      | (go_at_call 15; refine (cS.out _ hW5.out).mono ?_; rintro r w6 ⟨rfl, rfl⟩))
                  all_goals
                    go_wp2_with fail
                    go_ret
                    exact ⟨rfl, hW7.out⟩
end Go.Proofs.Ytbokdbppjiegjaa
