/- The walk of CensusSessions. -/
import Derived.Test.YtkgkpoiacbjdfaaCsB
import Derived.Test.YtkgkpoiacbjdfaaCnF
import Derived.Test.YtkgkpoiacbjdfaaCnD
import Derived.Test.YtkgkpoiacbjdfaaOpenEv
namespace Go.Proofs.Ytkgkpoiacbjdfaa
open Go.RowKit Go.ChangeShapes Go.WideShapes Go.Deep

set_option maxRecDepth 100000 in
theorem open_evs_wc {H : Type} {enc : TypeId × Value → H} {w : World} {base : Nat} {spare : Nat → Bool} {held : Bool} {r : Reach} {b0 : Nat} {v : Value} {d : DataW H} {ps : List MemPlace}
    (hv : Value.okWide Try.prog w r b0 22 v) (h : DataW.Trod enc Try.prog w base spare held 22 v d ps) :
    ∃ A n c es, v = .slice A n c ∧ n ≤ c ∧ c ≤ 9223372036854775807 ∧ Evs w A n es ∧ ∀ e ∈ es, ∀ (i : Nat) (s : ByteArray), e.cells[i]? = some (.string s) → s.size ∈ d.weights Try.prog 22 := by
  obtain ⟨a, len, cap, rfl⟩ := okWide_slice Try.underlying22 hv
  obtain ⟨fuel, hf⟩ := h
  obtain ⟨A, n, c, zs, hcs, hl, hm, hr, hok⟩ := open_rows_w Try.underlying22 ev_flat (by kernel_rfl) (by decide) hf
  obtain ⟨es, rfl, _⟩ := evs_of_rows zs (fun z hz => (hok z hz).1)
  have : Value.slice a len cap = .slice A n c := by simpa [Value.cells] using hcs
  refine ⟨A, n, c, es, this, hl, ?_, hr, fun e he i s hs => (hok e.cells (List.mem_map_of_mem he)).2 i s hs⟩
  unfold maxLen at hm
  omega
theorem busy_all {es : List Ev} {S : List Int} (hS : S.Pairwise fun x y => x < y) : ((busyTo es S S.length).2 = 0 → (busyTo es S S.length).1 = 0) ∧ (0 < (busyTo es S S.length).2 → (busyTo es S S.length).1 ∈ S ∧ evN es (busyTo es S S.length).1 = (busyTo es S S.length).2) ∧
    (∀ s ∈ S, evN es s ≤ (busyTo es S S.length).2) ∧ (∀ s ∈ S, evN es s = (busyTo es S S.length).2 → 0 < (busyTo es S S.length).2 → (busyTo es S S.length).1 ≤ s) := by
  have h := busy_ok (es := es) hS S.length (Nat.le_refl _)
  have ht : S.take S.length = S := List.take_of_length_le (Nat.le_refl _)
  refine ⟨h.zero, fun h0 => ?_, fun s hs => h.most s (by rw [ht]; exact hs), fun s hs => h.least s (by rw [ht]; exact hs)⟩
  have := h.pos h0
  rw [ht] at this
  exact this
theorem aw37 (w : World) : Calls Try.prog 15 #[] w fun r w' => r = .returned (.bool true) ∧ Below w.heap.size w w' := awake37_any w

set_option maxRecDepth 100000 in
set_option maxHeartbeats 8000000 in
theorem law_censusSessions (es : List Ev) (A : Option Addr) (n c : Nat) (w : World) (hc : n ≤ c) (hc2 : c ≤ 9223372036854775807) (H : Evs w A n es) (hst : ∀ e ∈ es, ∀ (i : Nat) (s : ByteArray), e.cells[i]? = some (.string s) → s.size ≤ 140737488351232) :
    Calls Try.prog 4 #[.slice A n c] w fun r w' => r = .returned (.bool true) ∧ Below w.heap.size w w' := by
  have aw := Lib.hid aw37
  have hlen := Lib.hid H.len
  have cF := Lib.hid (few_any es A n c w (by omega) H hst)
  have HH := Lib.hid H
  clear hst
  go_enter Try.func4, Try.ntmps4
  go_wp2_with fail
  refine cF.out.mono ?_
  rintro r w0 ⟨f, hf, rfl, hb⟩
  have hW0 := Lib.hid hb
  clear hb cF
  cases f with
  | false =>
    go_wp2_with fail
    refine (aw.out w0).mono ?_
    rintro r w2 ⟨rfl, hb⟩
    go_wp2_with fail
    go_ret
    exact ⟨rfl, hW0.out.trans (hb.mono hW0.out.size)⟩
  | true =>
    have h60 := hf rfl
    clear hf
    have cS := (fun W (h : Below w.heap.size w W) => (show Calls Try.prog 16 #[.slice A n c] W (fun r w' => ∃ A m c, r = .returned (.slice A m c) ∧ m = (nubs (sesTo es n)).length ∧ Ints w' A m (nubs (sesTo es n)) ∧ Below W.heap.size W w') from sessions_any es A n c W (by omega) (HH.out.keep h)))
    have cL := (fun W (h : Below w.heap.size w W) => (show Calls Try.prog 17 #[.slice A n c] W (fun r w' => ∃ A m c, r = .returned (.slice A m c) ∧ m = (nubs (lostTo es n)).length ∧ Ints w' A m (nubs (lostTo es n)) ∧ Below W.heap.size W w') from lost_any es A n c W (by omega) hc hc2 (HH.out.keep h)))
    have cB := (fun W (h : Below w.heap.size w W) => busy_any es A n c W (by omega) (HH.out.keep h))
    have cE := Lib.hid (fun s W (h : Below w.heap.size w W) => refEvents_any es A n c s W (by omega) (HH.out.keep h))
    have cR := Lib.hid (fun s W (h : Below w.heap.size w W) => refLost_any es A n c s W (by omega) (HH.out.keep h))
    have hSl := Nat.le_trans (nubs_len (sesTo es n)) (sesTo_len es n)
    have hTl := Nat.le_trans (nubs_len (lostTo es n)) (lostTo_len es n)
    have hbok := busy_all (es := es) (nubs_pair (sesTo es n))
    have hSr := nubs_rises (sesTo es n)
    have hTr := nubs_rises (lostTo es n)
    have hSm := (fun s => (nubs_mem (l := sesTo es n) (x := s)).trans (sesTo_mem (es := es) (s := s) (k := n) (by rw [hlen.out]; omega)))
    have hTm := (fun s => (show hasI (nubs (lostTo es n)) s = lostR es s by rw [hasI_nubs]; exact lost_iff (by rw [hlen.out]; omega)))
    have hev := Lib.hid (fun s => (show evN es s ≤ 60 from Nat.le_trans List.countP_le_length (by rw [hlen.out]; exact h60)))
    generalize nubs (sesTo es n) = S at cS cB hSl hbok hSr hSm
    generalize nubs (lostTo es n) = T at cL hTl hTr hTm
    have hBv : ∀ B : Int × Nat, busyV B = .tuple #[.int .i64 B.1, .int .i64 B.2] := fun _ => rfl
    rw [hBv] at cB
    generalize busyTo es S S.length = B at cB hbok
    obtain ⟨best, nn⟩ := B
    simp only at cB hbok
    have hnn : nn ≤ 60 := by
      by_cases h0 : 0 < nn
      · rw [← (hbok.2.1 h0).2]; exact hev.out best
      · omega
    have hTm2 := Lib.hid (fun s (h : s ∈ T) => (show lostR es s = true by rw [← hTm s, hasI_mem]; exact decide_eq_true h))
    have hSm2 := Lib.hid (fun s => (show hasI S s = decide (0 < evN es s) by rw [hasI_mem, Bool.eq_iff_iff]; simp only [decide_eq_true_eq]; exact hSm s))
    have hSm3 := Lib.hid (fun s => hSm s)
    have hTm3 := Lib.hid hTm
    have cS2 := Lib.hid cS
    have cL2 := Lib.hid cL
    have cB2 := Lib.hid cB
    have hbk := Lib.hid hbok
    have hSr2 := Lib.hid hSr
    have hTr2 := Lib.hid hTr
    clear cS cL cB hbok hSr hTr hSm hTm hBv
    go_wp2_with (first
      | (go_at_call 16; refine (cS2.out w0 hW0.out).mono ?_; rintro r w1 ⟨A1, m1, c1, rfl, hm1, hI1, hb1⟩
         have hW1 := Lib.hid (hW0.out.trans (hb1.mono hW0.out.size))
         rw [← hm1] at hSl
         have hI1a := Lib.hid hI1
         have hm1a := Lib.hid hm1
         clear hb1 hI1 hm1)
      | (go_at_call 17; refine (cL2.out w1 hW1.out).mono ?_; rintro r w2 ⟨A2, m2, c2, rfl, hm2, hI2, hb2⟩
         have hW2 := Lib.hid (hW1.out.trans (hb2.mono hW1.out.size))
         rw [← hm2] at hTl
         have hI1b := Lib.hid (hI1a.out.keep hb2)
         have hI2b := Lib.hid hI2
         have hm2a := Lib.hid hm2
         clear hb2 hI2 hm2 hI1a)
      | (go_at_call 18; refine (cB2.out w2 hW2.out).mono ?_; rintro r w3 ⟨rfl, hb3⟩
         have hW3 := Lib.hid (hW2.out.trans (hb3.mono hW2.out.size))
         have hI1 := Lib.hid (hI1b.out.keep hb3)
         have hI2 := Lib.hid (hI2b.out.keep hb3)
         have hd1 : decide (n < m1) = false := decide_eq_false (by omega)
         have hd2 : decide (n < m2) = false := decide_eq_false (by omega)
         clear hb3 hI1b hI2b))
    have cRi := risesC_any S A1 m1 c1 w3 (by omega) hI1.out
    rw [hSr2.out] at cRi
    have cRi2 := Lib.hid cRi
    have cRj := fun W (h : Below w3.heap.size w3 W) => risesC_any T A2 m2 c2 W (by omega) (hI2.out.keep h)
    rw [hTr2.out] at cRj
    have cRj2 := Lib.hid cRj
    clear cRi cRj
    have hz : ((nn : Int) != (evN es best : Int) && decide (0 < (nn : Int))) = false := by
      by_cases h0 : 0 < nn
      · rw [(hbk.out.2.1 h0).2]; simp
      · have : decide (0 < (nn : Int)) = false := decide_eq_false (by omega)
        rw [this, Bool.and_false]
    have hevb := hev.out best
    generalize hgE : evN es best = eb at hz hevb
    have cEb := cE.out best
    rw [hgE] at cEb
    have cEb2 := Lib.hid cEb
    clear hgE cEb
    have hcase : ((nn : Int) != (eb : Int)) = false ∨ (((nn : Int) != (eb : Int)) = true ∧ decide (0 < (nn : Int)) = false) := by
      revert hz
      cases ((nn : Int) != (eb : Int)) <;> cases decide (0 < (nn : Int)) <;> simp
    clear hz
    have hjoin : True := trivial
    have hcase2 : ((nn : Int) != (eb : Int)) = false ∨ (((nn : Int) != (eb : Int)) = true ∧ nn = 0) := by
      rcases hcase with h | ⟨h1, h2⟩
      · exact .inl h
      · exact .inr ⟨h1, by have := of_decide_eq_false h2; omega⟩
    clear hcase
    rcases hcase2 with e1 | ⟨e1, e2⟩
    · clear hjoin
      go_wp2_with (first
        | ((go_at_call 19); (with_reducible refine cRi2.out.mono ?_); rintro r w4 ⟨rfl, hb4⟩; have hD4 := Lib.hid hb4; clear hb4)
        | ((go_at_call 19); (with_reducible refine (cRj2.out _ hD4.out).mono ?_); rintro r w5 ⟨rfl, hb5⟩; have hD5 := Lib.hid (hD4.out.trans (hb5.mono hD4.out.size)); clear hb5)
        | ((go_at_call 20); (with_reducible refine (cEb2.out w5 (hW3.out.trans (hD5.out.mono hW3.out.size))).mono ?_); rintro r w6 ⟨rfl, rfl⟩))
      have hD6 := Lib.hid hD5.out
      have hW6 := Lib.hid (hW3.out.trans (hD6.out.mono hW3.out.size))
      have hJ1 := Lib.hid (hI1.out.keep hD6.out)
      have hJ2 := Lib.hid (hI2.out.keep hD6.out)
      clear e1
      go_loopw [7] (fun i wr => ∃ k : Nat, k ≤ n ∧ i = .int .i64 k ∧ Hid (Below w5.heap.size w5 wr)) (fun i _ => n - (intOf i).toNat)
      case atStart => exact ⟨0, by omega, rfl, Below.refl _ _⟩
      case round =>
        obtain ⟨k, hk, rfl, hD⟩ := hrel
        have hDw := Lib.hid (hW6.out.trans (hD.out.mono hW6.out.size))
        by_cases hlt : k < n
        · obtain ⟨b, off, e, rfl, hb, he, hr⟩ := H.row hlt
          have hf1 := (Ev.flds (rangeAt_keep hr hDw.out hb)).2.1
          have cEk := cE.out e.ses wr hDw.out
          have cRk := cR.out e.ses wr hDw.out
          have cH1 := hasC_any S A1 m1 c1 e.ses wr (by omega) (hJ1.out.keep hD.out)
          have cH2 := hasC_any T A2 m2 c2 e.ses wr (by omega) (hJ2.out.keep hD.out)
          rw [hSm2.out] at cH1
          rw [hTm3.out] at cH2
          have h3 := hbk.out.2.2.1 e.ses
          have h4 := hbk.out.2.2.2 e.ses
          have h5 := hSm3.out e.ses
          have hevk := hev.out e.ses
          clear hr he
          generalize lostR es e.ses = lq at cRk cH2
          generalize evN es e.ses = mm at cEk cH1 h3 h4 h5 hevk
          have hmn : mm ≤ nn := by
            by_cases h0 : 0 < mm
            · exact h3 (h5.2 h0)
            · omega
          have d2 : decide (nn < mm) = false := decide_eq_false (by omega)
          have hc3 : ((mm : Int) == (nn : Int)) = false ∨ (((mm : Int) == (nn : Int)) = true ∧ decide (0 < nn) = false) ∨ (((mm : Int) == (nn : Int)) = true ∧ decide (0 < nn) = true ∧ decide (e.ses < best) = false) := by
            by_cases hmm : mm = nn
            · by_cases h0 : 0 < nn
              · exact .inr (.inr ⟨by rw [hmm]; simp, decide_eq_true h0, decide_eq_false (by have := h4 (h5.2 (by omega)) hmm h0; omega)⟩)
              · exact .inr (.inl ⟨by rw [hmm]; simp, decide_eq_false h0⟩)
            · exact .inl (by rw [beq_eq_false_iff_ne]; omega)
          generalize hdq : decide (0 < mm) = dq at cH1
          clear h3 h4 h5 hmn
          have cEk := Lib.hid cEk
          have cRk := Lib.hid cRk
          have cH1 := Lib.hid cH1
          have cH2 := Lib.hid cH2
          rcases hc3 with f1 | ⟨f1, f2⟩ | ⟨f1, f2, f3⟩ <;> cases dq <;> cases lq
          all_goals
            go_wp2_with (first
              | ((go_at_call 20); (with_reducible refine (cEk.out).mono ?_); rintro r w6 ⟨rfl, rfl⟩)
              | ((go_at_call 22); (with_reducible refine (cRk.out).mono ?_); rintro r w6 ⟨rfl, rfl⟩)
              | ((go_at_call 21); (with_reducible refine (cH1.out).mono ?_); rintro r w6 ⟨rfl, rfl⟩)
              | ((go_at_call 21); (with_reducible refine (cH2.out).mono ?_); rintro r w6 ⟨rfl, rfl⟩))
            go_roundw
            case rel => exact ⟨k + 1, by omega, by go_num, hD⟩
            case measure => simp [intOf]; omega
        · obtain ⟨wo, rfl⟩ : ∃ wo : World, wo = wr := ⟨_, rfl⟩
          have hK1 := Lib.hid (hJ1.out.keep hD.out)
          have hK2 := Lib.hid (hJ2.out.keep hD.out)
          have hm1n : m1 ≤ n := hSl
          clear hD
          go_wp2_with fail
          go_loopw [10] (fun i wr => ∃ j : Nat, j ≤ m1 ∧ i = .int .i64 j ∧ Hid (Below wo.heap.size wo wr)) (fun i _ => m1 - (intOf i).toNat)
          case atStart => exact ⟨0, by omega, rfl, Below.refl _ _⟩
          case round =>
            obtain ⟨j, hj, rfl, hD⟩ := hrel
            have hDx := Lib.hid (hDw.out.trans (hD.out.mono hDw.out.size))
            by_cases hjt : j < m1
            · obtain ⟨b, off, x, rfl, hb, hx, hcx⟩ := (hK1.out.keep hD.out).at_ hjt
              have hpos := (hSm3.out x).1 (List.mem_of_getElem? hx)
              have hevx := hev.out x
              have cEx := cE.out x wr hDx.out
              clear hx
              generalize evN es x = mm at cEx hpos hevx
              have cEx := Lib.hid cEx
              have hmz : ((mm : Int) == 0) = false := by rw [beq_eq_false_iff_ne]; omega
              clear hpos
              go_wp2_with ((go_at_call 20); (with_reducible refine (cEx.out).mono ?_); rintro r w6 ⟨rfl, rfl⟩)
              go_roundw
              case rel => exact ⟨j + 1, by omega, by go_num, hD⟩
              case measure => simp [intOf]; omega
            · obtain ⟨wp, rfl⟩ : ∃ wp : World, wp = wr := ⟨_, rfl⟩
              have hL2 := Lib.hid (hK2.out.keep hD.out)
              clear hD
              go_wp2_with fail
              go_loopw [11] (fun i wr => ∃ q : Nat, q ≤ m2 ∧ i = .int .i64 q ∧ Hid (Below wp.heap.size wp wr)) (fun i _ => m2 - (intOf i).toNat)
              case atStart => exact ⟨0, by omega, rfl, Below.refl _ _⟩
              case round =>
                obtain ⟨q, hq, rfl, hG⟩ := hrel
                have hDy := Lib.hid (hDx.out.trans (hG.out.mono hDx.out.size))
                by_cases hqt : q < m2
                · obtain ⟨b, off, x, rfl, hb, hx, hcx⟩ := (hL2.out.keep hG.out).at_ hqt
                  have cRx := cR.out x wr hDy.out
                  rw [hTm2.out x (List.mem_of_getElem? hx)] at cRx
                  have cRx := Lib.hid cRx
                  clear hx
                  go_wp2_with ((go_at_call 22); (with_reducible refine (cRx.out).mono ?_); rintro r w6 ⟨rfl, rfl⟩)
                  go_roundw
                  case rel => exact ⟨q + 1, by omega, by go_num, hG⟩
                  case measure => simp [intOf]; omega
                · have hpm : 0 < nn ↔ 0 < m1 := by
                    constructor
                    · intro h0
                      have := (hbk.out.2.1 h0).1
                      rw [hm1a.out]
                      exact List.length_pos_of_mem this
                    · intro h0
                      rw [hm1a.out] at h0
                      have hmem := List.getElem_mem h0
                      have h1 := hbk.out.2.2.1 _ hmem
                      have h2 := (hSm3.out _).1 hmem
                      omega
                  have hzb := hbk.out.1
                  by_cases h0 : 0 < nn
                  · have g1 : decide (0 < nn) = true := decide_eq_true h0
                    have g2 : decide (0 < m1) = true := decide_eq_true (hpm.1 h0)
                    clear hpm hzb h0
                    go_wp2_with ((go_at_call 15); (with_reducible refine (aw.out _).mono ?_); rintro r w7 ⟨rfl, hb7⟩)
                    go_ret
                    exact ⟨rfl, hDy.out.trans (hb7.mono hDy.out.size)⟩
                  · have g1 : decide (0 < nn) = false := decide_eq_false h0
                    have g2 : decide (0 < m1) = false := decide_eq_false (fun h => h0 (hpm.2 h))
                    have g3 : (best == 0) = true := by rw [hzb (by omega)]; rfl
                    clear hpm hzb h0
                    go_wp2_with ((go_at_call 15); (with_reducible refine (aw.out _).mono ?_); rintro r w7 ⟨rfl, hb7⟩)
                    go_ret
                    exact ⟨rfl, hDy.out.trans (hb7.mono hDy.out.size)⟩
    · have e2d : decide (0 < nn) = false := decide_eq_false (by omega)
      clear hjoin
      have e2h := Lib.hid e2
      clear e2
      go_wp2_with (first
        | ((go_at_call 19); (with_reducible refine cRi2.out.mono ?_); rintro r w4 ⟨rfl, hb4⟩; have hD4 := Lib.hid hb4; clear hb4)
        | ((go_at_call 19); (with_reducible refine (cRj2.out _ hD4.out).mono ?_); rintro r w5 ⟨rfl, hb5⟩; have hD5 := Lib.hid (hD4.out.trans (hb5.mono hD4.out.size)); clear hb5)
        | ((go_at_call 20); (with_reducible refine (cEb2.out w5 (hW3.out.trans (hD5.out.mono hW3.out.size))).mono ?_); rintro r w6 ⟨rfl, rfl⟩))
      have hD6 := Lib.hid hD5.out
      have hW6 := Lib.hid (hW3.out.trans (hD6.out.mono hW3.out.size))
      have hJ1 := Lib.hid (hI1.out.keep hD6.out)
      have hJ2 := Lib.hid (hI2.out.keep hD6.out)
      clear e1
      go_loopw [7] (fun i wr => ∃ k : Nat, k ≤ n ∧ i = .int .i64 k ∧ Hid (Below w5.heap.size w5 wr)) (fun i _ => n - (intOf i).toNat)
      case atStart => exact ⟨0, by omega, rfl, Below.refl _ _⟩
      case round =>
        obtain ⟨k, hk, rfl, hD⟩ := hrel
        have hDw := Lib.hid (hW6.out.trans (hD.out.mono hW6.out.size))
        by_cases hlt : k < n
        · obtain ⟨b, off, e, rfl, hb, he, hr⟩ := H.row hlt
          have hf1 := (Ev.flds (rangeAt_keep hr hDw.out hb)).2.1
          have cEk := cE.out e.ses wr hDw.out
          have cRk := cR.out e.ses wr hDw.out
          have cH1 := hasC_any S A1 m1 c1 e.ses wr (by omega) (hJ1.out.keep hD.out)
          have cH2 := hasC_any T A2 m2 c2 e.ses wr (by omega) (hJ2.out.keep hD.out)
          rw [hSm2.out] at cH1
          rw [hTm3.out] at cH2
          have h3 := hbk.out.2.2.1 e.ses
          have h4 := hbk.out.2.2.2 e.ses
          have h5 := hSm3.out e.ses
          have hevk := hev.out e.ses
          clear hr he
          generalize lostR es e.ses = lq at cRk cH2
          generalize evN es e.ses = mm at cEk cH1 h3 h4 h5 hevk
          have hmn : mm ≤ nn := by
            by_cases h0 : 0 < mm
            · exact h3 (h5.2 h0)
            · omega
          have d2 : decide (nn < mm) = false := decide_eq_false (by omega)
          have hc3 : ((mm : Int) == (nn : Int)) = false ∨ (((mm : Int) == (nn : Int)) = true ∧ decide (0 < nn) = false) ∨ (((mm : Int) == (nn : Int)) = true ∧ decide (0 < nn) = true ∧ decide (e.ses < best) = false) := by
            by_cases hmm : mm = nn
            · by_cases h0 : 0 < nn
              · exact .inr (.inr ⟨by rw [hmm]; simp, decide_eq_true h0, decide_eq_false (by have := h4 (h5.2 (by omega)) hmm h0; omega)⟩)
              · exact .inr (.inl ⟨by rw [hmm]; simp, decide_eq_false h0⟩)
            · exact .inl (by rw [beq_eq_false_iff_ne]; omega)
          generalize hdq : decide (0 < mm) = dq at cH1
          clear h3 h4 h5 hmn
          have cEk := Lib.hid cEk
          have cRk := Lib.hid cRk
          have cH1 := Lib.hid cH1
          have cH2 := Lib.hid cH2
          rcases hc3 with f1 | ⟨f1, f2⟩ | ⟨f1, f2, f3⟩ <;> cases dq <;> cases lq
          all_goals
            go_wp2_with (first
              | ((go_at_call 20); (with_reducible refine (cEk.out).mono ?_); rintro r w6 ⟨rfl, rfl⟩)
              | ((go_at_call 22); (with_reducible refine (cRk.out).mono ?_); rintro r w6 ⟨rfl, rfl⟩)
              | ((go_at_call 21); (with_reducible refine (cH1.out).mono ?_); rintro r w6 ⟨rfl, rfl⟩)
              | ((go_at_call 21); (with_reducible refine (cH2.out).mono ?_); rintro r w6 ⟨rfl, rfl⟩))
            go_roundw
            case rel => exact ⟨k + 1, by omega, by go_num, hD⟩
            case measure => simp [intOf]; omega
        · obtain ⟨wo, rfl⟩ : ∃ wo : World, wo = wr := ⟨_, rfl⟩
          have hK1 := Lib.hid (hJ1.out.keep hD.out)
          have hK2 := Lib.hid (hJ2.out.keep hD.out)
          have hm1n : m1 ≤ n := hSl
          clear hD
          go_wp2_with fail
          go_loopw [10] (fun i wr => ∃ j : Nat, j ≤ m1 ∧ i = .int .i64 j ∧ Hid (Below wo.heap.size wo wr)) (fun i _ => m1 - (intOf i).toNat)
          case atStart => exact ⟨0, by omega, rfl, Below.refl _ _⟩
          case round =>
            obtain ⟨j, hj, rfl, hD⟩ := hrel
            have hDx := Lib.hid (hDw.out.trans (hD.out.mono hDw.out.size))
            by_cases hjt : j < m1
            · obtain ⟨b, off, x, rfl, hb, hx, hcx⟩ := (hK1.out.keep hD.out).at_ hjt
              have hpos := (hSm3.out x).1 (List.mem_of_getElem? hx)
              have hevx := hev.out x
              have cEx := cE.out x wr hDx.out
              clear hx
              generalize evN es x = mm at cEx hpos hevx
              have cEx := Lib.hid cEx
              have hmz : ((mm : Int) == 0) = false := by rw [beq_eq_false_iff_ne]; omega
              clear hpos
              go_wp2_with ((go_at_call 20); (with_reducible refine (cEx.out).mono ?_); rintro r w6 ⟨rfl, rfl⟩)
              go_roundw
              case rel => exact ⟨j + 1, by omega, by go_num, hD⟩
              case measure => simp [intOf]; omega
            · obtain ⟨wp, rfl⟩ : ∃ wp : World, wp = wr := ⟨_, rfl⟩
              have hL2 := Lib.hid (hK2.out.keep hD.out)
              clear hD
              go_wp2_with fail
              go_loopw [11] (fun i wr => ∃ q : Nat, q ≤ m2 ∧ i = .int .i64 q ∧ Hid (Below wp.heap.size wp wr)) (fun i _ => m2 - (intOf i).toNat)
              case atStart => exact ⟨0, by omega, rfl, Below.refl _ _⟩
              case round =>
                obtain ⟨q, hq, rfl, hG⟩ := hrel
                have hDy := Lib.hid (hDx.out.trans (hG.out.mono hDx.out.size))
                by_cases hqt : q < m2
                · obtain ⟨b, off, x, rfl, hb, hx, hcx⟩ := (hL2.out.keep hG.out).at_ hqt
                  have cRx := cR.out x wr hDy.out
                  rw [hTm2.out x (List.mem_of_getElem? hx)] at cRx
                  have cRx := Lib.hid cRx
                  clear hx
                  go_wp2_with ((go_at_call 22); (with_reducible refine (cRx.out).mono ?_); rintro r w6 ⟨rfl, rfl⟩)
                  go_roundw
                  case rel => exact ⟨q + 1, by omega, by go_num, hG⟩
                  case measure => simp [intOf]; omega
                · have hpm : 0 < nn ↔ 0 < m1 := by
                    constructor
                    · intro h0
                      have := (hbk.out.2.1 h0).1
                      rw [hm1a.out]
                      exact List.length_pos_of_mem this
                    · intro h0
                      rw [hm1a.out] at h0
                      have hmem := List.getElem_mem h0
                      have h1 := hbk.out.2.2.1 _ hmem
                      have h2 := (hSm3.out _).1 hmem
                      omega
                  have hzb := hbk.out.1
                  by_cases h0 : 0 < nn
                  · exact absurd h0 (by have := e2h.out; omega)
                  · have g1 : decide (0 < nn) = false := decide_eq_false h0
                    have g2 : decide (0 < m1) = false := decide_eq_false (fun h => h0 (hpm.2 h))
                    have g3 : (best == 0) = true := by rw [hzb (by omega)]; rfl
                    clear hpm hzb h0
                    go_wp2_with ((go_at_call 15); (with_reducible refine (aw.out _).mono ?_); rintro r w7 ⟨rfl, hb7⟩)
                    go_ret
                    exact ⟨rfl, hDy.out.trans (hb7.mono hDy.out.size)⟩
end Go.Proofs.Ytkgkpoiacbjdfaa
