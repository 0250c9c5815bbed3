/- The walk of TrustPartners. -/
import Derived.Test.YtkgkpoiacbjdfaaTpC
namespace Go.Proofs.Ytkgkpoiacbjdfaa
open Go.RowKit

theorem srtpt_len (es : List Ev) (ses : Int) : (srt (pt es ses)).length ≤ es.length := by rw [srt_len]; exact ptTo_len es ses es.length
theorem srtpt_at {es : List Ev} {ses : Int} {j : Nat} {x : Int} (h : (srt (pt es ses))[j]? = some x) : mate es ses x = true := (pt_iff es ses x).1 (srt_mem.1 (List.mem_of_getElem? h))
theorem keys_at {es : List Ev} {ses : Int} {k n : Nat} {e : Ev} (h : es[k]? = some e) (hk : k < n) (hq : isKey ses e = true) : (keysTo es ses n)[(keysTo es ses k).length]? = some e.dn := by
  obtain ⟨r, hr⟩ := keysTo_pre (es := es) (ses := ses) (show k + 1 ≤ n by omega)
  rw [hr, keysTo_succ h, hq]
  simp
theorem awn (w : World) : Calls Try.prog 6 #[] w fun r w' => r = .returned (.bool true) ∧ Below w.heap.size w w' := awake_any w

theorem zero_ok : allOk dnDs Ev.zero.dn.cells := by
  refine ⟨rfl, fun i d v hd hv => ?_⟩
  have hi : i < 26 := (List.getElem?_eq_some_iff.1 hd).1
  match i with
  | 0 => injection hd with hd; injection hv with hv; subst hd hv; first | exact ⟨_, rfl, by decide, by decide⟩ | exact ⟨_, rfl, by decide⟩
  | 1 => injection hd with hd; injection hv with hv; subst hd hv; first | exact ⟨_, rfl, by decide, by decide⟩ | exact ⟨_, rfl, by decide⟩
  | 2 => injection hd with hd; injection hv with hv; subst hd hv; first | exact ⟨_, rfl, by decide, by decide⟩ | exact ⟨_, rfl, by decide⟩
  | 3 => injection hd with hd; injection hv with hv; subst hd hv; first | exact ⟨_, rfl, by decide, by decide⟩ | exact ⟨_, rfl, by decide⟩
  | 4 => injection hd with hd; injection hv with hv; subst hd hv; first | exact ⟨_, rfl, by decide, by decide⟩ | exact ⟨_, rfl, by decide⟩
  | 5 => injection hd with hd; injection hv with hv; subst hd hv; first | exact ⟨_, rfl, by decide, by decide⟩ | exact ⟨_, rfl, by decide⟩
  | 6 => injection hd with hd; injection hv with hv; subst hd hv; first | exact ⟨_, rfl, by decide, by decide⟩ | exact ⟨_, rfl, by decide⟩
  | 7 => injection hd with hd; injection hv with hv; subst hd hv; first | exact ⟨_, rfl, by decide, by decide⟩ | exact ⟨_, rfl, by decide⟩
  | 8 => injection hd with hd; injection hv with hv; subst hd hv; first | exact ⟨_, rfl, by decide, by decide⟩ | exact ⟨_, rfl, by decide⟩
  | 9 => injection hd with hd; injection hv with hv; subst hd hv; first | exact ⟨_, rfl, by decide, by decide⟩ | exact ⟨_, rfl, by decide⟩
  | 10 => injection hd with hd; injection hv with hv; subst hd hv; first | exact ⟨_, rfl, by decide, by decide⟩ | exact ⟨_, rfl, by decide⟩
  | 11 => injection hd with hd; injection hv with hv; subst hd hv; first | exact ⟨_, rfl, by decide, by decide⟩ | exact ⟨_, rfl, by decide⟩
  | 12 => injection hd with hd; injection hv with hv; subst hd hv; first | exact ⟨_, rfl, by decide, by decide⟩ | exact ⟨_, rfl, by decide⟩
  | 13 => injection hd with hd; injection hv with hv; subst hd hv; first | exact ⟨_, rfl, by decide, by decide⟩ | exact ⟨_, rfl, by decide⟩
  | 14 => injection hd with hd; injection hv with hv; subst hd hv; first | exact ⟨_, rfl, by decide, by decide⟩ | exact ⟨_, rfl, by decide⟩
  | 15 => injection hd with hd; injection hv with hv; subst hd hv; first | exact ⟨_, rfl, by decide, by decide⟩ | exact ⟨_, rfl, by decide⟩
  | 16 => injection hd with hd; injection hv with hv; subst hd hv; first | exact ⟨_, rfl, by decide, by decide⟩ | exact ⟨_, rfl, by decide⟩
  | 17 => injection hd with hd; injection hv with hv; subst hd hv; first | exact ⟨_, rfl, by decide, by decide⟩ | exact ⟨_, rfl, by decide⟩
  | 18 => injection hd with hd; injection hv with hv; subst hd hv; first | exact ⟨_, rfl, by decide, by decide⟩ | exact ⟨_, rfl, by decide⟩
  | 19 => injection hd with hd; injection hv with hv; subst hd hv; first | exact ⟨_, rfl, by decide, by decide⟩ | exact ⟨_, rfl, by decide⟩
  | 20 => injection hd with hd; injection hv with hv; subst hd hv; first | exact ⟨_, rfl, by decide, by decide⟩ | exact ⟨_, rfl, by decide⟩
  | 21 => injection hd with hd; injection hv with hv; subst hd hv; first | exact ⟨_, rfl, by decide, by decide⟩ | exact ⟨_, rfl, by decide⟩
  | 22 => injection hd with hd; injection hv with hv; subst hd hv; first | exact ⟨_, rfl, by decide, by decide⟩ | exact ⟨_, rfl, by decide⟩
  | 23 => injection hd with hd; injection hv with hv; subst hd hv; first | exact ⟨_, rfl, by decide, by decide⟩ | exact ⟨_, rfl, by decide⟩
  | 24 => injection hd with hd; injection hv with hv; subst hd hv; first | exact ⟨_, rfl, by decide, by decide⟩ | exact ⟨_, rfl, by decide⟩
  | 25 => injection hd with hd; injection hv with hv; subst hd hv; first | exact ⟨_, rfl, by decide, by decide⟩ | exact ⟨_, rfl, by decide⟩
  | j + 26 => omega
/-- An empty literal, behind a name. -/
noncomputable def bldD : Sem Value := Instr.build 35 #[]
theorem bldD_eq : Instr.build 35 #[] = bldD := rfl
theorem bldD_eq' (f : Nat × Operand → Nat × Value) : Instr.build 35 (Array.map f #[]) = bldD := by unfold bldD; rw [Array.map_empty]
theorem bldD_run (W : World) : bldD.run Try.prog W = .ok (.agg Ev.zero.dn.cells.toArray) W := run_build (P := Try.prog) W 35 #[] Ev.zero.dn.cells.toArray (by kernel_rfl)
attribute [local go_sem ↓] ldD_eq neD_eq egD_eq bldD_eq bldD_eq'
attribute [local go_sem] egD_run
set_option maxRecDepth 100000 in
set_option maxHeartbeats 8000000 in
theorem law_trustPartners (es : List Ev) (hok : ∀ e ∈ es, allOk evDs e.cells) (A : Option Addr) (n c : Nat) (ses : Int) (w : World) (hn : n ≤ 9223372036854775807) (H : Evs w A n es) :
    Calls Try.prog 3 #[.slice A n c, .int .i64 ses] w fun r w' => r = .returned (.bool true) ∧ Below w.heap.size w w' := by
  have aw := Lib.hid awn
  by_cases h60 : 60 < n
  · go_enter Try.func3, Try.ntmps3
    go_wp2_with (go_at_call 6; refine (aw.out _).mono ?_; rintro r w1 ⟨rfl, hb1⟩)
    go_ret
    exact ⟨rfl, hb1⟩
  have hlen := Lib.hid H.len
  have h60' : n ≤ 60 := by omega
  have HH := Lib.hid H
  have cP := Lib.hid (fun s W (h : Below w.heap.size w W) => partners_any es hok A n c s W (by omega) (HH.out.keep h))
  have cQ := Lib.hid (fun a b W (h : Below w.heap.size w W) => refPartners_any es hok A n c a b W hn (HH.out.keep h))
  have cF := Lib.hid (fun W (h : Below w.heap.size w W) => first_any es A n c ses W hn (HH.out.keep h))
  have cR := Lib.hid (fun W (h : Below w.heap.size w W) => refFirst_any es A n c ses W hn (HH.out.keep h))
  have cK := Lib.hid (fun W (h : Below w.heap.size w W) => keys_any es A n c ses W (by omega) (HH.out.keep h))
  have hok' := Lib.hid hok
  clear hok
  go_enter Try.func3, Try.ntmps3
  go_wp2_with fail
  refine (cP.out ses w (Below.refl _ _)).mono ?_
  rintro r w1 ⟨v, rfl, hO, hb1⟩
  obtain ⟨A1, c1, rfl, hI⟩ := hO.ints
  have hpl := srtpt_len es ses
  rw [hlen.out] at hpl
  have hat := Lib.hid (fun j x (h : (srt (pt es ses))[j]? = some x) => srtpt_at h)
  have hhas := Lib.hid (fun s => hasI_pt es ses s)
  have cRi := rises_any (srt (pt es ses)) A1 _ c1 w1 (by omega) hI
  rw [rises_srt (show (pt es ses).Nodup from ptTo_nodup es ses es.length)] at cRi
  have cRi := Lib.hid cRi
  generalize srt (pt es ses) = P at *
  generalize hm : P.length = m at *
  have hm := Lib.hid hm
  have hI := Lib.hid hI
  have hdm : decide (n < m) = false := decide_eq_false (by omega)
  clear hO
  go_wp2_with (go_at_call 8; refine cRi.out.mono ?_; rintro r w2 ⟨rfl, hb2⟩; have hB2 := Lib.hid (hb1.trans (hb2.mono hb1.size)); have hI2 := Lib.hid (hI.out.keep hb2); clear hb1 hb2)
  go_loopw [6] (fun i wr => ∃ k : Nat, k ≤ n ∧ i = .int .i64 k ∧ Hid (Below w2.heap.size w2 wr)) (fun i _ => n - (intOf i).toNat)
  case atStart => exact ⟨0, by omega, rfl, Below.refl _ _⟩
  case round =>
    obtain ⟨k, hk, rfl, hD⟩ := hrel
    have hD0 := Lib.hid (hB2.out.trans (hD.out.mono hB2.out.size))
    by_cases hlt : k < n
    · obtain ⟨b, off, e, rfl, hb, he, hr⟩ := H.row hlt
      have f1 := (Ev.flds (rangeAt_keep hr hD0.out hb)).2.1
      have cH := Lib.hid (fun W (h : Below w2.heap.size w2 W) => hasI_any P A1 m c1 e.ses W (by omega) (hI2.out.keep h))
      have hmc : mate es ses e.ses = true → mate es e.ses ses = true := mate_comm
      have hmh := hhas.out e.ses
      have cQ' := Lib.hid (cQ.out ses e.ses)
      clear hr he
      cases hmt : mate es ses e.ses with
      | false =>
        rw [hmt] at cQ' hmh
        rw [hmh] at cH
        clear hmh hmt hmc
        go_wp2_with (first
          | (go_at_call 9; refine (cH.out _ hD.out).mono ?_; rintro r w3 ⟨rfl, rfl⟩)
          | (go_at_call 10; refine (cQ'.out wr hD0.out).mono ?_; rintro r w3 ⟨rfl, hb3⟩; have hD3 := Lib.hid (hD.out.trans (hb3.mono hD.out.size)); have hD30 := Lib.hid (hB2.out.trans (hD3.out.mono hB2.out.size)); clear hb3)
          | (go_at_call 10; refine (cQ'.out _ hD30.out).mono ?_; rintro r w4 ⟨rfl, hb4⟩; have hD4 := Lib.hid (hD3.out.trans (hb4.mono hD3.out.size)); clear hb4))
        go_roundw
        case rel => exact ⟨k + 1, by omega, by go_num, hD4⟩
        case measure => simp [intOf]; omega
      | true =>
        have hm2 := Lib.hid (hmc hmt)
        rw [hmt] at cQ' hmh
        rw [hmh] at cH
        have cP' := Lib.hid (cP.out e.ses)
        clear hmh hmt hmc
        go_wp2_with (first
          | (go_at_call 9; (with_reducible refine (cH.out _ hD.out).mono ?_); rintro r w3 ⟨rfl, rfl⟩)
          | (go_at_call 10; refine (cQ'.out wr hD0.out).mono ?_; rintro r w3 ⟨rfl, hb3⟩; have hD3 := Lib.hid (hD.out.trans (hb3.mono hD.out.size)); have hD30 := Lib.hid (hB2.out.trans (hD3.out.mono hB2.out.size)); clear hb3)
          | (go_at_call 10; refine (cQ'.out _ hD30.out).mono ?_; rintro r w4 ⟨rfl, hb4⟩; have hD4 := Lib.hid (hD3.out.trans (hb4.mono hD3.out.size)); have hD40 := Lib.hid (hB2.out.trans (hD4.out.mono hB2.out.size)); clear hb4)
          | (go_at_call 7; refine (cP'.out _ hD40.out).mono ?_; rintro r w5 ⟨v5, rfl, hO5, hb5⟩
             have hD5 := Lib.hid (hD4.out.trans (hb5.mono hD4.out.size))
             obtain ⟨A5, c5, rfl, hI5⟩ := hO5.ints
             have hl5 := srtpt_len es e.ses
             rw [hlen.out] at hl5
             have cH5 := hasI_any _ A5 _ c5 ses w5 (by omega) hI5
             rw [hasI_pt, hm2.out] at cH5
             generalize (srt (pt es e.ses)).length = m5 at cH5 hl5 ⊢
             have cH5 := Lib.hid cH5
             clear hO5 hb5 hI5)
          | (go_at_call 9; (with_reducible refine (cH5.out).mono ?_); rintro r w6 ⟨rfl, rfl⟩))
        go_roundw
        case rel => exact ⟨k + 1, by omega, by go_num, hD5⟩
        case measure => simp [intOf]; omega
    · obtain ⟨wo, rfl⟩ : ∃ wo : World, wo = wr := ⟨_, rfl⟩
      have hIo := Lib.hid (hI2.out.keep hD.out)
      clear hD
      go_wp2_with fail
      go_loopw [8] (fun i wr => ∃ j : Nat, j ≤ m ∧ i = .int .i64 j ∧ Hid (Below wo.heap.size wo wr)) (fun i _ => m - (intOf i).toNat)
      case atStart => exact ⟨0, by omega, rfl, Below.refl _ _⟩
      case round =>
        obtain ⟨j, hj, rfl, hD⟩ := hrel
        have hD1 := Lib.hid (hD0.out.trans (hD.out.mono hD0.out.size))
        by_cases hjt : j < m
        · obtain ⟨b, off, x, rfl, hb, hx, hc⟩ := (hIo.out.keep hD.out).at_ hjt
          have cQ' := Lib.hid (cQ.out ses x wr hD1.out)
          rw [hat.out j x hx] at cQ'
          clear hx
          go_wp2_with (go_at_call 10; refine cQ'.out.mono ?_; rintro r w3 ⟨rfl, hb3⟩; have hD3 := Lib.hid (hD.out.trans (hb3.mono hD.out.size)); clear hb3)
          go_roundw
          case rel => exact ⟨j + 1, by omega, by go_num, hD3⟩
          case measure => simp [intOf]; omega
        · have cF' := cF.out wr hD1.out
          rw [firstV_eq] at cF'
          have cR' := Lib.hid (fun W (h : Below wr.heap.size wr W) => cR.out W (hD1.out.trans (h.mono hD1.out.size)))
          clear hIo hI2 hI hat hhas cRi
          rcases open_at (es := es) (ses := ses) with ⟨hi, ho⟩ | ⟨q, x, hi, hxq, ho⟩
          · rw [ho] at cF'
            rw [hi] at cR'
            have cF' := Lib.hid cF'
            have hz := (neD_run Ev.zero.dn Ev.zero.dn zero_ok zero_ok)
            rw [decide_eq_true rfl] at hz
            simp only [Bool.not_true] at hz
            go_wp2_with fail
            refine cF'.out.mono ?_
            rintro r w3 ⟨rfl, hb3⟩
            have hg3 := heap_new w3 (.cells Ev.zero.dn.cells.toArray 35)
            have hE3 := Lib.hid (hb3.alloc hb3.size (.cells Ev.zero.dn.cells.toArray 35))
            have hZ := rangeAt_list (heap_new w3 (.cells Ev.zero.dn.cells.toArray 35))
            clear hb3
            go_wp2_with (first
              | (refine wpList_alloc_row 35 rfl rfl Ev.zero.dn.cells.toArray dn_zero ?_; try simp only [World.size_alloc])
              | (refine wpList_store_at 35 _ _ rfl rfl w3.heap.size (openX none).dn.cells.toArray rfl rfl 35 Ev.zero.dn.cells.toArray hg3 (by kernel_rfl) rfl Ev.zero.dn.one ?_
                 rw [show (openX none).dn.cells.toArray = Ev.zero.dn.cells.toArray from rfl, setRow_new])
              | (go_at_call 12; refine (cR'.out _ hE3.out).mono ?_; rintro r w4 ⟨rfl, hb4⟩
                 have hE2 := Lib.hid (hD1.out.trans ((hE3.out.trans (hb4.mono hE3.out.size)).mono hD1.out.size))
                 have v1 : ∀ q, (ldD ⟨w3.heap.size, 0, none⟩).run Try.prog (w4.drewN q) = .ok (.agg Ev.zero.dn.cells.toArray) (w4.drewN q) := fun q => ldD_run (rangeAt_keep (rangeAt_keep hZ hb4 (by simp)) (drewN_below q) (Nat.lt_of_lt_of_le (by simp) hb4.size))
                 clear hb4))
            have v2 := bldD_run
            go_quiet (fail)
            clear v1 v2 hz
            generalize hqw : w4.drewN _ = w5
            have hE2 := Lib.hid (show Below w.heap.size w w5 by rw [← hqw]; exact hE2.out.trans (Below.mono (drewN_below _) hE2.out.size))
            clear hqw
            go_wp2_with (go_at_call 13; refine (cK.out _ hE2.out).mono ?_; rintro r w6 ⟨v6, rfl, hO6, hb6⟩
                         obtain ⟨A6, c6, rfl, hI6⟩ := OwnR.rws hO6
                         have hE6 := Lib.hid (hE2.out.trans (hb6.mono hE2.out.size))
                         have hkl := keysTo_len es ses n
                         rw [List.length_map] at hI6 ⊢
                         generalize hK : (keysTo es ses n).length = K at hI6 hkl ⊢
                         have hK := Lib.hid hK
                         have hI6 := Lib.hid hI6
                         clear hO6 hb6)
            go_loopw [13, 14] (fun cn i wr => ∃ k : Nat, k ≤ n ∧ i = .int .i64 k ∧ cn = .int .i64 (keysTo es ses k).length ∧ Hid (Below w6.heap.size w6 wr)) (fun _ i _ => n - (intOf i).toNat)
            case atStart => exact ⟨0, by omega, rfl, rfl, Below.refl _ _⟩
            case round =>
              obtain ⟨k, hk, rfl, rfl, hG⟩ := hrel
              have hG0 := Lib.hid (hE6.out.trans (hG.out.mono hE6.out.size))
              have hc0 := keysTo_len es ses k
              by_cases hlt : k < n
              · obtain ⟨b, off, e, rfl, hb, he, hr⟩ := H.row hlt
                obtain ⟨g0, g1, _, _⟩ := Ev.flds (rangeAt_keep hr hG0.out hb)
                have hld := Lib.hid (fun W (h : Below w.heap.size w W) => ldD_run (Ev.fldD (rangeAt_keep hr h hb)))
                have hstep := keysTo_succ (ses := ses) he
                have hky := keys_at he hlt (ses := ses)
                have hne := Lib.hid (neD_run e.dn e.dn (dn_ok (hok'.out e (List.mem_of_getElem? he))) (dn_ok (hok'.out e (List.mem_of_getElem? he))))
                rw [decide_eq_true rfl] at hne
                simp only [Bool.not_true] at hne
                have hsl := congrArg List.length hstep
                rw [List.length_append] at hsl
                have hik : isKey ses e = ((e.kind == 1 || e.kind == 2) && e.ses == ses) := rfl
                clear hr he hstep
                generalize (keysTo es ses k).length = cn at hc0 hsl hky ⊢
                cases e1 : (e.ses == ses)
                · rw [e1, Bool.and_false] at hik
                  rw [hik] at hsl
                  simp only [Bool.false_eq_true, if_false, List.length_nil, Nat.add_zero] at hsl
                  have hsl2 := Lib.hid hsl
                  clear hsl hky hik
                  go_wp2_with fail
                  go_roundw
                  case rel => exact ⟨k + 1, by omega, by go_num, by rw [hsl2.out], hG⟩
                  case measure => simp [intOf]; omega
                · cases e2 : (e.kind == 1) <;> cases e3 : (e.kind == 2)
                  · rw [e1, e2, e3] at hik
                    simp only [Bool.or_self, Bool.false_and] at hik
                    rw [hik] at hsl
                    simp only [Bool.false_eq_true, if_false, List.length_nil, Nat.add_zero] at hsl
                    have hsl2 := Lib.hid hsl
                    clear hsl hky hik
                    go_wp2_with fail
                    go_roundw
                    case rel => exact ⟨k + 1, by omega, by go_num, by rw [hsl2.out], hG⟩
                    case measure => simp [intOf]; omega
                  all_goals
                    rw [e1, e2, e3] at hik
                    simp only [Bool.or_true, Bool.true_or, Bool.or_false, Bool.false_or, Bool.true_and, Bool.and_true] at hik
                    have hky2 := hky hik
                    rw [hik] at hsl
                    simp only [if_true, List.length_cons, List.length_nil, Nat.zero_add] at hsl
                    have hcK : cn < K := by
                      have := (List.getElem?_eq_some_iff.1 hky2).1
                      rw [hK.out] at this
                      exact this
                    obtain ⟨b6, off6, z6, rfl, hb6, hz6, hzl, hr6⟩ := Rws.row hI6.out hcK
                    rw [List.getElem?_map, hky2] at hz6
                    simp only [Option.map_some, Option.some.injEq] at hz6
                    subst hz6
                    have hr7 := rangeAt_keep hr6 hG.out hb6
                    have hb7 := Nat.lt_of_lt_of_le hb6 hG.out.size
                    have v1 : ∀ q, (ldD ⟨b6, off6 + cn * 26, none⟩).run Try.prog (wr.drewN q) = .ok (.agg e.dn.cells.toArray) (wr.drewN q) := fun q => ldD_run (rangeAt_keep hr7 (drewN_below q) hb7)
                    have v2 : ∀ q, (ldD ⟨b, off + k * 34 + 8, none⟩).run Try.prog (wr.drewN q) = .ok (.agg e.dn.cells.toArray) (wr.drewN q) := fun q => hld.out _ (hG0.out.trans (Below.mono (drewN_below q) hG0.out.size))
                    have v3 := hne.out
                    clear hr7 hb7
                    have hcn0 : (0 : Int) ≤ (cn : Int) := by omega
                    have hcn1 : (cn : Int) < (K : Int) := by omega
                    have hcn2 : decide (K ≤ cn) = false := decide_eq_false (by omega)
                    have hkk0 : (0 : Int) ≤ (k : Int) := by omega
                    have hkk1 : (k : Int) < (n : Int) := by omega
                    have hsl2 := Lib.hid hsl
                    clear hsl hky hik hky2 hr6 hzl
                    go_wp2_with fail
                    go_quiet (fail)
                    clear v1 v2 v3
                    go_wp2_with fail
                    go_roundw
                    case rel => exact ⟨k + 1, by omega, by go_num, by rw [hsl2.out]; go_num, hG.out.trans (Below.mono (drewN_below _) hG.out.size)⟩
                    case measure => simp [intOf]; omega
              · have hkn : (keysTo es ses k).length = K := by rw [show k = n by omega]; exact hK.out
                rw [hkn]
                clear hkn
                have hKK : ((K : Int) == (K : Int)) = true := by simp
                go_wp2_with (go_at_call 6; refine (aw.out _).mono ?_; rintro r w7 ⟨rfl, hb7⟩)
                go_ret
                exact ⟨rfl, hG0.out.trans (hb7.mono hG0.out.size)⟩
          · rw [ho] at cF'
            rw [hi] at cR'
            have cF' := Lib.hid cF'
            have hql : q < n := by have := (List.getElem?_eq_some_iff.1 hxq).1; rw [hlen.out] at this; exact this
            have hxok := dn_ok (hok'.out x (List.mem_of_getElem? hxq))
            obtain ⟨b, off, x', rfl, hb, hx', hr⟩ := H.row hql
            obtain rfl : x' = x := by rw [hxq] at hx'; injection hx' with h; exact h.symm
            have hz := (neD_run x'.dn x'.dn hxok hxok)
            rw [decide_eq_true rfl] at hz
            simp only [Bool.not_true] at hz
            have hq0 : (0 : Int) ≤ (q : Int) := by omega
            have hq1 : (q : Int) < (n : Int) := by omega
            have hld := Lib.hid (fun W (h : Below w.heap.size w W) => ldD_run (Ev.fldD (rangeAt_keep hr h hb)))
            clear hx' hr hxok hxq hi ho
            go_wp2_with fail
            refine cF'.out.mono ?_
            rintro r w3 ⟨rfl, hb3⟩
            have hg3 := heap_new w3 (.cells Ev.zero.dn.cells.toArray 35)
            have hE3 := Lib.hid (hb3.alloc hb3.size (.cells x'.dn.cells.toArray 35))
            have hZ := rangeAt_list (heap_new w3 (.cells x'.dn.cells.toArray 35))
            clear hb3
            go_wp2_with (first
              | (refine wpList_alloc_row 35 rfl rfl Ev.zero.dn.cells.toArray dn_zero ?_; try simp only [World.size_alloc])
              | (refine wpList_store_at 35 _ _ rfl rfl w3.heap.size (openX (some x')).dn.cells.toArray rfl rfl 35 Ev.zero.dn.cells.toArray hg3 (by kernel_rfl) rfl x'.dn.one ?_
                 rw [show (openX (some x')).dn.cells.toArray = x'.dn.cells.toArray from rfl, setRow_new])
              | (go_at_call 12; refine (cR'.out _ hE3.out).mono ?_; rintro r w4 ⟨rfl, hb4⟩
                 have hE2 := Lib.hid (hD1.out.trans ((hE3.out.trans (hb4.mono hE3.out.size)).mono hD1.out.size))
                 have v1 : ∀ q, (ldD ⟨w3.heap.size, 0, none⟩).run Try.prog (w4.drewN q) = .ok (.agg x'.dn.cells.toArray) (w4.drewN q) := fun q => ldD_run (rangeAt_keep (rangeAt_keep hZ hb4 (by simp)) (drewN_below q) (Nat.lt_of_lt_of_le (by simp) hb4.size))
                 clear hb4))
            have v2 : ∀ p, (ldD ⟨b, off + q * 34 + 8, none⟩).run Try.prog (w4.drewN p) = .ok (.agg x'.dn.cells.toArray) (w4.drewN p) := fun p => hld.out _ (hE2.out.trans (Below.mono (drewN_below p) hE2.out.size))
            go_quiet (fail)
            clear v1 v2 hz
            generalize hqw : w4.drewN _ = w5
            have hE2 := Lib.hid (show Below w.heap.size w w5 by rw [← hqw]; exact hE2.out.trans (Below.mono (drewN_below _) hE2.out.size))
            clear hqw
            go_wp2_with (go_at_call 13; refine (cK.out _ hE2.out).mono ?_; rintro r w6 ⟨v6, rfl, hO6, hb6⟩
                         obtain ⟨A6, c6, rfl, hI6⟩ := OwnR.rws hO6
                         have hE6 := Lib.hid (hE2.out.trans (hb6.mono hE2.out.size))
                         have hkl := keysTo_len es ses n
                         rw [List.length_map] at hI6 ⊢
                         generalize hK : (keysTo es ses n).length = K at hI6 hkl ⊢
                         have hK := Lib.hid hK
                         have hI6 := Lib.hid hI6
                         clear hO6 hb6)
            go_loopw [13, 14] (fun cn i wr => ∃ k : Nat, k ≤ n ∧ i = .int .i64 k ∧ cn = .int .i64 (keysTo es ses k).length ∧ Hid (Below w6.heap.size w6 wr)) (fun _ i _ => n - (intOf i).toNat)
            case atStart => exact ⟨0, by omega, rfl, rfl, Below.refl _ _⟩
            case round =>
              obtain ⟨k, hk, rfl, rfl, hG⟩ := hrel
              have hG0 := Lib.hid (hE6.out.trans (hG.out.mono hE6.out.size))
              have hc0 := keysTo_len es ses k
              by_cases hlt : k < n
              · obtain ⟨b', off', e, e0, hb, he, hr⟩ := H.row hlt
                simp only [Option.some.injEq, Addr.mk.injEq] at e0
                obtain ⟨rfl, rfl, _⟩ := e0
                obtain ⟨g0, g1, _, _⟩ := Ev.flds (rangeAt_keep hr hG0.out hb)
                have hld := Lib.hid (fun W (h : Below w.heap.size w W) => ldD_run (Ev.fldD (rangeAt_keep hr h hb)))
                have hstep := keysTo_succ (ses := ses) he
                have hky := keys_at he hlt (ses := ses)
                have hne := Lib.hid (neD_run e.dn e.dn (dn_ok (hok'.out e (List.mem_of_getElem? he))) (dn_ok (hok'.out e (List.mem_of_getElem? he))))
                rw [decide_eq_true rfl] at hne
                simp only [Bool.not_true] at hne
                have hsl := congrArg List.length hstep
                rw [List.length_append] at hsl
                have hik : isKey ses e = ((e.kind == 1 || e.kind == 2) && e.ses == ses) := rfl
                clear hr he hstep
                generalize (keysTo es ses k).length = cn at hc0 hsl hky ⊢
                cases e1 : (e.ses == ses)
                · rw [e1, Bool.and_false] at hik
                  rw [hik] at hsl
                  simp only [Bool.false_eq_true, if_false, List.length_nil, Nat.add_zero] at hsl
                  have hsl2 := Lib.hid hsl
                  clear hsl hky hik
                  go_wp2_with fail
                  go_roundw
                  case rel => exact ⟨k + 1, by omega, by go_num, by rw [hsl2.out], hG⟩
                  case measure => simp [intOf]; omega
                · cases e2 : (e.kind == 1) <;> cases e3 : (e.kind == 2)
                  · rw [e1, e2, e3] at hik
                    simp only [Bool.or_self, Bool.false_and] at hik
                    rw [hik] at hsl
                    simp only [Bool.false_eq_true, if_false, List.length_nil, Nat.add_zero] at hsl
                    have hsl2 := Lib.hid hsl
                    clear hsl hky hik
                    go_wp2_with fail
                    go_roundw
                    case rel => exact ⟨k + 1, by omega, by go_num, by rw [hsl2.out], hG⟩
                    case measure => simp [intOf]; omega
                  all_goals
                    rw [e1, e2, e3] at hik
                    simp only [Bool.or_true, Bool.true_or, Bool.or_false, Bool.false_or, Bool.true_and, Bool.and_true] at hik
                    have hky2 := hky hik
                    rw [hik] at hsl
                    simp only [if_true, List.length_cons, List.length_nil, Nat.zero_add] at hsl
                    have hcK : cn < K := by
                      have := (List.getElem?_eq_some_iff.1 hky2).1
                      rw [hK.out] at this
                      exact this
                    obtain ⟨b6, off6, z6, rfl, hb6, hz6, hzl, hr6⟩ := Rws.row hI6.out hcK
                    rw [List.getElem?_map, hky2] at hz6
                    simp only [Option.map_some, Option.some.injEq] at hz6
                    subst hz6
                    have hr7 := rangeAt_keep hr6 hG.out hb6
                    have hb7 := Nat.lt_of_lt_of_le hb6 hG.out.size
                    have v1 : ∀ q, (ldD ⟨b6, off6 + cn * 26, none⟩).run Try.prog (wr.drewN q) = .ok (.agg e.dn.cells.toArray) (wr.drewN q) := fun q => ldD_run (rangeAt_keep hr7 (drewN_below q) hb7)
                    have v2 : ∀ q, (ldD ⟨b, off + k * 34 + 8, none⟩).run Try.prog (wr.drewN q) = .ok (.agg e.dn.cells.toArray) (wr.drewN q) := fun q => hld.out _ (hG0.out.trans (Below.mono (drewN_below q) hG0.out.size))
                    have v3 := hne.out
                    clear hr7 hb7
                    have hcn0 : (0 : Int) ≤ (cn : Int) := by omega
                    have hcn1 : (cn : Int) < (K : Int) := by omega
                    have hcn2 : decide (K ≤ cn) = false := decide_eq_false (by omega)
                    have hkk0 : (0 : Int) ≤ (k : Int) := by omega
                    have hkk1 : (k : Int) < (n : Int) := by omega
                    have hsl2 := Lib.hid hsl
                    clear hsl hky hik hky2 hr6 hzl
                    go_wp2_with fail
                    go_quiet (fail)
                    clear v1 v2 v3
                    go_wp2_with fail
                    go_roundw
                    case rel => exact ⟨k + 1, by omega, by go_num, by rw [hsl2.out]; go_num, hG.out.trans (Below.mono (drewN_below _) hG.out.size)⟩
                    case measure => simp [intOf]; omega
              · have hkn : (keysTo es ses k).length = K := by rw [show k = n by omega]; exact hK.out
                rw [hkn]
                clear hkn
                have hKK : ((K : Int) == (K : Int)) = true := by simp
                go_wp2_with (go_at_call 6; refine (aw.out _).mono ?_; rintro r w7 ⟨rfl, hb7⟩)
                go_ret
                exact ⟨rfl, hG0.out.trans (hb7.mono hG0.out.size)⟩
end Go.Proofs.Ytkgkpoiacbjdfaa
