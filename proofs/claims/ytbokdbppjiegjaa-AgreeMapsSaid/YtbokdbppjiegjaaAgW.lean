/- The walk of AgreeMaps. -/
import Derived.Test.YtbokdbppjiegjaaAgT
import Derived.Test.YtbokdbppjiegjaaAgQ
import Derived.Test.YtbokdbppjiegjaaNeq
import Derived.Deep.DeepCutAuto
import Derived.BigQuiet
import Derived.Deep.QuietTactic
namespace Go.Proofs.Ytbokdbppjiegjaa
open Go.RowKit

theorem neq_dn (a b : Dn) (ha : allOk dnDs a.cells) (hb : allOk dnDs b.cells) (w : World) :
    (binOp .neq 44 (.agg a.cells.toArray) (.agg b.cells.toArray)).run Try.prog w = .ok (.bool (!decide (a = b))) w :=
  neq_flat Try.underlying44 dn_cells dn_flat dn_noBlank dn_key (by decide) _ _ ha hb (decide (a = b)) (by rw [decide_eq_true_iff]; exact (dn_inj a b).symm) w
theorem Ev.fldSid {w : World} {b o : Nat} {e : Ev} (h : w.rangeAt b o e.cells) : w.cell? ⟨b, o + 7, none⟩ = some (.int .i64 e.sid) := h 7 _ rfl

/-- The load of what an exchange came to, and '!=' at it, behind names. -/
noncomputable def ldD (a : Addr) : Sem Value := loadVar 44 a
theorem ldD_eq (a : Addr) : loadVar 44 a = ldD a := rfl
theorem ldD_run {w : World} {b o : Nat} {d : Dn} (h : w.rangeAt b o d.cells) : (ldD ⟨b, o, none⟩).run Try.prog w = .ok (.agg d.cells.toArray) w := by
  unfold ldD
  exact run_loadVar_mid (P := Try.prog) w b o 44 d.cells _ h Try.underlying44 rfl (by kernel_rfl)
noncomputable def neD (x y : Value) : Sem Value := binOp .neq 44 x y
theorem neD_eq (x y : Value) : binOp .neq 44 x y = neD x y := rfl
noncomputable def egD (x y : Operand) (a b : Value) : Sem Unit := eqGuard .neq 44 x y a b
theorem egD_eq (x y : Operand) (a b : Value) : eqGuard .neq 44 x y a b = egD x y a b := rfl
theorem egD_run (x y : Operand) (xs ys : Array Value) (w : World) : (egD x y (.agg xs) (.agg ys)).run Try.prog w = .ok () w := run_eqGuard_agg (w := w) .neq _ x y xs ys dn_guard

theorem wpQuiet_pass {P : Program} {ops : Array Oper} {C : World → Prop} {Q : Act → Prop} {a : Act} {o : Oper} {rest : List Oper} (hw : Region.wanted o (yielded ops a.tmps) = false) (h : wpQuiet P ops C Q rest (a.put o.dst undef)) : wpQuiet P ops C Q (o :: rest) a := by
  unfold wpQuiet
  rw [hw]
  exact h
attribute [local go_sem ↓] ldD_eq neD_eq egD_eq
attribute [local go_sem] egD_run
set_option maxRecDepth 100000 in
set_option maxHeartbeats 16000000 in
theorem law_agreeMaps (es : List Ev) (hok : ∀ e ∈ es, allOk evDs e.cells) (A : Option Addr) (n c : Nat) (w : World) (hc : n ≤ c) (hn : c ≤ 9223372036854775807) (H : Evs w A n es) :
    Calls Try.prog 6 #[.slice A n c] w fun r w' => r = .returned (.bool true) ∧ Below w.heap.size w w' := by
  have aw := Lib.hid (fun W => awake32_any W)
  by_cases h40 : 40 < n
  · go_enter Try.func6, Try.ntmps6
    go_wp2_with (go_at_call 18; refine (aw.out _).mono ?_; rintro r w5 ⟨rfl, hb5⟩)
    go_ret
    exact ⟨rfl, hb5⟩
  have h40 : n ≤ 40 := by omega
  by_cases hR : ∀ k, ruleN es k = 0
  · have cC := Lib.hid (check_ok es hok A n c w hc (by omega) hn H hR)
    have HH := Lib.hid H
    have hok := Lib.hid hok
    have hR := Lib.hid hR
    go_enter Try.func6, Try.ntmps6
    go_wp2_with (go_at_call 23; refine cC.out.mono ?_; rintro r w5 ⟨rfl, hb5⟩; have hB5 := Lib.hid hb5; clear hb5)
    go_loopw [3] (fun i wr => ∃ m : Nat, m ≤ n ∧ i = .int .i64 m ∧ Hid (Below w.heap.size w wr)) (fun i _ => n - (intOf i).toNat)
    case atStart => exact ⟨0, by omega, rfl, hB5⟩
    case round =>
      obtain ⟨m, hm, rfl, hB⟩ := hrel
      by_cases hlt : m < n
      · obtain ⟨b, off, x, rfl, hb, hx, hr⟩ := H.row hlt
        obtain ⟨c0, c1, c2, c3⟩ := Ev.flds hr
        have c7 := Ev.fldSid hr
        have cD := Ev.fldD hr
        have hS := Lib.hid (fun W (h : Below w.heap.size w W) => (⟨(h.cell (p := ⟨b, off + m * 34, none⟩) hb).trans c0, (h.cell (p := ⟨b, off + m * 34 + 3, none⟩) hb).trans c3, (h.cell (p := ⟨b, off + m * 34 + 7, none⟩) hb).trans c7, ldD_run (rangeAt_keep cD h hb)⟩ :
          W.cell? ⟨b, off + m * 34, none⟩ = some (.int .i64 x.kind) ∧ W.cell? ⟨b, off + m * 34 + 3, none⟩ = some (.int .i64 x.who) ∧ W.cell? ⟨b, off + m * 34 + 7, none⟩ = some (.int .i64 x.sid) ∧ (ldD ⟨b, off + m * 34 + 8, none⟩).run Try.prog W = .ok (.agg x.dn.cells.toArray) W))
        have cP := Lib.hid (fun W (h : Below w.heap.size w W) => ahead_any es (some ⟨b, off, none⟩) n c x.who m W (by omega) (HH.out.keep h))
        have cS := Lib.hid (fun W (h : Below w.heap.size w W) => source_any es hok.out (some ⟨b, off, none⟩) n c m x W hc hn (HH.out.keep h) hx)
        obtain ⟨s0, s3, s7, sD⟩ := hS.out wr hB.out
        have hx := Lib.hid hx
        clear hr c0 c1 c2 c3 c7 cD sD s7
        by_cases hk : x.kind = 2 ∨ x.kind = 4
        · cases ha : ahead es x.who m with
          | true =>
            have cP' := cP.out wr hB.out
            rw [ha] at cP'
            have cP' := Lib.hid cP'
            clear ha
            rcases hk with h | h
            all_goals
              rw [h] at s0
              clear h
              go_wp2_with (go_at_call 24; refine cP'.out.mono ?_; rintro r w6 ⟨rfl, rfl⟩)
              go_roundw
              case rel => exact ⟨m + 1, by omega, by go_num, hB⟩
              case measure => simp [intOf]; omega
          | false =>
            have cP' := cP.out wr hB.out
            rw [ha] at cP'
            have cP' := Lib.hid cP'
            obtain ⟨s, y, hs, hsm, hy, e3, eD, e7⟩ := maps_one hR.out hx.out hk ha
            have hTwo := Lib.hid (fun (j : Nat) (z : Ev) => maps_two (es := es) (i := m) (k := j) (x := x) (z := z) hR.out hx.out hk ha)
            rw [hs] at hTwo
            have hV := Lib.hid (show srcV (srcI es m x) = .tuple #[.int .i64 s, .bool true] by rw [hs]; unfold srcV; rw [if_neg (by omega), decide_eq_true (by omega)])
            have hsn : s < n := by omega
            obtain ⟨b', off', y', e', hb', hy', hr'⟩ := H.row hsn
            simp only [Option.some.injEq, Addr.mk.injEq] at e'
            obtain ⟨rfl, rfl, _⟩ := e'
            obtain rfl : y' = y := by rw [hy] at hy'; injection hy' with h; exact h.symm
            obtain ⟨_, _, _, d3⟩ := Ev.flds hr'
            have d7 := Ev.fldSid hr'
            have dD := Ev.fldD hr'
            rw [e3] at d3
            have hT := Lib.hid (fun W (h : Below w.heap.size w W) => (⟨(h.cell (p := ⟨b, off + s * 34 + 3, none⟩) hb).trans d3, (h.cell (p := ⟨b, off + s * 34 + 7, none⟩) hb).trans d7, ldD_run (rangeAt_keep dD h hb)⟩ :
              W.cell? ⟨b, off + s * 34 + 3, none⟩ = some (.int .i64 x.who) ∧ W.cell? ⟨b, off + s * 34 + 7, none⟩ = some (.int .i64 y'.sid) ∧ (ldD ⟨b, off + s * 34 + 8, none⟩).run Try.prog W = .ok (.agg y'.dn.cells.toArray) W))
            have hnq0 : ∀ W, (neD (.agg y'.dn.cells.toArray) (.agg x.dn.cells.toArray)).run Try.prog W = .ok (.bool (!decide (y'.dn = x.dn))) W := neq_dn y'.dn x.dn (dn_ok (hok.out y' (List.mem_of_getElem? hy))) (dn_ok (hok.out x (List.mem_of_getElem? hx.out)))
            have hnq := Lib.hid hnq0
            clear hnq0
            have hrest : (x.kind = 2 ∧ decide (y'.dn = x.dn) = true) ∨ (x.kind = 4 ∧ y'.sid = x.sid) := by
              rcases hk with h | h
              · exact .inl ⟨h, decide_eq_true (eD h)⟩
              · exact .inr ⟨h, e7 h⟩
            clear hr' d3 d7 dD hy hy' e3 eD e7 ha hs hk
            generalize decide (y'.dn = x.dn) = q at hnq hrest
            have hi1 : (0 : Int) ≤ (s : Int) := by omega
            have hi2 : (s : Int) < (m : Int) := by omega
            have hi3 : (m : Int) < (n : Int) := by omega
            have hmsd : decide (m ≤ s) = false := decide_eq_false (by omega)
            have hs0d : decide ((s : Int) < 0) = false := decide_eq_false (by omega)
            rcases hrest with ⟨hk2, rfl⟩ | ⟨hk2, hsid7⟩
            · have hxk := Lib.hid hk2
              as_aux_lemma =>
                have hS := Lib.hid (fun W h => hS.out W h)
                rw [hk2] at s0 hS
                clear hk2
                cases hsid : (y'.sid != x.sid)
                all_goals
                  go_wp2_with (first
                    | (go_at_call 24; refine cP'.out.mono ?_; rintro r w6 ⟨rfl, rfl⟩)
                    | (go_at_call 19; refine (cS.out _ hB.out).mono ?_; rintro r w6 ⟨rfl, hb6⟩; rw [hV.out]; have hB6 := Lib.hid (hB.out.trans (hb6.mono hB.out.size)); clear hb6))
                  have hBq6 : ∀ q, Below w.heap.size w (w6.drewN q) := fun q => hB6.out.trans (Below.mono (drewN_below q) hB6.out.size)
                  have v1 := fun q => (hS.out _ (hBq6 q)).2.2.2
                  have v2 := fun q => (hT.out _ (hBq6 q)).2.2
                  obtain ⟨q0, q3, q7, _⟩ := hS.out w6 hB6.out
                  obtain ⟨d3, d7, _⟩ := hT.out w6 hB6.out
                  have v3 := hnq.out
                  simp only [Bool.not_true, Bool.not_false] at v3
                  clear hBq6
                  simp only [List.append]
                  go_quiet (fail)
                  clear v1 v2 v3
                  go_wp2_with fail
                  go_loopw [6] (fun i wr => ∃ j : Nat, j ≤ m ∧ i = .int .i64 j ∧ Hid (Below w.heap.size w wr)) (fun i _ => m - (intOf i).toNat)
                  case atStart => exact ⟨0, by omega, rfl, hB6.out.trans (Below.mono (drewN_below _) hB6.out.size)⟩
                  case round =>
                    obtain ⟨j, hj, rfl, hBj⟩ := hrel
                    by_cases hjm : j < m
                    · as_aux_lemma =>
                        obtain ⟨b9, off9, z, e9, hb9, hz, hrz⟩ := H.row (show j < n by omega)
                        simp only [Option.some.injEq, Addr.mk.injEq] at e9
                        obtain ⟨rfl, rfl, _⟩ := e9
                        obtain ⟨f0, _, _, f3⟩ := Ev.flds hrz
                        have g0 := Lib.hid (fun W (h : Below w.heap.size w W) => (h.cell (p := ⟨b, off + j * 34, none⟩) hb).trans f0)
                        have g3 := Lib.hid (fun W (h : Below w.heap.size w W) => (h.cell (p := ⟨b, off + j * 34 + 3, none⟩) hb).trans f3)
                        have cQ := Lib.hid (fun W (h : Below w.heap.size w W) => ahead_any es (some ⟨b, off, none⟩) n c z.who j W (by omega) (HH.out.keep h))
                        have cZ := Lib.hid (fun W (h : Below w.heap.size w W) => source_any es hok.out (some ⟨b, off, none⟩) n c j z W hc hn (HH.out.keep h) hz)
                        have hT2 := fun h1 h2 => hTwo.out j z hjm hz h1 h2
                        rw [hxk.out] at hT2
                        obtain ⟨q0, _, _, _⟩ := hS.out wr hBj.out
                        have u0 := g0.out wr hBj.out
                        have u3 := g3.out wr hBj.out
                        clear hrz f0 f3 hz
                        have i1 : (0 : Int) ≤ (j : Int) := by omega
                        have i2 : (j : Int) < (n : Int) := by omega
                        have i3 : (0 : Int) ≤ (m : Int) := by omega
                        have i4 : (m : Int) < (n : Int) := by omega
                        generalize hzk : z.kind = kz at u0 g0 hT2
                        by_cases hkz : kz = 2
                        · subst hkz
                          have cQ' := Lib.hid (fun q => cQ.out (wr.drewN q) (hBj.out.trans (Below.mono (drewN_below q) hBj.out.size)))
                          cases ha : ahead es z.who j with
                          | true =>
                            rw [ha] at cQ'
                            clear hT2 ha
                            go_wp2_with fail
                            go_quiet ((go_at_call 24; exact Calls.quiet_of_same ((cQ'.out _).mono (fun e w' h => ⟨h.1, h.2.symm⟩))))
                            go_wp2_with fail
                            go_roundw
                            case rel => exact ⟨j + 1, by omega, by go_num, hBj.out.trans (Below.mono (drewN_below _) hBj.out.size)⟩
                            case measure => simp [intOf]; omega
                          | false =>
                            rw [ha] at cQ'
                            obtain ⟨t, ht, hts⟩ := hT2 rfl ha
                            have hVz := Lib.hid (show srcV (srcI es j z) = .tuple #[.int .i64 t, .bool true] by rw [ht]; unfold srcV; rw [if_neg (by omega), decide_eq_true (by omega)])
                            have hne : ((t : Int) == (s : Int)) = false := beq_eq_false_iff_ne.2 hts
                            clear hT2 ha ht hts
                            go_wp2_with fail
                            go_quiet ((go_at_call 24; exact Calls.quiet_of_same ((cQ'.out _).mono (fun e w' h => ⟨h.1, h.2.symm⟩))))
                            have hBq : ∀ q, Below w.heap.size w (wr.drewN q) := fun q => hBj.out.trans (Below.mono (drewN_below q) hBj.out.size)
                            have hBq := Lib.hid hBq
                            go_wp2_with (go_at_call 19; refine (cZ.out _ (hBq.out _)).mono ?_; rintro r w8 ⟨rfl, hb8⟩; rw [hVz.out]; have hB8 := Lib.hid ((hBq.out _).trans (hb8.mono (hBq.out _).size)); clear hb8)
                            go_roundw
                            case rel => exact ⟨j + 1, by omega, by go_num, hB8⟩
                            case measure => simp [intOf]; omega
                        · have k1 : (kz == 2) = false := beq_eq_false_iff_ne.2 hkz
                          clear hT2 hkz hzk
                          go_wp2_with fail
                          go_quiet (fail)
                          go_wp2_with fail
                          go_roundw
                          case rel => exact ⟨j + 1, by omega, by go_num, hBj.out.trans (Below.mono (drewN_below _) hBj.out.size)⟩
                          case measure => simp [intOf]; omega
                    · go_wp2_with fail
                      go_roundw
                      case rel => exact ⟨m + 1, by omega, by go_num, hBj⟩
                      case measure => simp [intOf]; omega
            · have hxk := Lib.hid hk2
              rw [hsid7] at hT
              clear hsid7
              as_aux_lemma =>
                have hS := Lib.hid (fun W h => hS.out W h)
                rw [hk2] at s0 hS
                clear hk2
                cases q
                all_goals
                  go_wp2_with (first
                    | (go_at_call 24; refine cP'.out.mono ?_; rintro r w6 ⟨rfl, rfl⟩)
                    | (go_at_call 19; refine (cS.out _ hB.out).mono ?_; rintro r w6 ⟨rfl, hb6⟩; rw [hV.out]; have hB6 := Lib.hid (hB.out.trans (hb6.mono hB.out.size)); clear hb6))
                  have hBq6 : ∀ q, Below w.heap.size w (w6.drewN q) := fun q => hB6.out.trans (Below.mono (drewN_below q) hB6.out.size)
                  have v1 := fun q => (hS.out _ (hBq6 q)).2.2.2
                  have v2 := fun q => (hT.out _ (hBq6 q)).2.2
                  obtain ⟨q0, q3, q7, _⟩ := hS.out w6 hB6.out
                  obtain ⟨d3, d7, _⟩ := hT.out w6 hB6.out
                  have v3 := hnq.out
                  simp only [Bool.not_true, Bool.not_false] at v3
                  clear hBq6
                  simp only [List.append]
                  go_quiet (fail)
                  clear v1 v2 v3
                  go_wp2_with fail
                  go_loopw [6] (fun i wr => ∃ j : Nat, j ≤ m ∧ i = .int .i64 j ∧ Hid (Below w.heap.size w wr)) (fun i _ => m - (intOf i).toNat)
                  case atStart => exact ⟨0, by omega, rfl, hB6.out.trans (Below.mono (drewN_below _) hB6.out.size)⟩
                  case round =>
                    obtain ⟨j, hj, rfl, hBj⟩ := hrel
                    by_cases hjm : j < m
                    · as_aux_lemma =>
                        obtain ⟨b9, off9, z, e9, hb9, hz, hrz⟩ := H.row (show j < n by omega)
                        simp only [Option.some.injEq, Addr.mk.injEq] at e9
                        obtain ⟨rfl, rfl, _⟩ := e9
                        obtain ⟨f0, _, _, f3⟩ := Ev.flds hrz
                        have g0 := Lib.hid (fun W (h : Below w.heap.size w W) => (h.cell (p := ⟨b, off + j * 34, none⟩) hb).trans f0)
                        have g3 := Lib.hid (fun W (h : Below w.heap.size w W) => (h.cell (p := ⟨b, off + j * 34 + 3, none⟩) hb).trans f3)
                        have cQ := Lib.hid (fun W (h : Below w.heap.size w W) => ahead_any es (some ⟨b, off, none⟩) n c z.who j W (by omega) (HH.out.keep h))
                        have cZ := Lib.hid (fun W (h : Below w.heap.size w W) => source_any es hok.out (some ⟨b, off, none⟩) n c j z W hc hn (HH.out.keep h) hz)
                        have hT2 := fun h1 h2 => hTwo.out j z hjm hz h1 h2
                        rw [hxk.out] at hT2
                        obtain ⟨q0, _, _, _⟩ := hS.out wr hBj.out
                        have u0 := g0.out wr hBj.out
                        have u3 := g3.out wr hBj.out
                        clear hrz f0 f3 hz
                        have i1 : (0 : Int) ≤ (j : Int) := by omega
                        have i2 : (j : Int) < (n : Int) := by omega
                        have i3 : (0 : Int) ≤ (m : Int) := by omega
                        have i4 : (m : Int) < (n : Int) := by omega
                        generalize hzk : z.kind = kz at u0 g0 hT2
                        by_cases hkz : kz = 4
                        · subst hkz
                          have cQ' := Lib.hid (fun q => cQ.out (wr.drewN q) (hBj.out.trans (Below.mono (drewN_below q) hBj.out.size)))
                          cases ha : ahead es z.who j with
                          | true =>
                            rw [ha] at cQ'
                            clear hT2 ha
                            go_wp2_with fail
                            go_quiet ((go_at_call 24; exact Calls.quiet_of_same ((cQ'.out _).mono (fun e w' h => ⟨h.1, h.2.symm⟩))))
                            go_wp2_with fail
                            go_roundw
                            case rel => exact ⟨j + 1, by omega, by go_num, hBj.out.trans (Below.mono (drewN_below _) hBj.out.size)⟩
                            case measure => simp [intOf]; omega
                          | false =>
                            rw [ha] at cQ'
                            obtain ⟨t, ht, hts⟩ := hT2 rfl ha
                            have hVz := Lib.hid (show srcV (srcI es j z) = .tuple #[.int .i64 t, .bool true] by rw [ht]; unfold srcV; rw [if_neg (by omega), decide_eq_true (by omega)])
                            have hne : ((t : Int) == (s : Int)) = false := beq_eq_false_iff_ne.2 hts
                            clear hT2 ha ht hts
                            go_wp2_with fail
                            go_quiet ((go_at_call 24; exact Calls.quiet_of_same ((cQ'.out _).mono (fun e w' h => ⟨h.1, h.2.symm⟩))))
                            have hBq : ∀ q, Below w.heap.size w (wr.drewN q) := fun q => hBj.out.trans (Below.mono (drewN_below q) hBj.out.size)
                            have hBq := Lib.hid hBq
                            go_wp2_with (go_at_call 19; refine (cZ.out _ (hBq.out _)).mono ?_; rintro r w8 ⟨rfl, hb8⟩; rw [hVz.out]; have hB8 := Lib.hid ((hBq.out _).trans (hb8.mono (hBq.out _).size)); clear hb8)
                            go_roundw
                            case rel => exact ⟨j + 1, by omega, by go_num, hB8⟩
                            case measure => simp [intOf]; omega
                        · have k1 : (kz == 4) = false := beq_eq_false_iff_ne.2 hkz
                          clear hT2 hkz hzk
                          go_wp2_with fail
                          go_quiet (fail)
                          go_wp2_with fail
                          go_roundw
                          case rel => exact ⟨j + 1, by omega, by go_num, hBj.out.trans (Below.mono (drewN_below _) hBj.out.size)⟩
                          case measure => simp [intOf]; omega
                    · go_wp2_with fail
                      go_roundw
                      case rel => exact ⟨m + 1, by omega, by go_num, hBj⟩
                      case measure => simp [intOf]; omega
        · have k2 : (x.kind != 2) = true := by unfold bne; rw [beq_eq_false_iff_ne.2 (fun h => hk (.inl h))]; rfl
          have k4 : (x.kind != 4) = true := by unfold bne; rw [beq_eq_false_iff_ne.2 (fun h => hk (.inr h))]; rfl
          have l2 : (x.kind == 2) = false := beq_eq_false_iff_ne.2 (fun h => hk (.inl h))
          have l4 : (x.kind == 4) = false := beq_eq_false_iff_ne.2 (fun h => hk (.inr h))
          clear hk
          go_wp2_with fail
          go_roundw
          case rel => exact ⟨m + 1, by omega, by go_num, hB⟩
          case measure => simp [intOf]; omega
      · go_wp2_with (go_at_call 18; refine (aw.out _).mono ?_; rintro r w6 ⟨rfl, hb6⟩)
        go_ret
        exact ⟨rfl, hB.out.trans (hb6.mono hB.out.size)⟩
  · obtain ⟨k, hk⟩ := Classical.not_forall.1 hR
    have cC := Lib.hid (check_bad es hok A n c w hc (by omega) hn H hk)
    clear hR hk
    go_enter Try.func6, Try.ntmps6
    go_wp2_with (first
      | (go_at_call 23; refine cC.out.mono ?_; rintro r w5 ⟨T, u, rfl, hb5⟩)
      | (go_at_call 18; refine (aw.out _).mono ?_; rintro r w6 ⟨rfl, hb6⟩))
    go_ret
    exact ⟨rfl, hb5.trans (hb6.mono hb5.size)⟩
end Go.Proofs.Ytbokdbppjiegjaa
