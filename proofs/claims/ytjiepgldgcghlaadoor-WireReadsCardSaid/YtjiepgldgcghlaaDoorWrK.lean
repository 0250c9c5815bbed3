/- The reference's reader: Text, Bool, Whole. -/
import Derived.Test.YtjiepgldgcghlaaDoorWrJ
namespace Go.Proofs.YtjiepgldgcghlaaDoor
open Go.RowKit

section
variable (g : Nat) (S : ByteArray) (w : World)
theorem qText_err (e : Int) (h : RQ w g S e) (he : e ≠ 0) :
    Calls Tryd.prog 38 #[.pointer (some ⟨g, 0, none⟩)] w fun r w' => r = .returned (.string ⟨#[]⟩) ∧ w = w' := by
  obtain ⟨c0, c1, z0, z1⟩ := h.cells
  have hb : (e != 0) = true := by rw [bne_iff_ne]; exact he
  clear he h
  go_enter Tryd.func38, Tryd.ntmps38
  go_wp2_with fail
  go_ret
  exact ⟨rfl, rfl⟩
theorem lenAt0 : lenAt S 0 = (numb (S.extract 0 4).toList).toNat := rfl
theorem qText_short (h : RQ w g S 0) (hs : S.size ≤ 1000000) (hn : S.size < 4 ∨ S.size < 4 + lenAt S 0) :
    Calls Tryd.prog 38 #[.pointer (some ⟨g, 0, none⟩)] w fun r w' => r = .returned (.string ⟨#[]⟩) ∧ RQ w' g S 4 ∧ Chg w w' g := by
  by_cases h4 : S.size < 4
  · clear hn
    have l0 : (S.size : Int) < 4 := by omega
    obtain ⟨c0, c1, z0, z1⟩ := h.cells
    have hh := Lib.hid h
    clear h
    go_enter Tryd.func38, Tryd.ntmps38
    go_wp2_with fail
    go_quiet (fail)
    have hb := (drewN_below nq : Below w.heap.size w (w.drewN nq))
    have hR := Lib.hid ((hh.out.keep hb).err 4)
    have hC := Lib.hid ((chg_of hb (Nat.le_of_lt hh.out.lt)).setCell 1 (.int .i64 4))
    obtain ⟨d0, d1, y0, y1⟩ := (hh.out.keep hb).cells
    generalize w.drewN nq = w2 at hR hC d0 d1 y0 y1 ⊢
    clear c0 c1 z0 z1 hb
    go_wp2_with fail
    go_ret
    exact ⟨rfl, hR.out, hC.out⟩
  · obtain ⟨hn1, hn2⟩ := lenAt_eq S 0
    have hv := numb_lt (l := (S.extract 0 4).toList) (by rw [bsl_len, ByteArray.size_extract]; omega)
    have cV := Lib.hid (fun W => value_any (S.extract 0 4) W (by rw [ByteArray.size_extract]; omega))
    rw [Nat.zero_add] at hn1 hn2
    generalize numb (S.extract 0 4).toList = x at cV hn1 hn2 hv
    have hx : (S.size : Int) - 4 < x := by omega
    have l1 : (4 : Int) ≤ (S.size : Int) := by omega
    have l2 : ¬ ((S.size : Int) < 4) := by omega
    have e1 : IntKind.i64.wrap ((S.size : Int) - 4) = (S.size : Int) - 4 := by rw [IntWalk.i64_in _ (by omega)]
    obtain ⟨c0, c1, z0, z1⟩ := h.cells
    have hh := Lib.hid h
    clear h hn hn1 hn2 hv
    go_enter Tryd.func38, Tryd.ntmps38
    go_wp2_with fail
    go_quiet ((go_at_call 58; exact Calls.quiet_of_same ((cV.out _).mono (fun e w' h => ⟨h.1, h.2.symm⟩))))
    have hb := (drewN_below nq : Below w.heap.size w (w.drewN nq))
    have hR := Lib.hid ((hh.out.keep hb).err 4)
    have hC := Lib.hid ((chg_of hb (Nat.le_of_lt hh.out.lt)).setCell 1 (.int .i64 4))
    obtain ⟨d0, d1, y0, y1⟩ := (hh.out.keep hb).cells
    generalize w.drewN nq = w2 at hR hC d0 d1 y0 y1 ⊢
    clear c0 c1 z0 z1 hb
    go_wp2_with fail
    go_ret
    exact ⟨rfl, hR.out, hC.out⟩
theorem qText_ok (h : RQ w g S 0) (hs : S.size ≤ 1000000) (hn : 4 + lenAt S 0 ≤ S.size) :
    Calls Tryd.prog 38 #[.pointer (some ⟨g, 0, none⟩)] w fun r w' => r = .returned (.string ((S.extract 4 S.size).extract 0 (lenAt S 0))) ∧ RQ w' g ((S.extract 4 S.size).extract (lenAt S 0) (S.extract 4 S.size).size) 0 ∧ Chg w w' g := by
  obtain ⟨hn1, hn2⟩ := lenAt_eq S 0
  have hv := numb_lt (l := (S.extract 0 4).toList) (by rw [bsl_len, ByteArray.size_extract]; omega)
  have cV := Lib.hid (fun W => value_any (S.extract 0 4) W (by rw [ByteArray.size_extract]; omega))
  rw [Nat.zero_add] at hn1 hn2
  generalize hxx : numb (S.extract 0 4).toList = x at cV hn1 hn2 hv
  clear hxx
  have c1' := fun W (H : RQ W g S 0) => qBytes_ok g S W 4 H hs (by omega)
  have hsz : (S.extract 4 S.size).size = S.size - 4 := by rw [ByteArray.size_extract]; omega
  have c2' := fun W (H : RQ W g (S.extract 4 S.size) 0) => qBytes_ok g (S.extract 4 S.size) W (lenAt S 0) H (by omega) (by omega)
  generalize S.extract 4 S.size = S2 at c1' c2' hsz ⊢
  generalize hm : lenAt S 0 = m at hn hn1 c2' ⊢
  clear hm
  subst hn1
  have hx : ¬ ((S.size : Int) - 4 < (m : Int)) := by omega
  have l1 : (4 : Int) ≤ (S.size : Int) := by omega
  have l2 : ¬ ((S.size : Int) < 4) := by omega
  have e1 : IntKind.i64.wrap ((S.size : Int) - 4) = (S.size : Int) - 4 := by rw [IntWalk.i64_in _ (by omega)]
  obtain ⟨c0, c1, z0, z1⟩ := h.cells
  have hh := Lib.hid h
  have k1 := Lib.hid c1'
  have k2 := Lib.hid c2'
  clear h hn hn2 hv c1' c2'
  go_enter Tryd.func38, Tryd.ntmps38
  go_wp2_with fail
  go_quiet ((go_at_call 58; exact Calls.quiet_of_same ((cV.out _).mono (fun e w' h => ⟨h.1, h.2.symm⟩))))
  have hR := Lib.hid (hh.out.keep (drewN_below nq))
  have hC := Lib.hid (chg_of (drewN_below nq) (Nat.le_of_lt hh.out.lt))
  generalize w.drewN nq = w2 at hR hC ⊢
  clear c0 c1 z0 z1
  go_wp2_with fail
  refine (k1.out w2 hR.out).mono ?_
  rintro r w3 ⟨rfl, hR3, hC3⟩
  have hR3' := Lib.hid hR3
  have hC3' := Lib.hid (hC.out.trans hC3)
  clear hR3 hC3
  go_wp2_with fail
  refine (cV.out _).mono ?_
  rintro r w4 ⟨rfl, rfl⟩
  go_wp2_with fail
  refine (k2.out w3 hR3'.out).mono ?_
  rintro r w5 ⟨rfl, hR5, hC5⟩
  have hR5' := Lib.hid hR5
  have hC5' := Lib.hid (hC3'.out.trans hC5)
  clear hR5 hC5
  go_wp2_with fail
  go_ret
  exact ⟨rfl, hR5'.out, hC5'.out⟩
theorem qBool_form (h : RQ w g S 0) (hs : S.size ≤ 1000000) (h0 : 0 < S.size) (h1 : 1 < firstN S) :
    Calls Tryd.prog 34 #[.pointer (some ⟨g, 0, none⟩)] w fun r w' => r = .returned (.bool false) ∧ RQ w' g S 3 ∧ Chg w w' g := by
  obtain ⟨c0, c1, z0, z1⟩ := h.cells
  have hv : 1 < ((S[0]'h0).toNat : Int) := by unfold firstN at h1; rw [dif_pos h0] at h1; exact h1
  have l0 : (0 : Int) < (S.size : Int) := by omega
  have hR := Lib.hid (h.err 3)
  have hC := Lib.hid ((Chg.refl w (Nat.le_of_lt h.lt)).setCell 1 (.int .i64 3))
  clear h h1
  go_enter Tryd.func34, Tryd.ntmps34
  go_wp2_with fail
  go_ret
  exact ⟨rfl, hR.out, hC.out⟩
theorem qBool_err {Q : World → Prop} {x : Int} (e : Int) (h : RQ w g S e) (he : e ≠ 0)
    (c : Calls Tryd.prog 32 #[.pointer (some ⟨g, 0, none⟩)] w fun r w' => r = .returned (.int .u8 x) ∧ Q w') :
    Calls Tryd.prog 34 #[.pointer (some ⟨g, 0, none⟩)] w fun r w' => r = .returned (.bool (x == 1)) ∧ Q w' := by
  obtain ⟨c0, c1, z0, z1⟩ := h.cells
  have c := Lib.hid c
  have hb : (e == 0) = false := beq_eq_false_iff_ne.2 he
  clear he h
  go_enter Tryd.func34, Tryd.ntmps34
  go_wp2_with (go_at_call 32; refine c.out.mono ?_; rintro r w1 ⟨rfl, hQ⟩; have hQ := Lib.hid hQ)
  go_ret
  exact ⟨rfl, hQ.out⟩
theorem qBool_nil {Q : World → Prop} {x : Int} (h : RQ w g S 0) (hz : S.size = 0)
    (c : Calls Tryd.prog 32 #[.pointer (some ⟨g, 0, none⟩)] w fun r w' => r = .returned (.int .u8 x) ∧ Q w') :
    Calls Tryd.prog 34 #[.pointer (some ⟨g, 0, none⟩)] w fun r w' => r = .returned (.bool (x == 1)) ∧ Q w' := by
  obtain ⟨c0, c1, z0, z1⟩ := h.cells
  have c := Lib.hid c
  clear h
  go_enter Tryd.func34, Tryd.ntmps34
  go_wp2_with (go_at_call 32; refine c.out.mono ?_; rintro r w1 ⟨rfl, hQ⟩; have hQ := Lib.hid hQ)
  go_ret
  exact ⟨rfl, hQ.out⟩
theorem qBool_ok {Q : World → Prop} {x : Int} (h : RQ w g S 0) (hs : S.size ≤ 1000000) (h0 : 0 < S.size) (h1 : firstN S ≤ 1)
    (c : Calls Tryd.prog 32 #[.pointer (some ⟨g, 0, none⟩)] w fun r w' => r = .returned (.int .u8 x) ∧ Q w') :
    Calls Tryd.prog 34 #[.pointer (some ⟨g, 0, none⟩)] w fun r w' => r = .returned (.bool (x == 1)) ∧ Q w' := by
  obtain ⟨c0, c1, z0, z1⟩ := h.cells
  have c := Lib.hid c
  have hv : ¬ (1 < ((S[0]'h0).toNat : Int)) := by unfold firstN at h1; rw [dif_pos h0] at h1; omega
  have l0 : (0 : Int) < (S.size : Int) := by omega
  clear h h1
  go_enter Tryd.func34, Tryd.ntmps34
  go_wp2_with (go_at_call 32; refine c.out.mono ?_; rintro r w1 ⟨rfl, hQ⟩; have hQ := Lib.hid hQ)
  go_ret
  exact ⟨rfl, hQ.out⟩
theorem copyAt (w : World) (o : Obj) (g : Nat) (w2 : World) (hg : g < w.heap.size) (hC : Chg (w.alloc o) w2 g) : w2.heap[w.heap.size]? = some o := by
  have hr := heap_new w o
  exact (hC.2.2 w.heap.size hg (Array.getElem?_eq_some_iff.1 hr).1).trans hr
set_option maxHeartbeats 2000000 in
/-- Whole by what Text read. -/
theorem qWhole_of (e k2 : Int) (S2 t : ByteArray) (h : RQ w g S e) (ht : t.size ≤ 90000) (he : k2 ≠ 0 ∨ wholeB t = true)
    (c : ∀ W, RQ W g S e → Calls Tryd.prog 38 #[.pointer (some ⟨g, 0, none⟩)] W fun r w' => r = .returned (.string t) ∧ RQ w' g S2 k2 ∧ Chg W w' g) :
    Calls Tryd.prog 39 #[.pointer (some ⟨g, 0, none⟩)] w fun r w' => r = .returned (.string (plainS t)) ∧ RQ w' g S2 k2 ∧ Chg w w' g := by
  obtain ⟨c0, c1, z0, z1⟩ := h.cells
  have cP := Lib.hid (fun W => refPlain_any t W (by omega))
  have cw := Lib.hid c
  have hC0 := Lib.hid (chg_of ((Below.refl w.heap.size w).alloc (Nat.le_refl _) (.cells #[.string S, .int .i64 e] 53)) (Nat.le_of_lt h.lt))
  have hK0 := Lib.hid (h.keep ((Below.refl w.heap.size w).alloc (Nat.le_refl _) (.cells #[.string S, .int .i64 e] 53)))
  clear h c
  by_cases hk : k2 = 0
  · subst hk
    have hwb : wholeB t = true := he.resolve_left (fun h => h rfl)
    have cW := fun W => refWhole_any t W (by omega)
    have cT := fun W => refText_any t W (by omega)
    rw [encS_eq hwb] at cW
    clear he hwb
    generalize textS t = X at cW cT
    have cWH := Lib.hid cW
    have cTH := Lib.hid cT
    clear cW cT
    go_enter Tryd.func39, Tryd.ntmps39
    go_wp2_with fail
    refine (cw.out _ hK0.out).mono ?_
    rintro r w2 ⟨rfl, hR, hC⟩
    have hR2 := Lib.hid hR
    have hC2 := Lib.hid (hC0.out.trans hC)
    obtain ⟨d0, d1, y0, y1⟩ := hR.cells
    clear hR hC c0 c1 z0 z1
    go_wp2_with fail
    refine (cWH.out w2).mono ?_
    rintro r w3 ⟨rfl, hb⟩
    have hR3 := Lib.hid (hR2.out.keep hb)
    have hC3 := Lib.hid (hC2.out.trans (chg_of hb (Nat.le_of_lt hR2.out.lt)))
    clear hb d0 d1 y0 y1
    go_wp2_with fail
    refine (cTH.out w3).mono ?_
    rintro r w4 ⟨rfl, hb⟩
    have hR4 := Lib.hid (hR3.out.keep hb)
    have hC4 := Lib.hid (hC3.out.trans (chg_of hb (Nat.le_of_lt hR3.out.lt)))
    clear hb
    go_wp2_with fail
    refine (cP.out w4).mono ?_
    rintro r w5 ⟨rfl, rfl⟩
    go_wp2_with fail
    go_ret
    exact ⟨rfl, hR4.out, hC4.out⟩
  · have hb : (k2 == 0) = false := beq_eq_false_iff_ne.2 hk
    clear he hk
    go_enter Tryd.func39, Tryd.ntmps39
    go_wp2_with fail
    refine (cw.out _ hK0.out).mono ?_
    rintro r w2 ⟨rfl, hR, hC⟩
    have hR2 := Lib.hid hR
    have hC2 := Lib.hid (hC0.out.trans hC)
    obtain ⟨d0, d1, y0, y1⟩ := hR.cells
    clear hR hC c0 c1 z0 z1
    go_wp2_with fail
    refine (cP.out w2).mono ?_
    rintro r w5 ⟨rfl, rfl⟩
    go_wp2_with fail
    go_ret
    exact ⟨rfl, hR2.out, hC2.out⟩
set_option maxHeartbeats 2000000 in
/-- Whole where what Text read is no whole number in its one form. -/
theorem qWhole_form (S2 t : ByteArray) (h : RQ w g S 0) (ht : t.size ≤ 90000) (hwb : wholeB t = false)
    (c : ∀ W, RQ W g S 0 → Calls Tryd.prog 38 #[.pointer (some ⟨g, 0, none⟩)] W fun r w' => r = .returned (.string t) ∧ RQ w' g S2 0 ∧ Chg W w' g) :
    Calls Tryd.prog 39 #[.pointer (some ⟨g, 0, none⟩)] w fun r w' => r = .returned (.string ⟨#[]⟩) ∧ RQ w' g S 3 ∧ Chg w w' g := by
  obtain ⟨c0, c1, z0, z1⟩ := h.cells
  have cw := Lib.hid c
  have hlt := h.lt
  have hC0 := Lib.hid (chg_of ((Below.refl w.heap.size w).alloc (Nat.le_refl _) (.cells #[.string S, .int .i64 0] 53)) (Nat.le_of_lt h.lt))
  have hK0 := Lib.hid (h.keep ((Below.refl w.heap.size w).alloc (Nat.le_refl _) (.cells #[.string S, .int .i64 0] 53)))
  have hcp := Lib.hid (fun w2 hC => copyAt w (.cells #[.string S, .int .i64 0] 53) g w2 hlt hC)
  clear h c hlt
  have cW := fun W => refWhole_any t W (by omega)
  have cT := fun W => refText_any t W (by omega)
  have hne : textS (encS t) ≠ textS t := fun e => encS_ne hwb (textS_inj e)
  have n2 : ((textS (encS t)).toList != (textS t).toList) = true := by rw [bne_iff_ne]; exact fun e => hne (bs_ext e)
  have n1 : ((textS (encS t)).toList == (textS t).toList) = false := beq_eq_false_iff_ne.2 (fun e => hne (bs_ext e))
  clear hne hwb
  generalize textS (encS t) = X at cW n1 n2
  generalize textS t = Y at cT n1 n2
  have cWH := Lib.hid cW
  have cTH := Lib.hid cT
  clear cW cT
  go_enter Tryd.func39, Tryd.ntmps39
  go_wp2_with fail
  refine (cw.out _ hK0.out).mono ?_
  rintro r w2 ⟨rfl, hR, hC⟩
  have hR2 := Lib.hid hR
  have hC2 := Lib.hid (hC0.out.trans hC)
  have hp2 := hcp.out _ hC
  obtain ⟨d0, d1, y0, y1⟩ := hR.cells
  generalize w.heap.size = p at hp2 ⊢
  have hp2H := Lib.hid hp2
  clear hR hC c0 c1 z0 z1 hp2 hC0 hK0 hcp
  go_wp2_with fail
  refine (cWH.out w2).mono ?_
  rintro r w3 ⟨rfl, hb⟩
  have hR3 := Lib.hid (hR2.out.keep hb)
  have hC3 := Lib.hid (hC2.out.trans (chg_of hb (Nat.le_of_lt hR2.out.lt)))
  have hp3 := Lib.hid ((hb.block p (Array.getElem?_eq_some_iff.1 hp2H.out).1).trans hp2H.out)
  clear hb d0 d1 y0 y1
  go_wp2_with fail
  refine (cTH.out w3).mono ?_
  rintro r w4 ⟨rfl, hb⟩
  have hR4 := hR3.out.keep hb
  have hC4 := hC3.out.trans (chg_of hb (Nat.le_of_lt hR3.out.lt))
  have hp4 := (hb.block p (Array.getElem?_eq_some_iff.1 hp3.out).1).trans hp3.out
  have k0 := cell_of_row w4 p 0 _ _ _ hp4
  obtain ⟨d0, d1, y0, y1⟩ := hR4.cells
  have hRf := Lib.hid ((hR4.at_ S).err 3)
  have hCf := Lib.hid ((hC4.setCell 0 (.string S)).setCell 1 (.int .i64 3))
  clear hb hR4 hC4 hp4
  go_wp2_with fail
  go_ret
  exact ⟨rfl, hRf.out, hCf.out⟩
end
end Go.Proofs.YtjiepgldgcghlaaDoor
