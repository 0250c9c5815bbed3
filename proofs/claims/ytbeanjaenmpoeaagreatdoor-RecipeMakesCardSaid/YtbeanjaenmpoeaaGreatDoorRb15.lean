/- The reference's recipes: one step. -/
import Derived.Test.YtbeanjaenmpoeaaGreatDoorRb14
namespace Go.Proofs.YtbeanjaenmpoeaaGreatDoor
open Go.RowKit Go.Maps

section
variable {known sent os : List (Option Tm)} {a b e : Int} {s : List UInt8}
theorem step0 : stepT known sent os ⟨0, a, b, e, s⟩ = dataT s := by simp [stepT, sel]
theorem step1 : stepT known sent os ⟨1, a, b, e, s⟩ = nonceT 0 a := by simp [stepT, sel]
theorem step2 : stepT known sent os ⟨2, a, b, e, s⟩ = pkO known a := by simp [stepT, sel]
theorem step3 : stepT known sent os ⟨3, a, b, e, s⟩ = pkO sent a := by simp [stepT, sel]
theorem step4 : stepT known sent os ⟨4, a, b, e, s⟩ = baseT s := by simp [stepT, sel]
theorem step5 : stepT known sent os ⟨5, a, b, e, s⟩ = expT (pkO os a) (pkO os b) := by simp [stepT, sel]
theorem step6 : stepT known sent os ⟨6, a, b, e, s⟩ = pubT (pkO os a) := by simp [stepT, sel]
theorem step7 : stepT known sent os ⟨7, a, b, e, s⟩ = signT s (pkO os a) (pkO os b) := by simp [stepT, sel]
theorem step8 : stepT known sent os ⟨8, a, b, e, s⟩ = hashT (pkO os a) := by simp [stepT, sel]
theorem step12 : stepT known sent os ⟨12, a, b, e, s⟩ = listT [] := by simp [stepT, sel]
end
set_option maxRecDepth 100000 in
set_option maxHeartbeats 2000000 in
theorem rstep_any {known sent os : List (Option Tm)} {A KA SA : Option Addr} {n c kn kc sn sc : Nat} (k a b e : Int) (s : List UInt8) (w : World) (hn : n ≤ 1000) (hkn : kn ≤ 1000) (hsn : sn ≤ 1000) (hf : Fine os)
    (hK : TxS w KA kn known) (hS : TxS w SA sn sent) (hA : TxS w A n os) (hs : s.length ≤ 4000000000) :
    Calls Tryz.prog 55 #[.slice KA kn kc, .slice SA sn sc, .slice A n c, .agg (mkRow k a b e s).toArray] w (TxR w (encO (stepT known sent os ⟨k, a, b, e, s⟩))) := by
  have hB1 := below_new w (.cells (mkRow k a b e s).toArray 96)
  have hr := heap_new w (.cells (mkRow k a b e s).toArray 96)
  obtain ⟨w1, hw1⟩ : ∃ w1, w1 = w.alloc (.cells (mkRow k a b e s).toArray 96) := ⟨_, rfl⟩
  rw [← hw1] at hB1 hr
  have hAt := Lib.hid (fun i => rat14_any (c := c) i w1 hn (Strs.keep hA hB1))
  have hAk := Lib.hid (rat14_any (c := kc) a w1 hkn (Strs.keep hK hB1))
  have hAs := Lib.hid (rat14_any (c := sc) a w1 hsn (Strs.keep hS hB1))
  have hbx := mk_box hr
  have hrow := Lib.hid (rangeAt_list hr)
  have cM := Lib.hid (fun h => more_any (known := known) (sent := sent) (c := c) k a b e s w1 hn hf (Strs.keep hA hB1) hs h)
  have hP1 := hf.pick a
  have hP2 := hf.pick b
  have hAa := Lib.hid (hAt.out a)
  have hAb := Lib.hid (hAt.out b)
  have hB1h := Lib.hid hB1
  have hw1h := Lib.hid hw1
  clear hB1 hr hK hS hA hAt hf hw1
  unfold TxR
  unfold mkRow at *
  obtain ⟨res, hres⟩ : ∃ res, stepT known sent os ⟨k, a, b, e, s⟩ = res := ⟨_, rfl⟩
  rw [hres]
  obtain ⟨p1, hp1⟩ : ∃ p, pkO os a = p := ⟨_, rfl⟩
  obtain ⟨p2, hp2⟩ : ∃ p, pkO os b = p := ⟨_, rfl⟩
  rw [hp1] at hP1 hAa
  rw [hp2] at hP2 hAb
  go_enter Tryz.func55, Tryz.ntmps55
  go_upto_region 1 with fail
  have hw1' := hw1h.out
  rw [← hw1']
  clear hw1' hw1h
  obtain ⟨q0, q1, q2, q3, q4⟩ := hbx
  go_upto_region 4 with (first
    | (go_at_call 90; (with_reducible refine hAa.out.mono ?_); rintro r w2 ⟨rfl, rfl⟩)
    | (go_at_call 90; (with_reducible refine hAb.out.mono ?_); rintro r w2 ⟨rfl, rfl⟩))
  clear hAa hAb
  by_cases h0 : k = 0
  · subst h0
    rw [step0] at hres
    have cX := rData_any s w1 hs
    unfold TxR at cX
    rw [hres] at cX
    replace cX := Lib.hid cX
    clear cM hAk hAs hP1 hP2 hp1 hp2 hres
    generalize hrs : bs (encO res) = rs at *
    have hrsh := Lib.hid hrs
    clear hrs
    generalize bs s = y at *
    generalize bs (encO p1) = y1 at *
    generalize bs (encO p2) = y2 at *
    go_wp2_with (go_at_call 65; refine cX.out.mono ?_; rintro r w3 ⟨rfl, hb3⟩)
    go_ret
    exact ⟨(congrArg (fun y => Ending.returned (Value.string y)) hrsh.out).symm, hB1h.out.trans (hb3.mono hB1h.out.size)⟩
  by_cases h1 : k = 1
  · subst h1
    rw [step1] at hres
    have cX := rNonce_any 0 a w1
    unfold TxR at cX
    rw [hres] at cX
    replace cX := Lib.hid cX
    clear cM hAk hAs hP1 hP2 hp1 hp2 hres
    generalize hrs : bs (encO res) = rs at *
    have hrsh := Lib.hid hrs
    clear hrs
    generalize bs s = y at *
    generalize bs (encO p1) = y1 at *
    generalize bs (encO p2) = y2 at *
    go_wp2_with (go_at_call 51; refine cX.out.mono ?_; rintro r w3 ⟨rfl, hb3⟩)
    go_ret
    exact ⟨(congrArg (fun y => Ending.returned (Value.string y)) hrsh.out).symm, hB1h.out.trans (hb3.mono hB1h.out.size)⟩
  by_cases h2 : k = 2
  · subst h2
    rw [step2] at hres
    have cX := hAk.out
    rw [hres] at cX
    replace cX := Lib.hid cX
    clear cM hAk hAs hP1 hP2 hp1 hp2 hres
    generalize hrs : bs (encO res) = rs at *
    have hrsh := Lib.hid hrs
    clear hrs
    generalize bs s = y at *
    generalize bs (encO p1) = y1 at *
    generalize bs (encO p2) = y2 at *
    go_wp2_with (go_at_call 90; (with_reducible refine cX.out.mono ?_); rintro r w3 ⟨rfl, rfl⟩)
    go_ret
    exact ⟨(congrArg (fun y => Ending.returned (Value.string y)) hrsh.out).symm, hB1h.out⟩
  by_cases h3 : k = 3
  · subst h3
    rw [step3] at hres
    have cX := hAs.out
    rw [hres] at cX
    replace cX := Lib.hid cX
    clear cM hAk hAs hP1 hP2 hp1 hp2 hres
    generalize hrs : bs (encO res) = rs at *
    have hrsh := Lib.hid hrs
    clear hrs
    generalize bs s = y at *
    generalize bs (encO p1) = y1 at *
    generalize bs (encO p2) = y2 at *
    go_wp2_with (go_at_call 90; (with_reducible refine cX.out.mono ?_); rintro r w3 ⟨rfl, rfl⟩)
    go_ret
    exact ⟨(congrArg (fun y => Ending.returned (Value.string y)) hrsh.out).symm, hB1h.out⟩
  by_cases h4 : k = 4
  · subst h4
    rw [step4] at hres
    have cX := rBase_any s w1 hs
    unfold TxR at cX
    rw [hres] at cX
    replace cX := Lib.hid cX
    clear cM hAk hAs hP1 hP2 hp1 hp2 hres
    generalize hrs : bs (encO res) = rs at *
    have hrsh := Lib.hid hrs
    clear hrs
    generalize bs s = y at *
    generalize bs (encO p1) = y1 at *
    generalize bs (encO p2) = y2 at *
    go_wp2_with (go_at_call 49; refine cX.out.mono ?_; rintro r w3 ⟨rfl, hb3⟩)
    go_ret
    exact ⟨(congrArg (fun y => Ending.returned (Value.string y)) hrsh.out).symm, hB1h.out.trans (hb3.mono hB1h.out.size)⟩
  by_cases h5 : k = 5
  · subst h5
    rw [step5, hp1, hp2] at hres
    have cX := rExp_any p1 p2 hP1.1 hP2.1 hP1.2 hP2.2 w1
    unfold TxR at cX
    rw [hres] at cX
    replace cX := Lib.hid cX
    clear cM hAk hAs hP1 hP2 hp1 hp2 hres
    generalize hrs : bs (encO res) = rs at *
    have hrsh := Lib.hid hrs
    clear hrs
    generalize bs s = y at *
    generalize bs (encO p1) = y1 at *
    generalize bs (encO p2) = y2 at *
    go_wp2_with (go_at_call 45; refine cX.out.mono ?_; rintro r w3 ⟨rfl, hb3⟩)
    go_ret
    exact ⟨(congrArg (fun y => Ending.returned (Value.string y)) hrsh.out).symm, hB1h.out.trans (hb3.mono hB1h.out.size)⟩
  by_cases h6 : k = 6
  · subst h6
    rw [step6, hp1] at hres
    have cX := rPub_any p1 hP1.1 (by omega) w1
    unfold TxR at cX
    rw [hres] at cX
    replace cX := Lib.hid cX
    clear cM hAk hAs hP1 hP2 hp1 hp2 hres
    generalize hrs : bs (encO res) = rs at *
    have hrsh := Lib.hid hrs
    clear hrs
    generalize bs s = y at *
    generalize bs (encO p1) = y1 at *
    generalize bs (encO p2) = y2 at *
    go_wp2_with (go_at_call 67; refine cX.out.mono ?_; rintro r w3 ⟨rfl, hb3⟩)
    go_ret
    exact ⟨(congrArg (fun y => Ending.returned (Value.string y)) hrsh.out).symm, hB1h.out.trans (hb3.mono hB1h.out.size)⟩
  by_cases h7 : k = 7
  · subst h7
    rw [step7, hp1, hp2] at hres
    have cX := rSign_any s p1 p2 hs hP1.1 hP1.2 hP2.2 w1
    unfold TxR at cX
    rw [hres] at cX
    replace cX := Lib.hid cX
    clear cM hAk hAs hP1 hP2 hp1 hp2 hres
    generalize hrs : bs (encO res) = rs at *
    have hrsh := Lib.hid hrs
    clear hrs
    generalize bs s = y at *
    generalize bs (encO p1) = y1 at *
    generalize bs (encO p2) = y2 at *
    go_wp2_with (go_at_call 68; refine cX.out.mono ?_; rintro r w3 ⟨rfl, hb3⟩)
    go_ret
    exact ⟨(congrArg (fun y => Ending.returned (Value.string y)) hrsh.out).symm, hB1h.out.trans (hb3.mono hB1h.out.size)⟩
  by_cases h8 : k = 8
  · subst h8
    rw [step8, hp1] at hres
    have cX := rHash_any p1 hP1.2 w1
    unfold TxR at cX
    rw [hres] at cX
    replace cX := Lib.hid cX
    clear cM hAk hAs hP1 hP2 hp1 hp2 hres
    generalize hrs : bs (encO res) = rs at *
    have hrsh := Lib.hid hrs
    clear hrs
    generalize bs s = y at *
    generalize bs (encO p1) = y1 at *
    generalize bs (encO p2) = y2 at *
    go_wp2_with (go_at_call 69; refine cX.out.mono ?_; rintro r w3 ⟨rfl, hb3⟩)
    go_ret
    exact ⟨(congrArg (fun y => Ending.returned (Value.string y)) hrsh.out).symm, hB1h.out.trans (hb3.mono hB1h.out.size)⟩
  by_cases h12 : k = 12
  · subst h12
    rw [step12] at hres
    have cX := rList_any [] none 0 0 w1 rfl (by decide) (fun _ h => absurd h List.not_mem_nil) (Strs.nil_ (A := none))
    unfold TxR at cX
    rw [hres] at cX
    replace cX := Lib.hid cX
    clear cM hAk hAs hP1 hP2 hp1 hp2 hres
    generalize hrs : bs (encO res) = rs at *
    have hrsh := Lib.hid hrs
    clear hrs
    generalize bs s = y at *
    generalize bs (encO p1) = y1 at *
    generalize bs (encO p2) = y2 at *
    go_wp2_with (go_at_call 41; refine cX.out.mono ?_; rintro r w3 ⟨rfl, hb3⟩)
    go_ret
    exact ⟨(congrArg (fun y => Ending.returned (Value.string y)) hrsh.out).symm, hB1h.out.trans (hb3.mono hB1h.out.size)⟩
  have cX := cM.out ⟨h0, h1, h2, h3, h4, h5, h6, h7, h8, h12⟩
  unfold TxR at cX
  rw [hres] at cX
  replace cX := Lib.hid cX
  have f0 : (k == 0) = false := by rw [beq_eq_false_iff_ne]; exact h0
  have f1 : (k == 1) = false := by rw [beq_eq_false_iff_ne]; exact h1
  have f2 : (k == 2) = false := by rw [beq_eq_false_iff_ne]; exact h2
  have f3 : (k == 3) = false := by rw [beq_eq_false_iff_ne]; exact h3
  have f4 : (k == 4) = false := by rw [beq_eq_false_iff_ne]; exact h4
  have f5 : (k == 5) = false := by rw [beq_eq_false_iff_ne]; exact h5
  have f6 : (k == 6) = false := by rw [beq_eq_false_iff_ne]; exact h6
  have f7 : (k == 7) = false := by rw [beq_eq_false_iff_ne]; exact h7
  have f8 : (k == 8) = false := by rw [beq_eq_false_iff_ne]; exact h8
  have f12 : (k == 12) = false := by rw [beq_eq_false_iff_ne]; exact h12
  clear cM hAk hAs hP1 hP2 hp1 hp2 hres h0 h1 h2 h3 h4 h5 h6 h7 h8 h12
  generalize hrs : bs (encO res) = rs at *
  have hrsh := Lib.hid hrs
  clear hrs
  generalize bs s = y at *
  generalize bs (encO p1) = y1 at *
  generalize bs (encO p2) = y2 at *
  go_wp2_with (first
    | (refine wpList_load_at 96 _ rfl rfl w.heap.size 0 rfl [.int .i64 k, .int .i64 a, .int .i64 b, .int .i64 e, .string y] _ hrow.out Tryz.underlying96 rfl (by kernel_rfl) ?_)
    | (go_at_call 91; refine cX.out.mono ?_; rintro r w3 ⟨rfl, hb3⟩))
  go_ret
  exact ⟨(congrArg (fun y => Ending.returned (Value.string y)) hrsh.out).symm, hB1h.out.trans (hb3.mono hB1h.out.size)⟩
end Go.Proofs.YtbeanjaenmpoeaaGreatDoor
