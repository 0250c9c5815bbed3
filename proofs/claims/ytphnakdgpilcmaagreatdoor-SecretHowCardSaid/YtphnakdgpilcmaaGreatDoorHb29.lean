/- Texts joined: what each shows stands ahead of its theorems. -/
import Derived.Test.YtphnakdgpilcmaaGreatDoorHb28
import Derived.Test.YtphnakdgpilcmaaGreatDoorHb21
import Derived.Test.YtphnakdgpilcmaaGreatDoorHb27
import Derived.Test.YtphnakdgpilcmaaGreatDoorHb0
import Derived.Test.YtphnakdgpilcmaaGreatDoorProg
import Derived.KernelRfl
namespace Go.Proofs.YtphnakdgpilcmaaGreatDoor
section
open Go.RowKit Go.Maps

section
variable {known sent os : List (Option Tm)} {a b e : Int} {s : List UInt8}
theorem step0 : stepT known sent os ⟨0, a, b, e, s⟩ = dataT s := by simp [stepT, sel]
theorem step1 : stepT known sent os ⟨1, a, b, e, s⟩ = nonceT 0 a := by simp [stepT, sel]
theorem step2 : stepT known sent os ⟨2, a, b, e, s⟩ = pkO known a := by simp [stepT, sel]
theorem step3 : stepT known sent os ⟨3, a, b, e, s⟩ = pkO sent a := by simp [stepT, sel]
theorem step4 : stepT known sent os ⟨4, a, b, e, s⟩ = baseT s := by simp [stepT, sel]
theorem step5 : stepT known sent os ⟨5, a, b, e, s⟩ = expT (pkO os a) (pkO os b) := by simp [stepT, sel]
theorem step6 : stepT known sent os ⟨6, a, b, e, s⟩ = pubT (pkO os a) := by simp [stepT, sel]
theorem step7 : stepT known sent os ⟨7, a, b, e, s⟩ = signT s (pkO os a) (pkO os b) := by simp [stepT, sel]
theorem step8 : stepT known sent os ⟨8, a, b, e, s⟩ = hashT (pkO os a) := by simp [stepT, sel]
theorem step12 : stepT known sent os ⟨12, a, b, e, s⟩ = listT [] := by simp [stepT, sel]
end
set_option maxRecDepth 100000 in
set_option maxHeartbeats 2000000 in
theorem rstep_any {known sent os : List (Option Tm)} {A KA SA : Option Addr} {n c kn kc sn sc : Nat} (k a b e : Int) (s : List UInt8) (w : World) (hn : n ≤ 2000000000000) (hkn : kn ≤ 1000) (hsn : sn ≤ 1000) (hf : Fine os)
    (hK : TxS w KA kn known) (hS : TxS w SA sn sent) (hA : TxS w A n os) (hs : s.length ≤ 4000000000) :
    Calls Tryz.prog 38 #[.slice KA kn kc, .slice SA sn sc, .slice A n c, .agg (mkRow k a b e s).toArray] w (TxR w (encO (stepT known sent os ⟨k, a, b, e, s⟩))) := by
  have hB1 := below_new w (.cells (mkRow k a b e s).toArray 79)
  have hr := heap_new w (.cells (mkRow k a b e s).toArray 79)
  obtain ⟨w1, hw1⟩ : ∃ w1, w1 = w.alloc (.cells (mkRow k a b e s).toArray 79) := ⟨_, rfl⟩
  rw [← hw1] at hB1 hr
  have hAt := Lib.hid (fun i => rat14_any (c := c) i w1 hn (Strs.keep hA hB1))
  have hAk := Lib.hid (rat14_any (c := kc) a w1 (by omega) (Strs.keep hK hB1))
  have hAs := Lib.hid (rat14_any (c := sc) a w1 (by omega) (Strs.keep hS hB1))
  have hbx := mk_box hr
  have hrow := Lib.hid (rangeAt_list hr)
  have cM := Lib.hid (fun h => more_any (known := known) (sent := sent) (c := c) k a b e s w1 hn hf (Strs.keep hA hB1) hs h)
  have hP1 := hf.pick a
  have hP2 := hf.pick b
  have hAa := Lib.hid (hAt.out a)
  have hAb := Lib.hid (hAt.out b)
  have hB1h := Lib.hid hB1
  have hw1h := Lib.hid hw1
  clear hB1 hr hK hS hA hAt hf hw1
  unfold TxR
  unfold mkRow at *
  obtain ⟨res, hres⟩ : ∃ res, stepT known sent os ⟨k, a, b, e, s⟩ = res := ⟨_, rfl⟩
  rw [hres]
  obtain ⟨p1, hp1⟩ : ∃ p, pkO os a = p := ⟨_, rfl⟩
  obtain ⟨p2, hp2⟩ : ∃ p, pkO os b = p := ⟨_, rfl⟩
  rw [hp1] at hP1 hAa
  rw [hp2] at hP2 hAb
  go_enter Tryz.func38, Tryz.ntmps38
  go_upto_region 1 with fail
  have hw1' := hw1h.out
  rw [← hw1']
  clear hw1' hw1h
  obtain ⟨q0, q1, q2, q3, q4⟩ := hbx
  go_upto_region 4 with (first
    | (go_at_call 84; (with_reducible refine hAa.out.mono ?_); rintro r w2 ⟨rfl, rfl⟩)
    | (go_at_call 84; (with_reducible refine hAb.out.mono ?_); rintro r w2 ⟨rfl, rfl⟩))
  clear hAa hAb
  by_cases h0 : k = 0
  · subst h0
    rw [step0] at hres
    have cX := rData_any s w1 hs
    unfold TxR at cX
    rw [hres] at cX
    replace cX := Lib.hid cX
    clear cM hAk hAs hP1 hP2 hp1 hp2 hres
    generalize hrs : bs (encO res) = rs at *
    have hrsh := Lib.hid hrs
    clear hrs
    generalize bs s = y at *
    generalize bs (encO p1) = y1 at *
    generalize bs (encO p2) = y2 at *
    go_wp2_with (go_at_call 63; refine cX.out.mono ?_; rintro r w3 ⟨rfl, hb3⟩)
    go_ret
    exact ⟨(congrArg (fun y => Ending.returned (Value.string y)) hrsh.out).symm, hB1h.out.trans (hb3.mono hB1h.out.size)⟩
  by_cases h1 : k = 1
  · subst h1
    rw [step1] at hres
    have cX := rNonce_any 0 a w1
    unfold TxR at cX
    rw [hres] at cX
    replace cX := Lib.hid cX
    clear cM hAk hAs hP1 hP2 hp1 hp2 hres
    generalize hrs : bs (encO res) = rs at *
    have hrsh := Lib.hid hrs
    clear hrs
    generalize bs s = y at *
    generalize bs (encO p1) = y1 at *
    generalize bs (encO p2) = y2 at *
    go_wp2_with (go_at_call 64; refine cX.out.mono ?_; rintro r w3 ⟨rfl, hb3⟩)
    go_ret
    exact ⟨(congrArg (fun y => Ending.returned (Value.string y)) hrsh.out).symm, hB1h.out.trans (hb3.mono hB1h.out.size)⟩
  by_cases h2 : k = 2
  · subst h2
    rw [step2] at hres
    have cX := hAk.out
    rw [hres] at cX
    replace cX := Lib.hid cX
    clear cM hAk hAs hP1 hP2 hp1 hp2 hres
    generalize hrs : bs (encO res) = rs at *
    have hrsh := Lib.hid hrs
    clear hrs
    generalize bs s = y at *
    generalize bs (encO p1) = y1 at *
    generalize bs (encO p2) = y2 at *
    go_wp2_with (go_at_call 84; (with_reducible refine cX.out.mono ?_); rintro r w3 ⟨rfl, rfl⟩)
    go_ret
    exact ⟨(congrArg (fun y => Ending.returned (Value.string y)) hrsh.out).symm, hB1h.out⟩
  by_cases h3 : k = 3
  · subst h3
    rw [step3] at hres
    have cX := hAs.out
    rw [hres] at cX
    replace cX := Lib.hid cX
    clear cM hAk hAs hP1 hP2 hp1 hp2 hres
    generalize hrs : bs (encO res) = rs at *
    have hrsh := Lib.hid hrs
    clear hrs
    generalize bs s = y at *
    generalize bs (encO p1) = y1 at *
    generalize bs (encO p2) = y2 at *
    go_wp2_with (go_at_call 84; (with_reducible refine cX.out.mono ?_); rintro r w3 ⟨rfl, rfl⟩)
    go_ret
    exact ⟨(congrArg (fun y => Ending.returned (Value.string y)) hrsh.out).symm, hB1h.out⟩
  by_cases h4 : k = 4
  · subst h4
    rw [step4] at hres
    have cX := rBase_any s w1 hs
    unfold TxR at cX
    rw [hres] at cX
    replace cX := Lib.hid cX
    clear cM hAk hAs hP1 hP2 hp1 hp2 hres
    generalize hrs : bs (encO res) = rs at *
    have hrsh := Lib.hid hrs
    clear hrs
    generalize bs s = y at *
    generalize bs (encO p1) = y1 at *
    generalize bs (encO p2) = y2 at *
    go_wp2_with (go_at_call 67; refine cX.out.mono ?_; rintro r w3 ⟨rfl, hb3⟩)
    go_ret
    exact ⟨(congrArg (fun y => Ending.returned (Value.string y)) hrsh.out).symm, hB1h.out.trans (hb3.mono hB1h.out.size)⟩
  by_cases h5 : k = 5
  · subst h5
    rw [step5, hp1, hp2] at hres
    have cX := rExp_any p1 p2 hP1.1 hP2.1 hP1.2 hP2.2 w1
    unfold TxR at cX
    rw [hres] at cX
    replace cX := Lib.hid cX
    clear cM hAk hAs hP1 hP2 hp1 hp2 hres
    generalize hrs : bs (encO res) = rs at *
    have hrsh := Lib.hid hrs
    clear hrs
    generalize bs s = y at *
    generalize bs (encO p1) = y1 at *
    generalize bs (encO p2) = y2 at *
    go_wp2_with (go_at_call 68; refine cX.out.mono ?_; rintro r w3 ⟨rfl, hb3⟩)
    go_ret
    exact ⟨(congrArg (fun y => Ending.returned (Value.string y)) hrsh.out).symm, hB1h.out.trans (hb3.mono hB1h.out.size)⟩
  by_cases h6 : k = 6
  · subst h6
    rw [step6, hp1] at hres
    have cX := rPub_any p1 hP1.1 (by omega) w1
    unfold TxR at cX
    rw [hres] at cX
    replace cX := Lib.hid cX
    clear cM hAk hAs hP1 hP2 hp1 hp2 hres
    generalize hrs : bs (encO res) = rs at *
    have hrsh := Lib.hid hrs
    clear hrs
    generalize bs s = y at *
    generalize bs (encO p1) = y1 at *
    generalize bs (encO p2) = y2 at *
    go_wp2_with (go_at_call 66; refine cX.out.mono ?_; rintro r w3 ⟨rfl, hb3⟩)
    go_ret
    exact ⟨(congrArg (fun y => Ending.returned (Value.string y)) hrsh.out).symm, hB1h.out.trans (hb3.mono hB1h.out.size)⟩
  by_cases h7 : k = 7
  · subst h7
    rw [step7, hp1, hp2] at hres
    have cX := rSign_any s p1 p2 hs hP1.1 hP1.2 hP2.2 w1
    unfold TxR at cX
    rw [hres] at cX
    replace cX := Lib.hid cX
    clear cM hAk hAs hP1 hP2 hp1 hp2 hres
    generalize hrs : bs (encO res) = rs at *
    have hrsh := Lib.hid hrs
    clear hrs
    generalize bs s = y at *
    generalize bs (encO p1) = y1 at *
    generalize bs (encO p2) = y2 at *
    go_wp2_with (go_at_call 69; refine cX.out.mono ?_; rintro r w3 ⟨rfl, hb3⟩)
    go_ret
    exact ⟨(congrArg (fun y => Ending.returned (Value.string y)) hrsh.out).symm, hB1h.out.trans (hb3.mono hB1h.out.size)⟩
  by_cases h8 : k = 8
  · subst h8
    rw [step8, hp1] at hres
    have cX := rHash_any p1 hP1.2 w1
    unfold TxR at cX
    rw [hres] at cX
    replace cX := Lib.hid cX
    clear cM hAk hAs hP1 hP2 hp1 hp2 hres
    generalize hrs : bs (encO res) = rs at *
    have hrsh := Lib.hid hrs
    clear hrs
    generalize bs s = y at *
    generalize bs (encO p1) = y1 at *
    generalize bs (encO p2) = y2 at *
    go_wp2_with (go_at_call 70; refine cX.out.mono ?_; rintro r w3 ⟨rfl, hb3⟩)
    go_ret
    exact ⟨(congrArg (fun y => Ending.returned (Value.string y)) hrsh.out).symm, hB1h.out.trans (hb3.mono hB1h.out.size)⟩
  by_cases h12 : k = 12
  · subst h12
    rw [step12] at hres
    have cX := rList_any [] none 0 0 w1 rfl (by decide) (fun _ h => absurd h List.not_mem_nil) (Strs.nil_ (A := none))
    unfold TxR at cX
    rw [hres] at cX
    replace cX := Lib.hid cX
    clear cM hAk hAs hP1 hP2 hp1 hp2 hres
    generalize hrs : bs (encO res) = rs at *
    have hrsh := Lib.hid hrs
    clear hrs
    generalize bs s = y at *
    generalize bs (encO p1) = y1 at *
    generalize bs (encO p2) = y2 at *
    go_wp2_with (go_at_call 73; refine cX.out.mono ?_; rintro r w3 ⟨rfl, hb3⟩)
    go_ret
    exact ⟨(congrArg (fun y => Ending.returned (Value.string y)) hrsh.out).symm, hB1h.out.trans (hb3.mono hB1h.out.size)⟩
  have cX := cM.out ⟨h0, h1, h2, h3, h4, h5, h6, h7, h8, h12⟩
  unfold TxR at cX
  rw [hres] at cX
  replace cX := Lib.hid cX
  have f0 : (k == 0) = false := by rw [beq_eq_false_iff_ne]; exact h0
  have f1 : (k == 1) = false := by rw [beq_eq_false_iff_ne]; exact h1
  have f2 : (k == 2) = false := by rw [beq_eq_false_iff_ne]; exact h2
  have f3 : (k == 3) = false := by rw [beq_eq_false_iff_ne]; exact h3
  have f4 : (k == 4) = false := by rw [beq_eq_false_iff_ne]; exact h4
  have f5 : (k == 5) = false := by rw [beq_eq_false_iff_ne]; exact h5
  have f6 : (k == 6) = false := by rw [beq_eq_false_iff_ne]; exact h6
  have f7 : (k == 7) = false := by rw [beq_eq_false_iff_ne]; exact h7
  have f8 : (k == 8) = false := by rw [beq_eq_false_iff_ne]; exact h8
  have f12 : (k == 12) = false := by rw [beq_eq_false_iff_ne]; exact h12
  clear cM hAk hAs hP1 hP2 hp1 hp2 hres h0 h1 h2 h3 h4 h5 h6 h7 h8 h12
  generalize hrs : bs (encO res) = rs at *
  have hrsh := Lib.hid hrs
  clear hrs
  generalize bs s = y at *
  generalize bs (encO p1) = y1 at *
  generalize bs (encO p2) = y2 at *
  go_wp2_with (first
    | (refine wpList_load_at 79 _ rfl rfl w.heap.size 0 rfl [.int .i64 k, .int .i64 a, .int .i64 b, .int .i64 e, .string y] _ hrow.out Tryz.underlying79 rfl (by kernel_rfl) ?_)
    | (go_at_call 85; refine cX.out.mono ?_; rintro r w3 ⟨rfl, hb3⟩))
  go_ret
  exact ⟨(congrArg (fun y => Ending.returned (Value.string y)) hrsh.out).symm, hB1h.out.trans (hb3.mono hB1h.out.size)⟩
end

section
open Go.RowKit Go.Maps

theorem recT_in2 {known sent : List (Option Tm)} {ms : List Mk} (j : Nat) : ∀ o ∈ recT known sent (ms.take j) [], o ∈ recT known sent ms [] := by
  intro o ho
  have h := recT_app known sent (ms.take j) (ms.drop j) []
  rw [List.take_append_drop] at h
  rw [h]
  obtain ⟨r, hr⟩ := recT_pre known sent (ms.drop j) (recT known sent (ms.take j) [])
  rw [hr]
  exact List.mem_append_left _ ho
def RAllR (w : World) (n : Nat) (os : List (Option Tm)) (r : Ending) (w' : World) : Prop := ∃ (A : Option Addr) (c : Nat), r = .returned (.slice A n c) ∧ Strs w' A n (os.map fun o => bs (encO o)) ∧ Below w.heap.size w w'
set_option maxRecDepth 100000 in
set_option maxHeartbeats 2000000 in
theorem rall_any {known sent : List (Option Tm)} {A KA SA : Option Addr} {n c kn kc sn sc : Nat} (ms : List Mk) (w : World) (hn : n ≤ 2000000000000) (hkn : kn ≤ 1000) (hsn : sn ≤ 1000) (hf : Fine (recT known sent ms []))
    (hK : TxS w KA kn known) (hS : TxS w SA sn sent) (hA : Rws w 5 A n (ms.map Mk.row)) (hs : ∀ x ∈ ms, x.s.length ≤ 4000000000) :
    Calls Tryz.prog 18 #[.slice KA kn kc, .slice SA sn sc, .slice A n c] w (RAllR w n (recT known sent ms [])) := by
  obtain ⟨i0, hi, hz0, hz1, hz2⟩ := info_parts str_info
  have hml : ms.length = n := by have := hA.1; simpa using this
  have hO0 : Hid (OwnS w w.heap.size (.slice none 0 0) ((recT known sent (ms.take 0) []).map fun o => bs (encO o))) := OwnR.nil_ _ _ _ _
  have hB0 := Lib.hid (Below.refl w.heap.size w)
  have hKh := Lib.hid hK
  have hSh := Lib.hid hS
  have hAh := Lib.hid hA
  have hfh := Lib.hid hf
  have hsh := Lib.hid hs
  have hmlh := Lib.hid hml
  unfold RAllR
  clear hK hS hA hf hs hml
  go_enter Tryz.func18, Tryz.ntmps18
  go_wp2_with fail
  go_loopw [7, 8] (fun lv iv wr => ∃ (j : Nat) (v : Value), j ≤ n ∧ lv = v ∧ iv = .int .i64 j ∧ Hid (OwnS wr w.heap.size v ((recT known sent (ms.take j) []).map fun o => bs (encO o))) ∧ Hid (Below w.heap.size w wr)) (fun _ iv _ => n - (intOf iv).toNat)
  case atStart => exact ⟨0, _, by omega, rfl, rfl, hO0, hB0⟩
  case round =>
    clear hO0 hB0
    obtain ⟨j, v, hj, rfl, rfl, hO, hB⟩ := hrel
    have hml : ((recT known sent (ms.take j) []).map fun o => bs (encO o)).length = j := by rw [List.length_map, recT_len, List.length_take]; have := hmlh.out; simp; omega
    by_cases hlt : j < n
    · obtain ⟨b, off, z, rfl, hb, hz', _, hr⟩ := (Rws.keep hAh.out hB.out).row hlt
      obtain ⟨x, hx⟩ : ∃ x, ms[j]? = some x := ⟨ms[j]'(by have := hmlh.out; omega), List.getElem?_eq_getElem (by have := hmlh.out; omega)⟩
      rw [List.getElem?_map, hx] at hz'
      have hz' : x.row = z := Option.some.inj hz'
      subst hz'
      have hsx := hsh.out x (List.mem_of_getElem? hx)
      have htk := recT_take (known := known) (sent := sent) hx
      obtain ⟨k, a, b2, e2, s⟩ := x
      obtain ⟨Av, cv, ev, hSv⟩ := hO.out.strs
      rw [hml] at ev hSv
      subst ev
      have cS := rstep_any (known := known) (sent := sent) (c := cv) (kc := kc) (sc := sc) k a b2 e2 s wr (by omega : j ≤ 2000000000000) hkn hsn (fun o ho => hfh.out o (recT_in2 j o ho)) (Strs.keep hKh.out hB.out) (Strs.keep hSh.out hB.out) hSv hsx
      obtain ⟨o, ho⟩ : ∃ o, stepT known sent (recT known sent (ms.take j) []) ⟨k, a, b2, e2, s⟩ = o := ⟨_, rfl⟩
      rw [ho] at cS htk
      unfold TxR at cS
      have hnext := Lib.hid (show ((recT known sent (ms.take (j + 1)) []).map fun o => bs (encO o)) = ((recT known sent (ms.take j) []).map fun o => bs (encO o)) ++ [bs (encO o)] by rw [htk, List.map_append]; rfl)
      replace cS := Lib.hid cS
      have hrow := Lib.hid hr
      replace hml := Lib.hid hml
      clear ho htk hx hSv hsx hr
      generalize bs (encO o) = yo at *
      go_upto_region 4 with (first
        | (refine wpList_load_at 79 _ rfl rfl b (off + j * 5) rfl (mkRow k a b2 e2 s) _ hrow.out Tryz.underlying79 rfl (by kernel_rfl) ?_)
        | (go_at_call 38; refine cS.out.mono ?_; rintro r w3 ⟨rfl, hb3⟩
           obtain ⟨A2, c2, zs, q1', hzl, hOn, hup⟩ := own_next (OwnS.keep hO.out hb3) yo
           injection q1' with q1 q2 q3
           subst q1 q3
           rw [hml.out] at hzl
           have hzb : zs.length ≤ 2000000000000 := by omega
           have hOn := Lib.hid hOn
           have hup := Lib.hid hup
           have hB3 := hB.out.trans (hb3.mono hB.out.size)
           have hBn := Lib.hid (hB3.trans ((below_new w3 (.cells #[.string yo] 9)).mono hB3.size))
           have hrw := Lib.hid (rangeAt_list (heap_new w3 (.cells [Value.string yo].toArray 9)))
           clear hb3 hB3 q2 hzl)
        | (at_builtin; refine wpList_append_one rfl _ _ 29 rfl 9 i0 _ 1 16 Tryz.underlying29 hi hz0 hz1 hz2 rfl (by decide) w hBn.out _ zs rfl hOn.out w3.heap.size 1 [.string yo] rfl hrw.out rfl (by simp; rfl) (by unfold maxLen; omega) (by omega) ?_; intro v2 w5 hO2 hB2 hg2
           have hO2 := hup.out _ _ hO2
           rw [← hnext.out] at hO2
           replace hO2 := Lib.hid hO2
           replace hB2 := Lib.hid hB2
           clear hg2))
      go_wp2_with fail
      go_roundw
      case rel => exact ⟨j + 1, v2, by omega, rfl, by go_num, hO2, hB2⟩
      case measure => simp [intOf]; omega
    · have hjn : j = n := by omega
      subst hjn
      have hO := hO.out
      rw [List.take_of_length_le (Nat.le_of_eq hmlh.out)] at hO hml
      obtain ⟨Av, cv, ev, hSv⟩ := hO.strs
      rw [hml] at ev hSv
      subst ev
      have hSv := Lib.hid hSv
      clear hO hml hlt
      go_wp2_with fail
      go_ret
      exact ⟨Av, cv, rfl, hSv.out, hB.out⟩
end

section
open Go.RowKit Go.Maps

theorem nm_pickM {L : List Tm} {l : List Int} {os : List (Option Tm)} (h : NmL L l os) (i : Int) : Nm L (pkI l i) (pkO os i) := by
  refine ⟨h.pick i, fun e => ?_⟩
  unfold pkI pkO at *
  split
  · rfl
  · rename_i hi
    rw [if_neg hi] at e
    cases hx : l[i.toNat]? with
    | none => rfl
    | some x =>
      have hl := (List.getElem?_eq_some_iff.1 hx).1
      obtain ⟨o, ho⟩ : ∃ o, os[i.toNat]? = some o := ⟨os[i.toNat]'(by rw [← h.len]; exact hl), List.getElem?_eq_getElem _⟩
      rw [ho] at e
      exact (h.nm _ x o hx ho).2 e
attribute [local go_sem ↓] ldMd_eq
set_option maxRecDepth 100000 in
set_option maxHeartbeats 8000000 in
theorem secretHow_any (ms : List Mk) (A : Option Addr) (n c : Nat) (c0 c1 c2 i : Int) (w : World) (hn : n ≤ 9223372036854775807) (H : Rws w 5 A n (ms.map Mk.row)) :
    Calls Tryz.prog 5 #[.slice A n c, .agg (cutC c0 c1 c2), .int .i64 i] w fun r w' => r = .returned (.bool true) ∧ Below w.heap.size w w' := by
  have hbW := below_new w (.cells (cutC c0 c1 c2) 23)
  have hx1 := heap_new w (.cells (cutC c0 c1 c2) 23)
  have H1 := H.keep hbW
  have hml : ms.length = n := by have := H.1; simpa using this
  obtain ⟨W1, hW1⟩ : ∃ W1, W1 = w.alloc (.cells (cutC c0 c1 c2) 23) := ⟨_, rfl⟩
  rw [← hW1] at hx1 hbW H1
  have hld := Lib.hid (rangeAt_list (cs := [.int .i64 c0, .int .i64 c1, .int .i64 c2]) hx1)
  have hp := Lib.hid hbW
  have cF := few33_any ms A n c c0 c1 c2 W1 hn H1
  unfold cutC at cF
  have cA := Lib.hid (fun W => awake33 W)
  have hx1h := Lib.hid hx1
  have Hh := Lib.hid H1
  clear H hx1 hbW H1
  cases hf : few33B ms c0 c1 c2 with
  | false =>
    rw [hf] at cF
    replace cF := Lib.hid cF
    clear hf hml
    go_enter Tryz.func5, Tryz.ntmps5
    go_upto_region 1 with fail
    rw [← hW1]
    clear hW1
    go_wp2_with (first
      | (refine wpList_load_at 23 (.tmp 4) rfl rfl w.heap.size 0 rfl [.int .i64 c0, .int .i64 c1, .int .i64 c2] _ hld.out Tryz.underlying23 rfl (by kernel_rfl) ?_)
      | (go_at_call 7; (with_reducible refine cF.out.mono ?_); rintro r w2 ⟨rfl, hb2⟩; replace hb2 := Lib.hid (hp.out.trans (hb2.mono hp.out.size)))
      | (go_at_call 8; refine (cA.out _).mono ?_; rintro r w3 ⟨rfl, hb3⟩))
    go_ret
    exact ⟨rfl, hb2.out.trans (hb3.mono hb2.out.size)⟩
  | true =>
    rw [hf] at cF
    obtain ⟨hn20, h200, ka, kb, kc, rfl, rfl, rfl, hab, hbc, hcn⟩ := few33_iff.1 hf
    rw [hml] at hn20 hcn
    have h200 := Lib.hid h200
    have hmlh := Lib.hid hml
    have habc := Lib.hid (And.intro hab (And.intro hbc hcn))
    replace cF := Lib.hid cF
    clear hf hml hn hab hbc hcn
    go_enter Tryz.func5, Tryz.ntmps5
    go_upto_region 1 with fail
    rw [← hW1]
    clear hW1
    go_upto_region 4 with (first
      | (refine wpList_load_at 23 (.tmp 4) rfl rfl w.heap.size 0 rfl [.int .i64 (ka : Int), .int .i64 (kb : Int), .int .i64 (kc : Int)] _ hld.out Tryz.underlying23 rfl (by kernel_rfl) ?_)
      | (go_at_call 7; (with_reducible refine cF.out.mono ?_); rintro r w2 ⟨rfl, hb2⟩; have cN := Lib.hid (tnew_any w2); replace hb2 := Lib.hid hb2)
      | (go_at_call 9; refine cN.out.mono ?_; rintro r w1 ⟨A0, rfl, hN, hA, hb⟩
         have hS0 := St.start hN hA hb
         have cM := Lib.hid (makes_any (c := c) ms w2 w1 A0.g (by omega) h200.out (Hh.out.keep hb2.out) hS0)
         have hz1 := Lib.hid hb.size
         have hb2w := Lib.hid (hp.out.trans (hb2.out.mono hp.out.size))
         have hx2 := Lib.hid ((hb2.out.block w.heap.size (Array.getElem?_eq_some_iff.1 hx1h.out).1).trans hx1h.out)
         clear hN hA hb cN hS0 cF
         generalize A0.g = g at *))
    go_upto_region 5 with (first
      | (go_at_call 10; refine cM.out.mono ?_; rintro r w3 hR
         obtain ⟨AI, cI, AT, cT, l, L, rfl, hMd, hL, hnew, hone, hrow⟩ := md_new hmlh.out hz1.out hR
         unfold boxW at hMd
         have hMdh := Lib.hid hMd
         have hnewh := Lib.hid hnew
         have honeh := Lib.hid hone
         have hLn := Lib.hid hL
         clear hR hnew hone hrow cM hMd)
      | (refine wpList_store_at 31 _ _ rfl rfl w3.heap.size #[.slice AI n cI, .slice AT n cT] rfl rfl 31 #[.slice none 0 0, .slice none 0 0] hnewh.out (by kernel_rfl) rfl honeh.out ?_))
    generalize ((w3.alloc (.cells #[.slice none 0 0, .slice none 0 0] 31)).setRow w3.heap.size #[.slice AI n cI, .slice AT n cT]) = W4 at *
    generalize w3.heap.size = q at *
    generalize mksO ms [] = os at *
    clear hnewh honeh hld hp hb2 hz1 Hh hx1h
    obtain ⟨p0, hp0⟩ : ∃ p0, w.heap.size = p0 := ⟨_, rfl⟩
    rw [hp0] at hx2 ⊢
    have hcI := (hMdh.out.sub3 (lo := 0) (hi := 0) (Nat.zero_le _)).2
    have hcT := (hMdh.out.subT3 (lo := 0) (hi := 0) (Nat.zero_le _)).2
    have hs1 := slLH_run3 28 u_ids3 z_ids3 AI n cI ka kb (by have := habc.out; omega) (by have := habc.out; omega)
    have hs2 := slLH_run3 28 u_ids3 z_ids3 AI n cI kb kc (by have := habc.out; omega) (by have := habc.out; omega)
    have hs3 := slLH_run3 29 u_strs3 z_strs3 AT n cT ka kb (by have := habc.out; omega) (by have := habc.out; omega)
    have hs4 := slLH_run3 29 u_strs3 z_strs3 AT n cT kb kc (by have := habc.out; omega) (by have := habc.out; omega)
    have hAt := Lib.hid (fun (W' : World) (hb : Below W4.heap.size W4 W') => (by
      have hM' := hMdh.out.below hb
      have h2 := (hM'.st.below.block p0 (Array.getElem?_eq_some_iff.1 hx2.out).1).trans hx2.out
      exact ⟨hM'.c0, cell_of_row W' p0 0 _ _ _ h2, cell_of_row W' p0 1 _ _ _ h2, cell_of_row W' p0 2 _ _ _ h2, hM'.st, (hM'.sub3 (lo := ka) (hi := kb) (by have := habc.out; omega)).1.ints, hM'.ints, hM'.c1, (hM'.sub3 (lo := kb) (hi := kc) (by have := habc.out; omega)).1.ints, (hM'.subT3 (lo := ka) (hi := kb) (by have := habc.out; omega)).1, (hM'.subT3 (lo := kb) (hi := kc) (by have := habc.out; omega)).1, hM'.strs⟩ :
      W'.cell? ⟨q, 0, none⟩ = some (.slice AI n cI) ∧ W'.cell? ⟨p0, 0, none⟩ = some (.int .i64 ka) ∧ W'.cell? ⟨p0, 1, none⟩ = some (.int .i64 kb) ∧ W'.cell? ⟨p0, 2, none⟩ = some (.int .i64 kc) ∧ St w2 g W' L ∧ Ints W' (behind3 AI ka cI) (kb - ka) (subL ka kb l) ∧ Ints W' AI n l ∧ W'.cell? ⟨q, 1, none⟩ = some (.slice AT n cT) ∧ Ints W' (behind3 AI kb cI) (kc - kb) (subL kb kc l) ∧ Strs W' (behind3 AT ka cT) (kb - ka) (subL ka kb (os.map fun o => bs (encO o))) ∧ Strs W' (behind3 AT kb cT) (kc - kb) (subL kb kc (os.map fun o => bs (encO o))) ∧ Strs W' AT n (os.map fun o => bs (encO o))))
    have hnm := Lib.hid (And.intro (hMdh.out.ml.toNmL.sub3 ka kb) (And.intro (hMdh.out.ml.toNmL.sub3 kb kc) hMdh.out.ml.toNmL))
    have hkk := Lib.hid (show kb - ka ≤ 1000 ∧ kc - kb ≤ 1000 by have := habc.out; omega)
    have hlo := Lib.hid (And.intro hMdh.out.ll hMdh.out.lo)
    have hrw := Lib.hid (hMdh.out.row)
    have cP := pick_any (c := cI) (d := cT) i W4 (by omega) hMdh.out.made
    unfold madeV at cP
    have ht := nm_pickM hMdh.out.ml.toNmL i
    have hdm := Lib.hid (hMdh.out.st.below)
    rw [← subL_map, ← subL_map] at hAt
    clear hcI hcT hMdh
    generalize pkI l i = tx at *
    generalize pkO os i = ot at *
    have hth := Lib.hid ht
    have hxi : i64 tx := by have := ht.lt; have := hLn.out; exact i64_small (by omega) (by omega)
    have hxih := Lib.hid hxi
    obtain ⟨tt, htt⟩ : ∃ tt, bs (encO ot) = tt := ⟨_, rfl⟩
    rw [htt] at cP
    replace htt := Lib.hid htt
    replace cP := Lib.hid cP
    have hld4 := ldMd_run hrw.out
    clear ht hxi
    go_upto_region 6 with (go_at_call 11; (with_reducible refine cP.out.mono ?_); rintro r w5 ⟨rfl, hb5⟩; replace hb5 := Lib.hid hb5)
    clear cP hld4 hrw
    have hd1 : Below w5.heap.size w5 w5.drew := drewN_below 1
    obtain ⟨W5, hwd⟩ : ∃ W5, w5.drew = W5 := ⟨_, rfl⟩
    rw [hwd] at hd1
    have hB5 := Lib.hid (hb5.out.trans (hd1.mono hb5.out.size))
    obtain ⟨e0, e1, e2, e3, hS5, hk5, -, -, hq5, -, -, -⟩ := hAt.out W5 hB5.out
    have cX := Lib.hid (mnew_any hS5 (kc := cI - ka) (sc := cI - kb) hk5 hq5 hnm.out.1 hnm.out.2.1 hkk.out.1 hkk.out.2)
    clear hd1 hS5 hk5 hq5
    generalize subL ka kb os = known at *
    generalize subL kb kc os = sent at *
    go_still_tail 15, (by kernel_rfl)
    change wpList _ _ _ _ _ w5.drew
    rw [hwd]
    clear hwd
    go_upto_region 7 with (go_at_call 12; (with_reducible refine cX.out.mono ?_); rintro r w6 hNew
                           obtain ⟨mx, bx, ix, lx, rfl, hFx, hMx, hS6, hb6⟩ := hNew.fix (hAt.out W5 hB5.out).2.2.2.2.1
                           have hB6 := Lib.hid (hB5.out.trans (hb6.mono hB5.out.size))
                           have hFx := Lib.hid hFx
                           have hS6 := Lib.hid hS6
                           clear hNew hb6 hMx)
    clear cX e0 e1 e2 e3 hs1 hs2
    have cH := mHow_any hFx.out hS6.out tx ot hth.out hxih.out
    have cC := Lib.hid (fun (W' : World) (hb : Below w6.heap.size w6 W') => mCan_any (hFx.out.keep hb) (hS6.out.keep hb) tx ot hth.out.1 hxih.out)
    by_cases hcan : canO lx ot
    · have cH := Lib.hid (Calls.mono cH fun (r : Ending) (W' : World) h => (show ∃ t, ot = some t ∧ HowR known sent t w6 r W' from h.elim (fun h => absurd hcan h.1) fun ⟨t, h1, _, h2⟩ => ⟨t, h1, h2⟩))
      have cC2 := Lib.hid (show ∀ W', Below w6.heap.size w6 W' → Calls Tryz.prog 13 #[.pointer (some ⟨mx, 0, none⟩), .int .i64 tx] W' (fun r W2 => r = .returned (.bool true) ∧ Below W'.heap.size W' W2) from fun W' h => Calls.mono (cC.out W' h) fun (r : Ending) (W2 : World) ⟨q', h1, h2, h3⟩ => ⟨by rw [h1, h2.2 hcan], h3⟩)
      clear cC hcan
      go_upto_region 8 with (go_at_call 17; (with_reducible refine cH.out.mono ?_); rintro r w7 ⟨t, hot, kl, Ak, ck, jk, rfl, hb7, hkr, hkl, hjk, hlast, hfine, hops⟩
                             obtain ⟨nk, hnk⟩ : ∃ nk, kl.length = nk := ⟨_, rfl⟩
                             rw [hnk] at hkr hkl hjk ⊢
                             obtain rfl : jk + 1 = nk := hjk
                             have hb7 := Lib.hid hb7
                             have hkr := Lib.hid hkr
                             have hnk := Lib.hid hnk
                             have hlast := Lib.hid hlast
                             have hfine := Lib.hid hfine
                             have hops := Lib.hid hops
                             have hot := Lib.hid hot)
      clear cH
      have cC7 := Lib.hid (cC2.out w7 hb7.out)
      clear cC2
      go_upto_region 14 with (go_at_call 13; (with_reducible refine cC7.out.mono ?_); rintro r w8 ⟨rfl, hb8⟩; replace hb8 := Lib.hid hb8)
      clear cC7
      have hd1 : Below w8.heap.size w8 w8.drew := drewN_below 1
      obtain ⟨W9, hwd⟩ : ∃ W9, w8.drew = W9 := ⟨_, rfl⟩
      rw [hwd] at hd1
      have hB79 := Lib.hid (hb8.out.trans (hd1.mono hb8.out.size))
      have hB9 := Lib.hid ((hB6.out.trans (hb7.out.mono hB6.out.size)).trans (hB79.out.mono ((hB6.out.trans (hb7.out.mono hB6.out.size)).size)))
      obtain ⟨-, e1, e2, e3, -, -, -, f1, -, hT9, hU9, -⟩ := hAt.out W9 hB9.out
      have cA9 := Lib.hid (rall_any (known := known) (sent := sent) (kc := cT - ka) (sc := cT - kb) (c := ck) kl W9 hkl hkk.out.1 hkk.out.2 hfine.out hT9 hU9 (Rws.keep hkr.out hB79.out) (fun x hx => Nat.le_trans (hops.out x hx) (by decide)))
      clear hd1 hT9 hU9
      go_still_tail 15, (by kernel_rfl)
      change wpList _ _ _ _ _ w8.drew
      rw [hwd]
      clear hwd
      go_upto_region 15 with (go_at_call 18; (with_reducible refine cA9.out.mono ?_); rintro r w10 ⟨A1, c1, rfl, hS1, hb10⟩
                              have hS1 := Lib.hid hS1
                              have hb10 := Lib.hid hb10)
      clear cA9 e1 e2 e3 f1 hs3 hs4
      obtain ⟨by9, oy9, y, rfl, hby, hy, hcy⟩ := hS1.out.at_ (show jk < jk + 1 by omega)
      rw [List.getElem?_map, hlast.out] at hy
      have hyt : y = tt := by rw [← htt.out, hot.out]; exact (Option.some.inj hy).symm
      subst hyt
      have hem : y.toList.isEmpty = false := by rw [← htt.out, hot.out]; exact empty_test
      clear hS1 hy
      go_wp2_with (go_at_call 8; refine (cA.out _).mono ?_; rintro r w11 ⟨rfl, hb11⟩
                   replace hcy := (hb11.cell (lt_of_cell hcy)).trans hcy
                   replace hb11 := Lib.hid hb11)
      go_ret
      have h9 := hdm.out.trans (hB9.out.mono hdm.out.size)
      have h10 := h9.trans (hb10.out.mono h9.size)
      have h11 := h10.trans (hb11.out.mono h10.size)
      exact ⟨rfl, hb2w.out.trans (h11.mono hb2w.out.size)⟩
    · have cH := Lib.hid (Calls.mono cH fun (r : Ending) (W' : World) h => (show r = .returned (.tuple #[.slice none 0 0, .bool false]) ∧ Below w6.heap.size w6 W' from h.elim (fun h => h.2) fun ⟨t, h1, h2, _⟩ => absurd ⟨t, h1, h2⟩ hcan))
      have cC2 := Lib.hid (show ∀ W', Below w6.heap.size w6 W' → Calls Tryz.prog 13 #[.pointer (some ⟨mx, 0, none⟩), .int .i64 tx] W' (fun r W2 => r = .returned (.bool false) ∧ Below W'.heap.size W' W2) from fun W' h => Calls.mono (cC.out W' h) fun (r : Ending) (W2 : World) ⟨q', h1, h2, h3⟩ => ⟨by rw [h1]; cases q' with | false => rfl | true => exact absurd (h2.1 rfl) hcan, h3⟩)
      clear cC hcan
      go_wp2_with (first
        | (go_at_call 17; (with_reducible refine cH.out.mono ?_); rintro r w7 ⟨rfl, hb7⟩
           have cC7 := Lib.hid (cC2.out w7 hb7)
           replace hb7 := Lib.hid hb7)
        | (go_at_call 13; (with_reducible refine cC7.out.mono ?_); rintro r w8 ⟨rfl, hb8⟩; replace hb8 := Lib.hid hb8)
        | (go_at_call 8; refine (cA.out _).mono ?_; rintro r w9 ⟨rfl, hb9⟩))
      go_ret
      have h6 := hdm.out.trans ((hB6.out.trans (hb7.out.mono hB6.out.size)).mono hdm.out.size)
      have h8 := h6.trans (hb8.out.mono h6.size)
      have h9 := h8.trans (hb9.mono h8.size)
      exact ⟨rfl, hb2w.out.trans (h9.mono hb2w.out.size)⟩
end

section
open Go.ChangeShapes Go.WideShapes Go.ChangeAt Go.RowKit

theorem tri_int_flat : flatDesc Tryz.prog 3 23 = some [.int .i64, .int .i64, .int .i64] := by kernel_rfl
theorem i64_of {v : Value} (h : cellOk (.int .i64) v) : ∃ n : Int, v = .int .i64 n ∧ -9223372036854775808 ≤ n ∧ n ≤ 9223372036854775807 := by
  obtain ⟨n, rfl, h1, h2⟩ := h
  have h1 : -9223372036854775808 ≤ n := h1
  have h2 : n ≤ 9223372036854775807 := h2
  exact ⟨n, rfl, h1, h2⟩
set_option maxRecDepth 100000 in
theorem open_tri {H : Type} {enc : TypeId × Value → H} {w : World} {base : Nat} {spare : Nat → Bool} {held : Bool} {v : Value} {d : DataW H} {ps : List MemPlace} {r : Reach} {b0 : Nat}
    (hval : Value.okWide Tryz.prog w r b0 23 v) (h : DataW.Trod enc Tryz.prog w base spare held 23 v d ps) :
    ∃ X : List Int, v = .agg (X.map (Value.int .i64)).toArray ∧ X.length = 3 ∧ ∀ x ∈ X, -9223372036854775808 ≤ x ∧ x ≤ 9223372036854775807 := by
  obtain ⟨cs, rfl, _, _⟩ : ∃ cs, v = .agg cs ∧ cs.size = Tryz.prog.cellsOf 23 ∧ Row.okWide Tryz.prog w r b0 23 cs := by
    simpa [Value.okWide, Tryz.underlying23] using hval
  obtain ⟨l⟩ := cs
  obtain ⟨fuel, hf⟩ := h
  obtain ⟨hl, hc⟩ := flat_trod 3 _ _ _ _ _ tri_int_flat hf
  have e : (Value.agg ⟨l⟩).cells.toList = l := rfl
  rw [e] at hl hc
  match l, hl with
  | [c0, c1, c2], _ =>
    obtain ⟨a0, rfl, h0⟩ := i64_of (hc 0 _ _ rfl rfl)
    obtain ⟨a1, rfl, h1⟩ := i64_of (hc 1 _ _ rfl rfl)
    obtain ⟨a2, rfl, h2⟩ := i64_of (hc 2 _ _ rfl rfl)
    refine ⟨[a0, a1, a2], rfl, rfl, fun x hx => ?_⟩
    simp only [List.mem_cons, List.not_mem_nil, or_false] at hx
    rcases hx with rfl | rfl | rfl
    · exact h0
    · exact h1
    · exact h2
end

section
open Go.ChangeShapes Go.WideShapes Go.ChangeAt Go.RowKit

theorem three_of3 {X : List Int} (h : X.length = 3) : ∃ a b c, X = [a, b, c] := by
  match X, h with
  | [a, b, c], _ => exact ⟨a, b, c, rfl⟩
end
end Go.Proofs.YtphnakdgpilcmaaGreatDoor
