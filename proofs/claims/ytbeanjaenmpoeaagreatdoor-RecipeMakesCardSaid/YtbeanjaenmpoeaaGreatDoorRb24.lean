/- Texts joined: what each shows stands ahead of its theorems. -/
import Derived.Test.YtbeanjaenmpoeaaGreatDoorRb23
import Derived.Test.YtbeanjaenmpoeaaGreatDoorRb11
import Derived.Test.YtbeanjaenmpoeaaGreatDoorRb15
import Derived.Test.YtbeanjaenmpoeaaGreatDoorRb20
import Derived.Test.YtbeanjaenmpoeaaGreatDoorRb13
namespace Go.Proofs.YtbeanjaenmpoeaaGreatDoor
section
open Go.RowKit Go.Maps Go.ChangeShapes Go.WideShapes

def lastO (os : List (Option Tm)) : Option Tm := (os.getLast?).getD none
theorem lastO_snoc (os : List (Option Tm)) (o : Option Tm) : lastO (os ++ [o]) = o := by simp [lastO]
theorem lastO_at {os : List (Option Tm)} {m : Nat} (h : os.length = m + 1) : os[m]? = some (lastO os) := by
  unfold lastO
  rw [List.getLast?_eq_getElem?, h, Nat.add_sub_cancel]
  obtain ⟨o, ho⟩ : ∃ o, os[m]? = some o := ⟨os[m]'(by omega), List.getElem?_eq_getElem _⟩
  rw [ho]; rfl
/-- What Eval leaves. -/
def EvR (w0 W0 : World) (g : Nat) (L : List Tm) (known sent : List (Option Tm)) (ms : List Mk) (r : Ending) (W' : World) : Prop := ∃ x L', r = .returned (.int .i64 x) ∧ St w0 g W' L' ∧ (∃ e, L' = L ++ e) ∧ L'.length ≤ L.length + ms.length ∧ Nm L' x (lastO (recT known sent ms [])) ∧ Stay W0 W' ∧ W0.heap.size ≤ W'.heap.size
set_option maxRecDepth 100000 in
set_option maxHeartbeats 4000000 in
theorem eval_any {w0 W0 : World} {g : Nat} {L0 : List Tm} {kA sA A : Option Addr} {kn kc sn sc n c : Nat} {lk ls : List Int} {known sent : List (Option Tm)} (ms : List Mk) (hS : St w0 g W0 L0) (hL : L0.length + n ≤ 100 ∨ (L0.length < 100 ∧ ∀ t, some t ∈ recT known sent ms [] → t ∈ L0)) (hn : n ≤ 64) (hs : ∀ x ∈ ms, x.s.length ≤ 200) (hM : ∀ W, Below w0.heap.size w0 W → Stay W0 W → Rws W 5 A n (ms.map Mk.row))
    (hk : IdsT W0 kA kn lk) (hsn : IdsT W0 sA sn ls) (hkn : kn ≤ 1000) (hsn2 : sn ≤ 1000) (nk : NmL L0 lk known) (ns : NmL L0 ls sent) :
    Calls Tryz.prog 29 #[.pointer (some ⟨g, 0, none⟩), .slice kA kn kc, .slice sA sn sc, .slice A n c] W0 (EvR w0 W0 g L0 known sent ms) := by
  have hml : ms.length = n := by have := (hM W0 hS.below (Stay.refl _)).1; simpa using this
  have hrl : (recT known sent ms []).length = n := by rw [recT_len]; simpa using hml
  have cA := all_any (c := c) (kc := kc) (sc := sc) ms hS hL hn hs hM hk hsn hkn hsn2 nk ns
  unfold AllR at cA
  unfold EvR
  generalize recT known sent ms [] = os at *
  replace cA := Lib.hid cA
  have hrlh := Lib.hid hrl
  clear hS hL hs hM hk hsn hkn hsn2 nk ns hml hrl
  go_enter Tryz.func29, Tryz.ntmps29
  go_upto_region 2 with (go_at_call 28; refine cA.out.mono ?_; rintro r w1 ⟨vM, l, L', rfl, hS', hE, hl, hO, hN, hY, hz, -⟩
                         obtain ⟨A', c', rfl, hI⟩ := hO.ints
                         obtain ⟨m, hm⟩ : ∃ m, l.length = m := ⟨_, rfl⟩
                         rw [hm] at hI
                         rw [hm]
                         have hm2 := Lib.hid (hN.len.symm.trans hm)
                         have hI := Lib.hid hI
                         have hp := Lib.hid (And.intro hS' (And.intro hE (And.intro hl (And.intro hN (And.intro hY hz)))))
                         clear hS' hE hl hO hN hY hz hm)
  cases m with
  | zero =>
    go_wp2_with fail
    go_ret
    refine ⟨-1, L', rfl, hp.out.1, hp.out.2.1, hp.out.2.2.1, ?_, hp.out.2.2.2.2.1, hp.out.2.2.2.2.2⟩
    have h0 : os = [] := List.length_eq_zero_iff.1 hm2.out
    rw [h0]
    exact Nm.none_ _
  | succ m =>
    obtain ⟨b, off, x, rfl, hb, hx, hc⟩ := hI.out.at_ (show m < m + 1 by omega)
    have hxh := Lib.hid hx
    have hmn : m < 1000 := by have := hm2.out; have := hrlh.out; omega
    clear hI hx
    go_wp2_with fail
    go_ret
    refine ⟨x, L', rfl, hp.out.1, hp.out.2.1, hp.out.2.2.1, ?_, hp.out.2.2.2.2.1, hp.out.2.2.2.2.2⟩
    exact hp.out.2.2.2.1.nm m x _ hxh.out (lastO_at hm2.out)
theorem eval_long {kA sA : Option Addr} {kn kc sn sc g : Nat} {A : Option Addr} {n c : Nat} (w : World) (hn : n ≤ 9223372036854775807) (h : ¬ n ≤ 64) : Calls Tryz.prog 29 #[.pointer (some ⟨g, 0, none⟩), .slice kA kn kc, .slice sA sn sc, .slice A n c] w fun r w' => r = .returned (.int .i64 (-1)) ∧ w = w' := by
  have cA := Lib.hid (all_long (kA := kA) (sA := sA) (kn := kn) (kc := kc) (sn := sn) (sc := sc) (g := g) (A := A) (c := c) w hn h)
  clear h
  go_enter Tryz.func29, Tryz.ntmps29
  go_wp2_with (go_at_call 28; refine cA.out.mono ?_; rintro r w1 ⟨rfl, rfl⟩)
  go_ret
  exact ⟨rfl, rfl⟩
set_option maxRecDepth 100000 in
set_option maxHeartbeats 2000000 in
theorem few14_any (L : List Mk) (A : Option Addr) (n c : Nat) (w : World) (hn : n ≤ 9223372036854775807) (H : Rws w 5 A n (L.map Mk.row)) :
    Calls Tryz.prog 26 #[.slice A n c] w fun r w' => r = .returned (.bool (fewB L 70)) ∧ w = w' := by
  have hl : L.length = n := by have := H.1; simpa using this
  by_cases hm : (70 : Int) < (n : Int)
  · have e := Lib.hid (show fewB L 70 = false by
      rw [Bool.eq_false_iff]; intro h; have := (fewB_iff.1 h).1; omega)
    clear hl H
    go_enter Tryz.func26, Tryz.ntmps26
    go_wp2_with fail
    go_ret
    exact ⟨ret_bool e.out.symm, rfl⟩
  have h0 : Hid (∀ x ∈ L.take 0, x.s.length ≤ 200) := by intro x hx; simp at hx
  have hlh := Lib.hid hl
  have Hh := Lib.hid H
  clear hl H
  go_enter Tryz.func26, Tryz.ntmps26
  go_wp2_with fail
  go_loopw [3] (fun iv wr => ∃ j : Nat, j ≤ n ∧ iv = .int .i64 j ∧ Hid (∀ x ∈ L.take j, x.s.length ≤ 200) ∧ wr = w) (fun iv _ => n - (intOf iv).toNat)
  case atStart => exact ⟨0, by omega, rfl, h0, rfl⟩
  case round =>
    clear h0
    obtain ⟨j, hj, rfl, hp, rfl⟩ := hrel
    by_cases hlt : j < n
    · obtain ⟨b, off, z, rfl, hb, hz, _, hr⟩ := Hh.out.row hlt
      rw [List.getElem?_map] at hz
      obtain ⟨x, hx⟩ : ∃ x, L[j]? = some x := ⟨L[j]'(by have := hlh.out; omega), List.getElem?_eq_getElem (by have := hlh.out; omega)⟩
      rw [hx] at hz
      have hz : x.row = z := Option.some.inj hz
      subst hz
      have hc := hr 4 _ rfl
      have hzs := bs_size x.s
      have htk := take_succ_of hx
      have hmem := List.mem_of_getElem? hx
      generalize bs x.s = y at *
      by_cases h2 : 200 < x.s.length
      · have e := Lib.hid (show fewB L 70 = false by
          rw [Bool.eq_false_iff]; intro h; have := (fewB_iff.1 h).2 x hmem; omega)
        have hy : 200 < y.size := by omega
        clear hr hx htk hmem hzs
        go_wp2_with fail
        go_ret
        exact ⟨ret_bool e.out.symm, rfl⟩
      · have hy : ¬ 200 < y.size := by omega
        have hnext : Hid (∀ z ∈ L.take (j + 1), z.s.length ≤ 200) := by
          intro z hz
          rw [htk] at hz
          rcases List.mem_append.1 hz with hz | hz
          · exact hp.out z hz
          · obtain rfl := List.mem_singleton.1 hz; omega
        clear hr hx htk hmem hzs
        go_wp2_with fail
        go_roundw
        case rel => exact ⟨j + 1, by omega, by go_num, hnext, (by first | rfl | trivial)⟩
        case measure => simp [intOf]; omega
    · have e := Lib.hid (show fewB L 70 = true by
        rw [fewB_iff]
        refine ⟨by have := hlh.out; omega, ?_⟩
        have := hp.out
        rwa [List.take_of_length_le (by have := hlh.out; omega)] at this)
      clear hp
      go_wp2_with fail
      go_ret
      exact ⟨ret_bool e.out.symm, rfl⟩
theorem op_flat : flatDesc Tryz.prog 3 96 = some mkDs := by kernel_rfl
set_option maxRecDepth 100000 in
theorem open_ops {H : Type} {enc : TypeId × Value → H} {w : World} {base : Nat} {spare : Nat → Bool} {held : Bool} {r : Reach} {b0 : Nat} {v : Value} {d : DataW H} {ps : List MemPlace}
    (hv : Value.okWide Tryz.prog w r b0 57 v) (h : DataW.Trod enc Tryz.prog w base spare held 57 v d ps) :
    ∃ (A : Option Addr) (n c : Nat) (L : List Mk), v = .slice A n c ∧ n ≤ 9223372036854775807 ∧ Rws w 5 A n (L.map Mk.row) ∧ n ≤ c ∧ c ≤ 9223372036854775807 := by
  obtain ⟨a, len, cap, rfl⟩ := okWide_slice Tryz.underlying57 hv
  obtain ⟨fuel, hf⟩ := h
  obtain ⟨A, n, c, zs, hcs, hl, hm, hr, hok⟩ := open_rows Tryz.underlying57 op_flat (by kernel_rfl) (by decide) hf
  obtain ⟨L, rfl⟩ := mks_of_rows zs hok
  have : Value.slice a len cap = .slice A n c := by simpa [Value.cells] using hcs
  unfold maxLen at hm
  exact ⟨A, n, c, L, this, by omega, hr, hl, by omega⟩
end

section
open Go.RowKit Go.Maps

def RAllR (w : World) (n : Nat) (os : List (Option Tm)) (r : Ending) (w' : World) : Prop := ∃ (A : Option Addr) (c : Nat), r = .returned (.slice A n c) ∧ Strs w' A n (os.map fun o => bs (encO o)) ∧ Below w.heap.size w w'
set_option maxRecDepth 100000 in
set_option maxHeartbeats 2000000 in
theorem rall_any {known sent : List (Option Tm)} {A KA SA : Option Addr} {n c kn kc sn sc : Nat} (ms : List Mk) (w : World) (hn : n ≤ 1000) (hkn : kn ≤ 1000) (hsn : sn ≤ 1000) (hf : Fine (recT known sent ms []))
    (hK : TxS w KA kn known) (hS : TxS w SA sn sent) (hA : Rws w 5 A n (ms.map Mk.row)) (hs : ∀ x ∈ ms, x.s.length ≤ 4000000000) :
    Calls Tryz.prog 32 #[.slice KA kn kc, .slice SA sn sc, .slice A n c] w (RAllR w n (recT known sent ms [])) := by
  obtain ⟨i0, hi, hz0, hz1, hz2⟩ := info_parts str_info
  have hml : ms.length = n := by have := hA.1; simpa using this
  have hO0 : Hid (OwnS w w.heap.size (.slice none 0 0) ((recT known sent (ms.take 0) []).map fun o => bs (encO o))) := OwnR.nil_ _ _ _ _
  have hB0 := Lib.hid (Below.refl w.heap.size w)
  have hKh := Lib.hid hK
  have hSh := Lib.hid hS
  have hAh := Lib.hid hA
  have hfh := Lib.hid hf
  have hsh := Lib.hid hs
  have hmlh := Lib.hid hml
  unfold RAllR
  clear hK hS hA hf hs hml
  go_enter Tryz.func32, Tryz.ntmps32
  go_wp2_with fail
  go_loopw [7, 8] (fun lv iv wr => ∃ (j : Nat) (v : Value), j ≤ n ∧ lv = v ∧ iv = .int .i64 j ∧ Hid (OwnS wr w.heap.size v ((recT known sent (ms.take j) []).map fun o => bs (encO o))) ∧ Hid (Below w.heap.size w wr)) (fun _ iv _ => n - (intOf iv).toNat)
  case atStart => exact ⟨0, _, by omega, rfl, rfl, hO0, hB0⟩
  case round =>
    clear hO0 hB0
    obtain ⟨j, v, hj, rfl, rfl, hO, hB⟩ := hrel
    have hml : ((recT known sent (ms.take j) []).map fun o => bs (encO o)).length = j := by rw [List.length_map, recT_len, List.length_take]; have := hmlh.out; simp; omega
    by_cases hlt : j < n
    · obtain ⟨b, off, z, rfl, hb, hz', _, hr⟩ := (Rws.keep hAh.out hB.out).row hlt
      obtain ⟨x, hx⟩ : ∃ x, ms[j]? = some x := ⟨ms[j]'(by have := hmlh.out; omega), List.getElem?_eq_getElem (by have := hmlh.out; omega)⟩
      rw [List.getElem?_map, hx] at hz'
      have hz' : x.row = z := Option.some.inj hz'
      subst hz'
      have hsx := hsh.out x (List.mem_of_getElem? hx)
      have htk := recT_take (known := known) (sent := sent) hx
      obtain ⟨k, a, b2, e2, s⟩ := x
      obtain ⟨Av, cv, ev, hSv⟩ := hO.out.strs
      rw [hml] at ev hSv
      subst ev
      have cS := rstep_any (known := known) (sent := sent) (c := cv) (kc := kc) (sc := sc) k a b2 e2 s wr (by omega : j ≤ 1000) hkn hsn (fun o ho => hfh.out o (recT_in j o ho)) (Strs.keep hKh.out hB.out) (Strs.keep hSh.out hB.out) hSv hsx
      obtain ⟨o, ho⟩ : ∃ o, stepT known sent (recT known sent (ms.take j) []) ⟨k, a, b2, e2, s⟩ = o := ⟨_, rfl⟩
      rw [ho] at cS htk
      unfold TxR at cS
      have hnext := Lib.hid (show ((recT known sent (ms.take (j + 1)) []).map fun o => bs (encO o)) = ((recT known sent (ms.take j) []).map fun o => bs (encO o)) ++ [bs (encO o)] by rw [htk, List.map_append]; rfl)
      replace cS := Lib.hid cS
      have hrow := Lib.hid hr
      replace hml := Lib.hid hml
      clear ho htk hx hSv hsx hr
      generalize bs (encO o) = yo at *
      go_upto_region 4 with (first
        | (refine wpList_load_at 96 _ rfl rfl b (off + j * 5) rfl (mkRow k a b2 e2 s) _ hrow.out Tryz.underlying96 rfl (by kernel_rfl) ?_)
        | (go_at_call 55; refine cS.out.mono ?_; rintro r w3 ⟨rfl, hb3⟩
           obtain ⟨A2, c2, zs, q1', hzl, hOn, hup⟩ := own_next (OwnS.keep hO.out hb3) yo
           injection q1' with q1 q2 q3
           subst q1 q3
           rw [hml.out] at hzl
           have hzb : zs.length ≤ 1000 := by omega
           have hOn := Lib.hid hOn
           have hup := Lib.hid hup
           have hB3 := hB.out.trans (hb3.mono hB.out.size)
           have hBn := Lib.hid (hB3.trans ((below_new w3 (.cells #[.string yo] 9)).mono hB3.size))
           have hrw := Lib.hid (rangeAt_list (heap_new w3 (.cells [Value.string yo].toArray 9)))
           clear hb3 hB3 q2 hzl)
        | (at_builtin; refine wpList_append_one rfl _ _ 29 rfl 9 i0 _ 1 16 Tryz.underlying29 hi hz0 hz1 hz2 rfl (by decide) w hBn.out _ zs rfl hOn.out w3.heap.size 1 [.string yo] rfl hrw.out rfl (by simp; rfl) (by unfold maxLen; omega) (by omega) ?_; intro v2 w5 hO2 hB2 hg2
           have hO2 := hup.out _ _ hO2
           rw [← hnext.out] at hO2
           replace hO2 := Lib.hid hO2
           replace hB2 := Lib.hid hB2
           clear hg2))
      go_wp2_with fail
      go_roundw
      case rel => exact ⟨j + 1, v2, by omega, rfl, by go_num, hO2, hB2⟩
      case measure => simp [intOf]; omega
    · have hjn : j = n := by omega
      subst hjn
      have hO := hO.out
      rw [List.take_of_length_le (Nat.le_of_eq hmlh.out)] at hO hml
      obtain ⟨Av, cv, ev, hSv⟩ := hO.strs
      rw [hml] at ev hSv
      subst ev
      have hSv := Lib.hid hSv
      clear hO hml hlt
      go_wp2_with fail
      go_ret
      exact ⟨Av, cv, rfl, hSv.out, hB.out⟩
set_option maxRecDepth 100000 in
set_option maxHeartbeats 2000000 in
theorem reval_any {known sent : List (Option Tm)} {A KA SA : Option Addr} {n c kn kc sn sc : Nat} (ms : List Mk) (w : World) (hn : n ≤ 64) (hkn : kn ≤ 1000) (hsn : sn ≤ 1000) (hf : Fine (recT known sent ms []))
    (hK : TxS w KA kn known) (hS : TxS w SA sn sent) (hA : Rws w 5 A n (ms.map Mk.row)) (hs : ∀ x ∈ ms, x.s.length ≤ 4000000000) :
    Calls Tryz.prog 30 #[.slice KA kn kc, .slice SA sn sc, .slice A n c] w (TxR w (encO (lastO (recT known sent ms [])))) := by
  have hml : ms.length = n := by have := hA.1; simpa using this
  have cA := rall_any (c := c) (kc := kc) (sc := sc) ms w (by omega) hkn hsn hf hK hS hA hs
  have hrl : (recT known sent ms []).length = n := by rw [recT_len]; simpa using hml
  have hBr := Below.refl w.heap.size w
  unfold RAllR at cA
  unfold TxR
  generalize recT known sent ms [] = os at *
  replace cA := Lib.hid cA
  clear hf hK hS hA hs hml
  by_cases h0 : n = 0
  · subst h0
    have e : os = [] := List.length_eq_zero_iff.1 hrl
    rw [e]
    clear e hrl
    go_enter Tryz.func30, Tryz.ntmps30
    go_wp2_with fail
    go_ret
    exact ⟨rfl, hBr⟩
  · have h64 : ¬ (64 : Int) < (n : Int) := by omega
    have hl0 : ((n : Int) == 0) = false := by rw [beq_eq_false_iff_ne]; omega
    have hn0 : 0 < n := by omega
    have hrlh := Lib.hid hrl
    clear h0 hBr hrl
    go_enter Tryz.func30, Tryz.ntmps30
    go_upto_region 4 with (go_at_call 32; refine cA.out.mono ?_; rintro r w1 ⟨A1, c1, rfl, hS1, hb1⟩
                           have hS1 := Lib.hid hS1
                           have hb1h := Lib.hid hb1
                           clear hb1)
    clear cA h64 hl0
    obtain ⟨m, rfl⟩ : ∃ m, n = m + 1 := ⟨n - 1, by omega⟩
    obtain ⟨b, off, x, rfl, hb, hx, hc⟩ := hS1.out.at_ (show m < m + 1 by omega)
    have hxx : x = bs (encO (lastO os)) := by
      rw [List.getElem?_map, lastO_at hrlh.out] at hx
      exact (Option.some.inj hx).symm
    have hxh := Lib.hid hxx
    clear hS1 hx hxx
    go_wp2_with fail
    go_ret
    exact ⟨(congrArg (fun y => Ending.returned (Value.string y)) hxh.out), hb1h.out⟩
theorem reval_long {A KA SA : Option Addr} {n c kn kc sn sc : Nat} (w : World) (hn : n ≤ 9223372036854775807) (h : ¬ n ≤ 64) :
    Calls Tryz.prog 30 #[.slice KA kn kc, .slice SA sn sc, .slice A n c] w (TxR w []) := by
  have hBr := Below.refl w.heap.size w
  have h64 : (64 : Int) < (n : Int) := by omega
  have hl0 : ((n : Int) == 0) = false := by rw [beq_eq_false_iff_ne]; omega
  clear h
  go_enter Tryz.func30, Tryz.ntmps30
  go_wp2_with fail
  go_ret
  exact ⟨rfl, hBr⟩
end

section
open Go.RowKit Go.Maps

theorem ta_len : ta.len = 6 := by rw [ta, len_mk (.inl ⟨rfl, rfl, rfl, rfl, by decide⟩)]; simp [own, lens]
def th : Tm := .mk 7 0 0 [] [ta]
theorem th_eq : hashT (some ta) = some th := by
  have h := ta_len
  simp [hashT, mkO, alls, own, lens, th, h]
def opsA : List Mk := [⟨0, 0, 0, 0, [97]⟩, ⟨8, 0, 0, 0, []⟩]
theorem opsA_last : lastO (recT [] [] opsA []) = some th := by
  have e1 : stepT [] [] [] ⟨0, 0, 0, 0, [97]⟩ = some ta := by simp [stepT, sel, ta_eq]
  have e2 : stepT [] [] [some ta] ⟨8, 0, 0, 0, []⟩ = some th := by simp [stepT, sel, pkO, th_eq]
  simp [opsA, recT, e1, e2, lastO]
theorem op_info : (Tryz.prog.info? 96).map (fun i => (i.zero, i.size, i.bytes)) = some (some (.agg #[.int .i64 0, .int .i64 0, .int .i64 0, .int .i64 0, .string ⟨#[]⟩]), 5, 48) := by kernel_rfl
theorem opA_built : Tryz.prog.built 96 [(0, .int .i64 0), (4, .string ⟨#[97]⟩)] = some (Mk.row ⟨0, 0, 0, 0, [97]⟩).toArray := by kernel_rfl
theorem opB_built : Tryz.prog.built 96 [(0, .int .i64 8)] = some (Mk.row ⟨8, 0, 0, 0, []⟩).toArray := by kernel_rfl
theorem ev14 {w w1 : World} {g : Nat} (hS0 : St w g w1 []) : Calls Tryz.prog 29 #[.pointer (some ⟨g, 0, none⟩), .slice none 0 0, .slice none 0 0, .slice (some ⟨w1.heap.size, 0, none⟩) 2 2] (w1.alloc (.cells (opsA.map Mk.row).flatten.toArray 96)) fun r w' => ∃ (x : Int) (L' : List Tm), r = .returned (.int .i64 x) ∧ St w g w' L' ∧ L'.length ≤ 2 ∧ Nm L' x (some th) := by
  have hS1 := hS0.keep (below_new w1 (.cells (opsA.map Mk.row).flatten.toArray 96))
  have hM : ∀ W, Below w.heap.size w W → Stay (w1.alloc (.cells (opsA.map Mk.row).flatten.toArray 96)) W → Rws W 5 (some ⟨w1.heap.size, 0, none⟩) 2 (opsA.map Mk.row) := fun W _ hs => by
    have hc := hs _ _ _ _ (heap_new w1 (.cells (opsA.map Mk.row).flatten.toArray 96)) (by decide) (by decide) (by decide)
    exact Rws.block (k := 5) (zs := opsA.map Mk.row) (t := 96) (fr := (0, 0)) (fun z hz => by
      obtain ⟨x, _, rfl⟩ := List.mem_map.1 hz
      rfl) hc (Array.getElem?_eq_some_iff.1 hc).1
  have h := eval_any (c := 2) (kc := 0) (sc := 0) opsA hS1 (.inl (by decide)) (by decide) (by simp [opsA]) hM (IdsT.nil_ (A := none)) (IdsT.nil_ (A := none)) (by decide) (by decide) (NmL.nil_ []) (NmL.nil_ [])
  unfold EvR at h
  rw [opsA_last] at h
  refine h.mono fun r w' ⟨x, L', h1, h2, _, h3, h4, _⟩ => ⟨x, L', h1, h2, ?_, h4⟩
  simpa [opsA] using h3
set_option maxRecDepth 100000 in
set_option maxHeartbeats 4000000 in
theorem awake14 (w : World) : Calls Tryz.prog 27 #[] w fun r w' => r = .returned (.bool true) ∧ Below w.heap.size w w' := by
  obtain ⟨j0, hj0, hj1, hj2, hj3⟩ := info_parts op_info
  have cN := Lib.hid (tnew_any w)
  go_enter Tryz.func27, Tryz.ntmps27
  go_upto_region 2 with (go_at_call 8; refine cN.out.mono ?_; rintro r w1 ⟨A, rfl, hN, hA, hb⟩
                         have hS0 := St.start hN hA hb
                         have cE := Lib.hid (ev14 hS0)
                         clear hN hA hb cN hS0
                         generalize A.g = g at *)
  go_upto_region 3 with (first
    | (refine wpList_build_as 96 _ rfl rfl (Mk.row ⟨0, 0, 0, 0, [97]⟩).toArray ?_ ?_; exact opA_built)
    | (refine wpList_build_as 96 _ rfl rfl (Mk.row ⟨8, 0, 0, 0, []⟩).toArray ?_ ?_; exact opB_built)
    | (refine wpList_buildSlice_as 57 96 2 _ rfl rfl j0 _ (opsA.map Mk.row).flatten.toArray Tryz.underlying57 hj0 hj1 (by rw [hj2]; decide) (by rw [hj2]; decide) (by rw [hj2]; kernel_rfl) ?_)
    | (go_at_call 29; refine cE.out.mono ?_; rintro r w2 ⟨x, L1, rfl, hS2, hl, hM2⟩
       obtain ⟨j, rfl, hj⟩ := get_some hM2.1
       have cD := Lib.hid (hS2.data (by omega) [97] (by decide))
       have hl2 := Lib.hid hl
       have hM2 := Lib.hid hM2
       have hq : ((j : Int) == -1) = false := by rw [beq_eq_false_iff_ne]; omega
       clear hS2 hl cE hj))
  go_wp2_with (first
    | (go_at_call 53; refine cD.out.mono ?_; rintro r w3 ⟨L2, z1, rfl, hS3, hG, hM3, -, -⟩
       have cH := hS3.hash (by have := hG.len; have := hl2.out; omega) z1
       rw [hM3.1, ta_eq, th_eq] at cH
       replace cH := Lib.hid cH
       have hM4 := Lib.hid (hM2.out.grow hG)
       have hl3 := Lib.hid (show L2.length ≤ 3 by have := hG.len; have := hl2.out; omega)
       clear hS3 hG hM3)
    | (go_at_call 52; refine cH.out.mono ?_; rintro r w4 ⟨L3, z2, rfl, hS4, hG, hM5, -, -⟩
       have hM6 := hM4.out.grow hG
       obtain rfl : z2 = (j : Int) := (Nm.inj hS4.good.once hM5 hM6).2 rfl
       have cK := hS4.kind (j : Int)
       rw [hM6.1] at cK
       replace cK := Lib.hid (show Calls Tryz.prog 43 #[.pointer (some ⟨g, 0, none⟩), .int .i64 j] w4 fun r w' => r = .returned (.int .i64 7) ∧ w4 = w' from cK)
       have hBz := Lib.hid hS4.below
       clear hS4 hG hM5 hM6 cH)
    | (go_at_call 43; refine cK.out.mono ?_; rintro r w5 ⟨rfl, rfl⟩))
  go_ret
  exact ⟨rfl, hBz.out⟩
end

section
open Go.RowKit Go.Maps

/-- Where what lies behind the first K begins. -/
def behind (A : Option Addr) (K c : Nat) : Option Addr := if c = K then A else A.map (·.add (K * 1))
theorem addr0 (A : Option Addr) : A.map (·.add (0 * 1)) = A := by
  cases A with
  | none => rfl
  | some a => simp [Addr.add]
theorem slH_run (t : TypeId) (ht : Tryz.prog.underlying t = some (.slice (Tryz.prog.elem t))) (hz : ∀ w, (sizeOf (Tryz.prog.elem t)).run Tryz.prog w = .ok 1 w) (A : Option Addr) (n c K : Nat) (hK : K ≤ c) (W : World) :
    (Instr.sliceAt t (.slice A n c) none (some (.int .i64 (K : Int))) none).run Tryz.prog W = .ok (.slice A K c) W := by
  rw [run_sliceAt_slice (h := ht), run_slice_h (ht := ht) (h0 := by omega) (h2 := by omega), hz]
  simp only [Result.andThen, sliced, Int.toNat_natCast, Nat.sub_zero, addr0, ite_self]
theorem slL_run (t : TypeId) (ht : Tryz.prog.underlying t = some (.slice (Tryz.prog.elem t))) (hz : ∀ w, (sizeOf (Tryz.prog.elem t)).run Tryz.prog w = .ok 1 w) (A : Option Addr) (n c K : Nat) (hK : K ≤ n) (W : World) :
    (Instr.sliceAt t (.slice A n c) (some (.int .i64 (K : Int))) none none).run Tryz.prog W = .ok (.slice (behind A K c) (n - K) (c - K)) W := by
  rw [run_sliceAt_slice (h := ht), run_slice_l (ht := ht) (h0 := by omega) (h1 := by omega), hz]
  simp only [Result.andThen, sliced, Int.toNat_natCast, behind]
theorem u_ids : Tryz.prog.underlying 28 = some (.slice (Tryz.prog.elem 28)) := by kernel_rfl
theorem z_ids : ∀ w, (sizeOf (Tryz.prog.elem 28)).run Tryz.prog w = .ok 1 w := by intro w; kernel_rfl
theorem u_strs : Tryz.prog.underlying 29 = some (.slice (Tryz.prog.elem 29)) := by kernel_rfl
theorem z_strs : ∀ w, (sizeOf (Tryz.prog.elem 29)).run Tryz.prog w = .ok 1 w := by intro w; kernel_rfl
theorem Rws.behind_ {w : World} {A : Option Addr} {n c K : Nat} {zs : List (List Value)} (h : Rws w 1 A n zs) (hc : n ≤ c) : Rws w 1 (behind A K c) (n - K) (zs.drop K) :=
  ⟨by rw [List.length_drop, h.1], fun z hz => h.2.1 z (List.mem_of_mem_drop hz), fun hp => by
    obtain ⟨b, off, e, hlt, hcell⟩ := h.2.2 (by omega)
    refine ⟨b, off + K, ?_, hlt, fun j z hz => ?_⟩
    · unfold behind
      rw [if_neg (by omega), e]
      simp [Addr.add]
    · rw [List.getElem?_drop] at hz
      have := hcell (K + j) z hz
      rwa [show off + (K + j) * 1 = off + K + j * 1 by omega] at this⟩
theorem IdsT.take_ {w : World} {A : Option Addr} {n K : Nat} {l : List Int} (h : IdsT w A n l) (hK : K ≤ n) : IdsT w A K (l.take K) :=
  ⟨by have := Rws.take_ h.ints hK; unfold Ints; rw [List.map_take]; exact this, fun hp => h.typ (by omega)⟩
theorem IdsT.behind_ {w : World} {A : Option Addr} {n c K : Nat} {l : List Int} (h : IdsT w A n l) (hc : n ≤ c) : IdsT w (behind A K c) (n - K) (l.drop K) :=
  ⟨by have := Rws.behind_ (K := K) h.ints hc; unfold Ints; rw [List.map_drop]; exact this, fun hp => by
    obtain ⟨b, off, cur, fr, e, hb⟩ := h.typ (by omega)
    refine ⟨b, off + K, cur, fr, ?_, hb⟩
    unfold behind
    rw [if_neg (by omega), e]
    simp [Addr.add]⟩
theorem TxS.take_ {w : World} {A : Option Addr} {n K : Nat} {os : List (Option Tm)} (h : TxS w A n os) (hK : K ≤ n) : TxS w A K (os.take K) := by
  have := Strs.take_ h hK
  unfold TxS
  rw [List.map_take]
  exact this
theorem TxS.behind_ {w : World} {A : Option Addr} {n c K : Nat} {os : List (Option Tm)} (h : TxS w A n os) (hc : n ≤ c) : TxS w (behind A K c) (n - K) (os.drop K) := by
  have := Rws.behind_ (K := K) h hc
  unfold TxS Strs
  rw [List.map_drop, List.map_drop]
  exact this
theorem NmL.take_ {L : List Tm} {l : List Int} {os : List (Option Tm)} (h : NmL L l os) (K : Nat) : NmL L (l.take K) (os.take K) :=
  ⟨by rw [List.length_take, List.length_take, h.len], fun i x o h1 h2 => by
    rw [List.getElem?_take] at h1 h2
    split at h1
    · rename_i hi
      rw [if_pos hi] at h2
      exact h.nm i x o h1 h2
    · cases h1⟩
theorem NmL.drop_ {L : List Tm} {l : List Int} {os : List (Option Tm)} (h : NmL L l os) (K : Nat) : NmL L (l.drop K) (os.drop K) :=
  ⟨by rw [List.length_drop, List.length_drop, h.len], fun i x o h1 h2 => by
    rw [List.getElem?_drop] at h1 h2
    exact h.nm _ x o h1 h2⟩
theorem NmL.mem_ {L : List Tm} {l : List Int} {os : List (Option Tm)} (h : NmL L l os) {t : Tm} (ht : some t ∈ os) : t ∈ L := by
  obtain ⟨x, hx⟩ := h.of ht
  exact get_mem hx.1
theorem OwnR.cap {w : World} {base k : Nat} {E : TypeId} {A : Option Addr} {n c : Nat} {zs : List (List Value)} (h : OwnR w base k E (.slice A n c) zs) : n ≤ c := by
  rcases h.1.2 with ⟨e, _⟩ | ⟨g, cap, cur, e, _, _, hc, _⟩
  · injection e with _ e1 e2
    rw [e1, e2]
    exact Nat.le_refl _
  · injection e with _ e1 e2
    rw [e2, e1]
    exact hc
/-- What Made holds, at any world behind which its blocks stay. -/
structure MdK (q : Nat) (AI AT : Option Addr) (n cI cT K : Nat) (l : List Int) (os : List (Option Tm)) (W : World) : Prop where
  blk : W.heap[q]? = some (.cells #[.slice AI n cI, .slice AT n cT] 31 (0, 0))
  k : IdsT W AI K (l.take K)
  s : IdsT W (behind AI K cI) (n - K) (l.drop K)
  kt : TxS W AT K (os.take K)
  st : TxS W (behind AT K cT) (n - K) (os.drop K)
theorem Md.at_k {w0 : World} {g q B : Nat} {W4 W : World} {AI AT : Option Addr} {n cI cT K : Nat} {l : List Int} {L : List Tm} {os : List (Option Tm)} (h : Md w0 g q B W4 AI AT n cI cT l L os) (hK : K ≤ n) (hs : Stay W4 W) : MdK q AI AT n cI cT K l os W := by
  have hI := OwnD.stay h.ids hs
  have hT := OwnS.stay h.txt hs
  have cI := OwnR.cap hI
  have cT := OwnR.cap hT
  obtain ⟨A, c, e, hId⟩ := IdsT.of_own hI
  rw [h.ll] at e hId
  injection e with e1 _ _
  subst e1
  obtain ⟨A', c', e', hSt⟩ := hT.strs
  have hll : (os.map fun o => bs (encO o)).length = n := by rw [List.length_map]; exact h.lo
  rw [hll] at e' hSt
  injection e' with e1 _ _
  subst e1
  exact ⟨hs _ _ _ _ h.blk (by decide) (by decide) (by decide), hId.take_ hK, hId.behind_ cI, TxS.take_ hSt hK, TxS.behind_ hSt cT⟩
/-- What All leaves, however long the recipe is. -/
def AllU (w0 : World) (g : Nat) (L : List Tm) (osM : List (Option Tm)) (W0 : World) (r : Ending) (W' : World) : Prop := ∃ (mA : Option Addr) (mn mc : Nat) (lm : List Int) (L' : List Tm), r = .returned (.slice mA mn mc) ∧ St w0 g W' L' ∧ (∃ e, L' = L ++ e) ∧ L'.length ≤ L.length + 64 ∧ mn = osM.length ∧ IdsT W' mA mn lm ∧ NmL L' lm osM ∧ Stay W0 W' ∧ W0.heap.size ≤ W'.heap.size
def EvU (w0 : World) (g : Nat) (L : List Tm) (ev : Option Tm) (W0 : World) (r : Ending) (W' : World) : Prop := ∃ (x : Int) (L' : List Tm), r = .returned (.int .i64 x) ∧ St w0 g W' L' ∧ (∃ e, L' = L ++ e) ∧ Nm L' x ev ∧ Stay W0 W' ∧ W0.heap.size ≤ W'.heap.size
noncomputable def osU (known sent : List (Option Tm)) (n : Nat) (ops : List Mk) : List (Option Tm) := if n ≤ 64 then recT known sent ops [] else []
theorem allU_any {w0 W0 : World} {g : Nat} {L0 : List Tm} {kA sA A : Option Addr} {kn kc sn sc n c : Nat} {lk ls : List Int} {known sent : List (Option Tm)} (ms : List Mk) (hS : St w0 g W0 L0) (hL : L0.length ≤ 15) (hn : n ≤ 9223372036854775807) (hs : ∀ x ∈ ms, x.s.length ≤ 200) (hM : Rws w0 5 A n (ms.map Mk.row))
    (hk : IdsT W0 kA kn lk) (hsn : IdsT W0 sA sn ls) (hkn : kn ≤ 1000) (hsn2 : sn ≤ 1000) (nk : NmL L0 lk known) (ns : NmL L0 ls sent) :
    Calls Tryz.prog 28 #[.pointer (some ⟨g, 0, none⟩), .slice kA kn kc, .slice sA sn sc, .slice A n c] W0 (AllU w0 g L0 (osU known sent n ms) W0) := by
  have hml : ms.length = n := by have := hM.1; simpa using this
  unfold osU
  by_cases h : n ≤ 64
  · rw [if_pos h]
    refine (all_any (c := c) (kc := kc) (sc := sc) ms hS (.inl (by omega)) h hs (fun W hb _ => Rws.keep hM hb) hk hsn hkn hsn2 nk ns).mono ?_
    rintro r W' ⟨vM, l, L', rfl, h1, h2, h3, h4, h5, h6, h7, -⟩
    obtain ⟨A', c', rfl, hI⟩ := IdsT.of_own h4
    exact ⟨A', l.length, c', l, L', rfl, h1, h2, by omega, h5.len, hI, h5, h6, h7⟩
  · rw [if_neg h]
    refine (all_long (kA := kA) (sA := sA) (kn := kn) (kc := kc) (sn := sn) (sc := sc) (g := g) (A := A) (c := c) W0 hn h).mono ?_
    rintro r W' ⟨rfl, rfl⟩
    exact ⟨none, 0, 0, [], L0, rfl, hS, ⟨[], by simp⟩, by omega, rfl, IdsT.nil_, NmL.nil_ _, Stay.refl _, Nat.le_refl _⟩
theorem evU_any {w0 W0 : World} {g : Nat} {L0 : List Tm} {kA sA A : Option Addr} {kn kc sn sc n c : Nat} {lk ls lm : List Int} {known sent : List (Option Tm)} (ms : List Mk) (hS : St w0 g W0 L0) (hL : L0.length < 100) (hn : n ≤ 9223372036854775807) (hs : ∀ x ∈ ms, x.s.length ≤ 200) (hM : Rws w0 5 A n (ms.map Mk.row))
    (hk : IdsT W0 kA kn lk) (hsn : IdsT W0 sA sn ls) (hkn : kn ≤ 1000) (hsn2 : sn ≤ 1000) (nk : NmL L0 lk known) (ns : NmL L0 ls sent) (nm : NmL L0 lm (osU known sent n ms)) :
    Calls Tryz.prog 29 #[.pointer (some ⟨g, 0, none⟩), .slice kA kn kc, .slice sA sn sc, .slice A n c] W0 (EvU w0 g L0 (lastO (osU known sent n ms)) W0) := by
  unfold osU at nm ⊢
  by_cases h : n ≤ 64
  · rw [if_pos h] at nm ⊢
    refine (eval_any (c := c) (kc := kc) (sc := sc) ms hS (.inr ⟨hL, fun t ht => nm.mem_ ht⟩) h hs (fun W hb _ => Rws.keep hM hb) hk hsn hkn hsn2 nk ns).mono ?_
    rintro r W' ⟨x, L', rfl, h1, h2, h3, h4, h5, h6⟩
    exact ⟨x, L', rfl, h1, h2, h4, h5, h6⟩
  · rw [if_neg h]
    refine (eval_long (kA := kA) (sA := sA) (kn := kn) (kc := kc) (sn := sn) (sc := sc) (g := g) (A := A) (c := c) W0 hn h).mono ?_
    rintro r W' ⟨rfl, rfl⟩
    exact ⟨-1, L0, rfl, hS, ⟨[], by simp⟩, Nm.none_ _, Stay.refl _, Nat.le_refl _⟩
theorem revU_any {known sent : List (Option Tm)} {A KA SA : Option Addr} {n c kn kc sn sc : Nat} (ms : List Mk) (w : World) (hn : n ≤ 9223372036854775807) (hkn : kn ≤ 1000) (hsn : sn ≤ 1000) (hf : Fine (osU known sent n ms))
    (hK : TxS w KA kn known) (hS : TxS w SA sn sent) (hA : Rws w 5 A n (ms.map Mk.row)) (hs : ∀ x ∈ ms, x.s.length ≤ 200) :
    Calls Tryz.prog 30 #[.slice KA kn kc, .slice SA sn sc, .slice A n c] w (TxR w (encO (lastO (osU known sent n ms)))) := by
  unfold osU at hf ⊢
  by_cases h : n ≤ 64
  · rw [if_pos h] at hf ⊢
    exact reval_any ms w h hkn hsn hf hK hS hA (fun x hx => by have := hs x hx; omega)
  · rw [if_neg h]
    exact reval_long w hn h
theorem osU_fine {L : List Tm} {lm : List Int} {os : List (Option Tm)} (hG : Good L) (h : NmL L lm os) : Fine os := fun o ho => ⟨h.ok hG o ho, h.small hG o ho⟩
end
end Go.Proofs.YtbeanjaenmpoeaaGreatDoor
