/- Prefs: Check, and the reference's. -/
import Derived.Test.YtlonejkmdibkaaaDoorPfK
import Derived.Test.YtlonejkmdibkaaaDoorPfH
import Derived.Test.YtlonejkmdibkaaaDoorFl0
namespace Go.Proofs.YtlonejkmdibkaaaDoor
open Go.RowKit

def prefsS : ByteArray := ⟨#[112, 114, 101, 102, 115]⟩
def pfAt (L : List (List ByteArray)) (i : Nat) : Int := pfWrong (L.getD i []) (((i : Nat) : Int) == 0)
/-- The first list with something wrong, and what; none: 0, -1. -/
def pfGo (L : List (List ByteArray)) : Nat → Nat → Int × Int
  | 0, _ => (0, -1)
  | n + 1, i => if pfAt L i = 0 then pfGo L n (i + 1) else (pfAt L i, (i : Nat))
def pfE (L : List (List ByteArray)) : Int × Int := pfGo L 8 0
theorem pfGo_step (L : List (List ByteArray)) {k : Nat} (hk : k < 8) : pfGo L (8 - k) k = if pfAt L k = 0 then pfGo L (8 - (k + 1)) (k + 1) else (pfAt L k, (k : Nat)) := by
  obtain ⟨m, hm⟩ : ∃ m, 8 - k = m + 1 := ⟨7 - k, by omega⟩
  have : 8 - (k + 1) = m := by omega
  rw [hm, this]
  rfl
/-- What Check hands back. -/
def PfC (w : World) (e : Int × Int) (r : Ending) (w' : World) : Prop := if e.1 = 0 then r = .returned .nilIface ∧ Below w.heap.size w w' else ∃ T u, r = .returned (.iface T u) ∧ isErr w' (some e.1) [prefsS, wordAt e.2] (.iface T u) ∧ Below w.heap.size w w'
theorem box_pf (w : World) (V : List Value) (h : V.length = 8) : w.alloc (.cells V.toArray 44) = w.alloc (.cells V.toArray 44) := rfl
set_option maxRecDepth 100000 in
set_option maxHeartbeats 4000000 in
theorem pfCheck_any (V : List Value) (L : List (List ByteArray)) (w : World) (H : Pf w V L) (hs : ∀ l ∈ L, ∀ s ∈ l, s.size ≤ 9223372036854775807) (hn : ∀ l ∈ L, l.length ≤ 1000000) (P : PV w) :
    Calls Tryd.prog 44 #[.agg V.toArray] w (PfC w (pfE L)) := by
  have hb1 := below_got w (.cells V.toArray 44)
  have hg := heap_new w (.cells V.toArray 44)
  have hld := rangeAt_list (cs := V) (by exact hg)
  have hsz : (Tryd.prog.info? 44).map (·.size) = some V.length := by rw [H.v8]; kernel_rfl
  have cL := lists_any V L (w.alloc (.cells V.toArray 44)) (H.keep hb1) hn
  have hB1 := Lib.hid hb1
  have hS := Lib.hid hs
  have PP := Lib.hid P
  have cAt := Lib.hid (fun (o : Option Int) (p : List ByteArray) T u W (h : isErr W o p (.iface T u)) => at_any ⟨#[112, 114, 101, 102, 115]⟩ o p T u W h)
  clear H hs hg P hn
  go_enter Tryd.func44, Tryd.ntmps44
  go_upto_region 1 with (refine wpList_box_row 44 _ rfl rfl V.toArray rfl ?_)
  generalize w.alloc (.cells V.toArray 44) = w1 at cL hB1 hld ⊢
  have cL := Lib.hid cL
  go_wp2_with (first
    | (refine wpList_load_at 44 (.tmp 1) rfl rfl w.heap.size 0 rfl V _ hld Tryd.underlying44 rfl hsz ?_)
    | (go_at_call 30; refine cL.out.mono ?_; rintro r w5 ⟨g, U, rfl, hU, hP, _, hb5⟩; have hB5 := Lib.hid (hB1.out.trans (hb5.mono hB1.out.size)); have hU := Lib.hid hU; have hP := Lib.hid hP; clear hb5))
  go_loopw [3, 4, 5, 9] (fun _ _ _ i wr => ∃ k : Nat, k ≤ 8 ∧ i = .int .i64 k ∧ Hid (pfGo L (8 - k) k = pfE L) ∧ Hid (Below w5.heap.size w5 wr)) (fun _ _ _ i _ => 8 - (intOf i).toNat)
  case atStart => exact ⟨0, by omega, rfl, rfl, Below.refl _ _⟩
  case round =>
    obtain ⟨k, hk, rfl, hf, hB⟩ := hrel
    by_cases hlt : k < 8
    · obtain ⟨b, off, v, e, hb, hv, hc⟩ := (hU.out.keep hB.out).at_ hlt
      injection e with e
      injection e with e1 e2
      subst e1; subst e2
      obtain ⟨A, n, c, l, hv2, hl, hnc, hcm, hSt⟩ := (hP.out.keep hB.out).get hlt
      obtain rfl : v = .slice A n c := by rw [hv] at hv2; injection hv2
      have hB0 := Lib.hid (hB5.out.trans (hB.out.mono hB5.out.size))
      have hst := pfGo_step L hlt
      have hgd : L.getD k [] = l := by rw [List.getD_eq_getElem?_getD, hl]; rfl
      have hpa : pfAt L k = pfWrong l ((k : Int) == 0) := by unfold pfAt; rw [hgd]
      have cW := pfWrong_any l ((k : Int) == 0) A n c wr hnc hcm hSt (hS.out l (List.mem_of_getElem? hl)) (PP.out.keep hB0.out)
      have cI := Lib.hid (list_any (k : Int) wr (PP.out.keep hB0.out))
      rw [Nat.zero_add] at hc
      have i1 : (0 : Int) ≤ (k : Int) := by omega
      have i2 : (k : Int) < 8 := by omega
      rw [hf.out, hpa] at hst
      clear hv hv2 hl hb hgd hpa hSt
      generalize hq : pfWrong l ((k : Int) == 0) = e at cW hst
      clear hq
      have cW := Lib.hid cW
      by_cases he : e = 0
      · subst he
        rw [if_pos rfl] at hst
        have hst := Lib.hid hst
        have cO := Lib.hid (fun s W => of_zero s W)
        go_wp2_with (first
          | (go_at_call 35; (with_reducible refine cI.out.mono ?_); rintro r w6 ⟨rfl, rfl⟩)
          | (go_at_call 83; (with_reducible refine cW.out.mono ?_); rintro r w6 ⟨rfl, hb6⟩; have hB6 := Lib.hid (hB.out.trans (hb6.mono hB.out.size)); clear hb6)
          | (go_at_call 68; (with_reducible refine (cO.out _ _).mono ?_); rintro r w7 ⟨rfl, rfl⟩))
        go_roundw
        case rel => exact ⟨k + 1, by omega, by go_num, hst.out.symm, hB6⟩
        case measure => simp [intOf]; omega
      · rw [if_neg he] at hst
        have hst := Lib.hid hst
        have cO := Lib.hid (fun W => of_any (wordAt (k : Int)) e W he)
        have he := Lib.hid he
        generalize hsw0 : wordAt (k : Int) = s at cI cO
        have hsw := Lib.hid hsw0
        clear hsw0
        go_wp2_with (first
          | (go_at_call 35; (with_reducible refine cI.out.mono ?_); rintro r w6 ⟨rfl, rfl⟩)
          | (go_at_call 83; (with_reducible refine cW.out.mono ?_); rintro r w6 ⟨rfl, hb6⟩; have hB6 := Lib.hid (hB0.out.trans (hb6.mono hB0.out.size)); clear hb6)
          | (go_at_call 68; (with_reducible refine (cO.out _).mono ?_); rintro r w7 ⟨v7, rfl, hE7, hb7⟩; obtain ⟨T7, u7, rfl⟩ := isErr_some hE7; have hE7 := Lib.hid hE7; have hB7 := Lib.hid (hB6.out.trans (hb7.mono hB6.out.size)); clear hb7)
          | (go_at_call 84; (with_reducible refine (cAt.out _ _ _ _ _ hE7.out).mono ?_); rintro r w8 ⟨v8, rfl, hE8, hb8⟩; obtain ⟨T8, u8, rfl⟩ := isErr_some hE8; have hE8 := Lib.hid hE8; have hB8 := Lib.hid (hB7.out.trans (hb8.mono hB7.out.size)); clear hb8))
        go_ret
        unfold PfC
        rw [hst.out, if_neg he.out]
        exact ⟨_, _, rfl, (by show isErr _ _ [prefsS, wordAt (k : Int)] _; rw [hsw.out]; exact hE8.out), hB8.out⟩
    · have hk8 : k = 8 := by omega
      subst hk8
      have hv := Lib.hid (show pfE L = (0, -1) from hf.out.symm)
      go_wp2
      go_ret
      unfold PfC
      rw [hv.out, if_pos rfl]
      exact ⟨rfl, hB5.out.trans (hB.out.mono hB5.out.size)⟩
set_option maxRecDepth 100000 in
set_option maxHeartbeats 4000000 in
theorem refCheck15_any (V : List Value) (L : List (List ByteArray)) (w : World) (H : Pf w V L) (hs : ∀ l ∈ L, ∀ s ∈ l, s.size ≤ 9223372036854775807) :
    Calls Tryd.prog 45 #[.agg V.toArray] w fun r w' => r = .returned (.tuple #[.int .i64 (pfE L).1, .int .i64 (pfE L).2]) ∧ Below w.heap.size w w' := by
  have hb1 := below_got w (.cells V.toArray 44)
  have hg := heap_new w (.cells V.toArray 44)
  have hld := rangeAt_list (cs := V) (by exact hg)
  have hsz : (Tryd.prog.info? 44).map (·.size) = some V.length := by rw [H.v8]; kernel_rfl
  have cL := refLists_any V L (w.alloc (.cells V.toArray 44)) (H.keep hb1)
  have hB1 := Lib.hid hb1
  have hS := Lib.hid hs
  clear H hs hg
  go_enter Tryd.func45, Tryd.ntmps45
  go_upto_region 1 with (refine wpList_box_row 44 _ rfl rfl V.toArray rfl ?_)
  generalize w.alloc (.cells V.toArray 44) = w1 at cL hB1 hld ⊢
  have cL := Lib.hid cL
  go_wp2_with (first
    | (refine wpList_load_at 44 (.tmp 1) rfl rfl w.heap.size 0 rfl V _ hld Tryd.underlying44 rfl hsz ?_)
    | (go_at_call 31; refine cL.out.mono ?_; rintro r w5 ⟨g, U, rfl, hU, hP, _, hb5⟩; have hB5 := Lib.hid (hB1.out.trans (hb5.mono hB1.out.size)); have hU := Lib.hid hU; have hP := Lib.hid hP; clear hb5))
  go_loopw [5, 6] (fun i _ wr => ∃ k : Nat, k ≤ 8 ∧ i = .int .i64 k ∧ Hid (pfGo L (8 - k) k = pfE L) ∧ Hid (Below w5.heap.size w5 wr)) (fun i _ _ => 8 - (intOf i).toNat)
  case atStart => exact ⟨0, by omega, rfl, rfl, Below.refl _ _⟩
  case round =>
    obtain ⟨k, hk, rfl, hf, hB⟩ := hrel
    by_cases hlt : k < 8
    · obtain ⟨b, off, v, e, hb, hv, hc⟩ := (hU.out.keep hB.out).at_ hlt
      injection e with e
      injection e with e1 e2
      subst e1; subst e2
      obtain ⟨A, n, c, l, hv2, hl, hnc, hcm, hSt⟩ := (hP.out.keep hB.out).get hlt
      obtain rfl : v = .slice A n c := by rw [hv] at hv2; injection hv2
      have hst := pfGo_step L hlt
      have hgd : L.getD k [] = l := by rw [List.getD_eq_getElem?_getD, hl]; rfl
      have hpa : pfAt L k = pfWrong l ((k : Int) == 0) := by unfold pfAt; rw [hgd]
      have cW := refWrong_any l ((k : Int) == 0) A n c wr hnc hcm hSt (hS.out l (List.mem_of_getElem? hl))
      rw [Nat.zero_add] at hc
      have i1 : (0 : Int) ≤ (k : Int) := by omega
      have i2 : (k : Int) < 8 := by omega
      rw [hf.out, hpa] at hst
      clear hv hv2 hl hb hgd hpa hSt
      generalize hq : pfWrong l ((k : Int) == 0) = e at cW hst
      clear hq
      have cW := Lib.hid cW
      by_cases he : e = 0
      · subst he
        rw [if_pos rfl] at hst
        have hst := Lib.hid hst
        go_wp2_with (go_at_call 85; (with_reducible refine cW.out.mono ?_); rintro r w6 ⟨rfl, hb6⟩; have hB6 := Lib.hid (hB.out.trans (hb6.mono hB.out.size)); clear hb6)
        go_roundw
        case rel => exact ⟨k + 1, by omega, by go_num, hst.out.symm, hB6⟩
        case measure => simp [intOf]; omega
      · rw [if_neg he] at hst
        have hst := Lib.hid hst
        have hne : (e != 0) = true := by unfold bne; rw [beq_eq_false_iff_ne.2 he]; rfl
        clear he
        go_wp2_with (go_at_call 85; (with_reducible refine cW.out.mono ?_); rintro r w6 ⟨rfl, hb6⟩; have hB6 := Lib.hid (hB.out.trans (hb6.mono hB.out.size)); clear hb6)
        go_ret2
        rw [hst.out]
        exact ⟨rfl, hB5.out.trans (hB6.out.mono hB5.out.size)⟩
    · have hk8 : k = 8 := by omega
      subst hk8
      have hv := Lib.hid (show pfE L = (0, -1) from hf.out.symm)
      go_wp2
      go_ret2
      rw [hv.out]
      exact ⟨rfl, hB5.out.trans (hB.out.mono hB5.out.size)⟩
end Go.Proofs.YtlonejkmdibkaaaDoor
