/- The walk of ChooseAny. -/
import Derived.Test.YtfoegpacjkcidaaDoorChG
import Derived.Test.YtfoegpacjkcidaaDoorFlV
import Derived.Test.YtfoegpacjkcidaaDoorNmC
namespace Go.Proofs.YtfoegpacjkcidaaDoor
open Go.RowKit

noncomputable def ldK (a : Addr) : Sem Value := loadVar 28 a
theorem ldK_eq (a : Addr) : loadVar 28 a = ldK a := rfl
theorem ldK_run {W : World} {g : Nat} {cs : List Value} (hc : W.rangeAt g 0 cs) (h8 : cs.length = 8) : (ldK ⟨g, 0, none⟩).run Tryd.prog W = .ok (.agg cs.toArray) W :=
  run_loadVar_mid W g 0 28 cs _ hc Tryd.underlying28 rfl (by rw [h8]; kernel_rfl)
noncomputable def eqK (x y : Value) : Sem Value := binOp .eql 28 x y
theorem eqK_eq (x y : Value) : binOp .eql 28 x y = eqK x y := rfl
noncomputable def egK (x y : Operand) (a b : Value) : Sem Unit := eqGuard .eql 28 x y a b
theorem egK_eq (x y : Operand) (a b : Value) : eqGuard .eql 28 x y a b = egK x y a b := rfl
theorem egK_run (x y : Operand) (xs ys : Array Value) (w : World) : (egK x y (.agg xs) (.agg ys)).run Tryd.prog w = .ok () w := run_eqGuard_agg (w := w) .eql _ x y xs ys ch_guard
theorem wordAt_small (i : Int) : (wordAt i).size ≤ 6 := by
  unfold wordAt
  split
  · rename_i h
    obtain ⟨k, rfl⟩ := Int.eq_ofNat_of_zero_le h.1
    have hk : k < 8 := by omega
    rw [Int.toNat_natCast]
    match k, hk with
    | 0, _ => decide
    | 1, _ => decide
    | 2, _ => decide
    | 3, _ => decide
    | 4, _ => decide
    | 5, _ => decide
    | 6, _ => decide
    | 7, _ => decide
  · decide
def sp17 : ByteArray := ⟨#[32]⟩
theorem spS_choose (s : ByteArray) : spS [chooseS, s] = (⟨#[99, 104, 111, 111, 115, 101, 32]⟩ : ByteArray) ++ s ++ sp17 := by
  unfold spS
  simp only [List.foldl_cons, List.foldl_nil]
  have : ((⟨#[]⟩ : ByteArray) ++ chooseS ++ ⟨#[32]⟩) = ⟨#[99, 104, 111, 111, 115, 101, 32]⟩ := by decide +kernel
  rw [this]; rfl
theorem pre17 {s : ByteArray} (h : s.size ≤ 6) : ((⟨#[99, 104, 111, 111, 115, 101, 32]⟩ : ByteArray) ++ s).size ≤ 13 := by
  have h1 : (⟨#[99, 104, 111, 111, 115, 101, 32]⟩ : ByteArray).size = 7 := by decide +kernel
  simp only [ByteArray.size_append]
  omega
theorem spS17 {s : ByteArray} (h : s.size ≤ 6) : (spS [chooseS, s]).size ≤ 1000000 := by
  have h1 : (⟨#[99, 104, 111, 111, 115, 101, 32]⟩ : ByteArray).size = 7 := by decide +kernel
  have h2 : sp17.size = 1 := by decide +kernel
  rw [spS_choose]
  simp only [ByteArray.size_append]
  omega
theorem built17 (n : Int) (s : ByteArray) : Tryd.prog.built 46 [(0, .int .i64 n), (1, .string s)] = some #[.int .i64 n, .string s] := by kernel_rfl
theorem same_X (l : List ByteArray) (A B : Option Addr) (n c m d : Nat) (w : World) (hn : n ≤ 9223372036854775807) (hm : m ≤ 9223372036854775807) (H : Strs w A n l) (K : Strs w B m l) :
    Calls Tryd.prog 22 #[.slice A n c, .slice B m d] w fun r w' => r = .returned (.bool true) ∧ Below w.heap.size w w' := by
  have h := same_any l l A B n c m d w hn hm H K
  rw [decide_eq_true rfl] at h
  refine h.mono ?_
  rintro r w' ⟨rfl, q, rfl⟩
  exact ⟨rfl, drewN_below q⟩
section
attribute [local go_sem ↓] ldQ_eq ldK_eq eqK_eq egK_eq
attribute [local go_sem] egK_run
set_option maxRecDepth 100000 in
set_option maxHeartbeats 8000000 in
theorem law_chooseAny (V U : List Value) (L M : List (List ByteArray)) (w : World) (H : Pf w V L) (K : Pf w U M) (hs : ∀ l ∈ L, ∀ s ∈ l, s.size ≤ 9223372036854775807) (ht : ∀ l ∈ M, ∀ s ∈ l, s.size ≤ 9223372036854775807) (P : PV w) (G : ETy w) :
    Calls Tryd.prog 5 #[.agg V.toArray, .agg U.toArray] w fun r w' => r = .returned (.bool true) ∧ Below w.heap.size w w' := by
  have hb1 := below_got w (.cells V.toArray 24)
  have hb2 := hb1.alloc hb1.size (.cells U.toArray 24)
  have hg1 := heap_past (heap_new w (.cells V.toArray 24)) (.cells U.toArray 24)
  have hg2 := heap_new (w.alloc (.cells V.toArray 24)) (.cells U.toArray 24)
  rw [World.size_alloc] at hg2
  have hl1 := (Array.getElem?_eq_some_iff.1 hg1).1
  have hl2 := (Array.getElem?_eq_some_iff.1 hg2).1
  have hldU0 := rangeAt_list (cs := U) (by exact hg2)
  have hldV0 := rangeAt_list (cs := V) (by exact hg1)
  have hld := Lib.hid (fun W (h : Below ((w.alloc (.cells V.toArray 24)).alloc (.cells U.toArray 24)).heap.size ((w.alloc (.cells V.toArray 24)).alloc (.cells U.toArray 24)) W) => (⟨rangeAt_keep hldV0 h hl1, rangeAt_keep hldU0 h hl2⟩ : W.rangeAt w.heap.size 0 V ∧ W.rangeAt (w.heap.size + 1) 0 U))
  have hszV := pf_size H
  have hszU := pf_size K
  have hV8 := Lib.hid H.v8
  have hU8 := Lib.hid K.v8
  have hL8 := Lib.hid H.l8
  have hM8 := Lib.hid K.l8
  have aw := Lib.hid (fun W (h : Below w.heap.size w W) => awake17_any W (P.keep h))
  have cFV := fun W (h : Below w.heap.size w W) => few15_any V L W (H.keep h) hs
  have cFU := fun W (h : Below w.heap.size w W) => few15_any U M W (K.keep h) ht
  have cRc := Lib.hid (fun W (h : Below w.heap.size w W) => refChoose_any V U L M W (H.keep h) (K.keep h))
  have cCan := Lib.hid (fun W (h : Below w.heap.size w W) (hn : ∀ l ∈ L, l.length ≤ 1000000) (hm : ∀ l ∈ M, l.length ≤ 1000000) => can_any V U L M W (H.keep h) (K.keep h) hn hm)
  have cGu := fun W (h : Below w.heap.size w W) => guess_any V U L M W (H.keep h) (K.keep h)
  have cRg := fun W (h : Below w.heap.size w W) => refGuess_any V U L M W (H.keep h) (K.keep h)
  have GG := Lib.hid G
  have cCh := Lib.hid (fun W (h : Below w.heap.size w W) (hn : ∀ l ∈ L, l.length ≤ 1000000) (hm : ∀ l ∈ M, l.length ≤ 1000000) => choose_any V U L M W (H.keep h) (K.keep h) hn hm (P.keep h))
  have hsm := Lib.hid (fOut_small (M := M) hs 8)
  have hB2 := Lib.hid hb2
  have hlL := Lib.hid (@fewL_sizes L)
  have hlM := Lib.hid (@fewL_sizes M)
  have hz8 := ch_zero
  clear G H K hb1 hb2 hg1 hg2 hldU0 hldV0 hl1 hl2 P hs ht
  generalize guessB L M = gq at cGu cRg
  have cGu := Lib.hid cGu
  have cRg := Lib.hid cRg
  generalize fewP L = q1 at cFV hlL
  generalize fewP M = q2 at cFU hlM
  have cFV := Lib.hid cFV
  have cFU := Lib.hid cFU
  cases q1 with
  | false =>
    go_enter Tryd.func5, Tryd.ntmps5
    go_upto_region 1 with (refine wpList_box_row 24 _ rfl rfl (List.toArray _) rfl ?_; try simp only [World.size_alloc])
    generalize ((w.alloc (.cells V.toArray 24)).alloc (.cells U.toArray 24)) = w1 at hB2 hld ⊢
    obtain ⟨lV1, lU1⟩ := hld.out w1 (Below.refl _ _)
    go_wp2_with (first
      | (go_at_call 8; (with_reducible refine (cFV.out _ hB2.out).mono ?_); rintro r w2 ⟨rfl, hb2⟩; have hW2 := Lib.hid hb2; have hB3 := Lib.hid (hB2.out.trans (hb2.mono hB2.out.size)); obtain ⟨lV2, lU2⟩ := hld.out _ hb2; clear hb2)
      | (refine wpList_load_at 24 (.tmp 2) rfl (by rfl) w.heap.size 0 rfl V _ (by assumption) Tryd.underlying24 rfl hszV ?_)
      | (go_at_call 9; refine (aw.out _ hB3.out).mono ?_; rintro r w8 ⟨rfl, hb8⟩))
    go_ret
    exact ⟨rfl, hB3.out.trans (hb8.mono hB3.out.size)⟩
  | true =>
    cases q2 with
    | false =>
      go_enter Tryd.func5, Tryd.ntmps5
      go_upto_region 1 with (refine wpList_box_row 24 _ rfl rfl (List.toArray _) rfl ?_; try simp only [World.size_alloc])
      generalize ((w.alloc (.cells V.toArray 24)).alloc (.cells U.toArray 24)) = w1 at hB2 hld ⊢
      obtain ⟨lV1, lU1⟩ := hld.out w1 (Below.refl _ _)
      go_wp2_with (first
        | (go_at_call 8; (with_reducible refine (cFV.out _ hB2.out).mono ?_); rintro r w2 ⟨rfl, hb2⟩; have hW2 := Lib.hid hb2; have hB3 := Lib.hid (hB2.out.trans (hb2.mono hB2.out.size)); obtain ⟨lV2, lU2⟩ := hld.out _ hb2; clear hb2)
        | (go_at_call 8; (with_reducible refine (cFU.out _ hB3.out).mono ?_); rintro r w3 ⟨rfl, hb3⟩; have hB4 := Lib.hid (hB3.out.trans (hb3.mono hB3.out.size)); have hW3 := Lib.hid (hW2.out.trans (hb3.mono hW2.out.size)); obtain ⟨lV3, lU3⟩ := hld.out _ hW3.out; clear hb3)
        | (refine wpList_load_at 24 (.tmp 2) rfl (by rfl) w.heap.size 0 rfl V _ (by assumption) Tryd.underlying24 rfl hszV ?_)
        | (refine wpList_load_at 24 (.tmp 3) rfl (by rfl) (w.heap.size + 1) 0 rfl U _ (by assumption) Tryd.underlying24 rfl hszU ?_)
        | (go_at_call 9; refine (aw.out _ hB4.out).mono ?_; rintro r w8 ⟨rfl, hb8⟩))
      go_ret
      exact ⟨rfl, hB4.out.trans (hb8.mono hB4.out.size)⟩
    | true =>
      have hnL := Lib.hid (hlL.out rfl)
      have hnM := Lib.hid (hlM.out rfl)
      clear hlL hlM
      have hsmV := hsm
      by_cases hk8 : fK L M = 8
      case neg =>
        have hle := fK_le L M
        have cC := (fun W (h : Below w.heap.size w W) => Calls.mono (cCh.out W h hnL.out hnM.out) (fun r w' h => (show ∃ T u, r = .returned (.tuple #[.agg #[.string ⟨#[]⟩, .string ⟨#[]⟩, .string ⟨#[]⟩, .string ⟨#[]⟩, .string ⟨#[]⟩, .string ⟨#[]⟩, .string ⟨#[]⟩, .string ⟨#[]⟩], .iface T u]) ∧ isErr w' (some 10) [chooseS, wordAt (fK L M)] (.iface T u) ∧ Below W.heap.size W w' by unfold ChR at h; rw [if_neg hk8] at h; exact h)))
        have cR := (fun W (h : Below w.heap.size w W) => Calls.mono (cRc.out W h) (fun r w' h => (show r = .returned (.tuple #[.slice none 0 0, .int .i64 (fK L M)]) ∧ Below W.heap.size W w' by unfold RcR at h; obtain ⟨v, h1, _, h2, h3⟩ := h; rw [h2 hk8] at h1; exact ⟨h1, h3⟩)))
        have cCan := fun W (h : Below w.heap.size w W) => cCan.out W h hnL.out hnM.out
        have hW := fun T u W (hE : isErr W (some 10) [chooseS, wordAt (fK L M)] (.iface T u)) (h : Below w.heap.size w W) => wrong07_any 10 [chooseS, wordAt (fK L M)] (.iface T u) W (by simp) (spS17 (wordAt_small _)) hE (GG.out.keep h)
        simp only [spS_choose] at hW
        have cI := fun W => refWord_any ((fK L M : Nat) : Int) W
        have hsw := wordAt_small ((fK L M : Nat) : Int)
        have hq8 : fK L M < 8 := by omega
        generalize fK L M = q at cC cR cCan hW cI hsw hk8 hq8
        generalize wordAt ((q : Nat) : Int) = s at cC hW cI hsw
        have hne : ((q : Int) == 8) = false := beq_eq_false_iff_ne.2 (by omega)
        have i1 : (q : Int) < 8 := by omega
        have s12 : ((⟨#[99, 104, 111, 111, 115, 101, 32]⟩ : ByteArray) ++ s).size ≤ 13 := pre17 hsw
        simp only [hne] at cCan
        have cC := Lib.hid cC
        have cR := Lib.hid cR
        have cCan := Lib.hid cCan
        have hW := Lib.hid hW
        have cI := Lib.hid cI
        have heq := Lib.hid (fun W => (show (eqK (.agg #[.string ⟨#[]⟩, .string ⟨#[]⟩, .string ⟨#[]⟩, .string ⟨#[]⟩, .string ⟨#[]⟩, .string ⟨#[]⟩, .string ⟨#[]⟩, .string ⟨#[]⟩]) (.agg #[.string ⟨#[]⟩, .string ⟨#[]⟩, .string ⟨#[]⟩, .string ⟨#[]⟩, .string ⟨#[]⟩, .string ⟨#[]⟩, .string ⟨#[]⟩, .string ⟨#[]⟩])).run Tryd.prog W = .ok (.bool true) W from eql_ch (X := z8) (Y := z8) rfl (by decide) rfl (by decide) true ⟨fun _ => rfl, fun _ => rfl⟩ W))
        clear hk8 hle hq8 hsm hsmV
        go_enter Tryd.func5, Tryd.ntmps5
        go_upto_region 1 with (refine wpList_box_row 24 _ rfl rfl (List.toArray _) rfl ?_; try simp only [World.size_alloc])
        generalize ((w.alloc (.cells V.toArray 24)).alloc (.cells U.toArray 24)) = w1 at hB2 hld ⊢
        obtain ⟨lV1, lU1⟩ := hld.out w1 (Below.refl _ _)
        go_upto_region 5 with (first
          | (go_at_call 8; (with_reducible refine (cFV.out _ hB2.out).mono ?_); rintro r w2 ⟨rfl, hb2⟩; have hW2 := Lib.hid hb2; have hB3 := Lib.hid (hB2.out.trans (hb2.mono hB2.out.size)); obtain ⟨lV2, lU2⟩ := hld.out _ hb2; clear hb2)
          | (go_at_call 8; (with_reducible refine (cFU.out _ hB3.out).mono ?_); rintro r w3 ⟨rfl, hb3⟩; have hB4 := Lib.hid (hB3.out.trans (hb3.mono hB3.out.size)); have hW3 := Lib.hid (hW2.out.trans (hb3.mono hW2.out.size)); obtain ⟨lV3, lU3⟩ := hld.out _ hW3.out; clear hb3)
          | (refine wpList_load_at 24 (.tmp 2) rfl (by rfl) w.heap.size 0 rfl V _ (by assumption) Tryd.underlying24 rfl hszV ?_)
          | (refine wpList_load_at 24 (.tmp 3) rfl (by rfl) (w.heap.size + 1) 0 rfl U _ (by assumption) Tryd.underlying24 rfl hszU ?_)
          | (go_at_call 10; (with_reducible refine (cC.out _ hB4.out).mono ?_); rintro r w4 ⟨T4, u4, rfl, hE4, hb4⟩; have hn4 := heap_new w4 (.cells #[.string ⟨#[]⟩, .string ⟨#[]⟩, .string ⟨#[]⟩, .string ⟨#[]⟩, .string ⟨#[]⟩, .string ⟨#[]⟩, .string ⟨#[]⟩, .string ⟨#[]⟩] 28); have hN4 := below_got w4 (.cells #[.string ⟨#[]⟩, .string ⟨#[]⟩, .string ⟨#[]⟩, .string ⟨#[]⟩, .string ⟨#[]⟩, .string ⟨#[]⟩, .string ⟨#[]⟩, .string ⟨#[]⟩] 28); have hg4 := heap_new w4 (.cells #[.string ⟨#[]⟩, .string ⟨#[]⟩, .string ⟨#[]⟩, .string ⟨#[]⟩, .string ⟨#[]⟩, .string ⟨#[]⟩, .string ⟨#[]⟩, .string ⟨#[]⟩] 28); have hQ4 := Lib.hid (hb4.trans (hN4.mono hb4.size)); have hB5 := Lib.hid (hB4.out.trans (hQ4.out.mono hB4.out.size)); have hW5 := Lib.hid (hW3.out.trans (hQ4.out.mono hW3.out.size)); obtain ⟨lV5, lU5⟩ := hld.out _ hW5.out; have hlt4 := (Array.getElem?_eq_some_iff.1 hg4).1; have hr4 := rangeAt_list (cs := [.string ⟨#[]⟩, .string ⟨#[]⟩, .string ⟨#[]⟩, .string ⟨#[]⟩, .string ⟨#[]⟩, .string ⟨#[]⟩, .string ⟨#[]⟩, .string ⟨#[]⟩]) hg4; have hE5 := Lib.hid (hE4.keep (below_got w4 (.cells #[.string ⟨#[]⟩, .string ⟨#[]⟩, .string ⟨#[]⟩, .string ⟨#[]⟩, .string ⟨#[]⟩, .string ⟨#[]⟩, .string ⟨#[]⟩, .string ⟨#[]⟩] 28))); clear hE4; clear hb4 hN4 hg4)
          | (refine wpList_alloc_row 28 rfl rfl #[.string ⟨#[]⟩, .string ⟨#[]⟩, .string ⟨#[]⟩, .string ⟨#[]⟩, .string ⟨#[]⟩, .string ⟨#[]⟩, .string ⟨#[]⟩, .string ⟨#[]⟩] hz8 ?_)
          | (refine wpList_store_at 28 _ _ rfl rfl w4.heap.size #[.string ⟨#[]⟩, .string ⟨#[]⟩, .string ⟨#[]⟩, .string ⟨#[]⟩, .string ⟨#[]⟩, .string ⟨#[]⟩, .string ⟨#[]⟩, .string ⟨#[]⟩] rfl rfl 28 #[.string ⟨#[]⟩, .string ⟨#[]⟩, .string ⟨#[]⟩, .string ⟨#[]⟩, .string ⟨#[]⟩, .string ⟨#[]⟩, .string ⟨#[]⟩, .string ⟨#[]⟩] hn4 (by kernel_rfl) rfl (by simp [Value.oneCell']) ?_; rw [setRow_new])
          | (go_at_call 17; (with_reducible refine (cR.out _ hB5.out).mono ?_); rintro r w6 ⟨rfl, hb6⟩; have hB6 := Lib.hid (hB5.out.trans (hb6.mono hB5.out.size)); have hW6 := Lib.hid (hW5.out.trans (hb6.mono hW5.out.size)); have hr6 := rangeAt_keep hr4 hb6 hlt4; have hlt6 := Nat.lt_of_lt_of_le hlt4 hb6.size; have hE6 := Lib.hid (hE5.out.keep hb6); clear hb6))
        (try clear lV1 lU1); (try clear lV2 lU2); (try clear lV3 lU3); (try clear lV5 lU5)
        have hS := Lib.hid (fun W (h : Below w6.heap.size w6 W) => (⟨ldQ_run (hld.out W (hW6.out.trans (h.mono hW6.out.size))).1 hV8.out, ldQ_run (hld.out W (hW6.out.trans (h.mono hW6.out.size))).2 hU8.out⟩ :
          (ldQ ⟨w.heap.size, 0, none⟩).run Tryd.prog W = .ok (.agg V.toArray) W ∧ (ldQ ⟨w.heap.size + 1, 0, none⟩).run Tryd.prog W = .ok (.agg U.toArray) W))
        have hr6 := Lib.hid hr6
        have d0 := Lib.hid (show Below w6.heap.size w6 w6.drew from drewN_below 1)
        have cA := Lib.hid (fun W (h : Below w6.heap.size w6 W) => cCan.out W (hB6.out.trans (h.mono hB6.out.size)))
        have cB := Lib.hid (fun W (h : Below w6.heap.size w6 W) => cGu.out W (hB6.out.trans (h.mono hB6.out.size)))
        have cD := Lib.hid (fun W (h : Below w6.heap.size w6 W) => cRg.out W (hB6.out.trans (h.mono hB6.out.size)))
        go_region_held3 (fun W => (ldQ ⟨w.heap.size, 0, none⟩).run Tryd.prog W = .ok (.agg V.toArray) W ∧ (ldQ ⟨w.heap.size + 1, 0, none⟩).run Tryd.prog W = .ok (.agg U.toArray) W)
          (first | exact hS.out _ d0.out | exact hS.out _ d1.out | exact hS.out _ d2.out | exact hS.out _ d3.out)
          (first
            | (go_at_call 15; (with_reducible refine (cA.out _ d0.out).mono ?_); rintro r v1 ⟨rfl, hb⟩; have d1 := Lib.hid (d0.out.trans (hb.mono d0.out.size)); clear hb)
            | (go_at_call 16; (with_reducible refine (cB.out _ d1.out).mono ?_); rintro r v2 ⟨rfl, hb⟩; have d2 := Lib.hid (d1.out.trans (hb.mono d1.out.size)); clear hb)
            | (go_at_call 18; (with_reducible refine (cD.out _ d2.out).mono ?_); rintro r v3 ⟨rfl, hb⟩; have d3 := Lib.hid (d2.out.trans (hb.mono d2.out.size)); clear hb))
        have hB9 := Lib.hid (hB6.out.trans (d3.out.mono hB6.out.size))
        have hr9 := rangeAt_keep hr6.out d3.out hlt6
        have hlt9 := Nat.lt_of_lt_of_le hlt6 d3.out.size
        have hE9 := Lib.hid (hE6.out.keep d3.out)
        have hK := Lib.hid (fun W (h : Below v3.heap.size v3 W) => ldK_run (cs := [.string ⟨#[]⟩, .string ⟨#[]⟩, .string ⟨#[]⟩, .string ⟨#[]⟩, .string ⟨#[]⟩, .string ⟨#[]⟩, .string ⟨#[]⟩, .string ⟨#[]⟩]) (rangeAt_keep hr9 h hlt9) rfl)
        go_wp2_with (first
          | (go_at_call 9; (with_reducible refine (aw.out _ hB9.out).mono ?_); rintro r w10 ⟨rfl, hb⟩; have e1 := Lib.hid hb; have hE10 := Lib.hid (hE9.out.keep hb); have hB10 := Lib.hid (hB9.out.trans (hb.mono hB9.out.size)); clear hb)
          | (go_at_call 20; (with_reducible refine (cI.out _).mono ?_); rintro r w11 ⟨rfl, hb⟩; have e2 := Lib.hid (e1.out.trans (hb.mono e1.out.size)); have hE11 := Lib.hid (hE10.out.keep hb); have hB11 := Lib.hid (hB10.out.trans (hb.mono hB10.out.size)); clear hb)
          | (refine wpList_build_as 46 _ rfl rfl #[.int .i64 10, .string ((⟨#[99, 104, 111, 111, 115, 101, 32]⟩ : ByteArray) ++ s ++ sp17)] ?_ ?_; exact built17 _ _)
          | (go_at_call 19; (with_reducible refine (hW.out _ _ _ hE11.out hB11.out).mono ?_); rintro r w12 ⟨rfl, hb⟩; have hk12 := hK.out _ (e2.out.trans (hb.mono e2.out.size)); have hB12 := Lib.hid (hB11.out.trans (hb.mono hB11.out.size)); have hq12 := heq.out w12; clear hb)
          | (refine wpList_build_as 28 _ rfl rfl #[.string ⟨#[]⟩, .string ⟨#[]⟩, .string ⟨#[]⟩, .string ⟨#[]⟩, .string ⟨#[]⟩, .string ⟨#[]⟩, .string ⟨#[]⟩, .string ⟨#[]⟩] (by kernel_rfl) ?_))
        go_ret
        exact ⟨rfl, hB12.out⟩
      case pos =>
        obtain ⟨x0, x1, x2, x3, x4, x5, x6, x7, hx⟩ := list8 (fOut_len L M 8)
        have cC := Lib.hid (fun W (h : Below w.heap.size w W) => Calls.mono (cCh.out W h hnL.out hnM.out) (fun r w' h => (show r = .returned (.tuple #[.agg #[.string x0, .string x1, .string x2, .string x3, .string x4, .string x5, .string x6, .string x7], .nilIface]) ∧ Below W.heap.size W w' by unfold ChR at h; rw [if_pos hk8, hx] at h; exact h)))
        have cR := Lib.hid (fun W (h : Below w.heap.size w W) => Calls.mono (cRc.out W h) (fun r w' h => (show ∃ A c, r = .returned (.tuple #[.slice A 8 c, .int .i64 8]) ∧ Strs w' A 8 [x0, x1, x2, x3, x4, x5, x6, x7] ∧ Below W.heap.size W w' by
          unfold RcR at h
          obtain ⟨v, h1, h2, _, h3⟩ := h
          obtain ⟨A, c, rfl, hS⟩ := (h2 hk8).strs
          rw [hk8] at h1
          rw [hx] at h1 hS
          exact ⟨A, c, h1, hS, h3⟩)))
        have cCan := fun W (h : Below w.heap.size w W) => cCan.out W h hnL.out hnM.out
        rw [hk8] at cCan
        have cCan := Lib.hid (fun W h => (show Calls Tryd.prog 15 #[.agg V.toArray, .agg U.toArray] W fun r w' => r = .returned (.bool true) ∧ Below W.heap.size W w' from cCan W h))
        have heq := Lib.hid (fun W => (show (eqK (.agg #[.string x0, .string x1, .string x2, .string x3, .string x4, .string x5, .string x6, .string x7]) (.agg #[.string x0, .string x1, .string x2, .string x3, .string x4, .string x5, .string x6, .string x7])).run Tryd.prog W = .ok (.bool true) W from eql_ch (X := [x0, x1, x2, x3, x4, x5, x6, x7]) (Y := [x0, x1, x2, x3, x4, x5, x6, x7]) rfl (by have := hsm.out; rw [hx] at this; exact this) rfl (by have := hsm.out; rw [hx] at this; exact this) true ⟨fun _ => rfl, fun _ => rfl⟩ W))
        have cL := Lib.hid (fun W => Calls.mono (chLists_any x0 x1 x2 x3 x4 x5 x6 x7 W) (fun r w' h => (show ∃ g, r = .returned (.slice (some ⟨g, 0, none⟩) 8 8) ∧ Strs w' (some ⟨g, 0, none⟩) 8 [x0, x1, x2, x3, x4, x5, x6, x7] ∧ Below W.heap.size W w' from ⟨_, h.1, by rw [h.2]; exact chLists_strs x0 x1 x2 x3 x4 x5 x6 x7 W, by rw [h.2]; exact (below_got _ _).trans ((below_got _ _).mono (below_got _ _).size)⟩)))
        have cOf := Lib.hid (fun A c W (hS : Strs W A 8 [x0, x1, x2, x3, x4, x5, x6, x7]) => refOf_any x0 x1 x2 x3 x4 x5 x6 x7 A c W hS)
        have cSa := Lib.hid (fun W A c B d (h1 : Strs W A 8 [x0, x1, x2, x3, x4, x5, x6, x7]) (h2 : Strs W B 8 [x0, x1, x2, x3, x4, x5, x6, x7]) => same_X [x0, x1, x2, x3, x4, x5, x6, x7] A B 8 c 8 d W (by decide) (by decide) h1 h2)
        clear hk8 hx hsm hsmV
        go_enter Tryd.func5, Tryd.ntmps5
        go_upto_region 1 with (refine wpList_box_row 24 _ rfl rfl (List.toArray _) rfl ?_; try simp only [World.size_alloc])
        generalize ((w.alloc (.cells V.toArray 24)).alloc (.cells U.toArray 24)) = w1 at hB2 hld ⊢
        obtain ⟨lV1, lU1⟩ := hld.out w1 (Below.refl _ _)
        go_upto_region 5 with (first
          | (go_at_call 8; (with_reducible refine (cFV.out _ hB2.out).mono ?_); rintro r w2 ⟨rfl, hb2⟩; have hW2 := Lib.hid hb2; have hB3 := Lib.hid (hB2.out.trans (hb2.mono hB2.out.size)); obtain ⟨lV2, lU2⟩ := hld.out _ hb2; clear hb2)
          | (go_at_call 8; (with_reducible refine (cFU.out _ hB3.out).mono ?_); rintro r w3 ⟨rfl, hb3⟩; have hB4 := Lib.hid (hB3.out.trans (hb3.mono hB3.out.size)); have hW3 := Lib.hid (hW2.out.trans (hb3.mono hW2.out.size)); obtain ⟨lV3, lU3⟩ := hld.out _ hW3.out; clear hb3)
          | (refine wpList_load_at 24 (.tmp 2) rfl (by rfl) w.heap.size 0 rfl V _ (by assumption) Tryd.underlying24 rfl hszV ?_)
          | (refine wpList_load_at 24 (.tmp 3) rfl (by rfl) (w.heap.size + 1) 0 rfl U _ (by assumption) Tryd.underlying24 rfl hszU ?_)
          | (go_at_call 10; (with_reducible refine (cC.out _ hB4.out).mono ?_); rintro r w4 ⟨rfl, hb4⟩; have hn4 := heap_new w4 (.cells #[.string ⟨#[]⟩, .string ⟨#[]⟩, .string ⟨#[]⟩, .string ⟨#[]⟩, .string ⟨#[]⟩, .string ⟨#[]⟩, .string ⟨#[]⟩, .string ⟨#[]⟩] 28); have hN4 := below_got w4 (.cells #[.string x0, .string x1, .string x2, .string x3, .string x4, .string x5, .string x6, .string x7] 28); have hg4 := heap_new w4 (.cells #[.string x0, .string x1, .string x2, .string x3, .string x4, .string x5, .string x6, .string x7] 28); have hQ4 := Lib.hid (hb4.trans (hN4.mono hb4.size)); have hB5 := Lib.hid (hB4.out.trans (hQ4.out.mono hB4.out.size)); have hW5 := Lib.hid (hW3.out.trans (hQ4.out.mono hW3.out.size)); obtain ⟨lV5, lU5⟩ := hld.out _ hW5.out; have hlt4 := (Array.getElem?_eq_some_iff.1 hg4).1; have hr4 := rangeAt_list (cs := [.string x0, .string x1, .string x2, .string x3, .string x4, .string x5, .string x6, .string x7]) hg4; clear hb4 hN4 hg4)
          | (refine wpList_alloc_row 28 rfl rfl #[.string ⟨#[]⟩, .string ⟨#[]⟩, .string ⟨#[]⟩, .string ⟨#[]⟩, .string ⟨#[]⟩, .string ⟨#[]⟩, .string ⟨#[]⟩, .string ⟨#[]⟩] hz8 ?_)
          | (refine wpList_store_at 28 _ _ rfl rfl w4.heap.size #[.string x0, .string x1, .string x2, .string x3, .string x4, .string x5, .string x6, .string x7] rfl rfl 28 #[.string ⟨#[]⟩, .string ⟨#[]⟩, .string ⟨#[]⟩, .string ⟨#[]⟩, .string ⟨#[]⟩, .string ⟨#[]⟩, .string ⟨#[]⟩, .string ⟨#[]⟩] hn4 (by kernel_rfl) rfl (by simp [Value.oneCell']) ?_; rw [setRow_new])
          | (go_at_call 17; (with_reducible refine (cR.out _ hB5.out).mono ?_); rintro r w6 ⟨A6, c6, rfl, hS6, hb6⟩; have hB6 := Lib.hid (hB5.out.trans (hb6.mono hB5.out.size)); have hW6 := Lib.hid (hW5.out.trans (hb6.mono hW5.out.size)); have hr6 := rangeAt_keep hr4 hb6 hlt4; have hlt6 := Nat.lt_of_lt_of_le hlt4 hb6.size; have hS6 := Lib.hid hS6; clear hb6))
        (try clear lV1 lU1); (try clear lV2 lU2); (try clear lV3 lU3); (try clear lV5 lU5)
        have hS := Lib.hid (fun W (h : Below w6.heap.size w6 W) => (⟨ldQ_run (hld.out W (hW6.out.trans (h.mono hW6.out.size))).1 hV8.out, ldQ_run (hld.out W (hW6.out.trans (h.mono hW6.out.size))).2 hU8.out⟩ :
          (ldQ ⟨w.heap.size, 0, none⟩).run Tryd.prog W = .ok (.agg V.toArray) W ∧ (ldQ ⟨w.heap.size + 1, 0, none⟩).run Tryd.prog W = .ok (.agg U.toArray) W))
        have hr6 := Lib.hid hr6
        have d0 := Lib.hid (show Below w6.heap.size w6 w6.drew from drewN_below 1)
        have cA := Lib.hid (fun W (h : Below w6.heap.size w6 W) => cCan.out W (hB6.out.trans (h.mono hB6.out.size)))
        have cB := Lib.hid (fun W (h : Below w6.heap.size w6 W) => cGu.out W (hB6.out.trans (h.mono hB6.out.size)))
        have cD := Lib.hid (fun W (h : Below w6.heap.size w6 W) => cRg.out W (hB6.out.trans (h.mono hB6.out.size)))
        go_region_held3 (fun W => (ldQ ⟨w.heap.size, 0, none⟩).run Tryd.prog W = .ok (.agg V.toArray) W ∧ (ldQ ⟨w.heap.size + 1, 0, none⟩).run Tryd.prog W = .ok (.agg U.toArray) W)
          (first | exact hS.out _ d0.out | exact hS.out _ d1.out | exact hS.out _ d2.out | exact hS.out _ d3.out)
          (first
            | (go_at_call 15; (with_reducible refine (cA.out _ d0.out).mono ?_); rintro r v1 ⟨rfl, hb⟩; have d1 := Lib.hid (d0.out.trans (hb.mono d0.out.size)); clear hb)
            | (go_at_call 16; (with_reducible refine (cB.out _ d1.out).mono ?_); rintro r v2 ⟨rfl, hb⟩; have d2 := Lib.hid (d1.out.trans (hb.mono d1.out.size)); clear hb)
            | (go_at_call 18; (with_reducible refine (cD.out _ d2.out).mono ?_); rintro r v3 ⟨rfl, hb⟩; have d3 := Lib.hid (d2.out.trans (hb.mono d2.out.size)); clear hb))
        have hB9 := Lib.hid (hB6.out.trans (d3.out.mono hB6.out.size))
        have hr9 := rangeAt_keep hr6.out d3.out hlt6
        have hlt9 := Nat.lt_of_lt_of_le hlt6 d3.out.size
        have hS9 := Lib.hid (hS6.out.keep d3.out)
        have hK := Lib.hid (fun W (h : Below v3.heap.size v3 W) => ldK_run (cs := [.string x0, .string x1, .string x2, .string x3, .string x4, .string x5, .string x6, .string x7]) (rangeAt_keep hr9 h hlt9) rfl)
        go_wp2_with fail
        have f0 := Lib.hid (show Below v3.heap.size v3 v3.drew from drewN_below 1)
        have cAw := Lib.hid (fun W (h : Below v3.heap.size v3 W) => aw.out W (hB9.out.trans (h.mono hB9.out.size)))
        have cOg := Lib.hid (fun W (h : Below v3.heap.size v3 W) => cOf.out A6 c6 W (hS9.out.keep h))
        have cSb := Lib.hid (fun W g (h : Below v3.heap.size v3 W) (h1 : Strs W (some ⟨g, 0, none⟩) 8 [x0, x1, x2, x3, x4, x5, x6, x7]) => cSa.out W (some ⟨g, 0, none⟩) 8 A6 c6 h1 (hS9.out.keep h))
        have hQ := heq.out
        go_region_held3 (fun W => (ldK ⟨w4.heap.size, 0, none⟩).run Tryd.prog W = .ok (.agg #[.string x0, .string x1, .string x2, .string x3, .string x4, .string x5, .string x6, .string x7]) W)
          (first | exact hK.out _ f0.out | exact hK.out _ f1.out | exact hK.out _ f2.out | exact hK.out _ f3.out | exact hK.out _ f4.out)
          (first
            | (go_at_call 9; (with_reducible refine (cAw.out _ f0.out).mono ?_); rintro r y1 ⟨rfl, hb⟩; have f1 := Lib.hid (f0.out.trans (hb.mono f0.out.size)); clear hb)
            | (go_at_call 21; (with_reducible refine (cOg.out _ f1.out).mono ?_); rintro r y2 ⟨rfl, hb⟩; have f2 := Lib.hid (f1.out.trans (hb.mono f1.out.size)); clear hb)
            | (go_at_call 11; (with_reducible refine (cL.out _).mono ?_); rintro r y3 ⟨g3, rfl, hT3, hb⟩; have hT3 := Lib.hid hT3; have f3 := Lib.hid (f2.out.trans (hb.mono f2.out.size)); clear hb)
            | (go_at_call 22; (with_reducible refine (cSb.out _ _ f3.out hT3.out).mono ?_); rintro r y4 ⟨rfl, hb⟩; have f4 := Lib.hid (f3.out.trans (hb.mono f3.out.size)); clear hb))
        go_wp2_with fail
        go_ret
        exact ⟨rfl, hB9.out.trans (f4.out.mono hB9.out.size)⟩
end
end Go.Proofs.YtfoegpacjkcidaaDoor
