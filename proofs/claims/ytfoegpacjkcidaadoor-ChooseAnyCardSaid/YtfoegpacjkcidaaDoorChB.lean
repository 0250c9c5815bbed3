/- Choose: the first names that both have. -/
import Derived.Test.YtfoegpacjkcidaaDoorChA
import Derived.Test.YtfoegpacjkcidaaDoorNmA
import Derived.Deep.RegionHeld3
import Derived.Deep.QuietTactic
import Derived.BigQuiet
namespace Go.Proofs.YtfoegpacjkcidaaDoor
open Go.RowKit

def fO (L M : List (List ByteArray)) (i : Nat) : Option ByteArray := (L.getD i []).find? (has (M.getD i []))
def fN (L M : List (List ByteArray)) (i : Nat) : ByteArray := (fO L M i).getD ⟨#[]⟩
/-- The first list without a name in common, from i on. -/
def fGo (L M : List (List ByteArray)) : Nat → Nat → Nat
  | 0, i => i
  | n + 1, i => if (fO L M i).isSome then fGo L M n (i + 1) else i
def fK (L M : List (List ByteArray)) : Nat := fGo L M 8 0
def fOut (L M : List (List ByteArray)) (k : Nat) : List ByteArray := (List.range 8).map fun i => if i < k then fN L M i else ⟨#[]⟩
theorem fGo_step (L M : List (List ByteArray)) {k : Nat} (hk : k < 8) : fGo L M (8 - k) k = if (fO L M k).isSome then fGo L M (8 - (k + 1)) (k + 1) else k := by
  obtain ⟨m, hm⟩ : ∃ m, 8 - k = m + 1 := ⟨7 - k, by omega⟩
  have : 8 - (k + 1) = m := by omega
  rw [hm, this]
  rfl
theorem fOut_len (L M : List (List ByteArray)) (k : Nat) : (fOut L M k).length = 8 := by unfold fOut; simp
theorem fOut_get (L M : List (List ByteArray)) (k : Nat) {i : Nat} (hi : i < 8) : (fOut L M k)[i]? = some (if i < k then fN L M i else ⟨#[]⟩) := by
  unfold fOut; rw [List.getElem?_map, List.getElem?_range hi]; rfl
theorem fOut_set (L M : List (List ByteArray)) {k : Nat} (hk : k < 8) : (fOut L M k).set k (fN L M k) = fOut L M (k + 1) := by
  refine List.ext_getElem? fun i => ?_
  by_cases hi : i < 8
  · rw [List.getElem?_set, fOut_get _ _ _ hi, fOut_get _ _ _ hi, fOut_len]
    by_cases e : k = i
    · subst e; simp [hk]
    · rw [if_neg e]
      by_cases h2 : i < k
      · simp [h2, show i < k + 1 by omega]
      · simp [h2, show ¬ i < k + 1 by omega]
  · rw [List.getElem?_eq_none (by rw [List.length_set, fOut_len]; omega), List.getElem?_eq_none (by rw [fOut_len]; omega)]
theorem fOut_zero (L M : List (List ByteArray)) : fOut L M 0 = List.replicate 8 ⟨#[]⟩ := by
  unfold fOut; simp; rfl
/-- Block g is these eight strings. -/
def SB (w : World) (g : Nat) (X : List ByteArray) : Prop := w.heap[g]? = some (.cells (X.map Value.string).toArray 59 (0, 0))
theorem SB.lt {w : World} {g : Nat} {X : List ByteArray} (h : SB w g X) : g < w.heap.size := (Array.getElem?_eq_some_iff.1 h).1
theorem SB.cell {w : World} {g : Nat} {X : List ByteArray} (h : SB w g X) {i : Nat} {x : ByteArray} (hx : X[i]? = some x) : w.cell? ⟨g, i, none⟩ = some (.string x) ∧ w.frozen? ⟨g, i, none⟩ = false := by
  refine ⟨?_, frozen_of_row w g i _ _ h⟩
  rw [cell_of_row w g i _ _ _ h, List.getElem?_toArray, List.getElem?_map, hx]; rfl
theorem SB.put {w : World} {g : Nat} {X : List ByteArray} (h : SB w g X) (i : Nat) (x : ByteArray) : SB (w.setCell ⟨g, i, none⟩ (.string x)) g (X.set i x) := by
  unfold SB
  rw [heap_setCell_same w g i _ _ _ h]
  congr 2
  simp
theorem SB.far {w : World} {g o : Nat} {X : List ByteArray} (h : SB w g X) (ho : g ≠ o) (i : Nat) (v : Value) : SB (w.setCell ⟨o, i, none⟩ v) g X := (Below.heap_setCell w ⟨o, i, none⟩ v g ho).trans h
theorem SB.keep {w w' : World} {g : Nat} {X : List ByteArray} (h : SB w g X) (hb : Below w.heap.size w w') : SB w' g X := (hb.block g h.lt).trans h
theorem SB.range {w : World} {g : Nat} {X : List ByteArray} (h : SB w g X) : w.rangeAt g 0 (X.map Value.string) := rangeAt_list h
def z8 : List ByteArray := List.replicate 8 ⟨#[]⟩
theorem s8_zero : (Tryd.prog.info? 59).bind (·.zero) = some (.agg (z8.map Value.string).toArray) := by kernel_rfl
theorem s8_size (X : List ByteArray) (h : X.length = 8) : (Tryd.prog.info? 59).map (·.size) = some (X.map Value.string).length := by rw [List.length_map, h]; kernel_rfl
theorem s8_one (X : List ByteArray) : ((X.map Value.string).toArray).all (·.oneCell') = true := by
  rw [List.all_toArray, List.all_eq_true]
  intro v hv
  obtain ⟨x, _, rfl⟩ := List.mem_map.1 hv
  rfl
theorem firstV_some {l m : List ByteArray} {s : ByteArray} (h : l.find? (has m) = some s) : firstV l m = .tuple #[.string s, .bool true] := by unfold firstV; rw [h]
theorem firstV_none {l m : List ByteArray} (h : l.find? (has m) = none) : firstV l m = .tuple #[.string ⟨#[]⟩, .bool false] := by unfold firstV; rw [h]; rfl
noncomputable def ldQ (a : Addr) : Sem Value := loadVar 24 a
theorem ldQ_eq (a : Addr) : loadVar 24 a = ldQ a := rfl
theorem ldQ_run {W : World} {g : Nat} {V : List Value} (hc : W.rangeAt g 0 V) (h8 : V.length = 8) : (ldQ ⟨g, 0, none⟩).run Tryd.prog W = .ok (.agg V.toArray) W :=
  run_loadVar_mid W g 0 24 V _ hc Tryd.underlying24 rfl (by rw [h8]; kernel_rfl)
/-- What the rounds keep. -/
structure FsK (w W : World) (g3 g5 : Nat) (U3 U5 : List Value) (L M : List (List ByteArray)) (k : Nat) : Prop where
  o : SB W (w.heap.size + 3) (fOut L M k)
  z : SB W (w.heap.size + 2) z8
  b : Below w.heap.size w W
  v3 : Vls W (some ⟨g3, 0, none⟩) 8 U3
  v5 : Vls W (some ⟨g5, 0, none⟩) 8 U5
  p3 : PfX W (w.heap.size + 4) U3 L
  p5 : PfX W (w.heap.size + 4) U5 M
theorem FsK.drew {w W : World} {g3 g5 : Nat} {U3 U5 : List Value} {L M : List (List ByteArray)} {k : Nat} (h : FsK w W g3 g5 U3 U5 L M k) (q : Nat) : FsK w (W.drewN q) g3 g5 U3 U5 L M k :=
  ⟨h.o.keep (drewN_below q), h.z.keep (drewN_below q), h.b.trans (Below.mono (drewN_below q) h.b.size), h.v3.keep (drewN_below q), h.v5.keep (drewN_below q), h.p3.keep (drewN_below q), h.p5.keep (drewN_below q)⟩
theorem FsK.put {w W : World} {g3 g5 : Nat} {U3 U5 : List Value} {L M : List (List ByteArray)} {k : Nat} (h : FsK w W g3 g5 U3 U5 L M k) (hk : k < 8) (h3 : w.heap.size + 4 ≤ g3) (h5 : w.heap.size + 4 ≤ g5) :
    FsK w (W.setCell ⟨w.heap.size + 3, k, none⟩ (.string (fN L M k))) g3 g5 U3 U5 L M (k + 1) :=
  ⟨by rw [← fOut_set L M hk]; exact h.o.put k _, h.z.far (by omega) k _, h.b.setCell (by show w.heap.size ≤ w.heap.size + 3; omega) _, h.v3.put (by omega) k _, h.v5.put (by omega) k _, h.p3.put (by omega) k _, h.p5.put (by omega) k _⟩
section
attribute [local go_sem ↓] ldQ_eq
set_option maxRecDepth 100000 in
set_option maxHeartbeats 8000000 in
theorem firsts_any (V U : List Value) (L M : List (List ByteArray)) (w : World) (H : Pf w V L) (K : Pf w U M) (hn : ∀ l ∈ L, l.length ≤ 1000000) (hm : ∀ l ∈ M, l.length ≤ 1000000) :
    Calls Tryd.prog 33 #[.agg V.toArray, .agg U.toArray] w fun r w' => r = .returned (.tuple #[.agg ((fOut L M (fK L M)).map Value.string).toArray, .int .i64 (fK L M)]) ∧ Below w.heap.size w w' := by
  have hb1 := below_got w (.cells V.toArray 24)
  have hb2 := hb1.alloc hb1.size (.cells U.toArray 24)
  have hb3 := hb2.alloc hb2.size (.cells (z8.map Value.string).toArray 59)
  have hb4 := hb3.alloc hb3.size (.cells (z8.map Value.string).toArray 59)
  have hg1 := heap_past (heap_past (heap_past (heap_new w (.cells V.toArray 24)) (.cells U.toArray 24)) (.cells (z8.map Value.string).toArray 59)) (.cells (z8.map Value.string).toArray 59)
  have hg2 := heap_past (heap_past (heap_new (w.alloc (.cells V.toArray 24)) (.cells U.toArray 24)) (.cells (z8.map Value.string).toArray 59)) (.cells (z8.map Value.string).toArray 59)
  have hg3 := heap_past (heap_new ((w.alloc (.cells V.toArray 24)).alloc (.cells U.toArray 24)) (.cells (z8.map Value.string).toArray 59)) (.cells (z8.map Value.string).toArray 59)
  have hg4 := heap_new (((w.alloc (.cells V.toArray 24)).alloc (.cells U.toArray 24)).alloc (.cells (z8.map Value.string).toArray 59)) (.cells (z8.map Value.string).toArray 59)
  simp only [World.size_alloc] at hg2 hg3 hg4
  have hz : ((((w.alloc (.cells V.toArray 24)).alloc (.cells U.toArray 24)).alloc (.cells (z8.map Value.string).toArray 59)).alloc (.cells (z8.map Value.string).toArray 59)).heap.size = w.heap.size + 4 := by simp
  have hB4 := hb4
  clear hb1 hb2 hb3 hb4
  have hz8 := s8_zero
  have hL8 := Lib.hid H.l8
  have hM8 := Lib.hid K.l8
  go_enter Tryd.func33, Tryd.ntmps33
  go_upto_region 2 with (first
    | (refine wpList_box_row 24 _ rfl rfl (List.toArray _) rfl ?_; try simp only [World.size_alloc])
    | (refine wpList_alloc_row 59 rfl rfl (z8.map Value.string).toArray hz8 ?_; try simp only [World.size_alloc]))
  generalize ((((w.alloc (.cells V.toArray 24)).alloc (.cells U.toArray 24)).alloc (.cells (z8.map Value.string).toArray 59)).alloc (.cells (z8.map Value.string).toArray 59)) = w1 at hg1 hg2 hg3 hg4 hz hB4 ⊢
  have hl1 := (Array.getElem?_eq_some_iff.1 hg1).1
  have hl2 := (Array.getElem?_eq_some_iff.1 hg2).1
  have hldV := rangeAt_list (cs := V) (by exact hg1)
  have hldU := rangeAt_list (cs := U) (by exact hg2)
  have hS := Lib.hid (fun W (h : Below w1.heap.size w1 W) => (⟨ldQ_run (rangeAt_keep hldV h hl1) H.v8, ldQ_run (rangeAt_keep hldU h hl2) K.v8⟩ :
    (ldQ ⟨w.heap.size, 0, none⟩).run Tryd.prog W = .ok (.agg V.toArray) W ∧ (ldQ ⟨w.heap.size + 1, 0, none⟩).run Tryd.prog W = .ok (.agg U.toArray) W))
  have cU := Lib.hid (fun W (h : Below w1.heap.size w1 W) => listsF_any U M W (K.keep (hB4.trans (h.mono hB4.size))) hm)
  have cV := Lib.hid (fun W (h : Below w1.heap.size w1 W) => listsF_any V L W (H.keep (hB4.trans (h.mono hB4.size))) hn)
  have h3 := Lib.hid (show SB w1 (w.heap.size + 2) z8 from hg3)
  have h4 := Lib.hid (show SB w1 (w.heap.size + 3) (fOut L M 0) from by rw [fOut_zero]; exact hg4)
  have hB1 := Lib.hid hB4
  have hZ := Lib.hid hz
  clear H K hn hm hg1 hg2 hg3 hg4 hz hB4 hldV hldU hl1 hl2 hz8
  have hB0 := Lib.hid (show Below w1.heap.size w1 w1.drew from drewN_below 1)
  go_region_held3 (fun W => (ldQ ⟨w.heap.size, 0, none⟩).run Tryd.prog W = .ok (.agg V.toArray) W ∧ (ldQ ⟨w.heap.size + 1, 0, none⟩).run Tryd.prog W = .ok (.agg U.toArray) W)
    (first | exact hS.out _ hB0.out | exact hS.out _ hB3.out | exact hS.out _ hB5.out)
    (first
      | (go_at_call 52; (with_reducible refine (cV.out _ hB0.out).mono ?_); rintro r w3 ⟨g3, U3, rfl, hU3, hP3, hge3, hb3⟩; have hG3 := Lib.hid (show w.heap.size + 4 ≤ g3 by have := hZ.out; have := hB0.out.size; omega); have hU3 := Lib.hid hU3; have hP3 := Lib.hid (hP3.mono (show w.heap.size + 4 ≤ _ by have := hZ.out; have := hB0.out.size; omega)); have hB3 := Lib.hid (hB0.out.trans (hb3.mono hB0.out.size)); clear hb3 hge3)
      | (go_at_call 52; (with_reducible refine (cU.out _ hB3.out).mono ?_); rintro r w5 ⟨g5, U5, rfl, hU5, hP5, hge5, hb5⟩; have hG5 := Lib.hid (show w.heap.size + 4 ≤ g5 by have := hZ.out; have := hB3.out.size; omega); have hU5 := Lib.hid hU5; have hP5 := Lib.hid (hP5.mono (show w.heap.size + 4 ≤ _ by have := hZ.out; have := hB3.out.size; omega)); have hU3 := Lib.hid (hU3.out.keep hb5); have hP3 := Lib.hid (hP3.out.keep hb5); have hB5 := Lib.hid (hB3.out.trans (hb5.mono hB3.out.size)); clear hb5 hge5))
  have hK0 := Lib.hid (show FsK w w5 g3 g5 U3 U5 L M 0 from ⟨h4.out.keep hB5.out, h3.out.keep hB5.out, hB1.out.trans (hB5.out.mono hB1.out.size), hU3.out, hU5.out, hP3.out, hP5.out⟩)
  go_wp2_with fail
  go_loopw [9, 10, 11, 16] (fun _ _ _ i wr => ∃ k : Nat, k ≤ 8 ∧ i = .int .i64 k ∧ Hid (fGo L M (8 - k) k = fK L M) ∧ Hid (FsK w wr g3 g5 U3 U5 L M k)) (fun _ _ _ i _ => 8 - (intOf i).toNat)
  case atStart => exact ⟨0, by omega, rfl, rfl, hK0⟩
  case round =>
    obtain ⟨k, hk, rfl, hf, hK⟩ := hrel
    have hone := s8_one (fOut L M k)
    have hsz := s8_size (fOut L M k) (fOut_len L M k)
    have hld := hK.out.o.range
    have hzz := hK.out.z
    unfold SB at hzz
    by_cases hlt : k < 8
    · obtain ⟨b, off, v, e, hb, hv, hc⟩ := hK.out.v3.at_ hlt
      injection e with e
      injection e with e1 e2
      subst e1; subst e2
      obtain ⟨A, n, c, l, hv2, hl, hnc, hcm, hSt⟩ := hK.out.p3.pf.get hlt
      obtain rfl : v = .slice A n c := by rw [hv] at hv2; injection hv2
      obtain ⟨b', off', v', e, hb', hv', hc'⟩ := hK.out.v5.at_ hlt
      injection e with e
      injection e with e1 e2
      subst e1; subst e2
      obtain ⟨A', n', c', l', hv2', hl', hnc', hcm', hSt'⟩ := hK.out.p5.pf.get hlt
      obtain rfl : v' = .slice A' n' c' := by rw [hv'] at hv2'; injection hv2'
      have cF := fun q => nmFirst_any l l' A A' n c n' c' (wr.drewN q) (by omega) (by omega) (hSt.keep (drewN_below q)) (hSt'.keep (drewN_below q))
      have hst := fGo_step L M hlt
      have hfo : fO L M k = l.find? (has l') := by unfold fO; rw [List.getD_eq_getElem?_getD, List.getD_eq_getElem?_getD, hl, hl']; rfl
      have hoc := hK.out.o.cell (fOut_get L M k hlt)
      rw [if_neg (Nat.lt_irrefl k)] at hoc
      obtain ⟨oc, of⟩ := hoc
      have hnext := Lib.hid (hK.out.put hlt hG3.out hG5.out)
      have hnextd := Lib.hid (fun q => (hK.out.drew q).put hlt hG3.out hG5.out)
      have hdr := Lib.hid (fun q => hK.out.drew q)
      rw [Nat.zero_add] at hc hc'
      have i1 : (0 : Int) ≤ (k : Int) := by omega
      have i2 : (k : Int) < 8 := by omega
      rw [hf.out, hfo] at hst
      clear hv hv2 hl hb hSt hv' hv2' hl' hb' hSt'
      cases hq : l.find? (has l') with
      | some s =>
        rw [hq] at hst hfo
        simp only [firstV_some hq] at cF
        have cF := Lib.hid cF
        have hfn : fN L M k = s := by unfold fN; rw [hfo]; rfl
        have hst := Lib.hid (show fGo L M (8 - (k + 1)) (k + 1) = fK L M from hst.symm)
        have hnx := hnextd.out
        rw [hfn] at hnx
        have hnx := Lib.hid hnx
        clear hq hfo hfn hld hzz hone hsz
        go_wp2_with fail
        go_quiet ((go_at_call 43; exact Calls.quiet_of_same ((cF.out _).mono (fun e w' h => ⟨h.1, h.2.symm⟩))))
        go_wp2_with fail
        go_roundw
        case rel => exact ⟨k + 1, by omega, by go_num, hst, hnx.out _⟩
        case measure => simp [intOf]; omega
      | none =>
        rw [hq] at hst hfo
        simp only [firstV_none hq] at cF
        have cF := Lib.hid cF
        have hst := Lib.hid (show fK L M = k from hst)
        have hldq := Lib.hid (fun q => (hK.out.drew q).o.range)
        have hzq := Lib.hid (fun q => (hK.out.drew q).z)
        clear hq hfo hld hzz oc of
        go_wp2_with fail
        go_quiet ((go_at_call 43; exact Calls.quiet_of_same ((cF.out _).mono (fun e w' h => ⟨h.1, h.2.symm⟩))))
        have hldN := fun q => hldq.out q
        go_wp2_with (first
          | (refine wpList_load_at 59 _ rfl rfl (w.heap.size + 3) 0 rfl ((fOut L M k).map Value.string) _ (hldq.out _) Tryd.underlying59 rfl hsz ?_)
          | (refine wpList_store_at 59 _ _ rfl rfl (w.heap.size + 2) ((fOut L M k).map Value.string).toArray rfl rfl 59 (z8.map Value.string).toArray (hzq.out _) (by rw [List.size_toArray]; exact hsz) (by simp [fOut_len, z8]) hone ?_))
        refine bodyPost_ret (results_two rfl _ _ (w.heap.size + 2) 59 ((fOut L M k).map Value.string).toArray (0, 0) _ _ rfl (heap_setRow_new _ _ _ _ _ _ (hzq.out _)) Tryd.underlying59 rfl (by rw [List.size_toArray]; exact hsz) rfl) rfl ⟨(by rw [hst.out]; first | done | rfl), below_row (hdr.out _).b (by omega) _⟩
    · have hk8 : k = 8 := by omega
      subst hk8
      have hst := Lib.hid (show fK L M = 8 from hf.out.symm)
      have hBb := Lib.hid hK.out.b
      go_wp2_with (first
        | (refine wpList_load_at 59 _ rfl rfl (w.heap.size + 3) 0 rfl ((fOut L M 8).map Value.string) _ hld Tryd.underlying59 rfl hsz ?_)
        | (refine wpList_store_at 59 _ _ rfl rfl (w.heap.size + 2) ((fOut L M 8).map Value.string).toArray rfl rfl 59 (z8.map Value.string).toArray hzz (by rw [List.size_toArray]; exact hsz) (by simp [fOut_len, z8]) hone ?_))
      refine bodyPost_ret (results_two rfl _ _ (w.heap.size + 2) 59 ((fOut L M 8).map Value.string).toArray (0, 0) _ _ rfl (heap_setRow_new _ _ _ _ _ _ hzz) Tryd.underlying59 rfl (by rw [List.size_toArray]; exact hsz) rfl) rfl ⟨by rw [hst.out]; rfl, below_row hBb.out (by omega) _⟩
end
end Go.Proofs.YtfoegpacjkcidaaDoor
