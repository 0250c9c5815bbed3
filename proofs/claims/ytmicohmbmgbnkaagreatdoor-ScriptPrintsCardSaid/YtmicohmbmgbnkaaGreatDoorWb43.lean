/- Prefs: Few. -/
import Derived.Test.YtmicohmbmgbnkaaGreatDoorWb38
namespace Go.Proofs.YtmicohmbmgbnkaaGreatDoor
open Go.RowKit

def fewL (l : List ByteArray) : Bool := decide (l.length ≤ 20) && l.all (fun s => decide (s.size ≤ 100))
def fewP (L : List (List ByteArray)) : Bool := L.all fewL
theorem list_miss {α : Type} {p : α → Bool} {l : List α} {k : Nat} {x : α} (h : l[k]? = some x) (hp : p x = false) : l.all p = false := by
  rw [List.all_eq_false]
  exact ⟨x, List.mem_of_getElem? h, by rw [hp]; decide⟩
set_option maxRecDepth 100000 in
set_option maxHeartbeats 4000000 in
theorem few15_any (V : List Value) (L : List (List ByteArray)) (w : World) (H : Pf w V L) (hs : ∀ l ∈ L, ∀ s ∈ l, s.size ≤ 9223372036854775807) :
    Calls Tryz.prog 56 #[.agg V.toArray] w fun r w' => r = .returned (.bool (fewP L)) ∧ Below w.heap.size w w' := by
  have hb1 := below_got w (.cells V.toArray 35)
  have hg := heap_new w (.cells V.toArray 35)
  have hld := rangeAt_list (cs := V) (by exact hg)
  have hsz : (Tryz.prog.info? 35).map (·.size) = some V.length := by rw [H.v8]; kernel_rfl
  have cL := refLists_any V L (w.alloc (.cells V.toArray 35)) (H.keep hb1)
  have hB1 := Lib.hid hb1
  have hL8 := Lib.hid H.l8
  have hS := Lib.hid hs
  clear H hs hg
  go_enter Tryz.func56, Tryz.ntmps56
  go_upto_region 1 with (refine wpList_box_row 35 _ rfl rfl V.toArray rfl ?_)
  generalize w.alloc (.cells V.toArray 35) = w1 at cL hB1 hld ⊢
  have cL := Lib.hid cL
  go_wp2_with (first
    | (refine wpList_load_at 35 (.tmp 1) rfl rfl w.heap.size 0 rfl V _ hld Tryz.underlying35 rfl hsz ?_)
    | (go_at_call 88; refine cL.out.mono ?_; rintro r w5 ⟨g, U, rfl, hU, hP, _, hb5⟩; have hB5 := Lib.hid (hB1.out.trans (hb5.mono hB1.out.size)); have hU := Lib.hid hU; have hP := Lib.hid hP; clear hb5))
  go_loop [4, 5] (fun i _ => ∃ k : Nat, k ≤ 8 ∧ i = .int .i64 k ∧ Hid ((L.take k).all fewL = true)) (fun i _ => 8 - (intOf i).toNat)
  case atStart => exact ⟨0, by omega, rfl, by simp [Hid]⟩
  case round =>
    obtain ⟨k, hk, rfl, hf⟩ := hrel
    by_cases hlt : k < 8
    · obtain ⟨b, off, v, e, hb, hv, hc⟩ := hU.out.at_ hlt
      injection e with e
      injection e with e1 e2
      subst e1; subst e2
      obtain ⟨A, n, c, l, hv2, hl, hnc, hcm, hSt⟩ := hP.out.get hlt
      obtain rfl : v = .slice A n c := by rw [hv] at hv2; injection hv2
      have hst := all_take_succ fewL hl
      have hms := fun h => list_miss (p := fewL) hl h
      have hzs := Lib.hid (hS.out l (List.mem_of_getElem? hl))
      have hn := hSt.len
      have hfl : fewL l = (decide (l.length ≤ 20) && l.all (fun s => decide (s.size ≤ 100))) := rfl
      rw [Nat.zero_add] at hc
      have hSt := Lib.hid hSt
      have i1 : (0 : Int) ≤ (k : Int) := by omega
      have i2 : (k : Int) < 8 := by omega
      clear hv hv2 hl hb
      by_cases h20 : 20 < n
      · have hv := Lib.hid (show fewP L = false from hms (by rw [hfl, decide_eq_false (by omega)]; rfl))
        clear hst hms hfl hn
        go_wp2
        go_ret
        exact ⟨ret_bool hv.out.symm, hB5.out⟩
      · have h20' : n ≤ 20 := by omega
        have hfl2 := Lib.hid (show fewL l = l.all (fun s => decide (s.size ≤ 100)) by rw [hfl, decide_eq_true (by omega)]; rfl)
        have hN := Lib.hid hn
        have hST := Lib.hid hst
        have hMS := Lib.hid hms
        clear hst hms hfl hn h20
        go_wp2
        go_loop [5] (fun i => ∃ j : Nat, j ≤ n ∧ i = .int .i64 j ∧ Hid ((l.take j).all (fun s => decide (s.size ≤ 100)) = true)) (fun i => n - (intOf i).toNat)
        case atStart => exact ⟨0, by omega, rfl, by simp [Hid]⟩
        case round =>
          obtain ⟨j, hj, rfl, hf2⟩ := hrel
          by_cases hltj : j < n
          · obtain ⟨b2, off2, s, rfl, hb2, he, hr⟩ := hSt.out.at_ hltj
            have hz := hzs.out s (List.mem_of_getElem? he)
            have hst2 := all_take_succ (fun s : ByteArray => decide (s.size ≤ 100)) he
            have hms2 := fun h => list_miss (p := fun s : ByteArray => decide (s.size ≤ 100)) he h
            have j1 : (0 : Int) ≤ (j : Int) := by omega
            have j2 : (j : Int) < (n : Int) := by omega
            clear he hb2
            by_cases h100 : s.size ≤ 100
            · have hn1 := Lib.hid (show (l.take (j + 1)).all (fun s => decide (s.size ≤ 100)) = true by rw [hst2, hf2.out, decide_eq_true h100]; rfl)
              clear hst2 hms2
              go_wp2
              go_round
              case rel => exact ⟨j + 1, by omega, by go_num, hn1⟩
              case measure => simp [intOf]; omega
            · have hv := Lib.hid (show fewP L = false from hMS.out (by rw [hfl2.out]; exact hms2 (decide_eq_false h100)))
              have h100' : ¬ (s.size : Int) ≤ 100 := by omega
              clear hst2 hms2
              go_wp2
              go_ret
              exact ⟨ret_bool hv.out.symm, hB5.out⟩
          · have ht : l.take j = l := List.take_of_length_le (by rw [hN.out]; omega)
            have hn1 := Lib.hid (show (L.take (k + 1)).all fewL = true by rw [hST.out, hf.out, hfl2.out]; have := hf2.out; rw [ht] at this; rw [this]; rfl)
            clear ht
            go_wp2
            go_round
            case rel => exact ⟨k + 1, by omega, by go_num, hn1⟩
            case measure => simp [intOf]; omega
    · have ht : L.take k = L := List.take_of_length_le (by rw [hL8.out]; omega)
      have hv := Lib.hid (show fewP L = true by have := hf.out; rw [ht] at this; exact this)
      clear ht
      go_wp2
      go_ret
      exact ⟨ret_bool hv.out.symm, hB5.out⟩
end Go.Proofs.YtmicohmbmgbnkaaGreatDoor
