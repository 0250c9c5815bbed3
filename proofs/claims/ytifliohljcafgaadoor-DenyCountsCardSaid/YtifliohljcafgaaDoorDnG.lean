/- Deny: the example; few; a book as an argument. -/
import Derived.Test.YtifliohljcafgaaDoorDnF
import Derived.WideShapes
import Derived.Deep.DeepCutAuto
namespace Go.Proofs.YtifliohljcafgaaDoor
open Go.RowKit Go.ChangeShapes Go.WideShapes

theorem fail_nice (g : Nat) (A B : Option Addr) (n c m d : Nat) (l f f' : Int) (q : Bool) (w : World) (H : GateB w g A B n c m d l f) (h0 : 0 ≤ f) (h1 : f ≤ 1000000) (hlf : f < l) (hf : f + 1 = f') (hq : decide (l ≤ f') = q) :
    Calls Tryd.prog 10 #[.pointer (some ⟨g, 0, none⟩)] w fun r w' => r = .returned (.bool q) ∧ GateB w' g A B n c m d l f' ∧ ∀ w0 : World, Below w0.heap.size w0 w → w0.heap.size ≤ g → Below w0.heap.size w0 w' := by
  subst hf hq
  refine (fail_any g A B n c m d l f w H h0 h1 hlf).mono ?_
  rintro r w' ⟨rfl, q1, q2, rfl⟩
  exact ⟨rfl, fail_gate H q1 q2, fun w0 hb hg => fail_below hb hg _ q1 q2⟩
theorem denyE_awake : denyE [] [⟨#[115, 115, 104, 45, 97]⟩] 2 = 0 := by decide +kernel
set_option maxRecDepth 100000 in
set_option maxHeartbeats 2000000 in
theorem awake24_any (w : World) :
    Calls Tryd.prog 5 #[] w fun r w' => r = .returned (.bool true) ∧ Below w.heap.size w w' := by
  have hb1 := below_grow' w (.cells #[.string ⟨#[115, 115, 104, 45, 97]⟩] 9)
  have hS1 : Strs (w.alloc (.cells #[.string ⟨#[115, 115, 104, 45, 97]⟩] 9)) (some ⟨w.heap.size, 0, none⟩) 1 [⟨#[115, 115, 104, 45, 97]⟩] :=
    Strs.block (ss := [⟨#[115, 115, 104, 45, 97]⟩]) (by exact heap_new w _) (Array.getElem?_eq_some_iff.1 (heap_new w _)).1
  have cN := Lib.hid (Calls.mono (new_any [] [⟨#[115, 115, 104, 45, 97]⟩] 2 none (some ⟨w.heap.size, 0, none⟩) 0 0 1 1 _ (by decide) (by decide) (by decide) (by decide) (by decide) (by decide) Rws.nil_ (by simp) hS1 (by decide +kernel))
    (fun r w' h => (show ∃ g A n c B m d, r = .returned (.tuple #[.pointer (some ⟨g, 0, none⟩), .nilIface]) ∧ GateB w' g A B n c m d 2 0 ∧ _ ∧ _ ∧ _ ≤ g ∧ Below _ _ w' by unfold NewR at h; rwa [if_pos denyE_awake] at h)))
  have cF := Lib.hid (fun W g A B n c m d (h : GateB W g A B n c m d 2 0) => full_any g A B n c m d 2 0 W h)
  have cA := Lib.hid (fun W g A B n c m d (h : GateB W g A B n c m d 2 0) => fail_nice g A B n c m d 2 0 1 false W h (by decide) (by decide) (by decide) rfl (by decide))
  have cB := Lib.hid (fun W g A B n c m d (h : GateB W g A B n c m d 2 1) => fail_nice g A B n c m d 2 1 2 true W h (by decide) (by decide) (by decide) rfl (by decide))
  have cC := Lib.hid (fun W g A B n c m d (h : GateB W g A B n c m d 2 2) => failures_any g A B n c m d 2 2 W h)
  have hB1 := Lib.hid hb1
  clear hb1 hS1
  go_enter Tryd.func5, Tryd.ntmps5
  go_wp2_with (first
    | (go_at_call 6; refine cN.out.mono ?_; rintro r w3 ⟨g, A, n, c, B, m, d, rfl, hG3, _, _, hge, hb3⟩; have hge3 := Lib.hid (show w.heap.size ≤ g from Nat.le_trans hB1.out.size hge); have hG3 := Lib.hid hG3; have hB3 := Lib.hid (hB1.out.trans (hb3.mono hB1.out.size)); clear hb3 hge)
    | (go_at_call 13; (with_reducible refine (cF.out _ _ _ _ _ _ _ _ hG3.out).mono ?_); rintro r w4 ⟨rfl, q4, rfl⟩; have hG4 := Lib.hid (hG3.out.keep (drewN_below q4)); have hB4 := Lib.hid (hB3.out.trans (Below.mono (drewN_below q4) hB3.out.size)))
    | (go_at_call 10; (with_reducible refine (cB.out _ _ _ _ _ _ _ _ hG5.out).mono ?_); rintro r w6 ⟨rfl, hG6, hb6⟩; have hG6 := Lib.hid hG6; have hB6 := Lib.hid (hb6 _ hB5.out hge3.out); clear hb6)
    | (go_at_call 10; (with_reducible refine (cA.out _ _ _ _ _ _ _ _ hG4.out).mono ?_); rintro r w5 ⟨rfl, hG5, hb5⟩; have hG5 := Lib.hid hG5; have hB5 := Lib.hid (hb5 _ hB4.out hge3.out); clear hb5)
    | (go_at_call 12; (with_reducible refine (cC.out _ _ _ _ _ _ _ _ hG6.out).mono ?_); rintro r w7 ⟨rfl, rfl⟩))
  go_ret
  exact ⟨rfl, hB6.out⟩
def fewB24 (gs : List Gr) (ss : List ByteArray) : Bool := decide (gs.length ≤ 20) && decide (ss.length ≤ 20) && gs.all (fun x => decide (x.1.size ≤ 100)) && ss.all (fun s => decide (s.size ≤ 100))
theorem gr_miss {p : Gr → Bool} {gs : List Gr} {k : Nat} {x : Gr} (h : gs[k]? = some x) (hp : p x = false) : gs.all p = false := by
  rw [List.all_eq_false]
  exact ⟨x, List.mem_of_getElem? h, by rw [hp]; decide⟩
set_option maxRecDepth 100000 in
set_option maxHeartbeats 2000000 in
theorem few24_any (gs : List Gr) (ss : List ByteArray) (l : Int) (A B : Option Addr) (n c m d : Nat) (w : World) (hn : n ≤ 9223372036854775807) (hm : m ≤ 9223372036854775807) (H : Grs w A n gs) (hg : ∀ x ∈ gs, x.1.size ≤ 9223372036854775807) (K : Strs w B m ss) (hs : ∀ s ∈ ss, s.size ≤ 9223372036854775807) :
    Calls Tryd.prog 14 #[.agg #[.slice A n c, .slice B m d, .int .i64 l]] w fun r w' => r = .returned (.bool (fewB24 gs ss)) ∧ Below w.heap.size w w' := by
  have hb1 := below_grow' w (.cells #[.slice A n c, .slice B m d, .int .i64 l] 42)
  have hc := heap_new w (.cells #[.slice A n c, .slice B m d, .int .i64 l] 42)
  have c0 : (w.alloc (.cells #[.slice A n c, .slice B m d, .int .i64 l] 42)).cell? ⟨w.heap.size, 0, none⟩ = some (.slice A n c) := cell_of_row _ _ 0 _ _ _ hc
  have c1 : (w.alloc (.cells #[.slice A n c, .slice B m d, .int .i64 l] 42)).cell? ⟨w.heap.size, 1, none⟩ = some (.slice B m d) := cell_of_row _ _ 1 _ _ _ hc
  have hgl := H.len
  have hsl := K.len
  have hfl : fewB24 gs ss = (decide (gs.length ≤ 20) && decide (ss.length ≤ 20) && gs.all (fun x => decide (x.1.size ≤ 100)) && ss.all (fun s => decide (s.size ≤ 100))) := rfl
  have HG := Lib.hid (H.keep hb1)
  have KS := Lib.hid (K.keep hb1)
  have hG := Lib.hid hg
  have hS := Lib.hid hs
  have hB1 := Lib.hid hb1
  clear H K hg hs hb1 hc
  by_cases h1 : 20 < n
  · have hv := Lib.hid (show fewB24 gs ss = false by rw [hfl, decide_eq_false (by omega)]; rfl)
    clear hfl hgl hsl
    go_enter Tryd.func14, Tryd.ntmps14
    go_wp2
    go_ret
    exact ⟨ret_bool hv.out.symm, hB1.out⟩
  have h1' : n ≤ 20 := by omega
  by_cases h2 : 20 < m
  · have hv := Lib.hid (show fewB24 gs ss = false by rw [hfl, decide_eq_false (p := ss.length ≤ 20) (by omega), Bool.and_false]; rfl)
    clear hfl hgl hsl h1
    go_enter Tryd.func14, Tryd.ntmps14
    go_wp2
    go_ret
    exact ⟨ret_bool hv.out.symm, hB1.out⟩
  have h2' : m ≤ 20 := by omega
  rw [decide_eq_true (by omega), decide_eq_true (by omega)] at hfl
  have hFL := Lib.hid hfl
  have hGL := Lib.hid hgl
  have hSL := Lib.hid hsl
  clear h1 h2 hfl hgl hsl
  go_enter Tryd.func14, Tryd.ntmps14
  go_upto_region 1 with fail
  generalize w.alloc (.cells #[.slice A n c, .slice B m d, .int .i64 l] 42) = w1 at c0 c1 HG KS hB1 ⊢
  go_wp2
  go_loop [3] (fun i => ∃ k : Nat, k ≤ n ∧ i = .int .i64 k ∧ Hid ((gs.take k).all (fun x => decide (x.1.size ≤ 100)) = true)) (fun i => n - (intOf i).toNat)
  case atStart => exact ⟨0, by omega, rfl, by simp [Hid]⟩
  case round =>
    obtain ⟨k, hk, rfl, hf⟩ := hrel
    by_cases hlt : k < n
    · obtain ⟨b, off, ⟨u, x⟩, rfl, hb, he, d0, d1⟩ := HG.out.at_ hlt
      have hz := hG.out _ (List.mem_of_getElem? he)
      have hst := all_take_succ (fun x : Gr => decide (x.1.size ≤ 100)) he
      have hms := fun h => gr_miss (p := fun x : Gr => decide (x.1.size ≤ 100)) he h
      have i1 : (0 : Int) ≤ (k : Int) := by omega
      have i2 : (k : Int) < (n : Int) := by omega
      simp only at d0 d1 hz
      clear he hb
      by_cases h100 : u.size ≤ 100
      · have hn1 := Lib.hid (show (gs.take (k + 1)).all (fun x => decide (x.1.size ≤ 100)) = true by rw [hst, hf.out, decide_eq_true h100]; rfl)
        clear hst hms
        go_wp2
        go_round
        case rel => exact ⟨k + 1, by omega, by go_num, hn1⟩
        case measure => simp [intOf]; omega
      · have hv := Lib.hid (show fewB24 gs ss = false by rw [hFL.out, hms (decide_eq_false h100)]; rfl)
        have h100' : ¬ (u.size : Int) ≤ 100 := by omega
        clear hst hms
        go_wp2
        go_ret
        exact ⟨ret_bool hv.out.symm, hB1.out⟩
    · have ht : gs.take k = gs := List.take_of_length_le (by rw [hGL.out]; omega)
      have hfl2 := Lib.hid (show fewB24 gs ss = ss.all (fun s => decide (s.size ≤ 100)) by rw [hFL.out]; have := hf.out; rw [ht] at this; rw [this]; rfl)
      clear ht
      go_wp2
      go_loop [4] (fun i => ∃ j : Nat, j ≤ m ∧ i = .int .i64 j ∧ Hid ((ss.take j).all (fun s => decide (s.size ≤ 100)) = true)) (fun i => m - (intOf i).toNat)
      case atStart => exact ⟨0, by omega, rfl, by simp [Hid]⟩
      case round =>
        obtain ⟨j, hj, rfl, hf2⟩ := hrel
        by_cases hltj : j < m
        · obtain ⟨b2, off2, s, rfl, hb2, he, hr⟩ := KS.out.at_ hltj
          have hz := hS.out s (List.mem_of_getElem? he)
          have hst := all_take_succ (fun s : ByteArray => decide (s.size ≤ 100)) he
          have hms := fun h => strs_miss (p := fun s : ByteArray => decide (s.size ≤ 100)) he h
          have i1 : (0 : Int) ≤ (j : Int) := by omega
          have i2 : (j : Int) < (m : Int) := by omega
          clear he hb2
          by_cases h100 : s.size ≤ 100
          · have hn1 := Lib.hid (show (ss.take (j + 1)).all (fun s => decide (s.size ≤ 100)) = true by rw [hst, hf2.out, decide_eq_true h100]; rfl)
            clear hst hms
            go_wp2
            go_round
            case rel => exact ⟨j + 1, by omega, by go_num, hn1⟩
            case measure => simp [intOf]; omega
          · have hv := Lib.hid (show fewB24 gs ss = false by rw [hfl2.out]; exact hms (decide_eq_false h100))
            have h100' : ¬ (s.size : Int) ≤ 100 := by omega
            clear hst hms
            go_wp2
            go_ret
            exact ⟨ret_bool hv.out.symm, hB1.out⟩
        · have ht : ss.take j = ss := List.take_of_length_le (by rw [hSL.out]; omega)
          have hv := Lib.hid (show fewB24 gs ss = true by rw [hfl2.out]; have := hf2.out; rw [ht] at this; exact this)
          clear ht
          go_wp2
          go_ret
          exact ⟨ret_bool hv.out.symm, hB1.out⟩
end Go.Proofs.YtifliohljcafgaaDoor
