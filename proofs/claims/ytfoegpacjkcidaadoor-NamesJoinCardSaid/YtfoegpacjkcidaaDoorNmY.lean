/- The walks of NamesSplit and NamesJoin. -/
import Derived.Test.YtfoegpacjkcidaaDoorNmX
import Derived.Test.YtfoegpacjkcidaaDoorNmC
namespace Go.Proofs.YtfoegpacjkcidaaDoor
open Go.RowKit

theorem join_parts (s : ByteArray) : joinS (partsN s) = s := by
  apply ba_ext
  rw [joinS_list]
  have : (partsN s).map (·.data.toList) = cutL s.data.toList := by
    unfold partsN
    rw [List.map_map]
    conv => rhs; rw [← List.map_id (cutL s.data.toList)]
    exact List.map_congr_left fun x _ => bsOf_list x
  rw [this, join_cutL]
theorem join_want {s : ByteArray} (h : wantE s = 0) : joinV (wantL s) = .tuple #[.string s, .int .i64 0] := by
  by_cases h0 : s.size = 0
  · obtain rfl := empty_of h0
    rfl
  · unfold wantE at h
    rw [if_neg h0] at h
    unfold wantL
    rw [if_neg h0, if_pos h]
    unfold joinV
    rw [if_pos h, join_parts]
theorem name_comma {s : ByteArray} (h : nmOkB s = true) : (∀ b ∈ s.data.toList, b ≠ 44) ∧ 1 ≤ s.size := by
  unfold nmOkB at h
  simp only [Bool.and_eq_true, decide_eq_true_eq] at h
  refine ⟨fun b hb e => ?_, h.1.2⟩
  have h1 := List.all_eq_true.1 h.1.1 b (by rw [bsl]; exact hb)
  subst e
  unfold nameOk at h1
  simp at h1
theorem want_join {ss : List ByteArray} (h : checkN ss = 0) : wantE (joinS ss) = 0 ∧ wantL (joinS ss) = ss := by
  cases ss with
  | nil => exact ⟨rfl, rfl⟩
  | cons x r =>
    have hall := (check_all h).1
    have hp : partsN (joinS (x :: r)) = x :: r := by
      unfold partsN
      rw [joinS_list, cutL_join _ (by simp) (by
        intro p hp
        obtain ⟨y, hy, rfl⟩ := List.mem_map.1 hp
        exact (name_comma (List.all_eq_true.1 hall y hy)).1)]
      rw [List.map_map]
      conv => rhs; rw [← List.map_id (x :: r)]
      exact List.map_congr_left fun y _ => bsOf_data y
    have hne : (joinS (x :: r)).size ≠ 0 := by
      intro h0
      have e := empty_of h0
      rw [e] at hp
      have h2 : partsN ⟨#[]⟩ = [⟨#[]⟩] := rfl
      rw [h2] at hp
      injection hp with hp _
      have := (name_comma (List.all_eq_true.1 hall x (by simp))).2
      rw [← hp] at this
      exact absurd this (by decide)
    unfold wantE wantL
    rw [if_neg hne, if_neg hne, hp, h]
    exact ⟨rfl, rfl⟩
theorem wantL_size {s : ByteArray} : ∀ x ∈ wantL s, x.size ≤ s.size := by
  intro x hx
  unfold wantL at hx
  split at hx
  · cases hx
  · split at hx
    · exact parts_size x hx
    · cases hx
theorem same_eq (l : List ByteArray) (A B : Option Addr) (n c m d : Nat) (w : World) (hn : n ≤ 9223372036854775807) (hm : m ≤ 9223372036854775807) (H : Strs w A n l) (K : Strs w B m l) :
    Calls Tryd.prog 22 #[.slice A n c, .slice B m d] w fun r w' => r = .returned (.bool true) ∧ Below w.heap.size w w' := by
  have h := same_any l l A B n c m d w hn hm H K
  rw [decide_eq_true rfl] at h
  refine h.mono ?_
  rintro r w' ⟨rfl, q, rfl⟩
  exact ⟨rfl, drewN_below q⟩
set_option maxRecDepth 100000 in
set_option maxHeartbeats 4000000 in
theorem law_namesSplit (s : ByteArray) (w : World) (hs : s.size ≤ 9223372036854775807) (hM : ML w) :
    Calls Tryd.prog 6 #[.string s] w fun r w' => r = .returned (.bool true) ∧ Below w.heap.size w w' := by
  have aw := Lib.hid (fun W => awake04_any W)
  by_cases h600 : 600 < s.size
  · clear hM
    go_enter Tryd.func6, Tryd.ntmps6
    go_wp2_with (go_at_call 23; refine (aw.out _).mono ?_; rintro r w8 ⟨rfl, hb8⟩)
    go_ret
    exact ⟨rfl, hb8⟩
  have h6 : s.size ≤ 600 := by omega
  have cS := nmSplit_any s w (by omega) hM
  have cR := fun W => refSplit_any s W (by omega)
  have cA := fun W => right_any s W hs
  have cB := fun W => refRight04_any s W hs
  have hj := @join_want s
  have hlz := fun x hx => Nat.le_trans (wantL_size (s := s) x hx) hs
  have hu : ∀ w r w', SpR w s r w' ↔ ∃ A n c, r = .returned (.tuple #[.slice A n c, .int .i64 (wantE s)]) ∧ n ≤ c ∧ c ≤ 9223372036854775807 ∧ Strs w' A n (wantL s) ∧ Below w.heap.size w w' := fun _ _ _ => Iff.rfl
  have cS := Calls.mono cS (fun r w' h => (hu w r w').1 h)
  have cR := fun W => Calls.mono (cR W) (fun r w' h => (hu W r w').1 h)
  generalize nmOkB s = q at cA cB
  generalize wantE s = e at cS cR hj
  generalize wantL s = l at cS cR hj hlz
  have cS := Lib.hid cS
  have cR := Lib.hid cR
  have cA := Lib.hid cA
  have cB := Lib.hid cB
  have cD := Lib.hid (fun W A n c m B d (h1 : n ≤ 9223372036854775807) (h2 : m ≤ 9223372036854775807) (H : Strs W A n l) (K : Strs W B m l) => same_eq l A B n c m d W h1 h2 H K)
  have cJ := Lib.hid (fun W A n c (h1 : n ≤ c) (h2 : c ≤ 9223372036854775807) (H : Strs W A n l) => nmJoin_any l A n c W h1 h2 H hlz)
  clear hM hs h600 hlz hu
  by_cases he : e = 0
  · have hj2 := hj he
    subst he
    have cJ := cJ.out
    rw [hj2] at cJ
    have cJ := Lib.hid cJ
    clear hj hj2
    go_enter Tryd.func6, Tryd.ntmps6
    go_wp2_with (first
      | (go_at_call 24; (with_reducible refine cS.out.mono ?_); rintro r w2 ⟨A2, n2, c2, rfl, p2, q2, hS2, hb2⟩; have hB2 := Lib.hid hb2; have hS2 := Lib.hid hS2; clear hb2)
      | (go_at_call 25; (with_reducible refine (cR.out _).mono ?_); rintro r w3 ⟨A3, n3, c3, rfl, p3, q3, hS3, hb3⟩; have hS2 := Lib.hid (hS2.out.keep hb3); have hS3 := Lib.hid hS3; have hB3 := Lib.hid (hB2.out.trans (hb3.mono hB2.out.size)); clear hb3)
      | (go_at_call 22; (with_reducible refine (cD.out _ _ _ _ _ _ _ (by omega) (by omega) hS2.out hS3.out).mono ?_); rintro r w4 ⟨rfl, hb4⟩; have hS4 := Lib.hid (hS2.out.keep hb4); have hB4 := Lib.hid (hB3.out.trans (hb4.mono hB3.out.size)); clear hb4)
      | (go_at_call 26; (with_reducible refine (cA.out _).mono ?_); rintro r w5 ⟨rfl, rfl⟩)
      | (go_at_call 27; (with_reducible refine (cB.out _).mono ?_); rintro r w5 ⟨rfl, rfl⟩)
      | (go_at_call 28; (with_reducible refine (cJ.out _ _ _ _ p2 q2 hS4.out).mono ?_); rintro r w6 ⟨rfl, hb6⟩; have hB6 := Lib.hid (hB4.out.trans (hb6.mono hB4.out.size)); clear hb6)
      | (go_at_call 23; (with_reducible refine (aw.out _).mono ?_); rintro r w8 ⟨rfl, hb8⟩))
    go_ret
    exact ⟨rfl, hB6.out.trans (hb8.mono hB6.out.size)⟩
  · have hne : (e != 0) = true := by unfold bne; rw [beq_eq_false_iff_ne.2 he]; rfl
    clear hj he cJ
    go_enter Tryd.func6, Tryd.ntmps6
    go_wp2_with (first
      | (go_at_call 24; (with_reducible refine cS.out.mono ?_); rintro r w2 ⟨A2, n2, c2, rfl, p2, q2, hS2, hb2⟩; have hB2 := Lib.hid hb2; have hS2 := Lib.hid hS2; clear hb2)
      | (go_at_call 25; (with_reducible refine (cR.out _).mono ?_); rintro r w3 ⟨A3, n3, c3, rfl, p3, q3, hS3, hb3⟩; have hS2 := Lib.hid (hS2.out.keep hb3); have hS3 := Lib.hid hS3; have hB3 := Lib.hid (hB2.out.trans (hb3.mono hB2.out.size)); clear hb3)
      | (go_at_call 22; (with_reducible refine (cD.out _ _ _ _ _ _ _ (by omega) (by omega) hS2.out hS3.out).mono ?_); rintro r w4 ⟨rfl, hb4⟩; have hB4 := Lib.hid (hB3.out.trans (hb4.mono hB3.out.size)); clear hb4)
      | (go_at_call 26; (with_reducible refine (cA.out _).mono ?_); rintro r w5 ⟨rfl, rfl⟩)
      | (go_at_call 27; (with_reducible refine (cB.out _).mono ?_); rintro r w5 ⟨rfl, rfl⟩)
      | (go_at_call 23; (with_reducible refine (aw.out _).mono ?_); rintro r w8 ⟨rfl, hb8⟩))
    go_ret
    exact ⟨rfl, hB4.out.trans (hb8.mono hB4.out.size)⟩
set_option maxRecDepth 100000 in
set_option maxHeartbeats 4000000 in
theorem law_namesJoin (ss : List ByteArray) (A : Option Addr) (n c : Nat) (w : World) (hc : n ≤ c) (hn : c ≤ 9223372036854775807) (H : Strs w A n ss) (hs : ∀ s ∈ ss, s.size ≤ 9223372036854775807) (hM : ML w) :
    Calls Tryd.prog 7 #[.slice A n c] w fun r w' => r = .returned (.bool true) ∧ Below w.heap.size w w' := by
  have aw := Lib.hid (fun W => awake04_any W)
  have cF := few_any ss A n c 20 w (by omega) H hs
  have cJ := nmJoin_any ss A n c w hc hn H hs
  have cW := fun W (h : Below w.heap.size w W) => refWrong04_any ss A n c W (by omega) (H.keep h) hs
  have cT := Lib.hid (fun W (h : Below w.heap.size w W) (h0 : checkN ss = 0) => refJoin04_any ss A n c W (by omega) (H.keep h) h0)
  have hK := Lib.hid (fun W (h : Below w.heap.size w W) => H.keep h)
  have hML := Lib.hid (fun W (h : Below w.heap.size w W) => hM.keep h)
  generalize fewB ss 20 = q at cF
  have cF := Lib.hid cF
  cases q with
  | false =>
    clear H hs hM cJ cW
    go_enter Tryd.func7, Tryd.ntmps7
    go_wp2_with (first
      | (go_at_call 29; (with_reducible refine cF.out.mono ?_); rintro r w2 ⟨rfl, rfl⟩)
      | (go_at_call 23; (with_reducible refine (aw.out _).mono ?_); rintro r w8 ⟨rfl, hb8⟩))
    go_ret
    exact ⟨rfl, hb8⟩
  | true =>
    by_cases h0 : checkN ss = 0
    · have hjv : joinV ss = .tuple #[.string (joinS ss), .int .i64 0] := by unfold joinV; rw [if_pos h0]
      obtain ⟨w1, w2⟩ := want_join h0
      have hsm := joinS_small h0
      have cS := fun W (h : Below w.heap.size w W) => nmSplit_any (joinS ss) W (by omega) (hML.out W h)
      have hu : ∀ w r w', SpR w (joinS ss) r w' → ∃ A n c, r = .returned (.tuple #[.slice A n c, .int .i64 0]) ∧ n ≤ c ∧ c ≤ 9223372036854775807 ∧ Strs w' A n ss ∧ Below w.heap.size w w' := fun _ _ _ h => by
        unfold SpR at h; rwa [w1, w2] at h
      have cS := fun W (h : Below w.heap.size w W) => Calls.mono (cS W h) (fun r w' h => hu W r w' h)
      have cT := fun W (h : Below w.heap.size w W) => cT.out W h h0
      rw [hjv] at cJ
      simp only [h0] at cW
      generalize joinS ss = s at cJ cS cT hsm
      have cD := Lib.hid (fun W A' n' c' B m d (h1 : n' ≤ 9223372036854775807) (h2 : m ≤ 9223372036854775807) (H : Strs W A' n' ss) (K : Strs W B m ss) => same_eq ss A' B n' c' m d W h1 h2 H K)
      have cJ := Lib.hid cJ
      have cW := Lib.hid cW
      have cS := Lib.hid cS
      have cT := Lib.hid cT
      clear H hs hM hjv w1 w2 h0 hu
      go_enter Tryd.func7, Tryd.ntmps7
      go_wp2_with (first
        | (go_at_call 29; (with_reducible refine cF.out.mono ?_); rintro r w2 ⟨rfl, rfl⟩)
        | (go_at_call 28; (with_reducible refine cJ.out.mono ?_); rintro r w3 ⟨rfl, hb3⟩; have hB3 := Lib.hid hb3; clear hb3)
        | (go_at_call 30; (with_reducible refine (cW.out _ hB3.out).mono ?_); rintro r w4 ⟨rfl, rfl⟩)
        | (go_at_call 24; (with_reducible refine (cS.out _ hB3.out).mono ?_); rintro r w5 ⟨A5, n5, c5, rfl, p5, q5, hS5, hb5⟩; have hS5 := Lib.hid hS5; have hB5 := Lib.hid (hB3.out.trans (hb5.mono hB3.out.size)); clear hb5)
        | (go_at_call 23; (with_reducible refine (aw.out _).mono ?_); rintro r w6 ⟨rfl, hb6⟩; have hS6 := Lib.hid (hS5.out.keep hb6); have hB6 := Lib.hid (hB5.out.trans (hb6.mono hB5.out.size)); clear hb6)
        | (go_at_call 31; (with_reducible refine (cT.out _ hB6.out).mono ?_); rintro r w7 ⟨rfl, rfl⟩)
        | (go_at_call 22; (with_reducible refine (cD.out _ _ _ _ _ _ _ (by omega) (by omega) hS6.out (hK.out _ hB6.out)).mono ?_); rintro r w8 ⟨rfl, hb8⟩; have hB8 := Lib.hid (hB6.out.trans (hb8.mono hB6.out.size)); clear hb8))
      go_ret
      exact ⟨rfl, hB8.out⟩
    · have hjv : joinV ss = .tuple #[.string ⟨#[]⟩, .int .i64 (checkN ss)] := by unfold joinV; rw [if_neg h0]
      rw [hjv] at cJ
      have hne : (checkN ss != 0) = true := by unfold bne; rw [beq_eq_false_iff_ne.2 h0]; rfl
      generalize checkN ss = e at cJ cW hne
      have cJ := Lib.hid cJ
      have cW := Lib.hid cW
      clear H hs hM hjv h0 cT
      go_enter Tryd.func7, Tryd.ntmps7
      go_wp2_with (first
        | (go_at_call 29; (with_reducible refine cF.out.mono ?_); rintro r w2 ⟨rfl, rfl⟩)
        | (go_at_call 28; (with_reducible refine cJ.out.mono ?_); rintro r w3 ⟨rfl, hb3⟩; have hB3 := Lib.hid hb3; clear hb3)
        | (go_at_call 30; (with_reducible refine (cW.out _ hB3.out).mono ?_); rintro r w4 ⟨rfl, rfl⟩)
        | (go_at_call 23; (with_reducible refine (aw.out _).mono ?_); rintro r w6 ⟨rfl, hb6⟩; have hB6 := Lib.hid (hB3.out.trans (hb6.mono hB3.out.size)); clear hb6))
      go_ret
      exact ⟨rfl, hB6.out⟩
end Go.Proofs.YtfoegpacjkcidaaDoor
