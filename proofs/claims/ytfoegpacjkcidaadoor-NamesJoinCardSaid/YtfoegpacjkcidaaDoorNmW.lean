/- Names: Split, and the reference's Wrong, Join, parts, Split. -/
import Derived.Test.YtfoegpacjkcidaaDoorNmS
import Derived.Test.YtfoegpacjkcidaaDoorNmV
import Derived.Test.YtfoegpacjkcidaaDoorNmB
namespace Go.Proofs.YtfoegpacjkcidaaDoor
open Go.RowKit

/-- The library's variable is laid as some integer. -/
def ML (w : World) : Prop := (∃ m, w.cell? ⟨3, 0, none⟩ = some (.int .i64 m)) ∧ 3 < w.heap.size
theorem ML.keep {w w' : World} (h : ML w) (hb : Below w.heap.size w w') : ML w' := by
  obtain ⟨⟨m, hm⟩, hl⟩ := h
  exact ⟨⟨m, (hb.cell (p := ⟨3, 0, none⟩) hl).trans hm⟩, Nat.lt_of_lt_of_le hl hb.size⟩
theorem below_nm (w : World) (o : Obj) : Below w.heap.size w (w.alloc o) := (Below.refl _ _).alloc (Nat.le_refl _) o
set_option maxHeartbeats 1000000 in
theorem refWrong04_any (ss : List ByteArray) (A : Option Addr) (n c : Nat) (w : World) (hn : n ≤ 9223372036854775807) (H : Strs w A n ss) (hs : ∀ s ∈ ss, s.size ≤ 9223372036854775807) :
    Calls Tryd.prog 30 #[.slice A n c] w fun r w' => r = .returned (.int .i64 (checkN ss)) ∧ w = w' := by
  have hlen := H.len
  by_cases h16 : 16 < n
  · have hv := Lib.hid (show checkN ss = 2 by unfold checkN; rw [if_pos (by omega)])
    clear H hs hlen
    go_enter Tryd.func30, Tryd.ntmps30
    go_wp2
    go_ret
    exact ⟨ret_int hv.out.symm, rfl⟩
  · have hv0 := Lib.hid (show checkN ss = if ss.all nmOkB then 0 else 3 by unfold checkN; rw [if_neg (by omega)])
    have hS := Lib.hid hs
    have hL := Lib.hid hlen
    clear hs hlen
    have h16' : n ≤ 16 := by omega
    go_enter Tryd.func30, Tryd.ntmps30
    go_wp2
    go_loop [3] (fun i => ∃ k : Nat, k ≤ n ∧ i = .int .i64 k ∧ Hid ((ss.take k).all nmOkB = true)) (fun i => n - (intOf i).toNat)
    case atStart => exact ⟨0, by omega, rfl, by simp [Hid]⟩
    case round =>
      obtain ⟨k, hk, rfl, hf⟩ := hrel
      by_cases hlt : k < n
      · obtain ⟨b, off, s, rfl, hb, he, hr⟩ := H.at_ hlt
        have cR := refRight04_any s
        have hz := hS.out s (List.mem_of_getElem? he)
        have hst := all_take_succ nmOkB he
        have hms := fun h => strs_miss (p := nmOkB) he h
        generalize nmOkB s = q at cR hst hms
        have cR := Lib.hid (fun W => cR W hz)
        have i1 : (0 : Int) ≤ (k : Int) := by omega
        have i2 : (k : Int) < (n : Int) := by omega
        clear he
        cases q with
        | true =>
          have hst := Lib.hid (show (ss.take (k + 1)).all nmOkB = true by rw [hst, hf.out]; rfl)
          clear hms
          go_wp2_with (go_at_call 27; refine (cR.out _).mono ?_; rintro r w4 ⟨rfl, rfl⟩)
          go_round
          case rel => exact ⟨k + 1, by omega, by go_num, hst⟩
          case measure => simp [intOf]; omega
        | false =>
          have hv := Lib.hid (show checkN ss = 3 by rw [hv0.out, hms rfl]; rfl)
          clear hst hms
          go_wp2_with (go_at_call 27; refine (cR.out _).mono ?_; rintro r w4 ⟨rfl, rfl⟩)
          go_ret
          exact ⟨ret_int hv.out.symm, rfl⟩
      · have ht : ss.take k = ss := List.take_of_length_le (by rw [hL.out]; omega)
        have hv := Lib.hid (show checkN ss = 0 by rw [hv0.out]; have := hf.out; rw [ht] at this; rw [this]; rfl)
        clear ht
        go_wp2
        go_ret
        exact ⟨ret_int hv.out.symm, rfl⟩
theorem joinS_list (ss : List ByteArray) : (joinS ss).data.toList = Lib.join (ss.map (·.data.toList)) [44] := rfl
theorem joinS_nil : joinS [] = ⟨#[]⟩ := rfl
theorem ba_ext {x y : ByteArray} (h : x.data.toList = y.data.toList) : x = y := by
  cases x; cases y
  simp only [ByteArray.mk.injEq]
  exact Array.toList_inj.1 h
theorem joinS_one (x : ByteArray) : joinS [x] = ⟨#[]⟩ ++ x := by
  apply ba_ext
  rw [joinS_list]
  simp [Lib.join_one]
theorem joinS_succ (ss : List ByteArray) (x : ByteArray) (h : ss ≠ []) : joinS (ss ++ [x]) = joinS ss ++ ⟨#[44]⟩ ++ x := by
  apply ba_ext
  cases ss with
  | nil => exact absurd rfl h
  | cons y t =>
    rw [joinS_list]
    simp only [List.cons_append, List.map_cons, List.map_append, List.map_nil, Lib.join_cons]
    simp only [ByteArray.data_append, Array.toList_append, joinS_list, List.map_cons, Lib.join_cons]
    simp [Lib.joinTail]
theorem check_take {ss : List ByteArray} (h : checkN ss = 0) (k : Nat) : checkN (ss.take k) = 0 := by
  unfold checkN at h ⊢
  by_cases h1 : 16 < ss.length
  · rw [if_pos h1] at h; omega
  · rw [if_neg h1] at h
    have h2 : ss.all nmOkB = true := by
      cases hq : ss.all nmOkB with
      | true => rfl
      | false => rw [hq] at h; simp at h
    have h3 : (ss.take k).all nmOkB = true := by
      rw [List.all_eq_true] at h2 ⊢
      exact fun x hx => h2 x (List.mem_of_mem_take hx)
    rw [if_neg (by rw [List.length_take]; omega), h3]; rfl
theorem check_all {ss : List ByteArray} (h : checkN ss = 0) : ss.all nmOkB = true ∧ ss.length ≤ 16 := by
  unfold checkN at h
  by_cases h1 : 16 < ss.length
  · rw [if_pos h1] at h; omega
  · rw [if_neg h1] at h
    refine ⟨?_, by omega⟩
    cases hq : ss.all nmOkB with
    | true => rfl
    | false => rw [hq] at h; simp at h
theorem joinS_small {ss : List ByteArray} (h : checkN ss = 0) : (joinS ss).size ≤ 2000 := by
  have := join_bound h
  have e : (joinS ss).size = (Lib.join (ss.map (·.data.toList)) [44]).length := by
    rw [← joinS_list]; exact Array.length_toList.symm
  omega
set_option maxHeartbeats 1000000 in
theorem refJoin04_any (ss : List ByteArray) (A : Option Addr) (n c : Nat) (w : World) (hn : n ≤ 9223372036854775807) (H : Strs w A n ss) (hc : checkN ss = 0) :
    Calls Tryd.prog 31 #[.slice A n c] w fun r w' => r = .returned (.string (joinS ss)) ∧ w = w' := by
  have hL := Lib.hid H.len
  have hC := Lib.hid hc
  have hall := Lib.hid (check_all hc).1
  clear hc
  go_enter Tryd.func31, Tryd.ntmps31
  go_wp2
  go_loop [3, 4] (fun s i => ∃ k : Nat, k ≤ n ∧ i = .int .i64 k ∧ s = .string (joinS (ss.take k))) (fun _ i => n - (intOf i).toNat)
  case atStart => exact ⟨0, by omega, rfl, by rw [List.take_zero, joinS_nil]⟩
  case round =>
    obtain ⟨k, hk, rfl, rfl⟩ := hrel
    by_cases hlt : k < n
    · obtain ⟨b, off, x, rfl, hb, he, hr⟩ := H.at_ hlt
      have hx64 : x.size ≤ 64 := right_size (List.all_eq_true.1 hall.out x (List.mem_of_getElem? he))
      have hsm := joinS_small (check_take hC.out k)
      have hts := take_succ_of he
      have i1 : (0 : Int) ≤ (k : Int) := by omega
      have i2 : (k : Int) < (n : Int) := by omega
      by_cases h0 : k = 0
      · subst h0
        have hnx := Lib.hid (show joinS (ss.take (0 + 1)) = ⟨#[]⟩ ++ x by rw [hts, List.take_zero, List.nil_append, joinS_one])
        rw [List.take_zero, joinS_nil]
        rw [Nat.add_zero] at hr
        clear he hts hsm
        go_wp2
        go_round
        case rel => exact ⟨0 + 1, by omega, by go_num, by rw [hnx.out]⟩
        case measure => simp [intOf]; omega
      · have hne : ss.take k ≠ [] := by
          intro e
          have h1 := congrArg List.length e
          rw [List.length_take, hL.out] at h1
          simp only [List.length_nil] at h1
          omega
        have hnx := Lib.hid (show joinS (ss.take (k + 1)) = joinS (ss.take k) ++ ⟨#[44]⟩ ++ x by rw [hts, joinS_succ _ _ hne])
        have h0' : (0 : Int) < (k : Int) := by omega
        generalize joinS (ss.take k) = a at hsm hnx ⊢
        have h44 : (⟨#[44]⟩ : ByteArray).size = 1 := by decide
        have ha : (a ++ (⟨#[44]⟩ : ByteArray)).size ≤ 2001 := by rw [ByteArray.size_append]; omega
        clear h44
        clear he hts hne h0
        go_wp2
        go_round
        case rel => exact ⟨k + 1, by omega, by go_num, by rw [hnx.out]⟩
        case measure => simp [intOf]; omega
    · have ht : ss.take k = ss := List.take_of_length_le (by rw [hL.out]; omega)
      rw [ht]
      clear ht
      go_wp2
      go_ret
      exact ⟨rfl, rfl⟩
/-- The names of a text, and what is wrong. -/
def wantL (s : ByteArray) : List ByteArray := if s.size = 0 then [] else if checkN (partsN s) = 0 then partsN s else []
def wantE (s : ByteArray) : Int := if s.size = 0 then 0 else checkN (partsN s)
def SpR (w : World) (s : ByteArray) (r : Ending) (w' : World) : Prop := ∃ A n c, r = .returned (.tuple #[.slice A n c, .int .i64 (wantE s)]) ∧ n ≤ c ∧ c ≤ 9223372036854775807 ∧ Strs w' A n (wantL s) ∧ Below w.heap.size w w'
theorem parts_size {s : ByteArray} : ∀ x ∈ partsN s, x.size ≤ s.size := by
  have key : ∀ l : List UInt8, ∀ p ∈ cutL l, p.length ≤ l.length := by
    intro l
    induction l with
    | nil => intro p hp; simp [cutL] at hp; subst hp; simp
    | cons b r ih =>
      intro p hp
      by_cases hb : b = 44
      · subst hb
        rw [cutL_eq] at hp
        rcases List.mem_cons.1 hp with rfl | hp
        · simp
        · have := ih p hp; simp only [List.length_cons]; omega
      · cases hq : cutL r with
        | nil => exact absurd hq (cutL_ne r)
        | cons q qs =>
          rw [cutL_cons hb hq] at hp
          rcases List.mem_cons.1 hp with rfl | hp
          · have := ih q (by rw [hq]; simp); simp only [List.length_cons]; omega
          · have := ih p (by rw [hq]; simp [hp]); simp only [List.length_cons]; omega
  intro x hx
  obtain ⟨p, hp, rfl⟩ := List.mem_map.1 hx
  have h1 := key _ p hp
  have e1 : (bsOf p).size = p.length := List.size_toArray
  have e2 : s.data.toList.length = s.size := Array.length_toList
  omega
theorem empty_of {s : ByteArray} (h : s.size = 0) : s = ⟨#[]⟩ := by
  apply ba_ext
  have : s.data.toList.length = 0 := by rw [Array.length_toList]; exact h
  exact List.eq_nil_of_length_eq_zero this
set_option maxHeartbeats 1000000 in
theorem nmSplit_any (s : ByteArray) (w : World) (hs : s.size ≤ 1000000) (hM : ML w) :
    Calls Tryd.prog 24 #[.string s] w (SpR w s) := by
  by_cases h0 : s.size = 0
  · obtain rfl := empty_of h0
    clear hM
    go_enter Tryd.func24, Tryd.ntmps24
    go_wp2
    go_ret2
    exact ⟨none, 0, 0, rfl, by decide, by decide, Strs.nil_, Below.refl _ _⟩
  · have he0 : (s.toList == []) = false := by
      rw [beq_eq_false_iff_ne]
      intro e
      have h1 := congrArg List.length e
      rw [bsl_len] at h1
      exact h0 h1
    have he2 : s.toList.isEmpty = false := by
      cases hq2 : s.toList with
      | nil => rw [hq2] at he0; cases he0
      | cons x r => rfl
    have hwE : wantE s = checkN (partsN s) := by unfold wantE; rw [if_neg h0]
    have hwL : wantL s = if checkN (partsN s) = 0 then partsN s else [] := by unfold wantL; rw [if_neg h0]
    obtain ⟨m, hm⟩ := hM.1
    have cS := Tryd.strings_Split s ⟨#[44]⟩ m w (by omega) hm (by decide)
    rw [splitB_parts, ← parts_len] at cS
    have hb1 := below_nm w (.cells ((partsN s).map Value.string).toArray 9)
    have hg1 := heap_new w (.cells ((partsN s).map Value.string).toArray 9)
    have hS1 : Strs (w.alloc (.cells ((partsN s).map Value.string).toArray 9)) (some ⟨w.heap.size, 0, none⟩) (partsN s).length (partsN s) := by
      refine Strs.block (ss := partsN s) (t := 9) (fr := (0, 0)) ?_ (Array.getElem?_eq_some_iff.1 hg1).1
      rw [hg1]
      congr 3
      generalize partsN s = l
      induction l with
      | nil => rfl
      | cons x r ih => simp only [List.map_cons, List.flatMap_cons, ih]; rfl
    have hlen : (partsN s).length ≤ 1000001 := by
      rw [parts_len]
      have := Lib.countB_le ⟨#[44]⟩ (by decide) s.size s (Nat.le_refl _)
      omega
    have hsz := fun x hx => Nat.le_trans (parts_size (s := s) x hx) (show s.size ≤ 9223372036854775807 by omega)
    have cS := Calls.mono cS (fun r w' h => (show ∃ W, r = .returned (.slice (some ⟨w.heap.size, 0, none⟩) (partsN s).length (partsN s).length) ∧ w' = W ∧ Strs W (some ⟨w.heap.size, 0, none⟩) (partsN s).length (partsN s) ∧ Below w.heap.size w W from ⟨_, h.1, h.2, hS1, hb1⟩))
    generalize partsN s = l at cS hlen hsz hwE hwL hS1
    generalize hN0 : l.length = N at cS hlen
    have cS := Lib.hid cS
    have cC := Lib.hid (fun W (h : Strs W (some ⟨w.heap.size, 0, none⟩) N l) => nmCheck_any l (some ⟨w.heap.size, 0, none⟩) N N W (by omega) h hsz)
    have hN := Lib.hid hlen
    clear hM hm hb1 hg1 hS1 h0 hs hN0 hsz
    by_cases hk : checkN l = 0
    · rw [hk] at hwE
      rw [if_pos hk] at hwL
      simp only [hk] at cC
      have hwE := Lib.hid hwE
      have hwL := Lib.hid hwL
      clear hk
      go_enter Tryd.func24, Tryd.ntmps24
      go_wp2_with (first
        | (go_at_call 44; refine cS.out.mono ?_; rintro r w4 ⟨W, rfl, rfl, hS4, hb4⟩; have hS4 := Lib.hid hS4; have hB4 := Lib.hid hb4; clear hb4)
        | (go_at_call 45; (with_reducible refine (cC.out _ hS4.out).mono ?_); rintro r w5 ⟨rfl, rfl⟩))
      go_ret2
      exact ⟨_, _, _, (by rw [hwE.out]; first | done | rfl), Nat.le_refl _, by have := hN.out; omega, by rw [hwL.out]; exact hS4.out, hB4.out⟩
    · rw [if_neg hk] at hwL
      have hne : (checkN l != 0) = true := by unfold bne; rw [beq_eq_false_iff_ne.2 hk]; rfl
      generalize checkN l = e at cC hwE hne
      have hwE := Lib.hid hwE
      have hwL := Lib.hid hwL
      clear hk
      go_enter Tryd.func24, Tryd.ntmps24
      go_wp2_with (first
        | (go_at_call 44; refine cS.out.mono ?_; rintro r w4 ⟨W, rfl, rfl, hS4, hb4⟩; have hS4 := Lib.hid hS4; have hB4 := Lib.hid hb4; clear hb4)
        | (go_at_call 45; (with_reducible refine (cC.out _ hS4.out).mono ?_); rintro r w5 ⟨rfl, rfl⟩))
      go_ret2
      exact ⟨none, 0, 0, (by rw [hwE.out]; first | done | rfl), by decide, by decide, by rw [hwL.out]; exact Strs.nil_, hB4.out⟩
end Go.Proofs.YtfoegpacjkcidaaDoor
