/- Names: the reference's parts and Split. -/
import Derived.Test.YtfoegpacjkcidaaDoorNmW
namespace Go.Proofs.YtfoegpacjkcidaaDoor
open Go.RowKit

theorem own_form {w : World} {base : Nat} {v : Value} {l : List ByteArray} (h : OwnS w base v l) : ∃ A c, v = .slice A l.length c ∧ l.length ≤ c ∧ c ≤ 9223372036854775807 ∧ Strs w A l.length l := by
  have h1 := h.1.2
  obtain ⟨A, c, rfl, hs⟩ := h.strs
  rcases h1 with ⟨e, h0⟩ | ⟨g', cap, cur, e, hge, hgc, hcap, hm, _⟩
  · injection e with e1 e2 e3
    subst e1; subst e3
    exact ⟨none, 0, rfl, by omega, by omega, hs⟩
  · injection e with e1 e2 e3
    subst e1; subst e3
    unfold maxLen at hm
    exact ⟨_, c, rfl, by omega, by omega, hs⟩
def noComma (l : List UInt8) : Prop := ∀ b ∈ l, b ≠ 44
/-- Behind k bytes: the pieces so far, and where the next one begins. -/
structure PI (s : ByteArray) (D : List ByteArray) (f k : Nat) : Prop where
  le : f ≤ k
  eq : D.map (·.data.toList) ++ cutL (s.toList.drop f) = cutL s.toList
  no : noComma ((s.toList.drop f).take (k - f))
  len : D.length ≤ k
theorem ext_list (s : ByteArray) (a b : Nat) : (s.extract a b).data.toList = (s.toList.take b).drop a := by rw [← bsl, bsl_ext]
theorem map_data (D : List ByteArray) : (D.map (·.data.toList)).map bsOf = D := by
  rw [List.map_map]
  conv => rhs; rw [← List.map_id D]
  exact List.map_congr_left fun x _ => bsOf_data x
theorem PI.start (s : ByteArray) : PI s [] 0 0 := ⟨Nat.le_refl _, by simp, by intro b hb; simp at hb, Nat.le_refl _⟩
theorem PI.skip {s : ByteArray} {D : List ByteArray} {f k : Nat} (h : PI s D f k) (hk : k < s.size) (hb : s[k] ≠ 44) : PI s D f (k + 1) := by
  refine ⟨by have := h.le; omega, h.eq, fun b hb' => ?_, by have := h.len; omega⟩
  have h1 := h.le
  rw [show k + 1 - f = (k - f) + 1 by omega, take_succ_of (x := s[k]) (by rw [List.getElem?_drop, show f + (k - f) = k by omega]; exact bsl_get hk)] at hb'
  rcases List.mem_append.1 hb' with hb' | hb'
  · exact h.no b hb'
  · rw [List.mem_singleton.1 hb']; exact hb
theorem PI.cut {s : ByteArray} {D : List ByteArray} {f k : Nat} (h : PI s D f k) (hk : k < s.size) (hb : s[k] = 44) : PI s (D ++ [s.extract f k]) (k + 1) (k + 1) := by
  have h1 := h.le
  have hd : s.toList.drop f = (s.toList.drop f).take (k - f) ++ 44 :: s.toList.drop (k + 1) := by
    conv => lhs; rw [← List.take_append_drop (k - f) (s.toList.drop f)]
    congr 1
    rw [List.drop_drop, show f + (k - f) = k by omega, bsl_cons hk, hb]
  refine ⟨Nat.le_refl _, ?_, by intro b hb'; simp at hb', by simp; exact h.len⟩
  have he := h.eq
  rw [hd, cutL_app _ _ h.no] at he
  rw [List.map_append, List.append_assoc]
  have : (s.extract f k).data.toList = (s.toList.drop f).take (k - f) := by rw [ext_list, List.drop_take]
  simp only [List.map_cons, List.map_nil, this]
  exact he
theorem PI.last {s : ByteArray} {D : List ByteArray} {f : Nat} (h : PI s D f s.size) : D ++ [s.extract f s.size] = partsN s := by
  have he := h.eq
  have hn : noComma (s.toList.drop f) := by
    have := h.no
    rwa [List.take_of_length_le (by rw [List.length_drop, bsl_len]; exact Nat.le_refl _)] at this
  rw [cutL_none _ hn] at he
  unfold partsN
  rw [← bsl, ← he, List.map_append, map_data]
  congr 1
  have : (s.extract f s.size).data.toList = s.toList.drop f := by rw [← bsl, bsl_tail]
  simp only [List.map_cons, List.map_nil, ← this, bsOf_data]
set_option maxHeartbeats 2000000 in
theorem refParts_any (s : ByteArray) (w : World) (hs : s.size ≤ 1000000) :
    Calls Tryd.prog 46 #[.string s] w fun r w' => ∃ v, r = .returned v ∧ OwnS w' w.heap.size v (partsN s) ∧ Below w.heap.size w w' := by
  obtain ⟨i0, hi0, hz0, hz1, hz2⟩ := info_parts str_info
  go_enter Tryd.func46, Tryd.ntmps46
  go_wp2
  go_loopw [3, 4, 5] (fun v fv i wr => ∃ (k f : Nat) (D : List ByteArray), i = .int .i64 k ∧ fv = .int .i64 f ∧ k ≤ s.size + 1 ∧ Hid (OwnS wr w.heap.size v D) ∧ Hid (Below w.heap.size w wr) ∧ Hid (k ≤ s.size → PI s D f k) ∧ Hid (k = s.size + 1 → D = partsN s)) (fun _ _ i _ => s.size + 1 - (intOf i).toNat)
  case atStart => exact ⟨0, 0, [], rfl, rfl, by omega, OwnR.nil_ _ _ _ _, Below.refl _ _, fun _ => PI.start s, fun h => by omega⟩
  case round =>
    obtain ⟨k, f, D, rfl, rfl, hk, hO, hB, hP, hE⟩ := hrel
    by_cases hle : k ≤ s.size
    · have hp := hP.out hle
      have hfk := hp.le
      have hDl := hp.len
      have i1 : (0 : Int) ≤ (k : Int) := by omega
      have i3 : (0 : Int) ≤ (f : Int) := by omega
      have i4 : (f : Int) ≤ (k : Int) := by omega
      have i5 : (k : Int) ≤ (s.size : Int) := by omega
      have hb1 := below_nm wr (.cells #[.string (s.extract f k)] 9)
      have hO1 := Lib.hid (hO.out.keep hb1)
      have hB1 := Lib.hid (hB.out.trans (hb1.mono hB.out.size))
      clear hb1
      by_cases hend : k = s.size
      · have hq : ((k : Int) == (s.size : Int)) = true := by simp [hend]
        have hlast := Lib.hid (show D ++ [s.extract f k] = partsN s by have := hp; rw [hend] at this ⊢; exact this.last)
        have hK := Lib.hid hend
        clear hend hp
        go_wp2_with (at_builtin
                     refine wpList_append_one rfl _ _ 22 rfl 9 i0 (.string ByteArray.empty) 1 16 Tryd.underlying22 hi0 hz0 hz1 hz2 rfl (by decide) w hB1.out _ _ rfl hO1.out wr.heap.size 1 (sv (s.extract f k)) rfl ?_ rfl ?_ ?_ ?_ ?_
                     · exact rangeAt_list (heap_new wr (.cells #[.string (s.extract f k)] 9))
                     · intro u hu; simp [sv] at hu; subst hu; rfl
                     · simp only [List.length_map]; unfold maxLen; omega
                     · simp only [List.length_map]; omega
                     intro v' w2 hO2 hB2 _
                     have hO2 := Lib.hid (show OwnS w2 w.heap.size v' (D ++ [s.extract f k]) by unfold OwnS; simpa using hO2)
                     have hB2 := Lib.hid hB2)
        go_roundw
        case rel => exact ⟨k + 1, k + 1, _, by go_num, by go_num, by omega, hO2, hB2, fun h => by have := hK.out; omega, fun _ => hlast.out⟩
        case measure => simp [intOf]; omega
      · have hq : ((k : Int) == (s.size : Int)) = false := beq_eq_false_iff_ne.2 (by omega)
        have hlt : k < s.size := by omega
        have i6 : (k : Int) < (s.size : Int) := by omega
        cases hc : ((s[k].toNat : Int) == 44) with
        | true =>
          have hbk : s[k] = 44 := UInt8.toNat.inj (by have h1 := beq_iff_eq.1 hc; have : (44 : UInt8).toNat = 44 := rfl; omega)
          have hcut := Lib.hid (hp.cut hlt hbk)
          clear hp hbk hend
          go_wp2_with (at_builtin
                       refine wpList_append_one rfl _ _ 22 rfl 9 i0 (.string ByteArray.empty) 1 16 Tryd.underlying22 hi0 hz0 hz1 hz2 rfl (by decide) w hB1.out _ _ rfl hO1.out wr.heap.size 1 (sv (s.extract f k)) rfl ?_ rfl ?_ ?_ ?_ ?_
                       · exact rangeAt_list (heap_new wr (.cells #[.string (s.extract f k)] 9))
                       · intro u hu; simp [sv] at hu; subst hu; rfl
                       · simp only [List.length_map]; unfold maxLen; omega
                       · simp only [List.length_map]; omega
                       intro v' w2 hO2 hB2 _
                       have hO2 := Lib.hid (show OwnS w2 w.heap.size v' (D ++ [s.extract f k]) by unfold OwnS; simpa using hO2)
                       have hB2 := Lib.hid hB2)
          go_roundw
          case rel => exact ⟨k + 1, k + 1, _, by go_num, by go_num, by omega, hO2, hB2, fun _ => hcut.out, fun h => by omega⟩
          case measure => simp [intOf]; omega
        | false =>
          have hbk : s[k] ≠ 44 := by
            intro e
            rw [e] at hc
            cases hc
          have hskip := Lib.hid (hp.skip hlt hbk)
          clear hp hbk hend hO1 hB1
          go_wp2
          go_roundw
          case rel => exact ⟨k + 1, f, D, by go_num, rfl, by omega, hO, hB, fun _ => hskip.out, fun h => by omega⟩
          case measure => simp [intOf]; omega
    · have hk1 : k = s.size + 1 := by omega
      have hD := Lib.hid (hE.out hk1)
      have i7 : (s.size : Int) < (k : Int) := by omega
      clear hk1
      go_wp2
      go_ret
      rw [hD.out] at hO
      exact ⟨_, rfl, hO.out, hB.out⟩
set_option maxHeartbeats 1000000 in
theorem refSplit_any (s : ByteArray) (w : World) (hs : s.size ≤ 1000000) :
    Calls Tryd.prog 25 #[.string s] w (SpR w s) := by
  by_cases h0 : s.size = 0
  · obtain rfl := empty_of h0
    go_enter Tryd.func25, Tryd.ntmps25
    go_wp2
    go_ret2
    exact ⟨none, 0, 0, rfl, by decide, by decide, Strs.nil_, Below.refl _ _⟩
  · have hne0 : ((s.size : Int) == 0) = false := beq_eq_false_iff_ne.2 (by omega)
    have hwE : wantE s = checkN (partsN s) := by unfold wantE; rw [if_neg h0]
    have hwL : wantL s = if checkN (partsN s) = 0 then partsN s else [] := by unfold wantL; rw [if_neg h0]
    have cP := refParts_any s w hs
    have hlen : (partsN s).length ≤ 1000001 := by
      rw [parts_len]
      have := Lib.countB_le ⟨#[44]⟩ (by decide) s.size s (Nat.le_refl _)
      omega
    have hsz := fun x hx => Nat.le_trans (parts_size (s := s) x hx) (show s.size ≤ 9223372036854775807 by omega)
    have cP := Calls.mono cP (fun r w' h => (show ∃ A c, r = .returned (.slice A (partsN s).length c) ∧ (partsN s).length ≤ c ∧ c ≤ 9223372036854775807 ∧ Strs w' A (partsN s).length (partsN s) ∧ Below w.heap.size w w' by
      obtain ⟨v, h1, h2, h3⟩ := h
      obtain ⟨A, c, e, q1, q2, q3⟩ := own_form h2
      exact ⟨A, c, by rw [h1, e], q1, q2, q3, h3⟩))
    generalize partsN s = l at cP hlen hsz hwE hwL
    generalize hN0 : l.length = N at cP hlen
    have cP := Lib.hid cP
    have cC := Lib.hid (fun W A c (h : Strs W A N l) => refWrong04_any l A N c W (by omega) h hsz)
    clear h0 hs hN0 hsz hlen
    by_cases hk : checkN l = 0
    · rw [hk] at hwE
      rw [if_pos hk] at hwL
      simp only [hk] at cC
      have hwE := Lib.hid hwE
      have hwL := Lib.hid hwL
      clear hk
      go_enter Tryd.func25, Tryd.ntmps25
      go_wp2_with (first
        | (go_at_call 46; refine cP.out.mono ?_; rintro r w4 ⟨A4, c4, rfl, hn4, hc4, hS4, hb4⟩; have hS4 := Lib.hid hS4; have hB4 := Lib.hid hb4; have hn4 := Lib.hid hn4; have hc4 := Lib.hid hc4; clear hb4)
        | (go_at_call 30; (with_reducible refine (cC.out _ _ _ hS4.out).mono ?_); rintro r w5 ⟨rfl, rfl⟩))
      go_ret2
      exact ⟨_, _, _, (by rw [hwE.out]; first | done | rfl), hn4.out, hc4.out, by rw [hwL.out]; exact hS4.out, hB4.out⟩
    · rw [if_neg hk] at hwL
      have hne : (checkN l != 0) = true := by unfold bne; rw [beq_eq_false_iff_ne.2 hk]; rfl
      generalize checkN l = e at cC hwE hne
      have hwE := Lib.hid hwE
      have hwL := Lib.hid hwL
      clear hk
      go_enter Tryd.func25, Tryd.ntmps25
      go_wp2_with (first
        | (go_at_call 46; refine cP.out.mono ?_; rintro r w4 ⟨A4, c4, rfl, hn4, hc4, hS4, hb4⟩; have hS4 := Lib.hid hS4; have hB4 := Lib.hid hb4; clear hb4 hn4 hc4)
        | (go_at_call 30; (with_reducible refine (cC.out _ _ _ hS4.out).mono ?_); rintro r w5 ⟨rfl, rfl⟩))
      go_ret2
      exact ⟨none, 0, 0, (by rw [hwE.out]; first | done | rfl), by decide, by decide, by rw [hwL.out]; exact Strs.nil_, hB4.out⟩
set_option maxHeartbeats 1000000 in
theorem awake04_any (w : World) :
    Calls Tryd.prog 23 #[] w fun r w' => r = .returned (.bool true) ∧ Below w.heap.size w w' := by
  have hb1 := below_nm w (.cells #[.string ⟨#[97]⟩, .string ⟨#[98]⟩] 9)
  have hb2 := below_nm (w.alloc (.cells #[.string ⟨#[97]⟩, .string ⟨#[98]⟩] 9)) (.cells #[.string ⟨#[98]⟩, .string ⟨#[99]⟩, .string ⟨#[97]⟩] 9)
  have hS1 : Strs (w.alloc (.cells #[.string ⟨#[97]⟩, .string ⟨#[98]⟩] 9)) (some ⟨w.heap.size, 0, none⟩) 2 [⟨#[97]⟩, ⟨#[98]⟩] := Strs.block (ss := [⟨#[97]⟩, ⟨#[98]⟩]) (by exact heap_new w _) (Array.getElem?_eq_some_iff.1 (heap_new w _)).1
  have hg2 := heap_new (w.alloc (.cells #[.string ⟨#[97]⟩, .string ⟨#[98]⟩] 9)) (.cells #[.string ⟨#[98]⟩, .string ⟨#[99]⟩, .string ⟨#[97]⟩] 9)
  rw [World.size_alloc] at hg2
  have hS2 : Strs ((w.alloc (.cells #[.string ⟨#[97]⟩, .string ⟨#[98]⟩] 9)).alloc (.cells #[.string ⟨#[98]⟩, .string ⟨#[99]⟩, .string ⟨#[97]⟩] 9)) (some ⟨w.heap.size + 1, 0, none⟩) 3 [⟨#[98]⟩, ⟨#[99]⟩, ⟨#[97]⟩] := Strs.block (ss := [⟨#[98]⟩, ⟨#[99]⟩, ⟨#[97]⟩]) (by exact hg2) (Array.getElem?_eq_some_iff.1 hg2).1
  have cF := nmFirst_any [⟨#[97]⟩, ⟨#[98]⟩] [⟨#[98]⟩, ⟨#[99]⟩, ⟨#[97]⟩] (some ⟨w.heap.size, 0, none⟩) (some ⟨w.heap.size + 1, 0, none⟩) 2 2 3 3 _ (by decide) (by decide) (hS1.keep hb2) hS2
  rw [show firstV [⟨#[97]⟩, ⟨#[98]⟩] [⟨#[98]⟩, ⟨#[99]⟩, ⟨#[97]⟩] = .tuple #[.string ⟨#[97]⟩, .bool true] by
    unfold firstV
    rw [show ([⟨#[97]⟩, ⟨#[98]⟩] : List ByteArray).find? (has [⟨#[98]⟩, ⟨#[99]⟩, ⟨#[97]⟩]) = some ⟨#[97]⟩ by decide +kernel]] at cF
  have hB := Lib.hid (hb1.trans (hb2.mono hb1.size))
  have cF := Lib.hid cF
  clear hb1 hb2 hS1 hS2 hg2
  go_enter Tryd.func23, Tryd.ntmps23
  go_wp2_with (go_at_call 43; refine cF.out.mono ?_; rintro r w4 ⟨rfl, rfl⟩)
  go_ret
  exact ⟨rfl, hB.out⟩
end Go.Proofs.YtfoegpacjkcidaaDoor
