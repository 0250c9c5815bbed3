/- Texts joined: what each shows stands ahead of its theorems. -/
import Derived.Test.YtphnakdgpilcmaaGreatDoorHb5
import Derived.Test.YtphnakdgpilcmaaGreatDoorHb4
import Derived.Test.YtphnakdgpilcmaaGreatDoorHb2
namespace Go.Proofs.YtphnakdgpilcmaaGreatDoor
section
open Go.RowKit

/-- Terms that were made: their numbers l, and the terms os. -/
def madeV (A B : Option Addr) (n c d : Nat) : List Value := [.slice A n c, .slice B n d]
structure MadeW (w : World) (A B : Option Addr) (n : Nat) (l : List Int) (os : List (Option Tm)) : Prop where
  ids : Ints w A n l
  txt : Strs w B n (os.map fun o => bs (encO o))
theorem MadeW.keep {w w' : World} {A B : Option Addr} {n : Nat} {l : List Int} {os : List (Option Tm)} (h : MadeW w A B n l os) (hb : Below w.heap.size w w') : MadeW w' A B n l os := ⟨h.ids.keep hb, h.txt.keep hb⟩
def pkI (l : List Int) (i : Int) : Int := if i < 0 then -1 else (l[i.toNat]?).getD (-1)
def pkO (os : List (Option Tm)) (i : Int) : Option Tm := if i < 0 then none else (os[i.toNat]?).getD none
set_option maxRecDepth 100000 in
set_option maxHeartbeats 2000000 in
theorem pick_any {A B : Option Addr} {n c d : Nat} {l : List Int} {os : List (Option Tm)} (i : Int) (w : World) (hn : n ≤ 1000) (h : MadeW w A B n l os) :
    Calls Tryz.prog 11 #[.agg (madeV A B n c d).toArray, .int .i64 i] w fun r w' => r = .returned (.tuple #[.int .i64 (pkI l i), .string (bs (encO (pkO os i)))]) ∧ Below w.heap.size w w' := by
  have hB := below_new w (.cells (madeV A B n c d).toArray 31)
  have hr := heap_new w (.cells (madeV A B n c d).toArray 31)
  have d0 := cell_of_row _ w.heap.size 0 _ _ _ hr
  have d1 := cell_of_row _ w.heap.size 1 _ _ _ hr
  have hll := h.ids.len
  have hol : os.length = n := by have := h.txt.len; simpa using this
  have h2 := Lib.hid (h.keep hB)
  have hBh := Lib.hid hB
  clear hB hr h
  unfold madeV at d0 d1 hBh h2 ⊢
  go_enter Tryz.func11, Tryz.ntmps11
  go_upto_region 1 with fail
  generalize (w.alloc (.cells [Value.slice A n c, .slice B n d].toArray 31)) = w1 at *
  by_cases h0 : i < 0
  · have e1 : pkI l i = -1 := if_pos h0
    have e2 : pkO os i = none := if_pos h0
    have e1h := Lib.hid e1
    have e2h := Lib.hid e2
    clear hll hol e1 e2
    go_wp2_with fail
    go_ret2
    exact ⟨by rw [e1h.out, e2h.out]; rfl, hBh.out⟩
  · obtain ⟨k, rfl⟩ := Int.eq_ofNat_of_zero_le (Int.not_lt.1 h0)
    by_cases hk : k < n
    · obtain ⟨b, off, x, rfl, hb, hx, hc⟩ := h2.out.ids.at_ hk
      obtain ⟨b', off', z, rfl, hb', hz, hc'⟩ := h2.out.txt.at_ hk
      obtain ⟨o, ho⟩ : ∃ o, os[k]? = some o := ⟨os[k]'(by omega), List.getElem?_eq_getElem (by omega)⟩
      rw [List.getElem?_map, ho] at hz
      have hz : bs (encO o) = z := Option.some.inj hz
      subst hz
      have e1 : pkI l k = x := by unfold pkI; rw [if_neg h0, Int.toNat_natCast, hx]; rfl
      have e2 : pkO os k = o := by unfold pkO; rw [if_neg h0, Int.toNat_natCast, ho]; rfl
      have e1h := Lib.hid e1
      have e2h := Lib.hid e2
      have hki : ¬ ((n : Int) ≤ (k : Int)) := by omega
      clear hll hol e1 e2 hx ho hz
      generalize hzz : bs (encO o) = zz at *
      have hzh := Lib.hid hzz
      clear hzz
      go_upto_region 3 with fail
      go_quiet (fail)
      go_wp2_with fail
      go_ret2
      exact ⟨by rw [e1h.out, e2h.out, hzh.out]; rfl, hBh.out.trans (Below.mono (drewN_below _) hBh.out.size)⟩
    · have e1 : pkI l k = -1 := by unfold pkI; rw [if_neg h0, Int.toNat_natCast, List.getElem?_eq_none (by omega)]; rfl
      have e2 : pkO os k = none := by unfold pkO; rw [if_neg h0, Int.toNat_natCast, List.getElem?_eq_none (by omega)]; rfl
      have e1h := Lib.hid e1
      have e2h := Lib.hid e2
      have hki : ((n : Int) ≤ (k : Int)) := by omega
      clear hll hol e1 e2
      go_wp2_with fail
      go_ret2
      exact ⟨by rw [e1h.out, e2h.out]; rfl, hBh.out⟩
/-- A text's first byte. -/
def ltr (s : List UInt8) : UInt8 := s.headD 0
set_option maxRecDepth 100000 in
theorem letter_any (s : List UInt8) (hs : s.length ≤ 4000000000) (w : World) :
    Calls Tryz.prog 59 #[.string (bs s)] w fun r w' => r = .returned (.int .u8 (ltr s).toNat) ∧ w = w' := by
  have hz := bs_size s
  cases s with
  | nil =>
    simp only [List.length_nil] at hz
    have e : ltr [] = 0 := rfl
    rw [e]
    go_enter Tryz.func59, Tryz.ntmps59
    go_wp2_with fail
    go_ret
    exact ⟨rfl, rfl⟩
  | cons x r =>
    have e : ltr (x :: r) = x := rfl
    rw [e]
    have hg : ∀ h, (bs (x :: r))[0]'h = x := fun _ => rfl
    have hp : 0 < (bs (x :: r)).size := by rw [hz]; simp
    have hp2 : (bs (x :: r)).size ≤ 4000000000 := by omega
    generalize bs (x :: r) = y at *
    have hgh := Lib.hid hg
    clear hz hg
    go_enter Tryz.func59, Tryz.ntmps59
    go_wp2_with fail
    go_ret
    exact ⟨by rw [← hgh.out hp]; rfl, rfl⟩
end

section
open Go.RowKit

theorem apart_mk {W : World} {B B' k k' : Nat} {E E' : TypeId} {v v' : Value} {xs ys : List (List Value)} (h : OwnR W B k E v xs) (h' : OwnR W B' k' E' v' ys) (hE : E ≠ E') : v.ownBlock = none ∨ v.ownBlock ≠ v'.ownBlock := by
  rcases h.1.2 with ⟨rfl, _⟩ | ⟨g, cap, cur, rfl, _, hc, _⟩
  · exact .inl rfl
  · right
    rcases h'.1.2 with ⟨rfl, _⟩ | ⟨g', cap', cur', rfl, _, hc', _⟩
    · intro e; cases e
    · intro e
      injection e with e
      simp only at e
      subst e
      rw [hc] at hc'
      injection hc' with hc'
      injection hc' with _ hc'
      exact hE hc'
theorem grow_mk {W W' : World} {B k : Nat} {E : TypeId} {v : Value} {xs : List (List Value)} {row : Option Nat} (h : OwnR W B k E v xs) (hg : W.grownBy W' row) (hne : v.ownBlock = none ∨ v.ownBlock ≠ row) : OwnR W' B k E v xs := ⟨h.1.kept hg hne, h.2⟩
/-- A slice of numbers of terms, of the call's own. -/
def OwnD (w : World) (base : Nat) (v : Value) (xs : List Int) : Prop := OwnR w base 1 33 v (xs.map iv)
theorem OwnD.ints {w : World} {base : Nat} {v : Value} {xs : List Int} (h : OwnD w base v xs) : ∃ A c, v = .slice A xs.length c ∧ Ints w A xs.length xs := by
  obtain ⟨A, c, hv, hr⟩ := OwnR.rws h
  rw [List.length_map] at hv hr
  exact ⟨A, c, hv, hr⟩
theorem OwnD.next {w : World} {base : Nat} {v : Value} {l : List Int} (h : OwnD w base v l) (x : Int) : ∃ A c zs, v = .slice A l.length c ∧ zs.length = l.length ∧ OwnR (w.alloc (.cells #[.int .i64 x] 33)) base 1 33 v zs ∧ ∀ W v', OwnR W base 1 33 v' (zs ++ [[.int .i64 x]]) → OwnD W base v' (l ++ [x]) := by
  obtain ⟨A, c, ev, _⟩ := h.ints
  refine ⟨A, c, l.map iv, ev, by simp, OwnR.keep h (below_new w (.cells #[.int .i64 x] 33)), fun W v' h' => ?_⟩
  unfold OwnD
  rw [List.map_append]
  exact h'
/-- How many terms are there from one on, of so many. -/
def runN (f m : Int) (n : Nat) : Nat := if f < 0 ∨ (n : Int) < f then 0 else min (min m.toNat 40) (n - f.toNat)
def runL {α : Type} (f m : Int) (l : List α) : List α := (l.drop f.toNat).take (runN f m l.length)
theorem runL_len {α : Type} (f m : Int) (l : List α) : (runL f m l).length = runN f m l.length := by
  unfold runL
  rw [List.length_take, List.length_drop]
  unfold runN
  split <;> omega
theorem runN_le (f m : Int) (n : Nat) : runN f m n ≤ 40 := by unfold runN; split <;> omega
def RunR (f m : Int) (l : List Int) (os : List (Option Tm)) (w : World) (r : Ending) (w' : World) : Prop := ∃ A c B d, r = .returned (.tuple #[.slice A (runN f m l.length) c, .slice B (runN f m l.length) d]) ∧ MadeW w' A B (runN f m l.length) (runL f m l) (runL f m os) ∧ Below w.heap.size w w'
set_option maxRecDepth 100000 in
set_option maxHeartbeats 4000000 in
theorem run_any {A B : Option Addr} {n c d : Nat} {l : List Int} {os : List (Option Tm)} (f m : Int) (w : World) (hn : n ≤ 1000) (h : MadeW w A B n l os) :
    Calls Tryz.prog 61 #[.agg (madeV A B n c d).toArray, .int .i64 f, .int .i64 m] w (RunR f m l os w) := by
  have hB := below_new w (.cells (madeV A B n c d).toArray 31)
  have hr := heap_new w (.cells (madeV A B n c d).toArray 31)
  have d0 := cell_of_row _ w.heap.size 0 _ _ _ hr
  have d1 := cell_of_row _ w.heap.size 1 _ _ _ hr
  have hll := h.ids.len
  have hol : os.length = n := by have := h.txt.len; simpa using this
  have h2 := Lib.hid (h.keep hB)
  have hBh := Lib.hid hB
  have hs1 : w.heap.size < (w.alloc (.cells (madeV A B n c d).toArray 31)).heap.size := by simp
  clear hB h
  unfold madeV at d0 d1 hBh h2 hr hs1 ⊢
  go_enter Tryz.func61, Tryz.ntmps61
  go_upto_region 1 with fail
  generalize (w.alloc (.cells [Value.slice A n c, .slice B n d].toArray 31)) = w1 at *
  have hnone : runN f m l.length = 0 → Hid (RunR f m l os w (.returned (.tuple #[.slice none 0 0, .slice none 0 0])) w1) := fun e1 => by
    have e3 : runN f m os.length = 0 := by rw [hol, ← hll]; exact e1
    refine ⟨none, 0, none, 0, by rw [e1], ⟨?_, ?_⟩, hBh.out⟩
    · unfold runL; rw [e1]; exact Rws.nil_
    · unfold runL; rw [e1, e3]; exact Rws.nil_
  by_cases h0 : f < 0
  · have e2 := hnone (if_pos (.inl h0))
    clear hll hol hnone
    go_wp2_with fail
    go_ret2
    exact e2.out
  obtain ⟨k, rfl⟩ := Int.eq_ofNat_of_zero_le (Int.not_lt.1 h0)
  by_cases hkn : n < k
  · have e2 := hnone (if_pos (.inr (by omega)))
    have hki : (n : Int) < (k : Int) := by omega
    clear hll hol hnone
    go_wp2_with fail
    go_ret2
    exact e2.out
  have hN : runN k m l.length = min (min m.toNat 40) (n - k) := by
    unfold runN
    rw [if_neg (by omega), hll]
    omega
  have hN2 : runN k m os.length = min (min m.toNat 40) (n - k) := by
    unfold runN
    rw [if_neg (by omega), hol]
    omega
  have hXl : (l.drop k).length = n - k := by rw [List.length_drop, hll]
  have hYl : (os.drop k).length = n - k := by rw [List.length_drop, hol]
  have hX : ∀ j, (l.drop k)[j]? = l[k + j]? := fun j => by rw [List.getElem?_drop]
  have hY : ∀ j, (os.drop k)[j]? = os[k + j]? := fun j => by rw [List.getElem?_drop]
  have hfin : ∀ (av tv : Value) (wr : World) (j : Nat), j = min (min m.toNat 40) (n - k) → OwnD wr w1.heap.size av ((l.drop k).take j) → OwnS wr w1.heap.size tv (((os.drop k).take j).map fun o => bs (encO o)) → Below w1.heap.size w1 wr → RunR k m l os w (.returned (.tuple #[av, tv])) wr := fun av tv wr j hj hO hT hB => by
    obtain ⟨A1, c1, ev, hA1⟩ := hO.ints
    obtain ⟨B1, d1', ev', hB1⟩ := hT.strs
    have q1 : ((l.drop k).take j).length = j := by rw [List.length_take, hXl]; omega
    have q2 : (((os.drop k).take j).map fun o => bs (encO o)).length = j := by rw [List.length_map, List.length_take, hYl]; omega
    rw [q1] at ev hA1
    rw [q2] at ev' hB1
    subst ev ev'
    refine ⟨A1, c1, B1, d1', by rw [hN, ← hj], ⟨?_, ?_⟩, hBh.out.trans (hB.mono hBh.out.size)⟩
    · unfold runL; rw [hN, ← hj, Int.toNat_natCast]; exact hA1
    · unfold runL; rw [hN, hN2, ← hj, Int.toNat_natCast]; exact hB1
  have hfin := Lib.hid hfin
  obtain ⟨i0, hi, hz0, hz1, hz2⟩ := info_parts str_info
  obtain ⟨j0, hj0, hj1, hj2, hj3⟩ := info_parts id_info
  have hO0 : Hid (OwnD w1 w1.heap.size (.slice none 0 0) []) := OwnR.nil_ w1 w1.heap.size 1 33
  have hT0 : Hid (OwnS w1 w1.heap.size (.slice none 0 0) []) := OwnR.nil_ w1 w1.heap.size 1 9
  have hB0 := Lib.hid (Below.refl w1.heap.size w1)
  have hki : ¬ (n : Int) < (k : Int) := by omega
  have hXlh := Lib.hid hXl
  have hXh := Lib.hid hX
  have hYh := Lib.hid hY
  have hd := Lib.hid (And.intro d0 d1)
  clear hnone hll hol hN hN2 hXl hYl hX hY hr
  generalize l.drop k = X at *
  generalize os.drop k = Y at *
  go_wp2_with fail
  clear d0 d1
  go_loopw [8, 9, 10] (fun av tv iv wr => ∃ (j : Nat), j ≤ min (min m.toNat 40) (n - k) ∧ iv = .int .i64 j ∧ Hid (OwnD wr w1.heap.size av (X.take j)) ∧ Hid (OwnS wr w1.heap.size tv ((Y.take j).map fun o => bs (encO o))) ∧ Hid (Below w1.heap.size w1 wr)) (fun _ _ iv _ => 40 - (intOf iv).toNat)
  case atStart => exact ⟨0, by omega, rfl, hO0, hT0, hB0⟩
  case round =>
    clear hO0 hT0 hB0
    obtain ⟨j, hj, rfl, hO, hT, hB⟩ := hrel
    have d0 := (hB.out.cell (p := ⟨w.heap.size, 0, none⟩) hs1).trans hd.out.1
    have d1 := (hB.out.cell (p := ⟨w.heap.size, 1, none⟩) hs1).trans hd.out.2
    by_cases hm : (j : Int) < m
    · by_cases h40 : j < 40
      · have h40i : (j : Int) < 40 := by omega
        by_cases hlt : j < n - k
        · have hli : ¬ ((n : Int) - (k : Int) ≤ (j : Int)) := by omega
          obtain ⟨b, off, x, rfl, hbl, hx, hcell⟩ := h2.out.ids.at_ (j := k + j) (by omega)
          obtain ⟨b', off', z, rfl, hbl', hz, hcell'⟩ := h2.out.txt.at_ (j := k + j) (by omega)
          obtain ⟨o, ho⟩ : ∃ o, os[k + j]? = some o := by
            cases ho : os[k + j]? with
            | none => rw [List.getElem?_map, ho] at hz; cases hz
            | some o => exact ⟨o, rfl⟩
          rw [List.getElem?_map, ho] at hz
          have hz : bs (encO o) = z := Option.some.inj hz
          subst hz
          have hc := (hB.out.cell (p := ⟨b, off + (k + j), none⟩) hbl).trans hcell
          have hc' := Lib.hid (fun W (h : Below w1.heap.size w1 W) => (h.cell (p := ⟨b', off' + (k + j), none⟩) hbl').trans hcell')
          have hx2 : X.take (j + 1) = X.take j ++ [x] := take_succ_of ((hXh.out j).trans hx)
          have hy2 : Y.take (j + 1) = Y.take j ++ [o] := take_succ_of ((hYh.out j).trans ho)
          have hl1 : (X.take j).length ≤ 40 := by rw [List.length_take]; omega
          have hl2 : ((Y.take j).map fun o => bs (encO o)).length ≤ 40 := by rw [List.length_map, List.length_take]; omega
          obtain ⟨Av, cv, zs, ev, hzl, hOn, hup⟩ := hO.out.next x
          subst ev
          have hzb : zs.length ≤ 40 := by omega
          have hap := apart_mk (OwnS.keep hT.out (below_new wr (.cells #[.int .i64 x] 33))) hOn (by decide)
          have hTk := Lib.hid (And.intro (OwnS.keep hT.out (below_new wr (.cells #[.int .i64 x] 33))) hap)
          have hOn := Lib.hid hOn
          have hup := Lib.hid hup
          have hBn := Lib.hid (hB.out.trans ((below_new wr (.cells #[.int .i64 x] 33)).mono hB.out.size))
          have hrow := Lib.hid (rangeAt_list (heap_new wr (.cells [Value.int .i64 x].toArray 33)))
          have hx2 := Lib.hid hx2
          have hy2 := Lib.hid hy2
          have hl2 := Lib.hid hl2
          generalize (X.take j).length = mv at *
          clear hap hcell hcell' hx ho hO hT hzl
          go_upto_region 11 with (at_builtin; refine wpList_append_one rfl _ _ 28 rfl 33 j0 _ 1 8 Tryz.underlying28 hj0 hj1 hj2 hj3 rfl (by decide) w1 hBn.out _ zs rfl hOn.out wr.heap.size 1 [.int .i64 x] rfl hrow.out rfl (by simp; rfl) (by unfold maxLen; omega) (by omega) ?_; intro v2 w5 hO2 hB2 hg2)
          have hT5 : OwnS w5 w1.heap.size _ _ := grow_mk hTk.out.1 hg2 hTk.out.2
          have hO5 := hup.out _ _ hO2
          have d0 := (hB2.cell (p := ⟨w.heap.size, 0, none⟩) hs1).trans hd.out.1
          have d1 := (hB2.cell (p := ⟨w.heap.size, 1, none⟩) hs1).trans hd.out.2
          have hc5 := hc'.out w5 hB2
          obtain ⟨Aw, cw, ys, ev, hyl, hPn, hup2⟩ := own_next hT5 (bs (encO o))
          subst ev
          have hyb : ys.length ≤ 40 := by have := hl2.out; omega
          have hap2 := apart_mk (OwnR.keep hO5 (below_new w5 (.cells #[.string (bs (encO o))] 9))) hPn (by decide)
          have hOk := Lib.hid (And.intro (OwnR.keep hO5 (below_new w5 (.cells #[.string (bs (encO o))] 9))) hap2)
          have hPn := Lib.hid hPn
          have hup2 := Lib.hid hup2
          have hBn2 := Lib.hid (hB2.trans ((below_new w5 (.cells #[.string (bs (encO o))] 9)).mono hB2.size))
          have hrow2 := Lib.hid (rangeAt_list (heap_new w5 (.cells [Value.string (bs (encO o))].toArray 9)))
          generalize ((Y.take j).map fun o => bs (encO o)).length = mw at *
          clear hap2 hO2 hO5 hT5 hyl hTk hup hOn hBn hrow hg2 hc hc' hd h2 hB hfin
          go_upto_region 7 with (at_builtin; refine wpList_append_one rfl _ _ 29 rfl 9 i0 _ 1 16 Tryz.underlying29 hi hz0 hz1 hz2 rfl (by decide) w1 hBn2.out _ ys rfl hPn.out w5.heap.size 1 [.string (bs (encO o))] rfl hrow2.out rfl (by simp; rfl) (by unfold maxLen; omega) (by omega) ?_; intro v3 w6 hO3 hB3 hg3)
          have hO6 : Hid (OwnD w6 w1.heap.size v2 (X.take (j + 1))) := by
            rw [hx2.out]
            exact grow_mk hOk.out.1 hg3 hOk.out.2
          have hT6 : Hid (OwnS w6 w1.heap.size v3 ((Y.take (j + 1)).map fun o => bs (encO o))) := by
            have := hup2.out _ _ hO3
            rw [hy2.out, List.map_append]
            exact this
          have hB3 := Lib.hid hB3
          clear hO3 hg3 hOk hup2 hPn hBn2 hrow2 hB2
          go_wp2_with fail
          go_roundw
          case rel => exact ⟨j + 1, by omega, by go_num, hO6, hT6, hB3⟩
          case measure => simp [intOf]; omega
        · have hli : (n : Int) - (k : Int) ≤ (j : Int) := by omega
          have e2 := Lib.hid (hfin.out _ _ wr j (by omega) hO.out hT.out hB.out)
          clear hfin
          go_wp2_with fail
          go_ret2
          exact e2.out
      · have h40i : ¬ (j : Int) < 40 := by omega
        have e2 := Lib.hid (hfin.out _ _ wr j (by omega) hO.out hT.out hB.out)
        clear hfin
        go_wp2_with fail
        go_ret2
        exact e2.out
    · have e2 := Lib.hid (hfin.out _ _ wr j (by omega) hO.out hT.out hB.out)
      clear hfin
      go_wp2_with fail
      go_ret2
      exact e2.out
end

section
open Go.RowKit

/-- How a term is made. -/
structure Mk where
  k : Int
  a : Int
  b : Int
  c : Int
  s : List UInt8
def mkRow (k a b c : Int) (s : List UInt8) : List Value := [.int .i64 k, .int .i64 a, .int .i64 b, .int .i64 c, .string (bs s)]
/-- The term that is made, of those before it. -/
def mkT (os : List (Option Tm)) (k a b c : Int) (s : List UInt8) : Option Tm :=
  if k = 1 then dataT s
  else if k = 2 then nonceT a b
  else if k = 3 then keyT a
  else if k = 4 then pubT (pkO os a)
  else if k = 5 then (if a < 0 then baseT s else expT (pkO os a) (pkO os b))
  else if k = 6 then signT s (pkO os a) (pkO os b)
  else if k = 7 then hashT (pkO os a)
  else if k = 8 then deriveT (ltr s).toNat (pkO os a) (pkO os b) (pkO os c)
  else if k = 9 then sealT (pkO os a) (c % 4294967296).toNat (pkO os b)
  else if k = 10 then listT (runL a b os)
  else none
theorem pkO_all {P : Option Tm → Prop} {os : List (Option Tm)} (i : Int) (h0 : P none) (h : ∀ o ∈ os, P o) : P (pkO os i) := by
  unfold pkO
  split
  · exact h0
  · cases ho : os[i.toNat]? with
    | none => exact h0
    | some o => exact h o (List.mem_of_getElem? ho)
/-- What the two boxes hold, from the world W1 on. -/
structure Bx (q : Nat) (A B : Option Addr) (n c d : Nat) (l : List Int) (os : List (Option Tm)) (k a b e : Int) (s : List UInt8) (W : World) : Prop where
  made : MadeW W A B n l os
  row : W.rangeAt q 0 (madeV A B n c d)
  c0 : W.cell? ⟨q + 1, 0, none⟩ = some (.int .i64 k)
  c1 : W.cell? ⟨q + 1, 1, none⟩ = some (.int .i64 a)
  c2 : W.cell? ⟨q + 1, 2, none⟩ = some (.int .i64 b)
  c3 : W.cell? ⟨q + 1, 3, none⟩ = some (.int .i64 e)
  c4 : W.cell? ⟨q + 1, 4, none⟩ = some (.string (bs s))
theorem Bx.keep {q : Nat} {A B : Option Addr} {n c d : Nat} {l : List Int} {os : List (Option Tm)} {k a b e : Int} {s : List UInt8} {W W' : World} (h : Bx q A B n c d l os k a b e s W) (hq : q + 1 < W.heap.size) (hb : Below W.heap.size W W') : Bx q A B n c d l os k a b e s W' where
  made := h.made.keep hb
  row := rangeAt_keep h.row hb (by omega)
  c0 := (hb.cell (p := ⟨q + 1, 0, none⟩) hq).trans h.c0
  c1 := (hb.cell (p := ⟨q + 1, 1, none⟩) hq).trans h.c1
  c2 := (hb.cell (p := ⟨q + 1, 2, none⟩) hq).trans h.c2
  c3 := (hb.cell (p := ⟨q + 1, 3, none⟩) hq).trans h.c3
  c4 := (hb.cell (p := ⟨q + 1, 4, none⟩) hq).trans h.c4
set_option maxRecDepth 100000 in
set_option maxHeartbeats 4000000 in
theorem text_mk {A B : Option Addr} {n c d : Nat} {l : List Int} {os : List (Option Tm)} (k a b e : Int) (s : List UInt8) (w : World) (hn : n ≤ 1000) (hs : s.length ≤ 4000000000) (h : MadeW w A B n l os)
    (hok : ∀ o ∈ os, okO o) (hsm : ∀ o ∈ os, (encO o).length ≤ 131072) :
    Calls Tryz.prog 30 #[.agg (madeV A B n c d).toArray, .agg (mkRow k a b e s).toArray] w (TxR w (encO (mkT os k a b e s))) := by
  have hB1 := below_new w (.cells (madeV A B n c d).toArray 31)
  have hB2 := below_new (w.alloc (.cells (madeV A B n c d).toArray 31)) (.cells (mkRow k a b e s).toArray 67)
  have hr1 := heap_new w (.cells (madeV A B n c d).toArray 31)
  have hr2 := heap_new (w.alloc (.cells (madeV A B n c d).toArray 31)) (.cells (mkRow k a b e s).toArray 67)
  have hr1' := (hB2.block w.heap.size (by simp)).trans hr1
  rw [World.size_alloc] at hr2
  have hX : Bx w.heap.size A B n c d l os k a b e s ((w.alloc (.cells (madeV A B n c d).toArray 31)).alloc (.cells (mkRow k a b e s).toArray 67)) := {
    made := (h.keep hB1).keep hB2
    row := rangeAt_list hr1'
    c0 := cell_of_row _ _ 0 _ _ _ hr2
    c1 := cell_of_row _ _ 1 _ _ _ hr2
    c2 := cell_of_row _ _ 2 _ _ _ hr2
    c3 := cell_of_row _ _ 3 _ _ _ hr2
    c4 := cell_of_row _ _ 4 _ _ _ hr2 }
  have hX := Lib.hid hX
  have hBw := Lib.hid (hB1.trans (hB2.mono hB1.size))
  have hs1 : w.heap.size + 1 < ((w.alloc (.cells (madeV A B n c d).toArray 31)).alloc (.cells (mkRow k a b e s).toArray 67)).heap.size := by simp
  clear hB1 hB2 hr1 hr2 hr1' h
  unfold madeV mkRow at hBw hX hs1 ⊢
  go_enter Tryz.func30, Tryz.ntmps30
  go_upto_region 1 with fail
  generalize ((w.alloc (.cells [Value.slice A n c, .slice B n d].toArray 31)).alloc (.cells [Value.int .i64 k, .int .i64 a, .int .i64 b, .int .i64 e, .string (bs s)].toArray 67)) = W1 at *
  have hT := Lib.hid (fun W (hb : Below W1.heap.size W1 W) => hX.out.keep hs1 hb)
  have cA := Lib.hid (pick_any (c := c) (d := d) a W1 hn hX.out.made)
  have hrow := Lib.hid hX.out.row
  have c1 := hX.out.c1
  unfold madeV at cA hrow
  go_upto_region 2 with (first
    | (refine wpList_load_at 31 _ rfl rfl w.heap.size 0 rfl [.slice A n c, .slice B n d] _ hrow.out Tryz.underlying31 rfl (by kernel_rfl) ?_)
    | (go_at_call 11; (with_reducible refine cA.out.mono ?_); rintro r w2 ⟨rfl, hb2⟩))
  clear c1 cA hrow hX
  have hb2 := hb2
  have hX3 := Lib.hid (hT.out w2 hb2)
  have c1 := hX3.out.c2
  have hrow := Lib.hid hX3.out.row
  have cA := Lib.hid (pick_any (c := c) (d := d) b w2 hn hX3.out.made)
  unfold madeV at cA hrow
  go_upto_region 3 with (first
    | (refine wpList_load_at 31 _ rfl rfl w.heap.size 0 rfl [.slice A n c, .slice B n d] _ hrow.out Tryz.underlying31 rfl (by kernel_rfl) ?_)
    | (go_at_call 11; (with_reducible refine cA.out.mono ?_); rintro r w3 ⟨rfl, hb3⟩))
  have hb3 := hb2.trans (hb3.mono hb2.size)
  clear c1 cA hrow hX3
  have hX4 := Lib.hid (hT.out w3 hb3)
  have c1 := hX4.out.c3
  have hrow := Lib.hid hX4.out.row
  have cA := Lib.hid (pick_any (c := c) (d := d) e w3 hn hX4.out.made)
  unfold madeV at cA hrow
  go_upto_region 4 with (first
    | (refine wpList_load_at 31 _ rfl rfl w.heap.size 0 rfl [.slice A n c, .slice B n d] _ hrow.out Tryz.underlying31 rfl (by kernel_rfl) ?_)
    | (go_at_call 11; (with_reducible refine cA.out.mono ?_); rintro r w4 ⟨rfl, hb4⟩))
  have hb4 := hb3.trans (hb4.mono hb3.size)
  have hXz := hT.out w4 hb4
  obtain ⟨hM, hrow, c0, c1, c2, c3, c4⟩ := hXz
  have hM := Lib.hid hM
  have hB := Lib.hid (hBw.out.trans (hb4.mono hBw.out.size))
  have hrow := Lib.hid hrow
  have hoks := Lib.hid hok
  have hsms := Lib.hid hsm
  have po : ∀ i, okO (pkO os i) := fun i => pkO_all (P := okO) i (by intro t ht; cases ht) hok
  have pl : ∀ i, (encO (pkO os i)).length ≤ 131072 := fun i => pkO_all (P := fun o => (encO o).length ≤ 131072) i (by decide) hsm
  have po := Lib.hid po
  have pl := Lib.hid pl
  clear cA hX4 hT hb2 hb3 hb4 hBw hok hsm
  by_cases k1 : k = 1
  · subst k1
    have cF := Lib.hid (rData_any s w4 hs)
    unfold TxR at cF
    clear hM hrow hoks hsms po pl
    go_wp2_with (go_at_call 63; (with_reducible refine cF.out.mono ?_); rintro r w5 ⟨rfl, hb5⟩)
    go_ret
    exact ⟨rfl, hB.out.trans (hb5.mono hB.out.size)⟩
  by_cases k2 : k = 2
  · subst k2
    have cF := Lib.hid (rNonce_any a b w4)
    unfold TxR at cF
    clear hM hrow hoks hsms po pl
    go_wp2_with (go_at_call 64; (with_reducible refine cF.out.mono ?_); rintro r w5 ⟨rfl, hb5⟩)
    go_ret
    exact ⟨rfl, hB.out.trans (hb5.mono hB.out.size)⟩
  by_cases k3 : k = 3
  · subst k3
    have cF := Lib.hid (rKey_any a w4)
    unfold TxR at cF
    clear hM hrow hoks hsms po pl
    go_wp2_with (go_at_call 65; (with_reducible refine cF.out.mono ?_); rintro r w5 ⟨rfl, hb5⟩)
    go_ret
    exact ⟨rfl, hB.out.trans (hb5.mono hB.out.size)⟩
  by_cases k4 : k = 4
  · subst k4
    have cF := Lib.hid (rPub_any (pkO os a) (po.out a) (Nat.le_trans (pl.out a) (by decide)) w4)
    unfold TxR at cF
    clear hM hrow hoks hsms po pl
    go_wp2_with (go_at_call 66; (with_reducible refine cF.out.mono ?_); rintro r w5 ⟨rfl, hb5⟩)
    go_ret
    exact ⟨rfl, hB.out.trans (hb5.mono hB.out.size)⟩
  by_cases k5 : k = 5
  · subst k5
    by_cases ha : a < 0
    · have e0 := Lib.hid (show mkT os 5 a b e s = baseT s by unfold mkT; simp [ha])
      have cF := Lib.hid (rBase_any s w4 hs)
      unfold TxR at cF
      clear hM hrow hoks hsms po pl
      go_wp2_with (go_at_call 67; (with_reducible refine cF.out.mono ?_); rintro r w5 ⟨rfl, hb5⟩)
      go_ret
      exact ⟨by rw [e0.out]; rfl, hB.out.trans (hb5.mono hB.out.size)⟩
    · have e0 := Lib.hid (show mkT os 5 a b e s = expT (pkO os a) (pkO os b) by unfold mkT; simp [ha])
      have cF := Lib.hid (rExp_any (pkO os a) (pkO os b) (po.out a) (po.out b) (pl.out a) (pl.out b) w4)
      unfold TxR at cF
      clear hM hrow hoks hsms po pl
      go_wp2_with (go_at_call 68; (with_reducible refine cF.out.mono ?_); rintro r w5 ⟨rfl, hb5⟩)
      go_ret
      exact ⟨by rw [e0.out]; rfl, hB.out.trans (hb5.mono hB.out.size)⟩
  by_cases k6 : k = 6
  · subst k6
    have cF := Lib.hid (rSign_any s (pkO os a) (pkO os b) hs (po.out a) (pl.out a) (pl.out b) w4)
    unfold TxR at cF
    clear hM hrow hoks hsms po pl
    go_wp2_with (go_at_call 69; (with_reducible refine cF.out.mono ?_); rintro r w5 ⟨rfl, hb5⟩)
    go_ret
    exact ⟨rfl, hB.out.trans (hb5.mono hB.out.size)⟩
  by_cases k7 : k = 7
  · subst k7
    have cF := Lib.hid (rHash_any (pkO os a) (pl.out a) w4)
    unfold TxR at cF
    clear hM hrow hoks hsms po pl
    go_wp2_with (go_at_call 70; (with_reducible refine cF.out.mono ?_); rintro r w5 ⟨rfl, hb5⟩)
    go_ret
    exact ⟨rfl, hB.out.trans (hb5.mono hB.out.size)⟩
  by_cases k8 : k = 8
  · subst k8
    have cL := Lib.hid (letter_any s hs w4)
    have cF := Lib.hid (rDerive_any (ltr s).toNat (pkO os a) (pkO os b) (pkO os e) (ltr s).toNat_lt (pl.out a) (pl.out b) (pl.out e) w4)
    unfold TxR at cF
    clear hM hrow hoks hsms po pl
    go_wp2_with (first
      | (go_at_call 59; (with_reducible refine cL.out.mono ?_); rintro r w5 ⟨rfl, rfl⟩)
      | (go_at_call 71; (with_reducible refine cF.out.mono ?_); rintro r w5 ⟨rfl, hb5⟩))
    go_ret
    exact ⟨rfl, hB.out.trans (hb5.mono hB.out.size)⟩
  by_cases k9 : k = 9
  · subst k9
    have hw : IntKind.u32.wrap e = ((e % 4294967296).toNat : Int) := by
      have : IntKind.u32.wrap e = e % 4294967296 := by rfl
      rw [this]; omega
    have hw2 : e % 4294967296 = ((e % 4294967296).toNat : Int) := by omega
    have cF := Lib.hid (rSeal_any (pkO os a) (pkO os b) (e % 4294967296).toNat (by omega) (pl.out a) (pl.out b) w4)
    unfold TxR at cF
    have e0 := Lib.hid (show mkT os 9 a b e s = sealT (pkO os a) (e % 4294967296).toNat (pkO os b) from rfl)
    generalize (e % 4294967296).toNat = q at *
    clear hM hrow hoks hsms po pl
    go_wp2_with (go_at_call 72; (with_reducible refine cF.out.mono ?_); rintro r w5 ⟨rfl, hb5⟩)
    go_ret
    exact ⟨by rw [e0.out]; rfl, hB.out.trans (hb5.mono hB.out.size)⟩
  by_cases k10 : k = 10
  · subst k10
    have cR := Lib.hid (run_any (c := c) (d := d) a b w4 hn hM.out)
    unfold madeV RunR at cR
    have hrl : ∀ o ∈ runL a b os, o ∈ os := fun o ho => List.mem_of_mem_drop (List.mem_of_mem_take ho)
    have hrn := runN_le a b l.length
    have hln : runN a b os.length = runN a b l.length := by rw [hM.out.ids.len, show os.length = n by have := hM.out.txt.len; simpa using this]
    have hrlen : (runL a b os).length = runN a b l.length := by rw [runL_len, hln]
    have cF := Lib.hid (fun (B : Option Addr) (d : Nat) (W : World) (hA : Strs W B (runN a b l.length) ((runL a b os).map fun o => bs (encO o))) => rList_any (runL a b os) B (runN a b l.length) d W hrlen (by omega) (fun o ho => hsms.out o (hrl o ho)) hA)
    unfold TxR at cF
    clear hM hoks hsms po pl hrl hrn hln hrlen
    go_wp2_with (first
      | (refine wpList_load_at 31 _ rfl rfl w.heap.size 0 rfl [.slice A n c, .slice B n d] _ hrow.out Tryz.underlying31 rfl (by kernel_rfl) ?_)
      | (go_at_call 61; refine cR.out.mono ?_; rintro r w5 ⟨A5, c5, B5, d5, rfl, hM5, hb5⟩)
      | (go_at_call 73; refine (cF.out B5 d5 w5 hM5.txt).mono ?_; rintro r w6 ⟨rfl, hb6⟩))
    go_ret
    have hB5 := hB.out.trans (hb5.mono hB.out.size)
    exact ⟨rfl, hB5.trans (hb6.mono hB5.size)⟩
  have e0 := Lib.hid (show mkT os k a b e s = none by unfold mkT; simp only [k1, k2, k3, k4, k5, k6, k7, k8, k9, k10, if_false])
  clear hM hrow hoks hsms po pl
  go_wp2_with fail
  go_ret
  exact ⟨by rw [e0.out]; rfl, hB.out⟩
end

section
open Go.RowKit Go.Maps

section
variable (A : Ar) (B : Nat) (w : World) (H : Arena w B A) (hB : B ≤ w.heap.size) (hN : A.N.length < 100)
include H hB hN
theorem derive_any (l : Nat) (hl : l < 256) (x y z : Int) :
    Calls Tryz.prog 58 #[.pointer (some ⟨A.g, 0, none⟩), .int .u8 l, .int .i64 x, .int .i64 y, .int .i64 z] w (PutR w B A (deriveT l (get A.L x) (get A.L y) (get A.L z))) := by
  have hok := deriveT_ok hl (H.good.okO x) (H.good.okO y) (H.good.okO z)
  unfold deriveT at hok ⊢
  have hb := below_new w (.cells #[.int .i64 x, .int .i64 y, .int .i64 z] 33)
  have cP : Calls Tryz.prog 48 #[.pointer (some ⟨A.g, 0, none⟩), .agg #[.int .i64 8, .int .i64 0, .int .i64 l, .string ⟨#[]⟩, .slice (some ⟨w.heap.size, 0, none⟩) 3 3]] (w.alloc (.cells #[.int .i64 x, .int .i64 y, .int .i64 z] 33)) (PutR (w.alloc (.cells #[.int .i64 x, .int .i64 y, .int .i64 z] 33)) B A (mkO 8 0 l [] [get A.L x, get A.L y, get A.L z])) := put_any A B 8 0 l [] [x, y, z] (some ⟨w.heap.size, 0, none⟩) 3 3 _ (H.keep hb) (Nat.le_trans hB hb.size) hN (by simp) (by omega) (ints_new w [x, y, z] _) hok
  have cP := Lib.hid cP
  have hb := Lib.hid hb
  clear H hok
  go_enter Tryz.func58, Tryz.ntmps58
  go_wp2_with (go_at_call 48; refine cP.out.mono ?_; rintro r w1 h1; obtain ⟨A', x', rfl, hG, hM⟩ := PutR.of_below hb.out h1)
  go_ret
  exact ⟨A', x', rfl, hG, hM⟩
theorem seal_any (l : Nat) (hl : l < 4294967296) (x y : Int) :
    Calls Tryz.prog 60 #[.pointer (some ⟨A.g, 0, none⟩), .int .i64 x, .int .u32 l, .int .i64 y] w (PutR w B A (sealT (get A.L x) l (get A.L y))) := by
  have hok := sealT_ok hl (H.good.okO x) (H.good.okO y)
  unfold sealT at hok ⊢
  have hb := below_new w (.cells #[.int .i64 x, .int .i64 y] 33)
  have cP : Calls Tryz.prog 48 #[.pointer (some ⟨A.g, 0, none⟩), .agg #[.int .i64 9, .int .i64 0, .int .i64 l, .string ⟨#[]⟩, .slice (some ⟨w.heap.size, 0, none⟩) 2 2]] (w.alloc (.cells #[.int .i64 x, .int .i64 y] 33)) (PutR (w.alloc (.cells #[.int .i64 x, .int .i64 y] 33)) B A (mkO 9 0 l [] [get A.L x, get A.L y])) := put_any A B 9 0 l [] [x, y] (some ⟨w.heap.size, 0, none⟩) 2 2 _ (H.keep hb) (Nat.le_trans hB hb.size) hN (by simp) (by omega) (ints_new w [x, y] _) hok
  have cP := Lib.hid cP
  have hb := Lib.hid hb
  clear H hok
  go_enter Tryz.func60, Tryz.ntmps60
  go_wp2_with (go_at_call 48; refine cP.out.mono ?_; rintro r w1 h1; obtain ⟨A', x', rfl, hG, hM⟩ := PutR.of_below hb.out h1)
  go_ret
  exact ⟨A', x', rfl, hG, hM⟩
theorem sign_any (s : List UInt8) (hs : s.length ≤ 4000000000) (x y : Int) :
    Calls Tryz.prog 56 #[.pointer (some ⟨A.g, 0, none⟩), .string (bs s), .int .i64 x, .int .i64 y] w (PutR w B A (signT s (get A.L x) (get A.L y))) := by
  have cT : Calls Tryz.prog 52 #[.string (bs s), .int .i64 64] w fun r w' => r = .returned (.bool (decide (txtOk s 64))) ∧ w = w' := text_any s 64 w hs
  have cI : Calls Tryz.prog 49 #[.pointer (some ⟨A.g, 0, none⟩), .int .i64 x, .int .i64 3] w fun r w' => r = .returned (.bool (isB A x 3)) ∧ w = w' := is_any A B x 3 w H
  rw [isB_eq (by decide)] at cI
  by_cases h : txtOk s 64 ∧ kindO (get A.L x) = 3
  · have e : signT s (get A.L x) (get A.L y) = mkO 6 0 0 s [get A.L x, get A.L y] := by unfold signT; rw [if_pos h]
    have hok := signT_ok (alg := s) (H.good.okO x) (H.good.okO y)
    rw [e] at hok ⊢
    have hb := below_new w (.cells #[.int .i64 x, .int .i64 y] 33)
    have cP : Calls Tryz.prog 48 #[.pointer (some ⟨A.g, 0, none⟩), .agg #[.int .i64 6, .int .i64 0, .int .i64 0, .string (bs s), .slice (some ⟨w.heap.size, 0, none⟩) 2 2]] (w.alloc (.cells #[.int .i64 x, .int .i64 y] 33)) (PutR (w.alloc (.cells #[.int .i64 x, .int .i64 y] 33)) B A (mkO 6 0 0 s [get A.L x, get A.L y])) := put_any A B 6 0 0 s [x, y] (some ⟨w.heap.size, 0, none⟩) 2 2 _ (H.keep hb) (Nat.le_trans hB hb.size) hN hs (by omega) (ints_new w [x, y] _) hok
    rw [show (kindO (get A.L x) == 3) = true by simp [h.2]] at cI
    rw [decide_eq_true h.1] at cT
    have cT := Lib.hid cT
    have cP := Lib.hid cP
    have cI := Lib.hid cI
    have hb := Lib.hid hb
    clear H hok e h
    go_enter Tryz.func56, Tryz.ntmps56
    go_wp2_with (first
      | (go_at_call 52; refine cT.out.mono ?_; rintro r w1 ⟨rfl, rfl⟩)
      | (go_at_call 49; refine cI.out.mono ?_; rintro r w1 ⟨rfl, rfl⟩)
      | (go_at_call 48; refine cP.out.mono ?_; rintro r w1 h1; obtain ⟨A', x', rfl, hG, hM⟩ := PutR.of_below hb.out h1))
    go_ret
    exact ⟨A', x', rfl, hG, hM⟩
  · have e : signT s (get A.L x) (get A.L y) = none := by unfold signT; rw [if_neg h]
    have hR := Lib.hid (PutR.none_ H (Below.refl _ _) e)
    by_cases h1 : txtOk s 64
    · have h2 : ¬ kindO (get A.L x) = 3 := fun h2 => h ⟨h1, h2⟩
      rw [show (kindO (get A.L x) == 3) = false by simp [h2]] at cI
      rw [decide_eq_true h1] at cT
      have cT := Lib.hid cT
      have cI := Lib.hid cI
      clear H e h h1 h2
      go_enter Tryz.func56, Tryz.ntmps56
      go_wp2_with (first
        | (go_at_call 52; refine cT.out.mono ?_; rintro r w1 ⟨rfl, rfl⟩)
        | (go_at_call 49; refine cI.out.mono ?_; rintro r w1 ⟨rfl, rfl⟩))
      go_ret
      exact hR.out
    · rw [decide_eq_false h1] at cT
      have cT := Lib.hid cT
      clear H e h h1 cI
      go_enter Tryz.func56, Tryz.ntmps56
      go_wp2_with (go_at_call 52; refine cT.out.mono ?_; rintro r w1 ⟨rfl, rfl⟩)
      go_ret
      exact hR.out
end
end
end Go.Proofs.YtphnakdgpilcmaaGreatDoor
