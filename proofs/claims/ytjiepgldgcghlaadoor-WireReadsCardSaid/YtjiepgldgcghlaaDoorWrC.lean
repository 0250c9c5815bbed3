/- The one form of a whole number. -/
import Derived.Test.YtjiepgldgcghlaaDoorWrB
namespace Go.Proofs.YtjiepgldgcghlaaDoor
open Go.RowKit

def hiL : List UInt8 → Bool
  | [] => false
  | b :: _ => decide (128 ≤ b.toNat)
def encL (l : List UInt8) : List UInt8 := if hiL (l.dropWhile (· == 0)) then 0 :: l.dropWhile (· == 0) else l.dropWhile (· == 0)
def encS (s : ByteArray) : ByteArray := if hiL (plainS s).toList then ⟨#[0]⟩ ++ plainS s else plainS s
theorem encS_list (s : ByteArray) : (encS s).toList = encL s.toList := by
  unfold encS encL
  rw [plainS_list]
  split
  · rw [bsl_app, plainS_list, bsl]; rfl
  · rw [plainS_list]
theorem encS_size (s : ByteArray) : (encS s).size ≤ s.size + 1 := by
  have := plainS_size s
  unfold encS
  split
  · rw [ByteArray.size_append]; have : (⟨#[0]⟩ : ByteArray).size = 1 := rfl; omega
  · omega
def wholeL : List UInt8 → Bool
  | [] => true
  | a :: r => if 128 ≤ a.toNat then false else if a == 0 then hiL r else true
theorem dropWhile_len (l : List UInt8) : (l.dropWhile (· == 0)).length ≤ l.length := (List.dropWhile_sublist _).length_le
theorem dw_nz {a : UInt8} {r : List UInt8} (h : (a == 0) = false) : (a :: r).dropWhile (· == 0) = a :: r := by simp [List.dropWhile_cons, h]
theorem dw_z {a : UInt8} {r : List UInt8} (h : (a == 0) = true) : (a :: r).dropWhile (· == 0) = r.dropWhile (· == 0) := by simp [List.dropWhile_cons, h]
theorem wholeL_cons (a : UInt8) (r : List UInt8) : wholeL (a :: r) = if 128 ≤ a.toNat then false else if a == 0 then hiL r else true := rfl
theorem encL_eq {l : List UInt8} (h : wholeL l = true) : encL l = l := by
  match l, h with
  | [], _ => rfl
  | a :: r, h =>
    rw [wholeL_cons] at h
    by_cases h1 : 128 ≤ a.toNat
    · rw [if_pos h1] at h; cases h
    · rw [if_neg h1] at h
      cases h2 : (a == 0) with
      | true =>
        rw [h2, if_pos rfl] at h
        match r, h with
        | b :: r, h =>
          have hb : (b == 0) = false := by
            rw [beq_eq_false_iff_ne]
            rintro rfl
            simp [hiL] at h
          have ha : a = 0 := by simpa using h2
          unfold encL
          rw [dw_z h2, dw_nz hb, h, if_pos rfl, ha]
      | false =>
        unfold encL
        rw [dw_nz h2, show hiL (a :: r) = false from decide_eq_false h1, if_neg (by simp)]
theorem encL_ne {l : List UInt8} (h : wholeL l = false) : encL l ≠ l := by
  match l, h with
  | a :: r, h =>
    rw [wholeL_cons] at h
    by_cases h1 : 128 ≤ a.toNat
    · have ha : (a == 0) = false := by
        rw [beq_eq_false_iff_ne]
        rintro rfl
        simp at h1
      intro e
      have e2 := congrArg List.length e
      unfold encL at e2
      rw [dw_nz ha, show hiL (a :: r) = true from decide_eq_true h1, if_pos rfl] at e2
      simp at e2
    · rw [if_neg h1] at h
      cases h2 : (a == 0) with
      | false => rw [h2] at h; simp at h
      | true =>
        rw [h2, if_pos rfl] at h
        intro e
        have e2 := congrArg List.length e
        unfold encL at e2
        rw [dw_z h2] at e2
        match r, h with
        | [], _ => simp [hiL] at e2
        | b :: r, h =>
          cases hb : (b == 0) with
          | true =>
            rw [dw_z hb] at e2
            have := dropWhile_len r
            split at e2 <;> simp at e2 <;> omega
          | false =>
            rw [dw_nz hb, h, if_neg (by simp)] at e2
            simp at e2
theorem textS_inj {s t : ByteArray} (h : textS s = textS t) : s = t := by
  have h2 := congrArg ByteArray.toList h
  unfold textS at h2
  rw [bsl_app, bsl_app] at h2
  exact bs_ext (List.append_inj' h2 (by have := congrArg List.length h2; simp only [List.length_append, bsl_len, u32S_size] at this ⊢; omega)).2
theorem dropWhile_twice (l : List UInt8) : (l.dropWhile (· == 0)).dropWhile (· == 0) = l.dropWhile (· == 0) := by
  induction l with
  | nil => rfl
  | cons a r ih =>
    rw [List.dropWhile_cons]
    split
    · exact ih
    · rename_i h; rw [List.dropWhile_cons, if_neg h]
theorem encS_plain (s : ByteArray) : encS (plainS s) = encS s := by
  apply bs_ext
  rw [encS_list, encS_list, plainS_list]
  unfold encL
  rw [dropWhile_twice]
def wholeB (s : ByteArray) : Bool := wholeL s.toList
theorem encS_eq {s : ByteArray} (h : wholeB s = true) : encS s = s := bs_ext (by rw [encS_list, encL_eq h])
theorem encS_ne {s : ByteArray} (h : wholeB s = false) : encS s ≠ s := fun e => encL_ne h (by rw [← encS_list, e])

theorem empty_or (p : ByteArray) : p = ⟨#[]⟩ ∨ 0 < p.size ∧ p.toList.isEmpty = false ∧ (p.toList == []) = false := by
  by_cases h : p.size = 0
  · left
    apply bs_ext
    have : p.toList = [] := by rw [← List.length_eq_zero_iff, bsl_len]; exact h
    rw [this, bsl]
  · right
    have hl : (p.toList == []) = false := by
      rw [beq_eq_false_iff_ne]
      intro e
      exact h (by rw [← bsl_len, e]; rfl)
    refine ⟨by omega, ?_, hl⟩
    cases hq : p.toList with
    | nil => rw [hq] at hl; cases hl
    | cons x r => rfl
theorem hi_of {p : ByteArray} (h : 0 < p.size) : hiL p.toList = decide (128 ≤ (p[0]'h).toNat) := by
  have hc := bsl_cons (s := p) (k := 0) h
  rw [List.drop_zero] at hc
  rw [hc]; rfl
theorem byteS0 : byteS 0 = ⟨#[0]⟩ := rfl
set_option maxRecDepth 100000 in
set_option maxHeartbeats 1000000 in
theorem wholeW_any (s : ByteArray) (w : World) (hs : s.size ≤ 100000) :
    Calls Tryd.prog 15 #[.string s] w fun r w' => r = .returned (.string (textS (encS s))) ∧ Below w.heap.size w w' := by
  have c := plain_any s w (by omega)
  have hz := plainS_size s
  have hE : encS s = if hiL (plainS s).toList then ⟨#[0]⟩ ++ plainS s else plainS s := rfl
  have hzE := encS_size s
  have cT := text_any (encS s) w (by omega)
  generalize plainS s = p at c hz hE
  rw [hE] at cT
  have hE := Lib.hid hE
  rcases empty_or p with rfl | ⟨h0, h1, h2⟩
  · rw [show hiL (⟨#[]⟩ : ByteArray).toList = false by rw [bsl]; rfl, if_neg (by decide)] at cT
    have c := Lib.hid c
    have cT := Lib.hid cT
    go_enter Tryd.func15, Tryd.ntmps15
    go_wp2_with (first
      | (go_at_call 47; refine c.out.mono ?_; rintro r w1 ⟨rfl, rfl⟩)
      | (go_at_call 11; refine cT.out.mono ?_; rintro r w1 ⟨rfl, hb⟩))
    go_ret
    exact ⟨ret_str (by rw [hE.out, show hiL (⟨#[]⟩ : ByteArray).toList = false by rw [bsl]; rfl, if_neg (by decide)]), hb⟩
  · by_cases hi : 128 ≤ p[0].toNat
    · have hh : hiL p.toList = true := by rw [hi_of h0]; exact decide_eq_true hi
      rw [hh, if_pos rfl] at cT
      have hE2 := Lib.hid (show encS s = ⟨#[0]⟩ ++ p by rw [hE.out, hh, if_pos rfl])
      have c := Lib.hid c
      have cT := Lib.hid cT
      have hi' : 128 ≤ (p[0].toNat : Int) := by omega
      clear hh hi
      go_enter Tryd.func15, Tryd.ntmps15
      go_wp2_with (first
        | (go_at_call 47; refine c.out.mono ?_; rintro r w1 ⟨rfl, rfl⟩)
        | (go_at_call 11; refine cT.out.mono ?_; rintro r w1 ⟨rfl, hb⟩))
      go_ret
      exact ⟨ret_str (by rw [hE2.out]), hb⟩
    · have hh : hiL p.toList = false := by rw [hi_of h0]; exact decide_eq_false hi
      rw [hh, if_neg (by decide)] at cT
      have hE2 := Lib.hid (show encS s = p by rw [hE.out, hh, if_neg (by decide)])
      have c := Lib.hid c
      have cT := Lib.hid cT
      have hi' : (p[0].toNat : Int) < 128 := by omega
      clear hh hi
      go_enter Tryd.func15, Tryd.ntmps15
      go_wp2_with (first
        | (go_at_call 47; refine c.out.mono ?_; rintro r w1 ⟨rfl, rfl⟩)
        | (go_at_call 11; refine cT.out.mono ?_; rintro r w1 ⟨rfl, hb⟩))
      go_ret
      exact ⟨ret_str (by rw [hE2.out]), hb⟩
set_option maxRecDepth 100000 in
set_option maxHeartbeats 1000000 in
theorem refWhole_any (s : ByteArray) (w : World) (hs : s.size ≤ 100000) :
    Calls Tryd.prog 59 #[.string s] w fun r w' => r = .returned (.string (textS (encS s))) ∧ Below w.heap.size w w' := by
  have c := refPlain_any s w (by omega)
  have hz := plainS_size s
  have hE : encS s = if hiL (plainS s).toList then ⟨#[0]⟩ ++ plainS s else plainS s := rfl
  have hzE := encS_size s
  have cT := fun W => refText_any (encS s) W (by omega)
  generalize plainS s = p at c hz hE
  rw [hE] at cT
  have hE := Lib.hid hE
  have cB := refByte_any 0 w (by decide) (by decide)
  rw [byteS0] at cB
  have cB := Lib.hid cB
  rcases empty_or p with rfl | ⟨h0, h1, h2⟩
  · rw [show hiL (⟨#[]⟩ : ByteArray).toList = false by rw [bsl]; rfl, if_neg (by decide)] at cT
    have c := Lib.hid c
    have cT := Lib.hid cT
    go_enter Tryd.func59, Tryd.ntmps59
    go_wp2_with (first
      | (go_at_call 45; refine c.out.mono ?_; rintro r w1 ⟨rfl, rfl⟩)
      | (go_at_call 60; refine (cT.out _).mono ?_; rintro r w1 ⟨rfl, hb⟩))
    go_ret
    exact ⟨ret_str (by rw [hE.out, show hiL (⟨#[]⟩ : ByteArray).toList = false by rw [bsl]; rfl, if_neg (by decide)]), hb⟩
  · by_cases hi : 128 ≤ p[0].toNat
    · have hh : hiL p.toList = true := by rw [hi_of h0]; exact decide_eq_true hi
      rw [hh, if_pos rfl] at cT
      have hE2 := Lib.hid (show encS s = ⟨#[0]⟩ ++ p by rw [hE.out, hh, if_pos rfl])
      have c := Lib.hid c
      have cT := Lib.hid cT
      have hi' : 127 < (p[0].toNat : Int) := by omega
      clear hh hi
      go_enter Tryd.func59, Tryd.ntmps59
      go_wp2_with (go_at_call 45; refine c.out.mono ?_; rintro r w1 ⟨rfl, rfl⟩)
      refine cB.out.mono ?_
      rintro r w1 ⟨rfl, hb0⟩
      have hb0 := Lib.hid hb0
      go_wp2_with (go_at_call 60; refine (cT.out _).mono ?_; rintro r w2 ⟨rfl, hb⟩)
      go_ret
      exact ⟨ret_str (by rw [hE2.out]), hb0.out.trans (hb.mono hb0.out.size)⟩
    · have hh : hiL p.toList = false := by rw [hi_of h0]; exact decide_eq_false hi
      rw [hh, if_neg (by decide)] at cT
      have hE2 := Lib.hid (show encS s = p by rw [hE.out, hh, if_neg (by decide)])
      have c := Lib.hid c
      have cT := Lib.hid cT
      have hi' : (p[0].toNat : Int) ≤ 127 := by omega
      clear hh hi
      go_enter Tryd.func59, Tryd.ntmps59
      go_wp2_with (first
        | (go_at_call 45; refine c.out.mono ?_; rintro r w1 ⟨rfl, rfl⟩)
        | (go_at_call 60; refine (cT.out _).mono ?_; rintro r w1 ⟨rfl, hb⟩))
      go_ret
      exact ⟨ret_str (by rw [hE2.out]), hb⟩
set_option maxRecDepth 100000 in
theorem whole_any (s : ByteArray) (w : World) (hs : s.size ≤ 1000000) :
    Calls Tryd.prog 49 #[.string s] w fun r w' => r = .returned (.bool (wholeB s)) ∧ w = w' := by
  rcases empty_or s with rfl | ⟨h0, h1, h2⟩
  · have hr := Lib.hid (show wholeB ⟨#[]⟩ = true by unfold wholeB; rw [bsl]; rfl)
    go_enter Tryd.func49, Tryd.ntmps49
    go_wp2
    go_ret
    exact ⟨ret_bool hr.out.symm, rfl⟩
  · have hc := bsl_cons (s := s) (k := 0) h0
    rw [List.drop_zero] at hc
    have hw : wholeB s = if 128 ≤ s[0].toNat then false else if s[0] == 0 then hiL (s.toList.drop 1) else true := by
      unfold wholeB
      rw [hc]
      rfl
    by_cases hi : 128 ≤ s[0].toNat
    · rw [if_pos hi] at hw
      have hi' : 128 ≤ (s[0].toNat : Int) := by omega
      have hw := Lib.hid hw
      clear hc hi
      go_enter Tryd.func49, Tryd.ntmps49
      go_wp2
      go_ret
      exact ⟨ret_bool hw.out.symm, rfl⟩
    · rw [if_neg hi] at hw
      have hi' : (s[0].toNat : Int) < 128 := by omega
      cases hz : (s[0] == 0) with
      | false =>
        rw [hz, if_neg (by decide)] at hw
        have hb : ((s[0].toNat : Int) == 0) = false := by rw [byte0]; exact hz
        have hw := Lib.hid hw
        clear hc hi hz
        go_enter Tryd.func49, Tryd.ntmps49
        go_wp2
        go_ret
        exact ⟨ret_bool hw.out.symm, rfl⟩
      | true =>
        rw [hz, if_pos rfl] at hw
        have hb : ((s[0].toNat : Int) == 0) = true := by rw [byte0]; exact hz
        by_cases h3 : 1 < s.size
        · have hc1 := bsl_cons (s := s) (k := 1) h3
          rw [hc1] at hw
          have hw' : wholeB s = decide (128 ≤ s[1].toNat) := hw
          clear hw
          by_cases h4 : 128 ≤ s[1].toNat
          · rw [decide_eq_true h4] at hw'
            have h5 : 128 ≤ (s[1].toNat : Int) := by omega
            have hw := Lib.hid hw'
            clear hc hi hz hc1 h4 hw'
            go_enter Tryd.func49, Tryd.ntmps49
            go_wp2
            go_ret
            exact ⟨ret_bool (by rw [hw.out]; exact decide_eq_true h5), rfl⟩
          · rw [decide_eq_false h4] at hw'
            have h5 : (s[1].toNat : Int) < 128 := by omega
            have hw := Lib.hid hw'
            clear hc hi hz hc1 h4 hw'
            go_enter Tryd.func49, Tryd.ntmps49
            go_wp2
            go_ret
            exact ⟨ret_bool (by rw [hw.out]; exact decide_eq_false (by omega)), rfl⟩
        · rw [bsl_end (s := s) (k := 1) (by omega)] at hw
          have hv := Lib.hid (show wholeB s = false from hw)
          clear hc hi hz hw
          go_enter Tryd.func49, Tryd.ntmps49
          go_wp2
          go_ret
          exact ⟨ret_bool hv.out.symm, rfl⟩
end Go.Proofs.YtjiepgldgcghlaaDoor
