/- The reader's text. -/
import Derived.Test.YtjiepgldgcghlaaDoorWrE
namespace Go.Proofs.YtjiepgldgcghlaaDoor
open Go.RowKit

theorem eg_all : ∀ args w, (callFunc 55 args).run Tryd.prog w = .ok (.enter 55 args) w := by intro args w; kernel_rfl
theorem eg_whole : ∀ args w, (callFunc 49 args).run Tryd.prog w = .ok (.enter 49 args) w := by intro args w; kernel_rfl
theorem fv_all : Value.func (.func 55) #[] #[] = fv 55 := rfl

section
variable (g : Nat) (s : ByteArray) (k : Nat) (f : Nat)
set_option maxHeartbeats 1000000 in
theorem text_err (e : Int) (w : World) (h : RD w g s k e) (he : e ≠ 0) :
    Calls Tryd.prog 48 #[.pointer (some ⟨g, 0, none⟩), fv f] w fun r w' => r = .returned (.string ⟨#[]⟩) ∧ w = w' := by
  have cE := Lib.hid (err_any g s k e w h)
  have cT := Lib.hid (take_err g s k 55 e 0 4 w h he)
  have hb : (e != 0) = true := by rw [bne_iff_ne]; exact he
  clear he h
  go_enter Tryd.func48, Tryd.ntmps48
  go_wp2_with (first
    | (go_at_call 13; refine cE.out.mono ?_; rintro r w1 ⟨rfl, rfl⟩)
    | (go_at_call 54; refine cT.out.mono ?_; rintro r w1 ⟨rfl, rfl⟩))
  go_ret
  exact ⟨rfl, rfl⟩
set_option maxHeartbeats 1000000 in
theorem text_few (w : World) (h : RD w g s k 0) (hs : s.size ≤ 1000000) (hk : k ≤ s.size) (hl : s.size - k < 4) :
    Calls Tryd.prog 48 #[.pointer (some ⟨g, 0, none⟩), fv f] w fun r w' => r = .returned (.string ⟨#[]⟩) ∧ RD w' g s k 4 ∧ Chg w w' g := by
  have cE := Lib.hid (err_any g s k 0 w h)
  have cL := left_any g s k 0 w h hs hk
  have cT := fun q => take_short g s k 55 0 4 (w.drewN q) (h.keep (drewN_below q)) hs hk (by decide) (by decide) (by right; omega)
  have hlt := h.lt
  generalize s.size - k = L at cL hl
  have cL := Lib.hid cL
  have cT := Lib.hid cT
  clear h
  go_enter Tryd.func48, Tryd.ntmps48
  go_wp2_with (first
    | (go_at_call 13; refine cE.out.mono ?_; rintro r w1 ⟨rfl, rfl⟩)
    | (go_at_call 14; refine cL.out.mono ?_; rintro r w1 ⟨rfl, q, rfl⟩)
    | (go_at_call 54; refine (cT.out _).mono ?_; rintro r w1 ⟨rfl, hR, hC⟩
       have hR := Lib.hid hR
       have hC := Lib.hid ((chg_of (drewN_below q) (Nat.le_of_lt hlt)).trans hC)))
  go_ret
  exact ⟨rfl, hR.out, hC.out⟩
/-- What stands ahead of a text: its length. -/
def lenAt (s : ByteArray) (k : Nat) : Nat := (numb (s.extract k (k + 4)).toList).toNat
theorem lenAt_eq (s : ByteArray) (k : Nat) : (lenAt s k : Int) = numb (s.extract k (k + 4)).toList ∧ numb (s.extract k (k + 4)).toList < 4294967296 := by
  have := numb_lt (l := (s.extract k (k + 4)).toList) (by rw [bsl_len, ByteArray.size_extract]; omega)
  unfold lenAt
  omega
set_option maxHeartbeats 2000000 in
theorem text_body (w : World) (h : RD w g s k 0) (hs : s.size ≤ 1000000) (hk : k ≤ s.size) (hl : 4 ≤ s.size - k) (Q : Ending → World → Prop)
    (cT : ∀ W, RD W g s k 0 → Chg w W g → Calls Tryd.prog 54 #[.pointer (some ⟨g, 0, none⟩), .int .i64 4, .int .i64 (lenAt s k), fv f] W (fun r w' => ∃ t, r = .returned (.string t) ∧ Q (.returned (.string t)) w')) :
    Calls Tryd.prog 48 #[.pointer (some ⟨g, 0, none⟩), fv f] w Q := by
  have cE := Lib.hid (err_any g s k 0 w h)
  have cL := left_any g s k 0 w h hs hk
  obtain ⟨hn, hn2⟩ := lenAt_eq s k
  have cN := Lib.hid (fun W => number_any (s.extract k (k + 4)) W (by rw [ByteArray.size_extract]; omega))
  generalize hL : s.size - k = L at cL hl
  have hh := Lib.hid h
  have cL := Lib.hid cL
  have cT := Lib.hid cT
  have hN := Lib.hid hn
  generalize numb (s.extract k (k + 4)).toList = x at cN hN hn hn2
  have hx0 : 0 ≤ x := by omega
  have l1 : (0 : Int) ≤ (k : Int) := by omega
  have l2 : (k : Int) ≤ (k : Int) + 4 := by omega
  have l3 : (k : Int) + 4 ≤ (s.size : Int) := by omega
  clear h hL hn
  unfold fv
  go_enter Tryd.func48, Tryd.ntmps48
  go_upto_region 3 with (first
    | (go_at_call 13; refine cE.out.mono ?_; rintro r w1 ⟨rfl, rfl⟩)
    | (go_at_call 14; refine cL.out.mono ?_; rintro r w1 ⟨rfl, q, rfl⟩
       obtain ⟨c0, c1, c2, z1, z2⟩ := (hh.out.keep (drewN_below q)).cells
       have hR := hh.out.keep (drewN_below q)
       have hC := chg_of (drewN_below q) (Nat.le_of_lt hh.out.lt)
       generalize w.drewN q = w2 at hR hC c0 c1 c2 z1 z2 ⊢
       have hR2 := Lib.hid hR
       have hC2 := Lib.hid hC
       clear hR hC))
  go_quiet ((go_at_call 57; exact Calls.quiet_of_same ((cN.out _).mono (fun e w' h => ⟨h.1, h.2.symm⟩))))
  go_wp2_with fail
  have hR3 := hR2.out.keep (drewN_below nq)
  have hC3 := hC2.out.trans (chg_of (drewN_below nq) (Nat.le_of_lt hR2.out.lt))
  have c := cT.out _ hR3 hC3
  rw [hN.out] at c
  unfold fv at c
  refine c.mono ?_
  rintro r w3 ⟨t, rfl, hQ⟩
  have hQ := Lib.hid hQ
  clear c hR3 hC3 c0 c1 c2 z1 z2
  go_wp2_with fail
  exact hQ.out
theorem text_short (w : World) (h : RD w g s k 0) (hs : s.size ≤ 1000000) (hk : k ≤ s.size) (hl : 4 ≤ s.size - k) (hsh : s.size - k < 4 + lenAt s k) :
    Calls Tryd.prog 48 #[.pointer (some ⟨g, 0, none⟩), fv f] w fun r w' => r = .returned (.string ⟨#[]⟩) ∧ RD w' g s k 4 ∧ Chg w w' g :=
  text_body g s k f w h hs hk hl _ (fun W hR hC => (take_short g s k f 4 (lenAt s k) W hR hs hk (by decide) (by have := lenAt_eq s k; omega) (by right; omega)).mono fun r w' ⟨e, hR2, hC2⟩ => ⟨_, e, rfl, hR2, hC.trans hC2⟩)
theorem text_may (b : Bool) (w : World) (h : RD w g s k 0) (hs : s.size ≤ 1000000) (hk : k ≤ s.size) (hl : 4 + lenAt s k ≤ s.size - k)
    (eg : ∀ args w, (callFunc f args).run Tryd.prog w = .ok (.enter f args) w)
    (hmay : ∀ W, Calls Tryd.prog f #[.string (s.extract (k + 4) (k + 4 + lenAt s k))] W fun r w' => r = .returned (.bool b) ∧ W = w') :
    Calls Tryd.prog 48 #[.pointer (some ⟨g, 0, none⟩), fv f] w fun r w' =>
      r = .returned (.string (if b then s.extract (k + 4) (k + 4 + lenAt s k) else ⟨#[]⟩)) ∧ RD w' g s (if b then k + 4 + lenAt s k else k) (if b then 0 else 3) ∧ Chg w w' g :=
  text_body g s k f w h hs hk (by omega) _ (fun W hR hC => (take_may g s k f 4 (lenAt s k) b W hR hs hk (by decide) (by omega) eg hmay).mono fun r w' ⟨e, hR2, hC2⟩ => ⟨_, e, rfl, hR2, hC.trans hC2⟩)
end
theorem rWhole_of {g : Nat} {w : World} {t : ByteArray} {Q : World → Prop} (ht : t.size ≤ 1000000)
    (c : Calls Tryd.prog 48 #[.pointer (some ⟨g, 0, none⟩), fv 49] w fun r w' => r = .returned (.string t) ∧ Q w') :
    Calls Tryd.prog 12 #[.pointer (some ⟨g, 0, none⟩)] w fun r w' => r = .returned (.string (plainS t)) ∧ Q w' := by
  have c := Lib.hid c
  have cP := Lib.hid (fun W => plain_any t W ht)
  go_enter Tryd.func12, Tryd.ntmps12
  go_wp2_with (first
    | (go_at_call 48; refine c.out.mono ?_; rintro r w1 ⟨rfl, hQ⟩; have hQ := Lib.hid hQ)
    | (go_at_call 47; refine (cP.out _).mono ?_; rintro r w2 ⟨rfl, rfl⟩))
  go_ret
  exact ⟨rfl, hQ.out⟩
theorem rText_of {g : Nat} {w : World} {t : ByteArray} {Q : World → Prop}
    (c : Calls Tryd.prog 48 #[.pointer (some ⟨g, 0, none⟩), fv 55] w fun r w' => r = .returned (.string t) ∧ Q w') :
    Calls Tryd.prog 37 #[.pointer (some ⟨g, 0, none⟩)] w fun r w' => r = .returned (.string t) ∧ Q w' := by
  have c := Lib.hid c
  go_enter Tryd.func37, Tryd.ntmps37
  go_wp2_with (go_at_call 48; refine c.out.mono ?_; rintro r w1 ⟨rfl, hQ⟩; have hQ := Lib.hid hQ)
  go_ret
  exact ⟨rfl, hQ.out⟩
end Go.Proofs.YtjiepgldgcghlaaDoor
