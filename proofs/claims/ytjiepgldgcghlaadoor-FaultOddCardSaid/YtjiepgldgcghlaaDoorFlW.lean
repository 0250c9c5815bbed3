/- The laws' own small functions on errors: awake, within. -/
import Derived.Test.YtjiepgldgcghlaaDoorFlF
import Derived.Test.YtjiepgldgcghlaaDoorFlH
import Derived.Test.YtjiepgldgcghlaaDoorNmC
namespace Go.Proofs.YtjiepgldgcghlaaDoor
open Go.RowKit

def kexinitS : ByteArray := ⟨#[107, 101, 120, 105, 110, 105, 116]⟩
def listS : ByteArray := ⟨#[108, 105, 115, 116]⟩
theorem tell_awake : tellS [kexinitS, listS] (some 3) = ⟨#[107, 101, 120, 105, 110, 105, 116, 58, 32, 108, 105, 115, 116, 58, 32, 102, 111, 114, 109]⟩ := by kernel_rfl
set_option maxRecDepth 100000 in
set_option maxHeartbeats 1000000 in
theorem awake05_any (w : World) (G : ETy w) :
    Calls Tryd.prog 17 #[] w fun r w' => r = .returned (.bool true) ∧ Below w.heap.size w w' := by
  have G := Lib.hid G
  go_enter Tryd.func17, Tryd.ntmps17
  go_wp2_with fail
  refine (of_any listS 3 w (by decide)).mono ?_
  rintro r w1 ⟨v, rfl, hE, hW⟩
  obtain ⟨T, u, rfl⟩ := isErr_some hE
  have hE := Lib.hid hE
  have hW := Lib.hid hW
  go_wp2_with fail
  refine (at_any kexinitS (some 3) [listS] T u w1 hE.out).mono ?_
  rintro r w2 ⟨v2, rfl, hE2, hb⟩
  obtain ⟨T2, u2, rfl⟩ := isErr_some hE2
  have hE2 := Lib.hid hE2
  have hW2 := Lib.hid (hW.out.trans (hb.mono hW.out.size))
  clear hb
  have cT := text_any (some 3) kexinitS [listS] _ w2 (by decide) hE2.out
  rw [tell_awake] at cT
  have cT := Lib.hid cT
  go_wp2_with (go_at_call 24; refine cT.out.mono ?_; rintro r w3 ⟨rfl, hb⟩)
  have hE3 := Lib.hid (hE2.out.keep hb)
  have hW3 := Lib.hid (hW2.out.trans (hb.mono hW2.out.size))
  clear hb
  refine (reason_of (code_num 3 _ _ w3 hE3.out (G.out.keep hW3.out))).mono ?_
  rintro r w4 ⟨rfl, hb⟩
  have hW4 := Lib.hid (hW3.out.trans (hb.mono hW3.out.size))
  clear hb
  rw [show reasonR 3 = 2 from rfl]
  go_wp2
  go_ret
  exact ⟨rfl, hW4.out⟩

theorem preS_bound (p : List ByteArray) (m : Nat) (h : ∀ s ∈ p, s.size ≤ m) : (preS p).size ≤ (m + 2) * p.length := by
  have key : ∀ (p : List ByteArray) (a : ByteArray), (∀ s ∈ p, s.size ≤ m) → (p.foldl (fun a s => a ++ s ++ sepS) a).size ≤ a.size + (m + 2) * p.length := by
    intro p
    induction p with
    | nil => intro a _; simp
    | cons s p ih =>
      intro a h
      rw [List.foldl_cons]
      refine Nat.le_trans (ih _ (fun x hx => h x (by simp [hx]))) ?_
      have h1 : (a ++ s ++ sepS).size = a.size + s.size + 2 := by simp only [ByteArray.size_append]; rfl
      have h2 := h s (by simp)
      rw [h1, List.length_cons, Nat.mul_succ]
      omega
  have := key p ⟨#[]⟩ h
  have h0 : (⟨#[]⟩ : ByteArray).size = 0 := rfl
  unfold preS
  omega
theorem drop_cons_of {α : Type} {l : List α} {j : Nat} {x : α} (h : l[j]? = some x) : l.drop j = x :: l.drop (j + 1) := by
  have hl := (List.getElem?_eq_some_iff.1 h).1
  rw [List.drop_eq_getElem_cons hl, (List.getElem?_eq_some_iff.1 h).2]
set_option maxHeartbeats 1000000 in
theorem within_any (p : List ByteArray) (A : Option Addr) (k c : Nat) (n : Int) (w : World) (hk0 : 1 ≤ k) (hk : k ≤ 1000000) (hn : n ≠ 0) (H : Strs w A k p) :
    Calls Tryd.prog 18 #[.slice A k c, .int .i64 n] w (Mk w (some n) p) := by
  have hlen := Lib.hid H.len
  have HH := Lib.hid H
  obtain ⟨b0, off0, x, rfl, hb0, hx, hc⟩ := H.at_ (show k - 1 < k by omega)
  have hdrop := drop_cons_of hx
  have hd2 : p.drop k = [] := List.drop_of_length_le (by rw [H.len]; exact Nat.le_refl _)
  rw [show k - 1 + 1 = k by omega, hd2] at hdrop
  clear hd2
  have hdrop := Lib.hid hdrop
  have cO := Lib.hid (of_any x n w hn)
  have e1 : IntKind.i64.wrap ((k : Int) - 1) = (k : Int) - 1 := IntWalk.i64_in _ (by omega)
  have e2 : ((k : Int) - 1).toNat = k - 1 := by omega
  have hl0 : (0 : Int) ≤ (k : Int) - 1 := by omega
  clear hx hn H
  go_enter Tryd.func18, Tryd.ntmps18
  go_wp2_with (go_at_call 50; refine cO.out.mono ?_; rintro r w1 ⟨v, rfl, hE, hW⟩)
  have hE := Lib.hid hE
  have hW := Lib.hid hW
  clear e1 e2 hl0
  go_wp2
  go_loopw [5, 6] (fun e i wr => ∃ j : Nat, j + 1 ≤ k ∧ i = .int .i64 ((j : Int) - 1) ∧ Hid (isErr wr (some n) (p.drop j) e) ∧ Hid (Below w.heap.size w wr)) (fun _ i _ => (intOf i + 1).toNat)
  case atStart => exact ⟨k - 1, by omega, by rw [show ((k - 1 : Nat) : Int) - 1 = (k : Int) - 2 by omega], by rw [hdrop.out]; exact hE, hW⟩
  case round =>
    obtain ⟨j, hj, rfl, hE, hW⟩ := hrel
    obtain ⟨T, u, rfl⟩ := isErr_some hE.out
    rcases j with _ | m
    · rw [show ((0 : Nat) : Int) - 1 = -1 from rfl]
      rw [List.drop_zero] at hE
      go_wp2
      go_ret
      exact ⟨_, rfl, hE.out, hW.out⟩
    · rw [show ((m + 1 : Nat) : Int) - 1 = (m : Int) by omega]
      obtain ⟨b, off, y, e, hb, hy, hc'⟩ := HH.out.at_ (show m < k by omega)
      simp only [Option.some.injEq, Addr.mk.injEq] at e
      obtain ⟨rfl, rfl, _⟩ := e
      have hcy := (hW.out.cell (p := ⟨b0, off0 + m, none⟩) hb).trans hc'
      have hdr := Lib.hid (drop_cons_of hy)
      have cA := Lib.hid (at_any y (some n) (p.drop (m + 1)) T u wr hE.out)
      clear hy hc' hc
      go_wp2_with (go_at_call 30; refine cA.out.mono ?_; rintro r w2 ⟨v2, rfl, hE2, hb2⟩)
      have hE2 := Lib.hid (show isErr w2 (some n) (p.drop m) v2 by rw [hdr.out]; exact hE2)
      have hW2 := Lib.hid (hW.out.trans (hb2.mono hW.out.size))
      clear hb2
      go_wp2
      go_roundw
      case rel => exact ⟨m, by omega, rfl, hE2, hW2⟩
      case measure => simp [intOf] <;> omega
set_option maxHeartbeats 1000000 in
theorem within_zero (p : List ByteArray) (A : Option Addr) (k c : Nat) (w : World) (hk0 : 1 ≤ k) (hk : k ≤ 1000000) (H : Strs w A k p) :
    Calls Tryd.prog 18 #[.slice A k c, .int .i64 0] w fun r w' => r = .returned .nilIface ∧ w = w' := by
  have HH := Lib.hid H
  obtain ⟨b0, off0, x, rfl, hb0, hx, hc⟩ := H.at_ (show k - 1 < k by omega)
  have e1 : IntKind.i64.wrap ((k : Int) - 1) = (k : Int) - 1 := IntWalk.i64_in _ (by omega)
  have e2 : ((k : Int) - 1).toNat = k - 1 := by omega
  have hl0 : (0 : Int) ≤ (k : Int) - 1 := by omega
  clear hx H
  go_enter Tryd.func18, Tryd.ntmps18
  go_wp2_with (go_at_call 50; refine (of_zero _ _).mono ?_; rintro r w1 ⟨rfl, rfl⟩)
  clear e1 e2 hl0
  go_wp2
  go_loop [5, 6] (fun e i => ∃ j : Nat, j + 1 ≤ k ∧ i = .int .i64 ((j : Int) - 1) ∧ e = .nilIface) (fun _ i => (intOf i + 1).toNat)
  case atStart => exact ⟨k - 1, by omega, by rw [show ((k - 1 : Nat) : Int) - 1 = (k : Int) - 2 by omega], rfl⟩
  case round =>
    obtain ⟨j, hj, rfl, rfl⟩ := hrel
    rcases j with _ | m
    · rw [show ((0 : Nat) : Int) - 1 = -1 from rfl]
      go_wp2
      go_ret
      exact ⟨rfl, rfl⟩
    · rw [show ((m + 1 : Nat) : Int) - 1 = (m : Int) by omega]
      obtain ⟨b, off, y, e, hb, hy, hcy⟩ := HH.out.at_ (show m < k by omega)
      simp only [Option.some.injEq, Addr.mk.injEq] at e
      obtain ⟨rfl, rfl, _⟩ := e
      clear hy hc
      go_wp2_with (go_at_call 30; refine (at_nil _ _).mono ?_; rintro r w2 ⟨rfl, rfl⟩)
      go_round
      case rel => exact ⟨m, by omega, rfl, rfl⟩
      case measure => simp [intOf] <;> omega
end Go.Proofs.YtjiepgldgcghlaaDoor
