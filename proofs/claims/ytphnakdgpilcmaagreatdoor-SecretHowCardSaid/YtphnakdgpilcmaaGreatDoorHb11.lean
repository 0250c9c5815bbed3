/- Texts joined: what each shows stands ahead of its theorems. -/
import Derived.Test.YtphnakdgpilcmaaGreatDoorHb6
import Derived.Test.YtphnakdgpilcmaaGreatDoorHb10
import Derived.Test.YtphnakdgpilcmaaGreatDoorHb0
import Derived.OpenShut
import Derived.WideShapes
import Derived.Maps.AppendAt
namespace Go.Proofs.YtphnakdgpilcmaaGreatDoor
section
open Go.RowKit Go.Maps

section
variable {w : World} {g : Nat} {W : World} {L : List Tm} (h : St w g W L) (hL : L.length < 100)
include h hL
theorem St.sign2 (s : List UInt8) (hs : s.length ≤ 4000000000) (x y : Int) : Calls Tryz.prog 56 #[.pointer (some ⟨g, 0, none⟩), .string (bs s), .int .i64 x, .int .i64 y] W (SR w g W L (signT s (get L x) (get L y))) :=
  h.put hL fun A h1 h2 H hB hN => by subst h1; subst h2; first | exact sign_any A _ W H hB hN s hs x y | exact sign_any A _ W H hB hN s x y hs | exact sign_any A _ W H hB hN _ _ _ hs
theorem St.derive2 (b : Nat) (hb : b < 256) (x y z : Int) : Calls Tryz.prog 58 #[.pointer (some ⟨g, 0, none⟩), .int .u8 b, .int .i64 x, .int .i64 y, .int .i64 z] W (SR w g W L (deriveT b (get L x) (get L y) (get L z))) :=
  h.put hL fun A h1 h2 H hB hN => by subst h1; subst h2; first | exact derive_any A _ W H hB hN b hb x y z | exact derive_any A _ W H hB hN b x y z hb
theorem St.seal2 (n : Nat) (hn : n < 4294967296) (x y : Int) : Calls Tryz.prog 60 #[.pointer (some ⟨g, 0, none⟩), .int .i64 x, .int .u32 n, .int .i64 y] W (SR w g W L (sealT (get L x) n (get L y))) :=
  h.put hL fun A h1 h2 H hB hN => by subst h1; subst h2; first | exact seal_any A _ W H hB hN x n hn y | exact seal_any A _ W H hB hN n hn x y | exact seal_any A _ W H hB hN x n y hn | exact seal_any A _ W H hB hN n x y hn
end
theorem SR.from {w W W1 : World} {g : Nat} {L : List Tm} {o : Option Tm} {r : Ending} {W' : World} (hb : Below W.heap.size W W1) (h : SR w g W1 L o r W') : SR w g W L o r W' := by
  obtain ⟨L', x, h1, h2, h3, h4, h5, h6, h7⟩ := h
  exact ⟨L', x, h1, h2, h3, h4, (Stay.of_below hb).trans h5, Nat.le_trans hb.size h6, (Fresh.of_below hb).trans hb.size h7⟩
theorem SR.none_ {w W W1 : World} {g : Nat} {L : List Tm} (h : St w g W1 L) (hb : Below W.heap.size W W1) : SR w g W L none (.returned (.int .i64 (-1))) W1 :=
  ⟨L, -1, rfl, h, .inl ⟨rfl, fun _ h => by cases h⟩, ⟨rfl, fun _ => rfl⟩, Stay.of_below hb, hb.size, Fresh.of_below hb⟩
set_option maxRecDepth 100000 in
set_option maxHeartbeats 4000000 in
theorem id_mk {A B : Option Addr} {n c d : Nat} {l : List Int} {os : List (Option Tm)} (k a b e : Int) (s : List UInt8) (w : World) (hn : n ≤ 1000) (hs : s.length ≤ 4000000000) (h : MadeW w A B n l os)
    {w0 : World} {g : Nat} {L : List Tm} (hSt : St w0 g w L) (hL : L.length < 100) (hg : ∀ i, get L (pkI l i) = pkO os i) (hgl : (runL a b l).map (get L) = runL a b os) :
    Calls Tryz.prog 29 #[.agg (madeV A B n c d).toArray, .pointer (some ⟨g, 0, none⟩), .agg (mkRow k a b e s).toArray] w (SR w0 g w L (mkT os k a b e s)) := by
  have hB1 := below_new w (.cells (madeV A B n c d).toArray 31)
  have hB2 := below_new (w.alloc (.cells (madeV A B n c d).toArray 31)) (.cells (mkRow k a b e s).toArray 67)
  have hr1 := heap_new w (.cells (madeV A B n c d).toArray 31)
  have hr2 := heap_new (w.alloc (.cells (madeV A B n c d).toArray 31)) (.cells (mkRow k a b e s).toArray 67)
  have hr1' := (hB2.block w.heap.size (by simp)).trans hr1
  rw [World.size_alloc] at hr2
  have hX : Bx w.heap.size A B n c d l os k a b e s ((w.alloc (.cells (madeV A B n c d).toArray 31)).alloc (.cells (mkRow k a b e s).toArray 67)) := {
    made := (h.keep hB1).keep hB2
    row := rangeAt_list hr1'
    c0 := cell_of_row _ _ 0 _ _ _ hr2
    c1 := cell_of_row _ _ 1 _ _ _ hr2
    c2 := cell_of_row _ _ 2 _ _ _ hr2
    c3 := cell_of_row _ _ 3 _ _ _ hr2
    c4 := cell_of_row _ _ 4 _ _ _ hr2 }
  have hX := Lib.hid hX
  have hBw := Lib.hid (hB1.trans (hB2.mono hB1.size))
  have hs1 : w.heap.size + 1 < ((w.alloc (.cells (madeV A B n c d).toArray 31)).alloc (.cells (mkRow k a b e s).toArray 67)).heap.size := by simp
  clear hB1 hB2 hr1 hr2 hr1' h
  unfold madeV mkRow at hBw hX hs1 ⊢
  go_enter Tryz.func29, Tryz.ntmps29
  go_upto_region 1 with fail
  generalize ((w.alloc (.cells [Value.slice A n c, .slice B n d].toArray 31)).alloc (.cells [Value.int .i64 k, .int .i64 a, .int .i64 b, .int .i64 e, .string (bs s)].toArray 67)) = W1 at *
  have hT := Lib.hid (fun W (hb : Below W1.heap.size W1 W) => hX.out.keep hs1 hb)
  have cA := Lib.hid (pick_any (c := c) (d := d) a W1 hn hX.out.made)
  have hrow := Lib.hid hX.out.row
  have c1 := hX.out.c1
  unfold madeV at cA hrow
  go_upto_region 2 with (first
    | (refine wpList_load_at 31 _ rfl rfl w.heap.size 0 rfl [.slice A n c, .slice B n d] _ hrow.out Tryz.underlying31 rfl (by kernel_rfl) ?_)
    | (go_at_call 11; (with_reducible refine cA.out.mono ?_); rintro r w2 ⟨rfl, hb2⟩))
  clear c1 cA hrow hX
  have hb2 := hb2
  have hX3 := Lib.hid (hT.out w2 hb2)
  have c1 := hX3.out.c2
  have hrow := Lib.hid hX3.out.row
  have cA := Lib.hid (pick_any (c := c) (d := d) b w2 hn hX3.out.made)
  unfold madeV at cA hrow
  go_upto_region 3 with (first
    | (refine wpList_load_at 31 _ rfl rfl w.heap.size 0 rfl [.slice A n c, .slice B n d] _ hrow.out Tryz.underlying31 rfl (by kernel_rfl) ?_)
    | (go_at_call 11; (with_reducible refine cA.out.mono ?_); rintro r w3 ⟨rfl, hb3⟩))
  have hb3 := hb2.trans (hb3.mono hb2.size)
  clear c1 cA hrow hX3
  have hX4 := Lib.hid (hT.out w3 hb3)
  have c1 := hX4.out.c3
  have hrow := Lib.hid hX4.out.row
  have cA := Lib.hid (pick_any (c := c) (d := d) e w3 hn hX4.out.made)
  unfold madeV at cA hrow
  go_upto_region 4 with (first
    | (refine wpList_load_at 31 _ rfl rfl w.heap.size 0 rfl [.slice A n c, .slice B n d] _ hrow.out Tryz.underlying31 rfl (by kernel_rfl) ?_)
    | (go_at_call 11; (with_reducible refine cA.out.mono ?_); rintro r w4 ⟨rfl, hb4⟩))
  have hb4 := hb3.trans (hb4.mono hb3.size)
  have hXz := hT.out w4 hb4
  obtain ⟨hM, hrow, c0, c1, c2, c3, c4⟩ := hXz
  have hM := Lib.hid hM
  have hB := Lib.hid (hBw.out.trans (hb4.mono hBw.out.size))
  have hrow := Lib.hid hrow
  have hS := Lib.hid (hSt.keep hB.out)
  have hgh := Lib.hid hg
  have hglh := Lib.hid hgl
  clear cA hX4 hT hb2 hb3 hb4 hBw hSt hg hgl
  by_cases k1 : k = 1
  · subst k1
    have cF := Lib.hid (hS.out.data hL s hs)
    clear hM hrow hS hgh hglh
    go_wp2_with (go_at_call 53; refine cF.out.mono ?_; rintro r w5 ⟨L', x, rfl, hS5, hG5, hN5, hY5, hz5⟩)
    go_ret
    exact SR.from hB.out ⟨L', x, rfl, hS5, hG5, hN5, hY5, hz5⟩
  by_cases k2 : k = 2
  · subst k2
    have cF := Lib.hid (hS.out.nonce hL a b)
    clear hM hrow hS hgh hglh
    go_wp2_with (go_at_call 26; refine cF.out.mono ?_; rintro r w5 ⟨L', x, rfl, hS5, hG5, hN5, hY5, hz5⟩)
    go_ret
    exact SR.from hB.out ⟨L', x, rfl, hS5, hG5, hN5, hY5, hz5⟩
  by_cases k3 : k = 3
  · subst k3
    have cF := Lib.hid (hS.out.key hL a)
    clear hM hrow hS hgh hglh
    go_wp2_with (go_at_call 54; refine cF.out.mono ?_; rintro r w5 ⟨L', x, rfl, hS5, hG5, hN5, hY5, hz5⟩)
    go_ret
    exact SR.from hB.out ⟨L', x, rfl, hS5, hG5, hN5, hY5, hz5⟩
  by_cases k4 : k = 4
  · subst k4
    have cF := Lib.hid (by have := hS.out.pub hL (pkI l a); rw [hgh.out a] at this; exact this)
    clear hM hrow hS hgh hglh
    go_wp2_with (go_at_call 55; refine cF.out.mono ?_; rintro r w5 ⟨L', x, rfl, hS5, hG5, hN5, hY5, hz5⟩)
    go_ret
    exact SR.from hB.out ⟨L', x, rfl, hS5, hG5, hN5, hY5, hz5⟩
  by_cases k5 : k = 5
  · subst k5
    by_cases ha : a < 0
    · have e0 := Lib.hid (show mkT os 5 a b e s = baseT s by unfold mkT; simp [ha])
      have cF := Lib.hid (hS.out.base hL s hs)
      clear hM hrow hS hgh hglh
      go_wp2_with (go_at_call 28; refine cF.out.mono ?_; rintro r w5 ⟨L', x, rfl, hS5, hG5, hN5, hY5, hz5⟩)
      go_ret
      exact e0.out.symm ▸ SR.from hB.out ⟨L', x, rfl, hS5, hG5, hN5, hY5, hz5⟩
    · have e0 := Lib.hid (show mkT os 5 a b e s = expT (pkO os a) (pkO os b) by unfold mkT; simp [ha])
      have cF := Lib.hid (by have := hS.out.exp hL (pkI l a) (pkI l b); rw [hgh.out a, hgh.out b] at this; exact this)
      clear hM hrow hS hgh hglh
      go_wp2_with (go_at_call 27; refine cF.out.mono ?_; rintro r w5 ⟨L', x, rfl, hS5, hG5, hN5, hY5, hz5⟩)
      go_ret
      exact e0.out.symm ▸ SR.from hB.out ⟨L', x, rfl, hS5, hG5, hN5, hY5, hz5⟩
  by_cases k6 : k = 6
  · subst k6
    have cF := Lib.hid (by have := hS.out.sign2 hL s hs (pkI l a) (pkI l b); rw [hgh.out a, hgh.out b] at this; exact this)
    clear hM hrow hS hgh hglh
    go_wp2_with (go_at_call 56; refine cF.out.mono ?_; rintro r w5 ⟨L', x, rfl, hS5, hG5, hN5, hY5, hz5⟩)
    go_ret
    exact SR.from hB.out ⟨L', x, rfl, hS5, hG5, hN5, hY5, hz5⟩
  by_cases k7 : k = 7
  · subst k7
    have cF := Lib.hid (by have := hS.out.hash hL (pkI l a); rw [hgh.out a] at this; exact this)
    clear hM hrow hS hgh hglh
    go_wp2_with (go_at_call 57; refine cF.out.mono ?_; rintro r w5 ⟨L', x, rfl, hS5, hG5, hN5, hY5, hz5⟩)
    go_ret
    exact SR.from hB.out ⟨L', x, rfl, hS5, hG5, hN5, hY5, hz5⟩
  by_cases k8 : k = 8
  · subst k8
    have cL := Lib.hid (letter_any s hs w4)
    have cF := Lib.hid (by have := hS.out.derive2 hL (ltr s).toNat (ltr s).toNat_lt (pkI l a) (pkI l b) (pkI l e); rw [hgh.out a, hgh.out b, hgh.out e] at this; exact this)
    clear hM hrow hS hgh hglh
    go_wp2_with (first
      | (go_at_call 59; (with_reducible refine cL.out.mono ?_); rintro r w5 ⟨rfl, rfl⟩)
      | (go_at_call 58; refine cF.out.mono ?_; rintro r w5 ⟨L', x, rfl, hS5, hG5, hN5, hY5, hz5⟩))
    go_ret
    exact SR.from hB.out ⟨L', x, rfl, hS5, hG5, hN5, hY5, hz5⟩
  by_cases k9 : k = 9
  · subst k9
    have hw : IntKind.u32.wrap e = ((e % 4294967296).toNat : Int) := by
      have : IntKind.u32.wrap e = e % 4294967296 := by rfl
      rw [this]; omega
    have hw2 : e % 4294967296 = ((e % 4294967296).toNat : Int) := by omega
    have cF := Lib.hid (by have := hS.out.seal2 hL (e % 4294967296).toNat (by omega) (pkI l a) (pkI l b); rw [hgh.out a, hgh.out b] at this; exact this)
    have e0 := Lib.hid (show mkT os 9 a b e s = sealT (pkO os a) (e % 4294967296).toNat (pkO os b) from rfl)
    generalize (e % 4294967296).toNat = q at *
    clear hM hrow hS hgh hglh
    go_wp2_with (go_at_call 60; refine cF.out.mono ?_; rintro r w5 ⟨L', x, rfl, hS5, hG5, hN5, hY5, hz5⟩)
    go_ret
    exact e0.out.symm ▸ SR.from hB.out ⟨L', x, rfl, hS5, hG5, hN5, hY5, hz5⟩
  by_cases k10 : k = 10
  · subst k10
    have cR := Lib.hid (run_any (c := c) (d := d) a b w4 hn hM.out)
    unfold madeV RunR at cR
    have hrn := runN_le a b l.length
    have cF := Lib.hid (fun (A : Option Addr) (c : Nat) (W : World) (hb : Below w4.heap.size w4 W) (hA : Ints W A (runN a b l.length) (runL a b l)) => (by
      have := (hS.out.keep hb).list hL (runL a b l) A (runN a b l.length) c (by omega) hA
      rw [hglh.out] at this
      exact this : Calls Tryz.prog 62 #[.pointer (some ⟨g, 0, none⟩), .slice A (runN a b l.length) c] W (SR w0 g W L (listT (runL a b os)))))
    clear hM hS hgh hglh
    go_wp2_with (first
      | (refine wpList_load_at 31 _ rfl rfl w.heap.size 0 rfl [.slice A n c, .slice B n d] _ hrow.out Tryz.underlying31 rfl (by kernel_rfl) ?_)
      | (go_at_call 61; refine cR.out.mono ?_; rintro r w5 ⟨A5, c5, B5, d5, rfl, hM5, hb5⟩)
      | (go_at_call 62; refine (cF.out A5 c5 w5 hb5 hM5.ids).mono ?_; rintro r w6 ⟨L', x, rfl, hS5, hG5, hN5, hY5, hz5⟩))
    go_ret
    exact SR.from (hB.out.trans (hb5.mono hB.out.size)) ⟨L', x, rfl, hS5, hG5, hN5, hY5, hz5⟩
  have e0 := Lib.hid (show mkT os k a b e s = none by unfold mkT; simp only [k1, k2, k3, k4, k5, k6, k7, k8, k9, k10, if_false])
  have e9 := Lib.hid (SR.none_ hS.out hB.out)
  clear hM hrow hS hgh hglh
  go_wp2_with fail
  go_ret
  exact e0.out.symm ▸ e9.out
end

section
open Go.RowKit

/-- The numbers l name the terms os in L. -/
structure NmL (L : List Tm) (l : List Int) (os : List (Option Tm)) : Prop where
  len : l.length = os.length
  nm : ∀ (i : Nat) (x : Int) (o : Option Tm), l[i]? = some x → os[i]? = some o → Nm L x o
theorem NmL.nil_ (L : List Tm) : NmL L [] [] := ⟨rfl, fun i x o h => by simp at h⟩
theorem NmL.app {L r : List Tm} {l : List Int} {os : List (Option Tm)} (h : NmL L l os) : NmL (L ++ r) l os := ⟨h.len, fun i x o h1 h2 => (h.nm i x o h1 h2).app⟩
theorem NmL.grow {L L' : List Tm} {l : List Int} {os : List (Option Tm)} {o : Option Tm} (h : NmL L l os) (hg : Grow L L' o) : NmL L' l os := by
  obtain ⟨r, rfl⟩ := hg.pre
  exact h.app
theorem NmL.snoc {L : List Tm} {l : List Int} {os : List (Option Tm)} {x : Int} {o : Option Tm} (h : NmL L l os) (hx : Nm L x o) : NmL L (l ++ [x]) (os ++ [o]) := by
  refine ⟨by simp [h.len], fun i y p h1 h2 => ?_⟩
  by_cases hi : i < l.length
  · rw [List.getElem?_append_left hi] at h1
    rw [List.getElem?_append_left (by rw [← h.len]; exact hi)] at h2
    exact h.nm i y p h1 h2
  · rw [List.getElem?_append_right (by omega)] at h1
    rw [List.getElem?_append_right (by rw [← h.len]; omega), ← h.len] at h2
    have h0 : i - l.length = 0 := by
      have := (List.getElem?_eq_some_iff.1 h1).1
      simp at this
      omega
    rw [h0] at h1 h2
    obtain rfl : x = y := by simpa using h1
    obtain rfl : o = p := by simpa using h2
    exact hx
theorem NmL.pick {L : List Tm} {l : List Int} {os : List (Option Tm)} (h : NmL L l os) (i : Int) : get L (pkI l i) = pkO os i := by
  unfold pkI pkO
  split
  · exact get_neg (by decide)
  · cases hx : l[i.toNat]? with
    | none =>
      have hn : os[i.toNat]? = none := by
        rw [List.getElem?_eq_none_iff] at hx ⊢
        rw [← h.len]; exact hx
      rw [hn]
      exact get_neg (by decide)
    | some x =>
      have hl := (List.getElem?_eq_some_iff.1 hx).1
      obtain ⟨o, ho⟩ : ∃ o, os[i.toNat]? = some o := ⟨os[i.toNat]'(by rw [← h.len]; exact hl), List.getElem?_eq_getElem _⟩
      rw [ho]
      exact (h.nm _ x o hx ho).1
theorem NmL.map_ {L : List Tm} {l : List Int} {os : List (Option Tm)} (h : NmL L l os) : l.map (get L) = os := by
  refine List.ext_getElem? fun i => ?_
  rw [List.getElem?_map]
  cases hx : l[i]? with
  | none =>
    rw [List.getElem?_eq_none_iff] at hx
    rw [List.getElem?_eq_none (by rw [← h.len]; exact hx)]
    rfl
  | some x =>
    have hl := (List.getElem?_eq_some_iff.1 hx).1
    obtain ⟨o, ho⟩ : ∃ o, os[i]? = some o := ⟨os[i]'(by rw [← h.len]; exact hl), List.getElem?_eq_getElem _⟩
    rw [ho]
    exact congrArg some (h.nm i x o hx ho).1
theorem NmL.run {L : List Tm} {l : List Int} {os : List (Option Tm)} (h : NmL L l os) (a b : Int) : (runL a b l).map (get L) = runL a b os := by
  unfold runL
  rw [List.map_take, List.map_drop, h.map_, h.len]
theorem NmL.of {L : List Tm} {l : List Int} {os : List (Option Tm)} (h : NmL L l os) {o : Option Tm} (ho : o ∈ os) : ∃ x, Nm L x o := by
  obtain ⟨i, hi⟩ := List.getElem?_of_mem ho
  have hl := (List.getElem?_eq_some_iff.1 hi).1
  exact ⟨_, h.nm i _ o (List.getElem?_eq_getElem (by rw [h.len]; exact hl)) hi⟩
theorem NmL.ok {L : List Tm} {l : List Int} {os : List (Option Tm)} (h : NmL L l os) (hG : Good L) : ∀ o ∈ os, okO o := fun o ho => by
  obtain ⟨x, hx⟩ := h.of ho
  rw [← hx.1]
  exact hG.okO x
theorem NmL.small {L : List Tm} {l : List Int} {os : List (Option Tm)} (h : NmL L l os) (hG : Good L) : ∀ o ∈ os, (encO o).length ≤ 131072 := fun o ho => by
  obtain ⟨x, hx⟩ := h.of ho
  rw [← hx.1]
  cases hg : get L x with
  | none => decide
  | some t =>
    have hm := get_mem hg
    have := hG.size t hm
    exact this
end

section
open Go.RowKit

def maxI : List Int → Int → Int
  | [], m => m
  | x :: r, m => maxI r (if m < x then x else m)
theorem maxI_app (l : List Int) (x m : Int) : maxI (l ++ [x]) m = if maxI l m < x then x else maxI l m := by
  induction l generalizing m with
  | nil => rfl
  | cons y r ih => exact ih _
structure MadeL (L : List Tm) (l : List Int) (os : List (Option Tm)) : Prop extends NmL L l os where
  most : maxI l (-1) + 1 = L.length
  step : ∀ (i : Nat) (x : Int), l[i]? = some x → x ≤ maxI (l.take i) (-1) + 1
theorem MadeL.nil_ : MadeL [] [] [] := { NmL.nil_ [] with most := rfl, step := fun i x h => by simp at h }
theorem MadeL.snoc {L L' : List Tm} {l : List Int} {os : List (Option Tm)} {o : Option Tm} {x : Int} (h : MadeL L l os) (hG : Good L') (hg : Grow L L' o) (hx : Nm L' x o) : MadeL L' (l ++ [x]) (os ++ [o]) := by
  have hm := h.most
  have hlt := hx.lt
  have hle : x ≤ L.length := by
    have := hg.len
    omega
  refine { (h.toNmL.grow hg).snoc hx with most := ?_, step := fun i y hy => ?_ }
  · rw [maxI_app]
    rcases hg with ⟨rfl, _⟩ | ⟨t, rfl, hn, rfl⟩
    · rw [if_neg (by omega)]; exact hm
    · have hxt : x = L.length := by
        obtain ⟨j, rfl, hj⟩ := get_some hx.1
        have h2 : (L ++ [t])[L.length]? = some t := by simp
        rw [once_inj hG.once hj h2]
      rw [if_pos (by omega), hxt, List.length_append]
      simp
  · by_cases hi : i < l.length
    · rw [List.getElem?_append_left hi] at hy
      rw [List.take_append_of_le_length (by omega)]
      exact h.step i y hy
    · rw [List.getElem?_append_right (by omega)] at hy
      have h0 : i - l.length = 0 := by
        have := (List.getElem?_eq_some_iff.1 hy).1
        simp at this
        omega
      rw [h0] at hy
      obtain rfl : x = y := by simpa using hy
      rw [show i = l.length by omega, List.take_left]
      omega
end

section
open Go.RowKit

noncomputable def ldMd (a : Addr) : Sem Value := loadVar 31 a
theorem ldMd_eq (a : Addr) : loadVar 31 a = ldMd a := rfl
theorem ldMd_run {w : World} {b o : Nat} {A B : Option Addr} {n m c d : Nat} (h : w.rangeAt b o [.slice A n c, .slice B m d]) : (ldMd ⟨b, o, none⟩).run Tryz.prog w = .ok (.agg #[.slice A n c, .slice B m d]) w := by
  unfold ldMd
  exact run_loadVar_mid (P := Tryz.prog) w b o 31 [.slice A n c, .slice B m d] _ h Tryz.underlying31 rfl (by kernel_rfl)
noncomputable def ldMk (a : Addr) : Sem Value := loadVar 67 a
theorem ldMk_eq (a : Addr) : loadVar 67 a = ldMk a := rfl
theorem ldMk_run {w : World} {b o : Nat} {k a x y : Int} {s : List UInt8} (h : w.rangeAt b o (mkRow k a x y s)) : (ldMk ⟨b, o, none⟩).run Tryz.prog w = .ok (.agg (mkRow k a x y s).toArray) w := by
  unfold ldMk
  exact run_loadVar_mid (P := Tryz.prog) w b o 67 (mkRow k a x y s) _ h Tryz.underlying67 rfl (by kernel_rfl)
theorem OwnR.stay {w W : World} {base k : Nat} {E : TypeId} {v : Value} {zs : List (List Value)} (h : OwnR w base k E v zs) (hs : Stay w W) (h1 : E ≠ 64) (h2 : E ≠ 52) (h3 : E ≠ 3) : OwnR W base k E v zs := by
  refine ⟨⟨h.1.1, ?_⟩, h.2⟩
  rcases h.1.2 with hn | ⟨g, cap, cur, e, hg, hc, r⟩
  · exact .inl hn
  · exact .inr ⟨g, cap, cur, e, hg, hs g cur E _ hc h1 h2 h3, r⟩
theorem OwnD.stay {w W : World} {base : Nat} {v : Value} {l : List Int} (h : OwnD w base v l) (hs : Stay w W) : OwnD W base v l := OwnR.stay h hs (by decide) (by decide) (by decide)
theorem OwnS.stay {w W : World} {base : Nat} {v : Value} {l : List ByteArray} (h : OwnS w base v l) (hs : Stay w W) : OwnS W base v l := OwnR.stay h hs (by decide) (by decide) (by decide)
end

section
open Go.RowKit Go.ChangeShapes Go.WideShapes

def Mk.row (x : Mk) : List Value := mkRow x.k x.a x.b x.c x.s
def mkDs : List TypeDesc := [.int .i64, .int .i64, .int .i64, .int .i64, .string]
theorem mk_flat : flatDesc Tryz.prog 3 67 = some mkDs := by kernel_rfl
theorem bs_of (s : ByteArray) : s = bs s.data.toList := rfl
theorem mks_of_rows : ∀ (zs : List (List Value)), (∀ z ∈ zs, allOk mkDs z) → ∃ l : List Mk, zs = l.map Mk.row
  | [], _ => ⟨[], rfl⟩
  | z :: r, h => by
    obtain ⟨hl, hc⟩ := h z (by simp)
    match z, hl with
    | [c0, c1, c2, c3, c4], _ =>
      obtain ⟨x0, rfl, _⟩ := hc 0 _ _ rfl rfl
      obtain ⟨x1, rfl, _⟩ := hc 1 _ _ rfl rfl
      obtain ⟨x2, rfl, _⟩ := hc 2 _ _ rfl rfl
      obtain ⟨x3, rfl, _⟩ := hc 3 _ _ rfl rfl
      obtain ⟨x4, rfl, _⟩ := hc 4 _ _ rfl rfl
      obtain ⟨l, rfl⟩ := mks_of_rows r (fun y hy => h y (by simp [hy]))
      exact ⟨⟨x0, x1, x2, x3, x4.data.toList⟩ :: l, rfl⟩
set_option maxRecDepth 100000 in
theorem open_makes {H : Type} {enc : TypeId × Value → H} {w : World} {base : Nat} {spare : Nat → Bool} {held : Bool} {r : Reach} {b0 : Nat} {v : Value} {d : DataW H} {ps : List MemPlace}
    (hv : Value.okWide Tryz.prog w r b0 22 v) (h : DataW.Trod enc Tryz.prog w base spare held 22 v d ps) :
    ∃ (A : Option Addr) (n c : Nat) (L : List Mk), v = .slice A n c ∧ n ≤ 9223372036854775807 ∧ Rws w 5 A n (L.map Mk.row) := by
  obtain ⟨a, len, cap, rfl⟩ := okWide_slice Tryz.underlying22 hv
  obtain ⟨fuel, hf⟩ := h
  obtain ⟨A, n, c, zs, hcs, hl, hm, hr, hok⟩ := open_rows Tryz.underlying22 mk_flat (by kernel_rfl) (by decide) hf
  obtain ⟨L, rfl⟩ := mks_of_rows zs hok
  have : Value.slice a len cap = .slice A n c := by simpa [Value.cells] using hcs
  unfold maxLen at hm
  exact ⟨A, n, c, L, this, by omega, hr⟩
end

section
open Go.RowKit

def fewB (L : List Mk) (most : Int) : Bool := decide ((L.length : Int) ≤ most) && L.all fun x => decide (x.s.length ≤ 200)
theorem fewB_iff {L : List Mk} {most : Int} : fewB L most = true ↔ (L.length : Int) ≤ most ∧ ∀ x ∈ L, x.s.length ≤ 200 := by
  unfold fewB
  simp
set_option maxRecDepth 100000 in
set_option maxHeartbeats 2000000 in
theorem few_any (L : List Mk) (A : Option Addr) (n c : Nat) (most : Int) (w : World) (hn : n ≤ 9223372036854775807) (H : Rws w 5 A n (L.map Mk.row)) :
    Calls Tryz.prog 25 #[.slice A n c, .int .i64 most] w fun r w' => r = .returned (.bool (fewB L most)) ∧ w = w' := by
  have hl : L.length = n := by have := H.1; simpa using this
  by_cases hm : most < (n : Int)
  · have e := Lib.hid (show fewB L most = false by
      rw [Bool.eq_false_iff]; intro h; have := (fewB_iff.1 h).1; omega)
    clear hl H
    go_enter Tryz.func25, Tryz.ntmps25
    go_wp2_with fail
    go_ret
    exact ⟨ret_bool e.out.symm, rfl⟩
  have h0 : Hid (∀ x ∈ L.take 0, x.s.length ≤ 200) := by intro x hx; simp at hx
  have hlh := Lib.hid hl
  have Hh := Lib.hid H
  clear hl H
  go_enter Tryz.func25, Tryz.ntmps25
  go_wp2_with fail
  go_loopw [5] (fun iv wr => ∃ j : Nat, j ≤ n ∧ iv = .int .i64 j ∧ Hid (∀ x ∈ L.take j, x.s.length ≤ 200) ∧ wr = w) (fun iv _ => n - (intOf iv).toNat)
  case atStart => exact ⟨0, by omega, rfl, h0, rfl⟩
  case round =>
    clear h0
    obtain ⟨j, hj, rfl, hp, rfl⟩ := hrel
    by_cases hlt : j < n
    · obtain ⟨b, off, z, rfl, hb, hz, _, hr⟩ := Hh.out.row hlt
      rw [List.getElem?_map] at hz
      obtain ⟨x, hx⟩ : ∃ x, L[j]? = some x := ⟨L[j]'(by have := hlh.out; omega), List.getElem?_eq_getElem (by have := hlh.out; omega)⟩
      rw [hx] at hz
      have hz : x.row = z := Option.some.inj hz
      subst hz
      have hc := hr 4 _ rfl
      have hzs := bs_size x.s
      have htk := take_succ_of hx
      have hmem := List.mem_of_getElem? hx
      generalize bs x.s = y at *
      by_cases h2 : 200 < x.s.length
      · have e := Lib.hid (show fewB L most = false by
          rw [Bool.eq_false_iff]; intro h; have := (fewB_iff.1 h).2 x hmem; omega)
        have hy : 200 < y.size := by omega
        clear hr hx htk hmem hzs
        go_wp2_with fail
        go_ret
        exact ⟨ret_bool e.out.symm, rfl⟩
      · have hy : ¬ 200 < y.size := by omega
        have hnext : Hid (∀ z ∈ L.take (j + 1), z.s.length ≤ 200) := by
          intro z hz
          rw [htk] at hz
          rcases List.mem_append.1 hz with hz | hz
          · exact hp.out z hz
          · obtain rfl := List.mem_singleton.1 hz; omega
        clear hr hx htk hmem hzs
        go_wp2_with fail
        go_roundw
        case rel => exact ⟨j + 1, by omega, by go_num, hnext, (by first | rfl | trivial)⟩
        case measure => simp [intOf]; omega
    · have e := Lib.hid (show fewB L most = true by
        rw [fewB_iff]
        refine ⟨by have := hlh.out; omega, ?_⟩
        have := hp.out
        rwa [List.take_of_length_le (by have := hlh.out; omega)] at this)
      clear hp
      go_wp2_with fail
      go_ret
      exact ⟨ret_bool e.out.symm, rfl⟩
end

section
open Go.RowKit Go.Maps

section
variable {P : Program} {ops : Array Oper} {Q : Exit → Act → World → Prop} {a : Act} {w : World} {rest : List Oper} {o : Oper}
theorem wpList_append_one_at (hgd : o.guard = none) (s x : Operand) (t : TypeId)
    (ho : o.op = .call { callee := .builtin .append, args := #[s, x], argTypes := #[t, t] })
    (e : TypeId) (i : TypeInfo) (z : Value) (size bytes : Nat) (ht : P.underlying t = some (.slice e)) (hi : P.info? e = some i) (hz : i.zero = some z)
    (hsize : i.size = size) (hby : i.bytes = bytes) (hzs : z.cells.size = size) (hsz : 0 < size)
    (base : Nat) (hB : base ≤ w.heap.size) (v : Value) (zs : List (List Value)) (hs : a.eval s = v) (hown : OwnR w base size e v zs)
    (g c : Nat) (row : List Value) (hx : a.eval x = .slice (some ⟨g, 0, none⟩) 1 c) (hrow : w.rangeAt g 0 row) (hl : row.length = size) (h1 : ∀ u ∈ row, u.oneCell' = true)
    (h63 : zs.length + 1 ≤ maxLen) (hbytes : (zs.length + 1) * bytes ≤ 140737488355328)
    (h : ∀ v' w', OwnR w' base size e v' (zs ++ [row]) → w.grownBy w' v.ownBlock → (v'.ownBlock = v.ownBlock ∨ v'.ownBlock = some w.heap.size) → wpList P ops Q rest (a.put o.dst v') w') : wpList P ops Q (o :: rest) a w := by
  refine wpList_append_own_at w hgd s x t ho base e i z size bytes ht hi hz hsize hby hzs hsz v zs.length zs.flatten hs hown.1 ⟨g, 0, none⟩ 1 c row hx (by rw [hl, Nat.one_mul])
    (fun j u hu => by rw [Addr.add_mid]; exact hrow j u hu) h1 h63 hbytes hB ?_
  intro v' w' hown' hg _ hat
  refine h v' w' ⟨by simpa [List.length_append, List.flatten_append] using hown', fun z hz => ?_⟩ hg hat
  rcases List.mem_append.1 hz with hz | hz
  · exact hown.2 z hz
  · simp only [List.mem_singleton] at hz
    subst hz
    exact hl
end
/-- The blocks of a slice. -/
def inV (v : Value) : Nat → Prop := fun q => v.ownBlock = some q
theorem OwnD.typ {w : World} {base : Nat} {v : Value} {l : List Int} (h : OwnD w base v l) {q : Nat} (hq : inV v q) : Typ w q 33 := OwnR.typ h hq
theorem has_typ {w : World} {B : Nat} {A : Ar} (H : Arena w B A) {q : Nat} {t : TypeId} (h : A.has q) (hT : Typ w q t) : t = 64 ∨ t = 52 ∨ t = 3 := by
  by_cases h1 : t = 64
  · exact .inl h1
  by_cases h2 : t = 52
  · exact .inr (.inl h2)
  by_cases h3 : t = 3
  · exact .inr (.inr h3)
  exfalso
  rcases h with rfl | rfl | h | h
  · exact hT.ne ⟨_, _, H.blk⟩ h1 rfl
  · obtain ⟨D, ⟨es, cl, hb, _⟩, _⟩ := H.map
    exact hT.no_map hb rfl
  · exact hT.ne (H.nodes.typ h) h2 rfl
  · exact hT.ne (OwnR.typ H.sizes h) h3 rfl
theorem OffE.app {w0 : World} {g : Nat} {W W' : World} {L : List Tm} {v v' : Value} (h : St w0 g W L) (h' : St w0 g W' L) (hk : ∀ A, A.g = g → Arena W w0.heap.size A → Arena W' w0.heap.size A) (ho : OffE W g (inV v)) (hat : v'.ownBlock = v.ownBlock ∨ v'.ownBlock = some W.heap.size) : OffE W' g (inV v') := by
  obtain ⟨A, h1, h2, H, hB⟩ := h
  refine ⟨_, A, hk A h1 H, h1, fun x hx B n c hv hn q hq hf => ?_⟩
  rcases hat with e | e
  · exact ho.at_ H h1 x hx B n c hv hn q hq (by unfold inV at hf ⊢; rw [← e]; exact hf)
  · unfold inV at hf
    rw [e] at hf
    have := (H.ids x hx).lt hq (by
      obtain ⟨A', c', hv', _⟩ := H.ids x hx
      rw [hv] at hv'
      injection hv' with q1 q2 q3
      rw [← q2]; exact hn)
    have := Option.some.inj hf
    omega
/-- An append to a slice of numbers of terms in which no node's numbers lie. -/
theorem St.app {w0 : World} {g : Nat} {W W' : World} {L : List Tm} {base : Nat} {v v' : Value} {zs : List (List Value)} (h : St w0 g W L) (ho : OffE W g (inV v)) (hO : OwnR W base 1 33 v zs) (hb : w0.heap.size ≤ base)
    (hg : W.grownBy W' v.ownBlock) (hat : v'.ownBlock = v.ownBlock ∨ v'.ownBlock = some W.heap.size) : St w0 g W' L ∧ OffE W' g (inV v') := by
  have h0 := h
  obtain ⟨A, h1, h2, H, hB⟩ := h
  have hk : Keeps (inV v) W W' := Keeps.of_grown hg fun q hq => hq
  have hA : ∀ A, A.g = g → Arena W w0.heap.size A → Arena W' w0.heap.size A := fun A h1 H => H.keepO hk (fun q hq hf => by
    rcases has_typ H hq (OwnR.typ hO hf) with e | e | e <;> exact absurd e (by decide)) (ho.at_ H h1)
  have h9 : St w0 g W' L := ⟨A, h1, h2, hA A h1 H, hB.trans (hk.below (fun q hq => Nat.le_trans hb (hO.1.lt q hq).1) hB.size)⟩
  exact ⟨h9, OffE.app h0 h9 hA ho hat⟩
/-- An append to a slice of another type. -/
theorem St.app2 {w0 : World} {g : Nat} {W W' : World} {L : List Tm} {base k : Nat} {E : TypeId} {v u : Value} {zs : List (List Value)} (h : St w0 g W L) (ho : OffE W g (inV u)) (hO : OwnR W base k E v zs) (hb : w0.heap.size ≤ base)
    (hg : W.grownBy W' v.ownBlock) (h1 : E ≠ 64) (h2 : E ≠ 52) (h3 : E ≠ 3) (h4 : E ≠ 33) : St w0 g W' L ∧ OffE W' g (inV u) := by
  have hk : Keeps (inV v) W W' := Keeps.of_grown hg fun q hq => hq
  have hA : ∀ {B : Nat} {A : Ar}, Arena W B A → Arena W' B A := fun H => H.keepF hk (fun q hq hf => by
    rcases has_typ H hq (OwnR.typ hO hf) with e | e | e
    · exact h1 e
    · exact h2 e
    · exact h3 e) (fun q cur fr hq hf => (show Typ W q _ from ⟨_, _, hq⟩).ne (OwnR.typ hO hf) (Ne.symm h4) rfl)
  obtain ⟨A, e1, e2, H, hB⟩ := h
  obtain ⟨B, A2, H2, e3, ho2⟩ := ho
  exact ⟨⟨A, e1, e2, hA H, hB.trans (hk.below (fun q hq => Nat.le_trans hb (hO.1.lt q hq).1) hB.size)⟩, ⟨B, A2, hA H2, e3, ho2⟩⟩
end

section
open Go.RowKit Go.Maps

/-- What Makes has of its own: numbers l, texts ts, in the block b5; the block b4 of its result. -/
structure KB (W : World) (B b4 b5 g : Nat) (vI vT : Value) (l : List Int) (ts : List ByteArray) : Prop where
  ids : OwnD W B vI l
  txt : OwnS W B vT ts
  blk : W.heap[b5]? = some (.cells #[vI, vT] 31 (0, 0))
  ret : W.heap[b4]? = some (.cells #[.slice none 0 0, .slice none 0 0] 31 (0, 0))
  off : OffE W g (inV vI)
  hB : B ≤ b5
  ne : b4 ≠ b5
section
variable {W W' : World} {B b4 b5 g : Nat} {vI vT : Value} {l : List Int} {ts : List ByteArray}
theorem KB.step (h : KB W B b4 b5 g vI vT l ts) (hs : Stay W W') (hf : Fresh g W W') : KB W' B b4 b5 g vI vT l ts :=
  ⟨h.ids.stay hs, h.txt.stay hs, hs b5 _ _ _ h.blk (by decide) (by decide) (by decide), hs b4 _ _ _ h.ret (by decide) (by decide) (by decide), hf.1 _ (fun q hq => (OwnR.typ h.ids hq).elim fun _ h => h.elim fun _ h => (Array.getElem?_eq_some_iff.1 h).1) h.off, h.hB, h.ne⟩
theorem KB.below (h : KB W B b4 b5 g vI vT l ts) (hb : Below W.heap.size W W') : KB W' B b4 b5 g vI vT l ts := h.step (Stay.of_below hb) (Fresh.of_below hb)
theorem KB.shape (h : KB W B b4 b5 g vI vT l ts) : ∃ A c B' d, vI = .slice A l.length c ∧ vT = .slice B' ts.length d ∧ Ints W A l.length l ∧ Strs W B' ts.length ts := by
  obtain ⟨A, c, e, hi⟩ := h.ids.ints
  obtain ⟨B', d, e', ht⟩ := h.txt.strs
  exact ⟨A, c, B', d, e, e', hi, ht⟩
theorem KB.made {n : Nat} {A B' : Option Addr} {c d : Nat} {os : List (Option Tm)} (h : KB W B b4 b5 g (.slice A n c) (.slice B' n d) l (os.map fun o => bs (encO o))) : MadeW W A B' n l os := by
  obtain ⟨A1, c1, B1, d1, e, e', hi, ht⟩ := h.shape
  injection e with e1 e2 e3
  injection e' with e4 e5 e6
  subst e1
  subst e4
  refine ⟨?_, ?_⟩
  · rw [e2]; exact hi
  · rw [e5]; exact ht
/-- A number more: the append, and its store. -/
theorem KB.app1 {w0 : World} {L : List Tm} {w5 : World} {v2 : Value} {x : Int} {zs : List (List Value)} (h : KB W B b4 b5 g vI vT l ts) (hS : St w0 g W L) (hw : w0.heap.size ≤ B)
    (hz : zs = l.map iv) (hO : OwnR w5 B 1 33 v2 (zs ++ [[.int .i64 x]])) (hg : (W.alloc (.cells #[.int .i64 x] 33)).grownBy w5 vI.ownBlock) (hat : v2.ownBlock = vI.ownBlock ∨ v2.ownBlock = some (W.alloc (.cells #[.int .i64 x] 33)).heap.size) :
    w5.heap[b5]? = some (.cells #[vI, vT] 31 (0, 0)) ∧ KB (w5.setCell ⟨b5, 0, none⟩ v2) B b4 b5 g v2 vT (l ++ [x]) ts ∧ St w0 g (w5.setCell ⟨b5, 0, none⟩ v2) L ∧ W.heap.size ≤ (w5.setCell ⟨b5, 0, none⟩ v2).heap.size := by
  subst hz
  have hb1 := below_new W (.cells #[.int .i64 x] 33)
  have h1 := h.below hb1
  have hS1 := hS.keep hb1
  have hrow : ∀ q, vI.ownBlock = some q → Typ (W.alloc (.cells #[.int .i64 x] 33)) q 33 := fun q hq => OwnR.typ h1.ids hq
  obtain ⟨hS5, ho5⟩ := hS1.app h1.off h1.ids hw hg hat
  have k5 := block_grown h1.blk hg hrow (by decide)
  have k4 := block_grown h1.ret hg hrow (by decide)
  have hT5 := OwnR.grown_ h1.txt hg hrow (by decide)
  have hst := grown_set w5 ⟨b5, 0, none⟩ v2
  have hty : ∀ q, some b5 = some q → Typ w5 q 31 := fun q hq => by injection hq with hq; subst hq; exact ⟨_, _, k5⟩
  have hOM : OwnR w5 b5 2 31 (.slice (some ⟨b5, 0, none⟩) 1 1) [[vI, vT]] := by
    refine ⟨⟨by simp, .inr ⟨b5, 1, #[vI, vT], rfl, Nat.le_refl _, k5, Nat.le_refl _, by unfold maxLen; omega, by simp, by simp⟩⟩, by simp⟩
  obtain ⟨hS6, ho6⟩ := hS5.app2 ho5 hOM (Nat.le_trans hw h.hB) hst (by decide) (by decide) (by decide) (by decide)
  refine ⟨k5, ⟨?_, OwnR.grown_ hT5 hst hty (by decide), ?_, ?_, ho6, h.hB, h.ne⟩, hS6, ?_⟩
  · have := OwnR.grown_ hO hst hty (by decide)
    unfold OwnD
    rw [List.map_append]
    exact this
  · rw [heap_setCell_same w5 b5 0 _ _ _ k5]; rfl
  · exact (heap_setCell_other w5 ⟨b5, 0, none⟩ b4 v2 h.ne).trans k4
  · have := hg.size
    have := hb1.size
    simp [World.setCell]
    omega
/-- A text more. -/
theorem KB.app2 {w0 : World} {L : List Tm} {w5 : World} {v2 : Value} {x : ByteArray} {zs : List (List Value)} (h : KB W B b4 b5 g vI vT l ts) (hS : St w0 g W L) (hw : w0.heap.size ≤ B)
    (hz : zs = ts.map sv) (hO : OwnR w5 B 1 9 v2 (zs ++ [[.string x]])) (hg : (W.alloc (.cells #[.string x] 9)).grownBy w5 vT.ownBlock) :
    w5.heap[b5]? = some (.cells #[vI, vT] 31 (0, 0)) ∧ KB (w5.setCell ⟨b5, 1, none⟩ v2) B b4 b5 g vI v2 l (ts ++ [x]) ∧ St w0 g (w5.setCell ⟨b5, 1, none⟩ v2) L ∧ W.heap.size ≤ (w5.setCell ⟨b5, 1, none⟩ v2).heap.size := by
  subst hz
  have hb1 := below_new W (.cells #[.string x] 9)
  have h1 := h.below hb1
  have hS1 := hS.keep hb1
  have hrow : ∀ q, vT.ownBlock = some q → Typ (W.alloc (.cells #[.string x] 9)) q 9 := fun q hq => OwnR.typ h1.txt hq
  obtain ⟨hS5, ho5⟩ := hS1.app2 h1.off h1.txt hw hg (by decide) (by decide) (by decide) (by decide)
  have k5 := block_grown h1.blk hg hrow (by decide)
  have k4 := block_grown h1.ret hg hrow (by decide)
  have hT5 := OwnR.grown_ h1.ids hg hrow (by decide)
  have hst := grown_set w5 ⟨b5, 1, none⟩ v2
  have hty : ∀ q, some b5 = some q → Typ w5 q 31 := fun q hq => by injection hq with hq; subst hq; exact ⟨_, _, k5⟩
  have hOM : OwnR w5 b5 2 31 (.slice (some ⟨b5, 0, none⟩) 1 1) [[vI, vT]] := by
    refine ⟨⟨by simp, .inr ⟨b5, 1, #[vI, vT], rfl, Nat.le_refl _, k5, Nat.le_refl _, by unfold maxLen; omega, by simp, by simp⟩⟩, by simp⟩
  obtain ⟨hS6, ho6⟩ := hS5.app2 ho5 hOM (Nat.le_trans hw h.hB) hst (by decide) (by decide) (by decide) (by decide)
  refine ⟨k5, ⟨OwnR.grown_ hT5 hst hty (by decide), ?_, ?_, ?_, ho6, h.hB, h.ne⟩, hS6, ?_⟩
  · have := OwnR.grown_ hO hst hty (by decide)
    unfold OwnS
    rw [List.map_append]
    exact this
  · rw [heap_setCell_same w5 b5 1 _ _ _ k5]; rfl
  · exact (heap_setCell_other w5 ⟨b5, 1, none⟩ b4 v2 h.ne).trans k4
  · have := hg.size
    have := hb1.size
    simp [World.setCell]
    omega
/-- The result, laid in its block. -/
theorem KB.fin {w0 : World} {L : List Tm} (h : KB W B b4 b5 g vI vT l ts) (hS : St w0 g W L) (hw : w0.heap.size ≤ b4) :
    (W.setRow b4 #[vI, vT]).heap[b4]? = some (.cells #[vI, vT] 31 (0, 0)) ∧ OwnD (W.setRow b4 #[vI, vT]) B vI l ∧ OwnS (W.setRow b4 #[vI, vT]) B vT ts ∧ St w0 g (W.setRow b4 #[vI, vT]) L ∧ OffE (W.setRow b4 #[vI, vT]) g (inV vI) ∧ W.heap.size ≤ (W.setRow b4 #[vI, vT]).heap.size := by
  have hg : W.grownBy (W.setRow b4 #[vI, vT]) (some b4) := ⟨rfl, rfl, rfl, by simp [World.setRow], fun k _ hk => hsetRow_off (fun e => hk (by rw [e])) _⟩
  have hty : ∀ q, some b4 = some q → Typ W q 31 := fun q hq => by injection hq with hq; subst hq; exact ⟨_, _, h.ret⟩
  have hOM : OwnR W b4 2 31 (.slice (some ⟨b4, 0, none⟩) 1 1) [[.slice none 0 0, .slice none 0 0]] := by
    refine ⟨⟨by simp, .inr ⟨b4, 1, #[.slice none 0 0, .slice none 0 0], rfl, Nat.le_refl _, h.ret, Nat.le_refl _, by unfold maxLen; omega, by simp, by simp⟩⟩, by simp⟩
  obtain ⟨hS6, ho6⟩ := hS.app2 h.off hOM hw hg (by decide) (by decide) (by decide) (by decide)
  exact ⟨hsetRow _ _ _ _ _ _ h.ret, OwnR.grown_ h.ids hg hty (by decide), OwnR.grown_ h.txt hg hty (by decide), hS6, ho6, hg.size⟩
theorem KB.one (h : KB W B b4 b5 g vI vT l ts) : (#[vI, vT] : Array Value).all (·.oneCell') = true := by
  obtain ⟨A, c, B', d, rfl, rfl, _, _⟩ := h.shape
  simp [Value.oneCell']
end
end
end Go.Proofs.YtphnakdgpilcmaaGreatDoor
