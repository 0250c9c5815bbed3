/- The reference's from, share, Can. (printed by wip/gen_sec.py) -/
import Derived.Test.YtphnakdgpilcmaaGreatDoorCb21
import Derived.BigQuiet
namespace Go.Proofs.YtphnakdgpilcmaaGreatDoor
open Go.RowKit Go.Maps

def dsSe4a : List (Option Nat) := [some 15, some 16, some 17, some 18, some 19, some 20, some 21, some 22, some 23, some 24, some 25, some 26, some 27]
def tbSe4a : List (List Nat) := [[], [], [], [1, 2], [3], [0, 4], [], [], [], [7, 8], [9], [6, 10], [5, 11]]
def vsSe4a (b1 : Nat) (o1 : Nat) (nf : Nat) (cf : Nat) (j : Nat) (A : Option Addr) (n : Nat) (c : Nat) (E : Option Addr) (ne : Nat) (ce : Nat) (X : ByteArray) (z1 : Nat) (z2 : Nat) : List (Option Value) := [some (.slice (some ⟨b1, o1, none⟩) nf cf), some (.slice (some ⟨b1, o1, none⟩) nf cf), some (.int .i64 j), some (.pointer (some ⟨b1, o1 + j, none⟩)), some (.string X), some (.int .i64 z2), some (.slice E ne ce), some (.slice (some ⟨b1, o1, none⟩) nf cf), some (.int .i64 j), some (.pointer (some ⟨b1, o1 + j, none⟩)), some (.string X), some (.int .i64 z1), some (.bool true)]
def dsSe4b : List (Option Nat) := [some 15, some 16, some 17, some 18, some 19, some 20, some 21, some 22, some 23, some 24, some 25, some 26, some 27]
def tbSe4b : List (List Nat) := [[], [], [], [1, 2], [3], [0, 4], [], [], [], [7, 8], [9], [6, 10], [5, 11]]
def vsSe4b (b1 : Nat) (o1 : Nat) (nf : Nat) (cf : Nat) (j : Nat) (A : Option Addr) (n : Nat) (c : Nat) (E : Option Addr) (ne : Nat) (ce : Nat) (X : ByteArray) (z1 : Nat) (z2 : Nat) : List (Option Value) := [some (.slice (some ⟨b1, o1, none⟩) nf cf), some (.slice (some ⟨b1, o1, none⟩) nf cf), some (.int .i64 j), some (.pointer (some ⟨b1, o1 + j, none⟩)), some (.string X), some (.int .i64 z2), some (.slice E ne ce), some (.slice (some ⟨b1, o1, none⟩) nf cf), some (.int .i64 j), some (.pointer (some ⟨b1, o1 + j, none⟩)), some (.string X), some (.int .i64 z1), some (.bool false)]
def dsSe9a : List (Option Nat) := [some 34, some 35, some 36, some 37, some 38, some 39, some 40, some 41, some 42, some 43, some 44, some 45, some 46, some 47, some 48, some 49, some 50, some 51, some 52, some 53, some 54, some 55]
def tbSe9a : List (List Nat) := [[], [], [], [1, 2], [3], [0, 4], [], [], [], [7, 8], [9], [6, 10], [5, 11], [12], [13], [13], [13], [13, 15, 16], [13, 17], [13, 14, 18], [13, 19], [13, 20]]
def vsSe9a (b1 : Nat) (o1 : Nat) (ne : Nat) (ce : Nat) (i : Nat) (A : Option Addr) (n : Nat) (c : Nat) (F : Option Addr) (nf : Nat) (cf : Nat) (X : ByteArray) (z1 : Nat) (z2 : Nat) : List (Option Value) := [some (.slice (some ⟨b1, o1, none⟩) ne ce), some (.slice (some ⟨b1, o1, none⟩) ne ce), some (.int .i64 i), some (.pointer (some ⟨b1, o1 + i, none⟩)), some (.string X), some (.int .i64 z1), some (.slice F nf cf), some (.slice (some ⟨b1, o1, none⟩) ne ce), some (.int .i64 i), some (.pointer (some ⟨b1, o1 + i, none⟩)), some (.string X), some (.int .i64 z2), some (.bool true), some (.bool true), some (.slice A n c), some (.slice (some ⟨b1, o1, none⟩) ne ce), some (.int .i64 i), some (.pointer (some ⟨b1, o1 + i, none⟩)), some (.string X), some (.bool true), some (.bool false), some (.bool false)]
def dsSe9b : List (Option Nat) := [some 34, some 35, some 36, some 37, some 38, some 39, some 40, some 41, some 42, some 43, some 44, some 45, some 46, some 47, some 48, some 49, some 50, some 51, some 52, some 53, some 54, some 55]
def tbSe9b : List (List Nat) := [[], [], [], [1, 2], [3], [0, 4], [], [], [], [7, 8], [9], [6, 10], [5, 11], [12], [13], [13], [13], [13, 15, 16], [13, 17], [13, 14, 18], [13, 19], [13, 20]]
def vsSe9b (b1 : Nat) (o1 : Nat) (ne : Nat) (ce : Nat) (i : Nat) (A : Option Addr) (n : Nat) (c : Nat) (F : Option Addr) (nf : Nat) (cf : Nat) (X : ByteArray) (z1 : Nat) (z2 : Nat) : List (Option Value) := [some (.slice (some ⟨b1, o1, none⟩) ne ce), some (.slice (some ⟨b1, o1, none⟩) ne ce), some (.int .i64 i), some (.pointer (some ⟨b1, o1 + i, none⟩)), some (.string X), some (.int .i64 z1), some (.slice F nf cf), some (.slice (some ⟨b1, o1, none⟩) ne ce), some (.int .i64 i), some (.pointer (some ⟨b1, o1 + i, none⟩)), some (.string X), some (.int .i64 z2), some (.bool true), some (.bool true), some (.slice A n c), some (.slice (some ⟨b1, o1, none⟩) ne ce), some (.int .i64 i), some (.pointer (some ⟨b1, o1 + i, none⟩)), some (.string X), some (.bool false), some (.bool true), some (.bool true)]
def dsSe9c : List (Option Nat) := [some 34, some 35, some 36, some 37, some 38, some 39, some 40, some 41, some 42, some 43, some 44, some 45, some 46, some 47, some 48, some 49, some 50, some 51, some 52, some 53, some 54, some 55]
def tbSe9c : List (List Nat) := [[], [], [], [1, 2], [3], [0, 4], [], [], [], [7, 8], [9], [6, 10], [5, 11], [12], [13], [13], [13], [13, 15, 16], [13, 17], [13, 14, 18], [13, 19], [13, 20]]
def vsSe9c (b1 : Nat) (o1 : Nat) (ne : Nat) (ce : Nat) (i : Nat) (A : Option Addr) (n : Nat) (c : Nat) (F : Option Addr) (nf : Nat) (cf : Nat) (X : ByteArray) (z1 : Nat) (z2 : Nat) : List (Option Value) := [some (.slice (some ⟨b1, o1, none⟩) ne ce), some (.slice (some ⟨b1, o1, none⟩) ne ce), some (.int .i64 i), some (.pointer (some ⟨b1, o1 + i, none⟩)), some (.string X), some (.int .i64 z1), some (.slice F nf cf), some (.slice (some ⟨b1, o1, none⟩) ne ce), some (.int .i64 i), some (.pointer (some ⟨b1, o1 + i, none⟩)), some (.string X), some (.int .i64 z2), some (.bool false), some (.bool false), some (undef), some (undef), some (undef), some (undef), some (undef), some (undef), some (undef), some (.bool false)]
set_option maxRecDepth 100000 in
set_option maxHeartbeats 8000000 in
theorem rfrom_any (hs es os : List Tm) (A E F : Option Addr) (n c ne ce nf cf : Nat) (w : World) (hn : n ≤ 1000000) (hne : ne ≤ 1000000) (hnf : nf ≤ 1000000) (hes : ∀ u ∈ es, u.ok ∧ u.kind = 2 ∧ u.enc.length ≤ 4000000000) (hos : ∀ u ∈ os, u.ok) (hhs : ∀ u ∈ hs, u.ok)
    (H : Strs w A n (encS3 hs)) (HE : Strs w E ne (encS3 es)) (HF : Strs w F nf (encS3 os)) :
    Calls Tryz.prog 87 #[.slice A n c, .slice E ne ce, .slice F nf cf] w (RAns (fromP hs es os) w) := by
  have hel : es.length = ne := by have := HE.len; simpa [encS3] using this
  have hol : os.length = nf := by have := HF.len; simpa [encS3] using this
  have cE := Lib.hid (fun (W : World) (hb : Below w.heap.size w W) (x : Tm) (hx : x.ok) => (show Calls Tryz.prog 110 #[.slice E ne ce, .string (bs x.enc)] W fun r w' => r = .returned (.int .i64 (cnt x es)) ∧ W = w' by
    have := rcount_any (c := ce) (encS3 es) (bs x.enc) E ne W hne (HE.keep hb)
    rwa [encS3_cnt (fun u hu => (hes u hu).1) hx] at this))
  have cF := Lib.hid (fun (W : World) (hb : Below w.heap.size w W) (x : Tm) (hx : x.ok) => (show Calls Tryz.prog 110 #[.slice F nf cf, .string (bs x.enc)] W fun r w' => r = .returned (.int .i64 (cnt x os)) ∧ W = w' by
    have := rcount_any (c := cf) (encS3 os) (bs x.enc) F nf W hnf (HF.keep hb)
    rwa [encS3_cnt hos hx] at this))
  have cC := Lib.hid (fun (W : World) (hb : Below w.heap.size w W) (x : Tm) (hx : x ∈ es) => rcan_step hs A n c x hn (hes x hx).1 (hes x hx).2.2 hhs (fun h => by rw [(hes x hx).2.1] at h; cases h) (fun u hu => by
    have hk := (hes x hx).2.1
    have ho := (hes x hx).1
    obtain ⟨k, a, b, s, args⟩ := x
    have hk : k = 2 := hk
    subst hk
    have h1 := (ok_mk.1 ho).1
    simp only [okHd, reduceCtorEq, false_and, or_false, false_or, true_and, Nat.reduceEqDiff] at h1
    have h2 : args = [] := List.length_eq_zero_iff.1 (by omega)
    have hu : u ∈ args := hu
    rw [h2] at hu; cases hu) W (H.keep hb))
  have hcl := Lib.hid (fun (x : Tm) => And.intro (show cnt x es ≤ ne by rw [← hel]; exact List.length_filter_le _ _) (show cnt x os ≤ nf by rw [← hol]; exact List.length_filter_le _ _))
  have HEh := Lib.hid HE
  have HFh := Lib.hid HF
  have hesh := Lib.hid hes
  have hosh := Lib.hid hos
  have hlh := Lib.hid (And.intro hel hol)
  have h0 : Hid (Below w.heap.size w w ∧ ∀ x ∈ os.take 0, cnt x os ≤ cnt x es) := Lib.hid ⟨Below.refl _ _, fun x hx => by simp at hx⟩
  clear H HE HF hes hos hhs hel hol
  go_enter Tryz.func87, Tryz.ntmps87
  go_wp2_with fail
  go_loopw [7] (fun iv wr => ∃ j : Nat, j ≤ nf ∧ iv = .int .i64 j ∧ Hid (Below w.heap.size w wr ∧ ∀ x ∈ os.take j, cnt x os ≤ cnt x es)) (fun iv _ => nf - (intOf iv).toNat)
  case atStart => exact ⟨0, Nat.zero_le _, rfl, h0⟩
  case round =>
    clear h0
    obtain ⟨j, hj, rfl, hR⟩ := hrel
    by_cases hlt : j < nf
    · have hlt' : (j : Int) < (nf : Int) := by omega
      obtain ⟨x, hx⟩ : ∃ x, os[j]? = some x := ⟨os[j]'(by rw [hlh.out.2]; exact hlt), List.getElem?_eq_getElem _⟩
      obtain ⟨b1, o1, xs, rfl, hbl, hxs, hc0⟩ := HFh.out.at_ hlt
      have hxe : bs x.enc = xs := by
        unfold encS3 at hxs
        rw [List.getElem?_map, hx] at hxs
        exact Option.some.inj hxs
      subst hxe
      have hcell := (hR.out.1.cell (p := ⟨b1, o1 + j, none⟩) hbl).trans hc0
      have hcx := Lib.hid (fun W (hb : Below wr.heap.size wr W) => ((hR.out.1.trans (hb.mono hR.out.1.size)).cell (p := ⟨b1, o1 + j, none⟩) hbl).trans hc0)
      have hxo := hosh.out x (List.mem_of_getElem? hx)
      have q1 := fun W (hb : Below wr.heap.size wr W) => cF.out W (hR.out.1.trans (hb.mono hR.out.1.size)) x hxo
      have q2 := fun W (hb : Below wr.heap.size wr W) => cE.out W (hR.out.1.trans (hb.mono hR.out.1.size)) x hxo
      obtain ⟨l1, l2⟩ := hcl.out x
      have hmem := List.mem_of_getElem? hx
      by_cases hgt : cnt x es < cnt x os
      · have hnf := Lib.hid (show ¬ fromP hs es os from fun h => by have := h.1 x; omega)
        have g1 : decide ((cnt x es : Int) < (cnt x os : Int)) = true := decide_eq_true (by omega)
        have hRb := Lib.hid hR.out.1
        generalize cnt x es = z1 at q2 g1 l1 hgt
        generalize cnt x os = z2 at q1 g1 l2 hgt
        generalize bs x.enc = X at *
        replace q1 := Lib.hid q1
        replace q2 := Lib.hid q2
        clear hx hxs hc0 hxo hmem hR hcell
        go_upto_region 4 with fail
        refine region_iw tbSe4a dsSe4a (vsSe4a b1 o1 nf cf j A n c E ne ce X z1 z2) (fun L T W => Below wr.heap.size wr W) rfl (by decide) (by kernel_rfl) ?hlt ?hstep ?hdone ?hstart
        case hstart => exact drewN_below 1
        case hlt =>
          intro ix o ho
          have hi := (Array.getElem?_eq_some_iff.1 ho).1
          match ix, hi with
          | 0, _ => obtain rfl := Option.some.inj ho; decide
          | 1, _ => obtain rfl := Option.some.inj ho; decide
          | 2, _ => obtain rfl := Option.some.inj ho; decide
          | 3, _ => obtain rfl := Option.some.inj ho; decide
          | 4, _ => obtain rfl := Option.some.inj ho; decide
          | 5, _ => obtain rfl := Option.some.inj ho; decide
          | 6, _ => obtain rfl := Option.some.inj ho; decide
          | 7, _ => obtain rfl := Option.some.inj ho; decide
          | 8, _ => obtain rfl := Option.some.inj ho; decide
          | 9, _ => obtain rfl := Option.some.inj ho; decide
          | 10, _ => obtain rfl := Option.some.inj ho; decide
          | 11, _ => obtain rfl := Option.some.inj ho; decide
          | 12, _ => obtain rfl := Option.some.inj ho; decide
        case hstep =>
          intro T1 hE L T W ix o hF hW hc ho hLi hd K hK
          have hN : T1.size = 56 := by rw [hE]; rfl
          have f1 : T.getD 1 undef = .slice E ne ce := (hF.old 1 (by decide)).trans (by rw [hE]; rfl)
          have f2 : T.getD 2 undef = .slice (some ⟨b1, o1, none⟩) nf cf := (hF.old 2 (by decide)).trans (by rw [hE]; rfl)
          have f7 : T.getD 7 undef = .int .i64 j := (hF.old 7 (by decide)).trans (by rw [hE]; rfl)
          clear hE
          replace hF := Lib.hid hF
          replace hW := Lib.hid hW
          replace hK := Lib.hid hK
          have hi := (List.getElem?_eq_some_iff.1 ho).1
          match ix, hi with
          | 0, _ =>
            obtain rfl := Option.some.inj ho
            clear hd ho hi hc hLi
            exact st_val (v := .slice (some ⟨b1, o1, none⟩) nf cf) (w' := W) (want_none rfl) (by unfold execOp; dsimp only [Act.eval]; simp only [f2]; go_simp) (hK.out _ _ (hF.out.put (k := 0) (s := 15) rfl (by decide) hN (by decide) (fun u_v hu => Option.some.inj (Option.some.inj (show some (some (.slice (some ⟨b1, o1, none⟩) nf cf)) = some (some u_v) from hu))) hW.out))
          | 1, _ =>
            obtain rfl := Option.some.inj ho
            clear hd ho hi hc hLi
            exact st_val (v := .slice (some ⟨b1, o1, none⟩) nf cf) (w' := W) (want_none rfl) (by unfold execOp; dsimp only [Act.eval]; simp only [f2]; go_simp) (hK.out _ _ (hF.out.put (k := 1) (s := 16) rfl (by decide) hN (by decide) (fun u_v hu => Option.some.inj (Option.some.inj (show some (some (.slice (some ⟨b1, o1, none⟩) nf cf)) = some (some u_v) from hu))) hW.out))
          | 2, _ =>
            obtain rfl := Option.some.inj ho
            clear hd ho hi hc hLi
            exact st_val (v := .int .i64 j) (w' := W) (want_none rfl) (by unfold execOp; dsimp only [Act.eval]; simp only [f7]; go_simp) (hK.out _ _ (hF.out.put (k := 2) (s := 17) rfl (by decide) hN (by decide) (fun u_v hu => Option.some.inj (Option.some.inj (show some (some (.int .i64 j)) = some (some u_v) from hu))) hW.out))
          | 3, _ =>
            obtain rfl := Option.some.inj ho
            have l1 : L 1 = true := dep_of hd (n := 1) (by decide)
            have e16 : T.getD 16 undef = .slice (some ⟨b1, o1, none⟩) nf cf := hF.out.val 1 16 _ l1 rfl rfl
            have l2 : L 2 = true := dep_of hd (n := 2) (by decide)
            have e17 : T.getD 17 undef = .int .i64 j := hF.out.val 2 17 _ l2 rfl rfl
            clear hd ho hi hc hLi
            exact st_val (v := .pointer (some ⟨b1, o1 + j, none⟩)) (w' := W) (want_none rfl) (by unfold execOp; dsimp only [Act.eval]; simp only [e16, e17]; go_simp) (hK.out _ _ (hF.out.put (k := 3) (s := 18) rfl (by decide) hN (by decide) (fun u_v hu => Option.some.inj (Option.some.inj (show some (some (.pointer (some ⟨b1, o1 + j, none⟩))) = some (some u_v) from hu))) hW.out))
          | 4, _ =>
            obtain rfl := Option.some.inj ho
            have l3 : L 3 = true := dep_of hd (n := 3) (by decide)
            have e18 : T.getD 18 undef = .pointer (some ⟨b1, o1 + j, none⟩) := hF.out.val 3 18 _ l3 rfl rfl
            have hcc := hcx.out W hW.out
            clear hd ho hi hc hLi
            exact st_val (v := .string X) (w' := W) (want_none rfl) (by unfold execOp; dsimp only [Act.eval]; simp only [e18]; go_simp) (hK.out _ _ (hF.out.put (k := 4) (s := 19) rfl (by decide) hN (by decide) (fun u_v hu => Option.some.inj (Option.some.inj (show some (some (.string X)) = some (some u_v) from hu))) hW.out))
          | 5, _ =>
            obtain rfl := Option.some.inj ho
            have l0 : L 0 = true := dep_of hd (n := 0) (by decide)
            have e15 : T.getD 15 undef = .slice (some ⟨b1, o1, none⟩) nf cf := hF.out.val 0 15 _ l0 rfl rfl
            have l4 : L 4 = true := dep_of hd (n := 4) (by decide)
            have e19 : T.getD 19 undef = .string X := hF.out.val 4 19 _ l4 rfl rfl
            have cc := Lib.hid (q1.out W hW.out)
            clear hd ho hi hc hLi
            refine st_call (want_none rfl) (by unfold execOp; go_simp) cc.out ?_
            rintro r wz ⟨rfl, rfl⟩
            exact ⟨_, rfl, hK.out _ _ (hF.out.put (k := 5) (s := 20) rfl (by decide) hN (by decide) (fun u_v hu => Option.some.inj (Option.some.inj (show some (some (.int .i64 z2)) = some (some u_v) from hu))) hW.out)⟩
          | 6, _ =>
            obtain rfl := Option.some.inj ho
            clear hd ho hi hc hLi
            exact st_val (v := .slice E ne ce) (w' := W) (want_none rfl) (by unfold execOp; dsimp only [Act.eval]; simp only [f1]; go_simp) (hK.out _ _ (hF.out.put (k := 6) (s := 21) rfl (by decide) hN (by decide) (fun u_v hu => Option.some.inj (Option.some.inj (show some (some (.slice E ne ce)) = some (some u_v) from hu))) hW.out))
          | 7, _ =>
            obtain rfl := Option.some.inj ho
            clear hd ho hi hc hLi
            exact st_val (v := .slice (some ⟨b1, o1, none⟩) nf cf) (w' := W) (want_none rfl) (by unfold execOp; dsimp only [Act.eval]; simp only [f2]; go_simp) (hK.out _ _ (hF.out.put (k := 7) (s := 22) rfl (by decide) hN (by decide) (fun u_v hu => Option.some.inj (Option.some.inj (show some (some (.slice (some ⟨b1, o1, none⟩) nf cf)) = some (some u_v) from hu))) hW.out))
          | 8, _ =>
            obtain rfl := Option.some.inj ho
            clear hd ho hi hc hLi
            exact st_val (v := .int .i64 j) (w' := W) (want_none rfl) (by unfold execOp; dsimp only [Act.eval]; simp only [f7]; go_simp) (hK.out _ _ (hF.out.put (k := 8) (s := 23) rfl (by decide) hN (by decide) (fun u_v hu => Option.some.inj (Option.some.inj (show some (some (.int .i64 j)) = some (some u_v) from hu))) hW.out))
          | 9, _ =>
            obtain rfl := Option.some.inj ho
            have l7 : L 7 = true := dep_of hd (n := 7) (by decide)
            have e22 : T.getD 22 undef = .slice (some ⟨b1, o1, none⟩) nf cf := hF.out.val 7 22 _ l7 rfl rfl
            have l8 : L 8 = true := dep_of hd (n := 8) (by decide)
            have e23 : T.getD 23 undef = .int .i64 j := hF.out.val 8 23 _ l8 rfl rfl
            clear hd ho hi hc hLi
            exact st_val (v := .pointer (some ⟨b1, o1 + j, none⟩)) (w' := W) (want_none rfl) (by unfold execOp; dsimp only [Act.eval]; simp only [e22, e23]; go_simp) (hK.out _ _ (hF.out.put (k := 9) (s := 24) rfl (by decide) hN (by decide) (fun u_v hu => Option.some.inj (Option.some.inj (show some (some (.pointer (some ⟨b1, o1 + j, none⟩))) = some (some u_v) from hu))) hW.out))
          | 10, _ =>
            obtain rfl := Option.some.inj ho
            have l9 : L 9 = true := dep_of hd (n := 9) (by decide)
            have e24 : T.getD 24 undef = .pointer (some ⟨b1, o1 + j, none⟩) := hF.out.val 9 24 _ l9 rfl rfl
            have hcc := hcx.out W hW.out
            clear hd ho hi hc hLi
            exact st_val (v := .string X) (w' := W) (want_none rfl) (by unfold execOp; dsimp only [Act.eval]; simp only [e24]; go_simp) (hK.out _ _ (hF.out.put (k := 10) (s := 25) rfl (by decide) hN (by decide) (fun u_v hu => Option.some.inj (Option.some.inj (show some (some (.string X)) = some (some u_v) from hu))) hW.out))
          | 11, _ =>
            obtain rfl := Option.some.inj ho
            have l6 : L 6 = true := dep_of hd (n := 6) (by decide)
            have e21 : T.getD 21 undef = .slice E ne ce := hF.out.val 6 21 _ l6 rfl rfl
            have l10 : L 10 = true := dep_of hd (n := 10) (by decide)
            have e25 : T.getD 25 undef = .string X := hF.out.val 10 25 _ l10 rfl rfl
            have cc := Lib.hid (q2.out W hW.out)
            clear hd ho hi hc hLi
            refine st_call (want_none rfl) (by unfold execOp; go_simp) cc.out ?_
            rintro r wz ⟨rfl, rfl⟩
            exact ⟨_, rfl, hK.out _ _ (hF.out.put (k := 11) (s := 26) rfl (by decide) hN (by decide) (fun u_v hu => Option.some.inj (Option.some.inj (show some (some (.int .i64 z1)) = some (some u_v) from hu))) hW.out)⟩
          | 12, _ =>
            obtain rfl := Option.some.inj ho
            have l5 : L 5 = true := dep_of hd (n := 5) (by decide)
            have e20 : T.getD 20 undef = .int .i64 z2 := hF.out.val 5 20 _ l5 rfl rfl
            have l11 : L 11 = true := dep_of hd (n := 11) (by decide)
            have e26 : T.getD 26 undef = .int .i64 z1 := hF.out.val 11 26 _ l11 rfl rfl
            clear hd ho hi hc hLi
            exact st_val (v := .bool true) (w' := W) (want_none rfl) (by unfold execOp; dsimp only [Act.eval]; simp only [e20, e26]; go_simp; try omega) (hK.out _ _ (hF.out.put (k := 12) (s := 27) rfl (by decide) hN (by decide) (fun u_v hu => Option.some.inj (Option.some.inj (show some (some (.bool true)) = some (some u_v) from hu))) hW.out))
        case hdone =>
          intro L T W2 hF hW hall
          have hB4 := Lib.hid (hRb.out.trans (hW.mono hRb.out.size))
          clear hW hcx hRb
          have hT : T = #[.slice A n c, .slice E ne ce, .slice (some ⟨b1, o1, none⟩) nf cf, undef, undef, undef, u6, .int .i64 j, undef, .int .i64 j, .slice (some ⟨b1, o1, none⟩) nf cf, .int .i64 nf, .bool true, u13, u14, .slice (some ⟨b1, o1, none⟩) nf cf, .slice (some ⟨b1, o1, none⟩) nf cf, .int .i64 j, .pointer (some ⟨b1, o1 + j, none⟩), .string X, .int .i64 z2, .slice E ne ce, .slice (some ⟨b1, o1, none⟩) nf cf, .int .i64 j, .pointer (some ⟨b1, o1 + j, none⟩), .string X, .int .i64 z1, .bool true, undef, undef, undef, undef, undef, undef, undef, undef, undef, undef, undef, undef, undef, undef, undef, undef, undef, undef, undef, undef, undef, undef, undef, undef, undef, undef, undef, undef] := (hF.fin [(15, .slice (some ⟨b1, o1, none⟩) nf cf), (16, .slice (some ⟨b1, o1, none⟩) nf cf), (17, .int .i64 j), (18, .pointer (some ⟨b1, o1 + j, none⟩)), (19, .string X), (20, .int .i64 z2), (21, .slice E ne ce), (22, .slice (some ⟨b1, o1, none⟩) nf cf), (23, .int .i64 j), (24, .pointer (some ⟨b1, o1 + j, none⟩)), (25, .string X), (26, .int .i64 z1), (27, .bool true)] [15, 16, 17, 18, 19, 20, 21, 22, 23, 24, 25, 26, 27] rfl (List.forall_mem_cons.2 ⟨hF.val 0 _ _ (hall 0 (show 0 < 13 by decide)) rfl rfl, (List.forall_mem_cons.2 ⟨hF.val 1 _ _ (hall 1 (show 1 < 13 by decide)) rfl rfl, (List.forall_mem_cons.2 ⟨hF.val 2 _ _ (hall 2 (show 2 < 13 by decide)) rfl rfl, (List.forall_mem_cons.2 ⟨hF.val 3 _ _ (hall 3 (show 3 < 13 by decide)) rfl rfl, (List.forall_mem_cons.2 ⟨hF.val 4 _ _ (hall 4 (show 4 < 13 by decide)) rfl rfl, (List.forall_mem_cons.2 ⟨hF.val 5 _ _ (hall 5 (show 5 < 13 by decide)) rfl rfl, (List.forall_mem_cons.2 ⟨hF.val 6 _ _ (hall 6 (show 6 < 13 by decide)) rfl rfl, (List.forall_mem_cons.2 ⟨hF.val 7 _ _ (hall 7 (show 7 < 13 by decide)) rfl rfl, (List.forall_mem_cons.2 ⟨hF.val 8 _ _ (hall 8 (show 8 < 13 by decide)) rfl rfl, (List.forall_mem_cons.2 ⟨hF.val 9 _ _ (hall 9 (show 9 < 13 by decide)) rfl rfl, (List.forall_mem_cons.2 ⟨hF.val 10 _ _ (hall 10 (show 10 < 13 by decide)) rfl rfl, (List.forall_mem_cons.2 ⟨hF.val 11 _ _ (hall 11 (show 11 < 13 by decide)) rfl rfl, (List.forall_mem_cons.2 ⟨hF.val 12 _ _ (hall 12 (show 12 < 13 by decide)) rfl rfl, (fun _ h => absurd h List.not_mem_nil)⟩)⟩)⟩)⟩)⟩)⟩)⟩)⟩)⟩)⟩)⟩)⟩)⟩) (by decide)).trans (by kernel_rfl)
          clear hF hall
          subst hT
          go_wp2_with fail
          go_ret
          exact ⟨false, rfl, ⟨fun h => (by cases h), fun h => absurd h hnf.out⟩, hB4.out⟩
      · have hR2 := Lib.hid (show ∀ x ∈ os.take (j + 1), cnt x os ≤ cnt x es from fun y hy => by
          rw [take_succ_of hx] at hy
          rcases List.mem_append.1 hy with hy | hy
          · exact hR.out.2 y hy
          · rw [List.mem_singleton.1 hy]; omega)
        have g1 : decide ((cnt x es : Int) < (cnt x os : Int)) = false := decide_eq_false (by omega)
        have hRb := Lib.hid hR.out.1
        generalize cnt x es = z1 at q2 g1 l1 hgt
        generalize cnt x os = z2 at q1 g1 l2 hgt
        generalize bs x.enc = X at *
        replace q1 := Lib.hid q1
        replace q2 := Lib.hid q2
        clear hx hxs hc0 hxo hmem hR hcell
        go_upto_region 4 with fail
        refine region_iw tbSe4b dsSe4b (vsSe4b b1 o1 nf cf j A n c E ne ce X z1 z2) (fun L T W => Below wr.heap.size wr W) rfl (by decide) (by kernel_rfl) ?hlt ?hstep ?hdone ?hstart
        case hstart => exact drewN_below 1
        case hlt =>
          intro ix o ho
          have hi := (Array.getElem?_eq_some_iff.1 ho).1
          match ix, hi with
          | 0, _ => obtain rfl := Option.some.inj ho; decide
          | 1, _ => obtain rfl := Option.some.inj ho; decide
          | 2, _ => obtain rfl := Option.some.inj ho; decide
          | 3, _ => obtain rfl := Option.some.inj ho; decide
          | 4, _ => obtain rfl := Option.some.inj ho; decide
          | 5, _ => obtain rfl := Option.some.inj ho; decide
          | 6, _ => obtain rfl := Option.some.inj ho; decide
          | 7, _ => obtain rfl := Option.some.inj ho; decide
          | 8, _ => obtain rfl := Option.some.inj ho; decide
          | 9, _ => obtain rfl := Option.some.inj ho; decide
          | 10, _ => obtain rfl := Option.some.inj ho; decide
          | 11, _ => obtain rfl := Option.some.inj ho; decide
          | 12, _ => obtain rfl := Option.some.inj ho; decide
        case hstep =>
          intro T1 hE L T W ix o hF hW hc ho hLi hd K hK
          have hN : T1.size = 56 := by rw [hE]; rfl
          have f1 : T.getD 1 undef = .slice E ne ce := (hF.old 1 (by decide)).trans (by rw [hE]; rfl)
          have f2 : T.getD 2 undef = .slice (some ⟨b1, o1, none⟩) nf cf := (hF.old 2 (by decide)).trans (by rw [hE]; rfl)
          have f7 : T.getD 7 undef = .int .i64 j := (hF.old 7 (by decide)).trans (by rw [hE]; rfl)
          clear hE
          replace hF := Lib.hid hF
          replace hW := Lib.hid hW
          replace hK := Lib.hid hK
          have hi := (List.getElem?_eq_some_iff.1 ho).1
          match ix, hi with
          | 0, _ =>
            obtain rfl := Option.some.inj ho
            clear hd ho hi hc hLi
            exact st_val (v := .slice (some ⟨b1, o1, none⟩) nf cf) (w' := W) (want_none rfl) (by unfold execOp; dsimp only [Act.eval]; simp only [f2]; go_simp) (hK.out _ _ (hF.out.put (k := 0) (s := 15) rfl (by decide) hN (by decide) (fun u_v hu => Option.some.inj (Option.some.inj (show some (some (.slice (some ⟨b1, o1, none⟩) nf cf)) = some (some u_v) from hu))) hW.out))
          | 1, _ =>
            obtain rfl := Option.some.inj ho
            clear hd ho hi hc hLi
            exact st_val (v := .slice (some ⟨b1, o1, none⟩) nf cf) (w' := W) (want_none rfl) (by unfold execOp; dsimp only [Act.eval]; simp only [f2]; go_simp) (hK.out _ _ (hF.out.put (k := 1) (s := 16) rfl (by decide) hN (by decide) (fun u_v hu => Option.some.inj (Option.some.inj (show some (some (.slice (some ⟨b1, o1, none⟩) nf cf)) = some (some u_v) from hu))) hW.out))
          | 2, _ =>
            obtain rfl := Option.some.inj ho
            clear hd ho hi hc hLi
            exact st_val (v := .int .i64 j) (w' := W) (want_none rfl) (by unfold execOp; dsimp only [Act.eval]; simp only [f7]; go_simp) (hK.out _ _ (hF.out.put (k := 2) (s := 17) rfl (by decide) hN (by decide) (fun u_v hu => Option.some.inj (Option.some.inj (show some (some (.int .i64 j)) = some (some u_v) from hu))) hW.out))
          | 3, _ =>
            obtain rfl := Option.some.inj ho
            have l1 : L 1 = true := dep_of hd (n := 1) (by decide)
            have e16 : T.getD 16 undef = .slice (some ⟨b1, o1, none⟩) nf cf := hF.out.val 1 16 _ l1 rfl rfl
            have l2 : L 2 = true := dep_of hd (n := 2) (by decide)
            have e17 : T.getD 17 undef = .int .i64 j := hF.out.val 2 17 _ l2 rfl rfl
            clear hd ho hi hc hLi
            exact st_val (v := .pointer (some ⟨b1, o1 + j, none⟩)) (w' := W) (want_none rfl) (by unfold execOp; dsimp only [Act.eval]; simp only [e16, e17]; go_simp) (hK.out _ _ (hF.out.put (k := 3) (s := 18) rfl (by decide) hN (by decide) (fun u_v hu => Option.some.inj (Option.some.inj (show some (some (.pointer (some ⟨b1, o1 + j, none⟩))) = some (some u_v) from hu))) hW.out))
          | 4, _ =>
            obtain rfl := Option.some.inj ho
            have l3 : L 3 = true := dep_of hd (n := 3) (by decide)
            have e18 : T.getD 18 undef = .pointer (some ⟨b1, o1 + j, none⟩) := hF.out.val 3 18 _ l3 rfl rfl
            have hcc := hcx.out W hW.out
            clear hd ho hi hc hLi
            exact st_val (v := .string X) (w' := W) (want_none rfl) (by unfold execOp; dsimp only [Act.eval]; simp only [e18]; go_simp) (hK.out _ _ (hF.out.put (k := 4) (s := 19) rfl (by decide) hN (by decide) (fun u_v hu => Option.some.inj (Option.some.inj (show some (some (.string X)) = some (some u_v) from hu))) hW.out))
          | 5, _ =>
            obtain rfl := Option.some.inj ho
            have l0 : L 0 = true := dep_of hd (n := 0) (by decide)
            have e15 : T.getD 15 undef = .slice (some ⟨b1, o1, none⟩) nf cf := hF.out.val 0 15 _ l0 rfl rfl
            have l4 : L 4 = true := dep_of hd (n := 4) (by decide)
            have e19 : T.getD 19 undef = .string X := hF.out.val 4 19 _ l4 rfl rfl
            have cc := Lib.hid (q1.out W hW.out)
            clear hd ho hi hc hLi
            refine st_call (want_none rfl) (by unfold execOp; go_simp) cc.out ?_
            rintro r wz ⟨rfl, rfl⟩
            exact ⟨_, rfl, hK.out _ _ (hF.out.put (k := 5) (s := 20) rfl (by decide) hN (by decide) (fun u_v hu => Option.some.inj (Option.some.inj (show some (some (.int .i64 z2)) = some (some u_v) from hu))) hW.out)⟩
          | 6, _ =>
            obtain rfl := Option.some.inj ho
            clear hd ho hi hc hLi
            exact st_val (v := .slice E ne ce) (w' := W) (want_none rfl) (by unfold execOp; dsimp only [Act.eval]; simp only [f1]; go_simp) (hK.out _ _ (hF.out.put (k := 6) (s := 21) rfl (by decide) hN (by decide) (fun u_v hu => Option.some.inj (Option.some.inj (show some (some (.slice E ne ce)) = some (some u_v) from hu))) hW.out))
          | 7, _ =>
            obtain rfl := Option.some.inj ho
            clear hd ho hi hc hLi
            exact st_val (v := .slice (some ⟨b1, o1, none⟩) nf cf) (w' := W) (want_none rfl) (by unfold execOp; dsimp only [Act.eval]; simp only [f2]; go_simp) (hK.out _ _ (hF.out.put (k := 7) (s := 22) rfl (by decide) hN (by decide) (fun u_v hu => Option.some.inj (Option.some.inj (show some (some (.slice (some ⟨b1, o1, none⟩) nf cf)) = some (some u_v) from hu))) hW.out))
          | 8, _ =>
            obtain rfl := Option.some.inj ho
            clear hd ho hi hc hLi
            exact st_val (v := .int .i64 j) (w' := W) (want_none rfl) (by unfold execOp; dsimp only [Act.eval]; simp only [f7]; go_simp) (hK.out _ _ (hF.out.put (k := 8) (s := 23) rfl (by decide) hN (by decide) (fun u_v hu => Option.some.inj (Option.some.inj (show some (some (.int .i64 j)) = some (some u_v) from hu))) hW.out))
          | 9, _ =>
            obtain rfl := Option.some.inj ho
            have l7 : L 7 = true := dep_of hd (n := 7) (by decide)
            have e22 : T.getD 22 undef = .slice (some ⟨b1, o1, none⟩) nf cf := hF.out.val 7 22 _ l7 rfl rfl
            have l8 : L 8 = true := dep_of hd (n := 8) (by decide)
            have e23 : T.getD 23 undef = .int .i64 j := hF.out.val 8 23 _ l8 rfl rfl
            clear hd ho hi hc hLi
            exact st_val (v := .pointer (some ⟨b1, o1 + j, none⟩)) (w' := W) (want_none rfl) (by unfold execOp; dsimp only [Act.eval]; simp only [e22, e23]; go_simp) (hK.out _ _ (hF.out.put (k := 9) (s := 24) rfl (by decide) hN (by decide) (fun u_v hu => Option.some.inj (Option.some.inj (show some (some (.pointer (some ⟨b1, o1 + j, none⟩))) = some (some u_v) from hu))) hW.out))
          | 10, _ =>
            obtain rfl := Option.some.inj ho
            have l9 : L 9 = true := dep_of hd (n := 9) (by decide)
            have e24 : T.getD 24 undef = .pointer (some ⟨b1, o1 + j, none⟩) := hF.out.val 9 24 _ l9 rfl rfl
            have hcc := hcx.out W hW.out
            clear hd ho hi hc hLi
            exact st_val (v := .string X) (w' := W) (want_none rfl) (by unfold execOp; dsimp only [Act.eval]; simp only [e24]; go_simp) (hK.out _ _ (hF.out.put (k := 10) (s := 25) rfl (by decide) hN (by decide) (fun u_v hu => Option.some.inj (Option.some.inj (show some (some (.string X)) = some (some u_v) from hu))) hW.out))
          | 11, _ =>
            obtain rfl := Option.some.inj ho
            have l6 : L 6 = true := dep_of hd (n := 6) (by decide)
            have e21 : T.getD 21 undef = .slice E ne ce := hF.out.val 6 21 _ l6 rfl rfl
            have l10 : L 10 = true := dep_of hd (n := 10) (by decide)
            have e25 : T.getD 25 undef = .string X := hF.out.val 10 25 _ l10 rfl rfl
            have cc := Lib.hid (q2.out W hW.out)
            clear hd ho hi hc hLi
            refine st_call (want_none rfl) (by unfold execOp; go_simp) cc.out ?_
            rintro r wz ⟨rfl, rfl⟩
            exact ⟨_, rfl, hK.out _ _ (hF.out.put (k := 11) (s := 26) rfl (by decide) hN (by decide) (fun u_v hu => Option.some.inj (Option.some.inj (show some (some (.int .i64 z1)) = some (some u_v) from hu))) hW.out)⟩
          | 12, _ =>
            obtain rfl := Option.some.inj ho
            have l5 : L 5 = true := dep_of hd (n := 5) (by decide)
            have e20 : T.getD 20 undef = .int .i64 z2 := hF.out.val 5 20 _ l5 rfl rfl
            have l11 : L 11 = true := dep_of hd (n := 11) (by decide)
            have e26 : T.getD 26 undef = .int .i64 z1 := hF.out.val 11 26 _ l11 rfl rfl
            clear hd ho hi hc hLi
            exact st_val (v := .bool false) (w' := W) (want_none rfl) (by unfold execOp; dsimp only [Act.eval]; simp only [e20, e26]; go_simp; try omega) (hK.out _ _ (hF.out.put (k := 12) (s := 27) rfl (by decide) hN (by decide) (fun u_v hu => Option.some.inj (Option.some.inj (show some (some (.bool false)) = some (some u_v) from hu))) hW.out))
        case hdone =>
          intro L T W2 hF hW hall
          have hB4 := Lib.hid (hRb.out.trans (hW.mono hRb.out.size))
          clear hW hcx hRb
          have hT : T = #[.slice A n c, .slice E ne ce, .slice (some ⟨b1, o1, none⟩) nf cf, undef, undef, undef, u6, .int .i64 j, undef, .int .i64 j, .slice (some ⟨b1, o1, none⟩) nf cf, .int .i64 nf, .bool true, u13, u14, .slice (some ⟨b1, o1, none⟩) nf cf, .slice (some ⟨b1, o1, none⟩) nf cf, .int .i64 j, .pointer (some ⟨b1, o1 + j, none⟩), .string X, .int .i64 z2, .slice E ne ce, .slice (some ⟨b1, o1, none⟩) nf cf, .int .i64 j, .pointer (some ⟨b1, o1 + j, none⟩), .string X, .int .i64 z1, .bool false, undef, undef, undef, undef, undef, undef, undef, undef, undef, undef, undef, undef, undef, undef, undef, undef, undef, undef, undef, undef, undef, undef, undef, undef, undef, undef, undef, undef] := (hF.fin [(15, .slice (some ⟨b1, o1, none⟩) nf cf), (16, .slice (some ⟨b1, o1, none⟩) nf cf), (17, .int .i64 j), (18, .pointer (some ⟨b1, o1 + j, none⟩)), (19, .string X), (20, .int .i64 z2), (21, .slice E ne ce), (22, .slice (some ⟨b1, o1, none⟩) nf cf), (23, .int .i64 j), (24, .pointer (some ⟨b1, o1 + j, none⟩)), (25, .string X), (26, .int .i64 z1), (27, .bool false)] [15, 16, 17, 18, 19, 20, 21, 22, 23, 24, 25, 26, 27] rfl (List.forall_mem_cons.2 ⟨hF.val 0 _ _ (hall 0 (show 0 < 13 by decide)) rfl rfl, (List.forall_mem_cons.2 ⟨hF.val 1 _ _ (hall 1 (show 1 < 13 by decide)) rfl rfl, (List.forall_mem_cons.2 ⟨hF.val 2 _ _ (hall 2 (show 2 < 13 by decide)) rfl rfl, (List.forall_mem_cons.2 ⟨hF.val 3 _ _ (hall 3 (show 3 < 13 by decide)) rfl rfl, (List.forall_mem_cons.2 ⟨hF.val 4 _ _ (hall 4 (show 4 < 13 by decide)) rfl rfl, (List.forall_mem_cons.2 ⟨hF.val 5 _ _ (hall 5 (show 5 < 13 by decide)) rfl rfl, (List.forall_mem_cons.2 ⟨hF.val 6 _ _ (hall 6 (show 6 < 13 by decide)) rfl rfl, (List.forall_mem_cons.2 ⟨hF.val 7 _ _ (hall 7 (show 7 < 13 by decide)) rfl rfl, (List.forall_mem_cons.2 ⟨hF.val 8 _ _ (hall 8 (show 8 < 13 by decide)) rfl rfl, (List.forall_mem_cons.2 ⟨hF.val 9 _ _ (hall 9 (show 9 < 13 by decide)) rfl rfl, (List.forall_mem_cons.2 ⟨hF.val 10 _ _ (hall 10 (show 10 < 13 by decide)) rfl rfl, (List.forall_mem_cons.2 ⟨hF.val 11 _ _ (hall 11 (show 11 < 13 by decide)) rfl rfl, (List.forall_mem_cons.2 ⟨hF.val 12 _ _ (hall 12 (show 12 < 13 by decide)) rfl rfl, (fun _ h => absurd h List.not_mem_nil)⟩)⟩)⟩)⟩)⟩)⟩)⟩)⟩)⟩)⟩)⟩)⟩)⟩) (by decide)).trans (by kernel_rfl)
          clear hF hall
          subst hT
          have hR3 := Lib.hid (And.intro hB4.out hR2.out)
          go_wp2_with fail
          go_roundw
          case rel => exact ⟨j + 1, by omega, by go_num, hR3⟩
          case measure => simp [intOf]; omega
    · have hall := Lib.hid (show ∀ x, cnt x os ≤ cnt x es from fun x => by
        by_cases hx : x ∈ os
        · have := hR.out.2
          rw [List.take_of_length_le (by have := hlh.out.2; omega)] at this
          exact this x hx
        · have : cnt x os = 0 := by
            rcases Nat.eq_zero_or_pos (cnt x os) with h | h
            · exact h
            · exact absurd (cnt_pos.1 h) hx
          omega)
      have h0 : Hid (Below w.heap.size w wr ∧ ∀ x ∈ es.take 0, cnt x os < cnt x es → nder hs x) := Lib.hid ⟨hR.out.1, fun x hx => by simp at hx⟩
      clear hR
      go_wp2_with fail
      go_loopw [8] (fun iv wr => ∃ j : Nat, j ≤ ne ∧ iv = .int .i64 j ∧ Hid (Below w.heap.size w wr ∧ ∀ x ∈ es.take j, cnt x os < cnt x es → nder hs x)) (fun iv _ => ne - (intOf iv).toNat)
      case atStart => exact ⟨0, Nat.zero_le _, rfl, h0⟩
      case round =>
        clear h0
        obtain ⟨i, hi, rfl, hR⟩ := hrel
        by_cases hlt2 : i < ne
        · have hlt' : (i : Int) < (ne : Int) := by omega
          obtain ⟨x, hx⟩ : ∃ x, es[i]? = some x := ⟨es[i]'(by rw [hlh.out.1]; exact hlt2), List.getElem?_eq_getElem _⟩
          obtain ⟨b1, o1, xs, rfl, hbl, hxs, hc0⟩ := HEh.out.at_ hlt2
          have hxe : bs x.enc = xs := by
            unfold encS3 at hxs
            rw [List.getElem?_map, hx] at hxs
            exact Option.some.inj hxs
          subst hxe
          have hmem := List.mem_of_getElem? hx
          have hcx := Lib.hid (fun W (hb : Below wr.heap.size wr W) => ((hR.out.1.trans (hb.mono hR.out.1.size)).cell (p := ⟨b1, o1 + i, none⟩) hbl).trans hc0)
          obtain ⟨hxo, hx2, -⟩ := hesh.out x hmem
          have q1 := fun W (hb : Below wr.heap.size wr W) => cE.out W (hR.out.1.trans (hb.mono hR.out.1.size)) x hxo
          have q2 := fun W (hb : Below wr.heap.size wr W) => cF.out W (hR.out.1.trans (hb.mono hR.out.1.size)) x hxo
          have q3 := fun W (hb : Below wr.heap.size wr W) => cC.out W (hR.out.1.trans (hb.mono hR.out.1.size)) x hmem
          obtain ⟨l1, l2⟩ := hcl.out x
          have hcn := Lib.hid (der_nonce (H := hs) hx2)
          have hRb := Lib.hid hR.out.1
          by_cases hgt : cnt x os < cnt x es
          · have g1 : decide ((cnt x os : Int) < (cnt x es : Int)) = true := decide_eq_true (by omega)
            by_cases hd : der hs x
            · have q3 := fun W hb => Calls.mono (q3 W hb) fun (r : Ending) (W' : World) ⟨q, h1, h2, h3⟩ => (show r = Ending.returned (.bool true) ∧ Below W.heap.size W W' from ⟨by rw [h1, h2.2 hd], h3⟩)
              have hR2 := Lib.hid (show ∀ x ∈ es.take (i + 1), cnt x os < cnt x es → nder hs x from fun y hy => by
                rw [take_succ_of hx] at hy
                rcases List.mem_append.1 hy with hy | hy
                · exact hR.out.2 y hy
                · rw [List.mem_singleton.1 hy]; exact fun _ => hcn.out.1 hd)
              generalize cnt x es = z1 at q1 g1 l1 hgt
              generalize cnt x os = z2 at q2 g1 l2 hgt
              generalize bs x.enc = X at *
              replace q1 := Lib.hid q1
              replace q2 := Lib.hid q2
              replace q3 := Lib.hid q3
              clear hx hxs hc0 hxo hmem hR hd hx2
              go_upto_region 9 with fail
              refine region_iw tbSe9a dsSe9a (vsSe9a b1 o1 ne ce i A n c F nf cf X z1 z2) (fun L T W => Below wr.heap.size wr W) rfl (by decide) (by kernel_rfl) ?hlt ?hstep ?hdone ?hstart
              case hstart => exact drewN_below 1
              case hlt =>
                intro ix o ho
                have hi := (Array.getElem?_eq_some_iff.1 ho).1
                match ix, hi with
                | 0, _ => obtain rfl := Option.some.inj ho; decide
                | 1, _ => obtain rfl := Option.some.inj ho; decide
                | 2, _ => obtain rfl := Option.some.inj ho; decide
                | 3, _ => obtain rfl := Option.some.inj ho; decide
                | 4, _ => obtain rfl := Option.some.inj ho; decide
                | 5, _ => obtain rfl := Option.some.inj ho; decide
                | 6, _ => obtain rfl := Option.some.inj ho; decide
                | 7, _ => obtain rfl := Option.some.inj ho; decide
                | 8, _ => obtain rfl := Option.some.inj ho; decide
                | 9, _ => obtain rfl := Option.some.inj ho; decide
                | 10, _ => obtain rfl := Option.some.inj ho; decide
                | 11, _ => obtain rfl := Option.some.inj ho; decide
                | 12, _ => obtain rfl := Option.some.inj ho; decide
                | 13, _ => obtain rfl := Option.some.inj ho; decide
                | 14, _ => obtain rfl := Option.some.inj ho; decide
                | 15, _ => obtain rfl := Option.some.inj ho; decide
                | 16, _ => obtain rfl := Option.some.inj ho; decide
                | 17, _ => obtain rfl := Option.some.inj ho; decide
                | 18, _ => obtain rfl := Option.some.inj ho; decide
                | 19, _ => obtain rfl := Option.some.inj ho; decide
                | 20, _ => obtain rfl := Option.some.inj ho; decide
                | 21, _ => obtain rfl := Option.some.inj ho; decide
              case hstep =>
                intro T1 hE L T W ix o hF hW hc ho hLi hd K hK
                have hN : T1.size = 56 := by rw [hE]; rfl
                have f0 : T.getD 0 undef = .slice A n c := (hF.old 0 (by decide)).trans (by rw [hE]; rfl)
                have f1 : T.getD 1 undef = .slice (some ⟨b1, o1, none⟩) ne ce := (hF.old 1 (by decide)).trans (by rw [hE]; rfl)
                have f2 : T.getD 2 undef = .slice F nf cf := (hF.old 2 (by decide)).trans (by rw [hE]; rfl)
                have f8 : T.getD 8 undef = .int .i64 i := (hF.old 8 (by decide)).trans (by rw [hE]; rfl)
                clear hE
                replace hF := Lib.hid hF
                replace hW := Lib.hid hW
                replace hK := Lib.hid hK
                have hi := (List.getElem?_eq_some_iff.1 ho).1
                match ix, hi with
                | 0, _ =>
                  obtain rfl := Option.some.inj ho
                  clear hd ho hi hc hLi
                  exact st_val (v := .slice (some ⟨b1, o1, none⟩) ne ce) (w' := W) (want_none rfl) (by unfold execOp; dsimp only [Act.eval]; simp only [f1]; go_simp) (hK.out _ _ (hF.out.put (k := 0) (s := 34) rfl (by decide) hN (by decide) (fun u_v hu => Option.some.inj (Option.some.inj (show some (some (.slice (some ⟨b1, o1, none⟩) ne ce)) = some (some u_v) from hu))) hW.out))
                | 1, _ =>
                  obtain rfl := Option.some.inj ho
                  clear hd ho hi hc hLi
                  exact st_val (v := .slice (some ⟨b1, o1, none⟩) ne ce) (w' := W) (want_none rfl) (by unfold execOp; dsimp only [Act.eval]; simp only [f1]; go_simp) (hK.out _ _ (hF.out.put (k := 1) (s := 35) rfl (by decide) hN (by decide) (fun u_v hu => Option.some.inj (Option.some.inj (show some (some (.slice (some ⟨b1, o1, none⟩) ne ce)) = some (some u_v) from hu))) hW.out))
                | 2, _ =>
                  obtain rfl := Option.some.inj ho
                  clear hd ho hi hc hLi
                  exact st_val (v := .int .i64 i) (w' := W) (want_none rfl) (by unfold execOp; dsimp only [Act.eval]; simp only [f8]; go_simp) (hK.out _ _ (hF.out.put (k := 2) (s := 36) rfl (by decide) hN (by decide) (fun u_v hu => Option.some.inj (Option.some.inj (show some (some (.int .i64 i)) = some (some u_v) from hu))) hW.out))
                | 3, _ =>
                  obtain rfl := Option.some.inj ho
                  have l1 : L 1 = true := dep_of hd (n := 1) (by decide)
                  have e35 : T.getD 35 undef = .slice (some ⟨b1, o1, none⟩) ne ce := hF.out.val 1 35 _ l1 rfl rfl
                  have l2 : L 2 = true := dep_of hd (n := 2) (by decide)
                  have e36 : T.getD 36 undef = .int .i64 i := hF.out.val 2 36 _ l2 rfl rfl
                  clear hd ho hi hc hLi
                  exact st_val (v := .pointer (some ⟨b1, o1 + i, none⟩)) (w' := W) (want_none rfl) (by unfold execOp; dsimp only [Act.eval]; simp only [e35, e36]; go_simp) (hK.out _ _ (hF.out.put (k := 3) (s := 37) rfl (by decide) hN (by decide) (fun u_v hu => Option.some.inj (Option.some.inj (show some (some (.pointer (some ⟨b1, o1 + i, none⟩))) = some (some u_v) from hu))) hW.out))
                | 4, _ =>
                  obtain rfl := Option.some.inj ho
                  have l3 : L 3 = true := dep_of hd (n := 3) (by decide)
                  have e37 : T.getD 37 undef = .pointer (some ⟨b1, o1 + i, none⟩) := hF.out.val 3 37 _ l3 rfl rfl
                  have hcc := hcx.out W hW.out
                  clear hd ho hi hc hLi
                  exact st_val (v := .string X) (w' := W) (want_none rfl) (by unfold execOp; dsimp only [Act.eval]; simp only [e37]; go_simp) (hK.out _ _ (hF.out.put (k := 4) (s := 38) rfl (by decide) hN (by decide) (fun u_v hu => Option.some.inj (Option.some.inj (show some (some (.string X)) = some (some u_v) from hu))) hW.out))
                | 5, _ =>
                  obtain rfl := Option.some.inj ho
                  have l0 : L 0 = true := dep_of hd (n := 0) (by decide)
                  have e34 : T.getD 34 undef = .slice (some ⟨b1, o1, none⟩) ne ce := hF.out.val 0 34 _ l0 rfl rfl
                  have l4 : L 4 = true := dep_of hd (n := 4) (by decide)
                  have e38 : T.getD 38 undef = .string X := hF.out.val 4 38 _ l4 rfl rfl
                  have cc := Lib.hid (q1.out W hW.out)
                  clear hd ho hi hc hLi
                  refine st_call (want_none rfl) (by unfold execOp; go_simp) cc.out ?_
                  rintro r wz ⟨rfl, rfl⟩
                  exact ⟨_, rfl, hK.out _ _ (hF.out.put (k := 5) (s := 39) rfl (by decide) hN (by decide) (fun u_v hu => Option.some.inj (Option.some.inj (show some (some (.int .i64 z1)) = some (some u_v) from hu))) hW.out)⟩
                | 6, _ =>
                  obtain rfl := Option.some.inj ho
                  clear hd ho hi hc hLi
                  exact st_val (v := .slice F nf cf) (w' := W) (want_none rfl) (by unfold execOp; dsimp only [Act.eval]; simp only [f2]; go_simp) (hK.out _ _ (hF.out.put (k := 6) (s := 40) rfl (by decide) hN (by decide) (fun u_v hu => Option.some.inj (Option.some.inj (show some (some (.slice F nf cf)) = some (some u_v) from hu))) hW.out))
                | 7, _ =>
                  obtain rfl := Option.some.inj ho
                  clear hd ho hi hc hLi
                  exact st_val (v := .slice (some ⟨b1, o1, none⟩) ne ce) (w' := W) (want_none rfl) (by unfold execOp; dsimp only [Act.eval]; simp only [f1]; go_simp) (hK.out _ _ (hF.out.put (k := 7) (s := 41) rfl (by decide) hN (by decide) (fun u_v hu => Option.some.inj (Option.some.inj (show some (some (.slice (some ⟨b1, o1, none⟩) ne ce)) = some (some u_v) from hu))) hW.out))
                | 8, _ =>
                  obtain rfl := Option.some.inj ho
                  clear hd ho hi hc hLi
                  exact st_val (v := .int .i64 i) (w' := W) (want_none rfl) (by unfold execOp; dsimp only [Act.eval]; simp only [f8]; go_simp) (hK.out _ _ (hF.out.put (k := 8) (s := 42) rfl (by decide) hN (by decide) (fun u_v hu => Option.some.inj (Option.some.inj (show some (some (.int .i64 i)) = some (some u_v) from hu))) hW.out))
                | 9, _ =>
                  obtain rfl := Option.some.inj ho
                  have l7 : L 7 = true := dep_of hd (n := 7) (by decide)
                  have e41 : T.getD 41 undef = .slice (some ⟨b1, o1, none⟩) ne ce := hF.out.val 7 41 _ l7 rfl rfl
                  have l8 : L 8 = true := dep_of hd (n := 8) (by decide)
                  have e42 : T.getD 42 undef = .int .i64 i := hF.out.val 8 42 _ l8 rfl rfl
                  clear hd ho hi hc hLi
                  exact st_val (v := .pointer (some ⟨b1, o1 + i, none⟩)) (w' := W) (want_none rfl) (by unfold execOp; dsimp only [Act.eval]; simp only [e41, e42]; go_simp) (hK.out _ _ (hF.out.put (k := 9) (s := 43) rfl (by decide) hN (by decide) (fun u_v hu => Option.some.inj (Option.some.inj (show some (some (.pointer (some ⟨b1, o1 + i, none⟩))) = some (some u_v) from hu))) hW.out))
                | 10, _ =>
                  obtain rfl := Option.some.inj ho
                  have l9 : L 9 = true := dep_of hd (n := 9) (by decide)
                  have e43 : T.getD 43 undef = .pointer (some ⟨b1, o1 + i, none⟩) := hF.out.val 9 43 _ l9 rfl rfl
                  have hcc := hcx.out W hW.out
                  clear hd ho hi hc hLi
                  exact st_val (v := .string X) (w' := W) (want_none rfl) (by unfold execOp; dsimp only [Act.eval]; simp only [e43]; go_simp) (hK.out _ _ (hF.out.put (k := 10) (s := 44) rfl (by decide) hN (by decide) (fun u_v hu => Option.some.inj (Option.some.inj (show some (some (.string X)) = some (some u_v) from hu))) hW.out))
                | 11, _ =>
                  obtain rfl := Option.some.inj ho
                  have l6 : L 6 = true := dep_of hd (n := 6) (by decide)
                  have e40 : T.getD 40 undef = .slice F nf cf := hF.out.val 6 40 _ l6 rfl rfl
                  have l10 : L 10 = true := dep_of hd (n := 10) (by decide)
                  have e44 : T.getD 44 undef = .string X := hF.out.val 10 44 _ l10 rfl rfl
                  have cc := Lib.hid (q2.out W hW.out)
                  clear hd ho hi hc hLi
                  refine st_call (want_none rfl) (by unfold execOp; go_simp) cc.out ?_
                  rintro r wz ⟨rfl, rfl⟩
                  exact ⟨_, rfl, hK.out _ _ (hF.out.put (k := 11) (s := 45) rfl (by decide) hN (by decide) (fun u_v hu => Option.some.inj (Option.some.inj (show some (some (.int .i64 z2)) = some (some u_v) from hu))) hW.out)⟩
                | 12, _ =>
                  obtain rfl := Option.some.inj ho
                  have l5 : L 5 = true := dep_of hd (n := 5) (by decide)
                  have e39 : T.getD 39 undef = .int .i64 z1 := hF.out.val 5 39 _ l5 rfl rfl
                  have l11 : L 11 = true := dep_of hd (n := 11) (by decide)
                  have e45 : T.getD 45 undef = .int .i64 z2 := hF.out.val 11 45 _ l11 rfl rfl
                  clear hd ho hi hc hLi
                  exact st_val (v := .bool true) (w' := W) (want_none rfl) (by unfold execOp; dsimp only [Act.eval]; simp only [e39, e45]; go_simp; try omega) (hK.out _ _ (hF.out.put (k := 12) (s := 46) rfl (by decide) hN (by decide) (fun u_v hu => Option.some.inj (Option.some.inj (show some (some (.bool true)) = some (some u_v) from hu))) hW.out))
                | 13, _ =>
                  obtain rfl := Option.some.inj ho
                  have l12 : L 12 = true := dep_of hd (n := 12) (by decide)
                  have e46 : T.getD 46 undef = .bool true := hF.out.val 12 46 _ l12 rfl rfl
                  clear hd ho hi hc hLi
                  exact st_val (v := .bool true) (w' := W) (want_none rfl) (by unfold execOp; dsimp only [Act.eval]; simp only [e46]; go_simp) (hK.out _ _ (hF.out.put (k := 13) (s := 47) rfl (by decide) hN (by decide) (fun u_v hu => Option.some.inj (Option.some.inj (show some (some (.bool true)) = some (some u_v) from hu))) hW.out))
                | 14, _ =>
                  obtain rfl := Option.some.inj ho
                  have l13 : L 13 = true := dep_of hd (n := 13) (by decide)
                  have e47 : T.getD 47 undef = .bool true := hF.out.val 13 47 _ l13 rfl rfl
                  clear hd ho hi hc hLi
                  exact st_val (v := .slice A n c) (w' := W) (by rw [want_some (j := 13) (s := 47) rfl rfl e47]; rfl) (by unfold execOp; dsimp only [Act.eval]; simp only [f0]; go_simp) (hK.out _ _ (hF.out.put (k := 14) (s := 48) rfl (by decide) hN (by decide) (fun u_v hu => Option.some.inj (Option.some.inj (show some (some (.slice A n c)) = some (some u_v) from hu))) hW.out))
                | 15, _ =>
                  obtain rfl := Option.some.inj ho
                  have l13 : L 13 = true := dep_of hd (n := 13) (by decide)
                  have e47 : T.getD 47 undef = .bool true := hF.out.val 13 47 _ l13 rfl rfl
                  clear hd ho hi hc hLi
                  exact st_val (v := .slice (some ⟨b1, o1, none⟩) ne ce) (w' := W) (by rw [want_some (j := 13) (s := 47) rfl rfl e47]; rfl) (by unfold execOp; dsimp only [Act.eval]; simp only [f1]; go_simp) (hK.out _ _ (hF.out.put (k := 15) (s := 49) rfl (by decide) hN (by decide) (fun u_v hu => Option.some.inj (Option.some.inj (show some (some (.slice (some ⟨b1, o1, none⟩) ne ce)) = some (some u_v) from hu))) hW.out))
                | 16, _ =>
                  obtain rfl := Option.some.inj ho
                  have l13 : L 13 = true := dep_of hd (n := 13) (by decide)
                  have e47 : T.getD 47 undef = .bool true := hF.out.val 13 47 _ l13 rfl rfl
                  clear hd ho hi hc hLi
                  exact st_val (v := .int .i64 i) (w' := W) (by rw [want_some (j := 13) (s := 47) rfl rfl e47]; rfl) (by unfold execOp; dsimp only [Act.eval]; simp only [f8]; go_simp) (hK.out _ _ (hF.out.put (k := 16) (s := 50) rfl (by decide) hN (by decide) (fun u_v hu => Option.some.inj (Option.some.inj (show some (some (.int .i64 i)) = some (some u_v) from hu))) hW.out))
                | 17, _ =>
                  obtain rfl := Option.some.inj ho
                  have l15 : L 15 = true := dep_of hd (n := 15) (by decide)
                  have e49 : T.getD 49 undef = .slice (some ⟨b1, o1, none⟩) ne ce := hF.out.val 15 49 _ l15 rfl rfl
                  have l16 : L 16 = true := dep_of hd (n := 16) (by decide)
                  have e50 : T.getD 50 undef = .int .i64 i := hF.out.val 16 50 _ l16 rfl rfl
                  have l13 : L 13 = true := dep_of hd (n := 13) (by decide)
                  have e47 : T.getD 47 undef = .bool true := hF.out.val 13 47 _ l13 rfl rfl
                  clear hd ho hi hc hLi
                  exact st_val (v := .pointer (some ⟨b1, o1 + i, none⟩)) (w' := W) (by rw [want_some (j := 13) (s := 47) rfl rfl e47]; rfl) (by unfold execOp; dsimp only [Act.eval]; simp only [e49, e50]; go_simp) (hK.out _ _ (hF.out.put (k := 17) (s := 51) rfl (by decide) hN (by decide) (fun u_v hu => Option.some.inj (Option.some.inj (show some (some (.pointer (some ⟨b1, o1 + i, none⟩))) = some (some u_v) from hu))) hW.out))
                | 18, _ =>
                  obtain rfl := Option.some.inj ho
                  have l17 : L 17 = true := dep_of hd (n := 17) (by decide)
                  have e51 : T.getD 51 undef = .pointer (some ⟨b1, o1 + i, none⟩) := hF.out.val 17 51 _ l17 rfl rfl
                  have l13 : L 13 = true := dep_of hd (n := 13) (by decide)
                  have e47 : T.getD 47 undef = .bool true := hF.out.val 13 47 _ l13 rfl rfl
                  have hcc := hcx.out W hW.out
                  clear hd ho hi hc hLi
                  exact st_val (v := .string X) (w' := W) (by rw [want_some (j := 13) (s := 47) rfl rfl e47]; rfl) (by unfold execOp; dsimp only [Act.eval]; simp only [e51]; go_simp) (hK.out _ _ (hF.out.put (k := 18) (s := 52) rfl (by decide) hN (by decide) (fun u_v hu => Option.some.inj (Option.some.inj (show some (some (.string X)) = some (some u_v) from hu))) hW.out))
                | 19, _ =>
                  obtain rfl := Option.some.inj ho
                  have l14 : L 14 = true := dep_of hd (n := 14) (by decide)
                  have e48 : T.getD 48 undef = .slice A n c := hF.out.val 14 48 _ l14 rfl rfl
                  have l18 : L 18 = true := dep_of hd (n := 18) (by decide)
                  have e52 : T.getD 52 undef = .string X := hF.out.val 18 52 _ l18 rfl rfl
                  have l13 : L 13 = true := dep_of hd (n := 13) (by decide)
                  have e47 : T.getD 47 undef = .bool true := hF.out.val 13 47 _ l13 rfl rfl
                  have cc := Lib.hid (q3.out W hW.out)
                  clear hd ho hi hc hLi
                  refine st_call (by rw [want_some (j := 13) (s := 47) rfl rfl e47]; rfl) (by unfold execOp; go_simp) cc.out ?_
                  rintro r wz ⟨rfl, hb4⟩
                  exact ⟨_, rfl, hK.out _ _ (hF.out.put (k := 19) (s := 53) rfl (by decide) hN (by decide) (fun u_v hu => Option.some.inj (Option.some.inj (show some (some (.bool true)) = some (some u_v) from hu))) (hW.out.trans (hb4.mono hW.out.size)))⟩
                | 20, _ =>
                  obtain rfl := Option.some.inj ho
                  have l19 : L 19 = true := dep_of hd (n := 19) (by decide)
                  have e53 : T.getD 53 undef = .bool true := hF.out.val 19 53 _ l19 rfl rfl
                  have l13 : L 13 = true := dep_of hd (n := 13) (by decide)
                  have e47 : T.getD 47 undef = .bool true := hF.out.val 13 47 _ l13 rfl rfl
                  clear hd ho hi hc hLi
                  exact st_val (v := .bool false) (w' := W) (by rw [want_some (j := 13) (s := 47) rfl rfl e47]; rfl) (by unfold execOp; dsimp only [Act.eval]; simp only [e53]; go_simp) (hK.out _ _ (hF.out.put (k := 20) (s := 54) rfl (by decide) hN (by decide) (fun u_v hu => Option.some.inj (Option.some.inj (show some (some (.bool false)) = some (some u_v) from hu))) hW.out))
                | 21, _ =>
                  obtain rfl := Option.some.inj ho
                  have l13 : L 13 = true := dep_of hd (n := 13) (by decide)
                  have e47 : T.getD 47 undef = .bool true := hF.out.val 13 47 _ l13 rfl rfl
                  have l20 : L 20 = true := dep_of hd (n := 20) (by decide)
                  have e54 : T.getD 54 undef = .bool false := hF.out.val 20 54 _ l20 rfl rfl
                  clear hd ho hi hc hLi
                  exact st_val (v := .bool false) (w' := W) (want_none rfl) (by unfold execOp; dsimp only [Act.eval]; simp only [e47, e54]; go_simp) (hK.out _ _ (hF.out.put (k := 21) (s := 55) rfl (by decide) hN (by decide) (fun u_v hu => Option.some.inj (Option.some.inj (show some (some (.bool false)) = some (some u_v) from hu))) hW.out))
              case hdone =>
                intro L T W2 hF hW hall
                have hB9 := Lib.hid (hRb.out.trans (hW.mono hRb.out.size))
                clear hW hcx hRb
                have hT : T = #[.slice A n c, .slice (some ⟨b1, o1, none⟩) ne ce, .slice F nf cf, undef, undef, undef, u6, .int .i64 j, .int .i64 i, .int .i64 j, .slice F nf cf, .int .i64 nf, .bool false, u13, u14, u15, u16, u17, u18, u19, u20, u21, u22, u23, u24, u25, u26, u27, .int .i64 i, .slice (some ⟨b1, o1, none⟩) ne ce, .int .i64 ne, .bool true, u32, u33, .slice (some ⟨b1, o1, none⟩) ne ce, .slice (some ⟨b1, o1, none⟩) ne ce, .int .i64 i, .pointer (some ⟨b1, o1 + i, none⟩), .string X, .int .i64 z1, .slice F nf cf, .slice (some ⟨b1, o1, none⟩) ne ce, .int .i64 i, .pointer (some ⟨b1, o1 + i, none⟩), .string X, .int .i64 z2, .bool true, .bool true, .slice A n c, .slice (some ⟨b1, o1, none⟩) ne ce, .int .i64 i, .pointer (some ⟨b1, o1 + i, none⟩), .string X, .bool true, .bool false, .bool false] := (hF.fin [(34, .slice (some ⟨b1, o1, none⟩) ne ce), (35, .slice (some ⟨b1, o1, none⟩) ne ce), (36, .int .i64 i), (37, .pointer (some ⟨b1, o1 + i, none⟩)), (38, .string X), (39, .int .i64 z1), (40, .slice F nf cf), (41, .slice (some ⟨b1, o1, none⟩) ne ce), (42, .int .i64 i), (43, .pointer (some ⟨b1, o1 + i, none⟩)), (44, .string X), (45, .int .i64 z2), (46, .bool true), (47, .bool true), (48, .slice A n c), (49, .slice (some ⟨b1, o1, none⟩) ne ce), (50, .int .i64 i), (51, .pointer (some ⟨b1, o1 + i, none⟩)), (52, .string X), (53, .bool true), (54, .bool false), (55, .bool false)] [34, 35, 36, 37, 38, 39, 40, 41, 42, 43, 44, 45, 46, 47, 48, 49, 50, 51, 52, 53, 54, 55] rfl (List.forall_mem_cons.2 ⟨hF.val 0 _ _ (hall 0 (show 0 < 22 by decide)) rfl rfl, (List.forall_mem_cons.2 ⟨hF.val 1 _ _ (hall 1 (show 1 < 22 by decide)) rfl rfl, (List.forall_mem_cons.2 ⟨hF.val 2 _ _ (hall 2 (show 2 < 22 by decide)) rfl rfl, (List.forall_mem_cons.2 ⟨hF.val 3 _ _ (hall 3 (show 3 < 22 by decide)) rfl rfl, (List.forall_mem_cons.2 ⟨hF.val 4 _ _ (hall 4 (show 4 < 22 by decide)) rfl rfl, (List.forall_mem_cons.2 ⟨hF.val 5 _ _ (hall 5 (show 5 < 22 by decide)) rfl rfl, (List.forall_mem_cons.2 ⟨hF.val 6 _ _ (hall 6 (show 6 < 22 by decide)) rfl rfl, (List.forall_mem_cons.2 ⟨hF.val 7 _ _ (hall 7 (show 7 < 22 by decide)) rfl rfl, (List.forall_mem_cons.2 ⟨hF.val 8 _ _ (hall 8 (show 8 < 22 by decide)) rfl rfl, (List.forall_mem_cons.2 ⟨hF.val 9 _ _ (hall 9 (show 9 < 22 by decide)) rfl rfl, (List.forall_mem_cons.2 ⟨hF.val 10 _ _ (hall 10 (show 10 < 22 by decide)) rfl rfl, (List.forall_mem_cons.2 ⟨hF.val 11 _ _ (hall 11 (show 11 < 22 by decide)) rfl rfl, (List.forall_mem_cons.2 ⟨hF.val 12 _ _ (hall 12 (show 12 < 22 by decide)) rfl rfl, (List.forall_mem_cons.2 ⟨hF.val 13 _ _ (hall 13 (show 13 < 22 by decide)) rfl rfl, (List.forall_mem_cons.2 ⟨hF.val 14 _ _ (hall 14 (show 14 < 22 by decide)) rfl rfl, (List.forall_mem_cons.2 ⟨hF.val 15 _ _ (hall 15 (show 15 < 22 by decide)) rfl rfl, (List.forall_mem_cons.2 ⟨hF.val 16 _ _ (hall 16 (show 16 < 22 by decide)) rfl rfl, (List.forall_mem_cons.2 ⟨hF.val 17 _ _ (hall 17 (show 17 < 22 by decide)) rfl rfl, (List.forall_mem_cons.2 ⟨hF.val 18 _ _ (hall 18 (show 18 < 22 by decide)) rfl rfl, (List.forall_mem_cons.2 ⟨hF.val 19 _ _ (hall 19 (show 19 < 22 by decide)) rfl rfl, (List.forall_mem_cons.2 ⟨hF.val 20 _ _ (hall 20 (show 20 < 22 by decide)) rfl rfl, (List.forall_mem_cons.2 ⟨hF.val 21 _ _ (hall 21 (show 21 < 22 by decide)) rfl rfl, (fun _ h => absurd h List.not_mem_nil)⟩)⟩)⟩)⟩)⟩)⟩)⟩)⟩)⟩)⟩)⟩)⟩)⟩)⟩)⟩)⟩)⟩)⟩)⟩)⟩)⟩)⟩) (by decide)).trans (by kernel_rfl)
                clear hF hall
                subst hT
                have hR3 := Lib.hid (And.intro hB9.out hR2.out)
                go_wp2_with fail
                go_roundw
                case rel => exact ⟨i + 1, by omega, by go_num, hR3⟩
                case measure => simp [intOf]; omega
            · have q3 := fun W hb => Calls.mono (q3 W hb) fun (r : Ending) (W' : World) ⟨q, h1, h2, h3⟩ => (show r = Ending.returned (.bool false) ∧ Below W.heap.size W W' from ⟨by rw [h1]; cases q with | false => rfl | true => exact absurd (h2.1 rfl) hd, h3⟩)
              have hnf := Lib.hid (show ¬ fromP hs es os from fun h => hd (hcn.out.2 (h.2 x hgt)))
              generalize cnt x es = z1 at q1 g1 l1 hgt
              generalize cnt x os = z2 at q2 g1 l2 hgt
              generalize bs x.enc = X at *
              replace q1 := Lib.hid q1
              replace q2 := Lib.hid q2
              replace q3 := Lib.hid q3
              clear hx hxs hc0 hxo hmem hR hd hx2
              go_upto_region 9 with fail
              refine region_iw tbSe9b dsSe9b (vsSe9b b1 o1 ne ce i A n c F nf cf X z1 z2) (fun L T W => Below wr.heap.size wr W) rfl (by decide) (by kernel_rfl) ?hlt ?hstep ?hdone ?hstart
              case hstart => exact drewN_below 1
              case hlt =>
                intro ix o ho
                have hi := (Array.getElem?_eq_some_iff.1 ho).1
                match ix, hi with
                | 0, _ => obtain rfl := Option.some.inj ho; decide
                | 1, _ => obtain rfl := Option.some.inj ho; decide
                | 2, _ => obtain rfl := Option.some.inj ho; decide
                | 3, _ => obtain rfl := Option.some.inj ho; decide
                | 4, _ => obtain rfl := Option.some.inj ho; decide
                | 5, _ => obtain rfl := Option.some.inj ho; decide
                | 6, _ => obtain rfl := Option.some.inj ho; decide
                | 7, _ => obtain rfl := Option.some.inj ho; decide
                | 8, _ => obtain rfl := Option.some.inj ho; decide
                | 9, _ => obtain rfl := Option.some.inj ho; decide
                | 10, _ => obtain rfl := Option.some.inj ho; decide
                | 11, _ => obtain rfl := Option.some.inj ho; decide
                | 12, _ => obtain rfl := Option.some.inj ho; decide
                | 13, _ => obtain rfl := Option.some.inj ho; decide
                | 14, _ => obtain rfl := Option.some.inj ho; decide
                | 15, _ => obtain rfl := Option.some.inj ho; decide
                | 16, _ => obtain rfl := Option.some.inj ho; decide
                | 17, _ => obtain rfl := Option.some.inj ho; decide
                | 18, _ => obtain rfl := Option.some.inj ho; decide
                | 19, _ => obtain rfl := Option.some.inj ho; decide
                | 20, _ => obtain rfl := Option.some.inj ho; decide
                | 21, _ => obtain rfl := Option.some.inj ho; decide
              case hstep =>
                intro T1 hE L T W ix o hF hW hc ho hLi hd K hK
                have hN : T1.size = 56 := by rw [hE]; rfl
                have f0 : T.getD 0 undef = .slice A n c := (hF.old 0 (by decide)).trans (by rw [hE]; rfl)
                have f1 : T.getD 1 undef = .slice (some ⟨b1, o1, none⟩) ne ce := (hF.old 1 (by decide)).trans (by rw [hE]; rfl)
                have f2 : T.getD 2 undef = .slice F nf cf := (hF.old 2 (by decide)).trans (by rw [hE]; rfl)
                have f8 : T.getD 8 undef = .int .i64 i := (hF.old 8 (by decide)).trans (by rw [hE]; rfl)
                clear hE
                replace hF := Lib.hid hF
                replace hW := Lib.hid hW
                replace hK := Lib.hid hK
                have hi := (List.getElem?_eq_some_iff.1 ho).1
                match ix, hi with
                | 0, _ =>
                  obtain rfl := Option.some.inj ho
                  clear hd ho hi hc hLi
                  exact st_val (v := .slice (some ⟨b1, o1, none⟩) ne ce) (w' := W) (want_none rfl) (by unfold execOp; dsimp only [Act.eval]; simp only [f1]; go_simp) (hK.out _ _ (hF.out.put (k := 0) (s := 34) rfl (by decide) hN (by decide) (fun u_v hu => Option.some.inj (Option.some.inj (show some (some (.slice (some ⟨b1, o1, none⟩) ne ce)) = some (some u_v) from hu))) hW.out))
                | 1, _ =>
                  obtain rfl := Option.some.inj ho
                  clear hd ho hi hc hLi
                  exact st_val (v := .slice (some ⟨b1, o1, none⟩) ne ce) (w' := W) (want_none rfl) (by unfold execOp; dsimp only [Act.eval]; simp only [f1]; go_simp) (hK.out _ _ (hF.out.put (k := 1) (s := 35) rfl (by decide) hN (by decide) (fun u_v hu => Option.some.inj (Option.some.inj (show some (some (.slice (some ⟨b1, o1, none⟩) ne ce)) = some (some u_v) from hu))) hW.out))
                | 2, _ =>
                  obtain rfl := Option.some.inj ho
                  clear hd ho hi hc hLi
                  exact st_val (v := .int .i64 i) (w' := W) (want_none rfl) (by unfold execOp; dsimp only [Act.eval]; simp only [f8]; go_simp) (hK.out _ _ (hF.out.put (k := 2) (s := 36) rfl (by decide) hN (by decide) (fun u_v hu => Option.some.inj (Option.some.inj (show some (some (.int .i64 i)) = some (some u_v) from hu))) hW.out))
                | 3, _ =>
                  obtain rfl := Option.some.inj ho
                  have l1 : L 1 = true := dep_of hd (n := 1) (by decide)
                  have e35 : T.getD 35 undef = .slice (some ⟨b1, o1, none⟩) ne ce := hF.out.val 1 35 _ l1 rfl rfl
                  have l2 : L 2 = true := dep_of hd (n := 2) (by decide)
                  have e36 : T.getD 36 undef = .int .i64 i := hF.out.val 2 36 _ l2 rfl rfl
                  clear hd ho hi hc hLi
                  exact st_val (v := .pointer (some ⟨b1, o1 + i, none⟩)) (w' := W) (want_none rfl) (by unfold execOp; dsimp only [Act.eval]; simp only [e35, e36]; go_simp) (hK.out _ _ (hF.out.put (k := 3) (s := 37) rfl (by decide) hN (by decide) (fun u_v hu => Option.some.inj (Option.some.inj (show some (some (.pointer (some ⟨b1, o1 + i, none⟩))) = some (some u_v) from hu))) hW.out))
                | 4, _ =>
                  obtain rfl := Option.some.inj ho
                  have l3 : L 3 = true := dep_of hd (n := 3) (by decide)
                  have e37 : T.getD 37 undef = .pointer (some ⟨b1, o1 + i, none⟩) := hF.out.val 3 37 _ l3 rfl rfl
                  have hcc := hcx.out W hW.out
                  clear hd ho hi hc hLi
                  exact st_val (v := .string X) (w' := W) (want_none rfl) (by unfold execOp; dsimp only [Act.eval]; simp only [e37]; go_simp) (hK.out _ _ (hF.out.put (k := 4) (s := 38) rfl (by decide) hN (by decide) (fun u_v hu => Option.some.inj (Option.some.inj (show some (some (.string X)) = some (some u_v) from hu))) hW.out))
                | 5, _ =>
                  obtain rfl := Option.some.inj ho
                  have l0 : L 0 = true := dep_of hd (n := 0) (by decide)
                  have e34 : T.getD 34 undef = .slice (some ⟨b1, o1, none⟩) ne ce := hF.out.val 0 34 _ l0 rfl rfl
                  have l4 : L 4 = true := dep_of hd (n := 4) (by decide)
                  have e38 : T.getD 38 undef = .string X := hF.out.val 4 38 _ l4 rfl rfl
                  have cc := Lib.hid (q1.out W hW.out)
                  clear hd ho hi hc hLi
                  refine st_call (want_none rfl) (by unfold execOp; go_simp) cc.out ?_
                  rintro r wz ⟨rfl, rfl⟩
                  exact ⟨_, rfl, hK.out _ _ (hF.out.put (k := 5) (s := 39) rfl (by decide) hN (by decide) (fun u_v hu => Option.some.inj (Option.some.inj (show some (some (.int .i64 z1)) = some (some u_v) from hu))) hW.out)⟩
                | 6, _ =>
                  obtain rfl := Option.some.inj ho
                  clear hd ho hi hc hLi
                  exact st_val (v := .slice F nf cf) (w' := W) (want_none rfl) (by unfold execOp; dsimp only [Act.eval]; simp only [f2]; go_simp) (hK.out _ _ (hF.out.put (k := 6) (s := 40) rfl (by decide) hN (by decide) (fun u_v hu => Option.some.inj (Option.some.inj (show some (some (.slice F nf cf)) = some (some u_v) from hu))) hW.out))
                | 7, _ =>
                  obtain rfl := Option.some.inj ho
                  clear hd ho hi hc hLi
                  exact st_val (v := .slice (some ⟨b1, o1, none⟩) ne ce) (w' := W) (want_none rfl) (by unfold execOp; dsimp only [Act.eval]; simp only [f1]; go_simp) (hK.out _ _ (hF.out.put (k := 7) (s := 41) rfl (by decide) hN (by decide) (fun u_v hu => Option.some.inj (Option.some.inj (show some (some (.slice (some ⟨b1, o1, none⟩) ne ce)) = some (some u_v) from hu))) hW.out))
                | 8, _ =>
                  obtain rfl := Option.some.inj ho
                  clear hd ho hi hc hLi
                  exact st_val (v := .int .i64 i) (w' := W) (want_none rfl) (by unfold execOp; dsimp only [Act.eval]; simp only [f8]; go_simp) (hK.out _ _ (hF.out.put (k := 8) (s := 42) rfl (by decide) hN (by decide) (fun u_v hu => Option.some.inj (Option.some.inj (show some (some (.int .i64 i)) = some (some u_v) from hu))) hW.out))
                | 9, _ =>
                  obtain rfl := Option.some.inj ho
                  have l7 : L 7 = true := dep_of hd (n := 7) (by decide)
                  have e41 : T.getD 41 undef = .slice (some ⟨b1, o1, none⟩) ne ce := hF.out.val 7 41 _ l7 rfl rfl
                  have l8 : L 8 = true := dep_of hd (n := 8) (by decide)
                  have e42 : T.getD 42 undef = .int .i64 i := hF.out.val 8 42 _ l8 rfl rfl
                  clear hd ho hi hc hLi
                  exact st_val (v := .pointer (some ⟨b1, o1 + i, none⟩)) (w' := W) (want_none rfl) (by unfold execOp; dsimp only [Act.eval]; simp only [e41, e42]; go_simp) (hK.out _ _ (hF.out.put (k := 9) (s := 43) rfl (by decide) hN (by decide) (fun u_v hu => Option.some.inj (Option.some.inj (show some (some (.pointer (some ⟨b1, o1 + i, none⟩))) = some (some u_v) from hu))) hW.out))
                | 10, _ =>
                  obtain rfl := Option.some.inj ho
                  have l9 : L 9 = true := dep_of hd (n := 9) (by decide)
                  have e43 : T.getD 43 undef = .pointer (some ⟨b1, o1 + i, none⟩) := hF.out.val 9 43 _ l9 rfl rfl
                  have hcc := hcx.out W hW.out
                  clear hd ho hi hc hLi
                  exact st_val (v := .string X) (w' := W) (want_none rfl) (by unfold execOp; dsimp only [Act.eval]; simp only [e43]; go_simp) (hK.out _ _ (hF.out.put (k := 10) (s := 44) rfl (by decide) hN (by decide) (fun u_v hu => Option.some.inj (Option.some.inj (show some (some (.string X)) = some (some u_v) from hu))) hW.out))
                | 11, _ =>
                  obtain rfl := Option.some.inj ho
                  have l6 : L 6 = true := dep_of hd (n := 6) (by decide)
                  have e40 : T.getD 40 undef = .slice F nf cf := hF.out.val 6 40 _ l6 rfl rfl
                  have l10 : L 10 = true := dep_of hd (n := 10) (by decide)
                  have e44 : T.getD 44 undef = .string X := hF.out.val 10 44 _ l10 rfl rfl
                  have cc := Lib.hid (q2.out W hW.out)
                  clear hd ho hi hc hLi
                  refine st_call (want_none rfl) (by unfold execOp; go_simp) cc.out ?_
                  rintro r wz ⟨rfl, rfl⟩
                  exact ⟨_, rfl, hK.out _ _ (hF.out.put (k := 11) (s := 45) rfl (by decide) hN (by decide) (fun u_v hu => Option.some.inj (Option.some.inj (show some (some (.int .i64 z2)) = some (some u_v) from hu))) hW.out)⟩
                | 12, _ =>
                  obtain rfl := Option.some.inj ho
                  have l5 : L 5 = true := dep_of hd (n := 5) (by decide)
                  have e39 : T.getD 39 undef = .int .i64 z1 := hF.out.val 5 39 _ l5 rfl rfl
                  have l11 : L 11 = true := dep_of hd (n := 11) (by decide)
                  have e45 : T.getD 45 undef = .int .i64 z2 := hF.out.val 11 45 _ l11 rfl rfl
                  clear hd ho hi hc hLi
                  exact st_val (v := .bool true) (w' := W) (want_none rfl) (by unfold execOp; dsimp only [Act.eval]; simp only [e39, e45]; go_simp; try omega) (hK.out _ _ (hF.out.put (k := 12) (s := 46) rfl (by decide) hN (by decide) (fun u_v hu => Option.some.inj (Option.some.inj (show some (some (.bool true)) = some (some u_v) from hu))) hW.out))
                | 13, _ =>
                  obtain rfl := Option.some.inj ho
                  have l12 : L 12 = true := dep_of hd (n := 12) (by decide)
                  have e46 : T.getD 46 undef = .bool true := hF.out.val 12 46 _ l12 rfl rfl
                  clear hd ho hi hc hLi
                  exact st_val (v := .bool true) (w' := W) (want_none rfl) (by unfold execOp; dsimp only [Act.eval]; simp only [e46]; go_simp) (hK.out _ _ (hF.out.put (k := 13) (s := 47) rfl (by decide) hN (by decide) (fun u_v hu => Option.some.inj (Option.some.inj (show some (some (.bool true)) = some (some u_v) from hu))) hW.out))
                | 14, _ =>
                  obtain rfl := Option.some.inj ho
                  have l13 : L 13 = true := dep_of hd (n := 13) (by decide)
                  have e47 : T.getD 47 undef = .bool true := hF.out.val 13 47 _ l13 rfl rfl
                  clear hd ho hi hc hLi
                  exact st_val (v := .slice A n c) (w' := W) (by rw [want_some (j := 13) (s := 47) rfl rfl e47]; rfl) (by unfold execOp; dsimp only [Act.eval]; simp only [f0]; go_simp) (hK.out _ _ (hF.out.put (k := 14) (s := 48) rfl (by decide) hN (by decide) (fun u_v hu => Option.some.inj (Option.some.inj (show some (some (.slice A n c)) = some (some u_v) from hu))) hW.out))
                | 15, _ =>
                  obtain rfl := Option.some.inj ho
                  have l13 : L 13 = true := dep_of hd (n := 13) (by decide)
                  have e47 : T.getD 47 undef = .bool true := hF.out.val 13 47 _ l13 rfl rfl
                  clear hd ho hi hc hLi
                  exact st_val (v := .slice (some ⟨b1, o1, none⟩) ne ce) (w' := W) (by rw [want_some (j := 13) (s := 47) rfl rfl e47]; rfl) (by unfold execOp; dsimp only [Act.eval]; simp only [f1]; go_simp) (hK.out _ _ (hF.out.put (k := 15) (s := 49) rfl (by decide) hN (by decide) (fun u_v hu => Option.some.inj (Option.some.inj (show some (some (.slice (some ⟨b1, o1, none⟩) ne ce)) = some (some u_v) from hu))) hW.out))
                | 16, _ =>
                  obtain rfl := Option.some.inj ho
                  have l13 : L 13 = true := dep_of hd (n := 13) (by decide)
                  have e47 : T.getD 47 undef = .bool true := hF.out.val 13 47 _ l13 rfl rfl
                  clear hd ho hi hc hLi
                  exact st_val (v := .int .i64 i) (w' := W) (by rw [want_some (j := 13) (s := 47) rfl rfl e47]; rfl) (by unfold execOp; dsimp only [Act.eval]; simp only [f8]; go_simp) (hK.out _ _ (hF.out.put (k := 16) (s := 50) rfl (by decide) hN (by decide) (fun u_v hu => Option.some.inj (Option.some.inj (show some (some (.int .i64 i)) = some (some u_v) from hu))) hW.out))
                | 17, _ =>
                  obtain rfl := Option.some.inj ho
                  have l15 : L 15 = true := dep_of hd (n := 15) (by decide)
                  have e49 : T.getD 49 undef = .slice (some ⟨b1, o1, none⟩) ne ce := hF.out.val 15 49 _ l15 rfl rfl
                  have l16 : L 16 = true := dep_of hd (n := 16) (by decide)
                  have e50 : T.getD 50 undef = .int .i64 i := hF.out.val 16 50 _ l16 rfl rfl
                  have l13 : L 13 = true := dep_of hd (n := 13) (by decide)
                  have e47 : T.getD 47 undef = .bool true := hF.out.val 13 47 _ l13 rfl rfl
                  clear hd ho hi hc hLi
                  exact st_val (v := .pointer (some ⟨b1, o1 + i, none⟩)) (w' := W) (by rw [want_some (j := 13) (s := 47) rfl rfl e47]; rfl) (by unfold execOp; dsimp only [Act.eval]; simp only [e49, e50]; go_simp) (hK.out _ _ (hF.out.put (k := 17) (s := 51) rfl (by decide) hN (by decide) (fun u_v hu => Option.some.inj (Option.some.inj (show some (some (.pointer (some ⟨b1, o1 + i, none⟩))) = some (some u_v) from hu))) hW.out))
                | 18, _ =>
                  obtain rfl := Option.some.inj ho
                  have l17 : L 17 = true := dep_of hd (n := 17) (by decide)
                  have e51 : T.getD 51 undef = .pointer (some ⟨b1, o1 + i, none⟩) := hF.out.val 17 51 _ l17 rfl rfl
                  have l13 : L 13 = true := dep_of hd (n := 13) (by decide)
                  have e47 : T.getD 47 undef = .bool true := hF.out.val 13 47 _ l13 rfl rfl
                  have hcc := hcx.out W hW.out
                  clear hd ho hi hc hLi
                  exact st_val (v := .string X) (w' := W) (by rw [want_some (j := 13) (s := 47) rfl rfl e47]; rfl) (by unfold execOp; dsimp only [Act.eval]; simp only [e51]; go_simp) (hK.out _ _ (hF.out.put (k := 18) (s := 52) rfl (by decide) hN (by decide) (fun u_v hu => Option.some.inj (Option.some.inj (show some (some (.string X)) = some (some u_v) from hu))) hW.out))
                | 19, _ =>
                  obtain rfl := Option.some.inj ho
                  have l14 : L 14 = true := dep_of hd (n := 14) (by decide)
                  have e48 : T.getD 48 undef = .slice A n c := hF.out.val 14 48 _ l14 rfl rfl
                  have l18 : L 18 = true := dep_of hd (n := 18) (by decide)
                  have e52 : T.getD 52 undef = .string X := hF.out.val 18 52 _ l18 rfl rfl
                  have l13 : L 13 = true := dep_of hd (n := 13) (by decide)
                  have e47 : T.getD 47 undef = .bool true := hF.out.val 13 47 _ l13 rfl rfl
                  have cc := Lib.hid (q3.out W hW.out)
                  clear hd ho hi hc hLi
                  refine st_call (by rw [want_some (j := 13) (s := 47) rfl rfl e47]; rfl) (by unfold execOp; go_simp) cc.out ?_
                  rintro r wz ⟨rfl, hb4⟩
                  exact ⟨_, rfl, hK.out _ _ (hF.out.put (k := 19) (s := 53) rfl (by decide) hN (by decide) (fun u_v hu => Option.some.inj (Option.some.inj (show some (some (.bool false)) = some (some u_v) from hu))) (hW.out.trans (hb4.mono hW.out.size)))⟩
                | 20, _ =>
                  obtain rfl := Option.some.inj ho
                  have l19 : L 19 = true := dep_of hd (n := 19) (by decide)
                  have e53 : T.getD 53 undef = .bool false := hF.out.val 19 53 _ l19 rfl rfl
                  have l13 : L 13 = true := dep_of hd (n := 13) (by decide)
                  have e47 : T.getD 47 undef = .bool true := hF.out.val 13 47 _ l13 rfl rfl
                  clear hd ho hi hc hLi
                  exact st_val (v := .bool true) (w' := W) (by rw [want_some (j := 13) (s := 47) rfl rfl e47]; rfl) (by unfold execOp; dsimp only [Act.eval]; simp only [e53]; go_simp) (hK.out _ _ (hF.out.put (k := 20) (s := 54) rfl (by decide) hN (by decide) (fun u_v hu => Option.some.inj (Option.some.inj (show some (some (.bool true)) = some (some u_v) from hu))) hW.out))
                | 21, _ =>
                  obtain rfl := Option.some.inj ho
                  have l13 : L 13 = true := dep_of hd (n := 13) (by decide)
                  have e47 : T.getD 47 undef = .bool true := hF.out.val 13 47 _ l13 rfl rfl
                  have l20 : L 20 = true := dep_of hd (n := 20) (by decide)
                  have e54 : T.getD 54 undef = .bool true := hF.out.val 20 54 _ l20 rfl rfl
                  clear hd ho hi hc hLi
                  exact st_val (v := .bool true) (w' := W) (want_none rfl) (by unfold execOp; dsimp only [Act.eval]; simp only [e47, e54]; go_simp) (hK.out _ _ (hF.out.put (k := 21) (s := 55) rfl (by decide) hN (by decide) (fun u_v hu => Option.some.inj (Option.some.inj (show some (some (.bool true)) = some (some u_v) from hu))) hW.out))
              case hdone =>
                intro L T W2 hF hW hall
                have hB9 := Lib.hid (hRb.out.trans (hW.mono hRb.out.size))
                clear hW hcx hRb
                have hT : T = #[.slice A n c, .slice (some ⟨b1, o1, none⟩) ne ce, .slice F nf cf, undef, undef, undef, u6, .int .i64 j, .int .i64 i, .int .i64 j, .slice F nf cf, .int .i64 nf, .bool false, u13, u14, u15, u16, u17, u18, u19, u20, u21, u22, u23, u24, u25, u26, u27, .int .i64 i, .slice (some ⟨b1, o1, none⟩) ne ce, .int .i64 ne, .bool true, u32, u33, .slice (some ⟨b1, o1, none⟩) ne ce, .slice (some ⟨b1, o1, none⟩) ne ce, .int .i64 i, .pointer (some ⟨b1, o1 + i, none⟩), .string X, .int .i64 z1, .slice F nf cf, .slice (some ⟨b1, o1, none⟩) ne ce, .int .i64 i, .pointer (some ⟨b1, o1 + i, none⟩), .string X, .int .i64 z2, .bool true, .bool true, .slice A n c, .slice (some ⟨b1, o1, none⟩) ne ce, .int .i64 i, .pointer (some ⟨b1, o1 + i, none⟩), .string X, .bool false, .bool true, .bool true] := (hF.fin [(34, .slice (some ⟨b1, o1, none⟩) ne ce), (35, .slice (some ⟨b1, o1, none⟩) ne ce), (36, .int .i64 i), (37, .pointer (some ⟨b1, o1 + i, none⟩)), (38, .string X), (39, .int .i64 z1), (40, .slice F nf cf), (41, .slice (some ⟨b1, o1, none⟩) ne ce), (42, .int .i64 i), (43, .pointer (some ⟨b1, o1 + i, none⟩)), (44, .string X), (45, .int .i64 z2), (46, .bool true), (47, .bool true), (48, .slice A n c), (49, .slice (some ⟨b1, o1, none⟩) ne ce), (50, .int .i64 i), (51, .pointer (some ⟨b1, o1 + i, none⟩)), (52, .string X), (53, .bool false), (54, .bool true), (55, .bool true)] [34, 35, 36, 37, 38, 39, 40, 41, 42, 43, 44, 45, 46, 47, 48, 49, 50, 51, 52, 53, 54, 55] rfl (List.forall_mem_cons.2 ⟨hF.val 0 _ _ (hall 0 (show 0 < 22 by decide)) rfl rfl, (List.forall_mem_cons.2 ⟨hF.val 1 _ _ (hall 1 (show 1 < 22 by decide)) rfl rfl, (List.forall_mem_cons.2 ⟨hF.val 2 _ _ (hall 2 (show 2 < 22 by decide)) rfl rfl, (List.forall_mem_cons.2 ⟨hF.val 3 _ _ (hall 3 (show 3 < 22 by decide)) rfl rfl, (List.forall_mem_cons.2 ⟨hF.val 4 _ _ (hall 4 (show 4 < 22 by decide)) rfl rfl, (List.forall_mem_cons.2 ⟨hF.val 5 _ _ (hall 5 (show 5 < 22 by decide)) rfl rfl, (List.forall_mem_cons.2 ⟨hF.val 6 _ _ (hall 6 (show 6 < 22 by decide)) rfl rfl, (List.forall_mem_cons.2 ⟨hF.val 7 _ _ (hall 7 (show 7 < 22 by decide)) rfl rfl, (List.forall_mem_cons.2 ⟨hF.val 8 _ _ (hall 8 (show 8 < 22 by decide)) rfl rfl, (List.forall_mem_cons.2 ⟨hF.val 9 _ _ (hall 9 (show 9 < 22 by decide)) rfl rfl, (List.forall_mem_cons.2 ⟨hF.val 10 _ _ (hall 10 (show 10 < 22 by decide)) rfl rfl, (List.forall_mem_cons.2 ⟨hF.val 11 _ _ (hall 11 (show 11 < 22 by decide)) rfl rfl, (List.forall_mem_cons.2 ⟨hF.val 12 _ _ (hall 12 (show 12 < 22 by decide)) rfl rfl, (List.forall_mem_cons.2 ⟨hF.val 13 _ _ (hall 13 (show 13 < 22 by decide)) rfl rfl, (List.forall_mem_cons.2 ⟨hF.val 14 _ _ (hall 14 (show 14 < 22 by decide)) rfl rfl, (List.forall_mem_cons.2 ⟨hF.val 15 _ _ (hall 15 (show 15 < 22 by decide)) rfl rfl, (List.forall_mem_cons.2 ⟨hF.val 16 _ _ (hall 16 (show 16 < 22 by decide)) rfl rfl, (List.forall_mem_cons.2 ⟨hF.val 17 _ _ (hall 17 (show 17 < 22 by decide)) rfl rfl, (List.forall_mem_cons.2 ⟨hF.val 18 _ _ (hall 18 (show 18 < 22 by decide)) rfl rfl, (List.forall_mem_cons.2 ⟨hF.val 19 _ _ (hall 19 (show 19 < 22 by decide)) rfl rfl, (List.forall_mem_cons.2 ⟨hF.val 20 _ _ (hall 20 (show 20 < 22 by decide)) rfl rfl, (List.forall_mem_cons.2 ⟨hF.val 21 _ _ (hall 21 (show 21 < 22 by decide)) rfl rfl, (fun _ h => absurd h List.not_mem_nil)⟩)⟩)⟩)⟩)⟩)⟩)⟩)⟩)⟩)⟩)⟩)⟩)⟩)⟩)⟩)⟩)⟩)⟩)⟩)⟩)⟩)⟩) (by decide)).trans (by kernel_rfl)
                clear hF hall
                subst hT
                go_wp2_with fail
                go_ret
                exact ⟨false, rfl, ⟨fun h => (by cases h), fun h => absurd h hnf.out⟩, hB9.out⟩
          · have g1 : decide ((cnt x os : Int) < (cnt x es : Int)) = false := decide_eq_false (by omega)
            have hR2 := Lib.hid (show ∀ x ∈ es.take (i + 1), cnt x os < cnt x es → nder hs x from fun y hy => by
              rw [take_succ_of hx] at hy
              rcases List.mem_append.1 hy with hy | hy
              · exact hR.out.2 y hy
              · rw [List.mem_singleton.1 hy]; exact fun h => absurd h hgt)
            generalize cnt x es = z1 at q1 g1 l1 hgt
            generalize cnt x os = z2 at q2 g1 l2 hgt
            generalize bs x.enc = X at *
            replace q1 := Lib.hid q1
            replace q2 := Lib.hid q2
            clear hx hxs hc0 hxo hmem hR hx2 q3
            go_upto_region 9 with fail
            refine region_iw tbSe9c dsSe9c (vsSe9c b1 o1 ne ce i A n c F nf cf X z1 z2) (fun L T W => Below wr.heap.size wr W) rfl (by decide) (by kernel_rfl) ?hlt ?hstep ?hdone ?hstart
            case hstart => exact drewN_below 1
            case hlt =>
              intro ix o ho
              have hi := (Array.getElem?_eq_some_iff.1 ho).1
              match ix, hi with
              | 0, _ => obtain rfl := Option.some.inj ho; decide
              | 1, _ => obtain rfl := Option.some.inj ho; decide
              | 2, _ => obtain rfl := Option.some.inj ho; decide
              | 3, _ => obtain rfl := Option.some.inj ho; decide
              | 4, _ => obtain rfl := Option.some.inj ho; decide
              | 5, _ => obtain rfl := Option.some.inj ho; decide
              | 6, _ => obtain rfl := Option.some.inj ho; decide
              | 7, _ => obtain rfl := Option.some.inj ho; decide
              | 8, _ => obtain rfl := Option.some.inj ho; decide
              | 9, _ => obtain rfl := Option.some.inj ho; decide
              | 10, _ => obtain rfl := Option.some.inj ho; decide
              | 11, _ => obtain rfl := Option.some.inj ho; decide
              | 12, _ => obtain rfl := Option.some.inj ho; decide
              | 13, _ => obtain rfl := Option.some.inj ho; decide
              | 14, _ => obtain rfl := Option.some.inj ho; decide
              | 15, _ => obtain rfl := Option.some.inj ho; decide
              | 16, _ => obtain rfl := Option.some.inj ho; decide
              | 17, _ => obtain rfl := Option.some.inj ho; decide
              | 18, _ => obtain rfl := Option.some.inj ho; decide
              | 19, _ => obtain rfl := Option.some.inj ho; decide
              | 20, _ => obtain rfl := Option.some.inj ho; decide
              | 21, _ => obtain rfl := Option.some.inj ho; decide
            case hstep =>
              intro T1 hE L T W ix o hF hW hc ho hLi hd K hK
              have hN : T1.size = 56 := by rw [hE]; rfl
              have f1 : T.getD 1 undef = .slice (some ⟨b1, o1, none⟩) ne ce := (hF.old 1 (by decide)).trans (by rw [hE]; rfl)
              have f2 : T.getD 2 undef = .slice F nf cf := (hF.old 2 (by decide)).trans (by rw [hE]; rfl)
              have f8 : T.getD 8 undef = .int .i64 i := (hF.old 8 (by decide)).trans (by rw [hE]; rfl)
              clear hE
              replace hF := Lib.hid hF
              replace hW := Lib.hid hW
              replace hK := Lib.hid hK
              have hi := (List.getElem?_eq_some_iff.1 ho).1
              match ix, hi with
              | 0, _ =>
                obtain rfl := Option.some.inj ho
                clear hd ho hi hc hLi
                exact st_val (v := .slice (some ⟨b1, o1, none⟩) ne ce) (w' := W) (want_none rfl) (by unfold execOp; dsimp only [Act.eval]; simp only [f1]; go_simp) (hK.out _ _ (hF.out.put (k := 0) (s := 34) rfl (by decide) hN (by decide) (fun u_v hu => Option.some.inj (Option.some.inj (show some (some (.slice (some ⟨b1, o1, none⟩) ne ce)) = some (some u_v) from hu))) hW.out))
              | 1, _ =>
                obtain rfl := Option.some.inj ho
                clear hd ho hi hc hLi
                exact st_val (v := .slice (some ⟨b1, o1, none⟩) ne ce) (w' := W) (want_none rfl) (by unfold execOp; dsimp only [Act.eval]; simp only [f1]; go_simp) (hK.out _ _ (hF.out.put (k := 1) (s := 35) rfl (by decide) hN (by decide) (fun u_v hu => Option.some.inj (Option.some.inj (show some (some (.slice (some ⟨b1, o1, none⟩) ne ce)) = some (some u_v) from hu))) hW.out))
              | 2, _ =>
                obtain rfl := Option.some.inj ho
                clear hd ho hi hc hLi
                exact st_val (v := .int .i64 i) (w' := W) (want_none rfl) (by unfold execOp; dsimp only [Act.eval]; simp only [f8]; go_simp) (hK.out _ _ (hF.out.put (k := 2) (s := 36) rfl (by decide) hN (by decide) (fun u_v hu => Option.some.inj (Option.some.inj (show some (some (.int .i64 i)) = some (some u_v) from hu))) hW.out))
              | 3, _ =>
                obtain rfl := Option.some.inj ho
                have l1 : L 1 = true := dep_of hd (n := 1) (by decide)
                have e35 : T.getD 35 undef = .slice (some ⟨b1, o1, none⟩) ne ce := hF.out.val 1 35 _ l1 rfl rfl
                have l2 : L 2 = true := dep_of hd (n := 2) (by decide)
                have e36 : T.getD 36 undef = .int .i64 i := hF.out.val 2 36 _ l2 rfl rfl
                clear hd ho hi hc hLi
                exact st_val (v := .pointer (some ⟨b1, o1 + i, none⟩)) (w' := W) (want_none rfl) (by unfold execOp; dsimp only [Act.eval]; simp only [e35, e36]; go_simp) (hK.out _ _ (hF.out.put (k := 3) (s := 37) rfl (by decide) hN (by decide) (fun u_v hu => Option.some.inj (Option.some.inj (show some (some (.pointer (some ⟨b1, o1 + i, none⟩))) = some (some u_v) from hu))) hW.out))
              | 4, _ =>
                obtain rfl := Option.some.inj ho
                have l3 : L 3 = true := dep_of hd (n := 3) (by decide)
                have e37 : T.getD 37 undef = .pointer (some ⟨b1, o1 + i, none⟩) := hF.out.val 3 37 _ l3 rfl rfl
                have hcc := hcx.out W hW.out
                clear hd ho hi hc hLi
                exact st_val (v := .string X) (w' := W) (want_none rfl) (by unfold execOp; dsimp only [Act.eval]; simp only [e37]; go_simp) (hK.out _ _ (hF.out.put (k := 4) (s := 38) rfl (by decide) hN (by decide) (fun u_v hu => Option.some.inj (Option.some.inj (show some (some (.string X)) = some (some u_v) from hu))) hW.out))
              | 5, _ =>
                obtain rfl := Option.some.inj ho
                have l0 : L 0 = true := dep_of hd (n := 0) (by decide)
                have e34 : T.getD 34 undef = .slice (some ⟨b1, o1, none⟩) ne ce := hF.out.val 0 34 _ l0 rfl rfl
                have l4 : L 4 = true := dep_of hd (n := 4) (by decide)
                have e38 : T.getD 38 undef = .string X := hF.out.val 4 38 _ l4 rfl rfl
                have cc := Lib.hid (q1.out W hW.out)
                clear hd ho hi hc hLi
                refine st_call (want_none rfl) (by unfold execOp; go_simp) cc.out ?_
                rintro r wz ⟨rfl, rfl⟩
                exact ⟨_, rfl, hK.out _ _ (hF.out.put (k := 5) (s := 39) rfl (by decide) hN (by decide) (fun u_v hu => Option.some.inj (Option.some.inj (show some (some (.int .i64 z1)) = some (some u_v) from hu))) hW.out)⟩
              | 6, _ =>
                obtain rfl := Option.some.inj ho
                clear hd ho hi hc hLi
                exact st_val (v := .slice F nf cf) (w' := W) (want_none rfl) (by unfold execOp; dsimp only [Act.eval]; simp only [f2]; go_simp) (hK.out _ _ (hF.out.put (k := 6) (s := 40) rfl (by decide) hN (by decide) (fun u_v hu => Option.some.inj (Option.some.inj (show some (some (.slice F nf cf)) = some (some u_v) from hu))) hW.out))
              | 7, _ =>
                obtain rfl := Option.some.inj ho
                clear hd ho hi hc hLi
                exact st_val (v := .slice (some ⟨b1, o1, none⟩) ne ce) (w' := W) (want_none rfl) (by unfold execOp; dsimp only [Act.eval]; simp only [f1]; go_simp) (hK.out _ _ (hF.out.put (k := 7) (s := 41) rfl (by decide) hN (by decide) (fun u_v hu => Option.some.inj (Option.some.inj (show some (some (.slice (some ⟨b1, o1, none⟩) ne ce)) = some (some u_v) from hu))) hW.out))
              | 8, _ =>
                obtain rfl := Option.some.inj ho
                clear hd ho hi hc hLi
                exact st_val (v := .int .i64 i) (w' := W) (want_none rfl) (by unfold execOp; dsimp only [Act.eval]; simp only [f8]; go_simp) (hK.out _ _ (hF.out.put (k := 8) (s := 42) rfl (by decide) hN (by decide) (fun u_v hu => Option.some.inj (Option.some.inj (show some (some (.int .i64 i)) = some (some u_v) from hu))) hW.out))
              | 9, _ =>
                obtain rfl := Option.some.inj ho
                have l7 : L 7 = true := dep_of hd (n := 7) (by decide)
                have e41 : T.getD 41 undef = .slice (some ⟨b1, o1, none⟩) ne ce := hF.out.val 7 41 _ l7 rfl rfl
                have l8 : L 8 = true := dep_of hd (n := 8) (by decide)
                have e42 : T.getD 42 undef = .int .i64 i := hF.out.val 8 42 _ l8 rfl rfl
                clear hd ho hi hc hLi
                exact st_val (v := .pointer (some ⟨b1, o1 + i, none⟩)) (w' := W) (want_none rfl) (by unfold execOp; dsimp only [Act.eval]; simp only [e41, e42]; go_simp) (hK.out _ _ (hF.out.put (k := 9) (s := 43) rfl (by decide) hN (by decide) (fun u_v hu => Option.some.inj (Option.some.inj (show some (some (.pointer (some ⟨b1, o1 + i, none⟩))) = some (some u_v) from hu))) hW.out))
              | 10, _ =>
                obtain rfl := Option.some.inj ho
                have l9 : L 9 = true := dep_of hd (n := 9) (by decide)
                have e43 : T.getD 43 undef = .pointer (some ⟨b1, o1 + i, none⟩) := hF.out.val 9 43 _ l9 rfl rfl
                have hcc := hcx.out W hW.out
                clear hd ho hi hc hLi
                exact st_val (v := .string X) (w' := W) (want_none rfl) (by unfold execOp; dsimp only [Act.eval]; simp only [e43]; go_simp) (hK.out _ _ (hF.out.put (k := 10) (s := 44) rfl (by decide) hN (by decide) (fun u_v hu => Option.some.inj (Option.some.inj (show some (some (.string X)) = some (some u_v) from hu))) hW.out))
              | 11, _ =>
                obtain rfl := Option.some.inj ho
                have l6 : L 6 = true := dep_of hd (n := 6) (by decide)
                have e40 : T.getD 40 undef = .slice F nf cf := hF.out.val 6 40 _ l6 rfl rfl
                have l10 : L 10 = true := dep_of hd (n := 10) (by decide)
                have e44 : T.getD 44 undef = .string X := hF.out.val 10 44 _ l10 rfl rfl
                have cc := Lib.hid (q2.out W hW.out)
                clear hd ho hi hc hLi
                refine st_call (want_none rfl) (by unfold execOp; go_simp) cc.out ?_
                rintro r wz ⟨rfl, rfl⟩
                exact ⟨_, rfl, hK.out _ _ (hF.out.put (k := 11) (s := 45) rfl (by decide) hN (by decide) (fun u_v hu => Option.some.inj (Option.some.inj (show some (some (.int .i64 z2)) = some (some u_v) from hu))) hW.out)⟩
              | 12, _ =>
                obtain rfl := Option.some.inj ho
                have l5 : L 5 = true := dep_of hd (n := 5) (by decide)
                have e39 : T.getD 39 undef = .int .i64 z1 := hF.out.val 5 39 _ l5 rfl rfl
                have l11 : L 11 = true := dep_of hd (n := 11) (by decide)
                have e45 : T.getD 45 undef = .int .i64 z2 := hF.out.val 11 45 _ l11 rfl rfl
                clear hd ho hi hc hLi
                exact st_val (v := .bool false) (w' := W) (want_none rfl) (by unfold execOp; dsimp only [Act.eval]; simp only [e39, e45]; go_simp; try omega) (hK.out _ _ (hF.out.put (k := 12) (s := 46) rfl (by decide) hN (by decide) (fun u_v hu => Option.some.inj (Option.some.inj (show some (some (.bool false)) = some (some u_v) from hu))) hW.out))
              | 13, _ =>
                obtain rfl := Option.some.inj ho
                have l12 : L 12 = true := dep_of hd (n := 12) (by decide)
                have e46 : T.getD 46 undef = .bool false := hF.out.val 12 46 _ l12 rfl rfl
                clear hd ho hi hc hLi
                exact st_val (v := .bool false) (w' := W) (want_none rfl) (by unfold execOp; dsimp only [Act.eval]; simp only [e46]; go_simp) (hK.out _ _ (hF.out.put (k := 13) (s := 47) rfl (by decide) hN (by decide) (fun u_v hu => Option.some.inj (Option.some.inj (show some (some (.bool false)) = some (some u_v) from hu))) hW.out))
              | 14, _ =>
                obtain rfl := Option.some.inj ho
                have l13 : L 13 = true := dep_of hd (n := 13) (by decide)
                have e47 : T.getD 47 undef = .bool false := hF.out.val 13 47 _ l13 rfl rfl
                clear hd ho hi hc hLi
                exact st_no (by rw [want_some (j := 13) (s := 47) rfl rfl e47]; rfl) (hK.out _ _ (hF.out.put (k := 14) (s := 48) rfl (by decide) hN (by decide) (fun u_v hu => Option.some.inj (Option.some.inj (show some (some (undef)) = some (some u_v) from hu))) hW.out))
              | 15, _ =>
                obtain rfl := Option.some.inj ho
                have l13 : L 13 = true := dep_of hd (n := 13) (by decide)
                have e47 : T.getD 47 undef = .bool false := hF.out.val 13 47 _ l13 rfl rfl
                clear hd ho hi hc hLi
                exact st_no (by rw [want_some (j := 13) (s := 47) rfl rfl e47]; rfl) (hK.out _ _ (hF.out.put (k := 15) (s := 49) rfl (by decide) hN (by decide) (fun u_v hu => Option.some.inj (Option.some.inj (show some (some (undef)) = some (some u_v) from hu))) hW.out))
              | 16, _ =>
                obtain rfl := Option.some.inj ho
                have l13 : L 13 = true := dep_of hd (n := 13) (by decide)
                have e47 : T.getD 47 undef = .bool false := hF.out.val 13 47 _ l13 rfl rfl
                clear hd ho hi hc hLi
                exact st_no (by rw [want_some (j := 13) (s := 47) rfl rfl e47]; rfl) (hK.out _ _ (hF.out.put (k := 16) (s := 50) rfl (by decide) hN (by decide) (fun u_v hu => Option.some.inj (Option.some.inj (show some (some (undef)) = some (some u_v) from hu))) hW.out))
              | 17, _ =>
                obtain rfl := Option.some.inj ho
                have l13 : L 13 = true := dep_of hd (n := 13) (by decide)
                have e47 : T.getD 47 undef = .bool false := hF.out.val 13 47 _ l13 rfl rfl
                clear hd ho hi hc hLi
                exact st_no (by rw [want_some (j := 13) (s := 47) rfl rfl e47]; rfl) (hK.out _ _ (hF.out.put (k := 17) (s := 51) rfl (by decide) hN (by decide) (fun u_v hu => Option.some.inj (Option.some.inj (show some (some (undef)) = some (some u_v) from hu))) hW.out))
              | 18, _ =>
                obtain rfl := Option.some.inj ho
                have l13 : L 13 = true := dep_of hd (n := 13) (by decide)
                have e47 : T.getD 47 undef = .bool false := hF.out.val 13 47 _ l13 rfl rfl
                clear hd ho hi hc hLi
                exact st_no (by rw [want_some (j := 13) (s := 47) rfl rfl e47]; rfl) (hK.out _ _ (hF.out.put (k := 18) (s := 52) rfl (by decide) hN (by decide) (fun u_v hu => Option.some.inj (Option.some.inj (show some (some (undef)) = some (some u_v) from hu))) hW.out))
              | 19, _ =>
                obtain rfl := Option.some.inj ho
                have l13 : L 13 = true := dep_of hd (n := 13) (by decide)
                have e47 : T.getD 47 undef = .bool false := hF.out.val 13 47 _ l13 rfl rfl
                clear hd ho hi hc hLi
                exact st_no (by rw [want_some (j := 13) (s := 47) rfl rfl e47]; rfl) (hK.out _ _ (hF.out.put (k := 19) (s := 53) rfl (by decide) hN (by decide) (fun u_v hu => Option.some.inj (Option.some.inj (show some (some (undef)) = some (some u_v) from hu))) hW.out))
              | 20, _ =>
                obtain rfl := Option.some.inj ho
                have l13 : L 13 = true := dep_of hd (n := 13) (by decide)
                have e47 : T.getD 47 undef = .bool false := hF.out.val 13 47 _ l13 rfl rfl
                clear hd ho hi hc hLi
                exact st_no (by rw [want_some (j := 13) (s := 47) rfl rfl e47]; rfl) (hK.out _ _ (hF.out.put (k := 20) (s := 54) rfl (by decide) hN (by decide) (fun u_v hu => Option.some.inj (Option.some.inj (show some (some (undef)) = some (some u_v) from hu))) hW.out))
              | 21, _ =>
                obtain rfl := Option.some.inj ho
                have l13 : L 13 = true := dep_of hd (n := 13) (by decide)
                have e47 : T.getD 47 undef = .bool false := hF.out.val 13 47 _ l13 rfl rfl
                have l20 : L 20 = true := dep_of hd (n := 20) (by decide)
                have e54 : T.getD 54 undef = undef := hF.out.val 20 54 _ l20 rfl rfl
                clear hd ho hi hc hLi
                exact st_val (v := .bool false) (w' := W) (want_none rfl) (by unfold execOp; dsimp only [Act.eval]; simp only [e47, e54]; go_simp) (hK.out _ _ (hF.out.put (k := 21) (s := 55) rfl (by decide) hN (by decide) (fun u_v hu => Option.some.inj (Option.some.inj (show some (some (.bool false)) = some (some u_v) from hu))) hW.out))
            case hdone =>
              intro L T W2 hF hW hall
              have hB9 := Lib.hid (hRb.out.trans (hW.mono hRb.out.size))
              clear hW hcx hRb
              have hT : T = #[.slice A n c, .slice (some ⟨b1, o1, none⟩) ne ce, .slice F nf cf, undef, undef, undef, u6, .int .i64 j, .int .i64 i, .int .i64 j, .slice F nf cf, .int .i64 nf, .bool false, u13, u14, u15, u16, u17, u18, u19, u20, u21, u22, u23, u24, u25, u26, u27, .int .i64 i, .slice (some ⟨b1, o1, none⟩) ne ce, .int .i64 ne, .bool true, u32, u33, .slice (some ⟨b1, o1, none⟩) ne ce, .slice (some ⟨b1, o1, none⟩) ne ce, .int .i64 i, .pointer (some ⟨b1, o1 + i, none⟩), .string X, .int .i64 z1, .slice F nf cf, .slice (some ⟨b1, o1, none⟩) ne ce, .int .i64 i, .pointer (some ⟨b1, o1 + i, none⟩), .string X, .int .i64 z2, .bool false, .bool false, undef, undef, undef, undef, undef, undef, undef, .bool false] := (hF.fin [(34, .slice (some ⟨b1, o1, none⟩) ne ce), (35, .slice (some ⟨b1, o1, none⟩) ne ce), (36, .int .i64 i), (37, .pointer (some ⟨b1, o1 + i, none⟩)), (38, .string X), (39, .int .i64 z1), (40, .slice F nf cf), (41, .slice (some ⟨b1, o1, none⟩) ne ce), (42, .int .i64 i), (43, .pointer (some ⟨b1, o1 + i, none⟩)), (44, .string X), (45, .int .i64 z2), (46, .bool false), (47, .bool false), (48, undef), (49, undef), (50, undef), (51, undef), (52, undef), (53, undef), (54, undef), (55, .bool false)] [34, 35, 36, 37, 38, 39, 40, 41, 42, 43, 44, 45, 46, 47, 48, 49, 50, 51, 52, 53, 54, 55] rfl (List.forall_mem_cons.2 ⟨hF.val 0 _ _ (hall 0 (show 0 < 22 by decide)) rfl rfl, (List.forall_mem_cons.2 ⟨hF.val 1 _ _ (hall 1 (show 1 < 22 by decide)) rfl rfl, (List.forall_mem_cons.2 ⟨hF.val 2 _ _ (hall 2 (show 2 < 22 by decide)) rfl rfl, (List.forall_mem_cons.2 ⟨hF.val 3 _ _ (hall 3 (show 3 < 22 by decide)) rfl rfl, (List.forall_mem_cons.2 ⟨hF.val 4 _ _ (hall 4 (show 4 < 22 by decide)) rfl rfl, (List.forall_mem_cons.2 ⟨hF.val 5 _ _ (hall 5 (show 5 < 22 by decide)) rfl rfl, (List.forall_mem_cons.2 ⟨hF.val 6 _ _ (hall 6 (show 6 < 22 by decide)) rfl rfl, (List.forall_mem_cons.2 ⟨hF.val 7 _ _ (hall 7 (show 7 < 22 by decide)) rfl rfl, (List.forall_mem_cons.2 ⟨hF.val 8 _ _ (hall 8 (show 8 < 22 by decide)) rfl rfl, (List.forall_mem_cons.2 ⟨hF.val 9 _ _ (hall 9 (show 9 < 22 by decide)) rfl rfl, (List.forall_mem_cons.2 ⟨hF.val 10 _ _ (hall 10 (show 10 < 22 by decide)) rfl rfl, (List.forall_mem_cons.2 ⟨hF.val 11 _ _ (hall 11 (show 11 < 22 by decide)) rfl rfl, (List.forall_mem_cons.2 ⟨hF.val 12 _ _ (hall 12 (show 12 < 22 by decide)) rfl rfl, (List.forall_mem_cons.2 ⟨hF.val 13 _ _ (hall 13 (show 13 < 22 by decide)) rfl rfl, (List.forall_mem_cons.2 ⟨hF.val 14 _ _ (hall 14 (show 14 < 22 by decide)) rfl rfl, (List.forall_mem_cons.2 ⟨hF.val 15 _ _ (hall 15 (show 15 < 22 by decide)) rfl rfl, (List.forall_mem_cons.2 ⟨hF.val 16 _ _ (hall 16 (show 16 < 22 by decide)) rfl rfl, (List.forall_mem_cons.2 ⟨hF.val 17 _ _ (hall 17 (show 17 < 22 by decide)) rfl rfl, (List.forall_mem_cons.2 ⟨hF.val 18 _ _ (hall 18 (show 18 < 22 by decide)) rfl rfl, (List.forall_mem_cons.2 ⟨hF.val 19 _ _ (hall 19 (show 19 < 22 by decide)) rfl rfl, (List.forall_mem_cons.2 ⟨hF.val 20 _ _ (hall 20 (show 20 < 22 by decide)) rfl rfl, (List.forall_mem_cons.2 ⟨hF.val 21 _ _ (hall 21 (show 21 < 22 by decide)) rfl rfl, (fun _ h => absurd h List.not_mem_nil)⟩)⟩)⟩)⟩)⟩)⟩)⟩)⟩)⟩)⟩)⟩)⟩)⟩)⟩)⟩)⟩)⟩)⟩)⟩)⟩)⟩)⟩) (by decide)).trans (by kernel_rfl)
              clear hF hall
              subst hT
              have hR3 := Lib.hid (And.intro hB9.out hR2.out)
              go_wp2_with fail
              go_roundw
              case rel => exact ⟨i + 1, by omega, by go_num, hR3⟩
              case measure => simp [intOf]; omega
        · have hfin := Lib.hid (show fromP hs es os from ⟨hall.out, fun x hx => by
            have := hR.out.2
            rw [List.take_of_length_le (by have := hlh.out.1; omega)] at this
            exact this x (cnt_pos.1 (by omega)) hx⟩)
          have hRb := Lib.hid hR.out.1
          clear hR
          go_wp2_with fail
          go_ret
          exact ⟨true, rfl, by simp only [true_iff]; exact hfin.out, hRb.out⟩
set_option maxRecDepth 100000 in
set_option maxHeartbeats 8000000 in
theorem rshare_any (hs : List Tm) (A : Option Addr) (n c : Nat) (t : Tm) (hn : n ≤ 1000000) (hok : t.ok) (hl : t.enc.length ≤ 4000000000) (hk5 : t.kind = 5) (hhs : ∀ u ∈ hs, u.ok ∧ u.enc.length ≤ 4000000000) : RShP hs A n c t := by
  intro w Av cv H HA
  have hfr := fun (W : World) (hb : Below w.heap.size w W) (os : List Tm) (F : Option Addr) (nf cf : Nat) (hnf : nf ≤ 1000000) (hos : ∀ u ∈ os, u.ok) (HF : Strs W F nf (encS3 os)) => rfrom_any (c := c) (ce := cv) (cf := cf) hs t.args os A Av F n t.args.length nf W hn
    (by obtain ⟨k, a, b, s, args⟩ := t
        have := (ok_mk.1 hok).1
        unfold okHd at this
        show args.length ≤ 1000000
        omega) hnf (fun u hu => ⟨ok_args hok u hu, ok_exps hok hk5 u hu, Nat.le_trans (enc_arg_le hu) hl⟩) hos (fun u hu => (hhs u hu).1) (H.keep hb) (HA.keep hb) HF
  obtain ⟨k, a, b, s, args⟩ := t
  simp only [Tm.kind, Tm.a, Tm.b, Tm.s, Tm.args] at *
  subst hk5
  change Calls Tryz.prog 42 #[.slice A n c, .agg (rnC 5 a b s (.slice Av args.length cv)).toArray] w (RAns (raiseP hs s args) w)
  have hbx := below_new w (.cells (rnC 5 a b s (.slice Av args.length cv)).toArray 91)
  have hrx := heap_new w (.cells (rnC 5 a b s (.slice Av args.length cv)).toArray 91)
  obtain ⟨W1, hW1⟩ : ∃ W1, W1 = w.alloc (.cells (rnC 5 a b s (.slice Av args.length cv)).toArray 91) := ⟨_, rfl⟩
  rw [← hW1] at hbx hrx
  have hcl := Lib.hid (fun W' (hb : Below W1.heap.size W1 W') => (⟨(rbox_cells ((hb.block w.heap.size (Array.getElem?_eq_some_iff.1 hrx).1).trans hrx)).2.1, (rbox_cells ((hb.block w.heap.size (Array.getElem?_eq_some_iff.1 hrx).1).trans hrx)).2.2⟩ : W'.cell? ⟨w.heap.size, 3, none⟩ = some (.string (bs s)) ∧ W'.cell? ⟨w.heap.size, 4, none⟩ = some (.slice Av args.length cv)))
  obtain ⟨d3, d4⟩ := hcl.out W1 (Below.refl _ _)
  obtain ⟨q1, hq1⟩ : ∃ q : Bool, (q = true ↔ fromP hs args []) := by classical exact ⟨decide (fromP hs args []), by simp⟩
  have cF1 := Lib.hid (Calls.mono (hfr W1 hbx [] none 0 0 (by omega) (fun u hu => by cases hu) Strs.nil_) fun (r : Ending) (W' : World) ⟨q, h1, h2, h3⟩ => (show r = Ending.returned (.bool q1) ∧ Below W1.heap.size W1 W' from ⟨by rw [h1, show q = q1 by rw [Bool.eq_iff_iff, h2, hq1]], h3⟩))
  have hbxh := Lib.hid hbx
  have hfrh := Lib.hid hfr
  have Hh := Lib.hid H
  have hhsh := Lib.hid hhs
  have hhl : hs.length = n := by have := H.len; simpa [encS3] using this
  have hhlh := Lib.hid hhl
  have hW1' := hW1
  clear hfr H HA hok hl hhs hbx hrx hhl
  cases q1 with
  | true =>
    have hin := Lib.hid (hq1.1 rfl)
    clear hq1 hW1'
    go_enter Tryz.func42, Tryz.ntmps42
    go_upto_region 1 with fail
    rw [← hW1]
    clear hW1
    go_wp2_with (go_at_call 87; (with_reducible refine cF1.out.mono ?_); rintro r w2 ⟨rfl, hb2⟩; replace hb2 := Lib.hid hb2)
    go_ret
    exact ⟨true, rfl, by simp only [true_iff]; exact .inl hin.out, hbxh.out.trans (hb2.out.mono hbxh.out.size)⟩
  | false =>
    have hnin := Lib.hid (show ¬ fromP hs args [] from fun h => by have := hq1.2 h; cases this)
    clear hq1 hW1'
    go_enter Tryz.func42, Tryz.ntmps42
    go_upto_region 1 with fail
    rw [← hW1]
    clear hW1
    have h0 := Lib.hid (show ∀ y ∈ hs.take 0, y.kind = 5 → y.s = s → ¬ fromP hs args y.args from fun y hy => by simp at hy)
    go_upto_region 4 with (go_at_call 87; (with_reducible refine cF1.out.mono ?_); rintro r w2 ⟨rfl, hb2⟩; replace hb2 := Lib.hid hb2)
    clear cF1 d3 d4
    go_loopw [5] (fun iv wr => ∃ j : Nat, j ≤ n ∧ iv = .int .i64 j ∧ Hid (Below W1.heap.size W1 wr) ∧ Hid (∀ y ∈ hs.take j, y.kind = 5 → y.s = s → ¬ fromP hs args y.args)) (fun iv _ => n - (intOf iv).toNat)
    case atStart => exact ⟨0, Nat.zero_le _, rfl, hb2, h0⟩
    case round =>
      clear h0 hb2
      obtain ⟨j, hj, rfl, hb, hno⟩ := hrel
      by_cases hlt : j < n
      · have hlt' : (j : Int) < (n : Int) := by omega
        obtain ⟨y, hy⟩ : ∃ y, hs[j]? = some y := ⟨hs[j]'(by rw [hhlh.out]; exact hlt), List.getElem?_eq_getElem _⟩
        obtain ⟨hyok, hyl⟩ := hhsh.out y (List.mem_of_getElem? hy)
        have hB1 := hbxh.out.trans (hb.out.mono hbxh.out.size)
        obtain ⟨b1, o1, xs, rfl, hbl, hxs, hc0⟩ := Hh.out.at_ hlt
        have hxe : bs y.enc = xs := by
          unfold encS3 at hxs
          rw [List.getElem?_map, hy] at hxs
          exact Option.some.inj hxs
        subst hxe
        have hcell := (hB1.cell (p := ⟨b1, o1 + j, none⟩) hbl).trans hc0
        have cK := rKind_any (some y) (fun t h => by obtain rfl := Option.some.inj h; exact hyok) hyl
        have hke : kindO (some y) = y.kind := rfl
        rw [hke, show encO (some y) = y.enc from rfl] at cK
        have hnext := fun (hq : y.kind = 5 → y.s = s → ¬ fromP hs args y.args) => (show ∀ z ∈ hs.take (j + 1), z.kind = 5 → z.s = s → ¬ fromP hs args z.args from fun z hz => by
          rw [take_succ_of hy] at hz
          rcases List.mem_append.1 hz with hz | hz
          · exact hno.out z hz
          · rw [List.mem_singleton.1 hz]; exact hq)
        have hymem := Lib.hid (List.mem_of_getElem? hy)
        by_cases hk : y.kind = 5
        · have cV := rView_any y hyok hyl wr
          have hm8 : y.args.length ≤ 1000000 := by
            obtain ⟨k2, a2, b2, s2, args2⟩ := y
            have := (ok_mk.1 hyok).1; unfold okHd at this; show args2.length ≤ 1000000; omega
          have hyargs := ok_args hyok
          rw [hk] at cK cV
          have hnext := Lib.hid (fun h => hnext (fun _ => h))
          generalize y.a = a2 at *
          generalize y.b = b2 at *
          generalize hs2 : y.s = s2 at *
          have hs2h := Lib.hid hs2
          generalize hag : y.args = args2 at *
          have hagh := Lib.hid hag
          generalize bs y.enc = X at *
          have cV := Lib.hid (show Calls Tryz.prog 41 #[.string X] wr fun r w' => ∃ (A : Option Addr) (c : Nat), r = .returned (.agg (rnC 5 a2 b2 s2 (.slice A args2.length c)).toArray) ∧ Strs w' A args2.length (encS3 args2) ∧ Below wr.heap.size wr w' from cV)
          replace cK := Lib.hid cK
          have hyah := Lib.hid hyargs
          have hkh := Lib.hid hk
          clear hy hyok hyl hxs hc0 hB1 hs2 hag hyargs hk hke
          go_upto_region 8 with (first
            | (go_at_call 40; (with_reducible refine (cK.out _).mono ?_); rintro r w3 ⟨rfl, rfl⟩)
            | (go_at_call 41; (with_reducible refine cV.out.mono ?_); rintro r w3 ⟨A3, c3, rfl, hSv, hb3⟩
               have z1 := Lib.hid (heap_new w3 (.cells rz 91))
               have hB3 := Lib.hid (hb3.trans (Below.mono (below_setRow_ (below_new w3 (.cells rz 91)) (Nat.le_refl _) (rnC 5 a2 b2 s2 (.slice A3 args2.length c3)).toArray) hb3.size))
               have hS3 := Lib.hid (hSv.keep (below_setRow_ (below_new w3 (.cells rz 91)) (Nat.le_refl _) (rnC 5 a2 b2 s2 (.slice A3 args2.length c3)).toArray))
               have hr3 := Lib.hid (hsetRow _ _ _ (rnC 5 a2 b2 s2 (.slice A3 args2.length c3)).toArray _ _ z1.out)
               clear hb3 hSv)
            | (refine wpList_alloc_row 91 rfl rfl rz rn_zero ?_; try simp only [World.size_alloc])
            | (refine wpList_store_at 91 _ _ rfl rfl w3.heap.size (rnC 5 a2 b2 s2 (.slice A3 args2.length c3)).toArray rfl rfl 91 rz z1.out (rn_info rfl) rfl rn_all ?_))
          replace hr3 := hr3.out
          replace hB3 := hB3.out
          replace hS3 := hS3.out
          clear z1 cK cV
          generalize ((w3.alloc (.cells rz 91)).setRow w3.heap.size (rnC 5 a2 b2 s2 (.slice A3 args2.length c3)).toArray) = w4 at *
          generalize w3.heap.size = p9 at *
          obtain ⟨-, e3, e4⟩ := rbox_cells hr3
          have hB4 := hb.out.trans (hB3.mono hb.out.size)
          obtain ⟨d3, d4⟩ := hcl.out w4 hB4
          have hB4w := hbxh.out.trans (hB4.mono hbxh.out.size)
          by_cases hss : s2 = s
          · have hss' := hss
            subst hss'
            obtain ⟨q2, hq2⟩ : ∃ q : Bool, (q = true ↔ fromP hs args args2) := by classical exact ⟨decide (fromP hs args args2), by simp⟩
            have cF2 := Lib.hid (Calls.mono (hfrh.out w4 hB4w args2 A3 args2.length c3 hm8 hyah.out hS3) fun (r : Ending) (W' : World) ⟨q, h1, h2, h3⟩ => (show r = Ending.returned (.bool q2) ∧ Below w4.heap.size w4 W' from ⟨by rw [h1, show q = q2 by rw [Bool.eq_iff_iff, h2, hq2]], h3⟩))
            have hB4h := Lib.hid hB4
            cases q2 with
            | true =>
              have hraise := Lib.hid (show raiseP hs s2 args from .inr ⟨y, hymem.out, hkh.out, hs2h.out, by rw [hagh.out]; exact hq2.1 rfl⟩)
              clear hq2 hr3 hB3 hS3 hB4 hB4w hss
              go_wp2_with (go_at_call 87; (with_reducible refine cF2.out.mono ?_); rintro r w5 ⟨rfl, hb5⟩; replace hb5 := Lib.hid hb5)
              go_ret
              exact ⟨true, rfl, by simp only [true_iff]; exact hraise.out, hbxh.out.trans ((hB4h.out.trans (hb5.out.mono hB4h.out.size)).mono hbxh.out.size)⟩
            | false =>
              have hn2 := Lib.hid (hnext.out (fun _ h => by have := hq2.2 h; cases this))
              clear hq2 hr3 hB3 hS3 hB4 hB4w hss hnext
              go_wp2_with (go_at_call 87; (with_reducible refine cF2.out.mono ?_); rintro r w5 ⟨rfl, hb5⟩; replace hb5 := Lib.hid (hB4h.out.trans (hb5.mono hB4h.out.size)))
              go_roundw
              case rel => exact ⟨j + 1, by omega, by go_num, hb5, hn2⟩
              case measure => simp [intOf]; omega
          · have hne : ((bs s2).toList == (bs s).toList) = false := by rw [beq_eq_false_iff_ne]; rw [bs_list_, bs_list_]; exact hss
            have hn2 := Lib.hid (hnext.out (fun h => absurd h hss))
            have hB4h := Lib.hid hB4
            clear hr3 hB3 hS3 hB4 hB4w hss hnext
            generalize bs s2 = S2 at *
            generalize bs s = S1 at *
            go_wp2_with fail
            go_roundw
            case rel => exact ⟨j + 1, by omega, by go_num, hB4h, hn2⟩
            case measure => simp [intOf]; omega
        · have hkf : ((y.kind : Int) == 5) = false := by rw [beq_eq_false_iff_ne]; omega
          have hn2 := Lib.hid (hnext (fun h => absurd h hk))
          generalize y.kind = k2 at *
          generalize bs y.enc = X at *
          replace cK := Lib.hid cK
          clear hy hyok hyl hxs hc0 hB1 hk hke hnext
          go_wp2_with (go_at_call 40; (with_reducible refine (cK.out _).mono ?_); rintro r w3 ⟨rfl, rfl⟩)
          go_roundw
          case rel => exact ⟨j + 1, by omega, by go_num, hb, hn2⟩
          case measure => simp [intOf]; omega
      · have hnot := Lib.hid (show ¬ raiseP hs s args from fun h => h.elim hnin.out fun ⟨y, hy, h1, h2, h3⟩ => by
          have := hno.out
          rw [List.take_of_length_le (by have := hhlh.out; omega)] at this
          exact this y hy h1 h2 h3)
        clear hno
        go_wp2_with fail
        go_ret
        exact ⟨false, rfl, ⟨fun h => (by cases h), fun h => absurd h hnot.out⟩, hbxh.out.trans (hb.out.mono hbxh.out.size)⟩
/-- CAN A TEXT BE MADE, the reference asks: of the text of any term. -/
theorem rcan_all (hs : List Tm) (A : Option Addr) (n c : Nat) (hn : n ≤ 1000000) (hhs : ∀ u ∈ hs, u.ok ∧ u.enc.length ≤ 4000000000) : ∀ t, t.ok → t.enc.length ≤ 4000000000 → RCanP hs A n c t :=
  tm_rec fun t ih hok hl => rcan_step hs A n c t hn hok hl (fun u hu => (hhs u hu).1) (fun h5 => rshare_any hs A n c t hn hok hl h5 hhs) fun u hu => ih u hu (ok_args hok u hu) (Nat.le_trans (enc_arg_le hu) hl)
end Go.Proofs.YtphnakdgpilcmaaGreatDoor
