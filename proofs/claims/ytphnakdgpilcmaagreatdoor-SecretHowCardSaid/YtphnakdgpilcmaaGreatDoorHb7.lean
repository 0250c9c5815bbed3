/- Arenas: before (printed by wip/gen_bef.py). -/
import Derived.Test.YtphnakdgpilcmaaGreatDoorHb2
import Derived.Test.YtphnakdgpilcmaaGreatDoorHb0
namespace Go.Proofs.YtphnakdgpilcmaaGreatDoor
open Go.RowKit Go.Maps

def PB (g : Nat) (S : Value) (j k : Nat) (b o1 o2 : Nat) (C1 C2 : List Value) (i : Nat) (x : Value) : Prop := match i with
  | 0 => x = .pointer (some ⟨g, 0, none⟩)
  | 1 => x = .pointer (some ⟨g, 0, none⟩)
  | 2 => x = .pointer (some ⟨g, 0, none⟩)
  | 3 => x = S
  | 4 => x = .int .i64 j
  | 5 => x = .pointer (some ⟨b, o1, none⟩)
  | 6 => x = .agg C1.toArray
  | 7 => x = .pointer (some ⟨g, 0, none⟩)
  | 8 => x = .pointer (some ⟨g, 0, none⟩)
  | 9 => x = .pointer (some ⟨g, 0, none⟩)
  | 10 => x = S
  | 11 => x = .int .i64 k
  | 12 => x = .pointer (some ⟨b, o2, none⟩)
  | 13 => x = .agg C2.toArray
  | _ => True
theorem PB_step {g : Nat} {S : Value} {j k : Nat} {b o1 o2 : Nat} {C1 C2 : List Value} {L : Nat → Bool} {xs : List Value} {i : Nat} {x' : Value} (h : ∀ q, L q = true → PB g S j k b o1 o2 C1 C2 q (xs.getD q undef)) (hn : PB g S j k b o1 o2 C1 C2 i x') (hi : i < xs.length) :
    ∀ q, (q == i || L q) = true → PB g S j k b o1 o2 C1 C2 q ((xs.set i x').getD q undef) := by
  intro q hq
  by_cases e : q = i
  · subst e
    rw [List.getD_eq_getElem?_getD, List.getElem?_set_self hi]
    exact hn
  · have hL : L q = true := by simpa [e] using hq
    rw [List.getD_eq_getElem?_getD, List.getElem?_set_ne (Ne.symm e), ← List.getD_eq_getElem?_getD]
    exact h q hL
theorem PB_pass {g : Nat} {S : Value} {j k : Nat} {b o1 o2 : Nat} {C1 C2 : List Value} {L : Nat → Bool} {xs : List Value} {i : Nat} (h : ∀ q, L q = true → PB g S j k b o1 o2 C1 C2 q (xs.getD q undef)) (hn : ∀ x, PB g S j k b o1 o2 C1 C2 i x) : ∀ q, (q == i || L q) = true → PB g S j k b o1 o2 C1 C2 q (xs.getD q undef) := by
  intro q hq
  by_cases e : q = i
  · subst e; exact hn _
  · exact h q (by simpa [e] using hq)
/-- A new block of a node: made, then written. -/
def BlkN (w W : World) (C : List Value) (la ls : Bool) (x : Value) : Prop := la = true → ∃ q, x = .pointer (some ⟨q, 0, none⟩) ∧ w.heap.size ≤ q ∧ W.heap[q]? = some (.cells (bif ls then C.toArray else #[.int .i64 0, .int .i64 0, .int .i64 0, .string ⟨#[]⟩, .slice none 0 0]) 52 (0, 0))
theorem BlkN.alloc {w W : World} {C : List Value} {la ls : Bool} {x : Value} (h : BlkN w W C la ls x) (o : Obj) : BlkN w (W.alloc o) C la ls x := fun l => by
  obtain ⟨q, e, h1, h2⟩ := h l
  exact ⟨q, e, h1, heap_past h2 o⟩
theorem BlkN.put {w W : World} {C : List Value} {la ls : Bool} {x : Value} (h : BlkN w W C la ls x) {q : Nat} (hq : la = true → x ≠ .pointer (some ⟨q, 0, none⟩)) (cs : Array Value) : BlkN w (W.setRow q cs) C la ls x := fun l => by
  obtain ⟨q', e, h1, h2⟩ := h l
  exact ⟨q', e, h1, (hsetRow_off (fun e' => hq l (by rw [e, e'])) cs).trans h2⟩
noncomputable def stN (a : Addr) (v : Value) : Sem Unit := storeVar 52 a v
theorem stN_eq (a : Addr) (v : Value) : storeVar 52 a v = stN a v := rfl
theorem stN_run (w : World) (q : Nat) (old cells : Array Value) (hg : w.heap[q]? = some (.cells old 52 (0, 0))) (ho : old.size = cells.size) (h1 : cells.all (·.oneCell') = true) (h8 : cells.size = 5) :
    (stN ⟨q, 0, none⟩ (.agg cells)).run Tryz.prog w = .ok () (w.setRow q cells) :=
  run_storeVar_row w q 52 52 old cells hg (by rw [h8]; kernel_rfl) ho h1
theorem ldN_mid {w : World} {b off : Nat} {cs : List Value} (hc : w.rangeAt b off cs) (h5 : cs.length = 5) : (ldN ⟨b, off, none⟩).run Tryz.prog w = .ok (.agg cs.toArray) w := by
  unfold ldN
  exact run_loadVar_mid (P := Tryz.prog) w b off 52 cs _ hc Tryz.underlying52 rfl (by rw [h5]; kernel_rfl)
def IB (F : Value → Value → Value → Value → Value → Value → Value → Value → Value → Value → Value → Value → Value → Value → Value → Value → Array Value) (g : Nat) (S : Value) (j k : Nat) (b o1 o2 : Nat) (C1 C2 : List Value) (w : World) (L : Nat → Bool) (ac : Act) (W : World) : Prop :=
  ∃ x0 x1 x2 x3 x4 x5 x6 x7 x8 x9 x10 x11 x12 x13 x14 x15, ac = ⟨F x0 x1 x2 x3 x4 x5 x6 x7 x8 x9 x10 x11 x12 x13 x14 x15, []⟩ ∧ (∀ q, L q = true → PB g S j k b o1 o2 C1 C2 q ([x0, x1, x2, x3, x4, x5, x6, x7, x8, x9, x10, x11, x12, x13].getD q undef)) ∧ BlkN w W C1 (L 14) (L 16) x14 ∧ BlkN w W C2 (L 15) (L 17) x15 ∧ (L 14 = true → L 15 = true → x14 ≠ x15) ∧ (L 16 = true → L 14 = true) ∧ (L 17 = true → L 15 = true) ∧ Below w.heap.size w W
def cmpT (p q : Tm) : Int := if (p.a : Int) ≠ q.a then (p.a : Int) - q.a else (p.b : Int) - q.b
section
attribute [local go_sem ↓] ldN_eq stN_eq
set_option maxRecDepth 100000 in
set_option maxHeartbeats 8000000 in
theorem before_any (A : Ar) (B : Nat) (w : World) (H : Arena w B A) (j k : Nat) (n1 n2 : Nd) (h1 : A.N[j]? = some n1) (h2 : A.N[k]? = some n2) (b1 : n1.t.a ≤ 2147483647 ∧ n1.t.b ≤ 2147483647) (b2 : n2.t.a ≤ 2147483647 ∧ n2.t.b ≤ 2147483647) (hv1 : n1.v.oneCell' = true) (hv2 : n2.v.oneCell' = true) :
    Calls Tryz.prog 51 #[.pointer (some ⟨A.g, 0, none⟩), .int .i64 j, .int .i64 k] w fun r w' => r = .returned (.int .i64 (cmpT n1.t n2.t)) ∧ Below w.heap.size w w' := by
  obtain ⟨An, cn, As, cs, e1, e2, c0, c1, c2, _, _⟩ := H.open_
  obtain ⟨b, off, cn', ev, hb, hr1, hjl⟩ := H.node h1
  obtain ⟨b', off', cn2, ev2, hb2, hr2, hkl⟩ := H.node h2
  rw [e1] at ev ev2
  injection ev with ev _ ec
  subst ev ec
  injection ev2 with ev2 _ ec
  subst ec
  injection ev2 with ev2
  injection ev2 with ev2 ev3 _
  subst ev2 ev3
  have hlg := H.lt
  have hfew := H.few
  obtain ⟨⟨k1, a1, d1, s1, l1⟩, v1, y1⟩ := n1
  obtain ⟨⟨k2, a2, d2, s2, l2⟩, v2, y2⟩ := n2
  simp only [Tm.a, Tm.b] at b1 b2
  have hr1 := Lib.hid (show w.rangeAt b (off + j * 5) (ndC k1 a1 d1 s1 v1) from hr1)
  have hr2 := Lib.hid (show w.rangeAt b (off + k * 5) (ndC k2 a2 d2 s2 v2) from hr2)
  have o1 := Lib.hid (show (ndC k1 a1 d1 s1 v1).toArray.all (·.oneCell') = true by simp [ndC, show v1.oneCell' = true from hv1]; exact ⟨rfl, rfl, rfl, rfl⟩)
  have o2 := Lib.hid (show (ndC k2 a2 d2 s2 v2).toArray.all (·.oneCell') = true by simp [ndC, show v2.oneCell' = true from hv2]; exact ⟨rfl, rfl, rfl, rfl⟩)
  generalize hnl : A.N.length = n at *
  have c0h := Lib.hid c0
  clear H c1 c2 e1 e2 h1 h2 hv1 hv2 c0 hnl
  go_enter Tryz.func51, Tryz.ntmps51
  go_upto_region 1 with fail
  refine region_inv (IB (fun x0 x1 x2 x3 x4 x5 x6 x7 x8 x9 x10 x11 x12 x13 x14 x15 => #[.pointer (some ⟨A.g, 0, none⟩), .int .i64 j, .int .i64 k, undef, undef, undef, .int .i64 0, x14, x15, x0, x1, x2, x3, x4, x5, x6, x7, x8, x9, x10, x11, x12, x13, undef, undef, undef, undef, undef, undef, undef, undef, undef, undef, undef, undef, undef, undef, undef]) A.g (.slice (some ⟨b, off, none⟩) n cn) j k b (off + j * 5) (off + k * 5) (ndC k1 a1 d1 s1 v1) (ndC k2 a2 d2 s2 v2) w) ?hlt ?hstep ?hdone rfl (by kernel_rfl) ?start
  case start => exact ⟨undef, undef, undef, undef, undef, undef, undef, undef, undef, undef, undef, undef, undef, undef, undef, undef, rfl, fun q hq => by
      have hq : 18 ≤ q := by
        rcases Nat.lt_or_ge q 18 with h | h
        · exfalso
          revert hq h
          exact (show ∀ q : Nat, (Array.replicate 18 false).getD q true = true → q < 18 → False by
            intro q hq h
            simp [Array.getD_eq_getD_getElem?, h] at hq) q
        · exact h
      obtain ⟨m, rfl⟩ : ∃ m, q = m + 14 := ⟨q - 14, by omega⟩
      exact trivial, by intro h; simp [Array.getD] at h, by intro h; simp [Array.getD] at h, by intro h; simp [Array.getD] at h, by intro h; simp [Array.getD] at h, by intro h; simp [Array.getD] at h, drewN_below 1⟩
  case hlt =>
    intro i o ho
    have hi := (Array.getElem?_eq_some_iff.1 ho).1
    match i, hi with
    | 0, _ => obtain rfl := Option.some.inj ho; decide
    | 1, _ => obtain rfl := Option.some.inj ho; decide
    | 2, _ => obtain rfl := Option.some.inj ho; decide
    | 3, _ => obtain rfl := Option.some.inj ho; decide
    | 4, _ => obtain rfl := Option.some.inj ho; decide
    | 5, _ => obtain rfl := Option.some.inj ho; decide
    | 6, _ => obtain rfl := Option.some.inj ho; decide
    | 7, _ => obtain rfl := Option.some.inj ho; decide
    | 8, _ => obtain rfl := Option.some.inj ho; decide
    | 9, _ => obtain rfl := Option.some.inj ho; decide
    | 10, _ => obtain rfl := Option.some.inj ho; decide
    | 11, _ => obtain rfl := Option.some.inj ho; decide
    | 12, _ => obtain rfl := Option.some.inj ho; decide
    | 13, _ => obtain rfl := Option.some.inj ho; decide
    | 14, _ => obtain rfl := Option.some.inj ho; decide
    | 15, _ => obtain rfl := Option.some.inj ho; decide
    | 16, _ => obtain rfl := Option.some.inj ho; decide
    | 17, _ => obtain rfl := Option.some.inj ho; decide
  case hstep =>
    rintro L ac W i o ⟨x0, x1, x2, x3, x4, x5, x6, x7, x8, x9, x10, x11, x12, x13, x14, x15, rfl, hF, hP, hQ, hne, hm1, hm2, hBW⟩ ho hLi hd K hK
    have c0 : W.cell? ⟨A.g, 0, none⟩ = some (.slice (some ⟨b, off, none⟩) n cn) := (hBW.cell (p := ⟨A.g, 0, none⟩) hlg).trans c0h.out
    have hF := Lib.hid hF
    have hP := Lib.hid hP
    have hQ := Lib.hid hQ
    have hne := Lib.hid hne
    have hm1 := Lib.hid hm1
    have hm2 := Lib.hid hm2
    have hBW := Lib.hid hBW
    have hK := Lib.hid hK
    have hi := (Array.getElem?_eq_some_iff.1 ho).1
    match i, hi with
    | 0, _ =>
      obtain rfl := Option.some.inj ho
      clear hd ho hi
      go_simp
      exact hK.out _ _ ⟨_, x1, x2, x3, x4, x5, x6, x7, x8, x9, x10, x11, x12, x13, x14, x15, rfl, PB_step (i := 0) (x' := .pointer (some ⟨A.g, 0, none⟩)) hF.out rfl (show 0 < 14 by decide), hP.out, hQ.out, hne.out, hm1.out, hm2.out, hBW.out⟩
    | 1, _ =>
      obtain rfl := Option.some.inj ho
      have l0 : L 0 = true := dep_of hd (n := 0) (by decide)
      obtain rfl := (hF.out 0 l0 : x0 = _)
      clear hd ho hi l0
      go_simp
      exact hK.out _ _ ⟨_, _, x2, x3, x4, x5, x6, x7, x8, x9, x10, x11, x12, x13, x14, x15, rfl, PB_step (i := 1) (x' := .pointer (some ⟨A.g, 0, none⟩)) hF.out rfl (show 1 < 14 by decide), hP.out, hQ.out, hne.out, hm1.out, hm2.out, hBW.out⟩
    | 2, _ =>
      obtain rfl := Option.some.inj ho
      have l1 : L 1 = true := dep_of hd (n := 1) (by decide)
      obtain rfl := (hF.out 1 l1 : x1 = _)
      clear hd ho hi l1
      go_simp
      exact hK.out _ _ ⟨x0, _, _, x3, x4, x5, x6, x7, x8, x9, x10, x11, x12, x13, x14, x15, rfl, PB_step (i := 2) (x' := .pointer (some ⟨A.g, 0, none⟩)) hF.out rfl (show 2 < 14 by decide), hP.out, hQ.out, hne.out, hm1.out, hm2.out, hBW.out⟩
    | 3, _ =>
      obtain rfl := Option.some.inj ho
      have l2 : L 2 = true := dep_of hd (n := 2) (by decide)
      obtain rfl := (hF.out 2 l2 : x2 = _)
      clear hd ho hi l2
      go_simp
      exact hK.out _ _ ⟨x0, x1, _, _, x4, x5, x6, x7, x8, x9, x10, x11, x12, x13, x14, x15, rfl, PB_step (i := 3) (x' := .slice (some ⟨b, off, none⟩) n cn) hF.out rfl (show 3 < 14 by decide), hP.out, hQ.out, hne.out, hm1.out, hm2.out, hBW.out⟩
    | 4, _ =>
      obtain rfl := Option.some.inj ho
      clear hd ho hi
      go_simp
      exact hK.out _ _ ⟨x0, x1, x2, x3, _, x5, x6, x7, x8, x9, x10, x11, x12, x13, x14, x15, rfl, PB_step (i := 4) (x' := .int .i64 j) hF.out rfl (show 4 < 14 by decide), hP.out, hQ.out, hne.out, hm1.out, hm2.out, hBW.out⟩
    | 5, _ =>
      obtain rfl := Option.some.inj ho
      have l3 : L 3 = true := dep_of hd (n := 3) (by decide)
      obtain rfl := (hF.out 3 l3 : x3 = _)
      have l4 : L 4 = true := dep_of hd (n := 4) (by decide)
      obtain rfl := (hF.out 4 l4 : x4 = _)
      clear hd ho hi l3 l4
      go_simp
      exact hK.out _ _ ⟨x0, x1, x2, _, _, _, x6, x7, x8, x9, x10, x11, x12, x13, x14, x15, rfl, PB_step (i := 5) (x' := .pointer (some ⟨b, off + j * 5, none⟩)) hF.out rfl (show 5 < 14 by decide), hP.out, hQ.out, hne.out, hm1.out, hm2.out, hBW.out⟩
    | 6, _ =>
      obtain rfl := Option.some.inj ho
      have l5 : L 5 = true := dep_of hd (n := 5) (by decide)
      obtain rfl := (hF.out 5 l5 : x5 = _)
      have hl := ldN_mid (rangeAt_keep hr1.out hBW.out hb) rfl
      clear hd ho hi l5
      go_simp
      exact hK.out _ _ ⟨x0, x1, x2, x3, x4, _, _, x7, x8, x9, x10, x11, x12, x13, x14, x15, rfl, PB_step (i := 6) (x' := .agg (ndC k1 a1 d1 s1 v1).toArray) hF.out rfl (show 6 < 14 by decide), hP.out, hQ.out, hne.out, hm1.out, hm2.out, hBW.out⟩
    | 7, _ =>
      obtain rfl := Option.some.inj ho
      clear hd ho hi
      go_simp
      exact hK.out _ _ ⟨x0, x1, x2, x3, x4, x5, x6, _, x8, x9, x10, x11, x12, x13, x14, x15, rfl, PB_step (i := 7) (x' := .pointer (some ⟨A.g, 0, none⟩)) hF.out rfl (show 7 < 14 by decide), hP.out, hQ.out, hne.out, hm1.out, hm2.out, hBW.out⟩
    | 8, _ =>
      obtain rfl := Option.some.inj ho
      have l7 : L 7 = true := dep_of hd (n := 7) (by decide)
      obtain rfl := (hF.out 7 l7 : x7 = _)
      clear hd ho hi l7
      go_simp
      exact hK.out _ _ ⟨x0, x1, x2, x3, x4, x5, x6, _, _, x9, x10, x11, x12, x13, x14, x15, rfl, PB_step (i := 8) (x' := .pointer (some ⟨A.g, 0, none⟩)) hF.out rfl (show 8 < 14 by decide), hP.out, hQ.out, hne.out, hm1.out, hm2.out, hBW.out⟩
    | 9, _ =>
      obtain rfl := Option.some.inj ho
      have l8 : L 8 = true := dep_of hd (n := 8) (by decide)
      obtain rfl := (hF.out 8 l8 : x8 = _)
      clear hd ho hi l8
      go_simp
      exact hK.out _ _ ⟨x0, x1, x2, x3, x4, x5, x6, x7, _, _, x10, x11, x12, x13, x14, x15, rfl, PB_step (i := 9) (x' := .pointer (some ⟨A.g, 0, none⟩)) hF.out rfl (show 9 < 14 by decide), hP.out, hQ.out, hne.out, hm1.out, hm2.out, hBW.out⟩
    | 10, _ =>
      obtain rfl := Option.some.inj ho
      have l9 : L 9 = true := dep_of hd (n := 9) (by decide)
      obtain rfl := (hF.out 9 l9 : x9 = _)
      clear hd ho hi l9
      go_simp
      exact hK.out _ _ ⟨x0, x1, x2, x3, x4, x5, x6, x7, x8, _, _, x11, x12, x13, x14, x15, rfl, PB_step (i := 10) (x' := .slice (some ⟨b, off, none⟩) n cn) hF.out rfl (show 10 < 14 by decide), hP.out, hQ.out, hne.out, hm1.out, hm2.out, hBW.out⟩
    | 11, _ =>
      obtain rfl := Option.some.inj ho
      clear hd ho hi
      go_simp
      exact hK.out _ _ ⟨x0, x1, x2, x3, x4, x5, x6, x7, x8, x9, x10, _, x12, x13, x14, x15, rfl, PB_step (i := 11) (x' := .int .i64 k) hF.out rfl (show 11 < 14 by decide), hP.out, hQ.out, hne.out, hm1.out, hm2.out, hBW.out⟩
    | 12, _ =>
      obtain rfl := Option.some.inj ho
      have l10 : L 10 = true := dep_of hd (n := 10) (by decide)
      obtain rfl := (hF.out 10 l10 : x10 = _)
      have l11 : L 11 = true := dep_of hd (n := 11) (by decide)
      obtain rfl := (hF.out 11 l11 : x11 = _)
      clear hd ho hi l10 l11
      go_simp
      exact hK.out _ _ ⟨x0, x1, x2, x3, x4, x5, x6, x7, x8, x9, _, _, _, x13, x14, x15, rfl, PB_step (i := 12) (x' := .pointer (some ⟨b, off + k * 5, none⟩)) hF.out rfl (show 12 < 14 by decide), hP.out, hQ.out, hne.out, hm1.out, hm2.out, hBW.out⟩
    | 13, _ =>
      obtain rfl := Option.some.inj ho
      have l12 : L 12 = true := dep_of hd (n := 12) (by decide)
      obtain rfl := (hF.out 12 l12 : x12 = _)
      have hl := ldN_mid (rangeAt_keep hr2.out hBW.out hb) rfl
      clear hd ho hi l12
      go_simp
      exact hK.out _ _ ⟨x0, x1, x2, x3, x4, x5, x6, x7, x8, x9, x10, x11, _, _, x14, x15, rfl, PB_step (i := 13) (x' := .agg (ndC k2 a2 d2 s2 v2).toArray) hF.out rfl (show 13 < 14 by decide), hP.out, hQ.out, hne.out, hm1.out, hm2.out, hBW.out⟩
    | 14, _ =>
      obtain rfl := Option.some.inj ho
      have hs : L 16 = false := by
        cases h : L 16 with
        | false => rfl
        | true => exact absurd (hm1.out h) (by rw [hLi]; decide)
      have hn := Lib.hid (heap_new W (.cells #[.int .i64 0, .int .i64 0, .int .i64 0, .string ⟨#[]⟩, .slice none 0 0] 52))
      have hbn := Lib.hid (below_new W (.cells #[.int .i64 0, .int .i64 0, .int .i64 0, .string ⟨#[]⟩, .slice none 0 0] 52))
      have hoh := Lib.hid (hQ.out.alloc (.cells #[.int .i64 0, .int .i64 0, .int .i64 0, .string ⟨#[]⟩, .slice none 0 0] 52))
      have hlt := Lib.hid (fun (l : L 15 = true) => (show ∃ q, x15 = .pointer (some ⟨q, 0, none⟩) ∧ q < W.heap.size by
        obtain ⟨q, e, _, h⟩ := hQ.out l
        exact ⟨q, e, (Array.getElem?_eq_some_iff.1 h).1⟩))
      clear hd ho hi
      go_simp
      refine hK.out _ _ ⟨x0, x1, x2, x3, x4, x5, x6, x7, x8, x9, x10, x11, x12, x13, _, x15, rfl, PB_pass (i := 14) hF.out (fun _ => trivial), ?_, hoh.out, ?_, (fun _ => rfl), hm2.out, hBW.out.trans (hbn.out.mono hBW.out.size)⟩
      · intro _
        refine ⟨W.heap.size, rfl, hBW.out.size, ?_⟩
        show (W.alloc _).heap[W.heap.size]? = some (.cells (bif L 16 then _ else _) _ _)
        rw [hs]
        exact hn.out
      · intro _ l e
        obtain ⟨q, e', hq⟩ := hlt.out l
        rw [e'] at e
        injection e with e; injection e with e; injection e with e _ _
        omega
    | 15, _ =>
      obtain rfl := Option.some.inj ho
      have hs : L 17 = false := by
        cases h : L 17 with
        | false => rfl
        | true => exact absurd (hm2.out h) (by rw [hLi]; decide)
      have hn := Lib.hid (heap_new W (.cells #[.int .i64 0, .int .i64 0, .int .i64 0, .string ⟨#[]⟩, .slice none 0 0] 52))
      have hbn := Lib.hid (below_new W (.cells #[.int .i64 0, .int .i64 0, .int .i64 0, .string ⟨#[]⟩, .slice none 0 0] 52))
      have hoh := Lib.hid (hP.out.alloc (.cells #[.int .i64 0, .int .i64 0, .int .i64 0, .string ⟨#[]⟩, .slice none 0 0] 52))
      have hlt := Lib.hid (fun (l : L 14 = true) => (show ∃ q, x14 = .pointer (some ⟨q, 0, none⟩) ∧ q < W.heap.size by
        obtain ⟨q, e, _, h⟩ := hP.out l
        exact ⟨q, e, (Array.getElem?_eq_some_iff.1 h).1⟩))
      clear hd ho hi
      go_simp
      refine hK.out _ _ ⟨x0, x1, x2, x3, x4, x5, x6, x7, x8, x9, x10, x11, x12, x13, x14, _, rfl, PB_pass (i := 15) hF.out (fun _ => trivial), hoh.out, ?_, ?_, hm1.out, (fun _ => rfl), hBW.out.trans (hbn.out.mono hBW.out.size)⟩
      · intro _
        refine ⟨W.heap.size, rfl, hBW.out.size, ?_⟩
        show (W.alloc _).heap[W.heap.size]? = some (.cells (bif L 17 then _ else _) _ _)
        rw [hs]
        exact hn.out
      · intro l _ e
        obtain ⟨q, e', hq⟩ := hlt.out l
        rw [e'] at e
        injection e with e; injection e with e; injection e with e _ _
        omega
    | 16, _ =>
      obtain rfl := Option.some.inj ho
      have l14 : L 14 = true := dep_of hd (n := 14) (by decide)
      have l6 : L 6 = true := dep_of hd (n := 6) (by decide)
      obtain rfl := (hF.out 6 l6 : x6 = _)
      have hs := hP.out
      rw [hLi] at hs
      obtain ⟨q, rfl, hwq, hcq⟩ := hs l14
      have hst := stN_run W q _ (ndC k1 a1 d1 s1 v1).toArray hcq rfl o1.out rfl
      have hrow := Lib.hid (hsetRow W q _ (ndC k1 a1 d1 s1 v1).toArray _ _ hcq)
      have hoh := Lib.hid (hQ.out.put (q := q) (fun l e => hne.out l14 l e.symm) (ndC k1 a1 d1 s1 v1).toArray)
      have hbn := Lib.hid (below_setRow hBW.out hwq (ndC k1 a1 d1 s1 v1).toArray)
      clear hd ho hi hs hcq
      go_simp
      refine hK.out _ _ ⟨x0, x1, x2, x3, x4, x5, _, x7, x8, x9, x10, x11, x12, x13, _, x15, rfl, PB_pass (i := 16) hF.out (fun _ => trivial), ?_, hoh.out, hne.out, (fun _ => l14), hm2.out, hbn.out⟩
      exact fun _ => ⟨q, rfl, hwq, hrow.out⟩
    | 17, _ =>
      obtain rfl := Option.some.inj ho
      have l15 : L 15 = true := dep_of hd (n := 15) (by decide)
      have l13 : L 13 = true := dep_of hd (n := 13) (by decide)
      obtain rfl := (hF.out 13 l13 : x13 = _)
      have hs := hQ.out
      rw [hLi] at hs
      obtain ⟨q, rfl, hwq, hcq⟩ := hs l15
      have hst := stN_run W q _ (ndC k2 a2 d2 s2 v2).toArray hcq rfl o2.out rfl
      have hrow := Lib.hid (hsetRow W q _ (ndC k2 a2 d2 s2 v2).toArray _ _ hcq)
      have hoh := Lib.hid (hP.out.put (q := q) (fun l e => hne.out l l15 e) (ndC k2 a2 d2 s2 v2).toArray)
      have hbn := Lib.hid (below_setRow hBW.out hwq (ndC k2 a2 d2 s2 v2).toArray)
      clear hd ho hi hs hcq
      go_simp
      refine hK.out _ _ ⟨x0, x1, x2, x3, x4, x5, x6, x7, x8, x9, x10, x11, x12, _, x14, _, rfl, PB_pass (i := 17) hF.out (fun _ => trivial), hoh.out, ?_, hne.out, hm1.out, (fun _ => l15), hbn.out⟩
      exact fun _ => ⟨q, rfl, hwq, hrow.out⟩
  case hdone =>
    rintro L ac W2 ⟨x0, x1, x2, x3, x4, x5, x6, x7, x8, x9, x10, x11, x12, x13, x14, x15, rfl, hF, hP, hQ, hne, _, _, hBW⟩ hall
    obtain rfl := (hF 0 (hall 0 (show 0 < 18 by decide)) : x0 = _)
    obtain rfl := (hF 1 (hall 1 (show 1 < 18 by decide)) : x1 = _)
    obtain rfl := (hF 2 (hall 2 (show 2 < 18 by decide)) : x2 = _)
    obtain rfl := (hF 3 (hall 3 (show 3 < 18 by decide)) : x3 = _)
    obtain rfl := (hF 4 (hall 4 (show 4 < 18 by decide)) : x4 = _)
    obtain rfl := (hF 5 (hall 5 (show 5 < 18 by decide)) : x5 = _)
    obtain rfl := (hF 6 (hall 6 (show 6 < 18 by decide)) : x6 = _)
    obtain rfl := (hF 7 (hall 7 (show 7 < 18 by decide)) : x7 = _)
    obtain rfl := (hF 8 (hall 8 (show 8 < 18 by decide)) : x8 = _)
    obtain rfl := (hF 9 (hall 9 (show 9 < 18 by decide)) : x9 = _)
    obtain rfl := (hF 10 (hall 10 (show 10 < 18 by decide)) : x10 = _)
    obtain rfl := (hF 11 (hall 11 (show 11 < 18 by decide)) : x11 = _)
    obtain rfl := (hF 12 (hall 12 (show 12 < 18 by decide)) : x12 = _)
    obtain rfl := (hF 13 (hall 13 (show 13 < 18 by decide)) : x13 = _)
    rw [hall 14 (show 14 < 18 by decide), hall 16 (show 16 < 18 by decide)] at hP
    rw [hall 15 (show 15 < 18 by decide), hall 17 (show 17 < 18 by decide)] at hQ
    obtain ⟨g7, rfl, _, hg7⟩ := hP rfl
    obtain ⟨g8, rfl, _, hg8⟩ := hQ rfl
    have hBW := Lib.hid hBW
    have p1 : W2.cell? ⟨g7, 1, none⟩ = some (.int .i64 a1) := cell_of_row W2 g7 1 _ _ _ hg7
    have p2 : W2.cell? ⟨g7, 2, none⟩ = some (.int .i64 d1) := cell_of_row W2 g7 2 _ _ _ hg7
    have q1 : W2.cell? ⟨g8, 1, none⟩ = some (.int .i64 a2) := cell_of_row W2 g8 1 _ _ _ hg8
    have q2 : W2.cell? ⟨g8, 2, none⟩ = some (.int .i64 d2) := cell_of_row W2 g8 2 _ _ _ hg8
    clear hF hall hne hP hQ hg7 hg8
    dsimp only
    by_cases ha : (a1 : Int) = a2
    · have hz : cmpT (.mk k1 a1 d1 s1 l1) (.mk k2 a2 d2 s2 l2) = (d1 : Int) - d2 := by unfold cmpT; rw [if_neg (by simpa [Tm.a] using ha)]; rfl
      go_wp2_with fail
      go_ret
      exact ⟨rfl, hBW.out⟩
    · have hz : cmpT (.mk k1 a1 d1 s1 l1) (.mk k2 a2 d2 s2 l2) = (a1 : Int) - a2 := by unfold cmpT; rw [if_pos (by simpa [Tm.a] using ha)]; rfl
      go_wp2_with fail
      go_ret
      exact ⟨rfl, hBW.out⟩
end
end Go.Proofs.YtphnakdgpilcmaaGreatDoor
