/- Makes. (printed by wip/gen_mkj.py out of mkj_head.txt, mkj_done.txt) -/
import Derived.Test.YtphnakdgpilcmaaGreatDoorHb11
import Derived.Test.YtphnakdgpilcmaaGreatDoorHb2
namespace Go.Proofs.YtphnakdgpilcmaaGreatDoor
open Go.RowKit Go.Maps

def mksO : List Mk → List (Option Tm) → List (Option Tm)
  | [], os => os
  | x :: r, os => mksO r (os ++ [mkT os x.k x.a x.b x.c x.s])
theorem mksO_app (l m : List Mk) (os : List (Option Tm)) : mksO (l ++ m) os = mksO m (mksO l os) := by
  induction l generalizing os with
  | nil => rfl
  | cons x r ih => exact ih _
theorem mksO_len (l : List Mk) (os : List (Option Tm)) : (mksO l os).length = l.length + os.length := by
  induction l generalizing os with
  | nil => simp [mksO]
  | cons x r ih => rw [mksO, ih]; simp; omega
theorem mksO_take {l : List Mk} {j : Nat} {x : Mk} (h : l[j]? = some x) : mksO (l.take (j + 1)) [] = mksO (l.take j) [] ++ [mkT (mksO (l.take j) []) x.k x.a x.b x.c x.s] := by
  rw [take_succ_of h, mksO_app]
  rfl
attribute [local go_sem ↓] ldMd_eq ldMk_eq
def PMj (g : Nat) (A : Option Addr) (n : Nat) (c : Nat) (j : Nat) (AI : Option Addr) (cI : Nat) (AT : Option Addr) (cT : Nat) (b : Nat) (off : Nat) (row : List Value) (tx : ByteArray) (i : Nat) (x : Value) : Prop := match i with
  | 0 => x = .agg #[.slice AI j cI, .slice AT j cT]
  | 1 => x = .pointer (some ⟨g, 0, none⟩)
  | 2 => x = .slice A n c
  | 3 => x = .int .i64 j
  | 4 => x = .pointer (some ⟨b, off + j * 5, none⟩)
  | 5 => x = .agg row.toArray
  | 7 => x = .agg #[.slice AI j cI, .slice AT j cT]
  | 8 => x = .slice A n c
  | 9 => x = .int .i64 j
  | 10 => x = .pointer (some ⟨b, off + j * 5, none⟩)
  | 11 => x = .agg row.toArray
  | 12 => x = .string tx
  | 14 => x = .string tx
  | _ => True
def IMj (F : Value → Value → Value → Value → Value → Value → Value → Value → Value → Value → Value → Value → Value → Value → Value → Array Value) (g : Nat) (A : Option Addr) (n : Nat) (c : Nat) (j : Nat) (AI : Option Addr) (cI : Nat) (AT : Option Addr) (cT : Nat) (b : Nat) (off : Nat) (row : List Value) (tx : ByteArray) (Wi : (Nat → Bool) → Value → Value → World → Prop) (L : Nat → Bool) (ac : Act) (W : World) : Prop :=
  ∃ x0 x1 x2 x3 x4 x5 x6 x7 x8 x9 x10 x11 x12 x13 x14, ac = ⟨F x0 x1 x2 x3 x4 x5 x6 x7 x8 x9 x10 x11 x12 x13 x14, []⟩ ∧ (∀ jj, L jj = true → PMj g A n c j AI cI AT cT b off row tx jj ([x0, x1, x2, x3, x4, x5, x6, x7, x8, x9, x10, x11, x12, x13, x14].getD jj undef)) ∧ Wi L x6 x13 W
def MakesR (w0 W : World) (g : Nat) (ms : List Mk) (r : Ending) (W' : World) : Prop := ∃ vI vT l L, r = .returned (.agg #[vI, vT]) ∧ St w0 g W' L ∧ MadeL L l (mksO ms []) ∧ L.length ≤ ms.length ∧ OwnD W' W.heap.size vI l ∧ OwnS W' W.heap.size vT ((mksO ms []).map fun o => bs (encO o)) ∧ OffE W' g (inV vI) ∧ W.heap.size ≤ W'.heap.size
theorem kb_start (W : World) (g : Nat) (hO : ∃ B A, Arena W B A ∧ A.g = g) : KB ((W.alloc (.cells #[.slice none 0 0, .slice none 0 0] 31)).alloc (.cells #[.slice none 0 0, .slice none 0 0] 31)) W.heap.size W.heap.size (W.heap.size + 1) g (.slice none 0 0) (.slice none 0 0) [] [] := by
  have hB1 := below_new W (.cells #[.slice none 0 0, .slice none 0 0] 31)
  have hB2 := below_new (W.alloc (.cells #[.slice none 0 0, .slice none 0 0] 31)) (.cells #[.slice none 0 0, .slice none 0 0] 31)
  have e2 := heap_new (W.alloc (.cells #[.slice none 0 0, .slice none 0 0] 31)) (.cells #[.slice none 0 0, .slice none 0 0] 31)
  rw [World.size_alloc] at e2
  obtain ⟨B, A, H, h1⟩ := hO
  exact ⟨OwnR.nil_ _ _ _ _, OwnR.nil_ _ _ _ _, e2, heap_past (heap_new W _) _, ⟨B, A, (H.keep hB1).keep hB2, h1, fun x hx A' n c hv hn q hq hf => by simp [inV, Value.ownBlock] at hf⟩, Nat.le_succ _, by omega⟩
set_option maxRecDepth 100000 in
set_option maxHeartbeats 4000000 in
theorem makes_any {A : Option Addr} {n c : Nat} (ms : List Mk) (w0 W : World) (g : Nat) (hn : n ≤ 40) (hs : ∀ x ∈ ms, x.s.length ≤ 200) (hM : Rws w0 5 A n (ms.map Mk.row)) (hS : St w0 g W []) :
    Calls Tryz.prog 10 #[.pointer (some ⟨g, 0, none⟩), .slice A n c] W (MakesR w0 W g ms) := by
  have hml : ms.length = n := by have := hM.1; simpa using this
  have hKB0 := kb_start W g (by obtain ⟨A, h1, _, H, _⟩ := hS; exact ⟨_, A, H, h1⟩)
  have hW0 : w0.heap.size ≤ W.heap.size := hS.below.size
  have hS0 := hS.keep (below_new W (.cells #[.slice none 0 0, .slice none 0 0] 31))
  have hS0 := Lib.hid (hS0.keep (below_new (W.alloc (.cells #[.slice none 0 0, .slice none 0 0] 31)) (.cells #[.slice none 0 0, .slice none 0 0] 31)))
  have hKB0 := Lib.hid hKB0
  have hML0 := Lib.hid MadeL.nil_
  have hz0 := Lib.hid (show W.heap.size ≤ ((W.alloc (.cells #[.slice none 0 0, .slice none 0 0] 31)).alloc (.cells #[.slice none 0 0, .slice none 0 0] 31)).heap.size by simp; omega)
  have hmlh := Lib.hid hml
  have hsh := Lib.hid hs
  have hMh := Lib.hid hM
  have hW0 := Lib.hid hW0
  clear hml hs hM hS
  go_enter Tryz.func10, Tryz.ntmps10
  go_upto_region 3 with fail
  generalize ((W.alloc (.cells #[.slice none 0 0, .slice none 0 0] 31)).alloc (.cells #[.slice none 0 0, .slice none 0 0] 31)) = W2 at *
  obtain ⟨B, hBo⟩ : ∃ B, B = W.heap.size := ⟨_, rfl⟩
  obtain ⟨b5, hb5⟩ : ∃ b5, b5 = W.heap.size + 1 := ⟨_, rfl⟩
  have hBe := Lib.hid hBo
  clear hBo
  rw [← hb5]
  rw [← hb5] at hKB0
  have hKB0 : Hid (KB W2 B B b5 g (.slice none 0 0) (.slice none 0 0) [] []) := by rw [hBe.out]; exact hKB0.out
  rw [← hBe.out] at hz0 hW0 ⊢
  clear hb5
  go_loopw [6] (fun iv wr => ∃ (j : Nat) (vI vT : Value) (l : List Int) (Lt : List Tm), j ≤ n ∧ iv = .int .i64 j ∧ Hid (KB wr B B b5 g vI vT l ((mksO (ms.take j) []).map fun o => bs (encO o))) ∧ Hid (St w0 g wr Lt) ∧ Hid (MadeL Lt l (mksO (ms.take j) [])) ∧ Hid (Lt.length ≤ j) ∧ Hid (B ≤ wr.heap.size)) (fun iv _ => n - (intOf iv).toNat)
  case atStart => exact ⟨0, _, _, [], [], by omega, rfl, hKB0, hS0, hML0, Nat.zero_le _, hz0⟩
  case round =>
    clear hKB0 hS0 hML0 hz0
    obtain ⟨j, vI, vT, l, Lt, hj, rfl, hKB, hSt, hML, hLt, hz⟩ := hrel
    by_cases hlt : j < n
    · obtain ⟨b, off, z, rfl, hb, hz', _, hr⟩ := hMh.out.row hlt
      obtain ⟨x, hx⟩ : ∃ x, ms[j]? = some x := ⟨ms[j]'(by have := hmlh.out; omega), List.getElem?_eq_getElem (by have := hmlh.out; omega)⟩
      rw [List.getElem?_map, hx] at hz'
      have hz' : x.row = z := Option.some.inj hz'
      subst hz'
      obtain ⟨AI, cI, AT, cT, eI, eT, _, _⟩ := hKB.out.shape
      have hol : (mksO (ms.take j) []).length = j := by rw [mksO_len, List.length_take]; have := hmlh.out; simp; omega
      have hll : l.length = j := hML.out.len.trans hol
      rw [hll] at eI
      rw [List.length_map, hol] at eT
      subst eI
      subst eT
      have hKBd := Lib.hid (hKB.out.below (show Below wr.heap.size wr wr.drew from drewN_below 1))
      have hSd := Lib.hid (hSt.out.keep (show Below wr.heap.size wr wr.drew from drewN_below 1))
      have hsx := hsh.out x (List.mem_of_getElem? hx)
      have hlkh := Lib.hid (fun (W' : World) (hb' : Below w0.heap.size w0 W') => ldMk_run (k := x.k) (a := x.a) (x := x.b) (y := x.c) (s := x.s) (rangeAt_keep hr hb' hb))
      have hGd := hSt.out.good
      have cIh := Lib.hid (fun (W' : World) (hk : KB W' B B b5 g (.slice AI j cI) (.slice AT j cT) l ((mksO (ms.take j) []).map fun o => bs (encO o))) (hS1 : St w0 g W' Lt) =>
        (show Calls Tryz.prog 29 #[.agg #[.slice AI j cI, .slice AT j cT], .pointer (some ⟨g, 0, none⟩), .agg (mkRow x.k x.a x.b x.c x.s).toArray] W' (SR w0 g W' Lt (mkT (mksO (ms.take j) []) x.k x.a x.b x.c x.s)) from
          id_mk (c := cI) (d := cT) x.k x.a x.b x.c x.s W' (show j ≤ 1000 by omega) (by omega) hk.made hS1 (by have := hLt.out; omega) hML.out.pick (hML.out.run x.a x.b)))
      have cTh := Lib.hid (fun (W' : World) (hk : KB W' B B b5 g (.slice AI j cI) (.slice AT j cT) l ((mksO (ms.take j) []).map fun o => bs (encO o))) =>
        (show Calls Tryz.prog 30 #[.agg #[.slice AI j cI, .slice AT j cT], .agg (mkRow x.k x.a x.b x.c x.s).toArray] W' (TxR W' (encO (mkT (mksO (ms.take j) []) x.k x.a x.b x.c x.s))) from
          text_mk (c := cI) (d := cT) x.k x.a x.b x.c x.s W' (show j ≤ 1000 by omega) (by omega) hk.made (hML.out.ok hGd) (hML.out.small hGd)))
      have hnext := Lib.hid (mksO_take hx)
      have hjn : (j : Int) < (n : Int) := by omega
      have hollh := Lib.hid (And.intro hol hll)
      generalize mkT (mksO (ms.take j) []) x.k x.a x.b x.c x.s = ot at *
      clear hr hx hGd hsx hol hll hKB hSt
      go_upto_region 5 with fail
      refine region_inv (IMj (fun x0 x1 x2 x3 x4 x5 x6 x7 x8 x9 x10 x11 x12 x13 x14 => #[.pointer (some ⟨g, 0, none⟩), .slice (some ⟨b, off, none⟩) n c, undef, undef, .pointer (some ⟨B, 0, none⟩), .pointer (some ⟨b5, 0, none⟩), .int .i64 j, x13, x14, .int .i64 j, .slice (some ⟨b, off, none⟩) n c, .int .i64 n, .bool true, u13, u14, x0, x1, x2, x3, x4, x5, x6, x7, x8, x9, x10, x11, x12, u28, u29, u30, u31, u32, u33, u34, u35, u36, u37, u38, u39, undef]) g (some ⟨b, off, none⟩) n c j AI cI AT cT b off (mkRow x.k x.a x.b x.c x.s) (bs (encO ot)) (fun L x6 x13 W => KB W B B b5 g (.slice AI j cI) (.slice AT j cT) l ((mksO (ms.take j) []).map fun o => bs (encO o)) ∧ Below w0.heap.size w0 W ∧ (L 6 = false → St w0 g W Lt) ∧ (L 6 = true → ∃ L' x, x6 = .int .i64 x ∧ St w0 g W L' ∧ Grow Lt L' ot ∧ Nm L' x ot) ∧ (L 13 = true → L 6 = true ∧ x13 = x6))) ?hlt ?hstep ?hdone rfl (by kernel_rfl) ?start
      case start => exact ⟨u15, u16, u17, u18, u19, u20, u21, u22, u23, u24, u25, u26, u27, u7, u8, rfl, inv_start (n := 15) (fun _ => trivial), ⟨hKBd.out, hSd.out.below, fun _ => hSd.out, fun h => absurd h (inv_not (n := 15) (i := 6) (by decide)), fun h => absurd h (inv_not (n := 15) (i := 13) (by decide))⟩⟩
      case hlt =>
        intro i o ho
        have hi := (Array.getElem?_eq_some_iff.1 ho).1
        match i, hi with
        | 0, _ => obtain rfl := Option.some.inj ho; decide
        | 1, _ => obtain rfl := Option.some.inj ho; decide
        | 2, _ => obtain rfl := Option.some.inj ho; decide
        | 3, _ => obtain rfl := Option.some.inj ho; decide
        | 4, _ => obtain rfl := Option.some.inj ho; decide
        | 5, _ => obtain rfl := Option.some.inj ho; decide
        | 6, _ => obtain rfl := Option.some.inj ho; decide
        | 7, _ => obtain rfl := Option.some.inj ho; decide
        | 8, _ => obtain rfl := Option.some.inj ho; decide
        | 9, _ => obtain rfl := Option.some.inj ho; decide
        | 10, _ => obtain rfl := Option.some.inj ho; decide
        | 11, _ => obtain rfl := Option.some.inj ho; decide
        | 12, _ => obtain rfl := Option.some.inj ho; decide
        | 13, _ => obtain rfl := Option.some.inj ho; decide
        | 14, _ => obtain rfl := Option.some.inj ho; decide
      case hstep =>
        rintro L ac W i o ⟨x0, x1, x2, x3, x4, x5, x6, x7, x8, x9, x10, x11, x12, x13, x14, rfl, hF, hW⟩ ho hLi hd K hK
        have hF := Lib.hid hF
        have hW := Lib.hid hW
        have hK := Lib.hid hK
        have hi := (Array.getElem?_eq_some_iff.1 ho).1
        match i, hi with
        | 0, _ =>
          obtain rfl := Option.some.inj ho
          have hld := ldMd_run (rangeAt_list hW.out.1.blk)
          clear hd ho hi hLi
          go_simp
          exact hK.out _ _ ⟨_, x1, x2, x3, x4, x5, x6, x7, x8, x9, x10, x11, x12, x13, x14, rfl, inv_step (i := 0) (x' := .agg #[.slice AI j cI, .slice AT j cT]) hF.out rfl (show 0 < 15 by decide), hW.out⟩
        | 1, _ =>
          obtain rfl := Option.some.inj ho
          clear hd ho hi hLi
          go_simp
          exact hK.out _ _ ⟨x0, _, x2, x3, x4, x5, x6, x7, x8, x9, x10, x11, x12, x13, x14, rfl, inv_step (i := 1) (x' := .pointer (some ⟨g, 0, none⟩)) hF.out rfl (show 1 < 15 by decide), hW.out⟩
        | 2, _ =>
          obtain rfl := Option.some.inj ho
          clear hd ho hi hLi
          go_simp
          exact hK.out _ _ ⟨x0, x1, _, x3, x4, x5, x6, x7, x8, x9, x10, x11, x12, x13, x14, rfl, inv_step (i := 2) (x' := .slice (some ⟨b, off, none⟩) n c) hF.out rfl (show 2 < 15 by decide), hW.out⟩
        | 3, _ =>
          obtain rfl := Option.some.inj ho
          clear hd ho hi hLi
          go_simp
          exact hK.out _ _ ⟨x0, x1, x2, _, x4, x5, x6, x7, x8, x9, x10, x11, x12, x13, x14, rfl, inv_step (i := 3) (x' := .int .i64 j) hF.out rfl (show 3 < 15 by decide), hW.out⟩
        | 4, _ =>
          obtain rfl := Option.some.inj ho
          have l2 : L 2 = true := dep_of hd (n := 2) (by decide)
          obtain rfl := Eq.symm (hF.out 2 l2 : x2 = _)
          have l3 : L 3 = true := dep_of hd (n := 3) (by decide)
          obtain rfl := Eq.symm (hF.out 3 l3 : x3 = _)
          clear hd ho hi hLi l2 l3
          go_simp
          exact hK.out _ _ ⟨x0, x1, _, _, _, x5, x6, x7, x8, x9, x10, x11, x12, x13, x14, rfl, inv_step (i := 4) (x' := .pointer (some ⟨b, off + j * 5, none⟩)) hF.out rfl (show 4 < 15 by decide), hW.out⟩
        | 5, _ =>
          obtain rfl := Option.some.inj ho
          have l4 : L 4 = true := dep_of hd (n := 4) (by decide)
          obtain rfl := Eq.symm (hF.out 4 l4 : x4 = _)
          have hlk := hlkh.out W hW.out.2.1
          clear hd ho hi hLi l4
          go_simp
          exact hK.out _ _ ⟨x0, x1, x2, x3, _, _, x6, x7, x8, x9, x10, x11, x12, x13, x14, rfl, inv_step (i := 5) (x' := .agg (mkRow x.k x.a x.b x.c x.s).toArray) hF.out rfl (show 5 < 15 by decide), hW.out⟩
        | 6, _ =>
          obtain rfl := Option.some.inj ho
          have l0 : L 0 = true := dep_of hd (n := 0) (by decide)
          obtain rfl := Eq.symm (hF.out 0 l0 : x0 = _)
          have l1 : L 1 = true := dep_of hd (n := 1) (by decide)
          obtain rfl := Eq.symm (hF.out 1 l1 : x1 = _)
          have l5 : L 5 = true := dep_of hd (n := 5) (by decide)
          obtain rfl := Eq.symm (hF.out 5 l5 : x5 = _)
          have hS1 := hW.out.2.2.1 hLi
          have cI := Lib.hid (cIh.out W hW.out.1 hS1)
          clear hS1
          clear hd ho hi l0 l1 l5
          go_simp
          go_at_call 29
          refine cI.out.mono ?_
          rintro r w3 ⟨L', x, rfl, hS3, hG3, hM3, hY3, hz3, hF3⟩
          exact hK.out _ _ ⟨_, _, x2, x3, x4, _, _, x7, x8, x9, x10, x11, x12, x13, x14, rfl, inv_step (i := 6) (x' := .int .i64 x) hF.out trivial (show 6 < 15 by decide), ⟨hW.out.1.step hY3 hF3, hS3.below, fun hh => absurd hh (by simp), fun _ => ⟨L', x, rfl, hS3, hG3, hM3⟩, fun h13 => absurd (hW.out.2.2.2.2 h13).1 (by rw [hLi]; decide)⟩⟩
        | 7, _ =>
          obtain rfl := Option.some.inj ho
          have hld := ldMd_run (rangeAt_list hW.out.1.blk)
          clear hd ho hi hLi
          go_simp
          exact hK.out _ _ ⟨x0, x1, x2, x3, x4, x5, x6, _, x8, x9, x10, x11, x12, x13, x14, rfl, inv_step (i := 7) (x' := .agg #[.slice AI j cI, .slice AT j cT]) hF.out rfl (show 7 < 15 by decide), hW.out⟩
        | 8, _ =>
          obtain rfl := Option.some.inj ho
          clear hd ho hi hLi
          go_simp
          exact hK.out _ _ ⟨x0, x1, x2, x3, x4, x5, x6, x7, _, x9, x10, x11, x12, x13, x14, rfl, inv_step (i := 8) (x' := .slice (some ⟨b, off, none⟩) n c) hF.out rfl (show 8 < 15 by decide), hW.out⟩
        | 9, _ =>
          obtain rfl := Option.some.inj ho
          clear hd ho hi hLi
          go_simp
          exact hK.out _ _ ⟨x0, x1, x2, x3, x4, x5, x6, x7, x8, _, x10, x11, x12, x13, x14, rfl, inv_step (i := 9) (x' := .int .i64 j) hF.out rfl (show 9 < 15 by decide), hW.out⟩
        | 10, _ =>
          obtain rfl := Option.some.inj ho
          have l8 : L 8 = true := dep_of hd (n := 8) (by decide)
          obtain rfl := Eq.symm (hF.out 8 l8 : x8 = _)
          have l9 : L 9 = true := dep_of hd (n := 9) (by decide)
          obtain rfl := Eq.symm (hF.out 9 l9 : x9 = _)
          clear hd ho hi hLi l8 l9
          go_simp
          exact hK.out _ _ ⟨x0, x1, x2, x3, x4, x5, x6, x7, _, _, _, x11, x12, x13, x14, rfl, inv_step (i := 10) (x' := .pointer (some ⟨b, off + j * 5, none⟩)) hF.out rfl (show 10 < 15 by decide), hW.out⟩
        | 11, _ =>
          obtain rfl := Option.some.inj ho
          have l10 : L 10 = true := dep_of hd (n := 10) (by decide)
          obtain rfl := Eq.symm (hF.out 10 l10 : x10 = _)
          have hlk := hlkh.out W hW.out.2.1
          clear hd ho hi hLi l10
          go_simp
          exact hK.out _ _ ⟨x0, x1, x2, x3, x4, x5, x6, x7, x8, x9, _, _, x12, x13, x14, rfl, inv_step (i := 11) (x' := .agg (mkRow x.k x.a x.b x.c x.s).toArray) hF.out rfl (show 11 < 15 by decide), hW.out⟩
        | 12, _ =>
          obtain rfl := Option.some.inj ho
          have l7 : L 7 = true := dep_of hd (n := 7) (by decide)
          obtain rfl := Eq.symm (hF.out 7 l7 : x7 = _)
          have l11 : L 11 = true := dep_of hd (n := 11) (by decide)
          obtain rfl := Eq.symm (hF.out 11 l11 : x11 = _)
          have l6 : L 6 = true := dep_of hd (n := 6) (by decide)
          have cT := Lib.hid (cTh.out W hW.out.1)
          clear hd ho hi hLi
          go_simp
          go_at_call 30
          refine cT.out.mono ?_
          rintro r w3 ⟨rfl, hb3⟩
          exact hK.out _ _ ⟨x0, x1, x2, x3, x4, x5, x6, _, x8, x9, x10, _, _, x13, x14, rfl, inv_step (i := 12) (x' := .string (bs (encO ot))) hF.out rfl (show 12 < 15 by decide), ⟨hW.out.1.below hb3, hW.out.2.1.trans (hb3.mono hW.out.2.1.size), fun hh => absurd ((show L 6 = false from hh).symm.trans l6) (by decide), fun _ => by obtain ⟨L', x, e, hS3, r⟩ := hW.out.2.2.2.1 l6; exact ⟨L', x, e, hS3.keep hb3, r⟩, fun h13 => hW.out.2.2.2.2 h13⟩⟩
        | 13, _ =>
          obtain rfl := Option.some.inj ho
          have l6 : L 6 = true := dep_of hd (n := 6) (by decide)
          clear hd ho hi hLi
          go_simp
          exact hK.out _ _ ⟨x0, x1, x2, x3, x4, x5, x6, x7, x8, x9, x10, x11, x12, _, x14, rfl, inv_step (i := 13) (x' := x6) hF.out trivial (show 13 < 15 by decide), ⟨hW.out.1, hW.out.2.1, hW.out.2.2.1, hW.out.2.2.2.1, fun _ => ⟨l6, rfl⟩⟩⟩
        | 14, _ =>
          obtain rfl := Option.some.inj ho
          have l12 : L 12 = true := dep_of hd (n := 12) (by decide)
          obtain rfl := Eq.symm (hF.out 12 l12 : x12 = _)
          clear hd ho hi hLi l12
          go_simp
          exact hK.out _ _ ⟨x0, x1, x2, x3, x4, x5, x6, x7, x8, x9, x10, x11, _, x13, _, rfl, inv_step (i := 14) (x' := .string (bs (encO ot))) hF.out rfl (show 14 < 15 by decide), hW.out⟩
      case hdone =>
        rintro L ac W2 ⟨x0, x1, x2, x3, x4, x5, x6, x7, x8, x9, x10, x11, x12, x13, x14, rfl, hF, hW⟩ hall
        obtain rfl := Eq.symm (hF 0 (hall 0 (show 0 < 15 by decide)) : x0 = _)
        obtain rfl := Eq.symm (hF 1 (hall 1 (show 1 < 15 by decide)) : x1 = _)
        obtain rfl := Eq.symm (hF 2 (hall 2 (show 2 < 15 by decide)) : x2 = _)
        obtain rfl := Eq.symm (hF 3 (hall 3 (show 3 < 15 by decide)) : x3 = _)
        obtain rfl := Eq.symm (hF 4 (hall 4 (show 4 < 15 by decide)) : x4 = _)
        obtain rfl := Eq.symm (hF 5 (hall 5 (show 5 < 15 by decide)) : x5 = _)
        obtain rfl := Eq.symm (hF 7 (hall 7 (show 7 < 15 by decide)) : x7 = _)
        obtain rfl := Eq.symm (hF 8 (hall 8 (show 8 < 15 by decide)) : x8 = _)
        obtain rfl := Eq.symm (hF 9 (hall 9 (show 9 < 15 by decide)) : x9 = _)
        obtain rfl := Eq.symm (hF 10 (hall 10 (show 10 < 15 by decide)) : x10 = _)
        obtain rfl := Eq.symm (hF 11 (hall 11 (show 11 < 15 by decide)) : x11 = _)
        obtain rfl := Eq.symm (hF 12 (hall 12 (show 12 < 15 by decide)) : x12 = _)
        obtain rfl := Eq.symm (hF 14 (hall 14 (show 14 < 15 by decide)) : x14 = _)
        dsimp only
        obtain ⟨hK, hBl, -, h6, h13⟩ := hW
        obtain ⟨L', x', e6, hS3, hG3, hM3⟩ := h6 (hall 6 (show 6 < 15 by decide))
        obtain ⟨-, e13⟩ := h13 (hall 13 (show 13 < 15 by decide))
        subst e6
        subst e13
        have hML' := Lib.hid (hML.out.snoc hS3.good hG3 hM3)
        have hLt' := Lib.hid (show L'.length ≤ j + 1 by have := hG3.len; have := hLt.out; omega)
        have hKh := Lib.hid hK
        have hSh := Lib.hid hS3
        have hzr := Lib.hid (show B ≤ W2.heap.size from (OwnR.nil_ W2 B 1 0 |> fun _ => by have := hK.hB; have := (Array.getElem?_eq_some_iff.1 hK.blk).1; omega))
        clear hF hall h6 h13 hG3 hM3 hS3 hBl hlkh cIh cTh hML hLt hz
        obtain ⟨i0, hi, hz0, hz1, hz2⟩ := info_parts str_info
        obtain ⟨j0, hj0, hj1, hj2, hj3⟩ := info_parts id_info
        obtain ⟨zs, hzs⟩ : ∃ zs, zs = l.map iv := ⟨_, rfl⟩
        have hzl : zs.length ≤ 40 := by have := hollh.out.2; rw [hzs, List.length_map]; omega
        have hOn := Lib.hid (show OwnR (W2.alloc (.cells #[.int .i64 x'] 33)) B 1 33 (.slice AI j cI) zs by rw [hzs]; exact OwnR.keep hK.ids (below_new _ _))
        have hzsh := Lib.hid hzs
        have hrow := Lib.hid (rangeAt_list (heap_new W2 (.cells [Value.int .i64 x'].toArray 33)))
        have hBn := Lib.hid (show B ≤ (W2.alloc (.cells #[.int .i64 x'] 33)).heap.size by have := hzr.out; simp; omega)
        have d0 : W2.cell? ⟨b5, 0, none⟩ = some (.slice AI j cI) := cell_of_row W2 b5 0 _ _ _ hK.blk
        clear hK hzs
        go_upto_region 7 with (at_builtin; refine wpList_append_one_at rfl _ _ 28 rfl 33 j0 _ 1 8 Tryz.underlying28 hj0 hj1 hj2 hj3 rfl (by decide) B hBn.out _ zs rfl hOn.out W2.heap.size 1 [.int .i64 x'] rfl hrow.out rfl (by simp; rfl) (by unfold maxLen; omega) (by omega) ?_; intro v2 w5 hO2 hg2 hat
                               obtain ⟨A2, m2, c2, rfl⟩ : ∃ A m c, v2 = .slice A m c := (by obtain ⟨A, c, e, _⟩ := hO2.rws; exact ⟨A, _, c, e⟩)
                               obtain ⟨k5, hKB6, hS6, hz6⟩ := hKh.out.app1 hSh.out hW0.out hzsh.out hO2 hg2 hat
                               have hcc := cell_of_row w5 b5 0 _ _ _ k5
                               have hfz := frozen_of_row w5 b5 0 _ _ k5
                               have hKB6h := Lib.hid hKB6
                               have hS6h := Lib.hid hS6
                               have hz6h := Lib.hid hz6
                               clear d0 hKB6 hS6 hz6 k5 hO2 hg2 hat)
        generalize w5.setCell ⟨b5, 0, none⟩ (.slice A2 m2 c2) = W6 at *
        clear hcc hfz hOn hrow hBn hKh hSh hzr
        have hK6 := hKB6h.out
        have hKh := hKB6h
        have hzr := Lib.hid (show B ≤ W6.heap.size by have := hK6.hB; have := (Array.getElem?_eq_some_iff.1 hK6.blk).1; omega)
        obtain ⟨ys, hys⟩ : ∃ ys, ys = (((mksO (ms.take j) []).map fun o => bs (encO o))).map sv := ⟨_, rfl⟩
        have hyl : ys.length ≤ 40 := by have := hollh.out.1; rw [hys, List.length_map, List.length_map]; omega
        have hOn := Lib.hid (show OwnR (W6.alloc (.cells #[.string (bs (encO ot))] 9)) B 1 9 (.slice AT j cT) ys by rw [hys]; exact OwnR.keep hK6.txt (below_new _ _))
        have hysh := Lib.hid hys
        have hrow := Lib.hid (rangeAt_list (heap_new W6 (.cells [Value.string (bs (encO ot))].toArray 9)))
        have hBn := Lib.hid (show B ≤ (W6.alloc (.cells #[.string (bs (encO ot))] 9)).heap.size by have := hzr.out; simp; omega)
        have d0 : W6.cell? ⟨b5, 1, none⟩ = some (.slice AT j cT) := cell_of_row W6 b5 1 _ _ _ hK6.blk
        clear hK6 hys
        go_upto_region 4 with (at_builtin; refine wpList_append_one_at rfl _ _ 29 rfl 9 i0 _ 1 16 Tryz.underlying29 hi hz0 hz1 hz2 rfl (by decide) B hBn.out _ ys rfl hOn.out W6.heap.size 1 [.string (bs (encO ot))] rfl hrow.out rfl (by simp; rfl) (by unfold maxLen; omega) (by omega) ?_; intro v3 w7 hO3 hg3 hat3
                               obtain ⟨A3, m3, c3, rfl⟩ : ∃ A m c, v3 = .slice A m c := (by obtain ⟨A, c, e, _⟩ := hO3.rws; exact ⟨A, _, c, e⟩)
                               obtain ⟨k7, hKB8, hS8, hz8⟩ := hKh.out.app2 hS6h.out hW0.out hysh.out hO3 hg3
                               have hcc := cell_of_row w7 b5 1 _ _ _ k7
                               have hfz := frozen_of_row w7 b5 1 _ _ k7
                               have hKB8h := Lib.hid hKB8
                               have hS8h := Lib.hid hS8
                               clear d0 hKB8 hS8 hz8 k7 hO3 hg3 hat3)
        generalize w7.setCell ⟨b5, 1, none⟩ (.slice A3 m3 c3) = W8 at *
        have hzr8 := Lib.hid (show B ≤ W8.heap.size by have := hKB8h.out.hB; have := (Array.getElem?_eq_some_iff.1 hKB8h.out.blk).1; omega)
        have hKBn : Hid (KB W8 B B b5 g (.slice A2 m2 c2) (.slice A3 m3 c3) (l ++ [x']) ((mksO (ms.take (j + 1)) []).map fun o => bs (encO o))) := by
          rw [hnext.out, List.map_append]
          exact hKB8h.out
        have hMLn : Hid (MadeL L' (l ++ [x']) (mksO (ms.take (j + 1)) [])) := by
          rw [hnext.out]
          exact hML'.out
        clear hcc hfz hOn hrow hBn hKh hzr hKB8h hML'
        go_wp2_with fail
        go_roundw
        case rel => exact ⟨j + 1, _, _, _, L', by omega, by go_num, hKBn, hS8h, hMLn, hLt', hzr8⟩
        case measure => simp [intOf]; omega
    · have hjn : j = n := by omega
      subst hjn
      clear hlt
      have htake : ms.take j = ms := List.take_of_length_le (by have := hmlh.out; omega)
      rw [htake] at hKB hML
      obtain ⟨f1, f2, f3, f4, f5, f6⟩ := hKB.out.fin hSt.out hW0.out
      have hrow := Lib.hid (show wr.rangeAt b5 0 [vI, vT] from rangeAt_list hKB.out.blk)
      have hret := Lib.hid hKB.out.ret
      have hone := Lib.hid hKB.out.one
      have hend := Lib.hid (show MakesR w0 W g ms (.returned (.agg #[vI, vT])) (wr.setRow B #[vI, vT]) from ⟨vI, vT, l, Lt, rfl, f4, hML.out, by have := hLt.out; have := hmlh.out; omega, by rw [← hBe.out]; exact f2, by rw [← hBe.out]; exact f3, f5, by rw [← hBe.out]; have := hz.out; omega⟩)
      have hf1 := Lib.hid f1
      clear f1 f2 f3 f4 f5 f6 hKB hSt hML htake
      go_wp2_with (first
        | (refine wpList_load_at 31 _ rfl rfl b5 0 rfl [vI, vT] _ hrow.out Tryz.underlying31 rfl (by kernel_rfl) ?_)
        | (refine wpList_store_at 31 _ _ rfl rfl B #[vI, vT] rfl rfl 31 #[.slice none 0 0, .slice none 0 0] hret.out (by kernel_rfl) rfl hone.out ?_))
      refine bodyPost_ret (results_cell_row rfl _ _ B 31 #[vI, vT] (0, 0) _ rfl hf1.out Tryz.underlying31 rfl (by kernel_rfl)) rfl hend.out
end Go.Proofs.YtphnakdgpilcmaaGreatDoor
