/- RecipeKeeps: the walk of the law. (printed by wip/gen_rkc.py out of rkc_head.txt, rkc_tail.txt) -/
import Derived.Test.YtbeanjaenmpoeaaDoorYb13
import Derived.Test.YtbeanjaenmpoeaaDoorYb23
import Derived.Test.YtbeanjaenmpoeaaDoorYb19
namespace Go.Proofs.YtbeanjaenmpoeaaDoor
open Go.RowKit Go.Maps

theorem hid_bs (D : List UInt8) : (⟨#[104, 105, 100, 100, 101, 110, 32]⟩ : ByteArray) ++ bs D = bs (hidS ++ D) := by
  apply ByteArray.ext
  simp [bs, hidS]
/-- A step of a recipe, and its place. -/
theorem rec_at {known sent : List (Option Tm)} {l : List Mk} {i : Nat} {o : Option Tm} (hi : i < l.length) (h : (recT known sent l [])[i]? = some o) : o ∈ recT known sent (l.take (i + 1)) [] := by
  have e : recT known sent l [] = recT known sent (l.drop (i + 1)) (recT known sent (l.take (i + 1)) []) := by
    rw [← recT_app, List.take_append_drop]
  obtain ⟨r, hr⟩ := recT_pre known sent (l.drop (i + 1)) (recT known sent (l.take (i + 1)) [])
  have hl : (recT known sent (l.take (i + 1)) []).length = i + 1 := by rw [recT_len, List.length_take]; simp; omega
  rw [e, hr, List.getElem?_append_left (by omega)] at h
  exact List.mem_of_getElem? h
theorem keep_at {D : List UInt8} {K P Q : Int} {l : List Mk} {i : Nat} {o : Option Tm} (hK : numOk K) (hP : 0 < P) (hPn : numOk P) (hQ : numOk Q) (h1 : ∀ x ∈ l, ¬ (x.k = 0 ∧ x.s = hidS ++ D)) (hi : i < l.length)
    (h : (recT (keepL D (keyT K) (nonceT P Q)) (keepL D (keyT K) (nonceT P Q)) l [])[i]? = some o) (base : Bool) (hb : base = false → basedB (l.take (i + 1)) = false) : gdO (hidS ++ D) base o := by
  have hk := fun b => keep_known (base := b) (data := D) hK hP hPn hQ
  refine (gd_rec (l.take (i + 1)) (fun x hx => h1 x (List.mem_of_mem_take hx)) (fun e x hx e4 => ?_) (hk base) (hk base) o (rec_at hi h)).1
  have := hb e
  unfold basedB at this
  rw [List.any_eq_false] at this
  exact this x hx (by simpa using e4)
theorem flat_iv (zs : List Int) : (zs.map iv).flatten = zs.map (Value.int .i64) := by
  induction zs with
  | nil => rfl
  | cons x r ih => rw [List.map_cons, List.flatten_cons, ih]; rfl
/-- What the steps leave, in short. -/
def KeepR (w0 : World) (g : Nat) (D : List UInt8) (known : List (Option Tm)) (ms : List Mk) (n : Nat) (L : List Tm) (r : Ending) (W' : World) : Prop := ∃ (A' : Option Addr) (m c' : Nat) (l : List Int) (L' : List Tm) (os : List (Option Tm)), r = .returned (.slice A' m c') ∧ St w0 g W' L' ∧ (∃ e, L' = L ++ e) ∧ m ≤ n ∧ Ints W' A' m l ∧ NmL L' l os ∧ ∀ (i : Nat) (o : Option Tm), os[i]? = some o → ∀ base : Bool, (base = false → basedB (ms.take (i + 1)) = false) → gdO (hidS ++ D) base o
def dsRk4 : List (Option Nat) := [some 28, some 29, some 30, some 31, some 32, some 33, some 34, some 35, some 36, some 37, some 38, some 39, some 40, some 41, some 42, some 43, some 8, some 9]
def tbRk4 : List (List Nat) := [[], [], [1], [2], [3], [0, 4], [], [], [7], [8], [9], [10], [], [12], [13], [5, 6, 11, 14], [5, 15], [15, 16]]
def vsRk4 (g : Nat) (p : Nat) (a0 : Nat) (b0 : Nat) (c0 : Nat) (ka : Nat) (kb : Nat) : List (Option Value) := [some (.pointer (some ⟨g, 0, none⟩)), some (.pointer (some ⟨p, 0, none⟩)), some (.int .u8 a0), some (.int .i64 a0), some (.int .i64 ka), none, some (.pointer (some ⟨g, 0, none⟩)), some (.pointer (some ⟨p, 1, none⟩)), some (.int .u8 b0), some (.int .i64 b0), some (.int .i64 kb), some (.int .i64 (1 + kb)), some (.pointer (some ⟨p, 2, none⟩)), some (.int .u8 c0), some (.int .i64 c0), none, none, none]
set_option maxRecDepth 100000 in
set_option maxHeartbeats 8000000 in
theorem recipeKeeps_any (a0 b0 c0 : Nat) (D : List UInt8) (ms : List Mk) (A : Option Addr) (n c : Nat) (w : World) (ha : a0 ≤ 255) (hb : b0 ≤ 255) (hc : c0 ≤ 255) (hn : n ≤ 9223372036854775807) (hnc : n ≤ c) (hcm : c ≤ 9223372036854775807) (H : Rws w 5 A n (ms.map Mk.row)) :
    Calls Tryd.prog 10 #[.agg #[.int .u8 a0, .int .u8 b0, .int .u8 c0], .string (bs D), .slice A n c] w fun r w' => r = .returned (.bool true) ∧ Below w.heap.size w w' := by
  have hbW := below_new w (.cells #[.int .u8 a0, .int .u8 b0, .int .u8 c0] 73)
  have hx1 := heap_new w (.cells #[.int .u8 a0, .int .u8 b0, .int .u8 c0] 73)
  have H1 := H.keep hbW
  have hml : ms.length = n := by have := H.1; simpa using this
  obtain ⟨W1, hW1⟩ : ∃ W1, W1 = w.alloc (.cells #[.int .u8 a0, .int .u8 b0, .int .u8 c0] 73) := ⟨_, rfl⟩
  rw [← hW1] at hx1 hbW H1
  have hp := Lib.hid hbW
  have hx1h := Lib.hid hx1
  have cF := few14_any ms A n c W1 hn H1
  have cA := Lib.hid (fun W => awake14 W)
  have hW1h := Lib.hid hW1
  have hzD := bs_size D
  clear hbW hx1 H
  go_enter Tryd.func10, Tryd.ntmps10
  go_upto_region 1 with fail
  have hW1' := hW1h.out
  clear hW1 hW1h
  rw [← hW1']
  clear hW1'
  cases hf : fewB ms 70 with
  | false =>
    rw [hf] at cF
    replace cF := Lib.hid cF
    clear hf H1 hml hzD
    go_wp2_with (first
      | (go_at_call 35; refine cF.out.mono ?_; rintro r w1 ⟨rfl, rfl⟩)
      | (go_at_call 36; refine (cA.out _).mono ?_; rintro r w1 ⟨rfl, hb⟩))
    go_ret
    exact ⟨rfl, hp.out.trans (hb.mono hp.out.size)⟩
  | true =>
    rw [hf] at cF
    obtain ⟨h70, h200⟩ := fewB_iff.1 hf
    have hn70 : n ≤ 70 := by omega
    replace cF := Lib.hid cF
    by_cases hD : ¬ (bs D).size ≤ 100
    · have hD2 : 100 < (bs D).size := by omega
      clear hf H1 hml hzD h70 h200 hD
      go_wp2_with (first
        | (go_at_call 35; refine cF.out.mono ?_; rintro r w1 ⟨rfl, rfl⟩)
        | (go_at_call 36; refine (cA.out _).mono ?_; rintro r w1 ⟨rfl, hb⟩))
      go_ret
      exact ⟨rfl, hp.out.trans (hb.mono hp.out.size)⟩
    have hD2 : (bs D).size ≤ 100 := by omega
    have hDl : D.length ≤ 100 := by omega
    have cN := Lib.hid (tnew_any W1)
    have e100 : decide ((100 : Int) < ((bs D).size : Int)) = false := decide_eq_false (by omega)
    have Hh := Lib.hid H1
    have h200 := Lib.hid h200
    have hmlh := Lib.hid hml
    have hDh := Lib.hid hDl
    clear hf H1 hml h70 hzD hD hDl
    go_upto_region 4 with (first
      | (go_at_call 35; refine cF.out.mono ?_; rintro r w1 ⟨rfl, rfl⟩)
      | (go_at_call 12; refine cN.out.mono ?_; rintro r w2 ⟨A0, rfl, hN, hA, hb⟩
         have hS0 := Lib.hid (St.start hN hA hb)
         have hx2 := Lib.hid ((hb.block w.heap.size (Array.getElem?_eq_some_iff.1 hx1h.out).1).trans hx1h.out)
         clear hN hA hb cN cF
         generalize A0.g = g at *))
    obtain ⟨ka, hka⟩ : ∃ k, k = a0 % 10 := ⟨_, rfl⟩
    obtain ⟨kb, hkb⟩ : ∃ k, k = b0 % 10 := ⟨_, rfl⟩
    have hkab : ka < 10 ∧ kb < 10 := by omega
    clear e100
    have hw_a0 := Lib.hid (show IntKind.i64.wrap (a0 : Int) = (a0 : Int) by rw [IntKind.wrap_i64]; omega)
    have hw_b0 := Lib.hid (show IntKind.i64.wrap (b0 : Int) = (b0 : Int) by rw [IntKind.wrap_i64]; omega)
    have hw_c0 := Lib.hid (show IntKind.i64.wrap (c0 : Int) = (c0 : Int) by rw [IntKind.wrap_i64]; omega)
    have hm_a0 := Lib.hid (show Int.tmod (a0 : Int) 10 = (ka : Int) by rw [Int.tmod_eq_emod_of_nonneg (by omega)]; omega)
    have hm_b0 := Lib.hid (show Int.tmod (b0 : Int) 10 = (kb : Int) by rw [Int.tmod_eq_emod_of_nonneg (by omega)]; omega)
    have ha_b0 := Lib.hid (show IntKind.i64.wrap (1 + (kb : Int)) = 1 + (kb : Int) by rw [IntKind.wrap_i64]; omega)
    obtain ⟨Ky, hKy⟩ : ∃ o, keyT (ka : Int) = o := ⟨_, rfl⟩
    obtain ⟨Xo, hXo⟩ : ∃ o, nonceT (1 + (kb : Int)) c0 = o := ⟨_, rfl⟩
    have cKey : Hid (∀ W, Below w2.heap.size w2 W → Calls Tryd.prog 26 #[.pointer (some ⟨g, 0, none⟩), .int .i64 (ka : Int)] W (SR W1 g W [] Ky)) := fun W h => by
      have := (hS0.out.keep h).key (by decide) (ka : Int)
      rw [hKy] at this
      exact this
    replace hKy := Lib.hid hKy
    replace hXo := Lib.hid hXo
    have hcat := Lib.hid (hid_bs D)
    have hab := Lib.hid (And.intro ha (And.intro hb (And.intro hc hkab)))
    clear ha hb hc hka hkb hkab
    refine region_iw tbRk4 dsRk4 (vsRk4 g (w.heap.size) a0 b0 c0 ka kb) (fun L T W => Stay w2 W ∧ (L 5 = false → Below w2.heap.size w2 W) ∧ (L 5 = true → L 15 = false → ∃ (L1 : List Tm) (x1 : Int), T.getD 33 undef = .int .i64 x1 ∧ St W1 g W L1 ∧ L1.length ≤ 1 ∧ Nm L1 x1 Ky) ∧ (L 15 = true → ∃ (L1 : List Tm) (x1 x2 : Int), T.getD 33 undef = .int .i64 x1 ∧ T.getD 43 undef = .int .i64 x2 ∧ St W1 g W L1 ∧ L1.length ≤ 2 ∧ Nm L1 x1 Ky ∧ Nm L1 x2 Xo) ∧ (L 16 = true → L 15 = true ∧ T.getD 8 undef = T.getD 33 undef) ∧ (L 17 = true → T.getD 9 undef = T.getD 43 undef)) rfl (by decide) (by kernel_rfl) ?hlt ?hstep ?hdone ?hstart
    case hstart => exact ⟨Stay.of_below (drewN_below 1), fun _ => drewN_below 1, fun h => absurd h (inv_not (n := 18) (i := 5) (by decide)), fun h => absurd h (inv_not (n := 18) (i := 15) (by decide)), fun h => absurd h (inv_not (n := 18) (i := 16) (by decide)), fun h => absurd h (inv_not (n := 18) (i := 17) (by decide))⟩
    case hlt =>
      intro ix o ho
      have hi := (Array.getElem?_eq_some_iff.1 ho).1
      match ix, hi with
      | 0, _ => obtain rfl := Option.some.inj ho; decide
      | 1, _ => obtain rfl := Option.some.inj ho; decide
      | 2, _ => obtain rfl := Option.some.inj ho; decide
      | 3, _ => obtain rfl := Option.some.inj ho; decide
      | 4, _ => obtain rfl := Option.some.inj ho; decide
      | 5, _ => obtain rfl := Option.some.inj ho; decide
      | 6, _ => obtain rfl := Option.some.inj ho; decide
      | 7, _ => obtain rfl := Option.some.inj ho; decide
      | 8, _ => obtain rfl := Option.some.inj ho; decide
      | 9, _ => obtain rfl := Option.some.inj ho; decide
      | 10, _ => obtain rfl := Option.some.inj ho; decide
      | 11, _ => obtain rfl := Option.some.inj ho; decide
      | 12, _ => obtain rfl := Option.some.inj ho; decide
      | 13, _ => obtain rfl := Option.some.inj ho; decide
      | 14, _ => obtain rfl := Option.some.inj ho; decide
      | 15, _ => obtain rfl := Option.some.inj ho; decide
      | 16, _ => obtain rfl := Option.some.inj ho; decide
      | 17, _ => obtain rfl := Option.some.inj ho; decide
    case hstep =>
      intro T1 hE L T W ix o hF hW hc ho hLi hd K hK
      have hN : T1.size = 188 := by rw [hE]; rfl
      have f3 : T.getD 3 undef = .pointer (some ⟨(w.heap.size), 0, none⟩) := (hF.old 3 (by decide)).trans (by rw [hE]; rfl)
      have f7 : T.getD 7 undef = .pointer (some ⟨g, 0, none⟩) := (hF.old 7 (by decide)).trans (by rw [hE]; rfl)
      clear hE
      replace hF := Lib.hid hF
      replace hW := Lib.hid hW
      replace hK := Lib.hid hK
      have hi := (List.getElem?_eq_some_iff.1 ho).1
      match ix, hi with
      | 0, _ =>
        obtain rfl := Option.some.inj ho
        clear hd ho hi hc hLi
        exact st_val (v := .pointer (some ⟨g, 0, none⟩)) (w' := W) (want_none rfl) (by unfold execOp; dsimp only [Act.eval]; simp only [f7]; go_simp) (hK.out _ _ (hF.out.put (k := 0) (s := 28) rfl (by decide) hN (by decide) (fun u hu => Option.some.inj (Option.some.inj (show some (some (.pointer (some ⟨g, 0, none⟩))) = some (some u) from hu))) (by dsimp only; rw [gd_ne (show 28 ≠ 33 by decide), gd_ne (show 28 ≠ 43 by decide), gd_ne (show 28 ≠ 8 by decide), gd_ne (show 28 ≠ 9 by decide)]; exact hW.out)))
      | 1, _ =>
        obtain rfl := Option.some.inj ho
        clear hd ho hi hc hLi
        exact st_val (v := .pointer (some ⟨(w.heap.size), 0, none⟩)) (w' := W) (want_none rfl) (by unfold execOp; dsimp only [Act.eval]; simp only [f3]; go_simp) (hK.out _ _ (hF.out.put (k := 1) (s := 29) rfl (by decide) hN (by decide) (fun u hu => Option.some.inj (Option.some.inj (show some (some (.pointer (some ⟨(w.heap.size), 0, none⟩))) = some (some u) from hu))) (by dsimp only; rw [gd_ne (show 29 ≠ 33 by decide), gd_ne (show 29 ≠ 43 by decide), gd_ne (show 29 ≠ 8 by decide), gd_ne (show 29 ≠ 9 by decide)]; exact hW.out)))
      | 2, _ =>
        obtain rfl := Option.some.inj ho
        have l1 : L 1 = true := dep_of hd (n := 1) (by decide)
        have e29 : T.getD 29 undef = .pointer (some ⟨(w.heap.size), 0, none⟩) := hF.out.val 1 29 _ l1 rfl rfl
        have hcc : W.cell? ⟨w.heap.size, 0, none⟩ = some (.int .u8 a0) := cell_of_row W w.heap.size 0 _ _ _ (hW.out.1 _ _ _ _ hx2.out (by decide) (by decide) (by decide))
        clear hd ho hi hc hLi
        exact st_val (v := .int .u8 a0) (w' := W) (want_none rfl) (by unfold execOp; dsimp only [Act.eval]; simp only [e29]; go_simp) (hK.out _ _ (hF.out.put (k := 2) (s := 30) rfl (by decide) hN (by decide) (fun u hu => Option.some.inj (Option.some.inj (show some (some (.int .u8 a0)) = some (some u) from hu))) (by dsimp only; rw [gd_ne (show 30 ≠ 33 by decide), gd_ne (show 30 ≠ 43 by decide), gd_ne (show 30 ≠ 8 by decide), gd_ne (show 30 ≠ 9 by decide)]; exact hW.out)))
      | 3, _ =>
        obtain rfl := Option.some.inj ho
        have l2 : L 2 = true := dep_of hd (n := 2) (by decide)
        have e30 : T.getD 30 undef = .int .u8 a0 := hF.out.val 2 30 _ l2 rfl rfl
        have hwr := hw_a0.out
        clear hd ho hi hc hLi
        exact st_val (v := .int .i64 a0) (w' := W) (want_none rfl) (by unfold execOp; dsimp only [Act.eval]; simp only [e30]; go_simp) (hK.out _ _ (hF.out.put (k := 3) (s := 31) rfl (by decide) hN (by decide) (fun u hu => Option.some.inj (Option.some.inj (show some (some (.int .i64 a0)) = some (some u) from hu))) (by dsimp only; rw [gd_ne (show 31 ≠ 33 by decide), gd_ne (show 31 ≠ 43 by decide), gd_ne (show 31 ≠ 8 by decide), gd_ne (show 31 ≠ 9 by decide)]; exact hW.out)))
      | 4, _ =>
        obtain rfl := Option.some.inj ho
        have l3 : L 3 = true := dep_of hd (n := 3) (by decide)
        have e31 : T.getD 31 undef = .int .i64 a0 := hF.out.val 3 31 _ l3 rfl rfl
        have hwr := hm_a0.out
        clear hd ho hi hc hLi
        exact st_val (v := .int .i64 ka) (w' := W) (want_none rfl) (by unfold execOp; dsimp only [Act.eval]; simp only [e31]; go_simp) (hK.out _ _ (hF.out.put (k := 4) (s := 32) rfl (by decide) hN (by decide) (fun u hu => Option.some.inj (Option.some.inj (show some (some (.int .i64 ka)) = some (some u) from hu))) (by dsimp only; rw [gd_ne (show 32 ≠ 33 by decide), gd_ne (show 32 ≠ 43 by decide), gd_ne (show 32 ≠ 8 by decide), gd_ne (show 32 ≠ 9 by decide)]; exact hW.out)))
      | 5, _ =>
        obtain rfl := Option.some.inj ho
        have l0 : L 0 = true := dep_of hd (n := 0) (by decide)
        have e28 : T.getD 28 undef = .pointer (some ⟨g, 0, none⟩) := hF.out.val 0 28 _ l0 rfl rfl
        have l4 : L 4 = true := dep_of hd (n := 4) (by decide)
        have e32 : T.getD 32 undef = .int .i64 ka := hF.out.val 4 32 _ l4 rfl rfl
        have hb := hW.out.2.1 hLi
        have n15 : ¬ L 15 = true := fun h => by have := hc 15 5 h (by decide); rw [hLi] at this; cases this
        have n16 : ¬ L 16 = true := fun h => n15 (hc 16 15 h (by decide))
        have n17 : ¬ L 17 = true := fun h => n16 (hc 17 16 h (by decide))
        have cc := Lib.hid (cKey.out W hb)
        clear hd ho hi hc
        refine st_call (want_none rfl) (by unfold execOp; go_simp) cc.out ?_
        rintro r w3 ⟨L', x', rfl, a1, a2, a3, a4, a5, a6⟩
        exact ⟨_, rfl, hK.out _ _ (hF.out.put (k := 5) (s := 33) rfl (by decide) hN (by decide) (fun u hu => by cases hu) ⟨hW.out.1.trans a4, fun h => absurd h (by simp), fun _ _ => ⟨L', x', gd_eq (by rw [hF.out.size, hN]; decide), a1, (by have := a2.len.2; simpa using this), a3⟩, fun h => absurd h n15, fun h => absurd h n16, fun h => absurd h n17⟩)⟩
      | 6, _ =>
        obtain rfl := Option.some.inj ho
        clear hd ho hi hc hLi
        exact st_val (v := .pointer (some ⟨g, 0, none⟩)) (w' := W) (want_none rfl) (by unfold execOp; dsimp only [Act.eval]; simp only [f7]; go_simp) (hK.out _ _ (hF.out.put (k := 6) (s := 34) rfl (by decide) hN (by decide) (fun u hu => Option.some.inj (Option.some.inj (show some (some (.pointer (some ⟨g, 0, none⟩))) = some (some u) from hu))) (by dsimp only; rw [gd_ne (show 34 ≠ 33 by decide), gd_ne (show 34 ≠ 43 by decide), gd_ne (show 34 ≠ 8 by decide), gd_ne (show 34 ≠ 9 by decide)]; exact hW.out)))
      | 7, _ =>
        obtain rfl := Option.some.inj ho
        clear hd ho hi hc hLi
        exact st_val (v := .pointer (some ⟨(w.heap.size), 1, none⟩)) (w' := W) (want_none rfl) (by unfold execOp; dsimp only [Act.eval]; simp only [f3]; go_simp) (hK.out _ _ (hF.out.put (k := 7) (s := 35) rfl (by decide) hN (by decide) (fun u hu => Option.some.inj (Option.some.inj (show some (some (.pointer (some ⟨(w.heap.size), 1, none⟩))) = some (some u) from hu))) (by dsimp only; rw [gd_ne (show 35 ≠ 33 by decide), gd_ne (show 35 ≠ 43 by decide), gd_ne (show 35 ≠ 8 by decide), gd_ne (show 35 ≠ 9 by decide)]; exact hW.out)))
      | 8, _ =>
        obtain rfl := Option.some.inj ho
        have l7 : L 7 = true := dep_of hd (n := 7) (by decide)
        have e35 : T.getD 35 undef = .pointer (some ⟨(w.heap.size), 1, none⟩) := hF.out.val 7 35 _ l7 rfl rfl
        have hcc : W.cell? ⟨w.heap.size, 1, none⟩ = some (.int .u8 b0) := cell_of_row W w.heap.size 1 _ _ _ (hW.out.1 _ _ _ _ hx2.out (by decide) (by decide) (by decide))
        clear hd ho hi hc hLi
        exact st_val (v := .int .u8 b0) (w' := W) (want_none rfl) (by unfold execOp; dsimp only [Act.eval]; simp only [e35]; go_simp) (hK.out _ _ (hF.out.put (k := 8) (s := 36) rfl (by decide) hN (by decide) (fun u hu => Option.some.inj (Option.some.inj (show some (some (.int .u8 b0)) = some (some u) from hu))) (by dsimp only; rw [gd_ne (show 36 ≠ 33 by decide), gd_ne (show 36 ≠ 43 by decide), gd_ne (show 36 ≠ 8 by decide), gd_ne (show 36 ≠ 9 by decide)]; exact hW.out)))
      | 9, _ =>
        obtain rfl := Option.some.inj ho
        have l8 : L 8 = true := dep_of hd (n := 8) (by decide)
        have e36 : T.getD 36 undef = .int .u8 b0 := hF.out.val 8 36 _ l8 rfl rfl
        have hwr := hw_b0.out
        clear hd ho hi hc hLi
        exact st_val (v := .int .i64 b0) (w' := W) (want_none rfl) (by unfold execOp; dsimp only [Act.eval]; simp only [e36]; go_simp) (hK.out _ _ (hF.out.put (k := 9) (s := 37) rfl (by decide) hN (by decide) (fun u hu => Option.some.inj (Option.some.inj (show some (some (.int .i64 b0)) = some (some u) from hu))) (by dsimp only; rw [gd_ne (show 37 ≠ 33 by decide), gd_ne (show 37 ≠ 43 by decide), gd_ne (show 37 ≠ 8 by decide), gd_ne (show 37 ≠ 9 by decide)]; exact hW.out)))
      | 10, _ =>
        obtain rfl := Option.some.inj ho
        have l9 : L 9 = true := dep_of hd (n := 9) (by decide)
        have e37 : T.getD 37 undef = .int .i64 b0 := hF.out.val 9 37 _ l9 rfl rfl
        have hwr := hm_b0.out
        clear hd ho hi hc hLi
        exact st_val (v := .int .i64 kb) (w' := W) (want_none rfl) (by unfold execOp; dsimp only [Act.eval]; simp only [e37]; go_simp) (hK.out _ _ (hF.out.put (k := 10) (s := 38) rfl (by decide) hN (by decide) (fun u hu => Option.some.inj (Option.some.inj (show some (some (.int .i64 kb)) = some (some u) from hu))) (by dsimp only; rw [gd_ne (show 38 ≠ 33 by decide), gd_ne (show 38 ≠ 43 by decide), gd_ne (show 38 ≠ 8 by decide), gd_ne (show 38 ≠ 9 by decide)]; exact hW.out)))
      | 11, _ =>
        obtain rfl := Option.some.inj ho
        have l10 : L 10 = true := dep_of hd (n := 10) (by decide)
        have e38 : T.getD 38 undef = .int .i64 kb := hF.out.val 10 38 _ l10 rfl rfl
        have hwr := ha_b0.out
        clear hd ho hi hc hLi
        exact st_val (v := .int .i64 (1 + kb)) (w' := W) (want_none rfl) (by unfold execOp; dsimp only [Act.eval]; simp only [e38]; go_simp) (hK.out _ _ (hF.out.put (k := 11) (s := 39) rfl (by decide) hN (by decide) (fun u hu => Option.some.inj (Option.some.inj (show some (some (.int .i64 (1 + kb))) = some (some u) from hu))) (by dsimp only; rw [gd_ne (show 39 ≠ 33 by decide), gd_ne (show 39 ≠ 43 by decide), gd_ne (show 39 ≠ 8 by decide), gd_ne (show 39 ≠ 9 by decide)]; exact hW.out)))
      | 12, _ =>
        obtain rfl := Option.some.inj ho
        clear hd ho hi hc hLi
        exact st_val (v := .pointer (some ⟨(w.heap.size), 2, none⟩)) (w' := W) (want_none rfl) (by unfold execOp; dsimp only [Act.eval]; simp only [f3]; go_simp) (hK.out _ _ (hF.out.put (k := 12) (s := 40) rfl (by decide) hN (by decide) (fun u hu => Option.some.inj (Option.some.inj (show some (some (.pointer (some ⟨(w.heap.size), 2, none⟩))) = some (some u) from hu))) (by dsimp only; rw [gd_ne (show 40 ≠ 33 by decide), gd_ne (show 40 ≠ 43 by decide), gd_ne (show 40 ≠ 8 by decide), gd_ne (show 40 ≠ 9 by decide)]; exact hW.out)))
      | 13, _ =>
        obtain rfl := Option.some.inj ho
        have l12 : L 12 = true := dep_of hd (n := 12) (by decide)
        have e40 : T.getD 40 undef = .pointer (some ⟨(w.heap.size), 2, none⟩) := hF.out.val 12 40 _ l12 rfl rfl
        have hcc : W.cell? ⟨w.heap.size, 2, none⟩ = some (.int .u8 c0) := cell_of_row W w.heap.size 2 _ _ _ (hW.out.1 _ _ _ _ hx2.out (by decide) (by decide) (by decide))
        clear hd ho hi hc hLi
        exact st_val (v := .int .u8 c0) (w' := W) (want_none rfl) (by unfold execOp; dsimp only [Act.eval]; simp only [e40]; go_simp) (hK.out _ _ (hF.out.put (k := 13) (s := 41) rfl (by decide) hN (by decide) (fun u hu => Option.some.inj (Option.some.inj (show some (some (.int .u8 c0)) = some (some u) from hu))) (by dsimp only; rw [gd_ne (show 41 ≠ 33 by decide), gd_ne (show 41 ≠ 43 by decide), gd_ne (show 41 ≠ 8 by decide), gd_ne (show 41 ≠ 9 by decide)]; exact hW.out)))
      | 14, _ =>
        obtain rfl := Option.some.inj ho
        have l13 : L 13 = true := dep_of hd (n := 13) (by decide)
        have e41 : T.getD 41 undef = .int .u8 c0 := hF.out.val 13 41 _ l13 rfl rfl
        have hwr := hw_c0.out
        clear hd ho hi hc hLi
        exact st_val (v := .int .i64 c0) (w' := W) (want_none rfl) (by unfold execOp; dsimp only [Act.eval]; simp only [e41]; go_simp) (hK.out _ _ (hF.out.put (k := 14) (s := 42) rfl (by decide) hN (by decide) (fun u hu => Option.some.inj (Option.some.inj (show some (some (.int .i64 c0)) = some (some u) from hu))) (by dsimp only; rw [gd_ne (show 42 ≠ 33 by decide), gd_ne (show 42 ≠ 43 by decide), gd_ne (show 42 ≠ 8 by decide), gd_ne (show 42 ≠ 9 by decide)]; exact hW.out)))
      | 15, _ =>
        obtain rfl := Option.some.inj ho
        have l6 : L 6 = true := dep_of hd (n := 6) (by decide)
        have e34 : T.getD 34 undef = .pointer (some ⟨g, 0, none⟩) := hF.out.val 6 34 _ l6 rfl rfl
        have l11 : L 11 = true := dep_of hd (n := 11) (by decide)
        have e39 : T.getD 39 undef = .int .i64 (1 + kb) := hF.out.val 11 39 _ l11 rfl rfl
        have l14 : L 14 = true := dep_of hd (n := 14) (by decide)
        have e42 : T.getD 42 undef = .int .i64 c0 := hF.out.val 14 42 _ l14 rfl rfl
        have l5 : L 5 = true := dep_of hd (n := 5) (by decide)
        obtain ⟨L1, x1, e33, s1, hl1, m1⟩ := hW.out.2.2.1 l5 hLi
        have n16 : ¬ L 16 = true := fun h => by have := hc 16 15 h (by decide); rw [hLi] at this; cases this
        have n17 : ¬ L 17 = true := fun h => n16 (hc 17 16 h (by decide))
        have cc : Hid (Calls Tryd.prog 18 #[.pointer (some ⟨g, 0, none⟩), .int .i64 (1 + kb), .int .i64 c0] W (SR W1 g W L1 Xo)) := by have h := s1.nonce (by omega) (1 + kb) c0; rw [hXo.out] at h; exact h
        replace e33 := Lib.hid e33
        clear hd ho hi hc
        refine st_call (want_none rfl) (by unfold execOp; go_simp) cc.out ?_
        rintro r w3 ⟨L', x', rfl, a1, a2, a3, a4, a5, a6⟩
        exact ⟨_, rfl, hK.out _ _ (hF.out.put (k := 15) (s := 43) rfl (by decide) hN (by decide) (fun u hu => by cases hu) ⟨hW.out.1.trans a4, fun h => absurd (l5.symm.trans (show L 5 = false from h)) (by decide), fun _ h => absurd h (by simp), fun _ => ⟨L', x1, x', (gd_ne (show 43 ≠ 33 by decide)).trans e33.out, gd_eq (by rw [hF.out.size, hN]; decide), a1, (by have := a2.len.2; omega), m1.grow a2, a3⟩, fun h => absurd h n16, fun h => absurd h n17⟩)⟩
      | 16, _ =>
        obtain rfl := Option.some.inj ho
        have l5 : L 5 = true := dep_of hd (n := 5) (by decide)
        have l15 : L 15 = true := dep_of hd (n := 15) (by decide)
        clear hd ho hi hc hLi
        exact st_val (v := T.getD 33 undef) (w' := W) (want_none rfl) rfl (hK.out _ _ (hF.out.put (k := 16) (s := 8) rfl (by decide) hN (by decide) (fun u hu => by cases hu) (by rw [gd_ne (show 8 ≠ 33 by decide), gd_ne (show 8 ≠ 43 by decide), gd_ne (show 8 ≠ 9 by decide), gd_eq (by rw [hF.out.size, hN]; decide)]; exact ⟨hW.out.1, hW.out.2.1, hW.out.2.2.1, hW.out.2.2.2.1, fun _ => ⟨l15, rfl⟩, hW.out.2.2.2.2.2⟩)))
      | 17, _ =>
        obtain rfl := Option.some.inj ho
        have l15 : L 15 = true := dep_of hd (n := 15) (by decide)
        clear hd ho hi hc hLi
        exact st_val (v := T.getD 43 undef) (w' := W) (want_none rfl) rfl (hK.out _ _ (hF.out.put (k := 17) (s := 9) rfl (by decide) hN (by decide) (fun u hu => by cases hu) (by rw [gd_ne (show 9 ≠ 33 by decide), gd_ne (show 9 ≠ 43 by decide), gd_ne (show 9 ≠ 8 by decide), gd_eq (by rw [hF.out.size, hN]; decide)]; exact ⟨hW.out.1, hW.out.2.1, hW.out.2.2.1, hW.out.2.2.2.1, hW.out.2.2.2.2.1, fun _ => rfl⟩)))
    case hdone =>
      intro L T W2 hF hW hall
      obtain ⟨L0, x1, x2, e33, e43, hS0, hl0, m1, m2⟩ := hW.2.2.2.1 (hall 15 (by decide))
      have e8 := (hW.2.2.2.2.1 (hall 16 (by decide))).2.trans e33
      have e9 := (hW.2.2.2.2.2 (hall 17 (by decide))).trans e43
      have hT : T = #[.agg #[.int .u8 a0, .int .u8 b0, .int .u8 c0], .string (bs D), .slice A n c, .pointer (some ⟨(w.heap.size), 0, none⟩), undef, undef, .bool false, .pointer (some ⟨g, 0, none⟩), .int .i64 x1, .int .i64 x2, undef, undef, undef, undef, undef, undef, undef, undef, .slice A n c, .bool true, .bool false, .bool false, .string (bs D), .int .i64 (bs D).size, .bool false, .bool false, undef, .pointer (some ⟨g, 0, none⟩), .pointer (some ⟨g, 0, none⟩), .pointer (some ⟨(w.heap.size), 0, none⟩), .int .u8 a0, .int .i64 a0, .int .i64 ka, .int .i64 x1, .pointer (some ⟨g, 0, none⟩), .pointer (some ⟨(w.heap.size), 1, none⟩), .int .u8 b0, .int .i64 b0, .int .i64 kb, .int .i64 (1 + kb), .pointer (some ⟨(w.heap.size), 2, none⟩), .int .u8 c0, .int .i64 c0, .int .i64 x2, undef, undef, undef, undef, undef, undef, undef, undef, undef, undef, undef, undef, undef, undef, undef, undef, undef, undef, undef, undef, undef, undef, undef, undef, undef, undef, undef, undef, undef, undef, undef, undef, undef, undef, undef, undef, undef, undef, undef, undef, undef, undef, undef, undef, undef, undef, undef, undef, undef, undef, undef, undef, undef, undef, undef, undef, undef, undef, undef, undef, undef, undef, undef, undef, undef, undef, undef, undef, undef, undef, undef, undef, undef, undef, undef, undef, undef, undef, undef, undef, undef, undef, undef, undef, undef, undef, undef, undef, undef, undef, undef, undef, undef, undef, undef, undef, undef, undef, undef, undef, undef, undef, undef, undef, undef, undef, undef, undef, undef, undef, undef, undef, undef, undef, undef, undef, undef, undef, undef, undef, undef, undef, undef, undef, undef, undef, undef, undef, undef, undef, undef, undef, undef, undef, undef, undef, undef, undef, undef, undef, undef, undef, undef, undef] := (hF.fin [(28, .pointer (some ⟨g, 0, none⟩)), (29, .pointer (some ⟨(w.heap.size), 0, none⟩)), (30, .int .u8 a0), (31, .int .i64 a0), (32, .int .i64 ka), (33, .int .i64 x1), (34, .pointer (some ⟨g, 0, none⟩)), (35, .pointer (some ⟨(w.heap.size), 1, none⟩)), (36, .int .u8 b0), (37, .int .i64 b0), (38, .int .i64 kb), (39, .int .i64 (1 + kb)), (40, .pointer (some ⟨(w.heap.size), 2, none⟩)), (41, .int .u8 c0), (42, .int .i64 c0), (43, .int .i64 x2), (8, .int .i64 x1), (9, .int .i64 x2)] [28, 29, 30, 31, 32, 33, 34, 35, 36, 37, 38, 39, 40, 41, 42, 43, 8, 9] rfl (List.forall_mem_cons.2 ⟨hF.val 0 _ _ (hall 0 (show 0 < 18 by decide)) rfl rfl, (List.forall_mem_cons.2 ⟨hF.val 1 _ _ (hall 1 (show 1 < 18 by decide)) rfl rfl, (List.forall_mem_cons.2 ⟨hF.val 2 _ _ (hall 2 (show 2 < 18 by decide)) rfl rfl, (List.forall_mem_cons.2 ⟨hF.val 3 _ _ (hall 3 (show 3 < 18 by decide)) rfl rfl, (List.forall_mem_cons.2 ⟨hF.val 4 _ _ (hall 4 (show 4 < 18 by decide)) rfl rfl, (List.forall_mem_cons.2 ⟨e33, (List.forall_mem_cons.2 ⟨hF.val 6 _ _ (hall 6 (show 6 < 18 by decide)) rfl rfl, (List.forall_mem_cons.2 ⟨hF.val 7 _ _ (hall 7 (show 7 < 18 by decide)) rfl rfl, (List.forall_mem_cons.2 ⟨hF.val 8 _ _ (hall 8 (show 8 < 18 by decide)) rfl rfl, (List.forall_mem_cons.2 ⟨hF.val 9 _ _ (hall 9 (show 9 < 18 by decide)) rfl rfl, (List.forall_mem_cons.2 ⟨hF.val 10 _ _ (hall 10 (show 10 < 18 by decide)) rfl rfl, (List.forall_mem_cons.2 ⟨hF.val 11 _ _ (hall 11 (show 11 < 18 by decide)) rfl rfl, (List.forall_mem_cons.2 ⟨hF.val 12 _ _ (hall 12 (show 12 < 18 by decide)) rfl rfl, (List.forall_mem_cons.2 ⟨hF.val 13 _ _ (hall 13 (show 13 < 18 by decide)) rfl rfl, (List.forall_mem_cons.2 ⟨hF.val 14 _ _ (hall 14 (show 14 < 18 by decide)) rfl rfl, (List.forall_mem_cons.2 ⟨e43, (List.forall_mem_cons.2 ⟨e8, (List.forall_mem_cons.2 ⟨e9, (fun _ h => absurd h List.not_mem_nil)⟩)⟩)⟩)⟩)⟩)⟩)⟩)⟩)⟩)⟩)⟩)⟩)⟩)⟩)⟩)⟩)⟩)⟩) (by decide)).trans (by kernel_rfl)
      clear hF hall
      subst hT
      replace hl0 := Lib.hid hl0
      have hK0 : Hid (Kn L0 [(x2, Xo), (x1, Ky)]) := ((Kn.nil_ L0).add m1).add m2
      have ct0 : Calls Tryd.prog 13 #[.pointer (some ⟨g, 0, none⟩), .string (bs (hidS ++ D))] W2 (SR W1 g W2 L0 (dataT (hidS ++ D))) := by
        have h := hS0.data (by have := hl0.out; omega) (hidS ++ D) (by have := hDh.out; simp [hidS]; omega)
        exact h
      replace ct0 := Lib.hid ct0
      have hcat := hcat.out
      clear hS0 m1 m2 e8 e9 e33 e43
      go_upto_region 6 with (first
        | (go_at_call 13; (with_reducible refine ct0.out.mono ?_); rintro r v0 ⟨L1, zh, rfl, hS1, hG, hM, -, -⟩
           have hl1 := Lib.hid (show L1.length ≤ 3 by have := hG.len; have := hl0.out; omega)
           have hK1 := Lib.hid ((hK0.out.ext (.of_grow hG)).add hM)
           have ct1 : Calls Tryd.prog 16 #[.pointer (some ⟨g, 0, none⟩), .string ⟨#[112, 50, 53, 54]⟩] v0 (SR W1 g v0 L1 (baseT [112, 50, 53, 54])) := by
             have h := hS1.base (by have := hl1.out; omega) [112, 50, 53, 54] (by decide)
             exact h
           replace ct1 := Lib.hid ct1
           clear hS1 hG hM ct0 hl0 hK0))
      go_upto_region 7 with (first
        | (go_at_call 16; (with_reducible refine ct1.out.mono ?_); rintro r v1 ⟨L2, zb, rfl, hS2, hG, hM, -, -⟩
           have hl2 := Lib.hid (show L2.length ≤ 4 by have := hG.len; have := hl1.out; omega)
           have hK2 := Lib.hid ((hK1.out.ext (.of_grow hG)).add hM)
           have ct2 : Calls Tryd.prog 17 #[.pointer (some ⟨g, 0, none⟩), .int .i64 zb, .int .i64 x2] v1 (SR W1 g v1 L2 (expT (baseT [112, 50, 53, 54]) Xo)) := by
             have h := hS2.exp (by have := hl2.out; omega) zb x2
             rw [(hK2.out (zb, baseT [112, 50, 53, 54]) (by simp)).1, (hK2.out (x2, Xo) (by simp)).1] at h
             exact h
           replace ct2 := Lib.hid ct2
           clear hS2 hG hM ct1 hl1 hK1)
        | (go_at_call 17; (with_reducible refine ct2.out.mono ?_); rintro r v2 ⟨L3, zs, rfl, hS3, hG, hM, -, -⟩
           have hl3 := Lib.hid (show L3.length ≤ 5 by have := hG.len; have := hl2.out; omega)
           have hK3 := Lib.hid ((hK2.out.ext (.of_grow hG)).add hM)
           have ct3 : Calls Tryd.prog 37 #[.pointer (some ⟨g, 0, none⟩), .int .i64 x1] v2 (SR W1 g v2 L3 (pubT Ky)) := by
             have h := hS3.pub (by have := hl3.out; omega) x1
             rw [(hK3.out (x1, Ky) (by simp)).1] at h
             exact h
           replace ct3 := Lib.hid ct3
           clear hS3 hG hM ct2 hl2 hK2))
      go_upto_region 8 with (first
        | (go_at_call 37; (with_reducible refine ct3.out.mono ?_); rintro r v3 ⟨L4, zp, rfl, hS4, hG, hM, -, -⟩
           have hl4 := Lib.hid (show L4.length ≤ 6 by have := hG.len; have := hl3.out; omega)
           have hK4 := Lib.hid ((hK3.out.ext (.of_grow hG)).add hM)
           have ct4 : Calls Tryd.prog 13 #[.pointer (some ⟨g, 0, none⟩), .string (bs D)] v3 (SR W1 g v3 L4 (dataT D)) := by
             have h := hS4.data (by have := hl4.out; omega) D (by have := hDh.out; omega)
             exact h
           replace ct4 := Lib.hid ct4
           clear hS4 hG hM ct3 hl3 hK3)
        | (go_at_call 13; (with_reducible refine ct4.out.mono ?_); rintro r v4 ⟨L5, zd, rfl, hS5, hG, hM, -, -⟩
           have hl5 := Lib.hid (show L5.length ≤ 7 by have := hG.len; have := hl4.out; omega)
           have hK5 := Lib.hid ((hK4.out.ext (.of_grow hG)).add hM)
           have ct5 : Calls Tryd.prog 38 #[.pointer (some ⟨g, 0, none⟩), .string ⟨#[115, 115, 104, 45, 97]⟩, .int .i64 x1, .int .i64 zd] v4 (SR W1 g v4 L5 (signT [115, 115, 104, 45, 97] Ky (dataT D))) := by
             have h := hS5.sign2 (by have := hl5.out; omega) [115, 115, 104, 45, 97] (by decide) x1 zd
             rw [(hK5.out (x1, Ky) (by simp)).1, (hK5.out (zd, dataT D) (by simp)).1] at h
             exact h
           replace ct5 := Lib.hid ct5
           clear hS5 hG hM ct4 hl4 hK4)
        | (go_at_call 38; (with_reducible refine ct5.out.mono ?_); rintro r v5 ⟨L6, zg, rfl, hS6, hG, hM, -, -⟩
           have hl6 := Lib.hid (show L6.length ≤ 8 by have := hG.len; have := hl5.out; omega)
           have hK6 := Lib.hid ((hK5.out.ext (.of_grow hG)).add hM)
           have ct6 : Calls Tryd.prog 27 #[.pointer (some ⟨g, 0, none⟩), .int .i64 x2] v5 (SR W1 g v5 L6 (hashT Xo)) := by
             have h := hS6.hash (by have := hl6.out; omega) x2
             rw [(hK6.out (x2, Xo) (by simp)).1] at h
             exact h
           replace ct6 := Lib.hid ct6
           clear hS6 hG hM ct5 hl5 hK5)
        | (go_at_call 27; (with_reducible refine ct6.out.mono ?_); rintro r v6 ⟨L7, z1, rfl, hS7, hG, hM, -, -⟩
           have hl7 := Lib.hid (show L7.length ≤ 9 by have := hG.len; have := hl6.out; omega)
           have hK7 := Lib.hid ((hK6.out.ext (.of_grow hG)).add hM)
           have ct7 : Calls Tryd.prog 27 #[.pointer (some ⟨g, 0, none⟩), .int .i64 x1] v6 (SR W1 g v6 L7 (hashT Ky)) := by
             have h := hS7.hash (by have := hl7.out; omega) x1
             rw [(hK7.out (x1, Ky) (by simp)).1] at h
             exact h
           replace ct7 := Lib.hid ct7
           clear hS7 hG hM ct6 hl6 hK6)
        | (go_at_call 27; (with_reducible refine ct7.out.mono ?_); rintro r v7 ⟨L8, z2, rfl, hS8, hG, hM, -, -⟩
           have hl8 := Lib.hid (show L8.length ≤ 10 by have := hG.len; have := hl7.out; omega)
           have hK8 := Lib.hid ((hK7.out.ext (.of_grow hG)).add hM)
           have ct8 : Calls Tryd.prog 39 #[.pointer (some ⟨g, 0, none⟩), .int .i64 x2, .int .u32 0, .int .i64 zh] v7 (SR W1 g v7 L8 (sealT Xo 0 (dataT (hidS ++ D)))) := by
             have h := hS8.seal2 (by have := hl8.out; omega) 0 (by decide) x2 zh
             rw [(hK8.out (x2, Xo) (by simp)).1, (hK8.out (zh, dataT (hidS ++ D)) (by simp)).1] at h
             exact h
           replace ct8 := Lib.hid ct8
           clear hS8 hG hM ct7 hl7 hK7)
        | (go_at_call 39; (with_reducible refine ct8.out.mono ?_); rintro r v8 ⟨L9, z3, rfl, hS9, hG, hM, -, -⟩
           have hl9 := Lib.hid (show L9.length ≤ 11 by have := hG.len; have := hl8.out; omega)
           have hK9 := Lib.hid ((hK8.out.ext (.of_grow hG)).add hM)
           have ct9 : Calls Tryd.prog 15 #[.pointer (some ⟨g, 0, none⟩), .slice (some ⟨v8.heap.size, 0, none⟩) 2 2] (v8.alloc (.cells #[.int .i64 zh, .int .i64 x2] 26)) (SR W1 g (v8.alloc (.cells #[.int .i64 zh, .int .i64 x2] 26)) L9 (listT [dataT (hidS ++ D), Xo])) := by
             have hI : Ints (v8.alloc (.cells #[.int .i64 zh, .int .i64 x2] 26)) (some ⟨v8.heap.size, 0, none⟩) 2 [zh, x2] := Rws.block (k := 1) (zs := [[.int .i64 zh], [.int .i64 x2]]) (by simp) (heap_new v8 _) (by simp)
             have h := (hS9.keep (below_new v8 (.cells #[.int .i64 zh, .int .i64 x2] 26))).list (by have := hl9.out; omega) [zh, x2] _ 2 2 (by decide) hI
             rw [List.map_cons, List.map_cons, List.map_nil, (hK9.out (zh, dataT (hidS ++ D)) (by simp)).1, (hK9.out (x2, Xo) (by simp)).1] at h
             exact h
           replace ct9 := Lib.hid ct9
           clear hS9 hG hM ct8 hl8 hK8)
        | (go_at_call 15; (with_reducible refine ct9.out.mono ?_); rintro r v9 ⟨L10, z4, rfl, hS10, hG, hM, -, -⟩
           have hl10 := Lib.hid (show L10.length ≤ 12 by have := hG.len; have := hl9.out; omega)
           have hK10 := Lib.hid ((hK9.out.ext (.of_grow hG)).add hM)
           have ct10 : Calls Tryd.prog 39 #[.pointer (some ⟨g, 0, none⟩), .int .i64 x1, .int .u32 1, .int .i64 z4] v9 (SR W1 g v9 L10 (sealT Ky 1 (listT [dataT (hidS ++ D), Xo]))) := by
             have h := hS10.seal2 (by have := hl10.out; omega) 1 (by decide) x1 z4
             rw [(hK10.out (x1, Ky) (by simp)).1, (hK10.out (z4, listT [dataT (hidS ++ D), Xo]) (by simp)).1] at h
             exact h
           replace ct10 := Lib.hid ct10
           clear hS10 hG hM ct9 hl9 hK9)
        | (go_at_call 39; (with_reducible refine ct10.out.mono ?_); rintro r v10 ⟨L11, z5, rfl, hS11, hG, hM, -, -⟩
           have hl11 := Lib.hid (show L11.length ≤ 13 by have := hG.len; have := hl10.out; omega)
           have hK11 := Lib.hid ((hK10.out.ext (.of_grow hG)).add hM)
           have ct11 : Calls Tryd.prog 13 #[.pointer (some ⟨g, 0, none⟩), .string (bs D)] v10 (SR W1 g v10 L11 (dataT D)) := by
             have h := hS11.data (by have := hl11.out; omega) D (by have := hDh.out; omega)
             exact h
           replace ct11 := Lib.hid ct11
           clear hS11 hG hM ct10 hl10 hK10)
        | (go_at_call 13; (with_reducible refine ct11.out.mono ?_); rintro r v11 ⟨L12, z6, rfl, hS12, hG, hM, -, -⟩
           have hl12 := Lib.hid (show L12.length ≤ 14 by have := hG.len; have := hl11.out; omega)
           have hK12 := Lib.hid ((hK11.out.ext (.of_grow hG)).add hM)
           have ct12 : Calls Tryd.prog 40 #[.pointer (some ⟨g, 0, none⟩), .int .u8 65, .int .i64 x2, .int .i64 x1, .int .i64 x2] v11 (SR W1 g v11 L12 (deriveT 65 Xo Ky Xo)) := by
             have h := hS12.derive2 (by have := hl12.out; omega) 65 (by decide) x2 x1 x2
             rw [(hK12.out (x2, Xo) (by simp)).1, (hK12.out (x1, Ky) (by simp)).1] at h
             exact h
           replace ct12 := Lib.hid ct12
           clear hS12 hG hM ct11 hl11 hK11)
        | (go_at_call 40; (with_reducible refine ct12.out.mono ?_); rintro r v12 ⟨L13, z7, rfl, hS13, hG, hM, -, -⟩
           have hl13 := Lib.hid (show L13.length ≤ 15 by have := hG.len; have := hl12.out; omega)
           have hK13 := Lib.hid ((hK12.out.ext (.of_grow hG)).add hM)
           have hSn := Lib.hid (hS13.keep (below_new v12 (.cells #[.int .i64 zp, .int .i64 zs, .int .i64 zg, .int .i64 z1, .int .i64 z2, .int .i64 z3, .int .i64 z5, .int .i64 z6, .int .i64 z7] 26)))
           have hqn := Lib.hid (heap_new v12 (.cells #[.int .i64 zp, .int .i64 zs, .int .i64 zg, .int .i64 z1, .int .i64 z2, .int .i64 z3, .int .i64 z5, .int .i64 z6, .int .i64 z7] 26))
           clear hS13 hG hM ct12 hl12 hK12))
      have hNz : NmL L13 [zp, zs, zg, z1, z2, z3, z5, z6, z7] (keepL D Ky Xo) := ((((((((((NmL.nil_ L13).snoc (hK13.out (zp, pubT Ky) (by simp))).snoc (hK13.out (zs, expT (baseT [112, 50, 53, 54]) Xo) (by simp))).snoc (hK13.out (zg, signT [115, 115, 104, 45, 97] Ky (dataT D)) (by simp))).snoc (hK13.out (z1, hashT Xo) (by simp))).snoc (hK13.out (z2, hashT Ky) (by simp))).snoc (hK13.out (z3, sealT Xo 0 (dataT (hidS ++ D))) (by simp))).snoc (hK13.out (z5, sealT Ky 1 (listT [dataT (hidS ++ D), Xo])) (by simp))).snoc (hK13.out (z6, dataT D) (by simp))).snoc (hK13.out (z7, deriveT 65 Xo Ky Xo) (by simp)))
      obtain ⟨zs0, hzs⟩ : ∃ zq : List Int, zq = [zp, zs, zg, z1, z2, z3, z5, z6, z7] := ⟨_, rfl⟩
      have hcells : (#[.int .i64 zp, .int .i64 zs, .int .i64 zg, .int .i64 z1, .int .i64 z2, .int .i64 z3, .int .i64 z5, .int .i64 z6, .int .i64 z7] : Array Value) = (zs0.map (Value.int .i64)).toArray := by rw [hzs]; rfl
      have hzl : zs0.length = 9 := by rw [hzs]; rfl
      rw [← hzs] at hNz
      rw [hcells] at hSn hqn
      rw [hcells]
      have hkh := Lib.hid (And.intro (hK13.out (x1, Ky) (by simp)) (hK13.out (zh, dataT (hidS ++ D)) (by simp)))
      have hLn := hl13
      clear hl13 hK13 hzs hcells
      generalize (v12.alloc (.cells (zs0.map (Value.int .i64)).toArray 26)) = V3 at *
      generalize v12.heap.size = q at *
      generalize L13 = Ln at *
      have hIz : Hid (IdsT V3 (some ⟨q, 0, none⟩) 9 zs0) := by
        have hc := hqn.out
        refine ⟨?_, fun _ => ⟨q, 0, _, _, rfl, hc⟩⟩
        have := Rws.block (k := 1) (zs := zs0.map iv) (t := 26) (fr := (0, 0)) (g := q) (w := V3) (fun z hz => by obtain ⟨x, _, rfl⟩ := List.mem_map.1 hz; rfl) (by rw [flat_iv]; exact hc) (Array.getElem?_eq_some_iff.1 hc).1
        rw [List.length_map, hzl] at this
        exact this
      replace hNz := Lib.hid hNz
      clear hzl hqn
      go_wp2_with fail
      have h0 : Hid (∀ x ∈ ms.take 0, ¬ (x.k = 0 ∧ x.s = hidS ++ D)) := by intro x hx; simp at hx
      go_loopw [13] (fun iv wr => ∃ j : Nat, j ≤ n ∧ iv = .int .i64 j ∧ Hid (∀ x ∈ ms.take j, ¬ (x.k = 0 ∧ x.s = hidS ++ D)) ∧ wr = V3) (fun iv _ => n - (intOf iv).toNat)
      case atStart => exact ⟨0, by omega, rfl, h0, rfl⟩
      case round =>
        clear h0
        obtain ⟨j, hj, rfl, hpj, rfl⟩ := hrel
        by_cases hlt : j < n
        · have Hw := Rws.keep Hh.out hSn.out.below
          obtain ⟨b, off, z, rfl, hb, hz, _, hr⟩ := Hw.row hlt
          rw [List.getElem?_map] at hz
          obtain ⟨x, hx⟩ : ∃ x, ms[j]? = some x := ⟨ms[j]'(by have := hmlh.out; omega), List.getElem?_eq_getElem (by have := hmlh.out; omega)⟩
          rw [hx] at hz
          have hz : x.row = z := Option.some.inj hz
          subst hz
          have hc0 : wr.cell? ⟨b, off + j * 5, none⟩ = some (.int .i64 x.k) := hr 0 _ rfl
          have hc4 := hr 4 _ rfl
          have htk := take_succ_of hx
          obtain ⟨eb, heb, hebi⟩ : ∃ eb : Bool, ((bs x.s).toList == (bs (hidS ++ D)).toList) = eb ∧ (eb = true ↔ x.s = hidS ++ D) := by
            refine ⟨decide (x.s = hidS ++ D), ?_, by simp⟩
            rw [bs_toList', bs_toList']
            by_cases e : x.s = hidS ++ D
            · rw [e]; simp
            · rw [decide_eq_false e, beq_eq_false_iff_ne]; exact e
          by_cases hk0 : x.k = 0
          · by_cases hs0 : x.s = hidS ++ D
            · have ek : (x.k == 0) = true := by rw [hk0]; rfl
              obtain rfl : eb = true := hebi.2 hs0
              have hBb := Lib.hid (hp.out.trans (hSn.out.below.mono hp.out.size))
              clear hk0 hs0 hr hx htk hebi Hw
              generalize bs x.s = y at *
              generalize x.k = xk at *
              generalize bs (hidS ++ D) = yh at *
              go_wp2_with (go_at_call 36; refine (cA.out _).mono ?_; rintro r w9 ⟨rfl, hb9⟩)
              go_ret
              exact ⟨rfl, hBb.out.trans (hb9.mono hBb.out.size)⟩
            · have ek : (x.k == 0) = true := by rw [hk0]; rfl
              obtain rfl : eb = false := by cases eb with | false => rfl | true => exact absurd (hebi.1 rfl) hs0
              have hnext : Hid (∀ z ∈ ms.take (j + 1), ¬ (z.k = 0 ∧ z.s = hidS ++ D)) := by
                intro z hz
                rw [htk] at hz
                rcases List.mem_append.1 hz with hz | hz
                · exact hpj.out z hz
                · obtain rfl := List.mem_singleton.1 hz; exact fun e => hs0 e.2
              clear hk0 hs0 hr hx htk hebi Hw hpj
              generalize bs x.s = y at *
              generalize x.k = xk at *
              generalize bs (hidS ++ D) = yh at *
              go_wp2_with fail
              go_roundw
              case rel => exact ⟨j + 1, by omega, by go_num, hnext, (by first | rfl | trivial)⟩
              case measure => simp [intOf]; omega
          · have ek : (x.k == 0) = false := by rw [beq_eq_false_iff_ne]; exact hk0
            have hnext : Hid (∀ z ∈ ms.take (j + 1), ¬ (z.k = 0 ∧ z.s = hidS ++ D)) := by
              intro z hz
              rw [htk] at hz
              rcases List.mem_append.1 hz with hz | hz
              · exact hpj.out z hz
              · obtain rfl := List.mem_singleton.1 hz; exact fun e => hk0 e.1
            clear hk0 hr hx htk hebi heb Hw hpj hc4
            generalize x.k = xk at *
            go_wp2_with fail
            go_roundw
            case rel => exact ⟨j + 1, by omega, by go_num, hnext, (by first | rfl | trivial)⟩
            case measure => simp [intOf]; omega
        · have hjn : j = n := by omega
          subst hjn
          have hms : ∀ x ∈ ms, ¬ (x.k = 0 ∧ x.s = hidS ++ D) := by
            have := hpj.out
            rwa [List.take_of_length_le (by have := hmlh.out; omega)] at this
          have cAll : Calls Tryd.prog 41 #[.pointer (some ⟨g, 0, none⟩), .slice (some ⟨q, 0, none⟩) 9 9, .slice (some ⟨q, 0, none⟩) 9 9, .slice A j c] wr (KeepR W1 g D (keepL D Ky Xo) ms j Ln) := by
            by_cases hn64 : j ≤ 64
            · refine (all_any (c := c) (kc := 9) (sc := 9) ms hSn.out (by have := hLn.out; omega) hn64 h200.out (fun W hb _ => Rws.keep Hh.out hb) hIz.out hIz.out (by decide) (by decide) hNz.out hNz.out).mono ?_
              rintro r W' ⟨vM, l, L', rfl, hS', hE, hl, hO, hN, hY, hz⟩
              obtain ⟨A', c', rfl, hI⟩ := hO.ints
              have hll : l.length = j := by rw [hN.len, recT_len]; simpa using hmlh.out
              refine ⟨A', l.length, c', l, L', _, rfl, hS', hE, by omega, hI, hN, fun i o hio base hb => ?_⟩
              have hKy' := hKy.out
              have hXo' := hXo.out
              subst hKy' hXo'
              have hab' := hab.out
              exact keep_at (K := ka) (P := 1 + (kb : Int)) (Q := c0) (by unfold numOk; omega) (by omega) (by unfold numOk; omega) (by unfold numOk; omega) hms (by have := (List.getElem?_eq_some_iff.1 hio).1; rw [recT_len] at this; simpa using this) hio base hb
            · refine (all_long wr (by omega) hn64).mono ?_
              rintro r W' ⟨rfl, rfl⟩
              exact ⟨none, 0, 0, [], Ln, [], rfl, hSn.out, ⟨[], by simp⟩, by omega, Rws.nil_, NmL.nil_ Ln, fun i o hio => by simp at hio⟩
          replace cAll := Lib.hid cAll
          clear hms hpj hlt hj
          go_upto_region 14 with (go_at_call 41; (with_reducible refine cAll.out.mono ?_); rintro r V5 ⟨A5, m, c5, l5, L5, os, rfl, hS5, hE5, hm5, hI5, hN5, hG5⟩)
          have hkk : Nm L5 x1 Ky ∧ Nm L5 zh (dataT (hidS ++ D)) := by
            obtain ⟨e, rfl⟩ := hE5
            exact ⟨hkh.out.1.app, hkh.out.2.app⟩
          replace hkk := Lib.hid hkk
          replace hS5 := Lib.hid hS5
          replace hI5 := Lib.hid hI5
          replace hN5 := Lib.hid hN5
          replace hG5 := Lib.hid hG5
          have hB5 := Lib.hid (Below.refl V5.heap.size V5)
          clear hE5 cAll hkh hIz hNz hSn hLn hcat
          go_wp2_with fail
          go_loopw [15] (fun iv wr => ∃ i : Nat, i ≤ m ∧ iv = .int .i64 i ∧ Hid (Below V5.heap.size V5 wr)) (fun iv _ => m - (intOf iv).toNat)
          case atStart => exact ⟨0, by omega, rfl, hB5⟩
          case round =>
            clear hB5
            obtain ⟨i, hi, rfl, hBr⟩ := hrel
            by_cases hlt : i < m
            · have hIw := Ints.keep hI5.out hBr.out
              obtain ⟨b5, off5, x, rfl, hb5, hx, hcx⟩ := hIw.at_ hlt
              have hS' := hS5.out.keep hBr.out
              have hol : os.length = m := by rw [← hN5.out.len]; exact Ints.len hI5.out
              obtain ⟨o, ho⟩ : ∃ o, os[i]? = some o := ⟨os[i]'(by omega), List.getElem?_eq_getElem _⟩
              have nm := hN5.out.nm i x o hx ho
              have hBn := Lib.hid (fun W' (h : Below wr.heap.size wr W') => hBr.out.trans (h.mono hBr.out.size))
              have hG := hG5.out i o ho
              cases o with
              | none =>
                have cV := Lib.hid (hS'.view_none x nm.1)
                clear hS' hx ho nm hIw hol hG
                go_upto_region 18 with (first
                  | (go_at_call 28; refine cV.out.mono ?_; rintro r w6 ⟨rfl, hb6⟩
                     obtain ⟨z6, b7, r7⟩ := nd_box2 w6 0 0 0 [] none 0 0
                     have hz6 := Lib.hid z6
                     have hb7 := Lib.hid (hBn.out _ (hb6.trans (b7.mono hb6.size)))
                     clear hb6 z6 b7 r7)
                  | (refine wpList_store_at 59 _ _ rfl rfl w6.heap.size zNd.toArray rfl rfl 59 zNd.toArray hz6.out (by kernel_rfl) rfl zNd_one ?_))
                have hb7 : Below V5.heap.size V5 ((w6.alloc (.cells #[.int .i64 0, .int .i64 0, .int .i64 0, .string ⟨#[]⟩, .slice none 0 0] 59)).setRow w6.heap.size zNd.toArray) := hb7.out
                generalize ((w6.alloc (.cells #[.int .i64 0, .int .i64 0, .int .i64 0, .string ⟨#[]⟩, .slice none 0 0] 59)).setRow w6.heap.size zNd.toArray) = W7 at hb7 ⊢
                replace hb7 := Lib.hid hb7
                clear hz6
                go_wp2_with fail
                go_roundw
                case rel => exact ⟨i + 1, by omega, by go_num, hb7⟩
                case measure => simp [intOf]; omega
              | some t =>
                obtain ⟨kd, ad, bd, s, args⟩ := t
                have cV := hS'.view_some x _ nm.1
                simp only [Tm.kind, Tm.a, Tm.b, Tm.s, Tm.args] at cV
                replace cV := Lib.hid cV
                have f1 := gd_fine (hG true (fun e => by cases e) _ rfl)
                have f2 : basedB (ms.take (i + 1)) = false → kd = 5 → args ≠ [] := fun hb h5 => (gd_fine (hG false (fun _ => hb) _ rfl)).2.2.2 h5 rfl
                have k3 : ((kd : Int) == 3) = false := by rw [beq_eq_false_iff_ne]; intro e; exact f1.1 (by show kd = 3; omega)
                have xh : (x == zh) = false := by
                  rw [beq_eq_false_iff_ne]
                  intro e
                  have h1 := (Nm.inj hS'.good.once nm hkk.out.2).1 e
                  obtain ⟨l, hl, h2, _⟩ := mkO_some (show mkO 1 0 0 (hidS ++ D) [] = some _ from h1.symm)
                  have hl : l = [] := map_some_nil hl
                  rw [hl] at h2
                  exact f1.2.2.1 h2
                have k2 : kd = 2 → ad = 0 := f1.2.1
                have Hw := Rws.keep Hh.out hS'.below
                have cB := Lib.hid (fun W (h : Below wr.heap.size wr W) => based_any (ms.take (i + 1)) A (i + 1) c W (by omega) (by have := Rws.take_ (Hw.keep h) (show i + 1 ≤ j by omega); rw [← List.map_take] at this; exact this))
                have f2h := Lib.hid f2
                clear hS' hx ho nm hIw hol hG f1 f2 Hw
                go_upto_region 18 with (first
                  | (go_at_call 28; refine cV.out.mono ?_; rintro r w6 ⟨Av, cv, xs, rfl, _, _, hb6⟩
                     obtain ⟨z6, b7, r7⟩ := nd_box2 w6 kd ad bd s Av args.length cv
                     have hz6 := Lib.hid z6
                     have hr7 := Lib.hid r7
                     have hb7 := Lib.hid (hb6.trans (b7.mono hb6.size))
                     clear hb6 z6 b7 r7)
                  | (refine wpList_store_at 59 _ _ rfl rfl w6.heap.size (ndC kd ad bd s (.slice Av args.length cv)).toArray rfl rfl 59 zNd.toArray hz6.out (by kernel_rfl) rfl nd_all ?_))
                replace hr7 := hr7.out
                have hb7 : Below wr.heap.size wr ((w6.alloc (.cells #[.int .i64 0, .int .i64 0, .int .i64 0, .string ⟨#[]⟩, .slice none 0 0] 59)).setRow w6.heap.size (ndC kd ad bd s (.slice Av args.length cv)).toArray) := hb7.out
                generalize ((w6.alloc (.cells #[.int .i64 0, .int .i64 0, .int .i64 0, .string ⟨#[]⟩, .slice none 0 0] 59)).setRow w6.heap.size (ndC kd ad bd s (.slice Av args.length cv)).toArray) = W7 at *
                generalize w6.heap.size = p7 at *
                have d0 : W7.cell? ⟨p7, 0, none⟩ = some (.int .i64 kd) := cell_of_row W7 p7 0 _ _ _ hr7
                have d1 : W7.cell? ⟨p7, 1, none⟩ = some (.int .i64 ad) := cell_of_row W7 p7 1 _ _ _ hr7
                have d3 : W7.cell? ⟨p7, 3, none⟩ = some (.string (bs s)) := cell_of_row W7 p7 3 _ _ _ hr7
                have d4 : W7.cell? ⟨p7, 4, none⟩ = some (.slice Av args.length cv) := cell_of_row W7 p7 4 _ _ _ hr7
                have hcx7 := (hb7.cell (p := ⟨b5, off5 + i, none⟩) hb5).trans hcx
                replace cB := Lib.hid (cB.out W7 hb7)
                replace hb7 := Lib.hid (hBn.out _ hb7)
                clear hr7 hz6 cV hcx hBn
                obtain ⟨eb, heb⟩ : ∃ eb : Bool, ((bs s).toList == [112, 50, 53, 54]) = eb := ⟨_, rfl⟩
                generalize bs s = ys at *
                by_cases h2 : kd = 2
                · obtain rfl := k2 h2
                  subst h2
                  replace d0 : W7.cell? ⟨p7, 0, none⟩ = some (.int .i64 2) := d0
                  replace d1 : W7.cell? ⟨p7, 1, none⟩ = some (.int .i64 0) := d1
                  clear k3 k2 heb d3 d4 f2h
                  go_wp2_with (go_at_call 42; refine cB.out.mono ?_; rintro r w8 ⟨rfl, rfl⟩)
                  go_roundw
                  case rel => exact ⟨i + 1, by omega, by go_num, hb7⟩
                  case measure => simp [intOf]; omega
                · have k2b : ((kd : Int) == 2) = false := by rw [beq_eq_false_iff_ne]; omega
                  clear d1 k2
                  by_cases h5 : kd = 5
                  · subst h5
                    replace d0 : W7.cell? ⟨p7, 0, none⟩ = some (.int .i64 5) := d0
                    clear k3 k2b
                    cases eb with
                    | false =>
                      clear d4 f2h h2
                      go_wp2_with (go_at_call 42; refine cB.out.mono ?_; rintro r w8 ⟨rfl, rfl⟩)
                      go_roundw
                      case rel => exact ⟨i + 1, by omega, by go_num, hb7⟩
                      case measure => simp [intOf]; omega
                    | true =>
                      by_cases hl0 : args.length = 0
                      · have hbt : basedB (ms.take (i + 1)) = true := by
                          cases hb : basedB (ms.take (i + 1)) with
                          | true => rfl
                          | false => exact absurd (List.length_eq_zero_iff.1 hl0) (f2h.out hb rfl)
                        rw [hbt] at cB
                        rw [hl0] at d4
                        clear h2 hl0 hbt f2h
                        go_wp2_with (go_at_call 42; refine cB.out.mono ?_; rintro r w8 ⟨rfl, rfl⟩)
                        go_roundw
                        case rel => exact ⟨i + 1, by omega, by go_num, hb7⟩
                        case measure => simp [intOf]; omega
                      · have hl1 : ((args.length : Int) == 0) = false := by rw [beq_eq_false_iff_ne]; omega
                        generalize args.length = la at *
                        clear h2 f2h hl0
                        go_wp2_with (go_at_call 42; refine cB.out.mono ?_; rintro r w8 ⟨rfl, rfl⟩)
                        go_roundw
                        case rel => exact ⟨i + 1, by omega, by go_num, hb7⟩
                        case measure => simp [intOf]; omega
                  · have k5 : ((kd : Int) == 5) = false := by rw [beq_eq_false_iff_ne]; omega
                    clear d3 d4 heb f2h h2 h5
                    go_wp2_with (go_at_call 42; refine cB.out.mono ?_; rintro r w8 ⟨rfl, rfl⟩)
                    go_roundw
                    case rel => exact ⟨i + 1, by omega, by go_num, hb7⟩
                    case measure => simp [intOf]; omega
            · have him : i = m := by omega
              subst him
              clear hlt
              have hS' := hS5.out.keep hBr.out
              have hky : Ky = some (.mk 3 ka 0 [] []) := by
                have h1 := hab.out
                rw [← hKy.out]
                unfold keyT mkO
                rw [if_pos (by unfold numOk; omega)]
                simp [alls, own, lens]
              have hko : okO Ky := by rw [← hKy.out]; exact keyT_ok _
              have cE := Lib.hid (fun W (h : Below wr.heap.size wr W) => (show Calls Tryd.prog 44 #[.pointer (some ⟨g, 0, none⟩), .int .i64 x1] W (fun r w' => r = .returned (.string (bs (encO Ky))) ∧ Below W.heap.size W w') from by have h1 := (hS'.keep h).encode x1; rw [hkk.out.1.1] at h1; exact h1))
              have cK := Lib.hid (fun W => (show Calls Tryd.prog 43 #[.string (bs (encO Ky))] W (fun r w' => r = .returned (.int .i64 3) ∧ W = w') from by
                have h1 := rKind_any Ky hko (by rw [hky]; show (Tm.enc _).length ≤ _; rw [key_enc (hko _ hky) rfl]; decide) W
                rw [show kindO Ky = 3 by rw [hky]; rfl] at h1
                exact h1))
              have hBz := Lib.hid (fun W' (h : Below wr.heap.size wr W') => hp.out.trans ((hS'.below.trans (h.mono hS'.below.size)).mono hp.out.size))
              clear hS' hky hko
              generalize bs (encO Ky) = yk at *
              go_wp2_with (first
                | (go_at_call 36; refine (cA.out _).mono ?_; rintro r w9 ⟨rfl, hb9⟩
                   have cE9 := Lib.hid (cE.out w9 hb9)
                   have hB9 := Lib.hid (hBz.out w9 hb9)
                   clear hb9)
                | (go_at_call 44; refine cE9.out.mono ?_; rintro r w10 ⟨rfl, hb10⟩
                   have hB10 := Lib.hid (hB9.out.trans (hb10.mono hB9.out.size))
                   clear hb10)
                | (go_at_call 43; refine (cK.out _).mono ?_; rintro r w11 ⟨rfl, rfl⟩))
              go_ret
              exact ⟨rfl, hB10.out⟩
end Go.Proofs.YtbeanjaenmpoeaaDoor
