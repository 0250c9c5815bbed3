/- KeysApart: the walk of the law. (printed by wip/gen_kyc.py) -/
import Derived.Test.YtbeanjaenmpoeaaDoorZb17
import Derived.Test.YtbeanjaenmpoeaaDoorZb0
namespace Go.Proofs.YtbeanjaenmpoeaaDoor
open Go.RowKit Go.Maps

/-- Three numbers, of which the first are set. -/
def tri0 (l : List Int) : List Value := l.map (Value.int .i64) ++ List.replicate (3 - l.length) (.int .i64 0)
theorem tri0_len {l : List Int} (h : l.length ≤ 3) : (tri0 l).length = 3 := by simp [tri0]; omega
theorem tri0_set {l : List Int} (x : Int) {i : Nat} (hi : i = l.length) (h : i < 3) : (tri0 l).toArray.setIfInBounds i (.int .i64 x) = (tri0 (l ++ [x])).toArray := by
  subst hi
  unfold tri0
  rw [List.setIfInBounds_toArray]
  congr 1
  obtain ⟨m, hm⟩ : ∃ m, 3 - l.length = m + 1 := ⟨3 - l.length - 1, by omega⟩
  have h2 : 3 - (l ++ [x]).length = m := by simp; omega
  rw [hm, h2, List.replicate_succ, List.map_append, List.map_cons, List.map_nil]
  have : (l.map (Value.int .i64)).length = l.length := by simp
  rw [List.set_append_right _ _ (by omega), this, Nat.sub_self, List.set_cons_zero, List.append_assoc]
  rfl
theorem tri0_at {l : List Int} {i : Nat} (hi : i = l.length) (h : i < 3) : (tri0 l).toArray[i]? = some (.int .i64 0) := by
  subst hi
  unfold tri0
  rw [List.getElem?_toArray, List.getElem?_append_right (by simp), List.length_map, Nat.sub_self, List.getElem?_replicate, if_pos (by omega)]
theorem tri0_get {l : List Int} {i : Nat} {x : Int} (h : l[i]? = some x) : (tri0 l).toArray[i]? = some (.int .i64 x) := by
  unfold tri0
  have hl := (List.getElem?_eq_some_iff.1 h).1
  rw [List.getElem?_toArray, List.getElem?_append_left (by simpa using hl), List.getElem?_map, h]; rfl
theorem tri_zero : (Tryd.prog.info? 67).bind (·.zero) = some (.agg (tri0 []).toArray) := by kernel_rfl
/-- The numbers that are picked. -/
def pks (l : List Int) (X : List Int) (i : Nat) : List Int := (X.take i).map (pkI l)
theorem pks_len {l X : List Int} (hX : X.length = 3) {i : Nat} (h : i ≤ 3) : (pks l X i).length = i := by unfold pks; rw [List.length_map, List.length_take]; omega
theorem pks_succ {l X : List Int} {i : Nat} {x : Int} (h : X[i]? = some x) : pks l X (i + 1) = pks l X i ++ [pkI l x] := by unfold pks; rw [take_succ_of h, List.map_append]; rfl
/-- A term that may be asked. -/
def fit (o : Option Tm) : Prop := ∃ t, o = some t ∧ t.len ≤ 10000
theorem fit_iff {o : Option Tm} : fit o ↔ o ≠ none ∧ sizeO o ≤ 10000 := by
  cases o with
  | none => simp [fit]
  | some t => simp [fit, sizeO]
theorem derive_fit {b : Nat} {x y z : Option Tm} (hx : fit x) (hy : fit y) (hz : fit z) : deriveT b x y z ≠ none := by
  obtain ⟨t, rfl, ht⟩ := hx
  obtain ⟨u, rfl, hu⟩ := hy
  obtain ⟨v, rfl, hv⟩ := hz
  unfold deriveT mkO
  rw [show [some t, some u, some v] = [t, u, v].map some from rfl, alls_map]
  dsimp only
  rw [if_pos (by simp [own, lens]; omega)]
  simp
theorem derive_inj {b b' : Nat} {x y z x' y' z' : Option Tm} (hx : fit x) (hy : fit y) (hz : fit z) (hx' : fit x') (hy' : fit y') (hz' : fit z') : deriveT b x y z = deriveT b' x' y' z' ↔ b = b' ∧ x = x' ∧ y = y' ∧ z = z' := by
  refine ⟨fun h => ?_, fun ⟨h1, h2, h3, h4⟩ => by rw [h1, h2, h3, h4]⟩
  obtain ⟨t, rfl, ht⟩ := hx
  obtain ⟨u, rfl, hu⟩ := hy
  obtain ⟨v, rfl, hv⟩ := hz
  obtain ⟨t', rfl, ht'⟩ := hx'
  obtain ⟨u', rfl, hu'⟩ := hy'
  obtain ⟨v', rfl, hv'⟩ := hz'
  unfold deriveT mkO at h
  rw [show [some t, some u, some v] = [t, u, v].map some from rfl, alls_map, show [some t', some u', some v'] = [t', u', v'].map some from rfl, alls_map] at h
  dsimp only at h
  rw [if_pos (by simp [own, lens]; omega), if_pos (by simp [own, lens]; omega)] at h
  have := Option.some.inj h
  injection this with _ _ h1 _ h2
  simp only [List.cons.injEq, and_true] at h2
  exact ⟨h1, by rw [h2.1], by rw [h2.2.1], by rw [h2.2.2]⟩
theorem nm_none {L : List Tm} {x : Int} {o : Option Tm} (h : Nm L x o) : (o = none → (x == -1) = true) ∧ (o ≠ none → (x == -1) = false) := by
  refine ⟨fun e => by rw [h.2 e]; rfl, fun e => ?_⟩
  rw [beq_eq_false_iff_ne]
  intro hx
  apply e
  rw [← h.1, hx]
  exact get_neg (by decide)
theorem nm_pick {L : List Tm} {l : List Int} {os : List (Option Tm)} (h : NmL L l os) (i : Int) : Nm L (pkI l i) (pkO os i) := by
  refine ⟨h.pick i, fun e => ?_⟩
  unfold pkI pkO at *
  split
  · rfl
  · rename_i hi
    rw [if_neg hi] at e
    cases hx : l[i.toNat]? with
    | none => rfl
    | some x =>
      have hl := (List.getElem?_eq_some_iff.1 hx).1
      obtain ⟨o, ho⟩ : ∃ o, os[i.toNat]? = some o := ⟨os[i.toNat]'(by rw [← h.len]; exact hl), List.getElem?_eq_getElem _⟩
      rw [ho] at e
      exact (h.nm _ x o hx ho).2 e
theorem tri_flat : flatDesc Tryd.prog 3 67 = some [.int .i64, .int .i64, .int .i64] := by kernel_rfl
theorem tri_noBlank : noBlank Tryd.prog 3 67 = true := by kernel_rfl
theorem tri_keyAt : Tryd.prog.keyTypeAt 3 67 = true := by kernel_rfl
theorem tri_cells : Tryd.prog.cellsOf 67 = 3 := by kernel_rfl
theorem tri_guard : Tryd.prog.eqGuardType Tryd.prog.depth 67 = false := by kernel_rfl
theorem tri_ok (a0 a1 a2 : Int) (ha : ∀ x ∈ [a0, a1, a2], -9223372036854775808 ≤ x ∧ x ≤ 9223372036854775807) : allOk [.int .i64, .int .i64, .int .i64] [.int .i64 a0, .int .i64 a1, .int .i64 a2] := by
  refine ⟨rfl, fun i d v hd hv => ?_⟩
  match i, hd, hv with
  | 0, hd, hv => obtain rfl := Option.some.inj hd; obtain rfl := Option.some.inj hv; exact ⟨a0, rfl, ha a0 (by simp)⟩
  | 1, hd, hv => obtain rfl := Option.some.inj hd; obtain rfl := Option.some.inj hv; exact ⟨a1, rfl, ha a1 (by simp)⟩
  | 2, hd, hv => obtain rfl := Option.some.inj hd; obtain rfl := Option.some.inj hv; exact ⟨a2, rfl, ha a2 (by simp)⟩
/-- '==' at arrays of three numbers. -/
theorem eql_arr (a0 a1 a2 b0 b1 b2 : Int) (ha : ∀ x ∈ [a0, a1, a2], -9223372036854775808 ≤ x ∧ x ≤ 9223372036854775807) (hb : ∀ x ∈ [b0, b1, b2], -9223372036854775808 ≤ x ∧ x ≤ 9223372036854775807) (q : Bool) (hq : q = true ↔ (a0 = b0 ∧ a1 = b1 ∧ a2 = b2)) (w : World) :
    (binOp .eql 67 (.agg #[.int .i64 a0, .int .i64 a1, .int .i64 a2]) (.agg #[.int .i64 b0, .int .i64 b1, .int .i64 b2])).run Tryd.prog w = .ok (.bool q) w := by
  have hx : allOk [.int .i64, .int .i64, .int .i64] [.int .i64 a0, .int .i64 a1, .int .i64 a2] := tri_ok _ _ _ ha
  have hy : allOk [.int .i64, .int .i64, .int .i64] [.int .i64 b0, .int .i64 b1, .int .i64 b2] := tri_ok _ _ _ hb
  have fx : (Value.agg [Value.int .i64 a0, .int .i64 a1, .int .i64 a2].toArray).formed Tryd.prog 67 = true := by unfold Value.formed; rw [Tryd.underlying67]; simp [tri_cells]
  have fy : (Value.agg [Value.int .i64 b0, .int .i64 b1, .int .i64 b2].toArray).formed Tryd.prog 67 = true := by unfold Value.formed; rw [Tryd.underlying67]; simp [tri_cells]
  have kx := flat_keyLits 3 _ _ _ 3 tri_flat tri_noBlank hx (Nat.le_refl _)
  have ky := flat_keyLits 3 _ _ _ 3 tri_flat tri_noBlank hy (Nat.le_refl _)
  obtain ⟨r, hr, hiff⟩ := run_equalIn_deep (10000 - 3) 3 _ tri_keyAt w 3 3 _ _ _ _ fx fy (by simpa [Value.cells] using kx) (by simpa [Value.cells] using ky)
  rw [run_eql_struct, show (10000 : Nat) = 10000 - 3 + 3 by omega, hr]
  have : r = q := by
    have e := lits_eq hx hy
    simp only [List.map_cons, List.map_nil] at e
    rw [Bool.eq_iff_iff, hiff, e, hq]
    simp
  rw [this]
  rfl
attribute [local go_sem ↓] ldMd_eq
def dsKy9 : List (Option Nat) := [some 29, some 30, some 31, some 32, some 33, some 34, some 28, some 35, some 36, some 37, none]
def tbKy9 : List (List Nat) := [[], [], [], [2], [3], [1, 4], [5], [6], [6], [0], [7, 9]]
def vsKy9 (p4 : Nat) (p9 : Nat) (i : Nat) (n : Nat) (AI : Option Addr) (AT : Option Addr) (cI : Nat) (cT : Nat) (xi : Int) (pk : Int) (tx : ByteArray) : List (Option Value) := [some (.int .i64 ↑i), some (.agg #[.slice AI n cI, .slice AT n cT]), some (.int .i64 ↑i), some (.pointer (some ⟨p4, i, none⟩)), some (.int .i64 xi), some (.tuple #[.int .i64 pk, .string tx]), some (.tuple #[.int .i64 pk, .string tx]), some (.int .i64 pk), some (.string tx), some (.pointer (some ⟨p9, i, none⟩)), none]
def dsKy10 : List (Option Nat) := [some 39, some 40, some 41, some 42, some 43, some 44, some 38, some 45, some 46, some 47, none]
def tbKy10 : List (List Nat) := [[], [], [], [2], [3], [1, 4], [5], [6], [6], [0], [7, 9]]
def vsKy10 (p5 : Nat) (p10 : Nat) (i : Nat) (n : Nat) (AI : Option Addr) (AT : Option Addr) (cI : Nat) (cT : Nat) (yi : Int) (pk : Int) (tx : ByteArray) : List (Option Value) := [some (.int .i64 ↑i), some (.agg #[.slice AI n cI, .slice AT n cT]), some (.int .i64 ↑i), some (.pointer (some ⟨p5, i, none⟩)), some (.int .i64 yi), some (.tuple #[.int .i64 pk, .string tx]), some (.tuple #[.int .i64 pk, .string tx]), some (.int .i64 pk), some (.string tx), some (.pointer (some ⟨p10, i, none⟩)), none]
def dsKy13 : List (Option Nat) := [some 75, some 76, some 77, some 78, some 79, some 80, some 81, some 82, some 83, some 84, some 85, some 86, some 87, some 88, some 89, some 90, some 12, some 13, none, none]
def tbKy13 : List (List Nat) := [[], [], [1], [], [3], [], [5], [0, 2, 4, 6], [], [], [9], [], [11], [], [13], [7, 8, 10, 12, 14], [], [], [7, 15, 16, 17], [15, 17, 18]]
def vsKy13 (g : Nat) (p9 : Nat) (p10 : Nat) (a0 : Int) (a1 : Int) (a2 : Int) (b0 : Int) (b1 : Int) (b2 : Int) : List (Option Value) := [some (.pointer (some ⟨g, 0, none⟩)), some (.pointer (some ⟨p9, 0, none⟩)), some (.int .i64 a0), some (.pointer (some ⟨p9, 1, none⟩)), some (.int .i64 a1), some (.pointer (some ⟨p9, 2, none⟩)), some (.int .i64 a2), none, some (.pointer (some ⟨g, 0, none⟩)), some (.pointer (some ⟨p10, 0, none⟩)), some (.int .i64 b0), some (.pointer (some ⟨p10, 1, none⟩)), some (.int .i64 b1), some (.pointer (some ⟨p10, 2, none⟩)), some (.int .i64 b2), none, none, none, none, none]
def dsKyt : List (Option Nat) := [some 99, some 100, some 101, some 102, some 103, some 104, some 105, some 106, some 107, some 108, some 109, some 110, some 111, some 112, some 113, some 114, some 115, some 116, some 117, some 118, some 119, some 120]
def tbKyt : List (List Nat) := [[], [0], [1], [2], [3], [4], [4, 5], [4, 6], [4], [4, 8], [4, 9], [4, 7, 10], [4], [4], [4, 12, 13], [4, 14], [15], [15], [15, 16, 17], [4, 15, 18], [4, 11, 19], [4, 20]]
def vsKyt (g12 : Nat) (g13 : Nat) (p9 : Nat) (p10 : Nat) (i : Nat) (k : Nat) (z : Int) (t : Int) (ik : Bool) (a0 : Int) (a1 : Int) (a2 : Int) (b0 : Int) (b1 : Int) (b2 : Int) : List (Option Value) := [some (.int .i64 ↑i), some (.pointer (some ⟨g12, i, none⟩)), some (.int .i64 z), some (.bool false), some (.bool false), some (.int .i64 ↑i), some (.pointer (some ⟨g12, i, none⟩)), some (.int .i64 z), some (.int .i64 ↑k), some (.pointer (some ⟨g13, k, none⟩)), some (.int .i64 t), some (.bool ik), some (.agg #[.int .i64 a0, .int .i64 a1, .int .i64 a2]), some (.agg #[.int .i64 b0, .int .i64 b1, .int .i64 b2]), some (.bool true), some (.bool true), some (.int .i64 ↑i), some (.int .i64 ↑k), some (.bool ik), some (.bool ik), some (.bool false), some (.bool false)]
def dsKyf : List (Option Nat) := [some 99, some 100, some 101, some 102, some 103, some 104, some 105, some 106, some 107, some 108, some 109, some 110, some 111, some 112, some 113, some 114, some 115, some 116, some 117, some 118, some 119, some 120]
def tbKyf : List (List Nat) := [[], [0], [1], [2], [3], [4], [4, 5], [4, 6], [4], [4, 8], [4, 9], [4, 7, 10], [4], [4], [4, 12, 13], [4, 14], [15], [15], [15, 16, 17], [4, 15, 18], [4, 11, 19], [4, 20]]
def vsKyf (g12 : Nat) (g13 : Nat) (p9 : Nat) (p10 : Nat) (i : Nat) (k : Nat) (z : Int) (t : Int) (ik : Bool) (a0 : Int) (a1 : Int) (a2 : Int) (b0 : Int) (b1 : Int) (b2 : Int) : List (Option Value) := [some (.int .i64 ↑i), some (.pointer (some ⟨g12, i, none⟩)), some (.int .i64 z), some (.bool false), some (.bool false), some (.int .i64 ↑i), some (.pointer (some ⟨g12, i, none⟩)), some (.int .i64 z), some (.int .i64 ↑k), some (.pointer (some ⟨g13, k, none⟩)), some (.int .i64 t), some (.bool false), some (.agg #[.int .i64 a0, .int .i64 a1, .int .i64 a2]), some (.agg #[.int .i64 b0, .int .i64 b1, .int .i64 b2]), some (.bool false), some (.bool false), some (undef), some (undef), some (undef), some (.bool false), some (.bool false), some (.bool false)]
set_option maxRecDepth 100000 in
set_option maxHeartbeats 8000000 in
theorem keysApart_any (ms : List Mk) (X Y : List Int) (A : Option Addr) (n c : Nat) (w : World) (hn : n ≤ 9223372036854775807) (H : Rws w 5 A n (ms.map Mk.row)) (hX : X.length = 3) (hY : Y.length = 3) :
    Calls Tryd.prog 9 #[.slice A n c, .agg (X.map (Value.int .i64)).toArray, .agg (Y.map (Value.int .i64)).toArray] w fun r w' => r = .returned (.bool true) ∧ Below w.heap.size w w' := by
  have hb1 := below_new w (.cells (X.map (Value.int .i64)).toArray 66)
  have hb2 := below_new (w.alloc (.cells (X.map (Value.int .i64)).toArray 66)) (.cells (Y.map (Value.int .i64)).toArray 66)
  have hx1 := heap_past (heap_new w (.cells (X.map (Value.int .i64)).toArray 66)) (.cells (Y.map (Value.int .i64)).toArray 66)
  have hy1 := heap_new (w.alloc (.cells (X.map (Value.int .i64)).toArray 66)) (.cells (Y.map (Value.int .i64)).toArray 66)
  rw [World.size_alloc] at hy1
  have hbW := hb1.trans (hb2.mono hb1.size)
  have H1 := H.keep hbW
  have hml : ms.length = n := by have := H.1; simpa using this
  obtain ⟨W1, hW1⟩ : ∃ W1, W1 = ((w.alloc (.cells (X.map (Value.int .i64)).toArray 66)).alloc (.cells (Y.map (Value.int .i64)).toArray 66)) := ⟨_, rfl⟩
  rw [← hW1] at hx1 hy1 hbW H1
  have hp := Lib.hid hbW
  have hx1h := Lib.hid hx1
  have hy1h := Lib.hid hy1
  have hXl := Lib.hid hX
  have hYl := Lib.hid hY
  have cF := few_any ms A n c 20 W1 hn H1
  have cA := Lib.hid (fun W => awake21 W)
  have hW1h := Lib.hid hW1
  clear hb1 hb2 hx1 hy1 hbW H hX hY
  go_enter Tryd.func9, Tryd.ntmps9
  go_upto_region 1 with fail
  have hW1' := hW1h.out
  clear hW1 hW1h
  rw [← hW1']
  clear hW1'
  cases hf : fewB ms 20 with
  | false =>
    rw [hf] at cF
    replace cF := Lib.hid cF
    clear hf H1 hml
    go_wp2_with (first
      | (go_at_call 19; refine cF.out.mono ?_; rintro r w1 ⟨rfl, rfl⟩)
      | (go_at_call 32; refine (cA.out _).mono ?_; rintro r w1 ⟨rfl, hb⟩))
    go_ret
    exact ⟨rfl, hp.out.trans (hb.mono hp.out.size)⟩
  | true =>
    rw [hf] at cF
    obtain ⟨h30, h200⟩ := fewB_iff.1 hf
    have hn20 : n ≤ 20 := by omega
    replace cF := Lib.hid cF
    have cN := Lib.hid (tnew_any W1)
    have Hh := Lib.hid H1
    have h200 := Lib.hid h200
    have hmlh := Lib.hid hml
    clear hf H1 hml h30
    go_upto_region 4 with (first
      | (go_at_call 19; refine cF.out.mono ?_; rintro r w1 ⟨rfl, rfl⟩)
      | (go_at_call 12; refine cN.out.mono ?_; rintro r w1 ⟨A0, rfl, hN, hA, hb⟩
         have hS0 := St.start hN hA hb
         have cM := Lib.hid (makes_any (c := c) ms W1 w1 A0.g (by omega) h200.out Hh.out hS0)
         have hz1 := Lib.hid hb.size
         clear hN hA hb cN hS0 cF
         generalize A0.g = g at *))
    go_upto_region 5 with (first
      | (go_at_call 20; refine cM.out.mono ?_; rintro r w2 hR
         obtain ⟨AI, cI, AT, cT, l, L, rfl, hMd, hL, hnew, hone, hrow⟩ := md_new hmlh.out hz1.out hR
         unfold boxW at hMd
         have hMdh := Lib.hid hMd
         have hnewh := Lib.hid hnew
         have honeh := Lib.hid hone
         have hLn := Lib.hid hL
         clear hR hnew hone hrow cM hMd)
      | (refine wpList_store_at 43 _ _ rfl rfl w2.heap.size #[.slice AI n cI, .slice AT n cT] rfl rfl 43 #[.slice none 0 0, .slice none 0 0] hnewh.out (by kernel_rfl) rfl honeh.out ?_))
    generalize ((w2.alloc (.cells #[.slice none 0 0, .slice none 0 0] 43)).setRow w2.heap.size #[.slice AI n cI, .slice AT n cT]) = W4 at *
    generalize w2.heap.size = q at *
    clear hnewh honeh
    have hB4 := Lib.hid hMdh.out.st.below
    have hb5 := below_new W4 (.cells (tri0 []).toArray 67)
    have hb6 := below_new (W4.alloc (.cells (tri0 []).toArray 67)) (.cells (tri0 []).toArray 67)
    have h9 := heap_past (heap_new W4 (.cells (tri0 []).toArray 67)) (.cells (tri0 []).toArray 67)
    have h10 := heap_new (W4.alloc (.cells (tri0 []).toArray 67)) (.cells (tri0 []).toArray 67)
    rw [World.size_alloc] at h10
    have hb5h := Lib.hid (hb5.trans (hb6.mono hb5.size))
    have h9h := Lib.hid h9
    have h10h := Lib.hid h10
    clear hb5 hb6 h9 h10
    go_upto_region 6 with (refine wpList_alloc_row 67 rfl rfl (tri0 []).toArray tri_zero ?_; try simp only [World.size_alloc])
    generalize ((W4.alloc (.cells (tri0 []).toArray 67)).alloc (.cells (tri0 []).toArray 67)) = W6 at *
    dsimp only [Act.put]
    obtain ⟨p9, hp9⟩ : ∃ p, p = W4.heap.size := ⟨_, rfl⟩
    obtain ⟨p10, hp10⟩ : ∃ p, p = W4.heap.size + 1 := ⟨_, rfl⟩
    have h9h : Hid (W6.heap[p9]? = some (.cells (tri0 []).toArray 67 (0, 0))) := by rw [hp9]; exact h9h.out
    have h10h : Hid (W6.heap[p10]? = some (.cells (tri0 []).toArray 67 (0, 0))) := by rw [hp10]; exact h10h.out
    rw [← hp10, ← hp9]
    have hpp := Lib.hid (And.intro hp9 hp10)
    obtain ⟨p4, hp4⟩ : ∃ p, p = w.heap.size := ⟨_, rfl⟩
    obtain ⟨p5, hp5⟩ : ∃ p, p = w.heap.size + 1 := ⟨_, rfl⟩
    rw [← hp5, ← hp4]
    have hpx := Lib.hid (And.intro hp4 hp5)
    have hXc := Lib.hid (fun (W' : World) (h : Below W4.heap.size W4 W') (i : Nat) (z : Int) (hz : X[i]? = some z) => (show W'.cell? ⟨p4, i, none⟩ = some (.int .i64 z) from by
      have hB := hB4.out.trans (h.mono hB4.out.size)
      have := (hB.block w.heap.size (Array.getElem?_eq_some_iff.1 hx1h.out).1).trans hx1h.out
      rw [hp4]
      exact (cell_of_row W' w.heap.size i _ _ _ this).trans (by rw [List.getElem?_toArray, List.getElem?_map, hz]; rfl)))
    have hYc := Lib.hid (fun (W' : World) (h : Below W4.heap.size W4 W') (i : Nat) (z : Int) (hz : Y[i]? = some z) => (show W'.cell? ⟨p5, i, none⟩ = some (.int .i64 z) from by
      have hB := hB4.out.trans (h.mono hB4.out.size)
      have := (hB.block (w.heap.size + 1) (Array.getElem?_eq_some_iff.1 hy1h.out).1).trans hy1h.out
      rw [hp5]
      exact (cell_of_row W' (w.heap.size + 1) i _ _ _ this).trans (by rw [List.getElem?_toArray, List.getElem?_map, hz]; rfl)))
    clear hp9 hp10 hp4 hp5
    go_wp2_with fail
    have hf0 : Hid (∀ z ∈ X.take 0, fit (pkO (mksO ms []) z)) := by intro z hz; cases hz
    have hg0 : Hid (∀ z ∈ Y.take 0, fit (pkO (mksO ms []) z)) := by intro z hz; cases hz
    go_loopw [11] (fun iv wr => ∃ i : Nat, i ≤ 3 ∧ iv = .int .i64 i ∧ Hid (Below W4.heap.size W4 wr) ∧ Hid (wr.heap[p9]? = some (.cells (tri0 (pks l X i)).toArray 67 (0, 0))) ∧ Hid (wr.heap[p10]? = some (.cells (tri0 (pks l Y i)).toArray 67 (0, 0))) ∧ Hid (∀ z ∈ X.take i, fit (pkO (mksO ms []) z)) ∧ Hid (∀ z ∈ Y.take i, fit (pkO (mksO ms []) z))) (fun iv _ => 3 - (intOf iv).toNat)
    case atStart => exact ⟨0, by omega, rfl, hb5h, h9h, h10h, hf0, hg0⟩
    case round =>
      clear hb5h h9h h10h hf0 hg0
      obtain ⟨i, hi, rfl, hb, h9, h10, hf, hg⟩ := hrel
      by_cases hlt : i < 3
      · have hji : (i : Int) < 3 := by omega
        obtain ⟨xi, hxi⟩ : ∃ z, X[i]? = some z := ⟨X[i]'(by have := hXl.out; omega), List.getElem?_eq_getElem _⟩
        obtain ⟨yi, hyi⟩ : ∃ z, Y[i]? = some z := ⟨Y[i]'(by have := hYl.out; omega), List.getElem?_eq_getElem _⟩
        have hxih := Lib.hid hxi
        have hyih := Lib.hid hyi
        clear hxi hyi
        have hMdKy9 := fun W (h : Below wr.heap.size wr W) => hMdh.out.below (hb.out.trans (h.mono hb.out.size))
        have hXiKy9 := fun W (h : Below wr.heap.size wr W) => hXc.out W (hb.out.trans (h.mono hb.out.size)) i xi hxih.out
        have cPkKy9 := fun W (h : Below wr.heap.size wr W) => pick_any (c := cI) (d := cT) xi W (by omega : n ≤ 1000) (hMdKy9 W h).made
        unfold madeV at cPkKy9
        go_upto_region 9 with fail
        refine region_iw tbKy9 dsKy9 (vsKy9 p4 p9 i n AI AT cI cT xi (pkI l xi) (bs (encO (pkO (mksO ms []) xi)))) (fun L T W => (L 10 = false → Below wr.heap.size wr W) ∧ (L 10 = true → ∃ Wp, Below wr.heap.size wr Wp ∧ W = Wp.setCell ⟨p9, i, none⟩ (.int .i64 (pkI l xi)))) rfl (by decide) (by kernel_rfl) ?hlt ?hstep ?hdone ?hstart
        case hstart => exact ⟨fun _ => drewN_below 1, fun h => absurd h (inv_not (n := 11) (i := 10) (by decide))⟩
        case hlt =>
          intro ix o ho
          have hi := (Array.getElem?_eq_some_iff.1 ho).1
          match ix, hi with
          | 0, _ => obtain rfl := Option.some.inj ho; decide
          | 1, _ => obtain rfl := Option.some.inj ho; decide
          | 2, _ => obtain rfl := Option.some.inj ho; decide
          | 3, _ => obtain rfl := Option.some.inj ho; decide
          | 4, _ => obtain rfl := Option.some.inj ho; decide
          | 5, _ => obtain rfl := Option.some.inj ho; decide
          | 6, _ => obtain rfl := Option.some.inj ho; decide
          | 7, _ => obtain rfl := Option.some.inj ho; decide
          | 8, _ => obtain rfl := Option.some.inj ho; decide
          | 9, _ => obtain rfl := Option.some.inj ho; decide
          | 10, _ => obtain rfl := Option.some.inj ho; decide
        case hstep =>
          intro T1 hE L T W ix o hF hW hc ho hLi hd K hK
          have hN : T1.size = 122 := by rw [hE]; rfl
          have f4 : T.getD 4 undef = .pointer (some ⟨p4, 0, none⟩) := (hF.old 4 (by decide)).trans (by rw [hE]; rfl)
          have f8 : T.getD 8 undef = .pointer (some ⟨q, 0, none⟩) := (hF.old 8 (by decide)).trans (by rw [hE]; rfl)
          have f9 : T.getD 9 undef = .pointer (some ⟨p9, 0, none⟩) := (hF.old 9 (by decide)).trans (by rw [hE]; rfl)
          have f11 : T.getD 11 undef = .int .i64 ↑i := (hF.old 11 (by decide)).trans (by rw [hE]; rfl)
          clear hE
          replace hF := Lib.hid hF
          replace hW := Lib.hid hW
          replace hK := Lib.hid hK
          have hi := (List.getElem?_eq_some_iff.1 ho).1
          match ix, hi with
          | 0, _ =>
            obtain rfl := Option.some.inj ho
            clear hd ho hi hc hLi
            exact st_val (v := .int .i64 ↑i) (w' := W) (want_none rfl) (by unfold execOp; dsimp only [Act.eval]; simp only [f11]; go_simp) (hK.out _ _ (hF.out.put (k := 0) (s := 29) rfl (by decide) hN (by decide) (fun u hu => Option.some.inj (Option.some.inj (show some (some (.int .i64 ↑i)) = some (some u) from hu))) hW.out))
          | 1, _ =>
            obtain rfl := Option.some.inj ho
            have n10 : L 10 = false := by cases h : L 10 with | false => rfl | true => exact absurd ((hc 5 1 (hc 6 5 (hc 7 6 (hc 10 7 h (by decide)) (by decide)) (by decide)) (by decide) : L 1 = true).symm.trans hLi) (by decide)
            have hb := hW.out.1 n10
            have hld := ldMd_run (hMdKy9 W hb).row
            clear hd ho hi hc
            exact st_val (v := .agg #[.slice AI n cI, .slice AT n cT]) (w' := W) (want_none rfl) (by unfold execOp; dsimp only [Act.eval]; simp only [f8]; go_simp) (hK.out _ _ (hF.out.put (k := 1) (s := 30) rfl (by decide) hN (by decide) (fun u hu => Option.some.inj (Option.some.inj (show some (some (.agg #[.slice AI n cI, .slice AT n cT])) = some (some u) from hu))) hW.out))
          | 2, _ =>
            obtain rfl := Option.some.inj ho
            clear hd ho hi hc hLi
            exact st_val (v := .int .i64 ↑i) (w' := W) (want_none rfl) (by unfold execOp; dsimp only [Act.eval]; simp only [f11]; go_simp) (hK.out _ _ (hF.out.put (k := 2) (s := 31) rfl (by decide) hN (by decide) (fun u hu => Option.some.inj (Option.some.inj (show some (some (.int .i64 ↑i)) = some (some u) from hu))) hW.out))
          | 3, _ =>
            obtain rfl := Option.some.inj ho
            have l2 : L 2 = true := dep_of hd (n := 2) (by decide)
            have e31 : T.getD 31 undef = .int .i64 ↑i := hF.out.val 2 31 _ l2 rfl rfl
            clear hd ho hi hc hLi
            exact st_val (v := .pointer (some ⟨p4, i, none⟩)) (w' := W) (want_none rfl) (by unfold execOp; dsimp only [Act.eval]; simp only [f4, e31]; go_simp) (hK.out _ _ (hF.out.put (k := 3) (s := 32) rfl (by decide) hN (by decide) (fun u hu => Option.some.inj (Option.some.inj (show some (some (.pointer (some ⟨p4, i, none⟩))) = some (some u) from hu))) hW.out))
          | 4, _ =>
            obtain rfl := Option.some.inj ho
            have l3 : L 3 = true := dep_of hd (n := 3) (by decide)
            have e32 : T.getD 32 undef = .pointer (some ⟨p4, i, none⟩) := hF.out.val 3 32 _ l3 rfl rfl
            have n10 : L 10 = false := by cases h : L 10 with | false => rfl | true => exact absurd ((hc 5 4 (hc 6 5 (hc 7 6 (hc 10 7 h (by decide)) (by decide)) (by decide)) (by decide) : L 4 = true).symm.trans hLi) (by decide)
            have hb := hW.out.1 n10
            have hcc := hXiKy9 W hb
            clear hd ho hi hc
            exact st_val (v := .int .i64 xi) (w' := W) (want_none rfl) (by unfold execOp; dsimp only [Act.eval]; simp only [e32]; go_simp) (hK.out _ _ (hF.out.put (k := 4) (s := 33) rfl (by decide) hN (by decide) (fun u hu => Option.some.inj (Option.some.inj (show some (some (.int .i64 xi)) = some (some u) from hu))) hW.out))
          | 5, _ =>
            obtain rfl := Option.some.inj ho
            have l1 : L 1 = true := dep_of hd (n := 1) (by decide)
            have e30 : T.getD 30 undef = .agg #[.slice AI n cI, .slice AT n cT] := hF.out.val 1 30 _ l1 rfl rfl
            have l4 : L 4 = true := dep_of hd (n := 4) (by decide)
            have e33 : T.getD 33 undef = .int .i64 xi := hF.out.val 4 33 _ l4 rfl rfl
            have n10 : L 10 = false := by cases h : L 10 with | false => rfl | true => exact absurd ((hc 6 5 (hc 7 6 (hc 10 7 h (by decide)) (by decide)) (by decide) : L 5 = true).symm.trans hLi) (by decide)
            have hb := hW.out.1 n10
            have hn10 := Lib.hid n10
            have cc := Lib.hid (cPkKy9 W hb)
            clear hd ho hi hc
            refine st_call (want_none rfl) (by unfold execOp; go_simp) cc.out ?_
            rintro r w3 ⟨rfl, hb3⟩
            exact ⟨_, rfl, hK.out _ _ (hF.out.put (k := 5) (s := 34) rfl (by decide) hN (by decide) (fun u hu => Option.some.inj (Option.some.inj (show some (some (.tuple #[.int .i64 (pkI l xi), .string (bs (encO (pkO (mksO ms []) xi)))])) = some (some u) from hu))) ⟨fun _ => hb.trans (hb3.mono hb.size), fun h => absurd ((show L 10 = true from h).symm.trans hn10.out) (by decide)⟩)⟩
          | 6, _ =>
            obtain rfl := Option.some.inj ho
            have l5 : L 5 = true := dep_of hd (n := 5) (by decide)
            have e34 : T.getD 34 undef = .tuple #[.int .i64 (pkI l xi), .string (bs (encO (pkO (mksO ms []) xi)))] := hF.out.val 5 34 _ l5 rfl rfl
            clear hd ho hi hc hLi
            exact st_val (v := .tuple #[.int .i64 (pkI l xi), .string (bs (encO (pkO (mksO ms []) xi)))]) (w' := W) (want_none rfl) (by unfold execOp; dsimp only [Act.eval]; simp only [e34]; go_simp) (hK.out _ _ (hF.out.put (k := 6) (s := 28) rfl (by decide) hN (by decide) (fun u hu => Option.some.inj (Option.some.inj (show some (some (.tuple #[.int .i64 (pkI l xi), .string (bs (encO (pkO (mksO ms []) xi)))])) = some (some u) from hu))) hW.out))
          | 7, _ =>
            obtain rfl := Option.some.inj ho
            have l6 : L 6 = true := dep_of hd (n := 6) (by decide)
            have e28 : T.getD 28 undef = .tuple #[.int .i64 (pkI l xi), .string (bs (encO (pkO (mksO ms []) xi)))] := hF.out.val 6 28 _ l6 rfl rfl
            clear hd ho hi hc hLi
            exact st_val (v := .int .i64 (pkI l xi)) (w' := W) (want_none rfl) (by unfold execOp; dsimp only [Act.eval]; simp only [e28]; go_simp) (hK.out _ _ (hF.out.put (k := 7) (s := 35) rfl (by decide) hN (by decide) (fun u hu => Option.some.inj (Option.some.inj (show some (some (.int .i64 (pkI l xi))) = some (some u) from hu))) hW.out))
          | 8, _ =>
            obtain rfl := Option.some.inj ho
            have l6 : L 6 = true := dep_of hd (n := 6) (by decide)
            have e28 : T.getD 28 undef = .tuple #[.int .i64 (pkI l xi), .string (bs (encO (pkO (mksO ms []) xi)))] := hF.out.val 6 28 _ l6 rfl rfl
            clear hd ho hi hc hLi
            exact st_val (v := .string (bs (encO (pkO (mksO ms []) xi)))) (w' := W) (want_none rfl) (by unfold execOp; dsimp only [Act.eval]; simp only [e28]; go_simp) (hK.out _ _ (hF.out.put (k := 8) (s := 36) rfl (by decide) hN (by decide) (fun u hu => Option.some.inj (Option.some.inj (show some (some (.string (bs (encO (pkO (mksO ms []) xi))))) = some (some u) from hu))) hW.out))
          | 9, _ =>
            obtain rfl := Option.some.inj ho
            have l0 : L 0 = true := dep_of hd (n := 0) (by decide)
            have e29 : T.getD 29 undef = .int .i64 ↑i := hF.out.val 0 29 _ l0 rfl rfl
            clear hd ho hi hc hLi
            exact st_val (v := .pointer (some ⟨p9, i, none⟩)) (w' := W) (want_none rfl) (by unfold execOp; dsimp only [Act.eval]; simp only [f9, e29]; go_simp) (hK.out _ _ (hF.out.put (k := 9) (s := 37) rfl (by decide) hN (by decide) (fun u hu => Option.some.inj (Option.some.inj (show some (some (.pointer (some ⟨p9, i, none⟩))) = some (some u) from hu))) hW.out))
          | 10, _ =>
            obtain rfl := Option.some.inj ho
            have l7 : L 7 = true := dep_of hd (n := 7) (by decide)
            have e35 : T.getD 35 undef = .int .i64 (pkI l xi) := hF.out.val 7 35 _ l7 rfl rfl
            have l9 : L 9 = true := dep_of hd (n := 9) (by decide)
            have e37 : T.getD 37 undef = .pointer (some ⟨p9, i, none⟩) := hF.out.val 9 37 _ l9 rfl rfl
            have hb := hW.out.1 hLi
            have h9W := (hb.block p9 (Array.getElem?_eq_some_iff.1 h9.out).1).trans h9.out
            have c9 : W.cell? ⟨p9, i, none⟩ = some (.int .i64 0) := (cell_of_row W p9 i _ _ _ h9W).trans (tri0_at (pks_len hXl.out (by omega)).symm hlt)
            have f9 : W.frozen? ⟨p9, i, none⟩ = false := by simp [World.frozen?, h9W]
            have hbh := Lib.hid hb
            clear hd ho hi hc
            exact st_do (w' := W.setCell ⟨p9, i, none⟩ (.int .i64 (pkI l xi))) (want_none rfl) (by unfold execOp; dsimp only [Act.eval]; simp only [e35, e37]; go_simp) (hK.out _ _ (hF.out.pass (k := 10) rfl ⟨fun h => absurd h (by simp), fun _ => ⟨W, hbh.out, rfl⟩⟩))
        case hdone =>
          intro L T W2 hF hW hall
          obtain ⟨Wp, hbp, rfl⟩ := hW.2 (hall 10 (by decide))
          have hT : T = #[.slice A n c, .agg (X.map (Value.int .i64)).toArray, .agg (Y.map (Value.int .i64)).toArray, undef, .pointer (some ⟨p4, 0, none⟩), .pointer (some ⟨p5, 0, none⟩), u6, .pointer (some ⟨g, 0, none⟩), .pointer (some ⟨q, 0, none⟩), .pointer (some ⟨p9, 0, none⟩), .pointer (some ⟨p10, 0, none⟩), .int .i64 ↑i, undef, undef, undef, undef, .slice A n c, .bool true, .bool false, undef, .pointer (some ⟨g, 0, none⟩), .pointer (some ⟨g, 0, none⟩), .slice A n c, .agg #[.slice AI n cI, .slice AT n cT], .int .i64 ↑i, .bool true, u26, u27, .tuple #[.int .i64 (pkI l xi), .string (bs (encO (pkO (mksO ms []) xi)))], .int .i64 ↑i, .agg #[.slice AI n cI, .slice AT n cT], .int .i64 ↑i, .pointer (some ⟨p4, i, none⟩), .int .i64 xi, .tuple #[.int .i64 (pkI l xi), .string (bs (encO (pkO (mksO ms []) xi)))], .int .i64 (pkI l xi), .string (bs (encO (pkO (mksO ms []) xi))), .pointer (some ⟨p9, i, none⟩), u38, u39, u40, u41, u42, u43, u44, u45, u46, u47, u48, u49, u50, u51, u52, u53, u54, u55, u56, u57, u58, u59, u60, u61, u62, u63, u64, u65, u66, u67, u68, u69, u70, u71, u72, u73, u74, undef, undef, undef, undef, undef, undef, undef, undef, undef, undef, undef, undef, undef, undef, undef, undef, undef, undef, undef, undef, undef, undef, undef, undef, undef, undef, undef, undef, undef, undef, undef, undef, undef, undef, undef, undef, undef, undef, undef, undef, undef, undef, undef, undef, undef, undef, undef] := (hF.fin [(29, .int .i64 ↑i), (30, .agg #[.slice AI n cI, .slice AT n cT]), (31, .int .i64 ↑i), (32, .pointer (some ⟨p4, i, none⟩)), (33, .int .i64 xi), (34, .tuple #[.int .i64 (pkI l xi), .string (bs (encO (pkO (mksO ms []) xi)))]), (28, .tuple #[.int .i64 (pkI l xi), .string (bs (encO (pkO (mksO ms []) xi)))]), (35, .int .i64 (pkI l xi)), (36, .string (bs (encO (pkO (mksO ms []) xi)))), (37, .pointer (some ⟨p9, i, none⟩))] [29, 30, 31, 32, 33, 34, 28, 35, 36, 37] rfl (List.forall_mem_cons.2 ⟨hF.val 0 _ _ (hall 0 (show 0 < 11 by decide)) rfl rfl, (List.forall_mem_cons.2 ⟨hF.val 1 _ _ (hall 1 (show 1 < 11 by decide)) rfl rfl, (List.forall_mem_cons.2 ⟨hF.val 2 _ _ (hall 2 (show 2 < 11 by decide)) rfl rfl, (List.forall_mem_cons.2 ⟨hF.val 3 _ _ (hall 3 (show 3 < 11 by decide)) rfl rfl, (List.forall_mem_cons.2 ⟨hF.val 4 _ _ (hall 4 (show 4 < 11 by decide)) rfl rfl, (List.forall_mem_cons.2 ⟨hF.val 5 _ _ (hall 5 (show 5 < 11 by decide)) rfl rfl, (List.forall_mem_cons.2 ⟨hF.val 6 _ _ (hall 6 (show 6 < 11 by decide)) rfl rfl, (List.forall_mem_cons.2 ⟨hF.val 7 _ _ (hall 7 (show 7 < 11 by decide)) rfl rfl, (List.forall_mem_cons.2 ⟨hF.val 8 _ _ (hall 8 (show 8 < 11 by decide)) rfl rfl, (List.forall_mem_cons.2 ⟨hF.val 9 _ _ (hall 9 (show 9 < 11 by decide)) rfl rfl, (fun _ h => absurd h List.not_mem_nil)⟩)⟩)⟩)⟩)⟩)⟩)⟩)⟩)⟩)⟩) (by decide)).trans (by kernel_rfl)
          clear hF hall
          subst hT
          have h9p := (hbp.block p9 (Array.getElem?_eq_some_iff.1 h9.out).1).trans h9.out
          have hBa : Below W4.heap.size W4 (Wp.setCell ⟨p9, i, none⟩ (.int .i64 (pkI l xi))) := (hb.out.trans (hbp.mono hb.out.size)).setCell (p := ⟨p9, i, none⟩) (by have := hpp.out.1; show W4.heap.size ≤ p9; omega) _
          have h9a : (Wp.setCell ⟨p9, i, none⟩ (.int .i64 (pkI l xi))).heap[p9]? = some (.cells (tri0 (pks l X (i + 1))).toArray 67 (0, 0)) := by
            rw [heap_setCell_same Wp p9 i _ _ _ h9p, tri0_set _ (pks_len hXl.out (by omega)).symm hlt, pks_succ hxih.out]
          have h10a : (Wp.setCell ⟨p9, i, none⟩ (.int .i64 (pkI l xi))).heap[p10]? = some (.cells (tri0 (pks l Y i)).toArray 67 (0, 0)) :=
            (heap_setCell_other Wp ⟨p9, i, none⟩ p10 _ (by have := hpp.out.1; have := hpp.out.2; show p10 ≠ p9; omega)).trans ((hbp.block p10 (Array.getElem?_eq_some_iff.1 h10.out).1).trans h10.out)
          generalize Wp.setCell ⟨p9, i, none⟩ (.int .i64 (pkI l xi)) = Wa at *
          replace hBa := Lib.hid hBa
          replace h9a := Lib.hid h9a
          replace h10a := Lib.hid h10a
          have hMdKy10 := fun W (h : Below Wa.heap.size Wa W) => hMdh.out.below (hBa.out.trans (h.mono hBa.out.size))
          have hXiKy10 := fun W (h : Below Wa.heap.size Wa W) => hYc.out W (hBa.out.trans (h.mono hBa.out.size)) i yi hyih.out
          have cPkKy10 := fun W (h : Below Wa.heap.size Wa W) => pick_any (c := cI) (d := cT) yi W (by omega : n ≤ 1000) (hMdKy10 W h).made
          unfold madeV at cPkKy10
          clear hW hbp h9p
          go_upto_region 10 with fail
          refine region_iw tbKy10 dsKy10 (vsKy10 p5 p10 i n AI AT cI cT yi (pkI l yi) (bs (encO (pkO (mksO ms []) yi)))) (fun L T W => (L 10 = false → Below Wa.heap.size Wa W) ∧ (L 10 = true → ∃ Wp, Below Wa.heap.size Wa Wp ∧ W = Wp.setCell ⟨p10, i, none⟩ (.int .i64 (pkI l yi)))) rfl (by decide) (by kernel_rfl) ?hlt ?hstep ?hdone ?hstart
          case hstart => exact ⟨fun _ => drewN_below 1, fun h => absurd h (inv_not (n := 11) (i := 10) (by decide))⟩
          case hlt =>
            intro ix o ho
            have hi := (Array.getElem?_eq_some_iff.1 ho).1
            match ix, hi with
            | 0, _ => obtain rfl := Option.some.inj ho; decide
            | 1, _ => obtain rfl := Option.some.inj ho; decide
            | 2, _ => obtain rfl := Option.some.inj ho; decide
            | 3, _ => obtain rfl := Option.some.inj ho; decide
            | 4, _ => obtain rfl := Option.some.inj ho; decide
            | 5, _ => obtain rfl := Option.some.inj ho; decide
            | 6, _ => obtain rfl := Option.some.inj ho; decide
            | 7, _ => obtain rfl := Option.some.inj ho; decide
            | 8, _ => obtain rfl := Option.some.inj ho; decide
            | 9, _ => obtain rfl := Option.some.inj ho; decide
            | 10, _ => obtain rfl := Option.some.inj ho; decide
          case hstep =>
            intro T1 hE L T W ix o hF hW hc ho hLi hd K hK
            have hN : T1.size = 122 := by rw [hE]; rfl
            have f5 : T.getD 5 undef = .pointer (some ⟨p5, 0, none⟩) := (hF.old 5 (by decide)).trans (by rw [hE]; rfl)
            have f8 : T.getD 8 undef = .pointer (some ⟨q, 0, none⟩) := (hF.old 8 (by decide)).trans (by rw [hE]; rfl)
            have f10 : T.getD 10 undef = .pointer (some ⟨p10, 0, none⟩) := (hF.old 10 (by decide)).trans (by rw [hE]; rfl)
            have f11 : T.getD 11 undef = .int .i64 ↑i := (hF.old 11 (by decide)).trans (by rw [hE]; rfl)
            clear hE
            replace hF := Lib.hid hF
            replace hW := Lib.hid hW
            replace hK := Lib.hid hK
            have hi := (List.getElem?_eq_some_iff.1 ho).1
            match ix, hi with
            | 0, _ =>
              obtain rfl := Option.some.inj ho
              clear hd ho hi hc hLi
              exact st_val (v := .int .i64 ↑i) (w' := W) (want_none rfl) (by unfold execOp; dsimp only [Act.eval]; simp only [f11]; go_simp) (hK.out _ _ (hF.out.put (k := 0) (s := 39) rfl (by decide) hN (by decide) (fun u hu => Option.some.inj (Option.some.inj (show some (some (.int .i64 ↑i)) = some (some u) from hu))) hW.out))
            | 1, _ =>
              obtain rfl := Option.some.inj ho
              have n10 : L 10 = false := by cases h : L 10 with | false => rfl | true => exact absurd ((hc 5 1 (hc 6 5 (hc 7 6 (hc 10 7 h (by decide)) (by decide)) (by decide)) (by decide) : L 1 = true).symm.trans hLi) (by decide)
              have hb := hW.out.1 n10
              have hld := ldMd_run (hMdKy10 W hb).row
              clear hd ho hi hc
              exact st_val (v := .agg #[.slice AI n cI, .slice AT n cT]) (w' := W) (want_none rfl) (by unfold execOp; dsimp only [Act.eval]; simp only [f8]; go_simp) (hK.out _ _ (hF.out.put (k := 1) (s := 40) rfl (by decide) hN (by decide) (fun u hu => Option.some.inj (Option.some.inj (show some (some (.agg #[.slice AI n cI, .slice AT n cT])) = some (some u) from hu))) hW.out))
            | 2, _ =>
              obtain rfl := Option.some.inj ho
              clear hd ho hi hc hLi
              exact st_val (v := .int .i64 ↑i) (w' := W) (want_none rfl) (by unfold execOp; dsimp only [Act.eval]; simp only [f11]; go_simp) (hK.out _ _ (hF.out.put (k := 2) (s := 41) rfl (by decide) hN (by decide) (fun u hu => Option.some.inj (Option.some.inj (show some (some (.int .i64 ↑i)) = some (some u) from hu))) hW.out))
            | 3, _ =>
              obtain rfl := Option.some.inj ho
              have l2 : L 2 = true := dep_of hd (n := 2) (by decide)
              have e41 : T.getD 41 undef = .int .i64 ↑i := hF.out.val 2 41 _ l2 rfl rfl
              clear hd ho hi hc hLi
              exact st_val (v := .pointer (some ⟨p5, i, none⟩)) (w' := W) (want_none rfl) (by unfold execOp; dsimp only [Act.eval]; simp only [f5, e41]; go_simp) (hK.out _ _ (hF.out.put (k := 3) (s := 42) rfl (by decide) hN (by decide) (fun u hu => Option.some.inj (Option.some.inj (show some (some (.pointer (some ⟨p5, i, none⟩))) = some (some u) from hu))) hW.out))
            | 4, _ =>
              obtain rfl := Option.some.inj ho
              have l3 : L 3 = true := dep_of hd (n := 3) (by decide)
              have e42 : T.getD 42 undef = .pointer (some ⟨p5, i, none⟩) := hF.out.val 3 42 _ l3 rfl rfl
              have n10 : L 10 = false := by cases h : L 10 with | false => rfl | true => exact absurd ((hc 5 4 (hc 6 5 (hc 7 6 (hc 10 7 h (by decide)) (by decide)) (by decide)) (by decide) : L 4 = true).symm.trans hLi) (by decide)
              have hb := hW.out.1 n10
              have hcc := hXiKy10 W hb
              clear hd ho hi hc
              exact st_val (v := .int .i64 yi) (w' := W) (want_none rfl) (by unfold execOp; dsimp only [Act.eval]; simp only [e42]; go_simp) (hK.out _ _ (hF.out.put (k := 4) (s := 43) rfl (by decide) hN (by decide) (fun u hu => Option.some.inj (Option.some.inj (show some (some (.int .i64 yi)) = some (some u) from hu))) hW.out))
            | 5, _ =>
              obtain rfl := Option.some.inj ho
              have l1 : L 1 = true := dep_of hd (n := 1) (by decide)
              have e40 : T.getD 40 undef = .agg #[.slice AI n cI, .slice AT n cT] := hF.out.val 1 40 _ l1 rfl rfl
              have l4 : L 4 = true := dep_of hd (n := 4) (by decide)
              have e43 : T.getD 43 undef = .int .i64 yi := hF.out.val 4 43 _ l4 rfl rfl
              have n10 : L 10 = false := by cases h : L 10 with | false => rfl | true => exact absurd ((hc 6 5 (hc 7 6 (hc 10 7 h (by decide)) (by decide)) (by decide) : L 5 = true).symm.trans hLi) (by decide)
              have hb := hW.out.1 n10
              have hn10 := Lib.hid n10
              have cc := Lib.hid (cPkKy10 W hb)
              clear hd ho hi hc
              refine st_call (want_none rfl) (by unfold execOp; go_simp) cc.out ?_
              rintro r w3 ⟨rfl, hb3⟩
              exact ⟨_, rfl, hK.out _ _ (hF.out.put (k := 5) (s := 44) rfl (by decide) hN (by decide) (fun u hu => Option.some.inj (Option.some.inj (show some (some (.tuple #[.int .i64 (pkI l yi), .string (bs (encO (pkO (mksO ms []) yi)))])) = some (some u) from hu))) ⟨fun _ => hb.trans (hb3.mono hb.size), fun h => absurd ((show L 10 = true from h).symm.trans hn10.out) (by decide)⟩)⟩
            | 6, _ =>
              obtain rfl := Option.some.inj ho
              have l5 : L 5 = true := dep_of hd (n := 5) (by decide)
              have e44 : T.getD 44 undef = .tuple #[.int .i64 (pkI l yi), .string (bs (encO (pkO (mksO ms []) yi)))] := hF.out.val 5 44 _ l5 rfl rfl
              clear hd ho hi hc hLi
              exact st_val (v := .tuple #[.int .i64 (pkI l yi), .string (bs (encO (pkO (mksO ms []) yi)))]) (w' := W) (want_none rfl) (by unfold execOp; dsimp only [Act.eval]; simp only [e44]; go_simp) (hK.out _ _ (hF.out.put (k := 6) (s := 38) rfl (by decide) hN (by decide) (fun u hu => Option.some.inj (Option.some.inj (show some (some (.tuple #[.int .i64 (pkI l yi), .string (bs (encO (pkO (mksO ms []) yi)))])) = some (some u) from hu))) hW.out))
            | 7, _ =>
              obtain rfl := Option.some.inj ho
              have l6 : L 6 = true := dep_of hd (n := 6) (by decide)
              have e38 : T.getD 38 undef = .tuple #[.int .i64 (pkI l yi), .string (bs (encO (pkO (mksO ms []) yi)))] := hF.out.val 6 38 _ l6 rfl rfl
              clear hd ho hi hc hLi
              exact st_val (v := .int .i64 (pkI l yi)) (w' := W) (want_none rfl) (by unfold execOp; dsimp only [Act.eval]; simp only [e38]; go_simp) (hK.out _ _ (hF.out.put (k := 7) (s := 45) rfl (by decide) hN (by decide) (fun u hu => Option.some.inj (Option.some.inj (show some (some (.int .i64 (pkI l yi))) = some (some u) from hu))) hW.out))
            | 8, _ =>
              obtain rfl := Option.some.inj ho
              have l6 : L 6 = true := dep_of hd (n := 6) (by decide)
              have e38 : T.getD 38 undef = .tuple #[.int .i64 (pkI l yi), .string (bs (encO (pkO (mksO ms []) yi)))] := hF.out.val 6 38 _ l6 rfl rfl
              clear hd ho hi hc hLi
              exact st_val (v := .string (bs (encO (pkO (mksO ms []) yi)))) (w' := W) (want_none rfl) (by unfold execOp; dsimp only [Act.eval]; simp only [e38]; go_simp) (hK.out _ _ (hF.out.put (k := 8) (s := 46) rfl (by decide) hN (by decide) (fun u hu => Option.some.inj (Option.some.inj (show some (some (.string (bs (encO (pkO (mksO ms []) yi))))) = some (some u) from hu))) hW.out))
            | 9, _ =>
              obtain rfl := Option.some.inj ho
              have l0 : L 0 = true := dep_of hd (n := 0) (by decide)
              have e39 : T.getD 39 undef = .int .i64 ↑i := hF.out.val 0 39 _ l0 rfl rfl
              clear hd ho hi hc hLi
              exact st_val (v := .pointer (some ⟨p10, i, none⟩)) (w' := W) (want_none rfl) (by unfold execOp; dsimp only [Act.eval]; simp only [f10, e39]; go_simp) (hK.out _ _ (hF.out.put (k := 9) (s := 47) rfl (by decide) hN (by decide) (fun u hu => Option.some.inj (Option.some.inj (show some (some (.pointer (some ⟨p10, i, none⟩))) = some (some u) from hu))) hW.out))
            | 10, _ =>
              obtain rfl := Option.some.inj ho
              have l7 : L 7 = true := dep_of hd (n := 7) (by decide)
              have e45 : T.getD 45 undef = .int .i64 (pkI l yi) := hF.out.val 7 45 _ l7 rfl rfl
              have l9 : L 9 = true := dep_of hd (n := 9) (by decide)
              have e47 : T.getD 47 undef = .pointer (some ⟨p10, i, none⟩) := hF.out.val 9 47 _ l9 rfl rfl
              have hb := hW.out.1 hLi
              have h9W := (hb.block p10 (Array.getElem?_eq_some_iff.1 h10a.out).1).trans h10a.out
              have c9 : W.cell? ⟨p10, i, none⟩ = some (.int .i64 0) := (cell_of_row W p10 i _ _ _ h9W).trans (tri0_at (pks_len hYl.out (by omega)).symm hlt)
              have f9 : W.frozen? ⟨p10, i, none⟩ = false := by simp [World.frozen?, h9W]
              have hbh := Lib.hid hb
              clear hd ho hi hc
              exact st_do (w' := W.setCell ⟨p10, i, none⟩ (.int .i64 (pkI l yi))) (want_none rfl) (by unfold execOp; dsimp only [Act.eval]; simp only [e45, e47]; go_simp) (hK.out _ _ (hF.out.pass (k := 10) rfl ⟨fun h => absurd h (by simp), fun _ => ⟨W, hbh.out, rfl⟩⟩))
          case hdone =>
            intro L T W2 hF hW hall
            obtain ⟨Wp, hbp, rfl⟩ := hW.2 (hall 10 (by decide))
            have hT : T = #[.slice A n c, .agg (X.map (Value.int .i64)).toArray, .agg (Y.map (Value.int .i64)).toArray, undef, .pointer (some ⟨p4, 0, none⟩), .pointer (some ⟨p5, 0, none⟩), u6, .pointer (some ⟨g, 0, none⟩), .pointer (some ⟨q, 0, none⟩), .pointer (some ⟨p9, 0, none⟩), .pointer (some ⟨p10, 0, none⟩), .int .i64 ↑i, undef, undef, undef, undef, .slice A n c, .bool true, .bool false, undef, .pointer (some ⟨g, 0, none⟩), .pointer (some ⟨g, 0, none⟩), .slice A n c, .agg #[.slice AI n cI, .slice AT n cT], .int .i64 ↑i, .bool true, u26, u27, .tuple #[.int .i64 (pkI l xi), .string (bs (encO (pkO (mksO ms []) xi)))], .int .i64 ↑i, .agg #[.slice AI n cI, .slice AT n cT], .int .i64 ↑i, .pointer (some ⟨p4, i, none⟩), .int .i64 xi, .tuple #[.int .i64 (pkI l xi), .string (bs (encO (pkO (mksO ms []) xi)))], .int .i64 (pkI l xi), .string (bs (encO (pkO (mksO ms []) xi))), .pointer (some ⟨p9, i, none⟩), .tuple #[.int .i64 (pkI l yi), .string (bs (encO (pkO (mksO ms []) yi)))], .int .i64 ↑i, .agg #[.slice AI n cI, .slice AT n cT], .int .i64 ↑i, .pointer (some ⟨p5, i, none⟩), .int .i64 yi, .tuple #[.int .i64 (pkI l yi), .string (bs (encO (pkO (mksO ms []) yi)))], .int .i64 (pkI l yi), .string (bs (encO (pkO (mksO ms []) yi))), .pointer (some ⟨p10, i, none⟩), u48, u49, u50, u51, u52, u53, u54, u55, u56, u57, u58, u59, u60, u61, u62, u63, u64, u65, u66, u67, u68, u69, u70, u71, u72, u73, u74, undef, undef, undef, undef, undef, undef, undef, undef, undef, undef, undef, undef, undef, undef, undef, undef, undef, undef, undef, undef, undef, undef, undef, undef, undef, undef, undef, undef, undef, undef, undef, undef, undef, undef, undef, undef, undef, undef, undef, undef, undef, undef, undef, undef, undef, undef, undef] := (hF.fin [(39, .int .i64 ↑i), (40, .agg #[.slice AI n cI, .slice AT n cT]), (41, .int .i64 ↑i), (42, .pointer (some ⟨p5, i, none⟩)), (43, .int .i64 yi), (44, .tuple #[.int .i64 (pkI l yi), .string (bs (encO (pkO (mksO ms []) yi)))]), (38, .tuple #[.int .i64 (pkI l yi), .string (bs (encO (pkO (mksO ms []) yi)))]), (45, .int .i64 (pkI l yi)), (46, .string (bs (encO (pkO (mksO ms []) yi)))), (47, .pointer (some ⟨p10, i, none⟩))] [39, 40, 41, 42, 43, 44, 38, 45, 46, 47] rfl (List.forall_mem_cons.2 ⟨hF.val 0 _ _ (hall 0 (show 0 < 11 by decide)) rfl rfl, (List.forall_mem_cons.2 ⟨hF.val 1 _ _ (hall 1 (show 1 < 11 by decide)) rfl rfl, (List.forall_mem_cons.2 ⟨hF.val 2 _ _ (hall 2 (show 2 < 11 by decide)) rfl rfl, (List.forall_mem_cons.2 ⟨hF.val 3 _ _ (hall 3 (show 3 < 11 by decide)) rfl rfl, (List.forall_mem_cons.2 ⟨hF.val 4 _ _ (hall 4 (show 4 < 11 by decide)) rfl rfl, (List.forall_mem_cons.2 ⟨hF.val 5 _ _ (hall 5 (show 5 < 11 by decide)) rfl rfl, (List.forall_mem_cons.2 ⟨hF.val 6 _ _ (hall 6 (show 6 < 11 by decide)) rfl rfl, (List.forall_mem_cons.2 ⟨hF.val 7 _ _ (hall 7 (show 7 < 11 by decide)) rfl rfl, (List.forall_mem_cons.2 ⟨hF.val 8 _ _ (hall 8 (show 8 < 11 by decide)) rfl rfl, (List.forall_mem_cons.2 ⟨hF.val 9 _ _ (hall 9 (show 9 < 11 by decide)) rfl rfl, (fun _ h => absurd h List.not_mem_nil)⟩)⟩)⟩)⟩)⟩)⟩)⟩)⟩)⟩)⟩) (by decide)).trans (by kernel_rfl)
            clear hF hall
            subst hT
            have h10p := (hbp.block p10 (Array.getElem?_eq_some_iff.1 h10a.out).1).trans h10a.out
            have hBb : Below W4.heap.size W4 (Wp.setCell ⟨p10, i, none⟩ (.int .i64 (pkI l yi))) := (hBa.out.trans (hbp.mono hBa.out.size)).setCell (p := ⟨p10, i, none⟩) (by have := hpp.out.2; show W4.heap.size ≤ p10; omega) _
            have h10b : (Wp.setCell ⟨p10, i, none⟩ (.int .i64 (pkI l yi))).heap[p10]? = some (.cells (tri0 (pks l Y (i + 1))).toArray 67 (0, 0)) := by
              rw [heap_setCell_same Wp p10 i _ _ _ h10p, tri0_set _ (pks_len hYl.out (by omega)).symm hlt, pks_succ hyih.out]
            have h9b : (Wp.setCell ⟨p10, i, none⟩ (.int .i64 (pkI l yi))).heap[p9]? = some (.cells (tri0 (pks l X (i + 1))).toArray 67 (0, 0)) :=
              (heap_setCell_other Wp ⟨p10, i, none⟩ p9 _ (by have := hpp.out.1; have := hpp.out.2; show p9 ≠ p10; omega)).trans ((hbp.block p9 (Array.getElem?_eq_some_iff.1 h9a.out).1).trans h9a.out)
            generalize Wp.setCell ⟨p10, i, none⟩ (.int .i64 (pkI l yi)) = Wb at *
            have c9 : Wb.cell? ⟨p9, i, none⟩ = some (.int .i64 (pkI l xi)) := (cell_of_row Wb p9 i _ _ _ h9b).trans (tri0_get (by rw [pks_succ hxih.out, List.getElem?_append_right (by rw [pks_len hXl.out (by omega)]; omega), pks_len hXl.out (by omega), Nat.sub_self]; rfl))
            have c10 : Wb.cell? ⟨p10, i, none⟩ = some (.int .i64 (pkI l yi)) := (cell_of_row Wb p10 i _ _ _ h10b).trans (tri0_get (by rw [pks_succ hyih.out, List.getElem?_append_right (by rw [pks_len hYl.out (by omega)]; omega), pks_len hYl.out (by omega), Nat.sub_self]; rfl))
            replace hBb := Lib.hid hBb
            replace h9b := Lib.hid h9b
            replace h10b := Lib.hid h10b
            clear hW hbp h10p hMdKy9 hXiKy9 cPkKy9 hMdKy10 hXiKy10 cPkKy10
            have hMdb := hMdh.out.below hBb.out
            have nX := nm_pick hMdb.ml.toNmL xi
            have nY := nm_pick hMdb.ml.toNmL yi
            have sX := hMdb.st.size (pkI l xi)
            have sY := hMdb.st.size (pkI l yi)
            rw [nX.1] at sX
            rw [nY.1] at sY
            have hWb := Lib.hid (hp.out.trans ((hB4.out.trans (hBb.out.mono hB4.out.size)).mono hp.out.size))
            have hfx : Hid (fit (pkO (mksO ms []) xi) → ∀ z ∈ X.take (i + 1), fit (pkO (mksO ms []) z)) := by
              intro h z hz
              rw [take_succ_of hxih.out] at hz
              rcases List.mem_append.1 hz with hz | hz
              · exact hf.out z hz
              · rw [List.mem_singleton.1 hz]; exact h
            have hfy : Hid (fit (pkO (mksO ms []) yi) → ∀ z ∈ Y.take (i + 1), fit (pkO (mksO ms []) z)) := by
              intro h z hz
              rw [take_succ_of hyih.out] at hz
              rcases List.mem_append.1 hz with hz | hz
              · exact hg.out z hz
              · rw [List.mem_singleton.1 hz]; exact h
            have eX : (pkO (mksO ms []) xi = none → (pkI l xi == -1) = true) ∧ (pkO (mksO ms []) xi ≠ none → (pkI l xi == -1) = false) := nm_none nX
            have eY : (pkO (mksO ms []) yi = none → (pkI l yi == -1) = true) ∧ (pkO (mksO ms []) yi ≠ none → (pkI l yi == -1) = false) := nm_none nY
            have qX : (fit (pkO (mksO ms []) xi) ↔ pkO (mksO ms []) xi ≠ none ∧ sizeO (pkO (mksO ms []) xi) ≤ 10000) := fit_iff
            have qY : (fit (pkO (mksO ms []) yi) ↔ pkO (mksO ms []) yi ≠ none ∧ sizeO (pkO (mksO ms []) yi) ≤ 10000) := fit_iff
            replace sX := Lib.hid sX
            replace sY := Lib.hid sY
            have q := Lib.hid (And.intro qX (And.intro qY (And.intro hfx.out hfy.out)))
            clear hMdb nX nY hf hg hfx hfy qX qY
            by_cases h1 : pkO (mksO ms []) xi = none
            · have e1 := eX.1 h1
              clear eX eY h1
              generalize pkI l xi = a at *
              generalize pkI l yi = b at *
              go_wp2_with (go_at_call 32; refine (cA.out _).mono ?_; rintro r w9 ⟨rfl, hb9⟩)
              go_ret
              exact ⟨rfl, hWb.out.trans (hb9.mono hWb.out.size)⟩
            by_cases h2 : pkO (mksO ms []) yi = none
            · have e1 := eX.2 h1
              have e2 := eY.1 h2
              clear eX eY h1 h2
              generalize pkI l xi = a at *
              generalize pkI l yi = b at *
              go_wp2_with (go_at_call 32; refine (cA.out _).mono ?_; rintro r w9 ⟨rfl, hb9⟩)
              go_ret
              exact ⟨rfl, hWb.out.trans (hb9.mono hWb.out.size)⟩
            have e1 := eX.2 h1
            have e2 := eY.2 h2
            by_cases h3 : sizeO (pkO (mksO ms []) xi) ≤ 10000
            · by_cases h4 : sizeO (pkO (mksO ms []) yi) ≤ 10000
              · have hfX := Lib.hid (q.out.2.2.1 (q.out.1.2 ⟨h1, h3⟩))
                have hfY := Lib.hid (q.out.2.2.2 (q.out.2.1.2 ⟨h2, h4⟩))
                have h3i : decide ((10000 : Int) < (sizeO (pkO (mksO ms []) xi) : Int)) = false := decide_eq_false (by omega)
                have h4i : decide ((10000 : Int) < (sizeO (pkO (mksO ms []) yi) : Int)) = false := decide_eq_false (by omega)
                clear eX eY h1 h2 h3 h4 q
                generalize sizeO (pkO (mksO ms []) xi) = zX at *
                generalize sizeO (pkO (mksO ms []) yi) = zY at *
                go_wp2_with (first
                  | (go_at_call 14; (with_reducible refine sX.out.mono ?_); rintro r w9 ⟨rfl, rfl⟩)
                  | (go_at_call 14; (with_reducible refine sY.out.mono ?_); rintro r w9 ⟨rfl, rfl⟩))
                go_roundw
                case rel => exact ⟨i + 1, by omega, by go_num, hBb, h9b, h10b, hfX, hfY⟩
                case measure => simp [intOf]; omega
              · have h3i : decide ((10000 : Int) < (sizeO (pkO (mksO ms []) xi) : Int)) = false := decide_eq_false (by omega)
                have h4i : decide ((10000 : Int) < (sizeO (pkO (mksO ms []) yi) : Int)) = true := decide_eq_true (by omega)
                clear eX eY h1 h2 h3 h4 q
                generalize sizeO (pkO (mksO ms []) xi) = zX at *
                generalize sizeO (pkO (mksO ms []) yi) = zY at *
                go_wp2_with (first
                  | (go_at_call 14; (with_reducible refine sX.out.mono ?_); rintro r w9 ⟨rfl, rfl⟩)
                  | (go_at_call 14; (with_reducible refine sY.out.mono ?_); rintro r w9 ⟨rfl, rfl⟩)
                  | (go_at_call 32; refine (cA.out _).mono ?_; rintro r w9 ⟨rfl, hb9⟩))
                go_ret
                exact ⟨rfl, hWb.out.trans (hb9.mono hWb.out.size)⟩
            · have h3i : decide ((10000 : Int) < (sizeO (pkO (mksO ms []) xi) : Int)) = true := decide_eq_true (by omega)
              clear eX eY h1 h2 h3 q
              generalize sizeO (pkO (mksO ms []) xi) = zX at *
              go_wp2_with (first
                | (go_at_call 14; (with_reducible refine sX.out.mono ?_); rintro r w9 ⟨rfl, rfl⟩)
                | (go_at_call 32; refine (cA.out _).mono ?_; rintro r w9 ⟨rfl, hb9⟩))
              go_ret
              exact ⟨rfl, hWb.out.trans (hb9.mono hWb.out.size)⟩
      · have hi3 : i = 3 := by omega
        subst hi3
        clear hlt
        obtain ⟨x0, x1, x2, rfl⟩ : ∃ x0 x1 x2, X = [x0, x1, x2] := by
          match X, hXl.out with
          | [x0, x1, x2], _ => exact ⟨x0, x1, x2, rfl⟩
        obtain ⟨y0, y1, y2, rfl⟩ : ∃ y0 y1 y2, Y = [y0, y1, y2] := by
          match Y, hYl.out with
          | [y0, y1, y2], _ => exact ⟨y0, y1, y2, rfl⟩
        have hM := hMdh.out.below hb.out
        have hfX : Hid (fit (pkO (mksO ms []) x0) ∧ fit (pkO (mksO ms []) x1) ∧ fit (pkO (mksO ms []) x2)) := ⟨hf.out _ (by simp), hf.out _ (by simp), hf.out _ (by simp)⟩
        have hfY : Hid (fit (pkO (mksO ms []) y0) ∧ fit (pkO (mksO ms []) y1) ∧ fit (pkO (mksO ms []) y2)) := ⟨hg.out _ (by simp), hg.out _ (by simp), hg.out _ (by simp)⟩
        have hnX := Lib.hid (And.intro (nm_pick hM.ml.toNmL x0) (And.intro (nm_pick hM.ml.toNmL x1) (nm_pick hM.ml.toNmL x2)))
        have hnY := Lib.hid (And.intro (nm_pick hM.ml.toNmL y0) (And.intro (nm_pick hM.ml.toNmL y1) (nm_pick hM.ml.toNmL y2)))
        have hS := Lib.hid hM.st
        have h9c : Hid (wr.heap[p9]? = some (.cells #[.int .i64 (pkI l x0), .int .i64 (pkI l x1), .int .i64 (pkI l x2)] 67 (0, 0))) := h9.out
        have h10c : Hid (wr.heap[p10]? = some (.cells #[.int .i64 (pkI l y0), .int .i64 (pkI l y1), .int .i64 (pkI l y2)] 67 (0, 0))) := h10.out
        have hWr := Lib.hid (hp.out.trans ((hB4.out.trans (hb.out.mono hB4.out.size)).mono hp.out.size))
        have hLl := Lib.hid (show L.length ≤ 20 by have := hLn.out; omega)
        have hsz := Lib.hid (show W1.heap.size ≤ wr.heap.size from Nat.le_trans hB4.out.size hb.out.size)
        clear hM hf hg h9 h10 hb hXc hYc hpx hXl hYl hx1h hy1h hMdh hB4
        generalize pkI l x0 = a0 at *
        generalize pkI l x1 = a1 at *
        generalize pkI l x2 = a2 at *
        generalize pkI l y0 = b0 at *
        generalize pkI l y1 = b1 at *
        generalize pkI l y2 = b2 at *
        generalize pkO (mksO ms []) x0 = o0 at *
        generalize pkO (mksO ms []) x1 = o1 at *
        generalize pkO (mksO ms []) x2 = o2 at *
        generalize pkO (mksO ms []) y0 = u0 at *
        generalize pkO (mksO ms []) y1 = u1 at *
        generalize pkO (mksO ms []) y2 = u2 at *
        go_upto_region 13 with fail
        have hsz2 := hsz
        obtain ⟨L0, hL0⟩ : ∃ L0, L0 = L := ⟨_, rfl⟩
        rw [← hL0] at hS hLl hnX hnY
        clear hL0
        refine region_iw tbKy13 dsKy13 (vsKy13 g p9 p10 a0 a1 a2 b0 b1 b2) (fun L T W => (Stay wr W ∧ wr.heap.size ≤ W.heap.size) ∧ (L 7 = false → St W1 g W L0) ∧ (L 7 = true → L 15 = false → ∃ (ls : List Int) (L1 : List Tm), T.getD 82 undef = .agg (ls.map (Value.int .i64)).toArray ∧ ls.length = 6 ∧ St W1 g W L1 ∧ (∃ e, L1 = L0 ++ e) ∧ L1.length ≤ L0.length + 6 ∧ NmL L1 ls (sixT o0 o1 o2)) ∧ (L 15 = true → ∃ (ls lt : List Int) (L2 : List Tm), T.getD 82 undef = .agg (ls.map (Value.int .i64)).toArray ∧ T.getD 90 undef = .agg (lt.map (Value.int .i64)).toArray ∧ ls.length = 6 ∧ lt.length = 6 ∧ St W1 g W L2 ∧ NmL L2 ls (sixT o0 o1 o2) ∧ NmL L2 lt (sixT u0 u1 u2)) ∧ (L 16 = true → ∃ gg : Nat, T.getD 12 undef = .pointer (some ⟨gg, 0, none⟩) ∧ wr.heap.size ≤ gg ∧ (L 18 = false → W.heap[gg]? = some (.cells (six0 []).toArray 70 (0, 0))) ∧ (L 18 = true → ∀ cs, T.getD 82 undef = .agg cs → W.heap[gg]? = some (.cells cs 70 (0, 0)))) ∧ (L 17 = true → ∃ gg : Nat, T.getD 13 undef = .pointer (some ⟨gg, 0, none⟩) ∧ wr.heap.size ≤ gg ∧ (L 19 = false → W.heap[gg]? = some (.cells (six0 []).toArray 70 (0, 0))) ∧ (L 19 = true → ∀ cs, T.getD 90 undef = .agg cs → W.heap[gg]? = some (.cells cs 70 (0, 0)))) ∧ (L 16 = true → L 17 = true → T.getD 12 undef ≠ T.getD 13 undef)) rfl (by decide) (by kernel_rfl) ?hlt ?hstep ?hdone ?hstart
        case hstart => exact ⟨⟨Stay.of_below (drewN_below 1), Nat.le_refl _⟩, fun _ => hS.out.keep (drewN_below 1), fun h => absurd h (inv_not (n := 20) (i := 7) (by decide)), fun h => absurd h (inv_not (n := 20) (i := 15) (by decide)), fun h => absurd h (inv_not (n := 20) (i := 16) (by decide)), fun h => absurd h (inv_not (n := 20) (i := 17) (by decide)), fun h => absurd h (inv_not (n := 20) (i := 16) (by decide))⟩
        case hlt =>
          intro ix o ho
          have hi := (Array.getElem?_eq_some_iff.1 ho).1
          match ix, hi with
          | 0, _ => obtain rfl := Option.some.inj ho; decide
          | 1, _ => obtain rfl := Option.some.inj ho; decide
          | 2, _ => obtain rfl := Option.some.inj ho; decide
          | 3, _ => obtain rfl := Option.some.inj ho; decide
          | 4, _ => obtain rfl := Option.some.inj ho; decide
          | 5, _ => obtain rfl := Option.some.inj ho; decide
          | 6, _ => obtain rfl := Option.some.inj ho; decide
          | 7, _ => obtain rfl := Option.some.inj ho; decide
          | 8, _ => obtain rfl := Option.some.inj ho; decide
          | 9, _ => obtain rfl := Option.some.inj ho; decide
          | 10, _ => obtain rfl := Option.some.inj ho; decide
          | 11, _ => obtain rfl := Option.some.inj ho; decide
          | 12, _ => obtain rfl := Option.some.inj ho; decide
          | 13, _ => obtain rfl := Option.some.inj ho; decide
          | 14, _ => obtain rfl := Option.some.inj ho; decide
          | 15, _ => obtain rfl := Option.some.inj ho; decide
          | 16, _ => obtain rfl := Option.some.inj ho; decide
          | 17, _ => obtain rfl := Option.some.inj ho; decide
          | 18, _ => obtain rfl := Option.some.inj ho; decide
          | 19, _ => obtain rfl := Option.some.inj ho; decide
        case hstep =>
          intro T1 hE L T W ix o hF hW hc ho hLi hd K hK
          have hN : T1.size = 122 := by rw [hE]; rfl
          have f7 : T.getD 7 undef = .pointer (some ⟨g, 0, none⟩) := (hF.old 7 (by decide)).trans (by rw [hE]; rfl)
          have f9 : T.getD 9 undef = .pointer (some ⟨p9, 0, none⟩) := (hF.old 9 (by decide)).trans (by rw [hE]; rfl)
          have f10 : T.getD 10 undef = .pointer (some ⟨p10, 0, none⟩) := (hF.old 10 (by decide)).trans (by rw [hE]; rfl)
          clear hE
          replace hF := Lib.hid hF
          replace hW := Lib.hid hW
          replace hK := Lib.hid hK
          have hi := (List.getElem?_eq_some_iff.1 ho).1
          match ix, hi with
          | 0, _ =>
            obtain rfl := Option.some.inj ho
            clear hd ho hi hc hLi
            exact st_val (v := .pointer (some ⟨g, 0, none⟩)) (w' := W) (want_none rfl) (by unfold execOp; dsimp only [Act.eval]; simp only [f7]; go_simp) (hK.out _ _ (hF.out.put (k := 0) (s := 75) rfl (by decide) hN (by decide) (fun u hu => Option.some.inj (Option.some.inj (show some (some (.pointer (some ⟨g, 0, none⟩))) = some (some u) from hu))) (by dsimp only; rw [gd_ne (show 75 ≠ 82 by decide), gd_ne (show 75 ≠ 90 by decide), gd_ne (show 75 ≠ 12 by decide), gd_ne (show 75 ≠ 13 by decide)]; exact hW.out)))
          | 1, _ =>
            obtain rfl := Option.some.inj ho
            clear hd ho hi hc hLi
            exact st_val (v := .pointer (some ⟨p9, 0, none⟩)) (w' := W) (want_none rfl) (by unfold execOp; dsimp only [Act.eval]; simp only [f9]; go_simp) (hK.out _ _ (hF.out.put (k := 1) (s := 76) rfl (by decide) hN (by decide) (fun u hu => Option.some.inj (Option.some.inj (show some (some (.pointer (some ⟨p9, 0, none⟩))) = some (some u) from hu))) (by dsimp only; rw [gd_ne (show 76 ≠ 82 by decide), gd_ne (show 76 ≠ 90 by decide), gd_ne (show 76 ≠ 12 by decide), gd_ne (show 76 ≠ 13 by decide)]; exact hW.out)))
          | 2, _ =>
            obtain rfl := Option.some.inj ho
            have l1 : L 1 = true := dep_of hd (n := 1) (by decide)
            have e76 : T.getD 76 undef = .pointer (some ⟨p9, 0, none⟩) := hF.out.val 1 76 _ l1 rfl rfl
            have hcc : W.cell? ⟨p9, 0, none⟩ = some (.int .i64 a0) := cell_of_row W p9 0 _ _ _ (hW.out.1.1 _ _ _ _ h9c.out (by decide) (by decide) (by decide))
            clear hd ho hi hc hLi
            exact st_val (v := .int .i64 a0) (w' := W) (want_none rfl) (by unfold execOp; dsimp only [Act.eval]; simp only [e76]; go_simp) (hK.out _ _ (hF.out.put (k := 2) (s := 77) rfl (by decide) hN (by decide) (fun u hu => Option.some.inj (Option.some.inj (show some (some (.int .i64 a0)) = some (some u) from hu))) (by dsimp only; rw [gd_ne (show 77 ≠ 82 by decide), gd_ne (show 77 ≠ 90 by decide), gd_ne (show 77 ≠ 12 by decide), gd_ne (show 77 ≠ 13 by decide)]; exact hW.out)))
          | 3, _ =>
            obtain rfl := Option.some.inj ho
            clear hd ho hi hc hLi
            exact st_val (v := .pointer (some ⟨p9, 1, none⟩)) (w' := W) (want_none rfl) (by unfold execOp; dsimp only [Act.eval]; simp only [f9]; go_simp) (hK.out _ _ (hF.out.put (k := 3) (s := 78) rfl (by decide) hN (by decide) (fun u hu => Option.some.inj (Option.some.inj (show some (some (.pointer (some ⟨p9, 1, none⟩))) = some (some u) from hu))) (by dsimp only; rw [gd_ne (show 78 ≠ 82 by decide), gd_ne (show 78 ≠ 90 by decide), gd_ne (show 78 ≠ 12 by decide), gd_ne (show 78 ≠ 13 by decide)]; exact hW.out)))
          | 4, _ =>
            obtain rfl := Option.some.inj ho
            have l3 : L 3 = true := dep_of hd (n := 3) (by decide)
            have e78 : T.getD 78 undef = .pointer (some ⟨p9, 1, none⟩) := hF.out.val 3 78 _ l3 rfl rfl
            have hcc : W.cell? ⟨p9, 1, none⟩ = some (.int .i64 a1) := cell_of_row W p9 1 _ _ _ (hW.out.1.1 _ _ _ _ h9c.out (by decide) (by decide) (by decide))
            clear hd ho hi hc hLi
            exact st_val (v := .int .i64 a1) (w' := W) (want_none rfl) (by unfold execOp; dsimp only [Act.eval]; simp only [e78]; go_simp) (hK.out _ _ (hF.out.put (k := 4) (s := 79) rfl (by decide) hN (by decide) (fun u hu => Option.some.inj (Option.some.inj (show some (some (.int .i64 a1)) = some (some u) from hu))) (by dsimp only; rw [gd_ne (show 79 ≠ 82 by decide), gd_ne (show 79 ≠ 90 by decide), gd_ne (show 79 ≠ 12 by decide), gd_ne (show 79 ≠ 13 by decide)]; exact hW.out)))
          | 5, _ =>
            obtain rfl := Option.some.inj ho
            clear hd ho hi hc hLi
            exact st_val (v := .pointer (some ⟨p9, 2, none⟩)) (w' := W) (want_none rfl) (by unfold execOp; dsimp only [Act.eval]; simp only [f9]; go_simp) (hK.out _ _ (hF.out.put (k := 5) (s := 80) rfl (by decide) hN (by decide) (fun u hu => Option.some.inj (Option.some.inj (show some (some (.pointer (some ⟨p9, 2, none⟩))) = some (some u) from hu))) (by dsimp only; rw [gd_ne (show 80 ≠ 82 by decide), gd_ne (show 80 ≠ 90 by decide), gd_ne (show 80 ≠ 12 by decide), gd_ne (show 80 ≠ 13 by decide)]; exact hW.out)))
          | 6, _ =>
            obtain rfl := Option.some.inj ho
            have l5 : L 5 = true := dep_of hd (n := 5) (by decide)
            have e80 : T.getD 80 undef = .pointer (some ⟨p9, 2, none⟩) := hF.out.val 5 80 _ l5 rfl rfl
            have hcc : W.cell? ⟨p9, 2, none⟩ = some (.int .i64 a2) := cell_of_row W p9 2 _ _ _ (hW.out.1.1 _ _ _ _ h9c.out (by decide) (by decide) (by decide))
            clear hd ho hi hc hLi
            exact st_val (v := .int .i64 a2) (w' := W) (want_none rfl) (by unfold execOp; dsimp only [Act.eval]; simp only [e80]; go_simp) (hK.out _ _ (hF.out.put (k := 6) (s := 81) rfl (by decide) hN (by decide) (fun u hu => Option.some.inj (Option.some.inj (show some (some (.int .i64 a2)) = some (some u) from hu))) (by dsimp only; rw [gd_ne (show 81 ≠ 82 by decide), gd_ne (show 81 ≠ 90 by decide), gd_ne (show 81 ≠ 12 by decide), gd_ne (show 81 ≠ 13 by decide)]; exact hW.out)))
          | 7, _ =>
            obtain rfl := Option.some.inj ho
            have l0 : L 0 = true := dep_of hd (n := 0) (by decide)
            have e75 : T.getD 75 undef = .pointer (some ⟨g, 0, none⟩) := hF.out.val 0 75 _ l0 rfl rfl
            have l2 : L 2 = true := dep_of hd (n := 2) (by decide)
            have e77 : T.getD 77 undef = .int .i64 a0 := hF.out.val 2 77 _ l2 rfl rfl
            have l4 : L 4 = true := dep_of hd (n := 4) (by decide)
            have e79 : T.getD 79 undef = .int .i64 a1 := hF.out.val 4 79 _ l4 rfl rfl
            have l6 : L 6 = true := dep_of hd (n := 6) (by decide)
            have e81 : T.getD 81 undef = .int .i64 a2 := hF.out.val 6 81 _ l6 rfl rfl
            have n15 : ¬ L 15 = true := fun h => by have := hc 15 7 h (by decide); rw [hLi] at this; cases this
            have n18 : ¬ L 18 = true := fun h => by have := hc 18 7 h (by decide); rw [hLi] at this; cases this
            have n19 : ¬ L 19 = true := fun h => n15 (hc 19 15 h (by decide))
            have cc := Lib.hid (six_any (hW.out.2.1 hLi) (by have := hLl.out; omega) a0 a1 a2 _ _ _ hnX.out.1 hnX.out.2.1 hnX.out.2.2)
            clear hd ho hi hc
            refine st_call (want_none rfl) (by unfold execOp; go_simp) cc.out ?_
            rintro r w3 ⟨ls, L1, rfl, s1, s2, s3, s4, s5, s6, s7⟩
            exact ⟨_, rfl, hK.out _ _ (hF.out.put (k := 7) (s := 82) rfl (by decide) hN (by decide) (fun u hu => by cases hu) ⟨⟨hW.out.1.1.trans s6, Nat.le_trans hW.out.1.2 s7⟩, fun h => absurd h (by simp), fun _ _ => ⟨ls, L1, gd_eq (by rw [hF.out.size, hN]; decide), s1, s2, s3, s4, s5⟩, fun h => absurd h n15, fun h => (by obtain ⟨gg, q1, q2, q3, q4⟩ := hW.out.2.2.2.2.1 h; exact ⟨gg, (gd_ne (show 82 ≠ 12 by decide)).trans q1, q2, fun h18 => s6 _ _ _ _ (q3 h18) (by decide) (by decide) (by decide), fun h18 => absurd h18 n18⟩), fun h => (by obtain ⟨gg, q1, q2, q3, q4⟩ := hW.out.2.2.2.2.2.1 h; exact ⟨gg, (gd_ne (show 82 ≠ 13 by decide)).trans q1, q2, fun h18 => s6 _ _ _ _ (q3 h18) (by decide) (by decide) (by decide), fun h18 => absurd h18 n19⟩), fun h16 h17 => (by rw [gd_ne (show 82 ≠ 12 by decide), gd_ne (show 82 ≠ 13 by decide)]; exact hW.out.2.2.2.2.2.2 h16 h17)⟩)⟩
          | 8, _ =>
            obtain rfl := Option.some.inj ho
            clear hd ho hi hc hLi
            exact st_val (v := .pointer (some ⟨g, 0, none⟩)) (w' := W) (want_none rfl) (by unfold execOp; dsimp only [Act.eval]; simp only [f7]; go_simp) (hK.out _ _ (hF.out.put (k := 8) (s := 83) rfl (by decide) hN (by decide) (fun u hu => Option.some.inj (Option.some.inj (show some (some (.pointer (some ⟨g, 0, none⟩))) = some (some u) from hu))) (by dsimp only; rw [gd_ne (show 83 ≠ 82 by decide), gd_ne (show 83 ≠ 90 by decide), gd_ne (show 83 ≠ 12 by decide), gd_ne (show 83 ≠ 13 by decide)]; exact hW.out)))
          | 9, _ =>
            obtain rfl := Option.some.inj ho
            clear hd ho hi hc hLi
            exact st_val (v := .pointer (some ⟨p10, 0, none⟩)) (w' := W) (want_none rfl) (by unfold execOp; dsimp only [Act.eval]; simp only [f10]; go_simp) (hK.out _ _ (hF.out.put (k := 9) (s := 84) rfl (by decide) hN (by decide) (fun u hu => Option.some.inj (Option.some.inj (show some (some (.pointer (some ⟨p10, 0, none⟩))) = some (some u) from hu))) (by dsimp only; rw [gd_ne (show 84 ≠ 82 by decide), gd_ne (show 84 ≠ 90 by decide), gd_ne (show 84 ≠ 12 by decide), gd_ne (show 84 ≠ 13 by decide)]; exact hW.out)))
          | 10, _ =>
            obtain rfl := Option.some.inj ho
            have l9 : L 9 = true := dep_of hd (n := 9) (by decide)
            have e84 : T.getD 84 undef = .pointer (some ⟨p10, 0, none⟩) := hF.out.val 9 84 _ l9 rfl rfl
            have hcc : W.cell? ⟨p10, 0, none⟩ = some (.int .i64 b0) := cell_of_row W p10 0 _ _ _ (hW.out.1.1 _ _ _ _ h10c.out (by decide) (by decide) (by decide))
            clear hd ho hi hc hLi
            exact st_val (v := .int .i64 b0) (w' := W) (want_none rfl) (by unfold execOp; dsimp only [Act.eval]; simp only [e84]; go_simp) (hK.out _ _ (hF.out.put (k := 10) (s := 85) rfl (by decide) hN (by decide) (fun u hu => Option.some.inj (Option.some.inj (show some (some (.int .i64 b0)) = some (some u) from hu))) (by dsimp only; rw [gd_ne (show 85 ≠ 82 by decide), gd_ne (show 85 ≠ 90 by decide), gd_ne (show 85 ≠ 12 by decide), gd_ne (show 85 ≠ 13 by decide)]; exact hW.out)))
          | 11, _ =>
            obtain rfl := Option.some.inj ho
            clear hd ho hi hc hLi
            exact st_val (v := .pointer (some ⟨p10, 1, none⟩)) (w' := W) (want_none rfl) (by unfold execOp; dsimp only [Act.eval]; simp only [f10]; go_simp) (hK.out _ _ (hF.out.put (k := 11) (s := 86) rfl (by decide) hN (by decide) (fun u hu => Option.some.inj (Option.some.inj (show some (some (.pointer (some ⟨p10, 1, none⟩))) = some (some u) from hu))) (by dsimp only; rw [gd_ne (show 86 ≠ 82 by decide), gd_ne (show 86 ≠ 90 by decide), gd_ne (show 86 ≠ 12 by decide), gd_ne (show 86 ≠ 13 by decide)]; exact hW.out)))
          | 12, _ =>
            obtain rfl := Option.some.inj ho
            have l11 : L 11 = true := dep_of hd (n := 11) (by decide)
            have e86 : T.getD 86 undef = .pointer (some ⟨p10, 1, none⟩) := hF.out.val 11 86 _ l11 rfl rfl
            have hcc : W.cell? ⟨p10, 1, none⟩ = some (.int .i64 b1) := cell_of_row W p10 1 _ _ _ (hW.out.1.1 _ _ _ _ h10c.out (by decide) (by decide) (by decide))
            clear hd ho hi hc hLi
            exact st_val (v := .int .i64 b1) (w' := W) (want_none rfl) (by unfold execOp; dsimp only [Act.eval]; simp only [e86]; go_simp) (hK.out _ _ (hF.out.put (k := 12) (s := 87) rfl (by decide) hN (by decide) (fun u hu => Option.some.inj (Option.some.inj (show some (some (.int .i64 b1)) = some (some u) from hu))) (by dsimp only; rw [gd_ne (show 87 ≠ 82 by decide), gd_ne (show 87 ≠ 90 by decide), gd_ne (show 87 ≠ 12 by decide), gd_ne (show 87 ≠ 13 by decide)]; exact hW.out)))
          | 13, _ =>
            obtain rfl := Option.some.inj ho
            clear hd ho hi hc hLi
            exact st_val (v := .pointer (some ⟨p10, 2, none⟩)) (w' := W) (want_none rfl) (by unfold execOp; dsimp only [Act.eval]; simp only [f10]; go_simp) (hK.out _ _ (hF.out.put (k := 13) (s := 88) rfl (by decide) hN (by decide) (fun u hu => Option.some.inj (Option.some.inj (show some (some (.pointer (some ⟨p10, 2, none⟩))) = some (some u) from hu))) (by dsimp only; rw [gd_ne (show 88 ≠ 82 by decide), gd_ne (show 88 ≠ 90 by decide), gd_ne (show 88 ≠ 12 by decide), gd_ne (show 88 ≠ 13 by decide)]; exact hW.out)))
          | 14, _ =>
            obtain rfl := Option.some.inj ho
            have l13 : L 13 = true := dep_of hd (n := 13) (by decide)
            have e88 : T.getD 88 undef = .pointer (some ⟨p10, 2, none⟩) := hF.out.val 13 88 _ l13 rfl rfl
            have hcc : W.cell? ⟨p10, 2, none⟩ = some (.int .i64 b2) := cell_of_row W p10 2 _ _ _ (hW.out.1.1 _ _ _ _ h10c.out (by decide) (by decide) (by decide))
            clear hd ho hi hc hLi
            exact st_val (v := .int .i64 b2) (w' := W) (want_none rfl) (by unfold execOp; dsimp only [Act.eval]; simp only [e88]; go_simp) (hK.out _ _ (hF.out.put (k := 14) (s := 89) rfl (by decide) hN (by decide) (fun u hu => Option.some.inj (Option.some.inj (show some (some (.int .i64 b2)) = some (some u) from hu))) (by dsimp only; rw [gd_ne (show 89 ≠ 82 by decide), gd_ne (show 89 ≠ 90 by decide), gd_ne (show 89 ≠ 12 by decide), gd_ne (show 89 ≠ 13 by decide)]; exact hW.out)))
          | 15, _ =>
            obtain rfl := Option.some.inj ho
            have l8 : L 8 = true := dep_of hd (n := 8) (by decide)
            have e83 : T.getD 83 undef = .pointer (some ⟨g, 0, none⟩) := hF.out.val 8 83 _ l8 rfl rfl
            have l10 : L 10 = true := dep_of hd (n := 10) (by decide)
            have e85 : T.getD 85 undef = .int .i64 b0 := hF.out.val 10 85 _ l10 rfl rfl
            have l12 : L 12 = true := dep_of hd (n := 12) (by decide)
            have e87 : T.getD 87 undef = .int .i64 b1 := hF.out.val 12 87 _ l12 rfl rfl
            have l14 : L 14 = true := dep_of hd (n := 14) (by decide)
            have e89 : T.getD 89 undef = .int .i64 b2 := hF.out.val 14 89 _ l14 rfl rfl
            have l7 : L 7 = true := dep_of hd (n := 7) (by decide)
            have n19 : ¬ L 19 = true := fun h => by have := hc 19 15 h (by decide); rw [hLi] at this; cases this
            have n18 : ¬ L 18 = true := fun h => by have := hc 18 15 h (by decide); rw [hLi] at this; cases this
            obtain ⟨ls, L1, q82, q6, qS, qE, qL, qN⟩ := hW.out.2.2.1 l7 hLi
            have hl7 := Lib.hid l7
            obtain ⟨eE, hE⟩ := qE
            have m0 : Nm L1 b0 u0 := by rw [hE]; exact hnY.out.1.app
            have m1 : Nm L1 b1 u1 := by rw [hE]; exact hnY.out.2.1.app
            have m2 : Nm L1 b2 u2 := by rw [hE]; exact hnY.out.2.2.app
            have cc := six_any qS (by have := hLl.out; omega) b0 b1 b2 _ _ _ m0 m1 m2
            replace cc := Lib.hid cc
            clear hd ho hi hc
            refine st_call (want_none rfl) (by unfold execOp; go_simp) cc.out ?_
            rintro r w3 ⟨lt, L2, rfl, s1, s2, s3, s4, s5, s6, s7⟩
            exact ⟨_, rfl, hK.out _ _ (hF.out.put (k := 15) (s := 90) rfl (by decide) hN (by decide) (fun u hu => by cases hu) ⟨⟨hW.out.1.1.trans s6, Nat.le_trans hW.out.1.2 s7⟩, fun h => absurd ((show L 7 = false from h).symm.trans hl7.out) (by decide), fun _ h => absurd h (by simp), fun _ => ⟨ls, lt, L2, (gd_ne (show 90 ≠ 82 by decide)).trans q82, gd_eq (by rw [hF.out.size, hN]; decide), q6, s1, s2, (by obtain ⟨e, he⟩ := s3; rw [he]; exact qN.app), s5⟩, fun h => (by obtain ⟨gg, q1, q2, q3, q4⟩ := hW.out.2.2.2.2.1 h; exact ⟨gg, (gd_ne (show 90 ≠ 12 by decide)).trans q1, q2, fun h18 => s6 _ _ _ _ (q3 h18) (by decide) (by decide) (by decide), fun h18 => absurd h18 n18⟩), fun h => (by obtain ⟨gg, q1, q2, q3, q4⟩ := hW.out.2.2.2.2.2.1 h; exact ⟨gg, (gd_ne (show 90 ≠ 13 by decide)).trans q1, q2, fun h18 => s6 _ _ _ _ (q3 h18) (by decide) (by decide) (by decide), fun h18 => absurd h18 n19⟩), fun h16 h17 => (by rw [gd_ne (show 90 ≠ 12 by decide), gd_ne (show 90 ≠ 13 by decide)]; exact hW.out.2.2.2.2.2.2 h16 h17)⟩)⟩
          | 16, _ =>
            obtain rfl := Option.some.inj ho
            have n18 : ¬ L 18 = true := fun h => by have := hc 18 16 h (by decide); rw [hLi] at this; cases this
            have n19 : ¬ L 19 = true := fun h => n18 (hc 19 18 h (by decide))
            have hbn := below_new W (.cells (six0 []).toArray 70)
            clear hd ho hi hc
            exact st_val (v := .pointer (some ⟨W.heap.size, 0, none⟩)) (w' := W.alloc (.cells (six0 []).toArray 70)) (want_none rfl) (run_alloc_ 70 rfl _ six_zero) (hK.out _ _ (hF.out.put (k := 16) (s := 12) rfl (by decide) hN (by decide) (fun u hu => by cases hu) ⟨⟨hW.out.1.1.trans (Stay.of_below hbn), Nat.le_trans hW.out.1.2 hbn.size⟩, fun h => (hW.out.2.1 h).keep hbn, fun h7 h15 => (by obtain ⟨ls, L1, q82, q6, qS, qr⟩ := hW.out.2.2.1 h7 h15; exact ⟨ls, L1, (gd_ne (show 12 ≠ 82 by decide)).trans q82, q6, qS.keep hbn, qr⟩), fun h15 => (by obtain ⟨ls, lt, L2, q82, q90, q6, q7, qS, qr⟩ := hW.out.2.2.2.1 h15; exact ⟨ls, lt, L2, (gd_ne (show 12 ≠ 82 by decide)).trans q82, (gd_ne (show 12 ≠ 90 by decide)).trans q90, q6, q7, qS.keep hbn, qr⟩), fun _ => ⟨W.heap.size, gd_eq (by rw [hF.out.size, hN]; decide), hW.out.1.2, fun _ => heap_new W _, fun h18 => absurd h18 n18⟩, fun h => (by obtain ⟨gg, q1, q2, q3, q4⟩ := hW.out.2.2.2.2.2.1 h; exact ⟨gg, (gd_ne (show 12 ≠ 13 by decide)).trans q1, q2, fun h18 => (Stay.of_below hbn) _ _ _ _ (q3 h18) (by decide) (by decide) (by decide), fun h18 => absurd h18 n19⟩), fun _ h17 => (by rw [gd_eq (by rw [hF.out.size, hN]; decide), gd_ne (show 12 ≠ 13 by decide)]; obtain ⟨gg, q1, q2, q3, q4⟩ := hW.out.2.2.2.2.2.1 h17; rw [q1]; intro e; have hlt := (Array.getElem?_eq_some_iff.1 (q3 (by cases h : L 19 with | false => rfl | true => exact absurd h n19))).1; injection e with e; injection e with e; injection e with e; omega)⟩))
          | 17, _ =>
            obtain rfl := Option.some.inj ho
            have n18 : ¬ L 18 = true := fun h => by have := hc 18 17 h (by decide); rw [hLi] at this; cases this
            have n19 : ¬ L 19 = true := fun h => n18 (hc 19 18 h (by decide))
            have hbn := below_new W (.cells (six0 []).toArray 70)
            clear hd ho hi hc
            exact st_val (v := .pointer (some ⟨W.heap.size, 0, none⟩)) (w' := W.alloc (.cells (six0 []).toArray 70)) (want_none rfl) (run_alloc_ 70 rfl _ six_zero) (hK.out _ _ (hF.out.put (k := 17) (s := 13) rfl (by decide) hN (by decide) (fun u hu => by cases hu) ⟨⟨hW.out.1.1.trans (Stay.of_below hbn), Nat.le_trans hW.out.1.2 hbn.size⟩, fun h => (hW.out.2.1 h).keep hbn, fun h7 h15 => (by obtain ⟨ls, L1, q82, q6, qS, qr⟩ := hW.out.2.2.1 h7 h15; exact ⟨ls, L1, (gd_ne (show 13 ≠ 82 by decide)).trans q82, q6, qS.keep hbn, qr⟩), fun h15 => (by obtain ⟨ls, lt, L2, q82, q90, q6, q7, qS, qr⟩ := hW.out.2.2.2.1 h15; exact ⟨ls, lt, L2, (gd_ne (show 13 ≠ 82 by decide)).trans q82, (gd_ne (show 13 ≠ 90 by decide)).trans q90, q6, q7, qS.keep hbn, qr⟩), fun h => (by obtain ⟨gg, q1, q2, q3, q4⟩ := hW.out.2.2.2.2.1 h; exact ⟨gg, (gd_ne (show 13 ≠ 12 by decide)).trans q1, q2, fun h18 => (Stay.of_below hbn) _ _ _ _ (q3 h18) (by decide) (by decide) (by decide), fun h18 => absurd h18 n18⟩), fun _ => ⟨W.heap.size, gd_eq (by rw [hF.out.size, hN]; decide), hW.out.1.2, fun _ => heap_new W _, fun h18 => absurd h18 n19⟩, fun h16 _ => (by rw [gd_ne (show 13 ≠ 12 by decide), gd_eq (by rw [hF.out.size, hN]; decide)]; obtain ⟨gg, q1, q2, q3, q4⟩ := hW.out.2.2.2.2.1 h16; rw [q1]; intro e; have hlt := (Array.getElem?_eq_some_iff.1 (q3 (by cases h : L 18 with | false => rfl | true => exact absurd h n18))).1; injection e with e; injection e with e; injection e with e; omega)⟩))
          | 18, _ =>
            obtain rfl := Option.some.inj ho
            have l16 : L 16 = true := dep_of hd (n := 16) (by decide)
            have l7 : L 7 = true := dep_of hd (n := 7) (by decide)
            have l15 : L 15 = true := dep_of hd (n := 15) (by decide)
            have l17 : L 17 = true := dep_of hd (n := 17) (by decide)
            have n19 : ¬ L 19 = true := fun h => by have := hc 19 18 h (by decide); rw [hLi] at this; cases this
            obtain ⟨ls, lt, L2, q82, q90, q6, q7, qS, qA, qB⟩ := hW.out.2.2.2.1 l15
            obtain ⟨gg, r1, r2, r3, r4⟩ := hW.out.2.2.2.2.1 l16
            obtain ⟨hh, t1, t2, t3, t4⟩ := hW.out.2.2.2.2.2.1 l17
            have hne : hh ≠ gg := fun e => hW.out.2.2.2.2.2.2 l16 l17 (by rw [r1, t1, e])
            have hl7 := Lib.hid (hc 15 7 l15 (by decide))
            have hl15 := Lib.hid l15
            have hgeW : W1.heap.size ≤ gg := Nat.le_trans hsz2.out r2
            have hall2 : (ls.map (Value.int .i64)).toArray.all (·.oneCell') = true := by simp [Value.oneCell']
            clear hd ho hi hc
            exact st_do (w' := W.setRow gg (ls.map (Value.int .i64)).toArray) (want_none rfl) (run_store_ 70 (.tmp 12) (.tmp 82) rfl gg _ (show T.getD 12 undef = _ from r1) (show T.getD 82 undef = _ from q82) _ _ (r3 hLi) (six_info ls q6) (by simp [six0, q6]) hall2) (hK.out _ _ (hF.out.pass (k := 18) rfl ⟨⟨(fun r cur t fr hc q1 q2 q3 => (hsetRow_off (show r ≠ gg by have := (Array.getElem?_eq_some_iff.1 hc).1; omega) _).trans (hW.out.1.1 r cur t fr hc q1 q2 q3)), Nat.le_trans hW.out.1.2 (by simp [World.setRow])⟩, fun h => absurd ((show L 7 = false from h).symm.trans hl7.out) (by decide), fun _ h => absurd ((show L 15 = false from h).symm.trans hl15.out) (by decide), fun _ => ⟨ls, lt, L2, q82, q90, q6, q7, qS.row_ hgeW (r3 hLi) _ (by decide) (by decide) (by decide) (by decide), qA, qB⟩, fun _ => ⟨gg, r1, r2, fun h => absurd h (by simp), fun _ cs e => (by rw [q82] at e; injection e with e; rw [← e]; exact hsetRow _ _ _ _ _ _ (r3 hLi))⟩, fun _ => ⟨hh, t1, t2, fun h => (hsetRow_off hne _).trans (t3 h), fun h => absurd h n19⟩, hW.out.2.2.2.2.2.2⟩))
          | 19, _ =>
            obtain rfl := Option.some.inj ho
            have l17 : L 17 = true := dep_of hd (n := 17) (by decide)
            have l15 : L 15 = true := dep_of hd (n := 15) (by decide)
            have l7 : L 7 = true := dep_of hd (n := 7) (by decide)
            have l16 : L 16 = true := dep_of hd (n := 16) (by decide)
            have l18 : L 18 = true := dep_of hd (n := 18) (by decide)
            obtain ⟨ls, lt, L2, q82, q90, q6, q7, qS, qA, qB⟩ := hW.out.2.2.2.1 l15
            obtain ⟨gg, r1, r2, r3, r4⟩ := hW.out.2.2.2.2.2.1 l17
            obtain ⟨hh, t1, t2, t3, t4⟩ := hW.out.2.2.2.2.1 l16
            have hne : hh ≠ gg := fun e => hW.out.2.2.2.2.2.2 l16 l17 (by rw [t1, r1, e])
            have hl7 := Lib.hid (hc 15 7 l15 (by decide))
            have hl15 := Lib.hid l15
            have hgeW : W1.heap.size ≤ gg := Nat.le_trans hsz2.out r2
            have hall2 : (lt.map (Value.int .i64)).toArray.all (·.oneCell') = true := by simp [Value.oneCell']
            have hl18 := Lib.hid l18
            clear hd ho hi hc
            exact st_do (w' := W.setRow gg (lt.map (Value.int .i64)).toArray) (want_none rfl) (run_store_ 70 (.tmp 13) (.tmp 90) rfl gg _ (show T.getD 13 undef = _ from r1) (show T.getD 90 undef = _ from q90) _ _ (r3 hLi) (six_info lt q7) (by simp [six0, q7]) hall2) (hK.out _ _ (hF.out.pass (k := 19) rfl ⟨⟨(fun r cur t fr hc q1 q2 q3 => (hsetRow_off (show r ≠ gg by have := (Array.getElem?_eq_some_iff.1 hc).1; omega) _).trans (hW.out.1.1 r cur t fr hc q1 q2 q3)), Nat.le_trans hW.out.1.2 (by simp [World.setRow])⟩, fun h => absurd ((show L 7 = false from h).symm.trans hl7.out) (by decide), fun _ h => absurd ((show L 15 = false from h).symm.trans hl15.out) (by decide), fun _ => ⟨ls, lt, L2, q82, q90, q6, q7, qS.row_ hgeW (r3 hLi) _ (by decide) (by decide) (by decide) (by decide), qA, qB⟩, fun _ => ⟨hh, t1, t2, fun h => absurd ((show L 18 = false from h).symm.trans hl18.out) (by decide), fun h cs e => (hsetRow_off hne _).trans (t4 h cs e)⟩, fun _ => ⟨gg, r1, r2, fun h => absurd h (by simp), fun _ cs e => (by rw [q90] at e; injection e with e; rw [← e]; exact hsetRow _ _ _ _ _ _ (r3 hLi))⟩, hW.out.2.2.2.2.2.2⟩))
        case hdone =>
          intro L T W2 hF hW hall
          obtain ⟨ls, lt, L2, e82, e90, q6, q7, qS, qA, qB⟩ := hW.2.2.2.1 (hall 15 (by decide))
          obtain ⟨g12, e12, r2, _, r4⟩ := hW.2.2.2.2.1 (hall 16 (by decide))
          obtain ⟨g13, e13, t2, _, t4⟩ := hW.2.2.2.2.2.1 (hall 17 (by decide))
          have hs12 := Lib.hid (r4 (hall 18 (by decide)) _ e82)
          have hs13 := Lib.hid (t4 (hall 19 (by decide)) _ e90)
          have hst := Lib.hid hW.1
          have hT : T = #[.slice A n c, .agg ([x0, x1, x2].map (Value.int .i64)).toArray, .agg ([y0, y1, y2].map (Value.int .i64)).toArray, undef, .pointer (some ⟨p4, 0, none⟩), .pointer (some ⟨p5, 0, none⟩), u6, .pointer (some ⟨g, 0, none⟩), .pointer (some ⟨q, 0, none⟩), .pointer (some ⟨p9, 0, none⟩), .pointer (some ⟨p10, 0, none⟩), .int .i64 ↑3, .pointer (some ⟨g12, 0, none⟩), .pointer (some ⟨g13, 0, none⟩), undef, undef, .slice A n c, .bool true, .bool false, undef, .pointer (some ⟨g, 0, none⟩), .pointer (some ⟨g, 0, none⟩), .slice A n c, .agg #[.slice AI n cI, .slice AT n cT], .int .i64 ↑3, .bool false, u26, u27, u28, u29, u30, u31, u32, u33, u34, u35, u36, u37, u38, u39, u40, u41, u42, u43, u44, u45, u46, u47, u48, u49, u50, u51, u52, u53, u54, u55, u56, u57, u58, u59, u60, u61, u62, u63, u64, u65, u66, u67, u68, u69, u70, u71, u72, u73, u74, .pointer (some ⟨g, 0, none⟩), .pointer (some ⟨p9, 0, none⟩), .int .i64 a0, .pointer (some ⟨p9, 1, none⟩), .int .i64 a1, .pointer (some ⟨p9, 2, none⟩), .int .i64 a2, .agg (ls.map (Value.int .i64)).toArray, .pointer (some ⟨g, 0, none⟩), .pointer (some ⟨p10, 0, none⟩), .int .i64 b0, .pointer (some ⟨p10, 1, none⟩), .int .i64 b1, .pointer (some ⟨p10, 2, none⟩), .int .i64 b2, .agg (lt.map (Value.int .i64)).toArray, undef, undef, undef, undef, undef, undef, undef, undef, undef, undef, undef, undef, undef, undef, undef, undef, undef, undef, undef, undef, undef, undef, undef, undef, undef, undef, undef, undef, undef, undef, undef] := (hF.fin [(75, .pointer (some ⟨g, 0, none⟩)), (76, .pointer (some ⟨p9, 0, none⟩)), (77, .int .i64 a0), (78, .pointer (some ⟨p9, 1, none⟩)), (79, .int .i64 a1), (80, .pointer (some ⟨p9, 2, none⟩)), (81, .int .i64 a2), (82, .agg (ls.map (Value.int .i64)).toArray), (83, .pointer (some ⟨g, 0, none⟩)), (84, .pointer (some ⟨p10, 0, none⟩)), (85, .int .i64 b0), (86, .pointer (some ⟨p10, 1, none⟩)), (87, .int .i64 b1), (88, .pointer (some ⟨p10, 2, none⟩)), (89, .int .i64 b2), (90, .agg (lt.map (Value.int .i64)).toArray), (12, .pointer (some ⟨g12, 0, none⟩)), (13, .pointer (some ⟨g13, 0, none⟩))] [75, 76, 77, 78, 79, 80, 81, 82, 83, 84, 85, 86, 87, 88, 89, 90, 12, 13] rfl (List.forall_mem_cons.2 ⟨hF.val 0 _ _ (hall 0 (show 0 < 20 by decide)) rfl rfl, (List.forall_mem_cons.2 ⟨hF.val 1 _ _ (hall 1 (show 1 < 20 by decide)) rfl rfl, (List.forall_mem_cons.2 ⟨hF.val 2 _ _ (hall 2 (show 2 < 20 by decide)) rfl rfl, (List.forall_mem_cons.2 ⟨hF.val 3 _ _ (hall 3 (show 3 < 20 by decide)) rfl rfl, (List.forall_mem_cons.2 ⟨hF.val 4 _ _ (hall 4 (show 4 < 20 by decide)) rfl rfl, (List.forall_mem_cons.2 ⟨hF.val 5 _ _ (hall 5 (show 5 < 20 by decide)) rfl rfl, (List.forall_mem_cons.2 ⟨hF.val 6 _ _ (hall 6 (show 6 < 20 by decide)) rfl rfl, (List.forall_mem_cons.2 ⟨e82, (List.forall_mem_cons.2 ⟨hF.val 8 _ _ (hall 8 (show 8 < 20 by decide)) rfl rfl, (List.forall_mem_cons.2 ⟨hF.val 9 _ _ (hall 9 (show 9 < 20 by decide)) rfl rfl, (List.forall_mem_cons.2 ⟨hF.val 10 _ _ (hall 10 (show 10 < 20 by decide)) rfl rfl, (List.forall_mem_cons.2 ⟨hF.val 11 _ _ (hall 11 (show 11 < 20 by decide)) rfl rfl, (List.forall_mem_cons.2 ⟨hF.val 12 _ _ (hall 12 (show 12 < 20 by decide)) rfl rfl, (List.forall_mem_cons.2 ⟨hF.val 13 _ _ (hall 13 (show 13 < 20 by decide)) rfl rfl, (List.forall_mem_cons.2 ⟨hF.val 14 _ _ (hall 14 (show 14 < 20 by decide)) rfl rfl, (List.forall_mem_cons.2 ⟨e90, (List.forall_mem_cons.2 ⟨e12, (List.forall_mem_cons.2 ⟨e13, (fun _ h => absurd h List.not_mem_nil)⟩)⟩)⟩)⟩)⟩)⟩)⟩)⟩)⟩)⟩)⟩)⟩)⟩)⟩)⟩)⟩)⟩)⟩) (by decide)).trans (by kernel_rfl)
          clear hF hall
          subst hT
          have hgA := Lib.hid (And.intro hs12.out hs13.out)
          have h9d := hst.out.1 _ _ _ _ h9c.out (by decide) (by decide) (by decide)
          have h10d := hst.out.1 _ _ _ _ h10c.out (by decide) (by decide) (by decide)
          have hpq : Hid ((a0 = b0 ∧ a1 = b1 ∧ a2 = b2) ↔ (o0 = u0 ∧ o1 = u1 ∧ o2 = u2)) := by
            have e0 := Nm.inj hS.out.good.once hnX.out.1 hnY.out.1
            have e1 := Nm.inj hS.out.good.once hnX.out.2.1 hnY.out.2.1
            have e2 := Nm.inj hS.out.good.once hnX.out.2.2 hnY.out.2.2
            exact and_congr e0 (and_congr e1 e2)
          obtain ⟨pq, hpq2⟩ : ∃ pq : Bool, (pq = true ↔ (a0 = b0 ∧ a1 = b1 ∧ a2 = b2)) := ⟨decide (a0 = b0 ∧ a1 = b1 ∧ a2 = b2), by simp⟩
          have hcmp : Hid (∀ (i k : Nat) (z t : Int), i < 6 → k < 6 → ls[i]? = some z → lt[k]? = some t → (z == -1) = false ∧ (z == t) = (pq && decide (i = k))) := by
            intro i k z t hi hk hz ht
            have n1 := qA.nm i z _ hz (sixT_at _ _ _ hi)
            have n2 := qB.nm k t _ ht (sixT_at _ _ _ hk)
            refine ⟨(nm_none n1).2 (derive_fit hfX.out.1 hfX.out.2.1 hfX.out.2.2), ?_⟩
            have e := Nm.inj qS.good.once n1 n2
            have d := derive_inj (b := 65 + i) (b' := 65 + k) hfX.out.1 hfX.out.2.1 hfX.out.2.2 hfY.out.1 hfY.out.2.1 hfY.out.2.2
            rw [Bool.eq_iff_iff]
            simp only [beq_iff_eq, Bool.and_eq_true, decide_eq_true_eq]
            rw [e, d, hpq2, hpq.out]
            constructor
            · rintro ⟨h1, h2⟩; exact ⟨h2, by omega⟩
            · rintro ⟨h1, h2⟩; exact ⟨by omega, h1⟩
          have hll := Lib.hid (And.intro q6 q7)
          have hra : Hid (∀ x ∈ [a0, a1, a2], -9223372036854775808 ≤ x ∧ x ≤ 9223372036854775807) := by
            have := hLl.out; have r0 := hnX.out.1.lt; have r1 := hnX.out.2.1.lt; have r2' := hnX.out.2.2.lt
            intro x hx; simp only [List.mem_cons, List.not_mem_nil, or_false] at hx; rcases hx with rfl | rfl | rfl <;> omega
          have hrb : Hid (∀ x ∈ [b0, b1, b2], -9223372036854775808 ≤ x ∧ x ≤ 9223372036854775807) := by
            have := hLl.out; have r0 := hnY.out.1.lt; have r1 := hnY.out.2.1.lt; have r2' := hnY.out.2.2.lt
            intro x hx; simp only [List.mem_cons, List.not_mem_nil, or_false] at hx; rcases hx with rfl | rfl | rfl <;> omega
          have hpqh := Lib.hid hpq2
          have hWz := Lib.hid (qS.below)
          have hal := Lib.hid (And.intro h9d h10d)
          clear hW r4 t4 e82 e90 e12 e13 qA qB qS q6 q7 hpq2 h9d h10d hs12 hs13 hst r2 t2 hpq hfX hfY hnX hnY hS
          go_wp2_with fail
          have hR0 := Lib.hid (Below.refl W2.heap.size W2)
          go_loopw [14] (fun iv wi => ∃ i : Nat, i ≤ 6 ∧ iv = .int .i64 i ∧ Hid (Below W2.heap.size W2 wi)) (fun iv _ => 6 - (intOf iv).toNat)
          case atStart => exact ⟨0, by omega, rfl, hR0⟩
          case round =>
            clear hR0
            obtain ⟨i, hi, rfl, hbi⟩ := hrel
            by_cases hlt : i < 6
            · have hji : (i : Int) < 6 := by omega
              have hR1 := Lib.hid (Below.refl wr.heap.size wr)
              go_wp2_with fail
              go_loopw [15] (fun kv wk => ∃ k : Nat, k ≤ 6 ∧ kv = .int .i64 k ∧ Hid (Below wr.heap.size wr wk)) (fun kv _ => 6 - (intOf kv).toNat)
              case atStart => exact ⟨0, by omega, rfl, hR1⟩
              case round =>
                clear hR1
                obtain ⟨k, hk, rfl, hbk⟩ := hrel
                by_cases hkt : k < 6
                · have hjk : (k : Int) < 6 := by omega
                  obtain ⟨z, hz⟩ : ∃ z, ls[i]? = some z := ⟨ls[i]'(by have := hll.out.1; omega), List.getElem?_eq_getElem _⟩
                  obtain ⟨t, ht⟩ : ∃ t, lt[k]? = some t := ⟨lt[k]'(by have := hll.out.2; omega), List.getElem?_eq_getElem _⟩
                  obtain ⟨f1, f2⟩ := hcmp.out i k z t hlt hkt hz ht
                  obtain ⟨ik, hik⟩ : ∃ ik : Bool, ik = decide (i = k) := ⟨_, rfl⟩
                  rw [← hik] at f2
                  have f3 : ((i : Int) == (k : Int)) = ik := by rw [hik, Bool.eq_iff_iff]; simp; omega
                  clear hik
                  have hB := hbi.out.trans (hbk.out.mono hbi.out.size)
                  go_upto_region 20 with fail
                  have hB20 := Lib.hid hB
                  clear hB
                  have hbk0 := hbk
                  cases pq with
                  | false =>
                    have f2 : (z == t) = false := by simpa using f2
                    have hq20 : (false = true ↔ (a0 = b0 ∧ a1 = b1 ∧ a2 = b2)) := hpqh.out
                    replace hq20 := Lib.hid hq20
                    refine region_iw tbKyf dsKyf (vsKyf g12 g13 p9 p10 i k z t ik a0 a1 a2 b0 b1 b2) (fun L T W => Below wr.heap.size wr W) rfl (by decide) (by kernel_rfl) ?hlt ?hstep ?hdone ?hstart
                    case hstart => exact drewN_below 1
                    case hlt =>
                      intro ix o ho
                      have hi := (Array.getElem?_eq_some_iff.1 ho).1
                      match ix, hi with
                      | 0, _ => obtain rfl := Option.some.inj ho; decide
                      | 1, _ => obtain rfl := Option.some.inj ho; decide
                      | 2, _ => obtain rfl := Option.some.inj ho; decide
                      | 3, _ => obtain rfl := Option.some.inj ho; decide
                      | 4, _ => obtain rfl := Option.some.inj ho; decide
                      | 5, _ => obtain rfl := Option.some.inj ho; decide
                      | 6, _ => obtain rfl := Option.some.inj ho; decide
                      | 7, _ => obtain rfl := Option.some.inj ho; decide
                      | 8, _ => obtain rfl := Option.some.inj ho; decide
                      | 9, _ => obtain rfl := Option.some.inj ho; decide
                      | 10, _ => obtain rfl := Option.some.inj ho; decide
                      | 11, _ => obtain rfl := Option.some.inj ho; decide
                      | 12, _ => obtain rfl := Option.some.inj ho; decide
                      | 13, _ => obtain rfl := Option.some.inj ho; decide
                      | 14, _ => obtain rfl := Option.some.inj ho; decide
                      | 15, _ => obtain rfl := Option.some.inj ho; decide
                      | 16, _ => obtain rfl := Option.some.inj ho; decide
                      | 17, _ => obtain rfl := Option.some.inj ho; decide
                      | 18, _ => obtain rfl := Option.some.inj ho; decide
                      | 19, _ => obtain rfl := Option.some.inj ho; decide
                      | 20, _ => obtain rfl := Option.some.inj ho; decide
                      | 21, _ => obtain rfl := Option.some.inj ho; decide
                    case hstep =>
                      intro T1 hE L T W ix o hF hW hc ho hLi hd K hK
                      have hN : T1.size = 122 := by rw [hE]; rfl
                      have f9 : T.getD 9 undef = .pointer (some ⟨p9, 0, none⟩) := (hF.old 9 (by decide)).trans (by rw [hE]; rfl)
                      have f10 : T.getD 10 undef = .pointer (some ⟨p10, 0, none⟩) := (hF.old 10 (by decide)).trans (by rw [hE]; rfl)
                      have f12 : T.getD 12 undef = .pointer (some ⟨g12, 0, none⟩) := (hF.old 12 (by decide)).trans (by rw [hE]; rfl)
                      have f13 : T.getD 13 undef = .pointer (some ⟨g13, 0, none⟩) := (hF.old 13 (by decide)).trans (by rw [hE]; rfl)
                      have f14 : T.getD 14 undef = .int .i64 ↑i := (hF.old 14 (by decide)).trans (by rw [hE]; rfl)
                      have f15 : T.getD 15 undef = .int .i64 ↑k := (hF.old 15 (by decide)).trans (by rw [hE]; rfl)
                      clear hE
                      replace hF := Lib.hid hF
                      replace hW := Lib.hid hW
                      replace hK := Lib.hid hK
                      have hi := (List.getElem?_eq_some_iff.1 ho).1
                      match ix, hi with
                      | 0, _ =>
                        obtain rfl := Option.some.inj ho
                        clear hd ho hi hc hLi
                        exact st_val (v := .int .i64 ↑i) (w' := W) (want_none rfl) (by unfold execOp; dsimp only [Act.eval]; simp only [f14]; go_simp) (hK.out _ _ (hF.out.put (k := 0) (s := 99) rfl (by decide) hN (by decide) (fun u hu => Option.some.inj (Option.some.inj (show some (some (.int .i64 ↑i)) = some (some u) from hu))) hW.out))
                      | 1, _ =>
                        obtain rfl := Option.some.inj ho
                        have l0 : L 0 = true := dep_of hd (n := 0) (by decide)
                        have e99 : T.getD 99 undef = .int .i64 ↑i := hF.out.val 0 99 _ l0 rfl rfl
                        clear hd ho hi hc hLi
                        exact st_val (v := .pointer (some ⟨g12, i, none⟩)) (w' := W) (want_none rfl) (by unfold execOp; dsimp only [Act.eval]; simp only [f12, e99]; go_simp) (hK.out _ _ (hF.out.put (k := 1) (s := 100) rfl (by decide) hN (by decide) (fun u hu => Option.some.inj (Option.some.inj (show some (some (.pointer (some ⟨g12, i, none⟩))) = some (some u) from hu))) hW.out))
                      | 2, _ =>
                        obtain rfl := Option.some.inj ho
                        have l1 : L 1 = true := dep_of hd (n := 1) (by decide)
                        have e100 : T.getD 100 undef = .pointer (some ⟨g12, i, none⟩) := hF.out.val 1 100 _ l1 rfl rfl
                        have hcc : W.cell? ⟨g12, i, none⟩ = some (.int .i64 z) := (cell_of_row W g12 i _ _ _ (((hB20.out.trans (hW.out.mono hB20.out.size)).block g12 (Array.getElem?_eq_some_iff.1 hgA.out.1).1).trans hgA.out.1)).trans (by rw [List.getElem?_toArray, List.getElem?_map, hz]; rfl)
                        clear hd ho hi hc hLi
                        exact st_val (v := .int .i64 z) (w' := W) (want_none rfl) (by unfold execOp; dsimp only [Act.eval]; simp only [e100]; go_simp) (hK.out _ _ (hF.out.put (k := 2) (s := 101) rfl (by decide) hN (by decide) (fun u hu => Option.some.inj (Option.some.inj (show some (some (.int .i64 z)) = some (some u) from hu))) hW.out))
                      | 3, _ =>
                        obtain rfl := Option.some.inj ho
                        have l2 : L 2 = true := dep_of hd (n := 2) (by decide)
                        have e101 : T.getD 101 undef = .int .i64 z := hF.out.val 2 101 _ l2 rfl rfl
                        clear hd ho hi hc hLi
                        exact st_val (v := .bool false) (w' := W) (want_none rfl) (by unfold execOp; dsimp only [Act.eval]; simp only [e101]; go_simp) (hK.out _ _ (hF.out.put (k := 3) (s := 102) rfl (by decide) hN (by decide) (fun u hu => Option.some.inj (Option.some.inj (show some (some (.bool false)) = some (some u) from hu))) hW.out))
                      | 4, _ =>
                        obtain rfl := Option.some.inj ho
                        have l3 : L 3 = true := dep_of hd (n := 3) (by decide)
                        have e102 : T.getD 102 undef = .bool false := hF.out.val 3 102 _ l3 rfl rfl
                        clear hd ho hi hc hLi
                        exact st_val (v := .bool false) (w' := W) (want_none rfl) (by unfold execOp; dsimp only [Act.eval]; simp only [e102]; go_simp) (hK.out _ _ (hF.out.put (k := 4) (s := 103) rfl (by decide) hN (by decide) (fun u hu => Option.some.inj (Option.some.inj (show some (some (.bool false)) = some (some u) from hu))) hW.out))
                      | 5, _ =>
                        obtain rfl := Option.some.inj ho
                        have l4 : L 4 = true := dep_of hd (n := 4) (by decide)
                        have e103 : T.getD 103 undef = .bool false := hF.out.val 4 103 _ l4 rfl rfl
                        clear hd ho hi hc hLi
                        exact st_val (v := .int .i64 ↑i) (w' := W) (by rw [want_some (j := 4) (s := 103) rfl rfl e103]; rfl) (by unfold execOp; dsimp only [Act.eval]; simp only [f14]; go_simp) (hK.out _ _ (hF.out.put (k := 5) (s := 104) rfl (by decide) hN (by decide) (fun u hu => Option.some.inj (Option.some.inj (show some (some (.int .i64 ↑i)) = some (some u) from hu))) hW.out))
                      | 6, _ =>
                        obtain rfl := Option.some.inj ho
                        have l5 : L 5 = true := dep_of hd (n := 5) (by decide)
                        have e104 : T.getD 104 undef = .int .i64 ↑i := hF.out.val 5 104 _ l5 rfl rfl
                        have l4 : L 4 = true := dep_of hd (n := 4) (by decide)
                        have e103 : T.getD 103 undef = .bool false := hF.out.val 4 103 _ l4 rfl rfl
                        clear hd ho hi hc hLi
                        exact st_val (v := .pointer (some ⟨g12, i, none⟩)) (w' := W) (by rw [want_some (j := 4) (s := 103) rfl rfl e103]; rfl) (by unfold execOp; dsimp only [Act.eval]; simp only [f12, e104]; go_simp) (hK.out _ _ (hF.out.put (k := 6) (s := 105) rfl (by decide) hN (by decide) (fun u hu => Option.some.inj (Option.some.inj (show some (some (.pointer (some ⟨g12, i, none⟩))) = some (some u) from hu))) hW.out))
                      | 7, _ =>
                        obtain rfl := Option.some.inj ho
                        have l6 : L 6 = true := dep_of hd (n := 6) (by decide)
                        have e105 : T.getD 105 undef = .pointer (some ⟨g12, i, none⟩) := hF.out.val 6 105 _ l6 rfl rfl
                        have l4 : L 4 = true := dep_of hd (n := 4) (by decide)
                        have e103 : T.getD 103 undef = .bool false := hF.out.val 4 103 _ l4 rfl rfl
                        have hcc : W.cell? ⟨g12, i, none⟩ = some (.int .i64 z) := (cell_of_row W g12 i _ _ _ (((hB20.out.trans (hW.out.mono hB20.out.size)).block g12 (Array.getElem?_eq_some_iff.1 hgA.out.1).1).trans hgA.out.1)).trans (by rw [List.getElem?_toArray, List.getElem?_map, hz]; rfl)
                        clear hd ho hi hc hLi
                        exact st_val (v := .int .i64 z) (w' := W) (by rw [want_some (j := 4) (s := 103) rfl rfl e103]; rfl) (by unfold execOp; dsimp only [Act.eval]; simp only [e105]; go_simp) (hK.out _ _ (hF.out.put (k := 7) (s := 106) rfl (by decide) hN (by decide) (fun u hu => Option.some.inj (Option.some.inj (show some (some (.int .i64 z)) = some (some u) from hu))) hW.out))
                      | 8, _ =>
                        obtain rfl := Option.some.inj ho
                        have l4 : L 4 = true := dep_of hd (n := 4) (by decide)
                        have e103 : T.getD 103 undef = .bool false := hF.out.val 4 103 _ l4 rfl rfl
                        clear hd ho hi hc hLi
                        exact st_val (v := .int .i64 ↑k) (w' := W) (by rw [want_some (j := 4) (s := 103) rfl rfl e103]; rfl) (by unfold execOp; dsimp only [Act.eval]; simp only [f15]; go_simp) (hK.out _ _ (hF.out.put (k := 8) (s := 107) rfl (by decide) hN (by decide) (fun u hu => Option.some.inj (Option.some.inj (show some (some (.int .i64 ↑k)) = some (some u) from hu))) hW.out))
                      | 9, _ =>
                        obtain rfl := Option.some.inj ho
                        have l8 : L 8 = true := dep_of hd (n := 8) (by decide)
                        have e107 : T.getD 107 undef = .int .i64 ↑k := hF.out.val 8 107 _ l8 rfl rfl
                        have l4 : L 4 = true := dep_of hd (n := 4) (by decide)
                        have e103 : T.getD 103 undef = .bool false := hF.out.val 4 103 _ l4 rfl rfl
                        clear hd ho hi hc hLi
                        exact st_val (v := .pointer (some ⟨g13, k, none⟩)) (w' := W) (by rw [want_some (j := 4) (s := 103) rfl rfl e103]; rfl) (by unfold execOp; dsimp only [Act.eval]; simp only [f13, e107]; go_simp) (hK.out _ _ (hF.out.put (k := 9) (s := 108) rfl (by decide) hN (by decide) (fun u hu => Option.some.inj (Option.some.inj (show some (some (.pointer (some ⟨g13, k, none⟩))) = some (some u) from hu))) hW.out))
                      | 10, _ =>
                        obtain rfl := Option.some.inj ho
                        have l9 : L 9 = true := dep_of hd (n := 9) (by decide)
                        have e108 : T.getD 108 undef = .pointer (some ⟨g13, k, none⟩) := hF.out.val 9 108 _ l9 rfl rfl
                        have l4 : L 4 = true := dep_of hd (n := 4) (by decide)
                        have e103 : T.getD 103 undef = .bool false := hF.out.val 4 103 _ l4 rfl rfl
                        have hcc : W.cell? ⟨g13, k, none⟩ = some (.int .i64 t) := (cell_of_row W g13 k _ _ _ (((hB20.out.trans (hW.out.mono hB20.out.size)).block g13 (Array.getElem?_eq_some_iff.1 hgA.out.2).1).trans hgA.out.2)).trans (by rw [List.getElem?_toArray, List.getElem?_map, ht]; rfl)
                        clear hd ho hi hc hLi
                        exact st_val (v := .int .i64 t) (w' := W) (by rw [want_some (j := 4) (s := 103) rfl rfl e103]; rfl) (by unfold execOp; dsimp only [Act.eval]; simp only [e108]; go_simp) (hK.out _ _ (hF.out.put (k := 10) (s := 109) rfl (by decide) hN (by decide) (fun u hu => Option.some.inj (Option.some.inj (show some (some (.int .i64 t)) = some (some u) from hu))) hW.out))
                      | 11, _ =>
                        obtain rfl := Option.some.inj ho
                        have l7 : L 7 = true := dep_of hd (n := 7) (by decide)
                        have e106 : T.getD 106 undef = .int .i64 z := hF.out.val 7 106 _ l7 rfl rfl
                        have l10 : L 10 = true := dep_of hd (n := 10) (by decide)
                        have e109 : T.getD 109 undef = .int .i64 t := hF.out.val 10 109 _ l10 rfl rfl
                        have l4 : L 4 = true := dep_of hd (n := 4) (by decide)
                        have e103 : T.getD 103 undef = .bool false := hF.out.val 4 103 _ l4 rfl rfl
                        clear hd ho hi hc hLi
                        exact st_val (v := .bool false) (w' := W) (by rw [want_some (j := 4) (s := 103) rfl rfl e103]; rfl) (by unfold execOp; dsimp only [Act.eval]; simp only [e106, e109]; go_simp) (hK.out _ _ (hF.out.put (k := 11) (s := 110) rfl (by decide) hN (by decide) (fun u hu => Option.some.inj (Option.some.inj (show some (some (.bool false)) = some (some u) from hu))) hW.out))
                      | 12, _ =>
                        obtain rfl := Option.some.inj ho
                        have l4 : L 4 = true := dep_of hd (n := 4) (by decide)
                        have e103 : T.getD 103 undef = .bool false := hF.out.val 4 103 _ l4 rfl rfl
                        have hrw := rangeAt_list (((hB20.out.trans (hW.out.mono hB20.out.size)).block p9 (Array.getElem?_eq_some_iff.1 hal.out.1).1).trans hal.out.1)
                        clear hd ho hi hc hLi
                        exact st_val (v := .agg #[.int .i64 a0, .int .i64 a1, .int .i64 a2]) (w' := W) (by rw [want_some (j := 4) (s := 103) rfl rfl e103]; rfl) (run_load_ 67 (.tmp 9) rfl p9 0 (show T.getD 9 undef = _ from f9) [.int .i64 a0, .int .i64 a1, .int .i64 a2] _ hrw Tryd.underlying67 rfl (by kernel_rfl)) (hK.out _ _ (hF.out.put (k := 12) (s := 111) rfl (by decide) hN (by decide) (fun u hu => Option.some.inj (Option.some.inj (show some (some (.agg #[.int .i64 a0, .int .i64 a1, .int .i64 a2])) = some (some u) from hu))) hW.out))
                      | 13, _ =>
                        obtain rfl := Option.some.inj ho
                        have l4 : L 4 = true := dep_of hd (n := 4) (by decide)
                        have e103 : T.getD 103 undef = .bool false := hF.out.val 4 103 _ l4 rfl rfl
                        have hrw := rangeAt_list (((hB20.out.trans (hW.out.mono hB20.out.size)).block p10 (Array.getElem?_eq_some_iff.1 hal.out.2).1).trans hal.out.2)
                        clear hd ho hi hc hLi
                        exact st_val (v := .agg #[.int .i64 b0, .int .i64 b1, .int .i64 b2]) (w' := W) (by rw [want_some (j := 4) (s := 103) rfl rfl e103]; rfl) (run_load_ 67 (.tmp 10) rfl p10 0 (show T.getD 10 undef = _ from f10) [.int .i64 b0, .int .i64 b1, .int .i64 b2] _ hrw Tryd.underlying67 rfl (by kernel_rfl)) (hK.out _ _ (hF.out.put (k := 13) (s := 112) rfl (by decide) hN (by decide) (fun u hu => Option.some.inj (Option.some.inj (show some (some (.agg #[.int .i64 b0, .int .i64 b1, .int .i64 b2])) = some (some u) from hu))) hW.out))
                      | 14, _ =>
                        obtain rfl := Option.some.inj ho
                        have l12 : L 12 = true := dep_of hd (n := 12) (by decide)
                        have e111 : T.getD 111 undef = .agg #[.int .i64 a0, .int .i64 a1, .int .i64 a2] := hF.out.val 12 111 _ l12 rfl rfl
                        have l13 : L 13 = true := dep_of hd (n := 13) (by decide)
                        have e112 : T.getD 112 undef = .agg #[.int .i64 b0, .int .i64 b1, .int .i64 b2] := hF.out.val 13 112 _ l13 rfl rfl
                        have l4 : L 4 = true := dep_of hd (n := 4) (by decide)
                        have e103 : T.getD 103 undef = .bool false := hF.out.val 4 103 _ l4 rfl rfl
                        clear hd ho hi hc hLi
                        exact st_val (v := .bool false) (w' := W) (by rw [want_some (j := 4) (s := 103) rfl rfl e103]; rfl) (run_eql_at_ 67 _ (.tmp 111) (.tmp 112) rfl _ _ (show T.getD 111 undef = _ from e111) (show T.getD 112 undef = _ from e112) tri_guard false (eql_arr a0 a1 a2 b0 b1 b2 hra.out hrb.out false hq20.out W)) (hK.out _ _ (hF.out.put (k := 14) (s := 113) rfl (by decide) hN (by decide) (fun u hu => Option.some.inj (Option.some.inj (show some (some (.bool false)) = some (some u) from hu))) hW.out))
                      | 15, _ =>
                        obtain rfl := Option.some.inj ho
                        have l14 : L 14 = true := dep_of hd (n := 14) (by decide)
                        have e113 : T.getD 113 undef = .bool false := hF.out.val 14 113 _ l14 rfl rfl
                        have l4 : L 4 = true := dep_of hd (n := 4) (by decide)
                        have e103 : T.getD 103 undef = .bool false := hF.out.val 4 103 _ l4 rfl rfl
                        clear hd ho hi hc hLi
                        exact st_val (v := .bool false) (w' := W) (by rw [want_some (j := 4) (s := 103) rfl rfl e103]; rfl) (by unfold execOp; dsimp only [Act.eval]; simp only [e113]; go_simp) (hK.out _ _ (hF.out.put (k := 15) (s := 114) rfl (by decide) hN (by decide) (fun u hu => Option.some.inj (Option.some.inj (show some (some (.bool false)) = some (some u) from hu))) hW.out))
                      | 16, _ =>
                        obtain rfl := Option.some.inj ho
                        have l15 : L 15 = true := dep_of hd (n := 15) (by decide)
                        have e114 : T.getD 114 undef = .bool false := hF.out.val 15 114 _ l15 rfl rfl
                        clear hd ho hi hc hLi
                        exact st_no (by rw [want_some (j := 15) (s := 114) rfl rfl e114]; rfl) (hK.out _ _ (hF.out.put (k := 16) (s := 115) rfl (by decide) hN (by decide) (fun u hu => Option.some.inj (Option.some.inj (show some (some (undef)) = some (some u) from hu))) hW.out))
                      | 17, _ =>
                        obtain rfl := Option.some.inj ho
                        have l15 : L 15 = true := dep_of hd (n := 15) (by decide)
                        have e114 : T.getD 114 undef = .bool false := hF.out.val 15 114 _ l15 rfl rfl
                        clear hd ho hi hc hLi
                        exact st_no (by rw [want_some (j := 15) (s := 114) rfl rfl e114]; rfl) (hK.out _ _ (hF.out.put (k := 17) (s := 116) rfl (by decide) hN (by decide) (fun u hu => Option.some.inj (Option.some.inj (show some (some (undef)) = some (some u) from hu))) hW.out))
                      | 18, _ =>
                        obtain rfl := Option.some.inj ho
                        have l15 : L 15 = true := dep_of hd (n := 15) (by decide)
                        have e114 : T.getD 114 undef = .bool false := hF.out.val 15 114 _ l15 rfl rfl
                        clear hd ho hi hc hLi
                        exact st_no (by rw [want_some (j := 15) (s := 114) rfl rfl e114]; rfl) (hK.out _ _ (hF.out.put (k := 18) (s := 117) rfl (by decide) hN (by decide) (fun u hu => Option.some.inj (Option.some.inj (show some (some (undef)) = some (some u) from hu))) hW.out))
                      | 19, _ =>
                        obtain rfl := Option.some.inj ho
                        have l15 : L 15 = true := dep_of hd (n := 15) (by decide)
                        have e114 : T.getD 114 undef = .bool false := hF.out.val 15 114 _ l15 rfl rfl
                        have l18 : L 18 = true := dep_of hd (n := 18) (by decide)
                        have e117 : T.getD 117 undef = undef := hF.out.val 18 117 _ l18 rfl rfl
                        have l4 : L 4 = true := dep_of hd (n := 4) (by decide)
                        have e103 : T.getD 103 undef = .bool false := hF.out.val 4 103 _ l4 rfl rfl
                        clear hd ho hi hc hLi
                        exact st_val (v := .bool false) (w' := W) (by rw [want_some (j := 4) (s := 103) rfl rfl e103]; rfl) (by unfold execOp; dsimp only [Act.eval]; simp only [e114, e117]; go_simp) (hK.out _ _ (hF.out.put (k := 19) (s := 118) rfl (by decide) hN (by decide) (fun u hu => Option.some.inj (Option.some.inj (show some (some (.bool false)) = some (some u) from hu))) hW.out))
                      | 20, _ =>
                        obtain rfl := Option.some.inj ho
                        have l11 : L 11 = true := dep_of hd (n := 11) (by decide)
                        have e110 : T.getD 110 undef = .bool false := hF.out.val 11 110 _ l11 rfl rfl
                        have l19 : L 19 = true := dep_of hd (n := 19) (by decide)
                        have e118 : T.getD 118 undef = .bool false := hF.out.val 19 118 _ l19 rfl rfl
                        have l4 : L 4 = true := dep_of hd (n := 4) (by decide)
                        have e103 : T.getD 103 undef = .bool false := hF.out.val 4 103 _ l4 rfl rfl
                        clear hd ho hi hc hLi
                        exact st_val (v := .bool false) (w' := W) (by rw [want_some (j := 4) (s := 103) rfl rfl e103]; rfl) (by unfold execOp; dsimp only [Act.eval]; simp only [e110, e118]; go_simp) (hK.out _ _ (hF.out.put (k := 20) (s := 119) rfl (by decide) hN (by decide) (fun u hu => Option.some.inj (Option.some.inj (show some (some (.bool false)) = some (some u) from hu))) hW.out))
                      | 21, _ =>
                        obtain rfl := Option.some.inj ho
                        have l4 : L 4 = true := dep_of hd (n := 4) (by decide)
                        have e103 : T.getD 103 undef = .bool false := hF.out.val 4 103 _ l4 rfl rfl
                        have l20 : L 20 = true := dep_of hd (n := 20) (by decide)
                        have e119 : T.getD 119 undef = .bool false := hF.out.val 20 119 _ l20 rfl rfl
                        clear hd ho hi hc hLi
                        exact st_val (v := .bool false) (w' := W) (want_none rfl) (by unfold execOp; dsimp only [Act.eval]; simp only [e103, e119]; go_simp) (hK.out _ _ (hF.out.put (k := 21) (s := 120) rfl (by decide) hN (by decide) (fun u hu => Option.some.inj (Option.some.inj (show some (some (.bool false)) = some (some u) from hu))) hW.out))
                    case hdone =>
                      intro L T W2 hF hW hall
                      have hT : T = #[.slice A n c, .agg ([x0, x1, x2].map (Value.int .i64)).toArray, .agg ([y0, y1, y2].map (Value.int .i64)).toArray, undef, .pointer (some ⟨p4, 0, none⟩), .pointer (some ⟨p5, 0, none⟩), u6, .pointer (some ⟨g, 0, none⟩), .pointer (some ⟨q, 0, none⟩), .pointer (some ⟨p9, 0, none⟩), .pointer (some ⟨p10, 0, none⟩), .int .i64 3, .pointer (some ⟨g12, 0, none⟩), .pointer (some ⟨g13, 0, none⟩), .int .i64 ↑i, .int .i64 ↑k, .slice A n c, .bool true, .bool false, undef, .pointer (some ⟨g, 0, none⟩), .pointer (some ⟨g, 0, none⟩), .slice A n c, .agg #[.slice AI n cI, .slice AT n cT], .int .i64 3, .bool false, u26, u27, u28, u29, u30, u31, u32, u33, u34, u35, u36, u37, u38, u39, u40, u41, u42, u43, u44, u45, u46, u47, u48, u49, u50, u51, u52, u53, u54, u55, u56, u57, u58, u59, u60, u61, u62, u63, u64, u65, u66, u67, u68, u69, u70, u71, u72, u73, u74, .pointer (some ⟨g, 0, none⟩), .pointer (some ⟨p9, 0, none⟩), .int .i64 a0, .pointer (some ⟨p9, 1, none⟩), .int .i64 a1, .pointer (some ⟨p9, 2, none⟩), .int .i64 a2, .agg (List.map (.int .i64) ls).toArray, .pointer (some ⟨g, 0, none⟩), .pointer (some ⟨p10, 0, none⟩), .int .i64 b0, .pointer (some ⟨p10, 1, none⟩), .int .i64 b1, .pointer (some ⟨p10, 2, none⟩), .int .i64 b2, .agg (List.map (.int .i64) lt).toArray, .int .i64 ↑i, .bool true, u93, u94, .int .i64 ↑k, .bool true, u97, u98, .int .i64 ↑i, .pointer (some ⟨g12, i, none⟩), .int .i64 z, .bool false, .bool false, .int .i64 ↑i, .pointer (some ⟨g12, i, none⟩), .int .i64 z, .int .i64 ↑k, .pointer (some ⟨g13, k, none⟩), .int .i64 t, .bool false, .agg #[.int .i64 a0, .int .i64 a1, .int .i64 a2], .agg #[.int .i64 b0, .int .i64 b1, .int .i64 b2], .bool false, .bool false, undef, undef, undef, .bool false, .bool false, .bool false, undef] := (hF.fin [(99, .int .i64 ↑i), (100, .pointer (some ⟨g12, i, none⟩)), (101, .int .i64 z), (102, .bool false), (103, .bool false), (104, .int .i64 ↑i), (105, .pointer (some ⟨g12, i, none⟩)), (106, .int .i64 z), (107, .int .i64 ↑k), (108, .pointer (some ⟨g13, k, none⟩)), (109, .int .i64 t), (110, .bool false), (111, .agg #[.int .i64 a0, .int .i64 a1, .int .i64 a2]), (112, .agg #[.int .i64 b0, .int .i64 b1, .int .i64 b2]), (113, .bool false), (114, .bool false), (115, undef), (116, undef), (117, undef), (118, .bool false), (119, .bool false), (120, .bool false)] [99, 100, 101, 102, 103, 104, 105, 106, 107, 108, 109, 110, 111, 112, 113, 114, 115, 116, 117, 118, 119, 120] rfl (List.forall_mem_cons.2 ⟨hF.val 0 _ _ (hall 0 (show 0 < 22 by decide)) rfl rfl, (List.forall_mem_cons.2 ⟨hF.val 1 _ _ (hall 1 (show 1 < 22 by decide)) rfl rfl, (List.forall_mem_cons.2 ⟨hF.val 2 _ _ (hall 2 (show 2 < 22 by decide)) rfl rfl, (List.forall_mem_cons.2 ⟨hF.val 3 _ _ (hall 3 (show 3 < 22 by decide)) rfl rfl, (List.forall_mem_cons.2 ⟨hF.val 4 _ _ (hall 4 (show 4 < 22 by decide)) rfl rfl, (List.forall_mem_cons.2 ⟨hF.val 5 _ _ (hall 5 (show 5 < 22 by decide)) rfl rfl, (List.forall_mem_cons.2 ⟨hF.val 6 _ _ (hall 6 (show 6 < 22 by decide)) rfl rfl, (List.forall_mem_cons.2 ⟨hF.val 7 _ _ (hall 7 (show 7 < 22 by decide)) rfl rfl, (List.forall_mem_cons.2 ⟨hF.val 8 _ _ (hall 8 (show 8 < 22 by decide)) rfl rfl, (List.forall_mem_cons.2 ⟨hF.val 9 _ _ (hall 9 (show 9 < 22 by decide)) rfl rfl, (List.forall_mem_cons.2 ⟨hF.val 10 _ _ (hall 10 (show 10 < 22 by decide)) rfl rfl, (List.forall_mem_cons.2 ⟨hF.val 11 _ _ (hall 11 (show 11 < 22 by decide)) rfl rfl, (List.forall_mem_cons.2 ⟨hF.val 12 _ _ (hall 12 (show 12 < 22 by decide)) rfl rfl, (List.forall_mem_cons.2 ⟨hF.val 13 _ _ (hall 13 (show 13 < 22 by decide)) rfl rfl, (List.forall_mem_cons.2 ⟨hF.val 14 _ _ (hall 14 (show 14 < 22 by decide)) rfl rfl, (List.forall_mem_cons.2 ⟨hF.val 15 _ _ (hall 15 (show 15 < 22 by decide)) rfl rfl, (List.forall_mem_cons.2 ⟨hF.val 16 _ _ (hall 16 (show 16 < 22 by decide)) rfl rfl, (List.forall_mem_cons.2 ⟨hF.val 17 _ _ (hall 17 (show 17 < 22 by decide)) rfl rfl, (List.forall_mem_cons.2 ⟨hF.val 18 _ _ (hall 18 (show 18 < 22 by decide)) rfl rfl, (List.forall_mem_cons.2 ⟨hF.val 19 _ _ (hall 19 (show 19 < 22 by decide)) rfl rfl, (List.forall_mem_cons.2 ⟨hF.val 20 _ _ (hall 20 (show 20 < 22 by decide)) rfl rfl, (List.forall_mem_cons.2 ⟨hF.val 21 _ _ (hall 21 (show 21 < 22 by decide)) rfl rfl, (fun _ h => absurd h List.not_mem_nil)⟩)⟩)⟩)⟩)⟩)⟩)⟩)⟩)⟩)⟩)⟩)⟩)⟩)⟩)⟩)⟩)⟩)⟩)⟩)⟩)⟩)⟩) (by decide)).trans (by kernel_rfl)
                      clear hF hall
                      subst hT
                      have hbz := Lib.hid (hbk0.out.trans (hW.mono hbk0.out.size))
                      clear hW
                      go_wp2_with fail
                      go_roundw
                      case rel => exact ⟨k + 1, by omega, by go_num, hbz⟩
                      case measure => simp [intOf]; omega
                  | true =>
                    have f2 : (z == t) = ik := by simpa using f2
                    have hq20 : (true = true ↔ (a0 = b0 ∧ a1 = b1 ∧ a2 = b2)) := hpqh.out
                    replace hq20 := Lib.hid hq20
                    refine region_iw tbKyt dsKyt (vsKyt g12 g13 p9 p10 i k z t ik a0 a1 a2 b0 b1 b2) (fun L T W => Below wr.heap.size wr W) rfl (by decide) (by kernel_rfl) ?hlt ?hstep ?hdone ?hstart
                    case hstart => exact drewN_below 1
                    case hlt =>
                      intro ix o ho
                      have hi := (Array.getElem?_eq_some_iff.1 ho).1
                      match ix, hi with
                      | 0, _ => obtain rfl := Option.some.inj ho; decide
                      | 1, _ => obtain rfl := Option.some.inj ho; decide
                      | 2, _ => obtain rfl := Option.some.inj ho; decide
                      | 3, _ => obtain rfl := Option.some.inj ho; decide
                      | 4, _ => obtain rfl := Option.some.inj ho; decide
                      | 5, _ => obtain rfl := Option.some.inj ho; decide
                      | 6, _ => obtain rfl := Option.some.inj ho; decide
                      | 7, _ => obtain rfl := Option.some.inj ho; decide
                      | 8, _ => obtain rfl := Option.some.inj ho; decide
                      | 9, _ => obtain rfl := Option.some.inj ho; decide
                      | 10, _ => obtain rfl := Option.some.inj ho; decide
                      | 11, _ => obtain rfl := Option.some.inj ho; decide
                      | 12, _ => obtain rfl := Option.some.inj ho; decide
                      | 13, _ => obtain rfl := Option.some.inj ho; decide
                      | 14, _ => obtain rfl := Option.some.inj ho; decide
                      | 15, _ => obtain rfl := Option.some.inj ho; decide
                      | 16, _ => obtain rfl := Option.some.inj ho; decide
                      | 17, _ => obtain rfl := Option.some.inj ho; decide
                      | 18, _ => obtain rfl := Option.some.inj ho; decide
                      | 19, _ => obtain rfl := Option.some.inj ho; decide
                      | 20, _ => obtain rfl := Option.some.inj ho; decide
                      | 21, _ => obtain rfl := Option.some.inj ho; decide
                    case hstep =>
                      intro T1 hE L T W ix o hF hW hc ho hLi hd K hK
                      have hN : T1.size = 122 := by rw [hE]; rfl
                      have f9 : T.getD 9 undef = .pointer (some ⟨p9, 0, none⟩) := (hF.old 9 (by decide)).trans (by rw [hE]; rfl)
                      have f10 : T.getD 10 undef = .pointer (some ⟨p10, 0, none⟩) := (hF.old 10 (by decide)).trans (by rw [hE]; rfl)
                      have f12 : T.getD 12 undef = .pointer (some ⟨g12, 0, none⟩) := (hF.old 12 (by decide)).trans (by rw [hE]; rfl)
                      have f13 : T.getD 13 undef = .pointer (some ⟨g13, 0, none⟩) := (hF.old 13 (by decide)).trans (by rw [hE]; rfl)
                      have f14 : T.getD 14 undef = .int .i64 ↑i := (hF.old 14 (by decide)).trans (by rw [hE]; rfl)
                      have f15 : T.getD 15 undef = .int .i64 ↑k := (hF.old 15 (by decide)).trans (by rw [hE]; rfl)
                      clear hE
                      replace hF := Lib.hid hF
                      replace hW := Lib.hid hW
                      replace hK := Lib.hid hK
                      have hi := (List.getElem?_eq_some_iff.1 ho).1
                      match ix, hi with
                      | 0, _ =>
                        obtain rfl := Option.some.inj ho
                        clear hd ho hi hc hLi
                        exact st_val (v := .int .i64 ↑i) (w' := W) (want_none rfl) (by unfold execOp; dsimp only [Act.eval]; simp only [f14]; go_simp) (hK.out _ _ (hF.out.put (k := 0) (s := 99) rfl (by decide) hN (by decide) (fun u hu => Option.some.inj (Option.some.inj (show some (some (.int .i64 ↑i)) = some (some u) from hu))) hW.out))
                      | 1, _ =>
                        obtain rfl := Option.some.inj ho
                        have l0 : L 0 = true := dep_of hd (n := 0) (by decide)
                        have e99 : T.getD 99 undef = .int .i64 ↑i := hF.out.val 0 99 _ l0 rfl rfl
                        clear hd ho hi hc hLi
                        exact st_val (v := .pointer (some ⟨g12, i, none⟩)) (w' := W) (want_none rfl) (by unfold execOp; dsimp only [Act.eval]; simp only [f12, e99]; go_simp) (hK.out _ _ (hF.out.put (k := 1) (s := 100) rfl (by decide) hN (by decide) (fun u hu => Option.some.inj (Option.some.inj (show some (some (.pointer (some ⟨g12, i, none⟩))) = some (some u) from hu))) hW.out))
                      | 2, _ =>
                        obtain rfl := Option.some.inj ho
                        have l1 : L 1 = true := dep_of hd (n := 1) (by decide)
                        have e100 : T.getD 100 undef = .pointer (some ⟨g12, i, none⟩) := hF.out.val 1 100 _ l1 rfl rfl
                        have hcc : W.cell? ⟨g12, i, none⟩ = some (.int .i64 z) := (cell_of_row W g12 i _ _ _ (((hB20.out.trans (hW.out.mono hB20.out.size)).block g12 (Array.getElem?_eq_some_iff.1 hgA.out.1).1).trans hgA.out.1)).trans (by rw [List.getElem?_toArray, List.getElem?_map, hz]; rfl)
                        clear hd ho hi hc hLi
                        exact st_val (v := .int .i64 z) (w' := W) (want_none rfl) (by unfold execOp; dsimp only [Act.eval]; simp only [e100]; go_simp) (hK.out _ _ (hF.out.put (k := 2) (s := 101) rfl (by decide) hN (by decide) (fun u hu => Option.some.inj (Option.some.inj (show some (some (.int .i64 z)) = some (some u) from hu))) hW.out))
                      | 3, _ =>
                        obtain rfl := Option.some.inj ho
                        have l2 : L 2 = true := dep_of hd (n := 2) (by decide)
                        have e101 : T.getD 101 undef = .int .i64 z := hF.out.val 2 101 _ l2 rfl rfl
                        clear hd ho hi hc hLi
                        exact st_val (v := .bool false) (w' := W) (want_none rfl) (by unfold execOp; dsimp only [Act.eval]; simp only [e101]; go_simp) (hK.out _ _ (hF.out.put (k := 3) (s := 102) rfl (by decide) hN (by decide) (fun u hu => Option.some.inj (Option.some.inj (show some (some (.bool false)) = some (some u) from hu))) hW.out))
                      | 4, _ =>
                        obtain rfl := Option.some.inj ho
                        have l3 : L 3 = true := dep_of hd (n := 3) (by decide)
                        have e102 : T.getD 102 undef = .bool false := hF.out.val 3 102 _ l3 rfl rfl
                        clear hd ho hi hc hLi
                        exact st_val (v := .bool false) (w' := W) (want_none rfl) (by unfold execOp; dsimp only [Act.eval]; simp only [e102]; go_simp) (hK.out _ _ (hF.out.put (k := 4) (s := 103) rfl (by decide) hN (by decide) (fun u hu => Option.some.inj (Option.some.inj (show some (some (.bool false)) = some (some u) from hu))) hW.out))
                      | 5, _ =>
                        obtain rfl := Option.some.inj ho
                        have l4 : L 4 = true := dep_of hd (n := 4) (by decide)
                        have e103 : T.getD 103 undef = .bool false := hF.out.val 4 103 _ l4 rfl rfl
                        clear hd ho hi hc hLi
                        exact st_val (v := .int .i64 ↑i) (w' := W) (by rw [want_some (j := 4) (s := 103) rfl rfl e103]; rfl) (by unfold execOp; dsimp only [Act.eval]; simp only [f14]; go_simp) (hK.out _ _ (hF.out.put (k := 5) (s := 104) rfl (by decide) hN (by decide) (fun u hu => Option.some.inj (Option.some.inj (show some (some (.int .i64 ↑i)) = some (some u) from hu))) hW.out))
                      | 6, _ =>
                        obtain rfl := Option.some.inj ho
                        have l5 : L 5 = true := dep_of hd (n := 5) (by decide)
                        have e104 : T.getD 104 undef = .int .i64 ↑i := hF.out.val 5 104 _ l5 rfl rfl
                        have l4 : L 4 = true := dep_of hd (n := 4) (by decide)
                        have e103 : T.getD 103 undef = .bool false := hF.out.val 4 103 _ l4 rfl rfl
                        clear hd ho hi hc hLi
                        exact st_val (v := .pointer (some ⟨g12, i, none⟩)) (w' := W) (by rw [want_some (j := 4) (s := 103) rfl rfl e103]; rfl) (by unfold execOp; dsimp only [Act.eval]; simp only [f12, e104]; go_simp) (hK.out _ _ (hF.out.put (k := 6) (s := 105) rfl (by decide) hN (by decide) (fun u hu => Option.some.inj (Option.some.inj (show some (some (.pointer (some ⟨g12, i, none⟩))) = some (some u) from hu))) hW.out))
                      | 7, _ =>
                        obtain rfl := Option.some.inj ho
                        have l6 : L 6 = true := dep_of hd (n := 6) (by decide)
                        have e105 : T.getD 105 undef = .pointer (some ⟨g12, i, none⟩) := hF.out.val 6 105 _ l6 rfl rfl
                        have l4 : L 4 = true := dep_of hd (n := 4) (by decide)
                        have e103 : T.getD 103 undef = .bool false := hF.out.val 4 103 _ l4 rfl rfl
                        have hcc : W.cell? ⟨g12, i, none⟩ = some (.int .i64 z) := (cell_of_row W g12 i _ _ _ (((hB20.out.trans (hW.out.mono hB20.out.size)).block g12 (Array.getElem?_eq_some_iff.1 hgA.out.1).1).trans hgA.out.1)).trans (by rw [List.getElem?_toArray, List.getElem?_map, hz]; rfl)
                        clear hd ho hi hc hLi
                        exact st_val (v := .int .i64 z) (w' := W) (by rw [want_some (j := 4) (s := 103) rfl rfl e103]; rfl) (by unfold execOp; dsimp only [Act.eval]; simp only [e105]; go_simp) (hK.out _ _ (hF.out.put (k := 7) (s := 106) rfl (by decide) hN (by decide) (fun u hu => Option.some.inj (Option.some.inj (show some (some (.int .i64 z)) = some (some u) from hu))) hW.out))
                      | 8, _ =>
                        obtain rfl := Option.some.inj ho
                        have l4 : L 4 = true := dep_of hd (n := 4) (by decide)
                        have e103 : T.getD 103 undef = .bool false := hF.out.val 4 103 _ l4 rfl rfl
                        clear hd ho hi hc hLi
                        exact st_val (v := .int .i64 ↑k) (w' := W) (by rw [want_some (j := 4) (s := 103) rfl rfl e103]; rfl) (by unfold execOp; dsimp only [Act.eval]; simp only [f15]; go_simp) (hK.out _ _ (hF.out.put (k := 8) (s := 107) rfl (by decide) hN (by decide) (fun u hu => Option.some.inj (Option.some.inj (show some (some (.int .i64 ↑k)) = some (some u) from hu))) hW.out))
                      | 9, _ =>
                        obtain rfl := Option.some.inj ho
                        have l8 : L 8 = true := dep_of hd (n := 8) (by decide)
                        have e107 : T.getD 107 undef = .int .i64 ↑k := hF.out.val 8 107 _ l8 rfl rfl
                        have l4 : L 4 = true := dep_of hd (n := 4) (by decide)
                        have e103 : T.getD 103 undef = .bool false := hF.out.val 4 103 _ l4 rfl rfl
                        clear hd ho hi hc hLi
                        exact st_val (v := .pointer (some ⟨g13, k, none⟩)) (w' := W) (by rw [want_some (j := 4) (s := 103) rfl rfl e103]; rfl) (by unfold execOp; dsimp only [Act.eval]; simp only [f13, e107]; go_simp) (hK.out _ _ (hF.out.put (k := 9) (s := 108) rfl (by decide) hN (by decide) (fun u hu => Option.some.inj (Option.some.inj (show some (some (.pointer (some ⟨g13, k, none⟩))) = some (some u) from hu))) hW.out))
                      | 10, _ =>
                        obtain rfl := Option.some.inj ho
                        have l9 : L 9 = true := dep_of hd (n := 9) (by decide)
                        have e108 : T.getD 108 undef = .pointer (some ⟨g13, k, none⟩) := hF.out.val 9 108 _ l9 rfl rfl
                        have l4 : L 4 = true := dep_of hd (n := 4) (by decide)
                        have e103 : T.getD 103 undef = .bool false := hF.out.val 4 103 _ l4 rfl rfl
                        have hcc : W.cell? ⟨g13, k, none⟩ = some (.int .i64 t) := (cell_of_row W g13 k _ _ _ (((hB20.out.trans (hW.out.mono hB20.out.size)).block g13 (Array.getElem?_eq_some_iff.1 hgA.out.2).1).trans hgA.out.2)).trans (by rw [List.getElem?_toArray, List.getElem?_map, ht]; rfl)
                        clear hd ho hi hc hLi
                        exact st_val (v := .int .i64 t) (w' := W) (by rw [want_some (j := 4) (s := 103) rfl rfl e103]; rfl) (by unfold execOp; dsimp only [Act.eval]; simp only [e108]; go_simp) (hK.out _ _ (hF.out.put (k := 10) (s := 109) rfl (by decide) hN (by decide) (fun u hu => Option.some.inj (Option.some.inj (show some (some (.int .i64 t)) = some (some u) from hu))) hW.out))
                      | 11, _ =>
                        obtain rfl := Option.some.inj ho
                        have l7 : L 7 = true := dep_of hd (n := 7) (by decide)
                        have e106 : T.getD 106 undef = .int .i64 z := hF.out.val 7 106 _ l7 rfl rfl
                        have l10 : L 10 = true := dep_of hd (n := 10) (by decide)
                        have e109 : T.getD 109 undef = .int .i64 t := hF.out.val 10 109 _ l10 rfl rfl
                        have l4 : L 4 = true := dep_of hd (n := 4) (by decide)
                        have e103 : T.getD 103 undef = .bool false := hF.out.val 4 103 _ l4 rfl rfl
                        clear hd ho hi hc hLi
                        exact st_val (v := .bool ik) (w' := W) (by rw [want_some (j := 4) (s := 103) rfl rfl e103]; rfl) (by unfold execOp; dsimp only [Act.eval]; simp only [e106, e109]; go_simp) (hK.out _ _ (hF.out.put (k := 11) (s := 110) rfl (by decide) hN (by decide) (fun u hu => Option.some.inj (Option.some.inj (show some (some (.bool ik)) = some (some u) from hu))) hW.out))
                      | 12, _ =>
                        obtain rfl := Option.some.inj ho
                        have l4 : L 4 = true := dep_of hd (n := 4) (by decide)
                        have e103 : T.getD 103 undef = .bool false := hF.out.val 4 103 _ l4 rfl rfl
                        have hrw := rangeAt_list (((hB20.out.trans (hW.out.mono hB20.out.size)).block p9 (Array.getElem?_eq_some_iff.1 hal.out.1).1).trans hal.out.1)
                        clear hd ho hi hc hLi
                        exact st_val (v := .agg #[.int .i64 a0, .int .i64 a1, .int .i64 a2]) (w' := W) (by rw [want_some (j := 4) (s := 103) rfl rfl e103]; rfl) (run_load_ 67 (.tmp 9) rfl p9 0 (show T.getD 9 undef = _ from f9) [.int .i64 a0, .int .i64 a1, .int .i64 a2] _ hrw Tryd.underlying67 rfl (by kernel_rfl)) (hK.out _ _ (hF.out.put (k := 12) (s := 111) rfl (by decide) hN (by decide) (fun u hu => Option.some.inj (Option.some.inj (show some (some (.agg #[.int .i64 a0, .int .i64 a1, .int .i64 a2])) = some (some u) from hu))) hW.out))
                      | 13, _ =>
                        obtain rfl := Option.some.inj ho
                        have l4 : L 4 = true := dep_of hd (n := 4) (by decide)
                        have e103 : T.getD 103 undef = .bool false := hF.out.val 4 103 _ l4 rfl rfl
                        have hrw := rangeAt_list (((hB20.out.trans (hW.out.mono hB20.out.size)).block p10 (Array.getElem?_eq_some_iff.1 hal.out.2).1).trans hal.out.2)
                        clear hd ho hi hc hLi
                        exact st_val (v := .agg #[.int .i64 b0, .int .i64 b1, .int .i64 b2]) (w' := W) (by rw [want_some (j := 4) (s := 103) rfl rfl e103]; rfl) (run_load_ 67 (.tmp 10) rfl p10 0 (show T.getD 10 undef = _ from f10) [.int .i64 b0, .int .i64 b1, .int .i64 b2] _ hrw Tryd.underlying67 rfl (by kernel_rfl)) (hK.out _ _ (hF.out.put (k := 13) (s := 112) rfl (by decide) hN (by decide) (fun u hu => Option.some.inj (Option.some.inj (show some (some (.agg #[.int .i64 b0, .int .i64 b1, .int .i64 b2])) = some (some u) from hu))) hW.out))
                      | 14, _ =>
                        obtain rfl := Option.some.inj ho
                        have l12 : L 12 = true := dep_of hd (n := 12) (by decide)
                        have e111 : T.getD 111 undef = .agg #[.int .i64 a0, .int .i64 a1, .int .i64 a2] := hF.out.val 12 111 _ l12 rfl rfl
                        have l13 : L 13 = true := dep_of hd (n := 13) (by decide)
                        have e112 : T.getD 112 undef = .agg #[.int .i64 b0, .int .i64 b1, .int .i64 b2] := hF.out.val 13 112 _ l13 rfl rfl
                        have l4 : L 4 = true := dep_of hd (n := 4) (by decide)
                        have e103 : T.getD 103 undef = .bool false := hF.out.val 4 103 _ l4 rfl rfl
                        clear hd ho hi hc hLi
                        exact st_val (v := .bool true) (w' := W) (by rw [want_some (j := 4) (s := 103) rfl rfl e103]; rfl) (run_eql_at_ 67 _ (.tmp 111) (.tmp 112) rfl _ _ (show T.getD 111 undef = _ from e111) (show T.getD 112 undef = _ from e112) tri_guard true (eql_arr a0 a1 a2 b0 b1 b2 hra.out hrb.out true hq20.out W)) (hK.out _ _ (hF.out.put (k := 14) (s := 113) rfl (by decide) hN (by decide) (fun u hu => Option.some.inj (Option.some.inj (show some (some (.bool true)) = some (some u) from hu))) hW.out))
                      | 15, _ =>
                        obtain rfl := Option.some.inj ho
                        have l14 : L 14 = true := dep_of hd (n := 14) (by decide)
                        have e113 : T.getD 113 undef = .bool true := hF.out.val 14 113 _ l14 rfl rfl
                        have l4 : L 4 = true := dep_of hd (n := 4) (by decide)
                        have e103 : T.getD 103 undef = .bool false := hF.out.val 4 103 _ l4 rfl rfl
                        clear hd ho hi hc hLi
                        exact st_val (v := .bool true) (w' := W) (by rw [want_some (j := 4) (s := 103) rfl rfl e103]; rfl) (by unfold execOp; dsimp only [Act.eval]; simp only [e113]; go_simp) (hK.out _ _ (hF.out.put (k := 15) (s := 114) rfl (by decide) hN (by decide) (fun u hu => Option.some.inj (Option.some.inj (show some (some (.bool true)) = some (some u) from hu))) hW.out))
                      | 16, _ =>
                        obtain rfl := Option.some.inj ho
                        have l15 : L 15 = true := dep_of hd (n := 15) (by decide)
                        have e114 : T.getD 114 undef = .bool true := hF.out.val 15 114 _ l15 rfl rfl
                        clear hd ho hi hc hLi
                        exact st_val (v := .int .i64 ↑i) (w' := W) (by rw [want_some (j := 15) (s := 114) rfl rfl e114]; rfl) (by unfold execOp; dsimp only [Act.eval]; simp only [f14]; go_simp) (hK.out _ _ (hF.out.put (k := 16) (s := 115) rfl (by decide) hN (by decide) (fun u hu => Option.some.inj (Option.some.inj (show some (some (.int .i64 ↑i)) = some (some u) from hu))) hW.out))
                      | 17, _ =>
                        obtain rfl := Option.some.inj ho
                        have l15 : L 15 = true := dep_of hd (n := 15) (by decide)
                        have e114 : T.getD 114 undef = .bool true := hF.out.val 15 114 _ l15 rfl rfl
                        clear hd ho hi hc hLi
                        exact st_val (v := .int .i64 ↑k) (w' := W) (by rw [want_some (j := 15) (s := 114) rfl rfl e114]; rfl) (by unfold execOp; dsimp only [Act.eval]; simp only [f15]; go_simp) (hK.out _ _ (hF.out.put (k := 17) (s := 116) rfl (by decide) hN (by decide) (fun u hu => Option.some.inj (Option.some.inj (show some (some (.int .i64 ↑k)) = some (some u) from hu))) hW.out))
                      | 18, _ =>
                        obtain rfl := Option.some.inj ho
                        have l16 : L 16 = true := dep_of hd (n := 16) (by decide)
                        have e115 : T.getD 115 undef = .int .i64 ↑i := hF.out.val 16 115 _ l16 rfl rfl
                        have l17 : L 17 = true := dep_of hd (n := 17) (by decide)
                        have e116 : T.getD 116 undef = .int .i64 ↑k := hF.out.val 17 116 _ l17 rfl rfl
                        have l15 : L 15 = true := dep_of hd (n := 15) (by decide)
                        have e114 : T.getD 114 undef = .bool true := hF.out.val 15 114 _ l15 rfl rfl
                        clear hd ho hi hc hLi
                        exact st_val (v := .bool ik) (w' := W) (by rw [want_some (j := 15) (s := 114) rfl rfl e114]; rfl) (by unfold execOp; dsimp only [Act.eval]; simp only [e115, e116]; go_simp) (hK.out _ _ (hF.out.put (k := 18) (s := 117) rfl (by decide) hN (by decide) (fun u hu => Option.some.inj (Option.some.inj (show some (some (.bool ik)) = some (some u) from hu))) hW.out))
                      | 19, _ =>
                        obtain rfl := Option.some.inj ho
                        have l15 : L 15 = true := dep_of hd (n := 15) (by decide)
                        have e114 : T.getD 114 undef = .bool true := hF.out.val 15 114 _ l15 rfl rfl
                        have l18 : L 18 = true := dep_of hd (n := 18) (by decide)
                        have e117 : T.getD 117 undef = .bool ik := hF.out.val 18 117 _ l18 rfl rfl
                        have l4 : L 4 = true := dep_of hd (n := 4) (by decide)
                        have e103 : T.getD 103 undef = .bool false := hF.out.val 4 103 _ l4 rfl rfl
                        clear hd ho hi hc hLi
                        exact st_val (v := .bool ik) (w' := W) (by rw [want_some (j := 4) (s := 103) rfl rfl e103]; rfl) (by unfold execOp; dsimp only [Act.eval]; simp only [e114, e117]; go_simp) (hK.out _ _ (hF.out.put (k := 19) (s := 118) rfl (by decide) hN (by decide) (fun u hu => Option.some.inj (Option.some.inj (show some (some (.bool ik)) = some (some u) from hu))) hW.out))
                      | 20, _ =>
                        obtain rfl := Option.some.inj ho
                        have l11 : L 11 = true := dep_of hd (n := 11) (by decide)
                        have e110 : T.getD 110 undef = .bool ik := hF.out.val 11 110 _ l11 rfl rfl
                        have l19 : L 19 = true := dep_of hd (n := 19) (by decide)
                        have e118 : T.getD 118 undef = .bool ik := hF.out.val 19 118 _ l19 rfl rfl
                        have l4 : L 4 = true := dep_of hd (n := 4) (by decide)
                        have e103 : T.getD 103 undef = .bool false := hF.out.val 4 103 _ l4 rfl rfl
                        clear hd ho hi hc hLi
                        exact st_val (v := .bool false) (w' := W) (by rw [want_some (j := 4) (s := 103) rfl rfl e103]; rfl) (by unfold execOp; dsimp only [Act.eval]; simp only [e110, e118]; cases ik <;> go_simp) (hK.out _ _ (hF.out.put (k := 20) (s := 119) rfl (by decide) hN (by decide) (fun u hu => Option.some.inj (Option.some.inj (show some (some (.bool false)) = some (some u) from hu))) hW.out))
                      | 21, _ =>
                        obtain rfl := Option.some.inj ho
                        have l4 : L 4 = true := dep_of hd (n := 4) (by decide)
                        have e103 : T.getD 103 undef = .bool false := hF.out.val 4 103 _ l4 rfl rfl
                        have l20 : L 20 = true := dep_of hd (n := 20) (by decide)
                        have e119 : T.getD 119 undef = .bool false := hF.out.val 20 119 _ l20 rfl rfl
                        clear hd ho hi hc hLi
                        exact st_val (v := .bool false) (w' := W) (want_none rfl) (by unfold execOp; dsimp only [Act.eval]; simp only [e103, e119]; go_simp) (hK.out _ _ (hF.out.put (k := 21) (s := 120) rfl (by decide) hN (by decide) (fun u hu => Option.some.inj (Option.some.inj (show some (some (.bool false)) = some (some u) from hu))) hW.out))
                    case hdone =>
                      intro L T W2 hF hW hall
                      have hT : T = #[.slice A n c, .agg ([x0, x1, x2].map (Value.int .i64)).toArray, .agg ([y0, y1, y2].map (Value.int .i64)).toArray, undef, .pointer (some ⟨p4, 0, none⟩), .pointer (some ⟨p5, 0, none⟩), u6, .pointer (some ⟨g, 0, none⟩), .pointer (some ⟨q, 0, none⟩), .pointer (some ⟨p9, 0, none⟩), .pointer (some ⟨p10, 0, none⟩), .int .i64 3, .pointer (some ⟨g12, 0, none⟩), .pointer (some ⟨g13, 0, none⟩), .int .i64 ↑i, .int .i64 ↑k, .slice A n c, .bool true, .bool false, undef, .pointer (some ⟨g, 0, none⟩), .pointer (some ⟨g, 0, none⟩), .slice A n c, .agg #[.slice AI n cI, .slice AT n cT], .int .i64 3, .bool false, u26, u27, u28, u29, u30, u31, u32, u33, u34, u35, u36, u37, u38, u39, u40, u41, u42, u43, u44, u45, u46, u47, u48, u49, u50, u51, u52, u53, u54, u55, u56, u57, u58, u59, u60, u61, u62, u63, u64, u65, u66, u67, u68, u69, u70, u71, u72, u73, u74, .pointer (some ⟨g, 0, none⟩), .pointer (some ⟨p9, 0, none⟩), .int .i64 a0, .pointer (some ⟨p9, 1, none⟩), .int .i64 a1, .pointer (some ⟨p9, 2, none⟩), .int .i64 a2, .agg (List.map (.int .i64) ls).toArray, .pointer (some ⟨g, 0, none⟩), .pointer (some ⟨p10, 0, none⟩), .int .i64 b0, .pointer (some ⟨p10, 1, none⟩), .int .i64 b1, .pointer (some ⟨p10, 2, none⟩), .int .i64 b2, .agg (List.map (.int .i64) lt).toArray, .int .i64 ↑i, .bool true, u93, u94, .int .i64 ↑k, .bool true, u97, u98, .int .i64 ↑i, .pointer (some ⟨g12, i, none⟩), .int .i64 z, .bool false, .bool false, .int .i64 ↑i, .pointer (some ⟨g12, i, none⟩), .int .i64 z, .int .i64 ↑k, .pointer (some ⟨g13, k, none⟩), .int .i64 t, .bool ik, .agg #[.int .i64 a0, .int .i64 a1, .int .i64 a2], .agg #[.int .i64 b0, .int .i64 b1, .int .i64 b2], .bool true, .bool true, .int .i64 ↑i, .int .i64 ↑k, .bool ik, .bool ik, .bool false, .bool false, undef] := (hF.fin [(99, .int .i64 ↑i), (100, .pointer (some ⟨g12, i, none⟩)), (101, .int .i64 z), (102, .bool false), (103, .bool false), (104, .int .i64 ↑i), (105, .pointer (some ⟨g12, i, none⟩)), (106, .int .i64 z), (107, .int .i64 ↑k), (108, .pointer (some ⟨g13, k, none⟩)), (109, .int .i64 t), (110, .bool ik), (111, .agg #[.int .i64 a0, .int .i64 a1, .int .i64 a2]), (112, .agg #[.int .i64 b0, .int .i64 b1, .int .i64 b2]), (113, .bool true), (114, .bool true), (115, .int .i64 ↑i), (116, .int .i64 ↑k), (117, .bool ik), (118, .bool ik), (119, .bool false), (120, .bool false)] [99, 100, 101, 102, 103, 104, 105, 106, 107, 108, 109, 110, 111, 112, 113, 114, 115, 116, 117, 118, 119, 120] rfl (List.forall_mem_cons.2 ⟨hF.val 0 _ _ (hall 0 (show 0 < 22 by decide)) rfl rfl, (List.forall_mem_cons.2 ⟨hF.val 1 _ _ (hall 1 (show 1 < 22 by decide)) rfl rfl, (List.forall_mem_cons.2 ⟨hF.val 2 _ _ (hall 2 (show 2 < 22 by decide)) rfl rfl, (List.forall_mem_cons.2 ⟨hF.val 3 _ _ (hall 3 (show 3 < 22 by decide)) rfl rfl, (List.forall_mem_cons.2 ⟨hF.val 4 _ _ (hall 4 (show 4 < 22 by decide)) rfl rfl, (List.forall_mem_cons.2 ⟨hF.val 5 _ _ (hall 5 (show 5 < 22 by decide)) rfl rfl, (List.forall_mem_cons.2 ⟨hF.val 6 _ _ (hall 6 (show 6 < 22 by decide)) rfl rfl, (List.forall_mem_cons.2 ⟨hF.val 7 _ _ (hall 7 (show 7 < 22 by decide)) rfl rfl, (List.forall_mem_cons.2 ⟨hF.val 8 _ _ (hall 8 (show 8 < 22 by decide)) rfl rfl, (List.forall_mem_cons.2 ⟨hF.val 9 _ _ (hall 9 (show 9 < 22 by decide)) rfl rfl, (List.forall_mem_cons.2 ⟨hF.val 10 _ _ (hall 10 (show 10 < 22 by decide)) rfl rfl, (List.forall_mem_cons.2 ⟨hF.val 11 _ _ (hall 11 (show 11 < 22 by decide)) rfl rfl, (List.forall_mem_cons.2 ⟨hF.val 12 _ _ (hall 12 (show 12 < 22 by decide)) rfl rfl, (List.forall_mem_cons.2 ⟨hF.val 13 _ _ (hall 13 (show 13 < 22 by decide)) rfl rfl, (List.forall_mem_cons.2 ⟨hF.val 14 _ _ (hall 14 (show 14 < 22 by decide)) rfl rfl, (List.forall_mem_cons.2 ⟨hF.val 15 _ _ (hall 15 (show 15 < 22 by decide)) rfl rfl, (List.forall_mem_cons.2 ⟨hF.val 16 _ _ (hall 16 (show 16 < 22 by decide)) rfl rfl, (List.forall_mem_cons.2 ⟨hF.val 17 _ _ (hall 17 (show 17 < 22 by decide)) rfl rfl, (List.forall_mem_cons.2 ⟨hF.val 18 _ _ (hall 18 (show 18 < 22 by decide)) rfl rfl, (List.forall_mem_cons.2 ⟨hF.val 19 _ _ (hall 19 (show 19 < 22 by decide)) rfl rfl, (List.forall_mem_cons.2 ⟨hF.val 20 _ _ (hall 20 (show 20 < 22 by decide)) rfl rfl, (List.forall_mem_cons.2 ⟨hF.val 21 _ _ (hall 21 (show 21 < 22 by decide)) rfl rfl, (fun _ h => absurd h List.not_mem_nil)⟩)⟩)⟩)⟩)⟩)⟩)⟩)⟩)⟩)⟩)⟩)⟩)⟩)⟩)⟩)⟩)⟩)⟩)⟩)⟩)⟩)⟩) (by decide)).trans (by kernel_rfl)
                      clear hF hall
                      subst hT
                      have hbz := Lib.hid (hbk0.out.trans (hW.mono hbk0.out.size))
                      clear hW
                      go_wp2_with fail
                      go_roundw
                      case rel => exact ⟨k + 1, by omega, by go_num, hbz⟩
                      case measure => simp [intOf]; omega
                · have hk6 : k = 6 := by omega
                  subst hk6
                  have hbz := Lib.hid (hbi.out.trans (hbk.out.mono hbi.out.size))
                  go_wp2_with fail
                  go_roundw
                  case rel => exact ⟨i + 1, by omega, by go_num, hbz⟩
                  case measure => simp [intOf]; omega
            · have hi6 : i = 6 := by omega
              subst hi6
              have hbz := Lib.hid (hp.out.trans ((hWz.out.trans (hbi.out.mono hWz.out.size)).mono hp.out.size))
              go_wp2_with (go_at_call 32; refine (cA.out _).mono ?_; rintro r w9 ⟨rfl, hb9⟩)
              go_ret
              exact ⟨rfl, hbz.out.trans (hb9.mono hbz.out.size)⟩
end Go.Proofs.YtbeanjaenmpoeaaDoor
