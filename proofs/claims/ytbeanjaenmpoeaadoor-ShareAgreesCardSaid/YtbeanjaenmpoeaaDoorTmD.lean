/- Arenas: the walks of New, Len, has, is, own, join. -/
import Derived.Test.YtbeanjaenmpoeaaDoorTmC
import Derived.Test.YtbeanjaenmpoeaaDoorTmS
import Derived.Test.YtbeanjaenmpoeaaDoorShelf
import Derived.BigQuiet
import Derived.Deep.QuietTactic
namespace Go.Proofs.YtbeanjaenmpoeaaDoor
open Go.RowKit Go.Maps

theorem below_new (w : World) (o : Obj) : Below w.heap.size w (w.alloc o) := (Below.refl _ _).alloc (Nat.le_refl _) o
/-- What the arena's struct holds. -/
theorem Arena.open_ {w : World} {B : Nat} {A : Ar} (h : Arena w B A) : ∃ An cn As cs, A.vn = .slice An A.N.length cn ∧ A.vs = .slice As A.N.length cs ∧
    w.cell? ⟨A.g, 0, none⟩ = some (.slice An A.N.length cn) ∧ w.cell? ⟨A.g, 1, none⟩ = some (.slice As A.N.length cs) ∧ w.cell? ⟨A.g, 2, none⟩ = some (.map (some A.bm)) ∧
    Rws w 5 An A.N.length (A.N.map Nd.row) ∧ Ints w As A.N.length (A.N.map fun x => (x.t.len : Int)) := by
  obtain ⟨An, cn, e1, h1⟩ := h.nodes.rws
  obtain ⟨As, cs, e2, h2⟩ := OwnI.ints h.sizes
  rw [List.length_map] at e1 h1 e2 h2
  refine ⟨An, cn, As, cs, e1, e2, ?_, ?_, ?_, h1, h2⟩
  · rw [cell_of_row w A.g 0 _ _ _ h.blk, e1]; rfl
  · rw [cell_of_row w A.g 1 _ _ _ h.blk, e2]; rfl
  · rw [cell_of_row w A.g 2 _ _ _ h.blk]; rfl
theorem Nd.len (x : Nd) : x.row.length = 5 := rfl
/-- A node's cells. -/
theorem Arena.node {w : World} {B : Nat} {A : Ar} (h : Arena w B A) {j : Nat} {x : Nd} (hx : A.N[j]? = some x) : ∃ b off cn, A.vn = .slice (some ⟨b, off, none⟩) A.N.length cn ∧ b < w.heap.size ∧ w.rangeAt b (off + j * 5) x.row ∧ j < A.N.length := by
  have hj := (List.getElem?_eq_some_iff.1 hx).1
  obtain ⟨An, cn, As, cs, e1, e2, c0, c1, c2, h1, h2⟩ := h.open_
  obtain ⟨b, off, z, rfl, hb, hz, hl, hr⟩ := h1.row hj
  rw [List.getElem?_map, hx] at hz
  simp only [Option.map_some, Option.some.injEq] at hz
  subst hz
  exact ⟨b, off, cn, e1, hb, hr, hj⟩
theorem Nd.flds {w : World} {b o : Nat} {x : Nd} (h : w.rangeAt b o x.row) : w.cell? ⟨b, o, none⟩ = some (.int .i64 x.t.kind) ∧ w.cell? ⟨b, o + 1, none⟩ = some (.int .i64 x.t.a) ∧ w.cell? ⟨b, o + 2, none⟩ = some (.int .i64 x.t.b) ∧ w.cell? ⟨b, o + 3, none⟩ = some (.string (bs x.t.s)) ∧ w.cell? ⟨b, o + 4, none⟩ = some x.v :=
  ⟨h 0 _ rfl, h 1 _ rfl, h 2 _ rfl, h 3 _ rfl, h 4 _ rfl⟩

theorem len_any (A : Ar) (B : Nat) (w : World) (H : Arena w B A) :
    Calls Tryd.prog 21 #[.pointer (some ⟨A.g, 0, none⟩)] w fun r w' => r = .returned (.int .i64 A.N.length) ∧ w = w' := by
  obtain ⟨An, cn, As, cs, e1, e2, c0, c1, c2, h1, h2⟩ := H.open_
  clear H
  go_enter Tryd.func21, Tryd.ntmps21
  go_wp2
  go_ret
  exact ⟨rfl, rfl⟩
theorem len_nil (w : World) :
    Calls Tryd.prog 21 #[.pointer none] w fun r w' => r = .returned (.int .i64 0) ∧ w = w' := by
  go_enter Tryd.func21, Tryd.ntmps21
  go_wp2
  go_ret
  exact ⟨rfl, rfl⟩
def hasB (A : Ar) (x : Int) : Bool := (get A.L x).isSome
theorem hasB_neg {A : Ar} {x : Int} (h : x < 0) : hasB A x = false := by unfold hasB; rw [get_neg h]; rfl
theorem hasB_nat (A : Ar) (j : Nat) : hasB A j = decide (j < A.N.length) := by
  unfold hasB
  rw [get_nat, Bool.eq_iff_iff, decide_eq_true_eq, ← A.L_len]
  cases e : A.L[j]? with
  | none => simpa using List.getElem?_eq_none_iff.1 e
  | some t => simpa using (List.getElem?_eq_some_iff.1 e).1
theorem has_any (A : Ar) (B : Nat) (x : Int) (w : World) (H : Arena w B A) :
    Calls Tryd.prog 46 #[.pointer (some ⟨A.g, 0, none⟩), .int .i64 x] w fun r w' => r = .returned (.bool (hasB A x)) ∧ w = w' := by
  have cL := Lib.hid (len_any A B w H)
  by_cases h0 : x < 0
  · rw [hasB_neg h0]
    clear H
    go_enter Tryd.func46, Tryd.ntmps46
    go_wp2_with fail
    go_ret
    exact ⟨rfl, rfl⟩
  · obtain ⟨j, rfl⟩ := Int.eq_ofNat_of_zero_le (show 0 ≤ x by omega)
    rw [hasB_nat]
    clear H h0
    go_enter Tryd.func46, Tryd.ntmps46
    go_wp2_with (go_at_call 21; refine cL.out.mono ?_; rintro r w1 ⟨rfl, rfl⟩)
    go_ret
    exact ⟨ret_bool (by simp), rfl⟩
theorem has_nil (x : Int) (w : World) :
    Calls Tryd.prog 46 #[.pointer none, .int .i64 x] w fun r w' => r = .returned (.bool false) ∧ w = w' := by
  have cL := Lib.hid (len_nil w)
  by_cases h0 : x < 0
  · go_enter Tryd.func46, Tryd.ntmps46
    go_wp2_with fail
    go_ret
    exact ⟨rfl, rfl⟩
  · have h1 : 0 ≤ x := by omega
    clear h0
    go_enter Tryd.func46, Tryd.ntmps46
    go_wp2_with (go_at_call 21; refine cL.out.mono ?_; rintro r w1 ⟨rfl, rfl⟩)
    go_ret
    exact ⟨ret_bool (decide_eq_false (by omega)), rfl⟩
def isB (A : Ar) (x : Int) (k : Nat) : Bool := match get A.L x with | some t => t.kind == k | none => false
theorem isB_eq {A : Ar} {x : Int} {k : Nat} (hk : 0 < k) : isB A x k = (kindO (get A.L x) == k) := by
  unfold isB
  cases get A.L x with
  | none => simp [kindO]; omega
  | some t => rfl
theorem is_any (A : Ar) (B : Nat) (x : Int) (k : Nat) (w : World) (H : Arena w B A) :
    Calls Tryd.prog 48 #[.pointer (some ⟨A.g, 0, none⟩), .int .i64 x, .int .i64 k] w fun r w' => r = .returned (.bool (isB A x k)) ∧ w = w' := by
  have cH := has_any A B x w H
  cases hg : get A.L x with
  | none =>
    have e : isB A x k = false := by unfold isB; rw [hg]
    rw [show hasB A x = false by unfold hasB; rw [hg]; rfl] at cH
    rw [e]
    have cH := Lib.hid cH
    clear H hg e
    go_enter Tryd.func48, Tryd.ntmps48
    go_wp2_with (go_at_call 46; refine cH.out.mono ?_; rintro r w1 ⟨rfl, rfl⟩)
    go_ret
    exact ⟨rfl, rfl⟩
  | some t =>
    have e : isB A x k = (t.kind == k) := by unfold isB; rw [hg]
    rw [show hasB A x = true by unfold hasB; rw [hg]; rfl] at cH
    rw [e]
    have cH := Lib.hid cH
    obtain ⟨j, rfl, hj⟩ := get_some hg
    obtain ⟨y, hy, rfl⟩ := Ar.N_at hj
    obtain ⟨An, cn, As, cs, e1, e2, c0, c1, c2, h1, h2⟩ := H.open_
    obtain ⟨b, off, cn', e1', hb, hr, hjl⟩ := H.node hy
    rw [e1] at e1'
    injection e1' with e3 e4 e5
    subst e3
    obtain ⟨f0, _⟩ := Nd.flds hr
    have i1 : (0 : Int) ≤ (j : Int) := by omega
    have i2 : (j : Int) < (A.N.length : Int) := by omega
    have hq : ((y.t.kind : Int) == (k : Int)) = (y.t.kind == k) := by rw [Bool.eq_iff_iff]; simp; omega
    generalize (y.t.kind == k) = q at hq ⊢
    generalize A.N.length = n at *
    have hq2 := Lib.hid hq
    clear H hg e hr hj hy e1 e2 h1 h2 hjl hq e5
    go_enter Tryd.func48, Tryd.ntmps48
    go_wp2_with (go_at_call 46; refine cH.out.mono ?_; rintro r w1 ⟨rfl, rfl⟩)
    go_ret
    exact ⟨ret_bool hq2.out, rfl⟩
theorem own_any (k : Nat) (x1 x2 : Value) (s : List UInt8) (v : Value) (w : World) (hs : s.length ≤ 4000000000) (hv : v.oneCell' = true) (h1 : x1.oneCell' = true) (h2 : x2.oneCell' = true) :
    Calls Tryd.prog 62 #[.agg #[.int .i64 k, x1, x2, .string (bs s), v]] w fun r w' => r = .returned (.int .i64 (own k s.length)) ∧ Below w.heap.size w w' := by
  have hB := Lib.hid (below_new w (.cells #[.int .i64 k, x1, x2, .string (bs s), v] 59))
  have hz := bs_size s
  have hsz : (((bs s).size : Nat) : Int) = (s.length : Int) := by rw [hz]
  have hl1 : s.length ≤ 4000000000 := hs
  have hl2 : (bs s).size ≤ 4000000000 := by rw [hz]; exact hs
  clear hz
  by_cases k2 : k = 2
  · subst k2
    go_enter Tryd.func62, Tryd.ntmps62
    go_wp2
    go_ret
    exact ⟨rfl, hB.out⟩
  by_cases ka : k = 1 ∨ k = 3 ∨ k = 6 ∨ k = 9 ∨ k = 10
  · have e : own k s.length = 5 + s.length := by unfold own; rw [if_neg k2, if_pos ka]
    rw [e]
    clear k2 e
    rcases ka with rfl | rfl | rfl | rfl | rfl
    all_goals
      go_enter Tryd.func62, Tryd.ntmps62
      go_wp2
      go_ret
      exact ⟨ret_int (by omega), hB.out⟩
  by_cases k5 : k = 5
  · subst k5
    go_enter Tryd.func62, Tryd.ntmps62
    go_wp2
    go_ret
    exact ⟨ret_int (by have : own 5 s.length = 9 + s.length := rfl; omega), hB.out⟩
  by_cases k8 : k = 8
  · subst k8
    go_enter Tryd.func62, Tryd.ntmps62
    go_wp2
    go_ret
    exact ⟨rfl, hB.out⟩
  have e : own k s.length = 1 := by unfold own; rw [if_neg k2, if_neg ka, if_neg k5, if_neg k8]
  rw [e]
  have g1 : ((k : Int) == 1) = false := by rw [beq_eq_false_iff_ne]; omega
  have g2 : ((k : Int) == 2) = false := by rw [beq_eq_false_iff_ne]; omega
  have g3 : ((k : Int) == 3) = false := by rw [beq_eq_false_iff_ne]; omega
  have g5 : ((k : Int) == 5) = false := by rw [beq_eq_false_iff_ne]; omega
  have g6 : ((k : Int) == 6) = false := by rw [beq_eq_false_iff_ne]; omega
  have g8 : ((k : Int) == 8) = false := by rw [beq_eq_false_iff_ne]; omega
  have g9 : ((k : Int) == 9) = false := by rw [beq_eq_false_iff_ne]; omega
  have g10 : ((k : Int) == 10) = false := by rw [beq_eq_false_iff_ne]; omega
  clear k2 ka k5 k8 e
  go_enter Tryd.func62, Tryd.ntmps62
  go_wp2
  go_ret
  exact ⟨rfl, hB.out⟩

/-! ### The numbers' text -/
theorem byteCells_append (l m : List UInt8) : Lib.byteCells (l ++ m) = Lib.byteCells l ++ Lib.byteCells m := by simp [Lib.byteCells]
theorem strCells_bs (l : List UInt8) : Lib.strCells (bs l) = Lib.byteCells l := by simp [Lib.strCells, Lib.byteCells, bs]
theorem joinL_append (l m : List Nat) : joinL (l ++ m) = joinL l ++ joinL m := by
  induction l with
  | nil => rfl
  | cons x r ih => rw [List.cons_append, joinL, joinL, ih]; simp
theorem joinL_len : ∀ (l : List Nat), (∀ x ∈ l, x < 100) → (joinL l).length ≤ 3 * l.length
  | [], _ => by simp [joinL]
  | x :: r, h => by
    have ih := joinL_len r (fun y hy => h y (by simp [hy]))
    have hx := h x (by simp)
    have hd : (Lib.decDigits x).length ≤ 2 := by
      by_cases h1 : x < 10
      · rw [Lib.decDigits_one h1]; simp
      · rw [Lib.decDigits_two h1 hx]; simp
    rw [joinL]
    simp only [List.length_append, List.length_cons]
    omega
set_option maxHeartbeats 1000000 in
theorem join_any (xs : List Nat) (A : Option Addr) (m c : Nat) (w : World) (hm : m = xs.length) (hm2 : m ≤ 40) (hx : ∀ x ∈ xs, x < 100) (H : Rws w 1 A m (xs.map idv)) :
    Calls Tryd.prog 63 #[.slice A m c] w fun r w' => r = .returned (.string (bs (joinL xs))) ∧ Below w.heap.size w w' := by
  have hz : ∀ w : World, Lib.IsBuilder 112 5 w.heap.size w.heap.size (Lib.byteCells []) (w.alloc (.cells #[.pointer none, .slice none 0 0] 112)) := fun w =>
    .inl ⟨Nat.le_refl _, _, heap_new w _, World.ownsRow_nil _ _ _ _, by simp [Value.ownBlock]⟩
  have hx2 := Lib.hid hx
  have hm3 := Lib.hid hm
  clear hm
  have hz1 := Lib.hid (hz w)
  clear hz
  go_enter Tryd.func63, Tryd.ntmps63
  go_wp2
  have hB0 := Lib.hid (below_new w (.cells #[.pointer none, .slice none 0 0] 112))
  go_loopw [8] (fun i wr => ∃ k : Nat, k ≤ m ∧ i = .int .i64 k ∧ Hid (Lib.IsBuilder 112 5 w.heap.size w.heap.size (Lib.byteCells (joinL (xs.take k))) wr) ∧ Hid (Below w.heap.size w wr)) (fun i _ => m - (intOf i).toNat)
  case atStart => exact ⟨0, by omega, rfl, hz1, hB0⟩
  case round =>
    obtain ⟨k, hk, rfl, hb, hB⟩ := hrel
    by_cases hlt : k < m
    · obtain ⟨b, off, z, rfl, hbl, hz, _, hr⟩ := H.row hlt
      rw [List.getElem?_map] at hz
      cases hxk : xs[k]? with
      | none => rw [hxk] at hz; cases hz
      | some x =>
        rw [hxk] at hz
        simp only [Option.map_some, Option.some.injEq] at hz
        subst hz
        have hx100 := hx2.out x (List.mem_of_getElem? hxk)
        have hc : wr.cell? ⟨b, off + k, none⟩ = some (.int .i64 x) := (hB.out.cell (p := ⟨b, off + k, none⟩) hbl).trans (by have := hr 0 _ rfl; rwa [Nat.mul_one, Nat.add_zero] at this)
        have hst := Lib.hid (show joinL (xs.take (k + 1)) = joinL (xs.take k) ++ (Lib.decDigits x ++ [32]) by rw [take_succ_of hxk, joinL_append]; try rfl)
        have hl1 := joinL_len (xs.take k) (fun y hy => hx2.out y (List.mem_of_mem_take hy))
        have hl2 : (xs.take k).length ≤ k := List.length_take_le _ _
        have hd : (Lib.decDigits x).length ≤ 2 := by
          by_cases h1 : x < 10
          · rw [Lib.decDigits_one h1]; simp
          · rw [Lib.decDigits_two h1 hx100]; simp
        have cI := Lib.hid (Tryd.strconv_Itoa_small x hx100)
        have hcat : (⟨(Lib.decDigits x).toArray⟩ : ByteArray) ++ ⟨#[32]⟩ = bs (Lib.decDigits x ++ [32]) := by
          apply ByteArray.ext
          simp [bs]
        have cW := Lib.hid (bldWrite w.heap.size w.heap.size _ (bs (Lib.decDigits x ++ [32])) wr hb.out (by rw [bs_size]; simp [Lib.byteCells]; omega) hB.out.size)
        rw [strCells_bs, ← byteCells_append] at cW
        have hd2 : (⟨(Lib.decDigits x).toArray⟩ : ByteArray).size ≤ 2 := by simpa [ByteArray.size] using hd
        clear hr hx100 hxk hl1 hl2
        go_wp2_with (first
          | (go_at_call 90; refine (cI.out _).mono ?_; rintro r w1 ⟨rfl, rfl⟩)
          | (go_at_call 88; refine cW.out.mono ?_; rintro r w2 ⟨rfl, hb2, hB2⟩))
        skip
        go_roundw
        case rel => exact ⟨k + 1, by omega, by go_num, (by unfold Hid; rw [hst.out]; exact .inr hb2), hB.out.trans hB2⟩
        case measure => simp [intOf]; omega
    · have hkn : xs.take k = xs := List.take_of_length_le (by rw [← hm3.out]; omega)
      rw [hkn] at hb
      have cS := Lib.hid (bldString w.heap.size w.heap.size (joinL xs) wr hb.out hB.out.size)
      clear hkn
      go_wp2_with (go_at_call 61; refine cS.out.mono ?_; rintro r w2 ⟨rfl, hB2⟩)
      go_ret
      exact ⟨rfl, hB.out.trans hB2⟩
end Go.Proofs.YtbeanjaenmpoeaaDoor
