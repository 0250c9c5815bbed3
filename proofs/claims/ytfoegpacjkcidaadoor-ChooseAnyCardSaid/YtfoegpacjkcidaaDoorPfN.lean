/- Prefs: Plain. -/
import Derived.Test.YtfoegpacjkcidaaDoorPfL
import Derived.Test.YtfoegpacjkcidaaDoorOrd
namespace Go.Proofs.YtfoegpacjkcidaaDoor
open Go.RowKit

def encL : List ByteArray := [⟨#[97, 101, 115, 50, 53, 54, 45, 103, 99, 109]⟩, ⟨#[97, 101, 115, 49, 50, 56, 45, 99, 116, 114]⟩]
theorem enc_any (w : World) : Calls Tryd.prog 49 #[] w (ClR w encL) := by
  have hF := fun (H : (w.alloc (.cells #[.string ⟨#[97, 101, 115, 50, 53, 54, 45, 103, 99, 109]⟩, .string ⟨#[97, 101, 115, 49, 50, 56, 45, 99, 116, 114]⟩] 9)).heap[w.heap.size]? = some (.cells #[.string ⟨#[97, 101, 115, 50, 53, 54, 45, 103, 99, 109]⟩, .string ⟨#[97, 101, 115, 49, 50, 56, 45, 99, 116, 114]⟩] 9 (0, 0))) => StrF.block (l := encL) (base := w.heap.size) H (by decide) (Nat.le_refl _)
  have hF := Lib.hid (hF (heap_new w _))
  have hB := Lib.hid (below_got w (.cells #[.string ⟨#[97, 101, 115, 50, 53, 54, 45, 103, 99, 109]⟩, .string ⟨#[97, 101, 115, 49, 50, 56, 45, 99, 116, 114]⟩] 9))
  go_enter Tryd.func49, Tryd.ntmps49
  go_wp2
  go_ret
  exact ⟨_, _, _, rfl, hF.out, hB.out⟩
def macL : List ByteArray := [⟨#[104, 109, 97, 99, 45, 115, 104, 97, 50, 45, 50, 53, 54]⟩, ⟨#[104, 109, 97, 99, 45, 115, 104, 97, 50, 45, 53, 49, 50]⟩]
theorem mac_any (w : World) : Calls Tryd.prog 50 #[] w (ClR w macL) := by
  have hF := fun (H : (w.alloc (.cells #[.string ⟨#[104, 109, 97, 99, 45, 115, 104, 97, 50, 45, 50, 53, 54]⟩, .string ⟨#[104, 109, 97, 99, 45, 115, 104, 97, 50, 45, 53, 49, 50]⟩] 9)).heap[w.heap.size]? = some (.cells #[.string ⟨#[104, 109, 97, 99, 45, 115, 104, 97, 50, 45, 50, 53, 54]⟩, .string ⟨#[104, 109, 97, 99, 45, 115, 104, 97, 50, 45, 53, 49, 50]⟩] 9 (0, 0))) => StrF.block (l := macL) (base := w.heap.size) H (by decide) (Nat.le_refl _)
  have hF := Lib.hid (hF (heap_new w _))
  have hB := Lib.hid (below_got w (.cells #[.string ⟨#[104, 109, 97, 99, 45, 115, 104, 97, 50, 45, 50, 53, 54]⟩, .string ⟨#[104, 109, 97, 99, 45, 115, 104, 97, 50, 45, 53, 49, 50]⟩] 9))
  go_enter Tryd.func50, Tryd.ntmps50
  go_wp2
  go_ret
  exact ⟨_, _, _, rfl, hF.out, hB.out⟩
def nonL : List ByteArray := [⟨#[110, 111, 110, 101]⟩]
theorem non_any (w : World) : Calls Tryd.prog 51 #[] w (ClR w nonL) := by
  have hF := fun (H : (w.alloc (.cells #[.string ⟨#[110, 111, 110, 101]⟩] 9)).heap[w.heap.size]? = some (.cells #[.string ⟨#[110, 111, 110, 101]⟩] 9 (0, 0))) => StrF.block (l := nonL) (base := w.heap.size) H (by decide) (Nat.le_refl _)
  have hF := Lib.hid (hF (heap_new w _))
  have hB := Lib.hid (below_got w (.cells #[.string ⟨#[110, 111, 110, 101]⟩] 9))
  go_enter Tryd.func51, Tryd.ntmps51
  go_wp2
  go_ret
  exact ⟨_, _, _, rfl, hF.out, hB.out⟩
def hostL : List ByteArray := [⟨#[115, 115, 104, 45, 101, 100, 50, 53, 53, 49, 57]⟩, ⟨#[114, 115, 97, 45, 115, 104, 97, 50, 45, 50, 53, 54]⟩]
def plainL : List (List ByteArray) := [methL, hostL, encL, encL, macL, macL, nonL, nonL]
noncomputable def stP (a : Addr) (v : Value) : Sem Unit := storeVar 24 a v
theorem stP_eq (a : Addr) (v : Value) : storeVar 24 a v = stP a v := rfl
attribute [local go_sem ↓] stP_eq
theorem stP_run (w : World) (g : Nat) (old cells : Array Value) (hg : w.heap[g]? = some (.cells old 24 (0, 0))) (ho : old.size = cells.size) (h1 : cells.all (·.oneCell') = true) (h8 : cells.size = 8) :
    (stP ⟨g, 0, none⟩ (.agg cells)).run Tryd.prog w = .ok () (w.setRow g cells) :=
  run_storeVar_row w g 24 24 old cells hg (by rw [h8]; kernel_rfl) ho h1
theorem StrF.row' {w : World} {base : Nat} {v : Value} {l : List ByteArray} (h : StrF w base v l) {g : Nat} (hg : g < base) (cs : Array Value) : StrF (w.setRow g cs) base v l := by
  obtain ⟨A, n, c, h1, h2, h3, h4, h5⟩ := h
  obtain ⟨A', n', c', e, _, _, h6⟩ := StrF.row ⟨A, n, c, h1, h2, h3, h4, h5⟩ hg cs
  subst h1
  injection e with e1 e2 e3
  subst e1 e2 e3
  exact ⟨A, n, c, rfl, h2, h3, h6, h5⟩
/-- Eight slices from base on, with these names. -/
def PfF (W : World) (base : Nat) (V : List Value) : Prop := V.length = 8 ∧ ∀ (i : Nat) v l, V[i]? = some v → plainL[i]? = some l → StrF W base v l
theorem PfF.keep {W W' : World} {base : Nat} {V : List Value} (h : PfF W base V) (hb : Below W.heap.size W W') : PfF W' base V := ⟨h.1, fun i v l h1 h2 => (h.2 i v l h1 h2).keep hb⟩
theorem PfF.row {W : World} {base g : Nat} {V : List Value} (h : PfF W base V) (hg : g < base) (cs : Array Value) : PfF (W.setRow g cs) base V := ⟨h.1, fun i v l h1 h2 => (h.2 i v l h1 h2).row' hg cs⟩
theorem PfF.pf {W : World} {base : Nat} {V : List Value} (h : PfF W base V) : Pf W V plainL := ⟨h.1, rfl, fun i v l h1 h2 => (h.2 i v l h1 h2).strV⟩
theorem PfF.one {W : World} {base : Nat} {V : List Value} (h : PfF W base V) : V.toArray.all (·.oneCell') = true := by
  rw [List.all_toArray, List.all_eq_true]
  intro v hv
  obtain ⟨i, hi, rfl⟩ := List.getElem_of_mem hv
  have h8 : i < plainL.length := by rw [h.1] at hi; exact hi
  obtain ⟨A, n, c, e, _⟩ := h.2 i _ _ (List.getElem?_eq_getElem hi) (List.getElem?_eq_getElem h8)
  rw [e]; rfl
theorem PfF.mk8 {W : World} {base : Nat} {v0 v1 v2 v3 v4 v5 v6 v7 : Value} (h0 : StrF W base v0 methL) (h1 : StrF W base v1 hostL) (h2 : StrF W base v2 encL) (h3 : StrF W base v3 encL) (h4 : StrF W base v4 macL) (h5 : StrF W base v5 macL) (h6 : StrF W base v6 nonL) (h7 : StrF W base v7 nonL) :
    PfF W base [v0, v1, v2, v3, v4, v5, v6, v7] := by
  refine ⟨rfl, fun i v l hv hl => ?_⟩
  match i with
  | 0 => injection hv with hv; injection hl with hl; subst hv hl; exact h0
  | 1 => injection hv with hv; injection hl with hl; subst hv hl; exact h1
  | 2 => injection hv with hv; injection hl with hl; subst hv hl; exact h2
  | 3 => injection hv with hv; injection hl with hl; subst hv hl; exact h3
  | 4 => injection hv with hv; injection hl with hl; subst hv hl; exact h4
  | 5 => injection hv with hv; injection hl with hl; subst hv hl; exact h5
  | 6 => injection hv with hv; injection hl with hl; subst hv hl; exact h6
  | 7 => injection hv with hv; injection hl with hl; subst hv hl; exact h7
  | i + 8 => simp at hv
/-- What slot and memory hold once an operation has come up. -/
def PlF (g : Nat) (W : World) (i : Nat) (x : Value) : Prop := match i with
  | 0 => x = .pointer (some ⟨0, 1, none⟩)
  | 1 => x = .string ⟨#[99, 117, 114, 118, 101, 50, 53, 53, 49, 57, 45, 115, 104, 97, 50, 53, 54]⟩
  | 2 => x = .pointer (some ⟨0, 2, none⟩)
  | 3 => x = .string ⟨#[101, 99, 100, 104, 45, 115, 104, 97, 50, 45, 110, 105, 115, 116, 112, 50, 53, 54]⟩
  | 4 => x = .pointer (some ⟨0, 3, none⟩)
  | 5 => x = .string ⟨#[100, 105, 102, 102, 105, 101, 45, 104, 101, 108, 108, 109, 97, 110, 45, 103, 114, 111, 117, 112, 45, 101, 120, 99, 104, 97, 110, 103, 101, 45, 115, 104, 97, 50, 53, 54]⟩
  | 6 => StrF W (g + 1) x methL
  | 7 => StrF W (g + 1) x hostL
  | 8 => x = .func (.func 49) #[] #[]
  | 9 => StrF W (g + 1) x encL
  | 10 => x = .func (.func 49) #[] #[]
  | 11 => StrF W (g + 1) x encL
  | 12 => x = .func (.func 50) #[] #[]
  | 13 => StrF W (g + 1) x macL
  | 14 => x = .func (.func 50) #[] #[]
  | 15 => StrF W (g + 1) x macL
  | 16 => x = .func (.func 51) #[] #[]
  | 17 => StrF W (g + 1) x nonL
  | 18 => x = .func (.func 51) #[] #[]
  | 19 => StrF W (g + 1) x nonL
  | 20 => ∃ V, x = .agg V.toArray ∧ PfF W (g + 1) V
  | 21 => ∃ V, W.heap[g]? = some (.cells V.toArray 24 (0, 0)) ∧ PfF W (g + 1) V
  | _ => True
theorem PlF.keep {g : Nat} {W W' : World} {i : Nat} {x : Value} (h : PlF g W i x) (hg : g < W.heap.size) (hb : Below W.heap.size W W') : PlF g W' i x := by
  match i, h with
  | 0, h => exact h
  | 1, h => exact h
  | 2, h => exact h
  | 3, h => exact h
  | 4, h => exact h
  | 5, h => exact h
  | 6, h => exact StrF.keep h hb
  | 7, h => exact StrF.keep h hb
  | 8, h => exact h
  | 9, h => exact StrF.keep h hb
  | 10, h => exact h
  | 11, h => exact StrF.keep h hb
  | 12, h => exact h
  | 13, h => exact StrF.keep h hb
  | 14, h => exact h
  | 15, h => exact StrF.keep h hb
  | 16, h => exact h
  | 17, h => exact StrF.keep h hb
  | 18, h => exact h
  | 19, h => exact StrF.keep h hb
  | 20, ⟨V, e, h⟩ => exact ⟨V, e, h.keep hb⟩
  | 21, ⟨V, e, h⟩ => exact ⟨V, (hb.block g hg).trans e, h.keep hb⟩
  | i + 22, _ => exact trivial
theorem PlF.row {g : Nat} {W : World} {i : Nat} {x : Value} (h : PlF g W i x) (hi : i ≠ 21) (cs : Array Value) : PlF g (W.setRow g cs) i x := by
  match i, h, hi with
  | 0, h, _ => exact h
  | 1, h, _ => exact h
  | 2, h, _ => exact h
  | 3, h, _ => exact h
  | 4, h, _ => exact h
  | 5, h, _ => exact h
  | 6, h, _ => exact StrF.row' h (Nat.lt_succ_self _) cs
  | 7, h, _ => exact StrF.row' h (Nat.lt_succ_self _) cs
  | 8, h, _ => exact h
  | 9, h, _ => exact StrF.row' h (Nat.lt_succ_self _) cs
  | 10, h, _ => exact h
  | 11, h, _ => exact StrF.row' h (Nat.lt_succ_self _) cs
  | 12, h, _ => exact h
  | 13, h, _ => exact StrF.row' h (Nat.lt_succ_self _) cs
  | 14, h, _ => exact h
  | 15, h, _ => exact StrF.row' h (Nat.lt_succ_self _) cs
  | 16, h, _ => exact h
  | 17, h, _ => exact StrF.row' h (Nat.lt_succ_self _) cs
  | 18, h, _ => exact h
  | 19, h, _ => exact StrF.row' h (Nat.lt_succ_self _) cs
  | 20, ⟨V, e, h⟩, _ => exact ⟨V, e, h.row (Nat.lt_succ_self _) cs⟩
  | 21, _, h => exact absurd rfl h
  | i + 22, _, _ => exact trivial
theorem plF_step {g : Nat} {L : Nat → Bool} {W W' : World} {xs : List Value} {i : Nat} {x' : Value} (h : ∀ j, L j = true → PlF g W j (xs.getD j undef)) (hg : g < W.heap.size) (hb : Below W.heap.size W W') (hn : PlF g W' i x') (hi : i < xs.length) :
    ∀ j, (j == i || L j) = true → PlF g W' j ((xs.set i x').getD j undef) := by
  intro j hj
  by_cases e : j = i
  · subst e
    rw [List.getD_eq_getElem?_getD, List.getElem?_set_self hi]
    exact hn
  · have hL : L j = true := by simpa [e] using hj
    rw [List.getD_eq_getElem?_getD, List.getElem?_set_ne (Ne.symm e), ← List.getD_eq_getElem?_getD]
    exact (h j hL).keep hg hb
/-- What all orders keep. -/
def PlI (w : World) (L : Nat → Bool) (a : Act) (W : World) : Prop :=
  ∃ x4 x5 x6 x7 x8 x9 x10 x11 x12 x13 x14 x15 x16 x17 x18 x19 x20 x21 x22 x23 x24, a = ⟨#[.pointer (some ⟨w.heap.size, 0, none⟩), .func (.func 49) #[] #[], .func (.func 50) #[] #[], .func (.func 51) #[] #[], x4, x5, x6, x7, x8, x9, x10, x11, x12, x13, x14, x15, x16, x17, x18, x19, x20, x21, x22, x23, x24], []⟩ ∧ (∀ j, L j = true → PlF w.heap.size W j ([x4, x5, x6, x7, x8, x9, x10, x11, x12, x13, x14, x15, x16, x17, x18, x19, x20, x21, x22, x23, x24].getD j undef)) ∧
    (L 21 = false → W.heap[w.heap.size]? = some (.cells #[.slice none 0 0, .slice none 0 0, .slice none 0 0, .slice none 0 0, .slice none 0 0, .slice none 0 0, .slice none 0 0, .slice none 0 0] 24 (0, 0))) ∧ Below w.heap.size w W ∧ w.heap.size < W.heap.size
set_option maxRecDepth 100000 in
set_option maxHeartbeats 8000000 in
theorem plainPf_any (w : World) (P : PV w) :
    Calls Tryd.prog 32 #[] w fun r w' => ∃ V, r = .returned (.agg V.toArray) ∧ Pf w' V plainL ∧ Below w.heap.size w w' := by
  have hB1 := below_got w (.cells #[.slice none 0 0, .slice none 0 0, .slice none 0 0, .slice none 0 0, .slice none 0 0, .slice none 0 0, .slice none 0 0, .slice none 0 0] 24)
  have hg := heap_new w (.cells #[.slice none 0 0, .slice none 0 0, .slice none 0 0, .slice none 0 0, .slice none 0 0, .slice none 0 0, .slice none 0 0, .slice none 0 0] 24)
  have hz : (w.alloc (.cells #[.slice none 0 0, .slice none 0 0, .slice none 0 0, .slice none 0 0, .slice none 0 0, .slice none 0 0, .slice none 0 0, .slice none 0 0] 24)).heap.size = w.heap.size + 1 := by simp
  have hS := Lib.hid (fun W (h : Below w.heap.size w W) => (⟨(P.keep h).m 1 _ rfl, (P.keep h).m 2 _ rfl, (P.keep h).m 3 _ rfl⟩ : W.cell? ⟨0, 1, none⟩ = some (.string ⟨#[99, 117, 114, 118, 101, 50, 53, 53, 49, 57, 45, 115, 104, 97, 50, 53, 54]⟩) ∧ W.cell? ⟨0, 2, none⟩ = some (.string ⟨#[101, 99, 100, 104, 45, 115, 104, 97, 50, 45, 110, 105, 115, 116, 112, 50, 53, 54]⟩) ∧ W.cell? ⟨0, 3, none⟩ = some (.string ⟨#[100, 105, 102, 102, 105, 101, 45, 104, 101, 108, 108, 109, 97, 110, 45, 103, 114, 111, 117, 112, 45, 101, 120, 99, 104, 97, 110, 103, 101, 45, 115, 104, 97, 50, 53, 54]⟩)))
  clear P
  go_enter Tryd.func32, Tryd.ntmps32
  go_upto_region 4 with (refine wpList_alloc_row 24 rfl rfl #[.slice none 0 0, .slice none 0 0, .slice none 0 0, .slice none 0 0, .slice none 0 0, .slice none 0 0, .slice none 0 0, .slice none 0 0] pf_zero ?_; try simp only [World.size_alloc])
  generalize (w.alloc (.cells #[.slice none 0 0, .slice none 0 0, .slice none 0 0, .slice none 0 0, .slice none 0 0, .slice none 0 0, .slice none 0 0, .slice none 0 0] 24)) = w1 at hg hB1 hz ⊢
  refine region_inv (PlI w) ?hlt ?hstep ?hdone rfl (by kernel_rfl) ?start
  case start => exact ⟨undef, undef, undef, undef, undef, undef, undef, undef, undef, undef, undef, undef, undef, undef, undef, undef, undef, undef, undef, undef, undef, rfl, fun j hj => by
    have hj : 22 ≤ j := by
      rcases Nat.lt_or_ge j 22 with h | h
      · exfalso
        revert hj h
        exact (show ∀ j : Nat, (Array.replicate 22 false).getD j true = true → j < 22 → False by
          intro j hj h
          simp [Array.getD_eq_getD_getElem?, h] at hj) j
      · exact h
    obtain ⟨k, rfl⟩ : ∃ k, j = k + 22 := ⟨j - 22, by omega⟩
    exact trivial, fun _ => hg, hB1.trans (Below.mono (drewN_below 1) hB1.size), by show w.heap.size < w1.heap.size; omega⟩
  case hlt =>
    intro i o ho
    have hi := (Array.getElem?_eq_some_iff.1 ho).1
    match i, hi with
    | 0, _ => obtain rfl := Option.some.inj ho; decide
    | 1, _ => obtain rfl := Option.some.inj ho; decide
    | 2, _ => obtain rfl := Option.some.inj ho; decide
    | 3, _ => obtain rfl := Option.some.inj ho; decide
    | 4, _ => obtain rfl := Option.some.inj ho; decide
    | 5, _ => obtain rfl := Option.some.inj ho; decide
    | 6, _ => obtain rfl := Option.some.inj ho; decide
    | 7, _ => obtain rfl := Option.some.inj ho; decide
    | 8, _ => obtain rfl := Option.some.inj ho; decide
    | 9, _ => obtain rfl := Option.some.inj ho; decide
    | 10, _ => obtain rfl := Option.some.inj ho; decide
    | 11, _ => obtain rfl := Option.some.inj ho; decide
    | 12, _ => obtain rfl := Option.some.inj ho; decide
    | 13, _ => obtain rfl := Option.some.inj ho; decide
    | 14, _ => obtain rfl := Option.some.inj ho; decide
    | 15, _ => obtain rfl := Option.some.inj ho; decide
    | 16, _ => obtain rfl := Option.some.inj ho; decide
    | 17, _ => obtain rfl := Option.some.inj ho; decide
    | 18, _ => obtain rfl := Option.some.inj ho; decide
    | 19, _ => obtain rfl := Option.some.inj ho; decide
    | 20, _ => obtain rfl := Option.some.inj ho; decide
    | 21, _ => obtain rfl := Option.some.inj ho; decide
  case hdone =>
    rintro L a W ⟨x4, x5, x6, x7, x8, x9, x10, x11, x12, x13, x14, x15, x16, x17, x18, x19, x20, x21, x22, x23, x24, rfl, hF, _, hB, _⟩ hall
    obtain ⟨V, hgr, hV⟩ := hF 21 (hall 21 (by decide))
    have hV := Lib.hid hV
    have hB := Lib.hid hB
    clear hF hall hS
    go_wp2
    refine bodyPost_ret (results_cell_row rfl _ _ w.heap.size 24 V.toArray (0, 0) _ rfl hgr Tryd.underlying24 rfl (by rw [List.size_toArray, hV.out.1]; kernel_rfl)) rfl ⟨V, rfl, hV.out.pf, hB.out⟩
  case hstep =>
    rintro L a W i o ⟨x4, x5, x6, x7, x8, x9, x10, x11, x12, x13, x14, x15, x16, x17, x18, x19, x20, x21, x22, x23, x24, rfl, hF, hR, hB, hlt⟩ ho hLi hd K hK
    obtain ⟨s1, s2, s3⟩ := hS.out _ hB
    have hF := Lib.hid hF
    have hR := Lib.hid hR
    have hB := Lib.hid hB
    have hl := Lib.hid hlt
    have hK := Lib.hid hK
    clear hlt hS hg hB1 hz
    have hi := (Array.getElem?_eq_some_iff.1 ho).1
    match i, hi with
    | 0, _ =>
      obtain rfl := Option.some.inj ho
      clear hd ho hLi hi
      go_simp
      refine hK.out _ _ ⟨_, x5, x6, x7, x8, x9, x10, x11, x12, x13, x14, x15, x16, x17, x18, x19, x20, x21, x22, x23, x24, rfl, plF_step (i := 0) (x' := .pointer (some ⟨0, 1, none⟩)) hF.out hl.out (Below.refl W.heap.size W) (rfl) (show 0 < 21 by decide), fun h => ((Below.refl W.heap.size W).block _ hl.out).trans (hR.out (by simpa using h)), hB.out.trans ((Below.refl W.heap.size W).mono hB.out.size), Nat.lt_of_lt_of_le hl.out (Nat.le_refl _)⟩
    | 1, _ =>
      obtain rfl := Option.some.inj ho
      have l0 : L 0 = true := dep_of hd (n := 0) (by decide)
      have e0 := hF.out 0 l0
      obtain rfl := (e0 : x4 = _)
      clear hd ho hLi hi l0
      go_simp
      refine hK.out _ _ ⟨_, _, x6, x7, x8, x9, x10, x11, x12, x13, x14, x15, x16, x17, x18, x19, x20, x21, x22, x23, x24, rfl, plF_step (i := 1) (x' := .string ⟨#[99, 117, 114, 118, 101, 50, 53, 53, 49, 57, 45, 115, 104, 97, 50, 53, 54]⟩) hF.out hl.out (Below.refl W.heap.size W) (rfl) (show 1 < 21 by decide), fun h => ((Below.refl W.heap.size W).block _ hl.out).trans (hR.out (by simpa using h)), hB.out.trans ((Below.refl W.heap.size W).mono hB.out.size), Nat.lt_of_lt_of_le hl.out (Nat.le_refl _)⟩
    | 2, _ =>
      obtain rfl := Option.some.inj ho
      clear hd ho hLi hi
      go_simp
      refine hK.out _ _ ⟨x4, x5, _, x7, x8, x9, x10, x11, x12, x13, x14, x15, x16, x17, x18, x19, x20, x21, x22, x23, x24, rfl, plF_step (i := 2) (x' := .pointer (some ⟨0, 2, none⟩)) hF.out hl.out (Below.refl W.heap.size W) (rfl) (show 2 < 21 by decide), fun h => ((Below.refl W.heap.size W).block _ hl.out).trans (hR.out (by simpa using h)), hB.out.trans ((Below.refl W.heap.size W).mono hB.out.size), Nat.lt_of_lt_of_le hl.out (Nat.le_refl _)⟩
    | 3, _ =>
      obtain rfl := Option.some.inj ho
      have l2 : L 2 = true := dep_of hd (n := 2) (by decide)
      have e2 := hF.out 2 l2
      obtain rfl := (e2 : x6 = _)
      clear hd ho hLi hi l2
      go_simp
      refine hK.out _ _ ⟨x4, x5, _, _, x8, x9, x10, x11, x12, x13, x14, x15, x16, x17, x18, x19, x20, x21, x22, x23, x24, rfl, plF_step (i := 3) (x' := .string ⟨#[101, 99, 100, 104, 45, 115, 104, 97, 50, 45, 110, 105, 115, 116, 112, 50, 53, 54]⟩) hF.out hl.out (Below.refl W.heap.size W) (rfl) (show 3 < 21 by decide), fun h => ((Below.refl W.heap.size W).block _ hl.out).trans (hR.out (by simpa using h)), hB.out.trans ((Below.refl W.heap.size W).mono hB.out.size), Nat.lt_of_lt_of_le hl.out (Nat.le_refl _)⟩
    | 4, _ =>
      obtain rfl := Option.some.inj ho
      clear hd ho hLi hi
      go_simp
      refine hK.out _ _ ⟨x4, x5, x6, x7, _, x9, x10, x11, x12, x13, x14, x15, x16, x17, x18, x19, x20, x21, x22, x23, x24, rfl, plF_step (i := 4) (x' := .pointer (some ⟨0, 3, none⟩)) hF.out hl.out (Below.refl W.heap.size W) (rfl) (show 4 < 21 by decide), fun h => ((Below.refl W.heap.size W).block _ hl.out).trans (hR.out (by simpa using h)), hB.out.trans ((Below.refl W.heap.size W).mono hB.out.size), Nat.lt_of_lt_of_le hl.out (Nat.le_refl _)⟩
    | 5, _ =>
      obtain rfl := Option.some.inj ho
      have l4 : L 4 = true := dep_of hd (n := 4) (by decide)
      have e4 := hF.out 4 l4
      obtain rfl := (e4 : x8 = _)
      clear hd ho hLi hi l4
      go_simp
      refine hK.out _ _ ⟨x4, x5, x6, x7, _, _, x10, x11, x12, x13, x14, x15, x16, x17, x18, x19, x20, x21, x22, x23, x24, rfl, plF_step (i := 5) (x' := .string ⟨#[100, 105, 102, 102, 105, 101, 45, 104, 101, 108, 108, 109, 97, 110, 45, 103, 114, 111, 117, 112, 45, 101, 120, 99, 104, 97, 110, 103, 101, 45, 115, 104, 97, 50, 53, 54]⟩) hF.out hl.out (Below.refl W.heap.size W) (rfl) (show 5 < 21 by decide), fun h => ((Below.refl W.heap.size W).block _ hl.out).trans (hR.out (by simpa using h)), hB.out.trans ((Below.refl W.heap.size W).mono hB.out.size), Nat.lt_of_lt_of_le hl.out (Nat.le_refl _)⟩
    | 6, _ =>
      obtain rfl := Option.some.inj ho
      have l1 : L 1 = true := dep_of hd (n := 1) (by decide)
      have e1 := hF.out 1 l1
      have l3 : L 3 = true := dep_of hd (n := 3) (by decide)
      have e3 := hF.out 3 l3
      have l5 : L 5 = true := dep_of hd (n := 5) (by decide)
      have e5 := hF.out 5 l5
      obtain rfl := (e1 : x5 = _)
      obtain rfl := (e3 : x7 = _)
      obtain rfl := (e5 : x9 = _)
      clear hd ho hLi hi l1 l3 l5
      have hb := Lib.hid (below_got W (.cells #[.string ⟨#[99, 117, 114, 118, 101, 50, 53, 53, 49, 57, 45, 115, 104, 97, 50, 53, 54]⟩, .string ⟨#[101, 99, 100, 104, 45, 115, 104, 97, 50, 45, 110, 105, 115, 116, 112, 50, 53, 54]⟩, .string ⟨#[100, 105, 102, 102, 105, 101, 45, 104, 101, 108, 108, 109, 97, 110, 45, 103, 114, 111, 117, 112, 45, 101, 120, 99, 104, 97, 110, 103, 101, 45, 115, 104, 97, 50, 53, 54]⟩] 9))
      have hn := Lib.hid (StrF.block (l := methL) (base := w.heap.size + 1) (heap_new W (.cells #[.string ⟨#[99, 117, 114, 118, 101, 50, 53, 53, 49, 57, 45, 115, 104, 97, 50, 53, 54]⟩, .string ⟨#[101, 99, 100, 104, 45, 115, 104, 97, 50, 45, 110, 105, 115, 116, 112, 50, 53, 54]⟩, .string ⟨#[100, 105, 102, 102, 105, 101, 45, 104, 101, 108, 108, 109, 97, 110, 45, 103, 114, 111, 117, 112, 45, 101, 120, 99, 104, 97, 110, 103, 101, 45, 115, 104, 97, 50, 53, 54]⟩] 9)) (by decide) (by have := hl.out; omega))
      go_simp
      refine hK.out _ _ ⟨x4, _, x6, _, x8, _, _, x11, x12, x13, x14, x15, x16, x17, x18, x19, x20, x21, x22, x23, x24, rfl, plF_step (i := 6) (x' := .slice (some ⟨W.heap.size, 0, none⟩) 3 3) hF.out hl.out hb.out (hn.out) (show 6 < 21 by decide), fun h => (hb.out.block _ hl.out).trans (hR.out (by simpa using h)), hB.out.trans (hb.out.mono hB.out.size), Nat.lt_of_lt_of_le hl.out hb.out.size⟩
    | 7, _ =>
      obtain rfl := Option.some.inj ho
      clear hd ho hLi hi
      have hb := Lib.hid (below_got W (.cells #[.string ⟨#[115, 115, 104, 45, 101, 100, 50, 53, 53, 49, 57]⟩, .string ⟨#[114, 115, 97, 45, 115, 104, 97, 50, 45, 50, 53, 54]⟩] 9))
      have hn := Lib.hid (StrF.block (l := hostL) (base := w.heap.size + 1) (heap_new W (.cells #[.string ⟨#[115, 115, 104, 45, 101, 100, 50, 53, 53, 49, 57]⟩, .string ⟨#[114, 115, 97, 45, 115, 104, 97, 50, 45, 50, 53, 54]⟩] 9)) (by decide) (by have := hl.out; omega))
      go_simp
      refine hK.out _ _ ⟨x4, x5, x6, x7, x8, x9, x10, _, x12, x13, x14, x15, x16, x17, x18, x19, x20, x21, x22, x23, x24, rfl, plF_step (i := 7) (x' := .slice (some ⟨W.heap.size, 0, none⟩) 2 2) hF.out hl.out hb.out (hn.out) (show 7 < 21 by decide), fun h => (hb.out.block _ hl.out).trans (hR.out (by simpa using h)), hB.out.trans (hb.out.mono hB.out.size), Nat.lt_of_lt_of_le hl.out hb.out.size⟩
    | 8, _ =>
      obtain rfl := Option.some.inj ho
      clear hd ho hLi hi
      go_simp
      refine hK.out _ _ ⟨x4, x5, x6, x7, x8, x9, x10, x11, _, x13, x14, x15, x16, x17, x18, x19, x20, x21, x22, x23, x24, rfl, plF_step (i := 8) (x' := .func (.func 49) #[] #[]) hF.out hl.out (Below.refl W.heap.size W) (rfl) (show 8 < 21 by decide), fun h => ((Below.refl W.heap.size W).block _ hl.out).trans (hR.out (by simpa using h)), hB.out.trans ((Below.refl W.heap.size W).mono hB.out.size), Nat.lt_of_lt_of_le hl.out (Nat.le_refl _)⟩
    | 9, _ =>
      obtain rfl := Option.some.inj ho
      have l8 : L 8 = true := dep_of hd (n := 8) (by decide)
      have e8 := hF.out 8 l8
      obtain rfl := (e8 : x12 = _)
      clear hd ho hLi hi l8
      have c := Lib.hid (enc_any W)
      go_simp
      go_at_call 49
      refine c.out.mono ?_
      rintro r w3 ⟨A, n, c, rfl, hn, hb⟩
      refine hK.out _ _ ⟨x4, x5, x6, x7, x8, x9, x10, x11, _, _, x14, x15, x16, x17, x18, x19, x20, x21, x22, x23, x24, rfl, plF_step (i := 9) (x' := .slice A n c) hF.out hl.out hb (hn.mono (by have := hl.out; omega)) (show 9 < 21 by decide), fun h => (hb.block _ hl.out).trans (hR.out (by simpa using h)), hB.out.trans (hb.mono hB.out.size), Nat.lt_of_lt_of_le hl.out hb.size⟩
    | 10, _ =>
      obtain rfl := Option.some.inj ho
      clear hd ho hLi hi
      go_simp
      refine hK.out _ _ ⟨x4, x5, x6, x7, x8, x9, x10, x11, x12, x13, _, x15, x16, x17, x18, x19, x20, x21, x22, x23, x24, rfl, plF_step (i := 10) (x' := .func (.func 49) #[] #[]) hF.out hl.out (Below.refl W.heap.size W) (rfl) (show 10 < 21 by decide), fun h => ((Below.refl W.heap.size W).block _ hl.out).trans (hR.out (by simpa using h)), hB.out.trans ((Below.refl W.heap.size W).mono hB.out.size), Nat.lt_of_lt_of_le hl.out (Nat.le_refl _)⟩
    | 11, _ =>
      obtain rfl := Option.some.inj ho
      have l10 : L 10 = true := dep_of hd (n := 10) (by decide)
      have e10 := hF.out 10 l10
      obtain rfl := (e10 : x14 = _)
      clear hd ho hLi hi l10
      have c := Lib.hid (enc_any W)
      go_simp
      go_at_call 49
      refine c.out.mono ?_
      rintro r w3 ⟨A, n, c, rfl, hn, hb⟩
      refine hK.out _ _ ⟨x4, x5, x6, x7, x8, x9, x10, x11, x12, x13, _, _, x16, x17, x18, x19, x20, x21, x22, x23, x24, rfl, plF_step (i := 11) (x' := .slice A n c) hF.out hl.out hb (hn.mono (by have := hl.out; omega)) (show 11 < 21 by decide), fun h => (hb.block _ hl.out).trans (hR.out (by simpa using h)), hB.out.trans (hb.mono hB.out.size), Nat.lt_of_lt_of_le hl.out hb.size⟩
    | 12, _ =>
      obtain rfl := Option.some.inj ho
      clear hd ho hLi hi
      go_simp
      refine hK.out _ _ ⟨x4, x5, x6, x7, x8, x9, x10, x11, x12, x13, x14, x15, _, x17, x18, x19, x20, x21, x22, x23, x24, rfl, plF_step (i := 12) (x' := .func (.func 50) #[] #[]) hF.out hl.out (Below.refl W.heap.size W) (rfl) (show 12 < 21 by decide), fun h => ((Below.refl W.heap.size W).block _ hl.out).trans (hR.out (by simpa using h)), hB.out.trans ((Below.refl W.heap.size W).mono hB.out.size), Nat.lt_of_lt_of_le hl.out (Nat.le_refl _)⟩
    | 13, _ =>
      obtain rfl := Option.some.inj ho
      have l12 : L 12 = true := dep_of hd (n := 12) (by decide)
      have e12 := hF.out 12 l12
      obtain rfl := (e12 : x16 = _)
      clear hd ho hLi hi l12
      have c := Lib.hid (mac_any W)
      go_simp
      go_at_call 50
      refine c.out.mono ?_
      rintro r w3 ⟨A, n, c, rfl, hn, hb⟩
      refine hK.out _ _ ⟨x4, x5, x6, x7, x8, x9, x10, x11, x12, x13, x14, x15, _, _, x18, x19, x20, x21, x22, x23, x24, rfl, plF_step (i := 13) (x' := .slice A n c) hF.out hl.out hb (hn.mono (by have := hl.out; omega)) (show 13 < 21 by decide), fun h => (hb.block _ hl.out).trans (hR.out (by simpa using h)), hB.out.trans (hb.mono hB.out.size), Nat.lt_of_lt_of_le hl.out hb.size⟩
    | 14, _ =>
      obtain rfl := Option.some.inj ho
      clear hd ho hLi hi
      go_simp
      refine hK.out _ _ ⟨x4, x5, x6, x7, x8, x9, x10, x11, x12, x13, x14, x15, x16, x17, _, x19, x20, x21, x22, x23, x24, rfl, plF_step (i := 14) (x' := .func (.func 50) #[] #[]) hF.out hl.out (Below.refl W.heap.size W) (rfl) (show 14 < 21 by decide), fun h => ((Below.refl W.heap.size W).block _ hl.out).trans (hR.out (by simpa using h)), hB.out.trans ((Below.refl W.heap.size W).mono hB.out.size), Nat.lt_of_lt_of_le hl.out (Nat.le_refl _)⟩
    | 15, _ =>
      obtain rfl := Option.some.inj ho
      have l14 : L 14 = true := dep_of hd (n := 14) (by decide)
      have e14 := hF.out 14 l14
      obtain rfl := (e14 : x18 = _)
      clear hd ho hLi hi l14
      have c := Lib.hid (mac_any W)
      go_simp
      go_at_call 50
      refine c.out.mono ?_
      rintro r w3 ⟨A, n, c, rfl, hn, hb⟩
      refine hK.out _ _ ⟨x4, x5, x6, x7, x8, x9, x10, x11, x12, x13, x14, x15, x16, x17, _, _, x20, x21, x22, x23, x24, rfl, plF_step (i := 15) (x' := .slice A n c) hF.out hl.out hb (hn.mono (by have := hl.out; omega)) (show 15 < 21 by decide), fun h => (hb.block _ hl.out).trans (hR.out (by simpa using h)), hB.out.trans (hb.mono hB.out.size), Nat.lt_of_lt_of_le hl.out hb.size⟩
    | 16, _ =>
      obtain rfl := Option.some.inj ho
      clear hd ho hLi hi
      go_simp
      refine hK.out _ _ ⟨x4, x5, x6, x7, x8, x9, x10, x11, x12, x13, x14, x15, x16, x17, x18, x19, _, x21, x22, x23, x24, rfl, plF_step (i := 16) (x' := .func (.func 51) #[] #[]) hF.out hl.out (Below.refl W.heap.size W) (rfl) (show 16 < 21 by decide), fun h => ((Below.refl W.heap.size W).block _ hl.out).trans (hR.out (by simpa using h)), hB.out.trans ((Below.refl W.heap.size W).mono hB.out.size), Nat.lt_of_lt_of_le hl.out (Nat.le_refl _)⟩
    | 17, _ =>
      obtain rfl := Option.some.inj ho
      have l16 : L 16 = true := dep_of hd (n := 16) (by decide)
      have e16 := hF.out 16 l16
      obtain rfl := (e16 : x20 = _)
      clear hd ho hLi hi l16
      have c := Lib.hid (non_any W)
      go_simp
      go_at_call 51
      refine c.out.mono ?_
      rintro r w3 ⟨A, n, c, rfl, hn, hb⟩
      refine hK.out _ _ ⟨x4, x5, x6, x7, x8, x9, x10, x11, x12, x13, x14, x15, x16, x17, x18, x19, _, _, x22, x23, x24, rfl, plF_step (i := 17) (x' := .slice A n c) hF.out hl.out hb (hn.mono (by have := hl.out; omega)) (show 17 < 21 by decide), fun h => (hb.block _ hl.out).trans (hR.out (by simpa using h)), hB.out.trans (hb.mono hB.out.size), Nat.lt_of_lt_of_le hl.out hb.size⟩
    | 18, _ =>
      obtain rfl := Option.some.inj ho
      clear hd ho hLi hi
      go_simp
      refine hK.out _ _ ⟨x4, x5, x6, x7, x8, x9, x10, x11, x12, x13, x14, x15, x16, x17, x18, x19, x20, x21, _, x23, x24, rfl, plF_step (i := 18) (x' := .func (.func 51) #[] #[]) hF.out hl.out (Below.refl W.heap.size W) (rfl) (show 18 < 21 by decide), fun h => ((Below.refl W.heap.size W).block _ hl.out).trans (hR.out (by simpa using h)), hB.out.trans ((Below.refl W.heap.size W).mono hB.out.size), Nat.lt_of_lt_of_le hl.out (Nat.le_refl _)⟩
    | 19, _ =>
      obtain rfl := Option.some.inj ho
      have l18 : L 18 = true := dep_of hd (n := 18) (by decide)
      have e18 := hF.out 18 l18
      obtain rfl := (e18 : x22 = _)
      clear hd ho hLi hi l18
      have c := Lib.hid (non_any W)
      go_simp
      go_at_call 51
      refine c.out.mono ?_
      rintro r w3 ⟨A, n, c, rfl, hn, hb⟩
      refine hK.out _ _ ⟨x4, x5, x6, x7, x8, x9, x10, x11, x12, x13, x14, x15, x16, x17, x18, x19, x20, x21, _, _, x24, rfl, plF_step (i := 19) (x' := .slice A n c) hF.out hl.out hb (hn.mono (by have := hl.out; omega)) (show 19 < 21 by decide), fun h => (hb.block _ hl.out).trans (hR.out (by simpa using h)), hB.out.trans (hb.mono hB.out.size), Nat.lt_of_lt_of_le hl.out hb.size⟩
    | 20, _ =>
      obtain rfl := Option.some.inj ho
      have l6 : L 6 = true := dep_of hd (n := 6) (by decide)
      have e6 := hF.out 6 l6
      have l7 : L 7 = true := dep_of hd (n := 7) (by decide)
      have e7 := hF.out 7 l7
      have l9 : L 9 = true := dep_of hd (n := 9) (by decide)
      have e9 := hF.out 9 l9
      have l11 : L 11 = true := dep_of hd (n := 11) (by decide)
      have e11 := hF.out 11 l11
      have l13 : L 13 = true := dep_of hd (n := 13) (by decide)
      have e13 := hF.out 13 l13
      have l15 : L 15 = true := dep_of hd (n := 15) (by decide)
      have e15 := hF.out 15 l15
      have l17 : L 17 = true := dep_of hd (n := 17) (by decide)
      have e17 := hF.out 17 l17
      have l19 : L 19 = true := dep_of hd (n := 19) (by decide)
      have e19 := hF.out 19 l19
      obtain ⟨A6, n6, c6, rfl, q6⟩ := (e6 : StrF W _ x10 _)
      have q6 := Lib.hid q6
      obtain ⟨A7, n7, c7, rfl, q7⟩ := (e7 : StrF W _ x11 _)
      have q7 := Lib.hid q7
      obtain ⟨A9, n9, c9, rfl, q9⟩ := (e9 : StrF W _ x13 _)
      have q9 := Lib.hid q9
      obtain ⟨A11, n11, c11, rfl, q11⟩ := (e11 : StrF W _ x15 _)
      have q11 := Lib.hid q11
      obtain ⟨A13, n13, c13, rfl, q13⟩ := (e13 : StrF W _ x17 _)
      have q13 := Lib.hid q13
      obtain ⟨A15, n15, c15, rfl, q15⟩ := (e15 : StrF W _ x19 _)
      have q15 := Lib.hid q15
      obtain ⟨A17, n17, c17, rfl, q17⟩ := (e17 : StrF W _ x21 _)
      have q17 := Lib.hid q17
      obtain ⟨A19, n19, c19, rfl, q19⟩ := (e19 : StrF W _ x23 _)
      have q19 := Lib.hid q19
      clear hd ho hLi hi l6 l7 l9 l11 l13 l15 l17 l19
      go_simp
      refine hK.out _ _ ⟨x4, x5, x6, x7, x8, x9, _, _, x12, _, x14, _, x16, _, x18, _, x20, _, x22, _, _, rfl, plF_step (i := 20) (x' := .agg #[.slice A6 n6 c6, .slice A7 n7 c7, .slice A9 n9 c9, .slice A11 n11 c11, .slice A13 n13 c13, .slice A15 n15 c15, .slice A17 n17 c17, .slice A19 n19 c19]) hF.out hl.out (Below.refl W.heap.size W) (⟨[.slice A6 n6 c6, .slice A7 n7 c7, .slice A9 n9 c9, .slice A11 n11 c11, .slice A13 n13 c13, .slice A15 n15 c15, .slice A17 n17 c17, .slice A19 n19 c19], rfl, PfF.mk8 ⟨_, _, _, rfl, q6.out⟩ ⟨_, _, _, rfl, q7.out⟩ ⟨_, _, _, rfl, q9.out⟩ ⟨_, _, _, rfl, q11.out⟩ ⟨_, _, _, rfl, q13.out⟩ ⟨_, _, _, rfl, q15.out⟩ ⟨_, _, _, rfl, q17.out⟩ ⟨_, _, _, rfl, q19.out⟩⟩) (show 20 < 21 by decide), fun h => ((Below.refl W.heap.size W).block _ hl.out).trans (hR.out (by simpa using h)), hB.out.trans ((Below.refl W.heap.size W).mono hB.out.size), Nat.lt_of_lt_of_le hl.out (Nat.le_refl _)⟩
    | 21, _ =>
      obtain rfl := Option.some.inj ho
      have l20 : L 20 = true := dep_of hd (n := 20) (by decide)
      have e20 := hF.out 20 l20
      obtain ⟨V, rfl, hV⟩ := (e20 : ∃ V : List Value, x24 = .agg V.toArray ∧ PfF W (w.heap.size + 1) V)
      have hgr := hR.out hLi
      have hst := stP_run W w.heap.size #[.slice none 0 0, .slice none 0 0, .slice none 0 0, .slice none 0 0, .slice none 0 0, .slice none 0 0, .slice none 0 0, .slice none 0 0] V.toArray hgr (by show 8 = V.toArray.size; simp [hV.1]) hV.one (by rw [List.size_toArray, hV.1])
      have hV := Lib.hid hV
      have hgr := Lib.hid hgr
      clear hd ho hLi hi l20
      go_simp
      refine hK.out _ _ ⟨x4, x5, x6, x7, x8, x9, x10, x11, x12, x13, x14, x15, x16, x17, x18, x19, x20, x21, x22, x23, _, rfl, fun j hj => ?_, fun h => by simp at h, below_row hB.out (Nat.le_refl _) _, by simpa [World.setRow] using hl.out⟩
      by_cases e : j = 21
      · subst e
        exact ⟨V, heap_setRow_new _ _ _ _ _ _ hgr.out, hV.out.row (Nat.lt_succ_self _) _⟩
      · exact PlF.row (hF.out j (by simpa [e] using hj)) e _
end Go.Proofs.YtfoegpacjkcidaaDoor
