/- Prefs: Of, Plain. -/
import Derived.Test.YtfoegpacjkcidaaDoorPfK
import Derived.Deep.RegionHeld3
import Derived.Laws.CopyRow
namespace Go.Proofs.YtfoegpacjkcidaaDoor
open Go.RowKit

theorem results_two {P : Program} {fn : Func} {p u : Tmp} {ty : TypeId} (h : fn.results = #[.cell p ty, .tmp u]) (tmps : Array Value) (w : World) (g : Nat) (t : TypeId) (cs : Array Value) (fr : Nat × Nat) (d : TypeDesc) (v : Value)
    (hp : tmps.getD p undef = .pointer (some ⟨g, 0, none⟩)) (hg : w.heap[g]? = some (.cells cs t fr))
    (hu : P.underlying ty = some d) (hd : (match d with | .struct _ | .array _ _ => true | _ => false) = true) (hi : (P.info? ty).map (·.size) = some cs.size) (hv : tmps.getD u undef = v) :
    (results fn tmps).run P w = .ok (.tuple #[.agg cs, v]) w := by
  rw [results_cell_tmp h, hp, hv]
  simp [asAddr, run_loadVar_row w g t ty cs fr d hg hu hd hi]
theorem heap_setRow_new (w : World) (g : Nat) (old cs : Array Value) (t : TypeId) (fr : Nat × Nat) (h : w.heap[g]? = some (.cells old t fr)) : (w.setRow g cs).heap[g]? = some (.cells cs t fr) := by
  simp only [World.setRow, Array.getElem?_modify, if_true, h, Option.map_some]
theorem pf_zero : (Tryd.prog.info? 24).bind (·.zero) = some (.agg #[.slice none 0 0, .slice none 0 0, .slice none 0 0, .slice none 0 0, .slice none 0 0, .slice none 0 0, .slice none 0 0, .slice none 0 0]) := by kernel_rfl
/-- Names in a block from base on. -/
def StrF (w : World) (base : Nat) (v : Value) (l : List ByteArray) : Prop := ∃ A n c, v = .slice A n c ∧ n ≤ c ∧ c ≤ 9223372036854775807 ∧ Strs w A n l ∧ ∀ b off, A = some ⟨b, off, none⟩ → 0 < n → base ≤ b
theorem OwnS.strF {w : World} {base : Nat} {v : Value} {l : List ByteArray} (h : OwnS w base v l) : StrF w base v l := by
  have h1 := h.1.2
  obtain ⟨A, c, rfl, hs⟩ := h.strs
  rcases h1 with ⟨e, h0⟩ | ⟨g', cap, cur, e, hge, hgc, hcap, hm, _⟩
  · injection e with e1 e2 e3
    subst e1; subst e3
    exact ⟨none, l.length, 0, rfl, by omega, by omega, hs, fun b off e => by cases e⟩
  · injection e with e1 e2 e3
    subst e1; subst e3
    unfold maxLen at hm
    refine ⟨_, l.length, c, rfl, by omega, by omega, hs, fun b off e _ => ?_⟩
    injection e with e
    injection e with e
    omega
theorem StrF.strV {w : World} {base : Nat} {v : Value} {l : List ByteArray} (h : StrF w base v l) : StrV w v l := by
  obtain ⟨A, n, c, h1, h2, h3, h4, _⟩ := h
  exact ⟨A, n, c, h1, h2, h3, h4⟩
theorem StrF.keep {w w' : World} {base : Nat} {v : Value} {l : List ByteArray} (h : StrF w base v l) (hb : Below w.heap.size w w') : StrF w' base v l := by
  obtain ⟨A, n, c, h1, h2, h3, h4, h5⟩ := h
  exact ⟨A, n, c, h1, h2, h3, h4.keep hb, h5⟩
theorem StrF.mono {w : World} {base base' : Nat} {v : Value} {l : List ByteArray} (h : StrF w base v l) (hb : base' ≤ base) : StrF w base' v l := by
  obtain ⟨A, n, c, h1, h2, h3, h4, h5⟩ := h
  exact ⟨A, n, c, h1, h2, h3, h4, fun b off e hn => Nat.le_trans hb (h5 b off e hn)⟩
theorem setRow_cell (w : World) (g : Nat) (cs : Array Value) (b o : Nat) (h : g ≠ b) : (w.setRow g cs).cell? ⟨b, o, none⟩ = w.cell? ⟨b, o, none⟩ := by
  have e : (w.setRow g cs).heap[b]? = w.heap[b]? := by simp only [World.setRow, Array.getElem?_modify, if_neg h]
  unfold World.cell?
  rw [e]
theorem StrF.row {w : World} {base : Nat} {v : Value} {l : List ByteArray} (h : StrF w base v l) {g : Nat} (hg : g < base) (cs : Array Value) : StrV (w.setRow g cs) v l := by
  obtain ⟨A, n, c, h1, h2, h3, h4, h5⟩ := h
  refine ⟨A, n, c, h1, h2, h3, h4.1, h4.2.1, fun hn => ?_⟩
  obtain ⟨b, off, e, hlt, hc⟩ := h4.2.2 hn
  refine ⟨b, off, e, by simpa [World.setRow] using hlt, fun j z hz k u hu => ?_⟩
  have := h5 b off e hn
  rw [setRow_cell _ _ _ _ _ (by omega)]
  exact hc j z hz k u hu
/-- A copy of names. -/
def ClR (w : World) (l : List ByteArray) (r : Ending) (w' : World) : Prop := ∃ A n c, r = .returned (.slice A n c) ∧ StrF w' w.heap.size (.slice A n c) l ∧ Below w.heap.size w w'
theorem below_row {B g : Nat} {w w' : World} (h : Below B w w') (hg : B ≤ g) (cs : Array Value) : Below B w (w'.setRow g cs) := by
  have e : ∀ k, k < B → (w'.setRow g cs).heap[k]? = w'.heap[k]? := fun k hk => by simp only [World.setRow, Array.getElem?_modify, if_neg (show g ≠ k by omega)]
  exact ⟨h.1, h.2, h.3, by simpa [World.setRow] using h.4, fun k hk => (e k hk).trans (h.5 k hk)⟩
theorem Pf.mk8 {w : World} {v0 v1 v2 v3 v4 v5 v6 v7 : Value} {l0 l1 l2 l3 l4 l5 l6 l7 : List ByteArray} (h0 : StrV w v0 l0) (h1 : StrV w v1 l1) (h2 : StrV w v2 l2) (h3 : StrV w v3 l3) (h4 : StrV w v4 l4) (h5 : StrV w v5 l5) (h6 : StrV w v6 l6) (h7 : StrV w v7 l7) :
    Pf w [v0, v1, v2, v3, v4, v5, v6, v7] [l0, l1, l2, l3, l4, l5, l6, l7] := by
  refine ⟨rfl, rfl, fun i v l hv hl => ?_⟩
  match i with
  | 0 => injection hv with hv; injection hl with hl; subst hv hl; exact h0
  | 1 => injection hv with hv; injection hl with hl; subst hv hl; exact h1
  | 2 => injection hv with hv; injection hl with hl; subst hv hl; exact h2
  | 3 => injection hv with hv; injection hl with hl; subst hv hl; exact h3
  | 4 => injection hv with hv; injection hl with hl; subst hv hl; exact h4
  | 5 => injection hv with hv; injection hl with hl; subst hv hl; exact h5
  | 6 => injection hv with hv; injection hl with hl; subst hv hl; exact h6
  | 7 => injection hv with hv; injection hl with hl; subst hv hl; exact h7
  | i + 8 => simp at hv
theorem StrF.block {w : World} {g base : Nat} {l : List ByteArray} {t : TypeId} {fr : Nat × Nat} (h : w.heap[g]? = some (.cells (l.map Value.string).toArray t fr)) (hl : l.length ≤ 9223372036854775807) (hb : base ≤ g) : StrF w base (.slice (some ⟨g, 0, none⟩) l.length l.length) l := by
  refine ⟨_, _, _, rfl, Nat.le_refl _, hl, Strs.block (ss := l) (t := t) (fr := fr) ?_ (Array.getElem?_eq_some_iff.1 h).1, fun b off e _ => by injection e with e; injection e with e; omega⟩
  rw [h]
  congr 3
  exact (by rw [List.flatMap_def, map_sv_flatten] : (l.flatMap sv) = l.map Value.string).symm

theorem of1_any (k : Nat) (b : Nat) (A0 : Option Addr) (n0 c0 : Nat) (g : Nat) (U : List Value) (L : List (List ByteArray)) (w : World) (hk : k < 8) (hc : w.cell? ⟨b, 0, none⟩ = some (.slice (some ⟨g, 0, none⟩) 8 c0)) (hU : Vls w (some ⟨g, 0, none⟩) 8 U) (hP : Pf w U L) (hs : ∀ l ∈ L, l.length ≤ 1000000) :
    Calls Tryd.prog 37 #[.int .i64 k, .pointer (some ⟨b, 0, none⟩)] w (ClR w (L.getD k [])) := by
  obtain ⟨b', off, v, e, hb, hv, hcv⟩ := hU.at_ hk
  injection e with e
  injection e with e1 e2
  subst e1; subst e2
  obtain ⟨A, n, c, l, hv2, hl, hnc, hcm, hSt⟩ := hP.get hk
  obtain rfl : v = .slice A n c := by rw [hv] at hv2; injection hv2
  have hgd : L.getD k [] = l := by rw [List.getD_eq_getElem?_getD, hl]; rfl
  rw [hgd]
  have hn : n ≤ 1000000 := by have h1 := hs l (List.mem_of_getElem? hl); have h2 := hSt.len; omega
  have cC := Lib.hid (cloneS_any l A n c w hn hSt)
  have i1 : (0 : Int) ≤ (k : Int) := by omega
  have i2 : (k : Int) < 8 := by omega
  rw [Nat.zero_add] at hcv
  clear hv hv2 hl hSt hgd hU hP hs
  go_enter Tryd.func37, Tryd.ntmps37
  go_wp2_with (go_at_call 38; refine cC.out.mono ?_; rintro r w4 ⟨v4, rfl, ho4, hb4⟩; obtain ⟨A4, n4, c4, rfl⟩ := own_slice ho4; have hO := Lib.hid ho4; have hB := Lib.hid hb4; clear ho4 hb4)
  go_ret
  exact ⟨A4, n4, c4, rfl, hO.out.strF, hB.out⟩
set_option maxRecDepth 100000 in
theorem ofPf_less (A : Option Addr) (c : Nat) (w : World) :
    Calls Tryd.prog 14 #[.slice A 7 c] w fun r w' => r = .returned (.tuple #[.agg #[.slice none 0 0, .slice none 0 0, .slice none 0 0, .slice none 0 0, .slice none 0 0, .slice none 0 0, .slice none 0 0, .slice none 0 0], .bool false]) ∧ Below w.heap.size w w' := by
  have hB1 := below_got w (.cells #[.slice A 7 c] 34)
  have hg := heap_new (w.alloc (.cells #[.slice A 7 c] 34)) (.cells #[.slice none 0 0, .slice none 0 0, .slice none 0 0, .slice none 0 0, .slice none 0 0, .slice none 0 0, .slice none 0 0, .slice none 0 0] 24)
  have hB := hB1.alloc hB1.size (.cells #[.slice none 0 0, .slice none 0 0, .slice none 0 0, .slice none 0 0, .slice none 0 0, .slice none 0 0, .slice none 0 0, .slice none 0 0] 24)
  rw [World.size_alloc] at hg
  have hB := Lib.hid hB
  clear hB1
  have hb0 := Tryd.prog.built 24 []
  go_enter Tryd.func14, Tryd.ntmps14
  go_upto_region 2 with (refine wpList_alloc_row 24 rfl rfl #[.slice none 0 0, .slice none 0 0, .slice none 0 0, .slice none 0 0, .slice none 0 0, .slice none 0 0, .slice none 0 0, .slice none 0 0] pf_zero ?_; try simp only [World.size_alloc])
  generalize ((w.alloc (.cells #[.slice A 7 c] 34)).alloc (.cells #[.slice none 0 0, .slice none 0 0, .slice none 0 0, .slice none 0 0, .slice none 0 0, .slice none 0 0, .slice none 0 0, .slice none 0 0] 24)) = w1 at hg hB ⊢
  go_wp2_with (first
    | (refine wpList_build_as 24 _ rfl rfl #[.slice none 0 0, .slice none 0 0, .slice none 0 0, .slice none 0 0, .slice none 0 0, .slice none 0 0, .slice none 0 0, .slice none 0 0] (by kernel_rfl) ?_)
    | (refine wpList_store_at 24 _ _ rfl rfl (w.heap.size + 1) #[.slice none 0 0, .slice none 0 0, .slice none 0 0, .slice none 0 0, .slice none 0 0, .slice none 0 0, .slice none 0 0, .slice none 0 0] rfl rfl 24 #[.slice none 0 0, .slice none 0 0, .slice none 0 0, .slice none 0 0, .slice none 0 0, .slice none 0 0, .slice none 0 0, .slice none 0 0] hg (by kernel_rfl) rfl (by simp [Value.oneCell']) ?_))
  refine bodyPost_ret (results_two rfl _ _ (w.heap.size + 1) 24 #[.slice none 0 0, .slice none 0 0, .slice none 0 0, .slice none 0 0, .slice none 0 0, .slice none 0 0, .slice none 0 0, .slice none 0 0] (0, 0) _ _ rfl (heap_setRow_new _ _ _ _ _ _ hg) Tryd.underlying24 rfl (by kernel_rfl) rfl) rfl ⟨rfl, below_row hB.out (by omega) _⟩
set_option maxRecDepth 100000 in
set_option maxHeartbeats 4000000 in
theorem ofPf_any (g c : Nat) (U : List Value) (L : List (List ByteArray)) (w : World) (hU : Vls w (some ⟨g, 0, none⟩) 8 U) (hP : Pf w U L) (hs : ∀ l ∈ L, l.length ≤ 1000000) :
    Calls Tryd.prog 14 #[.slice (some ⟨g, 0, none⟩) 8 c] w fun r w' => ∃ V, r = .returned (.tuple #[.agg V.toArray, .bool true]) ∧ Pf w' V L ∧ Below w.heap.size w w' := by
  have hL := hP.l8
  match L, hL, hP, hs with
  | [l0, l1, l2, l3, l4, l5, l6, l7], _, hP, hs =>
    have hB1 := below_got w (.cells #[.slice (some ⟨g, 0, none⟩) 8 c] 34)
    have hg := heap_new (w.alloc (.cells #[.slice (some ⟨g, 0, none⟩) 8 c] 34)) (.cells #[.slice none 0 0, .slice none 0 0, .slice none 0 0, .slice none 0 0, .slice none 0 0, .slice none 0 0, .slice none 0 0, .slice none 0 0] 24)
    have hc := heap_past (heap_new w (.cells #[.slice (some ⟨g, 0, none⟩) 8 c] 34)) (.cells #[.slice none 0 0, .slice none 0 0, .slice none 0 0, .slice none 0 0, .slice none 0 0, .slice none 0 0, .slice none 0 0, .slice none 0 0] 24)
    have hB := hB1.alloc hB1.size (.cells #[.slice none 0 0, .slice none 0 0, .slice none 0 0, .slice none 0 0, .slice none 0 0, .slice none 0 0, .slice none 0 0, .slice none 0 0] 24)
    rw [World.size_alloc] at hg
    have hz : ((w.alloc (.cells #[.slice (some ⟨g, 0, none⟩) 8 c] 34)).alloc (.cells #[.slice none 0 0, .slice none 0 0, .slice none 0 0, .slice none 0 0, .slice none 0 0, .slice none 0 0, .slice none 0 0, .slice none 0 0] 24)).heap.size = w.heap.size + 2 := by simp
    have c0 : ((w.alloc (.cells #[.slice (some ⟨g, 0, none⟩) 8 c] 34)).alloc (.cells #[.slice none 0 0, .slice none 0 0, .slice none 0 0, .slice none 0 0, .slice none 0 0, .slice none 0 0, .slice none 0 0, .slice none 0 0] 24)).cell? ⟨w.heap.size, 0, none⟩ = some (.slice (some ⟨g, 0, none⟩) 8 c) := cell_of_row _ _ 0 _ _ _ hc
    clear hB1 hc
    go_enter Tryd.func14, Tryd.ntmps14
    go_upto_region 4 with (refine wpList_alloc_row 24 rfl rfl #[.slice none 0 0, .slice none 0 0, .slice none 0 0, .slice none 0 0, .slice none 0 0, .slice none 0 0, .slice none 0 0, .slice none 0 0] pf_zero ?_; try simp only [World.size_alloc])
    generalize ((w.alloc (.cells #[.slice (some ⟨g, 0, none⟩) 8 c] 34)).alloc (.cells #[.slice none 0 0, .slice none 0 0, .slice none 0 0, .slice none 0 0, .slice none 0 0, .slice none 0 0, .slice none 0 0, .slice none 0 0] 24)) = w1 at hg hB hz c0 ⊢
    have hC := fun (k : Nat) (hk : k < 8) W (h : Below w1.heap.size w1 W) => of1_any k w.heap.size none 0 c g U [l0, l1, l2, l3, l4, l5, l6, l7] W hk ((h.cell (p := ⟨w.heap.size, 0, none⟩) (by show w.heap.size < _; omega)).trans c0) ((hU.keep hB).keep h) ((hP.keep hB).keep h) hs
    have hR := Lib.hid (fun W (h : Below w1.heap.size w1 W) => (h.block (w.heap.size + 1) (by omega)).trans hg)
    have cC0 := Lib.hid (show ∀ W, Below w1.heap.size w1 W → Calls Tryd.prog 37 #[.int .i64 0, .pointer (some ⟨w.heap.size, 0, none⟩)] W (ClR W l0) from fun W h => hC 0 (by decide) W h)
    have cC1 := Lib.hid (show ∀ W, Below w1.heap.size w1 W → Calls Tryd.prog 37 #[.int .i64 1, .pointer (some ⟨w.heap.size, 0, none⟩)] W (ClR W l1) from fun W h => hC 1 (by decide) W h)
    have cC2 := Lib.hid (show ∀ W, Below w1.heap.size w1 W → Calls Tryd.prog 37 #[.int .i64 2, .pointer (some ⟨w.heap.size, 0, none⟩)] W (ClR W l2) from fun W h => hC 2 (by decide) W h)
    have cC3 := Lib.hid (show ∀ W, Below w1.heap.size w1 W → Calls Tryd.prog 37 #[.int .i64 3, .pointer (some ⟨w.heap.size, 0, none⟩)] W (ClR W l3) from fun W h => hC 3 (by decide) W h)
    have cC4 := Lib.hid (show ∀ W, Below w1.heap.size w1 W → Calls Tryd.prog 37 #[.int .i64 4, .pointer (some ⟨w.heap.size, 0, none⟩)] W (ClR W l4) from fun W h => hC 4 (by decide) W h)
    have cC5 := Lib.hid (show ∀ W, Below w1.heap.size w1 W → Calls Tryd.prog 37 #[.int .i64 5, .pointer (some ⟨w.heap.size, 0, none⟩)] W (ClR W l5) from fun W h => hC 5 (by decide) W h)
    have cC6 := Lib.hid (show ∀ W, Below w1.heap.size w1 W → Calls Tryd.prog 37 #[.int .i64 6, .pointer (some ⟨w.heap.size, 0, none⟩)] W (ClR W l6) from fun W h => hC 6 (by decide) W h)
    have cC7 := Lib.hid (show ∀ W, Below w1.heap.size w1 W → Calls Tryd.prog 37 #[.int .i64 7, .pointer (some ⟨w.heap.size, 0, none⟩)] W (ClR W l7) from fun W h => hC 7 (by decide) W h)
    have HB0 := Lib.hid (Below.refl w1.heap.size w1)
    have hB := Lib.hid hB
    have hZ := Lib.hid hz
    clear hC hU hP hs hg c0 hz
    go_wp2_with (first
      | (go_at_call 37; (with_reducible refine (cC0.out _ HB0.out).mono ?_); rintro r w2 ⟨A0, n0, c0, rfl, hV0, hb⟩; have hV0 := Lib.hid (hV0.mono HB0.out.size); have HB1 := Lib.hid (HB0.out.trans (hb.mono HB0.out.size)); clear hb)
      | (go_at_call 37; (with_reducible refine (cC1.out _ HB1.out).mono ?_); rintro r w3 ⟨A1, n1, c1, rfl, hV1, hb⟩; have hV1 := Lib.hid (hV1.mono HB1.out.size); have hV0 := Lib.hid (hV0.out.keep hb); have HB2 := Lib.hid (HB1.out.trans (hb.mono HB1.out.size)); clear hb)
      | (go_at_call 37; (with_reducible refine (cC2.out _ HB2.out).mono ?_); rintro r w4 ⟨A2, n2, c2, rfl, hV2, hb⟩; have hV2 := Lib.hid (hV2.mono HB2.out.size); have hV0 := Lib.hid (hV0.out.keep hb); have hV1 := Lib.hid (hV1.out.keep hb); have HB3 := Lib.hid (HB2.out.trans (hb.mono HB2.out.size)); clear hb)
      | (go_at_call 37; (with_reducible refine (cC3.out _ HB3.out).mono ?_); rintro r w5 ⟨A3, n3, c3, rfl, hV3, hb⟩; have hV3 := Lib.hid (hV3.mono HB3.out.size); have hV0 := Lib.hid (hV0.out.keep hb); have hV1 := Lib.hid (hV1.out.keep hb); have hV2 := Lib.hid (hV2.out.keep hb); have HB4 := Lib.hid (HB3.out.trans (hb.mono HB3.out.size)); clear hb)
      | (go_at_call 37; (with_reducible refine (cC4.out _ HB4.out).mono ?_); rintro r w6 ⟨A4, n4, c4, rfl, hV4, hb⟩; have hV4 := Lib.hid (hV4.mono HB4.out.size); have hV0 := Lib.hid (hV0.out.keep hb); have hV1 := Lib.hid (hV1.out.keep hb); have hV2 := Lib.hid (hV2.out.keep hb); have hV3 := Lib.hid (hV3.out.keep hb); have HB5 := Lib.hid (HB4.out.trans (hb.mono HB4.out.size)); clear hb)
      | (go_at_call 37; (with_reducible refine (cC5.out _ HB5.out).mono ?_); rintro r w7 ⟨A5, n5, c5, rfl, hV5, hb⟩; have hV5 := Lib.hid (hV5.mono HB5.out.size); have hV0 := Lib.hid (hV0.out.keep hb); have hV1 := Lib.hid (hV1.out.keep hb); have hV2 := Lib.hid (hV2.out.keep hb); have hV3 := Lib.hid (hV3.out.keep hb); have hV4 := Lib.hid (hV4.out.keep hb); have HB6 := Lib.hid (HB5.out.trans (hb.mono HB5.out.size)); clear hb)
      | (go_at_call 37; (with_reducible refine (cC6.out _ HB6.out).mono ?_); rintro r w8 ⟨A6, n6, c6, rfl, hV6, hb⟩; have hV6 := Lib.hid (hV6.mono HB6.out.size); have hV0 := Lib.hid (hV0.out.keep hb); have hV1 := Lib.hid (hV1.out.keep hb); have hV2 := Lib.hid (hV2.out.keep hb); have hV3 := Lib.hid (hV3.out.keep hb); have hV4 := Lib.hid (hV4.out.keep hb); have hV5 := Lib.hid (hV5.out.keep hb); have HB7 := Lib.hid (HB6.out.trans (hb.mono HB6.out.size)); clear hb)
      | (go_at_call 37; (with_reducible refine (cC7.out _ HB7.out).mono ?_); rintro r w9 ⟨A7, n7, c7, rfl, hV7, hb⟩; have hV7 := Lib.hid (hV7.mono HB7.out.size); have hV0 := Lib.hid (hV0.out.keep hb); have hV1 := Lib.hid (hV1.out.keep hb); have hV2 := Lib.hid (hV2.out.keep hb); have hV3 := Lib.hid (hV3.out.keep hb); have hV4 := Lib.hid (hV4.out.keep hb); have hV5 := Lib.hid (hV5.out.keep hb); have hV6 := Lib.hid (hV6.out.keep hb); have HB8 := Lib.hid (HB7.out.trans (hb.mono HB7.out.size)); have hgr := hR.out _ HB8.out; clear hb)
      | (refine wpList_build_as 24 _ rfl rfl #[.slice A0 n0 c0, .slice A1 n1 c1, .slice A2 n2 c2, .slice A3 n3 c3, .slice A4 n4 c4, .slice A5 n5 c5, .slice A6 n6 c6, .slice A7 n7 c7] (by kernel_rfl) ?_)
      | (refine wpList_store_at 24 _ _ rfl rfl (w.heap.size + 1) #[.slice A0 n0 c0, .slice A1 n1 c1, .slice A2 n2 c2, .slice A3 n3 c3, .slice A4 n4 c4, .slice A5 n5 c5, .slice A6 n6 c6, .slice A7 n7 c7] rfl rfl 24 #[.slice none 0 0, .slice none 0 0, .slice none 0 0, .slice none 0 0, .slice none 0 0, .slice none 0 0, .slice none 0 0, .slice none 0 0] hgr (by kernel_rfl) rfl (by simp [Value.oneCell']) ?_))
    refine bodyPost_ret (results_two rfl _ _ (w.heap.size + 1) 24 #[.slice A0 n0 c0, .slice A1 n1 c1, .slice A2 n2 c2, .slice A3 n3 c3, .slice A4 n4 c4, .slice A5 n5 c5, .slice A6 n6 c6, .slice A7 n7 c7] (0, 0) _ _ rfl (heap_setRow_new _ _ _ _ _ _ hgr) Tryd.underlying24 rfl (by kernel_rfl) rfl) rfl ⟨[.slice A0 n0 c0, .slice A1 n1 c1, .slice A2 n2 c2, .slice A3 n3 c3, .slice A4 n4 c4, .slice A5 n5 c5, .slice A6 n6 c6, .slice A7 n7 c7], rfl, ?_, below_row (hB.out.trans (HB8.out.mono hB.out.size)) (by omega) _⟩
    exact Pf.mk8 (hV0.out.row (by have := hZ.out; omega) _) (hV1.out.row (by have := hZ.out; omega) _) (hV2.out.row (by have := hZ.out; omega) _) (hV3.out.row (by have := hZ.out; omega) _) (hV4.out.row (by have := hZ.out; omega) _) (hV5.out.row (by have := hZ.out; omega) _) (hV6.out.row (by have := hZ.out; omega) _) (hV7.out.row (by have := hZ.out; omega) _)
end Go.Proofs.YtfoegpacjkcidaaDoor
