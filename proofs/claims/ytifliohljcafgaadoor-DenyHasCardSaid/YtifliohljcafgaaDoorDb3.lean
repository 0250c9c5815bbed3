/- Texts joined: what each shows stands ahead of its theorems. -/
import Derived.Test.YtifliohljcafgaaDoorDb2
import Derived.Test.YtifliohljcafgaaDoorDb0
import Derived.Laws.CopyRow
import Derived.Laws.CopyOwn
import Derived.WalkMore
import Derived.Test.YtifliohljcafgaaDoorProg
import Derived.Laws.BytesArg
import Derived.Laws.BitsLemmas
import Derived.IntWalk
import Derived.OpenShut
import Derived.Deep.QuietTactic
import Derived.BigQuiet
import Derived.Deep.DeepCutAuto
namespace Go.Proofs.YtifliohljcafgaaDoor
section
open Go.RowKit Go.Maps

theorem PutR.of_below {w w1 w' : World} {B : Nat} {A : Ar} {o : Option Tm} {r : Ending} (hb : Below w.heap.size w w1) (h : PutR w1 B A o r w') : PutR w B A o r w' := by
  obtain ⟨A', x, e, ⟨h1, h2, h3, h4, h6⟩, h5⟩ := h
  exact ⟨A', x, e, ⟨h1, h2, h3, (Keeps.of_below hb).trans h4, fun y hy => (h6 y hy).imp id fun hq q e => Nat.le_trans hb.size (hq q e)⟩, h5⟩
theorem iv_flat : ∀ ys : List Int, (ys.map (Value.int .i64)) = (ys.map iv).flatten
  | [] => rfl
  | y :: r => by rw [List.map_cons, List.map_cons, List.flatten_cons, iv_flat r]; rfl
theorem ints_new (w : World) (ys : List Int) (t : TypeId) : Ints (w.alloc (.cells (ys.map (Value.int .i64)).toArray t)) (some ⟨w.heap.size, 0, none⟩) ys.length ys := by
  have h := heap_new w (.cells (ys.map (Value.int .i64)).toArray t)
  have e : (ys.map (Value.int .i64)) = (ys.map iv).flatten := iv_flat ys
  rw [e] at h
  have := Rws.block (k := 1) (zs := ys.map iv) (by simp [iv]) h (by simp)
  rw [List.length_map] at this
  rw [e]
  exact this

theorem number_any (n : Int) (w : World) :
    Calls Tryd.prog 25 #[.int .i64 n] w fun r w' => r = .returned (.bool (decide (numOk n))) ∧ w = w' := by
  by_cases h0 : 0 ≤ n
  · go_enter Tryd.func25, Tryd.ntmps25
    go_wp2
    go_ret
    exact ⟨ret_bool (by unfold numOk; simp [h0]), rfl⟩
  · have hn : ¬ numOk n := fun h => h0 h.1
    rw [decide_eq_false hn]
    go_enter Tryd.func25, Tryd.ntmps25
    go_wp2
    go_ret
    exact ⟨rfl, rfl⟩
section
variable (A : Ar) (B : Nat) (w : World) (H : Arena w B A) (hB : B ≤ w.heap.size) (hN : A.N.length < 100)
include H hB hN
theorem key_any (p : Int) :
    Calls Tryd.prog 9 #[.pointer (some ⟨A.g, 0, none⟩), .int .i64 p] w (PutR w B A (keyT p)) := by
  have cp := Lib.hid (number_any p w)
  by_cases h : numOk p
  · have e : keyT p = mkO 3 p.toNat 0 [] [] := by unfold keyT; rw [if_pos h]
    have hok := keyT_ok p
    rw [e] at hok ⊢
    obtain ⟨i, rfl⟩ := Int.eq_ofNat_of_zero_le h.1
    rw [Int.toNat_natCast] at hok ⊢
    have cP : Calls Tryd.prog 24 #[.pointer (some ⟨A.g, 0, none⟩), .agg #[.int .i64 3, .int .i64 i, .int .i64 0, .string ⟨#[]⟩, .slice none 0 0]] w (PutR w B A (mkO 3 i 0 [] [])) := put_any A B 3 i 0 [] [] none 0 0 w H hB hN (by simp) (by omega) Rws.nil_ hok
    rw [decide_eq_true h] at cp
    have cP := Lib.hid cP
    clear H hok e h
    go_enter Tryd.func9, Tryd.ntmps9
    go_wp2_with (first
      | (go_at_call 25; (with_reducible refine cp.out.mono ?_); rintro r w1 ⟨rfl, rfl⟩)
      | (go_at_call 24; refine cP.out.mono ?_; rintro r w1 ⟨A', x, rfl, hG, hM⟩))
    go_ret
    exact ⟨A', x, rfl, hG, hM⟩
  · have e : keyT p = none := by unfold keyT; rw [if_neg h]
    have hR := Lib.hid (PutR.none_ H (Below.refl _ _) e)
    rw [decide_eq_false h] at cp
    clear H e h
    go_enter Tryd.func9, Tryd.ntmps9
    go_wp2_with (go_at_call 25; (with_reducible refine cp.out.mono ?_); rintro r w1 ⟨rfl, rfl⟩)
    go_ret
    exact hR.out
theorem pub_any (x : Int) :
    Calls Tryd.prog 8 #[.pointer (some ⟨A.g, 0, none⟩), .int .i64 x] w (PutR w B A (pubT (get A.L x))) := by
  have cI : Calls Tryd.prog 23 #[.pointer (some ⟨A.g, 0, none⟩), .int .i64 x, .int .i64 3] w fun r w' => r = .returned (.bool (isB A x 3)) ∧ w = w' := is_any A B x 3 w H
  rw [isB_eq (by decide)] at cI
  by_cases h : kindO (get A.L x) = 3
  · have e : pubT (get A.L x) = mkO 4 0 0 [] [get A.L x] := by unfold pubT; rw [if_pos h]
    have hok := pubT_ok (H.good.okO x)
    rw [e] at hok ⊢
    have hb := below_new w (.cells #[.int .i64 x] 35)
    have cP : Calls Tryd.prog 24 #[.pointer (some ⟨A.g, 0, none⟩), .agg #[.int .i64 4, .int .i64 0, .int .i64 0, .string ⟨#[]⟩, .slice (some ⟨w.heap.size, 0, none⟩) 1 1]] (w.alloc (.cells #[.int .i64 x] 35)) (PutR (w.alloc (.cells #[.int .i64 x] 35)) B A (mkO 4 0 0 [] [get A.L x])) := put_any A B 4 0 0 [] [x] (some ⟨w.heap.size, 0, none⟩) 1 1 _ (H.keep hb) (Nat.le_trans hB hb.size) hN (by simp) (by omega) (ints_new w [x] _) hok
    rw [show (kindO (get A.L x) == 3) = true by simp [h]] at cI
    have cP := Lib.hid cP
    have cI := Lib.hid cI
    have hb := Lib.hid hb
    clear H hok e h
    go_enter Tryd.func8, Tryd.ntmps8
    go_wp2_with (first
      | (go_at_call 23; refine cI.out.mono ?_; rintro r w1 ⟨rfl, rfl⟩)
      | (go_at_call 24; refine cP.out.mono ?_; rintro r w1 h1; obtain ⟨A', x', rfl, hG, hM⟩ := PutR.of_below hb.out h1))
    go_ret
    exact ⟨A', x', rfl, hG, hM⟩
  · have e : pubT (get A.L x) = none := by unfold pubT; rw [if_neg h]
    have hR := Lib.hid (PutR.none_ H (Below.refl _ _) e)
    rw [show (kindO (get A.L x) == 3) = false by simp [h]] at cI
    have cI := Lib.hid cI
    clear H e h
    go_enter Tryd.func8, Tryd.ntmps8
    go_wp2_with (go_at_call 23; refine cI.out.mono ?_; rintro r w1 ⟨rfl, rfl⟩)
    go_ret
    exact hR.out
theorem hash_any (x : Int) :
    Calls Tryd.prog 16 #[.pointer (some ⟨A.g, 0, none⟩), .int .i64 x] w (PutR w B A (hashT (get A.L x))) := by
  have hok := hashT_ok (H.good.okO x)
  unfold hashT at hok ⊢
  have hb := below_new w (.cells #[.int .i64 x] 35)
  have cP : Calls Tryd.prog 24 #[.pointer (some ⟨A.g, 0, none⟩), .agg #[.int .i64 7, .int .i64 0, .int .i64 0, .string ⟨#[]⟩, .slice (some ⟨w.heap.size, 0, none⟩) 1 1]] (w.alloc (.cells #[.int .i64 x] 35)) (PutR (w.alloc (.cells #[.int .i64 x] 35)) B A (mkO 7 0 0 [] [get A.L x])) := put_any A B 7 0 0 [] [x] (some ⟨w.heap.size, 0, none⟩) 1 1 _ (H.keep hb) (Nat.le_trans hB hb.size) hN (by simp) (by omega) (ints_new w [x] _) hok
  have cP := Lib.hid cP
  have hb := Lib.hid hb
  clear H hok
  go_enter Tryd.func16, Tryd.ntmps16
  go_wp2_with (go_at_call 24; refine cP.out.mono ?_; rintro r w1 h1; obtain ⟨A', x', rfl, hG, hM⟩ := PutR.of_below hb.out h1)
  go_ret
  exact ⟨A', x', rfl, hG, hM⟩
end
def sizeO (o : Option Tm) : Nat := match o with | some t => t.len | none => 0
def kindT (o : Option Tm) : Nat := kindO o
end

section
open Go.RowKit

theorem resV2 {P : Program} {fn : Func} {p u : Tmp} {ty : TypeId} (h : fn.results = #[.cell p ty, .tmp u]) (tmps : Array Value) (w : World) (g : Nat) (t : TypeId) (cs : Array Value) (fr : Nat × Nat) (d : TypeDesc) (v : Value)
    (hp : tmps.getD p undef = .pointer (some ⟨g, 0, none⟩)) (hg : w.heap[g]? = some (.cells cs t fr))
    (hu : P.underlying ty = some d) (hd : (match d with | .struct _ | .array _ _ => true | _ => false) = true) (hi : (P.info? ty).map (·.size) = some cs.size) (hv : tmps.getD u undef = v) :
    (results fn tmps).run P w = .ok (.tuple #[.agg cs, v]) w := by
  rw [results_cell_tmp h, hp, hv]
  simp [asAddr, run_loadVar_row w g t ty cs fr d hg hu hd hi]
theorem hsetRow (w : World) (g : Nat) (old cs : Array Value) (t : TypeId) (fr : Nat × Nat) (h : w.heap[g]? = some (.cells old t fr)) : (w.setRow g cs).heap[g]? = some (.cells cs t fr) := by
  simp only [World.setRow, Array.getElem?_modify, if_true, h, Option.map_some]
end

section
open Go.RowKit Go.Maps

def zNd : List Value := [.int .i64 0, .int .i64 0, .int .i64 0, .string ⟨#[]⟩, .slice none 0 0]
theorem zNd_one : zNd.toArray.all (·.oneCell') = true := by simp [zNd, Value.oneCell']
theorem nd_all {k a b : Nat} {s : List UInt8} {A : Option Addr} {n c : Nat} : (ndC k a b s (.slice A n c)).toArray.all (·.oneCell') = true := by simp [ndC, Value.oneCell']
theorem hsetRow_off {w : World} {g k : Nat} (h : k ≠ g) (cs : Array Value) : (w.setRow g cs).heap[k]? = w.heap[k]? := by
  simp only [World.setRow, Array.getElem?_modify, if_neg (Ne.symm h)]
theorem view_none (A : Ar) (B : Nat) (w : World) (H : Arena w B A) (x : Int) (hg : get A.L x = none) :
    Calls Tryd.prog 42 #[.pointer (some ⟨A.g, 0, none⟩), .int .i64 x] w fun r w' => r = .returned (.tuple #[.agg zNd.toArray, .bool false]) ∧ Below w.heap.size w w' := by
  have hB1 := below_new w (.cells zNd.toArray 66)
  have cH := has_any A B x _ (H.keep hB1)
  rw [show hasB A x = false by unfold hasB; rw [hg]; rfl] at cH
  have cH := Lib.hid cH
  have hz1 := Lib.hid (heap_new w (.cells zNd.toArray 66))
  have hB1 := Lib.hid hB1
  clear H hg
  go_enter Tryd.func42, Tryd.ntmps42
  go_wp2_with (first
    | (go_at_call 38; refine cH.out.mono ?_; rintro r w1 ⟨rfl, rfl⟩)
    | (refine wpList_store_at 66 _ _ rfl rfl w.heap.size zNd.toArray rfl rfl 66 zNd.toArray hz1.out (by kernel_rfl) rfl zNd_one ?_))
  refine bodyPost_ret (resV2 rfl _ _ w.heap.size 66 zNd.toArray (0, 0) _ _ rfl (hsetRow _ _ _ _ _ _ hz1.out) Tryd.underlying66 rfl (by kernel_rfl) rfl) rfl ⟨rfl, below_setRow hB1.out (Nat.le_refl _) _⟩
theorem OwnR.monoB {w : World} {base base' k : Nat} {E : TypeId} {v : Value} {zs : List (List Value)} (h : OwnR w base k E v zs) (hB : base' ≤ base) : OwnR w base' k E v zs := by
  obtain ⟨⟨hl, hh⟩, hz⟩ := h
  refine ⟨⟨hl, ?_⟩, hz⟩
  rcases hh with h0 | ⟨g, cap, cur, hv, hg, r⟩
  · exact .inl h0
  · exact .inr ⟨g, cap, cur, hv, by omega, r⟩
set_option maxRecDepth 100000 in
set_option maxHeartbeats 2000000 in
theorem view_own (A : Ar) (B : Nat) (w : World) (H : Arena w B A) (x : Int) (t : Tm) (hg : get A.L x = some t) :
    Calls Tryd.prog 42 #[.pointer (some ⟨A.g, 0, none⟩), .int .i64 x] w fun r w' => ∃ (Av : Option Addr) (c : Nat) (xs : List Nat), r = .returned (.tuple #[.agg (ndC t.kind t.a t.b t.s (.slice Av t.args.length c)).toArray, .bool true]) ∧ OwnR w' w.heap.size 1 35 (.slice Av t.args.length c) (xs.map idv) ∧ xs.map (fun i => A.L[i]?) = t.args.map some ∧ Below w.heap.size w w' := by
  obtain ⟨j, rfl, hj⟩ := get_some hg
  obtain ⟨nd, hnd, rfl⟩ := Ar.N_at hj
  obtain ⟨Ai, ci, ev, hI, _⟩ := H.ids nd (List.mem_of_getElem? hnd)
  have hargs := Lib.hid (H.args nd (List.mem_of_getElem? hnd))
  have hxl : nd.xs.length = nd.t.args.length := by have := congrArg List.length hargs.out; simpa using this
  have hfew := H.few
  have ha8 : nd.t.args.length ≤ 1000000 := by
    have hok := H.good.ok nd.t (List.mem_of_getElem? (Ar.L_at hnd))
    generalize nd.t = t at hok
    obtain ⟨k, a, b, s, args⟩ := t
    rw [ok_mk] at hok
    have := hok.1
    unfold okHd at this
    simp only [Tm.args]
    omega
  have hB1 := below_new w (.cells zNd.toArray 66)
  have cH := has_any A B j _ (H.keep hB1)
  rw [show hasB A j = true by unfold hasB; rw [hg]; rfl] at cH
  have cH := Lib.hid cH
  have H1 := H.keep hB1
  obtain ⟨An, cn, As, cs, e1, e2, c0, c1, c2, h1, h2⟩ := H1.open_
  obtain ⟨b, off, cn', ev2, hb, hr, hjl⟩ := H1.node hnd
  rw [e1] at ev2
  injection ev2 with ev2 _ _
  subst ev2
  rw [hxl] at hI ev
  obtain ⟨k, a, b', s, v, hrow⟩ : ∃ (k a b' : Nat) (s : List UInt8) (v : Value), k = nd.t.kind ∧ a = nd.t.a ∧ b' = nd.t.b ∧ s = nd.t.s ∧ v = nd.v := ⟨_, _, _, _, _, rfl, rfl, rfl, rfl, rfl⟩
  have hrr : (w.alloc (.cells zNd.toArray 66)).rangeAt b (off + j * 5) (ndC k a b' s v) := by
    obtain ⟨rfl, rfl, rfl, rfl, rfl⟩ := hrow
    exact hr
  obtain ⟨e3, e4, e5, e6, e7⟩ := hrow
  rw [← e7] at ev
  rw [← e3, ← e4, ← e5, ← e6]
  generalize hn : nd.t.args.length = n at *
  clear c1 c2 h1 h2 e1 e2 e3 e4 e5 e6 e7 hr H H1 hg hj hn
  have hBz := hB1.trans (Below.mono (below_new (w.alloc (.cells zNd.toArray 66)) (.cells #[.int .i64 0, .int .i64 0, .int .i64 0, .string ⟨#[]⟩, .slice none 0 0] 66)) hB1.size)
  have hzz := heap_past (heap_new w (.cells zNd.toArray 66)) (.cells #[.int .i64 0, .int .i64 0, .int .i64 0, .string ⟨#[]⟩, .slice none 0 0] 66)
  have hnz := heap_new (w.alloc (.cells zNd.toArray 66)) (.cells #[.int .i64 0, .int .i64 0, .int .i64 0, .string ⟨#[]⟩, .slice none 0 0] 66)
  rw [show (w.alloc (.cells zNd.toArray 66)).heap.size = w.heap.size + 1 by simp] at hnz
  have hnz1 := Lib.hid hnz
  have hB2 := below_setRow hBz (Nat.le_succ _) (g := w.heap.size + 1) (ndC k a b' s v).toArray
  have hn2 := hsetRow _ _ _ (ndC k a b' s v).toArray _ _ hnz
  have hz2 := (hsetRow_off (w := (w.alloc (.cells zNd.toArray 66)).alloc (.cells #[.int .i64 0, .int .i64 0, .int .i64 0, .string ⟨#[]⟩, .slice none 0 0] 66)) (g := w.heap.size + 1) (k := w.heap.size) (by omega) (ndC k a b' s v).toArray).trans hzz
  have cC := Lib.hid (cloneI_any nd.xs Ai n ci _ hxl ha8 (hI.keep hB2))
  have hn2 := Lib.hid hn2
  have hz2 := Lib.hid hz2
  have hB2 := Lib.hid hB2
  have hrr1 := Lib.hid hrr
  clear hBz hzz hnz hB1 hI
  subst ev
  go_enter Tryd.func42, Tryd.ntmps42
  go_upto_region 4 with (first
    | (go_at_call 38; refine cH.out.mono ?_; rintro r w1 ⟨rfl, rfl⟩)
    | (refine wpList_load_at 66 _ rfl rfl b (off + j * 5) rfl (ndC k a b' s (.slice Ai n ci)) _ hrr1.out Tryd.underlying66 rfl (by kernel_rfl) ?_)
    | (refine wpList_store_at 66 _ _ rfl rfl (w.heap.size + 1) (ndC k a b' s (.slice Ai n ci)).toArray rfl rfl 66 zNd.toArray hnz1.out (by kernel_rfl) rfl nd_all ?_))
  generalize ((w.alloc (.cells zNd.toArray 66)).alloc (.cells #[.int .i64 0, .int .i64 0, .int .i64 0, .string ⟨#[]⟩, .slice none 0 0] 66)).setRow (w.heap.size + 1) (ndC k a b' s (.slice Ai n ci)).toArray = W2 at *
  clear c0 hb hjl hrr cH hnz1
  have hc4 : W2.cell? ⟨w.heap.size + 1, 4, none⟩ = some (.slice Ai n ci) := cell_of_row W2 (w.heap.size + 1) 4 _ _ _ hn2.out
  go_upto_region 5 with fail
  refine cC.out.mono ?_
  rintro r W3 ⟨v5, rfl, hO5, hb5⟩
  have hl2 := (Array.getElem?_eq_some_iff.1 hn2.out).1
  have hl1 := (Array.getElem?_eq_some_iff.1 hz2.out).1
  have hn3 := (hb5.block (w.heap.size + 1) hl2).trans hn2.out
  have hz3 := (hb5.block w.heap.size hl1).trans hz2.out
  have hB3 := hB2.out.trans (hb5.mono hB2.out.size)
  have hfz := frozen_of_row W3 (w.heap.size + 1) 4 _ _ hn3
  have hcc : W3.cell? ⟨w.heap.size + 1, 4, none⟩ = some (.slice Ai n ci) := cell_of_row W3 (w.heap.size + 1) 4 _ _ _ hn3
  obtain ⟨A5, c5, e5, _⟩ := hO5.rws
  rw [List.length_map, hxl] at e5
  subst e5
  have hB4 := Lib.hid (hB3.setCell (p := ⟨w.heap.size + 1, 4, none⟩) (Nat.le_succ _) (.slice A5 n c5))
  have hn4 : (W3.setCell ⟨w.heap.size + 1, 4, none⟩ (.slice A5 n c5)).heap[w.heap.size + 1]? = some (.cells (ndC k a b' s (.slice A5 n c5)).toArray 66 (0, 0)) := by
    rw [heap_setCell_same W3 (w.heap.size + 1) 4 _ _ _ hn3]; rfl
  have hz4 := Lib.hid ((heap_setCell_other W3 ⟨w.heap.size + 1, 4, none⟩ w.heap.size (.slice A5 n c5) (by simp)).trans hz3)
  have hr4 := Lib.hid (rangeAt_list hn4)
  have hO4 := Lib.hid (hO5.keepF (F := fun q => some (w.heap.size + 1) = some q) (Keeps.of_grown (grown_set W3 ⟨w.heap.size + 1, 4, none⟩ (.slice A5 n c5)) fun q hq => hq) (fun q hq hf => by have := hO5.1.lt q hq; have := Option.some.inj hf; omega))
  clear hn3 hz3 hB3 hO5 hn4 hc4 hb5
  go_upto_region 5 with fail
  generalize W3.setCell ⟨w.heap.size + 1, 4, none⟩ (.slice A5 n c5) = W4 at *
  have hO6 := Lib.hid (hO4.out.keepF (w' := W4.setRow w.heap.size (ndC k a b' s (.slice A5 n c5)).toArray) (F := fun q => q = w.heap.size) ⟨rfl, rfl, rfl, by simp [World.setRow], fun q _ hq => hsetRow_off hq _⟩ (fun q hq hf => by have := hO4.out.1.lt q hq; omega))
  go_wp2_with (first
    | (refine wpList_load_at 66 _ rfl rfl (w.heap.size + 1) 0 rfl (ndC k a b' s (.slice A5 n c5)) _ hr4.out Tryd.underlying66 rfl (by kernel_rfl) ?_)
    | (refine wpList_store_at 66 _ _ rfl rfl w.heap.size (ndC k a b' s (.slice A5 n c5)).toArray rfl rfl 66 zNd.toArray hz4.out (by kernel_rfl) rfl nd_all ?_))
  have hR7 := OwnR.monoB hO6.out hB2.out.size
  refine bodyPost_ret (resV2 rfl _ _ w.heap.size 66 (ndC k a b' s (.slice A5 n c5)).toArray (0, 0) _ _ rfl (hsetRow _ _ _ _ _ _ hz4.out) Tryd.underlying66 rfl (by kernel_rfl) rfl) rfl ⟨A5, c5, nd.xs, rfl, hR7, hargs.out, below_setRow hB4.out (Nat.le_refl _) _⟩
theorem view_some (A : Ar) (B : Nat) (w : World) (H : Arena w B A) (x : Int) (t : Tm) (hg : get A.L x = some t) :
    Calls Tryd.prog 42 #[.pointer (some ⟨A.g, 0, none⟩), .int .i64 x] w fun r w' => ∃ (Av : Option Addr) (c : Nat) (xs : List Nat), r = .returned (.tuple #[.agg (ndC t.kind t.a t.b t.s (.slice Av t.args.length c)).toArray, .bool true]) ∧ Rws w' 1 Av t.args.length (xs.map idv) ∧ xs.map (fun i => A.L[i]?) = t.args.map some ∧ Below w.heap.size w w' := by
  refine (view_own A B w H x t hg).mono ?_
  rintro r w' ⟨Av, c, xs, rfl, hO, hx, hb⟩
  obtain ⟨A7, c7, e7, hR7⟩ := hO.rws
  have hl : xs.length = t.args.length := by have := congrArg List.length hx; simpa using this
  rw [List.length_map, hl] at e7 hR7
  injection e7 with e7 _ e8
  subst e7
  exact ⟨Av, c, xs, rfl, hR7, hx, hb⟩
end

section
open Go.RowKit Go.Maps

/-- Blocks of other types than an arena's stay. -/
def Stay (w w' : World) : Prop := ∀ (q : Nat) (cur : Array Value) (t : TypeId) (fr : Nat × Nat), w.heap[q]? = some (.cells cur t fr) → t ≠ 61 → t ≠ 66 → t ≠ 3 → w'.heap[q]? = some (.cells cur t fr)
theorem Stay.refl (w : World) : Stay w w := fun _ _ _ _ h _ _ _ => h
theorem Stay.trans {a b c : World} (h : Stay a b) (k : Stay b c) : Stay a c := fun q cur t fr hq h1 h2 h3 => k q cur t fr (h q cur t fr hq h1 h2 h3) h1 h2 h3
theorem Stay.of_below {w w' : World} (h : Below w.heap.size w w') : Stay w w' := fun q _ _ _ hq _ _ _ => (h.block q (Array.getElem?_eq_some_iff.1 hq).1).trans hq
theorem Stay.of_keeps {w w' : World} {B : Nat} {A : Ar} (H : Arena w B A) (h : Keeps A.has w w') : Stay w w' := fun q cur t fr hq h1 h2 h3 =>
  (h.block q (Array.getElem?_eq_some_iff.1 hq).1 fun hf => by
    have hT : Typ w q t := ⟨_, _, hq⟩
    rcases hf with rfl | rfl | hf | hf
    · exact hT.ne ⟨_, _, H.blk⟩ h1 rfl
    · obtain ⟨D, ⟨es, cl, hb, _⟩, _⟩ := H.map
      exact hT.no_map hb rfl
    · exact hT.ne (H.nodes.typ hf) h2 rfl
    · exact hT.ne (OwnR.typ H.sizes hf) h3 rfl).trans hq
/-- An arena made since w, of the terms L. -/
def St (w : World) (g : Nat) (W : World) (L : List Tm) : Prop := ∃ A : Ar, A.g = g ∧ A.L = L ∧ Arena W w.heap.size A ∧ Below w.heap.size w W
theorem St.below {w : World} {g : Nat} {W : World} {L : List Tm} (h : St w g W L) : Below w.heap.size w W := by obtain ⟨_, _, _, _, h⟩ := h; exact h
theorem St.good {w : World} {g : Nat} {W : World} {L : List Tm} (h : St w g W L) : Good L := by obtain ⟨A, _, rfl, H, _⟩ := h; exact H.good
theorem St.few {w : World} {g : Nat} {W : World} {L : List Tm} (h : St w g W L) : L.length ≤ 100 := by obtain ⟨A, _, rfl, H, _⟩ := h; rw [A.L_len]; exact H.few
theorem St.keep {w : World} {g : Nat} {W W' : World} {L : List Tm} (h : St w g W L) (hb : Below W.heap.size W W') : St w g W' L := by
  obtain ⟨A, h1, h2, H, hB⟩ := h
  exact ⟨A, h1, h2, H.keep hb, hB.trans (hb.mono hB.size)⟩
theorem St.start {w : World} {A : Ar} {W : World} (hN : A.N = []) (h : Arena W w.heap.size A) (hb : Below w.heap.size w W) : St w A.g W [] := ⟨A, rfl, by simp [Ar.L, hN], h, hb⟩
/-- Two readings of one arena have the same slices in their nodes. -/
theorem Arena.same_v {w : World} {B B' : Nat} {A A' : Ar} (h : Arena w B A) (h' : Arena w B' A') (hg : A.g = A'.g) : A.N.map Nd.v = A'.N.map Nd.v := by
  have hb := h.blk
  rw [hg, h'.blk] at hb
  have e1 : A'.vn = A.vn := by simp only [Option.some.injEq, Obj.cells.injEq, Array.mk.injEq, List.cons.injEq] at hb; exact hb.1.1
  obtain ⟨An, cn, ev, hr⟩ := h.nodes.rws
  obtain ⟨An', cn', ev', hr'⟩ := h'.nodes.rws
  rw [e1, ev] at ev'
  injection ev' with q1 q2 q3
  subst q1
  simp only [List.length_map] at q2 hr hr'
  refine List.ext_getElem? fun j => ?_
  rw [List.getElem?_map, List.getElem?_map]
  rcases Nat.lt_or_ge j A.N.length with hj | hj
  · obtain ⟨b, off, z, e, _, hz, _, hc⟩ := hr.row hj
    obtain ⟨b', off', z', e', _, hz', _, hc'⟩ := hr'.row (show j < A'.N.length by omega)
    rw [e] at e'
    injection e' with e'
    injection e' with e2 e3 e4
    subst e2
    subst e3
    rw [List.getElem?_map] at hz hz'
    rw [List.getElem?_eq_getElem hj] at hz ⊢
    rw [List.getElem?_eq_getElem (show j < A'.N.length by omega)] at hz' ⊢
    have hz := Option.some.inj hz
    have hz' := Option.some.inj hz'
    have c4 := hc 4 (A.N[j]).v (by rw [← hz]; rfl)
    have c4' := hc' 4 (A'.N[j]).v (by rw [← hz']; rfl)
    rw [c4] at c4'
    simpa using c4'
  · rw [List.getElem?_eq_none hj, List.getElem?_eq_none (by omega)]
/-- No node's numbers lie in a block of F. -/
def OffE (W : World) (g : Nat) (F : Nat → Prop) : Prop := ∃ B A, Arena W B A ∧ A.g = g ∧ ∀ x ∈ A.N, OffS F x.v
theorem OffE.at_ {W : World} {g B : Nat} {F : Nat → Prop} {A : Ar} (h : OffE W g F) (H : Arena W B A) (hg : A.g = g) : ∀ x ∈ A.N, OffS F x.v := fun x hx => by
  obtain ⟨B1, A1, H1, h1, h2⟩ := h
  have e := H.same_v H1 (hg.trans h1.symm)
  have hm : x.v ∈ A.N.map Nd.v := List.mem_map_of_mem hx
  rw [e] at hm
  obtain ⟨y, hy, hv⟩ := List.mem_map.1 hm
  rw [← hv]
  exact h2 y hy
/-- Blocks in which no node's numbers lay are still such. -/
def Fresh (g : Nat) (W W' : World) : Prop := ∀ F : Nat → Prop, (∀ q, F q → q < W.heap.size) → OffE W g F → OffE W' g F
theorem OffE.keep {W W' : World} {g : Nat} {F : Nat → Prop} (h : OffE W g F) (hb : Below W.heap.size W W') : OffE W' g F := by
  obtain ⟨B, A, H, h1, h2⟩ := h
  exact ⟨B, A, H.keep hb, h1, h2⟩
theorem Fresh.of_below {g : Nat} {W W' : World} (hb : Below W.heap.size W W') : Fresh g W W' := fun _ _ h => h.keep hb
theorem Fresh.trans {g : Nat} {a b c : World} (h : Fresh g a b) (hs : a.heap.size ≤ b.heap.size) (k : Fresh g b c) : Fresh g a c := fun F hF ho => k F (fun q hq => Nat.lt_of_lt_of_le (hF q hq) hs) (h F hF ho)
theorem Fresh.of_grew {w w' : World} {B : Nat} {A A' : Ar} {o : Option Tm} (H : Arena w B A) (h : Grew w w' B A A' o) : Fresh A.g w w' := fun F hF ho => ⟨B, A', h.arena, h.same, fun x hx => by
  rcases h.fresh x hx with hx | hx
  · exact ho.at_ H rfl x hx
  · exact fun _ _ _ _ _ q hq hf => absurd (hF q hf) (Nat.not_lt.2 (hx q hq))⟩
/-- A term more. -/
def SR (w : World) (g : Nat) (W : World) (L : List Tm) (o : Option Tm) (r : Ending) (W' : World) : Prop := ∃ L' x, r = .returned (.int .i64 x) ∧ St w g W' L' ∧ Grow L L' o ∧ Nm L' x o ∧ Stay W W' ∧ W.heap.size ≤ W'.heap.size ∧ Fresh g W W'
theorem St.put {w : World} {g : Nat} {W : World} {L : List Tm} {o : Option Tm} {P : Program} {f : FuncId} {args : Array Value} (h : St w g W L) (hL : L.length < 100)
    (hc : ∀ A, A.g = g → A.L = L → Arena W w.heap.size A → w.heap.size ≤ W.heap.size → A.N.length < 100 → Calls P f args W (PutR W w.heap.size A o)) : Calls P f args W (SR w g W L o) := by
  obtain ⟨A, h1, h2, H, hB⟩ := h
  refine (hc A h1 h2 H hB.size (by rw [← A.L_len, h2]; exact hL)).mono ?_
  rintro r W' ⟨A', x, rfl, hG, hM⟩
  exact ⟨A'.L, x, rfl, ⟨A', hG.same.trans h1, rfl, hG.arena, hB.trans (hG.keeps.below (fun k hk => (H.has_ge hk).1) hB.size)⟩, h2 ▸ hG.grow, hM, Stay.of_keeps H hG.keeps, hG.keeps.size, h1 ▸ Fresh.of_grew H hG⟩
section
variable {w : World} {g : Nat} {W : World} {L : List Tm} (h : St w g W L) (hL : L.length < 100)
include h hL
theorem St.key (p : Int) : Calls Tryd.prog 9 #[.pointer (some ⟨g, 0, none⟩), .int .i64 p] W (SR w g W L (keyT p)) :=
  h.put hL fun A h1 _ H hB hN => by subst h1; exact key_any A _ W H hB hN p
theorem St.pub (x : Int) : Calls Tryd.prog 8 #[.pointer (some ⟨g, 0, none⟩), .int .i64 x] W (SR w g W L (pubT (get L x))) :=
  h.put hL fun A h1 h2 H hB hN => by subst h1; subst h2; exact pub_any A _ W H hB hN x
theorem St.hash (x : Int) : Calls Tryd.prog 16 #[.pointer (some ⟨g, 0, none⟩), .int .i64 x] W (SR w g W L (hashT (get L x))) :=
  h.put hL fun A h1 h2 H hB hN => by subst h1; subst h2; exact hash_any A _ W H hB hN x
end
section
variable {w : World} {g : Nat} {W : World} {L : List Tm} (h : St w g W L)
include h
theorem St.len : Calls Tryd.prog 53 #[.pointer (some ⟨g, 0, none⟩)] W fun r w' => r = .returned (.int .i64 L.length) ∧ W = w' := by
  obtain ⟨A, rfl, rfl, H, _⟩ := h; rw [A.L_len]; exact len_any A _ W H
end
theorem Nm.at_ {L : List Tm} (h : L.Nodup) {x : Int} {t : Tm} {j : Nat} (hx : Nm L x (some t)) (hj : L[j]? = some t) : x = j := by
  obtain ⟨i, rfl, hi⟩ := get_some hx.1
  rw [once_inj h hi hj]
theorem Grow.old {L L' : List Tm} {t : Tm} (h : Grow L L' (some t)) (ht : t ∈ L) : L' = L := by
  rcases h with ⟨h, _⟩ | ⟨u, e, hu, _⟩
  · exact h
  · obtain rfl := Option.some.inj e; exact absurd ht hu
theorem Grow.fresh {L L' : List Tm} {t : Tm} (h : Grow L L' (some t)) (ht : t ∉ L) : L' = L ++ [t] := by
  rcases h with ⟨_, h⟩ | ⟨u, e, _, h⟩
  · exact absurd (h t rfl) ht
  · obtain rfl := Option.some.inj e; exact h
theorem Grow.none_eq {L L' : List Tm} (h : Grow L L' none) : L' = L := by
  rcases h with ⟨h, _⟩ | ⟨u, e, _⟩
  · exact h
  · cases e

def ta : Tm := .mk 1 0 0 [97] []
def tk : Tm := .mk 3 0 0 [] []
def tp : Tm := .mk 4 0 0 [] [tk]
theorem ta_eq : dataT [97] = some ta := by simp [dataT, mkO, alls, own, lens, ta]
theorem tk_eq : keyT 0 = some tk := by simp [keyT, numOk, mkO, alls, own, lens, tk]
theorem tk_len : tk.len = 5 := by rw [tk, len_mk (.inr (.inr (.inl ⟨rfl, by decide, rfl, rfl, rfl⟩)))]; simp [own, lens]
theorem tp_eq : pubT (some tk) = some tp := by
  have h := tk_len
  unfold pubT
  rw [if_pos (show kindO (some tk) = 3 from rfl)]
  simp [mkO, alls, own, lens, tp, h]
theorem St.awake1 {w : World} {g : Nat} {W : World} {L' : List Tm} {x : Int} (h : St w g W L') (hG : Grow [] L' (dataT [97])) (hM : Nm L' x (dataT [97])) : St w g W [ta] ∧ x = 0 := by
  rw [ta_eq] at hG hM
  obtain rfl := hG.fresh (by simp)
  exact ⟨h, hM.at_ h.good.once (j := 0) rfl⟩
theorem St.awake2 {w : World} {g : Nat} {W : World} {L' : List Tm} {x : Int} (h : St w g W L') (hG : Grow [ta] L' (dataT [97])) (hM : Nm L' x (dataT [97])) : St w g W [ta] ∧ x = 0 := by
  rw [ta_eq] at hG hM
  obtain rfl := hG.old (by simp)
  exact ⟨h, hM.at_ h.good.once (j := 0) rfl⟩
theorem St.awake3 {w : World} {g : Nat} {W : World} {L' : List Tm} {x : Int} (h : St w g W L') (hG : Grow [ta] L' (keyT 0)) (hM : Nm L' x (keyT 0)) : St w g W [ta, tk] ∧ x = 1 := by
  rw [tk_eq] at hG hM
  obtain rfl := hG.fresh (by simp [ta, tk])
  exact ⟨h, hM.at_ h.good.once (j := 1) rfl⟩
theorem St.awake4 {w : World} {g : Nat} {W : World} {L' : List Tm} {x : Int} (h : St w g W L') (hG : Grow [ta, tk] L' (pubT (get [ta, tk] 1))) (hM : Nm L' x (pubT (get [ta, tk] 1))) : St w g W [ta, tk, tp] ∧ x = 2 := by
  rw [show get [ta, tk] 1 = some tk from rfl, tp_eq] at hG hM
  obtain rfl := hG.fresh (by simp [ta, tk, tp])
  exact ⟨h, hM.at_ h.good.once (j := 2) rfl⟩
end

section
open Go.RowKit Go.Maps

theorem fail_full (g : Nat) (A B : Option Addr) (n c m d : Nat) (l f : Int) (w : World) (H : GateB w g A B n c m d l f) (hlf : l ≤ f) :
    Calls Tryd.prog 10 #[.pointer (some ⟨g, 0, none⟩)] w fun r w' => r = .returned (.bool true) ∧ ∃ q, w' = w.drewN q := by
  have cF := fun q => full_any g A B n c m d l f (w.drewN q) (H.keep (drewN_below q))
  rw [decide_eq_true hlf] at cF
  have cF0 := Lib.hid (cF 0)
  have cF := Lib.hid cF
  clear H
  go_enter Tryd.func10, Tryd.ntmps10
  go_wp2_with (first
    | (go_at_call 13; (with_reducible refine (cF.out _).mono ?_); rintro r w4 ⟨rfl, q4, rfl⟩)
    | (go_at_call 13; refine cF0.out.mono ?_; rintro r w3 ⟨rfl, q3, rfl⟩))
  go_ret
  exact ⟨rfl, q3 + q4, rfl⟩
theorem fail_step (g : Nat) (A B : Option Addr) (n c m d : Nat) (l f f' : Nat) (q : Bool) (w : World) (H : GateB w g A B n c m d l f) (h1 : f ≤ 1000000) (hfl : f ≤ l) (hf : min (f + 1) l = f') (hq : decide (f' = l) = q) :
    Calls Tryd.prog 10 #[.pointer (some ⟨g, 0, none⟩)] w fun r w' => r = .returned (.bool q) ∧ GateB w' g A B n c m d l f' ∧ Keeps (fun b => b = g) w w' := by
  subst hq
  by_cases hlf : f < l
  · obtain rfl : f + 1 = f' := by omega
    refine (fail_any g A B n c m d l f w H (by omega) (by omega) (by omega)).mono ?_
    rintro r w' ⟨rfl, q1, q2, rfl⟩
    refine ⟨ret_bool (by rw [Bool.eq_iff_iff, decide_eq_true_eq, decide_eq_true_eq]; omega), by have := fail_gate H q1 q2; simpa using this, ?_⟩
    exact (Keeps.of_below (drewN_below q1)).trans ((Keeps.of_grown (grown_set (w.drewN q1) ⟨g, 3, none⟩ _) (fun b hb => (Option.some.inj hb).symm)).trans (Keeps.of_below (drewN_below q2)))
  · obtain rfl : l = f' := by omega
    obtain rfl : f = l := by omega
    refine (fail_full g A B n c m d f f w H (Int.le_refl _)).mono ?_
    rintro r w' ⟨rfl, q, rfl⟩
    exact ⟨by simp, H.keep (drewN_below q), Keeps.of_below (drewN_below q)⟩

theorem hasNm_any (ss : List ByteArray) (A : Option Addr) (n c : Nat) (s : ByteArray) (w : World) (hn : n ≤ 9223372036854775807) (H : Strs w A n ss) :
    Calls Tryd.prog 27 #[.slice A n c, .string s] w fun r w' => r = .returned (.bool (has ss s)) ∧ w = w' := by
  have cC := Lib.hid (containsS_any ss A n c s w hn H)
  clear H
  go_enter Tryd.func27, Tryd.ntmps27
  go_wp2_with (go_at_call 43; refine cC.out.mono ?_; rintro r w1 ⟨rfl, rfl⟩)
  go_ret
  exact ⟨rfl, rfl⟩

set_option maxRecDepth 100000 in
set_option maxHeartbeats 2000000 in
theorem owner_any (A : Ar) (B : Nat) (w : World) (H : Arena w B A) (x : Int) (p : Nat) (hx : get A.L x = some (.mk 4 0 0 [] [.mk 3 p 0 [] []])) :
    Calls Tryd.prog 26 #[.pointer (some ⟨A.g, 0, none⟩), .int .i64 x] w fun r w' => r = .returned (.tuple #[.int .i64 p, .bool true]) ∧ Below w.heap.size w w' := by
  have cV := Lib.hid (view_some A B w H x _ hx)
  have cW := Lib.hid (fun W (h : Below w.heap.size w W) (i : Nat) (hi : get A.L i = some (.mk 3 p 0 [] [])) => view_some A B W (H.keep h) i _ hi)
  clear H
  go_enter Tryd.func26, Tryd.ntmps26
  go_upto_region 2 with (first
    | (go_at_call 42; refine cV.out.mono ?_; rintro r w1 ⟨Av, c, xs, rfl, hR, hxs, hb⟩
       have hz1 := Lib.hid (heap_new w1 (.cells #[.int .i64 0, .int .i64 0, .int .i64 0, .string ⟨#[]⟩, .slice none 0 0] 66))
       have hB1 := Lib.hid (hb.trans (Below.mono (below_new w1 (.cells #[.int .i64 0, .int .i64 0, .int .i64 0, .string ⟨#[]⟩, .slice none 0 0] 66)) hb.size))
       have hR1 := Lib.hid (hR.keep (below_setRow (below_new w1 (.cells #[.int .i64 0, .int .i64 0, .int .i64 0, .string ⟨#[]⟩, .slice none 0 0] 66)) (Nat.le_refl _) (ndC 4 0 0 [] (.slice Av 1 c)).toArray))
       have hg1 := Lib.hid hb.size
       clear hR cV)
    | (refine wpList_store_at 66 _ _ rfl rfl w1.heap.size (ndC 4 0 0 [] (.slice Av 1 c)).toArray rfl rfl 66 #[.int .i64 0, .int .i64 0, .int .i64 0, .string ⟨#[]⟩, .slice none 0 0] hz1.out (by kernel_rfl) rfl nd_all ?_))
  have hr := hsetRow _ _ _ (ndC 4 0 0 [] (.slice Av 1 c)).toArray _ _ hz1.out
  have hB2 := Lib.hid (below_setRow hB1.out hg1.out (ndC 4 0 0 [] (.slice Av 1 c)).toArray)
  generalize (w1.alloc (.cells #[.int .i64 0, .int .i64 0, .int .i64 0, .string ⟨#[]⟩, .slice none 0 0] 66)).setRow w1.heap.size (ndC 4 0 0 [] (.slice Av 1 c)).toArray = w2 at *
  have d0 : w2.cell? ⟨w1.heap.size, 0, none⟩ = some (.int .i64 4) := cell_of_row w2 w1.heap.size 0 _ _ _ hr
  have d4 : w2.cell? ⟨w1.heap.size, 4, none⟩ = some (.slice Av 1 c) := cell_of_row w2 w1.heap.size 4 _ _ _ hr
  obtain ⟨i, rfl, hi⟩ : ∃ i, xs = [i] ∧ A.L[i]? = some (.mk 3 p 0 [] []) := by
    cases xs with
    | nil => simp [Tm.args] at hxs
    | cons i r =>
      simp only [Tm.args, List.map_cons, List.map_nil, List.cons.injEq, List.map_eq_nil_iff] at hxs
      exact ⟨i, by rw [hxs.2], hxs.1⟩
  obtain ⟨b, off, z, rfl, hbl, hz, _, hrr⟩ := hR1.out.row (j := 0) (show 0 < 1 by decide)
  simp only [Tm.args, List.map_cons, List.map_nil, List.getElem?_cons_zero, Option.some.injEq] at hz
  subst hz
  have hc := hrr 0 _ rfl
  rw [Nat.zero_mul, Nat.add_zero] at hc
  have cW2 := Lib.hid (cW.out w2 hB2.out i (by rw [get_nat]; exact hi))
  clear hr hz1 hB1 hR1 hg1 hxs hrr cW hx hi hbl
  go_upto_region 5 with (first
    | (go_at_call 42; refine cW2.out.mono ?_; rintro r w3 ⟨Au, e, us, rfl, _, _, hb3⟩
       have hz3 := Lib.hid (heap_new w3 (.cells #[.int .i64 0, .int .i64 0, .int .i64 0, .string ⟨#[]⟩, .slice none 0 0] 66))
       have hg3 : w.heap.size ≤ w3.heap.size := Nat.le_trans hB2.out.size hb3.size
       have hB3 := hB2.out.trans (hb3.mono hB2.out.size)
       have hB4 := Lib.hid (hB3.trans (Below.mono (below_new w3 (.cells #[.int .i64 0, .int .i64 0, .int .i64 0, .string ⟨#[]⟩, .slice none 0 0] 66)) hg3))
       have hg3 := Lib.hid hg3
       clear hB3 hb3)
    | (refine wpList_store_at 66 _ _ rfl rfl w3.heap.size (ndC 3 p 0 [] (.slice Au 0 e)).toArray rfl rfl 66 #[.int .i64 0, .int .i64 0, .int .i64 0, .string ⟨#[]⟩, .slice none 0 0] hz3.out (by kernel_rfl) rfl nd_all ?_))
  have hr := hsetRow _ _ _ (ndC 3 p 0 [] (.slice Au 0 e)).toArray _ _ hz3.out
  have hB5 := Lib.hid (below_setRow hB4.out hg3.out (ndC 3 p 0 [] (.slice Au 0 e)).toArray)
  generalize (w3.alloc (.cells #[.int .i64 0, .int .i64 0, .int .i64 0, .string ⟨#[]⟩, .slice none 0 0] 66)).setRow w3.heap.size (ndC 3 p 0 [] (.slice Au 0 e)).toArray = w4 at *
  have e1 : w4.cell? ⟨w3.heap.size, 1, none⟩ = some (.int .i64 p) := cell_of_row w4 w3.heap.size 1 _ _ _ hr
  clear hr hz3 hB4 d0 d4 hc
  go_wp2_with fail
  go_ret2
  exact ⟨rfl, hB5.out⟩
end

section
open Go.RowKit Go.Maps

def annS : ByteArray := ⟨#[97, 110, 110]⟩
def sshS : ByteArray := ⟨#[115, 115, 104, 45, 97]⟩
def k1T : Tm := .mk 3 1 0 [] []
def p1T : Tm := .mk 4 0 0 [] [k1T]
theorem k1_eq : keyT 1 = some k1T := by simp [keyT, numOk, mkO, alls, own, lens, k1T]
theorem k1_len : k1T.len = 5 := by rw [k1T, len_mk (.inr (.inr (.inl ⟨rfl, by decide, rfl, rfl, rfl⟩)))]; simp [own, lens]
theorem p1_eq : pubT (some k1T) = some p1T := by
  have h := k1_len
  unfold pubT
  rw [if_pos (show kindO (some k1T) = 3 from rfl)]
  simp [mkO, alls, own, lens, p1T, h]
theorem denyE_cnt : ∀ l : Fin 20, denyE [(annS, 1)] [sshS] ((l.val + 1 : Nat) : Int) = 0 := by decide +kernel
theorem grv_one : (grv (annS, 1)).toArray.all (·.oneCell') = true := by simp [grv, Value.oneCell']
/-- No cell of a gate is a text. -/
theorem GateB.no_text {w : World} {g : Nat} {A B : Option Addr} {n c m d : Nat} {l f : Int} (h : GateB w g A B n c m d l f) {b off : Nat} {s : ByteArray} (hc : w.cell? ⟨b, off, none⟩ = some (.string s)) : b ≠ g := fun e => by
  subst e
  unfold World.cell? at hc
  rw [show w.heap[b]? = _ from h] at hc
  match off, hc with
  | 0, hc => cases hc
  | 1, hc => cases hc
  | 2, hc => cases hc
  | 3, hc => cases hc
  | k + 4, hc => simp at hc
theorem Grs.keepG {w w' : World} {g : Nat} {A B : Option Addr} {n c m d : Nat} {l f : Int} (hg : GateB w g A B n c m d l f) {x : Gr} {X : Option Addr} (h : Grs w X 1 [x]) (hk : Keeps (fun b => b = g) w w') : Grs w' X 1 [x] :=
  Rws.keepF h hk fun b off e _ hf => by
    obtain ⟨b', off', e', _, hc⟩ := h.2.2 (by decide)
    rw [e] at e'
    injection e' with e'
    injection e' with e1 e2 _
    subst e1 e2
    have := hc 0 (grv x) rfl 0 _ rfl
    rw [Nat.zero_mul, Nat.add_zero] at this
    exact hg.no_text this hf
theorem Strs.keepG {w w' : World} {g : Nat} {A B : Option Addr} {n c m d : Nat} {l f : Int} (hg : GateB w g A B n c m d l f) {x : ByteArray} {X : Option Addr} (h : Strs w X 1 [x]) (hk : Keeps (fun b => b = g) w w') : Strs w' X 1 [x] :=
  Rws.keepF h hk fun b off e _ hf => by
    obtain ⟨b', off', e', _, hc⟩ := h.2.2 (by decide)
    rw [e] at e'
    injection e' with e'
    injection e' with e1 e2 _
    subst e1 e2
    have := hc 0 (sv x) rfl 0 _ rfl
    rw [Nat.zero_mul, Nat.add_zero] at this
    exact hg.no_text this hf

set_option maxRecDepth 100000 in
set_option maxHeartbeats 2000000 in
theorem hasG_any (A : Ar) (B : Nat) (w : World) (H : Arena w B A) (x : Int) (hx : get A.L x = some p1T) (g : Nat) (Aa Bb : Option Addr) (c d : Nat) (l f : Int) (G : GateB w g Aa Bb 1 c 1 d l f) (hG : Grs w Aa 1 [(annS, 1)]) (hS : Strs w Bb 1 [sshS]) :
    Calls Tryd.prog 11 #[.pointer (some ⟨g, 0, none⟩), .pointer (some ⟨A.g, 0, none⟩), .string ⟨#[97, 110, 110]⟩, .string ⟨#[115, 115, 104, 45, 97]⟩, .int .i64 x] w fun r w' => r = .returned (.bool true) ∧ Below w.heap.size w w' := by
  have cO := Lib.hid (owner_any A B w H x 1 hx)
  have cN := Lib.hid (fun W (h : Below w.heap.size w W) => hasNm_any [sshS] Bb 1 d sshS W (by decide) (hS.keep h))
  rw [show has [sshS] sshS = true by decide +kernel] at cN
  have G := Lib.hid G
  have hG := Lib.hid hG
  clear H hx hS
  go_enter Tryd.func11, Tryd.ntmps11
  go_wp2_with fail
  go_step3
  go_wp2_with (first
    | (go_at_call 26; refine cO.out.mono ?_; rintro r w1 ⟨rfl, hb⟩
       have G1 := G.out.keep hb
       have d0 : w1.cell? ⟨g, 0, none⟩ = some (.slice Aa 1 c) := cell_of_row w1 g 0 _ _ _ G1
       have d1 := G1.cells.1
       have hG1 := Lib.hid (hG.out.keep hb)
       have cN1 := Lib.hid (cN.out w1 hb)
       have hB1 := Lib.hid hb
       clear hb G1 cN cO)
    | (go_at_call 27; refine cN1.out.mono ?_; rintro r w2 ⟨rfl, rfl⟩))
  go_step3
  go_wp2_with fail
  go_loop [42] (fun i => i = .int .i64 0) (fun _ => 0)
  case atStart => rfl
  case round =>
    obtain rfl := hrel
    obtain ⟨b, off, z, rfl, hbl, hz, _, hr⟩ := hG1.out.row (j := 0) (by decide)
    simp only [List.map_cons, List.map_nil, List.getElem?_cons_zero, Option.some.injEq] at hz
    subst hz
    rw [Nat.zero_mul, Nat.add_zero] at hr
    have hr := Lib.hid hr
    have hz1 := Lib.hid (heap_new w1 (.cells #[.string ⟨#[]⟩, .int .i64 0] 30))
    have hb1 := below_new w1 (.cells #[.string ⟨#[]⟩, .int .i64 0] 30)
    have hB2 := hB1.out.trans (hb1.mono hB1.out.size)
    have hB3 := Lib.hid (below_setRow hB2 hB1.out.size (grv (annS, 1)).toArray)
    have hrow := Lib.hid (hsetRow _ _ _ (grv (annS, 1)).toArray _ _ hz1.out)
    clear hb1 hB2
    go_upto_region 8 with (first
      | (refine wpList_load_at 30 _ rfl rfl b off rfl (grv (annS, 1)) _ hr.out Tryd.underlying30 rfl (by kernel_rfl) ?_)
      | (refine wpList_store_at 30 _ _ rfl rfl w1.heap.size (grv (annS, 1)).toArray rfl rfl 30 #[.string ⟨#[]⟩, .int .i64 0] hz1.out (by kernel_rfl) rfl grv_one ?_))
    generalize (w1.alloc (.cells #[.string ⟨#[]⟩, .int .i64 0] 30)).setRow w1.heap.size (grv (annS, 1)).toArray = w3 at *
    have e0 : w3.cell? ⟨w1.heap.size, 0, none⟩ = some (.string ⟨#[97, 110, 110]⟩) := cell_of_row w3 w1.heap.size 0 _ _ _ hrow.out
    have e1 : w3.cell? ⟨w1.heap.size, 1, none⟩ = some (.int .i64 1) := cell_of_row w3 w1.heap.size 1 _ _ _ hrow.out
    go_wp2_with fail
    go_ret
    exact ⟨rfl, hB3.out⟩
end

section
open Go.RowKit Go.Maps

theorem put_nil (k a b : Nat) (s : List UInt8) (w : World) :
    Calls Tryd.prog 24 #[.pointer none, .agg #[.int .i64 k, .int .i64 a, .int .i64 b, .string (bs s), .slice none 0 0]] w fun r w' => r = .returned (.int .i64 (-1)) ∧ Below w.heap.size w w' := by
  have hB := Lib.hid (below_new w (.cells #[.int .i64 k, .int .i64 a, .int .i64 b, .string (bs s), .slice none 0 0] 66))
  go_enter Tryd.func24, Tryd.ntmps24
  go_wp2_with fail
  go_ret
  exact ⟨rfl, hB.out⟩
theorem view_nil (x : Int) (w : World) :
    Calls Tryd.prog 42 #[.pointer none, .int .i64 x] w fun r w' => r = .returned (.tuple #[.agg zNd.toArray, .bool false]) ∧ Below w.heap.size w w' := by
  have hB1 := below_new w (.cells zNd.toArray 66)
  have cH := Lib.hid (has_nil x (w.alloc (.cells zNd.toArray 66)))
  have hz1 := Lib.hid (heap_new w (.cells zNd.toArray 66))
  have hB1 := Lib.hid hB1
  go_enter Tryd.func42, Tryd.ntmps42
  go_wp2_with (first
    | (go_at_call 38; refine cH.out.mono ?_; rintro r w1 ⟨rfl, rfl⟩)
    | (refine wpList_store_at 66 _ _ rfl rfl w.heap.size zNd.toArray rfl rfl 66 zNd.toArray hz1.out (by kernel_rfl) rfl zNd_one ?_))
  refine bodyPost_ret (resV2 rfl _ _ w.heap.size 66 zNd.toArray (0, 0) _ _ rfl (hsetRow _ _ _ _ _ _ hz1.out) Tryd.underlying66 rfl (by kernel_rfl) rfl) rfl ⟨rfl, below_setRow hB1.out (Nat.le_refl _) _⟩
end

section
open Go.RowKit Go.Maps

/-- A node, laid in a new block. -/
theorem nd_boxD (w5 : World) (k a b : Nat) (s : List UInt8) (A : Option Addr) (m c : Nat) : (w5.alloc (.cells #[.int .i64 0, .int .i64 0, .int .i64 0, .string ⟨#[]⟩, .slice none 0 0] 66)).heap[w5.heap.size]? = some (.cells #[.int .i64 0, .int .i64 0, .int .i64 0, .string ⟨#[]⟩, .slice none 0 0] 66 (0, 0)) ∧ Below w5.heap.size w5 ((w5.alloc (.cells #[.int .i64 0, .int .i64 0, .int .i64 0, .string ⟨#[]⟩, .slice none 0 0] 66)).setRow w5.heap.size (ndC k a b s (.slice A m c)).toArray) ∧ ((w5.alloc (.cells #[.int .i64 0, .int .i64 0, .int .i64 0, .string ⟨#[]⟩, .slice none 0 0] 66)).setRow w5.heap.size (ndC k a b s (.slice A m c)).toArray).heap[w5.heap.size]? = some (.cells (ndC k a b s (.slice A m c)).toArray 66 (0, 0)) :=
  ⟨heap_new w5 _, below_setRow (below_new w5 _) (Nat.le_refl _) _, hsetRow _ _ _ _ _ _ (heap_new w5 _)⟩
/-- What Owner answers of what is no public key. -/
def NoOwn (av : Value) (x : Int) (w : World) : Prop := Calls Tryd.prog 26 #[av, .int .i64 x] w fun r w' => r = .returned (.tuple #[.int .i64 0, .bool false]) ∧ Below w.heap.size w w'
set_option maxRecDepth 100000 in
set_option maxHeartbeats 2000000 in
theorem owner_nil (x : Int) (w : World) : NoOwn (.pointer none) x w := by
  have cV := Lib.hid (view_nil x w)
  unfold NoOwn
  go_enter Tryd.func26, Tryd.ntmps26
  go_upto_region 2 with (first
    | (go_at_call 42; refine cV.out.mono ?_; rintro r w1 ⟨rfl, hb⟩
       have z1 := Lib.hid (heap_new w1 (.cells #[.int .i64 0, .int .i64 0, .int .i64 0, .string ⟨#[]⟩, .slice none 0 0] 66))
       have hB1 := Lib.hid (hb.trans (Below.mono (below_setRow (below_new w1 (.cells #[.int .i64 0, .int .i64 0, .int .i64 0, .string ⟨#[]⟩, .slice none 0 0] 66)) (Nat.le_refl _) zNd.toArray) hb.size))
       clear hb cV)
    | (refine wpList_store_at 66 _ _ rfl rfl w1.heap.size zNd.toArray rfl rfl 66 zNd.toArray z1.out (by kernel_rfl) rfl zNd_one ?_))
  have hB1 : Below w.heap.size w ((w1.alloc (.cells #[.int .i64 0, .int .i64 0, .int .i64 0, .string ⟨#[]⟩, .slice none 0 0] 66)).setRow w1.heap.size zNd.toArray) := hB1.out
  generalize (w1.alloc (.cells #[.int .i64 0, .int .i64 0, .int .i64 0, .string ⟨#[]⟩, .slice none 0 0] 66)).setRow w1.heap.size zNd.toArray = w2 at hB1 ⊢
  replace hB1 := Lib.hid hB1
  clear z1
  go_wp2_with fail
  go_ret2
  exact ⟨rfl, hB1.out⟩
set_option maxRecDepth 100000 in
set_option maxHeartbeats 2000000 in
theorem owner_none (A : Ar) (B : Nat) (w : World) (H : Arena w B A) (x : Int) (hx : get A.L x = none) : NoOwn (.pointer (some ⟨A.g, 0, none⟩)) x w := by
  have cV := Lib.hid (view_none A B w H x hx)
  unfold NoOwn
  clear H hx
  go_enter Tryd.func26, Tryd.ntmps26
  go_upto_region 2 with (first
    | (go_at_call 42; refine cV.out.mono ?_; rintro r w1 ⟨rfl, hb⟩
       have z1 := Lib.hid (heap_new w1 (.cells #[.int .i64 0, .int .i64 0, .int .i64 0, .string ⟨#[]⟩, .slice none 0 0] 66))
       have hB1 := Lib.hid (hb.trans (Below.mono (below_setRow (below_new w1 (.cells #[.int .i64 0, .int .i64 0, .int .i64 0, .string ⟨#[]⟩, .slice none 0 0] 66)) (Nat.le_refl _) zNd.toArray) hb.size))
       clear hb cV)
    | (refine wpList_store_at 66 _ _ rfl rfl w1.heap.size zNd.toArray rfl rfl 66 zNd.toArray z1.out (by kernel_rfl) rfl zNd_one ?_))
  have hB1 : Below w.heap.size w ((w1.alloc (.cells #[.int .i64 0, .int .i64 0, .int .i64 0, .string ⟨#[]⟩, .slice none 0 0] 66)).setRow w1.heap.size zNd.toArray) := hB1.out
  generalize (w1.alloc (.cells #[.int .i64 0, .int .i64 0, .int .i64 0, .string ⟨#[]⟩, .slice none 0 0] 66)).setRow w1.heap.size zNd.toArray = w2 at hB1 ⊢
  replace hB1 := Lib.hid hB1
  clear z1
  go_wp2_with fail
  go_ret2
  exact ⟨rfl, hB1.out⟩
set_option maxRecDepth 100000 in
set_option maxHeartbeats 2000000 in
theorem owner_other (A : Ar) (B : Nat) (w : World) (H : Arena w B A) (x : Int) (t : Tm) (hx : get A.L x = some t) (hk : t.kind ≠ 4) : NoOwn (.pointer (some ⟨A.g, 0, none⟩)) x w := by
  obtain ⟨k, a, b, s, args⟩ := t
  have hk4 : ((k : Int) == 4) = false := by rw [beq_eq_false_iff_ne]; intro e; exact hk (by show k = 4; omega)
  have cV := view_some A B w H x _ hx
  simp only [Tm.kind, Tm.a, Tm.b, Tm.s, Tm.args] at cV
  replace cV := Lib.hid cV
  unfold NoOwn
  clear H hx hk
  go_enter Tryd.func26, Tryd.ntmps26
  go_upto_region 2 with (first
    | (go_at_call 42; refine cV.out.mono ?_; rintro r w1 ⟨Av, cv, xs, rfl, _, _, hb⟩
       obtain ⟨z1, b1, r1⟩ := nd_boxD w1 k a b s Av args.length cv
       have z1 := Lib.hid z1
       have r1 := Lib.hid r1
       have hB1 := Lib.hid (hb.trans (b1.mono hb.size))
       clear hb cV b1)
    | (refine wpList_store_at 66 _ _ rfl rfl w1.heap.size (ndC k a b s (.slice Av args.length cv)).toArray rfl rfl 66 zNd.toArray z1.out (by kernel_rfl) rfl nd_all ?_))
  have r1 := r1.out
  have hB1 := hB1.out
  generalize (w1.alloc (.cells #[.int .i64 0, .int .i64 0, .int .i64 0, .string ⟨#[]⟩, .slice none 0 0] 66)).setRow w1.heap.size (ndC k a b s (.slice Av args.length cv)).toArray = w2 at *
  generalize w1.heap.size = p1 at *
  have d0 : w2.cell? ⟨p1, 0, none⟩ = some (.int .i64 k) := cell_of_row w2 p1 0 _ _ _ r1
  replace hB1 := Lib.hid hB1
  clear z1 r1
  go_wp2_with fail
  go_ret2
  exact ⟨rfl, hB1.out⟩
/-- Whose key a term is. -/
theorem owner_no (A : Ar) (B : Nat) (w : World) (H : Arena w B A) (x : Int) (hk : kindO (get A.L x) ≠ 4) : NoOwn (.pointer (some ⟨A.g, 0, none⟩)) x w := by
  cases h : get A.L x with
  | none => exact owner_none A B w H x h
  | some t => rw [h] at hk; exact owner_other A B w H x t h hk
end

section
open Go.RowKit Go.Maps

/-- Does a grant name this one? -/
def grIs (u : ByteArray) (p : Int) (y : Gr) : Bool := (y.1.toList == u.toList) && (y.2 == p)
theorem grv_all (x : Gr) : (grv x).toArray.all (·.oneCell') = true := by simp [grv, Value.oneCell']
theorem gr_zero0 : (Tryd.prog.info? 30).bind (·.zero) = some (.agg #[.string ⟨#[]⟩, .int .i64 0]) := by kernel_rfl
set_option maxRecDepth 100000 in
set_option maxHeartbeats 2000000 in
theorem hasN_any (av : Value) (p : Int) (q : Bool) (x : Int) (u s : ByteArray) (w : World) (cO : Calls Tryd.prog 26 #[av, .int .i64 x] w fun r w' => r = .returned (.tuple #[.int .i64 p, .bool q]) ∧ Below w.heap.size w w') :
    Calls Tryd.prog 11 #[.pointer none, av, .string u, .string s, .int .i64 x] w fun r w' => r = .returned (.bool false) ∧ Below w.heap.size w w' := by
  replace cO := Lib.hid cO
  go_enter Tryd.func11, Tryd.ntmps11
  go_wp2_with fail
  go_step3
  go_wp2_with (go_at_call 26; refine cO.out.mono ?_; rintro r w1 ⟨rfl, hb⟩)
  try dsimp only [Exit.noGoto]
  go_ret
  exact ⟨rfl, hb⟩
set_option maxRecDepth 100000 in
set_option maxHeartbeats 2000000 in
theorem hasF_any (av : Value) (x : Int) (g : Nat) (u s : ByteArray) (w : World) (cO : NoOwn av x w) :
    Calls Tryd.prog 11 #[.pointer (some ⟨g, 0, none⟩), av, .string u, .string s, .int .i64 x] w fun r w' => r = .returned (.bool false) ∧ Below w.heap.size w w' := by
  unfold NoOwn at cO
  replace cO := Lib.hid cO
  go_enter Tryd.func11, Tryd.ntmps11
  go_wp2_with fail
  go_step3
  go_wp2_with (go_at_call 26; refine cO.out.mono ?_; rintro r w1 ⟨rfl, hb⟩)
  try dsimp only [Exit.noGoto]
  go_ret
  exact ⟨rfl, hb⟩
set_option maxRecDepth 100000 in
set_option maxHeartbeats 2000000 in
theorem hasT_any (av : Value) (p : Int) (x : Int) (g : Nat) (Aa Bb : Option Addr) (n c m d : Nat) (l f : Int) (gs : List Gr) (ss : List ByteArray) (u s : ByteArray) (w : World) (hn : n ≤ 1000) (hm : m ≤ 1000)
    (cO : Calls Tryd.prog 26 #[av, .int .i64 x] w fun r w' => r = .returned (.tuple #[.int .i64 p, .bool true]) ∧ Below w.heap.size w w')
    (G : GateB w g Aa Bb n c m d l f) (hG : Grs w Aa n gs) (hS : Strs w Bb m ss) :
    Calls Tryd.prog 11 #[.pointer (some ⟨g, 0, none⟩), av, .string u, .string s, .int .i64 x] w fun r w' => r = .returned (.bool (has ss s && gs.any (grIs u p))) ∧ Below w.heap.size w w' := by
  have cN := fun W (h : Below w.heap.size w W) => hasNm_any ss Bb m d s W (by omega) (hS.keep h)
  have hgl := hG.len
  replace cO := Lib.hid cO
  replace hgl := Lib.hid hgl
  cases hh : has ss s with
  | false =>
    rw [hh] at cN
    replace cN := Lib.hid cN
    replace G := Lib.hid G
    clear hG hS hh
    go_enter Tryd.func11, Tryd.ntmps11
    go_wp2_with fail
    go_step3
    go_wp2_with (first
      | (go_at_call 26; refine cO.out.mono ?_; rintro r w1 ⟨rfl, hb⟩
         have d1 := (G.out.keep hb).cells.1
         have cN1 := Lib.hid (cN.out w1 hb)
         have hB1 := Lib.hid hb
         clear hb cN)
      | (go_at_call 27; refine cN1.out.mono ?_; rintro r w2 ⟨rfl, rfl⟩))
    try dsimp only [Exit.noGoto]
    go_ret
    exact ⟨rfl, hB1.out⟩
  | true =>
    rw [hh] at cN
    replace cN := Lib.hid cN
    replace G := Lib.hid G
    have hGh := Lib.hid hG
    clear hG hS hh
    rw [Bool.true_and]
    go_enter Tryd.func11, Tryd.ntmps11
    go_wp2_with fail
    go_step3
    go_wp2_with (first
      | (go_at_call 26; refine cO.out.mono ?_; rintro r w1 ⟨rfl, hb⟩
         have G1 := G.out.keep hb
         have d0 : w1.cell? ⟨g, 0, none⟩ = some (.slice Aa n c) := cell_of_row w1 g 0 _ _ _ G1
         have d1 := G1.cells.1
         have hG1 := Lib.hid (hGh.out.keep hb)
         have cN1 := Lib.hid (cN.out w1 hb)
         have hB1 := Lib.hid hb
         clear hb G1 cN cO)
      | (go_at_call 27; refine cN1.out.mono ?_; rintro r w2 ⟨rfl, rfl⟩))
    go_step3
    go_wp2_with fail
    have h0 : Hid ((gs.take 0).any (grIs u p) = false) := rfl
    have hR0 := Lib.hid (Below.refl w1.heap.size w1)
    go_loopw [13, 42] (fun fv iv wr => ∃ j : Nat, j ≤ n ∧ fv = .bool false ∧ iv = .int .i64 j ∧ Hid ((gs.take j).any (grIs u p) = false) ∧ Hid (Below w1.heap.size w1 wr)) (fun _ iv _ => n - (intOf iv).toNat)
    case atStart => exact ⟨0, by omega, rfl, rfl, h0, hR0⟩
    case round =>
      clear h0 hR0
      obtain ⟨j, hj, rfl, rfl, hpj, hBr⟩ := hrel
      by_cases hlt : j < n
      · obtain ⟨b, off, z, rfl, hbl, hz, _, hr⟩ := (Rws.keep hG1.out hBr.out).row hlt
        rw [List.getElem?_map] at hz
        obtain ⟨y, hy⟩ : ∃ y, gs[j]? = some y := ⟨gs[j]'(by have := hgl.out; omega), List.getElem?_eq_getElem (by have := hgl.out; omega)⟩
        rw [hy] at hz
        have hz : grv y = z := Option.some.inj hz
        subst hz
        have hany := any_take_succ (grIs u p) hy
        have hhit := any_hit (grIs u p) hy
        obtain ⟨ys, yp⟩ := y
        have hr := Lib.hid hr
        have hz1 := Lib.hid (heap_new wr (.cells #[.string ⟨#[]⟩, .int .i64 0] 30))
        have hB3 := below_setRow (below_new wr (.cells #[.string ⟨#[]⟩, .int .i64 0] 30)) (Nat.le_refl _) (grv (ys, yp)).toArray
        have hB4 := Lib.hid (hBr.out.trans (hB3.mono hBr.out.size))
        have hrow := Lib.hid (hsetRow _ _ _ (grv (ys, yp)).toArray _ _ hz1.out)
        clear hB3 hy
        go_upto_region 8 with (first
          | (refine wpList_load_at 30 _ rfl rfl b (off + j * 2) rfl (grv (ys, yp)) _ hr.out Tryd.underlying30 rfl (by kernel_rfl) ?_)
          | (refine wpList_store_at 30 _ _ rfl rfl wr.heap.size (grv (ys, yp)).toArray rfl rfl 30 #[.string ⟨#[]⟩, .int .i64 0] hz1.out (by kernel_rfl) rfl (grv_all _) ?_))
        have hrow := hrow.out
        have hB4' : Below w1.heap.size w1 ((wr.alloc (.cells #[.string ⟨#[]⟩, .int .i64 0] 30)).setRow wr.heap.size (grv (ys, yp)).toArray) := hB4.out
        generalize (wr.alloc (.cells #[.string ⟨#[]⟩, .int .i64 0] 30)).setRow wr.heap.size (grv (ys, yp)).toArray = w3 at *
        generalize wr.heap.size = p3 at *
        have e0 : w3.cell? ⟨p3, 0, none⟩ = some (.string ys) := cell_of_row w3 p3 0 _ _ _ hrow
        have e1 : w3.cell? ⟨p3, 1, none⟩ = some (.int .i64 yp) := cell_of_row w3 p3 1 _ _ _ hrow
        replace hB4' := Lib.hid hB4'
        clear hrow hz1 hr hB4
        cases f1 : (ys.toList == u.toList) with
        | false =>
          have hnext : Hid ((gs.take (j + 1)).any (grIs u p) = false) := by
            rw [hany, hpj.out]
            show (false || ((ys.toList == u.toList) && (yp == p))) = false
            rw [f1]; rfl
          clear hany hhit
          go_wp2_with fail
          go_roundw
          case rel => exact ⟨j + 1, by omega, rfl, by go_num, hnext, hB4'⟩
          case measure => simp [intOf]; omega
        | true =>
          cases f2 : (yp == p) with
          | false =>
            have hnext : Hid ((gs.take (j + 1)).any (grIs u p) = false) := by
              rw [hany, hpj.out]
              show (false || ((ys.toList == u.toList) && (yp == p))) = false
              rw [f1, f2]; rfl
            clear hany hhit
            go_wp2_with fail
            go_roundw
            case rel => exact ⟨j + 1, by omega, rfl, by go_num, hnext, hB4'⟩
            case measure => simp [intOf]; omega
          | true =>
            have hres := Lib.hid (hhit (show ((ys.toList == u.toList) && (yp == p)) = true by rw [f1, f2]; rfl))
            clear hany hhit
            go_wp2_with fail
            try dsimp only [Exit.noGoto]
            go_ret
            exact ⟨ret_bool hres.out.symm, hB1.out.trans (hB4'.out.mono hB1.out.size)⟩
      · have hres : Hid (gs.any (grIs u p) = false) := by
          have := hpj.out
          rwa [List.take_of_length_le (by have := hgl.out; omega)] at this
        clear hpj
        go_wp2_with fail
        try dsimp only [Exit.noGoto]
        go_ret
        exact ⟨ret_bool hres.out.symm, hB1.out.trans (hBr.out.mono hB1.out.size)⟩
end

section
open Go.RowKit Go.Maps

set_option maxRecDepth 100000 in
set_option maxHeartbeats 2000000 in
theorem refHas24_no (key : ByteArray) (p : Int) (Aa Bb : Option Addr) (n c m d : Nat) (u s : ByteArray) (w : World)
    (cO : Calls Tryd.prog 30 #[.string key] w fun r w' => r = .returned (.tuple #[.int .i64 p, .bool false]) ∧ Below w.heap.size w w') :
    Calls Tryd.prog 17 #[.slice Aa n c, .slice Bb m d, .string u, .string s, .string key] w fun r w' => r = .returned (.bool false) ∧ Below w.heap.size w w' := by
  replace cO := Lib.hid cO
  go_enter Tryd.func17, Tryd.ntmps17
  go_wp2_with (go_at_call 30; refine cO.out.mono ?_; rintro r w1 ⟨rfl, hb⟩)
  go_ret
  exact ⟨rfl, hb⟩
set_option maxRecDepth 100000 in
set_option maxHeartbeats 2000000 in
theorem refHas24_any (key : ByteArray) (p : Int) (Aa Bb : Option Addr) (n c m d : Nat) (gs : List Gr) (ss : List ByteArray) (u s : ByteArray) (w : World) (hn : n ≤ 1000) (hm : m ≤ 1000)
    (cO : Calls Tryd.prog 30 #[.string key] w fun r w' => r = .returned (.tuple #[.int .i64 p, .bool true]) ∧ Below w.heap.size w w')
    (hG : Grs w Aa n gs) (hS : Strs w Bb m ss) :
    Calls Tryd.prog 17 #[.slice Aa n c, .slice Bb m d, .string u, .string s, .string key] w fun r w' => r = .returned (.bool (has ss s && gs.any (grIs u p))) ∧ Below w.heap.size w w' := by
  have cN := fun W (h : Below w.heap.size w W) => refHas_any ss Bb m d s W (by omega) (hS.keep h)
  have hgl := Lib.hid hG.len
  replace cO := Lib.hid cO
  cases hh : has ss s with
  | false =>
    rw [hh] at cN
    replace cN := Lib.hid cN
    clear hG hS hh
    go_enter Tryd.func17, Tryd.ntmps17
    go_wp2_with (first
      | (go_at_call 30; refine cO.out.mono ?_; rintro r w1 ⟨rfl, hb⟩
         have cN1 := Lib.hid (cN.out w1 hb)
         have hB1 := Lib.hid hb
         clear hb cN)
      | (go_at_call 31; refine cN1.out.mono ?_; rintro r w2 ⟨rfl, rfl⟩))
    go_ret
    exact ⟨rfl, hB1.out⟩
  | true =>
    rw [hh] at cN
    replace cN := Lib.hid cN
    have hGh := Lib.hid hG
    clear hG hS hh
    rw [Bool.true_and]
    go_enter Tryd.func17, Tryd.ntmps17
    go_wp2_with (first
      | (go_at_call 30; refine cO.out.mono ?_; rintro r w1 ⟨rfl, hb⟩
         have hG1 := Lib.hid (hGh.out.keep hb)
         have cN1 := Lib.hid (cN.out w1 hb)
         have hB1 := Lib.hid hb
         clear hb cN cO)
      | (go_at_call 31; refine cN1.out.mono ?_; rintro r w2 ⟨rfl, rfl⟩))
    have h0 : Hid ((gs.take 0).any (grIs u p) = false) := rfl
    go_loopw [13] (fun iv wr => ∃ j : Nat, j ≤ n ∧ iv = .int .i64 j ∧ Hid ((gs.take j).any (grIs u p) = false) ∧ wr = w1) (fun iv _ => n - (intOf iv).toNat)
    case atStart => exact ⟨0, by omega, rfl, h0, rfl⟩
    case round =>
      clear h0
      obtain ⟨j, hj, rfl, hpj, rfl⟩ := hrel
      by_cases hlt : j < n
      · obtain ⟨b, off, y, rfl, hbl, hy, hc0, hc1⟩ := hG1.out.at_ hlt
        have hany := any_take_succ (grIs u p) hy
        have hhit := any_hit (grIs u p) hy
        obtain ⟨ys, yp⟩ := y
        have hc0 : wr.cell? ⟨b, off + j * 2, none⟩ = some (.string ys) := hc0
        have hc1 : wr.cell? ⟨b, off + j * 2 + 1, none⟩ = some (.int .i64 yp) := hc1
        clear hy
        cases f1 : (ys.toList == u.toList) with
        | false =>
          have hnext : Hid ((gs.take (j + 1)).any (grIs u p) = false) := by
            rw [hany, hpj.out]
            show (false || ((ys.toList == u.toList) && (yp == p))) = false
            rw [f1]; rfl
          clear hany hhit hc1
          go_wp2_with fail
          go_roundw
          case rel => exact ⟨j + 1, by omega, by go_num, hnext, (by first | rfl | trivial)⟩
          case measure => simp [intOf]; omega
        | true =>
          cases f2 : (yp == p) with
          | false =>
            have hnext : Hid ((gs.take (j + 1)).any (grIs u p) = false) := by
              rw [hany, hpj.out]
              show (false || ((ys.toList == u.toList) && (yp == p))) = false
              rw [f1, f2]; rfl
            clear hany hhit
            go_wp2_with fail
            go_roundw
            case rel => exact ⟨j + 1, by omega, by go_num, hnext, (by first | rfl | trivial)⟩
            case measure => simp [intOf]; omega
          | true =>
            have hres := Lib.hid (hhit (show ((ys.toList == u.toList) && (yp == p)) = true by rw [f1, f2]; rfl))
            clear hany hhit
            go_wp2_with fail
            go_ret
            exact ⟨ret_bool hres.out.symm, hB1.out⟩
      · have hres : Hid (gs.any (grIs u p) = false) := by
          have := hpj.out
          rwa [List.take_of_length_le (by have := hgl.out; omega)] at this
        clear hpj
        go_wp2_with fail
        go_ret
        exact ⟨ret_bool hres.out.symm, hB1.out⟩
end

section
open Go.RowKit

theorem bss_size (l : List UInt8) : (⟨l.toArray⟩ : ByteArray).size = l.length := by simp [ByteArray.size]
theorem bs_add (l m : List UInt8) : bs l ++ bs m = bs (l ++ m) := by
  apply ByteArray.ext
  simp [bs]
theorem nums_bs (l : List Nat) : strOfNums (l.map fun x : Nat => (x : Int)) = bs (l.map UInt8.ofNat) := by
  unfold strOfNums bs
  congr 1
  simp [List.map_map, Function.comp_def]
theorem conv_nums (w : World) (l : List Nat) : (convert 98 9 (.slice (some ⟨w.heap.size, 0, none⟩) l.length l.length)).run Tryd.prog (w.alloc (.cells (l.map (fun x : Nat => Value.int .u8 x)).toArray 5)) = .ok (.string (bs (l.map UInt8.ofNat))) (w.alloc (.cells (l.map (fun x : Nat => Value.int .u8 x)).toArray 5)) := by
  have h := run_convert_bytes_arg (P := Tryd.prog) (w.alloc (.cells (l.map (fun x : Nat => Value.int .u8 x)).toArray 5)) 98 5 Tryd.underlying98 Tryd.underlying5 w.heap.size 0 l.length l.length (l.map fun x : Nat => (x : Int)) (by simp) (fun i hi => by
    rw [Nat.zero_add, World.cell?_alloc_at _ _ _ _ rfl]
    simp [List.getElem?_eq_getElem hi, List.getD_eq_getElem?_getD]) 9 Tryd.underlying9
  rw [nums_bs] at h
  exact h
theorem u32_nums (n : Nat) : u32 n = [n / 16777216 % 256, n / 65536 % 256, n / 256 % 256, n % 256].map UInt8.ofNat := rfl
theorem ret_bs {a b : List UInt8} (h : a = b) : Ending.returned (.string (bs a)) = .returned (.string (bs b)) := by rw [h]
/-- A call that makes a text, and only new blocks. -/
def TxR (w : World) (l : List UInt8) (r : Ending) (w' : World) : Prop := r = .returned (.string (bs l)) ∧ Below w.heap.size w w'

set_option maxRecDepth 100000 in
theorem rU32_any (n : Nat) (w : World) (h1 : n < 4294967296) :
    Calls Tryd.prog 49 #[.int .i64 n] w (TxR w (u32 n)) := by
  have kc : (convert 98 9 (.slice (some ⟨w.heap.size, 0, none⟩) 4 4)).run Tryd.prog (w.alloc (.cells #[.int .u8 ((n : Int) / 16777216 % 256), .int .u8 ((n : Int) / 65536 % 256), .int .u8 ((n : Int) / 256 % 256), .int .u8 ((n : Int) % 256)] 5)) = .ok (.string (bs (u32 n))) (w.alloc (.cells #[.int .u8 ((n : Int) / 16777216 % 256), .int .u8 ((n : Int) / 65536 % 256), .int .u8 ((n : Int) / 256 % 256), .int .u8 ((n : Int) % 256)] 5)) := by
    have h := conv_nums w [n / 16777216 % 256, n / 65536 % 256, n / 256 % 256, n % 256]
    rw [← u32_nums] at h
    simpa using h
  have hB := Lib.hid ((Below.refl w.heap.size w).alloc (Nat.le_refl _) (.cells #[.int .u8 ((n : Int) / 16777216 % 256), .int .u8 ((n : Int) / 65536 % 256), .int .u8 ((n : Int) / 256 % 256), .int .u8 ((n : Int) % 256)] 5))
  go_enter Tryd.func49, Tryd.ntmps49
  go_wp2
  go_ret
  exact ⟨rfl, hB.out⟩
theorem rTag_any (n : Nat) (w : World) (h1 : n < 16) :
    Calls Tryd.prog 47 #[.int .i64 n] w (TxR w [UInt8.ofNat (240 + n)]) := by
  have kc : (convert 98 9 (.slice (some ⟨w.heap.size, 0, none⟩) 1 1)).run Tryd.prog (w.alloc (.cells #[.int .u8 (240 + (n : Int))] 5)) = .ok (.string (bs [UInt8.ofNat (240 + n)])) (w.alloc (.cells #[.int .u8 (240 + (n : Int))] 5)) := by
    have h := conv_nums w [240 + n]
    simpa using h
  have hB := Lib.hid ((Below.refl w.heap.size w).alloc (Nat.le_refl _) (.cells #[.int .u8 (240 + (n : Int))] 5))
  have hT : bs [UInt8.ofNat (240 + n)] = bs [240 + UInt8.ofNat n] := by rw [UInt8.ofNat_add]; rfl
  unfold TxR
  rw [hT]
  rw [hT] at kc
  clear hT
  go_enter Tryd.func47, Tryd.ntmps47
  go_wp2
  go_ret
  exact ⟨rfl, hB.out⟩
def fitsL (l : List UInt8) : List UInt8 := if l.length ≤ 131072 then l else []
theorem rNumber_any (n : Int) (w : World) :
    Calls Tryd.prog 48 #[.int .i64 n] w fun r w' => r = .returned (.bool (decide (numOk n))) ∧ w = w' := by
  by_cases h0 : 0 ≤ n
  · go_enter Tryd.func48, Tryd.ntmps48
    go_wp2
    go_ret
    exact ⟨ret_bool (by unfold numOk; simp [h0]), rfl⟩
  · have hn : ¬ numOk n := fun h => h0 h.1
    rw [decide_eq_false hn]
    go_enter Tryd.func48, Tryd.ntmps48
    go_wp2
    go_ret
    exact ⟨rfl, rfl⟩
theorem rText_any (s : List UInt8) (m : Nat) (w : World) (hs : s.length ≤ 4000000000) :
    Calls Tryd.prog 70 #[.string (bs s), .int .i64 m] w fun r w' => r = .returned (.bool (decide (txtOk s m))) ∧ w = w' := by
  have hz := bs_size s
  by_cases h0 : 1 ≤ s.length
  · have h1 : 1 ≤ (bs s).size := by omega
    have h2 : (bs s).size ≤ 4000000000 := by omega
    go_enter Tryd.func70, Tryd.ntmps70
    go_wp2
    go_ret
    exact ⟨ret_bool (by unfold txtOk; simp [h0, hz]), rfl⟩
  · have hn : ¬ txtOk s m := fun h => h0 h.1
    have h1 : (bs s).size = 0 := by omega
    rw [decide_eq_false hn]
    clear h0 hn hz
    go_enter Tryd.func70, Tryd.ntmps70
    go_wp2
    go_ret
    exact ⟨rfl, rfl⟩
end

section
open Go.RowKit

theorem enc_head {t : Tm} (h : t.ok) : ∃ r, t.enc = UInt8.ofNat (240 + t.kind) :: r ∧ 1 ≤ t.kind ∧ t.kind ≤ 10 := by
  obtain ⟨k, a, b, s, args⟩ := t
  rw [ok_mk] at h
  rw [enc_mk]
  exact ⟨_, rfl, okHd_kind h.1⟩
theorem rKind_any (o : Option Tm) (ho : okO o) (hl : (encO o).length ≤ 4000000000) (w : World) :
    Calls Tryd.prog 45 #[.string (bs (encO o))] w fun r w' => r = .returned (.int .i64 (kindO o)) ∧ w = w' := by
  cases o with
  | none =>
    go_enter Tryd.func45, Tryd.ntmps45
    go_wp2
    go_ret
    exact ⟨rfl, rfl⟩
  | some t =>
    obtain ⟨r, hr, h1, h2⟩ := enc_head (ho t rfl)
    have hz := bs_size t.enc
    have hk : kindO (some t) = t.kind := rfl
    rw [hk]
    rw [show encO (some t) = t.enc from rfl] at hl ⊢
    have hi : ∀ h, (bs t.enc)[0]'h = UInt8.ofNat (240 + t.kind) := by
      rw [hr]
      intro h
      rfl
    have hpos : 0 < (bs t.enc).size := by rw [hz, hr]; simp
    have hz2 : (bs t.enc).size ≤ 4000000000 := by omega
    generalize t.kind = k at *
    generalize bs t.enc = x at *
    have hm : (240 + (k : Int)) % 256 = 240 + (k : Int) := by omega
    have hx : ¬ x = ByteArray.empty := fun e => by rw [e] at hpos; exact absurd hpos (by decide)
    have hx2 : ((x.size : Int) == 0) = false := by rw [beq_eq_false_iff_ne]; omega
    have d1 : decide (240 + (k : Int) < 241) = false := decide_eq_false (by omega)
    have d2 : decide (250 < 240 + (k : Int)) = false := decide_eq_false (by omega)
    clear hr hz
    go_enter Tryd.func45, Tryd.ntmps45
    go_wp2
    go_ret
    exact ⟨ret_int (by omega), rfl⟩
end

section
open Go.RowKit

set_option maxRecDepth 100000 in
theorem rNum4_any (X : ByteArray) (p : Nat) (c0 c1 c2 c3 : UInt8) (w : World) (hX : X.size ≤ 4000000000) (h4 : p + 4 ≤ X.size)
    (i0 : ∀ h, X[p]'h = c0) (i1 : ∀ h, X[p + 1]'h = c1) (i2 : ∀ h, X[p + 2]'h = c2) (i3 : ∀ h, X[p + 3]'h = c3) :
    Calls Tryd.prog 64 #[.string X, .int .i64 p] w fun r w' => r = .returned (.tuple #[.int .i64 ((c0.toNat : Int) * 16777216 + c1.toNat * 65536 + c2.toNat * 256 + c3.toNat), .bool true]) ∧ Below w.heap.size w w' := by
  have b0 : (c0.toNat : Int) < 256 := by have := c0.toNat_lt; omega
  have b1 : (c1.toNat : Int) < 256 := by have := c1.toNat_lt; omega
  have b2 : (c2.toNat : Int) < 256 := by have := c2.toNat_lt; omega
  have b3 : (c3.toNat : Int) < 256 := by have := c3.toNat_lt; omega
  have l2 : ¬ ((X.size : Int) - (p : Int) < 4) := by omega
  have z0 : (0 : Int) ≤ (p : Int) := by omega
  have y0 : (p : Int) < (X.size : Int) := by omega
  have z1 : (0 : Int) ≤ (p : Int) + 1 := by omega
  have y1 : (p : Int) + 1 < (X.size : Int) := by omega
  have t1 : ((p : Int) + 1).toNat = p + 1 := by omega
  have z2 : (0 : Int) ≤ (p : Int) + 2 := by omega
  have y2 : (p : Int) + 2 < (X.size : Int) := by omega
  have t2 : ((p : Int) + 2).toNat = p + 2 := by omega
  have z3 : (0 : Int) ≤ (p : Int) + 3 := by omega
  have y3 : (p : Int) + 3 < (X.size : Int) := by omega
  have t3 : ((p : Int) + 3).toNat = p + 3 := by omega
  go_enter Tryd.func64, Tryd.ntmps64
  go_upto_region 3 with fail
  go_quiet (fail)
  go_wp2_with fail
  go_ret2
  exact ⟨rfl, drewN_below nq⟩
/-- The bytes of a text from a place on. -/
theorem bs_at {l : List UInt8} {p : Nat} {c : UInt8} (hc : l[p]? = some c) : ∀ h, (bs l)[p]'h = c := by
  intro h
  have hp := (List.getElem?_eq_some_iff.1 hc)
  have : (bs l)[p]'h = l[p]'hp.1 := rfl
  rw [this, hp.2]
theorem u32_val (n : Nat) (h : n < 4294967296) : ∃ c0 c1 c2 c3 : UInt8, u32 n = [c0, c1, c2, c3] ∧ (c0.toNat : Int) * 16777216 + c1.toNat * 65536 + c2.toNat * 256 + c3.toNat = n := by
  refine ⟨_, _, _, _, rfl, ?_⟩
  rw [UInt8.toNat_ofNat', UInt8.toNat_ofNat', UInt8.toNat_ofNat', UInt8.toNat_ofNat']
  omega
/-- Where a number's four bytes stand. -/
theorem at_u32 {l : List UInt8} {p n : Nat} {r : List UInt8} (h : l.drop p = u32 n ++ r) (hn : n < 4294967296) : p + 4 ≤ l.length ∧ ∃ c0 c1 c2 c3 : UInt8, l[p]? = some c0 ∧ l[p + 1]? = some c1 ∧ l[p + 2]? = some c2 ∧ l[p + 3]? = some c3 ∧ (c0.toNat : Int) * 16777216 + c1.toNat * 65536 + c2.toNat * 256 + c3.toNat = n := by
  obtain ⟨c0, c1, c2, c3, e, hv⟩ := u32_val n hn
  rw [e] at h
  have hl := congrArg List.length h
  rw [List.length_drop] at hl
  simp at hl
  have g : ∀ i, l[p + i]? = ([c0, c1, c2, c3] ++ r)[i]? := fun i => by rw [← h, List.getElem?_drop]
  exact ⟨by omega, c0, c1, c2, c3, g 0, g 1, g 2, g 3, hv⟩
theorem rNumber4 (l : List UInt8) (p n : Nat) (r : List UInt8) (w : World) (hl : l.length ≤ 4000000000) (h : l.drop p = u32 n ++ r) (hn : n < 4294967296) :
    Calls Tryd.prog 64 #[.string (bs l), .int .i64 p] w fun r w' => r = .returned (.tuple #[.int .i64 n, .bool true]) ∧ Below w.heap.size w w' := by
  obtain ⟨h4, c0, c1, c2, c3, e0, e1, e2, e3, hv⟩ := at_u32 h hn
  have c := rNum4_any (bs l) p c0 c1 c2 c3 w (by rw [bs_size]; exact hl) (by rw [bs_size]; exact h4) (bs_at e0) (bs_at e1) (bs_at e2) (bs_at e3)
  rw [hv] at c
  exact c
theorem bs_extract (l : List UInt8) (i j : Nat) : (bs l).extract i j = bs ((l.take j).drop i) := by
  apply ByteArray.ext
  apply Array.ext'
  rw [ByteArray.data_extract, Array.toList_extract, List.extract_eq_take_drop]
  simp [bs, List.drop_take]
theorem rText4 (l : List UInt8) (p : Nat) (s r : List UInt8) (w : World) (hl : l.length ≤ 4000000000) (h : l.drop p = u32 s.length ++ (s ++ r)) :
    Calls Tryd.prog 63 #[.string (bs l), .int .i64 p] w fun r w' => r = .returned (.tuple #[.string (bs s), .int .i64 ((p + 4 + s.length : Nat) : Int), .bool true]) ∧ Below w.heap.size w w' := by
  have hlen := congrArg List.length h
  rw [List.length_drop, List.length_append, u32_len, List.length_append] at hlen
  have c := Lib.hid (rNumber4 l p s.length (s ++ r) w hl h (by omega))
  have hz := bs_size l
  have hx : (bs l).extract (p + 4) (p + 4 + s.length) = bs s := by
    rw [bs_extract]
    have e1 : l.drop (p + 4) = s ++ r := by
      have := congrArg (List.drop 4) h
      rw [List.drop_drop] at this
      rw [this]
      rfl
    rw [List.drop_take, Nat.add_sub_cancel_left, e1, List.take_left]
  have b1 : p + 4 + s.length ≤ (bs l).size := by omega
  have b2 : (bs l).size ≤ 4000000000 := by omega
  generalize s.length = m at *
  have hx := hx
  generalize bs l = X at *
  clear hlen h hz hl
  rw [show ((p + 4 + m : Nat) : Int) = (p : Int) + 4 + (m : Int) by omega]
  have l1 : ¬ ((X.size : Int) - (p : Int) - 4 < (m : Int)) := by omega
  have t1 : ((p : Int) + 4).toNat = p + 4 := by omega
  have t2 : ((p : Int) + 4 + (m : Int)).toNat = p + 4 + m := by omega
  go_enter Tryd.func63, Tryd.ntmps63
  go_wp2_with (go_at_call 64; refine c.out.mono ?_; rintro r w1 ⟨rfl, hb⟩)
  go_ret3
  exact ⟨rfl, hb⟩
end

section
open Go.RowKit

theorem encO_mkO {k a b : Nat} {s : List UInt8} {l : List Tm} (h : okHd k a b s l.length) : encO (mkO k a b s (l.map some)) = fitsL (UInt8.ofNat (240 + k) :: (hd k a b s l.length ++ encs l)) := by
  unfold mkO
  rw [alls_map]
  have hl := len_mk h
  unfold Tm.len at hl
  rw [enc_mk] at hl
  dsimp only
  unfold fitsL
  rw [hl]
  split
  · show (Tm.mk k a b s l).enc = _
    rw [enc_mk]
  · rfl
theorem fitsL_id {l : List UInt8} (h : l.length ≤ 131072) : fitsL l = l := by unfold fitsL; rw [if_pos h]
theorem cat2 {x y : ByteArray} {a b : List UInt8} (hx : x = bs a) (hy : y = bs b) : x ++ y = bs (a ++ b) := by rw [hx, hy, bs_add]
theorem key_enc {t : Tm} (h : t.ok) (hk : t.kind = 3) : t.enc.length = 5 := by
  obtain ⟨k, a, b, s, args⟩ := t
  have hk : k = 3 := hk
  subst hk
  rw [ok_mk] at h
  have h1 := h.1
  have h2 := len_mk h1
  unfold okHd at h1
  simp only [reduceCtorEq, false_and, or_false, false_or, true_and, Nat.reduceEqDiff] at h1
  obtain rfl := List.eq_nil_of_length_eq_zero h1.2.2.2
  unfold Tm.len at h2
  rw [h2]
  obtain ⟨_, _, rfl, _⟩ := h1
  rfl
theorem encO_keyT {p : Nat} (h1 : p ≤ 2147483647) : encO (keyT p) = [UInt8.ofNat (240 + 3)] ++ u32 p := by
  have := encO_mkO (k := 3) (a := p) (b := 0) (s := []) (l := []) (.inr (.inr (.inl ⟨rfl, h1, rfl, rfl, rfl⟩)))
  unfold keyT
  rw [if_pos (by unfold numOk; omega), Int.toNat_natCast]
  rw [fitsL_id (by simp [hd, encs, u32_len])] at this
  simpa [hd, encs] using this
theorem rKey_any (p : Int) (w : World) :
    Calls Tryd.prog 33 #[.int .i64 p] w (TxR w (encO (keyT p))) := by
  have cp := Lib.hid (fun W => rNumber_any p W)
  by_cases hp : numOk p
  · obtain ⟨p0, p1⟩ := hp
    have hp : numOk p := ⟨p0, p1⟩
    rw [decide_eq_true hp] at cp
    obtain ⟨i, rfl⟩ := Int.eq_ofNat_of_zero_le p0
    rw [encO_keyT (by omega)]
    have c1 := fun W => rTag_any 3 W (by decide)
    have c2 := fun W => rU32_any i W (by omega)
    have hcat : bs [UInt8.ofNat (240 + 3)] ++ bs (u32 i) = bs ([UInt8.ofNat (240 + 3)] ++ u32 i) := by rw [bs_add]
    have z1 := bs_size [UInt8.ofNat (240 + 3)]
    have z2 := bs_size (u32 i)
    rw [u32_len] at z2
    unfold TxR at c1 c2 ⊢
    rw [← hcat]
    generalize bs [UInt8.ofNat (240 + 3)] = x1 at *
    generalize bs (u32 i) = x2 at *
    simp only [List.length_singleton] at z1
    have c1 := Lib.hid c1
    have c2 := Lib.hid c2
    clear hcat hp p0 p1
    go_enter Tryd.func33, Tryd.ntmps33
    go_wp2_with (first
      | (go_at_call 48; (with_reducible refine (cp.out _).mono ?_); rintro r w1 ⟨rfl, rfl⟩)
      | (go_at_call 47; refine (c1.out _).mono ?_; rintro r w1 ⟨rfl, hb1⟩)
      | (go_at_call 49; (with_reducible refine (c2.out _).mono ?_); rintro r w2 ⟨rfl, hb2⟩; have hB := Lib.hid (hb1.trans (hb2.mono hb1.size)); clear hb1 hb2))
    go_ret
    exact ⟨rfl, hB.out⟩
  · have e : keyT p = none := by unfold keyT; rw [if_neg hp]
    rw [e]
    rw [decide_eq_false hp] at cp
    clear e hp
    go_enter Tryd.func33, Tryd.ntmps33
    go_wp2_with (go_at_call 48; (with_reducible refine (cp.out _).mono ?_); rintro r w1 ⟨rfl, rfl⟩)
    go_ret
    exact ⟨rfl, Below.refl _ _⟩
theorem encO_pubT {t : Tm} (ht : t.ok) (hk : t.kind = 3) : encO (pubT (some t)) = [UInt8.ofNat (240 + 4)] ++ t.enc := by
  have := encO_mkO (k := 4) (a := 0) (b := 0) (s := []) (l := [t]) (.inr (.inr (.inr (.inl ⟨rfl, rfl, rfl, rfl, rfl⟩))))
  unfold pubT
  rw [if_pos (show kindO (some t) = 3 from hk)]
  have h5 := key_enc ht hk
  rw [fitsL_id (by simp [hd, encs, h5])] at this
  simpa [hd, encs] using this
theorem rPub_any (o : Option Tm) (ho : okO o) (hl : (encO o).length ≤ 4000000000) (w : World) :
    Calls Tryd.prog 32 #[.string (bs (encO o))] w (TxR w (encO (pubT o))) := by
  have cK := Lib.hid (fun W => rKind_any o ho hl W)
  by_cases h : kindO o = 3
  · rw [h] at cK
    obtain ⟨t, rfl, hk⟩ : ∃ t, o = some t ∧ t.kind = 3 := by
      cases o with
      | none => cases h
      | some t => exact ⟨t, rfl, h⟩
    rw [encO_pubT (ho t rfl) hk]
    have c1 := fun W => rTag_any 4 W (by decide)
    have h5 := key_enc (ho t rfl) hk
    rw [show encO (some t) = t.enc from rfl] at cK ⊢
    have hcat : bs [UInt8.ofNat (240 + 4)] ++ bs t.enc = bs ([UInt8.ofNat (240 + 4)] ++ t.enc) := by rw [bs_add]
    have z1 := bs_size [UInt8.ofNat (240 + 4)]
    have z2 := bs_size t.enc
    rw [h5] at z2
    unfold TxR at c1 ⊢
    rw [← hcat]
    generalize bs [UInt8.ofNat (240 + 4)] = x1 at *
    generalize bs t.enc = x2 at *
    simp only [List.length_singleton] at z1
    have c1 := Lib.hid c1
    clear hcat h hl
    go_enter Tryd.func32, Tryd.ntmps32
    go_wp2_with (first
      | (go_at_call 45; (with_reducible refine (cK.out _).mono ?_); rintro r w1 ⟨rfl, rfl⟩)
      | (go_at_call 47; refine (c1.out _).mono ?_; rintro r w1 ⟨rfl, hb1⟩))
    go_ret
    exact ⟨rfl, hb1⟩
  · have e : pubT o = none := by unfold pubT; rw [if_neg h]
    rw [e]
    have hne : ((kindO o : Int) == 3) = false := by rw [beq_eq_false_iff_ne]; omega
    have hne2 : ¬ (kindO o : Int) = 3 := by omega
    generalize kindO o = k at *
    generalize bs (encO o) = x at *
    clear e h hl
    go_enter Tryd.func32, Tryd.ntmps32
    go_wp2_with (go_at_call 45; (with_reducible refine (cK.out _).mono ?_); rintro r w1 ⟨rfl, rfl⟩)
    go_ret
    exact ⟨rfl, Below.refl _ _⟩
end

section
open Go.RowKit

theorem ofNat_ltu {x y : Nat} (hx : x < 256) (hy : y < 256) : (UInt8.ofNat x < UInt8.ofNat y) ↔ x < y := by
  rw [UInt8.lt_iff_toNat_lt]; simp [Nat.mod_eq_of_lt hx, Nat.mod_eq_of_lt hy]
theorem ofNat_bequ {x y : Nat} (hx : x < 256) (hy : y < 256) : (UInt8.ofNat x == UInt8.ofNat y) = (x == y) := by
  rw [Bool.eq_iff_iff]; simp only [beq_iff_eq]
  constructor
  · intro h
    have := congrArg UInt8.toNat h
    simpa [Nat.mod_eq_of_lt hx, Nat.mod_eq_of_lt hy] using this
  · rintro rfl; rfl
theorem u32_digits (x : Nat) (hx : x < 4294967296) : ∃ a b c d : Nat, a < 256 ∧ b < 256 ∧ c < 256 ∧ d < 256 ∧ x = 16777216 * a + 65536 * b + 256 * c + d ∧ u32 x = [UInt8.ofNat a, UInt8.ofNat b, UInt8.ofNat c, UInt8.ofNat d] :=
  ⟨x / 16777216 % 256, x / 65536 % 256, x / 256 % 256, x % 256, by omega, by omega, by omega, by omega, by omega, rfl⟩
theorem less_u32 {x y : Nat} (hx : x < 4294967296) (hy : y < 4294967296) (r r' : List UInt8) : Op.bytesLess (u32 x ++ r) (u32 y ++ r') = (decide (x < y) || (x == y && Op.bytesLess r r')) := by
  obtain ⟨a, b, c, d, h1, h2, h3, h4, e, eu⟩ := u32_digits x hx
  obtain ⟨a', b', c', d', k1, k2, k3, k4, e', eu'⟩ := u32_digits y hy
  rw [eu, eu']
  simp only [List.cons_append, List.nil_append, Op.bytesLess]
  rw [ofNat_bequ h1 k1, ofNat_bequ h2 k2, ofNat_bequ h3 k3, ofNat_bequ h4 k4]
  simp only [ofNat_ltu h1 k1, ofNat_ltu h2 k2, ofNat_ltu h3 k3, ofNat_ltu h4 k4]
  generalize Op.bytesLess r r' = z
  clear eu eu' hx hy
  rw [Bool.eq_iff_iff]
  simp only [Bool.or_eq_true, Bool.and_eq_true, decide_eq_true_eq, beq_iff_eq]
  cases z <;> simp <;> omega
theorem nonce_enc {t : Tm} (h : t.ok) (hk : t.kind = 2) : t.enc = UInt8.ofNat 242 :: (u32 t.a ++ (u32 t.b ++ [])) ∧ t.a < 4294967296 ∧ t.b < 4294967296 := by
  obtain ⟨k, a, b, s, args⟩ := t
  have hk : k = 2 := hk
  subst hk
  rw [ok_mk] at h
  have h1 := h.1
  unfold okHd at h1
  simp only [reduceCtorEq, false_and, or_false, false_or, true_and, Nat.reduceEqDiff] at h1
  obtain rfl := List.eq_nil_of_length_eq_zero h1.2.2.2
  rw [enc_mk]
  simp only [Tm.a, Tm.b]
  exact ⟨by simp [hd, encs], by omega, by omega⟩
/-- A nonce's text comes ahead of another one's, as they stand in a share. -/
theorem nonce_less {t u : Tm} (ht : t.ok) (hu : u.ok) (kt : t.kind = 2) (ku : u.kind = 2) : Op.bytesLess t.enc u.enc = decide (¬ nle u t) := by
  obtain ⟨e1, a1, a2⟩ := nonce_enc ht kt
  obtain ⟨e2, b1, b2⟩ := nonce_enc hu ku
  rw [e1, e2]
  simp only [Op.bytesLess]
  rw [less_u32 a1 b1, less_u32 a2 b2]
  rw [Bool.eq_iff_iff]
  simp only [Op.bytesLess, Bool.or_eq_true, Bool.and_eq_true, decide_eq_true_eq, beq_iff_eq, UInt8.lt_irrefl, false_or, true_and]
  unfold nle
  simp
  omega
theorem bs_toList (l : List UInt8) : (bs l).toList = l := by rw [ByteArray.toList_eq]; rfl
/-- A node's cells, as the reference has them. -/
def rnC (k a b : Int) (s : List UInt8) (v : Value) : List Value := [.int .i64 k, .int .i64 a, .int .i64 b, .string (bs s), v]
theorem rn_all {k a b : Int} {s : List UInt8} {A : Option Addr} {n c : Nat} : (rnC k a b s (.slice A n c)).toArray.all (·.oneCell') = true := by simp [rnC, Value.oneCell']
set_option maxRecDepth 100000 in
set_option maxHeartbeats 2000000 in
theorem rRight_any (k a b : Nat) (s : List UInt8) (args : List Tm) (hok : (Tm.mk k a b s args).ok) (A : Option Addr) (c : Nat) (w : World) (hA : Strs w A args.length (args.map fun u => bs u.enc)) (hsz : ∀ u ∈ args, u.enc.length ≤ 4000000000) :
    Calls Tryd.prog 65 #[.agg (rnC k a b s (.slice A args.length c)).toArray] w fun r w' => r = .returned (.bool true) ∧ Below w.heap.size w w' := by
  have hB := below_new w (.cells (rnC k a b s (.slice A args.length c)).toArray 89)
  have hn := heap_new w (.cells (rnC k a b s (.slice A args.length c)).toArray 89)
  have d0 := cell_of_row _ w.heap.size 0 _ _ _ hn
  have d1 := cell_of_row _ w.heap.size 1 _ _ _ hn
  have d2 := cell_of_row _ w.heap.size 2 _ _ _ hn
  have d3 := cell_of_row _ w.heap.size 3 _ _ _ hn
  have d4 := cell_of_row _ w.heap.size 4 _ _ _ hn
  have hA2 := Lib.hid (hA.keep hB)
  have hn1 := Lib.hid hn
  have hBh := Lib.hid hB
  clear hB
  have hokm := ok_mk.1 hok
  have hk1 := hokm.1
  have hka := hokm.2.1
  have hko := hokm.2.2
  unfold okHd at hk1
  have cK : ∀ u ∈ args, ∀ W, Calls Tryd.prog 45 #[.string (bs u.enc)] W fun r w' => r = .returned (.int .i64 u.kind) ∧ W = w' := fun u hu W => rKind_any (some u) (fun t ht => by obtain rfl := Option.some.inj ht; exact hko u hu) (hsz u hu) W
  clear hok hokm hsz
  unfold rnC at hn1 d0 d1 d2 d3 d4 hBh hA2 ⊢
  clear hn hA
  go_enter Tryd.func65, Tryd.ntmps65
  go_upto_region 1 with fail
  generalize (w.alloc (.cells [Value.int .i64 k, .int .i64 a, .int .i64 b, .string (bs s), .slice A args.length c].toArray 89)) = w1 at *
  rcases hk1 with hk1 | hk1 | hk1 | hk1 | hk1 | hk1 | hk1 | hk1 | hk1 | hk1
  · obtain ⟨rfl, -⟩ := hk1
    clear cK hko hka hA2 hn1
    go_wp2_with fail
    go_ret
    exact ⟨rfl, hBh.out⟩
  · obtain ⟨rfl, ha, hb, -⟩ := hk1
    have ca := fun W => rNumber_any a W
    have cb := fun W => rNumber_any b W
    rw [decide_eq_true (by unfold numOk; omega)] at ca cb
    have ca := Lib.hid ca
    have cb := Lib.hid cb
    clear cK hko hka hA2 hn1
    go_wp2_with (first
      | (go_at_call 48; (with_reducible refine (ca.out _).mono ?_); rintro r w1 ⟨rfl, rfl⟩)
      | (go_at_call 48; (with_reducible refine (cb.out _).mono ?_); rintro r w1 ⟨rfl, rfl⟩))
    go_ret
    exact ⟨rfl, hBh.out⟩
  · obtain ⟨rfl, ha, rfl, -⟩ := hk1
    have ca := fun W => rNumber_any a W
    have cb : ∀ W, Calls Tryd.prog 48 #[.int .i64 ((0 : Nat) : Int)] W fun r w' => r = .returned (.bool (decide (numOk ((0 : Nat) : Int)))) ∧ W = w' := fun W => rNumber_any ((0 : Nat) : Int) W
    rw [decide_eq_true (by unfold numOk; omega)] at ca cb
    have ca := Lib.hid ca
    have cb := Lib.hid cb
    clear cK hko hka hA2 hn1
    go_wp2_with (first
      | (go_at_call 48; (with_reducible refine (ca.out _).mono ?_); rintro r w1 ⟨rfl, rfl⟩)
      | (go_at_call 48; refine (cb.out _).mono ?_; rintro r w1 ⟨rfl, rfl⟩))
    go_ret
    exact ⟨rfl, hBh.out⟩
  · obtain ⟨rfl, rfl, rfl, rfl, hm⟩ := hk1
    obtain ⟨u, rfl⟩ := List.length_eq_one_iff.1 hm
    have hk3 := hka.1 rfl u (by simp)
    have cu := cK u (by simp)
    rw [hk3] at cu
    obtain ⟨bb, off, z, rfl, hlt, hz, hcell⟩ := hA2.out.at_ (j := 0) (by simp)
    have hz : bs u.enc = z := Option.some.inj hz
    subst hz
    rw [Nat.add_zero] at hcell
    simp only [List.length_cons, List.length_nil, Nat.zero_add, Nat.reduceAdd] at d4 ⊢
    have cu := Lib.hid cu
    clear cK hko hka hA2 hn1 hk3
    go_wp2_with (go_at_call 45; refine (cu.out _).mono ?_; rintro r w1 ⟨rfl, rfl⟩)
    go_ret
    exact ⟨rfl, hBh.out⟩
  · obtain ⟨rfl, rfl, rfl, hs1, hs2, hm⟩ := hk1
    obtain ⟨hk5, hsr⟩ := hka.2.1 rfl
    have cK2 := Lib.hid (fun u (hu : u ∈ args) W => (show Calls Tryd.prog 45 #[.string (bs u.enc)] W fun r w' => r = .returned (.int .i64 2) ∧ W = w' from by have := cK u hu W; rwa [hk5 u hu] at this))
    have hless : ∀ (j : Nat) u v, args[j + 1]? = some u → args[j]? = some v → Op.bytesLess (bs u.enc).toList (bs v.enc).toList = false := by
      intro j u v hu hv
      have mu := List.mem_of_getElem? hu
      have mv := List.mem_of_getElem? hv
      rw [bs_toList, bs_toList, nonce_less (hko u mu) (hko v mv) (hk5 u mu) (hk5 v mv)]
      have h1 := List.getElem?_eq_some_iff.1 hu
      have h2 := List.getElem?_eq_some_iff.1 hv
      have := (List.pairwise_iff_getElem.1 hsr) j (j + 1) h2.1 h1.1 (by omega)
      rw [h1.2, h2.2] at this
      simp [this]
    have hless := Lib.hid hless
    have cT : ∀ W, Calls Tryd.prog 70 #[.string (bs s), .int .i64 2100] W fun r w' => r = .returned (.bool (decide (txtOk s 2100))) ∧ W = w' := fun W => rText_any s 2100 W (by omega)
    rw [decide_eq_true (show txtOk s 2100 from ⟨hs1, hs2⟩)] at cT
    have cT := Lib.hid cT
    have hwl := (Array.getElem?_eq_some_iff.1 hn1.out).1
    have hn2 := Lib.hid (fun W (hb : Below w1.heap.size w1 W) => (hb.block w.heap.size hwl).trans hn1.out)
    have hA3 := Lib.hid (fun W (hb : Below w1.heap.size w1 W) => hA2.out.keep hb)
    generalize hna : args.length = n at *
    have hna := Lib.hid hna
    clear cK hko hka hA2 hk5 hsr hn1 d1 d2 d3
    go_wp2_with fail
    go_loopw [3] (fun i wr => ∃ j : Nat, j ≤ n ∧ i = .int .i64 j ∧ Hid (Below w1.heap.size w1 wr)) (fun i _ => n - (intOf i).toNat)
    case atStart => exact ⟨0, by omega, rfl, Lib.hid (Below.refl _ _)⟩
    case round =>
      clear d0 d4
      obtain ⟨j, hj, rfl, hBr⟩ := hrel
      have hrow := hn2.out wr hBr.out
      have d4 : wr.cell? ⟨w.heap.size, 4, none⟩ = some (.slice A n c) := cell_of_row wr _ 4 _ _ _ hrow
      have d3 : wr.cell? ⟨w.heap.size, 3, none⟩ = some (.string (bs s)) := cell_of_row wr _ 3 _ _ _ hrow
      clear hrow
      by_cases hlt : j < n
      · obtain ⟨bb, off, z, rfl, hltb, hz, hcell⟩ := (hA3.out wr hBr.out).at_ hlt
        rw [List.getElem?_map] at hz
        obtain ⟨u, hu⟩ : ∃ u, args[j]? = some u := ⟨args[j]'(by have := hna.out; omega), List.getElem?_eq_getElem (by have := hna.out; omega)⟩
        rw [hu] at hz
        have hz : bs u.enc = z := Option.some.inj hz
        subst hz
        have cu := Lib.hid (cK2.out u (List.mem_of_getElem? hu))
        have i1 : (0 : Int) ≤ (j : Int) := by omega
        have i2 : (j : Int) < (n : Int) := by omega
        by_cases h0 : j = 0
        · subst h0
          rw [Nat.add_zero] at hcell
          clear hu
          go_upto_region 11 with fail
          go_quiet ((go_at_call 45; exact Calls.quiet_of_same ((cu.out _).mono (fun e w' h => ⟨h.1, h.2.symm⟩))))
          have hBq := Lib.hid (hBr.out.trans ((drewN_below (w := wr) nq).mono hBr.out.size))
          generalize wr.drewN nq = w5 at hBq ⊢
          clear d3 d4 hcell
          go_wp2_with fail
          go_roundw
          case rel => exact ⟨1, by omega, by go_num, hBq⟩
          case measure => simp [intOf]; omega
        · obtain ⟨m, rfl⟩ : ∃ m, j = m + 1 := ⟨j - 1, by omega⟩
          obtain ⟨bb2, off2, z2, e2, hltb2, hz2, hcell2⟩ := (hA3.out wr hBr.out).at_ (j := m) (by omega)
          injection e2 with e2
          injection e2 with e3 e4 _
          subst e3 e4
          rw [List.getElem?_map] at hz2
          obtain ⟨v, hv⟩ : ∃ v, args[m]? = some v := ⟨args[m]'(by have := hna.out; omega), List.getElem?_eq_getElem (by have := hna.out; omega)⟩
          rw [hv] at hz2
          have hz2 : bs v.enc = z2 := Option.some.inj hz2
          subst hz2
          have hls := hless.out m u v hu hv
          obtain ⟨J, hJ⟩ : ∃ J, J = m + 1 := ⟨_, rfl⟩
          rw [← hJ] at hcell hlt hj i1 i2 ⊢
          have g1 : (J : Int) - 1 = (m : Int) := by omega
          have g2 : IntKind.i64.wrap (m : Int) = (m : Int) := by rw [IntKind.wrap_i64]; omega
          have g3 : (0 : Int) ≤ (m : Int) := by omega
          have g4 : (m : Int) < (n : Int) := by omega
          have g5 : decide ((0 : Int) < (J : Int)) = true := decide_eq_true (by omega)
          have g6 : decide (0 < J) = true := decide_eq_true (by omega)
          have hJh := Lib.hid hJ
          clear hu hv h0 hJ
          go_upto_region 11 with fail
          go_quiet ((go_at_call 45; exact Calls.quiet_of_same ((cu.out _).mono (fun e w' h => ⟨h.1, h.2.symm⟩))))
          have hBq := Lib.hid (hBr.out.trans ((drewN_below (w := wr) nq).mono hBr.out.size))
          generalize wr.drewN nq = w5 at hBq ⊢
          clear d3 d4 hcell hcell2 hls g1 g2 g5 g6
          go_wp2_with fail
          go_roundw
          case rel => exact ⟨J + 1, by omega, by go_num, hBq⟩
          case measure => simp [intOf]; omega
      · go_wp2_with (go_at_call 70; refine (cT.out _).mono ?_; rintro r w6 ⟨rfl, rfl⟩)
        go_ret
        exact ⟨rfl, hBh.out.trans (hBr.out.mono hBh.out.size)⟩
  · obtain ⟨rfl, rfl, rfl, hs1, hs2, hm⟩ := hk1
    obtain ⟨u, v, rfl⟩ : ∃ u v, args = [u, v] := by
      match args, hm with
      | [u, v], _ => exact ⟨u, v, rfl⟩
    have hk3 := hka.2.2 rfl u rfl
    have cu := cK u (by simp)
    rw [hk3] at cu
    have cT : ∀ W, Calls Tryd.prog 70 #[.string (bs s), .int .i64 64] W fun r w' => r = .returned (.bool (decide (txtOk s 64))) ∧ W = w' := fun W => rText_any s 64 W (by omega)
    rw [decide_eq_true (show txtOk s 64 from ⟨hs1, hs2⟩)] at cT
    obtain ⟨bb, off, z, rfl, hlt, hz, hcell⟩ := hA2.out.at_ (j := 0) (by simp)
    have hz : bs u.enc = z := Option.some.inj hz
    subst hz
    rw [Nat.add_zero] at hcell
    simp only [List.length_cons, List.length_nil, Nat.zero_add, Nat.reduceAdd] at d4 ⊢
    have cu := Lib.hid cu
    have cT := Lib.hid cT
    clear cK hko hka hA2 hn1 hk3
    go_wp2_with (first
      | (go_at_call 70; refine (cT.out _).mono ?_; rintro r w1 ⟨rfl, rfl⟩)
      | (go_at_call 45; refine (cu.out _).mono ?_; rintro r w1 ⟨rfl, rfl⟩))
    go_ret
    exact ⟨rfl, hBh.out⟩
  · obtain ⟨rfl, -⟩ := hk1
    clear cK hko hka hA2 hn1
    go_wp2_with fail
    go_ret
    exact ⟨rfl, hBh.out⟩
  · obtain ⟨rfl, -⟩ := hk1
    clear cK hko hka hA2 hn1
    go_wp2_with fail
    go_ret
    exact ⟨rfl, hBh.out⟩
  · obtain ⟨rfl, -⟩ := hk1
    clear cK hko hka hA2 hn1
    go_wp2_with fail
    go_ret
    exact ⟨rfl, hBh.out⟩
  · obtain ⟨rfl, -⟩ := hk1
    clear cK hko hka hA2 hn1
    go_wp2_with fail
    go_ret
    exact ⟨rfl, hBh.out⟩
end

section
open Go

theorem inv_start {n : Nat} {P : Nat → Prop} (h : ∀ k, P (k + n)) : ∀ q, (Array.replicate n false).getD q true = true → P q := by
  intro q hq
  have hq : n ≤ q := by
    rcases Nat.lt_or_ge q n with h1 | h1
    · simp [Array.getD_eq_getD_getElem?, h1] at hq
    · exact h1
  obtain ⟨k, rfl⟩ : ∃ k, q = k + n := ⟨q - n, by omega⟩
  exact h k
theorem inv_none {n i : Nat} (h : i < n) : (Array.replicate n false).getD i true = false := by simp [Array.getD_eq_getD_getElem?, h]
theorem inv_not {n i : Nat} (h : i < n) : ¬ ((Array.replicate n false).getD i true = true) := by rw [inv_none h]; decide
theorem inv_step {P : Nat → Value → Prop} {L : Nat → Bool} {xs : List Value} {i : Nat} {x' : Value} (h : ∀ q, L q = true → P q (xs.getD q undef)) (hn : P i x') (hi : i < xs.length) :
    ∀ q, (q == i || L q) = true → P q ((xs.set i x').getD q undef) := by
  intro q hq
  by_cases e : q = i
  · subst e
    rw [List.getD_eq_getElem?_getD, List.getElem?_set_self hi]
    exact hn
  · have hL : L q = true := by simpa [e] using hq
    rw [List.getD_eq_getElem?_getD, List.getElem?_set_ne (Ne.symm e), ← List.getD_eq_getElem?_getD]
    exact h q hL
theorem inv_pass {P : Nat → Value → Prop} {L : Nat → Bool} {xs : List Value} {i : Nat} (h : ∀ q, L q = true → P q (xs.getD q undef)) (hn : ∀ x, P i x) : ∀ q, (q == i || L q) = true → P q (xs.getD q undef) := by
  intro q hq
  by_cases e : q = i
  · subst e; exact hn _
  · exact h q (by simpa [e] using hq)
end
end Go.Proofs.YtifliohljcafgaaDoor
