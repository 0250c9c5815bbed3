/- Arenas: View. -/
import Derived.Test.YtbeanjaenmpoeaaDoorTmQ
import Derived.Test.YtbeanjaenmpoeaaDoorRes
namespace Go.Proofs.YtbeanjaenmpoeaaDoor
open Go.RowKit Go.Maps

def zNd : List Value := [.int .i64 0, .int .i64 0, .int .i64 0, .string ⟨#[]⟩, .slice none 0 0]
theorem zNd_one : zNd.toArray.all (·.oneCell') = true := by simp [zNd, Value.oneCell']
theorem nd_all {k a b : Nat} {s : List UInt8} {A : Option Addr} {n c : Nat} : (ndC k a b s (.slice A n c)).toArray.all (·.oneCell') = true := by simp [ndC, Value.oneCell']
theorem hsetRow_off {w : World} {g k : Nat} (h : k ≠ g) (cs : Array Value) : (w.setRow g cs).heap[k]? = w.heap[k]? := by
  simp only [World.setRow, Array.getElem?_modify, if_neg (Ne.symm h)]
theorem view_none (A : Ar) (B : Nat) (w : World) (H : Arena w B A) (x : Int) (hg : get A.L x = none) :
    Calls Tryd.prog 28 #[.pointer (some ⟨A.g, 0, none⟩), .int .i64 x] w fun r w' => r = .returned (.tuple #[.agg zNd.toArray, .bool false]) ∧ Below w.heap.size w w' := by
  have hB1 := below_new w (.cells zNd.toArray 59)
  have cH := has_any A B x _ (H.keep hB1)
  rw [show hasB A x = false by unfold hasB; rw [hg]; rfl] at cH
  have cH := Lib.hid cH
  have hz1 := Lib.hid (heap_new w (.cells zNd.toArray 59))
  have hB1 := Lib.hid hB1
  clear H hg
  go_enter Tryd.func28, Tryd.ntmps28
  go_wp2_with (first
    | (go_at_call 46; refine cH.out.mono ?_; rintro r w1 ⟨rfl, rfl⟩)
    | (refine wpList_store_at 59 _ _ rfl rfl w.heap.size zNd.toArray rfl rfl 59 zNd.toArray hz1.out (by kernel_rfl) rfl zNd_one ?_))
  refine bodyPost_ret (resV2 rfl _ _ w.heap.size 59 zNd.toArray (0, 0) _ _ rfl (hsetRow _ _ _ _ _ _ hz1.out) Tryd.underlying59 rfl (by kernel_rfl) rfl) rfl ⟨rfl, below_setRow hB1.out (Nat.le_refl _) _⟩
set_option maxRecDepth 100000 in
set_option maxHeartbeats 2000000 in
theorem view_some (A : Ar) (B : Nat) (w : World) (H : Arena w B A) (x : Int) (t : Tm) (hg : get A.L x = some t) :
    Calls Tryd.prog 28 #[.pointer (some ⟨A.g, 0, none⟩), .int .i64 x] w fun r w' => ∃ (Av : Option Addr) (c : Nat) (xs : List Nat), r = .returned (.tuple #[.agg (ndC t.kind t.a t.b t.s (.slice Av t.args.length c)).toArray, .bool true]) ∧ Rws w' 1 Av t.args.length (xs.map idv) ∧ xs.map (fun i => A.L[i]?) = t.args.map some ∧ Below w.heap.size w w' := by
  obtain ⟨j, rfl, hj⟩ := get_some hg
  obtain ⟨nd, hnd, rfl⟩ := Ar.N_at hj
  obtain ⟨Ai, ci, ev, hI, _⟩ := H.ids nd (List.mem_of_getElem? hnd)
  have hargs := Lib.hid (H.args nd (List.mem_of_getElem? hnd))
  have hxl : nd.xs.length = nd.t.args.length := by have := congrArg List.length hargs.out; simpa using this
  have hfew := H.few
  have ha8 : nd.t.args.length ≤ 1000000 := by
    have hok := H.good.ok nd.t (List.mem_of_getElem? (Ar.L_at hnd))
    generalize nd.t = t at hok
    obtain ⟨k, a, b, s, args⟩ := t
    rw [ok_mk] at hok
    have := hok.1
    unfold okHd at this
    simp only [Tm.args]
    omega
  have hB1 := below_new w (.cells zNd.toArray 59)
  have cH := has_any A B j _ (H.keep hB1)
  rw [show hasB A j = true by unfold hasB; rw [hg]; rfl] at cH
  have cH := Lib.hid cH
  have H1 := H.keep hB1
  obtain ⟨An, cn, As, cs, e1, e2, c0, c1, c2, h1, h2⟩ := H1.open_
  obtain ⟨b, off, cn', ev2, hb, hr, hjl⟩ := H1.node hnd
  rw [e1] at ev2
  injection ev2 with ev2 _ _
  subst ev2
  rw [hxl] at hI ev
  obtain ⟨k, a, b', s, v, hrow⟩ : ∃ (k a b' : Nat) (s : List UInt8) (v : Value), k = nd.t.kind ∧ a = nd.t.a ∧ b' = nd.t.b ∧ s = nd.t.s ∧ v = nd.v := ⟨_, _, _, _, _, rfl, rfl, rfl, rfl, rfl⟩
  have hrr : (w.alloc (.cells zNd.toArray 59)).rangeAt b (off + j * 5) (ndC k a b' s v) := by
    obtain ⟨rfl, rfl, rfl, rfl, rfl⟩ := hrow
    exact hr
  obtain ⟨e3, e4, e5, e6, e7⟩ := hrow
  rw [← e7] at ev
  rw [← e3, ← e4, ← e5, ← e6]
  generalize hn : nd.t.args.length = n at *
  clear c1 c2 h1 h2 e1 e2 e3 e4 e5 e6 e7 hr H H1 hg hj hn
  have hBz := hB1.trans (Below.mono (below_new (w.alloc (.cells zNd.toArray 59)) (.cells #[.int .i64 0, .int .i64 0, .int .i64 0, .string ⟨#[]⟩, .slice none 0 0] 59)) hB1.size)
  have hzz := heap_past (heap_new w (.cells zNd.toArray 59)) (.cells #[.int .i64 0, .int .i64 0, .int .i64 0, .string ⟨#[]⟩, .slice none 0 0] 59)
  have hnz := heap_new (w.alloc (.cells zNd.toArray 59)) (.cells #[.int .i64 0, .int .i64 0, .int .i64 0, .string ⟨#[]⟩, .slice none 0 0] 59)
  rw [show (w.alloc (.cells zNd.toArray 59)).heap.size = w.heap.size + 1 by simp] at hnz
  have hnz1 := Lib.hid hnz
  have hB2 := below_setRow hBz (Nat.le_succ _) (g := w.heap.size + 1) (ndC k a b' s v).toArray
  have hn2 := hsetRow _ _ _ (ndC k a b' s v).toArray _ _ hnz
  have hz2 := (hsetRow_off (w := (w.alloc (.cells zNd.toArray 59)).alloc (.cells #[.int .i64 0, .int .i64 0, .int .i64 0, .string ⟨#[]⟩, .slice none 0 0] 59)) (g := w.heap.size + 1) (k := w.heap.size) (by omega) (ndC k a b' s v).toArray).trans hzz
  have cC := Lib.hid (cloneI_any nd.xs Ai n ci _ hxl ha8 (hI.keep hB2))
  have hn2 := Lib.hid hn2
  have hz2 := Lib.hid hz2
  have hB2 := Lib.hid hB2
  have hrr1 := Lib.hid hrr
  clear hBz hzz hnz hB1 hI
  subst ev
  go_enter Tryd.func28, Tryd.ntmps28
  go_upto_region 4 with (first
    | (go_at_call 46; refine cH.out.mono ?_; rintro r w1 ⟨rfl, rfl⟩)
    | (refine wpList_load_at 59 _ rfl rfl b (off + j * 5) rfl (ndC k a b' s (.slice Ai n ci)) _ hrr1.out Tryd.underlying59 rfl (by kernel_rfl) ?_)
    | (refine wpList_store_at 59 _ _ rfl rfl (w.heap.size + 1) (ndC k a b' s (.slice Ai n ci)).toArray rfl rfl 59 zNd.toArray hnz1.out (by kernel_rfl) rfl nd_all ?_))
  generalize ((w.alloc (.cells zNd.toArray 59)).alloc (.cells #[.int .i64 0, .int .i64 0, .int .i64 0, .string ⟨#[]⟩, .slice none 0 0] 59)).setRow (w.heap.size + 1) (ndC k a b' s (.slice Ai n ci)).toArray = W2 at *
  clear c0 hb hjl hrr cH hnz1
  have hc4 : W2.cell? ⟨w.heap.size + 1, 4, none⟩ = some (.slice Ai n ci) := cell_of_row W2 (w.heap.size + 1) 4 _ _ _ hn2.out
  go_upto_region 5 with fail
  refine cC.out.mono ?_
  rintro r W3 ⟨v5, rfl, hO5, hb5⟩
  have hl2 := (Array.getElem?_eq_some_iff.1 hn2.out).1
  have hl1 := (Array.getElem?_eq_some_iff.1 hz2.out).1
  have hn3 := (hb5.block (w.heap.size + 1) hl2).trans hn2.out
  have hz3 := (hb5.block w.heap.size hl1).trans hz2.out
  have hB3 := hB2.out.trans (hb5.mono hB2.out.size)
  have hfz := frozen_of_row W3 (w.heap.size + 1) 4 _ _ hn3
  have hcc : W3.cell? ⟨w.heap.size + 1, 4, none⟩ = some (.slice Ai n ci) := cell_of_row W3 (w.heap.size + 1) 4 _ _ _ hn3
  obtain ⟨A5, c5, e5, _⟩ := hO5.rws
  rw [List.length_map, hxl] at e5
  subst e5
  have hB4 := Lib.hid (hB3.setCell (p := ⟨w.heap.size + 1, 4, none⟩) (Nat.le_succ _) (.slice A5 n c5))
  have hn4 : (W3.setCell ⟨w.heap.size + 1, 4, none⟩ (.slice A5 n c5)).heap[w.heap.size + 1]? = some (.cells (ndC k a b' s (.slice A5 n c5)).toArray 59 (0, 0)) := by
    rw [heap_setCell_same W3 (w.heap.size + 1) 4 _ _ _ hn3]; rfl
  have hz4 := Lib.hid ((heap_setCell_other W3 ⟨w.heap.size + 1, 4, none⟩ w.heap.size (.slice A5 n c5) (by simp)).trans hz3)
  have hr4 := Lib.hid (rangeAt_list hn4)
  have hO4 := Lib.hid (hO5.keepF (F := fun q => some (w.heap.size + 1) = some q) (Keeps.of_grown (grown_set W3 ⟨w.heap.size + 1, 4, none⟩ (.slice A5 n c5)) fun q hq => hq) (fun q hq hf => by have := hO5.1.lt q hq; have := Option.some.inj hf; omega))
  clear hn3 hz3 hB3 hO5 hn4 hc4 hb5
  go_upto_region 5 with fail
  generalize W3.setCell ⟨w.heap.size + 1, 4, none⟩ (.slice A5 n c5) = W4 at *
  have hO6 := Lib.hid (hO4.out.keepF (w' := W4.setRow w.heap.size (ndC k a b' s (.slice A5 n c5)).toArray) (F := fun q => q = w.heap.size) ⟨rfl, rfl, rfl, by simp [World.setRow], fun q _ hq => hsetRow_off hq _⟩ (fun q hq hf => by have := hO4.out.1.lt q hq; omega))
  go_wp2_with (first
    | (refine wpList_load_at 59 _ rfl rfl (w.heap.size + 1) 0 rfl (ndC k a b' s (.slice A5 n c5)) _ hr4.out Tryd.underlying59 rfl (by kernel_rfl) ?_)
    | (refine wpList_store_at 59 _ _ rfl rfl w.heap.size (ndC k a b' s (.slice A5 n c5)).toArray rfl rfl 59 zNd.toArray hz4.out (by kernel_rfl) rfl nd_all ?_))
  obtain ⟨A7, c7, e7, hR7⟩ := hO6.out.rws
  rw [List.length_map, hxl] at e7 hR7
  injection e7 with e7 _ e8
  subst e7
  refine bodyPost_ret (resV2 rfl _ _ w.heap.size 59 (ndC k a b' s (.slice A5 n c5)).toArray (0, 0) _ _ rfl (hsetRow _ _ _ _ _ _ hz4.out) Tryd.underlying59 rfl (by kernel_rfl) rfl) rfl ⟨A5, c5, nd.xs, rfl, hR7, hargs.out, below_setRow hB4.out (Nat.le_refl _) _⟩
end Go.Proofs.YtbeanjaenmpoeaaDoor
