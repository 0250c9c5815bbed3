/- A struct's block: what a store leaves of it; the reference's name. (printed by wip/gen_slu.py) -/
import Derived.Test.YtmicohmbmgbnkaaGreatDoorVb28
import Derived.Test.YtmicohmbmgbnkaaGreatDoorVb31
import Derived.Deep.MidRow
import Derived.Test.YtmicohmbmgbnkaaGreatDoorVb9
namespace Go.Proofs.YtmicohmbmgbnkaaGreatDoor
open Go Go.RowKit Go.Shelf
open Go.Lib (itoa)
def Row (W : World) (b : Nat) (t : TypeId) (cs : List Value) : Prop:=W.heap[b]? =some (.cells cs.toArray t (0,0))
theorem Row.lt {W : World} {b : Nat} {t : TypeId} {cs : List Value} (h : Row W b t cs) : b < W.heap.size:=(Array.getElem?_eq_some_iff.1 h).1
theorem Row.keep {W W' : World} {b : Nat} {t : TypeId} {cs : List Value} (h : Row W b t cs) (hb : Below W.heap.size W W') : Row W' b t cs:=(hb.block b h.lt).trans h
theorem Row.cell {W : World} {b off : Nat} {t : TypeId} {cs : List Value} {v : Value} (h : Row W b t cs) (hv : cs[off]? =some v) : W.cell? ⟨b,off,none⟩=some v:=(cell_of_row W b off _ _ _ h).trans (by simpa using hv)
theorem Row.froz {W : World} {b : Nat} {t : TypeId} {cs : List Value} (h : Row W b t cs) (off : Nat) : W.frozen? ⟨b,off,none⟩=false:=frozen_of_row W b off _ _ h
theorem Row.range {W : World} {b : Nat} {t : TypeId} {cs : List Value} (h : Row W b t cs) : W.rangeAt b 0 cs:=rangeAt_list h
theorem Row.mid {W : World} {b off : Nat} {t : TypeId} {cs fs : List Value} (h : Row W b t cs) (hf : ∀(j : Nat) x,fs[j]? =some x→cs[off + j]? =some x) : W.rangeAt b off fs:=fun j x hx=>h.cell (hf j x hx)
theorem Row.set {W : World} {b off : Nat} {t : TypeId} {cs : List Value} (h : Row W b t cs) (v : Value) : Row (W.setCell ⟨b,off,none⟩ v) b t (cs.set off v):=by
 have:=heap_setCell_same W b off _ _ v h
 rw [set_arr] at this
 exact this
theorem Row.other {W : World} {b b2 off : Nat} {t : TypeId} {cs : List Value} (h : Row W b t cs) (hn : b≠b2) (v : Value) : Row (W.setCell ⟨b2,off,none⟩ v) b t cs:=(heap_setCell_other W ⟨b2,off,none⟩ b v hn).trans h
theorem Row.sets {b : Nat} {t : TypeId} : ∀(vs : List Value) {W : World} {off : Nat} {cs : List Value},Row W b t cs→Row (W.setCells b off vs) b t (setAt cs off vs)
 | [],_,_,_,h=>h
 | v :: r,W,off,cs,h=>Row.sets r (h.set v)
theorem Row.others {b b2 : Nat} {t : TypeId} (hn : b≠b2) : ∀(vs : List Value) {W : World} {off : Nat} {cs : List Value},Row W b t cs→Row (W.setCells b2 off vs) b t cs
 | [],_,_,_,h=>h
 | v :: r,W,off,cs,h=>Row.others hn r (h.other hn v)
theorem Row.setRow {W : World} {b : Nat} {t : TypeId} {cs : List Value} (h : Row W b t cs) (ds : List Value) : Row (W.setRow b ds.toArray) b t ds:=hsetRow W b _ _ _ _ h
theorem Row.setRow_other {W : World} {b b2 : Nat} {t : TypeId} {cs : List Value} (h : Row W b t cs) (hn : b≠b2) (ds : Array Value) : Row (W.setRow b2 ds) b t cs:=(hsetRow_off hn ds).trans h
theorem below_setCells {n b : Nat} (hb : n≤b) : ∀(vs : List Value) {W W' : World} {off : Nat},Below n W W'→Below n W (W'.setCells b off vs)
 | [],_,_,_,h=>h
 | v :: r,W,W',off,h=>below_setCells hb r (h.setCell (p:=⟨b,off,none⟩) hb v)
theorem Row.there {W : World} {b : Nat} {t : TypeId} {cs : List Value} (h : Row W b t cs) {off n : Nat} (hn : off + n≤cs.length) : W.there b off n:=fun j hj=>by
 have hl : off + j < cs.length:=by omega
 rw [h.cell (List.getElem?_eq_getElem hl)]
 exact ⟨rfl,h.froz _⟩
theorem setAt_get (z cs : List Value) (off i : Nat) (hl : off + z.length≤cs.length) : (setAt cs off z)[i]? =if off≤i∧i < off + z.length then z[i - off]? else cs[i]? :=by
 by_cases h : off≤i∧i < off + z.length
 · rw [if_pos h]
   obtain ⟨v,hv⟩ : ∃v,z[i - off]? =some v:=⟨_,List.getElem?_eq_getElem (by omega)⟩
   have:=setAt_at z cs off (i - off) v hl hv
   rw [show off + (i - off)=i by omega] at this
   rw [this,hv]
 · rw [if_neg h]
   exact setAt_off z cs off i (by omega)
theorem fold_x {cs z : List Value} {off : Nat} (hl : cs.length=29) (hz : off + z.length≤29) (ho : off + z.length≤2∨25≤off) : setAt (setAt cs off z) 2 ((cs.drop 2).take 23)=setAt cs off z:=by
 refine List.ext_getElem? fun i=> ?_
 have hfl : ((cs.drop 2).take 23).length=23:=by rw [List.length_take,List.length_drop];omega
 rw [setAt_get _ _ _ _ (by rw [setAt_len,hfl,hl];decide),hfl]
 by_cases h : 2≤i∧i < 2 + 23
 · rw [if_pos h,List.getElem?_take,if_pos (by omega),List.getElem?_drop,setAt_get _ _ _ _ (by omega),if_neg (by omega),show 2 + (i - 2)=i by omega]
 · rw [if_neg h]
theorem fold_c {cs z : List Value} {off o2 : Nat} (hl : cs.length=29) (ho : off=2 + o2) (hz : o2 + z.length≤23) : setAt cs 2 (setAt ((cs.drop 2).take 23) o2 z)=setAt cs off z:=by
 refine List.ext_getElem? fun i=> ?_
 have hfl : ((cs.drop 2).take 23).length=23:=by rw [List.length_take,List.length_drop];omega
 rw [setAt_get (setAt ((cs.drop 2).take 23) o2 z) cs 2 i (by rw [setAt_len,hfl,hl];decide),setAt_len,hfl,setAt_get z cs off i (by rw [hl];omega)]
 by_cases h : 2≤i∧i < 2 + 23
 · rw [if_pos h,setAt_get z _ o2 _ (by rw [hfl];omega)]
   by_cases h2 : off≤i∧i < off + z.length
   · rw [if_pos h2,if_pos (by omega),show i - 2 - o2=i - off by omega]
   · rw [if_neg h2,if_neg (by omega),List.getElem?_take,if_pos (by omega),List.getElem?_drop,show 2 + (i - 2)=i by omega]
 · rw [if_neg h,if_neg (by omega)]
theorem cf_in9 (fs : List Value) (h : fs.length=23) : (Tryz.prog.info? 41).map (·.size)=some fs.length:=by rw [h];kernel_rfl
theorem cf_in9' (fs : List Value) (h : fs.length=23) : (Tryz.prog.info? 41).map (·.size)=some fs.toArray.size:=by rw [List.size_toArray];exact cf_in9 fs h
theorem st_in9 (fs : List Value) (h : fs.length=29) : (Tryz.prog.info? 44).map (·.size)=some fs.length:=by rw [h];kernel_rfl
theorem st_in9' (fs : List Value) (h : fs.length=29) : (Tryz.prog.info? 44).map (·.size)=some fs.toArray.size:=by rw [List.size_toArray];exact st_in9 fs h
theorem cf_old (fs : List Value) (h : fs.length=23) : cfZ.size=fs.toArray.size:=by rw [show fs.toArray.size=fs.length from List.size_toArray,h];rfl
theorem st_old (fs : List Value) (h : fs.length=29) : (stZ 0).toArray.size=fs.toArray.size:=by rw [List.size_toArray,List.size_toArray,h];rfl
theorem one_arr {l : List Value} (h : ∀x∈l,x.oneCell' =true) : l.toArray.all (·.oneCell')=true:=by rw [List.all_toArray];exact List.all_eq_true.2 h
theorem one_list {l : List Value} (h : l.toArray.all (·.oneCell')=true) : ∀x∈l,x.oneCell' =true:=by rw [List.all_toArray] at h;exact List.all_eq_true.1 h
theorem set_one {l : List Value} {v : Value} {i : Nat} (h : ∀x∈l,x.oneCell' =true) (hv : v.oneCell' =true) : ∀x∈l.set i v,x.oneCell' =true:=fun x hx=>by
 rcases List.mem_or_eq_of_mem_set hx with hx | rfl
 · exact h x hx
 · exact hv
set_option maxRecDepth 100000 in
set_option maxHeartbeats 2000000 in
theorem name_0 (fs : List Value) (A : Option Addr) (n c : Nat) (w : World) (hl : fs.length=23) (h1 : ∀x∈fs,x.oneCell' =true) :
 Calls Tryz.prog 84 #[.agg fs.toArray,.int .i64 0,.slice A n c] w fun r w'=>r= .returned (.agg (fs.set 3 (.slice A n c)).toArray)∧Below w.heap.size w w':=by
 obtain ⟨W2,hW2⟩ : ∃x,(w.alloc (.cells fs.toArray 41)).alloc (.cells cfZ 41)=x:=⟨_,rfl⟩
 have hB1:=below_new w (.cells fs.toArray 41)
 have hB:=hB1.trans ((below_new (w.alloc (.cells fs.toArray 41)) (.cells cfZ 41)).mono hB1.size)
 have hR : Row ((w.alloc (.cells fs.toArray 41)).alloc (.cells cfZ 41)) w.heap.size 41 fs:=Row.keep (heap_new w _) (below_new _ _)
 have hz:=heap_new (w.alloc (.cells fs.toArray 41)) (.cells cfZ 41)
 simp only [World.size_alloc] at hz
 rw [hW2] at hB hR hz
 have hlt:=hR.lt
 obtain ⟨old,hold⟩ : ∃v,fs[3]? =some v:=⟨fs[3]'(by omega),List.getElem?_eq_getElem _⟩
 have hc:=hR.cell hold
 have hf:=hR.froz 3
 have hR2:=Lib.hid (hR.set (off:=3) (.slice A n c)).range
 have hz2 : (W2.setCell ⟨w.heap.size,3,none⟩ (.slice A n c)).heap[w.heap.size + 1]? =some (.cells cfZ 41):=(heap_setCell_other W2 ⟨w.heap.size,3,none⟩ (w.heap.size + 1) _ (by show w.heap.size + 1≠w.heap.size;omega)).trans hz
 have hz2:=Lib.hid hz2
 have hB2:=Lib.hid (hB.setCell (p:=⟨w.heap.size,3,none⟩) (Nat.le_refl _) (.slice A n c))
 have hls : (fs.set 3 (.slice A n c)).length=23:=by rw [List.length_set,hl]
 have hone:=one_arr (set_one (i:=3) (v:= .slice A n c) h1 rfl)
 have hi:=cf_in9 _ hls
 have hi':=cf_in9' _ hls
 have ho:=cf_old _ hls
 clear hB1 hR hold hz h1 hl
 go_enter Tryz.func84,Tryz.ntmps84
 go_upto_region 1 with (first
  | (refine wpList_box_row 41 _ rfl rfl fs.toArray rfl ?_)
  | (refine wpList_alloc_row 41 rfl rfl cfZ cf_zero ?_;try simp only [World.size_alloc]))
 rw [hW2]
 clear hW2
 go_upto_region 20 with fail
 generalize W2.setCell ⟨w.heap.size,3,none⟩ (.slice A n c)=W3 at *
 generalize hgs : fs.set 3 (.slice A n c)=gs at *
 replace hgs:=Lib.hid hgs
 clear hc hf hB
 go_wp2_with (first
  | (refine wpList_load_at 41 _ rfl rfl w.heap.size 0 rfl gs _ hR2.out Tryz.underlying41 rfl hi ?_)
  | (refine wpList_store_at 41 _ _ rfl rfl (w.heap.size + 1) gs.toArray rfl rfl 41 cfZ hz2.out hi' ho hone ?_))
 refine bodyPost_ret (results_cell_row rfl _ _ (w.heap.size + 1) 41 gs.toArray (0,0) _ rfl (hsetRow _ _ _ _ _ _ hz2.out) Tryz.underlying41 rfl hi') rfl ⟨by rw [hgs.out],below_setRow hB2.out (Nat.le_succ _) _⟩
set_option maxRecDepth 100000 in
set_option maxHeartbeats 2000000 in
theorem name_1 (fs : List Value) (A : Option Addr) (n c : Nat) (w : World) (hl : fs.length=23) (h1 : ∀x∈fs,x.oneCell' =true) :
 Calls Tryz.prog 84 #[.agg fs.toArray,.int .i64 1,.slice A n c] w fun r w'=>r= .returned (.agg (fs.set 4 (.slice A n c)).toArray)∧Below w.heap.size w w':=by
 obtain ⟨W2,hW2⟩ : ∃x,(w.alloc (.cells fs.toArray 41)).alloc (.cells cfZ 41)=x:=⟨_,rfl⟩
 have hB1:=below_new w (.cells fs.toArray 41)
 have hB:=hB1.trans ((below_new (w.alloc (.cells fs.toArray 41)) (.cells cfZ 41)).mono hB1.size)
 have hR : Row ((w.alloc (.cells fs.toArray 41)).alloc (.cells cfZ 41)) w.heap.size 41 fs:=Row.keep (heap_new w _) (below_new _ _)
 have hz:=heap_new (w.alloc (.cells fs.toArray 41)) (.cells cfZ 41)
 simp only [World.size_alloc] at hz
 rw [hW2] at hB hR hz
 have hlt:=hR.lt
 obtain ⟨old,hold⟩ : ∃v,fs[4]? =some v:=⟨fs[4]'(by omega),List.getElem?_eq_getElem _⟩
 have hc:=hR.cell hold
 have hf:=hR.froz 4
 have hR2:=Lib.hid (hR.set (off:=4) (.slice A n c)).range
 have hz2 : (W2.setCell ⟨w.heap.size,4,none⟩ (.slice A n c)).heap[w.heap.size + 1]? =some (.cells cfZ 41):=(heap_setCell_other W2 ⟨w.heap.size,4,none⟩ (w.heap.size + 1) _ (by show w.heap.size + 1≠w.heap.size;omega)).trans hz
 have hz2:=Lib.hid hz2
 have hB2:=Lib.hid (hB.setCell (p:=⟨w.heap.size,4,none⟩) (Nat.le_refl _) (.slice A n c))
 have hls : (fs.set 4 (.slice A n c)).length=23:=by rw [List.length_set,hl]
 have hone:=one_arr (set_one (i:=4) (v:= .slice A n c) h1 rfl)
 have hi:=cf_in9 _ hls
 have hi':=cf_in9' _ hls
 have ho:=cf_old _ hls
 clear hB1 hR hold hz h1 hl
 go_enter Tryz.func84,Tryz.ntmps84
 go_upto_region 1 with (first
  | (refine wpList_box_row 41 _ rfl rfl fs.toArray rfl ?_)
  | (refine wpList_alloc_row 41 rfl rfl cfZ cf_zero ?_;try simp only [World.size_alloc]))
 rw [hW2]
 clear hW2
 go_upto_region 20 with fail
 generalize W2.setCell ⟨w.heap.size,4,none⟩ (.slice A n c)=W3 at *
 generalize hgs : fs.set 4 (.slice A n c)=gs at *
 replace hgs:=Lib.hid hgs
 clear hc hf hB
 go_wp2_with (first
  | (refine wpList_load_at 41 _ rfl rfl w.heap.size 0 rfl gs _ hR2.out Tryz.underlying41 rfl hi ?_)
  | (refine wpList_store_at 41 _ _ rfl rfl (w.heap.size + 1) gs.toArray rfl rfl 41 cfZ hz2.out hi' ho hone ?_))
 refine bodyPost_ret (results_cell_row rfl _ _ (w.heap.size + 1) 41 gs.toArray (0,0) _ rfl (hsetRow _ _ _ _ _ _ hz2.out) Tryz.underlying41 rfl hi') rfl ⟨by rw [hgs.out],below_setRow hB2.out (Nat.le_succ _) _⟩
set_option maxRecDepth 100000 in
set_option maxHeartbeats 2000000 in
theorem name_2 (fs : List Value) (A : Option Addr) (n c : Nat) (w : World) (hl : fs.length=23) (h1 : ∀x∈fs,x.oneCell' =true) :
 Calls Tryz.prog 84 #[.agg fs.toArray,.int .i64 2,.slice A n c] w fun r w'=>r= .returned (.agg (fs.set 5 (.slice A n c)).toArray)∧Below w.heap.size w w':=by
 obtain ⟨W2,hW2⟩ : ∃x,(w.alloc (.cells fs.toArray 41)).alloc (.cells cfZ 41)=x:=⟨_,rfl⟩
 have hB1:=below_new w (.cells fs.toArray 41)
 have hB:=hB1.trans ((below_new (w.alloc (.cells fs.toArray 41)) (.cells cfZ 41)).mono hB1.size)
 have hR : Row ((w.alloc (.cells fs.toArray 41)).alloc (.cells cfZ 41)) w.heap.size 41 fs:=Row.keep (heap_new w _) (below_new _ _)
 have hz:=heap_new (w.alloc (.cells fs.toArray 41)) (.cells cfZ 41)
 simp only [World.size_alloc] at hz
 rw [hW2] at hB hR hz
 have hlt:=hR.lt
 obtain ⟨old,hold⟩ : ∃v,fs[5]? =some v:=⟨fs[5]'(by omega),List.getElem?_eq_getElem _⟩
 have hc:=hR.cell hold
 have hf:=hR.froz 5
 have hR2:=Lib.hid (hR.set (off:=5) (.slice A n c)).range
 have hz2 : (W2.setCell ⟨w.heap.size,5,none⟩ (.slice A n c)).heap[w.heap.size + 1]? =some (.cells cfZ 41):=(heap_setCell_other W2 ⟨w.heap.size,5,none⟩ (w.heap.size + 1) _ (by show w.heap.size + 1≠w.heap.size;omega)).trans hz
 have hz2:=Lib.hid hz2
 have hB2:=Lib.hid (hB.setCell (p:=⟨w.heap.size,5,none⟩) (Nat.le_refl _) (.slice A n c))
 have hls : (fs.set 5 (.slice A n c)).length=23:=by rw [List.length_set,hl]
 have hone:=one_arr (set_one (i:=5) (v:= .slice A n c) h1 rfl)
 have hi:=cf_in9 _ hls
 have hi':=cf_in9' _ hls
 have ho:=cf_old _ hls
 clear hB1 hR hold hz h1 hl
 go_enter Tryz.func84,Tryz.ntmps84
 go_upto_region 1 with (first
  | (refine wpList_box_row 41 _ rfl rfl fs.toArray rfl ?_)
  | (refine wpList_alloc_row 41 rfl rfl cfZ cf_zero ?_;try simp only [World.size_alloc]))
 rw [hW2]
 clear hW2
 go_upto_region 20 with fail
 generalize W2.setCell ⟨w.heap.size,5,none⟩ (.slice A n c)=W3 at *
 generalize hgs : fs.set 5 (.slice A n c)=gs at *
 replace hgs:=Lib.hid hgs
 clear hc hf hB
 go_wp2_with (first
  | (refine wpList_load_at 41 _ rfl rfl w.heap.size 0 rfl gs _ hR2.out Tryz.underlying41 rfl hi ?_)
  | (refine wpList_store_at 41 _ _ rfl rfl (w.heap.size + 1) gs.toArray rfl rfl 41 cfZ hz2.out hi' ho hone ?_))
 refine bodyPost_ret (results_cell_row rfl _ _ (w.heap.size + 1) 41 gs.toArray (0,0) _ rfl (hsetRow _ _ _ _ _ _ hz2.out) Tryz.underlying41 rfl hi') rfl ⟨by rw [hgs.out],below_setRow hB2.out (Nat.le_succ _) _⟩
set_option maxRecDepth 100000 in
set_option maxHeartbeats 2000000 in
theorem name_3 (fs : List Value) (A : Option Addr) (n c : Nat) (w : World) (hl : fs.length=23) (h1 : ∀x∈fs,x.oneCell' =true) :
 Calls Tryz.prog 84 #[.agg fs.toArray,.int .i64 3,.slice A n c] w fun r w'=>r= .returned (.agg (fs.set 6 (.slice A n c)).toArray)∧Below w.heap.size w w':=by
 obtain ⟨W2,hW2⟩ : ∃x,(w.alloc (.cells fs.toArray 41)).alloc (.cells cfZ 41)=x:=⟨_,rfl⟩
 have hB1:=below_new w (.cells fs.toArray 41)
 have hB:=hB1.trans ((below_new (w.alloc (.cells fs.toArray 41)) (.cells cfZ 41)).mono hB1.size)
 have hR : Row ((w.alloc (.cells fs.toArray 41)).alloc (.cells cfZ 41)) w.heap.size 41 fs:=Row.keep (heap_new w _) (below_new _ _)
 have hz:=heap_new (w.alloc (.cells fs.toArray 41)) (.cells cfZ 41)
 simp only [World.size_alloc] at hz
 rw [hW2] at hB hR hz
 have hlt:=hR.lt
 obtain ⟨old,hold⟩ : ∃v,fs[6]? =some v:=⟨fs[6]'(by omega),List.getElem?_eq_getElem _⟩
 have hc:=hR.cell hold
 have hf:=hR.froz 6
 have hR2:=Lib.hid (hR.set (off:=6) (.slice A n c)).range
 have hz2 : (W2.setCell ⟨w.heap.size,6,none⟩ (.slice A n c)).heap[w.heap.size + 1]? =some (.cells cfZ 41):=(heap_setCell_other W2 ⟨w.heap.size,6,none⟩ (w.heap.size + 1) _ (by show w.heap.size + 1≠w.heap.size;omega)).trans hz
 have hz2:=Lib.hid hz2
 have hB2:=Lib.hid (hB.setCell (p:=⟨w.heap.size,6,none⟩) (Nat.le_refl _) (.slice A n c))
 have hls : (fs.set 6 (.slice A n c)).length=23:=by rw [List.length_set,hl]
 have hone:=one_arr (set_one (i:=6) (v:= .slice A n c) h1 rfl)
 have hi:=cf_in9 _ hls
 have hi':=cf_in9' _ hls
 have ho:=cf_old _ hls
 clear hB1 hR hold hz h1 hl
 go_enter Tryz.func84,Tryz.ntmps84
 go_upto_region 1 with (first
  | (refine wpList_box_row 41 _ rfl rfl fs.toArray rfl ?_)
  | (refine wpList_alloc_row 41 rfl rfl cfZ cf_zero ?_;try simp only [World.size_alloc]))
 rw [hW2]
 clear hW2
 go_upto_region 20 with fail
 generalize W2.setCell ⟨w.heap.size,6,none⟩ (.slice A n c)=W3 at *
 generalize hgs : fs.set 6 (.slice A n c)=gs at *
 replace hgs:=Lib.hid hgs
 clear hc hf hB
 go_wp2_with (first
  | (refine wpList_load_at 41 _ rfl rfl w.heap.size 0 rfl gs _ hR2.out Tryz.underlying41 rfl hi ?_)
  | (refine wpList_store_at 41 _ _ rfl rfl (w.heap.size + 1) gs.toArray rfl rfl 41 cfZ hz2.out hi' ho hone ?_))
 refine bodyPost_ret (results_cell_row rfl _ _ (w.heap.size + 1) 41 gs.toArray (0,0) _ rfl (hsetRow _ _ _ _ _ _ hz2.out) Tryz.underlying41 rfl hi') rfl ⟨by rw [hgs.out],below_setRow hB2.out (Nat.le_succ _) _⟩
set_option maxRecDepth 100000 in
set_option maxHeartbeats 2000000 in
theorem name_4 (fs : List Value) (A : Option Addr) (n c : Nat) (w : World) (hl : fs.length=23) (h1 : ∀x∈fs,x.oneCell' =true) :
 Calls Tryz.prog 84 #[.agg fs.toArray,.int .i64 4,.slice A n c] w fun r w'=>r= .returned (.agg (fs.set 7 (.slice A n c)).toArray)∧Below w.heap.size w w':=by
 obtain ⟨W2,hW2⟩ : ∃x,(w.alloc (.cells fs.toArray 41)).alloc (.cells cfZ 41)=x:=⟨_,rfl⟩
 have hB1:=below_new w (.cells fs.toArray 41)
 have hB:=hB1.trans ((below_new (w.alloc (.cells fs.toArray 41)) (.cells cfZ 41)).mono hB1.size)
 have hR : Row ((w.alloc (.cells fs.toArray 41)).alloc (.cells cfZ 41)) w.heap.size 41 fs:=Row.keep (heap_new w _) (below_new _ _)
 have hz:=heap_new (w.alloc (.cells fs.toArray 41)) (.cells cfZ 41)
 simp only [World.size_alloc] at hz
 rw [hW2] at hB hR hz
 have hlt:=hR.lt
 obtain ⟨old,hold⟩ : ∃v,fs[7]? =some v:=⟨fs[7]'(by omega),List.getElem?_eq_getElem _⟩
 have hc:=hR.cell hold
 have hf:=hR.froz 7
 have hR2:=Lib.hid (hR.set (off:=7) (.slice A n c)).range
 have hz2 : (W2.setCell ⟨w.heap.size,7,none⟩ (.slice A n c)).heap[w.heap.size + 1]? =some (.cells cfZ 41):=(heap_setCell_other W2 ⟨w.heap.size,7,none⟩ (w.heap.size + 1) _ (by show w.heap.size + 1≠w.heap.size;omega)).trans hz
 have hz2:=Lib.hid hz2
 have hB2:=Lib.hid (hB.setCell (p:=⟨w.heap.size,7,none⟩) (Nat.le_refl _) (.slice A n c))
 have hls : (fs.set 7 (.slice A n c)).length=23:=by rw [List.length_set,hl]
 have hone:=one_arr (set_one (i:=7) (v:= .slice A n c) h1 rfl)
 have hi:=cf_in9 _ hls
 have hi':=cf_in9' _ hls
 have ho:=cf_old _ hls
 clear hB1 hR hold hz h1 hl
 go_enter Tryz.func84,Tryz.ntmps84
 go_upto_region 1 with (first
  | (refine wpList_box_row 41 _ rfl rfl fs.toArray rfl ?_)
  | (refine wpList_alloc_row 41 rfl rfl cfZ cf_zero ?_;try simp only [World.size_alloc]))
 rw [hW2]
 clear hW2
 go_upto_region 20 with fail
 generalize W2.setCell ⟨w.heap.size,7,none⟩ (.slice A n c)=W3 at *
 generalize hgs : fs.set 7 (.slice A n c)=gs at *
 replace hgs:=Lib.hid hgs
 clear hc hf hB
 go_wp2_with (first
  | (refine wpList_load_at 41 _ rfl rfl w.heap.size 0 rfl gs _ hR2.out Tryz.underlying41 rfl hi ?_)
  | (refine wpList_store_at 41 _ _ rfl rfl (w.heap.size + 1) gs.toArray rfl rfl 41 cfZ hz2.out hi' ho hone ?_))
 refine bodyPost_ret (results_cell_row rfl _ _ (w.heap.size + 1) 41 gs.toArray (0,0) _ rfl (hsetRow _ _ _ _ _ _ hz2.out) Tryz.underlying41 rfl hi') rfl ⟨by rw [hgs.out],below_setRow hB2.out (Nat.le_succ _) _⟩
set_option maxRecDepth 100000 in
set_option maxHeartbeats 2000000 in
theorem name_5 (fs : List Value) (A : Option Addr) (n c : Nat) (w : World) (hl : fs.length=23) (h1 : ∀x∈fs,x.oneCell' =true) :
 Calls Tryz.prog 84 #[.agg fs.toArray,.int .i64 5,.slice A n c] w fun r w'=>r= .returned (.agg (fs.set 8 (.slice A n c)).toArray)∧Below w.heap.size w w':=by
 obtain ⟨W2,hW2⟩ : ∃x,(w.alloc (.cells fs.toArray 41)).alloc (.cells cfZ 41)=x:=⟨_,rfl⟩
 have hB1:=below_new w (.cells fs.toArray 41)
 have hB:=hB1.trans ((below_new (w.alloc (.cells fs.toArray 41)) (.cells cfZ 41)).mono hB1.size)
 have hR : Row ((w.alloc (.cells fs.toArray 41)).alloc (.cells cfZ 41)) w.heap.size 41 fs:=Row.keep (heap_new w _) (below_new _ _)
 have hz:=heap_new (w.alloc (.cells fs.toArray 41)) (.cells cfZ 41)
 simp only [World.size_alloc] at hz
 rw [hW2] at hB hR hz
 have hlt:=hR.lt
 obtain ⟨old,hold⟩ : ∃v,fs[8]? =some v:=⟨fs[8]'(by omega),List.getElem?_eq_getElem _⟩
 have hc:=hR.cell hold
 have hf:=hR.froz 8
 have hR2:=Lib.hid (hR.set (off:=8) (.slice A n c)).range
 have hz2 : (W2.setCell ⟨w.heap.size,8,none⟩ (.slice A n c)).heap[w.heap.size + 1]? =some (.cells cfZ 41):=(heap_setCell_other W2 ⟨w.heap.size,8,none⟩ (w.heap.size + 1) _ (by show w.heap.size + 1≠w.heap.size;omega)).trans hz
 have hz2:=Lib.hid hz2
 have hB2:=Lib.hid (hB.setCell (p:=⟨w.heap.size,8,none⟩) (Nat.le_refl _) (.slice A n c))
 have hls : (fs.set 8 (.slice A n c)).length=23:=by rw [List.length_set,hl]
 have hone:=one_arr (set_one (i:=8) (v:= .slice A n c) h1 rfl)
 have hi:=cf_in9 _ hls
 have hi':=cf_in9' _ hls
 have ho:=cf_old _ hls
 clear hB1 hR hold hz h1 hl
 go_enter Tryz.func84,Tryz.ntmps84
 go_upto_region 1 with (first
  | (refine wpList_box_row 41 _ rfl rfl fs.toArray rfl ?_)
  | (refine wpList_alloc_row 41 rfl rfl cfZ cf_zero ?_;try simp only [World.size_alloc]))
 rw [hW2]
 clear hW2
 go_upto_region 20 with fail
 generalize W2.setCell ⟨w.heap.size,8,none⟩ (.slice A n c)=W3 at *
 generalize hgs : fs.set 8 (.slice A n c)=gs at *
 replace hgs:=Lib.hid hgs
 clear hc hf hB
 go_wp2_with (first
  | (refine wpList_load_at 41 _ rfl rfl w.heap.size 0 rfl gs _ hR2.out Tryz.underlying41 rfl hi ?_)
  | (refine wpList_store_at 41 _ _ rfl rfl (w.heap.size + 1) gs.toArray rfl rfl 41 cfZ hz2.out hi' ho hone ?_))
 refine bodyPost_ret (results_cell_row rfl _ _ (w.heap.size + 1) 41 gs.toArray (0,0) _ rfl (hsetRow _ _ _ _ _ _ hz2.out) Tryz.underlying41 rfl hi') rfl ⟨by rw [hgs.out],below_setRow hB2.out (Nat.le_succ _) _⟩
set_option maxRecDepth 100000 in
set_option maxHeartbeats 2000000 in
theorem name_6 (fs : List Value) (A : Option Addr) (n c : Nat) (w : World) (hl : fs.length=23) (h1 : ∀x∈fs,x.oneCell' =true) :
 Calls Tryz.prog 84 #[.agg fs.toArray,.int .i64 6,.slice A n c] w fun r w'=>r= .returned (.agg (fs.set 9 (.slice A n c)).toArray)∧Below w.heap.size w w':=by
 obtain ⟨W2,hW2⟩ : ∃x,(w.alloc (.cells fs.toArray 41)).alloc (.cells cfZ 41)=x:=⟨_,rfl⟩
 have hB1:=below_new w (.cells fs.toArray 41)
 have hB:=hB1.trans ((below_new (w.alloc (.cells fs.toArray 41)) (.cells cfZ 41)).mono hB1.size)
 have hR : Row ((w.alloc (.cells fs.toArray 41)).alloc (.cells cfZ 41)) w.heap.size 41 fs:=Row.keep (heap_new w _) (below_new _ _)
 have hz:=heap_new (w.alloc (.cells fs.toArray 41)) (.cells cfZ 41)
 simp only [World.size_alloc] at hz
 rw [hW2] at hB hR hz
 have hlt:=hR.lt
 obtain ⟨old,hold⟩ : ∃v,fs[9]? =some v:=⟨fs[9]'(by omega),List.getElem?_eq_getElem _⟩
 have hc:=hR.cell hold
 have hf:=hR.froz 9
 have hR2:=Lib.hid (hR.set (off:=9) (.slice A n c)).range
 have hz2 : (W2.setCell ⟨w.heap.size,9,none⟩ (.slice A n c)).heap[w.heap.size + 1]? =some (.cells cfZ 41):=(heap_setCell_other W2 ⟨w.heap.size,9,none⟩ (w.heap.size + 1) _ (by show w.heap.size + 1≠w.heap.size;omega)).trans hz
 have hz2:=Lib.hid hz2
 have hB2:=Lib.hid (hB.setCell (p:=⟨w.heap.size,9,none⟩) (Nat.le_refl _) (.slice A n c))
 have hls : (fs.set 9 (.slice A n c)).length=23:=by rw [List.length_set,hl]
 have hone:=one_arr (set_one (i:=9) (v:= .slice A n c) h1 rfl)
 have hi:=cf_in9 _ hls
 have hi':=cf_in9' _ hls
 have ho:=cf_old _ hls
 clear hB1 hR hold hz h1 hl
 go_enter Tryz.func84,Tryz.ntmps84
 go_upto_region 1 with (first
  | (refine wpList_box_row 41 _ rfl rfl fs.toArray rfl ?_)
  | (refine wpList_alloc_row 41 rfl rfl cfZ cf_zero ?_;try simp only [World.size_alloc]))
 rw [hW2]
 clear hW2
 go_upto_region 20 with fail
 generalize W2.setCell ⟨w.heap.size,9,none⟩ (.slice A n c)=W3 at *
 generalize hgs : fs.set 9 (.slice A n c)=gs at *
 replace hgs:=Lib.hid hgs
 clear hc hf hB
 go_wp2_with (first
  | (refine wpList_load_at 41 _ rfl rfl w.heap.size 0 rfl gs _ hR2.out Tryz.underlying41 rfl hi ?_)
  | (refine wpList_store_at 41 _ _ rfl rfl (w.heap.size + 1) gs.toArray rfl rfl 41 cfZ hz2.out hi' ho hone ?_))
 refine bodyPost_ret (results_cell_row rfl _ _ (w.heap.size + 1) 41 gs.toArray (0,0) _ rfl (hsetRow _ _ _ _ _ _ hz2.out) Tryz.underlying41 rfl hi') rfl ⟨by rw [hgs.out],below_setRow hB2.out (Nat.le_succ _) _⟩
set_option maxRecDepth 100000 in
set_option maxHeartbeats 2000000 in
theorem name_7 (fs : List Value) (A : Option Addr) (n c : Nat) (w : World) (hl : fs.length=23) (h1 : ∀x∈fs,x.oneCell' =true) :
 Calls Tryz.prog 84 #[.agg fs.toArray,.int .i64 7,.slice A n c] w fun r w'=>r= .returned (.agg (fs.set 10 (.slice A n c)).toArray)∧Below w.heap.size w w':=by
 obtain ⟨W2,hW2⟩ : ∃x,(w.alloc (.cells fs.toArray 41)).alloc (.cells cfZ 41)=x:=⟨_,rfl⟩
 have hB1:=below_new w (.cells fs.toArray 41)
 have hB:=hB1.trans ((below_new (w.alloc (.cells fs.toArray 41)) (.cells cfZ 41)).mono hB1.size)
 have hR : Row ((w.alloc (.cells fs.toArray 41)).alloc (.cells cfZ 41)) w.heap.size 41 fs:=Row.keep (heap_new w _) (below_new _ _)
 have hz:=heap_new (w.alloc (.cells fs.toArray 41)) (.cells cfZ 41)
 simp only [World.size_alloc] at hz
 rw [hW2] at hB hR hz
 have hlt:=hR.lt
 obtain ⟨old,hold⟩ : ∃v,fs[10]? =some v:=⟨fs[10]'(by omega),List.getElem?_eq_getElem _⟩
 have hc:=hR.cell hold
 have hf:=hR.froz 10
 have hR2:=Lib.hid (hR.set (off:=10) (.slice A n c)).range
 have hz2 : (W2.setCell ⟨w.heap.size,10,none⟩ (.slice A n c)).heap[w.heap.size + 1]? =some (.cells cfZ 41):=(heap_setCell_other W2 ⟨w.heap.size,10,none⟩ (w.heap.size + 1) _ (by show w.heap.size + 1≠w.heap.size;omega)).trans hz
 have hz2:=Lib.hid hz2
 have hB2:=Lib.hid (hB.setCell (p:=⟨w.heap.size,10,none⟩) (Nat.le_refl _) (.slice A n c))
 have hls : (fs.set 10 (.slice A n c)).length=23:=by rw [List.length_set,hl]
 have hone:=one_arr (set_one (i:=10) (v:= .slice A n c) h1 rfl)
 have hi:=cf_in9 _ hls
 have hi':=cf_in9' _ hls
 have ho:=cf_old _ hls
 clear hB1 hR hold hz h1 hl
 go_enter Tryz.func84,Tryz.ntmps84
 go_upto_region 1 with (first
  | (refine wpList_box_row 41 _ rfl rfl fs.toArray rfl ?_)
  | (refine wpList_alloc_row 41 rfl rfl cfZ cf_zero ?_;try simp only [World.size_alloc]))
 rw [hW2]
 clear hW2
 go_upto_region 20 with fail
 generalize W2.setCell ⟨w.heap.size,10,none⟩ (.slice A n c)=W3 at *
 generalize hgs : fs.set 10 (.slice A n c)=gs at *
 replace hgs:=Lib.hid hgs
 clear hc hf hB
 go_wp2_with (first
  | (refine wpList_load_at 41 _ rfl rfl w.heap.size 0 rfl gs _ hR2.out Tryz.underlying41 rfl hi ?_)
  | (refine wpList_store_at 41 _ _ rfl rfl (w.heap.size + 1) gs.toArray rfl rfl 41 cfZ hz2.out hi' ho hone ?_))
 refine bodyPost_ret (results_cell_row rfl _ _ (w.heap.size + 1) 41 gs.toArray (0,0) _ rfl (hsetRow _ _ _ _ _ _ hz2.out) Tryz.underlying41 rfl hi') rfl ⟨by rw [hgs.out],below_setRow hB2.out (Nat.le_succ _) _⟩
set_option maxRecDepth 100000 in
set_option maxHeartbeats 2000000 in
theorem name_8 (fs : List Value) (A : Option Addr) (n c : Nat) (w : World) (hl : fs.length=23) (h1 : ∀x∈fs,x.oneCell' =true) :
 Calls Tryz.prog 84 #[.agg fs.toArray,.int .i64 8,.slice A n c] w fun r w'=>r= .returned (.agg (fs.set 11 (.slice A n c)).toArray)∧Below w.heap.size w w':=by
 obtain ⟨W2,hW2⟩ : ∃x,(w.alloc (.cells fs.toArray 41)).alloc (.cells cfZ 41)=x:=⟨_,rfl⟩
 have hB1:=below_new w (.cells fs.toArray 41)
 have hB:=hB1.trans ((below_new (w.alloc (.cells fs.toArray 41)) (.cells cfZ 41)).mono hB1.size)
 have hR : Row ((w.alloc (.cells fs.toArray 41)).alloc (.cells cfZ 41)) w.heap.size 41 fs:=Row.keep (heap_new w _) (below_new _ _)
 have hz:=heap_new (w.alloc (.cells fs.toArray 41)) (.cells cfZ 41)
 simp only [World.size_alloc] at hz
 rw [hW2] at hB hR hz
 have hlt:=hR.lt
 obtain ⟨old,hold⟩ : ∃v,fs[11]? =some v:=⟨fs[11]'(by omega),List.getElem?_eq_getElem _⟩
 have hc:=hR.cell hold
 have hf:=hR.froz 11
 have hR2:=Lib.hid (hR.set (off:=11) (.slice A n c)).range
 have hz2 : (W2.setCell ⟨w.heap.size,11,none⟩ (.slice A n c)).heap[w.heap.size + 1]? =some (.cells cfZ 41):=(heap_setCell_other W2 ⟨w.heap.size,11,none⟩ (w.heap.size + 1) _ (by show w.heap.size + 1≠w.heap.size;omega)).trans hz
 have hz2:=Lib.hid hz2
 have hB2:=Lib.hid (hB.setCell (p:=⟨w.heap.size,11,none⟩) (Nat.le_refl _) (.slice A n c))
 have hls : (fs.set 11 (.slice A n c)).length=23:=by rw [List.length_set,hl]
 have hone:=one_arr (set_one (i:=11) (v:= .slice A n c) h1 rfl)
 have hi:=cf_in9 _ hls
 have hi':=cf_in9' _ hls
 have ho:=cf_old _ hls
 clear hB1 hR hold hz h1 hl
 go_enter Tryz.func84,Tryz.ntmps84
 go_upto_region 1 with (first
  | (refine wpList_box_row 41 _ rfl rfl fs.toArray rfl ?_)
  | (refine wpList_alloc_row 41 rfl rfl cfZ cf_zero ?_;try simp only [World.size_alloc]))
 rw [hW2]
 clear hW2
 go_upto_region 20 with fail
 generalize W2.setCell ⟨w.heap.size,11,none⟩ (.slice A n c)=W3 at *
 generalize hgs : fs.set 11 (.slice A n c)=gs at *
 replace hgs:=Lib.hid hgs
 clear hc hf hB
 go_wp2_with (first
  | (refine wpList_load_at 41 _ rfl rfl w.heap.size 0 rfl gs _ hR2.out Tryz.underlying41 rfl hi ?_)
  | (refine wpList_store_at 41 _ _ rfl rfl (w.heap.size + 1) gs.toArray rfl rfl 41 cfZ hz2.out hi' ho hone ?_))
 refine bodyPost_ret (results_cell_row rfl _ _ (w.heap.size + 1) 41 gs.toArray (0,0) _ rfl (hsetRow _ _ _ _ _ _ hz2.out) Tryz.underlying41 rfl hi') rfl ⟨by rw [hgs.out],below_setRow hB2.out (Nat.le_succ _) _⟩
end Go.Proofs.YtmicohmbmgbnkaaGreatDoor
