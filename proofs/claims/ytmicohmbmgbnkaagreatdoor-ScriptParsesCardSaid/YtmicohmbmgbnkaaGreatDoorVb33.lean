/- The reference's put: the keys of one cell. (printed by wip/gen_slv2.py) -/
import Derived.Test.YtmicohmbmgbnkaaGreatDoorVb32
namespace Go.Proofs.YtmicohmbmgbnkaaGreatDoor
open Go Go.RowKit Go.Shelf
open Go.Lib (itoa)
theorem But.sets {b : Nat} : ∀(vs : List Value) {W : World} {off : Nat},But b W (W.setCells b off vs)
 | [],W,off=>But.of_below (Below.refl _ _)
 | v :: r,W,off=>(But.set (b:=b) (off:=off) v).trans (But.sets r)
theorem SlN.but' {b b' : Nat} {w w' : World} {K : Nat} {zs : List (List Value)} {v : Value} (h : SlN b w K zs v) (hb : But b' w w') (hbb : b'≤b) : SlN b w' K zs v:=by
 obtain ⟨A,c,h1,h2,h3,h4,h5⟩:=h
 exact ⟨A,c,h1,h2,h3,h4.but hb (fun hp a ha e=>by have:=h5 hp a ha;omega),h5⟩
theorem PValN.but' {b b' : Nat} {w w' : World} {pv : PV} {z : List Value} (h : PValN b w pv z) (hb : But b' w w') (hbb : b'≤b) : PValN b w' pv z:=PValG.mono (fun _ _ _ h=>h.but' hb hbb) h
def PutR (g : Tag) (off : Nat) (o : Nat × Nat × Nat) (cs : List Value) (L : List UInt8) (w : World) (r : Ending) (w' : World) : Prop:=
 ∃(z : List Value) (b : Bool),r= .returned (.tuple #[.agg (setAt cs off z).toArray,.bool b])∧Below w.heap.size w w'∧z.length=widthT g∧(∀x∈z,x.oneCell' =true)∧(∀pv,rdR g o L=some pv→b=true∧PValN w.heap.size w' pv z)∧(rdR g o L=none→b=false)
theorem SlN.weak {b b' : Nat} {w : World} {K : Nat} {zs : List (List Value)} {v : Value} (h : SlN b w K zs v) (hb : b'≤b) : SlN b' w K zs v:=by
 obtain ⟨A,c,h1,h2,h3,h4,h5⟩:=h
 exact ⟨A,c,h1,h2,h3,h4,fun hp a ha=>by have:=h5 hp a ha;omega⟩
theorem sl_shape {α : Type} {K : Nat} {E : TypeId} {row : α→List Value} {o : Option (List α)} {B : Nat} {w : World} {v : Value} {b : Bool} (h1 : ∀l,o=some l→b=true∧OwnR w B K E v (l.map row)) (h2 : o=none→b=false∧v= .slice none 0 0) : ∃A n c,v= .slice A n c:=by
 cases o with
 | none=>exact ⟨none,0,0,(h2 rfl).2⟩
 | some l=>obtain ⟨A,c,e,_⟩:=OwnR.rws (h1 l rfl).2;exact ⟨A,_,c,e⟩
theorem unesc_ans (L : List UInt8) : ∃yx gb,(∀r,UnR L r→r= .returned (.tuple #[.string yx,.bool gb]))∧(unescL L=none→gb=false)∧(∀t,unescL L=some t→gb=true∧yx=bs t):=by
 refine ⟨_,_,fun r h=>unR_get h,fun h=> ?_,fun t h=> ?_⟩
 · rw [h];rfl
 · rw [h];exact ⟨rfl,rfl⟩
theorem getx {cs : List Value} (hl : cs.length=29) (i : Nat) (hi : i < 29) : ∃v,cs[i]? =some v:=⟨cs[i]'(by omega),List.getElem?_eq_getElem _⟩
theorem getc {fs : List Value} (hl : fs.length=23) (i : Nat) (hi : i < 23) : ∃v,fs[i]? =some v:=⟨fs[i]'(by omega),List.getElem?_eq_getElem _⟩
structure PEnd (w w6 : World) (bc : Nat) (xs gs D : List Value) : Prop where
 e1 : w6.rangeAt bc 0 gs
 e2 : w6.there w.heap.size 2 gs.toArray.size
 e3 : (w6.setCells w.heap.size 2 gs).rangeAt w.heap.size 0 D
 e4 : (w6.setCells w.heap.size 2 gs).heap[w.heap.size + 1]? =some (.cells (stZ 0).toArray 44 (0,0))
 gl : gs.length=23
 dl : D.length=29
 g1 : gs.toArray.all (·.oneCell')=true
 d1 : D.toArray.all (·.oneCell')=true
theorem pend {w w6 : World} {bc : Nat} {xs gs D : List Value} (hx : Row w6 w.heap.size 44 xs) (hr : Row w6 (w.heap.size + 1) 44 (stZ 0)) (hc : Row w6 bc 41 gs) (hxl : xs.length=29) (hgl : gs.length=23) (hg1 : ∀x∈gs,x.oneCell' =true) (hx1 : ∀x∈xs,x.oneCell' =true) (hD : setAt xs 2 gs=D) : PEnd w w6 bc xs gs D:=by
 refine ⟨hc.range,hx.there (by rw [hxl,List.size_toArray,hgl];decide),?_,hr.others (by omega) gs,hgl,by rw [← hD,setAt_len,hxl],one_arr hg1,one_arr ?_⟩
 · rw [← hD];exact (hx.sets gs).range
 · rw [← hD];exact setAt_one gs xs 2 hx1 hg1
theorem put_fin {g : Tag} {off : Nat} {o : Nat × Nat × Nat} {cs : List Value} {L : List UInt8} {w w6 : World} {bc : Nat} {gs z D : List Value} {b : Bool} (hD : setAt cs off z=D) (hB : Below w.heap.size w w6) (hbc : w.heap.size + 1 < bc) (hz : z.length=widthT g) (hz1 : ∀x∈z,x.oneCell' =true)
 (hv : ∀pv,rdR g o L=some pv→b=true∧PValN bc w6 pv z) (hn : rdR g o L=none→b=false) :
 PutR g off o cs L w (.returned (.tuple #[.agg D.toArray,.bool b])) ((w6.setCells w.heap.size 2 gs).setRow (w.heap.size + 1) D.toArray):=
 ⟨z,b,by rw [hD],below_setRow (below_setCells (Nat.le_refl _) gs hB) (Nat.le_succ _) _,hz,hz1,fun pv h=>⟨(hv pv h).1,PValG.mono (fun _ _ _ h=>h.weak (show w.heap.size≤bc by omega)) (((hv pv h).2.but' (But.sets gs) (by omega)).but' (But.row _) (by omega))⟩,hn⟩
set_option maxRecDepth 100000 in
set_option maxHeartbeats 4000000 in
theorem put_0 (cs : List Value) (o : Nat × Nat × Nat) (s : ByteArray) (w : World) (hs : s.size≤1099511627776) (hl : cs.length=29) (h1 : ∀x∈cs,x.oneCell' =true) :
 Calls Tryz.prog 50 #[.agg cs.toArray,.int .i64 0,.string s] w (PutR .num 1 o cs s.data.toList w):=by
 have cN:=Lib.hid (fun W'=>rnumber_any s W' (by omega))
 have cU:=Lib.hid (fun W'=>runescape_any s W' hs)
 obtain ⟨yx,gb,hget,hgn,hgs⟩:=unesc_ans s.data.toList
 obtain ⟨W2,hW2⟩ : ∃x,(w.alloc (.cells cs.toArray 44)).alloc (.cells (stZ 0).toArray 44)=x:=⟨_,rfl⟩
 have hB1:=below_new w (.cells cs.toArray 44)
 have hB2:=hB1.trans ((below_new (w.alloc (.cells cs.toArray 44)) (.cells (stZ 0).toArray 44)).mono hB1.size)
 have hx2 : Row ((w.alloc (.cells cs.toArray 44)).alloc (.cells (stZ 0).toArray 44)) w.heap.size 44 cs:=Row.keep (heap_new w _) (below_new _ _)
 have hr2 : Row ((w.alloc (.cells cs.toArray 44)).alloc (.cells (stZ 0).toArray 44)) (w.heap.size + 1) 44 (stZ 0):=by have:=heap_new (w.alloc (.cells cs.toArray 44)) (.cells (stZ 0).toArray 44);rwa [World.size_alloc] at this
 rw [hW2] at hB2 hx2 hr2
 have hfl : ((cs.drop 2).take 23).length=23:=by rw [List.length_take,List.length_drop];omega
 have hf1 : ∀x∈(cs.drop 2).take 23,x.oneCell' =true:=fun x hx=>h1 x (List.mem_of_mem_drop (List.mem_of_mem_take hx))
 have hfm : ∀(j : Nat) x,((cs.drop 2).take 23)[j]? =some x→cs[2 + j]? =some x:=fun j x hj=>by
  have hj2 : j < 23:=by have:=(List.getElem?_eq_some_iff.1 hj).1;omega
  rwa [List.getElem?_take,if_pos hj2,List.getElem?_drop] at hj
 have hDD : ∀v,setAt (cs.set 1 v) 2 ((cs.drop 2).take 23)=setAt cs 1 [v]:=fun v=>fold_x (z:=[v]) hl (by simp) (by simp)
 generalize hfs : (cs.drop 2).take 23=fs at *
 have hfi:=cf_in9 fs hfl
 have hfi':=cf_in9' fs hfl
 have hfo:=cf_old fs hfl
 have hfa:=one_arr hf1
 replace hB2:=Lib.hid hB2
 replace hx2:=Lib.hid hx2
 replace hr2:=Lib.hid hr2
 replace hgn:=Lib.hid hgn
 replace hgs:=Lib.hid hgs
 replace hfm:=Lib.hid hfm
 clear hB1 hfs
 go_enter Tryz.func50,Tryz.ntmps50
 go_upto_region 1 with (first
  | (refine wpList_box_row 44 _ rfl rfl cs.toArray rfl ?_)
  | (refine wpList_alloc_row 44 rfl rfl (stZ 0).toArray st_zero ?_;try simp only [World.size_alloc]))
 try rw [hW2]
 clear hW2
 go_upto_region 3 with (first
  | (go_at_call 79;(with_reducible refine (cN.out _).mono ?_);rintro r w3 ⟨n,bn,rfl,hnI,hna,hb⟩;have hB3:=Lib.hid (hB2.out.trans (hb.mono hB2.out.size));have hb3:=Lib.hid hb;clear hb)
  | (go_at_call 12;(with_reducible refine (cU.out _).mono ?_);rintro r w4 ⟨hu,hb⟩;obtain rfl:=hget _ hu;have hB4:=Lib.hid (hB3.out.trans (hb.mono hB3.out.size));have hb4:=Lib.hid (hb3.out.trans (hb.mono hb3.out.size));clear hb hu))
 have hx4:=hx2.out.keep hb4.out
 have hr4:=hr2.out.keep hb4.out
 have hmid:=hx4.mid hfm.out
 have hcz:=heap_new w4 (.cells cfZ 41)
 clear hget cN cU
 go_upto_region 4 with (first
  | (refine wpList_load_at 41 _ rfl rfl w.heap.size 2 rfl fs _ hmid Tryz.underlying41 rfl hfi ?_)
  | (refine wpList_alloc_row 41 rfl rfl cfZ cf_zero ?_)
  | (refine wpList_store_at 41 _ _ rfl rfl w4.heap.size fs.toArray rfl rfl 41 cfZ hcz hfi' hfo hfa ?_
     rw [setRow_new]))
 have hbn:=below_new w4 (.cells fs.toArray 41)
 have hx5:=hx4.keep hbn
 have hr5:=hr4.keep hbn
 have hc5 : Row (w4.alloc (.cells fs.toArray 41)) w4.heap.size 41 fs:=heap_new w4 _
 have hB5:=hB4.out.trans (hbn.mono hB4.out.size)
 have hbc : w.heap.size + 1 < w4.heap.size:=hr4.lt
 have hlt5:=hc5.lt
 clear hx4 hr4 hmid hcz hbn hfi hfi' hfo hfa hB2 hB3 hB4 hb3 hb4 hx2 hr2
 generalize w4.alloc (.cells fs.toArray 41)=w5 at *
 generalize w4.heap.size=bc at *
 obtain ⟨old,hold⟩:=getx (hl) 1 (by decide)
 have hcell:=hx5.cell hold
 have hfroz:=hx5.froz 1
 have hx6:=hx5.set (off:=1) (.int .i64 n)
 have hr6:=hr5.other (b2:=w.heap.size) (off:=1) (by omega) (.int .i64 n)
 have hc6:=hc5.other (b2:=w.heap.size) (off:=1) (by omega) (.int .i64 n)
 have hB6:=hB5.setCell (p:=⟨w.heap.size,1,none⟩) (by show w.heap.size≤w.heap.size;omega) (.int .i64 n)
 have hD9:=hDD (.int .i64 n)
 replace hx6:=Lib.hid hx6
 replace hr6:=Lib.hid hr6
 replace hc6:=Lib.hid hc6
 replace hB6:=Lib.hid hB6
 replace hD9:=Lib.hid hD9
 clear hx5 hr5 hc5 hB5 hold hDD
 go_upto_region 60 with fail
 generalize w5.setCell ⟨w.heap.size,1,none⟩ (.int .i64 n)=w6 at *
 obtain ⟨gs,hgs9⟩ : ∃gs,fs=gs:=⟨_,rfl⟩
 rw [hgs9] at hc6 hD9
 generalize hDD9 : setAt cs 1 [.int .i64 n]=D at *
 have hgl9 : gs.length=23:=by rw [← hgs9];exact hfl
 have hg19 : ∀x∈gs,x.oneCell' =true:=by rw [← hgs9];exact hf1
 have hP:=pend hx6.out hr6.out hc6.out (by rw [List.length_set];exact hl) hgl9 hg19 (set_one h1 rfl) hD9.out
 have i1:=cf_in9 _ hP.gl
 have i2:=cf_in9' _ hP.gl
 have i3:=st_in9 _ hP.dl
 have i4:=st_in9' _ hP.dl
 have i5:=st_old _ hP.dl
 have e1:=hP.e1
 have e2:=hP.e2
 have e3:=hP.e3
 have e4:=hP.e4
 have g1:=hP.g1
 have d1:=hP.d1
 have hQ:=Lib.hid (fun W9 (h : W9=(w6.setCells w.heap.size 2 gs).setRow (w.heap.size + 1) D.toArray)=>(show PutR .num 1 o cs s.data.toList w (.returned (.tuple #[.agg D.toArray,.bool bn])) W9 by rw [h];exact put_fin (z:=[.int .i64 n]) hDD9 hB6.out hbc rfl (fun x hx=>by rw [List.mem_singleton.1 hx];rfl) (fun pv h=>by obtain ⟨m,hm,rfl⟩:=map_some (show (numL s.data.toList).map PV.num=some pv from h);rw [hna] at hm;cases bn with | false=>cases hm | true=>obtain rfl:=Option.some.inj hm;exact ⟨rfl,rfl⟩) (fun h=>by have h' : (numL s.data.toList).map PV.num=none:=h;rw [hna] at h';cases bn with | false=>rfl | true=>cases h')))
 clear hP hDD9
 go_wp2_with (first
  | (refine wpList_load_at 41 _ rfl rfl bc 0 rfl gs _ e1 Tryz.underlying41 rfl i1 ?_)
  | (refine wpList_store_mid rfl 41 _ _ rfl w.heap.size 2 gs.toArray rfl rfl e2 i2 g1 ?_;simp only [List.toList_toArray])
  | (refine wpList_load_at 44 _ rfl rfl w.heap.size 0 rfl D _ e3 Tryz.underlying44 rfl i3 ?_)
  | (refine wpList_store_at 44 _ _ rfl rfl (w.heap.size + 1) D.toArray rfl rfl 44 (stZ 0).toArray e4 i4 i5 d1 ?_))
 refine bodyPost_ret (resV2 rfl _ _ (w.heap.size + 1) 44 D.toArray (0,0) _ (.bool bn) rfl (hsetRow _ _ _ _ _ _ e4) Tryz.underlying44 rfl i4 rfl) rfl (hQ.out _ rfl)
set_option maxRecDepth 100000 in
set_option maxHeartbeats 4000000 in
theorem put_1 (cs : List Value) (o : Nat × Nat × Nat) (s : ByteArray) (w : World) (hs : s.size≤1099511627776) (hl : cs.length=29) (h1 : ∀x∈cs,x.oneCell' =true) :
 Calls Tryz.prog 50 #[.agg cs.toArray,.int .i64 1,.string s] w (PutR .num 25 o cs s.data.toList w):=by
 have cN:=Lib.hid (fun W'=>rnumber_any s W' (by omega))
 have cU:=Lib.hid (fun W'=>runescape_any s W' hs)
 obtain ⟨yx,gb,hget,hgn,hgs⟩:=unesc_ans s.data.toList
 obtain ⟨W2,hW2⟩ : ∃x,(w.alloc (.cells cs.toArray 44)).alloc (.cells (stZ 0).toArray 44)=x:=⟨_,rfl⟩
 have hB1:=below_new w (.cells cs.toArray 44)
 have hB2:=hB1.trans ((below_new (w.alloc (.cells cs.toArray 44)) (.cells (stZ 0).toArray 44)).mono hB1.size)
 have hx2 : Row ((w.alloc (.cells cs.toArray 44)).alloc (.cells (stZ 0).toArray 44)) w.heap.size 44 cs:=Row.keep (heap_new w _) (below_new _ _)
 have hr2 : Row ((w.alloc (.cells cs.toArray 44)).alloc (.cells (stZ 0).toArray 44)) (w.heap.size + 1) 44 (stZ 0):=by have:=heap_new (w.alloc (.cells cs.toArray 44)) (.cells (stZ 0).toArray 44);rwa [World.size_alloc] at this
 rw [hW2] at hB2 hx2 hr2
 have hfl : ((cs.drop 2).take 23).length=23:=by rw [List.length_take,List.length_drop];omega
 have hf1 : ∀x∈(cs.drop 2).take 23,x.oneCell' =true:=fun x hx=>h1 x (List.mem_of_mem_drop (List.mem_of_mem_take hx))
 have hfm : ∀(j : Nat) x,((cs.drop 2).take 23)[j]? =some x→cs[2 + j]? =some x:=fun j x hj=>by
  have hj2 : j < 23:=by have:=(List.getElem?_eq_some_iff.1 hj).1;omega
  rwa [List.getElem?_take,if_pos hj2,List.getElem?_drop] at hj
 have hDD : ∀v,setAt (cs.set 25 v) 2 ((cs.drop 2).take 23)=setAt cs 25 [v]:=fun v=>fold_x (z:=[v]) hl (by simp) (by simp)
 generalize hfs : (cs.drop 2).take 23=fs at *
 have hfi:=cf_in9 fs hfl
 have hfi':=cf_in9' fs hfl
 have hfo:=cf_old fs hfl
 have hfa:=one_arr hf1
 replace hB2:=Lib.hid hB2
 replace hx2:=Lib.hid hx2
 replace hr2:=Lib.hid hr2
 replace hgn:=Lib.hid hgn
 replace hgs:=Lib.hid hgs
 replace hfm:=Lib.hid hfm
 clear hB1 hfs
 go_enter Tryz.func50,Tryz.ntmps50
 go_upto_region 1 with (first
  | (refine wpList_box_row 44 _ rfl rfl cs.toArray rfl ?_)
  | (refine wpList_alloc_row 44 rfl rfl (stZ 0).toArray st_zero ?_;try simp only [World.size_alloc]))
 try rw [hW2]
 clear hW2
 go_upto_region 3 with (first
  | (go_at_call 79;(with_reducible refine (cN.out _).mono ?_);rintro r w3 ⟨n,bn,rfl,hnI,hna,hb⟩;have hB3:=Lib.hid (hB2.out.trans (hb.mono hB2.out.size));have hb3:=Lib.hid hb;clear hb)
  | (go_at_call 12;(with_reducible refine (cU.out _).mono ?_);rintro r w4 ⟨hu,hb⟩;obtain rfl:=hget _ hu;have hB4:=Lib.hid (hB3.out.trans (hb.mono hB3.out.size));have hb4:=Lib.hid (hb3.out.trans (hb.mono hb3.out.size));clear hb hu))
 have hx4:=hx2.out.keep hb4.out
 have hr4:=hr2.out.keep hb4.out
 have hmid:=hx4.mid hfm.out
 have hcz:=heap_new w4 (.cells cfZ 41)
 clear hget cN cU
 go_upto_region 4 with (first
  | (refine wpList_load_at 41 _ rfl rfl w.heap.size 2 rfl fs _ hmid Tryz.underlying41 rfl hfi ?_)
  | (refine wpList_alloc_row 41 rfl rfl cfZ cf_zero ?_)
  | (refine wpList_store_at 41 _ _ rfl rfl w4.heap.size fs.toArray rfl rfl 41 cfZ hcz hfi' hfo hfa ?_
     rw [setRow_new]))
 have hbn:=below_new w4 (.cells fs.toArray 41)
 have hx5:=hx4.keep hbn
 have hr5:=hr4.keep hbn
 have hc5 : Row (w4.alloc (.cells fs.toArray 41)) w4.heap.size 41 fs:=heap_new w4 _
 have hB5:=hB4.out.trans (hbn.mono hB4.out.size)
 have hbc : w.heap.size + 1 < w4.heap.size:=hr4.lt
 have hlt5:=hc5.lt
 clear hx4 hr4 hmid hcz hbn hfi hfi' hfo hfa hB2 hB3 hB4 hb3 hb4 hx2 hr2
 generalize w4.alloc (.cells fs.toArray 41)=w5 at *
 generalize w4.heap.size=bc at *
 obtain ⟨old,hold⟩:=getx (hl) 25 (by decide)
 have hcell:=hx5.cell hold
 have hfroz:=hx5.froz 25
 have hx6:=hx5.set (off:=25) (.int .i64 n)
 have hr6:=hr5.other (b2:=w.heap.size) (off:=25) (by omega) (.int .i64 n)
 have hc6:=hc5.other (b2:=w.heap.size) (off:=25) (by omega) (.int .i64 n)
 have hB6:=hB5.setCell (p:=⟨w.heap.size,25,none⟩) (by show w.heap.size≤w.heap.size;omega) (.int .i64 n)
 have hD9:=hDD (.int .i64 n)
 replace hx6:=Lib.hid hx6
 replace hr6:=Lib.hid hr6
 replace hc6:=Lib.hid hc6
 replace hB6:=Lib.hid hB6
 replace hD9:=Lib.hid hD9
 clear hx5 hr5 hc5 hB5 hold hDD
 go_upto_region 60 with fail
 generalize w5.setCell ⟨w.heap.size,25,none⟩ (.int .i64 n)=w6 at *
 obtain ⟨gs,hgs9⟩ : ∃gs,fs=gs:=⟨_,rfl⟩
 rw [hgs9] at hc6 hD9
 generalize hDD9 : setAt cs 25 [.int .i64 n]=D at *
 have hgl9 : gs.length=23:=by rw [← hgs9];exact hfl
 have hg19 : ∀x∈gs,x.oneCell' =true:=by rw [← hgs9];exact hf1
 have hP:=pend hx6.out hr6.out hc6.out (by rw [List.length_set];exact hl) hgl9 hg19 (set_one h1 rfl) hD9.out
 have i1:=cf_in9 _ hP.gl
 have i2:=cf_in9' _ hP.gl
 have i3:=st_in9 _ hP.dl
 have i4:=st_in9' _ hP.dl
 have i5:=st_old _ hP.dl
 have e1:=hP.e1
 have e2:=hP.e2
 have e3:=hP.e3
 have e4:=hP.e4
 have g1:=hP.g1
 have d1:=hP.d1
 have hQ:=Lib.hid (fun W9 (h : W9=(w6.setCells w.heap.size 2 gs).setRow (w.heap.size + 1) D.toArray)=>(show PutR .num 25 o cs s.data.toList w (.returned (.tuple #[.agg D.toArray,.bool bn])) W9 by rw [h];exact put_fin (z:=[.int .i64 n]) hDD9 hB6.out hbc rfl (fun x hx=>by rw [List.mem_singleton.1 hx];rfl) (fun pv h=>by obtain ⟨m,hm,rfl⟩:=map_some (show (numL s.data.toList).map PV.num=some pv from h);rw [hna] at hm;cases bn with | false=>cases hm | true=>obtain rfl:=Option.some.inj hm;exact ⟨rfl,rfl⟩) (fun h=>by have h' : (numL s.data.toList).map PV.num=none:=h;rw [hna] at h';cases bn with | false=>rfl | true=>cases h')))
 clear hP hDD9
 go_wp2_with (first
  | (refine wpList_load_at 41 _ rfl rfl bc 0 rfl gs _ e1 Tryz.underlying41 rfl i1 ?_)
  | (refine wpList_store_mid rfl 41 _ _ rfl w.heap.size 2 gs.toArray rfl rfl e2 i2 g1 ?_;simp only [List.toList_toArray])
  | (refine wpList_load_at 44 _ rfl rfl w.heap.size 0 rfl D _ e3 Tryz.underlying44 rfl i3 ?_)
  | (refine wpList_store_at 44 _ _ rfl rfl (w.heap.size + 1) D.toArray rfl rfl 44 (stZ 0).toArray e4 i4 i5 d1 ?_))
 refine bodyPost_ret (resV2 rfl _ _ (w.heap.size + 1) 44 D.toArray (0,0) _ (.bool bn) rfl (hsetRow _ _ _ _ _ _ e4) Tryz.underlying44 rfl i4 rfl) rfl (hQ.out _ rfl)
set_option maxRecDepth 100000 in
set_option maxHeartbeats 4000000 in
theorem put_2 (cs : List Value) (o : Nat × Nat × Nat) (s : ByteArray) (w : World) (hs : s.size≤1099511627776) (hl : cs.length=29) (h1 : ∀x∈cs,x.oneCell' =true) :
 Calls Tryz.prog 50 #[.agg cs.toArray,.int .i64 2,.string s] w (PutR .text 26 o cs s.data.toList w):=by
 have cN:=Lib.hid (fun W'=>rnumber_any s W' (by omega))
 have cU:=Lib.hid (fun W'=>runescape_any s W' hs)
 obtain ⟨yx,gb,hget,hgn,hgs⟩:=unesc_ans s.data.toList
 obtain ⟨W2,hW2⟩ : ∃x,(w.alloc (.cells cs.toArray 44)).alloc (.cells (stZ 0).toArray 44)=x:=⟨_,rfl⟩
 have hB1:=below_new w (.cells cs.toArray 44)
 have hB2:=hB1.trans ((below_new (w.alloc (.cells cs.toArray 44)) (.cells (stZ 0).toArray 44)).mono hB1.size)
 have hx2 : Row ((w.alloc (.cells cs.toArray 44)).alloc (.cells (stZ 0).toArray 44)) w.heap.size 44 cs:=Row.keep (heap_new w _) (below_new _ _)
 have hr2 : Row ((w.alloc (.cells cs.toArray 44)).alloc (.cells (stZ 0).toArray 44)) (w.heap.size + 1) 44 (stZ 0):=by have:=heap_new (w.alloc (.cells cs.toArray 44)) (.cells (stZ 0).toArray 44);rwa [World.size_alloc] at this
 rw [hW2] at hB2 hx2 hr2
 have hfl : ((cs.drop 2).take 23).length=23:=by rw [List.length_take,List.length_drop];omega
 have hf1 : ∀x∈(cs.drop 2).take 23,x.oneCell' =true:=fun x hx=>h1 x (List.mem_of_mem_drop (List.mem_of_mem_take hx))
 have hfm : ∀(j : Nat) x,((cs.drop 2).take 23)[j]? =some x→cs[2 + j]? =some x:=fun j x hj=>by
  have hj2 : j < 23:=by have:=(List.getElem?_eq_some_iff.1 hj).1;omega
  rwa [List.getElem?_take,if_pos hj2,List.getElem?_drop] at hj
 have hDD : ∀v,setAt (cs.set 26 v) 2 ((cs.drop 2).take 23)=setAt cs 26 [v]:=fun v=>fold_x (z:=[v]) hl (by simp) (by simp)
 generalize hfs : (cs.drop 2).take 23=fs at *
 have hfi:=cf_in9 fs hfl
 have hfi':=cf_in9' fs hfl
 have hfo:=cf_old fs hfl
 have hfa:=one_arr hf1
 replace hB2:=Lib.hid hB2
 replace hx2:=Lib.hid hx2
 replace hr2:=Lib.hid hr2
 replace hgn:=Lib.hid hgn
 replace hgs:=Lib.hid hgs
 replace hfm:=Lib.hid hfm
 clear hB1 hfs
 go_enter Tryz.func50,Tryz.ntmps50
 go_upto_region 1 with (first
  | (refine wpList_box_row 44 _ rfl rfl cs.toArray rfl ?_)
  | (refine wpList_alloc_row 44 rfl rfl (stZ 0).toArray st_zero ?_;try simp only [World.size_alloc]))
 try rw [hW2]
 clear hW2
 go_upto_region 3 with (first
  | (go_at_call 79;(with_reducible refine (cN.out _).mono ?_);rintro r w3 ⟨n,bn,rfl,hnI,hna,hb⟩;have hB3:=Lib.hid (hB2.out.trans (hb.mono hB2.out.size));have hb3:=Lib.hid hb;clear hb)
  | (go_at_call 12;(with_reducible refine (cU.out _).mono ?_);rintro r w4 ⟨hu,hb⟩;obtain rfl:=hget _ hu;have hB4:=Lib.hid (hB3.out.trans (hb.mono hB3.out.size));have hb4:=Lib.hid (hb3.out.trans (hb.mono hb3.out.size));clear hb hu))
 have hx4:=hx2.out.keep hb4.out
 have hr4:=hr2.out.keep hb4.out
 have hmid:=hx4.mid hfm.out
 have hcz:=heap_new w4 (.cells cfZ 41)
 clear hget cN cU
 go_upto_region 4 with (first
  | (refine wpList_load_at 41 _ rfl rfl w.heap.size 2 rfl fs _ hmid Tryz.underlying41 rfl hfi ?_)
  | (refine wpList_alloc_row 41 rfl rfl cfZ cf_zero ?_)
  | (refine wpList_store_at 41 _ _ rfl rfl w4.heap.size fs.toArray rfl rfl 41 cfZ hcz hfi' hfo hfa ?_
     rw [setRow_new]))
 have hbn:=below_new w4 (.cells fs.toArray 41)
 have hx5:=hx4.keep hbn
 have hr5:=hr4.keep hbn
 have hc5 : Row (w4.alloc (.cells fs.toArray 41)) w4.heap.size 41 fs:=heap_new w4 _
 have hB5:=hB4.out.trans (hbn.mono hB4.out.size)
 have hbc : w.heap.size + 1 < w4.heap.size:=hr4.lt
 have hlt5:=hc5.lt
 clear hx4 hr4 hmid hcz hbn hfi hfi' hfo hfa hB2 hB3 hB4 hb3 hb4 hx2 hr2
 generalize w4.alloc (.cells fs.toArray 41)=w5 at *
 generalize w4.heap.size=bc at *
 obtain ⟨old,hold⟩:=getx (hl) 26 (by decide)
 have hcell:=hx5.cell hold
 have hfroz:=hx5.froz 26
 have hx6:=hx5.set (off:=26) (.string yx)
 have hr6:=hr5.other (b2:=w.heap.size) (off:=26) (by omega) (.string yx)
 have hc6:=hc5.other (b2:=w.heap.size) (off:=26) (by omega) (.string yx)
 have hB6:=hB5.setCell (p:=⟨w.heap.size,26,none⟩) (by show w.heap.size≤w.heap.size;omega) (.string yx)
 have hD9:=hDD (.string yx)
 replace hx6:=Lib.hid hx6
 replace hr6:=Lib.hid hr6
 replace hc6:=Lib.hid hc6
 replace hB6:=Lib.hid hB6
 replace hD9:=Lib.hid hD9
 clear hx5 hr5 hc5 hB5 hold hDD
 go_upto_region 60 with fail
 generalize w5.setCell ⟨w.heap.size,26,none⟩ (.string yx)=w6 at *
 obtain ⟨gs,hgs9⟩ : ∃gs,fs=gs:=⟨_,rfl⟩
 rw [hgs9] at hc6 hD9
 generalize hDD9 : setAt cs 26 [.string yx]=D at *
 have hgl9 : gs.length=23:=by rw [← hgs9];exact hfl
 have hg19 : ∀x∈gs,x.oneCell' =true:=by rw [← hgs9];exact hf1
 have hP:=pend hx6.out hr6.out hc6.out (by rw [List.length_set];exact hl) hgl9 hg19 (set_one h1 rfl) hD9.out
 have i1:=cf_in9 _ hP.gl
 have i2:=cf_in9' _ hP.gl
 have i3:=st_in9 _ hP.dl
 have i4:=st_in9' _ hP.dl
 have i5:=st_old _ hP.dl
 have e1:=hP.e1
 have e2:=hP.e2
 have e3:=hP.e3
 have e4:=hP.e4
 have g1:=hP.g1
 have d1:=hP.d1
 have hQ:=Lib.hid (fun W9 (h : W9=(w6.setCells w.heap.size 2 gs).setRow (w.heap.size + 1) D.toArray)=>(show PutR .text 26 o cs s.data.toList w (.returned (.tuple #[.agg D.toArray,.bool gb])) W9 by rw [h];exact put_fin (z:=[.string yx]) hDD9 hB6.out hbc rfl (fun x hx=>by rw [List.mem_singleton.1 hx];rfl) (fun pv h=>by obtain ⟨m,hm,rfl⟩:=map_some (show (unescL s.data.toList).map PV.text=some pv from h);obtain ⟨e1,e2⟩:=hgs.out m hm;exact ⟨e1,by rw [e2];rfl⟩) (fun h=>by have h' : (unescL s.data.toList).map PV.text=none:=h;exact hgn.out (by cases hu : unescL s.data.toList with | none=>rfl | some t=>rw [hu] at h';cases h'))))
 clear hP hDD9
 go_wp2_with (first
  | (refine wpList_load_at 41 _ rfl rfl bc 0 rfl gs _ e1 Tryz.underlying41 rfl i1 ?_)
  | (refine wpList_store_mid rfl 41 _ _ rfl w.heap.size 2 gs.toArray rfl rfl e2 i2 g1 ?_;simp only [List.toList_toArray])
  | (refine wpList_load_at 44 _ rfl rfl w.heap.size 0 rfl D _ e3 Tryz.underlying44 rfl i3 ?_)
  | (refine wpList_store_at 44 _ _ rfl rfl (w.heap.size + 1) D.toArray rfl rfl 44 (stZ 0).toArray e4 i4 i5 d1 ?_))
 refine bodyPost_ret (resV2 rfl _ _ (w.heap.size + 1) 44 D.toArray (0,0) _ (.bool gb) rfl (hsetRow _ _ _ _ _ _ e4) Tryz.underlying44 rfl i4 rfl) rfl (hQ.out _ rfl)
set_option maxRecDepth 100000 in
set_option maxHeartbeats 4000000 in
theorem put_5 (cs : List Value) (o : Nat × Nat × Nat) (s : ByteArray) (w : World) (hs : s.size≤1099511627776) (hl : cs.length=29) (h1 : ∀x∈cs,x.oneCell' =true) :
 Calls Tryz.prog 50 #[.agg cs.toArray,.int .i64 5,.string s] w (PutR .flag 2 o cs s.data.toList w):=by
 have cN:=Lib.hid (fun W'=>rnumber_any s W' (by omega))
 have cU:=Lib.hid (fun W'=>runescape_any s W' hs)
 obtain ⟨yx,gb,hget,hgn,hgs⟩:=unesc_ans s.data.toList
 obtain ⟨W2,hW2⟩ : ∃x,(w.alloc (.cells cs.toArray 44)).alloc (.cells (stZ 0).toArray 44)=x:=⟨_,rfl⟩
 have hB1:=below_new w (.cells cs.toArray 44)
 have hB2:=hB1.trans ((below_new (w.alloc (.cells cs.toArray 44)) (.cells (stZ 0).toArray 44)).mono hB1.size)
 have hx2 : Row ((w.alloc (.cells cs.toArray 44)).alloc (.cells (stZ 0).toArray 44)) w.heap.size 44 cs:=Row.keep (heap_new w _) (below_new _ _)
 have hr2 : Row ((w.alloc (.cells cs.toArray 44)).alloc (.cells (stZ 0).toArray 44)) (w.heap.size + 1) 44 (stZ 0):=by have:=heap_new (w.alloc (.cells cs.toArray 44)) (.cells (stZ 0).toArray 44);rwa [World.size_alloc] at this
 rw [hW2] at hB2 hx2 hr2
 have hfl : ((cs.drop 2).take 23).length=23:=by rw [List.length_take,List.length_drop];omega
 have hf1 : ∀x∈(cs.drop 2).take 23,x.oneCell' =true:=fun x hx=>h1 x (List.mem_of_mem_drop (List.mem_of_mem_take hx))
 have hfm : ∀(j : Nat) x,((cs.drop 2).take 23)[j]? =some x→cs[2 + j]? =some x:=fun j x hj=>by
  have hj2 : j < 23:=by have:=(List.getElem?_eq_some_iff.1 hj).1;omega
  rwa [List.getElem?_take,if_pos hj2,List.getElem?_drop] at hj
 have hDD : ∀v,setAt cs 2 (((cs.drop 2).take 23).set 0 v)=setAt cs 2 [v]:=fun v=>fold_c (z:=[v]) hl rfl (by simp)
 generalize hfs : (cs.drop 2).take 23=fs at *
 have hfi:=cf_in9 fs hfl
 have hfi':=cf_in9' fs hfl
 have hfo:=cf_old fs hfl
 have hfa:=one_arr hf1
 replace hB2:=Lib.hid hB2
 replace hx2:=Lib.hid hx2
 replace hr2:=Lib.hid hr2
 replace hgn:=Lib.hid hgn
 replace hgs:=Lib.hid hgs
 replace hfm:=Lib.hid hfm
 clear hB1 hfs
 go_enter Tryz.func50,Tryz.ntmps50
 go_upto_region 1 with (first
  | (refine wpList_box_row 44 _ rfl rfl cs.toArray rfl ?_)
  | (refine wpList_alloc_row 44 rfl rfl (stZ 0).toArray st_zero ?_;try simp only [World.size_alloc]))
 try rw [hW2]
 clear hW2
 go_upto_region 3 with (first
  | (go_at_call 79;(with_reducible refine (cN.out _).mono ?_);rintro r w3 ⟨n,bn,rfl,hnI,hna,hb⟩;have hB3:=Lib.hid (hB2.out.trans (hb.mono hB2.out.size));have hb3:=Lib.hid hb;clear hb)
  | (go_at_call 12;(with_reducible refine (cU.out _).mono ?_);rintro r w4 ⟨hu,hb⟩;obtain rfl:=hget _ hu;have hB4:=Lib.hid (hB3.out.trans (hb.mono hB3.out.size));have hb4:=Lib.hid (hb3.out.trans (hb.mono hb3.out.size));clear hb hu))
 have hx4:=hx2.out.keep hb4.out
 have hr4:=hr2.out.keep hb4.out
 have hmid:=hx4.mid hfm.out
 have hcz:=heap_new w4 (.cells cfZ 41)
 clear hget cN cU
 go_upto_region 4 with (first
  | (refine wpList_load_at 41 _ rfl rfl w.heap.size 2 rfl fs _ hmid Tryz.underlying41 rfl hfi ?_)
  | (refine wpList_alloc_row 41 rfl rfl cfZ cf_zero ?_)
  | (refine wpList_store_at 41 _ _ rfl rfl w4.heap.size fs.toArray rfl rfl 41 cfZ hcz hfi' hfo hfa ?_
     rw [setRow_new]))
 have hbn:=below_new w4 (.cells fs.toArray 41)
 have hx5:=hx4.keep hbn
 have hr5:=hr4.keep hbn
 have hc5 : Row (w4.alloc (.cells fs.toArray 41)) w4.heap.size 41 fs:=heap_new w4 _
 have hB5:=hB4.out.trans (hbn.mono hB4.out.size)
 have hbc : w.heap.size + 1 < w4.heap.size:=hr4.lt
 have hlt5:=hc5.lt
 clear hx4 hr4 hmid hcz hbn hfi hfi' hfo hfa hB2 hB3 hB4 hb3 hb4 hx2 hr2
 generalize w4.alloc (.cells fs.toArray 41)=w5 at *
 generalize w4.heap.size=bc at *
 obtain ⟨q,hq⟩ : ∃q,(s.toList == [49])=q:=⟨_,rfl⟩
 have hqd : q=decide (s.data.toList=[49]):=by
  rw [← hq,ByteArray.toList_eq]
  cases h : (s.data.toList == [49]) with
  | true=>exact (decide_eq_true (beq_iff_eq.1 h)).symm
  | false=>exact (decide_eq_false (beq_eq_false_iff_ne.1 h)).symm
 replace hqd:=Lib.hid hqd
 obtain ⟨old,hold⟩:=getc (hfl) 0 (by decide)
 have hcell:=hc5.cell hold
 have hfroz:=hc5.froz 0
 have hx6:=hx5.other (b2:=bc) (off:=0) (by omega) (.bool q)
 have hr6:=hr5.other (b2:=bc) (off:=0) (by omega) (.bool q)
 have hc6:=hc5.set (off:=0) (.bool q)
 have hB6:=hB5.setCell (p:=⟨bc,0,none⟩) (by show w.heap.size≤bc;omega) (.bool q)
 have hD9:=hDD (.bool q)
 replace hx6:=Lib.hid hx6
 replace hr6:=Lib.hid hr6
 replace hc6:=Lib.hid hc6
 replace hB6:=Lib.hid hB6
 replace hD9:=Lib.hid hD9
 clear hx5 hr5 hc5 hB5 hold hDD
 go_upto_region 60 with fail
 try rw [hq]
 generalize w5.setCell ⟨bc,0,none⟩ (.bool q)=w6 at *
 obtain ⟨gs,hgs9⟩ : ∃gs,fs.set 0 (.bool q)=gs:=⟨_,rfl⟩
 rw [hgs9] at hc6 hD9
 generalize hDD9 : setAt cs 2 [.bool q]=D at *
 have hgl9 : gs.length=23:=by rw [← hgs9];rw [List.length_set];exact hfl
 have hg19 : ∀x∈gs,x.oneCell' =true:=by rw [← hgs9];exact set_one hf1 rfl
 have hP:=pend hx6.out hr6.out hc6.out hl hgl9 hg19 h1 hD9.out
 have i1:=cf_in9 _ hP.gl
 have i2:=cf_in9' _ hP.gl
 have i3:=st_in9 _ hP.dl
 have i4:=st_in9' _ hP.dl
 have i5:=st_old _ hP.dl
 have e1:=hP.e1
 have e2:=hP.e2
 have e3:=hP.e3
 have e4:=hP.e4
 have g1:=hP.g1
 have d1:=hP.d1
 have hQ:=Lib.hid (fun W9 (h : W9=(w6.setCells w.heap.size 2 gs).setRow (w.heap.size + 1) D.toArray)=>(show PutR .flag 2 o cs s.data.toList w (.returned (.tuple #[.agg D.toArray,.bool true])) W9 by rw [h];exact put_fin (z:=[.bool q]) hDD9 hB6.out hbc rfl (fun x hx=>by rw [List.mem_singleton.1 hx];rfl) (fun pv h=>by obtain rfl:=Option.some.inj (show some (PV.flag (decide (s.data.toList=[49])))=some pv from h);rw [← hqd.out];exact ⟨rfl,rfl⟩) (fun h=>by cases (show some (PV.flag (decide (s.data.toList=[49])))=none from h))))
 clear hP hDD9
 go_wp2_with (first
  | (refine wpList_load_at 41 _ rfl rfl bc 0 rfl gs _ e1 Tryz.underlying41 rfl i1 ?_)
  | (refine wpList_store_mid rfl 41 _ _ rfl w.heap.size 2 gs.toArray rfl rfl e2 i2 g1 ?_;simp only [List.toList_toArray])
  | (refine wpList_load_at 44 _ rfl rfl w.heap.size 0 rfl D _ e3 Tryz.underlying44 rfl i3 ?_)
  | (refine wpList_store_at 44 _ _ rfl rfl (w.heap.size + 1) D.toArray rfl rfl 44 (stZ 0).toArray e4 i4 i5 d1 ?_))
 refine bodyPost_ret (resV2 rfl _ _ (w.heap.size + 1) 44 D.toArray (0,0) _ (.bool true) rfl (hsetRow _ _ _ _ _ _ e4) Tryz.underlying44 rfl i4 rfl) rfl (hQ.out _ rfl)
set_option maxRecDepth 100000 in
set_option maxHeartbeats 4000000 in
theorem put_6 (cs : List Value) (o : Nat × Nat × Nat) (s : ByteArray) (w : World) (hs : s.size≤1099511627776) (hl : cs.length=29) (h1 : ∀x∈cs,x.oneCell' =true) :
 Calls Tryz.prog 50 #[.agg cs.toArray,.int .i64 6,.string s] w (PutR .text 3 o cs s.data.toList w):=by
 have cN:=Lib.hid (fun W'=>rnumber_any s W' (by omega))
 have cU:=Lib.hid (fun W'=>runescape_any s W' hs)
 obtain ⟨yx,gb,hget,hgn,hgs⟩:=unesc_ans s.data.toList
 obtain ⟨W2,hW2⟩ : ∃x,(w.alloc (.cells cs.toArray 44)).alloc (.cells (stZ 0).toArray 44)=x:=⟨_,rfl⟩
 have hB1:=below_new w (.cells cs.toArray 44)
 have hB2:=hB1.trans ((below_new (w.alloc (.cells cs.toArray 44)) (.cells (stZ 0).toArray 44)).mono hB1.size)
 have hx2 : Row ((w.alloc (.cells cs.toArray 44)).alloc (.cells (stZ 0).toArray 44)) w.heap.size 44 cs:=Row.keep (heap_new w _) (below_new _ _)
 have hr2 : Row ((w.alloc (.cells cs.toArray 44)).alloc (.cells (stZ 0).toArray 44)) (w.heap.size + 1) 44 (stZ 0):=by have:=heap_new (w.alloc (.cells cs.toArray 44)) (.cells (stZ 0).toArray 44);rwa [World.size_alloc] at this
 rw [hW2] at hB2 hx2 hr2
 have hfl : ((cs.drop 2).take 23).length=23:=by rw [List.length_take,List.length_drop];omega
 have hf1 : ∀x∈(cs.drop 2).take 23,x.oneCell' =true:=fun x hx=>h1 x (List.mem_of_mem_drop (List.mem_of_mem_take hx))
 have hfm : ∀(j : Nat) x,((cs.drop 2).take 23)[j]? =some x→cs[2 + j]? =some x:=fun j x hj=>by
  have hj2 : j < 23:=by have:=(List.getElem?_eq_some_iff.1 hj).1;omega
  rwa [List.getElem?_take,if_pos hj2,List.getElem?_drop] at hj
 have hDD : ∀v,setAt cs 2 (((cs.drop 2).take 23).set 1 v)=setAt cs 3 [v]:=fun v=>fold_c (z:=[v]) hl rfl (by simp)
 generalize hfs : (cs.drop 2).take 23=fs at *
 have hfi:=cf_in9 fs hfl
 have hfi':=cf_in9' fs hfl
 have hfo:=cf_old fs hfl
 have hfa:=one_arr hf1
 replace hB2:=Lib.hid hB2
 replace hx2:=Lib.hid hx2
 replace hr2:=Lib.hid hr2
 replace hgn:=Lib.hid hgn
 replace hgs:=Lib.hid hgs
 replace hfm:=Lib.hid hfm
 clear hB1 hfs
 go_enter Tryz.func50,Tryz.ntmps50
 go_upto_region 1 with (first
  | (refine wpList_box_row 44 _ rfl rfl cs.toArray rfl ?_)
  | (refine wpList_alloc_row 44 rfl rfl (stZ 0).toArray st_zero ?_;try simp only [World.size_alloc]))
 try rw [hW2]
 clear hW2
 go_upto_region 3 with (first
  | (go_at_call 79;(with_reducible refine (cN.out _).mono ?_);rintro r w3 ⟨n,bn,rfl,hnI,hna,hb⟩;have hB3:=Lib.hid (hB2.out.trans (hb.mono hB2.out.size));have hb3:=Lib.hid hb;clear hb)
  | (go_at_call 12;(with_reducible refine (cU.out _).mono ?_);rintro r w4 ⟨hu,hb⟩;obtain rfl:=hget _ hu;have hB4:=Lib.hid (hB3.out.trans (hb.mono hB3.out.size));have hb4:=Lib.hid (hb3.out.trans (hb.mono hb3.out.size));clear hb hu))
 have hx4:=hx2.out.keep hb4.out
 have hr4:=hr2.out.keep hb4.out
 have hmid:=hx4.mid hfm.out
 have hcz:=heap_new w4 (.cells cfZ 41)
 clear hget cN cU
 go_upto_region 4 with (first
  | (refine wpList_load_at 41 _ rfl rfl w.heap.size 2 rfl fs _ hmid Tryz.underlying41 rfl hfi ?_)
  | (refine wpList_alloc_row 41 rfl rfl cfZ cf_zero ?_)
  | (refine wpList_store_at 41 _ _ rfl rfl w4.heap.size fs.toArray rfl rfl 41 cfZ hcz hfi' hfo hfa ?_
     rw [setRow_new]))
 have hbn:=below_new w4 (.cells fs.toArray 41)
 have hx5:=hx4.keep hbn
 have hr5:=hr4.keep hbn
 have hc5 : Row (w4.alloc (.cells fs.toArray 41)) w4.heap.size 41 fs:=heap_new w4 _
 have hB5:=hB4.out.trans (hbn.mono hB4.out.size)
 have hbc : w.heap.size + 1 < w4.heap.size:=hr4.lt
 have hlt5:=hc5.lt
 clear hx4 hr4 hmid hcz hbn hfi hfi' hfo hfa hB2 hB3 hB4 hb3 hb4 hx2 hr2
 generalize w4.alloc (.cells fs.toArray 41)=w5 at *
 generalize w4.heap.size=bc at *
 obtain ⟨old,hold⟩:=getc (hfl) 1 (by decide)
 have hcell:=hc5.cell hold
 have hfroz:=hc5.froz 1
 have hx6:=hx5.other (b2:=bc) (off:=1) (by omega) (.string yx)
 have hr6:=hr5.other (b2:=bc) (off:=1) (by omega) (.string yx)
 have hc6:=hc5.set (off:=1) (.string yx)
 have hB6:=hB5.setCell (p:=⟨bc,1,none⟩) (by show w.heap.size≤bc;omega) (.string yx)
 have hD9:=hDD (.string yx)
 replace hx6:=Lib.hid hx6
 replace hr6:=Lib.hid hr6
 replace hc6:=Lib.hid hc6
 replace hB6:=Lib.hid hB6
 replace hD9:=Lib.hid hD9
 clear hx5 hr5 hc5 hB5 hold hDD
 go_upto_region 60 with fail
 generalize w5.setCell ⟨bc,1,none⟩ (.string yx)=w6 at *
 obtain ⟨gs,hgs9⟩ : ∃gs,fs.set 1 (.string yx)=gs:=⟨_,rfl⟩
 rw [hgs9] at hc6 hD9
 generalize hDD9 : setAt cs 3 [.string yx]=D at *
 have hgl9 : gs.length=23:=by rw [← hgs9];rw [List.length_set];exact hfl
 have hg19 : ∀x∈gs,x.oneCell' =true:=by rw [← hgs9];exact set_one hf1 rfl
 have hP:=pend hx6.out hr6.out hc6.out hl hgl9 hg19 h1 hD9.out
 have i1:=cf_in9 _ hP.gl
 have i2:=cf_in9' _ hP.gl
 have i3:=st_in9 _ hP.dl
 have i4:=st_in9' _ hP.dl
 have i5:=st_old _ hP.dl
 have e1:=hP.e1
 have e2:=hP.e2
 have e3:=hP.e3
 have e4:=hP.e4
 have g1:=hP.g1
 have d1:=hP.d1
 have hQ:=Lib.hid (fun W9 (h : W9=(w6.setCells w.heap.size 2 gs).setRow (w.heap.size + 1) D.toArray)=>(show PutR .text 3 o cs s.data.toList w (.returned (.tuple #[.agg D.toArray,.bool gb])) W9 by rw [h];exact put_fin (z:=[.string yx]) hDD9 hB6.out hbc rfl (fun x hx=>by rw [List.mem_singleton.1 hx];rfl) (fun pv h=>by obtain ⟨m,hm,rfl⟩:=map_some (show (unescL s.data.toList).map PV.text=some pv from h);obtain ⟨e1,e2⟩:=hgs.out m hm;exact ⟨e1,by rw [e2];rfl⟩) (fun h=>by have h' : (unescL s.data.toList).map PV.text=none:=h;exact hgn.out (by cases hu : unescL s.data.toList with | none=>rfl | some t=>rw [hu] at h';cases h'))))
 clear hP hDD9
 go_wp2_with (first
  | (refine wpList_load_at 41 _ rfl rfl bc 0 rfl gs _ e1 Tryz.underlying41 rfl i1 ?_)
  | (refine wpList_store_mid rfl 41 _ _ rfl w.heap.size 2 gs.toArray rfl rfl e2 i2 g1 ?_;simp only [List.toList_toArray])
  | (refine wpList_load_at 44 _ rfl rfl w.heap.size 0 rfl D _ e3 Tryz.underlying44 rfl i3 ?_)
  | (refine wpList_store_at 44 _ _ rfl rfl (w.heap.size + 1) D.toArray rfl rfl 44 (stZ 0).toArray e4 i4 i5 d1 ?_))
 refine bodyPost_ret (resV2 rfl _ _ (w.heap.size + 1) 44 D.toArray (0,0) _ (.bool gb) rfl (hsetRow _ _ _ _ _ _ e4) Tryz.underlying44 rfl i4 rfl) rfl (hQ.out _ rfl)
set_option maxRecDepth 100000 in
set_option maxHeartbeats 4000000 in
theorem put_7 (cs : List Value) (o : Nat × Nat × Nat) (s : ByteArray) (w : World) (hs : s.size≤1099511627776) (hl : cs.length=29) (h1 : ∀x∈cs,x.oneCell' =true) :
 Calls Tryz.prog 50 #[.agg cs.toArray,.int .i64 7,.string s] w (PutR .text 4 o cs s.data.toList w):=by
 have cN:=Lib.hid (fun W'=>rnumber_any s W' (by omega))
 have cU:=Lib.hid (fun W'=>runescape_any s W' hs)
 obtain ⟨yx,gb,hget,hgn,hgs⟩:=unesc_ans s.data.toList
 obtain ⟨W2,hW2⟩ : ∃x,(w.alloc (.cells cs.toArray 44)).alloc (.cells (stZ 0).toArray 44)=x:=⟨_,rfl⟩
 have hB1:=below_new w (.cells cs.toArray 44)
 have hB2:=hB1.trans ((below_new (w.alloc (.cells cs.toArray 44)) (.cells (stZ 0).toArray 44)).mono hB1.size)
 have hx2 : Row ((w.alloc (.cells cs.toArray 44)).alloc (.cells (stZ 0).toArray 44)) w.heap.size 44 cs:=Row.keep (heap_new w _) (below_new _ _)
 have hr2 : Row ((w.alloc (.cells cs.toArray 44)).alloc (.cells (stZ 0).toArray 44)) (w.heap.size + 1) 44 (stZ 0):=by have:=heap_new (w.alloc (.cells cs.toArray 44)) (.cells (stZ 0).toArray 44);rwa [World.size_alloc] at this
 rw [hW2] at hB2 hx2 hr2
 have hfl : ((cs.drop 2).take 23).length=23:=by rw [List.length_take,List.length_drop];omega
 have hf1 : ∀x∈(cs.drop 2).take 23,x.oneCell' =true:=fun x hx=>h1 x (List.mem_of_mem_drop (List.mem_of_mem_take hx))
 have hfm : ∀(j : Nat) x,((cs.drop 2).take 23)[j]? =some x→cs[2 + j]? =some x:=fun j x hj=>by
  have hj2 : j < 23:=by have:=(List.getElem?_eq_some_iff.1 hj).1;omega
  rwa [List.getElem?_take,if_pos hj2,List.getElem?_drop] at hj
 have hDD : ∀v,setAt cs 2 (((cs.drop 2).take 23).set 2 v)=setAt cs 4 [v]:=fun v=>fold_c (z:=[v]) hl rfl (by simp)
 generalize hfs : (cs.drop 2).take 23=fs at *
 have hfi:=cf_in9 fs hfl
 have hfi':=cf_in9' fs hfl
 have hfo:=cf_old fs hfl
 have hfa:=one_arr hf1
 replace hB2:=Lib.hid hB2
 replace hx2:=Lib.hid hx2
 replace hr2:=Lib.hid hr2
 replace hgn:=Lib.hid hgn
 replace hgs:=Lib.hid hgs
 replace hfm:=Lib.hid hfm
 clear hB1 hfs
 go_enter Tryz.func50,Tryz.ntmps50
 go_upto_region 1 with (first
  | (refine wpList_box_row 44 _ rfl rfl cs.toArray rfl ?_)
  | (refine wpList_alloc_row 44 rfl rfl (stZ 0).toArray st_zero ?_;try simp only [World.size_alloc]))
 try rw [hW2]
 clear hW2
 go_upto_region 3 with (first
  | (go_at_call 79;(with_reducible refine (cN.out _).mono ?_);rintro r w3 ⟨n,bn,rfl,hnI,hna,hb⟩;have hB3:=Lib.hid (hB2.out.trans (hb.mono hB2.out.size));have hb3:=Lib.hid hb;clear hb)
  | (go_at_call 12;(with_reducible refine (cU.out _).mono ?_);rintro r w4 ⟨hu,hb⟩;obtain rfl:=hget _ hu;have hB4:=Lib.hid (hB3.out.trans (hb.mono hB3.out.size));have hb4:=Lib.hid (hb3.out.trans (hb.mono hb3.out.size));clear hb hu))
 have hx4:=hx2.out.keep hb4.out
 have hr4:=hr2.out.keep hb4.out
 have hmid:=hx4.mid hfm.out
 have hcz:=heap_new w4 (.cells cfZ 41)
 clear hget cN cU
 go_upto_region 4 with (first
  | (refine wpList_load_at 41 _ rfl rfl w.heap.size 2 rfl fs _ hmid Tryz.underlying41 rfl hfi ?_)
  | (refine wpList_alloc_row 41 rfl rfl cfZ cf_zero ?_)
  | (refine wpList_store_at 41 _ _ rfl rfl w4.heap.size fs.toArray rfl rfl 41 cfZ hcz hfi' hfo hfa ?_
     rw [setRow_new]))
 have hbn:=below_new w4 (.cells fs.toArray 41)
 have hx5:=hx4.keep hbn
 have hr5:=hr4.keep hbn
 have hc5 : Row (w4.alloc (.cells fs.toArray 41)) w4.heap.size 41 fs:=heap_new w4 _
 have hB5:=hB4.out.trans (hbn.mono hB4.out.size)
 have hbc : w.heap.size + 1 < w4.heap.size:=hr4.lt
 have hlt5:=hc5.lt
 clear hx4 hr4 hmid hcz hbn hfi hfi' hfo hfa hB2 hB3 hB4 hb3 hb4 hx2 hr2
 generalize w4.alloc (.cells fs.toArray 41)=w5 at *
 generalize w4.heap.size=bc at *
 obtain ⟨old,hold⟩:=getc (hfl) 2 (by decide)
 have hcell:=hc5.cell hold
 have hfroz:=hc5.froz 2
 have hx6:=hx5.other (b2:=bc) (off:=2) (by omega) (.string yx)
 have hr6:=hr5.other (b2:=bc) (off:=2) (by omega) (.string yx)
 have hc6:=hc5.set (off:=2) (.string yx)
 have hB6:=hB5.setCell (p:=⟨bc,2,none⟩) (by show w.heap.size≤bc;omega) (.string yx)
 have hD9:=hDD (.string yx)
 replace hx6:=Lib.hid hx6
 replace hr6:=Lib.hid hr6
 replace hc6:=Lib.hid hc6
 replace hB6:=Lib.hid hB6
 replace hD9:=Lib.hid hD9
 clear hx5 hr5 hc5 hB5 hold hDD
 go_upto_region 60 with fail
 generalize w5.setCell ⟨bc,2,none⟩ (.string yx)=w6 at *
 obtain ⟨gs,hgs9⟩ : ∃gs,fs.set 2 (.string yx)=gs:=⟨_,rfl⟩
 rw [hgs9] at hc6 hD9
 generalize hDD9 : setAt cs 4 [.string yx]=D at *
 have hgl9 : gs.length=23:=by rw [← hgs9];rw [List.length_set];exact hfl
 have hg19 : ∀x∈gs,x.oneCell' =true:=by rw [← hgs9];exact set_one hf1 rfl
 have hP:=pend hx6.out hr6.out hc6.out hl hgl9 hg19 h1 hD9.out
 have i1:=cf_in9 _ hP.gl
 have i2:=cf_in9' _ hP.gl
 have i3:=st_in9 _ hP.dl
 have i4:=st_in9' _ hP.dl
 have i5:=st_old _ hP.dl
 have e1:=hP.e1
 have e2:=hP.e2
 have e3:=hP.e3
 have e4:=hP.e4
 have g1:=hP.g1
 have d1:=hP.d1
 have hQ:=Lib.hid (fun W9 (h : W9=(w6.setCells w.heap.size 2 gs).setRow (w.heap.size + 1) D.toArray)=>(show PutR .text 4 o cs s.data.toList w (.returned (.tuple #[.agg D.toArray,.bool gb])) W9 by rw [h];exact put_fin (z:=[.string yx]) hDD9 hB6.out hbc rfl (fun x hx=>by rw [List.mem_singleton.1 hx];rfl) (fun pv h=>by obtain ⟨m,hm,rfl⟩:=map_some (show (unescL s.data.toList).map PV.text=some pv from h);obtain ⟨e1,e2⟩:=hgs.out m hm;exact ⟨e1,by rw [e2];rfl⟩) (fun h=>by have h' : (unescL s.data.toList).map PV.text=none:=h;exact hgn.out (by cases hu : unescL s.data.toList with | none=>rfl | some t=>rw [hu] at h';cases h'))))
 clear hP hDD9
 go_wp2_with (first
  | (refine wpList_load_at 41 _ rfl rfl bc 0 rfl gs _ e1 Tryz.underlying41 rfl i1 ?_)
  | (refine wpList_store_mid rfl 41 _ _ rfl w.heap.size 2 gs.toArray rfl rfl e2 i2 g1 ?_;simp only [List.toList_toArray])
  | (refine wpList_load_at 44 _ rfl rfl w.heap.size 0 rfl D _ e3 Tryz.underlying44 rfl i3 ?_)
  | (refine wpList_store_at 44 _ _ rfl rfl (w.heap.size + 1) D.toArray rfl rfl 44 (stZ 0).toArray e4 i4 i5 d1 ?_))
 refine bodyPost_ret (resV2 rfl _ _ (w.heap.size + 1) 44 D.toArray (0,0) _ (.bool gb) rfl (hsetRow _ _ _ _ _ _ e4) Tryz.underlying44 rfl i4 rfl) rfl (hQ.out _ rfl)
set_option maxRecDepth 100000 in
set_option maxHeartbeats 4000000 in
theorem put_17 (cs : List Value) (o : Nat × Nat × Nat) (s : ByteArray) (w : World) (hs : s.size≤1099511627776) (hl : cs.length=29) (h1 : ∀x∈cs,x.oneCell' =true) :
 Calls Tryz.prog 50 #[.agg cs.toArray,.int .i64 17,.string s] w (PutR .num 14 o cs s.data.toList w):=by
 have cN:=Lib.hid (fun W'=>rnumber_any s W' (by omega))
 have cU:=Lib.hid (fun W'=>runescape_any s W' hs)
 obtain ⟨yx,gb,hget,hgn,hgs⟩:=unesc_ans s.data.toList
 obtain ⟨W2,hW2⟩ : ∃x,(w.alloc (.cells cs.toArray 44)).alloc (.cells (stZ 0).toArray 44)=x:=⟨_,rfl⟩
 have hB1:=below_new w (.cells cs.toArray 44)
 have hB2:=hB1.trans ((below_new (w.alloc (.cells cs.toArray 44)) (.cells (stZ 0).toArray 44)).mono hB1.size)
 have hx2 : Row ((w.alloc (.cells cs.toArray 44)).alloc (.cells (stZ 0).toArray 44)) w.heap.size 44 cs:=Row.keep (heap_new w _) (below_new _ _)
 have hr2 : Row ((w.alloc (.cells cs.toArray 44)).alloc (.cells (stZ 0).toArray 44)) (w.heap.size + 1) 44 (stZ 0):=by have:=heap_new (w.alloc (.cells cs.toArray 44)) (.cells (stZ 0).toArray 44);rwa [World.size_alloc] at this
 rw [hW2] at hB2 hx2 hr2
 have hfl : ((cs.drop 2).take 23).length=23:=by rw [List.length_take,List.length_drop];omega
 have hf1 : ∀x∈(cs.drop 2).take 23,x.oneCell' =true:=fun x hx=>h1 x (List.mem_of_mem_drop (List.mem_of_mem_take hx))
 have hfm : ∀(j : Nat) x,((cs.drop 2).take 23)[j]? =some x→cs[2 + j]? =some x:=fun j x hj=>by
  have hj2 : j < 23:=by have:=(List.getElem?_eq_some_iff.1 hj).1;omega
  rwa [List.getElem?_take,if_pos hj2,List.getElem?_drop] at hj
 have hDD : ∀v,setAt cs 2 (((cs.drop 2).take 23).set 12 v)=setAt cs 14 [v]:=fun v=>fold_c (z:=[v]) hl rfl (by simp)
 generalize hfs : (cs.drop 2).take 23=fs at *
 have hfi:=cf_in9 fs hfl
 have hfi':=cf_in9' fs hfl
 have hfo:=cf_old fs hfl
 have hfa:=one_arr hf1
 replace hB2:=Lib.hid hB2
 replace hx2:=Lib.hid hx2
 replace hr2:=Lib.hid hr2
 replace hgn:=Lib.hid hgn
 replace hgs:=Lib.hid hgs
 replace hfm:=Lib.hid hfm
 clear hB1 hfs
 go_enter Tryz.func50,Tryz.ntmps50
 go_upto_region 1 with (first
  | (refine wpList_box_row 44 _ rfl rfl cs.toArray rfl ?_)
  | (refine wpList_alloc_row 44 rfl rfl (stZ 0).toArray st_zero ?_;try simp only [World.size_alloc]))
 try rw [hW2]
 clear hW2
 go_upto_region 3 with (first
  | (go_at_call 79;(with_reducible refine (cN.out _).mono ?_);rintro r w3 ⟨n,bn,rfl,hnI,hna,hb⟩;have hB3:=Lib.hid (hB2.out.trans (hb.mono hB2.out.size));have hb3:=Lib.hid hb;clear hb)
  | (go_at_call 12;(with_reducible refine (cU.out _).mono ?_);rintro r w4 ⟨hu,hb⟩;obtain rfl:=hget _ hu;have hB4:=Lib.hid (hB3.out.trans (hb.mono hB3.out.size));have hb4:=Lib.hid (hb3.out.trans (hb.mono hb3.out.size));clear hb hu))
 have hx4:=hx2.out.keep hb4.out
 have hr4:=hr2.out.keep hb4.out
 have hmid:=hx4.mid hfm.out
 have hcz:=heap_new w4 (.cells cfZ 41)
 clear hget cN cU
 go_upto_region 4 with (first
  | (refine wpList_load_at 41 _ rfl rfl w.heap.size 2 rfl fs _ hmid Tryz.underlying41 rfl hfi ?_)
  | (refine wpList_alloc_row 41 rfl rfl cfZ cf_zero ?_)
  | (refine wpList_store_at 41 _ _ rfl rfl w4.heap.size fs.toArray rfl rfl 41 cfZ hcz hfi' hfo hfa ?_
     rw [setRow_new]))
 have hbn:=below_new w4 (.cells fs.toArray 41)
 have hx5:=hx4.keep hbn
 have hr5:=hr4.keep hbn
 have hc5 : Row (w4.alloc (.cells fs.toArray 41)) w4.heap.size 41 fs:=heap_new w4 _
 have hB5:=hB4.out.trans (hbn.mono hB4.out.size)
 have hbc : w.heap.size + 1 < w4.heap.size:=hr4.lt
 have hlt5:=hc5.lt
 clear hx4 hr4 hmid hcz hbn hfi hfi' hfo hfa hB2 hB3 hB4 hb3 hb4 hx2 hr2
 generalize w4.alloc (.cells fs.toArray 41)=w5 at *
 generalize w4.heap.size=bc at *
 obtain ⟨old,hold⟩:=getc (hfl) 12 (by decide)
 have hcell:=hc5.cell hold
 have hfroz:=hc5.froz 12
 have hx6:=hx5.other (b2:=bc) (off:=12) (by omega) (.int .i64 n)
 have hr6:=hr5.other (b2:=bc) (off:=12) (by omega) (.int .i64 n)
 have hc6:=hc5.set (off:=12) (.int .i64 n)
 have hB6:=hB5.setCell (p:=⟨bc,12,none⟩) (by show w.heap.size≤bc;omega) (.int .i64 n)
 have hD9:=hDD (.int .i64 n)
 replace hx6:=Lib.hid hx6
 replace hr6:=Lib.hid hr6
 replace hc6:=Lib.hid hc6
 replace hB6:=Lib.hid hB6
 replace hD9:=Lib.hid hD9
 clear hx5 hr5 hc5 hB5 hold hDD
 go_upto_region 60 with fail
 generalize w5.setCell ⟨bc,12,none⟩ (.int .i64 n)=w6 at *
 obtain ⟨gs,hgs9⟩ : ∃gs,fs.set 12 (.int .i64 n)=gs:=⟨_,rfl⟩
 rw [hgs9] at hc6 hD9
 generalize hDD9 : setAt cs 14 [.int .i64 n]=D at *
 have hgl9 : gs.length=23:=by rw [← hgs9];rw [List.length_set];exact hfl
 have hg19 : ∀x∈gs,x.oneCell' =true:=by rw [← hgs9];exact set_one hf1 rfl
 have hP:=pend hx6.out hr6.out hc6.out hl hgl9 hg19 h1 hD9.out
 have i1:=cf_in9 _ hP.gl
 have i2:=cf_in9' _ hP.gl
 have i3:=st_in9 _ hP.dl
 have i4:=st_in9' _ hP.dl
 have i5:=st_old _ hP.dl
 have e1:=hP.e1
 have e2:=hP.e2
 have e3:=hP.e3
 have e4:=hP.e4
 have g1:=hP.g1
 have d1:=hP.d1
 have hQ:=Lib.hid (fun W9 (h : W9=(w6.setCells w.heap.size 2 gs).setRow (w.heap.size + 1) D.toArray)=>(show PutR .num 14 o cs s.data.toList w (.returned (.tuple #[.agg D.toArray,.bool bn])) W9 by rw [h];exact put_fin (z:=[.int .i64 n]) hDD9 hB6.out hbc rfl (fun x hx=>by rw [List.mem_singleton.1 hx];rfl) (fun pv h=>by obtain ⟨m,hm,rfl⟩:=map_some (show (numL s.data.toList).map PV.num=some pv from h);rw [hna] at hm;cases bn with | false=>cases hm | true=>obtain rfl:=Option.some.inj hm;exact ⟨rfl,rfl⟩) (fun h=>by have h' : (numL s.data.toList).map PV.num=none:=h;rw [hna] at h';cases bn with | false=>rfl | true=>cases h')))
 clear hP hDD9
 go_wp2_with (first
  | (refine wpList_load_at 41 _ rfl rfl bc 0 rfl gs _ e1 Tryz.underlying41 rfl i1 ?_)
  | (refine wpList_store_mid rfl 41 _ _ rfl w.heap.size 2 gs.toArray rfl rfl e2 i2 g1 ?_;simp only [List.toList_toArray])
  | (refine wpList_load_at 44 _ rfl rfl w.heap.size 0 rfl D _ e3 Tryz.underlying44 rfl i3 ?_)
  | (refine wpList_store_at 44 _ _ rfl rfl (w.heap.size + 1) D.toArray rfl rfl 44 (stZ 0).toArray e4 i4 i5 d1 ?_))
 refine bodyPost_ret (resV2 rfl _ _ (w.heap.size + 1) 44 D.toArray (0,0) _ (.bool bn) rfl (hsetRow _ _ _ _ _ _ e4) Tryz.underlying44 rfl i4 rfl) rfl (hQ.out _ rfl)
set_option maxRecDepth 100000 in
set_option maxHeartbeats 4000000 in
theorem put_19 (cs : List Value) (o : Nat × Nat × Nat) (s : ByteArray) (w : World) (hs : s.size≤1099511627776) (hl : cs.length=29) (h1 : ∀x∈cs,x.oneCell' =true) :
 Calls Tryz.prog 50 #[.agg cs.toArray,.int .i64 19,.string s] w (PutR .num 16 o cs s.data.toList w):=by
 have cN:=Lib.hid (fun W'=>rnumber_any s W' (by omega))
 have cU:=Lib.hid (fun W'=>runescape_any s W' hs)
 obtain ⟨yx,gb,hget,hgn,hgs⟩:=unesc_ans s.data.toList
 obtain ⟨W2,hW2⟩ : ∃x,(w.alloc (.cells cs.toArray 44)).alloc (.cells (stZ 0).toArray 44)=x:=⟨_,rfl⟩
 have hB1:=below_new w (.cells cs.toArray 44)
 have hB2:=hB1.trans ((below_new (w.alloc (.cells cs.toArray 44)) (.cells (stZ 0).toArray 44)).mono hB1.size)
 have hx2 : Row ((w.alloc (.cells cs.toArray 44)).alloc (.cells (stZ 0).toArray 44)) w.heap.size 44 cs:=Row.keep (heap_new w _) (below_new _ _)
 have hr2 : Row ((w.alloc (.cells cs.toArray 44)).alloc (.cells (stZ 0).toArray 44)) (w.heap.size + 1) 44 (stZ 0):=by have:=heap_new (w.alloc (.cells cs.toArray 44)) (.cells (stZ 0).toArray 44);rwa [World.size_alloc] at this
 rw [hW2] at hB2 hx2 hr2
 have hfl : ((cs.drop 2).take 23).length=23:=by rw [List.length_take,List.length_drop];omega
 have hf1 : ∀x∈(cs.drop 2).take 23,x.oneCell' =true:=fun x hx=>h1 x (List.mem_of_mem_drop (List.mem_of_mem_take hx))
 have hfm : ∀(j : Nat) x,((cs.drop 2).take 23)[j]? =some x→cs[2 + j]? =some x:=fun j x hj=>by
  have hj2 : j < 23:=by have:=(List.getElem?_eq_some_iff.1 hj).1;omega
  rwa [List.getElem?_take,if_pos hj2,List.getElem?_drop] at hj
 have hDD : ∀v,setAt cs 2 (((cs.drop 2).take 23).set 14 v)=setAt cs 16 [v]:=fun v=>fold_c (z:=[v]) hl rfl (by simp)
 generalize hfs : (cs.drop 2).take 23=fs at *
 have hfi:=cf_in9 fs hfl
 have hfi':=cf_in9' fs hfl
 have hfo:=cf_old fs hfl
 have hfa:=one_arr hf1
 replace hB2:=Lib.hid hB2
 replace hx2:=Lib.hid hx2
 replace hr2:=Lib.hid hr2
 replace hgn:=Lib.hid hgn
 replace hgs:=Lib.hid hgs
 replace hfm:=Lib.hid hfm
 clear hB1 hfs
 go_enter Tryz.func50,Tryz.ntmps50
 go_upto_region 1 with (first
  | (refine wpList_box_row 44 _ rfl rfl cs.toArray rfl ?_)
  | (refine wpList_alloc_row 44 rfl rfl (stZ 0).toArray st_zero ?_;try simp only [World.size_alloc]))
 try rw [hW2]
 clear hW2
 go_upto_region 3 with (first
  | (go_at_call 79;(with_reducible refine (cN.out _).mono ?_);rintro r w3 ⟨n,bn,rfl,hnI,hna,hb⟩;have hB3:=Lib.hid (hB2.out.trans (hb.mono hB2.out.size));have hb3:=Lib.hid hb;clear hb)
  | (go_at_call 12;(with_reducible refine (cU.out _).mono ?_);rintro r w4 ⟨hu,hb⟩;obtain rfl:=hget _ hu;have hB4:=Lib.hid (hB3.out.trans (hb.mono hB3.out.size));have hb4:=Lib.hid (hb3.out.trans (hb.mono hb3.out.size));clear hb hu))
 have hx4:=hx2.out.keep hb4.out
 have hr4:=hr2.out.keep hb4.out
 have hmid:=hx4.mid hfm.out
 have hcz:=heap_new w4 (.cells cfZ 41)
 clear hget cN cU
 go_upto_region 4 with (first
  | (refine wpList_load_at 41 _ rfl rfl w.heap.size 2 rfl fs _ hmid Tryz.underlying41 rfl hfi ?_)
  | (refine wpList_alloc_row 41 rfl rfl cfZ cf_zero ?_)
  | (refine wpList_store_at 41 _ _ rfl rfl w4.heap.size fs.toArray rfl rfl 41 cfZ hcz hfi' hfo hfa ?_
     rw [setRow_new]))
 have hbn:=below_new w4 (.cells fs.toArray 41)
 have hx5:=hx4.keep hbn
 have hr5:=hr4.keep hbn
 have hc5 : Row (w4.alloc (.cells fs.toArray 41)) w4.heap.size 41 fs:=heap_new w4 _
 have hB5:=hB4.out.trans (hbn.mono hB4.out.size)
 have hbc : w.heap.size + 1 < w4.heap.size:=hr4.lt
 have hlt5:=hc5.lt
 clear hx4 hr4 hmid hcz hbn hfi hfi' hfo hfa hB2 hB3 hB4 hb3 hb4 hx2 hr2
 generalize w4.alloc (.cells fs.toArray 41)=w5 at *
 generalize w4.heap.size=bc at *
 obtain ⟨old,hold⟩:=getc (hfl) 14 (by decide)
 have hcell:=hc5.cell hold
 have hfroz:=hc5.froz 14
 have hx6:=hx5.other (b2:=bc) (off:=14) (by omega) (.int .i64 n)
 have hr6:=hr5.other (b2:=bc) (off:=14) (by omega) (.int .i64 n)
 have hc6:=hc5.set (off:=14) (.int .i64 n)
 have hB6:=hB5.setCell (p:=⟨bc,14,none⟩) (by show w.heap.size≤bc;omega) (.int .i64 n)
 have hD9:=hDD (.int .i64 n)
 replace hx6:=Lib.hid hx6
 replace hr6:=Lib.hid hr6
 replace hc6:=Lib.hid hc6
 replace hB6:=Lib.hid hB6
 replace hD9:=Lib.hid hD9
 clear hx5 hr5 hc5 hB5 hold hDD
 go_upto_region 60 with fail
 generalize w5.setCell ⟨bc,14,none⟩ (.int .i64 n)=w6 at *
 obtain ⟨gs,hgs9⟩ : ∃gs,fs.set 14 (.int .i64 n)=gs:=⟨_,rfl⟩
 rw [hgs9] at hc6 hD9
 generalize hDD9 : setAt cs 16 [.int .i64 n]=D at *
 have hgl9 : gs.length=23:=by rw [← hgs9];rw [List.length_set];exact hfl
 have hg19 : ∀x∈gs,x.oneCell' =true:=by rw [← hgs9];exact set_one hf1 rfl
 have hP:=pend hx6.out hr6.out hc6.out hl hgl9 hg19 h1 hD9.out
 have i1:=cf_in9 _ hP.gl
 have i2:=cf_in9' _ hP.gl
 have i3:=st_in9 _ hP.dl
 have i4:=st_in9' _ hP.dl
 have i5:=st_old _ hP.dl
 have e1:=hP.e1
 have e2:=hP.e2
 have e3:=hP.e3
 have e4:=hP.e4
 have g1:=hP.g1
 have d1:=hP.d1
 have hQ:=Lib.hid (fun W9 (h : W9=(w6.setCells w.heap.size 2 gs).setRow (w.heap.size + 1) D.toArray)=>(show PutR .num 16 o cs s.data.toList w (.returned (.tuple #[.agg D.toArray,.bool bn])) W9 by rw [h];exact put_fin (z:=[.int .i64 n]) hDD9 hB6.out hbc rfl (fun x hx=>by rw [List.mem_singleton.1 hx];rfl) (fun pv h=>by obtain ⟨m,hm,rfl⟩:=map_some (show (numL s.data.toList).map PV.num=some pv from h);rw [hna] at hm;cases bn with | false=>cases hm | true=>obtain rfl:=Option.some.inj hm;exact ⟨rfl,rfl⟩) (fun h=>by have h' : (numL s.data.toList).map PV.num=none:=h;rw [hna] at h';cases bn with | false=>rfl | true=>cases h')))
 clear hP hDD9
 go_wp2_with (first
  | (refine wpList_load_at 41 _ rfl rfl bc 0 rfl gs _ e1 Tryz.underlying41 rfl i1 ?_)
  | (refine wpList_store_mid rfl 41 _ _ rfl w.heap.size 2 gs.toArray rfl rfl e2 i2 g1 ?_;simp only [List.toList_toArray])
  | (refine wpList_load_at 44 _ rfl rfl w.heap.size 0 rfl D _ e3 Tryz.underlying44 rfl i3 ?_)
  | (refine wpList_store_at 44 _ _ rfl rfl (w.heap.size + 1) D.toArray rfl rfl 44 (stZ 0).toArray e4 i4 i5 d1 ?_))
 refine bodyPost_ret (resV2 rfl _ _ (w.heap.size + 1) 44 D.toArray (0,0) _ (.bool bn) rfl (hsetRow _ _ _ _ _ _ e4) Tryz.underlying44 rfl i4 rfl) rfl (hQ.out _ rfl)
set_option maxRecDepth 100000 in
set_option maxHeartbeats 4000000 in
theorem put_20 (cs : List Value) (o : Nat × Nat × Nat) (s : ByteArray) (w : World) (hs : s.size≤1099511627776) (hl : cs.length=29) (h1 : ∀x∈cs,x.oneCell' =true) :
 Calls Tryz.prog 50 #[.agg cs.toArray,.int .i64 20,.string s] w (PutR .num 17 o cs s.data.toList w):=by
 have cN:=Lib.hid (fun W'=>rnumber_any s W' (by omega))
 have cU:=Lib.hid (fun W'=>runescape_any s W' hs)
 obtain ⟨yx,gb,hget,hgn,hgs⟩:=unesc_ans s.data.toList
 obtain ⟨W2,hW2⟩ : ∃x,(w.alloc (.cells cs.toArray 44)).alloc (.cells (stZ 0).toArray 44)=x:=⟨_,rfl⟩
 have hB1:=below_new w (.cells cs.toArray 44)
 have hB2:=hB1.trans ((below_new (w.alloc (.cells cs.toArray 44)) (.cells (stZ 0).toArray 44)).mono hB1.size)
 have hx2 : Row ((w.alloc (.cells cs.toArray 44)).alloc (.cells (stZ 0).toArray 44)) w.heap.size 44 cs:=Row.keep (heap_new w _) (below_new _ _)
 have hr2 : Row ((w.alloc (.cells cs.toArray 44)).alloc (.cells (stZ 0).toArray 44)) (w.heap.size + 1) 44 (stZ 0):=by have:=heap_new (w.alloc (.cells cs.toArray 44)) (.cells (stZ 0).toArray 44);rwa [World.size_alloc] at this
 rw [hW2] at hB2 hx2 hr2
 have hfl : ((cs.drop 2).take 23).length=23:=by rw [List.length_take,List.length_drop];omega
 have hf1 : ∀x∈(cs.drop 2).take 23,x.oneCell' =true:=fun x hx=>h1 x (List.mem_of_mem_drop (List.mem_of_mem_take hx))
 have hfm : ∀(j : Nat) x,((cs.drop 2).take 23)[j]? =some x→cs[2 + j]? =some x:=fun j x hj=>by
  have hj2 : j < 23:=by have:=(List.getElem?_eq_some_iff.1 hj).1;omega
  rwa [List.getElem?_take,if_pos hj2,List.getElem?_drop] at hj
 have hDD : ∀v,setAt cs 2 (((cs.drop 2).take 23).set 15 v)=setAt cs 17 [v]:=fun v=>fold_c (z:=[v]) hl rfl (by simp)
 generalize hfs : (cs.drop 2).take 23=fs at *
 have hfi:=cf_in9 fs hfl
 have hfi':=cf_in9' fs hfl
 have hfo:=cf_old fs hfl
 have hfa:=one_arr hf1
 replace hB2:=Lib.hid hB2
 replace hx2:=Lib.hid hx2
 replace hr2:=Lib.hid hr2
 replace hgn:=Lib.hid hgn
 replace hgs:=Lib.hid hgs
 replace hfm:=Lib.hid hfm
 clear hB1 hfs
 go_enter Tryz.func50,Tryz.ntmps50
 go_upto_region 1 with (first
  | (refine wpList_box_row 44 _ rfl rfl cs.toArray rfl ?_)
  | (refine wpList_alloc_row 44 rfl rfl (stZ 0).toArray st_zero ?_;try simp only [World.size_alloc]))
 try rw [hW2]
 clear hW2
 go_upto_region 3 with (first
  | (go_at_call 79;(with_reducible refine (cN.out _).mono ?_);rintro r w3 ⟨n,bn,rfl,hnI,hna,hb⟩;have hB3:=Lib.hid (hB2.out.trans (hb.mono hB2.out.size));have hb3:=Lib.hid hb;clear hb)
  | (go_at_call 12;(with_reducible refine (cU.out _).mono ?_);rintro r w4 ⟨hu,hb⟩;obtain rfl:=hget _ hu;have hB4:=Lib.hid (hB3.out.trans (hb.mono hB3.out.size));have hb4:=Lib.hid (hb3.out.trans (hb.mono hb3.out.size));clear hb hu))
 have hx4:=hx2.out.keep hb4.out
 have hr4:=hr2.out.keep hb4.out
 have hmid:=hx4.mid hfm.out
 have hcz:=heap_new w4 (.cells cfZ 41)
 clear hget cN cU
 go_upto_region 4 with (first
  | (refine wpList_load_at 41 _ rfl rfl w.heap.size 2 rfl fs _ hmid Tryz.underlying41 rfl hfi ?_)
  | (refine wpList_alloc_row 41 rfl rfl cfZ cf_zero ?_)
  | (refine wpList_store_at 41 _ _ rfl rfl w4.heap.size fs.toArray rfl rfl 41 cfZ hcz hfi' hfo hfa ?_
     rw [setRow_new]))
 have hbn:=below_new w4 (.cells fs.toArray 41)
 have hx5:=hx4.keep hbn
 have hr5:=hr4.keep hbn
 have hc5 : Row (w4.alloc (.cells fs.toArray 41)) w4.heap.size 41 fs:=heap_new w4 _
 have hB5:=hB4.out.trans (hbn.mono hB4.out.size)
 have hbc : w.heap.size + 1 < w4.heap.size:=hr4.lt
 have hlt5:=hc5.lt
 clear hx4 hr4 hmid hcz hbn hfi hfi' hfo hfa hB2 hB3 hB4 hb3 hb4 hx2 hr2
 generalize w4.alloc (.cells fs.toArray 41)=w5 at *
 generalize w4.heap.size=bc at *
 obtain ⟨old,hold⟩:=getc (hfl) 15 (by decide)
 have hcell:=hc5.cell hold
 have hfroz:=hc5.froz 15
 have hx6:=hx5.other (b2:=bc) (off:=15) (by omega) (.int .i64 n)
 have hr6:=hr5.other (b2:=bc) (off:=15) (by omega) (.int .i64 n)
 have hc6:=hc5.set (off:=15) (.int .i64 n)
 have hB6:=hB5.setCell (p:=⟨bc,15,none⟩) (by show w.heap.size≤bc;omega) (.int .i64 n)
 have hD9:=hDD (.int .i64 n)
 replace hx6:=Lib.hid hx6
 replace hr6:=Lib.hid hr6
 replace hc6:=Lib.hid hc6
 replace hB6:=Lib.hid hB6
 replace hD9:=Lib.hid hD9
 clear hx5 hr5 hc5 hB5 hold hDD
 go_upto_region 60 with fail
 generalize w5.setCell ⟨bc,15,none⟩ (.int .i64 n)=w6 at *
 obtain ⟨gs,hgs9⟩ : ∃gs,fs.set 15 (.int .i64 n)=gs:=⟨_,rfl⟩
 rw [hgs9] at hc6 hD9
 generalize hDD9 : setAt cs 17 [.int .i64 n]=D at *
 have hgl9 : gs.length=23:=by rw [← hgs9];rw [List.length_set];exact hfl
 have hg19 : ∀x∈gs,x.oneCell' =true:=by rw [← hgs9];exact set_one hf1 rfl
 have hP:=pend hx6.out hr6.out hc6.out hl hgl9 hg19 h1 hD9.out
 have i1:=cf_in9 _ hP.gl
 have i2:=cf_in9' _ hP.gl
 have i3:=st_in9 _ hP.dl
 have i4:=st_in9' _ hP.dl
 have i5:=st_old _ hP.dl
 have e1:=hP.e1
 have e2:=hP.e2
 have e3:=hP.e3
 have e4:=hP.e4
 have g1:=hP.g1
 have d1:=hP.d1
 have hQ:=Lib.hid (fun W9 (h : W9=(w6.setCells w.heap.size 2 gs).setRow (w.heap.size + 1) D.toArray)=>(show PutR .num 17 o cs s.data.toList w (.returned (.tuple #[.agg D.toArray,.bool bn])) W9 by rw [h];exact put_fin (z:=[.int .i64 n]) hDD9 hB6.out hbc rfl (fun x hx=>by rw [List.mem_singleton.1 hx];rfl) (fun pv h=>by obtain ⟨m,hm,rfl⟩:=map_some (show (numL s.data.toList).map PV.num=some pv from h);rw [hna] at hm;cases bn with | false=>cases hm | true=>obtain rfl:=Option.some.inj hm;exact ⟨rfl,rfl⟩) (fun h=>by have h' : (numL s.data.toList).map PV.num=none:=h;rw [hna] at h';cases bn with | false=>rfl | true=>cases h')))
 clear hP hDD9
 go_wp2_with (first
  | (refine wpList_load_at 41 _ rfl rfl bc 0 rfl gs _ e1 Tryz.underlying41 rfl i1 ?_)
  | (refine wpList_store_mid rfl 41 _ _ rfl w.heap.size 2 gs.toArray rfl rfl e2 i2 g1 ?_;simp only [List.toList_toArray])
  | (refine wpList_load_at 44 _ rfl rfl w.heap.size 0 rfl D _ e3 Tryz.underlying44 rfl i3 ?_)
  | (refine wpList_store_at 44 _ _ rfl rfl (w.heap.size + 1) D.toArray rfl rfl 44 (stZ 0).toArray e4 i4 i5 d1 ?_))
 refine bodyPost_ret (resV2 rfl _ _ (w.heap.size + 1) 44 D.toArray (0,0) _ (.bool bn) rfl (hsetRow _ _ _ _ _ _ e4) Tryz.underlying44 rfl i4 rfl) rfl (hQ.out _ rfl)
set_option maxRecDepth 100000 in
set_option maxHeartbeats 4000000 in
theorem put_21 (cs : List Value) (o : Nat × Nat × Nat) (s : ByteArray) (w : World) (hs : s.size≤1099511627776) (hl : cs.length=29) (h1 : ∀x∈cs,x.oneCell' =true) :
 Calls Tryz.prog 50 #[.agg cs.toArray,.int .i64 21,.string s] w (PutR .text 18 o cs s.data.toList w):=by
 have cN:=Lib.hid (fun W'=>rnumber_any s W' (by omega))
 have cU:=Lib.hid (fun W'=>runescape_any s W' hs)
 obtain ⟨yx,gb,hget,hgn,hgs⟩:=unesc_ans s.data.toList
 obtain ⟨W2,hW2⟩ : ∃x,(w.alloc (.cells cs.toArray 44)).alloc (.cells (stZ 0).toArray 44)=x:=⟨_,rfl⟩
 have hB1:=below_new w (.cells cs.toArray 44)
 have hB2:=hB1.trans ((below_new (w.alloc (.cells cs.toArray 44)) (.cells (stZ 0).toArray 44)).mono hB1.size)
 have hx2 : Row ((w.alloc (.cells cs.toArray 44)).alloc (.cells (stZ 0).toArray 44)) w.heap.size 44 cs:=Row.keep (heap_new w _) (below_new _ _)
 have hr2 : Row ((w.alloc (.cells cs.toArray 44)).alloc (.cells (stZ 0).toArray 44)) (w.heap.size + 1) 44 (stZ 0):=by have:=heap_new (w.alloc (.cells cs.toArray 44)) (.cells (stZ 0).toArray 44);rwa [World.size_alloc] at this
 rw [hW2] at hB2 hx2 hr2
 have hfl : ((cs.drop 2).take 23).length=23:=by rw [List.length_take,List.length_drop];omega
 have hf1 : ∀x∈(cs.drop 2).take 23,x.oneCell' =true:=fun x hx=>h1 x (List.mem_of_mem_drop (List.mem_of_mem_take hx))
 have hfm : ∀(j : Nat) x,((cs.drop 2).take 23)[j]? =some x→cs[2 + j]? =some x:=fun j x hj=>by
  have hj2 : j < 23:=by have:=(List.getElem?_eq_some_iff.1 hj).1;omega
  rwa [List.getElem?_take,if_pos hj2,List.getElem?_drop] at hj
 have hDD : ∀v,setAt cs 2 (((cs.drop 2).take 23).set 16 v)=setAt cs 18 [v]:=fun v=>fold_c (z:=[v]) hl rfl (by simp)
 generalize hfs : (cs.drop 2).take 23=fs at *
 have hfi:=cf_in9 fs hfl
 have hfi':=cf_in9' fs hfl
 have hfo:=cf_old fs hfl
 have hfa:=one_arr hf1
 replace hB2:=Lib.hid hB2
 replace hx2:=Lib.hid hx2
 replace hr2:=Lib.hid hr2
 replace hgn:=Lib.hid hgn
 replace hgs:=Lib.hid hgs
 replace hfm:=Lib.hid hfm
 clear hB1 hfs
 go_enter Tryz.func50,Tryz.ntmps50
 go_upto_region 1 with (first
  | (refine wpList_box_row 44 _ rfl rfl cs.toArray rfl ?_)
  | (refine wpList_alloc_row 44 rfl rfl (stZ 0).toArray st_zero ?_;try simp only [World.size_alloc]))
 try rw [hW2]
 clear hW2
 go_upto_region 3 with (first
  | (go_at_call 79;(with_reducible refine (cN.out _).mono ?_);rintro r w3 ⟨n,bn,rfl,hnI,hna,hb⟩;have hB3:=Lib.hid (hB2.out.trans (hb.mono hB2.out.size));have hb3:=Lib.hid hb;clear hb)
  | (go_at_call 12;(with_reducible refine (cU.out _).mono ?_);rintro r w4 ⟨hu,hb⟩;obtain rfl:=hget _ hu;have hB4:=Lib.hid (hB3.out.trans (hb.mono hB3.out.size));have hb4:=Lib.hid (hb3.out.trans (hb.mono hb3.out.size));clear hb hu))
 have hx4:=hx2.out.keep hb4.out
 have hr4:=hr2.out.keep hb4.out
 have hmid:=hx4.mid hfm.out
 have hcz:=heap_new w4 (.cells cfZ 41)
 clear hget cN cU
 go_upto_region 4 with (first
  | (refine wpList_load_at 41 _ rfl rfl w.heap.size 2 rfl fs _ hmid Tryz.underlying41 rfl hfi ?_)
  | (refine wpList_alloc_row 41 rfl rfl cfZ cf_zero ?_)
  | (refine wpList_store_at 41 _ _ rfl rfl w4.heap.size fs.toArray rfl rfl 41 cfZ hcz hfi' hfo hfa ?_
     rw [setRow_new]))
 have hbn:=below_new w4 (.cells fs.toArray 41)
 have hx5:=hx4.keep hbn
 have hr5:=hr4.keep hbn
 have hc5 : Row (w4.alloc (.cells fs.toArray 41)) w4.heap.size 41 fs:=heap_new w4 _
 have hB5:=hB4.out.trans (hbn.mono hB4.out.size)
 have hbc : w.heap.size + 1 < w4.heap.size:=hr4.lt
 have hlt5:=hc5.lt
 clear hx4 hr4 hmid hcz hbn hfi hfi' hfo hfa hB2 hB3 hB4 hb3 hb4 hx2 hr2
 generalize w4.alloc (.cells fs.toArray 41)=w5 at *
 generalize w4.heap.size=bc at *
 obtain ⟨old,hold⟩:=getc (hfl) 16 (by decide)
 have hcell:=hc5.cell hold
 have hfroz:=hc5.froz 16
 have hx6:=hx5.other (b2:=bc) (off:=16) (by omega) (.string yx)
 have hr6:=hr5.other (b2:=bc) (off:=16) (by omega) (.string yx)
 have hc6:=hc5.set (off:=16) (.string yx)
 have hB6:=hB5.setCell (p:=⟨bc,16,none⟩) (by show w.heap.size≤bc;omega) (.string yx)
 have hD9:=hDD (.string yx)
 replace hx6:=Lib.hid hx6
 replace hr6:=Lib.hid hr6
 replace hc6:=Lib.hid hc6
 replace hB6:=Lib.hid hB6
 replace hD9:=Lib.hid hD9
 clear hx5 hr5 hc5 hB5 hold hDD
 go_upto_region 60 with fail
 generalize w5.setCell ⟨bc,16,none⟩ (.string yx)=w6 at *
 obtain ⟨gs,hgs9⟩ : ∃gs,fs.set 16 (.string yx)=gs:=⟨_,rfl⟩
 rw [hgs9] at hc6 hD9
 generalize hDD9 : setAt cs 18 [.string yx]=D at *
 have hgl9 : gs.length=23:=by rw [← hgs9];rw [List.length_set];exact hfl
 have hg19 : ∀x∈gs,x.oneCell' =true:=by rw [← hgs9];exact set_one hf1 rfl
 have hP:=pend hx6.out hr6.out hc6.out hl hgl9 hg19 h1 hD9.out
 have i1:=cf_in9 _ hP.gl
 have i2:=cf_in9' _ hP.gl
 have i3:=st_in9 _ hP.dl
 have i4:=st_in9' _ hP.dl
 have i5:=st_old _ hP.dl
 have e1:=hP.e1
 have e2:=hP.e2
 have e3:=hP.e3
 have e4:=hP.e4
 have g1:=hP.g1
 have d1:=hP.d1
 have hQ:=Lib.hid (fun W9 (h : W9=(w6.setCells w.heap.size 2 gs).setRow (w.heap.size + 1) D.toArray)=>(show PutR .text 18 o cs s.data.toList w (.returned (.tuple #[.agg D.toArray,.bool gb])) W9 by rw [h];exact put_fin (z:=[.string yx]) hDD9 hB6.out hbc rfl (fun x hx=>by rw [List.mem_singleton.1 hx];rfl) (fun pv h=>by obtain ⟨m,hm,rfl⟩:=map_some (show (unescL s.data.toList).map PV.text=some pv from h);obtain ⟨e1,e2⟩:=hgs.out m hm;exact ⟨e1,by rw [e2];rfl⟩) (fun h=>by have h' : (unescL s.data.toList).map PV.text=none:=h;exact hgn.out (by cases hu : unescL s.data.toList with | none=>rfl | some t=>rw [hu] at h';cases h'))))
 clear hP hDD9
 go_wp2_with (first
  | (refine wpList_load_at 41 _ rfl rfl bc 0 rfl gs _ e1 Tryz.underlying41 rfl i1 ?_)
  | (refine wpList_store_mid rfl 41 _ _ rfl w.heap.size 2 gs.toArray rfl rfl e2 i2 g1 ?_;simp only [List.toList_toArray])
  | (refine wpList_load_at 44 _ rfl rfl w.heap.size 0 rfl D _ e3 Tryz.underlying44 rfl i3 ?_)
  | (refine wpList_store_at 44 _ _ rfl rfl (w.heap.size + 1) D.toArray rfl rfl 44 (stZ 0).toArray e4 i4 i5 d1 ?_))
 refine bodyPost_ret (resV2 rfl _ _ (w.heap.size + 1) 44 D.toArray (0,0) _ (.bool gb) rfl (hsetRow _ _ _ _ _ _ e4) Tryz.underlying44 rfl i4 rfl) rfl (hQ.out _ rfl)
set_option maxRecDepth 100000 in
set_option maxHeartbeats 4000000 in
theorem put_23 (cs : List Value) (o : Nat × Nat × Nat) (s : ByteArray) (w : World) (hs : s.size≤1099511627776) (hl : cs.length=29) (h1 : ∀x∈cs,x.oneCell' =true) :
 Calls Tryz.prog 50 #[.agg cs.toArray,.int .i64 23,.string s] w (PutR .flag 20 o cs s.data.toList w):=by
 have cN:=Lib.hid (fun W'=>rnumber_any s W' (by omega))
 have cU:=Lib.hid (fun W'=>runescape_any s W' hs)
 obtain ⟨yx,gb,hget,hgn,hgs⟩:=unesc_ans s.data.toList
 obtain ⟨W2,hW2⟩ : ∃x,(w.alloc (.cells cs.toArray 44)).alloc (.cells (stZ 0).toArray 44)=x:=⟨_,rfl⟩
 have hB1:=below_new w (.cells cs.toArray 44)
 have hB2:=hB1.trans ((below_new (w.alloc (.cells cs.toArray 44)) (.cells (stZ 0).toArray 44)).mono hB1.size)
 have hx2 : Row ((w.alloc (.cells cs.toArray 44)).alloc (.cells (stZ 0).toArray 44)) w.heap.size 44 cs:=Row.keep (heap_new w _) (below_new _ _)
 have hr2 : Row ((w.alloc (.cells cs.toArray 44)).alloc (.cells (stZ 0).toArray 44)) (w.heap.size + 1) 44 (stZ 0):=by have:=heap_new (w.alloc (.cells cs.toArray 44)) (.cells (stZ 0).toArray 44);rwa [World.size_alloc] at this
 rw [hW2] at hB2 hx2 hr2
 have hfl : ((cs.drop 2).take 23).length=23:=by rw [List.length_take,List.length_drop];omega
 have hf1 : ∀x∈(cs.drop 2).take 23,x.oneCell' =true:=fun x hx=>h1 x (List.mem_of_mem_drop (List.mem_of_mem_take hx))
 have hfm : ∀(j : Nat) x,((cs.drop 2).take 23)[j]? =some x→cs[2 + j]? =some x:=fun j x hj=>by
  have hj2 : j < 23:=by have:=(List.getElem?_eq_some_iff.1 hj).1;omega
  rwa [List.getElem?_take,if_pos hj2,List.getElem?_drop] at hj
 have hDD : ∀v,setAt cs 2 (((cs.drop 2).take 23).set 18 v)=setAt cs 20 [v]:=fun v=>fold_c (z:=[v]) hl rfl (by simp)
 generalize hfs : (cs.drop 2).take 23=fs at *
 have hfi:=cf_in9 fs hfl
 have hfi':=cf_in9' fs hfl
 have hfo:=cf_old fs hfl
 have hfa:=one_arr hf1
 replace hB2:=Lib.hid hB2
 replace hx2:=Lib.hid hx2
 replace hr2:=Lib.hid hr2
 replace hgn:=Lib.hid hgn
 replace hgs:=Lib.hid hgs
 replace hfm:=Lib.hid hfm
 clear hB1 hfs
 go_enter Tryz.func50,Tryz.ntmps50
 go_upto_region 1 with (first
  | (refine wpList_box_row 44 _ rfl rfl cs.toArray rfl ?_)
  | (refine wpList_alloc_row 44 rfl rfl (stZ 0).toArray st_zero ?_;try simp only [World.size_alloc]))
 try rw [hW2]
 clear hW2
 go_upto_region 3 with (first
  | (go_at_call 79;(with_reducible refine (cN.out _).mono ?_);rintro r w3 ⟨n,bn,rfl,hnI,hna,hb⟩;have hB3:=Lib.hid (hB2.out.trans (hb.mono hB2.out.size));have hb3:=Lib.hid hb;clear hb)
  | (go_at_call 12;(with_reducible refine (cU.out _).mono ?_);rintro r w4 ⟨hu,hb⟩;obtain rfl:=hget _ hu;have hB4:=Lib.hid (hB3.out.trans (hb.mono hB3.out.size));have hb4:=Lib.hid (hb3.out.trans (hb.mono hb3.out.size));clear hb hu))
 have hx4:=hx2.out.keep hb4.out
 have hr4:=hr2.out.keep hb4.out
 have hmid:=hx4.mid hfm.out
 have hcz:=heap_new w4 (.cells cfZ 41)
 clear hget cN cU
 go_upto_region 4 with (first
  | (refine wpList_load_at 41 _ rfl rfl w.heap.size 2 rfl fs _ hmid Tryz.underlying41 rfl hfi ?_)
  | (refine wpList_alloc_row 41 rfl rfl cfZ cf_zero ?_)
  | (refine wpList_store_at 41 _ _ rfl rfl w4.heap.size fs.toArray rfl rfl 41 cfZ hcz hfi' hfo hfa ?_
     rw [setRow_new]))
 have hbn:=below_new w4 (.cells fs.toArray 41)
 have hx5:=hx4.keep hbn
 have hr5:=hr4.keep hbn
 have hc5 : Row (w4.alloc (.cells fs.toArray 41)) w4.heap.size 41 fs:=heap_new w4 _
 have hB5:=hB4.out.trans (hbn.mono hB4.out.size)
 have hbc : w.heap.size + 1 < w4.heap.size:=hr4.lt
 have hlt5:=hc5.lt
 clear hx4 hr4 hmid hcz hbn hfi hfi' hfo hfa hB2 hB3 hB4 hb3 hb4 hx2 hr2
 generalize w4.alloc (.cells fs.toArray 41)=w5 at *
 generalize w4.heap.size=bc at *
 obtain ⟨q,hq⟩ : ∃q,(s.toList == [49])=q:=⟨_,rfl⟩
 have hqd : q=decide (s.data.toList=[49]):=by
  rw [← hq,ByteArray.toList_eq]
  cases h : (s.data.toList == [49]) with
  | true=>exact (decide_eq_true (beq_iff_eq.1 h)).symm
  | false=>exact (decide_eq_false (beq_eq_false_iff_ne.1 h)).symm
 replace hqd:=Lib.hid hqd
 obtain ⟨old,hold⟩:=getc (hfl) 18 (by decide)
 have hcell:=hc5.cell hold
 have hfroz:=hc5.froz 18
 have hx6:=hx5.other (b2:=bc) (off:=18) (by omega) (.bool q)
 have hr6:=hr5.other (b2:=bc) (off:=18) (by omega) (.bool q)
 have hc6:=hc5.set (off:=18) (.bool q)
 have hB6:=hB5.setCell (p:=⟨bc,18,none⟩) (by show w.heap.size≤bc;omega) (.bool q)
 have hD9:=hDD (.bool q)
 replace hx6:=Lib.hid hx6
 replace hr6:=Lib.hid hr6
 replace hc6:=Lib.hid hc6
 replace hB6:=Lib.hid hB6
 replace hD9:=Lib.hid hD9
 clear hx5 hr5 hc5 hB5 hold hDD
 go_upto_region 60 with fail
 try rw [hq]
 generalize w5.setCell ⟨bc,18,none⟩ (.bool q)=w6 at *
 obtain ⟨gs,hgs9⟩ : ∃gs,fs.set 18 (.bool q)=gs:=⟨_,rfl⟩
 rw [hgs9] at hc6 hD9
 generalize hDD9 : setAt cs 20 [.bool q]=D at *
 have hgl9 : gs.length=23:=by rw [← hgs9];rw [List.length_set];exact hfl
 have hg19 : ∀x∈gs,x.oneCell' =true:=by rw [← hgs9];exact set_one hf1 rfl
 have hP:=pend hx6.out hr6.out hc6.out hl hgl9 hg19 h1 hD9.out
 have i1:=cf_in9 _ hP.gl
 have i2:=cf_in9' _ hP.gl
 have i3:=st_in9 _ hP.dl
 have i4:=st_in9' _ hP.dl
 have i5:=st_old _ hP.dl
 have e1:=hP.e1
 have e2:=hP.e2
 have e3:=hP.e3
 have e4:=hP.e4
 have g1:=hP.g1
 have d1:=hP.d1
 have hQ:=Lib.hid (fun W9 (h : W9=(w6.setCells w.heap.size 2 gs).setRow (w.heap.size + 1) D.toArray)=>(show PutR .flag 20 o cs s.data.toList w (.returned (.tuple #[.agg D.toArray,.bool true])) W9 by rw [h];exact put_fin (z:=[.bool q]) hDD9 hB6.out hbc rfl (fun x hx=>by rw [List.mem_singleton.1 hx];rfl) (fun pv h=>by obtain rfl:=Option.some.inj (show some (PV.flag (decide (s.data.toList=[49])))=some pv from h);rw [← hqd.out];exact ⟨rfl,rfl⟩) (fun h=>by cases (show some (PV.flag (decide (s.data.toList=[49])))=none from h))))
 clear hP hDD9
 go_wp2_with (first
  | (refine wpList_load_at 41 _ rfl rfl bc 0 rfl gs _ e1 Tryz.underlying41 rfl i1 ?_)
  | (refine wpList_store_mid rfl 41 _ _ rfl w.heap.size 2 gs.toArray rfl rfl e2 i2 g1 ?_;simp only [List.toList_toArray])
  | (refine wpList_load_at 44 _ rfl rfl w.heap.size 0 rfl D _ e3 Tryz.underlying44 rfl i3 ?_)
  | (refine wpList_store_at 44 _ _ rfl rfl (w.heap.size + 1) D.toArray rfl rfl 44 (stZ 0).toArray e4 i4 i5 d1 ?_))
 refine bodyPost_ret (resV2 rfl _ _ (w.heap.size + 1) 44 D.toArray (0,0) _ (.bool true) rfl (hsetRow _ _ _ _ _ _ e4) Tryz.underlying44 rfl i4 rfl) rfl (hQ.out _ rfl)
set_option maxRecDepth 100000 in
set_option maxHeartbeats 4000000 in
theorem put_24 (cs : List Value) (o : Nat × Nat × Nat) (s : ByteArray) (w : World) (hs : s.size≤1099511627776) (hl : cs.length=29) (h1 : ∀x∈cs,x.oneCell' =true) :
 Calls Tryz.prog 50 #[.agg cs.toArray,.int .i64 24,.string s] w (PutR .flag 21 o cs s.data.toList w):=by
 have cN:=Lib.hid (fun W'=>rnumber_any s W' (by omega))
 have cU:=Lib.hid (fun W'=>runescape_any s W' hs)
 obtain ⟨yx,gb,hget,hgn,hgs⟩:=unesc_ans s.data.toList
 obtain ⟨W2,hW2⟩ : ∃x,(w.alloc (.cells cs.toArray 44)).alloc (.cells (stZ 0).toArray 44)=x:=⟨_,rfl⟩
 have hB1:=below_new w (.cells cs.toArray 44)
 have hB2:=hB1.trans ((below_new (w.alloc (.cells cs.toArray 44)) (.cells (stZ 0).toArray 44)).mono hB1.size)
 have hx2 : Row ((w.alloc (.cells cs.toArray 44)).alloc (.cells (stZ 0).toArray 44)) w.heap.size 44 cs:=Row.keep (heap_new w _) (below_new _ _)
 have hr2 : Row ((w.alloc (.cells cs.toArray 44)).alloc (.cells (stZ 0).toArray 44)) (w.heap.size + 1) 44 (stZ 0):=by have:=heap_new (w.alloc (.cells cs.toArray 44)) (.cells (stZ 0).toArray 44);rwa [World.size_alloc] at this
 rw [hW2] at hB2 hx2 hr2
 have hfl : ((cs.drop 2).take 23).length=23:=by rw [List.length_take,List.length_drop];omega
 have hf1 : ∀x∈(cs.drop 2).take 23,x.oneCell' =true:=fun x hx=>h1 x (List.mem_of_mem_drop (List.mem_of_mem_take hx))
 have hfm : ∀(j : Nat) x,((cs.drop 2).take 23)[j]? =some x→cs[2 + j]? =some x:=fun j x hj=>by
  have hj2 : j < 23:=by have:=(List.getElem?_eq_some_iff.1 hj).1;omega
  rwa [List.getElem?_take,if_pos hj2,List.getElem?_drop] at hj
 have hDD : ∀v,setAt cs 2 (((cs.drop 2).take 23).set 19 v)=setAt cs 21 [v]:=fun v=>fold_c (z:=[v]) hl rfl (by simp)
 generalize hfs : (cs.drop 2).take 23=fs at *
 have hfi:=cf_in9 fs hfl
 have hfi':=cf_in9' fs hfl
 have hfo:=cf_old fs hfl
 have hfa:=one_arr hf1
 replace hB2:=Lib.hid hB2
 replace hx2:=Lib.hid hx2
 replace hr2:=Lib.hid hr2
 replace hgn:=Lib.hid hgn
 replace hgs:=Lib.hid hgs
 replace hfm:=Lib.hid hfm
 clear hB1 hfs
 go_enter Tryz.func50,Tryz.ntmps50
 go_upto_region 1 with (first
  | (refine wpList_box_row 44 _ rfl rfl cs.toArray rfl ?_)
  | (refine wpList_alloc_row 44 rfl rfl (stZ 0).toArray st_zero ?_;try simp only [World.size_alloc]))
 try rw [hW2]
 clear hW2
 go_upto_region 3 with (first
  | (go_at_call 79;(with_reducible refine (cN.out _).mono ?_);rintro r w3 ⟨n,bn,rfl,hnI,hna,hb⟩;have hB3:=Lib.hid (hB2.out.trans (hb.mono hB2.out.size));have hb3:=Lib.hid hb;clear hb)
  | (go_at_call 12;(with_reducible refine (cU.out _).mono ?_);rintro r w4 ⟨hu,hb⟩;obtain rfl:=hget _ hu;have hB4:=Lib.hid (hB3.out.trans (hb.mono hB3.out.size));have hb4:=Lib.hid (hb3.out.trans (hb.mono hb3.out.size));clear hb hu))
 have hx4:=hx2.out.keep hb4.out
 have hr4:=hr2.out.keep hb4.out
 have hmid:=hx4.mid hfm.out
 have hcz:=heap_new w4 (.cells cfZ 41)
 clear hget cN cU
 go_upto_region 4 with (first
  | (refine wpList_load_at 41 _ rfl rfl w.heap.size 2 rfl fs _ hmid Tryz.underlying41 rfl hfi ?_)
  | (refine wpList_alloc_row 41 rfl rfl cfZ cf_zero ?_)
  | (refine wpList_store_at 41 _ _ rfl rfl w4.heap.size fs.toArray rfl rfl 41 cfZ hcz hfi' hfo hfa ?_
     rw [setRow_new]))
 have hbn:=below_new w4 (.cells fs.toArray 41)
 have hx5:=hx4.keep hbn
 have hr5:=hr4.keep hbn
 have hc5 : Row (w4.alloc (.cells fs.toArray 41)) w4.heap.size 41 fs:=heap_new w4 _
 have hB5:=hB4.out.trans (hbn.mono hB4.out.size)
 have hbc : w.heap.size + 1 < w4.heap.size:=hr4.lt
 have hlt5:=hc5.lt
 clear hx4 hr4 hmid hcz hbn hfi hfi' hfo hfa hB2 hB3 hB4 hb3 hb4 hx2 hr2
 generalize w4.alloc (.cells fs.toArray 41)=w5 at *
 generalize w4.heap.size=bc at *
 obtain ⟨q,hq⟩ : ∃q,(s.toList == [49])=q:=⟨_,rfl⟩
 have hqd : q=decide (s.data.toList=[49]):=by
  rw [← hq,ByteArray.toList_eq]
  cases h : (s.data.toList == [49]) with
  | true=>exact (decide_eq_true (beq_iff_eq.1 h)).symm
  | false=>exact (decide_eq_false (beq_eq_false_iff_ne.1 h)).symm
 replace hqd:=Lib.hid hqd
 obtain ⟨old,hold⟩:=getc (hfl) 19 (by decide)
 have hcell:=hc5.cell hold
 have hfroz:=hc5.froz 19
 have hx6:=hx5.other (b2:=bc) (off:=19) (by omega) (.bool q)
 have hr6:=hr5.other (b2:=bc) (off:=19) (by omega) (.bool q)
 have hc6:=hc5.set (off:=19) (.bool q)
 have hB6:=hB5.setCell (p:=⟨bc,19,none⟩) (by show w.heap.size≤bc;omega) (.bool q)
 have hD9:=hDD (.bool q)
 replace hx6:=Lib.hid hx6
 replace hr6:=Lib.hid hr6
 replace hc6:=Lib.hid hc6
 replace hB6:=Lib.hid hB6
 replace hD9:=Lib.hid hD9
 clear hx5 hr5 hc5 hB5 hold hDD
 go_upto_region 60 with fail
 try rw [hq]
 generalize w5.setCell ⟨bc,19,none⟩ (.bool q)=w6 at *
 obtain ⟨gs,hgs9⟩ : ∃gs,fs.set 19 (.bool q)=gs:=⟨_,rfl⟩
 rw [hgs9] at hc6 hD9
 generalize hDD9 : setAt cs 21 [.bool q]=D at *
 have hgl9 : gs.length=23:=by rw [← hgs9];rw [List.length_set];exact hfl
 have hg19 : ∀x∈gs,x.oneCell' =true:=by rw [← hgs9];exact set_one hf1 rfl
 have hP:=pend hx6.out hr6.out hc6.out hl hgl9 hg19 h1 hD9.out
 have i1:=cf_in9 _ hP.gl
 have i2:=cf_in9' _ hP.gl
 have i3:=st_in9 _ hP.dl
 have i4:=st_in9' _ hP.dl
 have i5:=st_old _ hP.dl
 have e1:=hP.e1
 have e2:=hP.e2
 have e3:=hP.e3
 have e4:=hP.e4
 have g1:=hP.g1
 have d1:=hP.d1
 have hQ:=Lib.hid (fun W9 (h : W9=(w6.setCells w.heap.size 2 gs).setRow (w.heap.size + 1) D.toArray)=>(show PutR .flag 21 o cs s.data.toList w (.returned (.tuple #[.agg D.toArray,.bool true])) W9 by rw [h];exact put_fin (z:=[.bool q]) hDD9 hB6.out hbc rfl (fun x hx=>by rw [List.mem_singleton.1 hx];rfl) (fun pv h=>by obtain rfl:=Option.some.inj (show some (PV.flag (decide (s.data.toList=[49])))=some pv from h);rw [← hqd.out];exact ⟨rfl,rfl⟩) (fun h=>by cases (show some (PV.flag (decide (s.data.toList=[49])))=none from h))))
 clear hP hDD9
 go_wp2_with (first
  | (refine wpList_load_at 41 _ rfl rfl bc 0 rfl gs _ e1 Tryz.underlying41 rfl i1 ?_)
  | (refine wpList_store_mid rfl 41 _ _ rfl w.heap.size 2 gs.toArray rfl rfl e2 i2 g1 ?_;simp only [List.toList_toArray])
  | (refine wpList_load_at 44 _ rfl rfl w.heap.size 0 rfl D _ e3 Tryz.underlying44 rfl i3 ?_)
  | (refine wpList_store_at 44 _ _ rfl rfl (w.heap.size + 1) D.toArray rfl rfl 44 (stZ 0).toArray e4 i4 i5 d1 ?_))
 refine bodyPost_ret (resV2 rfl _ _ (w.heap.size + 1) 44 D.toArray (0,0) _ (.bool true) rfl (hsetRow _ _ _ _ _ _ e4) Tryz.underlying44 rfl i4 rfl) rfl (hQ.out _ rfl)
end Go.Proofs.YtmicohmbmgbnkaaGreatDoor
