/- The reference's put: the lists. (printed by wip/gen_slv2.py) -/
import Derived.Test.YtmicohmbmgbnkaaGreatDoorVb33
namespace Go.Proofs.YtmicohmbmgbnkaaGreatDoor
open Go Go.RowKit Go.Shelf
open Go.Lib (itoa)
set_option maxRecDepth 100000 in
set_option maxHeartbeats 4000000 in
theorem put_3 (cs : List Value) (o : Nat × Nat × Nat) (s : ByteArray) (w : World) (hs : s.size≤1099511627776) (hl : cs.length=29) (h1 : ∀x∈cs,x.oneCell' =true) :
 Calls Tryz.prog 50 #[.agg cs.toArray,.int .i64 3,.string s] w (PutR .ops 27 o cs s.data.toList w):=by
 have cN:=Lib.hid (fun W'=>rnumber_any s W' (by omega))
 have cU:=Lib.hid (fun W'=>runescape_any s W' hs)
 obtain ⟨yx,gb,hget,hgn,hgs⟩:=unesc_ans s.data.toList
 obtain ⟨W2,hW2⟩ : ∃x,(w.alloc (.cells cs.toArray 44)).alloc (.cells (stZ 0).toArray 44)=x:=⟨_,rfl⟩
 have hB1:=below_new w (.cells cs.toArray 44)
 have hB2:=hB1.trans ((below_new (w.alloc (.cells cs.toArray 44)) (.cells (stZ 0).toArray 44)).mono hB1.size)
 have hx2 : Row ((w.alloc (.cells cs.toArray 44)).alloc (.cells (stZ 0).toArray 44)) w.heap.size 44 cs:=Row.keep (heap_new w _) (below_new _ _)
 have hr2 : Row ((w.alloc (.cells cs.toArray 44)).alloc (.cells (stZ 0).toArray 44)) (w.heap.size + 1) 44 (stZ 0):=by have:=heap_new (w.alloc (.cells cs.toArray 44)) (.cells (stZ 0).toArray 44);rwa [World.size_alloc] at this
 rw [hW2] at hB2 hx2 hr2
 have hfl : ((cs.drop 2).take 23).length=23:=by rw [List.length_take,List.length_drop];omega
 have hf1 : ∀x∈(cs.drop 2).take 23,x.oneCell' =true:=fun x hx=>h1 x (List.mem_of_mem_drop (List.mem_of_mem_take hx))
 have hfm : ∀(j : Nat) x,((cs.drop 2).take 23)[j]? =some x→cs[2 + j]? =some x:=fun j x hj=>by
  have hj2 : j < 23:=by have:=(List.getElem?_eq_some_iff.1 hj).1;omega
  rwa [List.getElem?_take,if_pos hj2,List.getElem?_drop] at hj
 have hDD : ∀v,setAt (cs.set 27 v) 2 ((cs.drop 2).take 23)=setAt cs 27 [v]:=fun v=>fold_x (z:=[v]) hl (by simp) (by simp)
 generalize hfs : (cs.drop 2).take 23=fs at *
 have hfi:=cf_in9 fs hfl
 have hfi':=cf_in9' fs hfl
 have hfo:=cf_old fs hfl
 have hfa:=one_arr hf1
 replace hB2:=Lib.hid hB2
 replace hx2:=Lib.hid hx2
 replace hr2:=Lib.hid hr2
 replace hgn:=Lib.hid hgn
 replace hgs:=Lib.hid hgs
 replace hfm:=Lib.hid hfm
 clear hB1 hfs
 go_enter Tryz.func50,Tryz.ntmps50
 go_upto_region 1 with (first
  | (refine wpList_box_row 44 _ rfl rfl cs.toArray rfl ?_)
  | (refine wpList_alloc_row 44 rfl rfl (stZ 0).toArray st_zero ?_;try simp only [World.size_alloc]))
 try rw [hW2]
 clear hW2
 go_upto_region 3 with (first
  | (go_at_call 79;(with_reducible refine (cN.out _).mono ?_);rintro r w3 ⟨n,bn,rfl,hnI,hna,hb⟩;have hB3:=Lib.hid (hB2.out.trans (hb.mono hB2.out.size));have hb3:=Lib.hid hb;clear hb)
  | (go_at_call 12;(with_reducible refine (cU.out _).mono ?_);rintro r w4 ⟨hu,hb⟩;obtain rfl:=hget _ hu;have hB4:=Lib.hid (hB3.out.trans (hb.mono hB3.out.size));have hb4:=Lib.hid (hb3.out.trans (hb.mono hb3.out.size));clear hb hu))
 have hx4:=hx2.out.keep hb4.out
 have hr4:=hr2.out.keep hb4.out
 have hmid:=hx4.mid hfm.out
 have hcz:=heap_new w4 (.cells cfZ 41)
 clear hget cN cU
 go_upto_region 4 with (first
  | (refine wpList_load_at 41 _ rfl rfl w.heap.size 2 rfl fs _ hmid Tryz.underlying41 rfl hfi ?_)
  | (refine wpList_alloc_row 41 rfl rfl cfZ cf_zero ?_)
  | (refine wpList_store_at 41 _ _ rfl rfl w4.heap.size fs.toArray rfl rfl 41 cfZ hcz hfi' hfo hfa ?_
     rw [setRow_new]))
 have hbn:=below_new w4 (.cells fs.toArray 41)
 have hx5:=hx4.keep hbn
 have hr5:=hr4.keep hbn
 have hc5 : Row (w4.alloc (.cells fs.toArray 41)) w4.heap.size 41 fs:=heap_new w4 _
 have hB5:=hB4.out.trans (hbn.mono hB4.out.size)
 have hbc : w.heap.size + 1 < w4.heap.size:=hr4.lt
 have hlt5:=hc5.lt
 clear hx4 hr4 hmid hcz hbn hfi hfi' hfo hfa hB2 hB3 hB4 hb3 hb4 hx2 hr2
 generalize w4.alloc (.cells fs.toArray 41)=w5 at *
 generalize w4.heap.size=bc at *
 obtain ⟨old,hold⟩:=getx (hl) 27 (by decide)
 have cL:=rrecipe_any s w5 hs
 try rw [c44] at cL
 replace cL:=Lib.hid cL
 replace hx5:=Lib.hid hx5
 replace hr5:=Lib.hid hr5
 replace hc5:=Lib.hid hc5
 replace hold:=Lib.hid hold
 go_upto_region 60 with (first
  | (go_at_call 80;(with_reducible refine cL.out.mono ?_);rintro r w7 ⟨v,b,rfl,hb,hv1,hv2⟩
     obtain ⟨A,m,c,rfl⟩:=sl_shape hv1 hv2
     have hB7:=Lib.hid (hB5.trans (hb.mono hB5.size))
     have hx7:=hx5.out.keep hb
     have hr7:=Lib.hid (hr5.out.keep hb)
     have hc7:=hc5.out.keep hb
     have hv3:=Lib.hid (fun l hl=>And.intro (hv1 l hl).1 (OwnR.sln (hv1 l hl).2 hlt5))
     have hv4:=Lib.hid (fun hl=>(hv2 hl).1)
     have hcell:=hx7.cell hold.out
     have hfroz:=hx7.froz 27
     replace hx7:=Lib.hid hx7
     replace hc7:=Lib.hid hc7
     clear hb hv1 hv2))
 have hx6:=Lib.hid (hx7.out.set (off:=27) (.slice A m c))
 have hr6:=Lib.hid (hr7.out.other (b2:=w.heap.size) (off:=27) (by omega) (.slice A m c))
 have hc6:=hc7.out.other (b2:=w.heap.size) (off:=27) (by omega) (.slice A m c)
 have hB6:=Lib.hid (hB7.out.setCell (p:=⟨w.heap.size,27,none⟩) (by show w.heap.size≤w.heap.size;omega) (.slice A m c))
 have hD9:=hDD (.slice A m c)
 have hv6:=Lib.hid (fun l hl=>And.intro (hv3.out l hl).1 ((hv3.out l hl).2.but' (But.set (b:=w.heap.size) (off:=27) (.slice A m c)) (by omega)))
 clear hv3 hcell hfroz hx7 hr7 hc7 hB7
 generalize w7.setCell ⟨w.heap.size,27,none⟩ (.slice A m c)=w6 at *
 obtain ⟨gs,hgs9⟩ : ∃gs,fs=gs:=⟨_,rfl⟩
 rw [hgs9] at hc6 hD9
 generalize hDD9 : setAt cs 27 [.slice A m c]=D at *
 have hgl9 : gs.length=23:=by rw [← hgs9];exact hfl
 have hg19 : ∀x∈gs,x.oneCell' =true:=by rw [← hgs9];exact hf1
 have hP:=pend hx6.out hr6.out hc6 (by rw [List.length_set];exact hl) hgl9 hg19 (set_one h1 rfl) hD9
 have i1:=cf_in9 _ hP.gl
 have i2:=cf_in9' _ hP.gl
 have i3:=st_in9 _ hP.dl
 have i4:=st_in9' _ hP.dl
 have i5:=st_old _ hP.dl
 have e1:=hP.e1
 have e2:=hP.e2
 have e3:=hP.e3
 have e4:=hP.e4
 have g1:=hP.g1
 have d1:=hP.d1
 have hQ:=Lib.hid (fun W9 (h : W9=(w6.setCells w.heap.size 2 gs).setRow (w.heap.size + 1) D.toArray)=>(show PutR .ops 27 o cs s.data.toList w (.returned (.tuple #[.agg D.toArray,.bool b])) W9 by rw [h];exact put_fin (z:=[.slice A m c]) hDD9 hB6.out hbc rfl (fun x hx=>by rw [List.mem_singleton.1 hx];rfl) (fun pv h=>by obtain ⟨l,hl,rfl⟩:=map_some (show (allM rdOp (splitL 44 s.data.toList)).map PV.ops=some pv from h);obtain ⟨e,hN⟩:=hv6.out l hl;exact ⟨e,⟨_,rfl,hN⟩⟩) (fun h=>hv4.out (by have h' : (allM rdOp (splitL 44 s.data.toList)).map PV.ops=none:=h;cases hq : allM rdOp (splitL 44 s.data.toList) with | none=>rfl | some l=>rw [hq] at h';cases h'))))
 clear hP hDD9
 go_wp2_with (first
  | (refine wpList_load_at 41 _ rfl rfl bc 0 rfl gs _ e1 Tryz.underlying41 rfl i1 ?_)
  | (refine wpList_store_mid rfl 41 _ _ rfl w.heap.size 2 gs.toArray rfl rfl e2 i2 g1 ?_;simp only [List.toList_toArray])
  | (refine wpList_load_at 44 _ rfl rfl w.heap.size 0 rfl D _ e3 Tryz.underlying44 rfl i3 ?_)
  | (refine wpList_store_at 44 _ _ rfl rfl (w.heap.size + 1) D.toArray rfl rfl 44 (stZ 0).toArray e4 i4 i5 d1 ?_))
 refine bodyPost_ret (resV2 rfl _ _ (w.heap.size + 1) 44 D.toArray (0,0) _ (.bool b) rfl (hsetRow _ _ _ _ _ _ e4) Tryz.underlying44 rfl i4 rfl) rfl (hQ.out _ rfl)
set_option maxRecDepth 100000 in
set_option maxHeartbeats 4000000 in
theorem put_4 (cs : List Value) (o : Nat × Nat × Nat) (s : ByteArray) (w : World) (hs : s.size≤1099511627776) (hl : cs.length=29) (h1 : ∀x∈cs,x.oneCell' =true) :
 Calls Tryz.prog 50 #[.agg cs.toArray,.int .i64 4,.string s] w (PutR .nums 28 o cs s.data.toList w):=by
 have cN:=Lib.hid (fun W'=>rnumber_any s W' (by omega))
 have cU:=Lib.hid (fun W'=>runescape_any s W' hs)
 obtain ⟨yx,gb,hget,hgn,hgs⟩:=unesc_ans s.data.toList
 obtain ⟨W2,hW2⟩ : ∃x,(w.alloc (.cells cs.toArray 44)).alloc (.cells (stZ 0).toArray 44)=x:=⟨_,rfl⟩
 have hB1:=below_new w (.cells cs.toArray 44)
 have hB2:=hB1.trans ((below_new (w.alloc (.cells cs.toArray 44)) (.cells (stZ 0).toArray 44)).mono hB1.size)
 have hx2 : Row ((w.alloc (.cells cs.toArray 44)).alloc (.cells (stZ 0).toArray 44)) w.heap.size 44 cs:=Row.keep (heap_new w _) (below_new _ _)
 have hr2 : Row ((w.alloc (.cells cs.toArray 44)).alloc (.cells (stZ 0).toArray 44)) (w.heap.size + 1) 44 (stZ 0):=by have:=heap_new (w.alloc (.cells cs.toArray 44)) (.cells (stZ 0).toArray 44);rwa [World.size_alloc] at this
 rw [hW2] at hB2 hx2 hr2
 have hfl : ((cs.drop 2).take 23).length=23:=by rw [List.length_take,List.length_drop];omega
 have hf1 : ∀x∈(cs.drop 2).take 23,x.oneCell' =true:=fun x hx=>h1 x (List.mem_of_mem_drop (List.mem_of_mem_take hx))
 have hfm : ∀(j : Nat) x,((cs.drop 2).take 23)[j]? =some x→cs[2 + j]? =some x:=fun j x hj=>by
  have hj2 : j < 23:=by have:=(List.getElem?_eq_some_iff.1 hj).1;omega
  rwa [List.getElem?_take,if_pos hj2,List.getElem?_drop] at hj
 have hDD : ∀v,setAt (cs.set 28 v) 2 ((cs.drop 2).take 23)=setAt cs 28 [v]:=fun v=>fold_x (z:=[v]) hl (by simp) (by simp)
 generalize hfs : (cs.drop 2).take 23=fs at *
 have hfi:=cf_in9 fs hfl
 have hfi':=cf_in9' fs hfl
 have hfo:=cf_old fs hfl
 have hfa:=one_arr hf1
 replace hB2:=Lib.hid hB2
 replace hx2:=Lib.hid hx2
 replace hr2:=Lib.hid hr2
 replace hgn:=Lib.hid hgn
 replace hgs:=Lib.hid hgs
 replace hfm:=Lib.hid hfm
 clear hB1 hfs
 go_enter Tryz.func50,Tryz.ntmps50
 go_upto_region 1 with (first
  | (refine wpList_box_row 44 _ rfl rfl cs.toArray rfl ?_)
  | (refine wpList_alloc_row 44 rfl rfl (stZ 0).toArray st_zero ?_;try simp only [World.size_alloc]))
 try rw [hW2]
 clear hW2
 go_upto_region 3 with (first
  | (go_at_call 79;(with_reducible refine (cN.out _).mono ?_);rintro r w3 ⟨n,bn,rfl,hnI,hna,hb⟩;have hB3:=Lib.hid (hB2.out.trans (hb.mono hB2.out.size));have hb3:=Lib.hid hb;clear hb)
  | (go_at_call 12;(with_reducible refine (cU.out _).mono ?_);rintro r w4 ⟨hu,hb⟩;obtain rfl:=hget _ hu;have hB4:=Lib.hid (hB3.out.trans (hb.mono hB3.out.size));have hb4:=Lib.hid (hb3.out.trans (hb.mono hb3.out.size));clear hb hu))
 have hx4:=hx2.out.keep hb4.out
 have hr4:=hr2.out.keep hb4.out
 have hmid:=hx4.mid hfm.out
 have hcz:=heap_new w4 (.cells cfZ 41)
 clear hget cN cU
 go_upto_region 4 with (first
  | (refine wpList_load_at 41 _ rfl rfl w.heap.size 2 rfl fs _ hmid Tryz.underlying41 rfl hfi ?_)
  | (refine wpList_alloc_row 41 rfl rfl cfZ cf_zero ?_)
  | (refine wpList_store_at 41 _ _ rfl rfl w4.heap.size fs.toArray rfl rfl 41 cfZ hcz hfi' hfo hfa ?_
     rw [setRow_new]))
 have hbn:=below_new w4 (.cells fs.toArray 41)
 have hx5:=hx4.keep hbn
 have hr5:=hr4.keep hbn
 have hc5 : Row (w4.alloc (.cells fs.toArray 41)) w4.heap.size 41 fs:=heap_new w4 _
 have hB5:=hB4.out.trans (hbn.mono hB4.out.size)
 have hbc : w.heap.size + 1 < w4.heap.size:=hr4.lt
 have hlt5:=hc5.lt
 clear hx4 hr4 hmid hcz hbn hfi hfi' hfo hfa hB2 hB3 hB4 hb3 hb4 hx2 hr2
 generalize w4.alloc (.cells fs.toArray 41)=w5 at *
 generalize w4.heap.size=bc at *
 obtain ⟨old,hold⟩:=getx (hl) 28 (by decide)
 have cL:=rnumbers_any 44 s w5 hs
 try rw [c44] at cL
 replace cL:=Lib.hid cL
 replace hx5:=Lib.hid hx5
 replace hr5:=Lib.hid hr5
 replace hc5:=Lib.hid hc5
 replace hold:=Lib.hid hold
 go_upto_region 60 with (first
  | (go_at_call 81;(with_reducible refine cL.out.mono ?_);rintro r w7 ⟨v,b,rfl,hb,hv1,hv2⟩
     obtain ⟨A,m,c,rfl⟩:=sl_shape hv1 hv2
     have hB7:=Lib.hid (hB5.trans (hb.mono hB5.size))
     have hx7:=hx5.out.keep hb
     have hr7:=Lib.hid (hr5.out.keep hb)
     have hc7:=hc5.out.keep hb
     have hv3:=Lib.hid (fun l hl=>And.intro (hv1 l hl).1 (OwnR.sln (hv1 l hl).2 hlt5))
     have hv4:=Lib.hid (fun hl=>(hv2 hl).1)
     have hcell:=hx7.cell hold.out
     have hfroz:=hx7.froz 28
     replace hx7:=Lib.hid hx7
     replace hc7:=Lib.hid hc7
     clear hb hv1 hv2))
 have hx6:=Lib.hid (hx7.out.set (off:=28) (.slice A m c))
 have hr6:=Lib.hid (hr7.out.other (b2:=w.heap.size) (off:=28) (by omega) (.slice A m c))
 have hc6:=hc7.out.other (b2:=w.heap.size) (off:=28) (by omega) (.slice A m c)
 have hB6:=Lib.hid (hB7.out.setCell (p:=⟨w.heap.size,28,none⟩) (by show w.heap.size≤w.heap.size;omega) (.slice A m c))
 have hD9:=hDD (.slice A m c)
 have hv6:=Lib.hid (fun l hl=>And.intro (hv3.out l hl).1 ((hv3.out l hl).2.but' (But.set (b:=w.heap.size) (off:=28) (.slice A m c)) (by omega)))
 clear hv3 hcell hfroz hx7 hr7 hc7 hB7
 generalize w7.setCell ⟨w.heap.size,28,none⟩ (.slice A m c)=w6 at *
 obtain ⟨gs,hgs9⟩ : ∃gs,fs=gs:=⟨_,rfl⟩
 rw [hgs9] at hc6 hD9
 generalize hDD9 : setAt cs 28 [.slice A m c]=D at *
 have hgl9 : gs.length=23:=by rw [← hgs9];exact hfl
 have hg19 : ∀x∈gs,x.oneCell' =true:=by rw [← hgs9];exact hf1
 have hP:=pend hx6.out hr6.out hc6 (by rw [List.length_set];exact hl) hgl9 hg19 (set_one h1 rfl) hD9
 have i1:=cf_in9 _ hP.gl
 have i2:=cf_in9' _ hP.gl
 have i3:=st_in9 _ hP.dl
 have i4:=st_in9' _ hP.dl
 have i5:=st_old _ hP.dl
 have e1:=hP.e1
 have e2:=hP.e2
 have e3:=hP.e3
 have e4:=hP.e4
 have g1:=hP.g1
 have d1:=hP.d1
 have hQ:=Lib.hid (fun W9 (h : W9=(w6.setCells w.heap.size 2 gs).setRow (w.heap.size + 1) D.toArray)=>(show PutR .nums 28 o cs s.data.toList w (.returned (.tuple #[.agg D.toArray,.bool b])) W9 by rw [h];exact put_fin (z:=[.slice A m c]) hDD9 hB6.out hbc rfl (fun x hx=>by rw [List.mem_singleton.1 hx];rfl) (fun pv h=>by obtain ⟨l,hl,rfl⟩:=map_some (show (allM numL (splitL 44 s.data.toList)).map PV.nums=some pv from h);obtain ⟨e,hN⟩:=hv6.out l hl;exact ⟨e,⟨_,rfl,hN⟩⟩) (fun h=>hv4.out (by have h' : (allM numL (splitL 44 s.data.toList)).map PV.nums=none:=h;cases hq : allM numL (splitL 44 s.data.toList) with | none=>rfl | some l=>rw [hq] at h';cases h'))))
 clear hP hDD9
 go_wp2_with (first
  | (refine wpList_load_at 41 _ rfl rfl bc 0 rfl gs _ e1 Tryz.underlying41 rfl i1 ?_)
  | (refine wpList_store_mid rfl 41 _ _ rfl w.heap.size 2 gs.toArray rfl rfl e2 i2 g1 ?_;simp only [List.toList_toArray])
  | (refine wpList_load_at 44 _ rfl rfl w.heap.size 0 rfl D _ e3 Tryz.underlying44 rfl i3 ?_)
  | (refine wpList_store_at 44 _ _ rfl rfl (w.heap.size + 1) D.toArray rfl rfl 44 (stZ 0).toArray e4 i4 i5 d1 ?_))
 refine bodyPost_ret (resV2 rfl _ _ (w.heap.size + 1) 44 D.toArray (0,0) _ (.bool b) rfl (hsetRow _ _ _ _ _ _ e4) Tryz.underlying44 rfl i4 rfl) rfl (hQ.out _ rfl)
set_option maxRecDepth 100000 in
set_option maxHeartbeats 4000000 in
theorem put_8 (cs : List Value) (o : Nat × Nat × Nat) (s : ByteArray) (w : World) (hs : s.size≤1099511627776) (hl : cs.length=29) (h1 : ∀x∈cs,x.oneCell' =true) :
 Calls Tryz.prog 50 #[.agg cs.toArray,.int .i64 8,.string s] w (PutR .texts 5 o cs s.data.toList w):=by
 have cN:=Lib.hid (fun W'=>rnumber_any s W' (by omega))
 have cU:=Lib.hid (fun W'=>runescape_any s W' hs)
 obtain ⟨yx,gb,hget,hgn,hgs⟩:=unesc_ans s.data.toList
 obtain ⟨W2,hW2⟩ : ∃x,(w.alloc (.cells cs.toArray 44)).alloc (.cells (stZ 0).toArray 44)=x:=⟨_,rfl⟩
 have hB1:=below_new w (.cells cs.toArray 44)
 have hB2:=hB1.trans ((below_new (w.alloc (.cells cs.toArray 44)) (.cells (stZ 0).toArray 44)).mono hB1.size)
 have hx2 : Row ((w.alloc (.cells cs.toArray 44)).alloc (.cells (stZ 0).toArray 44)) w.heap.size 44 cs:=Row.keep (heap_new w _) (below_new _ _)
 have hr2 : Row ((w.alloc (.cells cs.toArray 44)).alloc (.cells (stZ 0).toArray 44)) (w.heap.size + 1) 44 (stZ 0):=by have:=heap_new (w.alloc (.cells cs.toArray 44)) (.cells (stZ 0).toArray 44);rwa [World.size_alloc] at this
 rw [hW2] at hB2 hx2 hr2
 have hfl : ((cs.drop 2).take 23).length=23:=by rw [List.length_take,List.length_drop];omega
 have hf1 : ∀x∈(cs.drop 2).take 23,x.oneCell' =true:=fun x hx=>h1 x (List.mem_of_mem_drop (List.mem_of_mem_take hx))
 have hfm : ∀(j : Nat) x,((cs.drop 2).take 23)[j]? =some x→cs[2 + j]? =some x:=fun j x hj=>by
  have hj2 : j < 23:=by have:=(List.getElem?_eq_some_iff.1 hj).1;omega
  rwa [List.getElem?_take,if_pos hj2,List.getElem?_drop] at hj
 have hDD : ∀v,setAt cs 2 (((cs.drop 2).take 23).set 3 v)=setAt cs 5 [v]:=fun v=>fold_c (z:=[v]) hl rfl (by simp)
 generalize hfs : (cs.drop 2).take 23=fs at *
 have hfi:=cf_in9 fs hfl
 have hfi':=cf_in9' fs hfl
 have hfo:=cf_old fs hfl
 have hfa:=one_arr hf1
 replace hB2:=Lib.hid hB2
 replace hx2:=Lib.hid hx2
 replace hr2:=Lib.hid hr2
 replace hgn:=Lib.hid hgn
 replace hgs:=Lib.hid hgs
 replace hfm:=Lib.hid hfm
 clear hB1 hfs
 go_enter Tryz.func50,Tryz.ntmps50
 go_upto_region 1 with (first
  | (refine wpList_box_row 44 _ rfl rfl cs.toArray rfl ?_)
  | (refine wpList_alloc_row 44 rfl rfl (stZ 0).toArray st_zero ?_;try simp only [World.size_alloc]))
 try rw [hW2]
 clear hW2
 go_upto_region 3 with (first
  | (go_at_call 79;(with_reducible refine (cN.out _).mono ?_);rintro r w3 ⟨n,bn,rfl,hnI,hna,hb⟩;have hB3:=Lib.hid (hB2.out.trans (hb.mono hB2.out.size));have hb3:=Lib.hid hb;clear hb)
  | (go_at_call 12;(with_reducible refine (cU.out _).mono ?_);rintro r w4 ⟨hu,hb⟩;obtain rfl:=hget _ hu;have hB4:=Lib.hid (hB3.out.trans (hb.mono hB3.out.size));have hb4:=Lib.hid (hb3.out.trans (hb.mono hb3.out.size));clear hb hu))
 have hx4:=hx2.out.keep hb4.out
 have hr4:=hr2.out.keep hb4.out
 have hmid:=hx4.mid hfm.out
 have hcz:=heap_new w4 (.cells cfZ 41)
 clear hget cN cU
 go_upto_region 4 with (first
  | (refine wpList_load_at 41 _ rfl rfl w.heap.size 2 rfl fs _ hmid Tryz.underlying41 rfl hfi ?_)
  | (refine wpList_alloc_row 41 rfl rfl cfZ cf_zero ?_)
  | (refine wpList_store_at 41 _ _ rfl rfl w4.heap.size fs.toArray rfl rfl 41 cfZ hcz hfi' hfo hfa ?_
     rw [setRow_new]))
 have hbn:=below_new w4 (.cells fs.toArray 41)
 have hx5:=hx4.keep hbn
 have hr5:=hr4.keep hbn
 have hc5 : Row (w4.alloc (.cells fs.toArray 41)) w4.heap.size 41 fs:=heap_new w4 _
 have hB5:=hB4.out.trans (hbn.mono hB4.out.size)
 have hbc : w.heap.size + 1 < w4.heap.size:=hr4.lt
 have hlt5:=hc5.lt
 clear hx4 hr4 hmid hcz hbn hfi hfi' hfo hfa hB2 hB3 hB4 hb3 hb4 hx2 hr2
 generalize w4.alloc (.cells fs.toArray 41)=w5 at *
 generalize w4.heap.size=bc at *
 obtain ⟨old,hold⟩:=getc (hfl) 3 (by decide)
 have cL:=rnames_any s w5 hs
 try rw [c44] at cL
 replace cL:=Lib.hid cL
 replace hx5:=Lib.hid hx5
 replace hr5:=Lib.hid hr5
 replace hc5:=Lib.hid hc5
 replace hold:=Lib.hid hold
 go_upto_region 20 with (first
  | (go_at_call 83;(with_reducible refine cL.out.mono ?_);rintro r w7 ⟨v,b,rfl,hb,hv1,hv2⟩
     obtain ⟨A,m,c,rfl⟩:=sl_shape hv1 hv2
     have hB7:=Lib.hid (hB5.trans (hb.mono hB5.size))
     have hx7:=hx5.out.keep hb
     have hr7:=Lib.hid (hr5.out.keep hb)
     have hc7:=hc5.out.keep hb
     have hv3:=Lib.hid (fun l hl=>And.intro (hv1 l hl).1 (OwnR.sln (hv1 l hl).2 hlt5))
     have hv4:=Lib.hid (fun hl=>(hv2 hl).1)
     have hcr:=hc7.range
     replace hx7:=Lib.hid hx7
     replace hc7:=Lib.hid hc7
     clear hb hv1 hv2))
 have hD9:=hDD (.slice A m c)
 have cM:=name_0 fs A m c w7 hfl hf1
 obtain ⟨gs,hgs9⟩ : ∃gs,fs.set 3 (.slice A m c)=gs:=⟨_,rfl⟩
 rw [hgs9] at cM hD9
 have hgl8 : gs.length=23:=by rw [← hgs9,List.length_set];exact hfl
 have hg18 : ∀x∈gs,x.oneCell' =true:=by rw [← hgs9];exact set_one hf1 rfl
 have i7:=cf_in9 fs hfl
 have i8:=cf_in9' gs hgl8
 have i9 : fs.toArray.size=gs.toArray.size:=by rw [List.size_toArray,List.size_toArray,hfl,hgl8]
 have i10:=one_arr hg18
 replace cM:=Lib.hid cM
 replace hgs9:=Lib.hid hgs9
 go_upto_region 60 with (first
  | (refine wpList_load_at 41 _ rfl rfl bc 0 rfl fs _ hcr Tryz.underlying41 rfl i7 ?_)
  | (go_at_call 84;(with_reducible refine cM.out.mono ?_);rintro r w8 ⟨rfl,hb⟩
     have hB8:=Lib.hid (hB7.out.trans (hb.mono hB7.out.size))
     have hx8:=Lib.hid (hx7.out.keep hb)
     have hr8:=Lib.hid (hr7.out.keep hb)
     have hc8:=hc7.out.keep hb
     have hc8' : w8.heap[bc]? =some (.cells fs.toArray 41 (0,0)):=hc8
     have hv5:=Lib.hid (fun l hl=>And.intro (hv3.out l hl).1 ((hv3.out l hl).2.but' (But.of_below (b:=bc) hb) (Nat.le_refl _)))
     replace hc8:=Lib.hid hc8
     clear hb)
  | (refine wpList_store_at 41 _ _ rfl rfl bc gs.toArray rfl rfl 41 fs.toArray hc8' i8 i9 i10 ?_))
 have hx6:=Lib.hid (hx8.out.setRow_other (b2:=bc) (by omega) gs.toArray)
 have hr6:=Lib.hid (hr8.out.setRow_other (b2:=bc) (by omega) gs.toArray)
 have hc6:=hc8.out.setRow gs
 have hB6:=Lib.hid (below_setRow hB8.out (show w.heap.size≤bc by omega) gs.toArray)
 have hv6:=Lib.hid (fun l hl=>And.intro (hv5.out l hl).1 ((hv5.out l hl).2.but' (But.row (b:=bc) gs.toArray) (Nat.le_refl _)))
 clear hv3 hv5 hx7 hr7 hc7 hB7 hx8 hr8 hc8 hc8' hB8 hcr i7 i8 i9 i10 hg18 hgl8
 generalize w8.setRow bc gs.toArray=w6 at *
 replace hgs9:=hgs9.out
 generalize hDD9 : setAt cs 5 [.slice A m c]=D at *
 have hgl9 : gs.length=23:=by rw [← hgs9];rw [List.length_set];exact hfl
 have hg19 : ∀x∈gs,x.oneCell' =true:=by rw [← hgs9];exact set_one hf1 rfl
 have hP:=pend hx6.out hr6.out hc6 hl hgl9 hg19 h1 hD9
 have i1:=cf_in9 _ hP.gl
 have i2:=cf_in9' _ hP.gl
 have i3:=st_in9 _ hP.dl
 have i4:=st_in9' _ hP.dl
 have i5:=st_old _ hP.dl
 have e1:=hP.e1
 have e2:=hP.e2
 have e3:=hP.e3
 have e4:=hP.e4
 have g1:=hP.g1
 have d1:=hP.d1
 have hQ:=Lib.hid (fun W9 (h : W9=(w6.setCells w.heap.size 2 gs).setRow (w.heap.size + 1) D.toArray)=>(show PutR .texts 5 o cs s.data.toList w (.returned (.tuple #[.agg D.toArray,.bool b])) W9 by rw [h];exact put_fin (z:=[.slice A m c]) hDD9 hB6.out hbc rfl (fun x hx=>by rw [List.mem_singleton.1 hx];rfl) (fun pv h=>by obtain ⟨l,hl,rfl⟩:=map_some (show (allM rdNameR (splitL 44 s.data.toList)).map PV.texts=some pv from h);obtain ⟨e,hN⟩:=hv6.out l hl;exact ⟨e,⟨_,rfl,hN⟩⟩) (fun h=>hv4.out (by have h' : (allM rdNameR (splitL 44 s.data.toList)).map PV.texts=none:=h;cases hq : allM rdNameR (splitL 44 s.data.toList) with | none=>rfl | some l=>rw [hq] at h';cases h'))))
 clear hP hDD9
 go_wp2_with (first
  | (refine wpList_load_at 41 _ rfl rfl bc 0 rfl gs _ e1 Tryz.underlying41 rfl i1 ?_)
  | (refine wpList_store_mid rfl 41 _ _ rfl w.heap.size 2 gs.toArray rfl rfl e2 i2 g1 ?_;simp only [List.toList_toArray])
  | (refine wpList_load_at 44 _ rfl rfl w.heap.size 0 rfl D _ e3 Tryz.underlying44 rfl i3 ?_)
  | (refine wpList_store_at 44 _ _ rfl rfl (w.heap.size + 1) D.toArray rfl rfl 44 (stZ 0).toArray e4 i4 i5 d1 ?_))
 refine bodyPost_ret (resV2 rfl _ _ (w.heap.size + 1) 44 D.toArray (0,0) _ (.bool b) rfl (hsetRow _ _ _ _ _ _ e4) Tryz.underlying44 rfl i4 rfl) rfl (hQ.out _ rfl)
set_option maxRecDepth 100000 in
set_option maxHeartbeats 4000000 in
theorem put_9 (cs : List Value) (o : Nat × Nat × Nat) (s : ByteArray) (w : World) (hs : s.size≤1099511627776) (hl : cs.length=29) (h1 : ∀x∈cs,x.oneCell' =true) :
 Calls Tryz.prog 50 #[.agg cs.toArray,.int .i64 9,.string s] w (PutR .texts 6 o cs s.data.toList w):=by
 have cN:=Lib.hid (fun W'=>rnumber_any s W' (by omega))
 have cU:=Lib.hid (fun W'=>runescape_any s W' hs)
 obtain ⟨yx,gb,hget,hgn,hgs⟩:=unesc_ans s.data.toList
 obtain ⟨W2,hW2⟩ : ∃x,(w.alloc (.cells cs.toArray 44)).alloc (.cells (stZ 0).toArray 44)=x:=⟨_,rfl⟩
 have hB1:=below_new w (.cells cs.toArray 44)
 have hB2:=hB1.trans ((below_new (w.alloc (.cells cs.toArray 44)) (.cells (stZ 0).toArray 44)).mono hB1.size)
 have hx2 : Row ((w.alloc (.cells cs.toArray 44)).alloc (.cells (stZ 0).toArray 44)) w.heap.size 44 cs:=Row.keep (heap_new w _) (below_new _ _)
 have hr2 : Row ((w.alloc (.cells cs.toArray 44)).alloc (.cells (stZ 0).toArray 44)) (w.heap.size + 1) 44 (stZ 0):=by have:=heap_new (w.alloc (.cells cs.toArray 44)) (.cells (stZ 0).toArray 44);rwa [World.size_alloc] at this
 rw [hW2] at hB2 hx2 hr2
 have hfl : ((cs.drop 2).take 23).length=23:=by rw [List.length_take,List.length_drop];omega
 have hf1 : ∀x∈(cs.drop 2).take 23,x.oneCell' =true:=fun x hx=>h1 x (List.mem_of_mem_drop (List.mem_of_mem_take hx))
 have hfm : ∀(j : Nat) x,((cs.drop 2).take 23)[j]? =some x→cs[2 + j]? =some x:=fun j x hj=>by
  have hj2 : j < 23:=by have:=(List.getElem?_eq_some_iff.1 hj).1;omega
  rwa [List.getElem?_take,if_pos hj2,List.getElem?_drop] at hj
 have hDD : ∀v,setAt cs 2 (((cs.drop 2).take 23).set 4 v)=setAt cs 6 [v]:=fun v=>fold_c (z:=[v]) hl rfl (by simp)
 generalize hfs : (cs.drop 2).take 23=fs at *
 have hfi:=cf_in9 fs hfl
 have hfi':=cf_in9' fs hfl
 have hfo:=cf_old fs hfl
 have hfa:=one_arr hf1
 replace hB2:=Lib.hid hB2
 replace hx2:=Lib.hid hx2
 replace hr2:=Lib.hid hr2
 replace hgn:=Lib.hid hgn
 replace hgs:=Lib.hid hgs
 replace hfm:=Lib.hid hfm
 clear hB1 hfs
 go_enter Tryz.func50,Tryz.ntmps50
 go_upto_region 1 with (first
  | (refine wpList_box_row 44 _ rfl rfl cs.toArray rfl ?_)
  | (refine wpList_alloc_row 44 rfl rfl (stZ 0).toArray st_zero ?_;try simp only [World.size_alloc]))
 try rw [hW2]
 clear hW2
 go_upto_region 3 with (first
  | (go_at_call 79;(with_reducible refine (cN.out _).mono ?_);rintro r w3 ⟨n,bn,rfl,hnI,hna,hb⟩;have hB3:=Lib.hid (hB2.out.trans (hb.mono hB2.out.size));have hb3:=Lib.hid hb;clear hb)
  | (go_at_call 12;(with_reducible refine (cU.out _).mono ?_);rintro r w4 ⟨hu,hb⟩;obtain rfl:=hget _ hu;have hB4:=Lib.hid (hB3.out.trans (hb.mono hB3.out.size));have hb4:=Lib.hid (hb3.out.trans (hb.mono hb3.out.size));clear hb hu))
 have hx4:=hx2.out.keep hb4.out
 have hr4:=hr2.out.keep hb4.out
 have hmid:=hx4.mid hfm.out
 have hcz:=heap_new w4 (.cells cfZ 41)
 clear hget cN cU
 go_upto_region 4 with (first
  | (refine wpList_load_at 41 _ rfl rfl w.heap.size 2 rfl fs _ hmid Tryz.underlying41 rfl hfi ?_)
  | (refine wpList_alloc_row 41 rfl rfl cfZ cf_zero ?_)
  | (refine wpList_store_at 41 _ _ rfl rfl w4.heap.size fs.toArray rfl rfl 41 cfZ hcz hfi' hfo hfa ?_
     rw [setRow_new]))
 have hbn:=below_new w4 (.cells fs.toArray 41)
 have hx5:=hx4.keep hbn
 have hr5:=hr4.keep hbn
 have hc5 : Row (w4.alloc (.cells fs.toArray 41)) w4.heap.size 41 fs:=heap_new w4 _
 have hB5:=hB4.out.trans (hbn.mono hB4.out.size)
 have hbc : w.heap.size + 1 < w4.heap.size:=hr4.lt
 have hlt5:=hc5.lt
 clear hx4 hr4 hmid hcz hbn hfi hfi' hfo hfa hB2 hB3 hB4 hb3 hb4 hx2 hr2
 generalize w4.alloc (.cells fs.toArray 41)=w5 at *
 generalize w4.heap.size=bc at *
 obtain ⟨old,hold⟩:=getc (hfl) 4 (by decide)
 have cL:=rnames_any s w5 hs
 try rw [c44] at cL
 replace cL:=Lib.hid cL
 replace hx5:=Lib.hid hx5
 replace hr5:=Lib.hid hr5
 replace hc5:=Lib.hid hc5
 replace hold:=Lib.hid hold
 go_upto_region 20 with (first
  | (go_at_call 83;(with_reducible refine cL.out.mono ?_);rintro r w7 ⟨v,b,rfl,hb,hv1,hv2⟩
     obtain ⟨A,m,c,rfl⟩:=sl_shape hv1 hv2
     have hB7:=Lib.hid (hB5.trans (hb.mono hB5.size))
     have hx7:=hx5.out.keep hb
     have hr7:=Lib.hid (hr5.out.keep hb)
     have hc7:=hc5.out.keep hb
     have hv3:=Lib.hid (fun l hl=>And.intro (hv1 l hl).1 (OwnR.sln (hv1 l hl).2 hlt5))
     have hv4:=Lib.hid (fun hl=>(hv2 hl).1)
     have hcr:=hc7.range
     replace hx7:=Lib.hid hx7
     replace hc7:=Lib.hid hc7
     clear hb hv1 hv2))
 have hD9:=hDD (.slice A m c)
 have cM:=name_1 fs A m c w7 hfl hf1
 obtain ⟨gs,hgs9⟩ : ∃gs,fs.set 4 (.slice A m c)=gs:=⟨_,rfl⟩
 rw [hgs9] at cM hD9
 have hgl8 : gs.length=23:=by rw [← hgs9,List.length_set];exact hfl
 have hg18 : ∀x∈gs,x.oneCell' =true:=by rw [← hgs9];exact set_one hf1 rfl
 have i7:=cf_in9 fs hfl
 have i8:=cf_in9' gs hgl8
 have i9 : fs.toArray.size=gs.toArray.size:=by rw [List.size_toArray,List.size_toArray,hfl,hgl8]
 have i10:=one_arr hg18
 replace cM:=Lib.hid cM
 replace hgs9:=Lib.hid hgs9
 go_upto_region 60 with (first
  | (refine wpList_load_at 41 _ rfl rfl bc 0 rfl fs _ hcr Tryz.underlying41 rfl i7 ?_)
  | (go_at_call 84;(with_reducible refine cM.out.mono ?_);rintro r w8 ⟨rfl,hb⟩
     have hB8:=Lib.hid (hB7.out.trans (hb.mono hB7.out.size))
     have hx8:=Lib.hid (hx7.out.keep hb)
     have hr8:=Lib.hid (hr7.out.keep hb)
     have hc8:=hc7.out.keep hb
     have hc8' : w8.heap[bc]? =some (.cells fs.toArray 41 (0,0)):=hc8
     have hv5:=Lib.hid (fun l hl=>And.intro (hv3.out l hl).1 ((hv3.out l hl).2.but' (But.of_below (b:=bc) hb) (Nat.le_refl _)))
     replace hc8:=Lib.hid hc8
     clear hb)
  | (refine wpList_store_at 41 _ _ rfl rfl bc gs.toArray rfl rfl 41 fs.toArray hc8' i8 i9 i10 ?_))
 have hx6:=Lib.hid (hx8.out.setRow_other (b2:=bc) (by omega) gs.toArray)
 have hr6:=Lib.hid (hr8.out.setRow_other (b2:=bc) (by omega) gs.toArray)
 have hc6:=hc8.out.setRow gs
 have hB6:=Lib.hid (below_setRow hB8.out (show w.heap.size≤bc by omega) gs.toArray)
 have hv6:=Lib.hid (fun l hl=>And.intro (hv5.out l hl).1 ((hv5.out l hl).2.but' (But.row (b:=bc) gs.toArray) (Nat.le_refl _)))
 clear hv3 hv5 hx7 hr7 hc7 hB7 hx8 hr8 hc8 hc8' hB8 hcr i7 i8 i9 i10 hg18 hgl8
 generalize w8.setRow bc gs.toArray=w6 at *
 replace hgs9:=hgs9.out
 generalize hDD9 : setAt cs 6 [.slice A m c]=D at *
 have hgl9 : gs.length=23:=by rw [← hgs9];rw [List.length_set];exact hfl
 have hg19 : ∀x∈gs,x.oneCell' =true:=by rw [← hgs9];exact set_one hf1 rfl
 have hP:=pend hx6.out hr6.out hc6 hl hgl9 hg19 h1 hD9
 have i1:=cf_in9 _ hP.gl
 have i2:=cf_in9' _ hP.gl
 have i3:=st_in9 _ hP.dl
 have i4:=st_in9' _ hP.dl
 have i5:=st_old _ hP.dl
 have e1:=hP.e1
 have e2:=hP.e2
 have e3:=hP.e3
 have e4:=hP.e4
 have g1:=hP.g1
 have d1:=hP.d1
 have hQ:=Lib.hid (fun W9 (h : W9=(w6.setCells w.heap.size 2 gs).setRow (w.heap.size + 1) D.toArray)=>(show PutR .texts 6 o cs s.data.toList w (.returned (.tuple #[.agg D.toArray,.bool b])) W9 by rw [h];exact put_fin (z:=[.slice A m c]) hDD9 hB6.out hbc rfl (fun x hx=>by rw [List.mem_singleton.1 hx];rfl) (fun pv h=>by obtain ⟨l,hl,rfl⟩:=map_some (show (allM rdNameR (splitL 44 s.data.toList)).map PV.texts=some pv from h);obtain ⟨e,hN⟩:=hv6.out l hl;exact ⟨e,⟨_,rfl,hN⟩⟩) (fun h=>hv4.out (by have h' : (allM rdNameR (splitL 44 s.data.toList)).map PV.texts=none:=h;cases hq : allM rdNameR (splitL 44 s.data.toList) with | none=>rfl | some l=>rw [hq] at h';cases h'))))
 clear hP hDD9
 go_wp2_with (first
  | (refine wpList_load_at 41 _ rfl rfl bc 0 rfl gs _ e1 Tryz.underlying41 rfl i1 ?_)
  | (refine wpList_store_mid rfl 41 _ _ rfl w.heap.size 2 gs.toArray rfl rfl e2 i2 g1 ?_;simp only [List.toList_toArray])
  | (refine wpList_load_at 44 _ rfl rfl w.heap.size 0 rfl D _ e3 Tryz.underlying44 rfl i3 ?_)
  | (refine wpList_store_at 44 _ _ rfl rfl (w.heap.size + 1) D.toArray rfl rfl 44 (stZ 0).toArray e4 i4 i5 d1 ?_))
 refine bodyPost_ret (resV2 rfl _ _ (w.heap.size + 1) 44 D.toArray (0,0) _ (.bool b) rfl (hsetRow _ _ _ _ _ _ e4) Tryz.underlying44 rfl i4 rfl) rfl (hQ.out _ rfl)
set_option maxRecDepth 100000 in
set_option maxHeartbeats 4000000 in
theorem put_10 (cs : List Value) (o : Nat × Nat × Nat) (s : ByteArray) (w : World) (hs : s.size≤1099511627776) (hl : cs.length=29) (h1 : ∀x∈cs,x.oneCell' =true) :
 Calls Tryz.prog 50 #[.agg cs.toArray,.int .i64 10,.string s] w (PutR .texts 7 o cs s.data.toList w):=by
 have cN:=Lib.hid (fun W'=>rnumber_any s W' (by omega))
 have cU:=Lib.hid (fun W'=>runescape_any s W' hs)
 obtain ⟨yx,gb,hget,hgn,hgs⟩:=unesc_ans s.data.toList
 obtain ⟨W2,hW2⟩ : ∃x,(w.alloc (.cells cs.toArray 44)).alloc (.cells (stZ 0).toArray 44)=x:=⟨_,rfl⟩
 have hB1:=below_new w (.cells cs.toArray 44)
 have hB2:=hB1.trans ((below_new (w.alloc (.cells cs.toArray 44)) (.cells (stZ 0).toArray 44)).mono hB1.size)
 have hx2 : Row ((w.alloc (.cells cs.toArray 44)).alloc (.cells (stZ 0).toArray 44)) w.heap.size 44 cs:=Row.keep (heap_new w _) (below_new _ _)
 have hr2 : Row ((w.alloc (.cells cs.toArray 44)).alloc (.cells (stZ 0).toArray 44)) (w.heap.size + 1) 44 (stZ 0):=by have:=heap_new (w.alloc (.cells cs.toArray 44)) (.cells (stZ 0).toArray 44);rwa [World.size_alloc] at this
 rw [hW2] at hB2 hx2 hr2
 have hfl : ((cs.drop 2).take 23).length=23:=by rw [List.length_take,List.length_drop];omega
 have hf1 : ∀x∈(cs.drop 2).take 23,x.oneCell' =true:=fun x hx=>h1 x (List.mem_of_mem_drop (List.mem_of_mem_take hx))
 have hfm : ∀(j : Nat) x,((cs.drop 2).take 23)[j]? =some x→cs[2 + j]? =some x:=fun j x hj=>by
  have hj2 : j < 23:=by have:=(List.getElem?_eq_some_iff.1 hj).1;omega
  rwa [List.getElem?_take,if_pos hj2,List.getElem?_drop] at hj
 have hDD : ∀v,setAt cs 2 (((cs.drop 2).take 23).set 5 v)=setAt cs 7 [v]:=fun v=>fold_c (z:=[v]) hl rfl (by simp)
 generalize hfs : (cs.drop 2).take 23=fs at *
 have hfi:=cf_in9 fs hfl
 have hfi':=cf_in9' fs hfl
 have hfo:=cf_old fs hfl
 have hfa:=one_arr hf1
 replace hB2:=Lib.hid hB2
 replace hx2:=Lib.hid hx2
 replace hr2:=Lib.hid hr2
 replace hgn:=Lib.hid hgn
 replace hgs:=Lib.hid hgs
 replace hfm:=Lib.hid hfm
 clear hB1 hfs
 go_enter Tryz.func50,Tryz.ntmps50
 go_upto_region 1 with (first
  | (refine wpList_box_row 44 _ rfl rfl cs.toArray rfl ?_)
  | (refine wpList_alloc_row 44 rfl rfl (stZ 0).toArray st_zero ?_;try simp only [World.size_alloc]))
 try rw [hW2]
 clear hW2
 go_upto_region 3 with (first
  | (go_at_call 79;(with_reducible refine (cN.out _).mono ?_);rintro r w3 ⟨n,bn,rfl,hnI,hna,hb⟩;have hB3:=Lib.hid (hB2.out.trans (hb.mono hB2.out.size));have hb3:=Lib.hid hb;clear hb)
  | (go_at_call 12;(with_reducible refine (cU.out _).mono ?_);rintro r w4 ⟨hu,hb⟩;obtain rfl:=hget _ hu;have hB4:=Lib.hid (hB3.out.trans (hb.mono hB3.out.size));have hb4:=Lib.hid (hb3.out.trans (hb.mono hb3.out.size));clear hb hu))
 have hx4:=hx2.out.keep hb4.out
 have hr4:=hr2.out.keep hb4.out
 have hmid:=hx4.mid hfm.out
 have hcz:=heap_new w4 (.cells cfZ 41)
 clear hget cN cU
 go_upto_region 4 with (first
  | (refine wpList_load_at 41 _ rfl rfl w.heap.size 2 rfl fs _ hmid Tryz.underlying41 rfl hfi ?_)
  | (refine wpList_alloc_row 41 rfl rfl cfZ cf_zero ?_)
  | (refine wpList_store_at 41 _ _ rfl rfl w4.heap.size fs.toArray rfl rfl 41 cfZ hcz hfi' hfo hfa ?_
     rw [setRow_new]))
 have hbn:=below_new w4 (.cells fs.toArray 41)
 have hx5:=hx4.keep hbn
 have hr5:=hr4.keep hbn
 have hc5 : Row (w4.alloc (.cells fs.toArray 41)) w4.heap.size 41 fs:=heap_new w4 _
 have hB5:=hB4.out.trans (hbn.mono hB4.out.size)
 have hbc : w.heap.size + 1 < w4.heap.size:=hr4.lt
 have hlt5:=hc5.lt
 clear hx4 hr4 hmid hcz hbn hfi hfi' hfo hfa hB2 hB3 hB4 hb3 hb4 hx2 hr2
 generalize w4.alloc (.cells fs.toArray 41)=w5 at *
 generalize w4.heap.size=bc at *
 obtain ⟨old,hold⟩:=getc (hfl) 5 (by decide)
 have cL:=rnames_any s w5 hs
 try rw [c44] at cL
 replace cL:=Lib.hid cL
 replace hx5:=Lib.hid hx5
 replace hr5:=Lib.hid hr5
 replace hc5:=Lib.hid hc5
 replace hold:=Lib.hid hold
 go_upto_region 20 with (first
  | (go_at_call 83;(with_reducible refine cL.out.mono ?_);rintro r w7 ⟨v,b,rfl,hb,hv1,hv2⟩
     obtain ⟨A,m,c,rfl⟩:=sl_shape hv1 hv2
     have hB7:=Lib.hid (hB5.trans (hb.mono hB5.size))
     have hx7:=hx5.out.keep hb
     have hr7:=Lib.hid (hr5.out.keep hb)
     have hc7:=hc5.out.keep hb
     have hv3:=Lib.hid (fun l hl=>And.intro (hv1 l hl).1 (OwnR.sln (hv1 l hl).2 hlt5))
     have hv4:=Lib.hid (fun hl=>(hv2 hl).1)
     have hcr:=hc7.range
     replace hx7:=Lib.hid hx7
     replace hc7:=Lib.hid hc7
     clear hb hv1 hv2))
 have hD9:=hDD (.slice A m c)
 have cM:=name_2 fs A m c w7 hfl hf1
 obtain ⟨gs,hgs9⟩ : ∃gs,fs.set 5 (.slice A m c)=gs:=⟨_,rfl⟩
 rw [hgs9] at cM hD9
 have hgl8 : gs.length=23:=by rw [← hgs9,List.length_set];exact hfl
 have hg18 : ∀x∈gs,x.oneCell' =true:=by rw [← hgs9];exact set_one hf1 rfl
 have i7:=cf_in9 fs hfl
 have i8:=cf_in9' gs hgl8
 have i9 : fs.toArray.size=gs.toArray.size:=by rw [List.size_toArray,List.size_toArray,hfl,hgl8]
 have i10:=one_arr hg18
 replace cM:=Lib.hid cM
 replace hgs9:=Lib.hid hgs9
 go_upto_region 60 with (first
  | (refine wpList_load_at 41 _ rfl rfl bc 0 rfl fs _ hcr Tryz.underlying41 rfl i7 ?_)
  | (go_at_call 84;(with_reducible refine cM.out.mono ?_);rintro r w8 ⟨rfl,hb⟩
     have hB8:=Lib.hid (hB7.out.trans (hb.mono hB7.out.size))
     have hx8:=Lib.hid (hx7.out.keep hb)
     have hr8:=Lib.hid (hr7.out.keep hb)
     have hc8:=hc7.out.keep hb
     have hc8' : w8.heap[bc]? =some (.cells fs.toArray 41 (0,0)):=hc8
     have hv5:=Lib.hid (fun l hl=>And.intro (hv3.out l hl).1 ((hv3.out l hl).2.but' (But.of_below (b:=bc) hb) (Nat.le_refl _)))
     replace hc8:=Lib.hid hc8
     clear hb)
  | (refine wpList_store_at 41 _ _ rfl rfl bc gs.toArray rfl rfl 41 fs.toArray hc8' i8 i9 i10 ?_))
 have hx6:=Lib.hid (hx8.out.setRow_other (b2:=bc) (by omega) gs.toArray)
 have hr6:=Lib.hid (hr8.out.setRow_other (b2:=bc) (by omega) gs.toArray)
 have hc6:=hc8.out.setRow gs
 have hB6:=Lib.hid (below_setRow hB8.out (show w.heap.size≤bc by omega) gs.toArray)
 have hv6:=Lib.hid (fun l hl=>And.intro (hv5.out l hl).1 ((hv5.out l hl).2.but' (But.row (b:=bc) gs.toArray) (Nat.le_refl _)))
 clear hv3 hv5 hx7 hr7 hc7 hB7 hx8 hr8 hc8 hc8' hB8 hcr i7 i8 i9 i10 hg18 hgl8
 generalize w8.setRow bc gs.toArray=w6 at *
 replace hgs9:=hgs9.out
 generalize hDD9 : setAt cs 7 [.slice A m c]=D at *
 have hgl9 : gs.length=23:=by rw [← hgs9];rw [List.length_set];exact hfl
 have hg19 : ∀x∈gs,x.oneCell' =true:=by rw [← hgs9];exact set_one hf1 rfl
 have hP:=pend hx6.out hr6.out hc6 hl hgl9 hg19 h1 hD9
 have i1:=cf_in9 _ hP.gl
 have i2:=cf_in9' _ hP.gl
 have i3:=st_in9 _ hP.dl
 have i4:=st_in9' _ hP.dl
 have i5:=st_old _ hP.dl
 have e1:=hP.e1
 have e2:=hP.e2
 have e3:=hP.e3
 have e4:=hP.e4
 have g1:=hP.g1
 have d1:=hP.d1
 have hQ:=Lib.hid (fun W9 (h : W9=(w6.setCells w.heap.size 2 gs).setRow (w.heap.size + 1) D.toArray)=>(show PutR .texts 7 o cs s.data.toList w (.returned (.tuple #[.agg D.toArray,.bool b])) W9 by rw [h];exact put_fin (z:=[.slice A m c]) hDD9 hB6.out hbc rfl (fun x hx=>by rw [List.mem_singleton.1 hx];rfl) (fun pv h=>by obtain ⟨l,hl,rfl⟩:=map_some (show (allM rdNameR (splitL 44 s.data.toList)).map PV.texts=some pv from h);obtain ⟨e,hN⟩:=hv6.out l hl;exact ⟨e,⟨_,rfl,hN⟩⟩) (fun h=>hv4.out (by have h' : (allM rdNameR (splitL 44 s.data.toList)).map PV.texts=none:=h;cases hq : allM rdNameR (splitL 44 s.data.toList) with | none=>rfl | some l=>rw [hq] at h';cases h'))))
 clear hP hDD9
 go_wp2_with (first
  | (refine wpList_load_at 41 _ rfl rfl bc 0 rfl gs _ e1 Tryz.underlying41 rfl i1 ?_)
  | (refine wpList_store_mid rfl 41 _ _ rfl w.heap.size 2 gs.toArray rfl rfl e2 i2 g1 ?_;simp only [List.toList_toArray])
  | (refine wpList_load_at 44 _ rfl rfl w.heap.size 0 rfl D _ e3 Tryz.underlying44 rfl i3 ?_)
  | (refine wpList_store_at 44 _ _ rfl rfl (w.heap.size + 1) D.toArray rfl rfl 44 (stZ 0).toArray e4 i4 i5 d1 ?_))
 refine bodyPost_ret (resV2 rfl _ _ (w.heap.size + 1) 44 D.toArray (0,0) _ (.bool b) rfl (hsetRow _ _ _ _ _ _ e4) Tryz.underlying44 rfl i4 rfl) rfl (hQ.out _ rfl)
set_option maxRecDepth 100000 in
set_option maxHeartbeats 4000000 in
theorem put_11 (cs : List Value) (o : Nat × Nat × Nat) (s : ByteArray) (w : World) (hs : s.size≤1099511627776) (hl : cs.length=29) (h1 : ∀x∈cs,x.oneCell' =true) :
 Calls Tryz.prog 50 #[.agg cs.toArray,.int .i64 11,.string s] w (PutR .texts 8 o cs s.data.toList w):=by
 have cN:=Lib.hid (fun W'=>rnumber_any s W' (by omega))
 have cU:=Lib.hid (fun W'=>runescape_any s W' hs)
 obtain ⟨yx,gb,hget,hgn,hgs⟩:=unesc_ans s.data.toList
 obtain ⟨W2,hW2⟩ : ∃x,(w.alloc (.cells cs.toArray 44)).alloc (.cells (stZ 0).toArray 44)=x:=⟨_,rfl⟩
 have hB1:=below_new w (.cells cs.toArray 44)
 have hB2:=hB1.trans ((below_new (w.alloc (.cells cs.toArray 44)) (.cells (stZ 0).toArray 44)).mono hB1.size)
 have hx2 : Row ((w.alloc (.cells cs.toArray 44)).alloc (.cells (stZ 0).toArray 44)) w.heap.size 44 cs:=Row.keep (heap_new w _) (below_new _ _)
 have hr2 : Row ((w.alloc (.cells cs.toArray 44)).alloc (.cells (stZ 0).toArray 44)) (w.heap.size + 1) 44 (stZ 0):=by have:=heap_new (w.alloc (.cells cs.toArray 44)) (.cells (stZ 0).toArray 44);rwa [World.size_alloc] at this
 rw [hW2] at hB2 hx2 hr2
 have hfl : ((cs.drop 2).take 23).length=23:=by rw [List.length_take,List.length_drop];omega
 have hf1 : ∀x∈(cs.drop 2).take 23,x.oneCell' =true:=fun x hx=>h1 x (List.mem_of_mem_drop (List.mem_of_mem_take hx))
 have hfm : ∀(j : Nat) x,((cs.drop 2).take 23)[j]? =some x→cs[2 + j]? =some x:=fun j x hj=>by
  have hj2 : j < 23:=by have:=(List.getElem?_eq_some_iff.1 hj).1;omega
  rwa [List.getElem?_take,if_pos hj2,List.getElem?_drop] at hj
 have hDD : ∀v,setAt cs 2 (((cs.drop 2).take 23).set 6 v)=setAt cs 8 [v]:=fun v=>fold_c (z:=[v]) hl rfl (by simp)
 generalize hfs : (cs.drop 2).take 23=fs at *
 have hfi:=cf_in9 fs hfl
 have hfi':=cf_in9' fs hfl
 have hfo:=cf_old fs hfl
 have hfa:=one_arr hf1
 replace hB2:=Lib.hid hB2
 replace hx2:=Lib.hid hx2
 replace hr2:=Lib.hid hr2
 replace hgn:=Lib.hid hgn
 replace hgs:=Lib.hid hgs
 replace hfm:=Lib.hid hfm
 clear hB1 hfs
 go_enter Tryz.func50,Tryz.ntmps50
 go_upto_region 1 with (first
  | (refine wpList_box_row 44 _ rfl rfl cs.toArray rfl ?_)
  | (refine wpList_alloc_row 44 rfl rfl (stZ 0).toArray st_zero ?_;try simp only [World.size_alloc]))
 try rw [hW2]
 clear hW2
 go_upto_region 3 with (first
  | (go_at_call 79;(with_reducible refine (cN.out _).mono ?_);rintro r w3 ⟨n,bn,rfl,hnI,hna,hb⟩;have hB3:=Lib.hid (hB2.out.trans (hb.mono hB2.out.size));have hb3:=Lib.hid hb;clear hb)
  | (go_at_call 12;(with_reducible refine (cU.out _).mono ?_);rintro r w4 ⟨hu,hb⟩;obtain rfl:=hget _ hu;have hB4:=Lib.hid (hB3.out.trans (hb.mono hB3.out.size));have hb4:=Lib.hid (hb3.out.trans (hb.mono hb3.out.size));clear hb hu))
 have hx4:=hx2.out.keep hb4.out
 have hr4:=hr2.out.keep hb4.out
 have hmid:=hx4.mid hfm.out
 have hcz:=heap_new w4 (.cells cfZ 41)
 clear hget cN cU
 go_upto_region 4 with (first
  | (refine wpList_load_at 41 _ rfl rfl w.heap.size 2 rfl fs _ hmid Tryz.underlying41 rfl hfi ?_)
  | (refine wpList_alloc_row 41 rfl rfl cfZ cf_zero ?_)
  | (refine wpList_store_at 41 _ _ rfl rfl w4.heap.size fs.toArray rfl rfl 41 cfZ hcz hfi' hfo hfa ?_
     rw [setRow_new]))
 have hbn:=below_new w4 (.cells fs.toArray 41)
 have hx5:=hx4.keep hbn
 have hr5:=hr4.keep hbn
 have hc5 : Row (w4.alloc (.cells fs.toArray 41)) w4.heap.size 41 fs:=heap_new w4 _
 have hB5:=hB4.out.trans (hbn.mono hB4.out.size)
 have hbc : w.heap.size + 1 < w4.heap.size:=hr4.lt
 have hlt5:=hc5.lt
 clear hx4 hr4 hmid hcz hbn hfi hfi' hfo hfa hB2 hB3 hB4 hb3 hb4 hx2 hr2
 generalize w4.alloc (.cells fs.toArray 41)=w5 at *
 generalize w4.heap.size=bc at *
 obtain ⟨old,hold⟩:=getc (hfl) 6 (by decide)
 have cL:=rnames_any s w5 hs
 try rw [c44] at cL
 replace cL:=Lib.hid cL
 replace hx5:=Lib.hid hx5
 replace hr5:=Lib.hid hr5
 replace hc5:=Lib.hid hc5
 replace hold:=Lib.hid hold
 go_upto_region 20 with (first
  | (go_at_call 83;(with_reducible refine cL.out.mono ?_);rintro r w7 ⟨v,b,rfl,hb,hv1,hv2⟩
     obtain ⟨A,m,c,rfl⟩:=sl_shape hv1 hv2
     have hB7:=Lib.hid (hB5.trans (hb.mono hB5.size))
     have hx7:=hx5.out.keep hb
     have hr7:=Lib.hid (hr5.out.keep hb)
     have hc7:=hc5.out.keep hb
     have hv3:=Lib.hid (fun l hl=>And.intro (hv1 l hl).1 (OwnR.sln (hv1 l hl).2 hlt5))
     have hv4:=Lib.hid (fun hl=>(hv2 hl).1)
     have hcr:=hc7.range
     replace hx7:=Lib.hid hx7
     replace hc7:=Lib.hid hc7
     clear hb hv1 hv2))
 have hD9:=hDD (.slice A m c)
 have cM:=name_3 fs A m c w7 hfl hf1
 obtain ⟨gs,hgs9⟩ : ∃gs,fs.set 6 (.slice A m c)=gs:=⟨_,rfl⟩
 rw [hgs9] at cM hD9
 have hgl8 : gs.length=23:=by rw [← hgs9,List.length_set];exact hfl
 have hg18 : ∀x∈gs,x.oneCell' =true:=by rw [← hgs9];exact set_one hf1 rfl
 have i7:=cf_in9 fs hfl
 have i8:=cf_in9' gs hgl8
 have i9 : fs.toArray.size=gs.toArray.size:=by rw [List.size_toArray,List.size_toArray,hfl,hgl8]
 have i10:=one_arr hg18
 replace cM:=Lib.hid cM
 replace hgs9:=Lib.hid hgs9
 go_upto_region 60 with (first
  | (refine wpList_load_at 41 _ rfl rfl bc 0 rfl fs _ hcr Tryz.underlying41 rfl i7 ?_)
  | (go_at_call 84;(with_reducible refine cM.out.mono ?_);rintro r w8 ⟨rfl,hb⟩
     have hB8:=Lib.hid (hB7.out.trans (hb.mono hB7.out.size))
     have hx8:=Lib.hid (hx7.out.keep hb)
     have hr8:=Lib.hid (hr7.out.keep hb)
     have hc8:=hc7.out.keep hb
     have hc8' : w8.heap[bc]? =some (.cells fs.toArray 41 (0,0)):=hc8
     have hv5:=Lib.hid (fun l hl=>And.intro (hv3.out l hl).1 ((hv3.out l hl).2.but' (But.of_below (b:=bc) hb) (Nat.le_refl _)))
     replace hc8:=Lib.hid hc8
     clear hb)
  | (refine wpList_store_at 41 _ _ rfl rfl bc gs.toArray rfl rfl 41 fs.toArray hc8' i8 i9 i10 ?_))
 have hx6:=Lib.hid (hx8.out.setRow_other (b2:=bc) (by omega) gs.toArray)
 have hr6:=Lib.hid (hr8.out.setRow_other (b2:=bc) (by omega) gs.toArray)
 have hc6:=hc8.out.setRow gs
 have hB6:=Lib.hid (below_setRow hB8.out (show w.heap.size≤bc by omega) gs.toArray)
 have hv6:=Lib.hid (fun l hl=>And.intro (hv5.out l hl).1 ((hv5.out l hl).2.but' (But.row (b:=bc) gs.toArray) (Nat.le_refl _)))
 clear hv3 hv5 hx7 hr7 hc7 hB7 hx8 hr8 hc8 hc8' hB8 hcr i7 i8 i9 i10 hg18 hgl8
 generalize w8.setRow bc gs.toArray=w6 at *
 replace hgs9:=hgs9.out
 generalize hDD9 : setAt cs 8 [.slice A m c]=D at *
 have hgl9 : gs.length=23:=by rw [← hgs9];rw [List.length_set];exact hfl
 have hg19 : ∀x∈gs,x.oneCell' =true:=by rw [← hgs9];exact set_one hf1 rfl
 have hP:=pend hx6.out hr6.out hc6 hl hgl9 hg19 h1 hD9
 have i1:=cf_in9 _ hP.gl
 have i2:=cf_in9' _ hP.gl
 have i3:=st_in9 _ hP.dl
 have i4:=st_in9' _ hP.dl
 have i5:=st_old _ hP.dl
 have e1:=hP.e1
 have e2:=hP.e2
 have e3:=hP.e3
 have e4:=hP.e4
 have g1:=hP.g1
 have d1:=hP.d1
 have hQ:=Lib.hid (fun W9 (h : W9=(w6.setCells w.heap.size 2 gs).setRow (w.heap.size + 1) D.toArray)=>(show PutR .texts 8 o cs s.data.toList w (.returned (.tuple #[.agg D.toArray,.bool b])) W9 by rw [h];exact put_fin (z:=[.slice A m c]) hDD9 hB6.out hbc rfl (fun x hx=>by rw [List.mem_singleton.1 hx];rfl) (fun pv h=>by obtain ⟨l,hl,rfl⟩:=map_some (show (allM rdNameR (splitL 44 s.data.toList)).map PV.texts=some pv from h);obtain ⟨e,hN⟩:=hv6.out l hl;exact ⟨e,⟨_,rfl,hN⟩⟩) (fun h=>hv4.out (by have h' : (allM rdNameR (splitL 44 s.data.toList)).map PV.texts=none:=h;cases hq : allM rdNameR (splitL 44 s.data.toList) with | none=>rfl | some l=>rw [hq] at h';cases h'))))
 clear hP hDD9
 go_wp2_with (first
  | (refine wpList_load_at 41 _ rfl rfl bc 0 rfl gs _ e1 Tryz.underlying41 rfl i1 ?_)
  | (refine wpList_store_mid rfl 41 _ _ rfl w.heap.size 2 gs.toArray rfl rfl e2 i2 g1 ?_;simp only [List.toList_toArray])
  | (refine wpList_load_at 44 _ rfl rfl w.heap.size 0 rfl D _ e3 Tryz.underlying44 rfl i3 ?_)
  | (refine wpList_store_at 44 _ _ rfl rfl (w.heap.size + 1) D.toArray rfl rfl 44 (stZ 0).toArray e4 i4 i5 d1 ?_))
 refine bodyPost_ret (resV2 rfl _ _ (w.heap.size + 1) 44 D.toArray (0,0) _ (.bool b) rfl (hsetRow _ _ _ _ _ _ e4) Tryz.underlying44 rfl i4 rfl) rfl (hQ.out _ rfl)
set_option maxRecDepth 100000 in
set_option maxHeartbeats 4000000 in
theorem put_12 (cs : List Value) (o : Nat × Nat × Nat) (s : ByteArray) (w : World) (hs : s.size≤1099511627776) (hl : cs.length=29) (h1 : ∀x∈cs,x.oneCell' =true) :
 Calls Tryz.prog 50 #[.agg cs.toArray,.int .i64 12,.string s] w (PutR .texts 9 o cs s.data.toList w):=by
 have cN:=Lib.hid (fun W'=>rnumber_any s W' (by omega))
 have cU:=Lib.hid (fun W'=>runescape_any s W' hs)
 obtain ⟨yx,gb,hget,hgn,hgs⟩:=unesc_ans s.data.toList
 obtain ⟨W2,hW2⟩ : ∃x,(w.alloc (.cells cs.toArray 44)).alloc (.cells (stZ 0).toArray 44)=x:=⟨_,rfl⟩
 have hB1:=below_new w (.cells cs.toArray 44)
 have hB2:=hB1.trans ((below_new (w.alloc (.cells cs.toArray 44)) (.cells (stZ 0).toArray 44)).mono hB1.size)
 have hx2 : Row ((w.alloc (.cells cs.toArray 44)).alloc (.cells (stZ 0).toArray 44)) w.heap.size 44 cs:=Row.keep (heap_new w _) (below_new _ _)
 have hr2 : Row ((w.alloc (.cells cs.toArray 44)).alloc (.cells (stZ 0).toArray 44)) (w.heap.size + 1) 44 (stZ 0):=by have:=heap_new (w.alloc (.cells cs.toArray 44)) (.cells (stZ 0).toArray 44);rwa [World.size_alloc] at this
 rw [hW2] at hB2 hx2 hr2
 have hfl : ((cs.drop 2).take 23).length=23:=by rw [List.length_take,List.length_drop];omega
 have hf1 : ∀x∈(cs.drop 2).take 23,x.oneCell' =true:=fun x hx=>h1 x (List.mem_of_mem_drop (List.mem_of_mem_take hx))
 have hfm : ∀(j : Nat) x,((cs.drop 2).take 23)[j]? =some x→cs[2 + j]? =some x:=fun j x hj=>by
  have hj2 : j < 23:=by have:=(List.getElem?_eq_some_iff.1 hj).1;omega
  rwa [List.getElem?_take,if_pos hj2,List.getElem?_drop] at hj
 have hDD : ∀v,setAt cs 2 (((cs.drop 2).take 23).set 7 v)=setAt cs 9 [v]:=fun v=>fold_c (z:=[v]) hl rfl (by simp)
 generalize hfs : (cs.drop 2).take 23=fs at *
 have hfi:=cf_in9 fs hfl
 have hfi':=cf_in9' fs hfl
 have hfo:=cf_old fs hfl
 have hfa:=one_arr hf1
 replace hB2:=Lib.hid hB2
 replace hx2:=Lib.hid hx2
 replace hr2:=Lib.hid hr2
 replace hgn:=Lib.hid hgn
 replace hgs:=Lib.hid hgs
 replace hfm:=Lib.hid hfm
 clear hB1 hfs
 go_enter Tryz.func50,Tryz.ntmps50
 go_upto_region 1 with (first
  | (refine wpList_box_row 44 _ rfl rfl cs.toArray rfl ?_)
  | (refine wpList_alloc_row 44 rfl rfl (stZ 0).toArray st_zero ?_;try simp only [World.size_alloc]))
 try rw [hW2]
 clear hW2
 go_upto_region 3 with (first
  | (go_at_call 79;(with_reducible refine (cN.out _).mono ?_);rintro r w3 ⟨n,bn,rfl,hnI,hna,hb⟩;have hB3:=Lib.hid (hB2.out.trans (hb.mono hB2.out.size));have hb3:=Lib.hid hb;clear hb)
  | (go_at_call 12;(with_reducible refine (cU.out _).mono ?_);rintro r w4 ⟨hu,hb⟩;obtain rfl:=hget _ hu;have hB4:=Lib.hid (hB3.out.trans (hb.mono hB3.out.size));have hb4:=Lib.hid (hb3.out.trans (hb.mono hb3.out.size));clear hb hu))
 have hx4:=hx2.out.keep hb4.out
 have hr4:=hr2.out.keep hb4.out
 have hmid:=hx4.mid hfm.out
 have hcz:=heap_new w4 (.cells cfZ 41)
 clear hget cN cU
 go_upto_region 4 with (first
  | (refine wpList_load_at 41 _ rfl rfl w.heap.size 2 rfl fs _ hmid Tryz.underlying41 rfl hfi ?_)
  | (refine wpList_alloc_row 41 rfl rfl cfZ cf_zero ?_)
  | (refine wpList_store_at 41 _ _ rfl rfl w4.heap.size fs.toArray rfl rfl 41 cfZ hcz hfi' hfo hfa ?_
     rw [setRow_new]))
 have hbn:=below_new w4 (.cells fs.toArray 41)
 have hx5:=hx4.keep hbn
 have hr5:=hr4.keep hbn
 have hc5 : Row (w4.alloc (.cells fs.toArray 41)) w4.heap.size 41 fs:=heap_new w4 _
 have hB5:=hB4.out.trans (hbn.mono hB4.out.size)
 have hbc : w.heap.size + 1 < w4.heap.size:=hr4.lt
 have hlt5:=hc5.lt
 clear hx4 hr4 hmid hcz hbn hfi hfi' hfo hfa hB2 hB3 hB4 hb3 hb4 hx2 hr2
 generalize w4.alloc (.cells fs.toArray 41)=w5 at *
 generalize w4.heap.size=bc at *
 obtain ⟨old,hold⟩:=getc (hfl) 7 (by decide)
 have cL:=rnames_any s w5 hs
 try rw [c44] at cL
 replace cL:=Lib.hid cL
 replace hx5:=Lib.hid hx5
 replace hr5:=Lib.hid hr5
 replace hc5:=Lib.hid hc5
 replace hold:=Lib.hid hold
 go_upto_region 20 with (first
  | (go_at_call 83;(with_reducible refine cL.out.mono ?_);rintro r w7 ⟨v,b,rfl,hb,hv1,hv2⟩
     obtain ⟨A,m,c,rfl⟩:=sl_shape hv1 hv2
     have hB7:=Lib.hid (hB5.trans (hb.mono hB5.size))
     have hx7:=hx5.out.keep hb
     have hr7:=Lib.hid (hr5.out.keep hb)
     have hc7:=hc5.out.keep hb
     have hv3:=Lib.hid (fun l hl=>And.intro (hv1 l hl).1 (OwnR.sln (hv1 l hl).2 hlt5))
     have hv4:=Lib.hid (fun hl=>(hv2 hl).1)
     have hcr:=hc7.range
     replace hx7:=Lib.hid hx7
     replace hc7:=Lib.hid hc7
     clear hb hv1 hv2))
 have hD9:=hDD (.slice A m c)
 have cM:=name_4 fs A m c w7 hfl hf1
 obtain ⟨gs,hgs9⟩ : ∃gs,fs.set 7 (.slice A m c)=gs:=⟨_,rfl⟩
 rw [hgs9] at cM hD9
 have hgl8 : gs.length=23:=by rw [← hgs9,List.length_set];exact hfl
 have hg18 : ∀x∈gs,x.oneCell' =true:=by rw [← hgs9];exact set_one hf1 rfl
 have i7:=cf_in9 fs hfl
 have i8:=cf_in9' gs hgl8
 have i9 : fs.toArray.size=gs.toArray.size:=by rw [List.size_toArray,List.size_toArray,hfl,hgl8]
 have i10:=one_arr hg18
 replace cM:=Lib.hid cM
 replace hgs9:=Lib.hid hgs9
 go_upto_region 60 with (first
  | (refine wpList_load_at 41 _ rfl rfl bc 0 rfl fs _ hcr Tryz.underlying41 rfl i7 ?_)
  | (go_at_call 84;(with_reducible refine cM.out.mono ?_);rintro r w8 ⟨rfl,hb⟩
     have hB8:=Lib.hid (hB7.out.trans (hb.mono hB7.out.size))
     have hx8:=Lib.hid (hx7.out.keep hb)
     have hr8:=Lib.hid (hr7.out.keep hb)
     have hc8:=hc7.out.keep hb
     have hc8' : w8.heap[bc]? =some (.cells fs.toArray 41 (0,0)):=hc8
     have hv5:=Lib.hid (fun l hl=>And.intro (hv3.out l hl).1 ((hv3.out l hl).2.but' (But.of_below (b:=bc) hb) (Nat.le_refl _)))
     replace hc8:=Lib.hid hc8
     clear hb)
  | (refine wpList_store_at 41 _ _ rfl rfl bc gs.toArray rfl rfl 41 fs.toArray hc8' i8 i9 i10 ?_))
 have hx6:=Lib.hid (hx8.out.setRow_other (b2:=bc) (by omega) gs.toArray)
 have hr6:=Lib.hid (hr8.out.setRow_other (b2:=bc) (by omega) gs.toArray)
 have hc6:=hc8.out.setRow gs
 have hB6:=Lib.hid (below_setRow hB8.out (show w.heap.size≤bc by omega) gs.toArray)
 have hv6:=Lib.hid (fun l hl=>And.intro (hv5.out l hl).1 ((hv5.out l hl).2.but' (But.row (b:=bc) gs.toArray) (Nat.le_refl _)))
 clear hv3 hv5 hx7 hr7 hc7 hB7 hx8 hr8 hc8 hc8' hB8 hcr i7 i8 i9 i10 hg18 hgl8
 generalize w8.setRow bc gs.toArray=w6 at *
 replace hgs9:=hgs9.out
 generalize hDD9 : setAt cs 9 [.slice A m c]=D at *
 have hgl9 : gs.length=23:=by rw [← hgs9];rw [List.length_set];exact hfl
 have hg19 : ∀x∈gs,x.oneCell' =true:=by rw [← hgs9];exact set_one hf1 rfl
 have hP:=pend hx6.out hr6.out hc6 hl hgl9 hg19 h1 hD9
 have i1:=cf_in9 _ hP.gl
 have i2:=cf_in9' _ hP.gl
 have i3:=st_in9 _ hP.dl
 have i4:=st_in9' _ hP.dl
 have i5:=st_old _ hP.dl
 have e1:=hP.e1
 have e2:=hP.e2
 have e3:=hP.e3
 have e4:=hP.e4
 have g1:=hP.g1
 have d1:=hP.d1
 have hQ:=Lib.hid (fun W9 (h : W9=(w6.setCells w.heap.size 2 gs).setRow (w.heap.size + 1) D.toArray)=>(show PutR .texts 9 o cs s.data.toList w (.returned (.tuple #[.agg D.toArray,.bool b])) W9 by rw [h];exact put_fin (z:=[.slice A m c]) hDD9 hB6.out hbc rfl (fun x hx=>by rw [List.mem_singleton.1 hx];rfl) (fun pv h=>by obtain ⟨l,hl,rfl⟩:=map_some (show (allM rdNameR (splitL 44 s.data.toList)).map PV.texts=some pv from h);obtain ⟨e,hN⟩:=hv6.out l hl;exact ⟨e,⟨_,rfl,hN⟩⟩) (fun h=>hv4.out (by have h' : (allM rdNameR (splitL 44 s.data.toList)).map PV.texts=none:=h;cases hq : allM rdNameR (splitL 44 s.data.toList) with | none=>rfl | some l=>rw [hq] at h';cases h'))))
 clear hP hDD9
 go_wp2_with (first
  | (refine wpList_load_at 41 _ rfl rfl bc 0 rfl gs _ e1 Tryz.underlying41 rfl i1 ?_)
  | (refine wpList_store_mid rfl 41 _ _ rfl w.heap.size 2 gs.toArray rfl rfl e2 i2 g1 ?_;simp only [List.toList_toArray])
  | (refine wpList_load_at 44 _ rfl rfl w.heap.size 0 rfl D _ e3 Tryz.underlying44 rfl i3 ?_)
  | (refine wpList_store_at 44 _ _ rfl rfl (w.heap.size + 1) D.toArray rfl rfl 44 (stZ 0).toArray e4 i4 i5 d1 ?_))
 refine bodyPost_ret (resV2 rfl _ _ (w.heap.size + 1) 44 D.toArray (0,0) _ (.bool b) rfl (hsetRow _ _ _ _ _ _ e4) Tryz.underlying44 rfl i4 rfl) rfl (hQ.out _ rfl)
set_option maxRecDepth 100000 in
set_option maxHeartbeats 4000000 in
theorem put_13 (cs : List Value) (o : Nat × Nat × Nat) (s : ByteArray) (w : World) (hs : s.size≤1099511627776) (hl : cs.length=29) (h1 : ∀x∈cs,x.oneCell' =true) :
 Calls Tryz.prog 50 #[.agg cs.toArray,.int .i64 13,.string s] w (PutR .texts 10 o cs s.data.toList w):=by
 have cN:=Lib.hid (fun W'=>rnumber_any s W' (by omega))
 have cU:=Lib.hid (fun W'=>runescape_any s W' hs)
 obtain ⟨yx,gb,hget,hgn,hgs⟩:=unesc_ans s.data.toList
 obtain ⟨W2,hW2⟩ : ∃x,(w.alloc (.cells cs.toArray 44)).alloc (.cells (stZ 0).toArray 44)=x:=⟨_,rfl⟩
 have hB1:=below_new w (.cells cs.toArray 44)
 have hB2:=hB1.trans ((below_new (w.alloc (.cells cs.toArray 44)) (.cells (stZ 0).toArray 44)).mono hB1.size)
 have hx2 : Row ((w.alloc (.cells cs.toArray 44)).alloc (.cells (stZ 0).toArray 44)) w.heap.size 44 cs:=Row.keep (heap_new w _) (below_new _ _)
 have hr2 : Row ((w.alloc (.cells cs.toArray 44)).alloc (.cells (stZ 0).toArray 44)) (w.heap.size + 1) 44 (stZ 0):=by have:=heap_new (w.alloc (.cells cs.toArray 44)) (.cells (stZ 0).toArray 44);rwa [World.size_alloc] at this
 rw [hW2] at hB2 hx2 hr2
 have hfl : ((cs.drop 2).take 23).length=23:=by rw [List.length_take,List.length_drop];omega
 have hf1 : ∀x∈(cs.drop 2).take 23,x.oneCell' =true:=fun x hx=>h1 x (List.mem_of_mem_drop (List.mem_of_mem_take hx))
 have hfm : ∀(j : Nat) x,((cs.drop 2).take 23)[j]? =some x→cs[2 + j]? =some x:=fun j x hj=>by
  have hj2 : j < 23:=by have:=(List.getElem?_eq_some_iff.1 hj).1;omega
  rwa [List.getElem?_take,if_pos hj2,List.getElem?_drop] at hj
 have hDD : ∀v,setAt cs 2 (((cs.drop 2).take 23).set 8 v)=setAt cs 10 [v]:=fun v=>fold_c (z:=[v]) hl rfl (by simp)
 generalize hfs : (cs.drop 2).take 23=fs at *
 have hfi:=cf_in9 fs hfl
 have hfi':=cf_in9' fs hfl
 have hfo:=cf_old fs hfl
 have hfa:=one_arr hf1
 replace hB2:=Lib.hid hB2
 replace hx2:=Lib.hid hx2
 replace hr2:=Lib.hid hr2
 replace hgn:=Lib.hid hgn
 replace hgs:=Lib.hid hgs
 replace hfm:=Lib.hid hfm
 clear hB1 hfs
 go_enter Tryz.func50,Tryz.ntmps50
 go_upto_region 1 with (first
  | (refine wpList_box_row 44 _ rfl rfl cs.toArray rfl ?_)
  | (refine wpList_alloc_row 44 rfl rfl (stZ 0).toArray st_zero ?_;try simp only [World.size_alloc]))
 try rw [hW2]
 clear hW2
 go_upto_region 3 with (first
  | (go_at_call 79;(with_reducible refine (cN.out _).mono ?_);rintro r w3 ⟨n,bn,rfl,hnI,hna,hb⟩;have hB3:=Lib.hid (hB2.out.trans (hb.mono hB2.out.size));have hb3:=Lib.hid hb;clear hb)
  | (go_at_call 12;(with_reducible refine (cU.out _).mono ?_);rintro r w4 ⟨hu,hb⟩;obtain rfl:=hget _ hu;have hB4:=Lib.hid (hB3.out.trans (hb.mono hB3.out.size));have hb4:=Lib.hid (hb3.out.trans (hb.mono hb3.out.size));clear hb hu))
 have hx4:=hx2.out.keep hb4.out
 have hr4:=hr2.out.keep hb4.out
 have hmid:=hx4.mid hfm.out
 have hcz:=heap_new w4 (.cells cfZ 41)
 clear hget cN cU
 go_upto_region 4 with (first
  | (refine wpList_load_at 41 _ rfl rfl w.heap.size 2 rfl fs _ hmid Tryz.underlying41 rfl hfi ?_)
  | (refine wpList_alloc_row 41 rfl rfl cfZ cf_zero ?_)
  | (refine wpList_store_at 41 _ _ rfl rfl w4.heap.size fs.toArray rfl rfl 41 cfZ hcz hfi' hfo hfa ?_
     rw [setRow_new]))
 have hbn:=below_new w4 (.cells fs.toArray 41)
 have hx5:=hx4.keep hbn
 have hr5:=hr4.keep hbn
 have hc5 : Row (w4.alloc (.cells fs.toArray 41)) w4.heap.size 41 fs:=heap_new w4 _
 have hB5:=hB4.out.trans (hbn.mono hB4.out.size)
 have hbc : w.heap.size + 1 < w4.heap.size:=hr4.lt
 have hlt5:=hc5.lt
 clear hx4 hr4 hmid hcz hbn hfi hfi' hfo hfa hB2 hB3 hB4 hb3 hb4 hx2 hr2
 generalize w4.alloc (.cells fs.toArray 41)=w5 at *
 generalize w4.heap.size=bc at *
 obtain ⟨old,hold⟩:=getc (hfl) 8 (by decide)
 have cL:=rnames_any s w5 hs
 try rw [c44] at cL
 replace cL:=Lib.hid cL
 replace hx5:=Lib.hid hx5
 replace hr5:=Lib.hid hr5
 replace hc5:=Lib.hid hc5
 replace hold:=Lib.hid hold
 go_upto_region 20 with (first
  | (go_at_call 83;(with_reducible refine cL.out.mono ?_);rintro r w7 ⟨v,b,rfl,hb,hv1,hv2⟩
     obtain ⟨A,m,c,rfl⟩:=sl_shape hv1 hv2
     have hB7:=Lib.hid (hB5.trans (hb.mono hB5.size))
     have hx7:=hx5.out.keep hb
     have hr7:=Lib.hid (hr5.out.keep hb)
     have hc7:=hc5.out.keep hb
     have hv3:=Lib.hid (fun l hl=>And.intro (hv1 l hl).1 (OwnR.sln (hv1 l hl).2 hlt5))
     have hv4:=Lib.hid (fun hl=>(hv2 hl).1)
     have hcr:=hc7.range
     replace hx7:=Lib.hid hx7
     replace hc7:=Lib.hid hc7
     clear hb hv1 hv2))
 have hD9:=hDD (.slice A m c)
 have cM:=name_5 fs A m c w7 hfl hf1
 obtain ⟨gs,hgs9⟩ : ∃gs,fs.set 8 (.slice A m c)=gs:=⟨_,rfl⟩
 rw [hgs9] at cM hD9
 have hgl8 : gs.length=23:=by rw [← hgs9,List.length_set];exact hfl
 have hg18 : ∀x∈gs,x.oneCell' =true:=by rw [← hgs9];exact set_one hf1 rfl
 have i7:=cf_in9 fs hfl
 have i8:=cf_in9' gs hgl8
 have i9 : fs.toArray.size=gs.toArray.size:=by rw [List.size_toArray,List.size_toArray,hfl,hgl8]
 have i10:=one_arr hg18
 replace cM:=Lib.hid cM
 replace hgs9:=Lib.hid hgs9
 go_upto_region 60 with (first
  | (refine wpList_load_at 41 _ rfl rfl bc 0 rfl fs _ hcr Tryz.underlying41 rfl i7 ?_)
  | (go_at_call 84;(with_reducible refine cM.out.mono ?_);rintro r w8 ⟨rfl,hb⟩
     have hB8:=Lib.hid (hB7.out.trans (hb.mono hB7.out.size))
     have hx8:=Lib.hid (hx7.out.keep hb)
     have hr8:=Lib.hid (hr7.out.keep hb)
     have hc8:=hc7.out.keep hb
     have hc8' : w8.heap[bc]? =some (.cells fs.toArray 41 (0,0)):=hc8
     have hv5:=Lib.hid (fun l hl=>And.intro (hv3.out l hl).1 ((hv3.out l hl).2.but' (But.of_below (b:=bc) hb) (Nat.le_refl _)))
     replace hc8:=Lib.hid hc8
     clear hb)
  | (refine wpList_store_at 41 _ _ rfl rfl bc gs.toArray rfl rfl 41 fs.toArray hc8' i8 i9 i10 ?_))
 have hx6:=Lib.hid (hx8.out.setRow_other (b2:=bc) (by omega) gs.toArray)
 have hr6:=Lib.hid (hr8.out.setRow_other (b2:=bc) (by omega) gs.toArray)
 have hc6:=hc8.out.setRow gs
 have hB6:=Lib.hid (below_setRow hB8.out (show w.heap.size≤bc by omega) gs.toArray)
 have hv6:=Lib.hid (fun l hl=>And.intro (hv5.out l hl).1 ((hv5.out l hl).2.but' (But.row (b:=bc) gs.toArray) (Nat.le_refl _)))
 clear hv3 hv5 hx7 hr7 hc7 hB7 hx8 hr8 hc8 hc8' hB8 hcr i7 i8 i9 i10 hg18 hgl8
 generalize w8.setRow bc gs.toArray=w6 at *
 replace hgs9:=hgs9.out
 generalize hDD9 : setAt cs 10 [.slice A m c]=D at *
 have hgl9 : gs.length=23:=by rw [← hgs9];rw [List.length_set];exact hfl
 have hg19 : ∀x∈gs,x.oneCell' =true:=by rw [← hgs9];exact set_one hf1 rfl
 have hP:=pend hx6.out hr6.out hc6 hl hgl9 hg19 h1 hD9
 have i1:=cf_in9 _ hP.gl
 have i2:=cf_in9' _ hP.gl
 have i3:=st_in9 _ hP.dl
 have i4:=st_in9' _ hP.dl
 have i5:=st_old _ hP.dl
 have e1:=hP.e1
 have e2:=hP.e2
 have e3:=hP.e3
 have e4:=hP.e4
 have g1:=hP.g1
 have d1:=hP.d1
 have hQ:=Lib.hid (fun W9 (h : W9=(w6.setCells w.heap.size 2 gs).setRow (w.heap.size + 1) D.toArray)=>(show PutR .texts 10 o cs s.data.toList w (.returned (.tuple #[.agg D.toArray,.bool b])) W9 by rw [h];exact put_fin (z:=[.slice A m c]) hDD9 hB6.out hbc rfl (fun x hx=>by rw [List.mem_singleton.1 hx];rfl) (fun pv h=>by obtain ⟨l,hl,rfl⟩:=map_some (show (allM rdNameR (splitL 44 s.data.toList)).map PV.texts=some pv from h);obtain ⟨e,hN⟩:=hv6.out l hl;exact ⟨e,⟨_,rfl,hN⟩⟩) (fun h=>hv4.out (by have h' : (allM rdNameR (splitL 44 s.data.toList)).map PV.texts=none:=h;cases hq : allM rdNameR (splitL 44 s.data.toList) with | none=>rfl | some l=>rw [hq] at h';cases h'))))
 clear hP hDD9
 go_wp2_with (first
  | (refine wpList_load_at 41 _ rfl rfl bc 0 rfl gs _ e1 Tryz.underlying41 rfl i1 ?_)
  | (refine wpList_store_mid rfl 41 _ _ rfl w.heap.size 2 gs.toArray rfl rfl e2 i2 g1 ?_;simp only [List.toList_toArray])
  | (refine wpList_load_at 44 _ rfl rfl w.heap.size 0 rfl D _ e3 Tryz.underlying44 rfl i3 ?_)
  | (refine wpList_store_at 44 _ _ rfl rfl (w.heap.size + 1) D.toArray rfl rfl 44 (stZ 0).toArray e4 i4 i5 d1 ?_))
 refine bodyPost_ret (resV2 rfl _ _ (w.heap.size + 1) 44 D.toArray (0,0) _ (.bool b) rfl (hsetRow _ _ _ _ _ _ e4) Tryz.underlying44 rfl i4 rfl) rfl (hQ.out _ rfl)
set_option maxRecDepth 100000 in
set_option maxHeartbeats 4000000 in
theorem put_14 (cs : List Value) (o : Nat × Nat × Nat) (s : ByteArray) (w : World) (hs : s.size≤1099511627776) (hl : cs.length=29) (h1 : ∀x∈cs,x.oneCell' =true) :
 Calls Tryz.prog 50 #[.agg cs.toArray,.int .i64 14,.string s] w (PutR .texts 11 o cs s.data.toList w):=by
 have cN:=Lib.hid (fun W'=>rnumber_any s W' (by omega))
 have cU:=Lib.hid (fun W'=>runescape_any s W' hs)
 obtain ⟨yx,gb,hget,hgn,hgs⟩:=unesc_ans s.data.toList
 obtain ⟨W2,hW2⟩ : ∃x,(w.alloc (.cells cs.toArray 44)).alloc (.cells (stZ 0).toArray 44)=x:=⟨_,rfl⟩
 have hB1:=below_new w (.cells cs.toArray 44)
 have hB2:=hB1.trans ((below_new (w.alloc (.cells cs.toArray 44)) (.cells (stZ 0).toArray 44)).mono hB1.size)
 have hx2 : Row ((w.alloc (.cells cs.toArray 44)).alloc (.cells (stZ 0).toArray 44)) w.heap.size 44 cs:=Row.keep (heap_new w _) (below_new _ _)
 have hr2 : Row ((w.alloc (.cells cs.toArray 44)).alloc (.cells (stZ 0).toArray 44)) (w.heap.size + 1) 44 (stZ 0):=by have:=heap_new (w.alloc (.cells cs.toArray 44)) (.cells (stZ 0).toArray 44);rwa [World.size_alloc] at this
 rw [hW2] at hB2 hx2 hr2
 have hfl : ((cs.drop 2).take 23).length=23:=by rw [List.length_take,List.length_drop];omega
 have hf1 : ∀x∈(cs.drop 2).take 23,x.oneCell' =true:=fun x hx=>h1 x (List.mem_of_mem_drop (List.mem_of_mem_take hx))
 have hfm : ∀(j : Nat) x,((cs.drop 2).take 23)[j]? =some x→cs[2 + j]? =some x:=fun j x hj=>by
  have hj2 : j < 23:=by have:=(List.getElem?_eq_some_iff.1 hj).1;omega
  rwa [List.getElem?_take,if_pos hj2,List.getElem?_drop] at hj
 have hDD : ∀v,setAt cs 2 (((cs.drop 2).take 23).set 9 v)=setAt cs 11 [v]:=fun v=>fold_c (z:=[v]) hl rfl (by simp)
 generalize hfs : (cs.drop 2).take 23=fs at *
 have hfi:=cf_in9 fs hfl
 have hfi':=cf_in9' fs hfl
 have hfo:=cf_old fs hfl
 have hfa:=one_arr hf1
 replace hB2:=Lib.hid hB2
 replace hx2:=Lib.hid hx2
 replace hr2:=Lib.hid hr2
 replace hgn:=Lib.hid hgn
 replace hgs:=Lib.hid hgs
 replace hfm:=Lib.hid hfm
 clear hB1 hfs
 go_enter Tryz.func50,Tryz.ntmps50
 go_upto_region 1 with (first
  | (refine wpList_box_row 44 _ rfl rfl cs.toArray rfl ?_)
  | (refine wpList_alloc_row 44 rfl rfl (stZ 0).toArray st_zero ?_;try simp only [World.size_alloc]))
 try rw [hW2]
 clear hW2
 go_upto_region 3 with (first
  | (go_at_call 79;(with_reducible refine (cN.out _).mono ?_);rintro r w3 ⟨n,bn,rfl,hnI,hna,hb⟩;have hB3:=Lib.hid (hB2.out.trans (hb.mono hB2.out.size));have hb3:=Lib.hid hb;clear hb)
  | (go_at_call 12;(with_reducible refine (cU.out _).mono ?_);rintro r w4 ⟨hu,hb⟩;obtain rfl:=hget _ hu;have hB4:=Lib.hid (hB3.out.trans (hb.mono hB3.out.size));have hb4:=Lib.hid (hb3.out.trans (hb.mono hb3.out.size));clear hb hu))
 have hx4:=hx2.out.keep hb4.out
 have hr4:=hr2.out.keep hb4.out
 have hmid:=hx4.mid hfm.out
 have hcz:=heap_new w4 (.cells cfZ 41)
 clear hget cN cU
 go_upto_region 4 with (first
  | (refine wpList_load_at 41 _ rfl rfl w.heap.size 2 rfl fs _ hmid Tryz.underlying41 rfl hfi ?_)
  | (refine wpList_alloc_row 41 rfl rfl cfZ cf_zero ?_)
  | (refine wpList_store_at 41 _ _ rfl rfl w4.heap.size fs.toArray rfl rfl 41 cfZ hcz hfi' hfo hfa ?_
     rw [setRow_new]))
 have hbn:=below_new w4 (.cells fs.toArray 41)
 have hx5:=hx4.keep hbn
 have hr5:=hr4.keep hbn
 have hc5 : Row (w4.alloc (.cells fs.toArray 41)) w4.heap.size 41 fs:=heap_new w4 _
 have hB5:=hB4.out.trans (hbn.mono hB4.out.size)
 have hbc : w.heap.size + 1 < w4.heap.size:=hr4.lt
 have hlt5:=hc5.lt
 clear hx4 hr4 hmid hcz hbn hfi hfi' hfo hfa hB2 hB3 hB4 hb3 hb4 hx2 hr2
 generalize w4.alloc (.cells fs.toArray 41)=w5 at *
 generalize w4.heap.size=bc at *
 obtain ⟨old,hold⟩:=getc (hfl) 9 (by decide)
 have cL:=rnames_any s w5 hs
 try rw [c44] at cL
 replace cL:=Lib.hid cL
 replace hx5:=Lib.hid hx5
 replace hr5:=Lib.hid hr5
 replace hc5:=Lib.hid hc5
 replace hold:=Lib.hid hold
 go_upto_region 20 with (first
  | (go_at_call 83;(with_reducible refine cL.out.mono ?_);rintro r w7 ⟨v,b,rfl,hb,hv1,hv2⟩
     obtain ⟨A,m,c,rfl⟩:=sl_shape hv1 hv2
     have hB7:=Lib.hid (hB5.trans (hb.mono hB5.size))
     have hx7:=hx5.out.keep hb
     have hr7:=Lib.hid (hr5.out.keep hb)
     have hc7:=hc5.out.keep hb
     have hv3:=Lib.hid (fun l hl=>And.intro (hv1 l hl).1 (OwnR.sln (hv1 l hl).2 hlt5))
     have hv4:=Lib.hid (fun hl=>(hv2 hl).1)
     have hcr:=hc7.range
     replace hx7:=Lib.hid hx7
     replace hc7:=Lib.hid hc7
     clear hb hv1 hv2))
 have hD9:=hDD (.slice A m c)
 have cM:=name_6 fs A m c w7 hfl hf1
 obtain ⟨gs,hgs9⟩ : ∃gs,fs.set 9 (.slice A m c)=gs:=⟨_,rfl⟩
 rw [hgs9] at cM hD9
 have hgl8 : gs.length=23:=by rw [← hgs9,List.length_set];exact hfl
 have hg18 : ∀x∈gs,x.oneCell' =true:=by rw [← hgs9];exact set_one hf1 rfl
 have i7:=cf_in9 fs hfl
 have i8:=cf_in9' gs hgl8
 have i9 : fs.toArray.size=gs.toArray.size:=by rw [List.size_toArray,List.size_toArray,hfl,hgl8]
 have i10:=one_arr hg18
 replace cM:=Lib.hid cM
 replace hgs9:=Lib.hid hgs9
 go_upto_region 60 with (first
  | (refine wpList_load_at 41 _ rfl rfl bc 0 rfl fs _ hcr Tryz.underlying41 rfl i7 ?_)
  | (go_at_call 84;(with_reducible refine cM.out.mono ?_);rintro r w8 ⟨rfl,hb⟩
     have hB8:=Lib.hid (hB7.out.trans (hb.mono hB7.out.size))
     have hx8:=Lib.hid (hx7.out.keep hb)
     have hr8:=Lib.hid (hr7.out.keep hb)
     have hc8:=hc7.out.keep hb
     have hc8' : w8.heap[bc]? =some (.cells fs.toArray 41 (0,0)):=hc8
     have hv5:=Lib.hid (fun l hl=>And.intro (hv3.out l hl).1 ((hv3.out l hl).2.but' (But.of_below (b:=bc) hb) (Nat.le_refl _)))
     replace hc8:=Lib.hid hc8
     clear hb)
  | (refine wpList_store_at 41 _ _ rfl rfl bc gs.toArray rfl rfl 41 fs.toArray hc8' i8 i9 i10 ?_))
 have hx6:=Lib.hid (hx8.out.setRow_other (b2:=bc) (by omega) gs.toArray)
 have hr6:=Lib.hid (hr8.out.setRow_other (b2:=bc) (by omega) gs.toArray)
 have hc6:=hc8.out.setRow gs
 have hB6:=Lib.hid (below_setRow hB8.out (show w.heap.size≤bc by omega) gs.toArray)
 have hv6:=Lib.hid (fun l hl=>And.intro (hv5.out l hl).1 ((hv5.out l hl).2.but' (But.row (b:=bc) gs.toArray) (Nat.le_refl _)))
 clear hv3 hv5 hx7 hr7 hc7 hB7 hx8 hr8 hc8 hc8' hB8 hcr i7 i8 i9 i10 hg18 hgl8
 generalize w8.setRow bc gs.toArray=w6 at *
 replace hgs9:=hgs9.out
 generalize hDD9 : setAt cs 11 [.slice A m c]=D at *
 have hgl9 : gs.length=23:=by rw [← hgs9];rw [List.length_set];exact hfl
 have hg19 : ∀x∈gs,x.oneCell' =true:=by rw [← hgs9];exact set_one hf1 rfl
 have hP:=pend hx6.out hr6.out hc6 hl hgl9 hg19 h1 hD9
 have i1:=cf_in9 _ hP.gl
 have i2:=cf_in9' _ hP.gl
 have i3:=st_in9 _ hP.dl
 have i4:=st_in9' _ hP.dl
 have i5:=st_old _ hP.dl
 have e1:=hP.e1
 have e2:=hP.e2
 have e3:=hP.e3
 have e4:=hP.e4
 have g1:=hP.g1
 have d1:=hP.d1
 have hQ:=Lib.hid (fun W9 (h : W9=(w6.setCells w.heap.size 2 gs).setRow (w.heap.size + 1) D.toArray)=>(show PutR .texts 11 o cs s.data.toList w (.returned (.tuple #[.agg D.toArray,.bool b])) W9 by rw [h];exact put_fin (z:=[.slice A m c]) hDD9 hB6.out hbc rfl (fun x hx=>by rw [List.mem_singleton.1 hx];rfl) (fun pv h=>by obtain ⟨l,hl,rfl⟩:=map_some (show (allM rdNameR (splitL 44 s.data.toList)).map PV.texts=some pv from h);obtain ⟨e,hN⟩:=hv6.out l hl;exact ⟨e,⟨_,rfl,hN⟩⟩) (fun h=>hv4.out (by have h' : (allM rdNameR (splitL 44 s.data.toList)).map PV.texts=none:=h;cases hq : allM rdNameR (splitL 44 s.data.toList) with | none=>rfl | some l=>rw [hq] at h';cases h'))))
 clear hP hDD9
 go_wp2_with (first
  | (refine wpList_load_at 41 _ rfl rfl bc 0 rfl gs _ e1 Tryz.underlying41 rfl i1 ?_)
  | (refine wpList_store_mid rfl 41 _ _ rfl w.heap.size 2 gs.toArray rfl rfl e2 i2 g1 ?_;simp only [List.toList_toArray])
  | (refine wpList_load_at 44 _ rfl rfl w.heap.size 0 rfl D _ e3 Tryz.underlying44 rfl i3 ?_)
  | (refine wpList_store_at 44 _ _ rfl rfl (w.heap.size + 1) D.toArray rfl rfl 44 (stZ 0).toArray e4 i4 i5 d1 ?_))
 refine bodyPost_ret (resV2 rfl _ _ (w.heap.size + 1) 44 D.toArray (0,0) _ (.bool b) rfl (hsetRow _ _ _ _ _ _ e4) Tryz.underlying44 rfl i4 rfl) rfl (hQ.out _ rfl)
set_option maxRecDepth 100000 in
set_option maxHeartbeats 4000000 in
theorem put_15 (cs : List Value) (o : Nat × Nat × Nat) (s : ByteArray) (w : World) (hs : s.size≤1099511627776) (hl : cs.length=29) (h1 : ∀x∈cs,x.oneCell' =true) :
 Calls Tryz.prog 50 #[.agg cs.toArray,.int .i64 15,.string s] w (PutR .texts 12 o cs s.data.toList w):=by
 have cN:=Lib.hid (fun W'=>rnumber_any s W' (by omega))
 have cU:=Lib.hid (fun W'=>runescape_any s W' hs)
 obtain ⟨yx,gb,hget,hgn,hgs⟩:=unesc_ans s.data.toList
 obtain ⟨W2,hW2⟩ : ∃x,(w.alloc (.cells cs.toArray 44)).alloc (.cells (stZ 0).toArray 44)=x:=⟨_,rfl⟩
 have hB1:=below_new w (.cells cs.toArray 44)
 have hB2:=hB1.trans ((below_new (w.alloc (.cells cs.toArray 44)) (.cells (stZ 0).toArray 44)).mono hB1.size)
 have hx2 : Row ((w.alloc (.cells cs.toArray 44)).alloc (.cells (stZ 0).toArray 44)) w.heap.size 44 cs:=Row.keep (heap_new w _) (below_new _ _)
 have hr2 : Row ((w.alloc (.cells cs.toArray 44)).alloc (.cells (stZ 0).toArray 44)) (w.heap.size + 1) 44 (stZ 0):=by have:=heap_new (w.alloc (.cells cs.toArray 44)) (.cells (stZ 0).toArray 44);rwa [World.size_alloc] at this
 rw [hW2] at hB2 hx2 hr2
 have hfl : ((cs.drop 2).take 23).length=23:=by rw [List.length_take,List.length_drop];omega
 have hf1 : ∀x∈(cs.drop 2).take 23,x.oneCell' =true:=fun x hx=>h1 x (List.mem_of_mem_drop (List.mem_of_mem_take hx))
 have hfm : ∀(j : Nat) x,((cs.drop 2).take 23)[j]? =some x→cs[2 + j]? =some x:=fun j x hj=>by
  have hj2 : j < 23:=by have:=(List.getElem?_eq_some_iff.1 hj).1;omega
  rwa [List.getElem?_take,if_pos hj2,List.getElem?_drop] at hj
 have hDD : ∀v,setAt cs 2 (((cs.drop 2).take 23).set 10 v)=setAt cs 12 [v]:=fun v=>fold_c (z:=[v]) hl rfl (by simp)
 generalize hfs : (cs.drop 2).take 23=fs at *
 have hfi:=cf_in9 fs hfl
 have hfi':=cf_in9' fs hfl
 have hfo:=cf_old fs hfl
 have hfa:=one_arr hf1
 replace hB2:=Lib.hid hB2
 replace hx2:=Lib.hid hx2
 replace hr2:=Lib.hid hr2
 replace hgn:=Lib.hid hgn
 replace hgs:=Lib.hid hgs
 replace hfm:=Lib.hid hfm
 clear hB1 hfs
 go_enter Tryz.func50,Tryz.ntmps50
 go_upto_region 1 with (first
  | (refine wpList_box_row 44 _ rfl rfl cs.toArray rfl ?_)
  | (refine wpList_alloc_row 44 rfl rfl (stZ 0).toArray st_zero ?_;try simp only [World.size_alloc]))
 try rw [hW2]
 clear hW2
 go_upto_region 3 with (first
  | (go_at_call 79;(with_reducible refine (cN.out _).mono ?_);rintro r w3 ⟨n,bn,rfl,hnI,hna,hb⟩;have hB3:=Lib.hid (hB2.out.trans (hb.mono hB2.out.size));have hb3:=Lib.hid hb;clear hb)
  | (go_at_call 12;(with_reducible refine (cU.out _).mono ?_);rintro r w4 ⟨hu,hb⟩;obtain rfl:=hget _ hu;have hB4:=Lib.hid (hB3.out.trans (hb.mono hB3.out.size));have hb4:=Lib.hid (hb3.out.trans (hb.mono hb3.out.size));clear hb hu))
 have hx4:=hx2.out.keep hb4.out
 have hr4:=hr2.out.keep hb4.out
 have hmid:=hx4.mid hfm.out
 have hcz:=heap_new w4 (.cells cfZ 41)
 clear hget cN cU
 go_upto_region 4 with (first
  | (refine wpList_load_at 41 _ rfl rfl w.heap.size 2 rfl fs _ hmid Tryz.underlying41 rfl hfi ?_)
  | (refine wpList_alloc_row 41 rfl rfl cfZ cf_zero ?_)
  | (refine wpList_store_at 41 _ _ rfl rfl w4.heap.size fs.toArray rfl rfl 41 cfZ hcz hfi' hfo hfa ?_
     rw [setRow_new]))
 have hbn:=below_new w4 (.cells fs.toArray 41)
 have hx5:=hx4.keep hbn
 have hr5:=hr4.keep hbn
 have hc5 : Row (w4.alloc (.cells fs.toArray 41)) w4.heap.size 41 fs:=heap_new w4 _
 have hB5:=hB4.out.trans (hbn.mono hB4.out.size)
 have hbc : w.heap.size + 1 < w4.heap.size:=hr4.lt
 have hlt5:=hc5.lt
 clear hx4 hr4 hmid hcz hbn hfi hfi' hfo hfa hB2 hB3 hB4 hb3 hb4 hx2 hr2
 generalize w4.alloc (.cells fs.toArray 41)=w5 at *
 generalize w4.heap.size=bc at *
 obtain ⟨old,hold⟩:=getc (hfl) 10 (by decide)
 have cL:=rnames_any s w5 hs
 try rw [c44] at cL
 replace cL:=Lib.hid cL
 replace hx5:=Lib.hid hx5
 replace hr5:=Lib.hid hr5
 replace hc5:=Lib.hid hc5
 replace hold:=Lib.hid hold
 go_upto_region 20 with (first
  | (go_at_call 83;(with_reducible refine cL.out.mono ?_);rintro r w7 ⟨v,b,rfl,hb,hv1,hv2⟩
     obtain ⟨A,m,c,rfl⟩:=sl_shape hv1 hv2
     have hB7:=Lib.hid (hB5.trans (hb.mono hB5.size))
     have hx7:=hx5.out.keep hb
     have hr7:=Lib.hid (hr5.out.keep hb)
     have hc7:=hc5.out.keep hb
     have hv3:=Lib.hid (fun l hl=>And.intro (hv1 l hl).1 (OwnR.sln (hv1 l hl).2 hlt5))
     have hv4:=Lib.hid (fun hl=>(hv2 hl).1)
     have hcr:=hc7.range
     replace hx7:=Lib.hid hx7
     replace hc7:=Lib.hid hc7
     clear hb hv1 hv2))
 have hD9:=hDD (.slice A m c)
 have cM:=name_7 fs A m c w7 hfl hf1
 obtain ⟨gs,hgs9⟩ : ∃gs,fs.set 10 (.slice A m c)=gs:=⟨_,rfl⟩
 rw [hgs9] at cM hD9
 have hgl8 : gs.length=23:=by rw [← hgs9,List.length_set];exact hfl
 have hg18 : ∀x∈gs,x.oneCell' =true:=by rw [← hgs9];exact set_one hf1 rfl
 have i7:=cf_in9 fs hfl
 have i8:=cf_in9' gs hgl8
 have i9 : fs.toArray.size=gs.toArray.size:=by rw [List.size_toArray,List.size_toArray,hfl,hgl8]
 have i10:=one_arr hg18
 replace cM:=Lib.hid cM
 replace hgs9:=Lib.hid hgs9
 go_upto_region 60 with (first
  | (refine wpList_load_at 41 _ rfl rfl bc 0 rfl fs _ hcr Tryz.underlying41 rfl i7 ?_)
  | (go_at_call 84;(with_reducible refine cM.out.mono ?_);rintro r w8 ⟨rfl,hb⟩
     have hB8:=Lib.hid (hB7.out.trans (hb.mono hB7.out.size))
     have hx8:=Lib.hid (hx7.out.keep hb)
     have hr8:=Lib.hid (hr7.out.keep hb)
     have hc8:=hc7.out.keep hb
     have hc8' : w8.heap[bc]? =some (.cells fs.toArray 41 (0,0)):=hc8
     have hv5:=Lib.hid (fun l hl=>And.intro (hv3.out l hl).1 ((hv3.out l hl).2.but' (But.of_below (b:=bc) hb) (Nat.le_refl _)))
     replace hc8:=Lib.hid hc8
     clear hb)
  | (refine wpList_store_at 41 _ _ rfl rfl bc gs.toArray rfl rfl 41 fs.toArray hc8' i8 i9 i10 ?_))
 have hx6:=Lib.hid (hx8.out.setRow_other (b2:=bc) (by omega) gs.toArray)
 have hr6:=Lib.hid (hr8.out.setRow_other (b2:=bc) (by omega) gs.toArray)
 have hc6:=hc8.out.setRow gs
 have hB6:=Lib.hid (below_setRow hB8.out (show w.heap.size≤bc by omega) gs.toArray)
 have hv6:=Lib.hid (fun l hl=>And.intro (hv5.out l hl).1 ((hv5.out l hl).2.but' (But.row (b:=bc) gs.toArray) (Nat.le_refl _)))
 clear hv3 hv5 hx7 hr7 hc7 hB7 hx8 hr8 hc8 hc8' hB8 hcr i7 i8 i9 i10 hg18 hgl8
 generalize w8.setRow bc gs.toArray=w6 at *
 replace hgs9:=hgs9.out
 generalize hDD9 : setAt cs 12 [.slice A m c]=D at *
 have hgl9 : gs.length=23:=by rw [← hgs9];rw [List.length_set];exact hfl
 have hg19 : ∀x∈gs,x.oneCell' =true:=by rw [← hgs9];exact set_one hf1 rfl
 have hP:=pend hx6.out hr6.out hc6 hl hgl9 hg19 h1 hD9
 have i1:=cf_in9 _ hP.gl
 have i2:=cf_in9' _ hP.gl
 have i3:=st_in9 _ hP.dl
 have i4:=st_in9' _ hP.dl
 have i5:=st_old _ hP.dl
 have e1:=hP.e1
 have e2:=hP.e2
 have e3:=hP.e3
 have e4:=hP.e4
 have g1:=hP.g1
 have d1:=hP.d1
 have hQ:=Lib.hid (fun W9 (h : W9=(w6.setCells w.heap.size 2 gs).setRow (w.heap.size + 1) D.toArray)=>(show PutR .texts 12 o cs s.data.toList w (.returned (.tuple #[.agg D.toArray,.bool b])) W9 by rw [h];exact put_fin (z:=[.slice A m c]) hDD9 hB6.out hbc rfl (fun x hx=>by rw [List.mem_singleton.1 hx];rfl) (fun pv h=>by obtain ⟨l,hl,rfl⟩:=map_some (show (allM rdNameR (splitL 44 s.data.toList)).map PV.texts=some pv from h);obtain ⟨e,hN⟩:=hv6.out l hl;exact ⟨e,⟨_,rfl,hN⟩⟩) (fun h=>hv4.out (by have h' : (allM rdNameR (splitL 44 s.data.toList)).map PV.texts=none:=h;cases hq : allM rdNameR (splitL 44 s.data.toList) with | none=>rfl | some l=>rw [hq] at h';cases h'))))
 clear hP hDD9
 go_wp2_with (first
  | (refine wpList_load_at 41 _ rfl rfl bc 0 rfl gs _ e1 Tryz.underlying41 rfl i1 ?_)
  | (refine wpList_store_mid rfl 41 _ _ rfl w.heap.size 2 gs.toArray rfl rfl e2 i2 g1 ?_;simp only [List.toList_toArray])
  | (refine wpList_load_at 44 _ rfl rfl w.heap.size 0 rfl D _ e3 Tryz.underlying44 rfl i3 ?_)
  | (refine wpList_store_at 44 _ _ rfl rfl (w.heap.size + 1) D.toArray rfl rfl 44 (stZ 0).toArray e4 i4 i5 d1 ?_))
 refine bodyPost_ret (resV2 rfl _ _ (w.heap.size + 1) 44 D.toArray (0,0) _ (.bool b) rfl (hsetRow _ _ _ _ _ _ e4) Tryz.underlying44 rfl i4 rfl) rfl (hQ.out _ rfl)
set_option maxRecDepth 100000 in
set_option maxHeartbeats 4000000 in
theorem put_16 (cs : List Value) (o : Nat × Nat × Nat) (s : ByteArray) (w : World) (hs : s.size≤1099511627776) (hl : cs.length=29) (h1 : ∀x∈cs,x.oneCell' =true) :
 Calls Tryz.prog 50 #[.agg cs.toArray,.int .i64 16,.string s] w (PutR .texts 13 o cs s.data.toList w):=by
 have cN:=Lib.hid (fun W'=>rnumber_any s W' (by omega))
 have cU:=Lib.hid (fun W'=>runescape_any s W' hs)
 obtain ⟨yx,gb,hget,hgn,hgs⟩:=unesc_ans s.data.toList
 obtain ⟨W2,hW2⟩ : ∃x,(w.alloc (.cells cs.toArray 44)).alloc (.cells (stZ 0).toArray 44)=x:=⟨_,rfl⟩
 have hB1:=below_new w (.cells cs.toArray 44)
 have hB2:=hB1.trans ((below_new (w.alloc (.cells cs.toArray 44)) (.cells (stZ 0).toArray 44)).mono hB1.size)
 have hx2 : Row ((w.alloc (.cells cs.toArray 44)).alloc (.cells (stZ 0).toArray 44)) w.heap.size 44 cs:=Row.keep (heap_new w _) (below_new _ _)
 have hr2 : Row ((w.alloc (.cells cs.toArray 44)).alloc (.cells (stZ 0).toArray 44)) (w.heap.size + 1) 44 (stZ 0):=by have:=heap_new (w.alloc (.cells cs.toArray 44)) (.cells (stZ 0).toArray 44);rwa [World.size_alloc] at this
 rw [hW2] at hB2 hx2 hr2
 have hfl : ((cs.drop 2).take 23).length=23:=by rw [List.length_take,List.length_drop];omega
 have hf1 : ∀x∈(cs.drop 2).take 23,x.oneCell' =true:=fun x hx=>h1 x (List.mem_of_mem_drop (List.mem_of_mem_take hx))
 have hfm : ∀(j : Nat) x,((cs.drop 2).take 23)[j]? =some x→cs[2 + j]? =some x:=fun j x hj=>by
  have hj2 : j < 23:=by have:=(List.getElem?_eq_some_iff.1 hj).1;omega
  rwa [List.getElem?_take,if_pos hj2,List.getElem?_drop] at hj
 have hDD : ∀v,setAt cs 2 (((cs.drop 2).take 23).set 11 v)=setAt cs 13 [v]:=fun v=>fold_c (z:=[v]) hl rfl (by simp)
 generalize hfs : (cs.drop 2).take 23=fs at *
 have hfi:=cf_in9 fs hfl
 have hfi':=cf_in9' fs hfl
 have hfo:=cf_old fs hfl
 have hfa:=one_arr hf1
 replace hB2:=Lib.hid hB2
 replace hx2:=Lib.hid hx2
 replace hr2:=Lib.hid hr2
 replace hgn:=Lib.hid hgn
 replace hgs:=Lib.hid hgs
 replace hfm:=Lib.hid hfm
 clear hB1 hfs
 go_enter Tryz.func50,Tryz.ntmps50
 go_upto_region 1 with (first
  | (refine wpList_box_row 44 _ rfl rfl cs.toArray rfl ?_)
  | (refine wpList_alloc_row 44 rfl rfl (stZ 0).toArray st_zero ?_;try simp only [World.size_alloc]))
 try rw [hW2]
 clear hW2
 go_upto_region 3 with (first
  | (go_at_call 79;(with_reducible refine (cN.out _).mono ?_);rintro r w3 ⟨n,bn,rfl,hnI,hna,hb⟩;have hB3:=Lib.hid (hB2.out.trans (hb.mono hB2.out.size));have hb3:=Lib.hid hb;clear hb)
  | (go_at_call 12;(with_reducible refine (cU.out _).mono ?_);rintro r w4 ⟨hu,hb⟩;obtain rfl:=hget _ hu;have hB4:=Lib.hid (hB3.out.trans (hb.mono hB3.out.size));have hb4:=Lib.hid (hb3.out.trans (hb.mono hb3.out.size));clear hb hu))
 have hx4:=hx2.out.keep hb4.out
 have hr4:=hr2.out.keep hb4.out
 have hmid:=hx4.mid hfm.out
 have hcz:=heap_new w4 (.cells cfZ 41)
 clear hget cN cU
 go_upto_region 4 with (first
  | (refine wpList_load_at 41 _ rfl rfl w.heap.size 2 rfl fs _ hmid Tryz.underlying41 rfl hfi ?_)
  | (refine wpList_alloc_row 41 rfl rfl cfZ cf_zero ?_)
  | (refine wpList_store_at 41 _ _ rfl rfl w4.heap.size fs.toArray rfl rfl 41 cfZ hcz hfi' hfo hfa ?_
     rw [setRow_new]))
 have hbn:=below_new w4 (.cells fs.toArray 41)
 have hx5:=hx4.keep hbn
 have hr5:=hr4.keep hbn
 have hc5 : Row (w4.alloc (.cells fs.toArray 41)) w4.heap.size 41 fs:=heap_new w4 _
 have hB5:=hB4.out.trans (hbn.mono hB4.out.size)
 have hbc : w.heap.size + 1 < w4.heap.size:=hr4.lt
 have hlt5:=hc5.lt
 clear hx4 hr4 hmid hcz hbn hfi hfi' hfo hfa hB2 hB3 hB4 hb3 hb4 hx2 hr2
 generalize w4.alloc (.cells fs.toArray 41)=w5 at *
 generalize w4.heap.size=bc at *
 obtain ⟨old,hold⟩:=getc (hfl) 11 (by decide)
 have cL:=rnames_any s w5 hs
 try rw [c44] at cL
 replace cL:=Lib.hid cL
 replace hx5:=Lib.hid hx5
 replace hr5:=Lib.hid hr5
 replace hc5:=Lib.hid hc5
 replace hold:=Lib.hid hold
 go_upto_region 20 with (first
  | (go_at_call 83;(with_reducible refine cL.out.mono ?_);rintro r w7 ⟨v,b,rfl,hb,hv1,hv2⟩
     obtain ⟨A,m,c,rfl⟩:=sl_shape hv1 hv2
     have hB7:=Lib.hid (hB5.trans (hb.mono hB5.size))
     have hx7:=hx5.out.keep hb
     have hr7:=Lib.hid (hr5.out.keep hb)
     have hc7:=hc5.out.keep hb
     have hv3:=Lib.hid (fun l hl=>And.intro (hv1 l hl).1 (OwnR.sln (hv1 l hl).2 hlt5))
     have hv4:=Lib.hid (fun hl=>(hv2 hl).1)
     have hcr:=hc7.range
     replace hx7:=Lib.hid hx7
     replace hc7:=Lib.hid hc7
     clear hb hv1 hv2))
 have hD9:=hDD (.slice A m c)
 have cM:=name_8 fs A m c w7 hfl hf1
 obtain ⟨gs,hgs9⟩ : ∃gs,fs.set 11 (.slice A m c)=gs:=⟨_,rfl⟩
 rw [hgs9] at cM hD9
 have hgl8 : gs.length=23:=by rw [← hgs9,List.length_set];exact hfl
 have hg18 : ∀x∈gs,x.oneCell' =true:=by rw [← hgs9];exact set_one hf1 rfl
 have i7:=cf_in9 fs hfl
 have i8:=cf_in9' gs hgl8
 have i9 : fs.toArray.size=gs.toArray.size:=by rw [List.size_toArray,List.size_toArray,hfl,hgl8]
 have i10:=one_arr hg18
 replace cM:=Lib.hid cM
 replace hgs9:=Lib.hid hgs9
 go_upto_region 60 with (first
  | (refine wpList_load_at 41 _ rfl rfl bc 0 rfl fs _ hcr Tryz.underlying41 rfl i7 ?_)
  | (go_at_call 84;(with_reducible refine cM.out.mono ?_);rintro r w8 ⟨rfl,hb⟩
     have hB8:=Lib.hid (hB7.out.trans (hb.mono hB7.out.size))
     have hx8:=Lib.hid (hx7.out.keep hb)
     have hr8:=Lib.hid (hr7.out.keep hb)
     have hc8:=hc7.out.keep hb
     have hc8' : w8.heap[bc]? =some (.cells fs.toArray 41 (0,0)):=hc8
     have hv5:=Lib.hid (fun l hl=>And.intro (hv3.out l hl).1 ((hv3.out l hl).2.but' (But.of_below (b:=bc) hb) (Nat.le_refl _)))
     replace hc8:=Lib.hid hc8
     clear hb)
  | (refine wpList_store_at 41 _ _ rfl rfl bc gs.toArray rfl rfl 41 fs.toArray hc8' i8 i9 i10 ?_))
 have hx6:=Lib.hid (hx8.out.setRow_other (b2:=bc) (by omega) gs.toArray)
 have hr6:=Lib.hid (hr8.out.setRow_other (b2:=bc) (by omega) gs.toArray)
 have hc6:=hc8.out.setRow gs
 have hB6:=Lib.hid (below_setRow hB8.out (show w.heap.size≤bc by omega) gs.toArray)
 have hv6:=Lib.hid (fun l hl=>And.intro (hv5.out l hl).1 ((hv5.out l hl).2.but' (But.row (b:=bc) gs.toArray) (Nat.le_refl _)))
 clear hv3 hv5 hx7 hr7 hc7 hB7 hx8 hr8 hc8 hc8' hB8 hcr i7 i8 i9 i10 hg18 hgl8
 generalize w8.setRow bc gs.toArray=w6 at *
 replace hgs9:=hgs9.out
 generalize hDD9 : setAt cs 13 [.slice A m c]=D at *
 have hgl9 : gs.length=23:=by rw [← hgs9];rw [List.length_set];exact hfl
 have hg19 : ∀x∈gs,x.oneCell' =true:=by rw [← hgs9];exact set_one hf1 rfl
 have hP:=pend hx6.out hr6.out hc6 hl hgl9 hg19 h1 hD9
 have i1:=cf_in9 _ hP.gl
 have i2:=cf_in9' _ hP.gl
 have i3:=st_in9 _ hP.dl
 have i4:=st_in9' _ hP.dl
 have i5:=st_old _ hP.dl
 have e1:=hP.e1
 have e2:=hP.e2
 have e3:=hP.e3
 have e4:=hP.e4
 have g1:=hP.g1
 have d1:=hP.d1
 have hQ:=Lib.hid (fun W9 (h : W9=(w6.setCells w.heap.size 2 gs).setRow (w.heap.size + 1) D.toArray)=>(show PutR .texts 13 o cs s.data.toList w (.returned (.tuple #[.agg D.toArray,.bool b])) W9 by rw [h];exact put_fin (z:=[.slice A m c]) hDD9 hB6.out hbc rfl (fun x hx=>by rw [List.mem_singleton.1 hx];rfl) (fun pv h=>by obtain ⟨l,hl,rfl⟩:=map_some (show (allM rdNameR (splitL 44 s.data.toList)).map PV.texts=some pv from h);obtain ⟨e,hN⟩:=hv6.out l hl;exact ⟨e,⟨_,rfl,hN⟩⟩) (fun h=>hv4.out (by have h' : (allM rdNameR (splitL 44 s.data.toList)).map PV.texts=none:=h;cases hq : allM rdNameR (splitL 44 s.data.toList) with | none=>rfl | some l=>rw [hq] at h';cases h'))))
 clear hP hDD9
 go_wp2_with (first
  | (refine wpList_load_at 41 _ rfl rfl bc 0 rfl gs _ e1 Tryz.underlying41 rfl i1 ?_)
  | (refine wpList_store_mid rfl 41 _ _ rfl w.heap.size 2 gs.toArray rfl rfl e2 i2 g1 ?_;simp only [List.toList_toArray])
  | (refine wpList_load_at 44 _ rfl rfl w.heap.size 0 rfl D _ e3 Tryz.underlying44 rfl i3 ?_)
  | (refine wpList_store_at 44 _ _ rfl rfl (w.heap.size + 1) D.toArray rfl rfl 44 (stZ 0).toArray e4 i4 i5 d1 ?_))
 refine bodyPost_ret (resV2 rfl _ _ (w.heap.size + 1) 44 D.toArray (0,0) _ (.bool b) rfl (hsetRow _ _ _ _ _ _ e4) Tryz.underlying44 rfl i4 rfl) rfl (hQ.out _ rfl)
set_option maxRecDepth 100000 in
set_option maxHeartbeats 4000000 in
theorem put_18 (cs : List Value) (o : Nat × Nat × Nat) (s : ByteArray) (w : World) (hs : s.size≤1099511627776) (hl : cs.length=29) (h1 : ∀x∈cs,x.oneCell' =true) :
 Calls Tryz.prog 50 #[.agg cs.toArray,.int .i64 18,.string s] w (PutR .grants 15 o cs s.data.toList w):=by
 have cN:=Lib.hid (fun W'=>rnumber_any s W' (by omega))
 have cU:=Lib.hid (fun W'=>runescape_any s W' hs)
 obtain ⟨yx,gb,hget,hgn,hgs⟩:=unesc_ans s.data.toList
 obtain ⟨W2,hW2⟩ : ∃x,(w.alloc (.cells cs.toArray 44)).alloc (.cells (stZ 0).toArray 44)=x:=⟨_,rfl⟩
 have hB1:=below_new w (.cells cs.toArray 44)
 have hB2:=hB1.trans ((below_new (w.alloc (.cells cs.toArray 44)) (.cells (stZ 0).toArray 44)).mono hB1.size)
 have hx2 : Row ((w.alloc (.cells cs.toArray 44)).alloc (.cells (stZ 0).toArray 44)) w.heap.size 44 cs:=Row.keep (heap_new w _) (below_new _ _)
 have hr2 : Row ((w.alloc (.cells cs.toArray 44)).alloc (.cells (stZ 0).toArray 44)) (w.heap.size + 1) 44 (stZ 0):=by have:=heap_new (w.alloc (.cells cs.toArray 44)) (.cells (stZ 0).toArray 44);rwa [World.size_alloc] at this
 rw [hW2] at hB2 hx2 hr2
 have hfl : ((cs.drop 2).take 23).length=23:=by rw [List.length_take,List.length_drop];omega
 have hf1 : ∀x∈(cs.drop 2).take 23,x.oneCell' =true:=fun x hx=>h1 x (List.mem_of_mem_drop (List.mem_of_mem_take hx))
 have hfm : ∀(j : Nat) x,((cs.drop 2).take 23)[j]? =some x→cs[2 + j]? =some x:=fun j x hj=>by
  have hj2 : j < 23:=by have:=(List.getElem?_eq_some_iff.1 hj).1;omega
  rwa [List.getElem?_take,if_pos hj2,List.getElem?_drop] at hj
 have hDD : ∀v,setAt cs 2 (((cs.drop 2).take 23).set 13 v)=setAt cs 15 [v]:=fun v=>fold_c (z:=[v]) hl rfl (by simp)
 generalize hfs : (cs.drop 2).take 23=fs at *
 have hfi:=cf_in9 fs hfl
 have hfi':=cf_in9' fs hfl
 have hfo:=cf_old fs hfl
 have hfa:=one_arr hf1
 replace hB2:=Lib.hid hB2
 replace hx2:=Lib.hid hx2
 replace hr2:=Lib.hid hr2
 replace hgn:=Lib.hid hgn
 replace hgs:=Lib.hid hgs
 replace hfm:=Lib.hid hfm
 clear hB1 hfs
 go_enter Tryz.func50,Tryz.ntmps50
 go_upto_region 1 with (first
  | (refine wpList_box_row 44 _ rfl rfl cs.toArray rfl ?_)
  | (refine wpList_alloc_row 44 rfl rfl (stZ 0).toArray st_zero ?_;try simp only [World.size_alloc]))
 try rw [hW2]
 clear hW2
 go_upto_region 3 with (first
  | (go_at_call 79;(with_reducible refine (cN.out _).mono ?_);rintro r w3 ⟨n,bn,rfl,hnI,hna,hb⟩;have hB3:=Lib.hid (hB2.out.trans (hb.mono hB2.out.size));have hb3:=Lib.hid hb;clear hb)
  | (go_at_call 12;(with_reducible refine (cU.out _).mono ?_);rintro r w4 ⟨hu,hb⟩;obtain rfl:=hget _ hu;have hB4:=Lib.hid (hB3.out.trans (hb.mono hB3.out.size));have hb4:=Lib.hid (hb3.out.trans (hb.mono hb3.out.size));clear hb hu))
 have hx4:=hx2.out.keep hb4.out
 have hr4:=hr2.out.keep hb4.out
 have hmid:=hx4.mid hfm.out
 have hcz:=heap_new w4 (.cells cfZ 41)
 clear hget cN cU
 go_upto_region 4 with (first
  | (refine wpList_load_at 41 _ rfl rfl w.heap.size 2 rfl fs _ hmid Tryz.underlying41 rfl hfi ?_)
  | (refine wpList_alloc_row 41 rfl rfl cfZ cf_zero ?_)
  | (refine wpList_store_at 41 _ _ rfl rfl w4.heap.size fs.toArray rfl rfl 41 cfZ hcz hfi' hfo hfa ?_
     rw [setRow_new]))
 have hbn:=below_new w4 (.cells fs.toArray 41)
 have hx5:=hx4.keep hbn
 have hr5:=hr4.keep hbn
 have hc5 : Row (w4.alloc (.cells fs.toArray 41)) w4.heap.size 41 fs:=heap_new w4 _
 have hB5:=hB4.out.trans (hbn.mono hB4.out.size)
 have hbc : w.heap.size + 1 < w4.heap.size:=hr4.lt
 have hlt5:=hc5.lt
 clear hx4 hr4 hmid hcz hbn hfi hfi' hfo hfa hB2 hB3 hB4 hb3 hb4 hx2 hr2
 generalize w4.alloc (.cells fs.toArray 41)=w5 at *
 generalize w4.heap.size=bc at *
 obtain ⟨old,hold⟩:=getc (hfl) 13 (by decide)
 have cL:=rgrants_any s w5 hs
 try rw [c44] at cL
 replace cL:=Lib.hid cL
 replace hx5:=Lib.hid hx5
 replace hr5:=Lib.hid hr5
 replace hc5:=Lib.hid hc5
 replace hold:=Lib.hid hold
 go_upto_region 60 with (first
  | (go_at_call 82;(with_reducible refine cL.out.mono ?_);rintro r w7 ⟨v,b,rfl,hb,hv1,hv2⟩
     obtain ⟨A,m,c,rfl⟩:=sl_shape hv1 hv2
     have hB7:=Lib.hid (hB5.trans (hb.mono hB5.size))
     have hx7:=hx5.out.keep hb
     have hr7:=Lib.hid (hr5.out.keep hb)
     have hc7:=hc5.out.keep hb
     have hv3:=Lib.hid (fun l hl=>And.intro (hv1 l hl).1 (OwnR.sln (hv1 l hl).2 hlt5))
     have hv4:=Lib.hid (fun hl=>(hv2 hl).1)
     have hcell:=hc7.cell hold.out
     have hfroz:=hc7.froz 13
     replace hx7:=Lib.hid hx7
     replace hc7:=Lib.hid hc7
     clear hb hv1 hv2))
 have hx6:=Lib.hid (hx7.out.other (b2:=bc) (off:=13) (by omega) (.slice A m c))
 have hr6:=Lib.hid (hr7.out.other (b2:=bc) (off:=13) (by omega) (.slice A m c))
 have hc6:=hc7.out.set (off:=13) (.slice A m c)
 have hB6:=Lib.hid (hB7.out.setCell (p:=⟨bc,13,none⟩) (by show w.heap.size≤bc;omega) (.slice A m c))
 have hD9:=hDD (.slice A m c)
 have hv6:=Lib.hid (fun l hl=>And.intro (hv3.out l hl).1 ((hv3.out l hl).2.but' (But.set (b:=bc) (off:=13) (.slice A m c)) (by omega)))
 clear hv3 hcell hfroz hx7 hr7 hc7 hB7
 generalize w7.setCell ⟨bc,13,none⟩ (.slice A m c)=w6 at *
 obtain ⟨gs,hgs9⟩ : ∃gs,fs.set 13 (.slice A m c)=gs:=⟨_,rfl⟩
 rw [hgs9] at hc6 hD9
 generalize hDD9 : setAt cs 15 [.slice A m c]=D at *
 have hgl9 : gs.length=23:=by rw [← hgs9];rw [List.length_set];exact hfl
 have hg19 : ∀x∈gs,x.oneCell' =true:=by rw [← hgs9];exact set_one hf1 rfl
 have hP:=pend hx6.out hr6.out hc6 hl hgl9 hg19 h1 hD9
 have i1:=cf_in9 _ hP.gl
 have i2:=cf_in9' _ hP.gl
 have i3:=st_in9 _ hP.dl
 have i4:=st_in9' _ hP.dl
 have i5:=st_old _ hP.dl
 have e1:=hP.e1
 have e2:=hP.e2
 have e3:=hP.e3
 have e4:=hP.e4
 have g1:=hP.g1
 have d1:=hP.d1
 have hQ:=Lib.hid (fun W9 (h : W9=(w6.setCells w.heap.size 2 gs).setRow (w.heap.size + 1) D.toArray)=>(show PutR .grants 15 o cs s.data.toList w (.returned (.tuple #[.agg D.toArray,.bool b])) W9 by rw [h];exact put_fin (z:=[.slice A m c]) hDD9 hB6.out hbc rfl (fun x hx=>by rw [List.mem_singleton.1 hx];rfl) (fun pv h=>by obtain ⟨l,hl,rfl⟩:=map_some (show (allM rdGrR (splitL 44 s.data.toList)).map PV.grants=some pv from h);obtain ⟨e,hN⟩:=hv6.out l hl;exact ⟨e,⟨_,rfl,hN⟩⟩) (fun h=>hv4.out (by have h' : (allM rdGrR (splitL 44 s.data.toList)).map PV.grants=none:=h;cases hq : allM rdGrR (splitL 44 s.data.toList) with | none=>rfl | some l=>rw [hq] at h';cases h'))))
 clear hP hDD9
 go_wp2_with (first
  | (refine wpList_load_at 41 _ rfl rfl bc 0 rfl gs _ e1 Tryz.underlying41 rfl i1 ?_)
  | (refine wpList_store_mid rfl 41 _ _ rfl w.heap.size 2 gs.toArray rfl rfl e2 i2 g1 ?_;simp only [List.toList_toArray])
  | (refine wpList_load_at 44 _ rfl rfl w.heap.size 0 rfl D _ e3 Tryz.underlying44 rfl i3 ?_)
  | (refine wpList_store_at 44 _ _ rfl rfl (w.heap.size + 1) D.toArray rfl rfl 44 (stZ 0).toArray e4 i4 i5 d1 ?_))
 refine bodyPost_ret (resV2 rfl _ _ (w.heap.size + 1) 44 D.toArray (0,0) _ (.bool b) rfl (hsetRow _ _ _ _ _ _ e4) Tryz.underlying44 rfl i4 rfl) rfl (hQ.out _ rfl)
set_option maxRecDepth 100000 in
set_option maxHeartbeats 4000000 in
theorem put_22 (cs : List Value) (o : Nat × Nat × Nat) (s : ByteArray) (w : World) (hs : s.size≤1099511627776) (hl : cs.length=29) (h1 : ∀x∈cs,x.oneCell' =true) :
 Calls Tryz.prog 50 #[.agg cs.toArray,.int .i64 22,.string s] w (PutR .nums 19 o cs s.data.toList w):=by
 have cN:=Lib.hid (fun W'=>rnumber_any s W' (by omega))
 have cU:=Lib.hid (fun W'=>runescape_any s W' hs)
 obtain ⟨yx,gb,hget,hgn,hgs⟩:=unesc_ans s.data.toList
 obtain ⟨W2,hW2⟩ : ∃x,(w.alloc (.cells cs.toArray 44)).alloc (.cells (stZ 0).toArray 44)=x:=⟨_,rfl⟩
 have hB1:=below_new w (.cells cs.toArray 44)
 have hB2:=hB1.trans ((below_new (w.alloc (.cells cs.toArray 44)) (.cells (stZ 0).toArray 44)).mono hB1.size)
 have hx2 : Row ((w.alloc (.cells cs.toArray 44)).alloc (.cells (stZ 0).toArray 44)) w.heap.size 44 cs:=Row.keep (heap_new w _) (below_new _ _)
 have hr2 : Row ((w.alloc (.cells cs.toArray 44)).alloc (.cells (stZ 0).toArray 44)) (w.heap.size + 1) 44 (stZ 0):=by have:=heap_new (w.alloc (.cells cs.toArray 44)) (.cells (stZ 0).toArray 44);rwa [World.size_alloc] at this
 rw [hW2] at hB2 hx2 hr2
 have hfl : ((cs.drop 2).take 23).length=23:=by rw [List.length_take,List.length_drop];omega
 have hf1 : ∀x∈(cs.drop 2).take 23,x.oneCell' =true:=fun x hx=>h1 x (List.mem_of_mem_drop (List.mem_of_mem_take hx))
 have hfm : ∀(j : Nat) x,((cs.drop 2).take 23)[j]? =some x→cs[2 + j]? =some x:=fun j x hj=>by
  have hj2 : j < 23:=by have:=(List.getElem?_eq_some_iff.1 hj).1;omega
  rwa [List.getElem?_take,if_pos hj2,List.getElem?_drop] at hj
 have hDD : ∀v,setAt cs 2 (((cs.drop 2).take 23).set 17 v)=setAt cs 19 [v]:=fun v=>fold_c (z:=[v]) hl rfl (by simp)
 generalize hfs : (cs.drop 2).take 23=fs at *
 have hfi:=cf_in9 fs hfl
 have hfi':=cf_in9' fs hfl
 have hfo:=cf_old fs hfl
 have hfa:=one_arr hf1
 replace hB2:=Lib.hid hB2
 replace hx2:=Lib.hid hx2
 replace hr2:=Lib.hid hr2
 replace hgn:=Lib.hid hgn
 replace hgs:=Lib.hid hgs
 replace hfm:=Lib.hid hfm
 clear hB1 hfs
 go_enter Tryz.func50,Tryz.ntmps50
 go_upto_region 1 with (first
  | (refine wpList_box_row 44 _ rfl rfl cs.toArray rfl ?_)
  | (refine wpList_alloc_row 44 rfl rfl (stZ 0).toArray st_zero ?_;try simp only [World.size_alloc]))
 try rw [hW2]
 clear hW2
 go_upto_region 3 with (first
  | (go_at_call 79;(with_reducible refine (cN.out _).mono ?_);rintro r w3 ⟨n,bn,rfl,hnI,hna,hb⟩;have hB3:=Lib.hid (hB2.out.trans (hb.mono hB2.out.size));have hb3:=Lib.hid hb;clear hb)
  | (go_at_call 12;(with_reducible refine (cU.out _).mono ?_);rintro r w4 ⟨hu,hb⟩;obtain rfl:=hget _ hu;have hB4:=Lib.hid (hB3.out.trans (hb.mono hB3.out.size));have hb4:=Lib.hid (hb3.out.trans (hb.mono hb3.out.size));clear hb hu))
 have hx4:=hx2.out.keep hb4.out
 have hr4:=hr2.out.keep hb4.out
 have hmid:=hx4.mid hfm.out
 have hcz:=heap_new w4 (.cells cfZ 41)
 clear hget cN cU
 go_upto_region 4 with (first
  | (refine wpList_load_at 41 _ rfl rfl w.heap.size 2 rfl fs _ hmid Tryz.underlying41 rfl hfi ?_)
  | (refine wpList_alloc_row 41 rfl rfl cfZ cf_zero ?_)
  | (refine wpList_store_at 41 _ _ rfl rfl w4.heap.size fs.toArray rfl rfl 41 cfZ hcz hfi' hfo hfa ?_
     rw [setRow_new]))
 have hbn:=below_new w4 (.cells fs.toArray 41)
 have hx5:=hx4.keep hbn
 have hr5:=hr4.keep hbn
 have hc5 : Row (w4.alloc (.cells fs.toArray 41)) w4.heap.size 41 fs:=heap_new w4 _
 have hB5:=hB4.out.trans (hbn.mono hB4.out.size)
 have hbc : w.heap.size + 1 < w4.heap.size:=hr4.lt
 have hlt5:=hc5.lt
 clear hx4 hr4 hmid hcz hbn hfi hfi' hfo hfa hB2 hB3 hB4 hb3 hb4 hx2 hr2
 generalize w4.alloc (.cells fs.toArray 41)=w5 at *
 generalize w4.heap.size=bc at *
 obtain ⟨old,hold⟩:=getc (hfl) 17 (by decide)
 have cL:=rnumbers_any 44 s w5 hs
 try rw [c44] at cL
 replace cL:=Lib.hid cL
 replace hx5:=Lib.hid hx5
 replace hr5:=Lib.hid hr5
 replace hc5:=Lib.hid hc5
 replace hold:=Lib.hid hold
 go_upto_region 60 with (first
  | (go_at_call 81;(with_reducible refine cL.out.mono ?_);rintro r w7 ⟨v,b,rfl,hb,hv1,hv2⟩
     obtain ⟨A,m,c,rfl⟩:=sl_shape hv1 hv2
     have hB7:=Lib.hid (hB5.trans (hb.mono hB5.size))
     have hx7:=hx5.out.keep hb
     have hr7:=Lib.hid (hr5.out.keep hb)
     have hc7:=hc5.out.keep hb
     have hv3:=Lib.hid (fun l hl=>And.intro (hv1 l hl).1 (OwnR.sln (hv1 l hl).2 hlt5))
     have hv4:=Lib.hid (fun hl=>(hv2 hl).1)
     have hcell:=hc7.cell hold.out
     have hfroz:=hc7.froz 17
     replace hx7:=Lib.hid hx7
     replace hc7:=Lib.hid hc7
     clear hb hv1 hv2))
 have hx6:=Lib.hid (hx7.out.other (b2:=bc) (off:=17) (by omega) (.slice A m c))
 have hr6:=Lib.hid (hr7.out.other (b2:=bc) (off:=17) (by omega) (.slice A m c))
 have hc6:=hc7.out.set (off:=17) (.slice A m c)
 have hB6:=Lib.hid (hB7.out.setCell (p:=⟨bc,17,none⟩) (by show w.heap.size≤bc;omega) (.slice A m c))
 have hD9:=hDD (.slice A m c)
 have hv6:=Lib.hid (fun l hl=>And.intro (hv3.out l hl).1 ((hv3.out l hl).2.but' (But.set (b:=bc) (off:=17) (.slice A m c)) (by omega)))
 clear hv3 hcell hfroz hx7 hr7 hc7 hB7
 generalize w7.setCell ⟨bc,17,none⟩ (.slice A m c)=w6 at *
 obtain ⟨gs,hgs9⟩ : ∃gs,fs.set 17 (.slice A m c)=gs:=⟨_,rfl⟩
 rw [hgs9] at hc6 hD9
 generalize hDD9 : setAt cs 19 [.slice A m c]=D at *
 have hgl9 : gs.length=23:=by rw [← hgs9];rw [List.length_set];exact hfl
 have hg19 : ∀x∈gs,x.oneCell' =true:=by rw [← hgs9];exact set_one hf1 rfl
 have hP:=pend hx6.out hr6.out hc6 hl hgl9 hg19 h1 hD9
 have i1:=cf_in9 _ hP.gl
 have i2:=cf_in9' _ hP.gl
 have i3:=st_in9 _ hP.dl
 have i4:=st_in9' _ hP.dl
 have i5:=st_old _ hP.dl
 have e1:=hP.e1
 have e2:=hP.e2
 have e3:=hP.e3
 have e4:=hP.e4
 have g1:=hP.g1
 have d1:=hP.d1
 have hQ:=Lib.hid (fun W9 (h : W9=(w6.setCells w.heap.size 2 gs).setRow (w.heap.size + 1) D.toArray)=>(show PutR .nums 19 o cs s.data.toList w (.returned (.tuple #[.agg D.toArray,.bool b])) W9 by rw [h];exact put_fin (z:=[.slice A m c]) hDD9 hB6.out hbc rfl (fun x hx=>by rw [List.mem_singleton.1 hx];rfl) (fun pv h=>by obtain ⟨l,hl,rfl⟩:=map_some (show (allM numL (splitL 44 s.data.toList)).map PV.nums=some pv from h);obtain ⟨e,hN⟩:=hv6.out l hl;exact ⟨e,⟨_,rfl,hN⟩⟩) (fun h=>hv4.out (by have h' : (allM numL (splitL 44 s.data.toList)).map PV.nums=none:=h;cases hq : allM numL (splitL 44 s.data.toList) with | none=>rfl | some l=>rw [hq] at h';cases h'))))
 clear hP hDD9
 go_wp2_with (first
  | (refine wpList_load_at 41 _ rfl rfl bc 0 rfl gs _ e1 Tryz.underlying41 rfl i1 ?_)
  | (refine wpList_store_mid rfl 41 _ _ rfl w.heap.size 2 gs.toArray rfl rfl e2 i2 g1 ?_;simp only [List.toList_toArray])
  | (refine wpList_load_at 44 _ rfl rfl w.heap.size 0 rfl D _ e3 Tryz.underlying44 rfl i3 ?_)
  | (refine wpList_store_at 44 _ _ rfl rfl (w.heap.size + 1) D.toArray rfl rfl 44 (stZ 0).toArray e4 i4 i5 d1 ?_))
 refine bodyPost_ret (resV2 rfl _ _ (w.heap.size + 1) 44 D.toArray (0,0) _ (.bool b) rfl (hsetRow _ _ _ _ _ _ e4) Tryz.underlying44 rfl i4 rfl) rfl (hQ.out _ rfl)
end Go.Proofs.YtmicohmbmgbnkaaGreatDoor
