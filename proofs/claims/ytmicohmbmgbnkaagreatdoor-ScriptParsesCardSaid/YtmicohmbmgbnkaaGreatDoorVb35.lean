/- The reference's put: the wish. (printed by wip/gen_slv2.py) -/
import Derived.Test.YtmicohmbmgbnkaaGreatDoorVb34
namespace Go.Proofs.YtmicohmbmgbnkaaGreatDoor
open Go Go.RowKit Go.Shelf
open Go.Lib (itoa)
def wshc (o : Nat) (l : List Int) (i j : Nat) : Value:=if j < i then (match l[j]? with | some x=>u32V x | none=> .int .u32 (o : Int)) else .int .u32 (o : Int)
def wsh (o : Nat × Nat × Nat) (l : List Int) (i : Nat) : List Value:=[wshc o.1 l i 0,wshc o.2.1 l i 1,wshc o.2.2 l i 2]
theorem wsh_set {o : Nat × Nat × Nat} {l : List Int} {i : Nat} {x : Int} (hi : i < 3) (hx : l[i]? =some x) : (wsh o l i).set i (u32V x)=wsh o l (i + 1):=by
 match i,hi,hx with
 | 0,_,hx=>simp [wsh,wshc,hx]
 | 1,_,hx=>simp [wsh,wshc,hx]
 | 2,_,hx=>simp [wsh,wshc,hx]
theorem setAt_set {cs z : List Value} {off i : Nat} {v : Value} (hl : off + z.length≤cs.length) (hi : i < z.length) : (setAt cs off z).set (off + i) v=setAt cs off (z.set i v):=by
 refine List.ext_getElem? fun j=> ?_
 rw [setAt_get _ _ _ _ (by rw [List.length_set];exact hl),List.length_set]
 by_cases hj : off + i=j
 · rw [← hj,List.getElem?_set_self (by rw [setAt_len];omega),if_pos (by omega),show off + i - off=i by omega,List.getElem?_set_self hi]
 · rw [List.getElem?_set_ne hj,setAt_get _ _ _ _ hl]
   by_cases h : off≤j∧j < off + z.length
   · rw [if_pos h,if_pos h,List.getElem?_set_ne (by omega)]
   · rw [if_neg h,if_neg h]
theorem wsh_zero {fs : List Value} {o : Nat × Nat × Nat} (l : List Int) (h0 : fs[20]? =some (.int .u32 (o.1 : Int))) (h1 : fs[21]? =some (.int .u32 (o.2.1 : Int))) (h2 : fs[22]? =some (.int .u32 (o.2.2 : Int))) : setAt fs 20 (wsh o l 0)=fs:=by
 have hl:=(List.getElem?_eq_some_iff.1 h2).1
 refine List.ext_getElem? fun j=> ?_
 rw [setAt_get _ _ _ _ (by show 20 + 3≤_;omega)]
 by_cases h : 20≤j∧j < 20 + (wsh o l 0).length
 · rw [if_pos h]
   have hj : j=20∨j=21∨j=22:=by have : (wsh o l 0).length=3:=rfl;omega
   rcases hj with rfl | rfl | rfl
   · rw [h0];rfl
   · rw [h1];rfl
   · rw [h2];rfl
 · rw [if_neg h]
theorem wshc_end {o : Nat} {l : List Int} {i j : Nat} (h : j < i∨l.length≤j) : wshc o l i j= .int .u32 (((l[j]?.map fun (n : Int)=>(n % 4294967296).toNat).getD o : Nat) : Int):=by
 unfold wshc
 cases hx : l[j]? with
 | none=>dsimp only;split <;> rfl
 | some x=>
   have : j < l.length:=(List.getElem?_eq_some_iff.1 hx).1
   rw [if_pos (by omega)]
   exact u32V_nat x
theorem wshc_one (o : Nat) (l : List Int) (i j : Nat) : (wshc o l i j).oneCell' =true:=by
 unfold wshc
 split
 · split <;> rfl
 · rfl
theorem wsh_one (o : Nat × Nat × Nat) (l : List Int) (i : Nat) : ∀x∈wsh o l i,x.oneCell' =true:=fun x hx=>by
 simp only [wsh,List.mem_cons,List.not_mem_nil,or_false] at hx
 rcases hx with rfl | rfl | rfl <;> exact wshc_one _ _ _ _
theorem setAt_mem1 {cs z : List Value} {off : Nat} (h : ∀x∈cs,x.oneCell' =true) (hz : ∀x∈z,x.oneCell' =true) : ∀x∈setAt cs off z,x.oneCell' =true:=setAt_one z cs off h hz
set_option maxRecDepth 100000 in
set_option maxHeartbeats 4000000 in
theorem put_25 (cs : List Value) (o : Nat × Nat × Nat) (s : ByteArray) (w : World) (hs : s.size≤1099511627776) (hl : cs.length=29) (h1 : ∀x∈cs,x.oneCell' =true) (hw0 : cs[22]? =some (.int .u32 (o.1 : Int))) (hw1 : cs[23]? =some (.int .u32 (o.2.1 : Int))) (hw2 : cs[24]? =some (.int .u32 (o.2.2 : Int))) :
 Calls Tryz.prog 50 #[.agg cs.toArray,.int .i64 25,.string s] w (PutR .wish 22 o cs s.data.toList w):=by
 have cN:=Lib.hid (fun W'=>rnumber_any s W' (by omega))
 have cU:=Lib.hid (fun W'=>runescape_any s W' hs)
 obtain ⟨yx,gb,hget,hgn,hgs⟩:=unesc_ans s.data.toList
 obtain ⟨W2,hW2⟩ : ∃x,(w.alloc (.cells cs.toArray 44)).alloc (.cells (stZ 0).toArray 44)=x:=⟨_,rfl⟩
 have hB1:=below_new w (.cells cs.toArray 44)
 have hB2:=hB1.trans ((below_new (w.alloc (.cells cs.toArray 44)) (.cells (stZ 0).toArray 44)).mono hB1.size)
 have hx2 : Row ((w.alloc (.cells cs.toArray 44)).alloc (.cells (stZ 0).toArray 44)) w.heap.size 44 cs:=Row.keep (heap_new w _) (below_new _ _)
 have hr2 : Row ((w.alloc (.cells cs.toArray 44)).alloc (.cells (stZ 0).toArray 44)) (w.heap.size + 1) 44 (stZ 0):=by have:=heap_new (w.alloc (.cells cs.toArray 44)) (.cells (stZ 0).toArray 44);rwa [World.size_alloc] at this
 rw [hW2] at hB2 hx2 hr2
 have hfl : ((cs.drop 2).take 23).length=23:=by rw [List.length_take,List.length_drop];omega
 have hf1 : ∀x∈(cs.drop 2).take 23,x.oneCell' =true:=fun x hx=>h1 x (List.mem_of_mem_drop (List.mem_of_mem_take hx))
 have hfm : ∀(j : Nat) x,((cs.drop 2).take 23)[j]? =some x→cs[2 + j]? =some x:=fun j x hj=>by
  have hj2 : j < 23:=by have:=(List.getElem?_eq_some_iff.1 hj).1;omega
  rwa [List.getElem?_take,if_pos hj2,List.getElem?_drop] at hj
 have hDD : ∀z : List Value,z.length=3→setAt cs 2 (setAt ((cs.drop 2).take 23) 20 z)=setAt cs 22 z:=fun z hz=>fold_c hl rfl (by omega)
 have hq0 : ((cs.drop 2).take 23)[20]? =some (.int .u32 (o.1 : Int)):=by rw [List.getElem?_take,if_pos (by decide),List.getElem?_drop];exact hw0
 have hq1 : ((cs.drop 2).take 23)[21]? =some (.int .u32 (o.2.1 : Int)):=by rw [List.getElem?_take,if_pos (by decide),List.getElem?_drop];exact hw1
 have hq2 : ((cs.drop 2).take 23)[22]? =some (.int .u32 (o.2.2 : Int)):=by rw [List.getElem?_take,if_pos (by decide),List.getElem?_drop];exact hw2
 generalize hfs : (cs.drop 2).take 23=fs at *
 have hfi:=cf_in9 fs hfl
 have hfi':=cf_in9' fs hfl
 have hfo:=cf_old fs hfl
 have hfa:=one_arr hf1
 replace hB2:=Lib.hid hB2
 replace hx2:=Lib.hid hx2
 replace hr2:=Lib.hid hr2
 replace hgn:=Lib.hid hgn
 replace hgs:=Lib.hid hgs
 replace hfm:=Lib.hid hfm
 clear hB1 hfs
 go_enter Tryz.func50,Tryz.ntmps50
 go_upto_region 1 with (first
  | (refine wpList_box_row 44 _ rfl rfl cs.toArray rfl ?_)
  | (refine wpList_alloc_row 44 rfl rfl (stZ 0).toArray st_zero ?_;try simp only [World.size_alloc]))
 try rw [hW2]
 clear hW2
 go_upto_region 3 with (first
  | (go_at_call 79;(with_reducible refine (cN.out _).mono ?_);rintro r w3 ⟨n,bn,rfl,hnI,hna,hb⟩;have hB3:=Lib.hid (hB2.out.trans (hb.mono hB2.out.size));have hb3:=Lib.hid hb;clear hb)
  | (go_at_call 12;(with_reducible refine (cU.out _).mono ?_);rintro r w4 ⟨hu,hb⟩;obtain rfl:=hget _ hu;have hB4:=Lib.hid (hB3.out.trans (hb.mono hB3.out.size));have hb4:=Lib.hid (hb3.out.trans (hb.mono hb3.out.size));clear hb hu))
 have hx4:=hx2.out.keep hb4.out
 have hr4:=hr2.out.keep hb4.out
 have hmid:=hx4.mid hfm.out
 have hcz:=heap_new w4 (.cells cfZ 41)
 clear hget cN cU
 go_upto_region 4 with (first
  | (refine wpList_load_at 41 _ rfl rfl w.heap.size 2 rfl fs _ hmid Tryz.underlying41 rfl hfi ?_)
  | (refine wpList_alloc_row 41 rfl rfl cfZ cf_zero ?_)
  | (refine wpList_store_at 41 _ _ rfl rfl w4.heap.size fs.toArray rfl rfl 41 cfZ hcz hfi' hfo hfa ?_
     rw [setRow_new]))
 have hbn:=below_new w4 (.cells fs.toArray 41)
 have hx5:=hx4.keep hbn
 have hr5:=hr4.keep hbn
 have hc5 : Row (w4.alloc (.cells fs.toArray 41)) w4.heap.size 41 fs:=heap_new w4 _
 have hB5:=hB4.out.trans (hbn.mono hB4.out.size)
 have hbc : w.heap.size + 1 < w4.heap.size:=hr4.lt
 have hlt5:=hc5.lt
 clear hx4 hr4 hmid hcz hbn hfi hfi' hfo hfa hB2 hB3 hB4 hb3 hb4 hx2 hr2
 generalize w4.alloc (.cells fs.toArray 41)=w5 at *
 generalize w4.heap.size=bc at *
 have hwz:=Lib.hid (fun l=>wsh_zero (o:=o) l hq0 hq1 hq2)
 have cL:=rnumbers_any 58 s w5 hs
 try rw [c58] at cL
 replace cL:=Lib.hid cL
 replace hx5:=Lib.hid hx5
 replace hr5:=Lib.hid hr5
 replace hc5:=Lib.hid hc5
 replace hDD:=Lib.hid hDD
 clear hq0 hq1 hq2 hw0 hw1 hw2
 go_upto_region 56 with (first
  | (go_at_call 81;(with_reducible refine cL.out.mono ?_);rintro r w7 ⟨v,b,rfl,hb,hv1,hv2⟩
     have hls : ∃l : List Int,(allM numL (splitL 58 s.data.toList)=none→b=false)∧(∀l',allM numL (splitL 58 s.data.toList)=some l'→b=true∧l' =l)∧SlN bc w7 1 (l.map iv) v:=by
      cases hq : allM numL (splitL 58 s.data.toList) with
      | none=>exact ⟨[],fun _=>(hv2 hq).1,fun l' h=>(by cases h),by rw [(hv2 hq).2];exact SlN.nil_ _ _ _⟩
      | some l=>exact ⟨l,fun h=>(by cases h),fun l' h=>⟨(hv1 l hq).1,(Option.some.inj h).symm⟩,OwnR.sln (hv1 l hq).2 hlt5⟩
     obtain ⟨l,hl2,hl3,A,c,rfl,hlc,hc63,hrl,hAb⟩:=hls
     obtain ⟨nn,hnn⟩ : ∃nn,(l.map iv).length=nn:=⟨_,rfl⟩
     rw [hnn] at hrl hAb hlc ⊢
     rw [List.length_map] at hnn
     have hB7:=Lib.hid (hB5.trans (hb.mono hB5.size))
     have hx7:=Lib.hid (hx5.out.keep hb)
     have hr7:=Lib.hid (hr5.out.keep hb)
     have hc7:=Lib.hid (hc5.out.keep hb)
     replace hrl:=Lib.hid hrl
     replace hl2:=Lib.hid hl2
     replace hl3:=Lib.hid hl3
     replace hAb:=Lib.hid hAb
     replace hnn:=Lib.hid hnn
     clear hb hv1 hv2))
 have hR0 : Hid (Row w7 bc 41 (setAt fs 20 (wsh o l 0))):=Lib.hid (by rw [hwz.out l];exact hc7.out)
 go_wp2_with fail
 go_loopw [15] (fun iv wr=> ∃i : Nat,i≤3∧i≤nn∧iv= .int .i64 i∧Hid (Row wr bc 41 (setAt fs 20 (wsh o l i)))∧Hid (But bc w7 wr)) (fun iv _=>3 - (intOf iv).toNat)
 case atStart=>exact ⟨0,by omega,by omega,rfl,hR0,Lib.hid (But.of_below (Below.refl _ _))⟩
 case round=>
  clear hR0
  obtain ⟨i,hi3,hin,rfl,hR,hBt⟩:=hrel
  by_cases h3 : i < 3
  · have k3 : (i : Int) < 3:=by omega
    by_cases hn : i < nn
    · have kn : (i : Int) < (nn : Int):=by omega
      have k0 : (0 : Int)≤(i : Int):=Int.natCast_nonneg _
      have hrw : Rws wr 1 A nn (l.map iv):=hrl.out.but hBt.out (fun hp a ha e=>by have:=hAb.out hp a ha;omega)
      obtain ⟨b2,off2,z2,rfl,hb2,hz2,_,hr2⟩:=Rws.row hrw hn
      obtain ⟨x,hx,rfl⟩:=map_at hz2
      have hcell:=hr2 0 _ rfl
      rw [Nat.mul_one,Nat.add_zero] at hcell
      obtain ⟨old,hold⟩:=getc (fs:=setAt fs 20 (wsh o l i)) (by rw [setAt_len];exact hfl) (20 + i) (by omega)
      have hcc:=hR.out.cell hold
      have hcf:=hR.out.froz (20 + i)
      have hu32 : IntKind.u32.wrap x=x % 4294967296:=IntKind.wrap_u32 _
      have hR2:=hR.out.set (off:=20 + i) (u32V x)
      rw [setAt_set (by rw [hfl];show 20 + 3≤23;decide) (show i < (wsh o l i).length from h3),wsh_set h3 hx] at hR2
      have hBt2:=hBt.out.trans (But.set (b:=bc) (off:=20 + i) (u32V x))
      unfold u32V at hR2 hBt2
      replace hR2:=Lib.hid hR2
      replace hBt2:=Lib.hid hBt2
      clear hrw hr2 hz2 hx hold hR
      go_wp2_with fail
      go_roundw
      case rel=>exact ⟨i + 1,by omega,by omega,by go_num,hR2,hBt2⟩
      case measure=>simp [intOf];omega
    · have kn : ¬(i : Int) < (nn : Int):=by omega
      have hE : Hid (∀j,j < 3→j < i∨l.length≤j):=Lib.hid (fun j hj=>by have:=hnn.out;omega)
      go_upto_region 60 with fail
      have hx6:=Lib.hid ((hBt.out.block w.heap.size hx7.out.lt (by omega)).trans hx7.out : Row wr w.heap.size 44 cs)
      have hr6:=Lib.hid ((hBt.out.block (w.heap.size + 1) hr7.out.lt (by omega)).trans hr7.out : Row wr (w.heap.size + 1) 44 (stZ 0))
      have hc6:=hR.out
      have hlt7:=hc7.out.lt
      have hB6:=Lib.hid (hB7.out.trans (hBt.out.below (n:=w.heap.size) (by omega) (by omega)))
      have hD9:=hDD.out (wsh o l i) rfl
      have hg19:=setAt_mem1 (off:=20) hf1 (wsh_one o l i)
      have hgl9 : (setAt fs 20 (wsh o l i)).length=23:=by rw [setAt_len];exact hfl
      generalize setAt fs 20 (wsh o l i)=gs at *
      generalize hDD9 : setAt cs 22 (wsh o l i)=D at *
      clear hR hBt hx7 hr7 hc7 hB7
      generalize wr=w6 at *
      have hP:=pend hx6.out hr6.out hc6 hl hgl9 hg19 h1 hD9
      have i1:=cf_in9 _ hP.gl
      have i2:=cf_in9' _ hP.gl
      have i3:=st_in9 _ hP.dl
      have i4:=st_in9' _ hP.dl
      have i5:=st_old _ hP.dl
      have e1:=hP.e1
      have e2:=hP.e2
      have e3:=hP.e3
      have e4:=hP.e4
      have g1:=hP.g1
      have d1:=hP.d1
      have hQ:=Lib.hid (fun W9 (h : W9=(w6.setCells w.heap.size 2 gs).setRow (w.heap.size + 1) D.toArray)=>(show PutR .wish 22 o cs s.data.toList w (.returned (.tuple #[.agg D.toArray,.bool b])) W9 by rw [h];exact put_fin (z:=wsh o l i) hDD9 hB6.out hbc rfl (wsh_one o l i) (fun pv h=>by have h' : (match allM numL (splitL 58 s.data.toList) with | none=>none | some w=>some (PV.wish ((w[0]?.map fun (n : Int)=>(n % 4294967296).toNat).getD o.1) ((w[1]?.map fun (n : Int)=>(n % 4294967296).toNat).getD o.2.1) ((w[2]?.map fun (n : Int)=>(n % 4294967296).toNat).getD o.2.2)))=some pv:=h;cases hq : allM numL (splitL 58 s.data.toList) with | none=>rw [hq] at h';cases h' | some l'=>rw [hq] at h';obtain ⟨e1,e2⟩:=hl3.out l' hq;subst e2;obtain rfl:=Option.some.inj h';exact ⟨e1,by unfold wsh;rw [wshc_end (hE.out 0 (by decide)),wshc_end (hE.out 1 (by decide)),wshc_end (hE.out 2 (by decide))];rfl⟩) (fun h=>hl2.out (by have h' : (match allM numL (splitL 58 s.data.toList) with | none=>none | some w=>some (PV.wish ((w[0]?.map fun (n : Int)=>(n % 4294967296).toNat).getD o.1) ((w[1]?.map fun (n : Int)=>(n % 4294967296).toNat).getD o.2.1) ((w[2]?.map fun (n : Int)=>(n % 4294967296).toNat).getD o.2.2)))=none:=h;cases hq : allM numL (splitL 58 s.data.toList) with | none=>rfl | some l=>rw [hq] at h';cases h'))))
      clear hP hDD9
      go_wp2_with (first
       | (refine wpList_load_at 41 _ rfl rfl bc 0 rfl gs _ e1 Tryz.underlying41 rfl i1 ?_)
       | (refine wpList_store_mid rfl 41 _ _ rfl w.heap.size 2 gs.toArray rfl rfl e2 i2 g1 ?_;simp only [List.toList_toArray])
       | (refine wpList_load_at 44 _ rfl rfl w.heap.size 0 rfl D _ e3 Tryz.underlying44 rfl i3 ?_)
       | (refine wpList_store_at 44 _ _ rfl rfl (w.heap.size + 1) D.toArray rfl rfl 44 (stZ 0).toArray e4 i4 i5 d1 ?_))
      refine bodyPost_ret (resV2 rfl _ _ (w.heap.size + 1) 44 D.toArray (0,0) _ (.bool b) rfl (hsetRow _ _ _ _ _ _ e4) Tryz.underlying44 rfl i4 rfl) rfl (hQ.out _ rfl)
  · have k3 : ¬(i : Int) < 3:=by omega
    have hE : Hid (∀j,j < 3→j < i∨l.length≤j):=Lib.hid (fun j hj=>by omega)
    go_upto_region 60 with fail
    have hx6:=Lib.hid ((hBt.out.block w.heap.size hx7.out.lt (by omega)).trans hx7.out : Row wr w.heap.size 44 cs)
    have hr6:=Lib.hid ((hBt.out.block (w.heap.size + 1) hr7.out.lt (by omega)).trans hr7.out : Row wr (w.heap.size + 1) 44 (stZ 0))
    have hc6:=hR.out
    have hlt7:=hc7.out.lt
    have hB6:=Lib.hid (hB7.out.trans (hBt.out.below (n:=w.heap.size) (by omega) (by omega)))
    have hD9:=hDD.out (wsh o l i) rfl
    have hg19:=setAt_mem1 (off:=20) hf1 (wsh_one o l i)
    have hgl9 : (setAt fs 20 (wsh o l i)).length=23:=by rw [setAt_len];exact hfl
    generalize setAt fs 20 (wsh o l i)=gs at *
    generalize hDD9 : setAt cs 22 (wsh o l i)=D at *
    clear hR hBt hx7 hr7 hc7 hB7
    generalize wr=w6 at *
    have hP:=pend hx6.out hr6.out hc6 hl hgl9 hg19 h1 hD9
    have i1:=cf_in9 _ hP.gl
    have i2:=cf_in9' _ hP.gl
    have i3:=st_in9 _ hP.dl
    have i4:=st_in9' _ hP.dl
    have i5:=st_old _ hP.dl
    have e1:=hP.e1
    have e2:=hP.e2
    have e3:=hP.e3
    have e4:=hP.e4
    have g1:=hP.g1
    have d1:=hP.d1
    have hQ:=Lib.hid (fun W9 (h : W9=(w6.setCells w.heap.size 2 gs).setRow (w.heap.size + 1) D.toArray)=>(show PutR .wish 22 o cs s.data.toList w (.returned (.tuple #[.agg D.toArray,.bool b])) W9 by rw [h];exact put_fin (z:=wsh o l i) hDD9 hB6.out hbc rfl (wsh_one o l i) (fun pv h=>by have h' : (match allM numL (splitL 58 s.data.toList) with | none=>none | some w=>some (PV.wish ((w[0]?.map fun (n : Int)=>(n % 4294967296).toNat).getD o.1) ((w[1]?.map fun (n : Int)=>(n % 4294967296).toNat).getD o.2.1) ((w[2]?.map fun (n : Int)=>(n % 4294967296).toNat).getD o.2.2)))=some pv:=h;cases hq : allM numL (splitL 58 s.data.toList) with | none=>rw [hq] at h';cases h' | some l'=>rw [hq] at h';obtain ⟨e1,e2⟩:=hl3.out l' hq;subst e2;obtain rfl:=Option.some.inj h';exact ⟨e1,by unfold wsh;rw [wshc_end (hE.out 0 (by decide)),wshc_end (hE.out 1 (by decide)),wshc_end (hE.out 2 (by decide))];rfl⟩) (fun h=>hl2.out (by have h' : (match allM numL (splitL 58 s.data.toList) with | none=>none | some w=>some (PV.wish ((w[0]?.map fun (n : Int)=>(n % 4294967296).toNat).getD o.1) ((w[1]?.map fun (n : Int)=>(n % 4294967296).toNat).getD o.2.1) ((w[2]?.map fun (n : Int)=>(n % 4294967296).toNat).getD o.2.2)))=none:=h;cases hq : allM numL (splitL 58 s.data.toList) with | none=>rfl | some l=>rw [hq] at h';cases h'))))
    clear hP hDD9
    go_wp2_with (first
     | (refine wpList_load_at 41 _ rfl rfl bc 0 rfl gs _ e1 Tryz.underlying41 rfl i1 ?_)
     | (refine wpList_store_mid rfl 41 _ _ rfl w.heap.size 2 gs.toArray rfl rfl e2 i2 g1 ?_;simp only [List.toList_toArray])
     | (refine wpList_load_at 44 _ rfl rfl w.heap.size 0 rfl D _ e3 Tryz.underlying44 rfl i3 ?_)
     | (refine wpList_store_at 44 _ _ rfl rfl (w.heap.size + 1) D.toArray rfl rfl 44 (stZ 0).toArray e4 i4 i5 d1 ?_))
    refine bodyPost_ret (resV2 rfl _ _ (w.heap.size + 1) 44 D.toArray (0,0) _ (.bool b) rfl (hsetRow _ _ _ _ _ _ e4) Tryz.underlying44 rfl i4 rfl) rfl (hQ.out _ rfl)
end Go.Proofs.YtmicohmbmgbnkaaGreatDoor
