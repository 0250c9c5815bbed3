/- The reference's grants. (printed by wip/gen_sls.py) -/
import Derived.Test.YtmicohmbmgbnkaaGreatDoorVb29
namespace Go.Proofs.YtmicohmbmgbnkaaGreatDoor
open Go Go.RowKit Go.Shelf
open Go.Lib (itoa)
theorem rdGrR_len {p : List UInt8} (h : (splitL 58 p).length≠2) : rdGrR p=none:=by
 unfold rdGrR
 split
 · next u n e=>rw [e] at h;exact absurd rfl h
 · rfl
theorem len_two {α : Type} {l : List α} (h : l.length=2) : ∃a b,l=[a,b]:=by
 match l,h with
 | [a,b],_=>exact ⟨a,b,rfl⟩
theorem rdGrR_two {p u n : List UInt8} (e : splitL 58 p=[u,n]) : rdGrR p=match unescL u,numL n with | some u,some n=>some ⟨u,n⟩ | _,_=>none:=by
 unfold rdGrR
 rw [e]
 rfl
set_option maxRecDepth 100000 in
set_option maxHeartbeats 8000000 in
theorem rgrants_any (s : ByteArray) (w : World) (hs : s.size≤1099511627776) :
 Calls Tryz.prog 82 #[.string s] w (UlR 2 108 GrX.row (allM rdGrR (splitL 44 s.data.toList)) w):=by
 obtain ⟨i0,hi0,hz0,hz1,hz2⟩:=info_parts gr_info
 have hsl : s.data.toList.length=s.size:=by rw [Array.length_toList];rfl
 have hsub:=fun p (hp : p∈splitL 44 s.data.toList)=>split_size p hp
 rw [hsl] at hsub
 have hlen:=splitL_len 44 s.data.toList
 rw [hsl] at hlen
 have cS:=rsplit_any 44 s w hs
 try rw [c44] at cS
 replace cS:=Lib.hid cS
 generalize splitL 44 s.data.toList=ps at *
 obtain ⟨n,hn⟩ : ∃n,ps.length=n:=⟨_,rfl⟩
 have hn9 : n≤1099511627777:=by omega
 have hnh:=Lib.hid hn
 have hr0 : Hid (allM rdGrR (ps.take 0)=some ([] : List GrX)):=Lib.hid rfl
 have cR:=Lib.hid (fun p (hp : p∈ps) W'=>rsplit_any 58 (bs p) W' (by have:=hsub p hp;rw [bs_size];omega))
 have cU:=Lib.hid (fun p (u : List UInt8) (hp : p∈ps) (hu : u∈splitL 58 p) W'=>runescape_any (bs u) W' (by have:=hsub p hp;have:=split_size u hu;rw [bs_size];omega))
 have cN:=Lib.hid (fun p (u : List UInt8) (hp : p∈ps) (hu : u∈splitL 58 p) W'=>rnumber_any (bs u) W' (by have:=hsub p hp;have:=split_size u hu;rw [bs_size];omega))
 clear hsub hlen hsl hn
 go_enter Tryz.func82,Tryz.ntmps82
 go_upto_region 4 with (go_at_call 48;(with_reducible refine cS.out.mono ?_);rintro r wa ⟨v0,rfl,hOv,hb1⟩;obtain ⟨A0,c0,rfl,hS⟩:=hOv.strs;rw [List.length_map,hnh.out] at hS ⊢;replace hS:=Lib.hid hS;have hO1:=Lib.hid (OwnR.nil_ wa wa.heap.size 2 108);replace hb1:=Lib.hid hb1;clear hOv)
 go_loopw [4,6] (fun v jv wr=> ∃(k : Nat) (l : List GrX),k≤n∧jv= .int .i64 k∧Hid (allM rdGrR (ps.take k)=some l)∧Hid (l.length=k)∧Hid (OwnR wr wa.heap.size 2 108 v (l.map GrX.row))∧Hid (Below wa.heap.size wa wr)) (fun _ jv _=>n - (intOf jv).toNat)
 case atStart=>exact ⟨0,[],Nat.zero_le _,rfl,hr0,Lib.hid rfl,hO1,Lib.hid (Below.refl _ _)⟩
 case round=>
  clear hr0 hO1
  obtain ⟨k,l,hk,rfl,hM,hL,hO,hB⟩:=hrel
  have hBw:=Lib.hid (hb1.out.trans (hB.out.mono hb1.out.size))
  by_cases hlt : k < n
  · have hlt' : (k : Int) < (n : Int):=by omega
    obtain ⟨p,hp⟩ : ∃p,ps[k]? =some p:=⟨ps[k]'(by rw [hnh.out];exact hlt),List.getElem?_eq_getElem _⟩
    obtain ⟨b1,o1,x1,rfl,hbl1,hx1,hc0⟩:=(hS.out.keep hB.out).at_ hlt
    rw [List.getElem?_map,hp] at hx1
    obtain rfl : bs p=x1:=Option.some.inj hx1
    have hno:=fun h=>allM_none (f:=rdGrR) hp h
    have hye:=fun y h=>allM_snoc (f:=rdGrR) (y:=y) hM.out hp h
    have hpm:=List.mem_of_getElem? hp
    clear hx1 hp hM
    have cX:=cR.out p hpm wr
    rw [bs_list,c58] at cX
    replace cX:=Lib.hid cX
    generalize bs p=yp at *
    obtain ⟨m,hm⟩ : ∃m,(splitL 58 p).length=m:=⟨_,rfl⟩
    by_cases h2 : m=2
    · subst h2
      obtain ⟨u,nn,e2⟩:=len_two hm
      have hrd:=rdGrR_two e2
      have cX2:=cU.out p u hpm (by rw [e2];exact List.mem_cons_self)
      have cX3:=cN.out p nn hpm (by rw [e2];simp)
      rw [bs_list] at cX2 cX3
      replace cX2:=Lib.hid cX2
      replace cX3:=Lib.hid cX3
      go_upto_region 7 with (go_at_call 48;(with_reducible refine cX.out.mono ?_);rintro r w1 ⟨v1,rfl,hOv,hb2'⟩;obtain ⟨A1,c1,rfl,hS1⟩:=hOv.strs;rw [List.length_map,hm] at hS1 ⊢;have hb2:=hBw.out.trans (hb2'.mono hBw.out.size);have hb3:=hB.out.trans (hb2'.mono hB.out.size);have hO2:=hO.out.keep hb2';replace hb2:=Lib.hid hb2;replace hb3:=Lib.hid hb3;replace hO2:=Lib.hid hO2;rw [e2] at hS1;clear hb2' hO hOv)
      simp only [List.map_cons,List.map_nil] at hS1
      obtain ⟨b2,o2,x2,rfl,hbl2,hx2,hcu⟩:=hS1.at_ (j:=0) (by decide)
      obtain rfl : bs u=x2:=Option.some.inj hx2
      rw [Nat.add_zero] at hcu
      obtain ⟨b3,o3,x3,e3,hbl3,hx3,hcn⟩:=hS1.at_ (j:=1) (by decide)
      obtain rfl : bs nn=x3:=Option.some.inj hx3
      injection e3 with e3
      injection e3 with e31 e32
      subst e31 e32
      have hcn':=Lib.hid (fun W' (h : Below w1.heap.size w1 W')=>(h.cell (p:=⟨b2,o2 + 1,none⟩) hbl3).trans hcn)
      clear hS1 hx2 hx3 hcn hm e2
      cases hu0 : unescL u with
      | none=>
        have hget : ∀{r : Ending},UnR u r→r= .returned (.tuple #[.string ⟨#[]⟩,.bool false]):=fun h=>by rw [unR_get h,hu0];rfl
        have hR:=Lib.hid (hno (by rw [hrd,hu0]))
        clear hye hno hrd hu0
        generalize bs u=yu at *
        generalize bs nn=yn at *
        go_wp2_with (first
         | (go_at_call 12;(with_reducible refine (cX2.out w1).mono ?_);rintro r w2 ⟨hu,hb4'⟩;obtain rfl:=hget hu;have hc3:=hcn'.out w2 hb4';have hb4:=Lib.hid (hb2.out.trans (hb4'.mono hb2.out.size));clear hu hb4')
         | (go_at_call 79;(with_reducible refine (cX3.out w2).mono ?_);rintro r w3 ⟨y,b,rfl,hyI,ha,hb5'⟩;have hb5:=Lib.hid (hb4.out.trans (hb5'.mono hb4.out.size));clear hb5' hyI ha))
        go_ret2
        exact ⟨_,_,rfl,hb5.out,fun l h=>absurd (hR.out.symm.trans h) (by simp),fun _=>⟨rfl,rfl⟩⟩
      | some uu=>
        have hget : ∀{r : Ending},UnR u r→r= .returned (.tuple #[.string (bs uu),.bool true]):=fun h=>by rw [unR_get h,hu0];rfl
        rw [hu0] at hrd
        clear hu0
        replace hrd:=Lib.hid hrd
        replace hno:=Lib.hid hno
        replace hye:=Lib.hid hye
        generalize bs u=yu at *
        generalize bs nn=yn at *
        go_upto_region 11 with (first
         | (go_at_call 12;(with_reducible refine (cX2.out w1).mono ?_);rintro r w2 ⟨hu,hb4'⟩;obtain rfl:=hget hu;have hc3:=hcn'.out w2 hb4';have hb4:=hb2.out.trans (hb4'.mono hb2.out.size);have hb5:=hb3.out.trans (hb4'.mono hb3.out.size);have hO3:=Lib.hid (hO2.out.keep hb4');replace hb4:=Lib.hid hb4;replace hb5:=Lib.hid hb5;clear hu hb4')
         | (go_at_call 79;(with_reducible refine (cX3.out w2).mono ?_);rintro r w3 ⟨y,b,rfl,hyI,ha,hb5'⟩;have hb6:=hb4.out.trans (hb5'.mono hb4.out.size);have hb7:=hb5.out.trans (hb5'.mono hb5.out.size);have hO4:=Lib.hid (hO3.out.keep hb5');replace hb6:=Lib.hid hb6;replace hb7:=Lib.hid hb7;replace ha:=Lib.hid ha;clear hb5' hyI))
        cases b with
        | false=>
          have hR:=Lib.hid (hno.out (by rw [hrd.out,ha.out.no]))
          go_wp2_with fail
          go_ret2
          exact ⟨_,_,rfl,hb6.out,fun l h=>absurd (hR.out.symm.trans h) (by simp),fun _=>⟨rfl,rfl⟩⟩
        | true=>
          have hM2:=Lib.hid (hye.out ⟨uu,y⟩ (by rw [hrd.out,ha.out.yes]))
          have hq3:=below_new w3 (.cells (GrX.row ⟨uu,y⟩).toArray 108)
          have hO5:=Lib.hid (hO4.out.keep hq3)
          have hb8:=Lib.hid (hb7.out.trans (hq3.mono hb7.out.size))
          have hlk:=hL.out
          have hL2:=Lib.hid (show (l ++ [(⟨uu,y⟩ : GrX)]).length=k + 1 by rw [List.length_append,hL.out];rfl)
          clear hq3 hO4 hye hno hrd
          go_wp2_with (first
           | (refine wpList_build_as 108 _ rfl rfl (GrX.row ⟨uu,y⟩).toArray (by kernel_rfl) ?_)
           | (refine wpList_buildSlice_as 36 108 1 _ rfl rfl i0 (.agg grZ) (GrX.row ⟨uu,y⟩).toArray Tryz.underlying36 hi0 hz0 (by rw [hz1];decide) (by rw [hz1];decide) ?_ ?_
              · rw [hz1];exact fill_one 2 _ _ (by simp) rfl)
           | (at_builtin
              refine wpList_append_one rfl _ _ 36 rfl 108 i0 (.agg grZ) 2 24 Tryz.underlying36 hi0 hz0 hz1 hz2 rfl (by decide) wa hb8.out _ _ rfl hO5.out w3.heap.size 1 (GrX.row ⟨uu,y⟩) rfl ?_ rfl (fun u hu=>by simp [GrX.row] at hu;rcases hu with rfl | rfl <;> rfl) ?_ ?_ ?_
              · exact rangeAt_list (heap_new w3 (.cells (GrX.row ⟨uu,y⟩).toArray 108))
              · simp only [List.length_map];unfold maxLen;omega
              · simp only [List.length_map];omega
              intro v' w4 hO6 hB5 hg5
              have hO6:=Lib.hid (show OwnR w4 wa.heap.size 2 108 v' ((l ++ [(⟨uu,y⟩ : GrX)]).map GrX.row) by rw [List.map_append];exact hO6)
              have hB6:=Lib.hid hB5))
          go_roundw
          case rel=>exact ⟨k + 1,_,by omega,by go_num,hM2,hL2,hO6,hB6⟩
          case measure=>simp [intOf];omega
    · have hR:=Lib.hid (hno (rdGrR_len (by rw [hm];exact h2)))
      have hq : (m != 2)=true:=by simp [h2]
      have hq2 : ((m : Int) != 2)=true:=by simp;omega
      clear hye hno
      go_upto_region 7 with (go_at_call 48;(with_reducible refine cX.out.mono ?_);rintro r w1 ⟨v1,rfl,hOv,hb2'⟩;obtain ⟨A1,c1,rfl,hS1⟩:=hOv.strs;rw [List.length_map,hm] at hS1 ⊢;have hb2:=hBw.out.trans (hb2'.mono hBw.out.size);replace hS1:=Lib.hid hS1;replace hb2:=Lib.hid hb2;clear hb2' hO hOv)
      go_wp2_with fail
      go_ret2
      exact ⟨_,_,rfl,hb2.out,fun l h=>absurd (hR.out.symm.trans h) (by simp),fun _=>⟨rfl,rfl⟩⟩
  · obtain rfl : k=n:=by omega
    have hM2 : allM rdGrR ps=some l:=by
     have:=hM.out
     rwa [List.take_of_length_le (by rw [hnh.out];exact Nat.le_refl _)] at this
    replace hM2:=Lib.hid hM2
    go_wp2_with fail
    go_ret2
    exact ⟨_,_,rfl,hBw.out,fun l' h=>⟨rfl,by obtain rfl:=Option.some.inj (hM2.out.symm.trans h);exact hO.out.lowB hb1.out.size⟩,fun h=>absurd (hM2.out.symm.trans h) (by simp)⟩
end Go.Proofs.YtmicohmbmgbnkaaGreatDoor
