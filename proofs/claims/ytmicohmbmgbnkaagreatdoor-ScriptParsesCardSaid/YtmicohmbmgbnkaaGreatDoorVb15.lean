/- A wish read; any part read. (printed by wip/gen_skw.py) -/
import Derived.Test.YtmicohmbmgbnkaaGreatDoorVb14
namespace Go.Proofs.YtmicohmbmgbnkaaGreatDoor
open Go Go.RowKit Go.Shelf
open Go.Lib (itoa)
theorem setAt_self : ∀(z cs : List Value) (off : Nat),(∀j v,z[j]? =some v→cs[off + j]? =some v)→setAt cs off z=cs
 | [],_,_,_=>rfl
 | v :: r,cs,off,h=>by
   have h0:=h 0 v rfl
   rw [Nat.add_zero] at h0
   have e : cs.set off v=cs:=by
    apply List.ext_getElem?
    intro i
    by_cases hi : off=i
    · subst hi
      rw [List.getElem?_set_self (List.getElem?_eq_some_iff.1 h0).1,h0]
    · rw [List.getElem?_set_ne hi]
   rw [setAt,e]
   exact setAt_self r cs (off + 1) fun j x hx=>by
    have:=h (j + 1) x hx
    rwa [show off + 1 + j=off + (j + 1) by omega]
def u32V (n : Int) : Value:= .int .u32 (n % 4294967296)
def csW (cs : List Value) (off : Nat) (v1 v2 v3 : Int) : Nat→List Value
 | 0=>cs
 | 1=>cs.set off (u32V v1)
 | 2=>(cs.set off (u32V v1)).set (off + 1) (u32V v2)
 | _=>((cs.set off (u32V v1)).set (off + 1) (u32V v2)).set (off + 1 + 1) (u32V v3)
def accW (b1 b2 b3 : Bool) : Nat→Bool
 | 0=>true
 | 1=>true && b1
 | 2=>true && b1 && b2
 | _=>true && b1 && b2 && b3
theorem csW_len (cs : List Value) (off : Nat) (v1 v2 v3 : Int) (i : Nat) : (csW cs off v1 v2 v3 i).length=cs.length:=by
 unfold csW
 split <;> simp
theorem rdWish_len {t : List UInt8} (h : (splitL 58 t).length≠3) : rdWish t=none:=by
 unfold rdWish
 split
 · next e=>rw [e] at h;exact absurd rfl h
 · rfl
theorem list3 {α : Type} {l : List α} (h : l.length=3) : ∃a b c,l=[a,b,c]:=by
 match l,h with
 | [a,b,c],_=>exact ⟨a,b,c,rfl⟩
theorem u32V_nat (n : Int) : u32V n= .int .u32 ((n % 4294967296).toNat : Int):=by
 unfold u32V
 rw [Int.toNat_of_nonneg (by omega)]
theorem rdWish_ans {t p1 p2 p3 : List UInt8} {b1 b2 b3 : Bool} {v1 v2 v3 : Int} (h : splitL 58 t=[p1,p2,p3]) (h1 : Ans (numL p1) b1 v1) (h2 : Ans (numL p2) b2 v2) (h3 : Ans (numL p3) b3 v3) :
 Ans (rdP .wish t) (true && b1 && b2 && b3) (.wish (v1 % 4294967296).toNat (v2 % 4294967296).toNat (v3 % 4294967296).toNat):=by
 show Ans (rdWish t) _ _
 unfold rdWish
 rw [h]
 dsimp only
 cases b1 with
 | false=>rw [h1.no];rfl
 | true=>
   rw [h1.yes]
   cases b2 with
   | false=>rw [h2.no];rfl
   | true=>
     rw [h2.yes]
     cases b3 with
     | false=>rw [h3.no];rfl
     | true=>rw [h3.yes];rfl
set_option maxRecDepth 100000 in
set_option maxHeartbeats 8000000 in
theorem read_wish {q b off : Nat} (s : ByteArray) (hs : s.size < 4294967281) (cs : List Value) (W : World) (E : EnvS W) (hq : BoxP W q b off) (hqb : q≠b) (hb : Blk W b cs) (ho : off + 3≤cs.length) (hb11 : 11≤b) :
 Calls Tryz.prog 120 #[.string s,.pointer (some ⟨q,0,none⟩)] W (RdR .wish s.data.toList b off cs W):=by
 unfold BoxP at hq
 have hqw:=block_lt_of_cell hq
 have cS:=Lib.hid (split_any 58 s W E hs)
 have hsl : s.data.toList.length=s.size:=by rw [Array.length_toList];rfl
 have hsub:=fun p (hp : p∈splitL 58 s.data.toList)=>split_size p hp
 rw [hsl] at hsub
 by_cases h3 : (splitL 58 s.data.toList).length=3
 · obtain ⟨p1,p2,p3,hps⟩:=list3 h3
   rw [hps] at cS hsub
   have hqn : ((3 : Int) != 3)=false:=rfl
   have m1 : p1∈[p1,p2,p3]:=by simp
   have m2 : p2∈[p1,p2,p3]:=by simp
   have m3 : p3∈[p1,p2,p3]:=by simp
   have hEb : ∀W',But b W W'→EnvS W':=fun W' h=>E.keep (h.below E.size hb11) (Nat.le_refl _)
   obtain ⟨v1,b1,hn1,a1⟩ : ∃v1 b1,(∀r,NbR p1 r→r= .returned (.tuple #[.int .i64 v1,.bool b1]))∧Ans (numL p1) b1 v1:=⟨_,_,fun r h=>h,Ans.of _ _⟩
   have cN1:=Lib.hid (fun W' (h : But b W W')=>(number_any (bs p1) W' (hEb W' h) (by have:=hsub _ m1;rw [bs_size];omega)).mono (fun r w' ⟨h1,h2⟩=>(⟨hn1 r h1,h2⟩ : r=Ending.returned (.tuple #[.int .i64 v1,.bool b1])∧Below W'.heap.size W' w')))
   obtain ⟨v2,b2,hn2,a2⟩ : ∃v1 b1,(∀r,NbR p2 r→r= .returned (.tuple #[.int .i64 v1,.bool b1]))∧Ans (numL p2) b1 v1:=⟨_,_,fun r h=>h,Ans.of _ _⟩
   have cN2:=Lib.hid (fun W' (h : But b W W')=>(number_any (bs p2) W' (hEb W' h) (by have:=hsub _ m2;rw [bs_size];omega)).mono (fun r w' ⟨h1,h2⟩=>(⟨hn2 r h1,h2⟩ : r=Ending.returned (.tuple #[.int .i64 v2,.bool b2])∧Below W'.heap.size W' w')))
   obtain ⟨v3,b3,hn3,a3⟩ : ∃v1 b1,(∀r,NbR p3 r→r= .returned (.tuple #[.int .i64 v1,.bool b1]))∧Ans (numL p3) b1 v1:=⟨_,_,fun r h=>h,Ans.of _ _⟩
   have cN3:=Lib.hid (fun W' (h : But b W W')=>(number_any (bs p3) W' (hEb W' h) (by have:=hsub _ m3;rw [bs_size];omega)).mono (fun r w' ⟨h1,h2⟩=>(⟨hn3 r h1,h2⟩ : r=Ending.returned (.tuple #[.int .i64 v3,.bool b3])∧Below W'.heap.size W' w')))
   have hA:=Lib.hid (rdWish_ans hps a1 a2 a3)
   have hbh:=Lib.hid hb
   have hqh:=Lib.hid (fun W' (h : But b W W')=>(h.cell (p:=⟨q,0,none⟩) hqw hqb).trans hq)
   have hbl:=hb.lt
   clear hsub m1 m2 m3 a1 a2 a3 hn1 hn2 hn3 h3 hps hEb hsl hb hq
   go_enter Tryz.func120,Tryz.ntmps120
   go_wp2_with (go_at_call 45;(with_reducible refine cS.out.mono ?_);rintro r wa ⟨W9,rfl,rfl,hS,hb1⟩;simp only [List.length_cons,List.length_nil,Nat.zero_add,Nat.reduceAdd] at hS ⊢;have hB1:=Lib.hid (hbh.out.keep hb1);have hbz:=Lib.hid hb1.size;have hBt:=Lib.hid (But.of_below (b:=b) hb1);replace hS:=Lib.hid hS;clear hb1)
   have hne : W.heap.size≠b:=by omega
   go_loopw [5,14] (fun av jv wr=> ∃i : Nat,i≤3∧jv= .int .i64 i∧av= .bool (accW b1 b2 b3 i)∧Hid (Blk wr b (csW cs off v1 v2 v3 i))∧Hid (But b wa wr)) (fun _ jv _=>3 - (intOf jv).toNat)
   case atStart=>exact ⟨0,by decide,rfl,rfl,hB1,Lib.hid ⟨rfl,rfl,rfl,Nat.le_refl _,fun _ _ _=>rfl⟩⟩
   case round=>
    clear hB1
    obtain ⟨i,hi,rfl,rfl,hR,hB⟩:=hrel
    obtain ⟨acc,hacc⟩ : ∃acc,accW b1 b2 b3 i=acc:=⟨_,rfl⟩
    have hBw:=Lib.hid (hBt.out.trans hB.out)
    have hqc:=hqh.out wr hBw.out
    have hcl:=Lib.hid (fun j s' (h : ([p1,p2,p3].map bs)[j]? =some s')=>(hB.out.cell (p:=⟨W.heap.size,0 + j,none⟩) (strs_cell hS.out h).2 hne).trans (strs_cell hS.out h).1)
    have h3 : i=0∨i=1∨i=2∨i=3:=by omega
    rcases h3 with rfl | rfl | rfl | rfl
    · have hps:=hcl.out 0 (bs p1) rfl
      rw [Nat.zero_add] at hps
      have cN:=Lib.hid (cN1.out wr hBw.out)
      obtain ⟨old,hold⟩ : ∃x,(csW cs off v1 v2 v3 0)[off]? =some x:=⟨_,List.getElem?_eq_getElem (by rw [csW_len];omega)⟩
      have hKw:=Lib.hid (fun W' (h : Below wr.heap.size wr W')=>And.intro ((hR.out.keep h).cell hold) (And.intro (frozen_of_row W' b (off) _ _ (hR.out.keep h)) (hqh.out W' (hBw.out.trans (But.of_below h)))))
      have hRw:=Lib.hid (fun W' (h : Below wr.heap.size wr W')=>(show Blk (W'.setCell ⟨b,off,none⟩ (u32V v1)) b (csW cs off v1 v2 v3 1) from (hR.out.keep h).set (u32V v1)))
      have hacc2:=Lib.hid (show accW b1 b2 b3 1=(acc && b1) by rw [← hacc];rfl)
      have hu32 : IntKind.u32.wrap v1=v1 % 4294967296:=IntKind.wrap_u32 _
      rw [hacc]
      clear hacc hR hcl
      cases acc
      all_goals
       go_upto_region 9 with (go_at_call 91;(with_reducible refine cN.out.mono ?_);rintro r w4 ⟨rfl,hb4⟩;replace hb4:=Lib.hid hb4)
       obtain ⟨k1,k2,k3⟩:=hKw.out w4 hb4.out
       have hR5:=Lib.hid (hRw.out w4 hb4.out)
       have hB5:=Lib.hid ((hB.out.trans (But.of_below hb4.out)).trans (But.set (b:=b) (off:=off) (u32V v1)))
       unfold u32V at hR5 hB5
       go_wp2_with fail
       go_roundw
       case rel=>exact ⟨1,by decide,by go_num,by rw [hacc2.out];rfl,hR5,hB5⟩
       case measure=>simp [intOf]
    · have hps:=hcl.out 1 (bs p2) rfl
      rw [Nat.zero_add] at hps
      have cN:=Lib.hid (cN2.out wr hBw.out)
      obtain ⟨old,hold⟩ : ∃x,(csW cs off v1 v2 v3 1)[off + 1]? =some x:=⟨_,List.getElem?_eq_getElem (by rw [csW_len];omega)⟩
      have hKw:=Lib.hid (fun W' (h : Below wr.heap.size wr W')=>And.intro ((hR.out.keep h).cell hold) (And.intro (frozen_of_row W' b (off + 1) _ _ (hR.out.keep h)) (hqh.out W' (hBw.out.trans (But.of_below h)))))
      have hRw:=Lib.hid (fun W' (h : Below wr.heap.size wr W')=>(show Blk (W'.setCell ⟨b,off + 1,none⟩ (u32V v2)) b (csW cs off v1 v2 v3 2) from (hR.out.keep h).set (u32V v2)))
      have hacc2:=Lib.hid (show accW b1 b2 b3 2=(acc && b2) by rw [← hacc];rfl)
      have hu32 : IntKind.u32.wrap v2=v2 % 4294967296:=IntKind.wrap_u32 _
      rw [hacc]
      clear hacc hR hcl
      cases acc
      all_goals
       go_upto_region 9 with (go_at_call 91;(with_reducible refine cN.out.mono ?_);rintro r w4 ⟨rfl,hb4⟩;replace hb4:=Lib.hid hb4)
       obtain ⟨k1,k2,k3⟩:=hKw.out w4 hb4.out
       have hR5:=Lib.hid (hRw.out w4 hb4.out)
       have hB5:=Lib.hid ((hB.out.trans (But.of_below hb4.out)).trans (But.set (b:=b) (off:=off + 1) (u32V v2)))
       unfold u32V at hR5 hB5
       go_wp2_with fail
       go_roundw
       case rel=>exact ⟨2,by decide,by go_num,by rw [hacc2.out];rfl,hR5,hB5⟩
       case measure=>simp [intOf]
    · have hps:=hcl.out 2 (bs p3) rfl
      rw [Nat.zero_add] at hps
      have cN:=Lib.hid (cN3.out wr hBw.out)
      obtain ⟨old,hold⟩ : ∃x,(csW cs off v1 v2 v3 2)[off + 2]? =some x:=⟨_,List.getElem?_eq_getElem (by rw [csW_len];omega)⟩
      have hKw:=Lib.hid (fun W' (h : Below wr.heap.size wr W')=>And.intro ((hR.out.keep h).cell hold) (And.intro (frozen_of_row W' b (off + 2) _ _ (hR.out.keep h)) (hqh.out W' (hBw.out.trans (But.of_below h)))))
      have hRw:=Lib.hid (fun W' (h : Below wr.heap.size wr W')=>(show Blk (W'.setCell ⟨b,off + 2,none⟩ (u32V v3)) b (csW cs off v1 v2 v3 3) from (hR.out.keep h).set (u32V v3)))
      have hacc2:=Lib.hid (show accW b1 b2 b3 3=(acc && b3) by rw [← hacc];rfl)
      have hu32 : IntKind.u32.wrap v3=v3 % 4294967296:=IntKind.wrap_u32 _
      rw [hacc]
      clear hacc hR hcl
      cases acc
      all_goals
       go_upto_region 9 with (go_at_call 91;(with_reducible refine cN.out.mono ?_);rintro r w4 ⟨rfl,hb4⟩;replace hb4:=Lib.hid hb4)
       obtain ⟨k1,k2,k3⟩:=hKw.out w4 hb4.out
       have hR5:=Lib.hid (hRw.out w4 hb4.out)
       have hB5:=Lib.hid ((hB.out.trans (But.of_below hb4.out)).trans (But.set (b:=b) (off:=off + 2) (u32V v3)))
       unfold u32V at hR5 hB5
       go_wp2_with fail
       go_roundw
       case rel=>exact ⟨3,by decide,by go_num,by rw [hacc2.out];rfl,hR5,hB5⟩
       case measure=>simp [intOf]
    · rw [hacc]
      have hac:=Lib.hid (show (true && b1 && b2 && b3)=acc from hacc)
      have hAn:=hA.out
      rw [hac.out] at hAn
      replace hAn:=Lib.hid hAn
      clear hacc hcl
      have hfin : ∀x,x=acc→RdR .wish s.data.toList b off cs W (.returned (.bool x)) wr:=fun x hx=>by
       subst hx
       refine ⟨[u32V v1,u32V v2,u32V v3],x,rfl,rfl,hR.out,hBw.out,fun pv h=> ?_,fun h=> ?_⟩
       · cases x with
         | false=>exact absurd (hAn.out.no.symm.trans h) (by simp)
         | true=>
           obtain rfl:=Option.some.inj (hAn.out.yes.symm.trans h)
           refine ⟨rfl,?_⟩
           show [u32V v1,u32V v2,u32V v3]=_
           rw [u32V_nat,u32V_nat,u32V_nat]
       · cases x with
         | false=>rfl
         | true=>exact absurd (hAn.out.yes.symm.trans h) (by simp)
      replace hfin:=Lib.hid hfin
      go_wp2_with fail
      go_ret
      exact hfin.out _ rfl
 · have hn:=Lib.hid (show rdP .wish s.data.toList=none from rdWish_len h3)
   have hq2 : (((splitL 58 s.data.toList).length : Int) != 3)=true:=by
    unfold bne
    rw [beq_eq_false_iff_ne.2 (by omega)]
    rfl
   generalize (splitL 58 s.data.toList).length=n at *
   have hbh:=Lib.hid hb
   clear hsub hsl h3 hb
   go_enter Tryz.func120,Tryz.ntmps120
   go_wp2_with (go_at_call 45;(with_reducible refine cS.out.mono ?_);rintro r wa ⟨W9,rfl,rfl,hS,hb1⟩;replace hb1:=Lib.hid hb1;clear hS)
   go_ret
   have e0:=List.getElem?_eq_getElem (l:=cs) (i:=off) (by omega)
   have e1:=List.getElem?_eq_getElem (l:=cs) (i:=off + 1) (by omega)
   have e2:=List.getElem?_eq_getElem (l:=cs) (i:=off + 2) (by omega)
   refine ⟨[cs[off],cs[off + 1],cs[off + 2]],false,rfl,rfl,?_,But.of_below hb1.out,fun pv h=>absurd (hn.out.symm.trans h) (by simp),fun _=>rfl⟩
   rw [setAt_self]
   · exact hbh.out.keep hb1.out
   · intro j v hj
     match j,hj with
     | 0,hj=>injection hj with hj;rw [← hj];exact e0
     | 1,hj=>injection hj with hj;rw [← hj];exact e1
     | 2,hj=>injection hj with hj;rw [← hj];exact e2
theorem read_any {q b off : Nat} (g : Tag) (s : ByteArray) (hs : s.size < 4294967281) (cs : List Value) (W : World) (E : EnvS W) (hq : BoxP W q b off) (hqb : q≠b) (hb : Blk W b cs) (ho : off + widthT g≤cs.length) (hb11 : 11≤b) :
 Calls Tryz.prog (rdF g) #[.string s,.pointer (some ⟨q,0,none⟩)] W (RdR g s.data.toList b off cs W):=by
 cases g
 case num=>exact read_num s hs cs W E hq hqb hb ho
 case text=>exact read_text s hs cs W E hq hqb hb ho
 case flag=>exact read_flag s hs cs W E hq hqb hb ho
 case nums=>exact read_nums s hs cs W E hq hqb hb ho
 case texts=>exact read_texts s hs cs W E hq hqb hb ho
 case ops=>exact read_ops s hs cs W E hq hqb hb ho
 case grants=>exact read_grants s hs cs W E hq hqb hb ho
 case wish=>exact read_wish s hs cs W E hq hqb hb ho hb11
end Go.Proofs.YtmicohmbmgbnkaaGreatDoor
