/- Reading a recipe's step: readOp. (printed by wip/gen_skr.py) -/
import Derived.Test.YtmicohmbmgbnkaaGreatDoorVb9
namespace Go.Proofs.YtmicohmbmgbnkaaGreatDoor
open Go Go.RowKit Go.Shelf
open Go.Lib (itoa)
theorem strs_cell {W : World} {b o n j : Nat} {ss : List ByteArray} {s : ByteArray} (h : Strs W (some ⟨b,o,none⟩) n ss) (hj : ss[j]? =some s) : W.cell? ⟨b,o + j,none⟩=some (.string s)∧b < W.heap.size:=by
 have hl : j < n:=by have:=h.len;have:=(List.getElem?_eq_some_iff.1 hj).1;omega
 obtain ⟨b',o',x,e,hb,hx,hc⟩:=h.at_ hl
 injection e with e
 injection e with e1 e2
 rw [hj] at hx
 injection hx with hx
 subst e1 e2 hx
 exact ⟨hc,hb⟩
theorem rdOp_len {t : List UInt8} (h : (splitL 58 t).length≠5) : rdOp t=none:=by
 unfold rdOp
 split
 · next e=>rw [e] at h;exact absurd rfl h
 · rfl
theorem rdOp_ans {t p0 p1 p2 p3 p4 : List UInt8} {b1 b2 b3 b4 : Bool} {v1 v2 v3 : Int} {u : List UInt8} (h : splitL 58 t=[p0,p1,p2,p3,p4]) (h1 : Ans (numL p1) b1 v1) (h2 : Ans (numL p2) b2 v2) (h3 : Ans (numL p3) b3 v3) (h4 : Ans (unescL p4) b4 u) :
 Ans (rdOp t) (decide (0≤placeZ opW p0) && b1 && b2 && b3 && b4) ⟨placeZ opW p0,v1,v2,v3,u⟩:=by
 unfold rdOp placeZ
 rw [h]
 dsimp only
 cases hp : placeL opW p0 with
 | none=>rfl
 | some i=>
   dsimp only
   rw [decide_eq_true (Int.natCast_nonneg i)]
   cases b1 with
   | false=>rw [h1.no];rfl
   | true=>
     rw [h1.yes]
     cases b2 with
     | false=>rw [h2.no];rfl
     | true=>
       rw [h2.yes]
       cases b3 with
       | false=>rw [h3.no];rfl
       | true=>
         rw [h3.yes]
         cases b4 with
         | false=>rw [h4.no];rfl
         | true=>rw [h4.yes];rfl
theorem split_size {c : UInt8} {s : List UInt8} (p : List UInt8) (hp : p∈splitL c s) : p.length≤s.length:=by
 have:=joinL_len_le (c:=c) hp
 rwa [join_split] at this
section
variable {P : Program} {w : World} {o : Oper} {T : Array Value}
theorem run_build_ (t : TypeId) (parts : Array (Nat × Operand)) (ho : o.op= .build t parts) (cells : Array Value) (hf : P.built t (parts.toList.map fun x=>(x.1,(⟨T,[]⟩ : Act).eval x.2))=some cells) :
 (execOp (⟨T,[]⟩ : Act).eval o).run P w= .ok (.value (.agg cells)) w:=by
 unfold execOp
 have hr:=run_build (P:=P) w t (parts.map fun (i,x)=>(i,(⟨T,[]⟩ : Act).eval x)) cells (by rw [← hf];simp)
 simp only [ho,Sem.run_bind,hr,Result.andThen_ok,Sem.run_pure]
end
theorem op_built (z : Int) : Tryz.prog.built 85 [(0,.int .i64 z)]=some #[.int .i64 z,.int .i64 0,.int .i64 0,.int .i64 0,.string ByteArray.empty]:=by kernel_rfl
theorem list5 {α : Type} {l : List α} (h : l.length=5) : ∃a b c d e,l=[a,b,c,d,e]:=by
 match l,h with
 | [a,b,c,d,e],_=>exact ⟨a,b,c,d,e,rfl⟩
def rowO (z v1 v2 v3 : Int) (u : ByteArray) : Nat→List Value
 | 0=>[.int .i64 z,.int .i64 0,.int .i64 0,.int .i64 0,.string u]
 | 1=>[.int .i64 z,.int .i64 v1,.int .i64 0,.int .i64 0,.string u]
 | 2=>[.int .i64 z,.int .i64 v1,.int .i64 v2,.int .i64 0,.string u]
 | _=>[.int .i64 z,.int .i64 v1,.int .i64 v2,.int .i64 v3,.string u]
def accO (b0 b1 b2 b3 : Bool) : Nat→Bool
 | 0=>b0
 | 1=>b0 && b1
 | 2=>b0 && b1 && b2
 | _=>b0 && b1 && b2 && b3
def ptrO (p : Nat) : List Value:=[.pointer (some ⟨p,1,none⟩),.pointer (some ⟨p,2,none⟩),.pointer (some ⟨p,3,none⟩)]
def dsRo : List (Option Nat):=[some 19,some 20,some 21,some 22,some 23,some 24,some 5,none]
def tbRo : List (List Nat):=[[],[],[1],[2],[0,3],[4],[],[4,5,6]]
def vsRo (s : ByteArray) (pr : Nat) (b : Nat) (y0 : ByteArray) (z : Int) : List (Option Value):=[none,some (.slice (some ⟨b,0,none⟩) 5 5),some (.pointer (some ⟨b,0,none⟩)),some (.string y0),some (.int .i64 z),some (.agg #[.int .i64 z,.int .i64 0,.int .i64 0,.int .i64 0,.string ByteArray.empty]),none,none]
set_option maxRecDepth 100000 in
set_option maxHeartbeats 8000000 in
theorem readOp_any (s : ByteArray) (w : World) (E : EnvS w) (hs : s.size < 4294967281) :
 Calls Tryz.prog 99 #[.string s] w fun r w'=> ∃(o : OpX) (b : Bool),r= .returned (.tuple #[.agg o.row.toArray,.bool b])∧Ans (rdOp s.data.toList) b o∧Below w.heap.size w w':=by
 have hB0:=below_new w (.cells opZ 85)
 have hz0:=heap_new w (.cells opZ 85)
 have hlt:=(Array.getElem?_eq_some_iff.1 hz0).1
 have cS:=Lib.hid (split_any 58 s _ (E.keep hB0 E.size) hs)
 have hsl : s.data.toList.length=s.size:=by rw [Array.length_toList];rfl
 have hsub:=fun p (hp : p∈splitL 58 s.data.toList)=>split_size p hp
 rw [hsl] at hsub
 have hKz:=Lib.hid (fun W (h : Below (w.alloc (.cells opZ 85)).heap.size (w.alloc (.cells opZ 85)) W)=>(h.block w.heap.size hlt).trans hz0)
 have hB0h:=Lib.hid hB0
 have hone0 : opZ.all (·.oneCell')=true:=by decide +kernel
 by_cases h5 : (splitL 58 s.data.toList).length=5
 · obtain ⟨p0,p1,p2,p3,p4,hps⟩:=list5 h5
   rw [hps] at cS hsub
   have hq : ((5 : Int) != 5)=false:=rfl
   have hE:=Lib.hid (fun W (h : Below w.heap.size w W)=>E.keep h E.size)
   have m0 : p0∈[p0,p1,p2,p3,p4]:=by simp
   have m1 : p1∈[p0,p1,p2,p3,p4]:=by simp
   have m2 : p2∈[p0,p1,p2,p3,p4]:=by simp
   have m3 : p3∈[p0,p1,p2,p3,p4]:=by simp
   have m4 : p4∈[p0,p1,p2,p3,p4]:=by simp
   obtain ⟨v1,b1,hn1,a1⟩ : ∃v1 b1,(∀r,NbR p1 r→r= .returned (.tuple #[.int .i64 v1,.bool b1]))∧Ans (numL p1) b1 v1:=⟨_,_,fun r h=>h,Ans.of _ _⟩
   obtain ⟨v2,b2,hn2,a2⟩ : ∃v1 b1,(∀r,NbR p2 r→r= .returned (.tuple #[.int .i64 v1,.bool b1]))∧Ans (numL p2) b1 v1:=⟨_,_,fun r h=>h,Ans.of _ _⟩
   obtain ⟨v3,b3,hn3,a3⟩ : ∃v1 b1,(∀r,NbR p3 r→r= .returned (.tuple #[.int .i64 v1,.bool b1]))∧Ans (numL p3) b1 v1:=⟨_,_,fun r h=>h,Ans.of _ _⟩
   have cN1:=Lib.hid (fun W (h : Below w.heap.size w W)=>(number_any (bs p1) W (E.keep h E.size) (by have:=hsub _ m1;rw [bs_size];omega)).mono (fun r w' ⟨h1,h2⟩=>(⟨hn1 r h1,h2⟩ : r=Ending.returned (.tuple #[.int .i64 v1,.bool b1])∧Below W.heap.size W w')))
   have cN2:=Lib.hid (fun W (h : Below w.heap.size w W)=>(number_any (bs p2) W (E.keep h E.size) (by have:=hsub _ m2;rw [bs_size];omega)).mono (fun r w' ⟨h1,h2⟩=>(⟨hn2 r h1,h2⟩ : r=Ending.returned (.tuple #[.int .i64 v2,.bool b2])∧Below W.heap.size W w')))
   have cN3:=Lib.hid (fun W (h : Below w.heap.size w W)=>(number_any (bs p3) W (E.keep h E.size) (by have:=hsub _ m3;rw [bs_size];omega)).mono (fun r w' ⟨h1,h2⟩=>(⟨hn3 r h1,h2⟩ : r=Ending.returned (.tuple #[.int .i64 v3,.bool b3])∧Below W.heap.size W w')))
   have cU:=Lib.hid (fun W=>unescape_any (bs p4) W (by have:=hsub _ m4;rw [bs_size];omega))
   have hA:=Lib.hid (fun (b4 : Bool) (u : List UInt8) h4=>rdOp_ans (b4:=b4) (u:=u) hps a1 a2 a3 h4)
   rw [bs_list] at cU
   have hzr:=placeZ_rng opW p0
   have cP0:=fun W Av cv (h : Strs W Av 15 (opW.map bs))=>place_any opW Av 15 cv (bs p0) W (by decide) h
   rw [bs_list] at cP0
   generalize placeZ opW p0=z at *
   have cP:=Lib.hid cP0
   clear cP0 hz0 hlt hB0 hsub hsl m0 m1 m2 m3 m4 a1 a2 a3 hn1 hn2 hn3 h5 hps E
   go_enter Tryz.func99,Tryz.ntmps99
   go_upto_region 4 with (first
    | (refine wpList_alloc_row 85 rfl rfl opZ op_zero ?_)
    | (go_at_call 45;(with_reducible refine cS.out.mono ?_);rintro r wa ⟨W9,rfl,rfl,hS,hb1⟩
       have hB2:=Lib.hid (hB0h.out.trans (hb1.mono hB0h.out.size))
       have hz2:=Lib.hid (hKz.out _ hb1)
       simp only [List.length_cons,List.length_nil,Nat.zero_add,Nat.reduceAdd,World.size_alloc] at hS ⊢
       replace hS:=Lib.hid hS
       clear hb1))
   have hCl:=Lib.hid (fun W (h : Below wa.heap.size wa W)=>(strs_cell (hS.out.keep h) (j:=0) (s:=bs p0) rfl).1)
   replace cS:=Lib.hid (fun W (h : Below wa.heap.size wa W)=>steps_any W (hE.out W (hB2.out.trans (h.mono hB2.out.size))))
   refine region_iw tbRo dsRo (vsRo s (w.heap.size) ((w.heap.size + 1)) (bs p0) z) (fun L T W=>Below wa.heap.size wa W∧∃(Av : Option Addr) (cv pp : Nat),(L 0=true→L 4=false→T.getD 19 undef= .slice Av 15 cv∧Strs W Av 15 (opW.map bs))∧(L 6=true→T.getD 5 undef= .pointer (some ⟨pp,0,none⟩)∧wa.heap.size≤pp∧(L 7=false→W.heap[pp]? =some (.cells opZ 85))∧(L 7=true→W.heap[pp]? =some (.cells #[.int .i64 z,.int .i64 0,.int .i64 0,.int .i64 0,.string ByteArray.empty] 85)))∧(L 0=true→∃x,T.getD 19 undef=x)) rfl (by decide) (by kernel_rfl) ?hlt ?hstep ?hdone ?hstart
   case hstart=>exact ⟨drewN_below 1,none,0,0,fun h=>absurd h (inv_not (n:=8) (i:=0) (by decide)),fun h=>absurd h (inv_not (n:=8) (i:=6) (by decide)),fun h=>absurd h (inv_not (n:=8) (i:=0) (by decide))⟩
   case hlt=>
    intro ix o ho
    have hi:=(Array.getElem?_eq_some_iff.1 ho).1
    match ix,hi with
    | 0,_=>obtain rfl:=Option.some.inj ho;decide
    | 1,_=>obtain rfl:=Option.some.inj ho;decide
    | 2,_=>obtain rfl:=Option.some.inj ho;decide
    | 3,_=>obtain rfl:=Option.some.inj ho;decide
    | 4,_=>obtain rfl:=Option.some.inj ho;decide
    | 5,_=>obtain rfl:=Option.some.inj ho;decide
    | 6,_=>obtain rfl:=Option.some.inj ho;decide
    | 7,_=>obtain rfl:=Option.some.inj ho;decide
   case hstep=>
    intro T1 hE L T W ix o hF hW hc ho hLi hd K hK
    have hN : T1.size=69:=by rw [hE];rfl
    have f4 : T.getD 4 undef= .slice (some ⟨(w.heap.size + 1),0,none⟩) 5 5:=(hF.old 4 (by decide)).trans (by rw [hE];rfl)
    clear hE
    replace hF:=Lib.hid hF
    replace hW:=Lib.hid hW
    replace hK:=Lib.hid hK
    have hi:=(List.getElem?_eq_some_iff.1 ho).1
    match ix,hi with
    | 0,_=>
      obtain rfl:=Option.some.inj ho
      have n4 : ¬L 4=true:=fun h=>by have:=hc 4 0 h (by decide);rw [hLi] at this;cases this
      have n5 : ¬L 5=true:=fun h=>n4 (hc 5 4 h (by decide))
      have n7 : ¬L 7=true:=fun h=>n5 (hc 7 5 h (by decide))
      have hb:=hW.out.1
      obtain ⟨Av,cv,pp,hI⟩:=hW.out.2
      replace hI:=Lib.hid hI
      have cc:=Lib.hid (cS.out W hb)
      clear hd ho hi hc
      refine st_call (want_none rfl) (by unfold execOp;go_simp) cc.out ?_
      rintro r w3 ⟨Av2,cv2,rfl,hS2,hb4⟩
      exact ⟨_,rfl,hK.out _ _ (hF.out.put (k:=0) (s:=19) rfl (by decide) hN (by decide) (fun u hu=>by cases hu) ⟨hb.trans (hb4.mono hb.size),Av2,cv2,pp,fun _ _=>⟨gd_eq (by rw [hF.out.size,hN];decide),hS2⟩,fun h=>(by obtain ⟨q1,q2,q3,_⟩:=hI.out.2.1 h;exact ⟨(gd_ne (show 19≠5 by decide)).trans q1,q2,fun h7=>(hb4.block pp (Array.getElem?_eq_some_iff.1 (q3 h7)).1).trans (q3 h7),fun h7=>absurd h7 n7⟩),(fun _=>⟨_,rfl⟩)⟩)⟩
    | 1,_=>
      obtain rfl:=Option.some.inj ho
      have hb:=hW.out.1
      obtain ⟨Av,cv,pp,hI⟩:=hW.out.2
      replace hI:=Lib.hid hI
      clear hd ho hi hc hLi
      exact st_val (v:= .slice (some ⟨(w.heap.size + 1),0,none⟩) 5 5) (w':=W) (want_none rfl) (by unfold execOp;dsimp only [Act.eval];simp only [f4];go_simp) (hK.out _ _ (hF.out.putv (k:=1) (s:=20) rfl (by decide) hN (by decide) rfl ⟨hb,Av,cv,pp,fun h h4=>(by obtain ⟨q1,q2⟩:=hI.out.1 h h4;exact ⟨(gd_ne (show 20≠19 by decide)).trans q1,q2⟩),fun h=>(by obtain ⟨q1,q2⟩:=hI.out.2.1 h;exact ⟨(gd_ne (show 20≠5 by decide)).trans q1,q2⟩),(fun _=>⟨_,rfl⟩)⟩))
    | 2,_=>
      obtain rfl:=Option.some.inj ho
      have l1 : L 1=true:=dep_of hd (n:=1) (by decide)
      have e20 : T.getD 20 undef= .slice (some ⟨(w.heap.size + 1),0,none⟩) 5 5:=hF.out.val 1 20 _ l1 rfl rfl
      have hb:=hW.out.1
      obtain ⟨Av,cv,pp,hI⟩:=hW.out.2
      replace hI:=Lib.hid hI
      clear hd ho hi hc hLi
      exact st_val (v:= .pointer (some ⟨(w.heap.size + 1),0,none⟩)) (w':=W) (want_none rfl) (by unfold execOp;dsimp only [Act.eval];simp only [e20];go_simp) (hK.out _ _ (hF.out.putv (k:=2) (s:=21) rfl (by decide) hN (by decide) rfl ⟨hb,Av,cv,pp,fun h h4=>(by obtain ⟨q1,q2⟩:=hI.out.1 h h4;exact ⟨(gd_ne (show 21≠19 by decide)).trans q1,q2⟩),fun h=>(by obtain ⟨q1,q2⟩:=hI.out.2.1 h;exact ⟨(gd_ne (show 21≠5 by decide)).trans q1,q2⟩),(fun _=>⟨_,rfl⟩)⟩))
    | 3,_=>
      obtain rfl:=Option.some.inj ho
      have l2 : L 2=true:=dep_of hd (n:=2) (by decide)
      have e21 : T.getD 21 undef= .pointer (some ⟨(w.heap.size + 1),0,none⟩):=hF.out.val 2 21 _ l2 rfl rfl
      have hb:=hW.out.1
      obtain ⟨Av,cv,pp,hI⟩:=hW.out.2
      replace hI:=Lib.hid hI
      have hcc:=hCl.out W hb
      clear hd ho hi hc hLi
      exact st_val (v:= .string (bs p0)) (w':=W) (want_none rfl) (by unfold execOp;dsimp only [Act.eval];simp only [e21];go_simp) (hK.out _ _ (hF.out.putv (k:=3) (s:=22) rfl (by decide) hN (by decide) rfl ⟨hb,Av,cv,pp,fun h h4=>(by obtain ⟨q1,q2⟩:=hI.out.1 h h4;exact ⟨(gd_ne (show 22≠19 by decide)).trans q1,q2⟩),fun h=>(by obtain ⟨q1,q2⟩:=hI.out.2.1 h;exact ⟨(gd_ne (show 22≠5 by decide)).trans q1,q2⟩),(fun _=>⟨_,rfl⟩)⟩))
    | 4,_=>
      obtain rfl:=Option.some.inj ho
      have l0 : L 0=true:=dep_of hd (n:=0) (by decide)
      have l3 : L 3=true:=dep_of hd (n:=3) (by decide)
      have e22 : T.getD 22 undef= .string (bs p0):=hF.out.val 3 22 _ l3 rfl rfl
      have hb:=hW.out.1
      obtain ⟨Av,cv,pp,hI⟩:=hW.out.2
      replace hI:=Lib.hid hI
      obtain ⟨q1,q2⟩:=hI.out.1 l0 hLi
      have cc:=Lib.hid (cP.out W Av cv q2)
      clear hd ho hi hc
      refine st_call (want_none rfl) (by unfold execOp;simp only [q1,e22];go_simp) cc.out ?_
      rintro r w3 ⟨rfl,rfl⟩
      exact ⟨_,rfl,hK.out _ _ (hF.out.putv (k:=4) (s:=23) rfl (by decide) hN (by decide) rfl ⟨hb,Av,cv,pp,fun _ h4=>absurd h4 (by simp),fun h=>(by obtain ⟨q1,q2⟩:=hI.out.2.1 h;exact ⟨(gd_ne (show 23≠5 by decide)).trans q1,q2⟩),(fun _=>⟨_,rfl⟩)⟩)⟩
    | 5,_=>
      obtain rfl:=Option.some.inj ho
      have l4 : L 4=true:=dep_of hd (n:=4) (by decide)
      have e23 : T.getD 23 undef= .int .i64 z:=hF.out.val 4 23 _ l4 rfl rfl
      have hb:=hW.out.1
      obtain ⟨Av,cv,pp,hI⟩:=hW.out.2
      replace hI:=Lib.hid hI
      clear hd ho hi hc hLi
      exact st_val (v:= .agg #[.int .i64 z,.int .i64 0,.int .i64 0,.int .i64 0,.string ByteArray.empty]) (w':=W) (want_none rfl) (run_build_ 85 #[(0,.tmp 23)] rfl _ (by show Tryz.prog.built 85 [(0,T.getD 23 undef)]=_;rw [e23];exact op_built z)) (hK.out _ _ (hF.out.putv (k:=5) (s:=24) rfl (by decide) hN (by decide) rfl ⟨hb,Av,cv,pp,fun h h4=>(by obtain ⟨q1,q2⟩:=hI.out.1 h h4;exact ⟨(gd_ne (show 24≠19 by decide)).trans q1,q2⟩),fun h=>(by obtain ⟨q1,q2⟩:=hI.out.2.1 h;exact ⟨(gd_ne (show 24≠5 by decide)).trans q1,q2⟩),(fun _=>⟨_,rfl⟩)⟩))
    | 6,_=>
      obtain rfl:=Option.some.inj ho
      have n7 : ¬L 7=true:=fun h=>by have:=hc 7 6 h (by decide);rw [hLi] at this;cases this
      have hb:=hW.out.1
      obtain ⟨Av,cv,pp,hI⟩:=hW.out.2
      replace hI:=Lib.hid hI
      have hbn:=below_new W (.cells opZ 85)
      clear hd ho hi hc
      exact st_val (v:= .pointer (some ⟨W.heap.size,0,none⟩)) (w':=W.alloc (.cells opZ 85)) (want_none rfl) (run_alloc_ 85 rfl _ op_zero) (hK.out _ _ (hF.out.put (k:=6) (s:=5) rfl (by decide) hN (by decide) (fun u hu=>by cases hu) ⟨hb.trans (hbn.mono hb.size),Av,cv,W.heap.size,fun h h4=>(by obtain ⟨q1,q2⟩:=hI.out.1 h h4;exact ⟨(gd_ne (show 5≠19 by decide)).trans q1,q2.keep hbn⟩),fun _=>⟨gd_eq (by rw [hF.out.size,hN];decide),hb.size,fun _=>heap_new W _,fun h7=>absurd h7 n7⟩,(fun _=>⟨_,rfl⟩)⟩))
    | 7,_=>
      obtain rfl:=Option.some.inj ho
      have l6 : L 6=true:=dep_of hd (n:=6) (by decide)
      have l5 : L 5=true:=dep_of hd (n:=5) (by decide)
      have e24 : T.getD 24 undef= .agg #[.int .i64 z,.int .i64 0,.int .i64 0,.int .i64 0,.string ByteArray.empty]:=hF.out.val 5 24 _ l5 rfl rfl
      have l4 : L 4=true:=dep_of hd (n:=4) (by decide)
      have e23 : T.getD 23 undef= .int .i64 z:=hF.out.val 4 23 _ l4 rfl rfl
      have hb:=hW.out.1
      obtain ⟨Av,cv,pp,hI⟩:=hW.out.2
      replace hI:=Lib.hid hI
      obtain ⟨q1,q2,q3,q4⟩:=hI.out.2.1 l6
      have q5:=q3 hLi
      have hone : (#[.int .i64 z,.int .i64 0,.int .i64 0,.int .i64 0,.string ByteArray.empty] : Array Value).all (·.oneCell')=true:=by simp [Value.oneCell']
      have hl4:=Lib.hid l4
      clear hd ho hi hc
      exact st_do (w':=W.setRow pp #[.int .i64 z,.int .i64 0,.int .i64 0,.int .i64 0,.string ByteArray.empty]) (want_none rfl) (run_store_ 85 (.tmp 5) (.tmp 24) rfl pp _ (show T.getD 5 undef=_ from q1) (show T.getD 24 undef=_ from e24) _ _ q5 (by kernel_rfl) rfl hone) (hK.out _ _ (hF.out.pass (k:=7) rfl ⟨below_setRow hb q2 _,Av,cv,pp,fun _ h4=>absurd ((show L 4=false from h4).symm.trans hl4.out) (by decide),fun _=>⟨q1,q2,fun h=>absurd h (by simp),fun _=>hsetRow _ _ _ _ _ _ q5⟩,(fun _=>⟨_,rfl⟩)⟩))
   case hdone=>
    intro L T W2 hF hW hall
    obtain ⟨hb6,Av,cv,pp,hI⟩:=hW
    obtain ⟨x19,e19⟩:=hI.2.2 (hall 0 (by decide))
    obtain ⟨e5,hp6,-,hr6⟩:=hI.2.1 (hall 6 (by decide))
    replace hr6:=hr6 (hall 7 (by decide))
    clear hI
    have hT : T=#[.string s,undef,.pointer (some ⟨(w.heap.size),0,none⟩),.bool false,.slice (some ⟨(w.heap.size + 1),0,none⟩) 5 5,.pointer (some ⟨pp,0,none⟩),undef,undef,undef,undef,undef,undef,undef,.string s,.slice (some ⟨(w.heap.size + 1),0,none⟩) 5 5,.slice (some ⟨(w.heap.size + 1),0,none⟩) 5 5,.int .i64 5,.bool false,undef,x19,.slice (some ⟨(w.heap.size + 1),0,none⟩) 5 5,.pointer (some ⟨(w.heap.size + 1),0,none⟩),.string (bs p0),.int .i64 z,.agg #[.int .i64 z,.int .i64 0,.int .i64 0,.int .i64 0,.string ByteArray.empty],undef,undef,undef,undef,undef,undef,undef,undef,undef,undef,undef,undef,undef,undef,undef,undef,undef,undef,undef,undef,undef,undef,undef,undef,undef,undef,undef,undef,undef,undef,undef,undef,undef,undef,undef,undef,undef,undef,undef,undef,undef,undef,undef,undef]:=(hF.fin [(19,x19),(20,.slice (some ⟨(w.heap.size + 1),0,none⟩) 5 5),(21,.pointer (some ⟨(w.heap.size + 1),0,none⟩)),(22,.string (bs p0)),(23,.int .i64 z),(24,.agg #[.int .i64 z,.int .i64 0,.int .i64 0,.int .i64 0,.string ByteArray.empty]),(5,.pointer (some ⟨pp,0,none⟩))] [19,20,21,22,23,24,5] rfl (List.forall_mem_cons.2 ⟨e19,(List.forall_mem_cons.2 ⟨hF.val 1 _ _ (hall 1 (show 1 < 8 by decide)) rfl rfl,(List.forall_mem_cons.2 ⟨hF.val 2 _ _ (hall 2 (show 2 < 8 by decide)) rfl rfl,(List.forall_mem_cons.2 ⟨hF.val 3 _ _ (hall 3 (show 3 < 8 by decide)) rfl rfl,(List.forall_mem_cons.2 ⟨hF.val 4 _ _ (hall 4 (show 4 < 8 by decide)) rfl rfl,(List.forall_mem_cons.2 ⟨hF.val 5 _ _ (hall 5 (show 5 < 8 by decide)) rfl rfl,(List.forall_mem_cons.2 ⟨e5,(fun _ h=>absurd h List.not_mem_nil)⟩)⟩)⟩)⟩)⟩)⟩)⟩) (by decide)).trans (by kernel_rfl)
    clear hF hall
    subst hT
    have hlp:=(Array.getElem?_eq_some_iff.1 hr6).1
    have c0 : W2.cell? ⟨pp,0,none⟩=some (.int .i64 z):=cell_of_row W2 pp 0 _ _ _ hr6
    have hg3:=heap_new W2 (.cells (ptrO pp).toArray 115)
    have hB3:=hb6.trans ((below_new W2 (.cells (ptrO pp).toArray 115)).mono hb6.size)
    have hr3:=((below_new W2 (.cells (ptrO pp).toArray 115)).block pp hlp).trans hr6
    replace hg3:=Lib.hid hg3
    replace hB3:=Lib.hid hB3
    replace hr3:=Lib.hid hr3
    replace hlp:=Lib.hid hlp
    replace hp6:=Lib.hid hp6
    clear hr6 hb6 hCl cP e5 e19
    go_wp2_with fail
    go_loopw [6,33] (fun av iv wr=> ∃i : Nat,i≤3∧iv= .int .i64 i∧av= .bool (accO (decide (0≤z)) b1 b2 b3 i)∧Hid (wr.heap[pp]? =some (.cells (rowO z v1 v2 v3 ByteArray.empty i).toArray 85 (0,0)))∧Hid (wr.heap[W2.heap.size]? =some (.cells (ptrO pp).toArray 115 (0,0)))∧Hid (Below wa.heap.size wa wr)) (fun _ iv _=>3 - (intOf iv).toNat)
    case atStart=>exact ⟨0,by decide,rfl,rfl,hr3,hg3,hB3⟩
    case round=>
     clear hr3 hg3 hB3 c0
     obtain ⟨i,hi,rfl,rfl,hR,hP,hB⟩:=hrel
     obtain ⟨acc,hacc⟩ : ∃acc,accO (decide (0≤z)) b1 b2 b3 i=acc:=⟨_,rfl⟩
     have hBw:=Lib.hid (hB2.out.trans (hB.out.mono hB2.out.size))
     have h3 : i=0∨i=1∨i=2∨i=3:=by omega
     rcases h3 with rfl | rfl | rfl | rfl
     · have hptr : wr.cell? ⟨W2.heap.size,0,none⟩=some (.pointer (some ⟨pp,1,none⟩)):=cell_of_row wr W2.heap.size 0 _ _ _ hP.out
       have hps:=(strs_cell (hS.out.keep hB.out) (j:=1) (s:=bs p1) rfl).1
       have cN:=Lib.hid (cN1.out wr hBw.out)
       have hlw:=(Array.getElem?_eq_some_iff.1 hR.out).1
       have hlb:=(Array.getElem?_eq_some_iff.1 hP.out).1
       have hKw:=Lib.hid (fun W (h : Below wr.heap.size wr W)=>And.intro ((h.block pp hlw).trans hR.out) ((h.block W2.heap.size hlb).trans hP.out))
       have hacc2:=Lib.hid (show accO (decide (0≤z)) b1 b2 b3 1=(acc && b1) by rw [← hacc];rfl)
       clear hR hP hlw hlb
       rw [hacc]
       clear hacc
       cases acc
       all_goals
        go_upto_region 10 with (go_at_call 91;(with_reducible refine cN.out.mono ?_);rintro r w4 ⟨rfl,hb4⟩;replace hb4:=Lib.hid hb4)
        obtain ⟨hR4,hP4⟩:=hKw.out w4 hb4.out
        have hcc : w4.cell? ⟨pp,1,none⟩=some (.int .i64 0):=cell_of_row w4 pp 1 _ _ _ hR4
        have hfz:=frozen_of_row w4 pp 1 _ _ hR4
        have hB4:=Lib.hid ((hB.out.trans (hb4.out.mono hB.out.size)).setCell (p:=⟨pp,1,none⟩) hp6.out (.int .i64 v1))
        have hR5:=heap_setCell_same w4 pp 1 _ _ (.int .i64 v1) hR4
        have hP5:=Lib.hid ((heap_setCell_other w4 ⟨pp,1,none⟩ W2.heap.size (.int .i64 v1) (by have:=hlp.out;simp;omega)).trans hP4)
        replace hR5:=Lib.hid (show (w4.setCell ⟨pp,1,none⟩ (.int .i64 v1)).heap[pp]? =some (.cells (rowO z v1 v2 v3 ByteArray.empty 1).toArray 85 (0,0)) from hR5)
        clear hR4 hP4 hps hptr
        go_wp2_with fail
        go_roundw
        case rel=>exact ⟨1,by decide,by go_num,by rw [hacc2.out];rfl,hR5,hP5,hB4⟩
        case measure=>simp [intOf]
     · have hptr : wr.cell? ⟨W2.heap.size,1,none⟩=some (.pointer (some ⟨pp,2,none⟩)):=cell_of_row wr W2.heap.size 1 _ _ _ hP.out
       have hps:=(strs_cell (hS.out.keep hB.out) (j:=2) (s:=bs p2) rfl).1
       have cN:=Lib.hid (cN2.out wr hBw.out)
       have hlw:=(Array.getElem?_eq_some_iff.1 hR.out).1
       have hlb:=(Array.getElem?_eq_some_iff.1 hP.out).1
       have hKw:=Lib.hid (fun W (h : Below wr.heap.size wr W)=>And.intro ((h.block pp hlw).trans hR.out) ((h.block W2.heap.size hlb).trans hP.out))
       have hacc2:=Lib.hid (show accO (decide (0≤z)) b1 b2 b3 2=(acc && b2) by rw [← hacc];rfl)
       clear hR hP hlw hlb
       rw [hacc]
       clear hacc
       cases acc
       all_goals
        go_upto_region 10 with (go_at_call 91;(with_reducible refine cN.out.mono ?_);rintro r w4 ⟨rfl,hb4⟩;replace hb4:=Lib.hid hb4)
        obtain ⟨hR4,hP4⟩:=hKw.out w4 hb4.out
        have hcc : w4.cell? ⟨pp,2,none⟩=some (.int .i64 0):=cell_of_row w4 pp 2 _ _ _ hR4
        have hfz:=frozen_of_row w4 pp 2 _ _ hR4
        have hB4:=Lib.hid ((hB.out.trans (hb4.out.mono hB.out.size)).setCell (p:=⟨pp,2,none⟩) hp6.out (.int .i64 v2))
        have hR5:=heap_setCell_same w4 pp 2 _ _ (.int .i64 v2) hR4
        have hP5:=Lib.hid ((heap_setCell_other w4 ⟨pp,2,none⟩ W2.heap.size (.int .i64 v2) (by have:=hlp.out;simp;omega)).trans hP4)
        replace hR5:=Lib.hid (show (w4.setCell ⟨pp,2,none⟩ (.int .i64 v2)).heap[pp]? =some (.cells (rowO z v1 v2 v3 ByteArray.empty 2).toArray 85 (0,0)) from hR5)
        clear hR4 hP4 hps hptr
        go_wp2_with fail
        go_roundw
        case rel=>exact ⟨2,by decide,by go_num,by rw [hacc2.out];rfl,hR5,hP5,hB4⟩
        case measure=>simp [intOf]
     · have hptr : wr.cell? ⟨W2.heap.size,2,none⟩=some (.pointer (some ⟨pp,3,none⟩)):=cell_of_row wr W2.heap.size 2 _ _ _ hP.out
       have hps:=(strs_cell (hS.out.keep hB.out) (j:=3) (s:=bs p3) rfl).1
       have cN:=Lib.hid (cN3.out wr hBw.out)
       have hlw:=(Array.getElem?_eq_some_iff.1 hR.out).1
       have hlb:=(Array.getElem?_eq_some_iff.1 hP.out).1
       have hKw:=Lib.hid (fun W (h : Below wr.heap.size wr W)=>And.intro ((h.block pp hlw).trans hR.out) ((h.block W2.heap.size hlb).trans hP.out))
       have hacc2:=Lib.hid (show accO (decide (0≤z)) b1 b2 b3 3=(acc && b3) by rw [← hacc];rfl)
       clear hR hP hlw hlb
       rw [hacc]
       clear hacc
       cases acc
       all_goals
        go_upto_region 10 with (go_at_call 91;(with_reducible refine cN.out.mono ?_);rintro r w4 ⟨rfl,hb4⟩;replace hb4:=Lib.hid hb4)
        obtain ⟨hR4,hP4⟩:=hKw.out w4 hb4.out
        have hcc : w4.cell? ⟨pp,3,none⟩=some (.int .i64 0):=cell_of_row w4 pp 3 _ _ _ hR4
        have hfz:=frozen_of_row w4 pp 3 _ _ hR4
        have hB4:=Lib.hid ((hB.out.trans (hb4.out.mono hB.out.size)).setCell (p:=⟨pp,3,none⟩) hp6.out (.int .i64 v3))
        have hR5:=heap_setCell_same w4 pp 3 _ _ (.int .i64 v3) hR4
        have hP5:=Lib.hid ((heap_setCell_other w4 ⟨pp,3,none⟩ W2.heap.size (.int .i64 v3) (by have:=hlp.out;simp;omega)).trans hP4)
        replace hR5:=Lib.hid (show (w4.setCell ⟨pp,3,none⟩ (.int .i64 v3)).heap[pp]? =some (.cells (rowO z v1 v2 v3 ByteArray.empty 3).toArray 85 (0,0)) from hR5)
        clear hR4 hP4 hps hptr
        go_wp2_with fail
        go_roundw
        case rel=>exact ⟨3,by decide,by go_num,by rw [hacc2.out];rfl,hR5,hP5,hB4⟩
        case measure=>simp [intOf]
     · have hps:=(strs_cell (hS.out.keep hB.out) (j:=4) (s:=bs p4) rfl).1
       have hlw:=(Array.getElem?_eq_some_iff.1 hR.out).1
       have hKw:=Lib.hid (fun W (h : Below wr.heap.size wr W)=>(h.block pp hlw).trans hR.out)
       have hlz:=(Array.getElem?_eq_some_iff.1 hz2.out).1
       have hzw:=Lib.hid (fun W (h : Below wa.heap.size wa W)=>(h.block w.heap.size hlz).trans hz2.out)
       have hne:=Lib.hid (show w.heap.size≠pp by have:=hp6.out;omega)
       rw [hacc]
       have hAA:=Lib.hid (fun b4 u h4=>hA.out b4 u h4)
       have hac:=Lib.hid (show (decide (0≤z) && b1 && b2 && b3)=acc from hacc)
       clear hR hP hlw hacc hlz hz2
       go_upto_region 13 with (go_at_call 11;(with_reducible refine (cU.out wr).mono ?_);rintro r w5 ⟨hu,hb5⟩;obtain ⟨u,b4,rfl,ha4⟩:=hu.ans;replace ha4:=Lib.hid ha4;replace hb5:=Lib.hid hb5;clear hu)
       have hR5:=hKw.out w5 hb5.out
       have hB5:=hB.out.trans (hb5.out.mono hB.out.size)
       have hcc : w5.cell? ⟨pp,4,none⟩=some (.string ByteArray.empty):=cell_of_row w5 pp 4 _ _ _ hR5
       have hfz:=frozen_of_row w5 pp 4 _ _ hR5
       have hB6:=hB5.setCell (p:=⟨pp,4,none⟩) hp6.out (.string (bs u))
       have hz6:=hzw.out _ hB6
       have hR6 : (w5.setCell ⟨pp,4,none⟩ (.string (bs u))).heap[pp]? =some (.cells (OpX.row ⟨z,v1,v2,v3,u⟩).toArray 85 (0,0)):=heap_setCell_same w5 pp 4 _ _ (.string (bs u)) hR5
       have hAn:=hAA.out b4 u ha4.out
       rw [hac.out] at hAn
       replace hAn:=Lib.hid hAn
       replace hz6:=Lib.hid hz6
       have hr6:=Lib.hid (rangeAt_list hR6)
       replace hB6:=Lib.hid (hB2.out.trans (hB6.mono hB2.out.size))
       clear hR5 hR6 hB5 hps
       go_upto_region 14 with fail
       generalize w5.setCell ⟨pp,4,none⟩ (.string (bs u))=W6 at *
       have hone : (OpX.row ⟨z,v1,v2,v3,u⟩).toArray.all (·.oneCell')=true:=OpX.one _
       clear hcc hfz
       cases acc <;> cases b4
       all_goals
        go_wp2_with (first
         | (refine wpList_load_at 85 _ rfl rfl pp 0 rfl (OpX.row ⟨z,v1,v2,v3,u⟩) _ hr6.out Tryz.underlying85 rfl (by kernel_rfl) ?_)
         | (refine wpList_store_at 85 _ _ rfl rfl w.heap.size (OpX.row ⟨z,v1,v2,v3,u⟩).toArray rfl rfl 85 opZ hz6.out (by kernel_rfl) rfl hone ?_))
        refine bodyPost_ret (resV2 rfl _ _ w.heap.size 85 (OpX.row ⟨z,v1,v2,v3,u⟩).toArray (0,0) _ _ rfl (hsetRow _ _ _ _ _ _ hz6.out) Tryz.underlying85 rfl (by kernel_rfl) rfl) rfl ⟨⟨z,v1,v2,v3,u⟩,_,rfl,hAn.out,below_setRow hB6.out (Nat.le_refl _) _⟩
 · have hR:=Lib.hid (rdOp_len h5)
   have hq : (((splitL 58 s.data.toList).length : Int) != 5)=true:=by
    unfold bne
    rw [beq_eq_false_iff_ne.2 (by omega)]
    rfl
   generalize (splitL 58 s.data.toList).length=n at *
   clear hz0 hlt hB0 hsub hsl h5
   go_enter Tryz.func99,Tryz.ntmps99
   go_wp2_with (first
    | (refine wpList_alloc_row 85 rfl rfl opZ op_zero ?_)
    | (go_at_call 45;(with_reducible refine cS.out.mono ?_);rintro r wa ⟨W9,rfl,rfl,hS,hb1⟩
       have hB2:=Lib.hid (hB0h.out.trans (hb1.mono hB0h.out.size))
       have hz2:=Lib.hid (hKz.out _ hb1)
       clear hb1 hS)
    | (refine wpList_store_at 85 _ _ rfl rfl w.heap.size opZ rfl rfl 85 opZ hz2.out (by kernel_rfl) rfl hone0 ?_))
   refine bodyPost_ret (resV2 rfl _ _ w.heap.size 85 opZ (0,0) _ _ rfl (hsetRow _ _ _ _ _ _ hz2.out) Tryz.underlying85 rfl (by kernel_rfl) rfl) rfl ⟨⟨0,0,0,0,[]⟩,false,rfl,hR.out,below_setRow hB2.out (Nat.le_refl _) _⟩
end Go.Proofs.YtmicohmbmgbnkaaGreatDoor
