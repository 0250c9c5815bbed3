/- Texts joined: what each shows stands ahead of its theorems. -/
import Derived.Test.YtmicohmbmgbnkaaGreatDoorVb0
import Derived.WideShapes
import Derived.Test.YtmicohmbmgbnkaaGreatDoorVShelf
import Derived.WalkKit
import Derived.Deep.DeepCutAuto
import Derived.RegionTactic
import Derived.BigQuiet
import Derived.Deep.QuietTactic
import Derived.Deep.RegionHeld3
import Derived.Test.YtmicohmbmgbnkaaGreatDoorVb12
namespace Go.Proofs.YtmicohmbmgbnkaaGreatDoor
section
open Go.RowKit Go.ChangeShapes Go.WideShapes
def StrV (w : World) (v : Value) (l : List ByteArray) : Prop:= ∃A n c,v= .slice A n c∧n≤c∧c≤9223372036854775807∧Strs w A n l
theorem StrV.keep {w w' : World} {v : Value} {l : List ByteArray} (h : StrV w v l) (hb : Below w.heap.size w w') : StrV w' v l:=by
 obtain ⟨A,n,c,rfl,h1,h2,h3⟩:=h
 exact ⟨A,n,c,rfl,h1,h2,h3.keep hb⟩
structure Pf (w : World) (V : List Value) (L : List (List ByteArray)) : Prop where
 v8 : V.length=8
 l8 : L.length=8
 at_ : ∀(i : Nat) v l,V[i]? =some v→L[i]? =some l→StrV w v l
theorem Pf.keep {w w' : World} {V : List Value} {L : List (List ByteArray)} (h : Pf w V L) (hb : Below w.heap.size w w') : Pf w' V L:=⟨h.v8,h.l8,fun i v l h1 h2=>(h.at_ i v l h1 h2).keep hb⟩
theorem Pf.get {w : World} {V : List Value} {L : List (List ByteArray)} (h : Pf w V L) {i : Nat} (hi : i < 8) : ∃A n c l,V[i]? =some (.slice A n c)∧L[i]? =some l∧n≤c∧c≤9223372036854775807∧Strs w A n l:=by
 obtain ⟨v,h1⟩ : ∃v,V[i]? =some v:=⟨_,List.getElem?_eq_getElem (by rw [h.v8];exact hi)⟩
 obtain ⟨l,h2⟩ : ∃l,L[i]? =some l:=⟨_,List.getElem?_eq_getElem (by rw [h.l8];exact hi)⟩
 obtain ⟨A,n,c,rfl,ha,hb,hc⟩:=h.at_ i _ _ h1 h2
 exact ⟨A,n,c,l,h1,h2,ha,hb,hc⟩
end
section
open Go.RowKit
def Vls (w : World) (A : Option Addr) (n : Nat) (V : List Value) : Prop:=Rws w 1 A n (V.map (fun v=>[v]))
theorem Vls.keep {w w' : World} {A : Option Addr} {n : Nat} {V : List Value} (h : Vls w A n V) (hb : Below w.heap.size w w') : Vls w' A n V:=Rws.keep h hb
theorem Vls.len {w : World} {A : Option Addr} {n : Nat} {V : List Value} (h : Vls w A n V) : V.length=n:=by simpa using h.1
theorem Vls.at_ {w : World} {A : Option Addr} {n : Nat} {V : List Value} (h : Vls w A n V) {j : Nat} (hj : j < n) :
 ∃b off v,A=some ⟨b,off,none⟩∧b < w.heap.size∧V[j]? =some v∧w.cell? ⟨b,off + j,none⟩=some v:=by
 have hl:=h.len
 obtain ⟨b,off,e,hb,hc⟩:=h.2.2 (by omega)
 have hv : V[j]? =some V[j]:=List.getElem?_eq_getElem (by omega)
 refine ⟨b,off,V[j],e,hb,hv,?_⟩
 have:=hc j [V[j]] (by rw [List.getElem?_map,hv];rfl) 0 _ rfl
 simpa using this
theorem Vls.block {w : World} {g : Nat} {V : List Value} {t : TypeId} {fr : Nat × Nat} (h : w.heap[g]? =some (.cells V.toArray t fr)) (hlt : g < w.heap.size) : Vls w (some ⟨g,0,none⟩) V.length V:=by
 refine ⟨by simp,by intro z hz;obtain ⟨v,_,rfl⟩:=List.mem_map.1 hz;rfl,fun _=>⟨g,0,rfl,hlt,fun j z hz i v hv=> ?_⟩⟩
 rw [List.getElem?_map] at hz
 cases hj : V[j]? with
 | none=>rw [hj] at hz;cases hz
 | some x=>
   rw [hj] at hz
   simp only [Option.map_some,Option.some.injEq] at hz
   subst hz
   match i with
   | 0=>
     simp only [List.getElem?_cons_zero,Option.some.injEq] at hv
     subst hv
     have:=cell_of_row w g j _ _ _ h
     rw [show 0 + j * 1 + 0=j by omega,this,List.getElem?_toArray,hj]
   | i + 1=>simp at hv
end
section
open Go.RowKit
theorem bs_ext {x y : ByteArray} (h : x.toList=y.toList) : x=y:=by
 rw [ByteArray.toList_eq,ByteArray.toList_eq] at h
 cases x;cases y
 simp only [ByteArray.mk.injEq]
 exact Array.toList_inj.1 h
theorem bs_eq {x y : ByteArray} (h : (x.toList == y.toList)=true) : x=y:=bs_ext (by simpa using h)
theorem bs_ne {x y : ByteArray} (h : (x.toList == y.toList)=false) : x≠y:=by
 rintro rfl
 simp at h
end
section
open Go.RowKit
end
section
open Go.RowKit
theorem below_got (w : World) (o : Obj) : Below w.heap.size w (w.alloc o):=(Below.refl _ _).alloc (Nat.le_refl _) o
end
section
open Go.RowKit
def Ls8 (w : World) (L : List (List ByteArray)) (r : Ending) (w' : World) : Prop:= ∃g U,r= .returned (.slice (some ⟨g,0,none⟩) 8 8)∧Vls w' (some ⟨g,0,none⟩) 8 U∧Pf w' U L∧w.heap.size≤g∧Below w.heap.size w w'
set_option maxRecDepth 100000 in
set_option maxHeartbeats 4000000 in
theorem refLists_eq (A0 A1 A2 A3 A4 A5 A6 A7 : Option Addr) (n0 c0 n1 c1 n2 c2 n3 c3 n4 c4 n5 c5 n6 c6 n7 c7 : Nat) (w : World) :
 Calls Tryz.prog 88 #[.agg #[.slice A0 n0 c0,.slice A1 n1 c1,.slice A2 n2 c2,.slice A3 n3 c3,.slice A4 n4 c4,.slice A5 n5 c5,.slice A6 n6 c6,.slice A7 n7 c7]] w fun r w'=>r= .returned (.slice (some ⟨w.heap.size + 1,0,none⟩) 8 8)∧w' =(w.alloc (.cells #[.slice A0 n0 c0,.slice A1 n1 c1,.slice A2 n2 c2,.slice A3 n3 c3,.slice A4 n4 c4,.slice A5 n5 c5,.slice A6 n6 c6,.slice A7 n7 c7] 35)).alloc (.cells #[.slice A0 n0 c0,.slice A1 n1 c1,.slice A2 n2 c2,.slice A3 n3 c3,.slice A4 n4 c4,.slice A5 n5 c5,.slice A6 n6 c6,.slice A7 n7 c7] 27):=by
 go_enter Tryz.func88,Tryz.ntmps88
 go_wp2
 go_ret
 exact ⟨rfl,rfl⟩
theorem refLists_any (V : List Value) (L : List (List ByteArray)) (w : World) (H : Pf w V L) :
 Calls Tryz.prog 88 #[.agg V.toArray] w (Ls8 w L):=by
 have h8:=H.v8
 match V,h8,H with
 | [v0,v1,v2,v3,v4,v5,v6,v7],_,H=>
   obtain ⟨A0,n0,c0,l0,e0,_⟩:=H.get (i:=0) (by decide)
   simp only [List.getElem?_cons_zero,List.getElem?_cons_succ,Option.some.injEq] at e0
   subst e0
   obtain ⟨A1,n1,c1,l1,e1,_⟩:=H.get (i:=1) (by decide)
   simp only [List.getElem?_cons_zero,List.getElem?_cons_succ,Option.some.injEq] at e1
   subst e1
   obtain ⟨A2,n2,c2,l2,e2,_⟩:=H.get (i:=2) (by decide)
   simp only [List.getElem?_cons_zero,List.getElem?_cons_succ,Option.some.injEq] at e2
   subst e2
   obtain ⟨A3,n3,c3,l3,e3,_⟩:=H.get (i:=3) (by decide)
   simp only [List.getElem?_cons_zero,List.getElem?_cons_succ,Option.some.injEq] at e3
   subst e3
   obtain ⟨A4,n4,c4,l4,e4,_⟩:=H.get (i:=4) (by decide)
   simp only [List.getElem?_cons_zero,List.getElem?_cons_succ,Option.some.injEq] at e4
   subst e4
   obtain ⟨A5,n5,c5,l5,e5,_⟩:=H.get (i:=5) (by decide)
   simp only [List.getElem?_cons_zero,List.getElem?_cons_succ,Option.some.injEq] at e5
   subst e5
   obtain ⟨A6,n6,c6,l6,e6,_⟩:=H.get (i:=6) (by decide)
   simp only [List.getElem?_cons_zero,List.getElem?_cons_succ,Option.some.injEq] at e6
   subst e6
   obtain ⟨A7,n7,c7,l7,e7,_⟩:=H.get (i:=7) (by decide)
   simp only [List.getElem?_cons_zero,List.getElem?_cons_succ,Option.some.injEq] at e7
   subst e7
   refine (refLists_eq A0 A1 A2 A3 A4 A5 A6 A7 n0 c0 n1 c1 n2 c2 n3 c3 n4 c4 n5 c5 n6 c6 n7 c7 w).mono ?_
   rintro r w' ⟨rfl,rfl⟩
   have hz : (w.alloc (.cells #[.slice A0 n0 c0,.slice A1 n1 c1,.slice A2 n2 c2,.slice A3 n3 c3,.slice A4 n4 c4,.slice A5 n5 c5,.slice A6 n6 c6,.slice A7 n7 c7] 35)).heap.size=w.heap.size + 1:=by simp
   have hb1:=below_got w (.cells #[.slice A0 n0 c0,.slice A1 n1 c1,.slice A2 n2 c2,.slice A3 n3 c3,.slice A4 n4 c4,.slice A5 n5 c5,.slice A6 n6 c6,.slice A7 n7 c7] 35)
   have hb2:=hb1.alloc hb1.size (.cells #[.slice A0 n0 c0,.slice A1 n1 c1,.slice A2 n2 c2,.slice A3 n3 c3,.slice A4 n4 c4,.slice A5 n5 c5,.slice A6 n6 c6,.slice A7 n7 c7] 27)
   have hg:=heap_new (w.alloc (.cells #[.slice A0 n0 c0,.slice A1 n1 c1,.slice A2 n2 c2,.slice A3 n3 c3,.slice A4 n4 c4,.slice A5 n5 c5,.slice A6 n6 c6,.slice A7 n7 c7] 35)) (.cells #[.slice A0 n0 c0,.slice A1 n1 c1,.slice A2 n2 c2,.slice A3 n3 c3,.slice A4 n4 c4,.slice A5 n5 c5,.slice A6 n6 c6,.slice A7 n7 c7] 27)
   rw [hz] at hg
   exact ⟨w.heap.size + 1,[.slice A0 n0 c0,.slice A1 n1 c1,.slice A2 n2 c2,.slice A3 n3 c3,.slice A4 n4 c4,.slice A5 n5 c5,.slice A6 n6 c6,.slice A7 n7 c7],rfl,Vls.block (V:=[.slice A0 n0 c0,.slice A1 n1 c1,.slice A2 n2 c2,.slice A3 n3 c3,.slice A4 n4 c4,.slice A5 n5 c5,.slice A6 n6 c6,.slice A7 n7 c7]) hg (Array.getElem?_eq_some_iff.1 hg).1,H.keep hb2,by omega,hb2⟩
end
section
open Go.RowKit
end
section
open Go.RowKit
theorem take_eq_iff {ss ts : List ByteArray} {k : Nat} {x y : ByteArray} (hx : ss[k]? =some x) (hy : ts[k]? =some y) : ss.take (k + 1)=ts.take (k + 1)↔ss.take k=ts.take k∧x=y:=by
 rw [take_succ_of hx,take_succ_of hy]
 constructor
 · intro h
   have:=List.append_inj' h rfl
   exact ⟨this.1,by simpa using this.2⟩
 · rintro ⟨h,rfl⟩
   rw [h]
set_option maxHeartbeats 400000 in
theorem same_any (ss ts : List ByteArray) (A B : Option Addr) (n c m d : Nat) (w : World) (hn : n≤9223372036854775807) (hm : m≤9223372036854775807) (H : Strs w A n ss) (K : Strs w B m ts) :
 Calls Tryz.prog 78 #[.slice A n c,.slice B m d] w fun r w'=>r= .returned (.bool (decide (ss=ts)))∧∃q,w' =w.drewN q:=by
 have hl:=Lib.hid H.len
 have hm':=Lib.hid K.len
 by_cases hnm : n=m
 · subst hnm
   go_enter Tryz.func78,Tryz.ntmps78
   go_wp2
   go_loopw [5] (fun i wr=> ∃k : Nat,k≤n∧i= .int .i64 k∧Hid (ss.take k=ts.take k)∧Hid (∃q,wr=w.drewN q)) (fun i _=>n - (intOf i).toNat)
   case atStart=>exact ⟨0,by omega,rfl,by simp [Hid],⟨0,rfl⟩⟩
   case round=>
    obtain ⟨k,hk,rfl,hf,hD⟩:=hrel
    by_cases hlt : k < n
    · obtain ⟨b,off,x,rfl,hb,hx,hc⟩:=H.at_ hlt
      obtain ⟨b',off',y,rfl,hb',hy,hc'⟩:=K.at_ hlt
      obtain ⟨q,rfl⟩:=hD.out
      have hlt0 : (0 : Int)≤(k : Int):=by omega
      have hlt1 : (k : Int) < (n : Int):=by omega
      have hcut:=Lib.hid (take_eq_iff hx hy)
      clear hx hy
      cases he : (x.toList == y.toList) with
      | true=>
        have hb1 : (!(x.toList == y.toList))=false:=by rw [he];rfl
        have hxy:=Lib.hid (bs_eq he)
        go_wp2
        go_quiet (fail)
        go_wp2
        go_roundw
        case rel=>exact ⟨k + 1,by omega,by go_num,hcut.out.2 ⟨hf.out,hxy.out⟩,⟨_,rfl⟩⟩
        case measure=>simp [intOf];omega
      | false=>
        have hb1 : (!(x.toList == y.toList))=true:=by rw [he];rfl
        have hxy:=Lib.hid (bs_ne he)
        go_wp2
        go_quiet (fail)
        go_wp2
        go_ret
        exact ⟨ret_bool (decide_eq_false (fun e=>by subst e;exact hxy.out (hcut.out.1 rfl).2)).symm,⟨_,World.drewN_drewN _ _ _⟩⟩
    · go_wp2
      go_ret
      refine ⟨ret_bool (decide_eq_true ?_).symm,hD.out⟩
      have h1 : ss.take k=ss:=List.take_of_length_le (by rw [hl.out];omega)
      have h2 : ts.take k=ts:=List.take_of_length_le (by rw [hm'.out];omega)
      rw [← h1,← h2];exact hf.out
 · have hne:=Lib.hid (show ss≠ts by intro e;subst e;exact hnm (hl.out.symm.trans hm'.out))
   go_enter Tryz.func78,Tryz.ntmps78
   go_wp2
   go_ret
   exact ⟨ret_bool (decide_eq_false hne.out).symm,⟨0,rfl⟩⟩
end
section
open Go.RowKit
theorem takes_eq {L M : List (List ByteArray)} {k : Nat} {x y : List ByteArray} (hx : L[k]? =some x) (hy : M[k]? =some y) : L.take (k + 1)=M.take (k + 1)↔L.take k=M.take k∧x=y:=by
 rw [take_succ_of hx,take_succ_of hy]
 constructor
 · intro h
   have:=List.append_inj' h rfl
   exact ⟨this.1,by simpa using this.2⟩
 · rintro ⟨h,rfl⟩
   rw [h]
noncomputable def ldP (a : Addr) : Sem Value:=loadVar 35 a
theorem ldP_eq (a : Addr) : loadVar 35 a=ldP a:=rfl
theorem ldP_run {W : World} {g : Nat} {V : List Value} (hc : W.rangeAt g 0 V) (h8 : V.length=8) : (ldP ⟨g,0,none⟩).run Tryz.prog W= .ok (.agg V.toArray) W:=
 run_loadVar_mid W g 0 35 V _ hc Tryz.underlying35 rfl (by rw [h8];kernel_rfl)
section
attribute [local go_sem ↓] ldP_eq
set_option maxRecDepth 100000 in
set_option maxHeartbeats 4000000 in
theorem same15_any (V U : List Value) (L M : List (List ByteArray)) (w : World) (H : Pf w V L) (K : Pf w U M) :
 Calls Tryz.prog 77 #[.agg V.toArray,.agg U.toArray] w fun r w'=>r= .returned (.bool (decide (L=M)))∧Below w.heap.size w w':=by
 have hb1:=below_got w (.cells V.toArray 35)
 have hb2:=hb1.alloc hb1.size (.cells U.toArray 35)
 have hg1:=heap_past (heap_new w (.cells V.toArray 35)) (.cells U.toArray 35)
 have hg2:=heap_new (w.alloc (.cells V.toArray 35)) (.cells U.toArray 35)
 rw [World.size_alloc] at hg2
 have hl1:=(Array.getElem?_eq_some_iff.1 hg1).1
 have hl2:=(Array.getElem?_eq_some_iff.1 hg2).1
 have hldU:=rangeAt_list (cs:=U) (by exact hg2)
 have hldV:=rangeAt_list (cs:=V) (by exact hg1)
 have hS:=Lib.hid (fun W (h : Below ((w.alloc (.cells V.toArray 35)).alloc (.cells U.toArray 35)).heap.size ((w.alloc (.cells V.toArray 35)).alloc (.cells U.toArray 35)) W)=>(⟨ldP_run (rangeAt_keep hldV h hl1) H.v8,ldP_run (rangeAt_keep hldU h hl2) K.v8⟩ :
  (ldP ⟨w.heap.size,0,none⟩).run Tryz.prog W= .ok (.agg V.toArray) W∧(ldP ⟨w.heap.size + 1,0,none⟩).run Tryz.prog W= .ok (.agg U.toArray) W))
 have cU:=Lib.hid (fun W (h : Below w.heap.size w W)=>refLists_any U M W (K.keep h))
 have cV:=Lib.hid (fun W (h : Below w.heap.size w W)=>refLists_any V L W (H.keep h))
 have hB2:=Lib.hid hb2
 have hL8:=Lib.hid H.l8
 have hM8:=Lib.hid K.l8
 clear H K hb1 hb2 hg1 hg2 hldV hldU hl1 hl2
 go_enter Tryz.func77,Tryz.ntmps77
 go_upto_region 1 with (refine wpList_box_row 35 _ rfl rfl (List.toArray _) rfl ?_;try simp only [World.size_alloc])
 generalize ((w.alloc (.cells V.toArray 35)).alloc (.cells U.toArray 35))=w1 at hB2 hS ⊢
 have hB0:=Lib.hid (show Below w1.heap.size w1 w1.drew from drewN_below 1)
 have hC0:=Lib.hid (hB2.out.trans (hB0.out.mono hB2.out.size))
 go_region_held3 (fun W=>(ldP ⟨w.heap.size,0,none⟩).run Tryz.prog W= .ok (.agg V.toArray) W∧(ldP ⟨w.heap.size + 1,0,none⟩).run Tryz.prog W= .ok (.agg U.toArray) W)
  (first | exact hS.out _ hB0.out | exact hS.out _ hB3.out | exact hS.out _ hB5.out)
  (first
    | (go_at_call 88;(with_reducible refine (cV.out _ hC0.out).mono ?_);rintro r w3 ⟨g3,U3,rfl,hU3,hP3,_,hb3⟩;have hU3:=Lib.hid hU3;have hP3:=Lib.hid hP3;have hB3:=Lib.hid (hB0.out.trans (hb3.mono hB0.out.size));have hC3:=Lib.hid (hC0.out.trans (hb3.mono hC0.out.size));clear hb3)
    | (go_at_call 88;(with_reducible refine (cU.out _ hC3.out).mono ?_);rintro r w5 ⟨g5,U5,rfl,hU5,hP5,_,hb5⟩;have hU5:=Lib.hid hU5;have hP5:=Lib.hid hP5;have hU3:=Lib.hid (hU3.out.keep hb5);have hP3:=Lib.hid (hP3.out.keep hb5);have hB5:=Lib.hid (hB3.out.trans (hb5.mono hB3.out.size));have hC5:=Lib.hid (hC3.out.trans (hb5.mono hC3.out.size));clear hb5))
 go_wp2_with fail
 go_loopw [7] (fun i wr=> ∃k : Nat,k≤8∧i= .int .i64 k∧Hid (L.take k=M.take k)∧Hid (Below w5.heap.size w5 wr)) (fun i _=>8 - (intOf i).toNat)
 case atStart=>exact ⟨0,by omega,rfl,by simp [Hid],Below.refl _ _⟩
 case round=>
  obtain ⟨k,hk,rfl,hf,hB⟩:=hrel
  by_cases hlt : k < 8
  · obtain ⟨b,off,v,e,hb,hv,hc⟩:=(hU3.out.keep hB.out).at_ hlt
    injection e with e
    injection e with e1 e2
    subst e1;subst e2
    obtain ⟨A,n,c,l,hv2,hl,hnc,hcm,hSt⟩:=(hP3.out.keep hB.out).get hlt
    obtain rfl : v= .slice A n c:=by rw [hv] at hv2;injection hv2
    obtain ⟨b',off',v',e,hb',hv',hc'⟩:=(hU5.out.keep hB.out).at_ hlt
    injection e with e
    injection e with e1 e2
    subst e1;subst e2
    obtain ⟨A',n',c',l',hv2',hl',hnc',hcm',hSt'⟩:=(hP5.out.keep hB.out).get hlt
    obtain rfl : v' = .slice A' n' c':=by rw [hv'] at hv2';injection hv2'
    have hst:=Lib.hid (takes_eq hl hl')
    have cE:=fun q=>same_any l l' A A' n c n' c' (wr.drewN q) (by omega) (by omega) (hSt.keep (drewN_below q)) (hSt'.keep (drewN_below q))
    rw [Nat.zero_add] at hc hc'
    have i1 : (0 : Int)≤(k : Int):=by omega
    have i2 : (k : Int) < 8:=by omega
    clear hv hv2 hl hb hSt hv' hv2' hl' hb' hSt'
    by_cases hq : l=l'
    · rw [decide_eq_true hq] at cE
      have cE:=Lib.hid cE
      have hst:=Lib.hid (hst.out.2 ⟨hf.out,hq⟩)
      clear hq
      go_wp2_with fail
      go_quiet ((go_at_call 78;exact Calls.quiet_of (cE.out _)))
      go_wp2_with fail
      go_roundw
      case rel=>exact ⟨k + 1,by omega,by go_num,hst,hB.out.trans (Below.mono (drewN_below _) hB.out.size)⟩
      case measure=>simp [intOf];omega
    · rw [decide_eq_false hq] at cE
      have cE:=Lib.hid cE
      have hne:=Lib.hid (show L≠M by intro e;subst e;exact hq (hst.out.1 rfl).2)
      clear hq
      go_wp2_with fail
      go_quiet ((go_at_call 78;exact Calls.quiet_of (cE.out _)))
      go_wp2_with fail
      go_ret
      exact ⟨ret_bool (decide_eq_false hne.out).symm,hC5.out.trans ((hB.out.trans (Below.mono (drewN_below _) hB.out.size)).mono hC5.out.size)⟩
  · have hk8 : k=8:=by omega
    subst hk8
    have he:=Lib.hid (show L=M by have:=hf.out;rwa [List.take_of_length_le (by rw [hL8.out];exact Nat.le_refl _),List.take_of_length_le (by rw [hM8.out];exact Nat.le_refl _)] at this)
    go_wp2
    go_ret
    exact ⟨ret_bool (decide_eq_true he.out).symm,hC5.out.trans (hB.out.mono hC5.out.size)⟩
end
end
section
open Go.RowKit Go.ChangeShapes Go.WideShapes Go.Deep
section
variable {P : Program}
theorem neq_flat {n m : Nat} {t : TypeId} {ds : List TypeDesc} {fs : Array Field} (hu : P.underlying t=some (.struct fs)) (hct : P.cellsOf t=ds.length) (hf : flatDesc P n t=some ds) (hb : noBlank P n t=true) (hk : P.keyTypeAt m t=true) (hm : m≤10000)
 (xs ys : List Value) (hx : allOk ds xs) (hy : allOk ds ys) (q : Bool) (hq : (q=true↔xs=ys)) (w : World) :
 (binOp .neq t (.agg xs.toArray) (.agg ys.toArray)).run P w= .ok (.bool (!q)) w:=by
 have h:=eql_flat hu hct hf hb hk hm xs ys hx hy q hq w
 rw [run_eql_struct] at h
 rw [run_neq_struct]
 cases hr : (Op.equalIn 10000 t (.agg xs.toArray) (.agg ys.toArray)).run P w with
 | ok b w'=>
   rw [hr] at h
   simp only [Result.andThen_ok,Result.ok.injEq,Value.bool.injEq] at h
   simp only [Result.andThen_ok,h.1,h.2]
 | halt e w'=>
   rw [hr] at h
   simp [Result.andThen] at h
end
section
variable {P : Program} {ops : Array Oper} {Q : Exit→Act→World→Prop} {a : Act} {w : World} {rest : List Oper} {o : Oper}
theorem wpList_neq_at (t t' : TypeId) (x y : Operand) (ho : o.op= .binOp .neq t x y t') (hw : Region.wanted o (yielded ops a.tmps)=true) (xs ys : Array Value) (hx : a.eval x= .agg xs) (hy : a.eval y= .agg ys)
 (hm : P.eqGuardType P.depth t=false) (q : Bool) (hq : (binOp .neq t (.agg xs) (.agg ys)).run P w= .ok (.bool q) w) (h : wpList P ops Q rest (a.put o.dst (.bool q)) w) : wpList P ops Q (o :: rest) a w:=
 wpList_val hw (by
  unfold execOp
  simp only [ho,hx,hy,Sem.run_bind,run_eqGuard_agg w .neq t x y xs ys hm,Result.andThen_ok,hq,Sem.run_pure]) h
end
end
end Go.Proofs.YtmicohmbmgbnkaaGreatDoor
