/- Texts joined: what each shows stands ahead of its theorems. -/
import Derived.Test.YtmicohmbmgbnkaaGreatDoorVb44
import Derived.Test.YtmicohmbmgbnkaaGreatDoorVb41
import Derived.Maps.AppendAt
namespace Go.Proofs.YtmicohmbmgbnkaaGreatDoor
section
open Go Go.RowKit Go.Shelf Go.ChangeShapes Go.WideShapes Go.Deep
structure FewS (vs : List PV) : Prop where
 c : FewC vs
 tx : ∀s,vs[2]? =some (.text s)→s.length≤300
 cu : ∀l,vs[4]? =some (.nums l)→l.length≤20
 op : ∀l,vs[3]? =some (.ops l)→l.length≤70∧∀o∈l,o.s.length≤2000
structure StI (W : World) (kd : Int) (vs : List PV) (cs : List Value) : Prop where
 s : StC W kd vs cs
 t : TyVs keyT vs
 b : ∀v∈vs,BigPV v
theorem StI.keep {W W' : World} {kd : Int} {vs : List PV} {cs : List Value} (h : StI W kd vs cs) (hb : Below W.heap.size W W') : StI W' kd vs cs:=⟨h.s.keep hb,h.t,h.b⟩
end
section
open Go Go.RowKit Go.Shelf Go.ChangeShapes Go.WideShapes Go.Deep
end
section
open Go Go.RowKit Go.Shelf
open Go.Lib (itoa)
end
section
open Go Go.RowKit Go.Shelf
open Go.Lib (itoa)
end
section
open Go Go.RowKit Go.Shelf
open Go.Lib (itoa)
def lnT (s : Int × List PV × List Value) : List UInt8:=lineX s.1 s.2.1
structure LnOk (W : World) (s : Int × List PV × List Value) : Prop where
 k : ∃k : Nat,s.1=k∧k < 9
 ok : OkVs keyT s.2.1
 len : (lnT s).length≤27000594
 p : ∀W',Below W.heap.size W W'→Calls Tryz.prog 19 #[.agg s.2.2.toArray] W' fun r w'=>r= .returned (.tuple #[.string (bs (lnT s)),.nilIface])∧Below W'.heap.size W' w'
 q : ∀W',Below W.heap.size W W'→Calls Tryz.prog 20 #[.agg s.2.2.toArray] W' fun r w'=>r= .returned (.tuple #[.string (bs (lnT s)),.agg erZ])∧Below W'.heap.size W' w'
structure LnBad (W : World) (s : Int × List PV × List Value) (a : ByteArray) : Prop where
 len : a.size≤10
 p : ∀W',Below W.heap.size W W'→Calls Tryz.prog 19 #[.agg s.2.2.toArray] W' (ErrOut (.string ⟨#[]⟩) 6 [a] W')
 q : ∀W',Below W.heap.size W W'→Calls Tryz.prog 20 #[.agg s.2.2.toArray] W' fun r w'=>r= .returned (.tuple #[.string ⟨#[]⟩,.agg #[.int .i64 6,.string (spS [a])]])∧Below W'.heap.size W' w'
structure LnP (W : World) (s : Int × List PV × List Value) : Prop where
 len : (lnT s).length≤27000594
 p : ∀W',Below W.heap.size W W'→Calls Tryz.prog 19 #[.agg s.2.2.toArray] W' fun r w'=>r= .returned (.tuple #[.string (bs (lnT s)),.nilIface])∧Below W'.heap.size W' w'
def ErP (W : World) (s : Int × List PV × List Value) (a : ByteArray) : Prop:= ∀W',Below W.heap.size W W'→Calls Tryz.prog 19 #[.agg s.2.2.toArray] W' (ErrOut (.string ⟨#[]⟩) 6 [a] W')
theorem LnOk.r {W : World} {s : Int × List PV × List Value} (h : LnOk W s) : LnP W s:=⟨h.len,h.p⟩
theorem textX_snoc : ∀(l : List (List UInt8)) (x : List UInt8),textX (l ++ [x])=textX l ++ (x ++ [10])
 | [],x=>rfl
 | y :: l,x=>by rw [List.cons_append,textX,textX_snoc l x,textX];simp
def scriptS : ByteArray:=⟨#[115,99,114,105,112,116]⟩
theorem bs_nl (l : List UInt8) : bs l ++ (⟨#[10]⟩ : ByteArray)=bs (l ++ [10]):=by
 unfold bs
 show ByteArray.mk _=_
 congr 1
theorem i64_small {m : Nat} (h : m≤2000) : I64 ((m : Int) + 1):=⟨by omega,by omega⟩
def PrR (m n : Nat) (SL : List (Int × List PV × List Value)) (p : ByteArray) (W : World) (r : Ending) (w' : World) : Prop:=(m=n→r= .returned (.tuple #[.string (bs (textX (SL.map lnT))),.nilIface])∧Below W.heap.size W w')∧(m < n→ErrOut (.string ⟨#[]⟩) 6 [scriptS,bs (itoa ((m : Int) + 1)),p] W r w')
set_option maxRecDepth 100000 in
set_option maxHeartbeats 8000000 in
theorem print_any (SL : List (Int × List PV × List Value)) (A : Option Addr) (n c : Nat) (V W : World) (E : EnvS V) (H : Rws V 29 A n (SL.map fun s=>s.2.2)) (h1c : ∀s∈SL,s.2.2.toArray.all (·.oneCell')=true) (hn40 : n≤1000) (m : Nat) (hmn : m≤n) (hg : ∀(j : Nat) s,j < m→SL[j]? =some s→LnP V s) (p : ByteArray) (hb : m < n→∃s,SL[m]? =some s∧ErP V s p) (hlen : ∀i,i≤m→(textX ((SL.take i).map lnT)).length≤1080023800) (hVW : Below V.heap.size V W) :
 Calls Tryz.prog 25 #[.slice A n c] W (PrR m n SL p W):=by
 have hnl : SL.length=n:=by have:=H.1;simpa using this
 have k1000 : ¬(1000 : Int) < (n : Int):=by omega
 have hb0 : Hid (BF W.heap.size W.heap.size (textX ((SL.take 0).map lnT)) (W.alloc (.cells #[.pointer none,.slice none 0 0] 74))):=Lib.hid (bf_zero W)
 have hB0:=Lib.hid (below_new2 W (.cells #[.pointer none,.slice none 0 0] 74))
 have hsnoc : Hid (∀(i : Nat) x,SL[i]? =some x→textX ((SL.take (i + 1)).map lnT)=textX ((SL.take i).map lnT) ++ (lnT x ++ [10])):=Lib.hid fun i x hx=>by rw [take_succ_of hx,List.map_append];exact textX_snoc _ _
 have hall : Hid (textX ((SL.take n).map lnT)=textX (SL.map lnT)):=Lib.hid (by rw [List.take_of_length_le (by omega)])
 have hHk:=Lib.hid H
 have hgk:=Lib.hid hg
 have hbk:=Lib.hid hb
 have h1k:=Lib.hid h1c
 have hEk:=Lib.hid E
 have hVk:=Lib.hid hVW
 have hlk:=Lib.hid hlen
 have hnk:=Lib.hid hnl
 clear H hg hb h1c E hVW hlen hnl
 go_enter Tryz.func25,Tryz.ntmps25
 go_wp2_with fail
 go_loopw [15] (fun jv wr=> ∃i : Nat,i≤m∧jv= .int .i64 i∧Hid (BF W.heap.size W.heap.size (textX ((SL.take i).map lnT)) wr)∧Hid (Below W.heap.size W wr)) (fun jv _=>n - (intOf jv).toNat)
 case atStart=>exact ⟨0,Nat.zero_le _,rfl,hb0,hB0⟩
 case round=>
  clear hb0 hB0
  obtain ⟨i,hi,rfl,hF,hB⟩:=hrel
  generalize wr=wv at *
  by_cases hlt : i < n
  · have hlt' : (i : Int) < (n : Int):=by omega
    have h0i : (0 : Int)≤(i : Int):=Int.natCast_nonneg _
    have hVB:=hVk.out.trans (hB.out.mono hVk.out.size)
    obtain ⟨b2,off2,z2,rfl,hb2,hz2,hz29,hr2⟩:=Rws.row (hHk.out.keep hVB) hlt
    obtain ⟨x,hx,rfl⟩:=map_at hz2
    have hone:=h1k.out x (List.mem_of_getElem? hx)
    have i4:=st_in9 x.2.2 hz29
    have j1:=st_in9' x.2.2 hz29
    have j2:=st_old x.2.2 hz29
    have hz7:=heap_new wv (.cells (stZ 0).toArray 44)
    obtain ⟨hR7,hb8⟩:=lay_step wv (ds:=x.2.2) hz29
    have hF8:=hF.out.below hb8
    have hB8:=Lib.hid (hB.out.trans (hb8.mono hB.out.size))
    have q7:=hR7.range
    have hV8:=Lib.hid (hVB.trans (hb8.mono hVB.size))
    clear hz2 hb8 hVB
    by_cases him : i < m
    · have hL:=hgk.out i x him hx
      have cL:=Lib.hid (hL.p _ hV8.out)
      have hlx:=hL.len
      have hsn:=hsnoc.out i x hx
      have hli:=hlk.out i hi
      obtain ⟨T0,hT0⟩ : ∃T0,textX ((SL.take i).map lnT)=T0:=⟨_,rfl⟩
      rw [hT0] at hsn hli hF8
      have cW:=Lib.hid (fun W' (h : BF W.heap.size W.heap.size T0 W') (hs : W.heap.size≤W'.heap.size)=>cWrite (m:=lnT x ++ [10]) h (by rw [List.length_append];simp only [List.length_singleton];omega) hs)
      rw [← hsn,← bs_nl] at cW
      replace hF8:=Lib.hid hF8
      have hyl : (bs (lnT x)).size≤27000594:=by rw [bs_size];exact hlx
      generalize x.2.2=cs at *
      generalize bs (lnT x)=yl at *
      clear hx hL hlx hli hT0 hF hB hR7 hsn
      go_upto_region 7 with (first
       | (refine wpList_load_at 44 _ rfl rfl b2 (off2 + i * 29) rfl cs _ hr2 Tryz.underlying44 rfl i4 ?_)
       | (refine wpList_alloc_row 44 rfl rfl (stZ 0).toArray st_zero ?_)
       | (refine wpList_store_at 44 _ _ rfl rfl wv.heap.size cs.toArray rfl rfl 44 (stZ 0).toArray hz7 j1 j2 hone ?_))
      generalize (wv.alloc (.cells (stZ 0).toArray 44)).setRow wv.heap.size cs.toArray=w8 at *
      generalize wv.heap.size=p8 at *
      clear hz7
      go_wp2_with (first
       | (refine wpList_load_at 44 _ rfl rfl p8 0 rfl cs _ q7 Tryz.underlying44 rfl i4 ?_)
       | (go_at_call 19;(with_reducible refine cL.out.mono ?_);rintro r w9 ⟨rfl,hb9⟩
          have hF9:=hF8.out.below hb9
          have hB9:=Lib.hid (hB8.out.trans (hb9.mono hB8.out.size))
          have cW9:=Lib.hid (cW.out w9 hF9 hB9.out.size)
          clear hb9 hF9)
       | (go_at_call 32;(with_reducible refine cW9.out.mono ?_);rintro r w10 ⟨rfl,hF10,hb10,_⟩
          replace hF10:=Lib.hid hF10
          have hB10:=Lib.hid (hB9.out.trans hb10)
          clear hb10))
      go_roundw
      case rel=>exact ⟨i + 1,by omega,by go_num,hF10,hB10⟩
      case measure=>simp [intOf];omega
    · obtain rfl : i=m:=by omega
      obtain ⟨s,hs,hbd⟩:=hbk.out hlt
      rw [hx] at hs
      injection hs with hs
      subst hs
      have cL:=Lib.hid (hbd _ hV8.out)
      have cI:=Lib.hid (fun W' (h : Below W.heap.size W W')=>itoa_any ((i : Int) + 1) (i64_small (by omega)) W' (hEk.out.keep (hVk.out.trans (h.mono hVk.out.size)) hEk.out.size))
      generalize x.2.2=cs at *
      obtain ⟨yd,hyd⟩ : ∃yd,bs (itoa ((i : Int) + 1))=yd:=⟨_,rfl⟩
      rw [hyd] at cI
      replace hyd:=Lib.hid hyd
      clear hx hbd hF hB hR7 hF8 hsnoc hall
      go_upto_region 7 with (first
       | (refine wpList_load_at 44 _ rfl rfl b2 (off2 + i * 29) rfl cs _ hr2 Tryz.underlying44 rfl i4 ?_)
       | (refine wpList_alloc_row 44 rfl rfl (stZ 0).toArray st_zero ?_)
       | (refine wpList_store_at 44 _ _ rfl rfl wv.heap.size cs.toArray rfl rfl 44 (stZ 0).toArray hz7 j1 j2 hone ?_))
      generalize (wv.alloc (.cells (stZ 0).toArray 44)).setRow wv.heap.size cs.toArray=w8 at *
      generalize wv.heap.size=p8 at *
      clear hz7
      go_wp2_with (first
       | (refine wpList_load_at 44 _ rfl rfl p8 0 rfl cs _ q7 Tryz.underlying44 rfl i4 ?_)
       | (go_at_call 19;(with_reducible refine cL.out.mono ?_);rintro r w9 ⟨e,rfl,hm9,hb9⟩
          obtain ⟨T9,u9,rfl⟩:=isErr_some hm9
          have hB9:=Lib.hid (hB8.out.trans (hb9.mono hB8.out.size))
          have cI9:=Lib.hid (cI.out w9 hB9.out)
          replace hm9:=Lib.hid hm9
          clear hb9)
       | (go_at_call 52;(with_reducible refine cI9.out.mono ?_);rintro r w10 ⟨rfl,hb10⟩
          have cA1:=Lib.hid (at_any yd (some 6) [p] T9 u9 w10 (hm9.out.keep hb10))
          have hB10:=Lib.hid (hB9.out.trans (hb10.mono hB9.out.size))
          clear hb10)
       | (go_at_call 51;(with_reducible refine cA1.out.mono ?_);rintro r w11 ⟨v1,rfl,hv1,hb11⟩
          obtain ⟨T8,u8,rfl⟩:=isErr_some hv1
          have cA2:=Lib.hid (at_any scriptS (some 6) [yd,p] T8 u8 w11 hv1)
          have hB11:=Lib.hid (hB10.out.trans (hb11.mono hB10.out.size))
          unfold scriptS at cA2
          clear hb11 hv1 cA1)
       | (go_at_call 51;(with_reducible refine cA2.out.mono ?_);rintro r w12 ⟨v2,rfl,hv2,hb12⟩
          have hB12:=Lib.hid (hB11.out.trans (hb12.mono hB11.out.size))
          replace hv2:=Lib.hid hv2
          clear hb12))
      go_ret2
      exact ⟨fun h=>absurd h (by omega),fun _=>⟨v2,rfl,by rw [hyd.out];exact hv2.out,hB12.out⟩⟩
  · obtain rfl : i=n:=by omega
    obtain rfl : m=i:=by omega
    have cS:=Lib.hid (cString hF.out hB.out.size)
    rw [hall.out] at cS
    clear hF
    go_wp2_with (first
     | (go_at_call 33;(with_reducible refine cS.out.mono ?_);rintro r w9 ⟨rfl,_,hb9,_⟩
        have hB9:=Lib.hid (hB.out.trans hb9)
        clear hb9))
    go_ret2
    exact ⟨fun _=>⟨rfl,hB9.out⟩,fun h=>absurd h (by omega)⟩
end
section
open Go Go.RowKit Go.Shelf
open Go.Lib (itoa)
def SlO (o : Option Nat) (W : World) (K : Nat) (zs : List (List Value)) (v : Value) : Prop:= ∃A c,v= .slice A zs.length c∧zs.length≤c∧c≤9223372036854775807∧Rws W K A zs.length zs∧(0 < zs.length→∀a,A=some a→some a.block≠o)
theorem SlO.v {o : Option Nat} {W : World} {K : Nat} {zs : List (List Value)} {v : Value} (h : SlO o W K zs v) : SlV W K zs v:=by
 obtain ⟨A,c,h1,h2,h3,h4,_⟩:=h
 exact ⟨A,c,h1,h2,h3,h4⟩
theorem SlO.keep {o : Option Nat} {W W' : World} {K : Nat} {zs : List (List Value)} {v : Value} (h : SlO o W K zs v) (hb : Below W.heap.size W W') : SlO o W' K zs v:=by
 obtain ⟨A,c,h1,h2,h3,h4,h5⟩:=h
 exact ⟨A,c,h1,h2,h3,h4.keep hb,h5⟩
theorem SlO.grown {o o' : Option Nat} {W W' : World} {K : Nat} {zs : List (List Value)} {v : Value} (h : SlO o W K zs v) (hg : W.grownBy W' o) (ho : o' =o∨o' =some W.heap.size) : SlO o' W' K zs v:=by
 obtain ⟨A,c,h1,h2,h3,h4,h5⟩:=h
 refine ⟨A,c,h1,h2,h3,⟨h4.1,h4.2.1,fun hp=> ?_⟩,fun hp a ha=> ?_⟩
 · obtain ⟨b',off,e,hlt,hc⟩:=h4.2.2 hp
   have hne:=h5 hp _ e
   refine ⟨b',off,e,Nat.lt_of_lt_of_le hlt hg.size,fun j z hz i v hv=> ?_⟩
   rw [World.cell?_of_block (hg.block b' hlt hne)]
   exact hc j z hz i v hv
 · obtain ⟨b',off,e,hlt,_⟩:=h4.2.2 hp
   rcases ho with rfl | rfl
   · exact h5 hp a ha
   · rw [e] at ha
     injection ha with ha
     subst ha
     intro h9
     injection h9 with h9
     dsimp only at h9
     omega
theorem SlN.o {b : Nat} {o : Option Nat} {W : World} {K : Nat} {zs : List (List Value)} {v : Value} (h : SlN b W K zs v) (ho : ∀g,o=some g→g≤b) : SlO o W K zs v:=by
 obtain ⟨A,c,h1,h2,h3,h4,h5⟩:=h
 exact ⟨A,c,h1,h2,h3,h4,fun hp a ha e=>by have:=h5 hp a ha;have:=ho _ e.symm;omega⟩
structure StO (o : Option Nat) (W : World) (k : Int) (vs : List PV) (cs : List Value) : Prop where
 len : cs.length=29
 kind : cs[0]? =some (.int .i64 k)
 ok : OkVs keyT vs
 val : ∀(i off : Nat) (v : PV),vs[i]? =some v→offT[i]? =some off→∃z,PValG (SlO o W) v z∧∀(j : Nat) x,z[j]? =some x→cs[off + j]? =some x
 one : ∀x∈cs,x.oneCell' =true
theorem StO.c {o : Option Nat} {W : World} {k : Int} {vs : List PV} {cs : List Value} (h : StO o W k vs cs) : StC W k vs cs:=
 ⟨h.len,h.kind,fun i off v h1 h2=>by obtain ⟨z,hz,hc⟩:=h.val i off v h1 h2;exact ⟨z,PValG.mono (fun _ _ _ h=>h.v) hz,hc⟩,by rw [List.all_toArray];exact List.all_eq_true.2 h.one⟩
theorem StO.keep {o : Option Nat} {W W' : World} {k : Int} {vs : List PV} {cs : List Value} (h : StO o W k vs cs) (hb : Below W.heap.size W W') : StO o W' k vs cs:=
 ⟨h.len,h.kind,h.ok,fun i off v h1 h2=>by obtain ⟨z,hz,hc⟩:=h.val i off v h1 h2;exact ⟨z,PValG.mono (fun _ _ _ h=>h.keep hb) hz,hc⟩,h.one⟩
theorem StO.grown {o o' : Option Nat} {W W' : World} {k : Int} {vs : List PV} {cs : List Value} (h : StO o W k vs cs) (hg : W.grownBy W' o) (ho : o' =o∨o' =some W.heap.size) : StO o' W' k vs cs:=
 ⟨h.len,h.kind,h.ok,fun i off v h1 h2=>by obtain ⟨z,hz,hc⟩:=h.val i off v h1 h2;exact ⟨z,PValG.mono (fun _ _ _ h=>h.grown hg ho) hz,hc⟩,h.one⟩
theorem StN.o {b : Nat} {o : Option Nat} {W : World} {k : Int} {vs : List PV} {cs : List Value} (h : StN b W k vs cs) (ho : ∀g,o=some g→g≤b) : StO o W k vs cs:=
 ⟨h.len,h.kind,h.ok,fun i off v h1 h2=>by obtain ⟨z,hz,hc⟩:=h.val i off v h1 h2;exact ⟨z,PValG.mono (fun _ _ _ h=>h.o ho) hz,hc⟩,h.one⟩
def RowsO (o : Option Nat) (W : World) (ls : List (List UInt8)) (rows : List (Int × List PV × List Value)) : Prop:=
 ∀(j : Nat) s,rows[j]? =some s→(∃l,ls[j]? =some l∧∃k : Nat,s.1=k∧rdLine l= .ok k s.2.1)∧StO o W s.1 s.2.1 s.2.2
theorem RowsO.keep {o : Option Nat} {W W' : World} {ls : List (List UInt8)} {rows : List (Int × List PV × List Value)} (h : RowsO o W ls rows) (hb : Below W.heap.size W W') : RowsO o W' ls rows:=fun j s hj=>⟨(h j s hj).1,(h j s hj).2.keep hb⟩
theorem RowsO.grown {o o' : Option Nat} {W W' : World} {ls : List (List UInt8)} {rows : List (Int × List PV × List Value)} (h : RowsO o W ls rows) (hg : W.grownBy W' o) (ho : o' =o∨o' =some W.heap.size) : RowsO o' W' ls rows:=fun j s hj=>⟨(h j s hj).1,(h j s hj).2.grown hg ho⟩
theorem RowsO.snoc {o : Option Nat} {W : World} {ls : List (List UInt8)} {rows : List (Int × List PV × List Value)} {l : List UInt8} {k : Nat} {vs : List PV} {cs : List Value} (h : RowsO o W ls rows) (hl : ls[rows.length]? =some l) (hr : rdLine l= .ok k vs) (hs : StO o W k vs cs) : RowsO o W ls (rows ++ [((k : Int),vs,cs)]):=fun j s hj=>by
 by_cases e : j < rows.length
 · rw [List.getElem?_append_left e] at hj
   exact h j s hj
 · rw [List.getElem?_append_right (by omega)] at hj
   obtain ⟨q,rfl⟩ : ∃q,j=rows.length + q:=⟨j - rows.length,by omega⟩
   rw [Nat.add_sub_cancel_left] at hj
   cases q with
   | zero=>injection hj with hj;subst hj;exact ⟨⟨l,hl,k,rfl,hr⟩,hs⟩
   | succ q=>cases hj
section
variable {P : Program} {ops : Array Oper} {Q : Exit→Act→World→Prop} {a : Act} {w : World} {rest : List Oper} {o : Oper}
theorem wpList_append_one_at (hgd : o.guard=none) (s x : Operand) (t : TypeId)
 (ho : o.op= .call { callee:= .builtin .append,args:=#[s,x],argTypes:=#[t,t] })
 (e : TypeId) (i : TypeInfo) (z : Value) (size bytes : Nat) (ht : P.underlying t=some (.slice e)) (hi : P.info? e=some i) (hz : i.zero=some z)
 (hsize : i.size=size) (hby : i.bytes=bytes) (hzs : z.cells.size=size) (hsz : 0 < size)
 (w0 : World) (hB : Below w0.heap.size w0 w) (v : Value) (zs : List (List Value)) (hs : a.eval s=v) (hown : OwnR w w0.heap.size size e v zs)
 (g c : Nat) (row : List Value) (hx : a.eval x= .slice (some ⟨g,0,none⟩) 1 c) (hrow : w.rangeAt g 0 row) (hl : row.length=size) (h1 : ∀u∈row,u.oneCell' =true)
 (h63 : zs.length + 1≤maxLen) (hbytes : (zs.length + 1) * bytes≤140737488355328)
 (h : ∀v' w',OwnR w' w0.heap.size size e v' (zs ++ [row])→Below w0.heap.size w0 w'→w.grownBy w' v.ownBlock→(v'.ownBlock=v.ownBlock∨v'.ownBlock=some w.heap.size)→wpList P ops Q rest (a.put o.dst v') w') : wpList P ops Q (o :: rest) a w:=by
 refine wpList_append_own_at w hgd s x t ho w0.heap.size e i z size bytes ht hi hz hsize hby hzs hsz v zs.length zs.flatten hs hown.1 ⟨g,0,none⟩ 1 c row hx (by rw [hl,Nat.one_mul])
  (fun j u hu=>by rw [Addr.add_mid];exact hrow j u hu) h1 h63 hbytes hB.size ?_
 intro v' w' hown' hg _ hat
 refine h v' w' ⟨by simpa [List.length_append,List.flatten_append] using hown',fun z hz=> ?_⟩ (hB.grown hg hB.size hown.lt) hg hat
 rcases List.mem_append.1 hz with hz | hz
 · exact hown.2 z hz
 · simp only [List.mem_singleton] at hz
   subst hz
   exact hl
end
end
section
open Go Go.RowKit Go.Shelf
open Go.Lib (itoa)
theorem step_info : (Tryz.prog.info? 44).map (fun i=>(i.zero,i.size,decide (i.bytes≤1000)))=some (some (.agg (stZ 0).toArray),29,true):=by kernel_rfl
def PsR (ls : List (List UInt8)) (m : Nat) (a : List UInt8) (W : World) (r : Ending) (w' : World) : Prop:=
 (m=ls.length→∃(v : Value) (rows : List (Int × List PV × List Value)),r= .returned (.tuple #[v,.nilIface])∧OwnR w' W.heap.size 29 44 v (rows.map fun s=>s.2.2)∧RowsO v.ownBlock w' ls rows∧rows.length=m∧Below W.heap.size W w')∧
 (m < ls.length→ErrOut (.slice none 0 0) 3 [scriptS,bs (itoa ((m : Int) + 1)),bs a] W r w')
theorem own_step {w : World} {B : Nat} {E : TypeId} {v : Value} {zs : List (List Value)} (h : OwnR w B 29 E v zs) {g : Nat} (hg : v.ownBlock=some g) : g < w.heap.size:=by
 obtain ⟨⟨hl,hh⟩,hz⟩:=h
 rcases hh with ⟨rfl,_⟩ | ⟨g',cap,cur,hv,hg',hc,r⟩
 · cases hg
 · subst hv
   have : some g' =some g:=hg
   injection this with this
   subst this
   exact (Array.getElem?_eq_some_iff.1 hc).1
set_option maxRecDepth 100000 in
set_option maxHeartbeats 8000000 in
theorem parse_lines (s : ByteArray) (ls : List (List UInt8)) (W : World) (E : EnvS W) (hs : s.size < 4294967281) (hps : splitL 10 s.data.toList=ls ++ [[]]) (hne : ls≠[]) (h1000 : ls.length≤1000) (m : Nat) (a : List UInt8) (hmn : m≤ls.length) (hg : ∀(j : Nat) l,j < m→ls[j]? =some l→∃k vs,rdLine l= .ok k vs) (hb : ∀l,ls[m]? =some l→rdLine l= .bad a) :
 Calls Tryz.prog 27 #[.string s] W (PsR ls m a W):=by
 obtain ⟨i0,hi0,hz0,hz1,hz2⟩ : ∃i,Tryz.prog.info? 44=some i∧i.zero=some (.agg (stZ 0).toArray)∧i.size=29∧i.bytes≤1000:=by
  have h:=step_info
  cases hq : Tryz.prog.info? 44 with
  | none=>rw [hq] at h;cases h
  | some i=>
    rw [hq] at h
    injection h with h
    injection h with h1 h2
    injection h2 with h2 h3
    exact ⟨i,rfl,h1,h2,of_decide_eq_true h3⟩
 have hs0 : ¬s.size=0:=fun h=>by
  have h2 : s.data.toList=[]:=List.eq_nil_of_length_eq_zero (by rw [Array.length_toList];exact h)
  rw [h2] at hps
  cases ls with
  | nil=>exact hne rfl
  | cons x r=>have h3:=congrArg List.length hps;rw [List.length_append] at h3;simp [splitL] at h3
 have hemp : s.toList.isEmpty=false:=by
  have h9 : s.data.toList≠[]:=fun h=>hs0 (by show s.data.size=0;rw [← Array.length_toList,h];rfl)
  have:=bs_ne0 h9
  rwa [bs_back] at this
 have hsub:=fun p (hp : p∈splitL 10 s.data.toList)=>split_size p hp
 have hsl : s.data.toList.length=s.size:=by rw [Array.length_toList];rfl
 rw [hsl] at hsub
 have cS:=split_any 10 s W E hs
 rw [hps] at cS hsub
 obtain ⟨n,hn⟩ : ∃n,ls.length=n:=⟨_,rfl⟩
 have hn1 : (ls ++ [([] : List UInt8)]).length=n + 1:=by rw [List.length_append,hn];rfl
 rw [hn1] at cS
 rw [hn] at h1000 hmn
 have k1 : ((n + 1 : Nat) : Int) - 1=(n : Int):=by omega
 have k2 : ¬(1000 : Int) < (n : Int):=by omega
 replace cS:=Lib.hid cS
 replace hsub:=Lib.hid hsub
 replace hg:=Lib.hid hg
 replace hb:=Lib.hid hb
 have hnk:=Lib.hid hn
 have hEk:=Lib.hid E
 clear hps hne hsl hs0 E hn hn1
 go_enter Tryz.func27,Tryz.ntmps27
 go_upto_region 4 with (go_at_call 45;(with_reducible refine cS.out.mono ?_);rintro r wa ⟨W9,rfl,rfl,hS,hb1⟩;have hO1:=Lib.hid (OwnR.nil_ wa wa.heap.size 29 44);replace hS:=Lib.hid hS;replace hb1:=Lib.hid hb1)
 obtain ⟨hcn,_⟩:=strs_cell hS.out (j:=n) (s:=(⟨#[]⟩ : ByteArray)) (by rw [List.getElem?_map,List.getElem?_append_right (by rw [hnk.out];exact Nat.le_refl _),hnk.out,Nat.sub_self];rfl)
 rw [Nat.zero_add] at hcn
 go_upto_region 9 with fail
 go_wp2_with fail
 clear hcn
 go_loopw [5,35] (fun av jv wr=> ∃(i : Nat) (rows : List (Int × List PV × List Value)) (ov : Value),i≤m∧ov=av∧jv= .int .i64 i∧Hid (OwnR wr wa.heap.size 29 44 ov (rows.map fun s=>s.2.2))∧Hid (RowsO ov.ownBlock wr ls rows)∧Hid (rows.length=i)∧Hid (Below wa.heap.size wa wr)) (fun _ jv _=>n - (intOf jv).toNat)
 case atStart=>exact ⟨0,[],_,Nat.zero_le _,rfl,rfl,hO1,Lib.hid (fun j s h=>by cases h),Lib.hid rfl,Lib.hid (Below.refl _ _)⟩
 case round=>
  clear hO1
  obtain ⟨i,rows,ov,hi,rfl,rfl,hO,hR,hL,hB⟩:=hrel
  have hBw:=Lib.hid (hb1.out.trans (hB.out.mono hb1.out.size))
  generalize wr=wv at *
  by_cases hlt : i < n
  · have hlt' : (i : Int) < (n : Int):=by omega
    have h0i : (0 : Int)≤(i : Int):=Int.natCast_nonneg _
    obtain ⟨l,hl⟩ : ∃l,ls[i]? =some l:=⟨ls[i]'(by rw [hnk.out];exact hlt),List.getElem?_eq_getElem _⟩
    have hla : (ls ++ [([] : List UInt8)])[i]? =some l:=by rw [List.getElem?_append_left (by rw [hnk.out];exact hlt)];exact hl
    obtain ⟨hc0,_⟩:=strs_cell (hS.out.keep hB.out) (j:=i) (s:=bs l) (by rw [List.getElem?_map,hla];rfl)
    rw [Nat.zero_add] at hc0
    have hll:=hsub.out l (List.mem_of_getElem? hla)
    have cR:=read_lineN (bs l) wv (hEk.out.keep hBw.out hEk.out.size) (by rw [bs_size];omega)
    rw [bs_list] at cR
    by_cases him : i < m
    · obtain ⟨k,vs,hr⟩:=hg.out i l him hl
      replace cR:=Lib.hid (cR.mono (fun (r : Ending) (w' : World) h=>(by
       rcases h with ⟨k',vs',ds,h1,h2,h3,h4⟩ | ⟨b,e,h1,_⟩
       · rw [hr] at h1;injection h1 with e1 e2;subst e1 e2;exact ⟨ds,h2,h3,h4⟩
       · exact (nomatch (hr.symm.trans h1)) : ∃ds : List Value,r=Ending.returned (.tuple #[.agg ds.toArray,.nilIface])∧StN wv.heap.size w' k vs ds∧Below wv.heap.size wv w')))
      have how : Hid (∀g,ov.ownBlock=some g→g≤wv.heap.size):=Lib.hid (fun g h=>Nat.le_of_lt (own_step hO.out h))
      have hend:=Lib.hid (fun (o : Option Nat) (W' : World) ds (h : RowsO o W' ls rows) (hs : StO o W' k vs ds)=>h.snoc (by rw [hL.out];exact hl) hr hs)
      have hL2 : Hid (∀ds : List Value,(rows ++ [((k : Int),vs,ds)]).length=i + 1):=Lib.hid (fun ds=>by rw [List.length_append,hL.out];rfl)
      have hmp : Hid (∀ds : List Value,(rows ++ [((k : Int),vs,ds)]).map (fun s=>s.2.2)=rows.map (fun s=>s.2.2) ++ [ds]):=Lib.hid (fun ds=>by rw [List.map_append];rfl)
      have hln : (rows.map fun s=>s.2.2).length=i:=by rw [List.length_map,hL.out]
      generalize hzs : (rows.map fun s=>s.2.2)=zs at *
      replace hzs:=Lib.hid hzs
      generalize bs l=yl at *
      clear hl hla hll hr hL
      go_upto_region 13 with (first
       | (go_at_call 22;(with_reducible refine cR.out.mono ?_);rintro r w7 ⟨ds,rfl,hm7,hb7⟩
          have hz7:=heap_new w7 (.cells (stZ 0).toArray 44)
          have hone:=(StN.c hm7).one
          have hon9:=Lib.hid hm7.one
          have hd29:=hm7.len
          obtain ⟨hR7,hb8⟩:=lay_step w7 (ds:=ds) hd29
          have i4:=st_in9 ds hd29
          have j1:=st_in9' ds hd29
          have j2:=st_old ds hd29
          have hb9:=hb7.trans (hb8.mono hb7.size)
          have hO8:=Lib.hid (hO.out.keep hb9)
          have hR8:=Lib.hid (RowsO.keep hR.out hb9)
          have hm8:=Lib.hid (hm7.but (But.of_below hb8))
          have hB8:=Lib.hid (hB.out.trans (hb9.mono hB.out.size))
          clear hb7 hb8 hb9 hm7 hO hR)
       | (refine wpList_alloc_row 44 rfl rfl (stZ 0).toArray st_zero ?_)
       | (refine wpList_store_at 44 _ _ rfl rfl w7.heap.size ds.toArray rfl rfl 44 (stZ 0).toArray hz7 j1 j2 hone ?_))
      generalize (w7.alloc (.cells (stZ 0).toArray 44)).setRow w7.heap.size ds.toArray=w8 at *
      generalize w7.heap.size=p8 at *
      have q8:=hR7.range
      have hb9:=below_new w8 (.cells ds.toArray 44)
      have hB9:=Lib.hid (hB8.out.trans (hb9.mono hB8.out.size))
      have hO9:=Lib.hid (hO8.out.keep hb9)
      have hR9:=Lib.hid (RowsO.keep hR8.out hb9)
      have hm9:=Lib.hid (StO.keep (StN.o hm8.out how.out) hb9)
      have hfill : Instr.fill (fun j=>some (j * i0.size,i0.size)) ((Array.range (1 * i0.size)).map ((Value.agg (stZ 0).toArray).cells[· % (Value.agg (stZ 0).toArray).cells.size]!)) [(0,.agg ds.toArray)]=some ds.toArray:=by
       rw [hz1];exact fill_one 29 _ _ (by simp) (by rw [List.size_toArray,hd29])
      have hby : (zs.length + 1) * i0.bytes≤140737488355328:=by
       have h1 : (zs.length + 1) * i0.bytes≤1001 * 1000:=Nat.mul_le_mul (by omega) hz2
       omega
      replace hby:=Lib.hid hby
      replace hln:=Lib.hid hln
      clear hz7 hb9 hR7 hO8 hR8 hm8
      go_wp2_with (first
       | (refine wpList_load_at 44 _ rfl rfl p8 0 rfl ds _ q8 Tryz.underlying44 rfl i4 ?_)
       | (refine wpList_buildSlice_as 46 44 1 _ rfl rfl i0 (.agg (stZ 0).toArray) ds.toArray Tryz.underlying46 hi0 hz0 (by rw [hz1];decide) (by rw [hz1];decide) hfill ?_)
       | (at_builtin
          refine wpList_append_one_at rfl _ _ 46 rfl 44 i0 (.agg (stZ 0).toArray) 29 i0.bytes Tryz.underlying46 hi0 hz0 hz1 rfl rfl (by decide) wa hB9.out _ _ rfl hO9.out w8.heap.size 1 ds rfl ?_ hd29 hon9.out ?_ hby.out ?_
          · exact rangeAt_list (heap_new w8 (.cells ds.toArray 44))
          · rw [hln.out];unfold maxLen;omega
          intro v' w3 hO5 hB5 hg5 hat5
          have hO6:=Lib.hid (show OwnR w3 wa.heap.size 29 44 v' ((rows ++ [((k : Int),vs,ds)]).map fun s=>s.2.2) by rw [hmp.out];exact hO5)
          have hR6:=Lib.hid (hend.out _ _ ds (RowsO.grown hR9.out hg5 hat5) (StO.grown hm9.out hg5 hat5))
          have hB6:=Lib.hid hB5))
      go_roundw
      case rel=>exact ⟨i + 1,_,_,by omega,rfl,by go_num,hO6,hR6,Lib.hid (hL2.out ds),hB6⟩
      case measure=>simp [intOf];omega
    · obtain rfl : i=m:=by omega
      have hr:=hb.out l hl
      replace cR:=Lib.hid (cR.mono (fun (r : Ending) (w' : World) h=>(by
       rcases h with ⟨k',vs',ds,h1,_⟩ | ⟨b,e,h1,h2,h3,h4⟩
       · exact (nomatch (hr.symm.trans h1))
       · rw [hr] at h1;injection h1 with e1;subst e1;exact ⟨e,h2,h3,h4⟩ : ∃e : Value,r=Ending.returned (.tuple #[.agg (stZ 0).toArray,e])∧isErr w' (some 3) [bs a] e∧Below wv.heap.size wv w')))
      have cI:=Lib.hid (fun W' (h : Below W.heap.size W W')=>itoa_any ((i : Int) + 1) (i64_small (by omega)) W' (hEk.out.keep h hEk.out.size))
      obtain ⟨yd,hyd⟩ : ∃yd,bs (itoa ((i : Int) + 1))=yd:=⟨_,rfl⟩
      rw [hyd] at cI
      replace hyd:=Lib.hid hyd
      generalize bs l=yl at *
      clear hl hla hll hr hO hR hL
      go_wp2_with (first
       | (go_at_call 22;(with_reducible refine cR.out.mono ?_);rintro r w7 ⟨e,rfl,hm7,hb7⟩
          obtain ⟨T9,u9,rfl⟩:=isErr_some hm7
          have hz7:=heap_new w7 (.cells (stZ 0).toArray 44)
          obtain ⟨hR7,hb8⟩:=lay_step w7 (ds:=stZ 0) rfl
          have j1:=st_in9' (stZ 0) rfl
          have hb9:=hb7.trans (hb8.mono hb7.size)
          have hm8:=Lib.hid (hm7.keep hb8)
          have hB8:=Lib.hid (hBw.out.trans (hb9.mono hBw.out.size))
          have cI9:=Lib.hid (cI.out _ hB8.out)
          clear hb7 hb8 hb9 hm7 hR7)
       | (refine wpList_alloc_row 44 rfl rfl (stZ 0).toArray st_zero ?_)
       | (refine wpList_store_at 44 _ _ rfl rfl w7.heap.size (stZ 0).toArray rfl rfl 44 (stZ 0).toArray hz7 j1 rfl stZ_one ?_)
       | (go_at_call 52;(with_reducible refine cI9.out.mono ?_);rintro r w10 ⟨rfl,hb10⟩
          have cA1:=Lib.hid (at_any yd (some 3) [bs a] T9 u9 w10 (hm8.out.keep hb10))
          have hB10:=Lib.hid (hB8.out.trans (hb10.mono hB8.out.size))
          clear hb10)
       | (go_at_call 51;(with_reducible refine cA1.out.mono ?_);rintro r w11 ⟨v1,rfl,hv1,hb11⟩
          obtain ⟨T8,u8,rfl⟩:=isErr_some hv1
          have cA2:=Lib.hid (at_any scriptS (some 3) [yd,bs a] T8 u8 w11 hv1)
          have hB11:=Lib.hid (hB10.out.trans (hb11.mono hB10.out.size))
          unfold scriptS at cA2
          clear hb11 hv1 cA1)
       | (go_at_call 51;(with_reducible refine cA2.out.mono ?_);rintro r w12 ⟨v2,rfl,hv2,hb12⟩
          have hB12:=Lib.hid (hB11.out.trans (hb12.mono hB11.out.size))
          replace hv2:=Lib.hid hv2
          clear hb12))
      go_ret2
      exact ⟨fun h=>absurd h (by have:=hnk.out;omega),fun _=>⟨v2,rfl,by rw [hyd.out];exact hv2.out,hB12.out⟩⟩
  · obtain rfl : i=n:=by omega
    obtain rfl : m=i:=by omega
    go_wp2_with fail
    go_ret2
    exact ⟨fun _=>⟨ov,rows,rfl,hO.out.lowB hb1.out.size,hR.out,hL.out,hBw.out⟩,fun h=>absurd h (by have:=hnk.out;omega)⟩
set_option maxRecDepth 100000 in
set_option maxHeartbeats 4000000 in
theorem parse_nil (W : World) : Calls Tryz.prog 27 #[.string ⟨#[]⟩] W fun r w'=>r= .returned (.tuple #[.slice none 0 0,.nilIface])∧Below W.heap.size W w':=by
 go_enter Tryz.func27,Tryz.ntmps27
 go_wp2_with fail
 go_ret2
 exact ⟨rfl,Below.refl _ _⟩
end
end Go.Proofs.YtmicohmbmgbnkaaGreatDoor
