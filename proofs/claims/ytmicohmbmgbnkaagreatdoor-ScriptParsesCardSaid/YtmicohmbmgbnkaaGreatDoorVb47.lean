/- Texts joined: what each shows stands ahead of its theorems. -/
import Derived.Test.YtmicohmbmgbnkaaGreatDoorVb46
import Derived.Test.YtmicohmbmgbnkaaGreatDoorVb45
import Derived.Test.YtmicohmbmgbnkaaGreatDoorVb40
namespace Go.Proofs.YtmicohmbmgbnkaaGreatDoor
section
open Go Go.RowKit Go.Shelf
open Go.Lib (itoa)
set_option maxRecDepth 100000 in
set_option maxHeartbeats 8000000 in
theorem parse_bad (s : ByteArray) (W : World) (E : EnvS W) (hs : s.size < 4294967281) (hne : s.data.toList≠[]) (e : Int) (n : Nat) (hn : (splitL 10 s.data.toList).length=n + 1) (he : (e=2∧1000 < n)∨(e=3∧n≤1000∧∃x,(splitL 10 s.data.toList)[n]? =some x∧x≠[])) :
 Calls Tryz.prog 27 #[.string s] W (ErrOut (.slice none 0 0) e [scriptS] W):=by
 have hemp:=(ne_nil_size hne).2
 have hs0:=(ne_nil_size hne).1
 have cS:=split_any 10 s W E hs
 rw [hn] at cS
 have hnb : n < 4294967281:=by
  have h9:=splitL_len 10 s.data.toList
  rw [hn,Array.length_toList] at h9
  have : s.data.size=s.size:=rfl
  omega
 have k1 : ((n + 1 : Nat) : Int) - 1=(n : Int):=by omega
 have cO:=fun w=>of_any scriptS e w (by rcases he with ⟨rfl,_⟩ | ⟨rfl,_⟩ <;> decide)
 unfold scriptS at cO
 replace cS:=Lib.hid cS
 replace cO:=Lib.hid cO
 replace he:=Lib.hid he
 clear hne hn hs0 E
 go_enter Tryz.func27,Tryz.ntmps27
 go_upto_region 4 with (go_at_call 45;(with_reducible refine cS.out.mono ?_);rintro r wa ⟨W9,rfl,rfl,hS,hb1⟩;replace hS:=Lib.hid hS;replace hb1:=Lib.hid hb1;have cO1:=Lib.hid (cO.out wa))
 rcases he.out with ⟨rfl,hn⟩ | ⟨rfl,hn,x,hx,hxn⟩
 · have k2 : (1000 : Int) < (n : Int):=by omega
   go_wp2_with (first
    | (go_at_call 40;(with_reducible refine cO1.out.mono ?_);rintro r w11 ⟨v1,rfl,hv1,hb11⟩
       have hB11:=Lib.hid (hb1.out.trans (hb11.mono hb1.out.size))
       replace hv1:=Lib.hid hv1
       clear hb11))
   go_ret2
   exact ⟨v1,rfl,hv1.out,hB11.out⟩
 · have k2 : ¬(1000 : Int) < (n : Int):=by omega
   obtain ⟨hcn,_⟩:=strs_cell hS.out (j:=n) (s:=bs x) (by rw [List.getElem?_map,hx];rfl)
   rw [Nat.zero_add] at hcn
   have hyx:=bs_ne0 hxn
   generalize bs x=y at *
   clear hx hxn
   go_wp2_with (first
    | (go_at_call 40;(with_reducible refine cO1.out.mono ?_);rintro r w11 ⟨v1,rfl,hv1,hb11⟩
       have hB11:=Lib.hid (hb1.out.trans (hb11.mono hb1.out.size))
       replace hv1:=Lib.hid hv1
       clear hb11))
   go_ret2
   exact ⟨v1,rfl,hv1.out,hB11.out⟩
theorem find_bad : ∀(ls : List (List UInt8)),∃(m : Nat) (a : List UInt8),m≤ls.length∧(∀(j : Nat) l,j < m→ls[j]? =some l→∃k vs,rdLine l= .ok k vs)∧(∀l,ls[m]? =some l→rdLine l= .bad a)
 | []=>⟨0,[],Nat.le_refl _,fun j l h=>absurd h (Nat.not_lt_zero _),fun l h=>by cases h⟩
 | l :: ls=>by
   cases hr : rdLine l with
   | bad a=>exact ⟨0,a,Nat.zero_le _,fun j l h=>absurd h (Nat.not_lt_zero _),fun x h=>by injection h with h;rw [← h];exact hr⟩
   | ok k vs=>
     obtain ⟨m,a,h1,h2,h3⟩:=find_bad ls
     refine ⟨m + 1,a,Nat.succ_le_succ h1,fun j x hj hx=> ?_,fun x hx=>h3 x hx⟩
     cases j with
     | zero=>injection hx with hx;rw [← hx];exact ⟨k,vs,hr⟩
     | succ j=>exact h2 j x (Nat.lt_of_succ_lt_succ hj) hx
def ParP (ls : List (List UInt8)) (e : Value) (w : World) (r : Ending) (w' : World) : Prop:= ∃(A : Option Addr) (c : Nat) (rows : List (Int × List PV × List Value)),r= .returned (.tuple #[.slice A ls.length c,e])∧Rws w' 29 A ls.length (rows.map fun s=>s.2.2)∧rows.length=ls.length∧
 (∀(j : Nat) s,rows[j]? =some s→∃l,ls[j]? =some l∧∃k : Nat,s.1=k∧rdLine l= .ok k s.2.1∧StC w' s.1 s.2.1 s.2.2)∧Below w.heap.size w w'
theorem parP_of {ls : List (List UInt8)} {e v : Value} {w w' : World} {B : Nat} {rows : List (Int × List PV × List Value)} (hO : OwnR w' B 29 44 v (rows.map fun s=>s.2.2)) (hR : RowsO v.ownBlock w' ls rows) (hl : rows.length=ls.length) (hB : Below w.heap.size w w') : ParP ls e w (.returned (.tuple #[v,e])) w':=by
 obtain ⟨A,c,rfl,hr⟩:=hO.rws
 rw [List.length_map,hl] at hr ⊢
 refine ⟨A,c,rows,rfl,hr,hl,fun j s h=> ?_,hB⟩
 obtain ⟨⟨l,h1,k,h2,h3⟩,h4⟩:=hR j s h
 exact ⟨l,h1,k,h2,h3,h4.c⟩
theorem parses_cases (s : ByteArray) (V : World) (E : EnvS V) (hs : s.size≤6000) :
 (∃(e : Int) (p : List ByteArray),e≠0∧p.length≤20∧(spS p).size≤1000000∧(∀W',Below V.heap.size V W'→Calls Tryz.prog 27 #[.string s] W' (ErrOut (.slice none 0 0) e p W'))∧
   (∀W',Calls Tryz.prog 29 #[.string s] W' fun r w'=>r= .returned (.tuple #[.slice none 0 0,.agg #[.int .i64 e,.string (spS p)]])∧Below W'.heap.size W' w'))∨
 (∃ls : List (List UInt8),textX ls=s.data.toList∧ls.length≤1000∧(∀W',Below V.heap.size V W'→Calls Tryz.prog 27 #[.string s] W' (ParP ls .nilIface W'))∧(∀W',Calls Tryz.prog 29 #[.string s] W' (ParP ls (.agg erZ) W'))):=by
 by_cases h0 : s.data.toList=[]
 · right
   have e : s=⟨#[]⟩:=by rw [← bs_back s,h0];rfl
   subst e
   exact ⟨[],rfl,by decide,fun W' _=>(parse_nil W').mono fun r w' h=>⟨none,0,[],h.1,Rws.nil_,rfl,fun j s h=>(by cases h),h.2⟩,fun W'=>(rparse_nil W').mono fun r w' h=>⟨none,0,[],h.1,Rws.nil_,rfl,fun j s h=>(by cases h),h.2⟩⟩
 · obtain ⟨p0,toks,hps⟩:=splitL_cons 10 s.data.toList
   obtain ⟨n,hn⟩ : ∃n,(splitL 10 s.data.toList).length=n + 1:=⟨toks.length,by rw [hps];rfl⟩
   have bad : ∀e : Int,e≠0→(e=2∧1000 < n)∨(e=3∧n≤1000∧∃x,(splitL 10 s.data.toList)[n]? =some x∧x≠[])→∃(e : Int) (p : List ByteArray),e≠0∧p.length≤20∧(spS p).size≤1000000∧(∀W',Below V.heap.size V W'→Calls Tryz.prog 27 #[.string s] W' (ErrOut (.slice none 0 0) e p W'))∧
    (∀W',Calls Tryz.prog 29 #[.string s] W' fun r w'=>r= .returned (.tuple #[.slice none 0 0,.agg #[.int .i64 e,.string (spS p)]])∧Below W'.heap.size W' w'):=fun e h1 h2=>
    ⟨e,[scriptS],h1,by decide,by decide,fun W' hB=>parse_bad s W' (E.keep hB E.size) (by omega) h0 e n hn h2,fun W'=>(rparse_bad s W' (by omega) h0 e n hn h2).mono fun r w' h=>⟨h.1,h.2⟩⟩
   by_cases h1000 : 1000 < n
   · exact .inl (bad 2 (by decide) (.inl ⟨rfl,h1000⟩))
   · obtain ⟨x,hx⟩ : ∃x,(splitL 10 s.data.toList)[n]? =some x:=⟨_,List.getElem?_eq_getElem (by omega)⟩
     by_cases hx0 : x=[]
     · subst hx0
       obtain ⟨ls,hls⟩ : ∃ls,ls=(splitL 10 s.data.toList).take n:=⟨_,rfl⟩
       have hsp : splitL 10 s.data.toList=ls ++ [[]]:=by
        rw [hls,← take_succ_of hx,List.take_of_length_le (by omega)]
       have hll : ls.length=n:=by rw [hls,List.length_take];omega
       have hne : ls≠[]:=by
        intro e
        rw [e] at hsp
        have:=join_split 10 s.data.toList
        rw [hsp] at this
        exact h0 this.symm
       obtain ⟨m,a,hm,hg,hb⟩:=find_bad ls
       have cP:=fun W' (hB : Below V.heap.size V W')=>parse_lines s ls W' (E.keep hB E.size) (by omega) hsp hne (by omega) m a hm hg hb
       have cR:=fun W'=>rparse_lines s ls W' (by omega) hsp h0 (by omega) m a hm hg hb
       rcases Nat.lt_or_ge m ls.length with hlt | hge
       · left
         have hl : ls[m]? =some ls[m]:=List.getElem?_eq_getElem hlt
         have hal:=line_bad (hb _ hl)
         have hsz:=split_size (c:=10) (s:=s.data.toList) ls[m] (by rw [hsp];exact List.mem_append_left _ (List.getElem_mem hlt))
         have hsl : s.data.toList.length=s.size:=by rw [Array.length_toList];rfl
         have hdl:=itoa_len20 (i64_small (m:=m) (by omega))
         refine ⟨3,[scriptS,bs (itoa ((m : Int) + 1)),bs a],by decide,by show 3≤20;decide,?_,fun W' hB=>(cP W' hB).mono fun r w' h=>h.2 hlt,fun W'=>(cR W').mono fun r w' h=>h.2 hlt⟩
         show (at3 m a).size≤1000000
         rw [at3_eq rfl]
         simp only [ByteArray.size_append]
         rw [bs_size,bs_size]
         have h1 : (⟨#[115,99,114,105,112,116,32]⟩ : ByteArray).size=7:=rfl
         have h2 : (⟨#[32]⟩ : ByteArray).size=1:=rfl
         omega
       · obtain rfl : m=ls.length:=by omega
         refine .inr ⟨ls,text_of_split hsp,by omega,fun W' hB=>(cP W' hB).mono fun r w' h=> ?_,fun W'=>(cR W').mono fun r w' h=> ?_⟩
         · obtain ⟨v,rows,rfl,hO,hR,hl,hB'⟩:=h.1 rfl
           exact parP_of hO hR hl hB'
         · obtain ⟨v,rows,rfl,hO,hR,hl,hB'⟩:=h.1 rfl
           exact parP_of hO hR hl hB'
     · exact .inl (bad 3 (by decide) (.inr ⟨rfl,by omega,x,hx,hx0⟩))
end
section
open Go Go.RowKit Go.Shelf
noncomputable def ldS (a : Addr) : Sem Value:=loadVar 44 a
theorem ldS_eq (a : Addr) : loadVar 44 a=ldS a:=rfl
theorem ldS_run {W : World} {g off : Nat} {V : List Value} (hc : W.rangeAt g off V) (h8 : V.length=29) : (ldS ⟨g,off,none⟩).run Tryz.prog W= .ok (.agg V.toArray) W:=
 run_loadVar_mid W g off 44 V _ hc Tryz.underlying44 rfl (by rw [h8];kernel_rfl)
section
attribute [local go_sem ↓] ldS_eq
set_option maxRecDepth 100000 in
set_option maxHeartbeats 4000000 in
theorem same_all (SL TL : List (List Value)) (A A' : Option Addr) (n c c' : Nat) (V : World) (H : Rws V 29 A n SL) (K : Rws V 29 A' n TL) (hs : ∀(j : Nat) s t,SL[j]? =some s→TL[j]? =some t→∀W',Below V.heap.size V W'→Calls Tryz.prog 23 #[.agg s.toArray,.agg t.toArray] W' fun r w'=>r= .returned (.bool true)∧Below W'.heap.size W' w') (hn63 : n≤1000000) :
 Calls Tryz.prog 28 #[.slice A n c,.slice A' n c'] V fun r w'=>r= .returned (.bool true)∧Below V.heap.size V w':=by
 replace H:=Lib.hid H
 replace K:=Lib.hid K
 replace hs:=Lib.hid hs
 go_enter Tryz.func28,Tryz.ntmps28
 go_wp2_with fail
 go_loopw [5] (fun jv wr=> ∃i : Nat,i≤n∧jv= .int .i64 i∧Hid (Below V.heap.size V wr)) (fun jv _=>n - (intOf jv).toNat)
 case atStart=>exact ⟨0,Nat.zero_le _,rfl,Lib.hid (Below.refl _ _)⟩
 case round=>
  obtain ⟨i,hi,rfl,hB⟩:=hrel
  generalize wr=wv at *
  by_cases hlt : i < n
  · have hlt' : (i : Int) < (n : Int):=by omega
    have h0i : (0 : Int)≤(i : Int):=Int.natCast_nonneg _
    obtain ⟨b2,off2,s,rfl,hb2,hs2,hs29,hr2⟩:=Rws.row (H.out.keep hB.out) hlt
    obtain ⟨b3,off3,t,rfl,hb3,ht2,ht29,hr3⟩:=Rws.row (K.out.keep hB.out) hlt
    have cS:=Lib.hid (hs.out i s t hs2 ht2)
    have hSk:=Lib.hid (fun W (h : Below wv.heap.size wv W)=>(⟨ldS_run (rangeAt_keep hr2 h hb2) hs29,ldS_run (rangeAt_keep hr3 h hb3) ht29⟩ :
     (ldS ⟨b2,off2 + i * 29,none⟩).run Tryz.prog W= .ok (.agg s.toArray) W∧(ldS ⟨b3,off3 + i * 29,none⟩).run Tryz.prog W= .ok (.agg t.toArray) W))
    clear hs2 ht2 hs29 ht29 hr2 hr3
    go_wp2_with fail
    have hB0:=Lib.hid (show Below wv.heap.size wv wv.drew from drewN_below 1)
    have hC0:=Lib.hid (hB.out.trans (hB0.out.mono hB.out.size))
    go_region_held3 (fun W=>(ldS ⟨b2,off2 + i * 29,none⟩).run Tryz.prog W= .ok (.agg s.toArray) W∧(ldS ⟨b3,off3 + i * 29,none⟩).run Tryz.prog W= .ok (.agg t.toArray) W)
     (first | exact hSk.out _ hB0.out | exact hSk.out _ hB3.out)
     (first
       | (go_at_call 23;(with_reducible refine (cS.out _ hC0.out).mono ?_);rintro r w3 ⟨rfl,hb9⟩;have hB3:=Lib.hid (hB0.out.trans (hb9.mono hB0.out.size));have hC3:=Lib.hid (hC0.out.trans (hb9.mono hC0.out.size));clear hb9))
    go_wp2_with fail
    go_roundw
    case rel=>exact ⟨i + 1,by omega,by go_num,hC3⟩
    case measure=>simp [intOf];omega
  · obtain rfl : i=n:=by omega
    go_wp2_with fail
    go_ret
    exact ⟨rfl,hB.out⟩
end
end
section
open Go Go.RowKit Go.Shelf
structure Rd (W : World) (s : Int × List PV × List Value) (l : List UInt8) : Prop where
 p : LnP W s
 l : lnT s=l
 ok : OkVs keyT s.2.1
 gl : ∀l,s.2.1[18]? =some (.grants l)→∀g∈l,g.user.length≤281474976710656
 ol : ∀l,s.2.1[3]? =some (.ops l)→∀o∈l,o.s.length≤281474976710656
theorem ln_read (W : World) (E : EnvS W) {s : Int × List PV × List Value} {l : List UInt8} {k : Nat} (hk : s.1=k) (hr : rdLine l= .ok k s.2.1) (hl : l.length≤6000) (hS : StC W s.1 s.2.1 s.2.2) : Rd W s l:=by
 obtain ⟨kd,vs,cs⟩:=s
 dsimp only at hk hr hS ⊢
 subst hk
 obtain ⟨hlx,hok,hk9⟩:=rdLine_some hr
 have hvl:=fun v hv=>line_len (k:=k) hok v hv
 rw [hlx] at hvl
 refine ⟨⟨by show (lineX k vs).length≤_;rw [hlx];omega,fun W' hB=>(line_go cs k vs W' (E.keep hB E.size) (hS.keep hB) hok.ty ⟨by omega,by omega⟩ (fun v hv=>by have:=hvl v hv;omega)).mono fun r w' h=> ?_⟩,hlx,hok,
  fun l h g hg=>by have h1:=gr_len hg;have h2:=hvl _ (List.mem_of_getElem? h);omega,fun l h g hg=>by have h1:=op_len9 hg;have h2:=hvl _ (List.mem_of_getElem? h);omega⟩
 rcases h with ⟨⟨o,ho,hno⟩,_⟩ | ⟨_,h2,h3⟩
 · exfalso
   obtain ⟨l,hl3,hol3,_⟩:=hok.ty.ops
   rw [hol3] at ho
   have:=hok.at (i:=3) rfl hl3 o ho
   exact hno ⟨this.1,this.2.1⟩
 · exact ⟨h2,h3⟩
theorem textX_mem {l : List UInt8} : ∀{ls : List (List UInt8)},l∈ls→l.length≤(textX ls).length
 | x :: ls,h=>by
   rw [textX,List.length_append,List.length_cons]
   rcases List.mem_cons.1 h with rfl | h
   · omega
   · have:=textX_mem h;omega
theorem textX_take : ∀(i : Nat) (ls : List (List UInt8)),(textX (ls.take i)).length≤(textX ls).length
 | 0,ls=>Nat.zero_le _
 | i + 1,[]=>Nat.le_refl _
 | i + 1,x :: ls=>by
   rw [List.take_succ_cons,textX,textX]
   simp only [List.length_append,List.length_cons]
   have:=textX_take i ls
   omega
set_option maxRecDepth 100000 in
set_option maxHeartbeats 8000000 in
theorem law_scriptParses (s : ByteArray) (V : World) (E : EnvS V) (G : ETy V) (hs : s.size≤9223372036854775807) :
 Calls Tryz.prog 8 #[.string s] V fun r w'=>r= .returned (.bool true)∧Below V.heap.size V w':=by
 have cA:=Lib.hid (fun W' (h : Below V.heap.size V W')=>awake35_any W' (E.keep h E.size))
 by_cases h1 : 6000 < s.size
 · have hd:=Lib.hid (cA.out V (Below.refl _ _))
   have k1 : (6000 : Int) < (s.size : Int):=by omega
   go_enter Tryz.func8,Tryz.ntmps8
   go_wp2_with (go_at_call 9;(with_reducible refine hd.out.mono ?_);rintro r w1 ⟨rfl,hb1⟩;replace hb1:=Lib.hid hb1)
   go_ret
   exact ⟨rfl,hb1.out⟩
 · have k1 : ¬(6000 : Int) < (s.size : Int):=by omega
   have hsl : s.data.toList.length=s.size:=by rw [Array.length_toList];rfl
   have hGk:=Lib.hid (fun W' (h : Below V.heap.size V W')=>G.keep h)
   have hEk:=Lib.hid (fun W' (h : Below V.heap.size V W')=>E.keep h E.size)
   rcases parses_cases s V E (by omega) with ⟨e,p,he,hpl,hpz,cP,cR⟩ | ⟨ls,htx,hl1,cP,cR⟩
   · have cT:=fun W' v (h : Below V.heap.size V W') (hm : isErr W' (some e) p v)=>told_any e p v W' (spS p) he rfl hpl hpz hm (hGk.out W' h)
     have cP':=Lib.hid (cP V (Below.refl _ _))
     have he0 : (e == 0)=false:=beq_eq_false_iff_ne.2 he
     clear cP hpl hpz he h1 hsl
     generalize spS p=y at *
     replace cR:=Lib.hid cR
     replace cT:=Lib.hid cT
     go_enter Tryz.func8,Tryz.ntmps8
     go_upto_region 4 with (first
      | (go_at_call 27;(with_reducible refine cP'.out.mono ?_);rintro r w4 ⟨ev,rfl,hm4,hb4⟩
         obtain ⟨T9,u9,rfl⟩:=isErr_some hm4
         have hB4:=Lib.hid hb4
         replace hm4:=Lib.hid hm4
         have cR4:=Lib.hid (cR.out w4)
         clear hb4))
     go_upto_region 5 with (first
      | (go_at_call 29;(with_reducible refine cR4.out.mono ?_);rintro r w5 ⟨rfl,hb5⟩
         have hB5:=hB4.out.trans (hb5.mono hB4.out.size)
         have hz5:=heap_new w5 (.cells erZ 53)
         have hE5 : Row ((w5.alloc (.cells erZ 53)).setRow w5.heap.size [.int .i64 e,.string y].toArray) w5.heap.size 53 [.int .i64 e,.string y]:=Row.setRow (show Row (w5.alloc (.cells erZ 53)) w5.heap.size 53 erL from heap_new w5 _) _
         have hb6:=below_setRow (below_new w5 (.cells erZ 53)) (Nat.le_refl _) [.int .i64 e,.string y].toArray
         have hB6:=Lib.hid (hB5.trans (hb6.mono hB5.size))
         have hm6:=Lib.hid (hm4.out.keep (hb5.trans (hb6.mono hb5.size)))
         have hc6:=hE5.cell (off:=0) (v:= .int .i64 e) rfl
         clear hb5 hb6 hB5)
      | (refine wpList_alloc_row 53 rfl rfl erZ er_zero ?_)
      | (refine wpList_store_at 53 _ _ rfl rfl w5.heap.size #[.int .i64 e,.string y] rfl rfl 53 erZ hz5 (by kernel_rfl) rfl (by simp [Value.oneCell']) ?_))
     generalize (w5.alloc (.cells erZ 53)).setRow w5.heap.size [.int .i64 e,.string y].toArray=w6 at *
     generalize w5.heap.size=p6 at *
     have hd6:=Lib.hid (cA.out w6 hB6.out)
     have hpl6:=hE5.lt
     clear hz5
     go_wp2_with (first
      | (go_at_call 9;(with_reducible refine hd6.out.mono ?_);rintro r w7 ⟨rfl,hb7⟩
         have hB7:=Lib.hid (hB6.out.trans (hb7.mono hB6.out.size))
         have q7:=(hE5.keep hb7).range
         have cT7:=Lib.hid (cT.out w7 _ hB7.out (hm6.out.keep hb7))
         clear hb7)
      | (refine wpList_load_at 53 _ rfl rfl p6 0 rfl [.int .i64 e,.string y] _ q7 Tryz.underlying53 rfl (by kernel_rfl) ?_)
      | (go_at_call 21;(with_reducible refine cT7.out.mono ?_);rintro r w8 ⟨rfl,hb8⟩;have hB8:=Lib.hid (hB7.out.trans (hb8.mono hB7.out.size));clear hb8))
     go_ret
     exact ⟨rfl,hB8.out⟩
   · obtain ⟨n,hn⟩ : ∃n,ls.length=n:=⟨_,rfl⟩
     have hlen : ∀l∈ls,l.length≤6000:=fun l hl=>by have:=textX_mem hl;rw [htx,hsl] at this;omega
     have cP':=Lib.hid (cP V (Below.refl _ _))
     replace cR:=Lib.hid cR
     unfold ParP at cP' cR
     rw [hn] at cP' cR
     have hbk : bs (textX ls)=s:=by rw [htx,bs_back]
     have htk : ∀i,(textX (ls.take i)).length≤6000:=fun i=>by have:=textX_take i ls;rw [htx,hsl] at this;omega
     replace hbk:=Lib.hid hbk
     replace htk:=Lib.hid htk
     replace hlen:=Lib.hid hlen
     rw [hn] at hl1
     replace hn:=Lib.hid hn
     clear cP h1 hsl htx E
     go_enter Tryz.func8,Tryz.ntmps8
     go_upto_region 4 with (first
      | (go_at_call 27;(with_reducible refine cP'.out.mono ?_);rintro r w4 ⟨A4,c4,R4,rfl,hr4,hl4,hR4,hb4⟩
         have hB4:=Lib.hid hb4
         replace hr4:=Lib.hid hr4
         replace hl4:=Lib.hid hl4
         replace hR4:=Lib.hid hR4
         have cR4:=Lib.hid (cR.out w4)
         clear hb4))
     go_upto_region 5 with (first
      | (go_at_call 29;(with_reducible refine cR4.out.mono ?_);rintro r w5 ⟨A5,c5,R5,rfl,hr5,hl5,hR5,hb5⟩
         have hB5:=hB4.out.trans (hb5.mono hB4.out.size)
         have hz5:=heap_new w5 (.cells erZ 53)
         have hE5 : Row ((w5.alloc (.cells erZ 53)).setRow w5.heap.size erL.toArray) w5.heap.size 53 erL:=Row.setRow (show Row (w5.alloc (.cells erZ 53)) w5.heap.size 53 erL from heap_new w5 _) _
         have hb6:=below_setRow (below_new w5 (.cells erZ 53)) (Nat.le_refl _) erL.toArray
         have hb46:=hb5.trans (hb6.mono hb5.size)
         have hB6:=Lib.hid (hB5.trans (hb6.mono hB5.size))
         have hr6:=Lib.hid (hr4.out.keep hb46)
         have hR6 : Hid (∀(j : Nat) s,R4[j]? =some s→∃l,ls[j]? =some l∧(∃k : Nat,s.1=k∧rdLine l= .ok k s.2.1)∧StC _ s.1 s.2.1 s.2.2):=Lib.hid (fun j s h=>by obtain ⟨l,h1,k,h2,h3,h4⟩:=hR4.out j s h;exact ⟨l,h1,⟨k,h2,h3⟩,h4.keep hb46⟩)
         have hs6:=Lib.hid (hr5.keep hb6)
         have hS6 : Hid (∀(j : Nat) s,R5[j]? =some s→∃l,ls[j]? =some l∧(∃k : Nat,s.1=k∧rdLine l= .ok k s.2.1)∧StC _ s.1 s.2.1 s.2.2):=Lib.hid (fun j s h=>by obtain ⟨l,h1,k,h2,h3,h4⟩:=hR5 j s h;exact ⟨l,h1,⟨k,h2,h3⟩,h4.keep hb6⟩)
         have hc6:=hE5.cell (off:=0) (v:= .int .i64 0) rfl
         clear hb5 hb6 hB5 hr5 hR5 hb46)
      | (refine wpList_alloc_row 53 rfl rfl erZ er_zero ?_)
      | (refine wpList_store_at 53 _ _ rfl rfl w5.heap.size erL.toArray rfl rfl 53 erZ hz5 (by kernel_rfl) rfl (by decide +kernel) ?_))
     generalize (w5.alloc (.cells erZ 53)).setRow w5.heap.size erL.toArray=w6 at *
     generalize w5.heap.size=p6 at *
     have hE6:=hEk.out w6 hB6.out
     have hRd : ∀(j : Nat) s,R4[j]? =some s→∃l,ls[j]? =some l∧Rd w6 s l:=fun j s h=>by
      obtain ⟨l,h1,⟨k,h2,h3⟩,h4⟩:=hR6.out j s h
      exact ⟨l,h1,ln_read w6 hE6 h2 h3 (hlen.out l (List.mem_of_getElem? h1)) h4⟩
     have hmap : R4.map lnT=ls:=by
      apply List.ext_getElem?
      intro j
      rw [List.getElem?_map]
      cases hj : R4[j]? with
      | none=>rw [List.getElem?_eq_none_iff] at hj;exact (List.getElem?_eq_none (by rw [hn.out,← hl4.out];exact hj)).symm
      | some s=>obtain ⟨l,h1,h2⟩:=hRd j s hj;rw [h1];exact congrArg some h2.l
     have cQ:=print_any R4 A4 n c4 w6 w6 hE6 hr6.out (fun s hs=>by
      obtain ⟨j,hj,e⟩:=List.getElem_of_mem hs
      obtain ⟨l,_,_,h4⟩:=hR6.out j s (by rw [← e];exact List.getElem?_eq_getElem hj)
      exact h4.one) hl1 n (Nat.le_refl _) (fun j s _ h=>by obtain ⟨l,_,h2⟩:=hRd j s h;exact h2.p) ⟨#[]⟩ (fun h=>absurd h (Nat.lt_irrefl _))
      (fun i _=>by rw [List.map_take,hmap];have:=htk.out i;omega) (Below.refl _ _)
     replace cQ:=Lib.hid (cQ.mono fun (r : Ending) (w' : World) h=>h.1 rfl)
     rw [hmap,hbk.out] at cQ
     have cS:=Lib.hid (fun W' (h : Below w6.heap.size w6 W')=>same_all (R4.map fun s=>s.2.2) (R5.map fun s=>s.2.2) A4 A5 n c4 c5 W' (hr6.out.keep h) (hs6.out.keep h) (fun j s t h1 h2 W9 hb9=>by
      obtain ⟨x,hx,rfl⟩:=map_at h1
      obtain ⟨z,hz,rfl⟩:=map_at h2
      obtain ⟨l,q1,⟨k,q2,q3⟩,q4⟩:=hR6.out j x hx
      obtain ⟨l',s1,⟨k',s2,s3⟩,s4⟩:=hS6.out j z hz
      rw [q1] at s1
      injection s1 with s1
      subst s1
      rw [q3] at s3
      injection s3 with e1 e2
      rw [s2,← e1,← q2,← e2] at s4
      have hL:=ln_read w6 hE6 q2 q3 (hlen.out l (List.mem_of_getElem? q1)) q4
      have hb:=h.trans (hb9.mono h.size)
      exact same35_any x.2.2 z.2.2 x.1 x.2.1 W9 (q4.keep hb) (s4.keep hb) hL.ok hL.gl hL.ol) (by omega))
     clear hz5 hE5 hRd hE6 hmap
     go_upto_region 8 with (first
      | (go_at_call 25;(with_reducible refine cQ.out.mono ?_);rintro r w7 ⟨rfl,hb7⟩
         have hB7:=Lib.hid (hB6.out.trans (hb7.mono hB6.out.size))
         have cS7:=Lib.hid (fun W' (h : Below w7.heap.size w7 W')=>cS.out W' (hb7.trans (h.mono hb7.size)))
         clear hb7))
     have hd7:=Lib.hid (cA.out w7 hB7.out)
     go_wp2_with (first
      | (go_at_call 9;(with_reducible refine hd7.out.mono ?_);rintro r w9 ⟨rfl,hb9⟩
         have hB9:=Lib.hid (hB7.out.trans (hb9.mono hB7.out.size))
         have cS9:=Lib.hid (cS7.out w9 hb9)
         clear hb9)
      | (go_at_call 28;(with_reducible refine cS9.out.mono ?_);rintro r w10 ⟨rfl,hb10⟩;have hB10:=Lib.hid (hB9.out.trans (hb10.mono hB9.out.size));clear hb10))
     go_ret
     exact ⟨by simp,hB10.out⟩
end
end Go.Proofs.YtmicohmbmgbnkaaGreatDoor
