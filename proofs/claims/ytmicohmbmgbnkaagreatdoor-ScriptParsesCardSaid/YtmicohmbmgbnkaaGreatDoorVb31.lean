/- The reference's recipe. (printed by wip/gen_slt.py) -/
import Derived.Test.YtmicohmbmgbnkaaGreatDoorVb30
import Derived.Test.YtmicohmbmgbnkaaGreatDoorVb26
import Derived.Test.YtmicohmbmgbnkaaGreatDoorVb5
import Derived.Deep.RegionHeld3
namespace Go.Proofs.YtmicohmbmgbnkaaGreatDoor
open Go Go.RowKit Go.Shelf
open Go.Lib (itoa)
theorem rdOp_len9 {p : List UInt8} (h : (splitL 58 p).length≠5) : rdOp p=none:=by
 unfold rdOp
 split
 · next u n e=>rw [e] at h;exact absurd rfl h
 · rfl
theorem len_five {α : Type} {l : List α} (h : l.length=5) : ∃a b c d e,l=[a,b,c,d,e]:=by
 match l,h with
 | [a,b,c,d,e],_=>exact ⟨a,b,c,d,e,rfl⟩
theorem rdOp_five {p w a b c s : List UInt8} (e : splitL 58 p=[w,a,b,c,s]) : rdOp p=match placeL opW w,numL a,numL b,numL c,unescL s with | some k,some a,some b,some c,some s=>some ⟨k,a,b,c,s⟩ | _,_,_,_,_=>none:=by
 unfold rdOp
 rw [e]
 rfl
theorem allM_three {a b c : List UInt8} {l : List Int} (h : allM numL [a,b,c]=some l) : ∃x y z,l=[x,y,z]∧numL a=some x∧numL b=some y∧numL c=some z:=by
 rw [allM] at h
 cases ha : numL a with
 | none=>rw [ha] at h;cases h
 | some x=>
   rw [ha,allM] at h
   cases hb : numL b with
   | none=>rw [hb] at h;cases h
   | some y=>
     rw [hb,allM] at h
     cases hc : numL c with
     | none=>rw [hc] at h;cases h
     | some z=>
       rw [hc] at h
       injection h with h
       exact ⟨x,y,z,h.symm,rfl,rfl,rfl⟩
theorem allM_three_none {a b c : List UInt8} (h : allM numL [a,b,c]=none) : numL a=none∨numL b=none∨numL c=none:=by
 cases ha : numL a with
 | none=>exact .inl rfl
 | some x=>
   cases hb : numL b with
   | none=>exact .inr (.inl rfl)
   | some y=>
     cases hc : numL c with
     | none=>exact .inr (.inr rfl)
     | some z=>
       rw [allM,ha,allM,hb,allM,hc] at h
       cases h
theorem rows3 {W : World} {v : Value} {B : Nat} {x y z : Int} (h : OwnR W B 1 3 v ([x,y,z].map iv)) : ∃b o c,v= .slice (some ⟨b,o,none⟩) 3 c∧b < W.heap.size∧W.cell? ⟨b,o,none⟩=some (.int .i64 x)∧W.cell? ⟨b,o + 1,none⟩=some (.int .i64 y)∧W.cell? ⟨b,o + 2,none⟩=some (.int .i64 z):=by
 obtain ⟨A,c,rfl,hr⟩:=OwnR.rws h
 obtain ⟨b,o,rfl,hlt,hc⟩:=hr.2.2 (by simp)
 exact ⟨b,o,c,rfl,hlt,hc 0 _ rfl 0 _ rfl,hc 1 _ rfl 0 _ rfl,hc 2 _ rfl 0 _ rfl⟩
theorem rdOp_no1 {p w a b c s : List UInt8} (e : splitL 58 p=[w,a,b,c,s]) (h : placeL opW w=none∨allM numL [a,b,c]=none∨unescL s=none) : rdOp p=none:=by
 rw [rdOp_five e]
 rcases h with h | h | h
 · rw [h]
 · rcases allM_three_none h with h | h | h
   · rw [h];cases placeL opW w <;> rfl
   · rw [h];cases placeL opW w <;> cases numL a <;> rfl
   · rw [h];cases placeL opW w <;> cases numL a <;> cases numL b <;> rfl
 · rw [h];cases placeL opW w <;> cases numL a <;> cases numL b <;> cases numL c <;> rfl
theorem bs_three (a b c : List UInt8) : bs a ++ ⟨#[58]⟩ ++ bs b ++ ⟨#[58]⟩ ++ bs c=bs (joinL 58 [a,b,c]):=(bs_join3 58 a b c).symm
theorem sp_five {p w a b c s : List UInt8} (e : splitL 58 p=[w,a,b,c,s]) : splitL 58 (joinL 58 [a,b,c])=[a,b,c]:=by
 have hm:=splitL_mem (c:=58) (s:=p)
 rw [e] at hm
 refine split_join (by simp) fun q hq=>hm q ?_
 simp only [List.mem_cons,List.not_mem_nil,or_false] at hq ⊢
 rcases hq with rfl | rfl | rfl <;> simp
theorem row5 {W : World} {b o : Nat} {s : ByteArray} {ss : List ByteArray} (h : Strs W (some ⟨b,o,none⟩) 5 ss) {j : Nat} (hj : j < 5) (hs : ss[j]? =some s) : b < W.heap.size∧W.cell? ⟨b,o + j,none⟩=some (.string s):=by
 obtain ⟨b',o',s',e,hlt,hx,hc⟩:=h.at_ hj
 injection e with e
 injection e with e1 e2
 subst e1 e2
 rw [hs] at hx
 obtain rfl:=Option.some.inj hx
 exact ⟨hlt,hc⟩
structure RcI (wa wb : World) (l : List OpX) (o : OpX) (rowv : List Value) (u4 : Value) (l13 l14 l15 : Bool) (t4 t81 t82 : Value) (W : World) : Prop where
 s4 : l15=false→t4=u4
 bl : l14=false→Below wb.heap.size wb W
 s81 : l13=true→l14=false→∃g,t81= .slice (some ⟨g,0,none⟩) 1 1∧W.rangeAt g 0 rowv
 s82 : l14=true→OwnR W wa.heap.size 5 85 t82 ((l ++ [o]).map OpX.row)∧Below wa.heap.size wa W
 s9 : l15=true→t4=t82
theorem bsl_op (W : World) (i : TypeInfo) (hi : Tryz.prog.info? 85=some i) (hz : i.zero=some (.agg opZ)) (hs : i.size=5) (k a b c : Int) (y : ByteArray) : (Instr.buildSlice 42 1 #[(0,.agg #[.int .i64 k,.int .i64 a,.int .i64 b,.int .i64 c,.string y])]).run Tryz.prog W= .ok (.slice (some ⟨W.heap.size,0,none⟩) 1 1) (W.alloc (.cells #[.int .i64 k,.int .i64 a,.int .i64 b,.int .i64 c,.string y] 85)):=by
 have htI : ∀w,(typeInfo 85).run Tryz.prog w= .ok i w:=fun w=>by simp [typeInfo,hi]
 have hsz : ∀w,(sizeOf 85).run Tryz.prog w= .ok i.size w:=fun w=>by unfold sizeOf;rw [Sem.run_bind,htI];simp
 have hzv : ∀w,(zeroValue 85).run Tryz.prog w= .ok (.agg opZ) w:=fun w=>by unfold zeroValue;rw [Sem.run_bind,htI];simp [hz]
 have hf:=fill_one 5 ((Array.range (1 * i.size)).map ((Value.agg opZ).cells[· % (Value.agg opZ).cells.size]!)) #[.int .i64 k,.int .i64 a,.int .i64 b,.int .i64 c,.string y] (by simp [hs]) rfl
 unfold Instr.buildSlice
 rw [Sem.run_bind,run_underlying Tryz.underlying42 W,Result.andThen_ok]
 simp only [Sem.run_bind,hsz,Result.andThen_ok,show (2 : Nat) ^ 24=16777216 from rfl,if_neg (show ¬1 * i.size > 16777216 by omega),if_neg (show ¬1 * i.size=0 by omega),hzv,Sem.run_pure]
 rw [hs] at hf ⊢
 simp only [hf,newRow,run_newObj_alloc,Sem.run_bind,Sem.run_pure,Result.andThen_ok]
theorem op_built5 (k a b c : Int) (y : ByteArray) : Tryz.prog.built 85 [(0,.int .i64 k),(1,.int .i64 a),(2,.int .i64 b),(3,.int .i64 c),(4,.string y)]=some #[.int .i64 k,.int .i64 a,.int .i64 b,.int .i64 c,.string y]:=by kernel_rfl
def dsRc : List (Option Nat):=[some 68,some 69,some 70,some 71,some 72,some 73,some 74,some 75,some 76,some 77,some 78,some 79,some 80,some 81,some 82,some 4]
def tbRc : List (List Nat):=[[],[],[],[2],[3],[],[5],[6],[],[8],[9],[],[1,4,7,10,11],[12],[0,13],[14]]
def vsRc (b3 : Nat) (o3 : Nat) (c3 : Nat) (kk : Nat) (n1 : Int) (n2 : Int) (n3 : Int) (yt : ByteArray) (u4 : Value) : List (Option Value):=[some (u4),some (.int .i64 ↑kk),some (.slice (some ⟨b3,o3,none⟩) 3 c3),some (.pointer (some ⟨b3,o3,none⟩)),some (.int .i64 n1),some (.slice (some ⟨b3,o3,none⟩) 3 c3),some (.pointer (some ⟨b3,o3 + 1,none⟩)),some (.int .i64 n2),some (.slice (some ⟨b3,o3,none⟩) 3 c3),some (.pointer (some ⟨b3,o3 + 2,none⟩)),some (.int .i64 n3),some (.string yt),some (.agg #[.int .i64 (kk : Int),.int .i64 n1,.int .i64 n2,.int .i64 n3,.string yt]),none,none,none]
set_option maxRecDepth 100000 in
set_option maxHeartbeats 8000000 in
theorem rrecipe_any (s : ByteArray) (w : World) (hs : s.size≤1099511627776) :
 Calls Tryz.prog 80 #[.string s] w (UlR 5 85 OpX.row (allM rdOp (splitL 44 s.data.toList)) w):=by
 obtain ⟨i0,hi0,hz0,hz1,hz2⟩:=info_parts op_info
 have hsl : s.data.toList.length=s.size:=by rw [Array.length_toList];rfl
 have hsub:=fun p (hp : p∈splitL 44 s.data.toList)=>split_size p hp
 rw [hsl] at hsub
 have hlen:=splitL_len 44 s.data.toList
 rw [hsl] at hlen
 have cS:=rsplit_any 44 s w hs
 try rw [c44] at cS
 replace cS:=Lib.hid cS
 generalize splitL 44 s.data.toList=ps at *
 obtain ⟨n,hn⟩ : ∃n,ps.length=n:=⟨_,rfl⟩
 have hn9 : n≤1099511627777:=by omega
 have hnh:=Lib.hid hn
 have hr0 : Hid (allM rdOp (ps.take 0)=some ([] : List OpX)):=Lib.hid rfl
 have cR:=Lib.hid (fun p (hp : p∈ps) W'=>rsplit_any 58 (bs p) W' (by have:=hsub p hp;rw [bs_size];omega))
 have cU:=Lib.hid (fun p (u : List UInt8) (hp : p∈ps) (hu : u∈splitL 58 p) W'=>runescape_any (bs u) W' (by have:=hsub p hp;have:=split_size u hu;rw [bs_size];omega))
 have hus:=Lib.hid (fun p (u : List UInt8) (hp : p∈ps) (hu : u∈splitL 58 p)=>(by have:=hsub p hp;have:=split_size u hu;omega : u.length≤s.size))
 have hpl:=hsub
 clear hsub hlen hsl hn
 go_enter Tryz.func80,Tryz.ntmps80
 go_upto_region 4 with (go_at_call 48;(with_reducible refine cS.out.mono ?_);rintro r wa ⟨v0,rfl,hOv,hb1⟩;obtain ⟨A0,c0,rfl,hS⟩:=hOv.strs;rw [List.length_map,hnh.out] at hS ⊢;replace hS:=Lib.hid hS;have hO1:=Lib.hid (OwnR.nil_ wa wa.heap.size 5 85);replace hb1:=Lib.hid hb1;clear hOv)
 go_loopw [4,6] (fun v jv wr=> ∃(k : Nat) (l : List OpX),k≤n∧jv= .int .i64 k∧Hid (allM rdOp (ps.take k)=some l)∧Hid (l.length=k)∧Hid (OwnR wr wa.heap.size 5 85 v (l.map OpX.row))∧Hid (Below wa.heap.size wa wr)) (fun _ jv _=>n - (intOf jv).toNat)
 case atStart=>exact ⟨0,[],Nat.zero_le _,rfl,hr0,Lib.hid rfl,hO1,Lib.hid (Below.refl _ _)⟩
 case round=>
  clear hr0 hO1
  obtain ⟨k,l,hk,rfl,hM,hL,hO,hB⟩:=hrel
  have hBw:=Lib.hid (hb1.out.trans (hB.out.mono hb1.out.size))
  by_cases hlt : k < n
  · have hlt' : (k : Int) < (n : Int):=by omega
    obtain ⟨p,hp⟩ : ∃p,ps[k]? =some p:=⟨ps[k]'(by rw [hnh.out];exact hlt),List.getElem?_eq_getElem _⟩
    obtain ⟨b1,o1,x1,rfl,hbl1,hx1,hc0⟩:=(hS.out.keep hB.out).at_ hlt
    rw [List.getElem?_map,hp] at hx1
    obtain rfl : bs p=x1:=Option.some.inj hx1
    have hno:=fun h=>allM_none (f:=rdOp) hp h
    have hye:=fun y h=>allM_snoc (f:=rdOp) (y:=y) hM.out hp h
    have hpm:=List.mem_of_getElem? hp
    clear hx1 hp hM
    have cX:=cR.out p hpm wr
    rw [bs_list,c58] at cX
    replace cX:=Lib.hid cX
    generalize bs p=yp at *
    obtain ⟨m,hm⟩ : ∃m,(splitL 58 p).length=m:=⟨_,rfl⟩
    by_cases h2 : m=5
    · subst h2
      obtain ⟨pw,pa,pb,pc,pu,e2⟩:=len_five hm
      have hno2:=fun h=>hno (rdOp_no1 e2 h)
      have hrd:=rdOp_five e2
      have hsp:=sp_five e2
      have cX2:=cU.out p pu hpm (by rw [e2];simp)
      rw [bs_list] at cX2
      have hpl9:=hpl p hpm
      have hla:=hus.out p pa hpm (by rw [e2];simp)
      have hlb:=hus.out p pb hpm (by rw [e2];simp)
      have hlc:=hus.out p pc hpm (by rw [e2];simp)
      have hlw:=hus.out p pw hpm (by rw [e2];simp)
      replace cX2:=Lib.hid cX2
      go_upto_region 7 with (go_at_call 48;(with_reducible refine cX.out.mono ?_);rintro r w1 ⟨v1,rfl,hOv,hb2'⟩;obtain ⟨A1,c1,rfl,hS1⟩:=hOv.strs;rw [List.length_map,hm] at hS1 ⊢;have hb2:=hBw.out.trans (hb2'.mono hBw.out.size);have hb3:=hB.out.trans (hb2'.mono hB.out.size);have hO2:=hO.out.keep hb2';replace hb2:=Lib.hid hb2;replace hb3:=Lib.hid hb3;replace hO2:=Lib.hid hO2;rw [e2] at hS1;clear hb2' hO hOv)
      simp only [List.map_cons,List.map_nil] at hS1
      obtain ⟨b2,o2,x2,rfl,hbl2,hx2,hcw⟩:=hS1.at_ (j:=0) (by decide)
      obtain rfl : bs pw=x2:=Option.some.inj hx2
      have hca:=(row5 hS1 (j:=1) (by decide) rfl).2
      have hcb:=(row5 hS1 (j:=2) (by decide) rfl).2
      have hcc:=(row5 hS1 (j:=3) (by decide) rfl).2
      have hcu:=(row5 hS1 (j:=4) (by decide) rfl).2
      have hj3:=bs_three pa pb pc
      have hjs : (bs (joinL 58 [pa,pb,pc])).size≤s.size:=by
       have h5:=congrArg List.length (join_split 58 p)
       have h6:=hpl9
       rw [e2] at h5
       rw [bs_size]
       simp only [joinL,List.length_append,List.length_cons] at h5 ⊢
       omega
      have cN:=fun W'=>rnumbers_any 58 (bs (joinL 58 [pa,pb,pc])) W' (by omega)
      simp only [bs_list,hsp] at cN
      simp only [← hj3,c58] at cN
      have hp1:=placeZ_rng opW pw
      have cP:=Lib.hid (fun W' A' (h : Strs W' A' 15 (opW.map bs))=>rplace_any opW A' 15 15 (bs pw) W' (by decide) h)
      rw [bs_list] at cP
      have hy1 : (bs pa).size≤s.size:=by rw [bs_size];exact hla
      have hy2 : (bs pb).size≤s.size:=by rw [bs_size];exact hlb
      have hy3 : (bs pc).size≤s.size:=by rw [bs_size];exact hlc
      have hpw : placeZ opW pw= -1→placeL opW pw=none:=fun h=>by
       unfold placeZ at h
       cases hp : placeL opW pw with
       | none=>rfl
       | some i=>rw [hp] at h;dsimp only at h;omega
      have hpk : ∀kk : Nat,placeZ opW pw=kk→placeL opW pw=some kk:=fun kk h=>by
       unfold placeZ at h
       cases hp : placeL opW pw with
       | none=>rw [hp] at h;dsimp only at h;omega
       | some i=>rw [hp] at h;dsimp only at h;obtain rfl : i=kk:=(by omega);rfl
      replace hno:=Lib.hid hno
      replace hno2:=Lib.hid hno2
      replace hye:=Lib.hid hye
      replace cN:=Lib.hid cN
      replace hpw:=Lib.hid hpw
      replace hpk:=Lib.hid hpk
      replace hp1:=Lib.hid hp1
      have hS9:=Lib.hid (fun W' (h : Below w1.heap.size w1 W')=>(And.intro ((h.cell (p:=⟨b2,o2 + 1,none⟩) hbl2).trans hca) (And.intro ((h.cell (p:=⟨b2,o2 + 2,none⟩) hbl2).trans hcb) ((h.cell (p:=⟨b2,o2 + 3,none⟩) hbl2).trans hcc))))
      have hS10:=Lib.hid (fun W' (h : Below w1.heap.size w1 W')=>And.intro ((h.cell (p:=⟨b2,o2 + 4,none⟩) hbl2).trans hcu) ((h.cell (p:=⟨b2,o2,none⟩) hbl2).trans hcw))
      clear hS1 hx2 hcw hca hcb hcc hcu hm hj3 hjs hla hlb hlc hlw hsp hpl9
      generalize placeZ opW pw=z at *
      replace hrd:=Lib.hid hrd
      generalize hya : bs pa=ya at *
      generalize hyb : bs pb=yb at *
      generalize hyc : bs pc=yc at *
      generalize hyw : bs pw=yw at *
      generalize hyu : bs pu=yu at *
      clear hya hyb hyc hyw hyu
      have hy91 : ¬9223372036854775807 < ya.size + 1:=by omega
      have hy92 : ¬9223372036854775807 < ya.size + 1 + yb.size:=by omega
      have hy93 : ¬9223372036854775807 < ya.size + 1 + yb.size + 1:=by omega
      have hy94 : ¬9223372036854775807 < ya.size + 1 + yb.size + 1 + yc.size:=by omega
      go_upto_region 9 with fail
      have hD0:=Lib.hid (show Below w1.heap.size w1 w1.drew from drewN_below 1)
      go_region_held3 (fun W'=>W'.cell? ⟨b2,o2 + 1,none⟩=some (.string ya)∧W'.cell? ⟨b2,o2 + 2,none⟩=some (.string yb)∧W'.cell? ⟨b2,o2 + 3,none⟩=some (.string yc))
       (first | exact hS9.out _ hD0.out | exact hS9.out _ hD1.out)
       (first
         | (go_at_call 81;(with_reducible refine (cN.out _).mono ?_);rintro r w2 ⟨v,b,rfl,hb,hs1,hs2⟩;have hD1:=Lib.hid (hD0.out.trans (hb.mono hD0.out.size));clear hb))
      have hBw2:=Lib.hid (hb2.out.trans (hD1.out.mono hb2.out.size))
      have hcu2:=(hS10.out w2 hD1.out).1
      obtain ⟨yx,gb,hget,hgn,hgs⟩ : ∃yx gb,(∀r,UnR pu r→r= .returned (.tuple #[.string yx,.bool gb]))∧(gb=false→unescL pu=none)∧(gb=true→∃t,unescL pu=some t∧yx=bs t):=by
       refine ⟨_,_,fun r h=>unR_get h,fun h=> ?_,fun h=> ?_⟩
       · cases hu : unescL pu with
         | none=>rfl
         | some t=>rw [hu] at h;cases h
       · cases hu : unescL pu with
         | none=>rw [hu] at h;cases h
         | some t=>exact ⟨t,rfl,rfl⟩
      replace hs1:=Lib.hid hs1
      replace hs2:=Lib.hid hs2
      replace hgn:=Lib.hid hgn
      replace hgs:=Lib.hid hgs
      have cO:=Lib.hid (fun W'=>rops_any W')
      go_upto_region 11 with (go_at_call 12;(with_reducible refine (cX2.out w2).mono ?_);rintro r w3 ⟨hu,hb4⟩;obtain rfl:=hget _ hu;have hD2:=Lib.hid (hD1.out.trans (hb4.mono hD1.out.size));have hG2:=Lib.hid hb4;clear hu hb4)
      have hT:=Lib.hid (fun W' (h : Below w3.heap.size w3 W')=>(hS10.out W' (hD2.out.trans (h.mono hD2.out.size))).2)
      have hE0:=Lib.hid (show Below w3.heap.size w3 w3.drew from drewN_below 1)
      clear hget hcu2
      go_region_held3 (fun W'=>W'.cell? ⟨b2,o2,none⟩=some (.string yw))
       (first | exact hT.out _ hE0.out | exact hT.out _ hE1.out)
       (first
         | (go_at_call 66;(with_reducible refine (cO.out _).mono ?_);rintro r w4 ⟨bo,rfl,hSo,hb⟩;have hE1:=Lib.hid (hE0.out.trans (hb.mono hE0.out.size));replace hSo:=Lib.hid hSo;clear hb)
         | (go_at_call 16;(with_reducible refine (cP.out _ _ hSo.out).mono ?_);rintro r w5 ⟨rfl,rfl⟩))
      have hD3:=Lib.hid (hD2.out.trans (hE1.out.mono hD2.out.size))
      have hB4:=Lib.hid (hb2.out.trans (hD3.out.mono hb2.out.size))
      have hG4:=Lib.hid (hG2.out.trans (hE1.out.mono hG2.out.size))
      clear cX2 cN cP cO cX hE0 hE1 hT hSo hS9
      cases b with
      | false=>
        have hR : Hid (allM rdOp ps=none):=Lib.hid (hno2.out (.inr (.inl (by
         cases hal : allM numL [pa,pb,pc] with
         | none=>rfl
         | some ln=>exact absurd (hs1.out ln hal).1 (by decide)))))
        clear hye hno hno2 hs1 hs2 hgs hgn hpw hpk hrd hp1
        go_wp2_with fail
        go_ret2
        exact ⟨_,_,rfl,hB4.out,fun l h=>absurd (hR.out.symm.trans h) (by simp),fun _=>⟨rfl,rfl⟩⟩
      | true=>
        cases gb with
        | false=>
          have hR : Hid (allM rdOp ps=none):=Lib.hid (hno2.out (.inr (.inr (hgn.out rfl))))
          clear hye hno hno2 hs1 hs2 hgs hgn hpw hpk hrd hp1
          go_wp2_with fail
          go_ret2
          exact ⟨_,_,rfl,hB4.out,fun l h=>absurd (hR.out.symm.trans h) (by simp),fun _=>⟨rfl,rfl⟩⟩
        | true=>
          rcases hp1.out with rfl | ⟨kk,rfl,hkk⟩
          · have hR : Hid (allM rdOp ps=none):=Lib.hid (hno2.out (.inl (hpw.out rfl)))
            clear hye hno hno2 hs1 hs2 hgs hgn hpw hpk hrd hp1
            go_wp2_with fail
            go_ret2
            exact ⟨_,_,rfl,hB4.out,fun l h=>absurd (hR.out.symm.trans h) (by simp),fun _=>⟨rfl,rfl⟩⟩
          · obtain ⟨t,hut,rfl⟩:=hgs.out rfl
            cases hal : allM numL [pa,pb,pc] with
            | none=>exact absurd (hs2.out hal).1 (by decide)
            | some ln=>
              obtain ⟨n1,n2,n3,rfl,hx,hy,hz⟩:=allM_three hal
              have hM2:=Lib.hid (hye.out ⟨(kk : Int),n1,n2,n3,t⟩ (by rw [hrd.out,hpk.out kk rfl,hx,hy,hz,hut]))
              obtain ⟨b3,o3,c3,rfl,hbq3,hc1,hc2,hc3⟩:=rows3 (hs1.out _ hal).2
              have hA4:=Lib.hid (hb3.out.trans (hD3.out.mono hb3.out.size))
              have hO4:=Lib.hid (hO2.out.keep hD3.out)
              have hCl:=Lib.hid (fun W' (h : Below w5.heap.size w5 W')=>And.intro (((hG4.out.trans (h.mono hG4.out.size)).cell (p:=⟨b3,o3,none⟩) hbq3).trans hc1) (And.intro (((hG4.out.trans (h.mono hG4.out.size)).cell (p:=⟨b3,o3 + 1,none⟩) hbq3).trans hc2) (((hG4.out.trans (h.mono hG4.out.size)).cell (p:=⟨b3,o3 + 2,none⟩) hbq3).trans hc3)))
              clear hc1 hc2 hc3
              have hlk:=hL
              have hL2:=Lib.hid (show (l ++ [(⟨(kk : Int),n1,n2,n3,t⟩ : OpX)]).length=k + 1 by rw [List.length_append,hL.out];rfl)
              have hk0 : ¬(kk : Int) < 0:=by omega
              clear hye hno hno2 hs1 hs2 hgs hgn hpw hpk hrd hp1 hx hy hz hal hut
              generalize hyt : bs t=yt at *
              replace hyt:=Lib.hid hyt
              have hbsl:=Lib.hid (fun W'=>bsl_op W' i0 hi0 hz0 hz1 (kk : Int) n1 n2 n3 yt)
              go_upto_region 14 with fail
              refine region_iw tbRc dsRc (vsRc b3 o3 c3 kk n1 n2 n3 yt u4) (fun L T W=>RcI wa w5 l ⟨(kk : Int),n1,n2,n3,t⟩ [.int .i64 (kk : Int),.int .i64 n1,.int .i64 n2,.int .i64 n3,.string yt] u4 (L 13) (L 14) (L 15) (T.getD 4 undef) (T.getD 81 undef) (T.getD 82 undef) W) rfl (by decide) (by kernel_rfl) ?hlt ?hstep ?hdone ?hstart
              case hstart=>exact ⟨fun _=>rfl,fun _=>drewN_below 1,fun h=>absurd h (inv_not (n:=16) (i:=13) (by decide)),fun h=>absurd h (inv_not (n:=16) (i:=14) (by decide)),fun h=>absurd h (inv_not (n:=16) (i:=15) (by decide))⟩
              case hlt=>
               intro ix o ho
               have hi:=(Array.getElem?_eq_some_iff.1 ho).1
               match ix,hi with
               | 0,_=>obtain rfl:=Option.some.inj ho;decide
               | 1,_=>obtain rfl:=Option.some.inj ho;decide
               | 2,_=>obtain rfl:=Option.some.inj ho;decide
               | 3,_=>obtain rfl:=Option.some.inj ho;decide
               | 4,_=>obtain rfl:=Option.some.inj ho;decide
               | 5,_=>obtain rfl:=Option.some.inj ho;decide
               | 6,_=>obtain rfl:=Option.some.inj ho;decide
               | 7,_=>obtain rfl:=Option.some.inj ho;decide
               | 8,_=>obtain rfl:=Option.some.inj ho;decide
               | 9,_=>obtain rfl:=Option.some.inj ho;decide
               | 10,_=>obtain rfl:=Option.some.inj ho;decide
               | 11,_=>obtain rfl:=Option.some.inj ho;decide
               | 12,_=>obtain rfl:=Option.some.inj ho;decide
               | 13,_=>obtain rfl:=Option.some.inj ho;decide
               | 14,_=>obtain rfl:=Option.some.inj ho;decide
               | 15,_=>obtain rfl:=Option.some.inj ho;decide
              case hstep=>
               intro T1 hE L T W ix o hF hW hc ho hLi hd K hK
               have hN : T1.size=84:=by rw [hE];rfl
               have f8 : T.getD 8 undef= .slice (some ⟨b3,o3,none⟩) 3 c3:=(hF.old 8 (by decide)).trans (by rw [hE];rfl)
               have f10 : T.getD 10 undef= .string yt:=(hF.old 10 (by decide)).trans (by rw [hE];rfl)
               have f12 : T.getD 12 undef= .int .i64 ↑kk:=(hF.old 12 (by decide)).trans (by rw [hE];rfl)
               clear hE
               replace hF:=Lib.hid hF
               replace hW:=Lib.hid hW
               replace hK:=Lib.hid hK
               have hi:=(List.getElem?_eq_some_iff.1 ho).1
               match ix,hi with
               | 0,_=>
                 obtain rfl:=Option.some.inj ho
                 have n14 : ¬L 14=true:=fun h=>by have:=hc 14 0 h (by decide);rw [hLi] at this;cases this
                 have n15 : ¬L 15=true:=fun h=>n14 (hc 15 14 h (by decide))
                 have e4:=hW.out.s4 (by simpa using n15)
                 clear hd ho hi hc
                 exact st_val (v:=u4) (w':=W) (want_none rfl) (by unfold execOp;dsimp only [Act.eval];simp only [e4];go_simp) (hK.out _ _ (hF.out.putv (k:=0) (s:=68) rfl (by decide) hN (by decide) rfl (by dsimp only;rw [gd_ne (show 68≠4 by decide),gd_ne (show 68≠81 by decide),gd_ne (show 68≠82 by decide)];exact hW.out)))
               | 1,_=>
                 obtain rfl:=Option.some.inj ho
                 clear hd ho hi hc hLi
                 exact st_val (v:= .int .i64 ↑kk) (w':=W) (want_none rfl) (by unfold execOp;dsimp only [Act.eval];simp only [f12];go_simp) (hK.out _ _ (hF.out.putv (k:=1) (s:=69) rfl (by decide) hN (by decide) rfl (by dsimp only;rw [gd_ne (show 69≠4 by decide),gd_ne (show 69≠81 by decide),gd_ne (show 69≠82 by decide)];exact hW.out)))
               | 2,_=>
                 obtain rfl:=Option.some.inj ho
                 clear hd ho hi hc hLi
                 exact st_val (v:= .slice (some ⟨b3,o3,none⟩) 3 c3) (w':=W) (want_none rfl) (by unfold execOp;dsimp only [Act.eval];simp only [f8];go_simp) (hK.out _ _ (hF.out.putv (k:=2) (s:=70) rfl (by decide) hN (by decide) rfl (by dsimp only;rw [gd_ne (show 70≠4 by decide),gd_ne (show 70≠81 by decide),gd_ne (show 70≠82 by decide)];exact hW.out)))
               | 3,_=>
                 obtain rfl:=Option.some.inj ho
                 have l2 : L 2=true:=dep_of hd (n:=2) (by decide)
                 have e70 : T.getD 70 undef= .slice (some ⟨b3,o3,none⟩) 3 c3:=hF.out.val 2 70 _ l2 rfl rfl
                 clear hd ho hi hc hLi
                 exact st_val (v:= .pointer (some ⟨b3,o3,none⟩)) (w':=W) (want_none rfl) (by unfold execOp;dsimp only [Act.eval];simp only [e70];go_simp) (hK.out _ _ (hF.out.putv (k:=3) (s:=71) rfl (by decide) hN (by decide) rfl (by dsimp only;rw [gd_ne (show 71≠4 by decide),gd_ne (show 71≠81 by decide),gd_ne (show 71≠82 by decide)];exact hW.out)))
               | 4,_=>
                 obtain rfl:=Option.some.inj ho
                 have l3 : L 3=true:=dep_of hd (n:=3) (by decide)
                 have e71 : T.getD 71 undef= .pointer (some ⟨b3,o3,none⟩):=hF.out.val 3 71 _ l3 rfl rfl
                 have n12 : ¬L 12=true:=fun h=>by have:=hc 12 4 h (by decide);rw [hLi] at this;cases this
                 have n13 : ¬L 13=true:=fun h=>n12 (hc 13 12 h (by decide))
                 have n14 : ¬L 14=true:=fun h=>n13 (hc 14 13 h (by decide))
                 have hcc:=(hCl.out W (hW.out.bl (by simpa using n14))).1
                 clear hd ho hi hc
                 exact st_val (v:= .int .i64 n1) (w':=W) (want_none rfl) (by unfold execOp;dsimp only [Act.eval];simp only [e71];go_simp) (hK.out _ _ (hF.out.putv (k:=4) (s:=72) rfl (by decide) hN (by decide) rfl (by dsimp only;rw [gd_ne (show 72≠4 by decide),gd_ne (show 72≠81 by decide),gd_ne (show 72≠82 by decide)];exact hW.out)))
               | 5,_=>
                 obtain rfl:=Option.some.inj ho
                 clear hd ho hi hc hLi
                 exact st_val (v:= .slice (some ⟨b3,o3,none⟩) 3 c3) (w':=W) (want_none rfl) (by unfold execOp;dsimp only [Act.eval];simp only [f8];go_simp) (hK.out _ _ (hF.out.putv (k:=5) (s:=73) rfl (by decide) hN (by decide) rfl (by dsimp only;rw [gd_ne (show 73≠4 by decide),gd_ne (show 73≠81 by decide),gd_ne (show 73≠82 by decide)];exact hW.out)))
               | 6,_=>
                 obtain rfl:=Option.some.inj ho
                 have l5 : L 5=true:=dep_of hd (n:=5) (by decide)
                 have e73 : T.getD 73 undef= .slice (some ⟨b3,o3,none⟩) 3 c3:=hF.out.val 5 73 _ l5 rfl rfl
                 clear hd ho hi hc hLi
                 exact st_val (v:= .pointer (some ⟨b3,o3 + 1,none⟩)) (w':=W) (want_none rfl) (by unfold execOp;dsimp only [Act.eval];simp only [e73];go_simp) (hK.out _ _ (hF.out.putv (k:=6) (s:=74) rfl (by decide) hN (by decide) rfl (by dsimp only;rw [gd_ne (show 74≠4 by decide),gd_ne (show 74≠81 by decide),gd_ne (show 74≠82 by decide)];exact hW.out)))
               | 7,_=>
                 obtain rfl:=Option.some.inj ho
                 have l6 : L 6=true:=dep_of hd (n:=6) (by decide)
                 have e74 : T.getD 74 undef= .pointer (some ⟨b3,o3 + 1,none⟩):=hF.out.val 6 74 _ l6 rfl rfl
                 have n12 : ¬L 12=true:=fun h=>by have:=hc 12 7 h (by decide);rw [hLi] at this;cases this
                 have n13 : ¬L 13=true:=fun h=>n12 (hc 13 12 h (by decide))
                 have n14 : ¬L 14=true:=fun h=>n13 (hc 14 13 h (by decide))
                 have hcc:=(hCl.out W (hW.out.bl (by simpa using n14))).2.1
                 clear hd ho hi hc
                 exact st_val (v:= .int .i64 n2) (w':=W) (want_none rfl) (by unfold execOp;dsimp only [Act.eval];simp only [e74];go_simp) (hK.out _ _ (hF.out.putv (k:=7) (s:=75) rfl (by decide) hN (by decide) rfl (by dsimp only;rw [gd_ne (show 75≠4 by decide),gd_ne (show 75≠81 by decide),gd_ne (show 75≠82 by decide)];exact hW.out)))
               | 8,_=>
                 obtain rfl:=Option.some.inj ho
                 clear hd ho hi hc hLi
                 exact st_val (v:= .slice (some ⟨b3,o3,none⟩) 3 c3) (w':=W) (want_none rfl) (by unfold execOp;dsimp only [Act.eval];simp only [f8];go_simp) (hK.out _ _ (hF.out.putv (k:=8) (s:=76) rfl (by decide) hN (by decide) rfl (by dsimp only;rw [gd_ne (show 76≠4 by decide),gd_ne (show 76≠81 by decide),gd_ne (show 76≠82 by decide)];exact hW.out)))
               | 9,_=>
                 obtain rfl:=Option.some.inj ho
                 have l8 : L 8=true:=dep_of hd (n:=8) (by decide)
                 have e76 : T.getD 76 undef= .slice (some ⟨b3,o3,none⟩) 3 c3:=hF.out.val 8 76 _ l8 rfl rfl
                 clear hd ho hi hc hLi
                 exact st_val (v:= .pointer (some ⟨b3,o3 + 2,none⟩)) (w':=W) (want_none rfl) (by unfold execOp;dsimp only [Act.eval];simp only [e76];go_simp) (hK.out _ _ (hF.out.putv (k:=9) (s:=77) rfl (by decide) hN (by decide) rfl (by dsimp only;rw [gd_ne (show 77≠4 by decide),gd_ne (show 77≠81 by decide),gd_ne (show 77≠82 by decide)];exact hW.out)))
               | 10,_=>
                 obtain rfl:=Option.some.inj ho
                 have l9 : L 9=true:=dep_of hd (n:=9) (by decide)
                 have e77 : T.getD 77 undef= .pointer (some ⟨b3,o3 + 2,none⟩):=hF.out.val 9 77 _ l9 rfl rfl
                 have n12 : ¬L 12=true:=fun h=>by have:=hc 12 10 h (by decide);rw [hLi] at this;cases this
                 have n13 : ¬L 13=true:=fun h=>n12 (hc 13 12 h (by decide))
                 have n14 : ¬L 14=true:=fun h=>n13 (hc 14 13 h (by decide))
                 have hcc:=(hCl.out W (hW.out.bl (by simpa using n14))).2.2
                 clear hd ho hi hc
                 exact st_val (v:= .int .i64 n3) (w':=W) (want_none rfl) (by unfold execOp;dsimp only [Act.eval];simp only [e77];go_simp) (hK.out _ _ (hF.out.putv (k:=10) (s:=78) rfl (by decide) hN (by decide) rfl (by dsimp only;rw [gd_ne (show 78≠4 by decide),gd_ne (show 78≠81 by decide),gd_ne (show 78≠82 by decide)];exact hW.out)))
               | 11,_=>
                 obtain rfl:=Option.some.inj ho
                 clear hd ho hi hc hLi
                 exact st_val (v:= .string yt) (w':=W) (want_none rfl) (by unfold execOp;dsimp only [Act.eval];simp only [f10];go_simp) (hK.out _ _ (hF.out.putv (k:=11) (s:=79) rfl (by decide) hN (by decide) rfl (by dsimp only;rw [gd_ne (show 79≠4 by decide),gd_ne (show 79≠81 by decide),gd_ne (show 79≠82 by decide)];exact hW.out)))
               | 12,_=>
                 obtain rfl:=Option.some.inj ho
                 have l1 : L 1=true:=dep_of hd (n:=1) (by decide)
                 have e69 : T.getD 69 undef= .int .i64 ↑kk:=hF.out.val 1 69 _ l1 rfl rfl
                 have l4 : L 4=true:=dep_of hd (n:=4) (by decide)
                 have e72 : T.getD 72 undef= .int .i64 n1:=hF.out.val 4 72 _ l4 rfl rfl
                 have l7 : L 7=true:=dep_of hd (n:=7) (by decide)
                 have e75 : T.getD 75 undef= .int .i64 n2:=hF.out.val 7 75 _ l7 rfl rfl
                 have l10 : L 10=true:=dep_of hd (n:=10) (by decide)
                 have e78 : T.getD 78 undef= .int .i64 n3:=hF.out.val 10 78 _ l10 rfl rfl
                 have l11 : L 11=true:=dep_of hd (n:=11) (by decide)
                 have e79 : T.getD 79 undef= .string yt:=hF.out.val 11 79 _ l11 rfl rfl
                 clear hd ho hi hc hLi
                 exact st_val (v:= .agg #[.int .i64 (kk : Int),.int .i64 n1,.int .i64 n2,.int .i64 n3,.string yt]) (w':=W) (want_none rfl) (by unfold execOp;simp only [List.map_toArray,List.map_cons,List.map_nil,Act.eval,e69,e72,e75,e78,e79,Sem.run_bind,run_build (P:=Tryz.prog) W _ _ _ (op_built5 kk n1 n2 n3 yt),Result.andThen_ok,Sem.run_pure]) (hK.out _ _ (hF.out.putv (k:=12) (s:=80) rfl (by decide) hN (by decide) rfl (by dsimp only;rw [gd_ne (show 80≠4 by decide),gd_ne (show 80≠81 by decide),gd_ne (show 80≠82 by decide)];exact hW.out)))
               | 13,_=>
                 obtain rfl:=Option.some.inj ho
                 have l12 : L 12=true:=dep_of hd (n:=12) (by decide)
                 have e80 : T.getD 80 undef= .agg #[.int .i64 (kk : Int),.int .i64 n1,.int .i64 n2,.int .i64 n3,.string yt]:=hF.out.val 12 80 _ l12 rfl rfl
                 have n14 : ¬L 14=true:=fun h=>by have:=hc 14 13 h (by decide);rw [hLi] at this;cases this
                 have hbn:=below_new W (.cells #[.int .i64 (kk : Int),.int .i64 n1,.int .i64 n2,.int .i64 n3,.string yt] 85)
                 have hgn:=heap_new W (.cells #[.int .i64 (kk : Int),.int .i64 n1,.int .i64 n2,.int .i64 n3,.string yt] 85)
                 have hbw:=hW.out.bl (by simpa using n14)
                 clear hd ho hi hc
                 exact st_val (v:= .slice (some ⟨W.heap.size,0,none⟩) 1 1) (w':=W.alloc (.cells #[.int .i64 (kk : Int),.int .i64 n1,.int .i64 n2,.int .i64 n3,.string yt] 85)) (want_none rfl) (by unfold execOp;simp only [List.map_toArray,List.map_cons,List.map_nil,Act.eval,e80,hbsl.out W,Sem.run_bind,Result.andThen_ok,Sem.run_pure]) (hK.out _ _ (hF.out.put (k:=13) (s:=81) rfl (by decide) hN (by decide) (fun u hu=>by cases hu) (by dsimp only;rw [gd_ne (show 81≠4 by decide),gd_ne (show 81≠82 by decide)];exact (by rw [gd_eq (by rw [hF.out.size,hN];decide)];exact { hW.out with bl:=fun _=>hbw.trans (hbn.mono hbw.size),s81:=fun _ _=>⟨W.heap.size,rfl,rangeAt_list (cs:=[.int .i64 (kk : Int),.int .i64 n1,.int .i64 n2,.int .i64 n3,.string yt]) hgn⟩,s82:=fun h=>absurd h n14 }))))
               | 14,_=>
                 obtain rfl:=Option.some.inj ho
                 have l0 : L 0=true:=dep_of hd (n:=0) (by decide)
                 have e68 : T.getD 68 undef=u4:=hF.out.val 0 68 _ l0 rfl rfl
                 have l13 : L 13=true:=dep_of hd (n:=13) (by decide)
                 have n15 : ¬L 15=true:=fun h=>by have:=hc 15 14 h (by decide);rw [hLi] at this;cases this
                 obtain ⟨g1,e81,hrw⟩:=hW.out.s81 l13 hLi
                 have hBw:=hW.out.bl hLi
                 have hO:=hO4.out.keep hBw
                 have hB:=hA4.out.trans (hBw.mono hA4.out.size)
                 clear hd ho hi hc
                 refine st_append (want_none rfl) _ _ 42 rfl 85 i0 (.agg opZ) 5 48 Tryz.underlying42 hi0 hz0 hz1 hz2 rfl (by decide) wa.heap.size hB.size u4 _ (show T.getD 68 undef=_ from e68) hO g1 1 [.int .i64 (kk : Int),.int .i64 n1,.int .i64 n2,.int .i64 n3,.string yt] (show T.getD 81 undef=_ from e81) hrw rfl (fun u hu=>by simp at hu;rcases hu with rfl | rfl | rfl | rfl | rfl <;> rfl) (by have:=hlk.out;simp only [List.length_map];unfold maxLen;omega) (by have:=hlk.out;simp only [List.length_map];omega) ?_
                 intro v' w3 hO2 hg hat
                 exact hK.out _ _ (hF.out.put (k:=14) (s:=82) rfl (by decide) hN (by decide) (fun u hu=>by cases hu) (by dsimp only;rw [gd_ne (show 82≠4 by decide),gd_ne (show 82≠81 by decide)];exact (by rw [gd_eq (by rw [hF.out.size,hN];decide)];exact { hW.out with bl:=fun h=>absurd h (by simp),s81:=fun _ h=>absurd h (by simp),s82:=fun _=>⟨(by rw [List.map_append];show OwnR _ _ _ _ _ (_ ++ [[.int .i64 (kk : Int),.int .i64 n1,.int .i64 n2,.int .i64 n3,.string (bs t)]]);rw [hyt.out];exact hO2),hB.grown hg hB.size hO.lt⟩,s9:=fun h=>absurd h n15 })))
               | 15,_=>
                 obtain rfl:=Option.some.inj ho
                 have l14 : L 14=true:=dep_of hd (n:=14) (by decide)
                 clear hd ho hi hc
                 exact st_val (v:=T.getD 82 undef) (w':=W) (want_none rfl) rfl (hK.out _ _ (hF.out.put (k:=15) (s:=4) rfl (by decide) hN (by decide) (fun u hu=>by cases hu) (by dsimp only;rw [gd_ne (show 4≠81 by decide),gd_ne (show 4≠82 by decide)];exact (by rw [gd_eq (by rw [hF.out.size,hN];decide)];exact { hW.out with s4:=fun h=>absurd h (by simp),s9:=fun _=>rfl }))))
              case hdone=>
               intro L T W2 hF hW hall
               obtain ⟨z4,e4⟩ : ∃z,T.getD 4 undef=z:=⟨_,rfl⟩
               obtain ⟨z81,e81⟩ : ∃z,T.getD 81 undef=z:=⟨_,rfl⟩
               obtain ⟨z82,e82⟩ : ∃z,T.getD 82 undef=z:=⟨_,rfl⟩
               obtain ⟨hO7,hB8⟩:=hW.s82 (hall 14 (by decide))
               have h95:=hW.s9 (hall 15 (by decide))
               rw [← h95,e4] at hO7
               clear h95 hW
               have hT : T=#[.string s,undef,u2,u3,z4,.slice (some ⟨b1,o1,none⟩) n c0,.int .i64 ↑k,.slice (some ⟨b2,o2,none⟩) 5 c1,.slice (some ⟨b3,o3,none⟩) 3 c3,.bool true,.string yt,.bool true,.int .i64 ↑kk,.string s,.slice (some ⟨b1,o1,none⟩) n c0,.int .i64 ↑k,.slice (some ⟨b1,o1,none⟩) n c0,.int .i64 ↑n,.bool true,u19,u20,.slice (some ⟨b1,o1,none⟩) n c0,.int .i64 ↑k,.pointer (some ⟨b1,o1 + k,none⟩),.string yp,.slice (some ⟨b2,o2,none⟩) 5 c1,.slice (some ⟨b2,o2,none⟩) 5 c1,.int .i64 5,.bool false,.tuple #[.slice (some ⟨b3,o3,none⟩) 3 c3,.bool true],.slice (some ⟨b2,o2,none⟩) 5 c1,.pointer (some ⟨b2,o2 + 1,none⟩),.string ya,.string (ya ++ ⟨#[58]⟩),.slice (some ⟨b2,o2,none⟩) 5 c1,.pointer (some ⟨b2,o2 + 2,none⟩),.string yb,.string (ya ++ ⟨#[58]⟩ ++ yb),.string (ya ++ ⟨#[58]⟩ ++ yb ++ ⟨#[58]⟩),.slice (some ⟨b2,o2,none⟩) 5 c1,.pointer (some ⟨b2,o2 + 3,none⟩),.string yc,.string (ya ++ ⟨#[58]⟩ ++ yb ++ ⟨#[58]⟩ ++ yc),.tuple #[.slice (some ⟨b3,o3,none⟩) 3 c3,.bool true],.slice (some ⟨b3,o3,none⟩) 3 c3,.bool true,.tuple #[.string yt,.bool true],.slice (some ⟨b2,o2,none⟩) 5 c1,.pointer (some ⟨b2,o2 + 4,none⟩),.string yu,.tuple #[.string yt,.bool true],.string yt,.bool true,.slice (some ⟨bo,0,none⟩) 15 15,.slice (some ⟨b2,o2,none⟩) 5 c1,.pointer (some ⟨b2,o2,none⟩),.string yw,.int .i64 ↑kk,.bool true,.bool false,.bool false,.bool true,.bool false,.bool false,.bool false,.int .i64 ↑kk,.bool false,.bool false,u4,.int .i64 ↑kk,.slice (some ⟨b3,o3,none⟩) 3 c3,.pointer (some ⟨b3,o3,none⟩),.int .i64 n1,.slice (some ⟨b3,o3,none⟩) 3 c3,.pointer (some ⟨b3,o3 + 1,none⟩),.int .i64 n2,.slice (some ⟨b3,o3,none⟩) 3 c3,.pointer (some ⟨b3,o3 + 2,none⟩),.int .i64 n3,.string yt,.agg #[.int .i64 (kk : Int),.int .i64 n1,.int .i64 n2,.int .i64 n3,.string yt],z81,z82,undef]:=(hF.fin [(68,u4),(69,.int .i64 ↑kk),(70,.slice (some ⟨b3,o3,none⟩) 3 c3),(71,.pointer (some ⟨b3,o3,none⟩)),(72,.int .i64 n1),(73,.slice (some ⟨b3,o3,none⟩) 3 c3),(74,.pointer (some ⟨b3,o3 + 1,none⟩)),(75,.int .i64 n2),(76,.slice (some ⟨b3,o3,none⟩) 3 c3),(77,.pointer (some ⟨b3,o3 + 2,none⟩)),(78,.int .i64 n3),(79,.string yt),(80,.agg #[.int .i64 (kk : Int),.int .i64 n1,.int .i64 n2,.int .i64 n3,.string yt]),(81,z81),(82,z82),(4,z4)] [68,69,70,71,72,73,74,75,76,77,78,79,80,81,82,4] rfl (List.forall_mem_cons.2 ⟨hF.val 0 _ _ (hall 0 (show 0 < 16 by decide)) rfl rfl,(List.forall_mem_cons.2 ⟨hF.val 1 _ _ (hall 1 (show 1 < 16 by decide)) rfl rfl,(List.forall_mem_cons.2 ⟨hF.val 2 _ _ (hall 2 (show 2 < 16 by decide)) rfl rfl,(List.forall_mem_cons.2 ⟨hF.val 3 _ _ (hall 3 (show 3 < 16 by decide)) rfl rfl,(List.forall_mem_cons.2 ⟨hF.val 4 _ _ (hall 4 (show 4 < 16 by decide)) rfl rfl,(List.forall_mem_cons.2 ⟨hF.val 5 _ _ (hall 5 (show 5 < 16 by decide)) rfl rfl,(List.forall_mem_cons.2 ⟨hF.val 6 _ _ (hall 6 (show 6 < 16 by decide)) rfl rfl,(List.forall_mem_cons.2 ⟨hF.val 7 _ _ (hall 7 (show 7 < 16 by decide)) rfl rfl,(List.forall_mem_cons.2 ⟨hF.val 8 _ _ (hall 8 (show 8 < 16 by decide)) rfl rfl,(List.forall_mem_cons.2 ⟨hF.val 9 _ _ (hall 9 (show 9 < 16 by decide)) rfl rfl,(List.forall_mem_cons.2 ⟨hF.val 10 _ _ (hall 10 (show 10 < 16 by decide)) rfl rfl,(List.forall_mem_cons.2 ⟨hF.val 11 _ _ (hall 11 (show 11 < 16 by decide)) rfl rfl,(List.forall_mem_cons.2 ⟨hF.val 12 _ _ (hall 12 (show 12 < 16 by decide)) rfl rfl,(List.forall_mem_cons.2 ⟨e81,(List.forall_mem_cons.2 ⟨e82,(List.forall_mem_cons.2 ⟨e4,(fun _ h=>absurd h List.not_mem_nil)⟩)⟩)⟩)⟩)⟩)⟩)⟩)⟩)⟩)⟩)⟩)⟩)⟩)⟩)⟩)⟩) (by decide)).trans (by kernel_rfl)
               clear hF hall
               subst hT
               clear e4 e81 e82
               replace hO7:=Lib.hid hO7
               replace hB8:=Lib.hid hB8
               go_wp2_with fail
               go_roundw
               case rel=>exact ⟨k + 1,_,by omega,by go_num,hM2,hL2,hO7,hB8⟩
               case measure=>simp [intOf];omega
    · have hR:=Lib.hid (hno (rdOp_len9 (by rw [hm];exact h2)))
      have hq2 : ((m : Int) != 5)=true:=by simp;omega
      clear hye hno
      go_upto_region 7 with (go_at_call 48;(with_reducible refine cX.out.mono ?_);rintro r w1 ⟨v1,rfl,hOv,hb2'⟩;obtain ⟨A1,c1,rfl,hS1⟩:=hOv.strs;rw [List.length_map,hm] at hS1 ⊢;have hb2:=hBw.out.trans (hb2'.mono hBw.out.size);replace hS1:=Lib.hid hS1;replace hb2:=Lib.hid hb2;clear hb2' hO hOv)
      go_wp2_with fail
      go_ret2
      exact ⟨_,_,rfl,hb2.out,fun l h=>absurd (hR.out.symm.trans h) (by simp),fun _=>⟨rfl,rfl⟩⟩
  · obtain rfl : k=n:=by omega
    have hM2 : allM rdOp ps=some l:=by
     have:=hM.out
     rwa [List.take_of_length_le (by rw [hnh.out];exact Nat.le_refl _)] at this
    replace hM2:=Lib.hid hM2
    go_wp2_with fail
    go_ret2
    exact ⟨_,_,rfl,hBw.out,fun l' h=>⟨rfl,by obtain rfl:=Option.some.inj (hM2.out.symm.trans h);exact hO.out.lowB hb1.out.size⟩,fun h=>absurd (hM2.out.symm.trans h) (by simp)⟩
end Go.Proofs.YtmicohmbmgbnkaaGreatDoor
