/- A step's parts in memory: how each is read. (printed by wip/gen_skv.py) -/
import Derived.Test.YtmicohmbmgbnkaaGreatDoorVb13
namespace Go.Proofs.YtmicohmbmgbnkaaGreatDoor
open Go Go.RowKit Go.Shelf
open Go.Lib (itoa)
theorem cell0 {W : World} {b off : Nat} {v : Value} {z : List Value} (h : W.rangeAt b off (v :: z)) : W.cell? ⟨b,off,none⟩=some v:=h 0 v rfl
theorem write_any {q b off : Nat} (g : Tag) (pv : PV) (hok : OkPV g pv) (hl : (wrPV pv).length≤1099511627776) (W : World) (E : EnvS W) (hq : BoxP W q b off) {z : List Value} (hz : PVal W pv z) (hc : W.rangeAt b off z) (hbw : b < W.heap.size) :
 Calls Tryz.prog (wrF g) #[.pointer (some ⟨q,0,none⟩)] W (WrR pv W):=by
 cases g <;> cases pv <;> first | exact absurd hok id | skip
 case num.num n=>
  obtain rfl : z=[.int .i64 n]:=hz
  exact write_num n hok W E hq (cell0 hc)
 case text.text s=>
  obtain rfl : z=[.string (bs s)]:=hz
  exact write_text s (Nat.le_trans (escL_le s) hl) W hq (cell0 hc)
 case flag.flag x=>
  obtain rfl : z=[.bool x]:=hz
  exact write_flag x W hq (cell0 hc)
 case nums.nums l=>
  obtain ⟨v,rfl,hv⟩:=hz
  exact write_nums l hok hl W E hq (cell0 hc) hv
 case texts.texts l=>
  obtain ⟨v,rfl,hv⟩:=hz
  exact write_texts l hl W E hq (cell0 hc) hv
 case ops.ops l=>
  obtain ⟨v,rfl,hv⟩:=hz
  exact write_ops l hok hl W E hq (cell0 hc) hv
 case grants.grants l=>
  obtain ⟨v,rfl,hv⟩:=hz
  exact write_grants l hok hl W E hq (cell0 hc) hv
 case wish.wish x y z'=>
  obtain rfl : z=[.int .u32 x,.int .u32 y,.int .u32 z']:=hz
  exact write_wish x y z' hok.1 hok.2.1 hok.2.2 W E hq hc hbw
structure But (b : Nat) (w w' : World) : Prop where
 os : w'.os=w.os
 tape : w'.tape=w.tape
 output : w'.output=w.output
 size : w.heap.size≤w'.heap.size
 block : ∀k,k < w.heap.size→k≠b→w'.heap[k]? =w.heap[k]?
theorem But.of_below {b : Nat} {w w' : World} (h : Below w.heap.size w w') : But b w w':=⟨h.os,h.tape,h.output,h.size,fun k hk _=>h.block k hk⟩
theorem But.trans {b : Nat} {w w' w'' : World} (h : But b w w') (h2 : But b w' w'') : But b w w'':=
 ⟨h2.os.trans h.os,h2.tape.trans h.tape,h2.output.trans h.output,Nat.le_trans h.size h2.size,fun k hk hn=>(h2.block k (Nat.lt_of_lt_of_le hk h.size) hn).trans (h.block k hk hn)⟩
theorem But.set {b off : Nat} {w : World} (v : Value) : But b w (w.setCell ⟨b,off,none⟩ v):=by
 have hB:=(Below.refl b w).setCell (p:=⟨b,off,none⟩) (Nat.le_refl _) v
 exact ⟨hB.os,hB.tape,hB.output,hB.size,fun k _ hn=>heap_setCell_other w ⟨b,off,none⟩ k v hn⟩
theorem But.below {b n : Nat} {w w' : World} (h : But b w w') (hn : n≤w.heap.size) (hb : n≤b) : Below n w w':=⟨h.os,h.tape,h.output,h.size,fun k hk=>h.block k (by omega) (by omega)⟩
theorem But.cell {b : Nat} {w w' : World} (h : But b w w') {p : Addr} (hp : p.block < w.heap.size) (hn : p.block≠b) : w'.cell? p=w.cell? p:=by
 unfold World.cell?
 rw [h.block p.block hp hn]
theorem Rws.but {b : Nat} {w w' : World} {k : Nat} {A : Option Addr} {n : Nat} {zs : List (List Value)} (h : Rws w k A n zs) (hb : But b w w') (hn : 0 < n→∀a,A=some a→a.block≠b) : Rws w' k A n zs:=
 ⟨h.1,h.2.1,fun hp=>by
  obtain ⟨b',off,e,hlt,hc⟩:=h.2.2 hp
  have hne:=hn hp _ e
  exact ⟨b',off,e,Nat.lt_of_lt_of_le hlt hb.size,fun j z hz i v hv=>by rw [hb.cell (p:=⟨b',off + j * k + i,none⟩) hlt hne];exact hc j z hz i v hv⟩⟩
theorem SlN.but {b : Nat} {w w' : World} {K : Nat} {zs : List (List Value)} {v : Value} (h : SlN b w K zs v) (hb : But b w w') : SlN b w' K zs v:=by
 obtain ⟨A,c,h1,h2,h3,h4,h5⟩:=h
 exact ⟨A,c,h1,h2,h3,h4.but hb (fun hp a ha e=>by have:=h5 hp a ha;omega),h5⟩
theorem PValN.but {b : Nat} {w w' : World} {pv : PV} {z : List Value} (h : PValN b w pv z) (hb : But b w w') : PValN b w' pv z:=PValG.mono (fun _ _ _ h=>h.but hb) h
theorem PValN.v {b : Nat} {w : World} {pv : PV} {z : List Value} (h : PValN b w pv z) : PVal w pv z:=PValG.mono (fun _ _ _ h=>h.v) h
theorem PVal.keep {w w' : World} {pv : PV} {z : List Value} (h : PVal w pv z) (hb : Below w.heap.size w w') : PVal w' pv z:=PValG.mono (fun _ _ _ h=>h.keep hb) h
theorem OwnR.sln {b B K : Nat} {E : TypeId} {w : World} {v : Value} {zs : List (List Value)} (h : OwnR w B K E v zs) (hb : b < B) : SlN b w K zs v:=by
 obtain ⟨A,c,hv,hr⟩:=OwnR.rws h
 have hc:=own_cap h hv
 refine ⟨A,c,hv,hc.1,hc.2,hr,fun _ a ha=> ?_⟩
 have:=h.lt a.block (by rw [hv,ha];rfl)
 omega
def setAt : List Value→Nat→List Value→List Value
 | cs,_,[]=>cs
 | cs,off,v :: r=>setAt (cs.set off v) (off + 1) r
theorem setAt_len : ∀(z cs : List Value) (off : Nat),(setAt cs off z).length=cs.length
 | [],_,_=>rfl
 | v :: r,cs,off=>by rw [setAt,setAt_len r,List.length_set]
theorem setAt_off : ∀(z cs : List Value) (off i : Nat),(i < off∨off + z.length≤i)→(setAt cs off z)[i]? =cs[i]?
 | [],_,_,_,_=>rfl
 | v :: r,cs,off,i,h=>by
   rw [List.length_cons] at h
   rw [setAt,setAt_off r _ _ _ (by omega),List.getElem?_set_ne (by omega)]
theorem setAt_at : ∀(z cs : List Value) (off j : Nat) (v : Value),off + z.length≤cs.length→z[j]? =some v→(setAt cs off z)[off + j]? =some v
 | [],_,_,_,_,_,h=>by cases h
 | x :: r,cs,off,0,v,hl,h=>by
   injection h with h
   rw [List.length_cons] at hl
   rw [setAt,setAt_off r _ _ _ (by omega),Nat.add_zero,List.getElem?_set_self (by omega),h]
 | x :: r,cs,off,j + 1,v,hl,h=>by
   rw [List.length_cons] at hl
   rw [setAt,show off + (j + 1)=off + 1 + j by omega]
   exact setAt_at r _ _ _ _ (by rw [List.length_set];omega) h
theorem set_arr (cs : List Value) (off : Nat) (v : Value) : cs.toArray.setIfInBounds off v=(cs.set off v).toArray:=by simp
def Blk (W : World) (b : Nat) (cs : List Value) : Prop:=W.heap[b]? =some (.cells cs.toArray 44 (0,0))
theorem Blk.lt {W : World} {b : Nat} {cs : List Value} (h : Blk W b cs) : b < W.heap.size:=(Array.getElem?_eq_some_iff.1 h).1
theorem Blk.keep {W W' : World} {b : Nat} {cs : List Value} (h : Blk W b cs) (hb : Below W.heap.size W W') : Blk W' b cs:=(hb.block b h.lt).trans h
theorem Blk.cell {W : World} {b off : Nat} {cs : List Value} {v : Value} (h : Blk W b cs) (hv : cs[off]? =some v) : W.cell? ⟨b,off,none⟩=some v:=(cell_of_row W b off _ _ _ h).trans (by simpa using hv)
theorem Blk.set {W : World} {b off : Nat} {cs : List Value} (h : Blk W b cs) (v : Value) : Blk (W.setCell ⟨b,off,none⟩ v) b (cs.set off v):=by
 have:=heap_setCell_same W b off _ _ v h
 rw [set_arr] at this
 exact this
def RdR (g : Tag) (L : List UInt8) (b off : Nat) (cs : List Value) (W : World) (r : Ending) (W' : World) : Prop:=
 ∃(z : List Value) (x : Bool),r= .returned (.bool x)∧z.length=widthT g∧Blk W' b (setAt cs off z)∧But b W W'∧(∀pv,rdP g L=some pv→x=true∧PValN b W' pv z)∧(rdP g L=none→x=false)
theorem RdR.one {g : Tag} {L : List UInt8} {b off : Nat} {cs : List Value} {W W1 : World} {v : Value} {x : Bool} (hw : widthT g=1) (hb : Blk W b cs) (h1 : Below W.heap.size W W1) (hs : ∀pv,rdP g L=some pv→x=true∧PValN b W1 pv [v]) (hn : rdP g L=none→x=false) :
 RdR g L b off cs W (.returned (.bool x)) (W1.setCell ⟨b,off,none⟩ v):=
 ⟨[v],x,rfl,hw.symm,(hb.keep h1).set v,(But.of_below h1).trans (But.set v),fun pv h=>⟨(hs pv h).1,(hs pv h).2.but (But.set v)⟩,hn⟩
set_option maxRecDepth 100000 in
set_option maxHeartbeats 4000000 in
theorem read_num {q b off : Nat} (s : ByteArray) (hs : s.size < 4294967281) (cs : List Value) (W : World) (E : EnvS W) (hq : BoxP W q b off) (hqb : q≠b) (hb : Blk W b cs) (ho : off + 1≤cs.length) :
 Calls Tryz.prog 90 #[.string s,.pointer (some ⟨q,0,none⟩)] W (RdR .num s.data.toList b off cs W):=by
 unfold BoxP at hq
 have hqw:=block_lt_of_cell hq
 obtain ⟨old,hold⟩ : ∃v,cs[off]? =some v:=⟨cs[off]'(by omega),List.getElem?_eq_getElem _⟩
 have hK:=Lib.hid (fun W' (h : Below W.heap.size W W')=>And.intro ((h.cell (p:=⟨q,0,none⟩) hqw).trans hq) (And.intro ((hb.keep h).cell hold) (frozen_of_row W' b off _ _ (hb.keep h))))
 have cN:=Lib.hid (number_any s W E (by omega))
 have hbh:=Lib.hid hb
 clear hb hq
 go_enter Tryz.func90,Tryz.ntmps90
 go_upto_region 2 with (go_at_call 91;(with_reducible refine cN.out.mono ?_);rintro r w1 ⟨hu,hb1⟩;obtain ⟨n,x,rfl,ha⟩:=hu.ans;obtain ⟨k1,k2,k3⟩:=hK.out w1 hb1;replace ha:=Lib.hid ha;replace hb1:=Lib.hid hb1;clear hu)
 cases x with
 | false=>
   have hn:=Lib.hid (show rdP .num s.data.toList=none by unfold rdP;dsimp only;rw [ha.out.no])
   go_wp2_with fail
   go_ret
   exact RdR.one rfl hbh.out hb1.out (fun pv h=>absurd (hn.out.symm.trans h) (by simp)) (fun _=>rfl)
 | true=>
   by_cases h0 : n=0
   · have hn:=Lib.hid (show rdP .num s.data.toList=none by unfold rdP;dsimp only;rw [ha.out.yes];dsimp only;rw [if_pos h0])
     subst h0
     go_wp2_with fail
     go_ret
     exact RdR.one rfl hbh.out hb1.out (fun pv h=>absurd (hn.out.symm.trans h) (by simp)) (fun _=>rfl)
   · have hn:=Lib.hid (show rdP .num s.data.toList=some (.num n) by unfold rdP;dsimp only;rw [ha.out.yes];dsimp only;rw [if_neg h0])
     have hne : (n != 0)=true:=by unfold bne;rw [beq_eq_false_iff_ne.2 h0];rfl
     clear h0
     go_wp2_with fail
     go_ret
     exact RdR.one rfl hbh.out hb1.out (fun pv h=>by obtain rfl:=Option.some.inj (hn.out.symm.trans h);exact ⟨rfl,rfl⟩) (fun h=>absurd (hn.out.symm.trans h) (by simp))
set_option maxRecDepth 100000 in
set_option maxHeartbeats 4000000 in
theorem read_text {q b off : Nat} (s : ByteArray) (hs : s.size < 4294967281) (cs : List Value) (W : World) (E : EnvS W) (hq : BoxP W q b off) (hqb : q≠b) (hb : Blk W b cs) (ho : off + 1≤cs.length) :
 Calls Tryz.prog 93 #[.string s,.pointer (some ⟨q,0,none⟩)] W (RdR .text s.data.toList b off cs W):=by
 unfold BoxP at hq
 have hqw:=block_lt_of_cell hq
 obtain ⟨old,hold⟩ : ∃v,cs[off]? =some v:=⟨cs[off]'(by omega),List.getElem?_eq_getElem _⟩
 have hK:=Lib.hid (fun W' (h : Below W.heap.size W W')=>And.intro ((h.cell (p:=⟨q,0,none⟩) hqw).trans hq) (And.intro ((hb.keep h).cell hold) (frozen_of_row W' b off _ _ (hb.keep h))))
 have cN:=Lib.hid (unescape_any s W (by omega))
 have hbh:=Lib.hid hb
 clear hb hq
 go_enter Tryz.func93,Tryz.ntmps93
 go_upto_region 2 with (go_at_call 11;(with_reducible refine cN.out.mono ?_);rintro r w1 ⟨hu,hb1⟩;obtain ⟨n,x,rfl,ha⟩:=hu.ans;obtain ⟨k1,k2,k3⟩:=hK.out w1 hb1;replace ha:=Lib.hid ha;replace hb1:=Lib.hid hb1;clear hu)
 cases x with
 | false=>
   have hn:=Lib.hid (show rdP .text s.data.toList=none by unfold rdP;dsimp only;rw [ha.out.no])
   go_wp2_with fail
   go_ret
   exact RdR.one rfl hbh.out hb1.out (fun pv h=>absurd (hn.out.symm.trans h) (by simp)) (fun _=>rfl)
 | true=>
   by_cases h0 : n=[]
   · have hn:=Lib.hid (show rdP .text s.data.toList=none by unfold rdP;dsimp only;rw [ha.out.yes];dsimp only;rw [if_pos h0])
     have hz : (bs n).toList.isEmpty=true:=by rw [bs_nil,decide_eq_true h0]
     clear h0
     go_wp2_with fail
     go_ret
     exact RdR.one rfl hbh.out hb1.out (fun pv h=>absurd (hn.out.symm.trans h) (by simp)) (fun _=>rfl)
   · have hn:=Lib.hid (show rdP .text s.data.toList=some (.text n) by unfold rdP;dsimp only;rw [ha.out.yes];dsimp only;rw [if_neg h0])
     have hz : (bs n).toList.isEmpty=false:=by rw [bs_nil,decide_eq_false h0]
     clear h0
     go_wp2_with fail
     go_ret
     exact RdR.one rfl hbh.out hb1.out (fun pv h=>by obtain rfl:=Option.some.inj (hn.out.symm.trans h);exact ⟨rfl,rfl⟩) (fun h=>absurd (hn.out.symm.trans h) (by simp))
set_option maxRecDepth 100000 in
set_option maxHeartbeats 4000000 in
theorem read_flag {q b off : Nat} (s : ByteArray) (hs : s.size < 4294967281) (cs : List Value) (W : World) (E : EnvS W) (hq : BoxP W q b off) (hqb : q≠b) (hb : Blk W b cs) (ho : off + 1≤cs.length) :
 Calls Tryz.prog 105 #[.string s,.pointer (some ⟨q,0,none⟩)] W (RdR .flag s.data.toList b off cs W):=by
 unfold BoxP at hq
 have hqw:=block_lt_of_cell hq
 obtain ⟨old,hold⟩ : ∃v,cs[off]? =some v:=⟨cs[off]'(by omega),List.getElem?_eq_getElem _⟩
 have hK:=Lib.hid (fun W' (h : Below W.heap.size W W')=>And.intro ((h.cell (p:=⟨q,0,none⟩) hqw).trans hq) (And.intro ((hb.keep h).cell hold) (frozen_of_row W' b off _ _ (hb.keep h))))
 obtain ⟨k1,k2,k3⟩:=hK.out W (Below.refl _ _)
 have hbh:=Lib.hid hb
 have k4 : ∀v,(W.setCell ⟨b,off,none⟩ v).cell? ⟨q,0,none⟩=some (.pointer (some ⟨b,off,none⟩)):=fun v=>((But.set (b:=b) (off:=off) (w:=W) v).cell (p:=⟨q,0,none⟩) hqw hqb).trans hq
 have k5 : ∀v,(W.setCell ⟨b,off,none⟩ v).cell? ⟨b,off,none⟩=some v:=fun v=>(hb.set (off:=off) v).cell (by rw [List.getElem?_set_self (by omega)])
 clear hb hq
 by_cases h0 : s.data.toList=[49]
 · have hn:=Lib.hid (show rdP .flag s.data.toList=some (.flag true) by unfold rdP;dsimp only;rw [if_pos h0])
   have hz : (s.toList == [49])=true:=by rw [ByteArray.toList_eq,h0];rfl
   have k6:=k4 (.bool true)
   have k7:=k5 (.bool true)
   clear h0 k4 k5
   go_enter Tryz.func105,Tryz.ntmps105
   go_wp2_with fail
   go_ret
   exact RdR.one rfl hbh.out (Below.refl _ _) (fun pv h=>by obtain rfl:=Option.some.inj (hn.out.symm.trans h);exact ⟨rfl,rfl⟩) (fun h=>absurd (hn.out.symm.trans h) (by simp))
 · have hn:=Lib.hid (show rdP .flag s.data.toList=none by unfold rdP;dsimp only;rw [if_neg h0])
   have hz : (s.toList == [49])=false:=by rw [ByteArray.toList_eq,beq_eq_false_iff_ne];exact h0
   have k6:=k4 (.bool false)
   have k7:=k5 (.bool false)
   clear h0 k4 k5
   go_enter Tryz.func105,Tryz.ntmps105
   go_wp2_with fail
   go_ret
   exact RdR.one rfl hbh.out (Below.refl _ _) (fun pv h=>absurd (hn.out.symm.trans h) (by simp)) (fun _=>rfl)
set_option maxRecDepth 100000 in
set_option maxHeartbeats 4000000 in
theorem read_nums {q b off : Nat} (s : ByteArray) (hs : s.size < 4294967281) (cs : List Value) (W : World) (E : EnvS W) (hq : BoxP W q b off) (hqb : q≠b) (hb : Blk W b cs) (ho : off + 1≤cs.length) :
 Calls Tryz.prog 102 #[.string s,.pointer (some ⟨q,0,none⟩)] W (RdR .nums s.data.toList b off cs W):=by
 unfold BoxP at hq
 have hqw:=block_lt_of_cell hq
 obtain ⟨old,hold⟩ : ∃v,cs[off]? =some v:=⟨cs[off]'(by omega),List.getElem?_eq_getElem _⟩
 have hK:=Lib.hid (fun W' (h : Below W.heap.size W W')=>And.intro ((h.cell (p:=⟨q,0,none⟩) hqw).trans hq) (And.intro ((hb.keep h).cell hold) (frozen_of_row W' b off _ _ (hb.keep h))))
 have cN:=Lib.hid (unlistI_any s W E hs)
 have hbh:=Lib.hid hb
 have hbl:=hb.lt
 have hrd : rdP .nums s.data.toList=(allM numL (splitL 44 s.data.toList)).map .nums:=rfl
 generalize allM numL (splitL 44 s.data.toList)=o at *
 clear hb hq
 cases o with
 | none=>
   have hn:=Lib.hid (show rdP .nums s.data.toList=none from hrd)
   clear hrd
   go_enter Tryz.func102,Tryz.ntmps102
   go_wp2_with (go_at_call 103;(with_reducible refine cN.out.mono ?_);rintro r w1 ⟨v,x,rfl,hb1,_,hx⟩;obtain ⟨rfl,rfl⟩:=hx rfl;obtain ⟨k1,k2,k3⟩:=hK.out w1 hb1;replace hb1:=Lib.hid hb1;clear hx)
   go_ret
   exact RdR.one rfl hbh.out hb1.out (fun pv h=>absurd (hn.out.symm.trans h) (by simp)) (fun _=>rfl)
 | some l=>
   have hn:=Lib.hid (show rdP .nums s.data.toList=some (.nums l) from hrd)
   clear hrd
   go_enter Tryz.func102,Tryz.ntmps102
   go_wp2_with (go_at_call 103;(with_reducible refine cN.out.mono ?_);rintro r w1 ⟨v,x,rfl,hb1,hx,_⟩;obtain ⟨rfl,hO⟩:=hx l rfl;obtain ⟨A9,c9,rfl,_⟩:=hO.rws;have hS:=hO.sln hbl;rw [List.length_map] at hS;replace hS:=Lib.hid hS;obtain ⟨k1,k2,k3⟩:=hK.out w1 hb1;replace hb1:=Lib.hid hb1;clear hx hO)
   go_ret
   exact RdR.one rfl hbh.out hb1.out (fun pv h=>by obtain rfl:=Option.some.inj (hn.out.symm.trans h);exact ⟨rfl,_,rfl,hS.out⟩) (fun h=>absurd (hn.out.symm.trans h) (by simp))
set_option maxRecDepth 100000 in
set_option maxHeartbeats 4000000 in
theorem read_texts {q b off : Nat} (s : ByteArray) (hs : s.size < 4294967281) (cs : List Value) (W : World) (E : EnvS W) (hq : BoxP W q b off) (hqb : q≠b) (hb : Blk W b cs) (ho : off + 1≤cs.length) :
 Calls Tryz.prog 109 #[.string s,.pointer (some ⟨q,0,none⟩)] W (RdR .texts s.data.toList b off cs W):=by
 unfold BoxP at hq
 have hqw:=block_lt_of_cell hq
 obtain ⟨old,hold⟩ : ∃v,cs[off]? =some v:=⟨cs[off]'(by omega),List.getElem?_eq_getElem _⟩
 have hK:=Lib.hid (fun W' (h : Below W.heap.size W W')=>And.intro ((h.cell (p:=⟨q,0,none⟩) hqw).trans hq) (And.intro ((hb.keep h).cell hold) (frozen_of_row W' b off _ _ (hb.keep h))))
 have cN:=Lib.hid (unlistS_any s W E hs)
 have hbh:=Lib.hid hb
 have hbl:=hb.lt
 have hrd : rdP .texts s.data.toList=(allM rdName (splitL 44 s.data.toList)).map .texts:=rfl
 generalize allM rdName (splitL 44 s.data.toList)=o at *
 clear hb hq
 cases o with
 | none=>
   have hn:=Lib.hid (show rdP .texts s.data.toList=none from hrd)
   clear hrd
   go_enter Tryz.func109,Tryz.ntmps109
   go_wp2_with (go_at_call 110;(with_reducible refine cN.out.mono ?_);rintro r w1 ⟨v,x,rfl,hb1,_,hx⟩;obtain ⟨rfl,rfl⟩:=hx rfl;obtain ⟨k1,k2,k3⟩:=hK.out w1 hb1;replace hb1:=Lib.hid hb1;clear hx)
   go_ret
   exact RdR.one rfl hbh.out hb1.out (fun pv h=>absurd (hn.out.symm.trans h) (by simp)) (fun _=>rfl)
 | some l=>
   have hn:=Lib.hid (show rdP .texts s.data.toList=some (.texts l) from hrd)
   clear hrd
   go_enter Tryz.func109,Tryz.ntmps109
   go_wp2_with (go_at_call 110;(with_reducible refine cN.out.mono ?_);rintro r w1 ⟨v,x,rfl,hb1,hx,_⟩;obtain ⟨rfl,hO⟩:=hx l rfl;obtain ⟨A9,c9,rfl,_⟩:=hO.rws;have hS:=hO.sln hbl;rw [List.length_map] at hS;replace hS:=Lib.hid hS;obtain ⟨k1,k2,k3⟩:=hK.out w1 hb1;replace hb1:=Lib.hid hb1;clear hx hO)
   go_ret
   exact RdR.one rfl hbh.out hb1.out (fun pv h=>by obtain rfl:=Option.some.inj (hn.out.symm.trans h);exact ⟨rfl,_,rfl,hS.out⟩) (fun h=>absurd (hn.out.symm.trans h) (by simp))
set_option maxRecDepth 100000 in
set_option maxHeartbeats 4000000 in
theorem read_ops {q b off : Nat} (s : ByteArray) (hs : s.size < 4294967281) (cs : List Value) (W : World) (E : EnvS W) (hq : BoxP W q b off) (hqb : q≠b) (hb : Blk W b cs) (ho : off + 1≤cs.length) :
 Calls Tryz.prog 97 #[.string s,.pointer (some ⟨q,0,none⟩)] W (RdR .ops s.data.toList b off cs W):=by
 unfold BoxP at hq
 have hqw:=block_lt_of_cell hq
 obtain ⟨old,hold⟩ : ∃v,cs[off]? =some v:=⟨cs[off]'(by omega),List.getElem?_eq_getElem _⟩
 have hK:=Lib.hid (fun W' (h : Below W.heap.size W W')=>And.intro ((h.cell (p:=⟨q,0,none⟩) hqw).trans hq) (And.intro ((hb.keep h).cell hold) (frozen_of_row W' b off _ _ (hb.keep h))))
 have cN:=Lib.hid (unlistO_any s W E hs)
 have hbh:=Lib.hid hb
 have hbl:=hb.lt
 have hrd : rdP .ops s.data.toList=(allM rdOp (splitL 44 s.data.toList)).map .ops:=rfl
 generalize allM rdOp (splitL 44 s.data.toList)=o at *
 clear hb hq
 cases o with
 | none=>
   have hn:=Lib.hid (show rdP .ops s.data.toList=none from hrd)
   clear hrd
   go_enter Tryz.func97,Tryz.ntmps97
   go_wp2_with (go_at_call 98;(with_reducible refine cN.out.mono ?_);rintro r w1 ⟨v,x,rfl,hb1,_,hx⟩;obtain ⟨rfl,rfl⟩:=hx rfl;obtain ⟨k1,k2,k3⟩:=hK.out w1 hb1;replace hb1:=Lib.hid hb1;clear hx)
   go_ret
   exact RdR.one rfl hbh.out hb1.out (fun pv h=>absurd (hn.out.symm.trans h) (by simp)) (fun _=>rfl)
 | some l=>
   have hn:=Lib.hid (show rdP .ops s.data.toList=some (.ops l) from hrd)
   clear hrd
   go_enter Tryz.func97,Tryz.ntmps97
   go_wp2_with (go_at_call 98;(with_reducible refine cN.out.mono ?_);rintro r w1 ⟨v,x,rfl,hb1,hx,_⟩;obtain ⟨rfl,hO⟩:=hx l rfl;obtain ⟨A9,c9,rfl,_⟩:=hO.rws;have hS:=hO.sln hbl;rw [List.length_map] at hS;replace hS:=Lib.hid hS;obtain ⟨k1,k2,k3⟩:=hK.out w1 hb1;replace hb1:=Lib.hid hb1;clear hx hO)
   go_ret
   exact RdR.one rfl hbh.out hb1.out (fun pv h=>by obtain rfl:=Option.some.inj (hn.out.symm.trans h);exact ⟨rfl,_,rfl,hS.out⟩) (fun h=>absurd (hn.out.symm.trans h) (by simp))
set_option maxRecDepth 100000 in
set_option maxHeartbeats 4000000 in
theorem read_grants {q b off : Nat} (s : ByteArray) (hs : s.size < 4294967281) (cs : List Value) (W : World) (E : EnvS W) (hq : BoxP W q b off) (hqb : q≠b) (hb : Blk W b cs) (ho : off + 1≤cs.length) :
 Calls Tryz.prog 115 #[.string s,.pointer (some ⟨q,0,none⟩)] W (RdR .grants s.data.toList b off cs W):=by
 unfold BoxP at hq
 have hqw:=block_lt_of_cell hq
 obtain ⟨old,hold⟩ : ∃v,cs[off]? =some v:=⟨cs[off]'(by omega),List.getElem?_eq_getElem _⟩
 have hK:=Lib.hid (fun W' (h : Below W.heap.size W W')=>And.intro ((h.cell (p:=⟨q,0,none⟩) hqw).trans hq) (And.intro ((hb.keep h).cell hold) (frozen_of_row W' b off _ _ (hb.keep h))))
 have cN:=Lib.hid (unlistG_any s W E hs)
 have hbh:=Lib.hid hb
 have hbl:=hb.lt
 have hrd : rdP .grants s.data.toList=(allM rdGr (splitL 44 s.data.toList)).map .grants:=rfl
 generalize allM rdGr (splitL 44 s.data.toList)=o at *
 clear hb hq
 cases o with
 | none=>
   have hn:=Lib.hid (show rdP .grants s.data.toList=none from hrd)
   clear hrd
   go_enter Tryz.func115,Tryz.ntmps115
   go_wp2_with (go_at_call 116;(with_reducible refine cN.out.mono ?_);rintro r w1 ⟨v,x,rfl,hb1,_,hx⟩;obtain ⟨rfl,rfl⟩:=hx rfl;obtain ⟨k1,k2,k3⟩:=hK.out w1 hb1;replace hb1:=Lib.hid hb1;clear hx)
   go_ret
   exact RdR.one rfl hbh.out hb1.out (fun pv h=>absurd (hn.out.symm.trans h) (by simp)) (fun _=>rfl)
 | some l=>
   have hn:=Lib.hid (show rdP .grants s.data.toList=some (.grants l) from hrd)
   clear hrd
   go_enter Tryz.func115,Tryz.ntmps115
   go_wp2_with (go_at_call 116;(with_reducible refine cN.out.mono ?_);rintro r w1 ⟨v,x,rfl,hb1,hx,_⟩;obtain ⟨rfl,hO⟩:=hx l rfl;obtain ⟨A9,c9,rfl,_⟩:=hO.rws;have hS:=hO.sln hbl;rw [List.length_map] at hS;replace hS:=Lib.hid hS;obtain ⟨k1,k2,k3⟩:=hK.out w1 hb1;replace hb1:=Lib.hid hb1;clear hx hO)
   go_ret
   exact RdR.one rfl hbh.out hb1.out (fun pv h=>by obtain rfl:=Option.some.inj (hn.out.symm.trans h);exact ⟨rfl,_,rfl,hS.out⟩) (fun h=>absurd (hn.out.symm.trans h) (by simp))
end Go.Proofs.YtmicohmbmgbnkaaGreatDoor
