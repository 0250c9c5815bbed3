/- The reference's Value at ops. (printed by wip/gen_slm.py) -/
import Derived.Test.YtmicohmbmgbnkaaGreatDoorVb25
namespace Go.Proofs.YtmicohmbmgbnkaaGreatDoor
open Go Go.RowKit Go.Shelf
open Go.Lib (itoa decDigits)
theorem ops_at {W : World} {b k : Nat} (h : Strs W (some ⟨b,0,none⟩) 15 (opW.map bs)) (hk : k < 15) : b < W.heap.size∧W.cell? ⟨b,k,none⟩=some (.string (bs (opW.getD k []))):=by
 obtain ⟨b',off,s,e,hlt,hs,hcell⟩:=h.at_ hk
 obtain ⟨rfl,rfl⟩ : b=b'∧0=off:=by injection e with e;injection e with e1 e2;exact ⟨e1,e2⟩
 rw [List.getElem?_map,List.getElem?_eq_getElem (show k < opW.length from hk)] at hs
 refine ⟨hlt,?_⟩
 rw [Nat.zero_add] at hcell
 rw [hcell,List.getD_eq_getElem?_getD,List.getElem?_eq_getElem (show k < opW.length from hk)]
 simp only [Option.map_some,Option.some.injEq] at hs
 rw [← hs]
 rfl
theorem bs_join3 (c : UInt8) (p q r : List UInt8) : bs (joinL c [p,q,r])=bs p ++ ⟨#[c]⟩ ++ bs q ++ ⟨#[c]⟩ ++ bs r:=by
 rw [joinL_cons (by simp),show c :: joinL c [q,r]=[c] ++ joinL c [q,r] from rfl,← bs_app,← bs_app,bs_join2]
 simp only [ByteArray.append_assoc]
 rfl
theorem wrOp_eq (k : Nat) (a b c : Int) (s : List UInt8) : bs (wrOp ⟨(k : Int),a,b,c,s⟩)=bs (opW.getD k []) ++ ⟨#[58]⟩ ++ bs (joinL 58 ([a,b,c].map itoa)) ++ ⟨#[58]⟩ ++ bs (escL s):=by
 unfold wrOp
 simp only [List.map_cons,List.map_nil,Int.toNat_natCast]
 rw [bs_join5,bs_join3]
 simp only [ByteArray.append_assoc]
theorem ints3_size {a b c : Int} (ha : I64 a) (hb : I64 b) (hc : I64 c) : (bs (joinL 58 ([a,b,c].map itoa))).size≤62:=by
 have h1:=itoa_sz ha
 have h2:=itoa_sz hb
 have h3:=itoa_sz hc
 simp only [List.map_cons,List.map_nil]
 rw [bs_join3]
 simp only [ByteArray.size_append]
 have : (⟨#[58]⟩ : ByteArray).size=1:=rfl
 omega
structure OwI (w2 wb : World) (D : List ByteArray) (u6 : Value) (k : Nat) (y0 y : ByteArray) (ns : List Int) (l1 l4 l5 l13 l14 l21 l22 l23 : Bool) (t6 t44 t47 t56 t64 t65 : Value) (W : World) : Prop where
 s6 : l23=false→t6=u6
 bl : l22=false→Below wb.heap.size wb W
 s44 : l1=true→l4=false→∃b,t44= .slice (some ⟨b,0,none⟩) 15 15∧Strs W (some ⟨b,0,none⟩) 15 (opW.map bs)
 s47 : l4=true→l5=false→∃b,t47= .pointer (some ⟨b,k,none⟩)∧b < W.heap.size∧W.cell? ⟨b,k,none⟩=some (.string y0)
 s56 : l13=true→l14=false→∃g,t56= .slice (some ⟨g,0,none⟩) 3 3∧Rws W 1 (some ⟨g,0,none⟩) 3 (ns.map iv)
 s64 : l21=true→l22=false→∃g,t64= .slice (some ⟨g,0,none⟩) 1 1∧W.rangeAt g 0 (sv y)
 s65 : l22=true→OwnS W w2.heap.size t65 (D ++ [y])∧Below w2.heap.size w2 W
 s9 : l23=true→t6=t65
theorem OwI.grow {w2 wb : World} {D : List ByteArray} {u6 : Value} {k : Nat} {y0 y : ByteArray} {ns : List Int} {l1 l4 l5 l13 l14 l21 l22 l23 : Bool} {t6 t44 t47 t56 t64 t65 : Value} {W W' : World}
 (h : OwI w2 wb D u6 k y0 y ns l1 l4 l5 l13 l14 l21 l22 l23 t6 t44 t47 t56 t64 t65 W) (n22 : ¬l22=true) (n21 : ¬l21=true) (hb : Below W.heap.size W W') : OwI w2 wb D u6 k y0 y ns l1 l4 l5 l13 l14 l21 l22 l23 t6 t44 t47 t56 t64 t65 W':=by
 refine ⟨h.s6,fun h2=>(h.bl h2).trans (hb.mono (h.bl h2).size),fun a1 a2=> ?_,fun a1 a2=> ?_,fun a1 a2=> ?_,fun a1=>absurd a1 n21,fun a1=>absurd a1 n22,h.s9⟩
 · obtain ⟨b,e,hS⟩:=h.s44 a1 a2
   exact ⟨b,e,hS.keep hb⟩
 · obtain ⟨b,e,hlt,hc⟩:=h.s47 a1 a2
   exact ⟨b,e,Nat.lt_of_lt_of_le hlt hb.size,(hb.cell (p:=⟨b,k,none⟩) hlt).trans hc⟩
 · obtain ⟨g,e,hR⟩:=h.s56 a1 a2
   exact ⟨g,e,hR.keep hb⟩
set_option maxRecDepth 100000 in
set_option maxHeartbeats 2000000 in
theorem rops_any (w : World) : Calls Tryz.prog 66 #[] w fun r w'=> ∃b,r= .returned (.slice (some ⟨b,0,none⟩) 15 15)∧Strs w' (some ⟨b,0,none⟩) 15 (opW.map bs)∧Below w.heap.size w w':=by
 go_enter Tryz.func66,Tryz.ntmps66
 go_wp2_with fail
 go_ret
 have hg:=heap_new w (.cells ((opW.map bs).flatMap sv).toArray 9)
 exact ⟨_,rfl,Strs.block (ss:=opW.map bs) hg (Array.getElem?_eq_some_iff.1 hg).1,below_new w _⟩
def dsVo : List (Option Nat):=[some 43,some 44,some 45,some 46,some 47,some 48,some 49,some 50,some 51,some 52,some 53,some 54,some 55,some 56,some 57,some 58,some 59,some 60,some 61,some 62,some 63,some 64,some 65,some 6]
def tbVo : List (List Nat):=[[],[],[],[2],[1,3],[4],[5],[],[7],[],[9],[],[11],[8,10,12],[13],[6,14],[15],[],[17],[18],[16,19],[20],[0,21],[22]]
def vsVo (p : Nat) (ki : Nat) (a : Int) (b : Int) (c : Int) (v : Value) (yz : ByteArray) (y0 : ByteArray) (yi : ByteArray) (ys : ByteArray) : List (Option Value):=[some (v),none,some (.pointer (some ⟨p,0,none⟩)),some (.int .i64 (ki : Int)),none,some (.string y0),some (.string (y0 ++ (⟨#[58]⟩ : ByteArray))),some (.pointer (some ⟨p,1,none⟩)),some (.int .i64 a),some (.pointer (some ⟨p,2,none⟩)),some (.int .i64 b),some (.pointer (some ⟨p,3,none⟩)),some (.int .i64 c),none,some (.string yi),some (.string (y0 ++ (⟨#[58]⟩ : ByteArray) ++ yi)),some (.string (y0 ++ (⟨#[58]⟩ : ByteArray) ++ yi ++ (⟨#[58]⟩ : ByteArray))),some (.pointer (some ⟨p,4,none⟩)),some (.string yz),some (.string ys),some (.string (y0 ++ (⟨#[58]⟩ : ByteArray) ++ yi ++ (⟨#[58]⟩ : ByteArray) ++ ys)),none,none,none]
set_option maxRecDepth 100000 in
set_option maxHeartbeats 4000000 in
theorem value_3 (cs : List Value) (w : World) (l : List OpX) (hI : ∀x∈l,OkOp x) (hl2 : (joinL 44 (l.map wrOp)).length≤1099511627776) (A : Option Addr) (n cc : Nat) (H : Rws w 5 A n (l.map OpX.row)) (hl : cs.length=29) (h1 : cs.toArray.all (·.oneCell')=true) (hc : cs[27]? =some (.slice A n cc)) :
 Calls Tryz.prog 43 #[.agg cs.toArray,.int .i64 3] w fun r w'=>r= .returned (.string (bs (wrPV (.ops l))))∧Below w.heap.size w w':=by
 obtain ⟨hr,hV⟩:=vpre cs w hl h1
 have hgz:=heap_new (w.alloc (.cells cs.toArray 44)) (.cells cfZ 41)
 simp only [World.size_alloc] at hgz
 generalize (cs.drop 2).take 23=fs at hr hV
 have hfi : (Tryz.prog.info? 41).map (·.size)=some fs.length:=by rw [hV.len];kernel_rfl
 have hfi' : (Tryz.prog.info? 41).map (·.size)=some fs.toArray.size:=by rw [List.size_toArray];exact hfi
 have hold : cfZ.size=fs.toArray.size:=by rw [show fs.toArray.size=fs.length from List.size_toArray,hV.len];rfl
 have hone:=hV.one
 replace hV:=Lib.hid hV
 go_enter Tryz.func43,Tryz.ntmps43
 go_upto_region 2 with (first
  | (refine wpList_box_row 44 _ rfl rfl cs.toArray rfl ?_)
  | (refine wpList_load_at 41 _ rfl rfl w.heap.size 2 rfl fs _ hr Tryz.underlying41 rfl hfi ?_)
  | (refine wpList_alloc_row 41 rfl rfl cfZ cf_zero ?_;try simp only [World.size_alloc])
  | (refine wpList_store_at 41 _ _ rfl rfl (w.heap.size + 1) fs.toArray rfl rfl 41 cfZ hgz hfi' hold hone ?_
     rw [show w.heap.size + 1=(w.alloc (.cells cs.toArray 44)).heap.size by simp,setRow_new]
     try simp only [World.size_alloc]))
 generalize (w.alloc (.cells cs.toArray 44)).alloc (.cells fs.toArray 41)=w2 at *
 have hB:=Lib.hid hV.out.below
 have hcell : w2.cell? ⟨w.heap.size,27,none⟩=some (.slice A n cc):=hV.out.b 27 _ hc
 have hH:=Lib.hid (H.keep hB.out)
 have hln : l.length=n:=by have:=H.1;simpa using this
 have hnb : n≤1099511627777:=by have:=joinL_count (c:=44) (l.map wrOp);rw [List.length_map] at this;omega
 have hcw:=Lib.hid (fun W' (h : Below w2.heap.size w2 W')=>(h.cell (p:=⟨w.heap.size,27,none⟩) (show w.heap.size < w2.heap.size by have:=hV.out.lt;omega)).trans hcell)
 have cJ:=Lib.hid (fun A cc W' (hS : Strs W' A n (txt wrOp l))=>rjoin_any 44 (l.map wrOp) A n cc W' hS (by omega) (by omega))
 have hlnh:=Lib.hid hln
 obtain ⟨i0,hi0,hz0,hz1,hz2⟩:=info_parts str_info
 have hO0 : Hid (OwnS w2 w2.heap.size (.slice none 0 0) (txt wrOp (l.take 0))):=Lib.hid (OwnR.nil_ w2 w2.heap.size 1 9)
 have hln2:=Lib.hid (fun x (hx : x∈l)=>(show (escL x.s).length≤3298534883328∧x.s.length≤1099511627776 from by have:=joinL_len_le (c:=44) (List.mem_map_of_mem (f:=wrOp) hx);have:=wrOp_len x;have:=escL_len x.s;omega))
 clear hc H hcell hr hgz hfi hfi' hold hone hl2
 go_wp2_with fail
 go_loopw [6,7] (fun v kv wr=> ∃k : Nat,k≤n∧kv= .int .i64 k∧Hid (OwnS wr w2.heap.size v (txt wrOp (l.take k)))∧Hid (Below w2.heap.size w2 wr)) (fun _ kv _=>n - (intOf kv).toNat)
 case atStart=>exact ⟨0,Nat.zero_le _,rfl,hO0,Lib.hid (Below.refl _ _)⟩
 case round=>
  clear hO0
  obtain ⟨k,hk,rfl,hO,hBr⟩:=hrel
  have hcr:=hcw.out wr hBr.out
  by_cases hlt : k < n
  · have hlt' : (k : Int) < (n : Int):=by omega
    obtain ⟨b2,off2,z,rfl,hb2,hz,_,hr2⟩:=Rws.row hH.out hlt
    obtain ⟨x,hx,rfl⟩:=map_at hz
    have hxm:=List.mem_of_getElem? hx
    have htk:=txt_snoc (f:=wrOp) hx
    have hlen : (txt wrOp (l.take k)).length≤1099511627777:=by rw [txt_len,List.length_take];omega
    have hrk:=rangeAt_keep hr2 hBr.out hb2
    have hus:=hln2.out x hxm
    have hwI:=hI x hxm
    generalize txt wrOp (l.take k)=D at *
    obtain ⟨kk,a,b,c,s⟩:=x
    obtain ⟨h0,h15,ha,hb,hc⟩:=hwI
    dsimp only at h0 h15 ha hb hc hus
    obtain ⟨ki,rfl⟩:=Int.eq_ofNat_of_zero_le h0
    have hki : ki < 15:=by omega
    have hrk2 : wr.rangeAt b2 (off2 + k * 5) [.int .i64 (ki : Int),.int .i64 a,.int .i64 b,.int .i64 c,.string (bs s)]:=hrk
    have hgzo:=heap_new wr (.cells opZ 85)
    have hone : ([Value.int .i64 (ki : Int),.int .i64 a,.int .i64 b,.int .i64 c,.string (bs s)].toArray).all (·.oneCell')=true:=by simp [Value.oneCell']
    clear hrk
    go_upto_region 14 with fail
    go_upto_region 15 with (first
     | (refine wpList_load_at 85 _ rfl rfl b2 (off2 + k * 5) rfl [.int .i64 (ki : Int),.int .i64 a,.int .i64 b,.int .i64 c,.string (bs s)] _ hrk2 Tryz.underlying85 rfl (by kernel_rfl) ?_)
     | (refine wpList_alloc_row 85 rfl rfl opZ op_zero ?_;try simp only [World.size_alloc])
     | (refine wpList_store_at 85 _ _ rfl rfl wr.heap.size [.int .i64 (ki : Int),.int .i64 a,.int .i64 b,.int .i64 c,.string (bs s)].toArray rfl rfl 85 opZ hgzo (by kernel_rfl) rfl hone ?_
        rw [setRow_new]))
    change Code.wp _ _ _ ⟨#[.agg cs.toArray,.int .i64 3,.pointer (some ⟨w.heap.size,0,none⟩),undef,.string ⟨#[]⟩,.pointer (some ⟨w.heap.size + 1,0,none⟩),u6,.int .i64 ↑k,.pointer (some ⟨wr.heap.size,0,none⟩),undef,undef,.pointer (some ⟨w.heap.size,2,none⟩),.agg fs.toArray,.int .i64 3,.bool false,.bool false,undef,undef,undef,.bool false,.bool false,undef,undef,undef,.bool false,.bool false,undef,undef,undef,.bool true,.bool true,.int .i64 ↑k,.pointer (some ⟨w.heap.size,27,none⟩),.slice (some ⟨b2,off2,none⟩) n cc,.int .i64 ↑n,.bool true,u36,u37,.pointer (some ⟨w.heap.size,27,none⟩),.slice (some ⟨b2,off2,none⟩) n cc,.int .i64 ↑k,.pointer (some ⟨b2,off2 + k * 5,none⟩),.agg [.int .i64 (ki : Int),.int .i64 a,.int .i64 b,.int .i64 c,.string (bs s)].toArray,u43,u44,u45,u46,u47,u48,u49,u50,u51,u52,u53,u54,u55,u56,u57,u58,u59,u60,u61,u62,u63,u64,u65,undef,undef,undef,undef,undef,undef,undef,undef,undef,undef,undef,undef,undef,undef,undef,undef,undef,undef,undef,undef,undef,undef,undef,undef,undef,undef,undef,undef,undef,undef,undef,undef,undef,undef,undef,undef,undef,undef,undef,undef,undef,undef,undef,undef,undef,undef,undef,undef,undef,undef,undef,undef,undef,undef,undef,undef,undef,undef,undef,undef,undef,undef,undef,undef,undef,undef,undef,undef,undef],[]⟩ _
    obtain ⟨wb,hwb⟩ : ∃x,wr.alloc (.cells [.int .i64 (ki : Int),.int .i64 a,.int .i64 b,.int .i64 c,.string (bs s)].toArray 85)=x:=⟨_,rfl⟩
    have hbw : Below wr.heap.size wr wb:=by rw [← hwb];exact below_new wr _
    have hgw : wb.heap[wr.heap.size]? =some (.cells [.int .i64 (ki : Int),.int .i64 a,.int .i64 b,.int .i64 c,.string (bs s)].toArray 85):=by rw [← hwb];exact heap_new wr _
    rw [hwb]
    have hltw:=(Array.getElem?_eq_some_iff.1 hgw).1
    have hCl:=Lib.hid (fun W' (h : Below wb.heap.size wb W')=>(show W'.cell? ⟨wr.heap.size,0,none⟩=some (.int .i64 (ki : Int))∧W'.cell? ⟨wr.heap.size,1,none⟩=some (.int .i64 a)∧W'.cell? ⟨wr.heap.size,2,none⟩=some (.int .i64 b)∧W'.cell? ⟨wr.heap.size,3,none⟩=some (.int .i64 c)∧W'.cell? ⟨wr.heap.size,4,none⟩=some (.string (bs s)) from And.intro ((h.cell (p:=⟨wr.heap.size,0,none⟩) hltw).trans (cell_of_row _ _ 0 _ _ _ hgw)) (And.intro ((h.cell (p:=⟨wr.heap.size,1,none⟩) hltw).trans (cell_of_row _ _ 1 _ _ _ hgw)) (And.intro ((h.cell (p:=⟨wr.heap.size,2,none⟩) hltw).trans (cell_of_row _ _ 2 _ _ _ hgw)) (And.intro ((h.cell (p:=⟨wr.heap.size,3,none⟩) hltw).trans (cell_of_row _ _ 3 _ _ _ hgw)) ((h.cell (p:=⟨wr.heap.size,4,none⟩) hltw).trans (cell_of_row _ _ 4 _ _ _ hgw)))))))
    have hO9:=Lib.hid (hO.out.keep hbw)
    have hB9:=Lib.hid (hBr.out.trans (hbw.mono hBr.out.size))
    have hat:=Lib.hid (fun b' W' (h : Strs W' (some ⟨b',0,none⟩) 15 (opW.map bs))=>ops_at h hki)
    have cE:=Lib.hid (fun W'=>rescape_any (bs s) W' (by rw [bs_size];exact hus.2))
    rw [bs_list] at cE
    have cI:=Lib.hid (fun g' W' (h : Rws W' 1 (some ⟨g',0,none⟩) 3 ([a,b,c].map iv))=>rints_any 58 [a,b,c] (some ⟨g',0,none⟩) 3 3 W' h (fun x hx=>by simp only [List.mem_cons,List.not_mem_nil,or_false] at hx;rcases hx with rfl | rfl | rfl <;> assumption) (by decide))
    have cO:=Lib.hid rops_any
    have h2:=opW_size ki hki
    have h3:=ints3_size ha hb hc
    have h4 : (bs (escL s)).size≤3298534883328:=by rw [bs_size];exact hus.1
    have e1:=wrOp_eq ki a b c s
    rw [e1] at htk
    replace htk:=Lib.hid htk
    have hln4:=Lib.hid hlen
    clear hwb hgw hltw hbw e1 hr2 hz hx hxm hus ha hb hc hcr hlen hrk2 hgzo hone h0 h15
    generalize bs (escL s)=ys at *
    generalize bs (joinL 58 ([a,b,c].map itoa))=yi at *
    generalize bs (opW.getD ki [])=y0 at *
    generalize bs s=yz at *
    have q6:=Lib.hid (show ¬9223372036854775807 < y0.size + 1 by omega)
    have q15:=Lib.hid (show ¬9223372036854775807 < y0.size + 1 + yi.size by omega)
    have q16:=Lib.hid (show ¬9223372036854775807 < y0.size + 1 + yi.size + 1 by omega)
    have q20:=Lib.hid (show ¬9223372036854775807 < y0.size + 1 + yi.size + 1 + ys.size by omega)
    have hk3:=Lib.hid hki
    clear h2 h3 h4
    refine region_iw tbVo dsVo (vsVo (wr.heap.size) ki a b c u6 yz y0 yi ys) (fun L T W=>OwI w2 wb D u6 ki y0 (y0 ++ (⟨#[58]⟩ : ByteArray) ++ yi ++ (⟨#[58]⟩ : ByteArray) ++ ys) [a,b,c] (L 1) (L 4) (L 5) (L 13) (L 14) (L 21) (L 22) (L 23) (T.getD 6 undef) (T.getD 44 undef) (T.getD 47 undef) (T.getD 56 undef) (T.getD 64 undef) (T.getD 65 undef) W) rfl (by decide) (by kernel_rfl) ?hlt ?hstep ?hdone ?hstart
    case hstart=>exact ⟨fun _=>rfl,fun _=>drewN_below 1,fun h=>absurd h (inv_not (n:=24) (i:=1) (by decide)),fun h=>absurd h (inv_not (n:=24) (i:=4) (by decide)),fun h=>absurd h (inv_not (n:=24) (i:=13) (by decide)),fun h=>absurd h (inv_not (n:=24) (i:=21) (by decide)),fun h=>absurd h (inv_not (n:=24) (i:=22) (by decide)),fun h=>absurd h (inv_not (n:=24) (i:=23) (by decide))⟩
    case hlt=>
     intro ix o ho
     have hi:=(Array.getElem?_eq_some_iff.1 ho).1
     match ix,hi with
     | 0,_=>obtain rfl:=Option.some.inj ho;decide
     | 1,_=>obtain rfl:=Option.some.inj ho;decide
     | 2,_=>obtain rfl:=Option.some.inj ho;decide
     | 3,_=>obtain rfl:=Option.some.inj ho;decide
     | 4,_=>obtain rfl:=Option.some.inj ho;decide
     | 5,_=>obtain rfl:=Option.some.inj ho;decide
     | 6,_=>obtain rfl:=Option.some.inj ho;decide
     | 7,_=>obtain rfl:=Option.some.inj ho;decide
     | 8,_=>obtain rfl:=Option.some.inj ho;decide
     | 9,_=>obtain rfl:=Option.some.inj ho;decide
     | 10,_=>obtain rfl:=Option.some.inj ho;decide
     | 11,_=>obtain rfl:=Option.some.inj ho;decide
     | 12,_=>obtain rfl:=Option.some.inj ho;decide
     | 13,_=>obtain rfl:=Option.some.inj ho;decide
     | 14,_=>obtain rfl:=Option.some.inj ho;decide
     | 15,_=>obtain rfl:=Option.some.inj ho;decide
     | 16,_=>obtain rfl:=Option.some.inj ho;decide
     | 17,_=>obtain rfl:=Option.some.inj ho;decide
     | 18,_=>obtain rfl:=Option.some.inj ho;decide
     | 19,_=>obtain rfl:=Option.some.inj ho;decide
     | 20,_=>obtain rfl:=Option.some.inj ho;decide
     | 21,_=>obtain rfl:=Option.some.inj ho;decide
     | 22,_=>obtain rfl:=Option.some.inj ho;decide
     | 23,_=>obtain rfl:=Option.some.inj ho;decide
    case hstep=>
     intro T1 hE L T W ix o hF hW hc ho hLi hd K hK
     have hN : T1.size=135:=by rw [hE];rfl
     have f8 : T.getD 8 undef= .pointer (some ⟨(wr.heap.size),0,none⟩):=(hF.old 8 (by decide)).trans (by rw [hE];rfl)
     clear hE
     replace hF:=Lib.hid hF
     replace hW:=Lib.hid hW
     replace hK:=Lib.hid hK
     have hi:=(List.getElem?_eq_some_iff.1 ho).1
     match ix,hi with
     | 0,_=>
       obtain rfl:=Option.some.inj ho
       have n22 : ¬L 22=true:=fun h=>by have:=hc 22 0 h (by decide);rw [hLi] at this;cases this
       have n23 : ¬L 23=true:=fun h=>n22 (hc 23 22 h (by decide))
       have e6:=hW.out.s6 (by simpa using n23)
       clear hd ho hi hc
       exact st_val (v:=u6) (w':=W) (want_none rfl) (by unfold execOp;dsimp only [Act.eval];simp only [e6];go_simp) (hK.out _ _ (hF.out.putv (k:=0) (s:=43) rfl (by decide) hN (by decide) rfl (by dsimp only;rw [gd_ne (show 43≠6 by decide),gd_ne (show 43≠44 by decide),gd_ne (show 43≠47 by decide),gd_ne (show 43≠56 by decide),gd_ne (show 43≠64 by decide),gd_ne (show 43≠65 by decide)];exact hW.out)))
     | 1,_=>
       obtain rfl:=Option.some.inj ho
       have n4 : ¬L 4=true:=fun h=>by have:=hc 4 1 h (by decide);rw [hLi] at this;cases this
       have n5 : ¬L 5=true:=fun h=>n4 (hc 5 4 h (by decide))
       have n6 : ¬L 6=true:=fun h=>n5 (hc 6 5 h (by decide))
       have n15 : ¬L 15=true:=fun h=>n6 (hc 15 6 h (by decide))
       have n16 : ¬L 16=true:=fun h=>n15 (hc 16 15 h (by decide))
       have n20 : ¬L 20=true:=fun h=>n16 (hc 20 16 h (by decide))
       have n21 : ¬L 21=true:=fun h=>n20 (hc 21 20 h (by decide))
       have n22 : ¬L 22=true:=fun h=>n21 (hc 22 21 h (by decide))
       have n23 : ¬L 23=true:=fun h=>n22 (hc 23 22 h (by decide))
       have cc:=Lib.hid (cO.out W)
       clear hd ho hi hc
       refine st_call (want_none rfl) (by unfold execOp;go_simp) cc.out ?_
       rintro r w3 ⟨b',rfl,hS,hb⟩
       exact ⟨_,rfl,hK.out _ _ (hF.out.put (k:=1) (s:=44) rfl (by decide) hN (by decide) (fun u hu=>by cases hu) (by dsimp only;rw [gd_ne (show 44≠6 by decide),gd_ne (show 44≠47 by decide),gd_ne (show 44≠56 by decide),gd_ne (show 44≠64 by decide),gd_ne (show 44≠65 by decide)];exact (by rw [gd_eq (by rw [hF.out.size,hN];decide)];exact { hW.out.grow n22 n21 hb with s44:=fun _ _=>⟨b',rfl,hS⟩ })))⟩
     | 2,_=>
       obtain rfl:=Option.some.inj ho
       clear hd ho hi hc hLi
       exact st_val (v:= .pointer (some ⟨(wr.heap.size),0,none⟩)) (w':=W) (want_none rfl) (by unfold execOp;dsimp only [Act.eval];simp only [f8];go_simp) (hK.out _ _ (hF.out.putv (k:=2) (s:=45) rfl (by decide) hN (by decide) rfl (by dsimp only;rw [gd_ne (show 45≠6 by decide),gd_ne (show 45≠44 by decide),gd_ne (show 45≠47 by decide),gd_ne (show 45≠56 by decide),gd_ne (show 45≠64 by decide),gd_ne (show 45≠65 by decide)];exact hW.out)))
     | 3,_=>
       obtain rfl:=Option.some.inj ho
       have l2 : L 2=true:=dep_of hd (n:=2) (by decide)
       have e45 : T.getD 45 undef= .pointer (some ⟨(wr.heap.size),0,none⟩):=hF.out.val 2 45 _ l2 rfl rfl
       have n4 : ¬L 4=true:=fun h=>by have:=hc 4 3 h (by decide);rw [hLi] at this;cases this
       have n5 : ¬L 5=true:=fun h=>n4 (hc 5 4 h (by decide))
       have n6 : ¬L 6=true:=fun h=>n5 (hc 6 5 h (by decide))
       have n15 : ¬L 15=true:=fun h=>n6 (hc 15 6 h (by decide))
       have n16 : ¬L 16=true:=fun h=>n15 (hc 16 15 h (by decide))
       have n20 : ¬L 20=true:=fun h=>n16 (hc 20 16 h (by decide))
       have n21 : ¬L 21=true:=fun h=>n20 (hc 21 20 h (by decide))
       have n22 : ¬L 22=true:=fun h=>n21 (hc 22 21 h (by decide))
       have hbw:=hW.out.bl (by simpa using n22)
       have hcc:=(hCl.out W hbw).1
       clear hd ho hi hc
       exact st_val (v:= .int .i64 (ki : Int)) (w':=W) (want_none rfl) (by unfold execOp;dsimp only [Act.eval];simp only [e45];go_simp) (hK.out _ _ (hF.out.putv (k:=3) (s:=46) rfl (by decide) hN (by decide) rfl (by dsimp only;rw [gd_ne (show 46≠6 by decide),gd_ne (show 46≠44 by decide),gd_ne (show 46≠47 by decide),gd_ne (show 46≠56 by decide),gd_ne (show 46≠64 by decide),gd_ne (show 46≠65 by decide)];exact hW.out)))
     | 4,_=>
       obtain rfl:=Option.some.inj ho
       have l1 : L 1=true:=dep_of hd (n:=1) (by decide)
       have l3 : L 3=true:=dep_of hd (n:=3) (by decide)
       have e46 : T.getD 46 undef= .int .i64 (ki : Int):=hF.out.val 3 46 _ l3 rfl rfl
       obtain ⟨b',e44,hS⟩:=hW.out.s44 l1 hLi
       obtain ⟨hlt9,hcl9⟩:=hat.out b' W hS
       have hki3:=hk3.out
       have hki4 : (ki : Int) < 15:=by omega
       clear hd ho hi hc
       exact st_val (v:= .pointer (some ⟨b',ki,none⟩)) (w':=W) (want_none rfl) (by unfold execOp;dsimp only [Act.eval];simp only [e44,e46];go_simp) (hK.out _ _ (hF.out.put (k:=4) (s:=47) rfl (by decide) hN (by decide) (fun u hu=>by cases hu) (by dsimp only;rw [gd_ne (show 47≠6 by decide),gd_ne (show 47≠44 by decide),gd_ne (show 47≠56 by decide),gd_ne (show 47≠64 by decide),gd_ne (show 47≠65 by decide)];exact (by rw [gd_eq (by rw [hF.out.size,hN];decide)];exact { hW.out with s44:=fun _ h=>absurd h (by simp),s47:=fun _ _=>⟨b',rfl,hlt9,hcl9⟩ }))))
     | 5,_=>
       obtain rfl:=Option.some.inj ho
       have l4 : L 4=true:=dep_of hd (n:=4) (by decide)
       obtain ⟨b',e47,hlt9,hcl9⟩:=hW.out.s47 l4 hLi
       clear hd ho hi hc
       exact st_val (v:= .string y0) (w':=W) (want_none rfl) (by unfold execOp;dsimp only [Act.eval];simp only [e47];go_simp) (hK.out _ _ (hF.out.putv (k:=5) (s:=48) rfl (by decide) hN (by decide) rfl (by dsimp only;rw [gd_ne (show 48≠6 by decide),gd_ne (show 48≠44 by decide),gd_ne (show 48≠47 by decide),gd_ne (show 48≠56 by decide),gd_ne (show 48≠64 by decide),gd_ne (show 48≠65 by decide)];exact { hW.out with s47:=fun _ h=>absurd h (by simp) })))
     | 6,_=>
       obtain rfl:=Option.some.inj ho
       have l5 : L 5=true:=dep_of hd (n:=5) (by decide)
       have e48 : T.getD 48 undef= .string y0:=hF.out.val 5 48 _ l5 rfl rfl
       have hq:=q6.out
       clear hd ho hi hc hLi
       exact st_val (v:= .string (y0 ++ (⟨#[58]⟩ : ByteArray))) (w':=W) (want_none rfl) (by unfold execOp;dsimp only [Act.eval];simp only [e48];go_simp) (hK.out _ _ (hF.out.putv (k:=6) (s:=49) rfl (by decide) hN (by decide) rfl (by dsimp only;rw [gd_ne (show 49≠6 by decide),gd_ne (show 49≠44 by decide),gd_ne (show 49≠47 by decide),gd_ne (show 49≠56 by decide),gd_ne (show 49≠64 by decide),gd_ne (show 49≠65 by decide)];exact hW.out)))
     | 7,_=>
       obtain rfl:=Option.some.inj ho
       clear hd ho hi hc hLi
       exact st_val (v:= .pointer (some ⟨(wr.heap.size),1,none⟩)) (w':=W) (want_none rfl) (by unfold execOp;dsimp only [Act.eval];simp only [f8];go_simp) (hK.out _ _ (hF.out.putv (k:=7) (s:=50) rfl (by decide) hN (by decide) rfl (by dsimp only;rw [gd_ne (show 50≠6 by decide),gd_ne (show 50≠44 by decide),gd_ne (show 50≠47 by decide),gd_ne (show 50≠56 by decide),gd_ne (show 50≠64 by decide),gd_ne (show 50≠65 by decide)];exact hW.out)))
     | 8,_=>
       obtain rfl:=Option.some.inj ho
       have l7 : L 7=true:=dep_of hd (n:=7) (by decide)
       have e50 : T.getD 50 undef= .pointer (some ⟨(wr.heap.size),1,none⟩):=hF.out.val 7 50 _ l7 rfl rfl
       have n13 : ¬L 13=true:=fun h=>by have:=hc 13 8 h (by decide);rw [hLi] at this;cases this
       have n14 : ¬L 14=true:=fun h=>n13 (hc 14 13 h (by decide))
       have n15 : ¬L 15=true:=fun h=>n14 (hc 15 14 h (by decide))
       have n16 : ¬L 16=true:=fun h=>n15 (hc 16 15 h (by decide))
       have n20 : ¬L 20=true:=fun h=>n16 (hc 20 16 h (by decide))
       have n21 : ¬L 21=true:=fun h=>n20 (hc 21 20 h (by decide))
       have n22 : ¬L 22=true:=fun h=>n21 (hc 22 21 h (by decide))
       have hbw:=hW.out.bl (by simpa using n22)
       have hcc:=(hCl.out W hbw).2.1
       clear hd ho hi hc
       exact st_val (v:= .int .i64 a) (w':=W) (want_none rfl) (by unfold execOp;dsimp only [Act.eval];simp only [e50];go_simp) (hK.out _ _ (hF.out.putv (k:=8) (s:=51) rfl (by decide) hN (by decide) rfl (by dsimp only;rw [gd_ne (show 51≠6 by decide),gd_ne (show 51≠44 by decide),gd_ne (show 51≠47 by decide),gd_ne (show 51≠56 by decide),gd_ne (show 51≠64 by decide),gd_ne (show 51≠65 by decide)];exact hW.out)))
     | 9,_=>
       obtain rfl:=Option.some.inj ho
       clear hd ho hi hc hLi
       exact st_val (v:= .pointer (some ⟨(wr.heap.size),2,none⟩)) (w':=W) (want_none rfl) (by unfold execOp;dsimp only [Act.eval];simp only [f8];go_simp) (hK.out _ _ (hF.out.putv (k:=9) (s:=52) rfl (by decide) hN (by decide) rfl (by dsimp only;rw [gd_ne (show 52≠6 by decide),gd_ne (show 52≠44 by decide),gd_ne (show 52≠47 by decide),gd_ne (show 52≠56 by decide),gd_ne (show 52≠64 by decide),gd_ne (show 52≠65 by decide)];exact hW.out)))
     | 10,_=>
       obtain rfl:=Option.some.inj ho
       have l9 : L 9=true:=dep_of hd (n:=9) (by decide)
       have e52 : T.getD 52 undef= .pointer (some ⟨(wr.heap.size),2,none⟩):=hF.out.val 9 52 _ l9 rfl rfl
       have n13 : ¬L 13=true:=fun h=>by have:=hc 13 10 h (by decide);rw [hLi] at this;cases this
       have n14 : ¬L 14=true:=fun h=>n13 (hc 14 13 h (by decide))
       have n15 : ¬L 15=true:=fun h=>n14 (hc 15 14 h (by decide))
       have n16 : ¬L 16=true:=fun h=>n15 (hc 16 15 h (by decide))
       have n20 : ¬L 20=true:=fun h=>n16 (hc 20 16 h (by decide))
       have n21 : ¬L 21=true:=fun h=>n20 (hc 21 20 h (by decide))
       have n22 : ¬L 22=true:=fun h=>n21 (hc 22 21 h (by decide))
       have hbw:=hW.out.bl (by simpa using n22)
       have hcc:=(hCl.out W hbw).2.2.1
       clear hd ho hi hc
       exact st_val (v:= .int .i64 b) (w':=W) (want_none rfl) (by unfold execOp;dsimp only [Act.eval];simp only [e52];go_simp) (hK.out _ _ (hF.out.putv (k:=10) (s:=53) rfl (by decide) hN (by decide) rfl (by dsimp only;rw [gd_ne (show 53≠6 by decide),gd_ne (show 53≠44 by decide),gd_ne (show 53≠47 by decide),gd_ne (show 53≠56 by decide),gd_ne (show 53≠64 by decide),gd_ne (show 53≠65 by decide)];exact hW.out)))
     | 11,_=>
       obtain rfl:=Option.some.inj ho
       clear hd ho hi hc hLi
       exact st_val (v:= .pointer (some ⟨(wr.heap.size),3,none⟩)) (w':=W) (want_none rfl) (by unfold execOp;dsimp only [Act.eval];simp only [f8];go_simp) (hK.out _ _ (hF.out.putv (k:=11) (s:=54) rfl (by decide) hN (by decide) rfl (by dsimp only;rw [gd_ne (show 54≠6 by decide),gd_ne (show 54≠44 by decide),gd_ne (show 54≠47 by decide),gd_ne (show 54≠56 by decide),gd_ne (show 54≠64 by decide),gd_ne (show 54≠65 by decide)];exact hW.out)))
     | 12,_=>
       obtain rfl:=Option.some.inj ho
       have l11 : L 11=true:=dep_of hd (n:=11) (by decide)
       have e54 : T.getD 54 undef= .pointer (some ⟨(wr.heap.size),3,none⟩):=hF.out.val 11 54 _ l11 rfl rfl
       have n13 : ¬L 13=true:=fun h=>by have:=hc 13 12 h (by decide);rw [hLi] at this;cases this
       have n14 : ¬L 14=true:=fun h=>n13 (hc 14 13 h (by decide))
       have n15 : ¬L 15=true:=fun h=>n14 (hc 15 14 h (by decide))
       have n16 : ¬L 16=true:=fun h=>n15 (hc 16 15 h (by decide))
       have n20 : ¬L 20=true:=fun h=>n16 (hc 20 16 h (by decide))
       have n21 : ¬L 21=true:=fun h=>n20 (hc 21 20 h (by decide))
       have n22 : ¬L 22=true:=fun h=>n21 (hc 22 21 h (by decide))
       have hbw:=hW.out.bl (by simpa using n22)
       have hcc:=(hCl.out W hbw).2.2.2.1
       clear hd ho hi hc
       exact st_val (v:= .int .i64 c) (w':=W) (want_none rfl) (by unfold execOp;dsimp only [Act.eval];simp only [e54];go_simp) (hK.out _ _ (hF.out.putv (k:=12) (s:=55) rfl (by decide) hN (by decide) rfl (by dsimp only;rw [gd_ne (show 55≠6 by decide),gd_ne (show 55≠44 by decide),gd_ne (show 55≠47 by decide),gd_ne (show 55≠56 by decide),gd_ne (show 55≠64 by decide),gd_ne (show 55≠65 by decide)];exact hW.out)))
     | 13,_=>
       obtain rfl:=Option.some.inj ho
       have l8 : L 8=true:=dep_of hd (n:=8) (by decide)
       have e51 : T.getD 51 undef= .int .i64 a:=hF.out.val 8 51 _ l8 rfl rfl
       have l10 : L 10=true:=dep_of hd (n:=10) (by decide)
       have e53 : T.getD 53 undef= .int .i64 b:=hF.out.val 10 53 _ l10 rfl rfl
       have l12 : L 12=true:=dep_of hd (n:=12) (by decide)
       have e55 : T.getD 55 undef= .int .i64 c:=hF.out.val 12 55 _ l12 rfl rfl
       have n14 : ¬L 14=true:=fun h=>by have:=hc 14 13 h (by decide);rw [hLi] at this;cases this
       have n15 : ¬L 15=true:=fun h=>n14 (hc 15 14 h (by decide))
       have n16 : ¬L 16=true:=fun h=>n15 (hc 16 15 h (by decide))
       have n20 : ¬L 20=true:=fun h=>n16 (hc 20 16 h (by decide))
       have n21 : ¬L 21=true:=fun h=>n20 (hc 21 20 h (by decide))
       have n22 : ¬L 22=true:=fun h=>n21 (hc 22 21 h (by decide))
       have n23 : ¬L 23=true:=fun h=>n22 (hc 23 22 h (by decide))
       have hbn:=below_new W (.cells #[.int .i64 a,.int .i64 b,.int .i64 c] 3)
       have hgn:=heap_new W (.cells #[.int .i64 a,.int .i64 b,.int .i64 c] 3)
       clear hd ho hi hc
       exact st_val (v:= .slice (some ⟨W.heap.size,0,none⟩) 3 3) (w':=W.alloc (.cells #[.int .i64 a,.int .i64 b,.int .i64 c] 3)) (want_none rfl) (by unfold execOp;simp only [List.map_toArray,List.map_cons,List.map_nil,Act.eval,e51,e53,e55];go_simp) (hK.out _ _ (hF.out.put (k:=13) (s:=56) rfl (by decide) hN (by decide) (fun u hu=>by cases hu) (by dsimp only;rw [gd_ne (show 56≠6 by decide),gd_ne (show 56≠44 by decide),gd_ne (show 56≠47 by decide),gd_ne (show 56≠64 by decide),gd_ne (show 56≠65 by decide)];exact (by rw [gd_eq (by rw [hF.out.size,hN];decide)];exact { hW.out.grow n22 n21 hbn with s56:=fun _ _=>⟨W.heap.size,rfl,Rws.block (zs:=[a,b,c].map iv) (by intro z hz;simp at hz;rcases hz with rfl | rfl | rfl <;> rfl) hgn (Array.getElem?_eq_some_iff.1 hgn).1⟩ }))))
     | 14,_=>
       obtain rfl:=Option.some.inj ho
       have l13 : L 13=true:=dep_of hd (n:=13) (by decide)
       have n15 : ¬L 15=true:=fun h=>by have:=hc 15 14 h (by decide);rw [hLi] at this;cases this
       have n16 : ¬L 16=true:=fun h=>n15 (hc 16 15 h (by decide))
       have n20 : ¬L 20=true:=fun h=>n16 (hc 20 16 h (by decide))
       have n21 : ¬L 21=true:=fun h=>n20 (hc 21 20 h (by decide))
       have n22 : ¬L 22=true:=fun h=>n21 (hc 22 21 h (by decide))
       have n23 : ¬L 23=true:=fun h=>n22 (hc 23 22 h (by decide))
       obtain ⟨g',e56,hR⟩:=hW.out.s56 l13 hLi
       have cc:=Lib.hid (cI.out g' W hR)
       clear hd ho hi hc
       refine st_call (want_none rfl) (by unfold execOp;simp only [e56];go_simp) cc.out ?_
       rintro r w3 ⟨rfl,hb⟩
       exact ⟨_,rfl,hK.out _ _ (hF.out.putv (k:=14) (s:=57) rfl (by decide) hN (by decide) rfl (by dsimp only;rw [gd_ne (show 57≠6 by decide),gd_ne (show 57≠44 by decide),gd_ne (show 57≠47 by decide),gd_ne (show 57≠56 by decide),gd_ne (show 57≠64 by decide),gd_ne (show 57≠65 by decide)];exact { hW.out.grow n22 n21 hb with s56:=fun _ h=>absurd h (by simp) }))⟩
     | 15,_=>
       obtain rfl:=Option.some.inj ho
       have l6 : L 6=true:=dep_of hd (n:=6) (by decide)
       have e49 : T.getD 49 undef= .string (y0 ++ (⟨#[58]⟩ : ByteArray)):=hF.out.val 6 49 _ l6 rfl rfl
       have l14 : L 14=true:=dep_of hd (n:=14) (by decide)
       have e57 : T.getD 57 undef= .string yi:=hF.out.val 14 57 _ l14 rfl rfl
       have hq:=q15.out
       clear hd ho hi hc hLi
       exact st_val (v:= .string (y0 ++ (⟨#[58]⟩ : ByteArray) ++ yi)) (w':=W) (want_none rfl) (by unfold execOp;dsimp only [Act.eval];simp only [e49,e57];go_simp) (hK.out _ _ (hF.out.putv (k:=15) (s:=58) rfl (by decide) hN (by decide) rfl (by dsimp only;rw [gd_ne (show 58≠6 by decide),gd_ne (show 58≠44 by decide),gd_ne (show 58≠47 by decide),gd_ne (show 58≠56 by decide),gd_ne (show 58≠64 by decide),gd_ne (show 58≠65 by decide)];exact hW.out)))
     | 16,_=>
       obtain rfl:=Option.some.inj ho
       have l15 : L 15=true:=dep_of hd (n:=15) (by decide)
       have e58 : T.getD 58 undef= .string (y0 ++ (⟨#[58]⟩ : ByteArray) ++ yi):=hF.out.val 15 58 _ l15 rfl rfl
       have hq:=q16.out
       clear hd ho hi hc hLi
       exact st_val (v:= .string (y0 ++ (⟨#[58]⟩ : ByteArray) ++ yi ++ (⟨#[58]⟩ : ByteArray))) (w':=W) (want_none rfl) (by unfold execOp;dsimp only [Act.eval];simp only [e58];go_simp) (hK.out _ _ (hF.out.putv (k:=16) (s:=59) rfl (by decide) hN (by decide) rfl (by dsimp only;rw [gd_ne (show 59≠6 by decide),gd_ne (show 59≠44 by decide),gd_ne (show 59≠47 by decide),gd_ne (show 59≠56 by decide),gd_ne (show 59≠64 by decide),gd_ne (show 59≠65 by decide)];exact hW.out)))
     | 17,_=>
       obtain rfl:=Option.some.inj ho
       clear hd ho hi hc hLi
       exact st_val (v:= .pointer (some ⟨(wr.heap.size),4,none⟩)) (w':=W) (want_none rfl) (by unfold execOp;dsimp only [Act.eval];simp only [f8];go_simp) (hK.out _ _ (hF.out.putv (k:=17) (s:=60) rfl (by decide) hN (by decide) rfl (by dsimp only;rw [gd_ne (show 60≠6 by decide),gd_ne (show 60≠44 by decide),gd_ne (show 60≠47 by decide),gd_ne (show 60≠56 by decide),gd_ne (show 60≠64 by decide),gd_ne (show 60≠65 by decide)];exact hW.out)))
     | 18,_=>
       obtain rfl:=Option.some.inj ho
       have l17 : L 17=true:=dep_of hd (n:=17) (by decide)
       have e60 : T.getD 60 undef= .pointer (some ⟨(wr.heap.size),4,none⟩):=hF.out.val 17 60 _ l17 rfl rfl
       have n19 : ¬L 19=true:=fun h=>by have:=hc 19 18 h (by decide);rw [hLi] at this;cases this
       have n20 : ¬L 20=true:=fun h=>n19 (hc 20 19 h (by decide))
       have n21 : ¬L 21=true:=fun h=>n20 (hc 21 20 h (by decide))
       have n22 : ¬L 22=true:=fun h=>n21 (hc 22 21 h (by decide))
       have hbw:=hW.out.bl (by simpa using n22)
       have hcc:=(hCl.out W hbw).2.2.2.2
       clear hd ho hi hc
       exact st_val (v:= .string yz) (w':=W) (want_none rfl) (by unfold execOp;dsimp only [Act.eval];simp only [e60];go_simp) (hK.out _ _ (hF.out.putv (k:=18) (s:=61) rfl (by decide) hN (by decide) rfl (by dsimp only;rw [gd_ne (show 61≠6 by decide),gd_ne (show 61≠44 by decide),gd_ne (show 61≠47 by decide),gd_ne (show 61≠56 by decide),gd_ne (show 61≠64 by decide),gd_ne (show 61≠65 by decide)];exact hW.out)))
     | 19,_=>
       obtain rfl:=Option.some.inj ho
       have l18 : L 18=true:=dep_of hd (n:=18) (by decide)
       have e61 : T.getD 61 undef= .string yz:=hF.out.val 18 61 _ l18 rfl rfl
       have cc:=Lib.hid (cE.out W)
       clear hd ho hi hc hLi
       refine st_call (want_none rfl) (by unfold execOp;go_simp) cc.out ?_
       rintro r w3 ⟨rfl,rfl⟩
       exact ⟨_,rfl,hK.out _ _ (hF.out.putv (k:=19) (s:=62) rfl (by decide) hN (by decide) rfl (by dsimp only;rw [gd_ne (show 62≠6 by decide),gd_ne (show 62≠44 by decide),gd_ne (show 62≠47 by decide),gd_ne (show 62≠56 by decide),gd_ne (show 62≠64 by decide),gd_ne (show 62≠65 by decide)];exact hW.out))⟩
     | 20,_=>
       obtain rfl:=Option.some.inj ho
       have l16 : L 16=true:=dep_of hd (n:=16) (by decide)
       have e59 : T.getD 59 undef= .string (y0 ++ (⟨#[58]⟩ : ByteArray) ++ yi ++ (⟨#[58]⟩ : ByteArray)):=hF.out.val 16 59 _ l16 rfl rfl
       have l19 : L 19=true:=dep_of hd (n:=19) (by decide)
       have e62 : T.getD 62 undef= .string ys:=hF.out.val 19 62 _ l19 rfl rfl
       have hq:=q20.out
       clear hd ho hi hc hLi
       exact st_val (v:= .string (y0 ++ (⟨#[58]⟩ : ByteArray) ++ yi ++ (⟨#[58]⟩ : ByteArray) ++ ys)) (w':=W) (want_none rfl) (by unfold execOp;dsimp only [Act.eval];simp only [e59,e62];go_simp) (hK.out _ _ (hF.out.putv (k:=20) (s:=63) rfl (by decide) hN (by decide) rfl (by dsimp only;rw [gd_ne (show 63≠6 by decide),gd_ne (show 63≠44 by decide),gd_ne (show 63≠47 by decide),gd_ne (show 63≠56 by decide),gd_ne (show 63≠64 by decide),gd_ne (show 63≠65 by decide)];exact hW.out)))
     | 21,_=>
       obtain rfl:=Option.some.inj ho
       have l20 : L 20=true:=dep_of hd (n:=20) (by decide)
       have e63 : T.getD 63 undef= .string (y0 ++ (⟨#[58]⟩ : ByteArray) ++ yi ++ (⟨#[58]⟩ : ByteArray) ++ ys):=hF.out.val 20 63 _ l20 rfl rfl
       have n22 : ¬L 22=true:=fun h=>by have:=hc 22 21 h (by decide);rw [hLi] at this;cases this
       have n23 : ¬L 23=true:=fun h=>n22 (hc 23 22 h (by decide))
       have n21 : ¬L 21=true:=fun h=>by rw [hLi] at h;cases h
       have hbn:=below_new W (.cells #[.string (y0 ++ (⟨#[58]⟩ : ByteArray) ++ yi ++ (⟨#[58]⟩ : ByteArray) ++ ys)] 9)
       have hgn:=heap_new W (.cells #[.string (y0 ++ (⟨#[58]⟩ : ByteArray) ++ yi ++ (⟨#[58]⟩ : ByteArray) ++ ys)] 9)
       clear hd ho hi hc
       exact st_val (v:= .slice (some ⟨W.heap.size,0,none⟩) 1 1) (w':=W.alloc (.cells #[.string (y0 ++ (⟨#[58]⟩ : ByteArray) ++ yi ++ (⟨#[58]⟩ : ByteArray) ++ ys)] 9)) (want_none rfl) (by unfold execOp;simp only [List.map_toArray,List.map_cons,List.map_nil,Act.eval,e63];go_simp) (hK.out _ _ (hF.out.put (k:=21) (s:=64) rfl (by decide) hN (by decide) (fun u hu=>by cases hu) (by dsimp only;rw [gd_ne (show 64≠6 by decide),gd_ne (show 64≠44 by decide),gd_ne (show 64≠47 by decide),gd_ne (show 64≠56 by decide),gd_ne (show 64≠65 by decide)];exact (by rw [gd_eq (by rw [hF.out.size,hN];decide)];exact { hW.out.grow n22 n21 hbn with s64:=fun _ _=>⟨W.heap.size,rfl,rangeAt_list hgn⟩ }))))
     | 22,_=>
       obtain rfl:=Option.some.inj ho
       have l0 : L 0=true:=dep_of hd (n:=0) (by decide)
       have e43 : T.getD 43 undef=u6:=hF.out.val 0 43 _ l0 rfl rfl
       have l21 : L 21=true:=dep_of hd (n:=21) (by decide)
       have l20 : L 20=true:=hc 21 20 l21 (by decide)
       have l16 : L 16=true:=hc 20 16 l20 (by decide)
       have l15 : L 15=true:=hc 16 15 l16 (by decide)
       have l14 : L 14=true:=hc 15 14 l15 (by decide)
       have l6 : L 6=true:=hc 15 6 l15 (by decide)
       have l5 : L 5=true:=hc 6 5 l6 (by decide)
       have l4 : L 4=true:=hc 5 4 l5 (by decide)
       have n23 : ¬L 23=true:=fun h=>by have:=hc 23 22 h (by decide);rw [hLi] at this;cases this
       obtain ⟨g1,e64,hrw⟩:=hW.out.s64 l21 hLi
       have hBw:=hW.out.bl hLi
       have hO:=hO9.out.keep hBw
       have hB:=hB9.out.trans (hBw.mono hB9.out.size)
       have hl4:=Lib.hid l4
       have hl5:=Lib.hid l5
       have hl14:=Lib.hid l14
       clear hd ho hi hc
       refine st_append (want_none rfl) _ _ 27 rfl 9 i0 _ 1 16 Tryz.underlying27 hi0 hz0 hz1 hz2 rfl (by decide) w2.heap.size hB.size u6 _ (show T.getD 43 undef=_ from e43) hO g1 1 (sv (y0 ++ (⟨#[58]⟩ : ByteArray) ++ yi ++ (⟨#[58]⟩ : ByteArray) ++ ys)) (show T.getD 64 undef=_ from e64) hrw rfl (fun u hu=>by simp [sv] at hu;subst hu;rfl) (by have:=hln4.out;simp only [List.length_map];unfold maxLen;omega) (by have:=hln4.out;simp only [List.length_map];omega) ?_
       intro v' w3 hO2 hg hat
       exact hK.out _ _ (hF.out.put (k:=22) (s:=65) rfl (by decide) hN (by decide) (fun u hu=>by cases hu) (by dsimp only;rw [gd_ne (show 65≠6 by decide),gd_ne (show 65≠44 by decide),gd_ne (show 65≠47 by decide),gd_ne (show 65≠56 by decide),gd_ne (show 65≠64 by decide)];exact (by rw [gd_eq (by rw [hF.out.size,hN];decide)];exact { hW.out with bl:=fun h=>absurd h (by simp),s44:=fun _ h=>absurd ((show L 4=false from h).symm.trans hl4.out) (by decide),s47:=fun _ h=>absurd ((show L 5=false from h).symm.trans hl5.out) (by decide),s56:=fun _ h=>absurd ((show L 14=false from h).symm.trans hl14.out) (by decide),s64:=fun _ h=>absurd h (by simp),s65:=fun _=>⟨(by unfold OwnS;simpa using hO2),hB.grown hg hB.size hO.lt⟩,s9:=fun h=>absurd h n23 })))
     | 23,_=>
       obtain rfl:=Option.some.inj ho
       have l22 : L 22=true:=dep_of hd (n:=22) (by decide)
       clear hd ho hi hc
       exact st_val (v:=T.getD 65 undef) (w':=W) (want_none rfl) rfl (hK.out _ _ (hF.out.put (k:=23) (s:=6) rfl (by decide) hN (by decide) (fun u hu=>by cases hu) (by dsimp only;rw [gd_ne (show 6≠44 by decide),gd_ne (show 6≠47 by decide),gd_ne (show 6≠56 by decide),gd_ne (show 6≠64 by decide),gd_ne (show 6≠65 by decide)];exact (by rw [gd_eq (by rw [hF.out.size,hN];decide)];exact { hW.out with s6:=fun h=>absurd h (by simp),s9:=fun _=>rfl }))))
    case hdone=>
     intro L T W2 hF hW hall
     obtain ⟨z6,e6⟩ : ∃z,T.getD 6 undef=z:=⟨_,rfl⟩
     obtain ⟨z44,e44⟩ : ∃z,T.getD 44 undef=z:=⟨_,rfl⟩
     obtain ⟨z47,e47⟩ : ∃z,T.getD 47 undef=z:=⟨_,rfl⟩
     obtain ⟨z56,e56⟩ : ∃z,T.getD 56 undef=z:=⟨_,rfl⟩
     obtain ⟨z64,e64⟩ : ∃z,T.getD 64 undef=z:=⟨_,rfl⟩
     obtain ⟨z65,e65⟩ : ∃z,T.getD 65 undef=z:=⟨_,rfl⟩
     obtain ⟨hO5,hB5⟩:=hW.s65 (hall 22 (by decide))
     have h95:=hW.s9 (hall 23 (by decide))
     rw [← h95,e6] at hO5
     clear h95 hW
     have hT : T=#[.agg cs.toArray,.int .i64 3,.pointer (some ⟨w.heap.size,0,none⟩),undef,.string ⟨#[]⟩,.pointer (some ⟨w.heap.size + 1,0,none⟩),z6,.int .i64 ↑k,.pointer (some ⟨(wr.heap.size),0,none⟩),undef,undef,.pointer (some ⟨w.heap.size,2,none⟩),.agg fs.toArray,.int .i64 3,.bool false,.bool false,undef,undef,undef,.bool false,.bool false,undef,undef,undef,.bool false,.bool false,undef,undef,undef,.bool true,.bool true,.int .i64 ↑k,.pointer (some ⟨w.heap.size,27,none⟩),.slice (some ⟨b2,off2,none⟩) n cc,.int .i64 ↑n,.bool true,u36,u37,.pointer (some ⟨w.heap.size,27,none⟩),.slice (some ⟨b2,off2,none⟩) n cc,.int .i64 ↑k,.pointer (some ⟨b2,off2 + k * 5,none⟩),.agg [.int .i64 (ki : Int),.int .i64 a,.int .i64 b,.int .i64 c,.string yz].toArray,u6,z44,.pointer (some ⟨(wr.heap.size),0,none⟩),.int .i64 (ki : Int),z47,.string y0,.string (y0 ++ (⟨#[58]⟩ : ByteArray)),.pointer (some ⟨(wr.heap.size),1,none⟩),.int .i64 a,.pointer (some ⟨(wr.heap.size),2,none⟩),.int .i64 b,.pointer (some ⟨(wr.heap.size),3,none⟩),.int .i64 c,z56,.string yi,.string (y0 ++ (⟨#[58]⟩ : ByteArray) ++ yi),.string (y0 ++ (⟨#[58]⟩ : ByteArray) ++ yi ++ (⟨#[58]⟩ : ByteArray)),.pointer (some ⟨(wr.heap.size),4,none⟩),.string yz,.string ys,.string (y0 ++ (⟨#[58]⟩ : ByteArray) ++ yi ++ (⟨#[58]⟩ : ByteArray) ++ ys),z64,z65,undef,undef,undef,undef,undef,undef,undef,undef,undef,undef,undef,undef,undef,undef,undef,undef,undef,undef,undef,undef,undef,undef,undef,undef,undef,undef,undef,undef,undef,undef,undef,undef,undef,undef,undef,undef,undef,undef,undef,undef,undef,undef,undef,undef,undef,undef,undef,undef,undef,undef,undef,undef,undef,undef,undef,undef,undef,undef,undef,undef,undef,undef,undef,undef,undef,undef,undef,undef,undef]:=(hF.fin [(43,u6),(44,z44),(45,.pointer (some ⟨(wr.heap.size),0,none⟩)),(46,.int .i64 (ki : Int)),(47,z47),(48,.string y0),(49,.string (y0 ++ (⟨#[58]⟩ : ByteArray))),(50,.pointer (some ⟨(wr.heap.size),1,none⟩)),(51,.int .i64 a),(52,.pointer (some ⟨(wr.heap.size),2,none⟩)),(53,.int .i64 b),(54,.pointer (some ⟨(wr.heap.size),3,none⟩)),(55,.int .i64 c),(56,z56),(57,.string yi),(58,.string (y0 ++ (⟨#[58]⟩ : ByteArray) ++ yi)),(59,.string (y0 ++ (⟨#[58]⟩ : ByteArray) ++ yi ++ (⟨#[58]⟩ : ByteArray))),(60,.pointer (some ⟨(wr.heap.size),4,none⟩)),(61,.string yz),(62,.string ys),(63,.string (y0 ++ (⟨#[58]⟩ : ByteArray) ++ yi ++ (⟨#[58]⟩ : ByteArray) ++ ys)),(64,z64),(65,z65),(6,z6)] [43,44,45,46,47,48,49,50,51,52,53,54,55,56,57,58,59,60,61,62,63,64,65,6] rfl (List.forall_mem_cons.2 ⟨hF.val 0 _ _ (hall 0 (show 0 < 24 by decide)) rfl rfl,(List.forall_mem_cons.2 ⟨e44,(List.forall_mem_cons.2 ⟨hF.val 2 _ _ (hall 2 (show 2 < 24 by decide)) rfl rfl,(List.forall_mem_cons.2 ⟨hF.val 3 _ _ (hall 3 (show 3 < 24 by decide)) rfl rfl,(List.forall_mem_cons.2 ⟨e47,(List.forall_mem_cons.2 ⟨hF.val 5 _ _ (hall 5 (show 5 < 24 by decide)) rfl rfl,(List.forall_mem_cons.2 ⟨hF.val 6 _ _ (hall 6 (show 6 < 24 by decide)) rfl rfl,(List.forall_mem_cons.2 ⟨hF.val 7 _ _ (hall 7 (show 7 < 24 by decide)) rfl rfl,(List.forall_mem_cons.2 ⟨hF.val 8 _ _ (hall 8 (show 8 < 24 by decide)) rfl rfl,(List.forall_mem_cons.2 ⟨hF.val 9 _ _ (hall 9 (show 9 < 24 by decide)) rfl rfl,(List.forall_mem_cons.2 ⟨hF.val 10 _ _ (hall 10 (show 10 < 24 by decide)) rfl rfl,(List.forall_mem_cons.2 ⟨hF.val 11 _ _ (hall 11 (show 11 < 24 by decide)) rfl rfl,(List.forall_mem_cons.2 ⟨hF.val 12 _ _ (hall 12 (show 12 < 24 by decide)) rfl rfl,(List.forall_mem_cons.2 ⟨e56,(List.forall_mem_cons.2 ⟨hF.val 14 _ _ (hall 14 (show 14 < 24 by decide)) rfl rfl,(List.forall_mem_cons.2 ⟨hF.val 15 _ _ (hall 15 (show 15 < 24 by decide)) rfl rfl,(List.forall_mem_cons.2 ⟨hF.val 16 _ _ (hall 16 (show 16 < 24 by decide)) rfl rfl,(List.forall_mem_cons.2 ⟨hF.val 17 _ _ (hall 17 (show 17 < 24 by decide)) rfl rfl,(List.forall_mem_cons.2 ⟨hF.val 18 _ _ (hall 18 (show 18 < 24 by decide)) rfl rfl,(List.forall_mem_cons.2 ⟨hF.val 19 _ _ (hall 19 (show 19 < 24 by decide)) rfl rfl,(List.forall_mem_cons.2 ⟨hF.val 20 _ _ (hall 20 (show 20 < 24 by decide)) rfl rfl,(List.forall_mem_cons.2 ⟨e64,(List.forall_mem_cons.2 ⟨e65,(List.forall_mem_cons.2 ⟨e6,(fun _ h=>absurd h List.not_mem_nil)⟩)⟩)⟩)⟩)⟩)⟩)⟩)⟩)⟩)⟩)⟩)⟩)⟩)⟩)⟩)⟩)⟩)⟩)⟩)⟩)⟩)⟩)⟩)⟩) (by decide)).trans (by kernel_rfl)
     clear hF hall
     subst hT
     clear e6 e44 e47 e56 e64 e65
     replace hO5:=Lib.hid hO5
     replace hB5:=Lib.hid hB5
     go_wp2_with fail
     go_roundw
     case rel=>exact ⟨k + 1,by omega,by go_num,by rw [htk.out];exact hO5,hB5⟩
     case measure=>simp [intOf];omega
  · obtain rfl : k=n:=by omega
    rw [List.take_of_length_le (by rw [hlnh.out];exact Nat.le_refl _)] at hO
    obtain ⟨A9,c9,e9,hS⟩:=hO.out.strs
    rw [txt_len,hlnh.out] at e9 hS
    subst e9
    have cK:=Lib.hid (cJ.out A9 c9 wr hS)
    clear hO hS
    go_wp2_with (go_at_call 68;(with_reducible refine cK.out.mono ?_);rintro r w3 ⟨rfl,rfl⟩)
    go_ret
    exact ⟨rfl,hB.out.trans (hBr.out.mono hB.out.size)⟩
end Go.Proofs.YtmicohmbmgbnkaaGreatDoor
