/- The reference's Value at grants. (printed by wip/gen_sll.py) -/
import Derived.Test.YtmicohmbmgbnkaaGreatDoorVb24
import Derived.Test.YtmicohmbmgbnkaaGreatDoorVb5
namespace Go.Proofs.YtmicohmbmgbnkaaGreatDoor
open Go Go.RowKit Go.Shelf
open Go.Lib (itoa decDigits)
def dsVg : List (Option Nat):=[some 102,some 103,some 104,some 105,some 106,some 107,some 108,some 109,some 110,some 111,some 112,some 113,some 114,some 115,some 116,some 117,some 118,some 119,some 120,some 9]
def tbVg : List (List Nat):=[[],[],[1],[],[2,3],[4],[5],[6],[7],[],[9],[],[10,11],[12],[13],[14],[8,15],[16],[0,17],[18]]
def vsVg (p : Nat) (b2 : Nat) (off2 : Nat) (n : Nat) (cc : Nat) (k : Nat) (v : Value) (yu : ByteArray) (ye : ByteArray) (yw : ByteArray) (who : Int) : List (Option Value):=[some (v),some (.pointer (some ⟨p,13,none⟩)),some (.slice (some ⟨b2,off2,none⟩) n cc),some (.int .i64 ↑k),some (.pointer (some ⟨b2,off2 + k * 2,none⟩)),some (.pointer (some ⟨b2,off2 + k * 2,none⟩)),some (.string yu),some (.string ye),some (.string (ye ++ ⟨#[58]⟩)),some (.pointer (some ⟨p,13,none⟩)),some (.slice (some ⟨b2,off2,none⟩) n cc),some (.int .i64 ↑k),some (.pointer (some ⟨b2,off2 + k * 2,none⟩)),some (.pointer (some ⟨b2,off2 + k * 2 + 1,none⟩)),some (.int .i64 who),some (.string yw),some (.string (ye ++ (⟨#[58]⟩ : ByteArray) ++ yw)),none,none,none]
set_option maxRecDepth 100000 in
set_option maxHeartbeats 4000000 in
theorem value_18 (cs : List Value) (w : World) (l : List GrX) (hI : ∀x∈l,I64 x.who) (hl2 : (joinL 44 (l.map wrGr)).length≤1099511627776) (A : Option Addr) (n cc : Nat) (H : Rws w 2 A n (l.map GrX.row)) (hl : cs.length=29) (h1 : cs.toArray.all (·.oneCell')=true) (hc : cs[15]? =some (.slice A n cc)) :
 Calls Tryz.prog 43 #[.agg cs.toArray,.int .i64 18] w fun r w'=>r= .returned (.string (bs (wrPV (.grants l))))∧Below w.heap.size w w':=by
 obtain ⟨hr,hV⟩:=vpre cs w hl h1
 have hgz:=heap_new (w.alloc (.cells cs.toArray 44)) (.cells cfZ 41)
 simp only [World.size_alloc] at hgz
 generalize (cs.drop 2).take 23=fs at hr hV
 have hfi : (Tryz.prog.info? 41).map (·.size)=some fs.length:=by rw [hV.len];kernel_rfl
 have hfi' : (Tryz.prog.info? 41).map (·.size)=some fs.toArray.size:=by rw [List.size_toArray];exact hfi
 have hold : cfZ.size=fs.toArray.size:=by rw [show fs.toArray.size=fs.length from List.size_toArray,hV.len];rfl
 have hone:=hV.one
 replace hV:=Lib.hid hV
 go_enter Tryz.func43,Tryz.ntmps43
 go_upto_region 2 with (first
  | (refine wpList_box_row 44 _ rfl rfl cs.toArray rfl ?_)
  | (refine wpList_load_at 41 _ rfl rfl w.heap.size 2 rfl fs _ hr Tryz.underlying41 rfl hfi ?_)
  | (refine wpList_alloc_row 41 rfl rfl cfZ cf_zero ?_;try simp only [World.size_alloc])
  | (refine wpList_store_at 41 _ _ rfl rfl (w.heap.size + 1) fs.toArray rfl rfl 41 cfZ hgz hfi' hold hone ?_
     rw [show w.heap.size + 1=(w.alloc (.cells cs.toArray 44)).heap.size by simp,setRow_new]
     try simp only [World.size_alloc]))
 generalize (w.alloc (.cells cs.toArray 44)).alloc (.cells fs.toArray 41)=w2 at *
 have hB:=Lib.hid hV.out.below
 have hcell : w2.cell? ⟨w.heap.size + 1,13,none⟩=some (.slice A n cc):=hV.out.f 13 _ ((hV.out.at_ 13 (by decide)).trans hc)
 have hH:=Lib.hid (H.keep hB.out)
 have hln : l.length=n:=by have:=H.1;simpa using this
 have hnb : n≤1099511627777:=by have:=joinL_count (c:=44) (l.map wrGr);rw [List.length_map] at this;omega
 have hcw:=Lib.hid (fun W' (h : Below w2.heap.size w2 W')=>(h.cell (p:=⟨w.heap.size + 1,13,none⟩) hV.out.lt).trans hcell)
 have cJ:=Lib.hid (fun A cc W' (hS : Strs W' A n (txt wrGr l))=>rjoin_any 44 (l.map wrGr) A n cc W' hS (by omega) (by omega))
 have hlnh:=Lib.hid hln
 obtain ⟨i0,hi0,hz0,hz1,hz2⟩:=info_parts str_info
 have hO0 : Hid (OwnS w2 w2.heap.size (.slice none 0 0) (txt wrGr (l.take 0))):=Lib.hid (OwnR.nil_ w2 w2.heap.size 1 9)
 have hln2:=Lib.hid (fun x (hx : x∈l)=>(show (escL x.user).length≤3298534883328 from by have:=joinL_len_le (c:=44) (List.mem_map_of_mem (f:=wrGr) hx);have:=wrGr_len x;have:=escL_len x.user;omega))
 have hln3:=Lib.hid (fun x (hx : x∈l)=>(show x.user.length≤1099511627776 from by have:=joinL_len_le (c:=44) (List.mem_map_of_mem (f:=wrGr) hx);have:=wrGr_len x;omega))
 clear hc H hcell hr hgz hfi hfi' hold hone hl2
 go_wp2_with fail
 go_loopw [9,10] (fun v kv wr=> ∃k : Nat,k≤n∧kv= .int .i64 k∧Hid (OwnS wr w2.heap.size v (txt wrGr (l.take k)))∧Hid (Below w2.heap.size w2 wr)) (fun _ kv _=>n - (intOf kv).toNat)
 case atStart=>exact ⟨0,Nat.zero_le _,rfl,hO0,Lib.hid (Below.refl _ _)⟩
 case round=>
  clear hO0
  obtain ⟨k,hk,rfl,hO,hBr⟩:=hrel
  have hcr:=hcw.out wr hBr.out
  by_cases hlt : k < n
  · have hlt' : (k : Int) < (n : Int):=by omega
    obtain ⟨b2,off2,z,rfl,hb2,hz,_,hr2⟩:=Rws.row hH.out hlt
    obtain ⟨x,hx,rfl⟩:=map_at hz
    have hxm:=List.mem_of_getElem? hx
    have htk:=txt_snoc (f:=wrGr) hx
    have hlen : (txt wrGr (l.take k)).length≤1099511627777:=by rw [txt_len,List.length_take];omega
    have hus:=hln2.out x hxm
    have hul:=hln3.out x hxm
    have hwI:=hI x hxm
    generalize txt wrGr (l.take k)=D at *
    obtain ⟨us,who⟩:=x
    dsimp only at hus hul hwI
    have hjn:=bs_join2 58 (escL us) (itoa who)
    rw [show wrGr ⟨us,who⟩=joinL 58 [escL us,itoa who] from rfl,hjn] at htk
    have hdr : Below wr.heap.size wr wr.drew:=drewN_below 1
    have hCl:=Lib.hid (fun W' (h : Below w2.heap.size w2 W')=>(show W'.cell? ⟨w.heap.size + 1,13,none⟩=some (.slice (some ⟨b2,off2,none⟩) n cc)∧W'.cell? ⟨b2,off2 + k * 2,none⟩=some (.string (bs us))∧W'.cell? ⟨b2,off2 + k * 2 + 1,none⟩=some (.int .i64 who) from ⟨hcw.out W' h,rangeAt_keep hr2 h hb2 0 _ rfl,rangeAt_keep hr2 h hb2 1 _ rfl⟩))
    have hO9:=hO.out.keep hdr
    have hB9:=hBr.out.trans (hdr.mono hBr.out.size)
    have cE:=Lib.hid (fun W'=>rescape_any (bs us) W' (by rw [bs_size];exact hul))
    rw [bs_list] at cE
    have cD:=Lib.hid (fun W'=>digits_any who hwI W')
    have hz1' : (bs (escL us)).size≤3298534883328:=by rw [bs_size];exact hus
    have hz2':=itoa_sz hwI
    generalize bs (escL us)=ye at *
    generalize bs (itoa who)=yw at *
    generalize bs us=yu at *
    have q1:=Lib.hid (show ¬9223372036854775807 < ye.size + 1 by omega)
    have q2:=Lib.hid (show ¬9223372036854775807 < ye.size + 1 + yw.size by omega)
    replace htk:=Lib.hid htk
    replace hO9:=Lib.hid hO9
    replace hB9:=Lib.hid hB9
    have hln4:=Lib.hid hlen
    clear hr2 hz hx hxm hus hul hwI hjn hdr hz1' hz2' hlen
    go_upto_region 32 with fail
    clear hcr
    refine region_iw tbVg dsVg (vsVg (w.heap.size + 1) b2 off2 n cc k u9 yu ye yw who) (fun L T W=>Below w2.heap.size w2 W∧(L 19=false→T.getD 9 undef=u9)∧(L 18=false→OwnS W w2.heap.size u9 D)∧(L 17=true→L 18=false→∃g1,T.getD 119 undef= .slice (some ⟨g1,0,none⟩) 1 1∧W.rangeAt g1 0 (sv (ye ++ (⟨#[58]⟩ : ByteArray) ++ yw)))∧(L 18=true→OwnS W w2.heap.size (T.getD 120 undef) (D ++ [(ye ++ (⟨#[58]⟩ : ByteArray) ++ yw)]))∧(L 19=true→T.getD 9 undef=T.getD 120 undef)) rfl (by decide) (by kernel_rfl) ?hlt ?hstep ?hdone ?hstart
    case hstart=>exact ⟨hB9.out,fun _=>rfl,fun _=>hO9.out,fun h=>absurd h (inv_not (n:=20) (i:=17) (by decide)),fun h=>absurd h (inv_not (n:=20) (i:=18) (by decide)),fun h=>absurd h (inv_not (n:=20) (i:=19) (by decide))⟩
    case hlt=>
     intro ix o ho
     have hi:=(Array.getElem?_eq_some_iff.1 ho).1
     match ix,hi with
     | 0,_=>obtain rfl:=Option.some.inj ho;decide
     | 1,_=>obtain rfl:=Option.some.inj ho;decide
     | 2,_=>obtain rfl:=Option.some.inj ho;decide
     | 3,_=>obtain rfl:=Option.some.inj ho;decide
     | 4,_=>obtain rfl:=Option.some.inj ho;decide
     | 5,_=>obtain rfl:=Option.some.inj ho;decide
     | 6,_=>obtain rfl:=Option.some.inj ho;decide
     | 7,_=>obtain rfl:=Option.some.inj ho;decide
     | 8,_=>obtain rfl:=Option.some.inj ho;decide
     | 9,_=>obtain rfl:=Option.some.inj ho;decide
     | 10,_=>obtain rfl:=Option.some.inj ho;decide
     | 11,_=>obtain rfl:=Option.some.inj ho;decide
     | 12,_=>obtain rfl:=Option.some.inj ho;decide
     | 13,_=>obtain rfl:=Option.some.inj ho;decide
     | 14,_=>obtain rfl:=Option.some.inj ho;decide
     | 15,_=>obtain rfl:=Option.some.inj ho;decide
     | 16,_=>obtain rfl:=Option.some.inj ho;decide
     | 17,_=>obtain rfl:=Option.some.inj ho;decide
     | 18,_=>obtain rfl:=Option.some.inj ho;decide
     | 19,_=>obtain rfl:=Option.some.inj ho;decide
    case hstep=>
     intro T1 hE L T W ix o hF hW hc ho hLi hd K hK
     have hN : T1.size=135:=by rw [hE];rfl
     have f5 : T.getD 5 undef= .pointer (some ⟨(w.heap.size + 1),0,none⟩):=(hF.old 5 (by decide)).trans (by rw [hE];rfl)
     have f10 : T.getD 10 undef= .int .i64 ↑k:=(hF.old 10 (by decide)).trans (by rw [hE];rfl)
     clear hE
     replace hF:=Lib.hid hF
     replace hW:=Lib.hid hW
     replace hK:=Lib.hid hK
     have hi:=(List.getElem?_eq_some_iff.1 ho).1
     match ix,hi with
     | 0,_=>
       obtain rfl:=Option.some.inj ho
       have n18 : ¬L 18=true:=fun h=>by have:=hc 18 0 h (by decide);rw [hLi] at this;cases this
       have n19 : ¬L 19=true:=fun h=>n18 (hc 19 18 h (by decide))
       have e9:=hW.out.2.1 (by simpa using n19)
       clear hd ho hi hc
       exact st_val (v:=u9) (w':=W) (want_none rfl) (by unfold execOp;dsimp only [Act.eval];simp only [e9];go_simp) (hK.out _ _ (hF.out.putv (k:=0) (s:=102) rfl (by decide) hN (by decide) rfl (by dsimp only;rw [gd_ne (show 102≠9 by decide),gd_ne (show 102≠119 by decide),gd_ne (show 102≠120 by decide)];exact hW.out)))
     | 1,_=>
       obtain rfl:=Option.some.inj ho
       clear hd ho hi hc hLi
       exact st_val (v:= .pointer (some ⟨(w.heap.size + 1),13,none⟩)) (w':=W) (want_none rfl) (by unfold execOp;dsimp only [Act.eval];simp only [f5];go_simp) (hK.out _ _ (hF.out.putv (k:=1) (s:=103) rfl (by decide) hN (by decide) rfl (by dsimp only;rw [gd_ne (show 103≠9 by decide),gd_ne (show 103≠119 by decide),gd_ne (show 103≠120 by decide)];exact hW.out)))
     | 2,_=>
       obtain rfl:=Option.some.inj ho
       have l1 : L 1=true:=dep_of hd (n:=1) (by decide)
       have e103 : T.getD 103 undef= .pointer (some ⟨(w.heap.size + 1),13,none⟩):=hF.out.val 1 103 _ l1 rfl rfl
       have hcc:=(hCl.out W hW.out.1).1
       clear hd ho hi hc hLi
       exact st_val (v:= .slice (some ⟨b2,off2,none⟩) n cc) (w':=W) (want_none rfl) (by unfold execOp;dsimp only [Act.eval];simp only [e103];go_simp) (hK.out _ _ (hF.out.putv (k:=2) (s:=104) rfl (by decide) hN (by decide) rfl (by dsimp only;rw [gd_ne (show 104≠9 by decide),gd_ne (show 104≠119 by decide),gd_ne (show 104≠120 by decide)];exact hW.out)))
     | 3,_=>
       obtain rfl:=Option.some.inj ho
       clear hd ho hi hc hLi
       exact st_val (v:= .int .i64 ↑k) (w':=W) (want_none rfl) (by unfold execOp;dsimp only [Act.eval];simp only [f10];go_simp) (hK.out _ _ (hF.out.putv (k:=3) (s:=105) rfl (by decide) hN (by decide) rfl (by dsimp only;rw [gd_ne (show 105≠9 by decide),gd_ne (show 105≠119 by decide),gd_ne (show 105≠120 by decide)];exact hW.out)))
     | 4,_=>
       obtain rfl:=Option.some.inj ho
       have l2 : L 2=true:=dep_of hd (n:=2) (by decide)
       have e104 : T.getD 104 undef= .slice (some ⟨b2,off2,none⟩) n cc:=hF.out.val 2 104 _ l2 rfl rfl
       have l3 : L 3=true:=dep_of hd (n:=3) (by decide)
       have e105 : T.getD 105 undef= .int .i64 ↑k:=hF.out.val 3 105 _ l3 rfl rfl
       clear hd ho hi hc hLi
       exact st_val (v:= .pointer (some ⟨b2,off2 + k * 2,none⟩)) (w':=W) (want_none rfl) (by unfold execOp;dsimp only [Act.eval];simp only [e104,e105];go_simp) (hK.out _ _ (hF.out.putv (k:=4) (s:=106) rfl (by decide) hN (by decide) rfl (by dsimp only;rw [gd_ne (show 106≠9 by decide),gd_ne (show 106≠119 by decide),gd_ne (show 106≠120 by decide)];exact hW.out)))
     | 5,_=>
       obtain rfl:=Option.some.inj ho
       have l4 : L 4=true:=dep_of hd (n:=4) (by decide)
       have e106 : T.getD 106 undef= .pointer (some ⟨b2,off2 + k * 2,none⟩):=hF.out.val 4 106 _ l4 rfl rfl
       clear hd ho hi hc hLi
       exact st_val (v:= .pointer (some ⟨b2,off2 + k * 2,none⟩)) (w':=W) (want_none rfl) (by unfold execOp;dsimp only [Act.eval];simp only [e106];go_simp) (hK.out _ _ (hF.out.putv (k:=5) (s:=107) rfl (by decide) hN (by decide) rfl (by dsimp only;rw [gd_ne (show 107≠9 by decide),gd_ne (show 107≠119 by decide),gd_ne (show 107≠120 by decide)];exact hW.out)))
     | 6,_=>
       obtain rfl:=Option.some.inj ho
       have l5 : L 5=true:=dep_of hd (n:=5) (by decide)
       have e107 : T.getD 107 undef= .pointer (some ⟨b2,off2 + k * 2,none⟩):=hF.out.val 5 107 _ l5 rfl rfl
       have hcc:=(hCl.out W hW.out.1).2.1
       clear hd ho hi hc hLi
       exact st_val (v:= .string yu) (w':=W) (want_none rfl) (by unfold execOp;dsimp only [Act.eval];simp only [e107];go_simp) (hK.out _ _ (hF.out.putv (k:=6) (s:=108) rfl (by decide) hN (by decide) rfl (by dsimp only;rw [gd_ne (show 108≠9 by decide),gd_ne (show 108≠119 by decide),gd_ne (show 108≠120 by decide)];exact hW.out)))
     | 7,_=>
       obtain rfl:=Option.some.inj ho
       have l6 : L 6=true:=dep_of hd (n:=6) (by decide)
       have e108 : T.getD 108 undef= .string yu:=hF.out.val 6 108 _ l6 rfl rfl
       have cc:=Lib.hid (cE.out W)
       clear hd ho hi hc hLi
       refine st_call (want_none rfl) (by unfold execOp;go_simp) cc.out ?_
       rintro r w3 ⟨rfl,rfl⟩
       exact ⟨_,rfl,hK.out _ _ (hF.out.putv (k:=7) (s:=109) rfl (by decide) hN (by decide) rfl (by dsimp only;rw [gd_ne (show 109≠9 by decide),gd_ne (show 109≠119 by decide),gd_ne (show 109≠120 by decide)];exact hW.out))⟩
     | 8,_=>
       obtain rfl:=Option.some.inj ho
       have l7 : L 7=true:=dep_of hd (n:=7) (by decide)
       have e109 : T.getD 109 undef= .string ye:=hF.out.val 7 109 _ l7 rfl rfl
       have hq:=q1.out
       clear hd ho hi hc hLi
       exact st_val (v:= .string (ye ++ ⟨#[58]⟩)) (w':=W) (want_none rfl) (by unfold execOp;dsimp only [Act.eval];simp only [e109];go_simp) (hK.out _ _ (hF.out.putv (k:=8) (s:=110) rfl (by decide) hN (by decide) rfl (by dsimp only;rw [gd_ne (show 110≠9 by decide),gd_ne (show 110≠119 by decide),gd_ne (show 110≠120 by decide)];exact hW.out)))
     | 9,_=>
       obtain rfl:=Option.some.inj ho
       clear hd ho hi hc hLi
       exact st_val (v:= .pointer (some ⟨(w.heap.size + 1),13,none⟩)) (w':=W) (want_none rfl) (by unfold execOp;dsimp only [Act.eval];simp only [f5];go_simp) (hK.out _ _ (hF.out.putv (k:=9) (s:=111) rfl (by decide) hN (by decide) rfl (by dsimp only;rw [gd_ne (show 111≠9 by decide),gd_ne (show 111≠119 by decide),gd_ne (show 111≠120 by decide)];exact hW.out)))
     | 10,_=>
       obtain rfl:=Option.some.inj ho
       have l9 : L 9=true:=dep_of hd (n:=9) (by decide)
       have e111 : T.getD 111 undef= .pointer (some ⟨(w.heap.size + 1),13,none⟩):=hF.out.val 9 111 _ l9 rfl rfl
       have hcc:=(hCl.out W hW.out.1).1
       clear hd ho hi hc hLi
       exact st_val (v:= .slice (some ⟨b2,off2,none⟩) n cc) (w':=W) (want_none rfl) (by unfold execOp;dsimp only [Act.eval];simp only [e111];go_simp) (hK.out _ _ (hF.out.putv (k:=10) (s:=112) rfl (by decide) hN (by decide) rfl (by dsimp only;rw [gd_ne (show 112≠9 by decide),gd_ne (show 112≠119 by decide),gd_ne (show 112≠120 by decide)];exact hW.out)))
     | 11,_=>
       obtain rfl:=Option.some.inj ho
       clear hd ho hi hc hLi
       exact st_val (v:= .int .i64 ↑k) (w':=W) (want_none rfl) (by unfold execOp;dsimp only [Act.eval];simp only [f10];go_simp) (hK.out _ _ (hF.out.putv (k:=11) (s:=113) rfl (by decide) hN (by decide) rfl (by dsimp only;rw [gd_ne (show 113≠9 by decide),gd_ne (show 113≠119 by decide),gd_ne (show 113≠120 by decide)];exact hW.out)))
     | 12,_=>
       obtain rfl:=Option.some.inj ho
       have l10 : L 10=true:=dep_of hd (n:=10) (by decide)
       have e112 : T.getD 112 undef= .slice (some ⟨b2,off2,none⟩) n cc:=hF.out.val 10 112 _ l10 rfl rfl
       have l11 : L 11=true:=dep_of hd (n:=11) (by decide)
       have e113 : T.getD 113 undef= .int .i64 ↑k:=hF.out.val 11 113 _ l11 rfl rfl
       clear hd ho hi hc hLi
       exact st_val (v:= .pointer (some ⟨b2,off2 + k * 2,none⟩)) (w':=W) (want_none rfl) (by unfold execOp;dsimp only [Act.eval];simp only [e112,e113];go_simp) (hK.out _ _ (hF.out.putv (k:=12) (s:=114) rfl (by decide) hN (by decide) rfl (by dsimp only;rw [gd_ne (show 114≠9 by decide),gd_ne (show 114≠119 by decide),gd_ne (show 114≠120 by decide)];exact hW.out)))
     | 13,_=>
       obtain rfl:=Option.some.inj ho
       have l12 : L 12=true:=dep_of hd (n:=12) (by decide)
       have e114 : T.getD 114 undef= .pointer (some ⟨b2,off2 + k * 2,none⟩):=hF.out.val 12 114 _ l12 rfl rfl
       clear hd ho hi hc hLi
       exact st_val (v:= .pointer (some ⟨b2,off2 + k * 2 + 1,none⟩)) (w':=W) (want_none rfl) (by unfold execOp;dsimp only [Act.eval];simp only [e114];go_simp) (hK.out _ _ (hF.out.putv (k:=13) (s:=115) rfl (by decide) hN (by decide) rfl (by dsimp only;rw [gd_ne (show 115≠9 by decide),gd_ne (show 115≠119 by decide),gd_ne (show 115≠120 by decide)];exact hW.out)))
     | 14,_=>
       obtain rfl:=Option.some.inj ho
       have l13 : L 13=true:=dep_of hd (n:=13) (by decide)
       have e115 : T.getD 115 undef= .pointer (some ⟨b2,off2 + k * 2 + 1,none⟩):=hF.out.val 13 115 _ l13 rfl rfl
       have hcc:=(hCl.out W hW.out.1).2.2
       clear hd ho hi hc hLi
       exact st_val (v:= .int .i64 who) (w':=W) (want_none rfl) (by unfold execOp;dsimp only [Act.eval];simp only [e115];go_simp) (hK.out _ _ (hF.out.putv (k:=14) (s:=116) rfl (by decide) hN (by decide) rfl (by dsimp only;rw [gd_ne (show 116≠9 by decide),gd_ne (show 116≠119 by decide),gd_ne (show 116≠120 by decide)];exact hW.out)))
     | 15,_=>
       obtain rfl:=Option.some.inj ho
       have l14 : L 14=true:=dep_of hd (n:=14) (by decide)
       have e116 : T.getD 116 undef= .int .i64 who:=hF.out.val 14 116 _ l14 rfl rfl
       have cc:=Lib.hid (cD.out W)
       have n16 : ¬L 16=true:=fun h=>by have:=hc 16 15 h (by decide);rw [hLi] at this;cases this
       have n17 : ¬L 17=true:=fun h=>n16 (hc 17 16 h (by decide))
       have n18 : ¬L 18=true:=fun h=>n17 (hc 18 17 h (by decide))
       clear hd ho hi hc
       refine st_call (want_none rfl) (by unfold execOp;go_simp) cc.out ?_
       rintro r w3 ⟨rfl,hb⟩
       exact ⟨_,rfl,hK.out _ _ (hF.out.putv (k:=15) (s:=117) rfl (by decide) hN (by decide) rfl (by dsimp only;rw [gd_ne (show 117≠9 by decide),gd_ne (show 117≠119 by decide),gd_ne (show 117≠120 by decide)];exact ⟨hW.out.1.trans (hb.mono hW.out.1.size),hW.out.2.1,fun h=>(hW.out.2.2.1 h).keep hb,fun h=>absurd h n17,fun h=>absurd h n18,hW.out.2.2.2.2.2⟩))⟩
     | 16,_=>
       obtain rfl:=Option.some.inj ho
       have l8 : L 8=true:=dep_of hd (n:=8) (by decide)
       have e110 : T.getD 110 undef= .string (ye ++ ⟨#[58]⟩):=hF.out.val 8 110 _ l8 rfl rfl
       have l15 : L 15=true:=dep_of hd (n:=15) (by decide)
       have e117 : T.getD 117 undef= .string yw:=hF.out.val 15 117 _ l15 rfl rfl
       have hq:=q2.out
       clear hd ho hi hc hLi
       exact st_val (v:= .string (ye ++ (⟨#[58]⟩ : ByteArray) ++ yw)) (w':=W) (want_none rfl) (by unfold execOp;dsimp only [Act.eval];simp only [e110,e117];go_simp) (hK.out _ _ (hF.out.putv (k:=16) (s:=118) rfl (by decide) hN (by decide) rfl (by dsimp only;rw [gd_ne (show 118≠9 by decide),gd_ne (show 118≠119 by decide),gd_ne (show 118≠120 by decide)];exact hW.out)))
     | 17,_=>
       obtain rfl:=Option.some.inj ho
       have l16 : L 16=true:=dep_of hd (n:=16) (by decide)
       have e118 : T.getD 118 undef= .string (ye ++ (⟨#[58]⟩ : ByteArray) ++ yw):=hF.out.val 16 118 _ l16 rfl rfl
       have n18 : ¬L 18=true:=fun h=>by have:=hc 18 17 h (by decide);rw [hLi] at this;cases this
       have n19 : ¬L 19=true:=fun h=>n18 (hc 19 18 h (by decide))
       have hbn:=below_new W (.cells #[.string (ye ++ (⟨#[58]⟩ : ByteArray) ++ yw)] 9)
       have hgn:=heap_new W (.cells #[.string (ye ++ (⟨#[58]⟩ : ByteArray) ++ yw)] 9)
       clear hd ho hi hc
       exact st_val (v:= .slice (some ⟨W.heap.size,0,none⟩) 1 1) (w':=W.alloc (.cells #[.string (ye ++ (⟨#[58]⟩ : ByteArray) ++ yw)] 9)) (want_none rfl) (by unfold execOp;simp only [List.map_toArray,List.map_cons,List.map_nil,Act.eval,e118];go_simp) (hK.out _ _ (hF.out.put (k:=17) (s:=119) rfl (by decide) hN (by decide) (fun u hu=>by cases hu) ⟨hW.out.1.trans (hbn.mono hW.out.1.size),fun h=>(gd_ne (show 119≠9 by decide)).trans (hW.out.2.1 h),fun h=>(hW.out.2.2.1 h).keep hbn,fun _ _=>⟨W.heap.size,gd_eq (by rw [hF.out.size,hN];decide),rangeAt_list hgn⟩,fun h=>absurd h n18,fun h=>absurd h n19⟩))
     | 18,_=>
       obtain rfl:=Option.some.inj ho
       have l0 : L 0=true:=dep_of hd (n:=0) (by decide)
       have e102 : T.getD 102 undef=u9:=hF.out.val 0 102 _ l0 rfl rfl
       have l17 : L 17=true:=dep_of hd (n:=17) (by decide)
       have n19 : ¬L 19=true:=fun h=>by have:=hc 19 18 h (by decide);rw [hLi] at this;cases this
       obtain ⟨g1,e119,hrw⟩:=hW.out.2.2.2.1 l17 hLi
       have hO:=hW.out.2.2.1 hLi
       have hB:=hW.out.1
       clear hd ho hi hc
       refine st_append (want_none rfl) _ _ 27 rfl 9 i0 _ 1 16 Tryz.underlying27 hi0 hz0 hz1 hz2 rfl (by decide) w2.heap.size hB.size u9 _ (show T.getD 102 undef=_ from e102) hO g1 1 (sv (ye ++ (⟨#[58]⟩ : ByteArray) ++ yw)) (show T.getD 119 undef=_ from e119) hrw rfl (fun u hu=>by simp [sv] at hu;subst hu;rfl) (by have:=hln4.out;simp only [List.length_map];unfold maxLen;omega) (by have:=hln4.out;simp only [List.length_map];omega) ?_
       intro v' w3 hO2 hg hat
       exact hK.out _ _ (hF.out.put (k:=18) (s:=120) rfl (by decide) hN (by decide) (fun u hu=>by cases hu) ⟨hB.grown hg hB.size hO.lt,fun h=>(gd_ne (show 120≠9 by decide)).trans (hW.out.2.1 h),fun h=>absurd h (by simp),fun _ h=>absurd h (by simp),fun _=>(by rw [gd_eq (by rw [hF.out.size,hN];decide)];unfold OwnS;simpa using hO2),fun h=>absurd h n19⟩)
     | 19,_=>
       obtain rfl:=Option.some.inj ho
       have l18 : L 18=true:=dep_of hd (n:=18) (by decide)
       have hl18:=Lib.hid l18
       clear hd ho hi hc
       exact st_val (v:=T.getD 120 undef) (w':=W) (want_none rfl) rfl (hK.out _ _ (hF.out.put (k:=19) (s:=9) rfl (by decide) hN (by decide) (fun u hu=>by cases hu) ⟨hW.out.1,fun h=>absurd h (by simp),fun h=>absurd ((show L 18=false from h).symm.trans hl18.out) (by decide),fun _ h=>absurd ((show L 18=false from h).symm.trans hl18.out) (by decide),fun h=>(by rw [gd_ne (show 9≠120 by decide)];exact hW.out.2.2.2.2.1 hl18.out),fun _=>(gd_eq (by rw [hF.out.size,hN];decide)).trans (gd_ne (show 9≠120 by decide)).symm⟩))
    case hdone=>
     intro L T W2 hF hW hall
     obtain ⟨z9,e9⟩ : ∃z,T.getD 9 undef=z:=⟨_,rfl⟩
     obtain ⟨z119,e119⟩ : ∃z,T.getD 119 undef=z:=⟨_,rfl⟩
     obtain ⟨z120,e120⟩ : ∃z,T.getD 120 undef=z:=⟨_,rfl⟩
     obtain ⟨hB5,-,-,-,hO5,h95⟩:=hW
     replace hO5:=hO5 (hall 18 (by decide))
     replace h95:=h95 (hall 19 (by decide))
     rw [← h95,e9] at hO5
     clear h95
     have hT : T=#[.agg cs.toArray,.int .i64 18,.pointer (some ⟨w.heap.size,0,none⟩),undef,.string ⟨#[]⟩,.pointer (some ⟨(w.heap.size + 1),0,none⟩),undef,undef,undef,z9,.int .i64 ↑k,.pointer (some ⟨w.heap.size,2,none⟩),.agg fs.toArray,.int .i64 18,.bool false,.bool false,undef,undef,undef,.bool false,.bool false,undef,undef,undef,.bool false,.bool false,undef,undef,undef,.bool false,.bool false,undef,undef,undef,undef,undef,undef,undef,undef,undef,undef,undef,undef,undef,undef,undef,undef,undef,undef,undef,undef,undef,undef,undef,undef,undef,undef,undef,undef,undef,undef,undef,undef,undef,undef,undef,undef,undef,.bool false,.bool false,undef,undef,undef,.bool false,.bool false,undef,undef,undef,.bool false,.bool false,undef,undef,undef,.bool false,.bool false,undef,undef,undef,.bool false,.bool false,undef,undef,undef,.bool true,.bool true,.int .i64 ↑k,.pointer (some ⟨w.heap.size + 1,13,none⟩),.slice (some ⟨b2,off2,none⟩) n cc,.int .i64 ↑n,.bool true,u100,u101,u9,.pointer (some ⟨(w.heap.size + 1),13,none⟩),.slice (some ⟨b2,off2,none⟩) n cc,.int .i64 ↑k,.pointer (some ⟨b2,off2 + k * 2,none⟩),.pointer (some ⟨b2,off2 + k * 2,none⟩),.string yu,.string ye,.string (ye ++ ⟨#[58]⟩),.pointer (some ⟨(w.heap.size + 1),13,none⟩),.slice (some ⟨b2,off2,none⟩) n cc,.int .i64 ↑k,.pointer (some ⟨b2,off2 + k * 2,none⟩),.pointer (some ⟨b2,off2 + k * 2 + 1,none⟩),.int .i64 who,.string yw,.string (ye ++ (⟨#[58]⟩ : ByteArray) ++ yw),z119,z120,undef,undef,undef,undef,undef,undef,undef,undef,undef,undef,undef,undef,undef,undef]:=(hF.fin [(102,u9),(103,.pointer (some ⟨(w.heap.size + 1),13,none⟩)),(104,.slice (some ⟨b2,off2,none⟩) n cc),(105,.int .i64 ↑k),(106,.pointer (some ⟨b2,off2 + k * 2,none⟩)),(107,.pointer (some ⟨b2,off2 + k * 2,none⟩)),(108,.string yu),(109,.string ye),(110,.string (ye ++ ⟨#[58]⟩)),(111,.pointer (some ⟨(w.heap.size + 1),13,none⟩)),(112,.slice (some ⟨b2,off2,none⟩) n cc),(113,.int .i64 ↑k),(114,.pointer (some ⟨b2,off2 + k * 2,none⟩)),(115,.pointer (some ⟨b2,off2 + k * 2 + 1,none⟩)),(116,.int .i64 who),(117,.string yw),(118,.string (ye ++ (⟨#[58]⟩ : ByteArray) ++ yw)),(119,z119),(120,z120),(9,z9)] [102,103,104,105,106,107,108,109,110,111,112,113,114,115,116,117,118,119,120,9] rfl (List.forall_mem_cons.2 ⟨hF.val 0 _ _ (hall 0 (show 0 < 20 by decide)) rfl rfl,(List.forall_mem_cons.2 ⟨hF.val 1 _ _ (hall 1 (show 1 < 20 by decide)) rfl rfl,(List.forall_mem_cons.2 ⟨hF.val 2 _ _ (hall 2 (show 2 < 20 by decide)) rfl rfl,(List.forall_mem_cons.2 ⟨hF.val 3 _ _ (hall 3 (show 3 < 20 by decide)) rfl rfl,(List.forall_mem_cons.2 ⟨hF.val 4 _ _ (hall 4 (show 4 < 20 by decide)) rfl rfl,(List.forall_mem_cons.2 ⟨hF.val 5 _ _ (hall 5 (show 5 < 20 by decide)) rfl rfl,(List.forall_mem_cons.2 ⟨hF.val 6 _ _ (hall 6 (show 6 < 20 by decide)) rfl rfl,(List.forall_mem_cons.2 ⟨hF.val 7 _ _ (hall 7 (show 7 < 20 by decide)) rfl rfl,(List.forall_mem_cons.2 ⟨hF.val 8 _ _ (hall 8 (show 8 < 20 by decide)) rfl rfl,(List.forall_mem_cons.2 ⟨hF.val 9 _ _ (hall 9 (show 9 < 20 by decide)) rfl rfl,(List.forall_mem_cons.2 ⟨hF.val 10 _ _ (hall 10 (show 10 < 20 by decide)) rfl rfl,(List.forall_mem_cons.2 ⟨hF.val 11 _ _ (hall 11 (show 11 < 20 by decide)) rfl rfl,(List.forall_mem_cons.2 ⟨hF.val 12 _ _ (hall 12 (show 12 < 20 by decide)) rfl rfl,(List.forall_mem_cons.2 ⟨hF.val 13 _ _ (hall 13 (show 13 < 20 by decide)) rfl rfl,(List.forall_mem_cons.2 ⟨hF.val 14 _ _ (hall 14 (show 14 < 20 by decide)) rfl rfl,(List.forall_mem_cons.2 ⟨hF.val 15 _ _ (hall 15 (show 15 < 20 by decide)) rfl rfl,(List.forall_mem_cons.2 ⟨hF.val 16 _ _ (hall 16 (show 16 < 20 by decide)) rfl rfl,(List.forall_mem_cons.2 ⟨e119,(List.forall_mem_cons.2 ⟨e120,(List.forall_mem_cons.2 ⟨e9,(fun _ h=>absurd h List.not_mem_nil)⟩)⟩)⟩)⟩)⟩)⟩)⟩)⟩)⟩)⟩)⟩)⟩)⟩)⟩)⟩)⟩)⟩)⟩)⟩)⟩) (by decide)).trans (by kernel_rfl)
     clear hF hall
     subst hT
     clear e9 e119 e120
     replace hO5:=Lib.hid hO5
     replace hB5:=Lib.hid hB5
     go_wp2_with fail
     go_roundw
     case rel=>exact ⟨k + 1,by omega,by go_num,by rw [htk.out];exact hO5,hB5⟩
     case measure=>simp [intOf];omega
  · obtain rfl : k=n:=by omega
    rw [List.take_of_length_le (by rw [hlnh.out];exact Nat.le_refl _)] at hO
    obtain ⟨A9,c9,e9,hS⟩:=hO.out.strs
    rw [txt_len,hlnh.out] at e9 hS
    subst e9
    have cK:=Lib.hid (cJ.out A9 c9 wr hS)
    clear hO hS
    go_wp2_with (go_at_call 68;(with_reducible refine cK.out.mono ?_);rintro r w3 ⟨rfl,rfl⟩)
    go_ret
    exact ⟨rfl,hB.out.trans (hBr.out.mono hB.out.size)⟩
end Go.Proofs.YtmicohmbmgbnkaaGreatDoor
