/- The texts of lists: list[T] at its four types. (printed by wip/gen_skp.py) -/
import Derived.Test.YtmicohmbmgbnkaaGreatDoorVb6
import Derived.Test.YtmicohmbmgbnkaaGreatDoorVb7
namespace Go.Proofs.YtmicohmbmgbnkaaGreatDoor
open Go Go.RowKit Go.Shelf
open Go.Lib (itoa)
def txt {α : Type} (f : α→List UInt8) (l : List α) : List ByteArray:=(l.map f).map bs
theorem txt_len {α : Type} (f : α→List UInt8) (l : List α) : (txt f l).length=l.length:=by simp [txt]
theorem txt_snoc {α : Type} {f : α→List UInt8} {l : List α} {k : Nat} {x : α} (h : l[k]? =some x) : txt f (l.take (k + 1))=txt f (l.take k) ++ [bs (f x)]:=by
 unfold txt
 rw [take_succ_of h,List.map_append,List.map_append]
 rfl
theorem joinL_len_le {c : UInt8} : ∀{ps : List (List UInt8)} {p : List UInt8},p∈ps→p.length≤(joinL c ps).length
 | [],p,h=>by cases h
 | [q],p,h=>by rw [List.mem_singleton.1 h];exact Nat.le_refl _
 | q :: r :: s,p,h=>by
   rw [joinL_cons (by simp),List.length_append,List.length_cons]
   rcases List.mem_cons.1 h with rfl | h
   · omega
   · have:=joinL_len_le (c:=c) h;omega
theorem joinL_count {c : UInt8} : ∀(ps : List (List UInt8)),ps.length≤(joinL c ps).length + 1
 | []=>Nat.zero_le _
 | [q]=>by simp
 | q :: r :: s=>by
   rw [joinL_cons (by simp),List.length_append,List.length_cons]
   have:=joinL_count (c:=c) (r :: s)
   simp only [List.length_cons] at this ⊢
   omega
theorem escL_le : ∀s : List UInt8,s.length≤(escL s).length
 | []=>Nat.le_refl _
 | c :: s=>by
   rw [escL,List.length_append,List.length_cons]
   have:=escL_le s
   have h : 1≤(escB c).length:=by
    rcases hq : escB c with _ | ⟨a,r⟩
    · exact absurd hq (escB_ne c)
    · simp
   omega
theorem wrName_len (s : List UInt8) : s.length≤(wrName s).length:=by
 unfold wrName
 by_cases h : s=[]
 · rw [if_pos h,h];exact Nat.zero_le _
 · rw [if_neg h];exact escL_le s
theorem wrOp_len (o : OpX) : o.s.length≤(wrOp o).length:=Nat.le_trans (escL_le o.s) (joinL_len_le (by simp))
theorem wrGr_len (g : GrX) : g.user.length≤(wrGr g).length:=Nat.le_trans (escL_le g.user) (joinL_len_le (by simp))
def opZ : Array Value:=#[.int .i64 0,.int .i64 0,.int .i64 0,.int .i64 0,.string ByteArray.empty]
theorem op_zero : (Tryz.prog.info? 85).bind (·.zero)=some (.agg opZ):=by kernel_rfl
def grZ : Array Value:=#[.string ByteArray.empty,.int .i64 0]
theorem gr_zero : (Tryz.prog.info? 108).bind (·.zero)=some (.agg grZ):=by kernel_rfl
theorem map_at {α β : Type} {f : α→β} {l : List α} {k : Nat} {z : β} (h : (l.map f)[k]? =some z) : ∃x,l[k]? =some x∧f x=z:=by
 rw [List.getElem?_map] at h
 cases hx : l[k]? with
 | none=>rw [hx] at h;cases h
 | some x=>rw [hx] at h;exact ⟨x,rfl,Option.some.inj h⟩
theorem own_cap {w : World} {B k : Nat} {E : TypeId} {zs : List (List Value)} {A : Option Addr} {n c : Nat} {v : Value} (h : OwnR w B k E v zs) (e : v= .slice A n c) : n≤c∧c≤9223372036854775807:=by
 subst e
 obtain ⟨_,⟨e1,_⟩ | ⟨g,cap,cur,e1,_,_,h1,h2,_⟩⟩:=h.1
 · injection e1 with _ e2 e3
   omega
 · injection e1 with _ e2 e3
   unfold maxLen at h2
   omega
set_option maxRecDepth 100000 in
set_option maxHeartbeats 8000000 in
theorem listI_any (l : List Int) (A : Option Addr) (n c : Nat) (w : World) (E : EnvS w) (H : Rws w 1 A n (l.map iv)) (hi : ∀x∈l,I64 x) (hl : (joinL 44 (l.map itoa)).length≤1099511627776) :
 Calls Tryz.prog 101 #[.slice A n c,.func (.func 52) #[] #[]] w fun r w'=>r= .returned (.string (bs (joinL 44 (l.map itoa))))∧Below w.heap.size w w':=by
 obtain ⟨i0,hi0,hz0,hz1,hz2⟩:=info_parts str_info
 have hln : l.length=n:=by have:=H.1;simpa using this
 have hnb : n≤1099511627777:=by have:=joinL_count (c:=44) (l.map itoa);rw [List.length_map] at this;omega
 have hO0 : Hid (OwnS w w.heap.size (.slice none 0 0) (txt itoa (l.take 0))):=Lib.hid (OwnR.nil_ w w.heap.size 1 9)
 have hB0:=Lib.hid (Below.refl w.heap.size w)
 have cW:=Lib.hid (fun x (hx : x∈l) W' (h : Below w.heap.size w W')=>itoa_any x (hi x hx) W' (E.keep h E.size))
 have hH:=Lib.hid H
 have cJ:=Lib.hid (fun A cc W' (h : Below w.heap.size w W') (hS : Strs W' A n (txt itoa l)) (hcc : n≤cc)=>join_any 44 (l.map itoa) A n cc W' hS hcc (by omega) (by omega))
 have hlnh:=Lib.hid hln
 clear H hl
 go_enter Tryz.func101,Tryz.ntmps101
 go_wp2_with fail
 go_loopw [5,10] (fun v iv wr=> ∃k : Nat,k≤n∧iv= .int .i64 k∧Hid (OwnS wr w.heap.size v (txt itoa (l.take k)))∧Hid (Below w.heap.size w wr)) (fun _ iv _=>n - (intOf iv).toNat)
 case atStart=>exact ⟨0,Nat.zero_le _,rfl,hO0,hB0⟩
 case round=>
  clear hO0 hB0
  obtain ⟨k,hk,rfl,hO,hB⟩:=hrel
  by_cases hlt : k < n
  · have hlt' : (k : Int) < (n : Int):=by omega
    obtain ⟨b2,off2,z,rfl,hb2,hz,_,hr2⟩:=Rws.row hH.out hlt
    obtain ⟨x,hx,rfl⟩:=map_at hz
    have hxm:=List.mem_of_getElem? hx
    have htk:=Lib.hid (txt_snoc (f:=itoa) hx)
    have hlen : (txt itoa (l.take k)).length≤1099511627777:=by rw [txt_len,List.length_take];omega
    have hrR:=rangeAt_keep hr2 hB.out hb2
    have cX:=Lib.hid (cW.out x hxm wr hB.out)
    have hB1:=hB
    have hO9:=hO
    have hcell:=hrR 0 _ rfl
    rw [Nat.mul_one,Nat.add_zero] at hcell
    clear hx hxm hr2 hz hrR
    generalize hyt : bs (itoa x)=yt at *
    clear hyt
    generalize txt itoa (l.take k)=D at *
    go_wp2_with (first
     | (go_at_call 52;(with_reducible refine cX.out.mono ?_);rintro r w2 ⟨rfl,hb2'⟩
        have hbn:=below_new w2 (.cells #[.string yt] 9)
        have hO1:=Lib.hid ((hO9.out.keep hb2').keep hbn)
        have hB2:=hB1.out.trans (hb2'.mono hB1.out.size)
        have hB3:=Lib.hid (hB2.trans (hbn.mono hB2.size))
        clear hb2' hbn hB2)
     | (at_builtin
        refine wpList_append_one rfl _ _ 27 rfl 9 i0 (.string ByteArray.empty) 1 16 Tryz.underlying27 hi0 hz0 hz1 hz2 rfl (by decide) w hB3.out _ _ rfl hO1.out w2.heap.size 1 (sv yt) rfl ?_ rfl ?_ ?_ ?_ ?_
        · exact rangeAt_list (heap_new w2 (.cells #[.string yt] 9))
        · intro u hu;simp [sv] at hu;subst hu;rfl
        · simp only [List.length_map];unfold maxLen;omega
        · simp only [List.length_map];omega
        intro v' w3 hO2 hB4 _
        have hO2:=Lib.hid (show OwnS w3 w.heap.size v' (D ++ [yt]) by unfold OwnS;simpa using hO2)
        have hB4:=Lib.hid hB4))
    go_roundw
    case rel=>exact ⟨k + 1,by omega,by go_num,by rw [htk.out];exact hO2,hB4⟩
    case measure=>simp [intOf];omega
  · obtain rfl : k=n:=by omega
    rw [List.take_of_length_le (by rw [hlnh.out];exact Nat.le_refl _)] at hO
    obtain ⟨A9,c9,e9,hS⟩:=hO.out.strs
    rw [txt_len,hlnh.out] at e9 hS
    have hc9:=Lib.hid (own_cap hO.out e9)
    subst e9
    have hS:=Lib.hid hS
    have cK:=Lib.hid (cJ.out A9 c9 wr hB.out hS.out hc9.out.1)
    clear hO
    go_wp2_with (go_at_call 119;(with_reducible refine cK.out.mono ?_);rintro r w2 ⟨rfl,hb2⟩;replace hb2:=Lib.hid (hB.out.trans (hb2.mono hB.out.size)))
    go_ret
    exact ⟨rfl,hb2.out⟩
set_option maxRecDepth 100000 in
set_option maxHeartbeats 8000000 in
theorem listS_any (l : List (List UInt8)) (A : Option Addr) (n c : Nat) (w : World) (E : EnvS w) (H : Rws w 1 A n (l.map (fun s=>sv (bs s)))) (hl : (joinL 44 (l.map wrName)).length≤1099511627776) :
 Calls Tryz.prog 107 #[.slice A n c,.func (.func 108) #[] #[]] w fun r w'=>r= .returned (.string (bs (joinL 44 (l.map wrName))))∧Below w.heap.size w w':=by
 obtain ⟨i0,hi0,hz0,hz1,hz2⟩:=info_parts str_info
 have hln : l.length=n:=by have:=H.1;simpa using this
 have hnb : n≤1099511627777:=by have:=joinL_count (c:=44) (l.map wrName);rw [List.length_map] at this;omega
 have hO0 : Hid (OwnS w w.heap.size (.slice none 0 0) (txt wrName (l.take 0))):=Lib.hid (OwnR.nil_ w w.heap.size 1 9)
 have hB0:=Lib.hid (Below.refl w.heap.size w)
 have cW:=Lib.hid (fun x (hx : x∈l) W' (h : Below w.heap.size w W')=>writeName_any x W' (by have:=joinL_len_le (c:=44) (List.mem_map_of_mem (f:=wrName) hx);have:=wrName_len x;omega))
 have hH:=Lib.hid H
 have cJ:=Lib.hid (fun A cc W' (h : Below w.heap.size w W') (hS : Strs W' A n (txt wrName l)) (hcc : n≤cc)=>join_any 44 (l.map wrName) A n cc W' hS hcc (by omega) (by omega))
 have hlnh:=Lib.hid hln
 clear H hl
 go_enter Tryz.func107,Tryz.ntmps107
 go_wp2_with fail
 go_loopw [5,10] (fun v iv wr=> ∃k : Nat,k≤n∧iv= .int .i64 k∧Hid (OwnS wr w.heap.size v (txt wrName (l.take k)))∧Hid (Below w.heap.size w wr)) (fun _ iv _=>n - (intOf iv).toNat)
 case atStart=>exact ⟨0,Nat.zero_le _,rfl,hO0,hB0⟩
 case round=>
  clear hO0 hB0
  obtain ⟨k,hk,rfl,hO,hB⟩:=hrel
  by_cases hlt : k < n
  · have hlt' : (k : Int) < (n : Int):=by omega
    obtain ⟨b2,off2,z,rfl,hb2,hz,_,hr2⟩:=Rws.row hH.out hlt
    obtain ⟨x,hx,rfl⟩:=map_at hz
    have hxm:=List.mem_of_getElem? hx
    have htk:=Lib.hid (txt_snoc (f:=wrName) hx)
    have hlen : (txt wrName (l.take k)).length≤1099511627777:=by rw [txt_len,List.length_take];omega
    have hrR:=rangeAt_keep hr2 hB.out hb2
    have cX:=Lib.hid (cW.out x hxm wr hB.out)
    have hB1:=hB
    have hO9:=hO
    have hcell:=hrR 0 _ rfl
    rw [Nat.mul_one,Nat.add_zero] at hcell
    clear hx hxm hr2 hz hrR
    generalize hyt : bs (wrName x)=yt at *
    generalize bs x=y at *
    clear hyt
    generalize txt wrName (l.take k)=D at *
    go_wp2_with (first
     | (go_at_call 108;(with_reducible refine cX.out.mono ?_);rintro r w2 ⟨rfl,hb2'⟩
        have hbn:=below_new w2 (.cells #[.string yt] 9)
        have hO1:=Lib.hid ((hO9.out.keep hb2').keep hbn)
        have hB2:=hB1.out.trans (hb2'.mono hB1.out.size)
        have hB3:=Lib.hid (hB2.trans (hbn.mono hB2.size))
        clear hb2' hbn hB2)
     | (at_builtin
        refine wpList_append_one rfl _ _ 27 rfl 9 i0 (.string ByteArray.empty) 1 16 Tryz.underlying27 hi0 hz0 hz1 hz2 rfl (by decide) w hB3.out _ _ rfl hO1.out w2.heap.size 1 (sv yt) rfl ?_ rfl ?_ ?_ ?_ ?_
        · exact rangeAt_list (heap_new w2 (.cells #[.string yt] 9))
        · intro u hu;simp [sv] at hu;subst hu;rfl
        · simp only [List.length_map];unfold maxLen;omega
        · simp only [List.length_map];omega
        intro v' w3 hO2 hB4 _
        have hO2:=Lib.hid (show OwnS w3 w.heap.size v' (D ++ [yt]) by unfold OwnS;simpa using hO2)
        have hB4:=Lib.hid hB4))
    go_roundw
    case rel=>exact ⟨k + 1,by omega,by go_num,by rw [htk.out];exact hO2,hB4⟩
    case measure=>simp [intOf];omega
  · obtain rfl : k=n:=by omega
    rw [List.take_of_length_le (by rw [hlnh.out];exact Nat.le_refl _)] at hO
    obtain ⟨A9,c9,e9,hS⟩:=hO.out.strs
    rw [txt_len,hlnh.out] at e9 hS
    have hc9:=Lib.hid (own_cap hO.out e9)
    subst e9
    have hS:=Lib.hid hS
    have cK:=Lib.hid (cJ.out A9 c9 wr hB.out hS.out hc9.out.1)
    clear hO
    go_wp2_with (go_at_call 119;(with_reducible refine cK.out.mono ?_);rintro r w2 ⟨rfl,hb2⟩;replace hb2:=Lib.hid (hB.out.trans (hb2.mono hB.out.size)))
    go_ret
    exact ⟨rfl,hb2.out⟩
set_option maxRecDepth 100000 in
set_option maxHeartbeats 8000000 in
theorem listO_any (l : List OpX) (A : Option Addr) (n c : Nat) (w : World) (E : EnvS w) (H : Rws w 5 A n (l.map OpX.row)) (ho : ∀x∈l,OkOp x) (hl : (joinL 44 (l.map wrOp)).length≤1099511627776) :
 Calls Tryz.prog 95 #[.slice A n c,.func (.func 96) #[] #[]] w fun r w'=>r= .returned (.string (bs (joinL 44 (l.map wrOp))))∧Below w.heap.size w w':=by
 obtain ⟨i0,hi0,hz0,hz1,hz2⟩:=info_parts str_info
 have hln : l.length=n:=by have:=H.1;simpa using this
 have hnb : n≤1099511627777:=by have:=joinL_count (c:=44) (l.map wrOp);rw [List.length_map] at this;omega
 have hO0 : Hid (OwnS w w.heap.size (.slice none 0 0) (txt wrOp (l.take 0))):=Lib.hid (OwnR.nil_ w w.heap.size 1 9)
 have hB0:=Lib.hid (Below.refl w.heap.size w)
 have cW:=Lib.hid (fun x (hx : x∈l) W' (h : Below w.heap.size w W')=>writeOp_any x W' (E.keep h E.size) (ho x hx) (by have:=joinL_len_le (c:=44) (List.mem_map_of_mem (f:=wrOp) hx);have:=wrOp_len x;omega))
 have hH:=Lib.hid H
 have cJ:=Lib.hid (fun A cc W' (h : Below w.heap.size w W') (hS : Strs W' A n (txt wrOp l)) (hcc : n≤cc)=>join_any 44 (l.map wrOp) A n cc W' hS hcc (by omega) (by omega))
 have hlnh:=Lib.hid hln
 clear H hl
 go_enter Tryz.func95,Tryz.ntmps95
 go_wp2_with fail
 go_loopw [5,10] (fun v iv wr=> ∃k : Nat,k≤n∧iv= .int .i64 k∧Hid (OwnS wr w.heap.size v (txt wrOp (l.take k)))∧Hid (Below w.heap.size w wr)) (fun _ iv _=>n - (intOf iv).toNat)
 case atStart=>exact ⟨0,Nat.zero_le _,rfl,hO0,hB0⟩
 case round=>
  clear hO0 hB0
  obtain ⟨k,hk,rfl,hO,hB⟩:=hrel
  by_cases hlt : k < n
  · have hlt' : (k : Int) < (n : Int):=by omega
    obtain ⟨b2,off2,z,rfl,hb2,hz,_,hr2⟩:=Rws.row hH.out hlt
    obtain ⟨x,hx,rfl⟩:=map_at hz
    have hxm:=List.mem_of_getElem? hx
    have htk:=Lib.hid (txt_snoc (f:=wrOp) hx)
    have hlen : (txt wrOp (l.take k)).length≤1099511627777:=by rw [txt_len,List.length_take];omega
    have hrR:=rangeAt_keep hr2 hB.out hb2
    have hg1:=heap_new wr (.cells opZ 85)
    have hWx:=below_new wr (.cells (OpX.row x).toArray 85)
    have hr3 : (wr.alloc (.cells (OpX.row x).toArray 85)).rangeAt wr.heap.size 0 (OpX.row x):=rangeAt_list (heap_new wr _)
    have hB1:=hB.out.trans (hWx.mono hB.out.size)
    have hO9:=Lib.hid (hO.out.keep hWx)
    have cX:=Lib.hid (cW.out x hxm _ hB1)
    replace hB1:=Lib.hid hB1
    clear hx hxm hr2 hz hWx hO
    obtain ⟨kk,xa,xb,xc,us⟩:=x
    unfold OpX.row at *
    dsimp only at *
    generalize bs us=y at *
    generalize bs (wrOp ⟨kk,xa,xb,xc,us⟩)=yt at *
    have hR1 : (#[.int .i64 kk,.int .i64 xa,.int .i64 xb,.int .i64 xc,.string y] : Array Value).all (·.oneCell')=true:=by simp [Value.oneCell']
    generalize txt wrOp (l.take k)=D at *
    go_wp2_with (first
     | (refine wpList_load_at 85 _ rfl rfl b2 (off2 + k * 5) rfl [.int .i64 kk,.int .i64 xa,.int .i64 xb,.int .i64 xc,.string y] _ hrR Tryz.underlying85 rfl (by kernel_rfl) ?_)
     | (refine wpList_load_at 85 _ rfl rfl wr.heap.size 0 rfl [.int .i64 kk,.int .i64 xa,.int .i64 xb,.int .i64 xc,.string y] _ hr3 Tryz.underlying85 rfl (by kernel_rfl) ?_)
     | (refine wpList_alloc_row 85 rfl rfl opZ op_zero ?_)
     | (refine wpList_store_at 85 _ _ rfl rfl wr.heap.size #[.int .i64 kk,.int .i64 xa,.int .i64 xb,.int .i64 xc,.string y] rfl rfl 85 opZ hg1 (by kernel_rfl) rfl hR1 ?_
        rw [setRow_new])
     | (go_at_call 96;(with_reducible refine cX.out.mono ?_);rintro r w2 ⟨rfl,hb2'⟩
        have hbn:=below_new w2 (.cells #[.string yt] 9)
        have hO1:=Lib.hid ((hO9.out.keep hb2').keep hbn)
        have hB2:=hB1.out.trans (hb2'.mono hB1.out.size)
        have hB3:=Lib.hid (hB2.trans (hbn.mono hB2.size))
        clear hb2' hbn hB2)
     | (at_builtin
        refine wpList_append_one rfl _ _ 27 rfl 9 i0 (.string ByteArray.empty) 1 16 Tryz.underlying27 hi0 hz0 hz1 hz2 rfl (by decide) w hB3.out _ _ rfl hO1.out w2.heap.size 1 (sv yt) rfl ?_ rfl ?_ ?_ ?_ ?_
        · exact rangeAt_list (heap_new w2 (.cells #[.string yt] 9))
        · intro u hu;simp [sv] at hu;subst hu;rfl
        · simp only [List.length_map];unfold maxLen;omega
        · simp only [List.length_map];omega
        intro v' w3 hO2 hB4 _
        have hO2:=Lib.hid (show OwnS w3 w.heap.size v' (D ++ [yt]) by unfold OwnS;simpa using hO2)
        have hB4:=Lib.hid hB4))
    go_roundw
    case rel=>exact ⟨k + 1,by omega,by go_num,by rw [htk.out];exact hO2,hB4⟩
    case measure=>simp [intOf];omega
  · obtain rfl : k=n:=by omega
    rw [List.take_of_length_le (by rw [hlnh.out];exact Nat.le_refl _)] at hO
    obtain ⟨A9,c9,e9,hS⟩:=hO.out.strs
    rw [txt_len,hlnh.out] at e9 hS
    have hc9:=Lib.hid (own_cap hO.out e9)
    subst e9
    have hS:=Lib.hid hS
    have cK:=Lib.hid (cJ.out A9 c9 wr hB.out hS.out hc9.out.1)
    clear hO
    go_wp2_with (go_at_call 119;(with_reducible refine cK.out.mono ?_);rintro r w2 ⟨rfl,hb2⟩;replace hb2:=Lib.hid (hB.out.trans (hb2.mono hB.out.size)))
    go_ret
    exact ⟨rfl,hb2.out⟩
set_option maxRecDepth 100000 in
set_option maxHeartbeats 8000000 in
theorem listG_any (l : List GrX) (A : Option Addr) (n c : Nat) (w : World) (E : EnvS w) (H : Rws w 2 A n (l.map GrX.row)) (ho : ∀x∈l,I64 x.who) (hl : (joinL 44 (l.map wrGr)).length≤1099511627776) :
 Calls Tryz.prog 113 #[.slice A n c,.func (.func 114) #[] #[]] w fun r w'=>r= .returned (.string (bs (joinL 44 (l.map wrGr))))∧Below w.heap.size w w':=by
 obtain ⟨i0,hi0,hz0,hz1,hz2⟩:=info_parts str_info
 have hln : l.length=n:=by have:=H.1;simpa using this
 have hnb : n≤1099511627777:=by have:=joinL_count (c:=44) (l.map wrGr);rw [List.length_map] at this;omega
 have hO0 : Hid (OwnS w w.heap.size (.slice none 0 0) (txt wrGr (l.take 0))):=Lib.hid (OwnR.nil_ w w.heap.size 1 9)
 have hB0:=Lib.hid (Below.refl w.heap.size w)
 have cW:=Lib.hid (fun x (hx : x∈l) W' (h : Below w.heap.size w W')=>writeGrant_any x W' (E.keep h E.size) (ho x hx) (by have:=joinL_len_le (c:=44) (List.mem_map_of_mem (f:=wrGr) hx);have:=wrGr_len x;omega))
 have hH:=Lib.hid H
 have cJ:=Lib.hid (fun A cc W' (h : Below w.heap.size w W') (hS : Strs W' A n (txt wrGr l)) (hcc : n≤cc)=>join_any 44 (l.map wrGr) A n cc W' hS hcc (by omega) (by omega))
 have hlnh:=Lib.hid hln
 clear H hl
 go_enter Tryz.func113,Tryz.ntmps113
 go_wp2_with fail
 go_loopw [5,10] (fun v iv wr=> ∃k : Nat,k≤n∧iv= .int .i64 k∧Hid (OwnS wr w.heap.size v (txt wrGr (l.take k)))∧Hid (Below w.heap.size w wr)) (fun _ iv _=>n - (intOf iv).toNat)
 case atStart=>exact ⟨0,Nat.zero_le _,rfl,hO0,hB0⟩
 case round=>
  clear hO0 hB0
  obtain ⟨k,hk,rfl,hO,hB⟩:=hrel
  by_cases hlt : k < n
  · have hlt' : (k : Int) < (n : Int):=by omega
    obtain ⟨b2,off2,z,rfl,hb2,hz,_,hr2⟩:=Rws.row hH.out hlt
    obtain ⟨x,hx,rfl⟩:=map_at hz
    have hxm:=List.mem_of_getElem? hx
    have htk:=Lib.hid (txt_snoc (f:=wrGr) hx)
    have hlen : (txt wrGr (l.take k)).length≤1099511627777:=by rw [txt_len,List.length_take];omega
    have hrR:=rangeAt_keep hr2 hB.out hb2
    have hg1:=heap_new wr (.cells grZ 108)
    have hWx:=below_new wr (.cells (GrX.row x).toArray 108)
    have hr3 : (wr.alloc (.cells (GrX.row x).toArray 108)).rangeAt wr.heap.size 0 (GrX.row x):=rangeAt_list (heap_new wr _)
    have hB1:=hB.out.trans (hWx.mono hB.out.size)
    have hO9:=Lib.hid (hO.out.keep hWx)
    have cX:=Lib.hid (cW.out x hxm _ hB1)
    replace hB1:=Lib.hid hB1
    clear hx hxm hr2 hz hWx hO
    obtain ⟨us,xa⟩:=x
    unfold GrX.row at *
    dsimp only at *
    generalize bs us=y at *
    generalize bs (wrGr ⟨us,xa⟩)=yt at *
    have hR1 : (#[.string y,.int .i64 xa] : Array Value).all (·.oneCell')=true:=by simp [Value.oneCell']
    generalize txt wrGr (l.take k)=D at *
    go_wp2_with (first
     | (refine wpList_load_at 108 _ rfl rfl b2 (off2 + k * 2) rfl [.string y,.int .i64 xa] _ hrR Tryz.underlying108 rfl (by kernel_rfl) ?_)
     | (refine wpList_load_at 108 _ rfl rfl wr.heap.size 0 rfl [.string y,.int .i64 xa] _ hr3 Tryz.underlying108 rfl (by kernel_rfl) ?_)
     | (refine wpList_alloc_row 108 rfl rfl grZ gr_zero ?_)
     | (refine wpList_store_at 108 _ _ rfl rfl wr.heap.size #[.string y,.int .i64 xa] rfl rfl 108 grZ hg1 (by kernel_rfl) rfl hR1 ?_
        rw [setRow_new])
     | (go_at_call 114;(with_reducible refine cX.out.mono ?_);rintro r w2 ⟨rfl,hb2'⟩
        have hbn:=below_new w2 (.cells #[.string yt] 9)
        have hO1:=Lib.hid ((hO9.out.keep hb2').keep hbn)
        have hB2:=hB1.out.trans (hb2'.mono hB1.out.size)
        have hB3:=Lib.hid (hB2.trans (hbn.mono hB2.size))
        clear hb2' hbn hB2)
     | (at_builtin
        refine wpList_append_one rfl _ _ 27 rfl 9 i0 (.string ByteArray.empty) 1 16 Tryz.underlying27 hi0 hz0 hz1 hz2 rfl (by decide) w hB3.out _ _ rfl hO1.out w2.heap.size 1 (sv yt) rfl ?_ rfl ?_ ?_ ?_ ?_
        · exact rangeAt_list (heap_new w2 (.cells #[.string yt] 9))
        · intro u hu;simp [sv] at hu;subst hu;rfl
        · simp only [List.length_map];unfold maxLen;omega
        · simp only [List.length_map];omega
        intro v' w3 hO2 hB4 _
        have hO2:=Lib.hid (show OwnS w3 w.heap.size v' (D ++ [yt]) by unfold OwnS;simpa using hO2)
        have hB4:=Lib.hid hB4))
    go_roundw
    case rel=>exact ⟨k + 1,by omega,by go_num,by rw [htk.out];exact hO2,hB4⟩
    case measure=>simp [intOf];omega
  · obtain rfl : k=n:=by omega
    rw [List.take_of_length_le (by rw [hlnh.out];exact Nat.le_refl _)] at hO
    obtain ⟨A9,c9,e9,hS⟩:=hO.out.strs
    rw [txt_len,hlnh.out] at e9 hS
    have hc9:=Lib.hid (own_cap hO.out e9)
    subst e9
    have hS:=Lib.hid hS
    have cK:=Lib.hid (cJ.out A9 c9 wr hB.out hS.out hc9.out.1)
    clear hO
    go_wp2_with (go_at_call 119;(with_reducible refine cK.out.mono ?_);rintro r w2 ⟨rfl,hb2⟩;replace hb2:=Lib.hid (hB.out.trans (hb2.mono hB.out.size)))
    go_ret
    exact ⟨rfl,hb2.out⟩
end Go.Proofs.YtmicohmbmgbnkaaGreatDoor
