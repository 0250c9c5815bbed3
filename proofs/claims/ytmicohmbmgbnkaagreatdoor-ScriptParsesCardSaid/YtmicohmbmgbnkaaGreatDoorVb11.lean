/- Reading lists: unlist[T] at its four types. (printed by wip/gen_skt.py) -/
import Derived.Test.YtmicohmbmgbnkaaGreatDoorVb10
namespace Go.Proofs.YtmicohmbmgbnkaaGreatDoor
open Go Go.RowKit Go.Shelf
open Go.Lib (itoa)
theorem op_info : (Tryz.prog.info? 85).map (fun i=>(i.zero,i.size,i.bytes))=some (some (.agg opZ),5,48):=by kernel_rfl
theorem gr_info : (Tryz.prog.info? 108).map (fun i=>(i.zero,i.size,i.bytes))=some (some (.agg grZ),2,24):=by kernel_rfl
theorem allM_snoc {α β : Type} {f : α→Option β} : ∀{l : List α} {k : Nat} {x : α} {r : List β} {y : β},allM f (l.take k)=some r→l[k]? =some x→f x=some y→allM f (l.take (k + 1))=some (r ++ [y])
 | [],k,x,r,y,_,hx,_=>by cases hx
 | a :: l,0,x,r,y,h,hx,hy=>by
   injection h with h
   injection hx with hx
   subst h hx
   rw [List.take_succ_cons,List.take_zero,allM,hy]
   rfl
 | a :: l,k + 1,x,r,y,h,hx,hy=>by
   rw [List.take_succ_cons,allM] at h
   cases ha : f a with
   | none=>rw [ha] at h;cases h
   | some z=>
     rw [ha] at h
     dsimp only at h
     cases hr : allM f (l.take k) with
     | none=>rw [hr] at h;cases h
     | some q=>
       rw [hr] at h
       injection h with h
       subst h
       rw [List.take_succ_cons,allM,ha]
       dsimp only
       rw [allM_snoc hr hx hy]
       rfl
theorem allM_none {α β : Type} {f : α→Option β} : ∀{l : List α} {k : Nat} {x : α},l[k]? =some x→f x=none→allM f l=none
 | [],k,x,hx,_=>by cases hx
 | a :: l,0,x,hx,hy=>by
   injection hx with hx
   subst hx
   rw [allM,hy]
 | a :: l,k + 1,x,hx,hy=>by
   rw [allM,allM_none (l:=l) hx hy]
   cases f a <;> rfl
theorem OwnR.lowB {w : World} {base base' k : Nat} {E : TypeId} {v : Value} {zs : List (List Value)} (h : OwnR w base k E v zs) (hB : base'≤base) : OwnR w base' k E v zs:=by
 obtain ⟨⟨hl,hh⟩,hz⟩:=h
 refine ⟨⟨hl,?_⟩,hz⟩
 rcases hh with h0 | ⟨g,cap,cur,hv,hg,r⟩
 · exact .inl h0
 · exact .inr ⟨g,cap,cur,hv,by omega,r⟩
def UlR {α : Type} (K : Nat) (E : TypeId) (row : α→List Value) (o : Option (List α)) (w : World) (r : Ending) (w' : World) : Prop:=
 ∃v b,r= .returned (.tuple #[v,.bool b])∧Below w.heap.size w w'∧(∀l,o=some l→b=true∧OwnR w' w.heap.size K E v (l.map row))∧(o=none→b=false∧v= .slice none 0 0)
set_option maxRecDepth 100000 in
set_option maxHeartbeats 8000000 in
theorem unlistI_any (s : ByteArray) (w : World) (E : EnvS w) (hs : s.size < 4294967281) :
 Calls Tryz.prog 103 #[.string s,.func (.func 91) #[] #[]] w (UlR 1 3 iv (allM numL (splitL 44 s.data.toList)) w):=by
 obtain ⟨i0,hi0,hz0,hz1,hz2⟩:=info_parts int_info
 have hsl : s.data.toList.length=s.size:=by rw [Array.length_toList];rfl
 have hsub:=fun p (hp : p∈splitL 44 s.data.toList)=>split_size p hp
 rw [hsl] at hsub
 have hlen:=splitL_len 44 s.data.toList
 rw [hsl] at hlen
 have cS:=Lib.hid (split_any 44 s w E hs)
 generalize splitL 44 s.data.toList=ps at *
 obtain ⟨n,hn⟩ : ∃n,ps.length=n:=⟨_,rfl⟩
 rw [hn] at cS hlen
 have hn9 : n≤4294967282:=by omega
 have cR:=Lib.hid (fun p (hp : p∈ps) W' (h : Below w.heap.size w W')=>(number_any (bs p) W' (E.keep h E.size) (by have:=hsub p hp;rw [bs_size];omega)).mono (fun r w' ⟨h1,h2⟩=>(by obtain ⟨y,b,e,ha⟩:=h1.ans;exact ⟨y,b,e,ha,h2⟩ : ∃(y : Int) (b : Bool),r=Ending.returned (.tuple #[.int .i64 y,.bool b])∧Ans (numL p) b y∧Below W'.heap.size W' w')))
 have hnh:=Lib.hid hn
 have hr0 : Hid (allM numL (ps.take 0)=some ([] : List Int)):=Lib.hid rfl
 clear hsub hlen hsl hn
 go_enter Tryz.func103,Tryz.ntmps103
 go_upto_region 3 with (go_at_call 45;(with_reducible refine cS.out.mono ?_);rintro r wa ⟨W9,rfl,rfl,hS,hb1⟩;replace hS:=Lib.hid hS;have hO1:=Lib.hid (OwnR.nil_ wa wa.heap.size 1 3);replace hb1:=Lib.hid hb1)
 go_loopw [6,14] (fun v jv wr=> ∃(k : Nat) (l : List Int),k≤n∧jv= .int .i64 k∧Hid (allM numL (ps.take k)=some l)∧Hid (l.length=k)∧Hid (OwnR wr wa.heap.size 1 3 v (l.map iv))∧Hid (Below wa.heap.size wa wr)) (fun _ jv _=>n - (intOf jv).toNat)
 case atStart=>exact ⟨0,[],Nat.zero_le _,rfl,hr0,Lib.hid rfl,hO1,Lib.hid (Below.refl _ _)⟩
 case round=>
  clear hr0 hO1
  obtain ⟨k,l,hk,rfl,hM,hL,hO,hB⟩:=hrel
  have hBw:=Lib.hid (hb1.out.trans (hB.out.mono hb1.out.size))
  by_cases hlt : k < n
  · have hlt' : (k : Int) < (n : Int):=by omega
    obtain ⟨p,hp⟩ : ∃p,ps[k]? =some p:=⟨ps[k]'(by rw [hnh.out];exact hlt),List.getElem?_eq_getElem _⟩
    obtain ⟨hc0,_⟩:=strs_cell (hS.out.keep hB.out) (j:=k) (s:=bs p) (by rw [List.getElem?_map,hp];rfl)
    rw [Nat.zero_add] at hc0
    have cX:=cR.out p (List.mem_of_getElem? hp) wr hBw.out
    have hno:=fun h=>allM_none (f:=numL) hp h
    have hye:=fun y h=>allM_snoc (f:=numL) (y:=y) hM.out hp h
    replace cX:=Lib.hid cX
    replace hno:=Lib.hid hno
    replace hye:=Lib.hid hye
    clear hp hM
    go_upto_region 6 with (first
     | (go_at_call 91;(with_reducible refine cX.out.mono ?_);rintro r w1 ⟨y,b,rfl,ha,hb2'⟩;have hb2:=hBw.out.trans (hb2'.mono hBw.out.size);have hb3:=hB.out.trans (hb2'.mono hB.out.size);have hO2:=Lib.hid (hO.out.keep hb2');replace ha:=Lib.hid ha;replace hb2:=Lib.hid hb2;replace hb3:=Lib.hid hb3;clear hb2' hO))
    cases b with
    | false=>
      have hR:=Lib.hid (hno.out ha.out.no)
      go_wp2_with fail
      go_ret2
      exact ⟨_,_,rfl,hb2.out,fun l h=>absurd (hR.out.symm.trans h) (by simp),fun _=>⟨rfl,rfl⟩⟩
    | true=>
      have hM2:=Lib.hid (hye.out y ha.out.yes)
      have hq3:=below_new w1 (.cells (iv y).toArray 3)
      have hO4:=Lib.hid (hO2.out.keep hq3)
      have hb8:=Lib.hid (hb3.out.trans (hq3.mono hb3.out.size))
      have hlk:=hL.out
      have hL2:=Lib.hid (show (l ++ [y]).length=k + 1 by rw [List.length_append,hL.out];rfl)
      clear hq3 hO2 hye hno
      go_wp2_with (first
       | (at_builtin
          refine wpList_append_one rfl _ _ 37 rfl 3 i0 (.int .i64 0) 1 8 Tryz.underlying37 hi0 hz0 hz1 hz2 rfl (by decide) wa hb8.out _ _ rfl hO4.out w1.heap.size 1 (iv y) rfl ?_ rfl (fun u hu=>by simp [iv,sv] at hu;subst hu;rfl) ?_ ?_ ?_
          · exact rangeAt_list (heap_new w1 (.cells (iv y).toArray 3))
          · simp only [List.length_map];unfold maxLen;omega
          · simp only [List.length_map];omega
          intro v' w3 hO5 hB5 hg5
          have hO5:=Lib.hid (show OwnR w3 wa.heap.size 1 3 v' ((l ++ [y]).map iv) by rw [List.map_append];exact hO5)
          have hB6:=Lib.hid hB5))
      go_roundw
      case rel=>exact ⟨k + 1,_,by omega,by go_num,hM2,hL2,hO5,hB6⟩
      case measure=>simp [intOf];omega
  · obtain rfl : k=n:=by omega
    have hM2 : allM numL ps=some l:=by
     have:=hM.out
     rwa [List.take_of_length_le (by rw [hnh.out];exact Nat.le_refl _)] at this
    replace hM2:=Lib.hid hM2
    go_wp2_with fail
    go_ret2
    exact ⟨_,_,rfl,hBw.out,fun l' h=>⟨rfl,by obtain rfl:=Option.some.inj (hM2.out.symm.trans h);exact hO.out.lowB hb1.out.size⟩,fun h=>absurd (hM2.out.symm.trans h) (by simp)⟩
set_option maxRecDepth 100000 in
set_option maxHeartbeats 8000000 in
theorem unlistS_any (s : ByteArray) (w : World) (E : EnvS w) (hs : s.size < 4294967281) :
 Calls Tryz.prog 110 #[.string s,.func (.func 111) #[] #[]] w (UlR 1 9 (fun s=>sv (bs s)) (allM rdName (splitL 44 s.data.toList)) w):=by
 obtain ⟨i0,hi0,hz0,hz1,hz2⟩:=info_parts str_info
 have hsl : s.data.toList.length=s.size:=by rw [Array.length_toList];rfl
 have hsub:=fun p (hp : p∈splitL 44 s.data.toList)=>split_size p hp
 rw [hsl] at hsub
 have hlen:=splitL_len 44 s.data.toList
 rw [hsl] at hlen
 have cS:=Lib.hid (split_any 44 s w E hs)
 generalize splitL 44 s.data.toList=ps at *
 obtain ⟨n,hn⟩ : ∃n,ps.length=n:=⟨_,rfl⟩
 rw [hn] at cS hlen
 have hn9 : n≤4294967282:=by omega
 have cR:=Lib.hid (fun p (hp : p∈ps) W' (h : Below w.heap.size w W')=>readName_any (bs p) W' (by have:=hsub p hp;rw [bs_size];omega))
 have hnh:=Lib.hid hn
 have hr0 : Hid (allM rdName (ps.take 0)=some ([] : List (List UInt8))):=Lib.hid rfl
 clear hsub hlen hsl hn
 go_enter Tryz.func110,Tryz.ntmps110
 go_upto_region 3 with (go_at_call 45;(with_reducible refine cS.out.mono ?_);rintro r wa ⟨W9,rfl,rfl,hS,hb1⟩;replace hS:=Lib.hid hS;have hO1:=Lib.hid (OwnR.nil_ wa wa.heap.size 1 9);replace hb1:=Lib.hid hb1)
 go_loopw [6,14] (fun v jv wr=> ∃(k : Nat) (l : List (List UInt8)),k≤n∧jv= .int .i64 k∧Hid (allM rdName (ps.take k)=some l)∧Hid (l.length=k)∧Hid (OwnR wr wa.heap.size 1 9 v (l.map (fun s=>sv (bs s))))∧Hid (Below wa.heap.size wa wr)) (fun _ jv _=>n - (intOf jv).toNat)
 case atStart=>exact ⟨0,[],Nat.zero_le _,rfl,hr0,Lib.hid rfl,hO1,Lib.hid (Below.refl _ _)⟩
 case round=>
  clear hr0 hO1
  obtain ⟨k,l,hk,rfl,hM,hL,hO,hB⟩:=hrel
  have hBw:=Lib.hid (hb1.out.trans (hB.out.mono hb1.out.size))
  by_cases hlt : k < n
  · have hlt' : (k : Int) < (n : Int):=by omega
    obtain ⟨p,hp⟩ : ∃p,ps[k]? =some p:=⟨ps[k]'(by rw [hnh.out];exact hlt),List.getElem?_eq_getElem _⟩
    obtain ⟨hc0,_⟩:=strs_cell (hS.out.keep hB.out) (j:=k) (s:=bs p) (by rw [List.getElem?_map,hp];rfl)
    rw [Nat.zero_add] at hc0
    have cX:=cR.out p (List.mem_of_getElem? hp) wr hBw.out
    have hno:=fun h=>allM_none (f:=rdName) hp h
    have hye:=fun y h=>allM_snoc (f:=rdName) (y:=y) hM.out hp h
    replace cX:=Lib.hid cX
    replace hno:=Lib.hid hno
    replace hye:=Lib.hid hye
    clear hp hM
    go_upto_region 6 with (first
     | (go_at_call 111;(with_reducible refine cX.out.mono ?_);rintro r w1 ⟨y,b,rfl,ha,hb2'⟩;have hb2:=hBw.out.trans (hb2'.mono hBw.out.size);have hb3:=hB.out.trans (hb2'.mono hB.out.size);have hO2:=Lib.hid (hO.out.keep hb2');replace ha:=Lib.hid ha;replace hb2:=Lib.hid hb2;replace hb3:=Lib.hid hb3;clear hb2' hO))
    cases b with
    | false=>
      have hR:=Lib.hid (hno.out ha.out.no)
      go_wp2_with fail
      go_ret2
      exact ⟨_,_,rfl,hb2.out,fun l h=>absurd (hR.out.symm.trans h) (by simp),fun _=>⟨rfl,rfl⟩⟩
    | true=>
      have hM2:=Lib.hid (hye.out y ha.out.yes)
      have hq3:=below_new w1 (.cells ((fun s=>sv (bs s)) y).toArray 9)
      have hO4:=Lib.hid (hO2.out.keep hq3)
      have hb8:=Lib.hid (hb3.out.trans (hq3.mono hb3.out.size))
      have hlk:=hL.out
      have hL2:=Lib.hid (show (l ++ [y]).length=k + 1 by rw [List.length_append,hL.out];rfl)
      clear hq3 hO2 hye hno
      go_wp2_with (first
       | (at_builtin
          refine wpList_append_one rfl _ _ 27 rfl 9 i0 (.string ByteArray.empty) 1 16 Tryz.underlying27 hi0 hz0 hz1 hz2 rfl (by decide) wa hb8.out _ _ rfl hO4.out w1.heap.size 1 ((fun s=>sv (bs s)) y) rfl ?_ rfl (fun u hu=>by simp [iv,sv] at hu;subst hu;rfl) ?_ ?_ ?_
          · exact rangeAt_list (heap_new w1 (.cells ((fun s=>sv (bs s)) y).toArray 9))
          · simp only [List.length_map];unfold maxLen;omega
          · simp only [List.length_map];omega
          intro v' w3 hO5 hB5 hg5
          have hO5:=Lib.hid (show OwnR w3 wa.heap.size 1 9 v' ((l ++ [y]).map (fun s=>sv (bs s))) by rw [List.map_append];exact hO5)
          have hB6:=Lib.hid hB5))
      go_roundw
      case rel=>exact ⟨k + 1,_,by omega,by go_num,hM2,hL2,hO5,hB6⟩
      case measure=>simp [intOf];omega
  · obtain rfl : k=n:=by omega
    have hM2 : allM rdName ps=some l:=by
     have:=hM.out
     rwa [List.take_of_length_le (by rw [hnh.out];exact Nat.le_refl _)] at this
    replace hM2:=Lib.hid hM2
    go_wp2_with fail
    go_ret2
    exact ⟨_,_,rfl,hBw.out,fun l' h=>⟨rfl,by obtain rfl:=Option.some.inj (hM2.out.symm.trans h);exact hO.out.lowB hb1.out.size⟩,fun h=>absurd (hM2.out.symm.trans h) (by simp)⟩
set_option maxRecDepth 100000 in
set_option maxHeartbeats 8000000 in
theorem unlistO_any (s : ByteArray) (w : World) (E : EnvS w) (hs : s.size < 4294967281) :
 Calls Tryz.prog 98 #[.string s,.func (.func 99) #[] #[]] w (UlR 5 85 OpX.row (allM rdOp (splitL 44 s.data.toList)) w):=by
 obtain ⟨i0,hi0,hz0,hz1,hz2⟩:=info_parts op_info
 have hsl : s.data.toList.length=s.size:=by rw [Array.length_toList];rfl
 have hsub:=fun p (hp : p∈splitL 44 s.data.toList)=>split_size p hp
 rw [hsl] at hsub
 have hlen:=splitL_len 44 s.data.toList
 rw [hsl] at hlen
 have cS:=Lib.hid (split_any 44 s w E hs)
 generalize splitL 44 s.data.toList=ps at *
 obtain ⟨n,hn⟩ : ∃n,ps.length=n:=⟨_,rfl⟩
 rw [hn] at cS hlen
 have hn9 : n≤4294967282:=by omega
 have cR:=Lib.hid (fun p (hp : p∈ps) W' (h : Below w.heap.size w W')=>readOp_any (bs p) W' (E.keep h E.size) (by have:=hsub p hp;rw [bs_size];omega))
 have hnh:=Lib.hid hn
 have hr0 : Hid (allM rdOp (ps.take 0)=some ([] : List OpX)):=Lib.hid rfl
 clear hsub hlen hsl hn
 go_enter Tryz.func98,Tryz.ntmps98
 go_upto_region 3 with (go_at_call 45;(with_reducible refine cS.out.mono ?_);rintro r wa ⟨W9,rfl,rfl,hS,hb1⟩;replace hS:=Lib.hid hS;have hO1:=Lib.hid (OwnR.nil_ wa wa.heap.size 5 85);replace hb1:=Lib.hid hb1)
 go_loopw [6,14] (fun v jv wr=> ∃(k : Nat) (l : List OpX),k≤n∧jv= .int .i64 k∧Hid (allM rdOp (ps.take k)=some l)∧Hid (l.length=k)∧Hid (OwnR wr wa.heap.size 5 85 v (l.map OpX.row))∧Hid (Below wa.heap.size wa wr)) (fun _ jv _=>n - (intOf jv).toNat)
 case atStart=>exact ⟨0,[],Nat.zero_le _,rfl,hr0,Lib.hid rfl,hO1,Lib.hid (Below.refl _ _)⟩
 case round=>
  clear hr0 hO1
  obtain ⟨k,l,hk,rfl,hM,hL,hO,hB⟩:=hrel
  have hBw:=Lib.hid (hb1.out.trans (hB.out.mono hb1.out.size))
  by_cases hlt : k < n
  · have hlt' : (k : Int) < (n : Int):=by omega
    obtain ⟨p,hp⟩ : ∃p,ps[k]? =some p:=⟨ps[k]'(by rw [hnh.out];exact hlt),List.getElem?_eq_getElem _⟩
    obtain ⟨hc0,_⟩:=strs_cell (hS.out.keep hB.out) (j:=k) (s:=bs p) (by rw [List.getElem?_map,hp];rfl)
    rw [Nat.zero_add] at hc0
    have cX:=cR.out p (List.mem_of_getElem? hp) wr hBw.out
    have hno:=fun h=>allM_none (f:=rdOp) hp h
    have hye:=fun y h=>allM_snoc (f:=rdOp) (y:=y) hM.out hp h
    replace cX:=Lib.hid cX
    replace hno:=Lib.hid hno
    replace hye:=Lib.hid hye
    clear hp hM
    go_upto_region 6 with (first
     | (refine wpList_alloc_row 85 rfl rfl opZ op_zero ?_)
     | (refine wpList_store_at 85 _ _ rfl rfl w1.heap.size y.row.toArray rfl rfl 85 opZ (heap_new w1 _) (by kernel_rfl) rfl y.one ?_
        rw [setRow_new])
     | (go_at_call 99;(with_reducible refine cX.out.mono ?_);rintro r w1 ⟨y,b,rfl,ha,hb2'⟩;have hb2:=hBw.out.trans (hb2'.mono hBw.out.size);have hb3:=hB.out.trans (hb2'.mono hB.out.size);have hO2:=Lib.hid (hO.out.keep hb2');replace ha:=Lib.hid ha;replace hb2:=Lib.hid hb2;replace hb3:=Lib.hid hb3;clear hb2' hO))
    have hq1:=below_new w1 (.cells y.row.toArray 85)
    have hr1:=Lib.hid (rangeAt_list (heap_new w1 (.cells y.row.toArray 85)))
    have hO3:=Lib.hid (hO2.out.keep hq1)
    have hb5:=Lib.hid (hb2.out.trans (hq1.mono hb2.out.size))
    have hb6:=Lib.hid (hb3.out.trans (hq1.mono hb3.out.size))
    clear hO2 hb2 hb3 hq1
    generalize w1.alloc (.cells y.row.toArray 85)=w2 at *
    cases b with
    | false=>
      have hR:=Lib.hid (hno.out ha.out.no)
      go_wp2_with fail
      go_ret2
      exact ⟨_,_,rfl,hb5.out,fun l h=>absurd (hR.out.symm.trans h) (by simp),fun _=>⟨rfl,rfl⟩⟩
    | true=>
      have hM2:=Lib.hid (hye.out y ha.out.yes)
      have hq3:=below_new w2 (.cells y.row.toArray 85)
      have hO4:=Lib.hid (hO3.out.keep hq3)
      have hb8:=Lib.hid (hb6.out.trans (hq3.mono hb6.out.size))
      have hlk:=hL.out
      have hL2:=Lib.hid (show (l ++ [y]).length=k + 1 by rw [List.length_append,hL.out];rfl)
      clear hq3 hO3 hye hno
      go_wp2_with (first
       | (refine wpList_load_at 85 _ rfl rfl w1.heap.size 0 rfl y.row _ hr1.out Tryz.underlying85 rfl (by kernel_rfl) ?_)
       | (refine wpList_buildSlice_as 42 85 1 _ rfl rfl i0 (.agg opZ) y.row.toArray Tryz.underlying42 hi0 hz0 (by rw [hz1];decide) (by rw [hz1];decide) ?_ ?_
          · rw [hz1];exact fill_one 5 _ _ (by simp) rfl)
       | (at_builtin
          refine wpList_append_one rfl _ _ 42 rfl 85 i0 (.agg opZ) 5 48 Tryz.underlying42 hi0 hz0 hz1 hz2 rfl (by decide) wa hb8.out _ _ rfl hO4.out w2.heap.size 1 y.row rfl ?_ rfl (fun u hu=>List.all_eq_true.1 (by simpa using y.one) u hu) ?_ ?_ ?_
          · exact rangeAt_list (heap_new w2 (.cells y.row.toArray 85))
          · simp only [List.length_map];unfold maxLen;omega
          · simp only [List.length_map];omega
          intro v' w3 hO5 hB5 hg5
          have hO5:=Lib.hid (show OwnR w3 wa.heap.size 5 85 v' ((l ++ [y]).map OpX.row) by rw [List.map_append];exact hO5)
          have hB6:=Lib.hid hB5))
      go_roundw
      case rel=>exact ⟨k + 1,_,by omega,by go_num,hM2,hL2,hO5,hB6⟩
      case measure=>simp [intOf];omega
  · obtain rfl : k=n:=by omega
    have hM2 : allM rdOp ps=some l:=by
     have:=hM.out
     rwa [List.take_of_length_le (by rw [hnh.out];exact Nat.le_refl _)] at this
    replace hM2:=Lib.hid hM2
    go_wp2_with fail
    go_ret2
    exact ⟨_,_,rfl,hBw.out,fun l' h=>⟨rfl,by obtain rfl:=Option.some.inj (hM2.out.symm.trans h);exact hO.out.lowB hb1.out.size⟩,fun h=>absurd (hM2.out.symm.trans h) (by simp)⟩
set_option maxRecDepth 100000 in
set_option maxHeartbeats 8000000 in
theorem unlistG_any (s : ByteArray) (w : World) (E : EnvS w) (hs : s.size < 4294967281) :
 Calls Tryz.prog 116 #[.string s,.func (.func 117) #[] #[]] w (UlR 2 108 GrX.row (allM rdGr (splitL 44 s.data.toList)) w):=by
 obtain ⟨i0,hi0,hz0,hz1,hz2⟩:=info_parts gr_info
 have hsl : s.data.toList.length=s.size:=by rw [Array.length_toList];rfl
 have hsub:=fun p (hp : p∈splitL 44 s.data.toList)=>split_size p hp
 rw [hsl] at hsub
 have hlen:=splitL_len 44 s.data.toList
 rw [hsl] at hlen
 have cS:=Lib.hid (split_any 44 s w E hs)
 generalize splitL 44 s.data.toList=ps at *
 obtain ⟨n,hn⟩ : ∃n,ps.length=n:=⟨_,rfl⟩
 rw [hn] at cS hlen
 have hn9 : n≤4294967282:=by omega
 have cR:=Lib.hid (fun p (hp : p∈ps) W' (h : Below w.heap.size w W')=>readGrant_any (bs p) W' (E.keep h E.size) (by have:=hsub p hp;rw [bs_size];omega))
 have hnh:=Lib.hid hn
 have hr0 : Hid (allM rdGr (ps.take 0)=some ([] : List GrX)):=Lib.hid rfl
 clear hsub hlen hsl hn
 go_enter Tryz.func116,Tryz.ntmps116
 go_upto_region 3 with (go_at_call 45;(with_reducible refine cS.out.mono ?_);rintro r wa ⟨W9,rfl,rfl,hS,hb1⟩;replace hS:=Lib.hid hS;have hO1:=Lib.hid (OwnR.nil_ wa wa.heap.size 2 108);replace hb1:=Lib.hid hb1)
 go_loopw [6,14] (fun v jv wr=> ∃(k : Nat) (l : List GrX),k≤n∧jv= .int .i64 k∧Hid (allM rdGr (ps.take k)=some l)∧Hid (l.length=k)∧Hid (OwnR wr wa.heap.size 2 108 v (l.map GrX.row))∧Hid (Below wa.heap.size wa wr)) (fun _ jv _=>n - (intOf jv).toNat)
 case atStart=>exact ⟨0,[],Nat.zero_le _,rfl,hr0,Lib.hid rfl,hO1,Lib.hid (Below.refl _ _)⟩
 case round=>
  clear hr0 hO1
  obtain ⟨k,l,hk,rfl,hM,hL,hO,hB⟩:=hrel
  have hBw:=Lib.hid (hb1.out.trans (hB.out.mono hb1.out.size))
  by_cases hlt : k < n
  · have hlt' : (k : Int) < (n : Int):=by omega
    obtain ⟨p,hp⟩ : ∃p,ps[k]? =some p:=⟨ps[k]'(by rw [hnh.out];exact hlt),List.getElem?_eq_getElem _⟩
    obtain ⟨hc0,_⟩:=strs_cell (hS.out.keep hB.out) (j:=k) (s:=bs p) (by rw [List.getElem?_map,hp];rfl)
    rw [Nat.zero_add] at hc0
    have cX:=cR.out p (List.mem_of_getElem? hp) wr hBw.out
    have hno:=fun h=>allM_none (f:=rdGr) hp h
    have hye:=fun y h=>allM_snoc (f:=rdGr) (y:=y) hM.out hp h
    replace cX:=Lib.hid cX
    replace hno:=Lib.hid hno
    replace hye:=Lib.hid hye
    clear hp hM
    go_upto_region 6 with (first
     | (refine wpList_alloc_row 108 rfl rfl grZ gr_zero ?_)
     | (refine wpList_store_at 108 _ _ rfl rfl w1.heap.size y.row.toArray rfl rfl 108 grZ (heap_new w1 _) (by kernel_rfl) rfl y.one ?_
        rw [setRow_new])
     | (go_at_call 117;(with_reducible refine cX.out.mono ?_);rintro r w1 ⟨y,b,rfl,ha,hb2'⟩;have hb2:=hBw.out.trans (hb2'.mono hBw.out.size);have hb3:=hB.out.trans (hb2'.mono hB.out.size);have hO2:=Lib.hid (hO.out.keep hb2');replace ha:=Lib.hid ha;replace hb2:=Lib.hid hb2;replace hb3:=Lib.hid hb3;clear hb2' hO))
    have hq1:=below_new w1 (.cells y.row.toArray 108)
    have hr1:=Lib.hid (rangeAt_list (heap_new w1 (.cells y.row.toArray 108)))
    have hO3:=Lib.hid (hO2.out.keep hq1)
    have hb5:=Lib.hid (hb2.out.trans (hq1.mono hb2.out.size))
    have hb6:=Lib.hid (hb3.out.trans (hq1.mono hb3.out.size))
    clear hO2 hb2 hb3 hq1
    generalize w1.alloc (.cells y.row.toArray 108)=w2 at *
    cases b with
    | false=>
      have hR:=Lib.hid (hno.out ha.out.no)
      go_wp2_with fail
      go_ret2
      exact ⟨_,_,rfl,hb5.out,fun l h=>absurd (hR.out.symm.trans h) (by simp),fun _=>⟨rfl,rfl⟩⟩
    | true=>
      have hM2:=Lib.hid (hye.out y ha.out.yes)
      have hq3:=below_new w2 (.cells y.row.toArray 108)
      have hO4:=Lib.hid (hO3.out.keep hq3)
      have hb8:=Lib.hid (hb6.out.trans (hq3.mono hb6.out.size))
      have hlk:=hL.out
      have hL2:=Lib.hid (show (l ++ [y]).length=k + 1 by rw [List.length_append,hL.out];rfl)
      clear hq3 hO3 hye hno
      go_wp2_with (first
       | (refine wpList_load_at 108 _ rfl rfl w1.heap.size 0 rfl y.row _ hr1.out Tryz.underlying108 rfl (by kernel_rfl) ?_)
       | (refine wpList_buildSlice_as 36 108 1 _ rfl rfl i0 (.agg grZ) y.row.toArray Tryz.underlying36 hi0 hz0 (by rw [hz1];decide) (by rw [hz1];decide) ?_ ?_
          · rw [hz1];exact fill_one 2 _ _ (by simp) rfl)
       | (at_builtin
          refine wpList_append_one rfl _ _ 36 rfl 108 i0 (.agg grZ) 2 24 Tryz.underlying36 hi0 hz0 hz1 hz2 rfl (by decide) wa hb8.out _ _ rfl hO4.out w2.heap.size 1 y.row rfl ?_ rfl (fun u hu=>List.all_eq_true.1 (by simpa using y.one) u hu) ?_ ?_ ?_
          · exact rangeAt_list (heap_new w2 (.cells y.row.toArray 108))
          · simp only [List.length_map];unfold maxLen;omega
          · simp only [List.length_map];omega
          intro v' w3 hO5 hB5 hg5
          have hO5:=Lib.hid (show OwnR w3 wa.heap.size 2 108 v' ((l ++ [y]).map GrX.row) by rw [List.map_append];exact hO5)
          have hB6:=Lib.hid hB5))
      go_roundw
      case rel=>exact ⟨k + 1,_,by omega,by go_num,hM2,hL2,hO5,hB6⟩
      case measure=>simp [intOf];omega
  · obtain rfl : k=n:=by omega
    have hM2 : allM rdGr ps=some l:=by
     have:=hM.out
     rwa [List.take_of_length_le (by rw [hnh.out];exact Nat.le_refl _)] at this
    replace hM2:=Lib.hid hM2
    go_wp2_with fail
    go_ret2
    exact ⟨_,_,rfl,hBw.out,fun l' h=>⟨rfl,by obtain rfl:=Option.some.inj (hM2.out.symm.trans h);exact hO.out.lowB hb1.out.size⟩,fun h=>absurd (hM2.out.symm.trans h) (by simp)⟩
end Go.Proofs.YtmicohmbmgbnkaaGreatDoor
