/- The reference's equals, numbers, names. (printed by wip/gen_slr.py) -/
import Derived.Test.YtmicohmbmgbnkaaGreatDoorVb23
import Derived.Test.YtmicohmbmgbnkaaGreatDoorVb11
namespace Go.Proofs.YtmicohmbmgbnkaaGreatDoor
open Go Go.RowKit Go.Shelf
open Go.Lib (itoa)
theorem c44 : (((44 : UInt8).toNat : Nat) : Int)=44:=rfl
theorem c58 : (((58 : UInt8).toNat : Nat) : Int)=58:=rfl
theorem c32 : (((32 : UInt8).toNat : Nat) : Int)=32:=rfl
theorem c10 : (((10 : UInt8).toNat : Nat) : Int)=10:=rfl
def eqZ (L : List UInt8) : Int:=if (cutL 61 L).2.2=true then ((cutL 61 L).1.length : Int) else -1
theorem eqZ_hit {L : List UInt8} {k : Nat} (h : L[k]? =some 61) (hN : ∀(j : Nat) x,j < k→L[j]? =some x→x≠61) : eqZ L=k:=by
 have hk:=(List.getElem?_eq_some_iff.1 h).1
 have hn : (61 : UInt8) ∉ L.take k:=fun hm=>by
  obtain ⟨j,hj,e⟩:=List.getElem_of_mem hm
  rw [List.length_take] at hj
  rw [List.getElem_take] at e
  exact hN j _ (by omega) (List.getElem?_eq_getElem (by omega)) e
 have he : L=L.take k ++ 61 :: L.drop (k + 1):=by
  conv=>lhs;rw [← List.take_append_drop k L]
  rw [drop_at h]
 unfold eqZ
 rw [he,cutL_app _ hn,if_pos rfl,List.length_take]
 omega
theorem eqZ_none {L : List UInt8} (hN : ∀(j : Nat) x,j < L.length→L[j]? =some x→x≠61) : eqZ L= -1:=by
 have hn : (61 : UInt8) ∉ L:=fun hm=>by
  obtain ⟨j,hj,e⟩:=List.getElem_of_mem hm
  exact hN j _ hj (List.getElem?_eq_getElem hj) e
 unfold eqZ
 rw [cutL_none hn,if_neg (by simp)]
set_option maxRecDepth 100000 in
set_option maxHeartbeats 4000000 in
theorem equals_any (s : ByteArray) (w : World) (hs : s.size≤4611686018427387904) :
 Calls Tryz.prog 49 #[.string s] w fun r w'=>r= .returned (.int .i64 (eqZ s.data.toList))∧w' =w:=by
 have hsl:=Lib.hid (show s.data.toList.length=s.size by rw [Array.length_toList];rfl)
 have h0 : Hid (∀(j : Nat) x,j < 0→s.data.toList[j]? =some x→x≠61):=Lib.hid (fun j x h=>absurd h (Nat.not_lt_zero _))
 go_enter Tryz.func49,Tryz.ntmps49
 go_wp2_with fail
 go_loopw [3] (fun iv wr=> ∃k : Nat,k≤s.size∧iv= .int .i64 k∧Hid (wr=w)∧Hid (∀(j : Nat) x,j < k→s.data.toList[j]? =some x→x≠61)) (fun iv _=>s.size - (intOf iv).toNat)
 case atStart=>exact ⟨0,Nat.zero_le _,rfl,Lib.hid rfl,h0⟩
 case round=>
  clear h0
  obtain ⟨k,hk,rfl,hw,hN⟩:=hrel
  by_cases hlt : k < s.size
  · have hlt' : (k : Int) < (s.size : Int):=by omega
    have h0k : (0 : Int)≤(k : Int):=Int.natCast_nonneg _
    have hcL:=ba_get s hlt
    cases hc : ((s[k].toNat : Int) == 61) with
    | true=>
      have hbk : s[k]=61:=UInt8.toNat.inj (by have h1:=beq_iff_eq.1 hc;have e : (61 : UInt8).toNat=61:=rfl;omega)
      rw [hbk] at hcL
      have hR:=Lib.hid (eqZ_hit hcL hN.out)
      clear hbk hcL
      go_wp2_with fail
      go_ret
      exact ⟨by rw [hR.out];rfl,hw.out⟩
    | false=>
      have hbk : s[k]≠61:=by
       intro e
       rw [e] at hc
       simp at hc
      have hN2:=Lib.hid (show ∀(j : Nat) x,j < k + 1→s.data.toList[j]? =some x→x≠61 from fun j x hj h=>by
       by_cases e : j=k
       · rw [e,hcL] at h;injection h with h;rw [← h];exact hbk
       · exact hN.out j x (by omega) h)
      clear hbk hcL hN
      go_wp2_with fail
      go_roundw
      case rel=>exact ⟨k + 1,by omega,by go_num,hw,hN2⟩
      case measure=>simp [intOf];omega
  · obtain rfl : k=s.size:=by omega
    have hR:=Lib.hid (eqZ_none (by rw [hsl.out];exact hN.out))
    go_wp2_with fail
    go_ret
    exact ⟨by rw [hR.out];rfl,hw.out⟩
set_option maxRecDepth 100000 in
set_option maxHeartbeats 8000000 in
theorem rnumbers_any (c : UInt8) (s : ByteArray) (w : World) (hs : s.size≤1099511627776) :
 Calls Tryz.prog 81 #[.string s,.int .u8 c.toNat] w (UlR 1 3 iv (allM numL (splitL c s.data.toList)) w):=by
 obtain ⟨i0,hi0,hz0,hz1,hz2⟩:=info_parts int_info
 have hsl : s.data.toList.length=s.size:=by rw [Array.length_toList];rfl
 have hsub:=fun p (hp : p∈splitL c s.data.toList)=>split_size p hp
 rw [hsl] at hsub
 have hlen:=splitL_len c s.data.toList
 rw [hsl] at hlen
 have cS:=rsplit_any c s w hs
 try rw [c44] at cS
 replace cS:=Lib.hid cS
 generalize splitL c s.data.toList=ps at *
 obtain ⟨n,hn⟩ : ∃n,ps.length=n:=⟨_,rfl⟩
 have hn9 : n≤1099511627777:=by omega
 have hnh:=Lib.hid hn
 have hr0 : Hid (allM numL (ps.take 0)=some ([] : List Int)):=Lib.hid rfl
 have cR:=Lib.hid (fun p (hp : p∈ps) W'=>rnumber_any (bs p) W' (by have:=hsub p hp;rw [bs_size];omega))
 clear hsub hlen hsl hn
 go_enter Tryz.func81,Tryz.ntmps81
 go_upto_region 4 with (go_at_call 48;(with_reducible refine cS.out.mono ?_);rintro r wa ⟨v0,rfl,hOv,hb1⟩;obtain ⟨A0,c0,rfl,hS⟩:=hOv.strs;rw [List.length_map,hnh.out] at hS ⊢;replace hS:=Lib.hid hS;have hO1:=Lib.hid (OwnR.nil_ wa wa.heap.size 1 3);replace hb1:=Lib.hid hb1;clear hOv)
 go_loopw [6,8] (fun v jv wr=> ∃(k : Nat) (l : List Int),k≤n∧jv= .int .i64 k∧Hid (allM numL (ps.take k)=some l)∧Hid (l.length=k)∧Hid (OwnR wr wa.heap.size 1 3 v (l.map iv))∧Hid (Below wa.heap.size wa wr)) (fun _ jv _=>n - (intOf jv).toNat)
 case atStart=>exact ⟨0,[],Nat.zero_le _,rfl,hr0,Lib.hid rfl,hO1,Lib.hid (Below.refl _ _)⟩
 case round=>
  clear hr0 hO1
  obtain ⟨k,l,hk,rfl,hM,hL,hO,hB⟩:=hrel
  have hBw:=Lib.hid (hb1.out.trans (hB.out.mono hb1.out.size))
  by_cases hlt : k < n
  · have hlt' : (k : Int) < (n : Int):=by omega
    obtain ⟨p,hp⟩ : ∃p,ps[k]? =some p:=⟨ps[k]'(by rw [hnh.out];exact hlt),List.getElem?_eq_getElem _⟩
    obtain ⟨b1,o1,x1,rfl,hbl1,hx1,hc0⟩:=(hS.out.keep hB.out).at_ hlt
    rw [List.getElem?_map,hp] at hx1
    obtain rfl : bs p=x1:=Option.some.inj hx1
    have hno:=fun h=>allM_none (f:=numL) hp h
    have hye:=fun y h=>allM_snoc (f:=numL) (y:=y) hM.out hp h
    have hpm:=List.mem_of_getElem? hp
    clear hx1 hp hM
    have cX:=cR.out p hpm wr
    rw [bs_list] at cX
    replace cX:=Lib.hid cX
    replace hno:=Lib.hid hno
    replace hye:=Lib.hid hye
    generalize bs p=yp at *
    go_upto_region 7 with (first
     | (go_at_call 79;(with_reducible refine cX.out.mono ?_);rintro r w1 ⟨y,b,rfl,hyI,ha,hb2'⟩;have hb2:=hBw.out.trans (hb2'.mono hBw.out.size);have hb3:=hB.out.trans (hb2'.mono hB.out.size);have hO2:=Lib.hid (hO.out.keep hb2');replace ha:=Lib.hid ha;replace hyI:=Lib.hid hyI;replace hb2:=Lib.hid hb2;replace hb3:=Lib.hid hb3;clear hb2' hO))
    cases b with
    | false=>
      have hR:=Lib.hid (hno.out ha.out.no)
      go_wp2_with fail
      go_ret2
      exact ⟨_,_,rfl,hb2.out,fun l h=>absurd (hR.out.symm.trans h) (by simp),fun _=>⟨rfl,rfl⟩⟩
    | true=>
      have hM2:=Lib.hid (hye.out y ha.out.yes)
      have hq3:=below_new w1 (.cells (iv y).toArray 3)
      have hO4:=Lib.hid (hO2.out.keep hq3)
      have hb8:=Lib.hid (hb3.out.trans (hq3.mono hb3.out.size))
      have hlk:=hL.out
      have hL2:=Lib.hid (show (l ++ [y]).length=k + 1 by rw [List.length_append,hL.out];rfl)
      clear hq3 hO2 hye hno
      go_wp2_with (first
       | (at_builtin
          refine wpList_append_one rfl _ _ 37 rfl 3 i0 (.int .i64 0) 1 8 Tryz.underlying37 hi0 hz0 hz1 hz2 rfl (by decide) wa hb8.out _ _ rfl hO4.out w1.heap.size 1 (iv y) rfl ?_ rfl (fun u hu=>by simp [iv,sv] at hu;subst hu;rfl) ?_ ?_ ?_
          · exact rangeAt_list (heap_new w1 (.cells (iv y).toArray 3))
          · simp only [List.length_map];unfold maxLen;omega
          · simp only [List.length_map];omega
          intro v' w3 hO5 hB5 hg5
          have hO5:=Lib.hid (show OwnR w3 wa.heap.size 1 3 v' ((l ++ [y]).map iv) by rw [List.map_append];exact hO5)
          have hB6:=Lib.hid hB5))
      go_roundw
      case rel=>exact ⟨k + 1,_,by omega,by go_num,hM2,hL2,hO5,hB6⟩
      case measure=>simp [intOf];omega
  · obtain rfl : k=n:=by omega
    have hM2 : allM numL ps=some l:=by
     have:=hM.out
     rwa [List.take_of_length_le (by rw [hnh.out];exact Nat.le_refl _)] at this
    replace hM2:=Lib.hid hM2
    go_wp2_with fail
    go_ret2
    exact ⟨_,_,rfl,hBw.out,fun l' h=>⟨rfl,by obtain rfl:=Option.some.inj (hM2.out.symm.trans h);exact hO.out.lowB hb1.out.size⟩,fun h=>absurd (hM2.out.symm.trans h) (by simp)⟩
set_option maxRecDepth 100000 in
set_option maxHeartbeats 8000000 in
theorem rnames_any (s : ByteArray) (w : World) (hs : s.size≤1099511627776) :
 Calls Tryz.prog 83 #[.string s] w (UlR 1 9 (fun s=>sv (bs s)) (allM rdNameR (splitL 44 s.data.toList)) w):=by
 obtain ⟨i0,hi0,hz0,hz1,hz2⟩:=info_parts str_info
 have hsl : s.data.toList.length=s.size:=by rw [Array.length_toList];rfl
 have hsub:=fun p (hp : p∈splitL 44 s.data.toList)=>split_size p hp
 rw [hsl] at hsub
 have hlen:=splitL_len 44 s.data.toList
 rw [hsl] at hlen
 have cS:=rsplit_any 44 s w hs
 try rw [c44] at cS
 replace cS:=Lib.hid cS
 generalize splitL 44 s.data.toList=ps at *
 obtain ⟨n,hn⟩ : ∃n,ps.length=n:=⟨_,rfl⟩
 have hn9 : n≤1099511627777:=by omega
 have hnh:=Lib.hid hn
 have hr0 : Hid (allM rdNameR (ps.take 0)=some ([] : List (List UInt8))):=Lib.hid rfl
 have cR:=Lib.hid (fun p (hp : p∈ps) W'=>runescape_any (bs p) W' (by have:=hsub p hp;rw [bs_size];omega))
 clear hsub hlen hsl hn
 go_enter Tryz.func83,Tryz.ntmps83
 go_upto_region 4 with (go_at_call 48;(with_reducible refine cS.out.mono ?_);rintro r wa ⟨v0,rfl,hOv,hb1⟩;obtain ⟨A0,c0,rfl,hS⟩:=hOv.strs;rw [List.length_map,hnh.out] at hS ⊢;replace hS:=Lib.hid hS;have hO1:=Lib.hid (OwnR.nil_ wa wa.heap.size 1 9);replace hb1:=Lib.hid hb1;clear hOv)
 go_loopw [4,6] (fun v jv wr=> ∃(k : Nat) (l : List (List UInt8)),k≤n∧jv= .int .i64 k∧Hid (allM rdNameR (ps.take k)=some l)∧Hid (l.length=k)∧Hid (OwnR wr wa.heap.size 1 9 v (l.map (fun s=>sv (bs s))))∧Hid (Below wa.heap.size wa wr)) (fun _ jv _=>n - (intOf jv).toNat)
 case atStart=>exact ⟨0,[],Nat.zero_le _,rfl,hr0,Lib.hid rfl,hO1,Lib.hid (Below.refl _ _)⟩
 case round=>
  clear hr0 hO1
  obtain ⟨k,l,hk,rfl,hM,hL,hO,hB⟩:=hrel
  have hBw:=Lib.hid (hb1.out.trans (hB.out.mono hb1.out.size))
  by_cases hlt : k < n
  · have hlt' : (k : Int) < (n : Int):=by omega
    obtain ⟨p,hp⟩ : ∃p,ps[k]? =some p:=⟨ps[k]'(by rw [hnh.out];exact hlt),List.getElem?_eq_getElem _⟩
    obtain ⟨b1,o1,x1,rfl,hbl1,hx1,hc0⟩:=(hS.out.keep hB.out).at_ hlt
    rw [List.getElem?_map,hp] at hx1
    obtain rfl : bs p=x1:=Option.some.inj hx1
    have hno:=fun h=>allM_none (f:=rdNameR) hp h
    have hye:=fun y h=>allM_snoc (f:=rdNameR) (y:=y) hM.out hp h
    have hpm:=List.mem_of_getElem? hp
    clear hx1 hp hM
    have cX:=cR.out p hpm wr
    rw [bs_list] at cX
    replace cX:=Lib.hid cX
    by_cases h59 : p=[59]
    · subst h59
      have hM2:=Lib.hid (hye [] rfl)
      replace hno:=Lib.hid hno
      replace hye:=Lib.hid hye
      have hq : ((bs [59]).toList == [59])=true:=by rw [ByteArray.toList_eq];rfl
      obtain ⟨yu,gb,hget⟩ : ∃yu gb,∀r,UnR [59] r→r= .returned (.tuple #[.string yu,.bool gb]):=⟨_,_,fun r h=>unR_get h⟩
      generalize bs [59]=yp at *
      go_upto_region 7 with (first
       | (go_at_call 12;(with_reducible refine cX.out.mono ?_);rintro r w1 ⟨hu,hb2'⟩;obtain rfl:=hget _ hu;have hc1:=(hb2'.cell (p:=⟨b1,o1 + k,none⟩) hbl1).trans hc0;have hb2:=hBw.out.trans (hb2'.mono hBw.out.size);have hb3:=hB.out.trans (hb2'.mono hB.out.size);have hO2:=Lib.hid (hO.out.keep hb2');replace hb2:=Lib.hid hb2;replace hb3:=Lib.hid hb3;clear hb2' hO hu))
      clear hget
      have hq3:=below_new w1 (.cells (sv ⟨#[]⟩).toArray 9)
      have hO4:=Lib.hid (hO2.out.keep hq3)
      have hb8:=Lib.hid (hb3.out.trans (hq3.mono hb3.out.size))
      have hlk:=hL.out
      have hL2:=Lib.hid (show (l ++ [[]]).length=k + 1 by rw [List.length_append,hL.out];rfl)
      clear hq3 hO2 hye hno
      go_wp2_with (first
       | (at_builtin
          refine wpList_append_one rfl _ _ 27 rfl 9 i0 (.string ByteArray.empty) 1 16 Tryz.underlying27 hi0 hz0 hz1 hz2 rfl (by decide) wa hb8.out _ _ rfl hO4.out w1.heap.size 1 (sv ⟨#[]⟩) rfl ?_ rfl (fun u hu=>by simp [iv,sv] at hu;subst hu;rfl) ?_ ?_ ?_
          · exact rangeAt_list (heap_new w1 (.cells (sv ⟨#[]⟩).toArray 9))
          · simp only [List.length_map];unfold maxLen;omega
          · simp only [List.length_map];omega
          intro v' w3 hO5 hB5 hg5
          have hO5:=Lib.hid (show OwnR w3 wa.heap.size 1 9 v' ((l ++ [[]]).map (fun s=>sv (bs s))) by rw [List.map_append];exact hO5)
          have hB6:=Lib.hid hB5))
      go_roundw
      case rel=>exact ⟨k + 1,_,by omega,by go_num,hM2,hL2,hO5,hB6⟩
      case measure=>simp [intOf];omega
    · have hq : ((bs p).toList == [59])=false:=by
       have : (bs p).toList=p:=by rw [ByteArray.toList_eq,bs_list]
       rw [this]
       exact beq_eq_false_iff_ne.2 h59
      have hrd : rdNameR p=unescL p:=by unfold rdNameR;rw [if_neg h59]
      rw [hrd] at hno hye
      cases hu0 : unescL p with
      | none=>
        have hR:=Lib.hid (hno hu0)
        have hget : ∀{r : Ending},UnR p r→r= .returned (.tuple #[.string ⟨#[]⟩,.bool false]):=fun h=>by rw [unR_get h,hu0];rfl
        clear hye hno hrd
        generalize bs p=yp at *
        go_upto_region 7 with (first
         | (go_at_call 12;(with_reducible refine cX.out.mono ?_);rintro r w1 ⟨hu,hb2'⟩;obtain rfl:=hget hu;have hc1:=(hb2'.cell (p:=⟨b1,o1 + k,none⟩) hbl1).trans hc0;have hb2:=hBw.out.trans (hb2'.mono hBw.out.size);replace hb2:=Lib.hid hb2;clear hb2' hO hu))
        go_wp2_with fail
        go_ret2
        exact ⟨_,_,rfl,hb2.out,fun l h=>absurd (hR.out.symm.trans h) (by simp),fun _=>⟨rfl,rfl⟩⟩
      | some u=>
        have hM2:=Lib.hid (hye u hu0)
        have hget : ∀{r : Ending},UnR p r→r= .returned (.tuple #[.string (bs u),.bool true]):=fun h=>by rw [unR_get h,hu0];rfl
        clear hrd hu0
        replace hno:=Lib.hid hno
        replace hye:=Lib.hid hye
        generalize bs p=yp at *
        go_upto_region 7 with (first
         | (go_at_call 12;(with_reducible refine cX.out.mono ?_);rintro r w1 ⟨hu,hb2'⟩;obtain rfl:=hget hu;have hc1:=(hb2'.cell (p:=⟨b1,o1 + k,none⟩) hbl1).trans hc0;have hb2:=hBw.out.trans (hb2'.mono hBw.out.size);have hb3:=hB.out.trans (hb2'.mono hB.out.size);have hO2:=Lib.hid (hO.out.keep hb2');replace hb2:=Lib.hid hb2;replace hb3:=Lib.hid hb3;clear hb2' hO hu))
        have hyv : (bs u)=bs u:=rfl
        have hq3:=below_new w1 (.cells (sv (bs u)).toArray 9)
        have hO4:=Lib.hid (hO2.out.keep hq3)
        have hb8:=Lib.hid (hb3.out.trans (hq3.mono hb3.out.size))
        have hlk:=hL.out
        have hL2:=Lib.hid (show (l ++ [u]).length=k + 1 by rw [List.length_append,hL.out];rfl)
        clear hq3 hO2 hye hno hyv
        go_wp2_with (first
         | (at_builtin
            refine wpList_append_one rfl _ _ 27 rfl 9 i0 (.string ByteArray.empty) 1 16 Tryz.underlying27 hi0 hz0 hz1 hz2 rfl (by decide) wa hb8.out _ _ rfl hO4.out w1.heap.size 1 (sv (bs u)) rfl ?_ rfl (fun u hu=>by simp [iv,sv] at hu;subst hu;rfl) ?_ ?_ ?_
            · exact rangeAt_list (heap_new w1 (.cells (sv (bs u)).toArray 9))
            · simp only [List.length_map];unfold maxLen;omega
            · simp only [List.length_map];omega
            intro v' w3 hO5 hB5 hg5
            have hO5:=Lib.hid (show OwnR w3 wa.heap.size 1 9 v' ((l ++ [u]).map (fun s=>sv (bs s))) by rw [List.map_append];exact hO5)
            have hB6:=Lib.hid hB5))
        go_roundw
        case rel=>exact ⟨k + 1,_,by omega,by go_num,hM2,hL2,hO5,hB6⟩
        case measure=>simp [intOf];omega
  · obtain rfl : k=n:=by omega
    have hM2 : allM rdNameR ps=some l:=by
     have:=hM.out
     rwa [List.take_of_length_le (by rw [hnh.out];exact Nat.le_refl _)] at this
    replace hM2:=Lib.hid hM2
    go_wp2_with fail
    go_ret2
    exact ⟨_,_,rfl,hBw.out,fun l' h=>⟨rfl,by obtain rfl:=Option.some.inj (hM2.out.symm.trans h);exact hO.out.lowB hb1.out.size⟩,fun h=>absurd (hM2.out.symm.trans h) (by simp)⟩
end Go.Proofs.YtmicohmbmgbnkaaGreatDoor
