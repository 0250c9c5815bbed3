/- Words and their places. (printed by wip/gen_skn.py) -/
import Derived.Test.YtmicohmbmgbnkaaGreatDoorVb3
namespace Go.Proofs.YtmicohmbmgbnkaaGreatDoor
open Go Go.RowKit Go.Shelf
open Go.Lib (itoa)
def placeZ (l : List (List UInt8)) (w : List UInt8) : Int:=match placeL l w with | some i=>i | none=> -1
theorem placeL_app {l : List (List UInt8)} {w : List UInt8} : ∀{k : Nat},(∀j x,j < k→l[j]? =some x→x≠w)→l[k]? =some w→placeL l w=some k:=by
 induction l with
 | nil=>intro k _ h;cases h
 | cons x r ih=>
   intro k hn h
   cases k with
   | zero=>injection h with h;rw [placeL,if_pos h]
   | succ k=>
     rw [placeL,if_neg (hn 0 x (Nat.succ_pos _) rfl),ih (fun j y hj hy=>hn (j + 1) y (by omega) hy) h]
     rfl
theorem placeL_not {l : List (List UInt8)} {w : List UInt8} (hn : ∀j x,j < l.length→l[j]? =some x→x≠w) : placeL l w=none:=by
 induction l with
 | nil=>rfl
 | cons x r ih=>
   rw [placeL,if_neg (hn 0 x (Nat.succ_pos _) rfl),ih (fun j y hj hy=>hn (j + 1) y (by simp;omega) hy)]
   rfl
theorem placeZ_hit {l : List (List UInt8)} {w : List UInt8} {k : Nat} (hn : ∀j x,j < k→l[j]? =some x→x≠w) (h : l[k]? =some w) : placeZ l w=k:=by unfold placeZ;rw [placeL_app hn h]
theorem placeZ_none {l : List (List UInt8)} {w : List UInt8} (hn : ∀j x,j < l.length→l[j]? =some x→x≠w) : placeZ l w= -1:=by unfold placeZ;rw [placeL_not hn]
set_option maxRecDepth 100000 in
set_option maxHeartbeats 2000000 in
theorem place_any (l : List (List UInt8)) (A : Option Addr) (n c : Nat) (s : ByteArray) (w : World) (hn : n≤4611686018427387904) (H : Strs w A n (l.map bs)) :
 Calls Tryz.prog 37 #[.slice A n c,.string s] w fun r w'=>r= .returned (.int .i64 (placeZ l s.data.toList))∧w' =w:=by
 have hl : l.length=n:=by have:=H.len;simpa using this
 have Hh:=Lib.hid H
 have h0 : Hid (∀j x,j < 0→l[j]? =some x→x≠s.data.toList):=Lib.hid (fun j x h=>absurd h (Nat.not_lt_zero _))
 have hend:=Lib.hid (fun (h : ∀j x,j < l.length→l[j]? =some x→x≠s.data.toList)=>placeZ_none h)
 rw [hl] at hend
 have hlh:=Lib.hid hl
 clear H hl
 go_enter Tryz.func37,Tryz.ntmps37
 go_wp2_with fail
 go_loopw [9] (fun iv wr=> ∃k : Nat,k≤n∧iv= .int .i64 k∧Hid (wr=w)∧Hid (∀j x,j < k→l[j]? =some x→x≠s.data.toList)) (fun iv _=>n - (intOf iv).toNat)
 case atStart=>exact ⟨0,Nat.zero_le _,rfl,Lib.hid rfl,h0⟩
 case round=>
  clear h0
  obtain ⟨k,hk,rfl,hw,hN⟩:=hrel
  by_cases hlt : k < n
  · have hlt' : (k : Int) < (n : Int):=by omega
    obtain ⟨b1,o1,xs,rfl,hbl,hxs,hc0⟩:=Hh.out.at_ hlt
    rw [List.getElem?_map] at hxs
    cases hx : l[k]? with
    | none=>rw [hx] at hxs;cases hxs
    | some x=>
      rw [hx] at hxs
      obtain rfl : bs x=xs:=Option.some.inj hxs
      rw [← hw.out] at hc0
      by_cases he : x=s.data.toList
      · have hR:=Lib.hid (placeZ_hit hN.out (by rw [hx,he]))
        have hq : ((bs x).toList == s.toList)=true:=by rw [bsq_eq,decide_eq_true he]
        clear he hx hxs
        go_wp2_with fail
        go_ret
        exact ⟨by rw [hR.out];rfl,hw.out⟩
      · have hq : ((bs x).toList == s.toList)=false:=by rw [bsq_eq,decide_eq_false he]
        have hN2:=Lib.hid (show ∀j y,j < k + 1→l[j]? =some y→y≠s.data.toList from fun j y hj hy=>by
         by_cases e : j=k
         · rw [e,hx] at hy;injection hy with hy;rw [← hy];exact he
         · exact hN.out j y (by omega) hy)
        clear he hx hxs hN
        go_wp2_with fail
        go_roundw
        case rel=>exact ⟨k + 1,by omega,by go_num,hw,hN2⟩
        case measure=>simp [intOf];omega
  · have h16 : k=n:=by omega
    subst h16
    have hR:=Lib.hid (hend.out hN.out)
    go_wp2_with fail
    go_ret
    exact ⟨by rw [hR.out];rfl,hw.out⟩
theorem below_new (w : World) (o : Obj) : Below w.heap.size w (w.alloc o):=(Below.refl _ _).alloc (Nat.le_refl _) o
set_option maxRecDepth 100000 in
theorem kindW_ix (W : World) : ∀(k : Nat),k < 9→(Instr.index 82 (.agg #[.string (bs [115,112,97,119,110]),.string (bs [116,97,107,101]),.string (bs [108,105,110,101]),.string (bs [112,108,97,105,110]),.string (bs [115,101,97,108,101,100]),.string (bs [98,97,100]),.string (bs [112,97,115,115]),.string (bs [114,101,107,101,121]),.string (bs [115,97,121])]) (.int .i64 k)).run Tryz.prog W= .ok (.string (bs (kindW.getD k []))) W
 | 0,_=>by kernel_rfl
 | 1,_=>by kernel_rfl
 | 2,_=>by kernel_rfl
 | 3,_=>by kernel_rfl
 | 4,_=>by kernel_rfl
 | 5,_=>by kernel_rfl
 | 6,_=>by kernel_rfl
 | 7,_=>by kernel_rfl
 | 8,_=>by kernel_rfl
 | k + 9,h=>absurd h (by omega)
set_option maxRecDepth 100000 in
set_option maxHeartbeats 4000000 in
theorem words_any (w : World) (E : EnvS w) :
 Calls Tryz.prog 38 #[] w fun r w'=> ∃A c,r= .returned (.slice A 9 c)∧Strs w' A 9 (kindW.map bs)∧Below w.heap.size w w':=by
 obtain ⟨i0,hi0,hz0,hz1,hz2⟩:=info_parts str_info
 have e0:=E.kinds 0 _ rfl
 have e1:=E.kinds 1 _ rfl
 have e2:=E.kinds 2 _ rfl
 have e3:=E.kinds 3 _ rfl
 have e4:=E.kinds 4 _ rfl
 have e5:=E.kinds 5 _ rfl
 have e6:=E.kinds 6 _ rfl
 have e7:=E.kinds 7 _ rfl
 have e8:=E.kinds 8 _ rfl
 have hO0 : Hid (OwnS w w.heap.size (.slice none 0 0) ((kindW.map bs).take 0)):=Lib.hid (OwnR.nil_ w w.heap.size 1 9)
 have hB0:=Lib.hid (Below.refl w.heap.size w)
 go_enter Tryz.func38,Tryz.ntmps38
 go_wp2_with fail
 go_loopw [1,5] (fun v iv wr=> ∃k : Nat,k≤9∧iv= .int .i64 k∧Hid (OwnS wr w.heap.size v ((kindW.map bs).take k))∧Hid (Below w.heap.size w wr)) (fun _ iv _=>9 - (intOf iv).toNat)
 case atStart=>exact ⟨0,Nat.zero_le _,rfl,hO0,hB0⟩
 case round=>
  clear hO0 hB0
  obtain ⟨k,hk,rfl,hO,hB⟩:=hrel
  by_cases hlt : k < 9
  · have hlt' : (k : Int) < 9:=by omega
    have hI:=kindW_ix wr k hlt
    obtain ⟨x,hx,hg⟩ : ∃x,kindW[k]? =some x∧kindW.getD k []=x:=⟨_,List.getElem?_eq_getElem (by exact hlt),by rw [List.getD_eq_getElem?_getD,List.getElem?_eq_getElem (by exact hlt)];rfl⟩
    rw [hg] at hI
    have htk : (kindW.map bs).take (k + 1)=(kindW.map bs).take k ++ [bs x]:=take_succ_of (by rw [List.getElem?_map,hx];rfl)
    have hlen : ((kindW.map bs).take k).length≤20:=by rw [List.length_take,List.length_map];have : kindW.length=9:=rfl;omega
    have hb1:=below_new wr (.cells #[.string (bs x)] 9)
    have hO1:=hO.out.keep hb1
    have hB1:=Lib.hid (hB.out.trans (hb1.mono hB.out.size))
    generalize (kindW.map bs).take k=D at htk hlen hO1
    replace htk:=Lib.hid htk
    replace hO1:=Lib.hid hO1
    clear hO hg hx hb1
    go_wp2_with (at_builtin
                 refine wpList_append_one rfl _ _ 27 rfl 9 i0 (.string ByteArray.empty) 1 16 Tryz.underlying27 hi0 hz0 hz1 hz2 rfl (by decide) w hB1.out _ _ rfl hO1.out wr.heap.size 1 (sv (bs x)) rfl ?_ rfl ?_ ?_ ?_ ?_
                 · exact rangeAt_list (heap_new wr (.cells #[.string (bs x)] 9))
                 · intro u hu;simp [sv] at hu;subst hu;rfl
                 · simp only [List.length_map];unfold maxLen;omega
                 · simp only [List.length_map];omega
                 intro v' w2 hO2 hB2 _
                 have hO2:=Lib.hid (show OwnS w2 w.heap.size v' (D ++ [bs x]) by unfold OwnS;simpa using hO2)
                 have hB2:=Lib.hid hB2)
    go_roundw
    case rel=>exact ⟨k + 1,by omega,by go_num,by rw [htk.out];exact hO2,hB2⟩
    case measure=>simp [intOf];omega
  · obtain rfl : k=9:=by omega
    rw [List.take_of_length_le (by exact Nat.le_refl 9)] at hO
    obtain ⟨A,c,rfl,hS⟩:=hO.out.strs
    have hS:=Lib.hid hS
    go_wp2_with fail
    go_ret
    exact ⟨A,c,rfl,hS.out,hB.out⟩
set_option maxRecDepth 100000 in
theorem opW_ix (W : World) : ∀(k : Nat),k < 15→(Instr.index 172 (.agg #[.string (bs [100,97,116,97]),.string (bs [110,111,110,99,101]),.string (bs [107,110,111,119]),.string (bs [115,101,110,116]),.string (bs [98,97,115,101]),.string (bs [101,120,112]),.string (bs [112,117,98]),.string (bs [115,105,103,110]),.string (bs [104,97,115,104]),.string (bs [100,101,114,105,118,101]),.string (bs [115,101,97,108]),.string (bs [111,112,101,110]),.string (bs [101,109,112,116,121]),.string (bs [97,100,100]),.string (bs [97,116])]) (.int .i64 k)).run Tryz.prog W= .ok (.string (bs (opW.getD k []))) W
 | 0,_=>by kernel_rfl
 | 1,_=>by kernel_rfl
 | 2,_=>by kernel_rfl
 | 3,_=>by kernel_rfl
 | 4,_=>by kernel_rfl
 | 5,_=>by kernel_rfl
 | 6,_=>by kernel_rfl
 | 7,_=>by kernel_rfl
 | 8,_=>by kernel_rfl
 | 9,_=>by kernel_rfl
 | 10,_=>by kernel_rfl
 | 11,_=>by kernel_rfl
 | 12,_=>by kernel_rfl
 | 13,_=>by kernel_rfl
 | 14,_=>by kernel_rfl
 | k + 15,h=>absurd h (by omega)
set_option maxRecDepth 100000 in
set_option maxHeartbeats 4000000 in
theorem steps_any (w : World) (E : EnvS w) :
 Calls Tryz.prog 129 #[] w fun r w'=> ∃A c,r= .returned (.slice A 15 c)∧Strs w' A 15 (opW.map bs)∧Below w.heap.size w w':=by
 obtain ⟨i0,hi0,hz0,hz1,hz2⟩:=info_parts str_info
 have e0:=E.ops 0 _ rfl
 have e1:=E.ops 1 _ rfl
 have e2:=E.ops 2 _ rfl
 have e3:=E.ops 3 _ rfl
 have e4:=E.ops 4 _ rfl
 have e5:=E.ops 5 _ rfl
 have e6:=E.ops 6 _ rfl
 have e7:=E.ops 7 _ rfl
 have e8:=E.ops 8 _ rfl
 have e9:=E.ops 9 _ rfl
 have e10:=E.ops 10 _ rfl
 have e11:=E.ops 11 _ rfl
 have e12:=E.ops 12 _ rfl
 have e13:=E.ops 13 _ rfl
 have e14:=E.ops 14 _ rfl
 have hO0 : Hid (OwnS w w.heap.size (.slice none 0 0) ((opW.map bs).take 0)):=Lib.hid (OwnR.nil_ w w.heap.size 1 9)
 have hB0:=Lib.hid (Below.refl w.heap.size w)
 go_enter Tryz.func129,Tryz.ntmps129
 go_wp2_with fail
 go_loopw [1,5] (fun v iv wr=> ∃k : Nat,k≤15∧iv= .int .i64 k∧Hid (OwnS wr w.heap.size v ((opW.map bs).take k))∧Hid (Below w.heap.size w wr)) (fun _ iv _=>15 - (intOf iv).toNat)
 case atStart=>exact ⟨0,Nat.zero_le _,rfl,hO0,hB0⟩
 case round=>
  clear hO0 hB0
  obtain ⟨k,hk,rfl,hO,hB⟩:=hrel
  by_cases hlt : k < 15
  · have hlt' : (k : Int) < 15:=by omega
    have hI:=opW_ix wr k hlt
    obtain ⟨x,hx,hg⟩ : ∃x,opW[k]? =some x∧opW.getD k []=x:=⟨_,List.getElem?_eq_getElem (by exact hlt),by rw [List.getD_eq_getElem?_getD,List.getElem?_eq_getElem (by exact hlt)];rfl⟩
    rw [hg] at hI
    have htk : (opW.map bs).take (k + 1)=(opW.map bs).take k ++ [bs x]:=take_succ_of (by rw [List.getElem?_map,hx];rfl)
    have hlen : ((opW.map bs).take k).length≤20:=by rw [List.length_take,List.length_map];have : opW.length=15:=rfl;omega
    have hb1:=below_new wr (.cells #[.string (bs x)] 9)
    have hO1:=hO.out.keep hb1
    have hB1:=Lib.hid (hB.out.trans (hb1.mono hB.out.size))
    generalize (opW.map bs).take k=D at htk hlen hO1
    replace htk:=Lib.hid htk
    replace hO1:=Lib.hid hO1
    clear hO hg hx hb1
    go_wp2_with (at_builtin
                 refine wpList_append_one rfl _ _ 27 rfl 9 i0 (.string ByteArray.empty) 1 16 Tryz.underlying27 hi0 hz0 hz1 hz2 rfl (by decide) w hB1.out _ _ rfl hO1.out wr.heap.size 1 (sv (bs x)) rfl ?_ rfl ?_ ?_ ?_ ?_
                 · exact rangeAt_list (heap_new wr (.cells #[.string (bs x)] 9))
                 · intro u hu;simp [sv] at hu;subst hu;rfl
                 · simp only [List.length_map];unfold maxLen;omega
                 · simp only [List.length_map];omega
                 intro v' w2 hO2 hB2 _
                 have hO2:=Lib.hid (show OwnS w2 w.heap.size v' (D ++ [bs x]) by unfold OwnS;simpa using hO2)
                 have hB2:=Lib.hid hB2)
    go_roundw
    case rel=>exact ⟨k + 1,by omega,by go_num,by rw [htk.out];exact hO2,hB2⟩
    case measure=>simp [intOf];omega
  · obtain rfl : k=15:=by omega
    rw [List.take_of_length_le (by exact Nat.le_refl 15)] at hO
    obtain ⟨A,c,rfl,hS⟩:=hO.out.strs
    have hS:=Lib.hid hS
    go_wp2_with fail
    go_ret
    exact ⟨A,c,rfl,hS.out,hB.out⟩
def kwB (k : Int) : List UInt8:=if 0≤k∧k < 9 then kindW.getD k.toNat [] else []
set_option maxRecDepth 100000 in
theorem word_any (k : Int) (w : World) (E : EnvS w) : Calls Tryz.prog 17 #[.int .i64 k] w fun r w'=>r= .returned (.string (bs (kwB k)))∧w' =w:=by
 have hp : k < 0∨(0≤k∧9≤k)∨(0≤k∧k < 9):=by omega
 rcases hp with h1 | ⟨h0,h1⟩ | ⟨h0,h1⟩
 · have hv:=Lib.hid (show kwB k=[] by unfold kwB;rw [if_neg (by omega)])
   go_enter Tryz.func17,Tryz.ntmps17
   go_wp2_with fail
   go_ret
   exact ⟨by rw [hv.out];rfl,rfl⟩
 · have hv:=Lib.hid (show kwB k=[] by unfold kwB;rw [if_neg (by omega)])
   go_enter Tryz.func17,Tryz.ntmps17
   go_wp2_with fail
   go_ret
   exact ⟨by rw [hv.out];rfl,rfl⟩
 · obtain ⟨j,rfl⟩:=Int.eq_ofNat_of_zero_le h0
   have hj : j < 9:=by omega
   have hc:=E.kinds j (kindW.getD j []) (by rw [List.getD_eq_getElem?_getD,List.getElem?_eq_getElem (show j < kindW.length from hj)];rfl)
   have hv:=show kwB (j : Int)=kindW.getD j [] by unfold kwB;rw [if_pos ⟨h0,h1⟩,Int.toNat_natCast]
   generalize kindW.getD j []=s at hc hv
   replace hv:=Lib.hid hv
   go_enter Tryz.func17,Tryz.ntmps17
   go_wp2_with fail
   go_ret
   exact ⟨by rw [hv.out];rfl,rfl⟩
theorem placeZ_rng (l : List (List UInt8)) (w : List UInt8) : placeZ l w= -1∨∃k : Nat,placeZ l w=k∧k < l.length:=by
 unfold placeZ
 cases h : placeL l w with
 | none=>exact .inl rfl
 | some i=>exact .inr ⟨i,rfl,(List.getElem?_eq_some_iff.1 (placeL_mem h)).1⟩
set_option maxRecDepth 100000 in
theorem kind_any (s : ByteArray) (w : World) (E : EnvS w) : Calls Tryz.prog 15 #[.string s] w fun r w'=>r= .returned (.tuple #[.int .i64 (max (placeZ kindW s.data.toList) 0),.bool (decide (0≤placeZ kindW s.data.toList))])∧Below w.heap.size w w':=by
 have cW:=Lib.hid (words_any w E)
 have cP:=Lib.hid (fun W A c (h : Strs W A 9 (kindW.map bs))=>place_any kindW A 9 c s W (by decide) h)
 have hp:=placeZ_rng kindW s.data.toList
 generalize placeZ kindW s.data.toList=z at cP hp ⊢
 rcases hp with rfl | ⟨k,rfl,hk⟩
 · go_enter Tryz.func15,Tryz.ntmps15
   go_wp2_with (first
    | (go_at_call 38;(with_reducible refine cW.out.mono ?_);rintro r w1 ⟨A,c,rfl,hS,hb⟩;replace hS:=Lib.hid hS;replace hb:=Lib.hid hb)
    | (go_at_call 37;(with_reducible refine (cP.out _ _ _ hS.out).mono ?_);rintro r w2 ⟨rfl,rfl⟩))
   go_ret2
   exact ⟨rfl,hb.out⟩
 · have h0 : (0 : Int)≤(k : Int):=Int.natCast_nonneg _
   have hm : max (k : Int) 0=(k : Int):=by omega
   rw [hm,decide_eq_true h0]
   go_enter Tryz.func15,Tryz.ntmps15
   go_wp2_with (first
    | (go_at_call 38;(with_reducible refine cW.out.mono ?_);rintro r w1 ⟨A,c,rfl,hS,hb⟩;replace hS:=Lib.hid hS;replace hb:=Lib.hid hb)
    | (go_at_call 37;(with_reducible refine (cP.out _ _ _ hS.out).mono ?_);rintro r w2 ⟨rfl,rfl⟩))
   go_ret2
   exact ⟨rfl,hb.out⟩
end Go.Proofs.YtmicohmbmgbnkaaGreatDoor
