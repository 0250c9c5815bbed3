/- The statements' example; which statements hold of words and escaped texts. -/
import Derived.Test.YtmicohmbmgbnkaaGreatDoorVb21
namespace Go.Proofs.YtmicohmbmgbnkaaGreatDoor
open Go Go.RowKit Go.Shelf
open Go.Lib (itoa)
def vsA : List PV:=(zeros keyT).set 1 (.num 3)
def csA : List Value:=setAt (stZ 1) 25 [.int .i64 3]
theorem stA (W : World) : StN 0 W 1 vsA csA:=(StN.zero_ 0 W 1).put (But.of_below (Below.refl _ _)) (i:=1) (off:=25) (kg:=([119,104,111],.num)) (pv:= .num 3) rfl rfl (by show I64 3;unfold I64;omega) (show PValN 0 W (.num 3) [.int .i64 3] from rfl) rfl
theorem csA_built : Tryz.prog.built 44 [(0,.int .i64 1),(3,.int .i64 3)]=some csA.toArray:=by kernel_rfl
def takeB : List UInt8:=[116,97,107,101,32,119,104,111,61,51]
theorem line_A : lineX ((1 : Nat) : Int) vsA=takeB:=by decide +kernel
theorem vsA_ok : OkVs keyT vsA:=(stA default).ok
theorem rdLine_A : rdLine takeB= .ok 1 vsA:=by rw [← line_A];exact rdLine_wr (by decide) vsA_ok
theorem vsA_ops : ∀o∈opsOf vsA,okK o:=by intro o ho;cases ho
theorem vsA_small : ∀v∈vsA,(wrPV v).length≤1099511627776:=by
 have : vsA.all (fun v=>decide ((wrPV v).length≤10))=true:=by decide +kernel
 intro v hv
 have h:=of_decide_eq_true (List.all_eq_true.1 this v hv)
 omega
set_option maxRecDepth 100000 in
set_option maxHeartbeats 4000000 in
theorem awake35_any (W : World) (E : EnvS W) : Calls Tryz.prog 9 #[] W fun r w'=>r= .returned (.bool true)∧Below W.heap.size W w':=by
 have cL : Calls Tryz.prog 19 #[.agg csA.toArray] W fun r w'=>r= .returned (.tuple #[.string (bs takeB),.nilIface])∧Below W.heap.size W w':=
  (line_go csA 1 vsA W E (stA W).c vsA_ok.ty (by decide) vsA_small).mono fun r w' h=>by
    rcases h with ⟨⟨o,ho,hn⟩,_⟩ | ⟨_,h2,h3⟩
    · exact absurd (vsA_ops o ho) hn
    · have e:=line_A
      rw [show ((1 : Nat) : Int)=1 from rfl] at e
      rw [e] at h2
      exact ⟨h2,h3⟩
 have cR : ∀W',Below W.heap.size W W'→Calls Tryz.prog 22 #[.string (bs takeB)] W' fun r w'=> ∃cs : List Value,r= .returned (.tuple #[.agg cs.toArray,.nilIface])∧cs.length=29∧cs[0]? =some (.int .i64 1)∧cs[25]? =some (.int .i64 3)∧cs.toArray.all (·.oneCell')=true∧Below W'.heap.size W' w':=fun W' hb=>
  (read_line (bs takeB) W' (E.keep hb E.size) (by rw [bs_size];decide)).mono fun r w' h=>by
    rw [bs_list] at h
    rcases h with ⟨k,vs,cs,h1,h2,h3,_,h5⟩ | ⟨a,e,h1,_⟩
    · rw [rdLine_A] at h1
      injection h1 with e1 e2
      subst e1 e2
      obtain ⟨z,hz,hc⟩:=h3.val 1 25 (.num 3) rfl rfl
      have hz' : z=[.int .i64 3]:=hz
      subst hz'
      exact ⟨cs,h2,h3.len,h3.kind,hc 0 _ rfl,h3.one,h5⟩
    · rw [rdLine_A] at h1;cases h1
 have eT : bs takeB=⟨#[116,97,107,101,32,119,104,111,61,51]⟩:=rfl
 rw [eT] at cL
 simp only [eT] at cR
 replace cL:=Lib.hid cL
 replace cR:=Lib.hid cR
 clear eT
 go_enter Tryz.func9,Tryz.ntmps9
 go_wp2_with (first
  | (refine wpList_build_as 44 _ rfl rfl csA.toArray csA_built ?_)
  | (go_at_call 19;(with_reducible refine cL.out.mono ?_);rintro r w1 ⟨rfl,hb1⟩;replace hb1:=Lib.hid hb1)
  | (go_at_call 22;(with_reducible refine (cR.out w1 hb1.out).mono ?_);rintro r w2 ⟨cs,rfl,hl,h0,h25,ho,hb2⟩
     have hgz:=heap_new w2 (.cells (stZ 0).toArray 44)
     have hi29 : (Tryz.prog.info? 44).map (·.size)=some cs.toArray.size:=by rw [List.size_toArray,hl];kernel_rfl
     have hold : (stZ 0).toArray.size=cs.toArray.size:=by rw [List.size_toArray,List.size_toArray,hl];rfl
     have hc0 : (w2.alloc (.cells cs.toArray 44)).cell? ⟨w2.heap.size,0,none⟩=some (.int .i64 1):=(cell_of_row _ _ 0 _ _ _ (heap_new w2 _)).trans (by simpa using h0)
     have hc25 : (w2.alloc (.cells cs.toArray 44)).cell? ⟨w2.heap.size,25,none⟩=some (.int .i64 3):=(cell_of_row _ _ 25 _ _ _ (heap_new w2 _)).trans (by simpa using h25)
     have hb3:=hb1.out.trans (hb2.mono hb1.out.size)
     have hb4:=Lib.hid (hb3.trans ((below_new w2 (.cells cs.toArray 44)).mono hb3.size))
     clear hl h0 h25 hb2 hb3)
  | (refine wpList_alloc_row 44 rfl rfl (stZ 0).toArray st_zero ?_)
  | (refine wpList_store_at 44 _ _ rfl rfl w2.heap.size cs.toArray rfl rfl 44 (stZ 0).toArray hgz hi29 hold ho ?_
     rw [setRow_new]))
 go_ret
 exact ⟨rfl,hb4.out⟩
set_option maxRecDepth 100000 in
set_option maxHeartbeats 2000000 in
theorem rplace_any (l : List (List UInt8)) (A : Option Addr) (n c : Nat) (s : ByteArray) (w : World) (hn : n≤4611686018427387904) (H : Strs w A n (l.map bs)) :
 Calls Tryz.prog 16 #[.slice A n c,.string s] w fun r w'=>r= .returned (.int .i64 (placeZ l s.data.toList))∧w' =w:=by
 have hl : l.length=n:=by have:=H.len;simpa using this
 have Hh:=Lib.hid H
 have h0 : Hid (∀j x,j < 0→l[j]? =some x→x≠s.data.toList):=Lib.hid (fun j x h=>absurd h (Nat.not_lt_zero _))
 have hend:=Lib.hid (fun (h : ∀j x,j < l.length→l[j]? =some x→x≠s.data.toList)=>placeZ_none h)
 rw [hl] at hend
 have hlh:=Lib.hid hl
 clear H hl
 go_enter Tryz.func16,Tryz.ntmps16
 go_wp2_with fail
 go_loopw [5] (fun iv wr=> ∃k : Nat,k≤n∧iv= .int .i64 k∧Hid (wr=w)∧Hid (∀j x,j < k→l[j]? =some x→x≠s.data.toList)) (fun iv _=>n - (intOf iv).toNat)
 case atStart=>exact ⟨0,Nat.zero_le _,rfl,Lib.hid rfl,h0⟩
 case round=>
  clear h0
  obtain ⟨k,hk,rfl,hw,hN⟩:=hrel
  by_cases hlt : k < n
  · have hlt' : (k : Int) < (n : Int):=by omega
    obtain ⟨b1,o1,xs,rfl,hbl,hxs,hc0⟩:=Hh.out.at_ hlt
    rw [List.getElem?_map] at hxs
    cases hx : l[k]? with
    | none=>rw [hx] at hxs;cases hxs
    | some x=>
      rw [hx] at hxs
      obtain rfl : bs x=xs:=Option.some.inj hxs
      rw [← hw.out] at hc0
      by_cases he : x=s.data.toList
      · have hR:=Lib.hid (placeZ_hit hN.out (by rw [hx,he]))
        have hq : ((bs x).toList == s.toList)=true:=by rw [bsq_eq,decide_eq_true he]
        clear he hx hxs
        go_wp2_with fail
        go_ret
        exact ⟨by rw [hR.out];rfl,hw.out⟩
      · have hq : ((bs x).toList == s.toList)=false:=by rw [bsq_eq,decide_eq_false he]
        have hN2:=Lib.hid (show ∀j y,j < k + 1→l[j]? =some y→y≠s.data.toList from fun j y hj hy=>by
         by_cases e : j=k
         · rw [e,hx] at hy;injection hy with hy;rw [← hy];exact he
         · exact hN.out j y (by omega) hy)
        clear he hx hxs hN
        go_wp2_with fail
        go_roundw
        case rel=>exact ⟨k + 1,by omega,by go_num,hw,hN2⟩
        case measure=>simp [intOf];omega
  · have h16 : k=n:=by omega
    subst h16
    have hR:=Lib.hid (hend.out hN.out)
    go_wp2_with fail
    go_ret
    exact ⟨by rw [hR.out];rfl,hw.out⟩
set_option maxRecDepth 100000 in
set_option maxHeartbeats 2000000 in
theorem rkinds_any (w : World) : Calls Tryz.prog 14 #[] w fun r w'=> ∃A,r= .returned (.slice A 9 9)∧Strs w' A 9 (kindW.map bs)∧Below w.heap.size w w':=by
 go_enter Tryz.func14,Tryz.ntmps14
 go_wp2_with fail
 go_ret
 have hg:=heap_new w (.cells ((kindW.map bs).flatMap sv).toArray 9)
 exact ⟨_,rfl,Strs.block (ss:=kindW.map bs) hg (Array.getElem?_eq_some_iff.1 hg).1,below_new w _⟩
theorem unR_get {L : List UInt8} {r : Ending} (h : UnR L r) : r= .returned (.tuple #[.string (bs ((unescL L).getD [])),.bool (unescL L).isSome]):=h
end Go.Proofs.YtmicohmbmgbnkaaGreatDoor
