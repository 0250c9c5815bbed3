/- The program's Line, of a kind that has a word. -/
import Derived.Test.YtmicohmbmgbnkaaGreatDoorVb18
namespace Go.Proofs.YtmicohmbmgbnkaaGreatDoor
open Go Go.RowKit Go.Shelf
open Go.Lib (itoa)
def LineR (k : Int) (vs : List PV) (w : World) (r : Ending) (w' : World) : Prop:=
 ((∃o∈opsOf vs,¬okK o)∧ErrOut (.string ⟨#[]⟩) 6 [opsS] w r w')∨(OkVs keyT vs∧r= .returned (.tuple #[.string (bs (lineX k vs)),.nilIface])∧Below w.heap.size w w')
theorem PaA.at_ {W : World} {b : Nat} {qs : List Nat} {w : World} (h : PaA W b qs w) {j q off : Nat} (h1 : qs[j]? =some q) (h2 : offT[j]? =some off) : BoxP w q b off∧q < w.heap.size:=⟨(h.2 j q off h1 h2).1,(h.2 j q off h1 h2).2.2⟩
theorem BoxP.keep {w w' : World} {q b off : Nat} (h : BoxP w q b off) (hb : Below w.heap.size w w') : BoxP w' q b off:=(hb.cell (p:=⟨q,0,none⟩) (block_lt_of_cell h)).trans h
theorem key_small : ∀j : Fin 26,(bs ((keyT.map (·.1)).getD j.1 [])).size≤20:=by decide +kernel
theorem kwB_small (k : Int) : (kwB k).length≤10:=by
 unfold kwB
 split
 · next h=>
   have : ∀j : Fin 9,(kindW.getD j.1 []).length≤10:=by decide +kernel
   exact this ⟨k.toNat,by omega⟩
 · exact Nat.zero_le _
theorem kwB_ne {k : Int} (h : 0≤k∧k < 9) : kwB k≠[]:=by
 unfold kwB
 rw [if_pos h]
 exact (kind_at ⟨k.toNat,by omega⟩).2.2
theorem bs_ne0 {l : List UInt8} (h : l≠[]) : (bs l).toList.isEmpty=false:=by rw [bs_nil,decide_eq_false h]
theorem len_step {a b k v : Nat} (h : a≤10 + b) (hk : k≤20) (hv : v≤1099511627776) : a + (k + (v + 1) + 1)≤10 + (b + 1099511627800):=by omega
set_option maxRecDepth 100000 in
set_option maxHeartbeats 8000000 in
theorem line_go (cs : List Value) (k : Int) (vs : List PV) (W : World) (E : EnvS W) (hS : StC W k vs cs) (hty : TyVs keyT vs) (hk : 0≤k∧k < 9) (hsz : ∀v∈vs,(wrPV v).length≤1099511627776) :
 Calls Tryz.prog 19 #[.agg cs.toArray] W (LineR k vs W):=by
 obtain ⟨l,hl3,hol,hty3⟩:=hty.ops
 obtain ⟨z,⟨v,rfl,A,c,rfl,h1,h2,hr⟩,hz⟩:=hS.val 3 27 _ hl3 rfl
 rw [List.length_map] at hr h1 hz
 obtain ⟨n,hn⟩ : ∃n,l.length=n:=⟨_,rfl⟩
 rw [hn] at hr h1 hz
 have h27:=hz 0 _ rfl
 have hB1:=below_new W (.cells cs.toArray 44)
 have hb : Blk (W.alloc (.cells cs.toArray 44)) W.heap.size cs:=heap_new W _
 have hc0:=hb.cell hS.kind
 have hc27:=hb.cell h27
 have E1:=E.keep hB1 E.size
 have cW:=word_any k _ E1
 have hkw0:=bs_ne0 (kwB_ne hk)
 have hkwl:=kwB_small k
 have hr1:=Lib.hid (hr.keep hB1)
 have hS1:=Lib.hid (hS.keep hB1)
 have hnh:=Lib.hid hn
 have hle:=hty.len
 rw [keyT_len] at hle
 have hfin:=fun (h : OkVs keyT vs) W' (hb : Below W.heap.size W W')=>(show LineR k vs W (.returned (.tuple #[.string (bs (accL (kwB k) vs 26)),.nilIface])) W' from .inr ⟨h,by rw [accL_end hk.1 hle hk.2],hb⟩)
 have hz0:=accL_zero (kwB k) vs
 have hstep:=fun j kg v h1 h2=>accL_step (w:=kwB k) (vs:=vs) (j:=j) (kg:=kg) (v:=v) h1 h2
 have hbad:=fun W' r (h : (∃o∈opsOf vs,¬okK o)) he=>(show LineR k vs W r W' from .inl ⟨h,he⟩)
 rw [hol] at hbad
 have hokv:=fun (h : ∀o∈l,okK o)=>hty.ok (by rw [hol];exact h)
 have hkw2:=kwB_ne hk
 generalize kwB k=kw at *
 replace hB1:=Lib.hid hB1
 replace cW:=Lib.hid cW
 replace hfin:=Lib.hid hfin
 replace hbad:=Lib.hid hbad
 replace hokv:=Lib.hid hokv
 replace hstep:=Lib.hid hstep
 replace hz0:=Lib.hid hz0
 replace hb:=Lib.hid hb
 have hEW:=Lib.hid E
 have h0 : Hid (∀(j : Nat) o,j < 0→l[j]? =some o→okK o):=Lib.hid (fun j o h=>absurd h (Nat.not_lt_zero _))
 clear h27 hz hr E1 E hS hol hn hty hty3 hk
 go_enter Tryz.func19,Tryz.ntmps19
 go_upto_region 3 with (first
  | (refine wpList_box_row 44 _ rfl rfl cs.toArray rfl ?_)
  | (go_at_call 17;(with_reducible refine cW.out.mono ?_);rintro r w1 ⟨rfl,rfl⟩))
 go_wp2_with fail
 obtain ⟨W1,hW1⟩ : ∃W1,W.alloc (.cells cs.toArray 44)=W1:=⟨_,rfl⟩
 rw [hW1] at hB1 hb hc0 hc27 hr1 hS1 ⊢
 clear hW1 cW
 go_loopw [19] (fun jv wr=> ∃i : Nat,i≤n∧jv= .int .i64 i∧Hid (∀(j : Nat) o,j < i→l[j]? =some o→okK o)∧Hid (Below W1.heap.size W1 wr)) (fun jv _=>n - (intOf jv).toNat)
 case atStart=>exact ⟨0,Nat.zero_le _,rfl,h0,Lib.hid (Below.refl _ _)⟩
 case round=>
  clear h0
  obtain ⟨i,hi,rfl,hN,hB⟩:=hrel
  have hBw:=Lib.hid (hB1.out.trans (hB.out.mono hB1.out.size))
  by_cases hlt : i < n
  · have hlt' : (i : Int) < (n : Int):=by omega
    obtain ⟨b2,off2,z2,rfl,hb2,hz2,_,hr2⟩:=Rws.row hr1.out hlt
    obtain ⟨o,ho,rfl⟩:=map_at hz2
    have hrR:=rangeAt_keep hr2 hB.out hb2
    have hg1:=heap_new wr (.cells opZ 85)
    have hWx:=below_new wr (.cells o.row.toArray 85)
    have hB9:=Lib.hid (hBw.out.trans (hWx.mono hBw.out.size))
    have hBx:=Lib.hid (hB.out.trans (hWx.mono hB.out.size))
    have hR1:=o.one
    have hck : (wr.alloc (.cells o.row.toArray 85)).cell? ⟨wr.heap.size,0,none⟩=some (.int .i64 o.kind):=cell_of_row _ _ 0 _ _ _ (heap_new wr _)
    have cO:=Lib.hid (of_any opsS 6 (wr.alloc (.cells o.row.toArray 85)) (by decide))
    have hbo:=Lib.hid (fun W' r (h : ¬okK o) he=>hbad.out W' r ⟨o,List.mem_of_getElem? ho,h⟩ he)
    have hok1 : okK o→∀(j : Nat) o',j < i + 1→l[j]? =some o'→okK o':=fun hk j o' hj h=>by
     by_cases e : j=i
     · rw [e,ho] at h;injection h with h;rw [← h];exact hk
     · exact hN.out j o' (by omega) h
    replace hok1:=Lib.hid hok1
    unfold opsS at cO
    clear hz2 ho hr2 hWx
    by_cases hk0 : o.kind < 0
    · have hno:=Lib.hid (show ¬okK o from fun h=>by have:=h.1;omega)
      obtain ⟨kk,xa,xb,xc,us⟩:=o
      unfold OpX.row at *
      dsimp only at *
      go_wp2_with (first
       | (refine wpList_load_at 85 _ rfl rfl b2 (off2 + i * 5) rfl [.int .i64 kk,.int .i64 xa,.int .i64 xb,.int .i64 xc,.string (bs us)] _ hrR Tryz.underlying85 rfl (by kernel_rfl) ?_)
       | (refine wpList_alloc_row 85 rfl rfl opZ op_zero ?_)
       | (refine wpList_store_at 85 _ _ rfl rfl wr.heap.size #[.int .i64 kk,.int .i64 xa,.int .i64 xb,.int .i64 xc,.string (bs us)] rfl rfl 85 opZ hg1 (by kernel_rfl) rfl hR1 ?_
          rw [setRow_new])
       | (go_at_call 40;(with_reducible refine cO.out.mono ?_);rintro r w2 ⟨v,rfl,hv,hb3⟩;replace hv:=Lib.hid hv;replace hb3:=Lib.hid hb3))
      go_ret2
      exact hbo.out _ _ hno.out ⟨_,rfl,hv.out,hB9.out.trans (hb3.out.mono hB9.out.size)⟩
    · by_cases hk1 : 15≤o.kind
      · have hno:=Lib.hid (show ¬okK o from fun h=>by have:=h.2;omega)
        have hk2 : 0≤o.kind:=by omega
        obtain ⟨kk,xa,xb,xc,us⟩:=o
        unfold OpX.row at *
        dsimp only at *
        go_wp2_with (first
         | (refine wpList_load_at 85 _ rfl rfl b2 (off2 + i * 5) rfl [.int .i64 kk,.int .i64 xa,.int .i64 xb,.int .i64 xc,.string (bs us)] _ hrR Tryz.underlying85 rfl (by kernel_rfl) ?_)
         | (refine wpList_alloc_row 85 rfl rfl opZ op_zero ?_)
         | (refine wpList_store_at 85 _ _ rfl rfl wr.heap.size #[.int .i64 kk,.int .i64 xa,.int .i64 xb,.int .i64 xc,.string (bs us)] rfl rfl 85 opZ hg1 (by kernel_rfl) rfl hR1 ?_
            rw [setRow_new])
         | (go_at_call 40;(with_reducible refine cO.out.mono ?_);rintro r w2 ⟨v,rfl,hv,hb3⟩;replace hv:=Lib.hid hv;replace hb3:=Lib.hid hb3))
        go_ret2
        exact hbo.out _ _ hno.out ⟨_,rfl,hv.out,hB9.out.trans (hb3.out.mono hB9.out.size)⟩
      · have hN2:=Lib.hid (hok1.out ⟨by omega,by omega⟩)
        obtain ⟨kk,xa,xb,xc,us⟩:=o
        unfold OpX.row at *
        dsimp only at *
        go_wp2_with (first
         | (refine wpList_load_at 85 _ rfl rfl b2 (off2 + i * 5) rfl [.int .i64 kk,.int .i64 xa,.int .i64 xb,.int .i64 xc,.string (bs us)] _ hrR Tryz.underlying85 rfl (by kernel_rfl) ?_)
         | (refine wpList_alloc_row 85 rfl rfl opZ op_zero ?_)
         | (refine wpList_store_at 85 _ _ rfl rfl wr.heap.size #[.int .i64 kk,.int .i64 xa,.int .i64 xb,.int .i64 xc,.string (bs us)] rfl rfl 85 opZ hg1 (by kernel_rfl) rfl hR1 ?_
            rw [setRow_new]))
        go_roundw
        case rel=>exact ⟨i + 1,by omega,by go_num,hN2,hBx⟩
        case measure=>simp [intOf];omega
  · obtain rfl : i=n:=by omega
    have hall : ∀o∈l,okK o:=fun o ho=>by
     obtain ⟨j,hj,e⟩:=List.getElem_of_mem ho
     exact hN.out j o (by rw [← hnh.out];exact hj) (by rw [List.getElem?_eq_getElem hj,e])
    have hOk:=hokv.out hall
    clear hokv hN hall hbad hlt hr1
    have cP:=Lib.hid (parts_any W.heap.size wr)
    go_upto_region 11 with (go_at_call 41;(with_reducible refine cP.out.mono ?_);rintro r w2 ⟨A2,qs,rfl,hql,hR2,hPA,-⟩)
    have hBp:=hPA.1
    have hB2:=Lib.hid (hB.out.trans (hBp.mono hB.out.size))
    have hBW2:=Lib.hid (hBw.out.trans (hBp.mono hBw.out.size))
    replace hR2:=Lib.hid hR2
    replace hPA:=Lib.hid hPA
    have hst : Hid ((accL kw vs 0).length≤10):=Lib.hid (by rw [hz0.out];exact hkwl)
    rw [show (Value.string (bs kw))= .string (bs (accL kw vs 0)) by rw [hz0.out]]
    clear hBp hB hBw
    go_loopw [4,35] (fun sv jv wq=> ∃j : Nat,j≤26∧jv= .int .i64 j∧sv= .string (bs (accL kw vs j))∧Hid ((accL kw vs j).length≤10 + j * 1099511627800)∧Hid (Below w2.heap.size w2 wq)) (fun _ jv _=>26 - (intOf jv).toNat)
    case atStart=>exact ⟨0,Nat.zero_le _,rfl,rfl,hst,Lib.hid (Below.refl _ _)⟩
    case round=>
     clear hst
     obtain ⟨j,hj,rfl,rfl,hlen,hBq⟩:=hrel
     by_cases hjt : j < 26
     · have hjt' : (j : Int) < 26:=by omega
       obtain ⟨kg,hkg⟩ : ∃kg,keyT[j]? =some kg:=⟨_,List.getElem?_eq_getElem (by rw [keyT_len];exact hjt)⟩
       obtain ⟨off,hoff⟩ : ∃off,offT[j]? =some off:=⟨_,List.getElem?_eq_getElem (by rw [offT_len];exact hjt)⟩
       obtain ⟨v,hv⟩ : ∃v,vs[j]? =some v:=⟨_,List.getElem?_eq_getElem (by rw [hle];exact hjt)⟩
       obtain ⟨q,hq⟩ : ∃q,qs[j]? =some q:=⟨_,List.getElem?_eq_getElem (by rw [hql];exact hjt)⟩
       obtain ⟨b2,off2,z2,rfl,hb2,hz2,_,hr2⟩:=Rws.row hR2.out hjt
       rw [rowsP_at hkg hq] at hz2
       obtain rfl:=Option.some.inj hz2
       have hrR:=rangeAt_keep hr2 hBq.out hb2
       obtain ⟨hbx,hqw⟩:=hPA.out.at_ hq hoff
       have hokv:=OkVs.at hOk hkg hv
       have hlv:=hsz v (List.mem_of_getElem? hv)
       have hks : (bs kg.1).size≤20:=by
        have:=key_small ⟨j,hjt⟩
        rw [List.getD_eq_getElem?_getD,List.getElem?_map,hkg] at this
        exact this
       have hstj:=hstep.out j kg v hkg hv
       obtain ⟨z,hz,hzc⟩:=hS1.out.val j off v hv hoff
       have hcall:=Lib.hid (fun W' (h : Below w2.heap.size w2 W')=>write_any kg.2 v hokv hlv W' (hEW.out.keep (hBW2.out.trans (h.mono hBW2.out.size)) hEW.out.size) (hbx.keep h) (hz.keep (hB2.out.trans (h.mono hB2.out.size))) ((hb.out.keep (hB2.out.trans (h.mono hB2.out.size))).range hzc) (hb.out.keep (hB2.out.trans (h.mono hB2.out.size))).lt)
       have eg:=callW kg.2
       unfold partRow at hrR
       have hg1:=heap_new wr (.cells paZ 91)
       have hbsz : (bs (accL kw vs j)).size≤30000000000000:=by rw [bs_size];have:=hlen.out;omega
       clear hr2 hz2 hv hq hkg hoff hbx hqw hokv hz hzc
       obtain ⟨key,g⟩:=kg
       dsimp only at *
       have hbt:=bs_tok (accL kw vs j) key (wrPV v)
       generalize hfw : wrF g=fw at *
       generalize hfr : rdF g=fr at *
       clear hfw hfr
       have hwv : (bs (wrPV v)).size≤1099511627776:=by rw [bs_size];exact hlv
       generalize accL kw vs j=acc at *
       generalize hky : bs key=ky at *
       have hB9:=Lib.hid (hBq.out.trans ((below_new wr (.cells #[.string ky,.func (.func fw) #[] #[.pointer (some ⟨q,0,none⟩)],.func (.func fr) #[] #[.pointer (some ⟨q,0,none⟩)]] 91)).mono hBq.out.size))
       have hR1 : (#[.string ky,.func (.func fw) #[] #[.pointer (some ⟨q,0,none⟩)],.func (.func fr) #[] #[.pointer (some ⟨q,0,none⟩)]] : Array Value).all (·.oneCell')=true:=by simp [Value.oneCell']
       have hlt3 : wr.heap.size < (wr.alloc (.cells #[.string ky,.func (.func fw) #[] #[.pointer (some ⟨q,0,none⟩)],.func (.func fr) #[] #[.pointer (some ⟨q,0,none⟩)]] 91)).heap.size:=by simp
       have hck:=Lib.hid (fun W' (h : Below (wr.alloc (.cells #[.string ky,.func (.func fw) #[] #[.pointer (some ⟨q,0,none⟩)],.func (.func fr) #[] #[.pointer (some ⟨q,0,none⟩)]] 91)).heap.size (wr.alloc (.cells #[.string ky,.func (.func fw) #[] #[.pointer (some ⟨q,0,none⟩)],.func (.func fr) #[] #[.pointer (some ⟨q,0,none⟩)]] 91)) W')=>(show W'.cell? ⟨wr.heap.size,0,none⟩=some (.string ky) from (h.cell (p:=⟨wr.heap.size,0,none⟩) hlt3).trans (cell_of_row _ _ 0 _ _ _ (heap_new wr _))))
       have hcw : (wr.alloc (.cells #[.string ky,.func (.func fw) #[] #[.pointer (some ⟨q,0,none⟩)],.func (.func fr) #[] #[.pointer (some ⟨q,0,none⟩)]] 91)).cell? ⟨wr.heap.size,1,none⟩=some (.func (.func fw) #[] #[.pointer (some ⟨q,0,none⟩)]):=cell_of_row _ _ 1 _ _ _ (heap_new wr _)
       clear hlt3
       go_wp2_with (first
        | (refine wpList_load_at 91 _ rfl rfl b2 (off2 + j * 3) rfl [.string ky,.func (.func fw) #[] #[.pointer (some ⟨q,0,none⟩)],.func (.func fr) #[] #[.pointer (some ⟨q,0,none⟩)]] _ hrR Tryz.underlying91 rfl (by kernel_rfl) ?_)
        | (refine wpList_alloc_row 91 rfl rfl paZ pa_zero ?_)
        | (refine wpList_store_at 91 _ _ rfl rfl wr.heap.size #[.string ky,.func (.func fw) #[] #[.pointer (some ⟨q,0,none⟩)],.func (.func fr) #[] #[.pointer (some ⟨q,0,none⟩)]] rfl rfl 91 paZ hg1 (by kernel_rfl) rfl hR1 ?_
           rw [setRow_new]))
       refine (hcall.out _ hB9.out).mono ?_
       rintro r w6 ⟨rfl,hb6⟩
       have hck6:=hck.out w6 hb6
       have hB6:=Lib.hid (hB9.out.trans (hb6.mono hB9.out.size))
       clear hcall hcw hck hb6 eg hrR hg1
       by_cases hv0 : wrPV v=[]
       · rw [if_pos hv0] at hstj
         have he : (bs (wrPV v)).toList.isEmpty=true:=by rw [bs_nil,decide_eq_true hv0]
         have hl2:=hlen.out
         have hlen2:=Lib.hid (show (accL kw vs (j + 1)).length≤10 + (j + 1) * 1099511627800 by rw [hstj];exact Nat.le_trans hl2 (Nat.add_le_add_left (Nat.mul_le_mul_right _ (Nat.le_succ j)) _))
         replace hstj:=Lib.hid hstj
         clear hv0 hbt
         go_wp2_with fail
         go_roundw
         case rel=>exact ⟨j + 1,by omega,by go_num,by rw [hstj.out],hlen2,hB6⟩
         case measure=>simp [intOf];omega
       · rw [if_neg hv0] at hstj
         have he : (bs (wrPV v)).toList.isEmpty=false:=by rw [bs_nil,decide_eq_false hv0]
         have hl2:=hlen.out
         have hkl : key.length≤20:=by have:=bs_size key;rw [hky] at this;omega
         have hlen2:=Lib.hid (show (accL kw vs (j + 1)).length≤10 + (j + 1) * 1099511627800 by rw [hstj,Nat.succ_mul];simp only [List.length_append,List.length_cons];exact len_step hl2 hkl hlv)
         rw [← hstj] at hbt
         replace hbt:=Lib.hid hbt
         clear hv0 hstj hky hl2
         generalize bs (wrPV v)=yv at *
         generalize bs acc=ya at *
         have hz1 : ¬9223372036854775807 < 1 + ky.size:=by omega
         have hz2 : ¬9223372036854775807 < 1 + ky.size + 1:=by omega
         have hz3 : ¬9223372036854775807 < 1 + ky.size + 1 + yv.size:=by omega
         have hz4 : ¬9223372036854775807 < ya.size + (1 + ky.size + 1 + yv.size):=by omega
         go_wp2_with fail
         go_roundw
         case rel=>exact ⟨j + 1,by omega,by go_num,by rw [hbt.out],hlen2,hB6⟩
         case measure=>simp [intOf];omega
     · obtain rfl : j=26:=by omega
       have hR:=Lib.hid (hfin.out hOk wr (hBW2.out.trans (hBq.out.mono hBW2.out.size)))
       go_wp2_with fail
       go_ret2
       exact hR.out
end Go.Proofs.YtmicohmbmgbnkaaGreatDoor
