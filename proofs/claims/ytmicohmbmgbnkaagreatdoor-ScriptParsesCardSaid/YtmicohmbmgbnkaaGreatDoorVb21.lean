/- The program's Read. -/
import Derived.Test.YtmicohmbmgbnkaaGreatDoorVb20
namespace Go.Proofs.YtmicohmbmgbnkaaGreatDoor
open Go Go.RowKit Go.Shelf
open Go.Lib (itoa)
def ReadR (L : List UInt8) (w : World) (r : Ending) (w' : World) : Prop:=
 (∃(k : Nat) (vs : List PV) (cs : List Value),rdLine L= .ok k vs∧r= .returned (.tuple #[.agg cs.toArray,.nilIface])∧StC w' k vs cs∧OkVs keyT vs∧Below w.heap.size w w')∨
 (∃(a : List UInt8) (e : Value),rdLine L= .bad a∧r= .returned (.tuple #[.agg (stZ 0).toArray,e])∧isErr w' (some 3) [bs a] e∧Below w.heap.size w w')
def ReadRN (L : List UInt8) (w : World) (r : Ending) (w' : World) : Prop:=
 (∃(k : Nat) (vs : List PV) (cs : List Value),rdLine L= .ok k vs∧r= .returned (.tuple #[.agg cs.toArray,.nilIface])∧StN w.heap.size w' k vs cs∧Below w.heap.size w w')∨
 (∃(a : List UInt8) (e : Value),rdLine L= .bad a∧r= .returned (.tuple #[.agg (stZ 0).toArray,e])∧isErr w' (some 3) [bs a] e∧Below w.heap.size w w')
theorem ReadRN.r {L : List UInt8} {w : World} {r : Ending} {w' : World} (h : ReadRN L w r w') : ReadR L w r w':=by
 rcases h with ⟨k,vs,cs,h1,h2,h3,h4⟩ | h
 · exact .inl ⟨k,vs,cs,h1,h2,h3.c,h3.ok,h4⟩
 · exact .inr h
theorem hsetRow_off {w : World} {g k : Nat} (h : k≠g) (cs : Array Value) : (w.setRow g cs).heap[k]? =w.heap[k]? :=by
 simp only [World.setRow,Array.getElem?_modify,if_neg (Ne.symm h)]
theorem But.row {b : Nat} {w : World} (cs : Array Value) : But b w (w.setRow b cs):=⟨rfl,rfl,rfl,by simp [World.setRow],fun k _ hn=>hsetRow_off hn cs⟩
theorem SlN.row {b b0 : Nat} {W : World} {K : Nat} {zs : List (List Value)} {v : Value} (h : SlN b W K zs v) (hb : b0 < b) (cs : Array Value) : SlV (W.setRow b0 cs) K zs v:=by
 obtain ⟨A,c,h1,h2,h3,h4,h5⟩:=h
 exact ⟨A,c,h1,h2,h3,h4.but (But.row cs) fun hp a ha e=>by have:=h5 hp a ha;omega⟩
theorem StN.row {b b0 : Nat} {W : World} {k : Int} {vs : List PV} {cs : List Value} (h : StN b W k vs cs) (hb : b0 < b) (xs : Array Value) : StC (W.setRow b0 xs) k vs cs:=
 ⟨h.len,h.kind,fun i off v h1 h2=>by obtain ⟨z,hz,hc⟩:=h.val i off v h1 h2;exact ⟨z,PValG.mono (fun _ _ _ h=>h.row hb xs) hz,hc⟩,by rw [List.all_toArray];exact List.all_eq_true.2 h.one⟩
theorem SlN.rowN {b b0 : Nat} {W : World} {K : Nat} {zs : List (List Value)} {v : Value} (h : SlN b W K zs v) (hb : b0 < b) (cs : Array Value) : SlN b0 (W.setRow b0 cs) K zs v:=by
 obtain ⟨A,c,h1,h2,h3,h4,h5⟩:=h
 exact ⟨A,c,h1,h2,h3,h4.but (But.row cs) fun hp a ha e=>by have:=h5 hp a ha;omega,fun hp a ha=>by have:=h5 hp a ha;omega⟩
theorem StN.rowN {b b0 : Nat} {W : World} {k : Int} {vs : List PV} {cs : List Value} (h : StN b W k vs cs) (hb : b0 < b) (xs : Array Value) : StN b0 (W.setRow b0 xs) k vs cs:=
 ⟨h.len,h.kind,h.ok,fun i off v h1 h2=>by obtain ⟨z,hz,hc⟩:=h.val i off v h1 h2;exact ⟨z,PValG.mono (fun _ _ _ h=>h.rowN hb xs) hz,hc⟩,h.one⟩
theorem isErr.row {w : World} {o : Option Int} {b0 : Nat} (cs : Array Value) : ∀{p : List ByteArray} {v : Value},(∀(e : Nat),True)→isErr w o p v→(∀b s v',v= .iface 109 (.pointer (some ⟨b,0,none⟩))→b≠b0∧(w.cell? ⟨b,0,none⟩=some s→w.cell? ⟨b,1,none⟩=some v'→True))→p.length=1→isErr (w.setRow b0 cs) o p v
 | [s],v,_,⟨b,v',e,hlt,h1,h2,h3⟩,hne,_=>by
   have hb:=(hne b (.string s) v' e).1
   have hs : ∀i,(w.setRow b0 cs).cell? ⟨b,i,none⟩=w.cell? ⟨b,i,none⟩:=fun i=>by
    unfold World.cell?
    dsimp only
    rw [hsetRow_off hb]
   exact ⟨b,v',e,by simpa [World.setRow] using hlt,(hs 0).trans h1,(hs 1).trans h2,h3⟩
theorem rdLine_word {L p0 : List UInt8} {toks : List (List UInt8)} (hps : splitL 32 L=p0 :: toks) (h : placeZ kindW p0= -1) : rdLine L= .bad wordB:=by
 unfold rdLine
 rw [hps,rdParts]
 unfold placeZ at h
 cases hp : placeL kindW p0 with
 | none=>rfl
 | some i=>rw [hp] at h;dsimp only at h;omega
theorem rdLine_toks {L p0 : List UInt8} {toks : List (List UInt8)} {k : Nat} (hps : splitL 32 L=p0 :: toks) (h : placeZ kindW p0=k) : rdLine L=match rdToks keyT toks with | .ok vs=> .ok k vs | .bad a=> .bad a:=by
 unfold rdLine
 rw [hps,rdParts]
 unfold placeZ at h
 cases hp : placeL kindW p0 with
 | none=>rw [hp] at h;dsimp only at h;omega
 | some i=>rw [hp] at h;dsimp only at h;obtain rfl : i=k:=(by omega);rfl
theorem stZ_one : (stZ 0).toArray.all (·.oneCell')=true:=by decide +kernel
theorem stZ_onek (k : Int) : (stZ k).toArray.all (·.oneCell')=true:=by
 rw [List.all_toArray]
 exact List.all_eq_true.2 (StN.zero_ 0 default k).one
theorem err_end {L a : List UInt8} {W w1 w2 : World} {e : Value} (hl : rdLine L= .bad a) (hB : Below W.heap.size W w1) (hlt : W.heap.size < w1.heap.size) (hm : isErr w2 (some 3) [bs a] e) (hb : Below w1.heap.size w1 w2) (hnew : ∀b,e= .iface 109 (.pointer (some ⟨b,0,none⟩))→w1.heap.size≤b) :
 ReadRN L W (.returned (.tuple #[.agg (stZ 0).toArray,e])) (w2.setRow W.heap.size (stZ 0).toArray):=by
 refine .inr ⟨a,e,hl,rfl,isErr.row _ (fun _=>trivial) hm (fun b s v' he=>⟨?_,fun _ _=>trivial⟩) rfl,below_setRow (hB.trans (hb.mono hB.size)) (Nat.le_refl _) _⟩
 have:=hnew b he
 omega
theorem of_new (s : ByteArray) (n : Int) (w : World) (hn : n≠0) :
 Calls Tryz.prog 40 #[.string s,.int .i64 n] w fun r w'=> ∃e,r= .returned e∧isErr w' (some n) [s] e∧Below w.heap.size w w'∧∀b,e= .iface 109 (.pointer (some ⟨b,0,none⟩))→w.heap.size≤b:=by
 have h0 : (n == 0)=false:=beq_eq_false_iff_ne.2 hn
 clear hn
 go_enter Tryz.func40,Tryz.ntmps40
 go_wp2
 go_ret
 refine ⟨_,rfl,isErr_new (show isErr w (some n) [] (.iface 51 (.int .i64 n)) from rfl) s _,(Below.refl _ _).alloc (Nat.le_refl _) _,fun b e=> ?_⟩
 injection e with _ e
 injection e with e
 injection e with e
 injection e with e
 omega
set_option maxRecDepth 100000 in
set_option maxHeartbeats 16000000 in
theorem read_lineN (s : ByteArray) (W : World) (E : EnvS W) (hs : s.size < 4294967281) :
 Calls Tryz.prog 22 #[.string s] W (ReadRN s.data.toList W):=by
 have hB0:=below_new W (.cells (stZ 0).toArray 44)
 have hz0:=heap_new W (.cells (stZ 0).toArray 44)
 have hlt0:=(Array.getElem?_eq_some_iff.1 hz0).1
 have cS:=split_any 32 s _ (E.keep hB0 E.size) hs
 have hsl : s.data.toList.length=s.size:=by rw [Array.length_toList];rfl
 have hsub:=fun p (hp : p∈splitL 32 s.data.toList)=>split_size p hp
 have hpl:=splitL_len 32 s.data.toList
 rw [hsl] at hsub hpl
 obtain ⟨p0,toks,hps⟩:=splitL_cons 32 s.data.toList
 have hw1:=rdLine_word hps
 have hw2:=fun k=>rdLine_toks (k:=k) hps
 rw [hps] at cS hsub hpl
 obtain ⟨m,hm⟩ : ∃m,toks.length=m:=⟨_,rfl⟩
 simp only [List.length_cons,hm,World.size_alloc] at cS hpl
 have cK:=Lib.hid (fun W' (h : Below W.heap.size W W')=>kind_any (bs p0) W' (E.keep h E.size))
 rw [bs_list] at cK
 have hzr:=placeZ_rng kindW p0
 have hE:=Lib.hid (fun W' (h : Below W.heap.size W W')=>E.keep h E.size)
 have hE11:=Lib.hid E.size
 replace cS:=Lib.hid cS
 replace hB0:=Lib.hid hB0
 have hKz:=Lib.hid (fun W' (h : Below (W.alloc (.cells (stZ 0).toArray 44)).heap.size (W.alloc (.cells (stZ 0).toArray 44)) W')=>(h.block W.heap.size hlt0).trans hz0)
 simp only [World.size_alloc] at hKz
 generalize placeZ kindW p0=z at *
 clear hps hsl hz0 E
 rcases hzr with rfl | ⟨k,rfl,hk⟩
 · have hR:=Lib.hid (hw1 rfl)
   clear hw1 hw2
   have cO:=Lib.hid (fun W'=>of_new wordS 3 W' (by decide))
   unfold wordS at cO
   go_enter Tryz.func22,Tryz.ntmps22
   go_wp2_with (first
    | (refine wpList_alloc_row 44 rfl rfl (stZ 0).toArray st_zero ?_)
    | (go_at_call 45;(with_reducible refine cS.out.mono ?_);rintro r wa ⟨W9,rfl,rfl,hS,hb1⟩
       have hB1:=Lib.hid (hB0.out.trans (hb1.mono (Nat.le_succ _)))
       have hK1:=Lib.hid hb1
       have hpc : wa.cell? ⟨W.heap.size + 1,0,none⟩=some (.string (bs p0)):=(strs_cell hS (j:=0) (s:=bs p0) rfl).1
       clear hb1)
    | (go_at_call 15;(with_reducible refine (cK.out wa hB1.out).mono ?_);rintro r wb ⟨rfl,hb2⟩
       have hB2:=Lib.hid (hB1.out.trans (hb2.mono hB1.out.size))
       have hK2:=Lib.hid (hK1.out.trans (hb2.mono (Nat.le_trans (by simp) hK1.out.size)))
       clear hb2)
    | (refine wpList_build_as 44 _ rfl rfl (stZ 0).toArray st_built0 ?_)
    | (go_at_call 40;(with_reducible refine (cO.out wb).mono ?_);rintro r wc ⟨e,rfl,hv,hb3,hnew⟩
       have hK3:=hKz.out wc (hK2.out.trans (hb3.mono (Nat.le_trans (by simp) hK2.out.size)))
       replace hv:=Lib.hid hv;replace hb3:=Lib.hid hb3;replace hnew:=Lib.hid hnew)
    | (refine wpList_store_at 44 _ _ rfl rfl W.heap.size (stZ 0).toArray rfl rfl 44 (stZ 0).toArray hK3 (by kernel_rfl) rfl stZ_one ?_))
   have hlt2 : W.heap.size < wb.heap.size:=Nat.lt_of_lt_of_le (by simp) hK2.out.size
   refine bodyPost_ret (resV2 rfl _ _ W.heap.size 44 (stZ 0).toArray (0,0) _ e rfl (hsetRow _ _ _ _ _ _ hK3) Tryz.underlying44 rfl (by kernel_rfl) rfl) rfl (err_end (e:=e) hR.out hB2.out hlt2 hv.out hb3.out hnew.out)
 · have hw2k:=hw2 k rfl
   have hmx : max (k : Int) 0=(k : Int):=by omega
   have h0k : (0 : Int)≤(k : Int):=Int.natCast_nonneg _
   rw [hmx,decide_eq_true h0k] at cK
   clear hw1 hw2 hmx
   have hone:=stZ_onek (k : Int)
   go_enter Tryz.func22,Tryz.ntmps22
   go_upto_region 6 with (first
    | (refine wpList_alloc_row 44 rfl rfl (stZ 0).toArray st_zero ?_)
    | (go_at_call 45;(with_reducible refine cS.out.mono ?_);rintro r wa ⟨W9,rfl,rfl,hS,hb1⟩
       have hB1:=Lib.hid (hB0.out.trans (hb1.mono (Nat.le_succ _)))
       have hK1:=Lib.hid hb1
       have hpc : wa.cell? ⟨W.heap.size + 1,0,none⟩=some (.string (bs p0)):=(strs_cell hS (j:=0) (s:=bs p0) rfl).1
       replace hS:=Lib.hid hS
       clear hb1)
    | (go_at_call 15;(with_reducible refine (cK.out wa hB1.out).mono ?_);rintro r wb ⟨rfl,hb2⟩
       have hB2:=Lib.hid (hB1.out.trans (hb2.mono hB1.out.size))
       have hK2:=Lib.hid (hK1.out.trans (hb2.mono (Nat.le_trans (by simp) hK1.out.size)))
       have hsz2:=Lib.hid hb2.size
       have hS2:=Lib.hid (hS.out.keep hb2)
       have hgz:=heap_new wb (.cells (stZ 0).toArray 44)
       clear hb2)
    | (refine wpList_alloc_row 44 rfl rfl (stZ 0).toArray st_zero ?_)
    | (refine wpList_build_as 44 _ rfl rfl (stZ k).toArray (st_built1 _) ?_)
    | (refine wpList_store_at 44 _ _ rfl rfl wb.heap.size (stZ k).toArray rfl rfl 44 (stZ 0).toArray hgz (by kernel_rfl) rfl hone ?_
       rw [setRow_new]))
   have hbz : W.heap.size + 1 < wb.heap.size:=Nat.lt_of_lt_of_le (Nat.lt_of_lt_of_le (strs_cell hS.out (j:=0) (s:=bs p0) rfl).2 (Nat.le_refl _)) hsz2.out
   have hnb:=below_new wb (.cells (stZ k).toArray 44)
   have hblk : Blk (wb.alloc (.cells (stZ k).toArray 44)) wb.heap.size (stZ k):=heap_new wb _
   have hlb:=hblk.lt
   have hB3:=hB2.out.trans (hnb.mono hB2.out.size)
   have hK3:=hK2.out.trans (hnb.mono (by omega))
   have hS3:=hS2.out.keep hnb
   have hlw : wb.heap.size < (wb.alloc (.cells (stZ k).toArray 44)).heap.size:=hlb
   obtain ⟨b,hb⟩ : ∃b,wb.heap.size=b:=⟨_,rfl⟩
   rw [hb] at hblk hbz hlw ⊢
   generalize wb.alloc (.cells (stZ k).toArray 44)=w1 at *
   have hst:=StN.zero_ b w1 k
   have hz1:=hKz.out w1 hK3
   have hSb:=Rws.beh (K:=1) hS3 (Nat.le_refl (m + 1))
   simp only [List.map_cons,List.drop_succ_cons,List.drop_zero,Nat.add_sub_cancel] at hSb
   have hA1 : ∀a,beh (some ⟨W.heap.size + 1,0,none⟩) 1 1 (m + 1)=some a→a.block < b:=fun a ha=>by
    unfold beh at ha
    split at ha
    · injection ha with ha;rw [← ha];exact hbz
    · injection ha with ha;rw [← ha];exact hbz
   have hsl1 : ∀W',(Instr.sliceAt 27 (.slice (some ⟨W.heap.size + 1,0,none⟩) (m + 1) (m + 1)) (some (.int .i64 1)) none none).run Tryz.prog W' = .ok (.slice (beh (some ⟨W.heap.size + 1,0,none⟩) 1 1 (m + 1)) m m) W':=fun W'=>beh_run 27 1 u_strs9 z_strs9 _ (m + 1) (m + 1) 1 (by omega) W'
   generalize beh (some ⟨W.heap.size + 1,0,none⟩) 1 1 (m + 1)=A1 at *
   have hS1 : Strs w1 A1 m (toks.map bs):=hSb
   replace hS1:=Lib.hid hS1
   replace hst:=Lib.hid hst
   replace hblk:=Lib.hid hblk
   replace hB3:=Lib.hid hB3
   replace hz1:=Lib.hid hz1
   replace hA1:=Lib.hid hA1
   have cP:=Lib.hid (parts_any b w1)
   have hb11 : 11≤b:=by have:=hE11.out;omega
   have hbW : W.heap.size < b:=by omega
   clear hSb hS3 hnb hK3 hB2 hK2 hS2 hgz hpc hS hB1 hK1 hone hlb hsz2 hb cS cK hKz hB0 hlt0 hbz
   go_upto_region 8 with (go_at_call 41;(with_reducible refine cP.out.mono ?_);rintro r w2 ⟨A2,qs,rfl,hql,hR2,hPA,hA2⟩)
   have hBp:=hPA.1
   have hst2:=Lib.hid (hst.out.but (But.of_below hBp))
   have hblk2:=Lib.hid (hblk.out.keep hBp)
   have hS2:=Lib.hid (hS1.out.keep hBp)
   have hB4:=Lib.hid (hB3.out.trans (hBp.mono hB3.out.size))
   have hz2:=Lib.hid ((hBp.block W.heap.size (by omega)).trans hz1.out)
   have hA2':=Lib.hid (show ∀a,A2=some a→b < a.block from fun a ha=>by have:=hA2 a ha;omega)
   have hqs:=Lib.hid (show ∀(j q off : Nat),qs[j]? =some q→offT[j]? =some off→BoxP w2 q b off∧b < q∧q < w2.heap.size from fun j q off h1 h2=>by
    obtain ⟨g1,g2,g3⟩:=hPA.2 j q off h1 h2
    exact ⟨g1,by omega,g3⟩)
   have hlw2 : b < w2.heap.size:=hblk2.out.lt
   have hR0 : Hid (Rws w2 3 A2 26 ((rowsP keyT qs).drop 0)):=Lib.hid (by rw [List.drop_zero];exact hR2)
   have hP0 : Hid (rdToks keyT toks=addPre [] (rdToks (keyT.drop 0) (toks.drop 0))):=Lib.hid (by rw [addPre_nil,List.drop_zero,List.drop_zero])
   have hst0 : Hid (StN b w2 k ([] ++ zeros (keyT.drop 0)) (stZ k)):=Lib.hid (by rw [List.drop_zero];exact hst2.out)
   have hqlh:=Lib.hid hql
   have hmh:=Lib.hid hm
   have hmb : m≤4294967281:=by omega
   clear hPA hBp hst hblk hS1 hB3 hz1 cP hlw hR2 hA2 hst2 hql hm hpl
   go_loopw [8,35] (fun av jv wr=> ∃(i d n' c' : Nat) (A' : Option Addr) (pre : List PV) (cs : List Value),i≤m∧jv= .int .i64 i∧n' + d=26∧av= .slice A' n' c'∧n'≤c'∧c'≤26∧Hid (∀a,A' =some a→b < a.block)∧Hid (Rws w2 3 A' n' ((rowsP keyT qs).drop d))∧Hid (rdToks keyT toks=addPre pre (rdToks (keyT.drop d) (toks.drop i)))∧Hid (Blk wr b cs)∧Hid (StN b wr k (pre ++ zeros (keyT.drop d)) cs)∧Hid (pre.length=d)∧Hid (But b w2 wr)) (fun _ jv _=>m - (intOf jv).toNat)
   case atStart=>exact ⟨0,0,26,26,A2,[],stZ k,Nat.zero_le _,rfl,rfl,rfl,Nat.le_refl _,Nat.le_refl _,hA2',hR0,hP0,hblk2,hst0,Lib.hid rfl,Lib.hid ⟨rfl,rfl,rfl,Nat.le_refl _,fun _ _ _=>rfl⟩⟩
   case round=>
    clear hA2' hR0 hP0 hblk2 hst0
    obtain ⟨i,d,n',c',A',pre,cs,hi,rfl,hnd,rfl,hnc,hc26,hA',hR',hP,hbk,hsn,hpre,hBt⟩:=hrel
    have hWr:=Lib.hid (hB4.out.trans (hBt.out.below (n:=W.heap.size) (by omega) (by omega)))
    have hzr : wr.heap[W.heap.size]? =some (.cells (stZ 0).toArray 44 (0,0)):=(hBt.out.block W.heap.size (by omega) (by omega)).trans hz2.out
    by_cases hlt : i < m
    · have hlt' : (i : Int) < (m : Int):=by omega
      obtain ⟨t,ht⟩ : ∃t,toks[i]? =some t:=⟨_,List.getElem?_eq_getElem (by rw [hmh.out];exact hlt)⟩
      obtain ⟨b1,o1,x1,hA1e,hbl1,hx1,hc1⟩:=hS2.out.at_ hlt
      rw [List.getElem?_map,ht] at hx1
      obtain rfl : bs t=x1:=Option.some.inj hx1
      have hb1ne : b1 < b:=hA1.out _ hA1e
      subst hA1e
      have hcw:=(hBt.out.cell (p:=⟨b1,o1 + i,none⟩) hbl1 (by show b1≠b;omega)).trans hc1
      have htl:=hsub t (List.mem_cons_of_mem _ (List.mem_of_getElem? ht))
      have cC:=cut_any 61 (bs t) wr (hE.out wr hWr.out) (by rw [bs_size];omega)
      rw [bs_list] at cC
      obtain ⟨key,val,is,hcut⟩ : ∃key val is,cutL 61 t=(key,val,is):=⟨_,_,_,rfl⟩
      have hcl:=cutL_len 61 t
      have hcut1 : (cutL 61 t).1=key:=by rw [hcut]
      have hcut2 : (cutL 61 t).2.1=val:=by rw [hcut]
      have hcut3 : (cutL 61 t).2.2=is:=by rw [hcut]
      rw [hcut1,hcut2,hcut3] at cC
      rw [hcut1,hcut2] at hcl
      have hvl : (bs val).size≤4294967280:=by rw [bs_size];omega
      have hnone:=fun h=>tok_none hP.out ht h
      have hbad:=fun q kg h1 h2 h3 h4=>tok_bad (q:=q) (kg:=kg) hP.out ht h1 h2 h3 h4
      have hgood:=fun q kg pv h1 h2 h3 h4=>tok_ok (q:=q) (kg:=kg) (pv:=pv) hP.out ht h1 h2 h3 h4
      rw [hcut1,hcut3] at hnone
      rw [hcut1,hcut2,hcut3] at hbad hgood
      replace cC:=Lib.hid cC
      replace hnone:=Lib.hid hnone
      replace hbad:=Lib.hid hbad
      replace hgood:=Lib.hid hgood
      have cO:=Lib.hid (fun W'=>of_new (⟨#[107,101,121]⟩ : ByteArray) 3 W' (by decide))
      have cO2:=Lib.hid (fun W'=>of_new (bs key) 3 W' (by decide))
      have hn0 : Hid (∀(j : Nat) (kg : List UInt8 × Tag),j < 0→(keyT.drop d)[j]? =some kg→kg.1≠key):=Lib.hid (fun j kg h=>absurd h (Nat.not_lt_zero _))
      have hbk3:=Lib.hid (fun W' (h : Below wr.heap.size wr W')=>hbk.out.keep h)
      have hzr':=Lib.hid (fun W' (h : Below wr.heap.size wr W')=>(h.block W.heap.size (by have:=hBt.out.size;omega)).trans hzr)
      have hsn3:=Lib.hid (fun W' (h : Below wr.heap.size wr W')=>hsn.out.but (But.of_below h))
      have hlw3 : W.heap.size < wr.heap.size:=by have:=hBt.out.size;omega
      have hlen : cs.length=29:=hsn.out.len
      have hdl : (keyT.drop d).length=n':=by rw [List.length_drop,keyT_len];omega
      clear ht hx1 hbl1 hc1 hb1ne htl hcut hcl hcut1 hcut2 hcut3 hP hsn hbk hzr
      go_upto_region 11 with (go_at_call 46;(with_reducible refine cC.out.mono ?_);rintro r w3 ⟨rfl,hb3⟩)
      have hBt3:=Lib.hid (hBt.out.trans (But.of_below (b:=b) hb3))
      have hW3:=Lib.hid (hWr.out.trans (hb3.mono hWr.out.size))
      have hbk4:=Lib.hid (hbk3.out w3 hb3)
      have hsn4:=Lib.hid (hsn3.out w3 hb3)
      have hz3:=Lib.hid (hzr'.out w3 hb3)
      have hl3 : W.heap.size < w3.heap.size:=Nat.lt_of_lt_of_le hlw3 hb3.size
      clear hb3 hbk3 hsn3 hzr' hWr hBt cC hcw
      go_wp2_with fail
      go_loopw [14] (fun qv wq=> ∃q : Nat,q≤n'∧qv= .int .i64 q∧Hid (wq=w3)∧Hid (∀(j : Nat) (kg : List UInt8 × Tag),j < q→(keyT.drop d)[j]? =some kg→kg.1≠key)) (fun qv _=>n' - (intOf qv).toNat)
      case atStart=>exact ⟨0,Nat.zero_le _,rfl,Lib.hid rfl,hn0⟩
      case round=>
       clear hn0
       obtain ⟨q,hq,rfl,hwq,hN⟩:=hrel
       rw [← hwq.out] at hBt3 hW3 hbk4 hsn4 hz3 hl3
       by_cases hqt : q < n'
       · have hqt' : (q : Int) < (n' : Int):=by omega
         obtain ⟨kg,hkg⟩ : ∃kg,keyT[d + q]? =some kg:=⟨_,List.getElem?_eq_getElem (by rw [keyT_len];omega)⟩
         obtain ⟨q0,hq0⟩ : ∃q0,qs[d + q]? =some q0:=⟨_,List.getElem?_eq_getElem (by rw [hqlh.out];omega)⟩
         obtain ⟨bA,oA,z2,rfl,hbA,hz2',_,hr2⟩:=Rws.row hR'.out hqt
         rw [List.getElem?_drop,rowsP_at hkg hq0] at hz2'
         obtain rfl:=Option.some.inj hz2'
         have hbAb : b < bA:=hA'.out _ rfl
         have hrw : wr.rangeAt bA (oA + q * 3) (partRow (bs kg.1) kg.2 q0):=fun j v hv=>(hBt3.out.cell (p:=⟨bA,oA + q * 3 + j,none⟩) hbA (by show bA≠b;omega)).trans (hr2 j v hv)
         have hck : wr.cell? ⟨bA,oA + q * 3,none⟩=some (.string (bs kg.1)):=hrw 0 _ rfl
         by_cases he : kg.1=key
         · have hq2 : ((bs kg.1).toList == (bs key).toList)=true:=by rw [bsq_eq,bs_list,decide_eq_true he]
           have hne2 : ((bs kg.1).toList != (bs key).toList)=false:=by unfold bne;rw [hq2];rfl
           have hpl : placeL ((keyT.drop d).map (·.1)) key=some q:=placeL_app (fun j x hj hx=>by
            obtain ⟨kg',h1,rfl⟩:=map_at hx
            exact hN.out j kg' hj h1) (by rw [List.getElem?_map,List.getElem?_drop,hkg];exact congrArg some he)
           have hnq : ((q : Int) == (n' : Int))=false:=beq_eq_false_iff_ne.2 (by omega)
           clear hN hq
           cases is with
           | false=>
             have hrd:=hnone.out (.inr rfl)
             have hR:=Lib.hid (show rdLine s.data.toList= .bad keyB by rw [hw2k,hrd])
             have hz5:=hz3.out
             clear hpl hrd hrw hr2 hz2'
             go_wp2_with (first
              | (refine wpList_build_as 44 _ rfl rfl (stZ 0).toArray st_built0 ?_)
              | (go_at_call 40;(with_reducible refine (cO.out _).mono ?_);rintro r wc ⟨e,rfl,hv,hb5,hnew⟩;have hK5:=(hb5.block W.heap.size hl3).trans hz5;replace hv:=Lib.hid hv;replace hb5:=Lib.hid hb5;replace hnew:=Lib.hid hnew)
              | (refine wpList_store_at 44 _ _ rfl rfl W.heap.size (stZ 0).toArray rfl rfl 44 (stZ 0).toArray hK5 (by kernel_rfl) rfl stZ_one ?_))
             refine bodyPost_ret (resV2 rfl _ _ W.heap.size 44 (stZ 0).toArray (0,0) _ e rfl (hsetRow _ _ _ _ _ _ hK5) Tryz.underlying44 rfl (by kernel_rfl) rfl) rfl (err_end (e:=e) hR.out hW3.out hl3 hv.out hb5.out hnew.out)
           | true=>
             obtain ⟨off,hoff⟩ : ∃off,offT[d + q]? =some off:=⟨_,List.getElem?_eq_getElem (by rw [offT_len];omega)⟩
             obtain ⟨hbx,hq0b,hq0w⟩:=hqs.out (d + q) q0 off hq0 hoff
             have hoffa:=(off_at hkg hoff).2.1
             have hbxw : BoxP wr q0 b off:=(hBt3.out.cell (p:=⟨q0,0,none⟩) hq0w (by show q0≠b;omega)).trans hbx
             obtain ⟨key',g⟩:=kg
             dsimp only at he hq2 hne2 hrw hck hoffa
             subst he
             unfold partRow at hrw
             have hbad':=hbad.out q (key',g) hpl rfl hkg
             have hgood':=fun pv=>hgood.out q (key',g) pv
             have hEb:=fun W' (h : But b wr W')=>hE.out W' (hW3.out.trans (h.below (n:=W.heap.size) (by omega) (by omega)))
             have hBx:=fun W' (h : But b wr W')=>(h.cell (p:=⟨q0,0,none⟩) (block_lt_of_cell hbxw) (by show q0≠b;omega)).trans hbxw
             have hZb:=Lib.hid (fun W' (h : But b wr W')=>(h.block W.heap.size hl3 (by omega)).trans hz3.out)
             have cR:=Lib.hid (fun W' (h : Below wr.heap.size wr W')=>read_any g (bs val) (by omega) cs W' (hEb W' (But.of_below h)) (hBx W' (But.of_below h)) (by omega) (hbk4.out.keep h) (by rw [hlen];exact hoffa) hb11)
             rw [bs_list] at cR
             have cW:=Lib.hid (fun pv (hrp : rdP g val=some pv) W' z cs' (h : But b wr W') (hb : Blk W' b cs') (hz : PValN b W' pv z) (hr : W'.rangeAt b off z)=>write_any g pv (rdP_ok hrp) (by have:=rdP_len hrp;rw [bs_size] at hvl;omega) W' (hEb W' h) (hBx W' h) hz.v hr hb.lt)
             have egr:=callR g
             have egw:=callW g
             generalize hfw : wrF g=fw at *
             generalize hfr : rdF g=fr at *
             clear hfw hfr
             generalize hky : bs key' =ky at *
             have hg1:=heap_new wr (.cells paZ 91)
             have hR1 : (#[.string ky,.func (.func fw) #[] #[.pointer (some ⟨q0,0,none⟩)],.func (.func fr) #[] #[.pointer (some ⟨q0,0,none⟩)]] : Array Value).all (·.oneCell')=true:=by simp [Value.oneCell']
             have hnw:=below_new wr (.cells #[.string ky,.func (.func fw) #[] #[.pointer (some ⟨q0,0,none⟩)],.func (.func fr) #[] #[.pointer (some ⟨q0,0,none⟩)]] 91)
             have hgr:=heap_new wr (.cells #[.string ky,.func (.func fw) #[] #[.pointer (some ⟨q0,0,none⟩)],.func (.func fr) #[] #[.pointer (some ⟨q0,0,none⟩)]] 91)
             have hc2 : (wr.alloc (.cells #[.string ky,.func (.func fw) #[] #[.pointer (some ⟨q0,0,none⟩)],.func (.func fr) #[] #[.pointer (some ⟨q0,0,none⟩)]] 91)).cell? ⟨wr.heap.size,2,none⟩=some (.func (.func fr) #[] #[.pointer (some ⟨q0,0,none⟩)]):=cell_of_row _ _ 2 _ _ _ hgr
             have hpb : wr.heap.size < (wr.alloc (.cells #[.string ky,.func (.func fw) #[] #[.pointer (some ⟨q0,0,none⟩)],.func (.func fr) #[] #[.pointer (some ⟨q0,0,none⟩)]] 91)).heap.size:=by simp
             have hpne : wr.heap.size≠b:=by have:=hbk4.out.lt;omega
             have hc1:=Lib.hid (fun W' (h : But b (wr.alloc (.cells #[.string ky,.func (.func fw) #[] #[.pointer (some ⟨q0,0,none⟩)],.func (.func fr) #[] #[.pointer (some ⟨q0,0,none⟩)]] 91)) W')=>(show W'.cell? ⟨wr.heap.size,1,none⟩=some (.func (.func fw) #[] #[.pointer (some ⟨q0,0,none⟩)]) from (h.cell (p:=⟨wr.heap.size,1,none⟩) hpb hpne).trans (cell_of_row _ _ 1 _ _ _ hgr)))
             replace hnw:=Lib.hid hnw
             replace hbad':=Lib.hid hbad'
             replace hgood':=Lib.hid hgood'
             clear hbad hgood hnone hEb hBx hgr hpb hr2 hz2' hbx hbxw
             go_wp2_with (first
              | (refine wpList_load_at 91 _ rfl rfl bA (oA + q * 3) rfl [.string ky,.func (.func fw) #[] #[.pointer (some ⟨q0,0,none⟩)],.func (.func fr) #[] #[.pointer (some ⟨q0,0,none⟩)]] _ hrw Tryz.underlying91 rfl (by kernel_rfl) ?_)
              | (refine wpList_alloc_row 91 rfl rfl paZ pa_zero ?_)
              | (refine wpList_store_at 91 _ _ rfl rfl wr.heap.size #[.string ky,.func (.func fw) #[] #[.pointer (some ⟨q0,0,none⟩)],.func (.func fr) #[] #[.pointer (some ⟨q0,0,none⟩)]] rfl rfl 91 paZ hg1 (by kernel_rfl) rfl hR1 ?_
                 rw [setRow_new]))
             refine (cR.out _ hnw.out).mono ?_
             rintro r w5 ⟨z,x,rfl,hzl,hbk5,hbt5,hok5,hno5⟩
             have hbt6:=Lib.hid ((But.of_below (b:=b) hnw.out).trans hbt5)
             have hW5:=Lib.hid (hW3.out.trans (hbt6.out.below (n:=W.heap.size) (by omega) (by omega)))
             have hl5 : W.heap.size < w5.heap.size:=Nat.lt_of_lt_of_le hl3 hbt6.out.size
             have hz5:=hZb.out w5 hbt6.out
             have hc15:=hc1.out w5 hbt5
             cases hrp : rdP g val with
             | none=>
               obtain rfl:=hno5 hrp
               have hrd:=hbad'.out (by unfold okP;rw [hrp])
               have hR:=Lib.hid (show rdLine s.data.toList= .bad key' by rw [hw2k,hrd])
               clear hrd hok5 hno5 hc15
               go_wp2_with (first
                | (refine wpList_build_as 44 _ rfl rfl (stZ 0).toArray st_built0 ?_)
                | (go_at_call 40;(with_reducible refine (cO2.out _).mono ?_);rintro r wc ⟨e,rfl,hv,hb5,hnew⟩;have hK5:=(hb5.block W.heap.size hl5).trans hz5;replace hv:=Lib.hid hv;replace hb5:=Lib.hid hb5;replace hnew:=Lib.hid hnew)
                | (refine wpList_store_at 44 _ _ rfl rfl W.heap.size (stZ 0).toArray rfl rfl 44 (stZ 0).toArray hK5 (by kernel_rfl) rfl stZ_one ?_))
               refine bodyPost_ret (resV2 rfl _ _ W.heap.size 44 (stZ 0).toArray (0,0) _ e rfl (hsetRow _ _ _ _ _ _ hK5) Tryz.underlying44 rfl (by kernel_rfl) rfl) rfl (err_end (e:=e) hR.out hW5.out hl5 (by rw [hky];exact hv.out) hb5.out hnew.out)
             | some pv=>
               obtain ⟨rfl,hpv⟩:=hok5 pv hrp
               have hsn5:=(hsn4.out.put hbt6.out hkg hoff (rdP_ok hrp) hpv hzl)
               rw [zeros_set pv hpre.out hkg] at hsn5
               have hrz : w5.rangeAt b off z:=hbk5.range (fun j x hx=>setAt_at z cs off j x (by rw [hlen,hzl];exact hoffa) hx)
               have cW5:=Lib.hid (cW.out pv hrp w5 z _ hbt6.out hbk5 hpv hrz)
               replace hsn5:=Lib.hid hsn5
               replace hbk5:=Lib.hid hbk5
               clear hok5 hno5 hrz hpv cW cR hc1
               go_wp2_with fail
               refine cW5.out.mono ?_
               rintro r w6 ⟨rfl,hb6⟩
               have hW6:=Lib.hid (hW5.out.trans (hb6.mono hW5.out.size))
               have hl6 : W.heap.size < w6.heap.size:=Nat.lt_of_lt_of_le hl5 hb6.size
               have hz6:=(hb6.block W.heap.size hl5).trans hz5
               by_cases hww : wrPV pv=val
               · have hq7 : ((bs (wrPV pv)).toList == (bs val).toList)=true:=by rw [bsq_eq,bs_list,decide_eq_true hww]
                 have hP2:=Lib.hid (hgood'.out pv hpl (by trivial) hkg (by unfold okP;rw [hrp];dsimp only;rw [if_pos hww]))
                 have hsn7:=Lib.hid (hsn5.out.but (But.of_below hb6))
                 have hbk7:=Lib.hid (hbk5.out.keep hb6)
                 have hBt7:=Lib.hid ((hBt3.out.trans hbt6.out).trans (But.of_below hb6))
                 have hR7:=Rws.beh (K:=q + 1) hR'.out hnc
                 rw [List.drop_drop,show d + (q + 1)=d + q + 1 by omega] at hR7
                 have hA7 : ∀a,beh (some ⟨bA,oA,none⟩) (q + 1) 3 c' =some a→b < a.block:=fun a ha=>by
                  unfold beh at ha
                  split at ha
                  · injection ha with ha;rw [← ha];exact hbAb
                  · injection ha with ha;rw [← ha];exact hbAb
                 have hsl7 : ∀W',(Instr.sliceAt 87 (.slice (some ⟨bA,oA,none⟩) n' c') (some (.int .i64 ((q : Int) + 1))) none none).run Tryz.prog W' = .ok (.slice (beh (some ⟨bA,oA,none⟩) (q + 1) 3 c') (n' - (q + 1)) (c' - (q + 1))) W':=fun W'=>beh_run 87 3 u_parts z_parts _ n' c' (q + 1) (by omega) W'
                 have hp7:=Lib.hid (show (pre ++ (zeros ((keyT.drop d).take q) ++ [pv])).length=d + q + 1 by
                  have h1:=hpre.out
                  have h2 : (zeros ((keyT.drop d).take q)).length=q:=by unfold zeros;rw [List.length_map,List.length_take,hdl];omega
                  rw [List.length_append,List.length_append,h1,h2]
                  simp only [List.length_singleton]
                  omega)
                 generalize beh (some ⟨bA,oA,none⟩) (q + 1) 3 c' =A7 at *
                 replace hR7:=Lib.hid hR7
                 replace hA7:=Lib.hid hA7
                 clear hww hsn5 hbk5 hb6 hz6 hrp hpl hkg hoff hq0 hrw
                 go_wp2_with fail
                 go_roundw
                 case rel=>exact ⟨i + 1,d + q + 1,n' - (q + 1),c' - (q + 1),A7,_,_,by omega,by go_num,by omega,rfl,by omega,by omega,hA7,hR7,hP2,hbk7,hsn7,hp7,hBt7⟩
                 case measure=>simp [intOf];omega
               · have hq7 : ((bs (wrPV pv)).toList == (bs val).toList)=false:=by rw [bsq_eq,bs_list,decide_eq_false hww]
                 have hrd:=hbad'.out (by unfold okP;rw [hrp];dsimp only;rw [if_neg hww])
                 have hR:=Lib.hid (show rdLine s.data.toList= .bad key' by rw [hw2k,hrd])
                 clear hrd hww hc15 hb6 hz5
                 go_wp2_with (first
                  | (refine wpList_build_as 44 _ rfl rfl (stZ 0).toArray st_built0 ?_)
                  | (go_at_call 40;(with_reducible refine (cO2.out _).mono ?_);rintro r wc ⟨e,rfl,hv,hb5,hnew⟩;have hK5:=(hb5.block W.heap.size hl6).trans hz6;replace hv:=Lib.hid hv;replace hb5:=Lib.hid hb5;replace hnew:=Lib.hid hnew)
                  | (refine wpList_store_at 44 _ _ rfl rfl W.heap.size (stZ 0).toArray rfl rfl 44 (stZ 0).toArray hK5 (by kernel_rfl) rfl stZ_one ?_))
                 refine bodyPost_ret (resV2 rfl _ _ W.heap.size 44 (stZ 0).toArray (0,0) _ e rfl (hsetRow _ _ _ _ _ _ hK5) Tryz.underlying44 rfl (by kernel_rfl) rfl) rfl (err_end (e:=e) hR.out hW6.out hl6 (by rw [hky];exact hv.out) hb5.out hnew.out)
         · have hq2 : ((bs kg.1).toList == (bs key).toList)=false:=by rw [bsq_eq,bs_list,decide_eq_false he]
           have hne2 : ((bs kg.1).toList != (bs key).toList)=true:=by unfold bne;rw [hq2];rfl
           have hN2:=Lib.hid (show ∀(j : Nat) (kg' : List UInt8 × Tag),j < q + 1→(keyT.drop d)[j]? =some kg'→kg'.1≠key from fun j kg' hj hy=>by
            by_cases e : j=q
            · rw [e,List.getElem?_drop,hkg] at hy;injection hy with hy;rw [← hy];exact he
            · exact hN.out j kg' (by omega) hy)
           clear he hN hkg hq0 hrw hr2 hz2'
           go_wp2_with fail
           go_roundw
           case rel=>exact ⟨q + 1,by omega,by go_num,hwq,hN2⟩
           case measure=>simp [intOf];omega
       · obtain rfl : q=n':=by omega
         have hpl : placeL ((keyT.drop d).map (·.1)) key=none:=placeL_not (fun j x hj hx=>by
          obtain ⟨kg',h1,rfl⟩:=map_at hx
          exact hN.out j kg' (by rw [List.length_map] at hj;omega) h1)
         have hnq : ((q : Int) == (q : Int))=true:=by simp
         have hrd:=hnone.out (.inl hpl)
         have hR:=Lib.hid (show rdLine s.data.toList= .bad keyB by rw [hw2k,hrd])
         have hz5:=hz3.out
         clear hN hpl hrd
         cases is
         all_goals
          go_wp2_with (first
           | (refine wpList_build_as 44 _ rfl rfl (stZ 0).toArray st_built0 ?_)
           | (go_at_call 40;(with_reducible refine (cO.out _).mono ?_);rintro r wc ⟨e,rfl,hv,hb5,hnew⟩;have hK5:=(hb5.block W.heap.size hl3).trans hz5;replace hv:=Lib.hid hv;replace hb5:=Lib.hid hb5;replace hnew:=Lib.hid hnew)
           | (refine wpList_store_at 44 _ _ rfl rfl W.heap.size (stZ 0).toArray rfl rfl 44 (stZ 0).toArray hK5 (by kernel_rfl) rfl stZ_one ?_))
          refine bodyPost_ret (resV2 rfl _ _ W.heap.size 44 (stZ 0).toArray (0,0) _ e rfl (hsetRow _ _ _ _ _ _ hK5) Tryz.underlying44 rfl (by kernel_rfl) rfl) rfl (err_end (e:=e) hR.out hW3.out hl3 hv.out hb5.out hnew.out)
    · obtain rfl : i=m:=by omega
      have hend:=tok_end hP.out (by rw [hmh.out];exact Nat.le_refl _)
      have hrl : rdLine s.data.toList= .ok k (pre ++ zeros (keyT.drop d)):=by rw [hw2k,hend]
      have hsc:=Lib.hid (hsn.out.rowN hbW cs.toArray)
      have hlen : cs.length=29:=hsn.out.len
      have h1 : cs.toArray.all (·.oneCell')=true:=by rw [List.all_toArray];exact List.all_eq_true.2 hsn.out.one
      have hrg:=Lib.hid (rangeAt_list hbk.out)
      replace hrl:=Lib.hid hrl
      have hi29 : (Tryz.prog.info? 44).map (·.size)=some cs.length:=by rw [hlen];kernel_rfl
      have hi29' : (Tryz.prog.info? 44).map (·.size)=some cs.toArray.size:=by rw [List.size_toArray];exact hi29
      have hold : (stZ 0).toArray.size=cs.toArray.size:=by rw [List.size_toArray,List.size_toArray,hlen];rfl
      clear hend hP hsn hlen
      go_wp2_with (first
       | (refine wpList_load_at 44 _ rfl rfl b 0 rfl cs _ hrg.out Tryz.underlying44 rfl hi29 ?_)
       | (refine wpList_store_at 44 _ _ rfl rfl W.heap.size cs.toArray rfl rfl 44 (stZ 0).toArray hzr hi29' hold h1 ?_))
      refine bodyPost_ret (resV2 rfl _ _ W.heap.size 44 cs.toArray (0,0) _ .nilIface rfl (hsetRow _ _ _ _ _ _ hzr) Tryz.underlying44 rfl hi29' rfl) rfl (.inl ⟨k,_,cs,hrl.out,rfl,hsc.out,below_setRow hWr.out (Nat.le_refl _) _⟩)
theorem read_line (s : ByteArray) (W : World) (E : EnvS W) (hs : s.size < 4294967281) :
 Calls Tryz.prog 22 #[.string s] W (ReadR s.data.toList W):=(read_lineN s W E hs).mono fun _ _ h=>h.r
end Go.Proofs.YtmicohmbmgbnkaaGreatDoor
