/- The reference's Read. (printed by wip/gen_slz.py) -/
import Derived.Test.YtmicohmbmgbnkaaGreatDoorVb36
namespace Go.Proofs.YtmicohmbmgbnkaaGreatDoor
open Go Go.RowKit Go.Shelf
theorem results_cells2 {P : Program} {fn : Func} {p q : Tmp} {t1 t2 : TypeId} (h : fn.results=#[.cell p t1,.cell q t2]) (tmps : Array Value) (w : World) (g1 g2 : Nat) (k1 k2 : TypeId) (cs ds : Array Value) (fr1 fr2 : Nat × Nat) (d1 d2 : TypeDesc)
 (hp : tmps.getD p undef= .pointer (some ⟨g1,0,none⟩)) (hq : tmps.getD q undef= .pointer (some ⟨g2,0,none⟩)) (hg1 : w.heap[g1]? =some (.cells cs k1 fr1)) (hg2 : w.heap[g2]? =some (.cells ds k2 fr2))
 (hu1 : P.underlying t1=some d1) (hd1 : (match d1 with | .struct _ | .array _ _=>true | _=>false)=true) (hi1 : (P.info? t1).map (·.size)=some cs.size)
 (hu2 : P.underlying t2=some d2) (hd2 : (match d2 with | .struct _ | .array _ _=>true | _=>false)=true) (hi2 : (P.info? t2).map (·.size)=some ds.size) :
 (results fn tmps).run P w= .ok (.tuple #[.agg cs,.agg ds]) w:=by
 have hp' : tmps[p]?.getD undef= .pointer (some ⟨g1,0,none⟩):=by simpa using hp
 have hq' : tmps[q]?.getD undef= .pointer (some ⟨g2,0,none⟩):=by simpa using hq
 simp [results,h,hp',hq',asAddr,run_loadVar_row w g1 k1 t1 cs fr1 d1 hg1 hu1 hd1 hi1,run_loadVar_row w g2 k2 t2 ds fr2 d2 hg2 hu2 hd2 hi2]
def erB (a : List UInt8) : List Value:=[.int .i64 3,.string (bs a ++ ⟨#[32]⟩)]
def erL : List Value:=[.int .i64 0,.string ByteArray.empty]
def RReadR (L : List UInt8) (w : World) (r : Ending) (w' : World) : Prop:=
 (∃(k : Nat) (vs : List PV) (cs : List Value),rdLine L= .ok k vs∧r= .returned (.tuple #[.agg cs.toArray,.agg erZ])∧StC w' k vs cs∧OkVs keyT vs∧Below w.heap.size w w')∨
 (∃a : List UInt8,rdLine L= .bad a∧r= .returned (.tuple #[.agg (stZ 0).toArray,.agg (erB a).toArray])∧Below w.heap.size w w')
def RReadRN (L : List UInt8) (w : World) (r : Ending) (w' : World) : Prop:=
 (∃(k : Nat) (vs : List PV) (cs : List Value),rdLine L= .ok k vs∧r= .returned (.tuple #[.agg cs.toArray,.agg erZ])∧StN w.heap.size w' k vs cs∧Below w.heap.size w w')∨
 (∃a : List UInt8,rdLine L= .bad a∧r= .returned (.tuple #[.agg (stZ 0).toArray,.agg (erB a).toArray])∧Below w.heap.size w w')
theorem RReadRN.r {L : List UInt8} {w : World} {r : Ending} {w' : World} (h : RReadRN L w r w') : RReadR L w r w':=by
 rcases h with ⟨k,vs,cs,h1,h2,h3,h4⟩ | h
 · exact .inl ⟨k,vs,cs,h1,h2,h3.c,h3.ok,h4⟩
 · exact .inr h
theorem StN.low {b b' : Nat} {W : World} {k : Int} {vs : List PV} {cs : List Value} (h : StN b W k vs cs) (hb : b'≤b) : StN b' W k vs cs:=
 ⟨h.len,h.kind,h.ok,fun i off v h1 h2=>by obtain ⟨z,hz,hc⟩:=h.val i off v h1 h2;exact ⟨z,PValG.mono (fun _ _ _ ⟨A,c,h1,h2,h3,h4,h5⟩=>⟨A,c,h1,h2,h3,h4,fun hp a ha=>Nat.lt_of_le_of_lt hb (h5 hp a ha)⟩) hz,hc⟩,h.one⟩
theorem erB_one (a : List UInt8) : (erB a).toArray.all (·.oneCell')=true:=by simp [erB,Value.oneCell']
theorem rbad {L a : List UInt8} {w w' : World} (h : rdLine L= .bad a) (hb : Below w.heap.size w w') : RReadRN L w (.returned (.tuple #[.agg (stZ 0).toArray,.agg (erB a).toArray])) w':= .inr ⟨a,h,rfl,hb⟩
theorem er_info2 (a : List UInt8) : (Tryz.prog.info? 53).map (·.size)=some (erB a).toArray.size:=by kernel_rfl
theorem wrap_one {n : Nat} (h : n≤1000000) : (RowKit.wrap64 ((n : Int) + 1)).toNat=n + 1:=by unfold RowKit.wrap64;omega
theorem ext_key {t key val : List UInt8} (h : cutL 61 t=(key,val,true)) : t=key ++ 61 :: val∧(bs t).extract 0 key.length=bs key∧(bs t).extract (key.length + 1) (bs t).size=bs val:=by
 have ht : t=key ++ 61 :: val:=by
  rcases cutL_cases 61 t with ⟨_,e⟩ | ⟨a,b,_,e,e2⟩
  · rw [e] at h;cases h
  · rw [e2] at h;injection h with h1 h2;injection h2 with h2 _;rw [← h1,← h2];exact e
 refine ⟨ht,?_,?_⟩
 · have:=Lib.extract_data (bs t) 0 key.length
   rw [← bs_back ((bs t).extract 0 key.length),this,bs_list,ht]
   simp
 · have:=Lib.extract_data (bs t) (key.length + 1) (bs t).size
   rw [← bs_back ((bs t).extract (key.length + 1) (bs t).size),this,bs_list,bs_size,ht]
   simp only [List.length_append,List.length_cons]
   rw [show key.length + (val.length + 1) - (key.length + 1)=val.length by omega]
   congr 1
   rw [show key.length + 1=(key ++ [61]).length by simp,show key ++ 61 :: val=(key ++ [61]) ++ val by simp,List.drop_left,List.take_length]
structure RdI3 (V : World) (j : Nat) (ky : ByteArray) (l1 l3 l4 l8 : Bool) (t81 t83 : Value) (W : World) : Prop where
 bl : Below V.heap.size V W
 rs : Row W V.heap.size 44 (stZ 0)
 re : Row W (V.heap.size + 1) 53 (if l8=true then [.int .i64 3,.string (ky ++ (⟨#[32]⟩ : ByteArray))] else erL)
 s81 : l1=true→l3=false→∃b,t81= .slice (some ⟨b,0,none⟩) 26 26∧Strs W (some ⟨b,0,none⟩) 26 ((keyT.map (fun x : List UInt8 × Tag=>x.1)).map bs)∧V.heap.size + 1 < b
 s83 : l3=true→l4=false→∃b,t83= .pointer (some ⟨b,j,none⟩)∧V.heap.size + 1 < b∧W.cell? ⟨b,j,none⟩=some (.string ky)
theorem RdI3.grow {V : World} {j : Nat} {ky : ByteArray} {l1 l3 l4 l8 : Bool} {t81 t83 : Value} {W W' : World} (h : RdI3 V j ky l1 l3 l4 l8 t81 t83 W) (hb : Below W.heap.size W W') : RdI3 V j ky l1 l3 l4 l8 t81 t83 W':=
 ⟨h.bl.trans (hb.mono h.bl.size),h.rs.keep hb,h.re.keep hb,fun a b=>by obtain ⟨A,e,hS,h3⟩:=h.s81 a b;exact ⟨A,e,hS.keep hb,h3⟩,fun a b=>by obtain ⟨A,e,h1,h2⟩:=h.s83 a b;exact ⟨A,e,h1,(hb.cell (p:=⟨A,j,none⟩) (block_lt_of_cell h2)).trans h2⟩⟩
theorem cell_row {W : World} {b g j : Nat} (cs : Array Value) (h : b≠g) : (W.setRow g cs).cell? ⟨b,j,none⟩=W.cell? ⟨b,j,none⟩:=by
 unfold World.cell?
 dsimp only
 rw [hsetRow_off h]
theorem RdI3.stz {V : World} {j : Nat} {ky : ByteArray} {l1 l3 l4 l8 : Bool} {t81 t83 : Value} {W : World} (h : RdI3 V j ky l1 l3 l4 l8 t81 t83 W) : RdI3 V j ky l1 l3 l4 l8 t81 t83 (W.setRow V.heap.size (stZ 0).toArray):=
 ⟨below_setRow h.bl (Nat.le_refl _) _,h.rs.setRow _,h.re.setRow_other (by omega) _,fun a b=>by obtain ⟨A,e,hS,h3⟩:=h.s81 a b;exact ⟨A,e,Rws.but hS (But.row _) (fun _ a ha e=>by injection ha with ha;rw [← ha] at e;dsimp only at e;omega),h3⟩,fun a b=>by obtain ⟨A,e,h1,h2⟩:=h.s83 a b;exact ⟨A,e,h1,(cell_row _ (by omega)).trans h2⟩⟩
theorem RdI3.ste {V : World} {j : Nat} {ky : ByteArray} {l1 l3 l4 l8 : Bool} {t81 t83 : Value} {W : World} (h : RdI3 V j ky l1 l3 l4 l8 t81 t83 W) (h3 : l3=true) (h4 : l4=true) : RdI3 V j ky l1 l3 l4 true t81 t83 (W.setRow (V.heap.size + 1) #[.int .i64 3,.string (ky ++ (⟨#[32]⟩ : ByteArray))]):=
 ⟨below_setRow h.bl (Nat.le_succ _) _,h.rs.setRow_other (by omega) _,by rw [if_pos rfl];exact h.re.setRow [.int .i64 3,.string (ky ++ (⟨#[32]⟩ : ByteArray))],fun _ b=>(by rw [h3] at b;cases b),fun _ b=>(by rw [h4] at b;cases b)⟩
theorem er_built (y : ByteArray) : Tryz.prog.built 53 [(0,.int .i64 3),(1,.string (y ++ (⟨#[32]⟩ : ByteArray)))]=some #[.int .i64 3,.string (y ++ (⟨#[32]⟩ : ByteArray))]:=by kernel_rfl
theorem er_one9 (y : ByteArray) : (#[.int .i64 3,.string (y ++ (⟨#[32]⟩ : ByteArray))] : Array Value).all (·.oneCell')=true:=by simp [Value.oneCell']
set_option maxRecDepth 100000 in
set_option maxHeartbeats 2000000 in
theorem rkeys_new (w : World) : Calls Tryz.prog 42 #[] w fun r w'=> ∃b,r= .returned (.slice (some ⟨b,0,none⟩) 26 26)∧Strs w' (some ⟨b,0,none⟩) 26 ((keyT.map (fun x : List UInt8 × Tag=>x.1)).map bs)∧Below w.heap.size w w'∧w.heap.size≤b:=by
 go_enter Tryz.func42,Tryz.ntmps42
 go_wp2_with fail
 go_ret
 have hg:=heap_new w (.cells (((keyT.map (fun x : List UInt8 × Tag=>x.1)).map bs).flatMap sv).toArray 9)
 have hs:=Strs.block (ss:=(keyT.map (fun x : List UInt8 × Tag=>x.1)).map bs) hg (Array.getElem?_eq_some_iff.1 hg).1
 have hb:=below_new w (.cells (((keyT.map (fun x : List UInt8 × Tag=>x.1)).map bs).flatMap sv).toArray 9)
 exact ⟨_,rfl,hs,hb,Nat.le_refl _⟩
theorem StN.but' {b b' : Nat} {W W' : World} {k : Int} {vs : List PV} {cs : List Value} (h : StN b W k vs cs) (hb : But b' W W') (hbb : b'≤b) : StN b W' k vs cs:=
 ⟨h.len,h.kind,h.ok,fun i off v h1 h2=>by obtain ⟨z,hz,hc⟩:=h.val i off v h1 h2;exact ⟨z,hz.but' hb hbb,hc⟩,h.one⟩
structure RdI2 (w3 : World) (z : Int) (l0 l4 l6 l7 : Bool) (t15 t5 : Value) (W : World) : Prop where
 bl : Below w3.heap.size w3 W
 s15 : l0=true→l4=false→∃A,t15= .slice A 9 9∧Strs W A 9 (kindW.map bs)
 s5 : l6=true→∃p,t5= .pointer (some ⟨p,0,none⟩)∧w3.heap.size≤p∧Row W p 44 (if l7=true then stZ z else stZ 0)
theorem RdI2.grow {w3 : World} {z : Int} {l0 l4 l6 l7 : Bool} {t15 t5 : Value} {W W' : World} (h : RdI2 w3 z l0 l4 l6 l7 t15 t5 W) (hb : Below W.heap.size W W') : RdI2 w3 z l0 l4 l6 l7 t15 t5 W':=
 ⟨h.bl.trans (hb.mono h.bl.size),fun a b=>by obtain ⟨A,e,hS⟩:=h.s15 a b;exact ⟨A,e,hS.keep hb⟩,fun a=>by obtain ⟨p,e,h1,h2⟩:=h.s5 a;exact ⟨p,e,h1,h2.keep hb⟩⟩
def dsRd : List (Option Nat):=[some 15,some 16,some 17,some 18,some 19,some 20,some 5,none]
def tbRd : List (List Nat):=[[],[],[1],[2],[0,3],[4],[],[5,6]]
def vsRd (bl : Nat) (ol : Nat) (m : Nat) (cl : Nat) (y0 : ByteArray) (z : Int) : List (Option Value):=[none,some (.slice (some ⟨bl,ol,none⟩) m cl),some (.pointer (some ⟨bl,ol,none⟩)),some (.string y0),some (.int .i64 z),some (.agg (stZ z).toArray),none,none]
def dsRe : List (Option Nat):=[some 80,some 81,some 82,some 83,some 84,some 85,some 86,none,none]
def tbRe : List (List Nat):=[[],[],[],[1,2],[3],[4],[5],[0],[0,1,2,3,4,5,6,7]]
def vsRe (j : Nat) (ky : ByteArray) : List (Option Value):=[some (.agg (stZ 0).toArray),none,some (.int .i64 ↑j),none,some (.string ky),some (.string (ky ++ (⟨#[32]⟩ : ByteArray))),some (.agg #[.int .i64 3,.string (ky ++ (⟨#[32]⟩ : ByteArray))]),none,none]
set_option maxRecDepth 100000 in
set_option maxHeartbeats 16000000 in
theorem rread_anyN (s : ByteArray) (V : World) (hs : s.size≤1000000) :
 Calls Tryz.prog 24 #[.string s] V (RReadRN s.data.toList V):=by
 obtain ⟨U2,hU2⟩ : ∃x,(V.alloc (.cells (stZ 0).toArray 44)).alloc (.cells erZ 53)=x:=⟨_,rfl⟩
 have hB1:=below_new V (.cells (stZ 0).toArray 44)
 have hB2:=hB1.trans ((below_new (V.alloc (.cells (stZ 0).toArray 44)) (.cells erZ 53)).mono hB1.size)
 have hx2 : Row ((V.alloc (.cells (stZ 0).toArray 44)).alloc (.cells erZ 53)) V.heap.size 44 (stZ 0):=Row.keep (heap_new V _) (below_new _ _)
 have hr2 : Row ((V.alloc (.cells (stZ 0).toArray 44)).alloc (.cells erZ 53)) (V.heap.size + 1) 53 erL:=by have:=heap_new (V.alloc (.cells (stZ 0).toArray 44)) (.cells erZ 53);rwa [World.size_alloc] at this
 rw [hU2] at hB2 hx2 hr2
 have hsl : s.data.toList.length=s.size:=by rw [Array.length_toList];rfl
 have cS:=rsplit_any 32 s U2 (by omega)
 rw [c32] at cS
 have hsub:=fun p (hp : p∈splitL 32 s.data.toList)=>split_size p hp
 have hpl:=splitL_len 32 s.data.toList
 rw [hsl] at hsub hpl
 obtain ⟨p0,toks,hps⟩:=splitL_cons 32 s.data.toList
 have hw1:=rdLine_word hps
 have hw2:=fun k=>rdLine_toks (k:=k) hps
 rw [hps] at cS hsub hpl
 obtain ⟨m,hm⟩ : ∃m,(p0 :: toks).length=m:=⟨_,rfl⟩
 have hl1 : ((p0 :: toks).map bs).length=m:=by rw [List.length_map,hm]
 rw [hm] at hpl
 have hm1 : 1≤m:=by rw [← hm,List.length_cons];omega
 have hlt9 : toks.length + 1=m:=by rw [← hm,List.length_cons]
 have cK:=Lib.hid (fun W'=>rkinds_any W')
 have cP0:=Lib.hid (fun W' A (h : Strs W' A 9 (kindW.map bs))=>rplace_any kindW A 9 9 (bs p0) W' (by decide) h)
 rw [bs_list] at cP0
 have hzr:=placeZ_rng kindW p0
 generalize hz : placeZ kindW p0=z at *
 obtain ⟨y0,hy0⟩ : ∃y0,bs p0=y0:=⟨_,rfl⟩
 rw [hy0] at cP0
 clear hB1 hz hps hsl
 replace hB2:=Lib.hid hB2
 replace hx2:=Lib.hid hx2
 replace hr2:=Lib.hid hr2
 replace cS:=Lib.hid cS
 replace hsub:=Lib.hid hsub
 replace hw1:=Lib.hid hw1
 replace hw2:=Lib.hid hw2
 replace hm:=Lib.hid hm
 replace hlt9:=Lib.hid hlt9
 replace hzr:=Lib.hid hzr
 go_enter Tryz.func24,Tryz.ntmps24
 go_upto_region 2 with (first
  | (refine wpList_alloc_row 44 rfl rfl (stZ 0).toArray st_zero ?_;try simp only [World.size_alloc])
  | (refine wpList_alloc_row 53 rfl rfl erZ er_zero ?_;try simp only [World.size_alloc];try rw [hU2])
  | (go_at_call 48;(with_reducible refine cS.out.mono ?_);rintro r w3 ⟨v0,rfl,hOv,hb⟩
     obtain ⟨Al,cl,rfl,hS⟩:=hOv.strs
     rw [hl1] at hS ⊢
     obtain ⟨bl,ol,x0,rfl,hbl,hx0,hcl⟩:=hS.at_ (j:=0) (by omega)
     obtain rfl : bs p0=x0:=Option.some.inj hx0
     rw [hy0,Nat.add_zero] at hcl
     have hB3:=Lib.hid (hB2.out.trans (hb.mono hB2.out.size))
     have hx3:=Lib.hid (hx2.out.keep hb)
     have hr3:=Lib.hid (hr2.out.keep hb)
     have hblV : V.heap.size + 1 < bl:=by
      have h1:=hr2.out.lt
      have h2:=hOv.lt bl rfl
      omega
     replace hS:=Lib.hid hS
     clear hb hOv hx0))
 have hCl:=Lib.hid (fun W' (h : Below w3.heap.size w3 W')=>(h.cell (p:=⟨bl,ol,none⟩) hbl).trans hcl)
 refine region_iw tbRd dsRd (vsRd bl ol m cl y0 z) (fun L T W=>RdI2 w3 z (L 0) (L 4) (L 6) (L 7) (T.getD 15 undef) (T.getD 5 undef) W) rfl (by decide) (by kernel_rfl) ?hlt ?hstep ?hdone ?hstart
 case hstart=>exact ⟨drewN_below 1,fun h=>absurd h (inv_not (n:=8) (i:=0) (by decide)),fun h=>absurd h (inv_not (n:=8) (i:=6) (by decide))⟩
 case hlt=>
  intro ix o ho
  have hi:=(Array.getElem?_eq_some_iff.1 ho).1
  match ix,hi with
  | 0,_=>obtain rfl:=Option.some.inj ho;decide
  | 1,_=>obtain rfl:=Option.some.inj ho;decide
  | 2,_=>obtain rfl:=Option.some.inj ho;decide
  | 3,_=>obtain rfl:=Option.some.inj ho;decide
  | 4,_=>obtain rfl:=Option.some.inj ho;decide
  | 5,_=>obtain rfl:=Option.some.inj ho;decide
  | 6,_=>obtain rfl:=Option.some.inj ho;decide
  | 7,_=>obtain rfl:=Option.some.inj ho;decide
 case hstep=>
  intro T1 hE L T W ix o hF hW hc ho hLi hd K hK
  have hN : T1.size=90:=by rw [hE];rfl
  have f4 : T.getD 4 undef= .slice (some ⟨bl,ol,none⟩) m cl:=(hF.old 4 (by decide)).trans (by rw [hE];rfl)
  clear hE
  replace hF:=Lib.hid hF
  replace hW:=Lib.hid hW
  replace hK:=Lib.hid hK
  have hi:=(List.getElem?_eq_some_iff.1 ho).1
  match ix,hi with
  | 0,_=>
    obtain rfl:=Option.some.inj ho
    have n4 : ¬L 4=true:=fun h=>by have:=hc 4 0 h (by decide);rw [hLi] at this;cases this
    have cc:=Lib.hid (cK.out W)
    clear hd ho hi hc
    refine st_call (want_none rfl) (by unfold execOp;go_simp) cc.out ?_
    rintro r w9 ⟨A',rfl,hS3,hb⟩
    exact ⟨_,rfl,hK.out _ _ (hF.out.put (k:=0) (s:=15) rfl (by decide) hN (by decide) (fun u hu=>by cases hu) (by dsimp only;rw [gd_ne (show 15≠5 by decide)];exact (by rw [gd_eq (by rw [hF.out.size,hN];decide)];exact { hW.out.grow hb with s15:=fun _ _=>⟨A',rfl,hS3⟩ })))⟩
  | 1,_=>
    obtain rfl:=Option.some.inj ho
    clear hd ho hi hc hLi
    exact st_val (v:= .slice (some ⟨bl,ol,none⟩) m cl) (w':=W) (want_none rfl) (by unfold execOp;dsimp only [Act.eval];simp only [f4];go_simp) (hK.out _ _ (hF.out.putv (k:=1) (s:=16) rfl (by decide) hN (by decide) rfl (by dsimp only;rw [gd_ne (show 16≠5 by decide),gd_ne (show 16≠15 by decide)];exact hW.out)))
  | 2,_=>
    obtain rfl:=Option.some.inj ho
    have l1 : L 1=true:=dep_of hd (n:=1) (by decide)
    have e16 : T.getD 16 undef= .slice (some ⟨bl,ol,none⟩) m cl:=hF.out.val 1 16 _ l1 rfl rfl
    have hm0 : (0 : Int) < (m : Int):=by omega
    have hm00 : 0 < m:=by omega
    clear hd ho hi hc hLi
    exact st_val (v:= .pointer (some ⟨bl,ol,none⟩)) (w':=W) (want_none rfl) (by unfold execOp;dsimp only [Act.eval];simp only [e16];go_simp) (hK.out _ _ (hF.out.putv (k:=2) (s:=17) rfl (by decide) hN (by decide) rfl (by dsimp only;rw [gd_ne (show 17≠5 by decide),gd_ne (show 17≠15 by decide)];exact hW.out)))
  | 3,_=>
    obtain rfl:=Option.some.inj ho
    have l2 : L 2=true:=dep_of hd (n:=2) (by decide)
    have e17 : T.getD 17 undef= .pointer (some ⟨bl,ol,none⟩):=hF.out.val 2 17 _ l2 rfl rfl
    have hcc:=hCl.out W hW.out.bl
    clear hd ho hi hc hLi
    exact st_val (v:= .string y0) (w':=W) (want_none rfl) (by unfold execOp;dsimp only [Act.eval];simp only [e17];go_simp) (hK.out _ _ (hF.out.putv (k:=3) (s:=18) rfl (by decide) hN (by decide) rfl (by dsimp only;rw [gd_ne (show 18≠5 by decide),gd_ne (show 18≠15 by decide)];exact hW.out)))
  | 4,_=>
    obtain rfl:=Option.some.inj ho
    have l0 : L 0=true:=dep_of hd (n:=0) (by decide)
    have l3 : L 3=true:=dep_of hd (n:=3) (by decide)
    have e18 : T.getD 18 undef= .string y0:=hF.out.val 3 18 _ l3 rfl rfl
    obtain ⟨A',e15,hS3⟩:=hW.out.s15 l0 hLi
    have cc:=Lib.hid (cP0.out W A' hS3)
    clear hd ho hi hc
    refine st_call (want_none rfl) (by unfold execOp;simp only [Act.eval,e15,e18];go_simp) cc.out ?_
    rintro r w9 ⟨rfl,rfl⟩
    exact ⟨_,rfl,hK.out _ _ (hF.out.putv (k:=4) (s:=19) rfl (by decide) hN (by decide) rfl (by dsimp only;rw [gd_ne (show 19≠5 by decide),gd_ne (show 19≠15 by decide)];exact { hW.out with s15:=fun _ h=>absurd h (by simp) }))⟩
  | 5,_=>
    obtain rfl:=Option.some.inj ho
    have l4 : L 4=true:=dep_of hd (n:=4) (by decide)
    have e19 : T.getD 19 undef= .int .i64 z:=hF.out.val 4 19 _ l4 rfl rfl
    clear hd ho hi hc hLi
    exact st_val (v:= .agg (stZ z).toArray) (w':=W) (want_none rfl) (by unfold execOp;simp only [List.map_toArray,List.map_cons,List.map_nil,Act.eval,e19,Sem.run_bind,run_build (P:=Tryz.prog) W _ _ _ (st_built1 z),Result.andThen_ok,Sem.run_pure]) (hK.out _ _ (hF.out.putv (k:=5) (s:=20) rfl (by decide) hN (by decide) rfl (by dsimp only;rw [gd_ne (show 20≠5 by decide),gd_ne (show 20≠15 by decide)];exact hW.out)))
  | 6,_=>
    obtain rfl:=Option.some.inj ho
    have n7 : ¬L 7=true:=fun h=>by have:=hc 7 6 h (by decide);rw [hLi] at this;cases this
    have hbn:=below_new W (.cells (stZ 0).toArray 44)
    have hgn:=heap_new W (.cells (stZ 0).toArray 44)
    have hbs:=hW.out.bl.size
    clear hd ho hi hc
    exact st_val (v:= .pointer (some ⟨W.heap.size,0,none⟩)) (w':=W.alloc (.cells (stZ 0).toArray 44)) (want_none rfl) (run_alloc_ 44 rfl _ st_zero) (hK.out _ _ (hF.out.put (k:=6) (s:=5) rfl (by decide) hN (by decide) (fun u hu=>by cases hu) (by dsimp only;rw [gd_ne (show 5≠15 by decide)];exact (by rw [gd_eq (by rw [hF.out.size,hN];decide)];exact { hW.out.grow hbn with s5:=fun _=>⟨W.heap.size,rfl,hbs,by rw [if_neg (by simpa using n7)];exact hgn⟩ }))))
  | 7,_=>
    obtain rfl:=Option.some.inj ho
    have l6 : L 6=true:=dep_of hd (n:=6) (by decide)
    have l5 : L 5=true:=dep_of hd (n:=5) (by decide)
    have e20 : T.getD 20 undef= .agg (stZ z).toArray:=hF.out.val 5 20 _ l5 rfl rfl
    have l4 : L 4=true:=hc 5 4 l5 (by decide)
    obtain ⟨pp,e5,hpw,hpr⟩:=hW.out.s5 l6
    rw [hLi] at hpr
    have hl4:=Lib.hid l4
    clear hd ho hi hc
    exact st_do (w':=W.setRow pp (stZ z).toArray) (want_none rfl) (run_store_ 44 (.tmp 5) (.tmp 20) rfl pp _ (show T.getD 5 undef=_ from e5) (show T.getD 20 undef=_ from e20) _ _ hpr (by kernel_rfl) rfl (stZ_onek z)) (hK.out _ _ (hF.out.pass (k:=7) rfl { bl:=below_setRow hW.out.bl hpw _,s15:=fun _ h=>absurd (h.symm.trans hl4.out) (by decide),s5:=fun _=>⟨pp,e5,hpw,by simp only [BEq.rfl,Bool.true_or,if_true];exact hpr.setRow (stZ z)⟩ }))
 case hdone=>
  intro L T W2 hF hW hall
  obtain ⟨z15,e15⟩ : ∃z,T.getD 15 undef=z:=⟨_,rfl⟩
  obtain ⟨pp,e5,hpw,hpr⟩:=hW.s5 (hall 6 (by decide))
  rw [hall 7 (by decide),if_pos rfl] at hpr
  have hB4:=Lib.hid (hB3.out.trans (hW.bl.mono hB3.out.size))
  have hb34:=Lib.hid hW.bl
  clear hW
  have hT : T=#[.string s,undef,.pointer (some ⟨V.heap.size,0,none⟩),.pointer (some ⟨V.heap.size + 1,0,none⟩),.slice (some ⟨bl,ol,none⟩) m cl,.pointer (some ⟨pp,0,none⟩),undef,undef,undef,undef,undef,undef,undef,.string s,.slice (some ⟨bl,ol,none⟩) m cl,z15,.slice (some ⟨bl,ol,none⟩) m cl,.pointer (some ⟨bl,ol,none⟩),.string y0,.int .i64 z,.agg (stZ z).toArray,undef,undef,undef,undef,undef,undef,undef,undef,undef,undef,undef,undef,undef,undef,undef,undef,undef,undef,undef,undef,undef,undef,undef,undef,undef,undef,undef,undef,undef,undef,undef,undef,undef,undef,undef,undef,undef,undef,undef,undef,undef,undef,undef,undef,undef,undef,undef,undef,undef,undef,undef,undef,undef,undef,undef,undef,undef,undef,undef,undef,undef,undef,undef,undef,undef,undef,undef,undef,undef]:=(hF.fin [(15,z15),(16,.slice (some ⟨bl,ol,none⟩) m cl),(17,.pointer (some ⟨bl,ol,none⟩)),(18,.string y0),(19,.int .i64 z),(20,.agg (stZ z).toArray),(5,.pointer (some ⟨pp,0,none⟩))] [15,16,17,18,19,20,5] rfl (List.forall_mem_cons.2 ⟨e15,(List.forall_mem_cons.2 ⟨hF.val 1 _ _ (hall 1 (show 1 < 8 by decide)) rfl rfl,(List.forall_mem_cons.2 ⟨hF.val 2 _ _ (hall 2 (show 2 < 8 by decide)) rfl rfl,(List.forall_mem_cons.2 ⟨hF.val 3 _ _ (hall 3 (show 3 < 8 by decide)) rfl rfl,(List.forall_mem_cons.2 ⟨hF.val 4 _ _ (hall 4 (show 4 < 8 by decide)) rfl rfl,(List.forall_mem_cons.2 ⟨hF.val 5 _ _ (hall 5 (show 5 < 8 by decide)) rfl rfl,(List.forall_mem_cons.2 ⟨e5,(fun _ h=>absurd h List.not_mem_nil)⟩)⟩)⟩)⟩)⟩)⟩)⟩) (by decide)).trans (by kernel_rfl)
  clear hF hall
  subst hT
  clear e15
  generalize W2=w4 at *
  rcases hzr.out with rfl | ⟨k,rfl,hk⟩
  · have hR:=Lib.hid (hw1.out rfl)
    have hcp : w4.cell? ⟨pp,0,none⟩=some (.int .i64 (-1)):=hpr.cell rfl
    have hx4:=hx3.out.keep hb34.out
    have hr4:=hr3.out.keep hb34.out
    have q1:=hx4
    have q2:=hr4.setRow_other (b2:=V.heap.size) (by omega) (stZ 0).toArray
    have q3:=(hx4.setRow (stZ 0)).setRow_other (b2:=V.heap.size + 1) (by omega) (erB wordB).toArray
    have q4:=q2.setRow (erB wordB)
    unfold Row at q1 q2 q3 q4
    go_wp2_with (first
     | (refine wpList_build_as 44 _ rfl rfl (stZ 0).toArray st_built0 ?_)
     | (refine wpList_build_as 53 _ rfl rfl (erB wordB).toArray (by kernel_rfl) ?_)
     | (refine wpList_store_at 44 _ _ rfl rfl V.heap.size (stZ 0).toArray rfl rfl 44 (stZ 0).toArray q1 (by kernel_rfl) rfl stZ_one ?_)
     | (refine wpList_store_at 53 _ _ rfl rfl (V.heap.size + 1) (erB wordB).toArray rfl rfl 53 erL.toArray q2 (er_info2 _) rfl (erB_one _) ?_))
    refine bodyPost_ret (results_cells2 rfl _ _ V.heap.size (V.heap.size + 1) 44 53 (stZ 0).toArray (erB wordB).toArray (0,0) (0,0) _ _ rfl rfl q3 q4 Tryz.underlying44 rfl (by kernel_rfl) Tryz.underlying53 rfl (er_info2 _)) rfl (rbad hR.out (below_setRow (below_setRow hB4.out (Nat.le_refl _) _) (Nat.le_succ _) _))
  · have hw2k:=Lib.hid (hw2.out k rfl)
    have hk0 : ¬(k : Int) < 0:=by omega
    have hcp : w4.cell? ⟨pp,0,none⟩=some (.int .i64 (k : Int)):=hpr.cell rfl
    have hx4:=hx3.out.keep hb34.out
    have hr4:=hr3.out.keep hb34.out
    have hS4:=hS.out.keep hb34.out
    have hV3 : V.heap.size + 1 < w3.heap.size:=hr3.out.lt
    have hblp : bl < w3.heap.size:=hbl
    have hst0 : Hid (StN pp w4 k ([] ++ zeros (keyT.drop 0)) (stZ k)):=Lib.hid (by rw [List.drop_zero];exact StN.zero_ pp w4 k)
    have hP0 : Hid (rdToks keyT toks=addPre [] (rdToks (keyT.drop 0) (toks.drop (1 - 1)))):=Lib.hid (by rw [addPre_nil,List.drop_zero];rfl)
    have hz0 : Hid (∀v∈([] : List PV) ++ zeros (keyT.drop 0),(wrPV v).length≤1099511627776):=Lib.hid (fun v hv=>by
     rw [List.nil_append,List.drop_zero] at hv
     obtain ⟨kg,_,rfl⟩:=List.mem_map.1 hv
     rw [zero_wr];exact Nat.zero_le _)
    have hp0:=Lib.hid hpr
    have hl0 : Hid ((-1 : Int) + 1=((0 : Nat) : Int)):=Lib.hid (by decide)
    have hp4:=hpr.lt
    replace hx4:=Lib.hid hx4
    replace hr4:=Lib.hid hr4
    replace hS4:=Lib.hid hS4
    clear hw1 hw2 hx3 hr3 hS hCl hB3 hb34 cS cK cP0 hx2 hr2 hB2 hzr hcl hpr
    have cE:=Lib.hid (fun (t : List UInt8) (ht : t.length≤s.size) W'=>(equals_any (bs t) W' (by rw [bs_size];omega)).mono (fun (r : Ending) (w' : World) h=>(⟨by rw [h.1,bs_list],h.2.symm⟩ : r=Ending.returned (.int .i64 (eqZ t))∧W' =w')))
    have cKy:=Lib.hid (fun W'=>rkeys_any W')
    have cPl:=Lib.hid (fun (x : ByteArray) W' A' (h : Strs W' A' 26 ((keyT.map (fun x : List UInt8 × Tag=>x.1)).map bs))=>(rplace_any (keyT.map (fun x : List UInt8 × Tag=>x.1)) A' 26 26 x W' (by decide) h).mono (fun (r : Ending) (w' : World) h=>(⟨h.1,h.2.symm⟩ : r=Ending.returned (.int .i64 (placeZ (keyT.map (fun x : List UInt8 × Tag=>x.1)) x.data.toList))∧W' =w')))
    go_wp2_with fail
    go_loopw [6,7] (fun lv iv wr=> ∃(i d : Nat) (lz : Int) (pre : List PV) (cs : List Value),1≤i∧i≤m∧iv= .int .i64 i∧lv= .int .i64 lz∧Hid (lz + 1=(d : Int))∧d≤26∧Hid (rdToks keyT toks=addPre pre (rdToks (keyT.drop d) (toks.drop (i - 1))))∧Hid (Row wr pp 44 cs)∧Hid (StN pp wr k (pre ++ zeros (keyT.drop d)) cs)∧Hid (pre.length=d)∧Hid (∀v∈pre ++ zeros (keyT.drop d),(wrPV v).length≤1099511627776)∧Hid (But pp w4 wr)) (fun _ iv _=>m - (intOf iv).toNat)
    case atStart=>exact ⟨1,0,-1,[],stZ k,Nat.le_refl _,hm1,rfl,rfl,hl0,by decide,hP0,hp0,hst0,Lib.hid rfl,hz0,Lib.hid (But.of_below (Below.refl _ _))⟩
    case round=>
     clear hst0 hP0 hz0 hp0 hl0 hcp
     obtain ⟨i,d,lz,pre,cs,hi1,him,rfl,rfl,hlz,hd26,hP,hrow,hsn,hpre,hzs,hBt⟩:=hrel
     have hxr:=Lib.hid (show Row wr V.heap.size 44 (stZ 0) from (hBt.out.block V.heap.size hx4.out.lt (by omega)).trans hx4.out)
     have hrr:=Lib.hid (show Row wr (V.heap.size + 1) 53 erL from (hBt.out.block (V.heap.size + 1) hr4.out.lt (by omega)).trans hr4.out)
     have hWr:=Lib.hid (hB4.out.trans (hBt.out.below (n:=V.heap.size) (by have:=hx4.out.lt;omega) (by omega)))
     by_cases hlt : i < m
     · have hlt' : (i : Int) < (m : Int):=by omega
       obtain ⟨t,ht⟩ : ∃t,toks[i - 1]? =some t:=⟨_,List.getElem?_eq_getElem (by have:=hlt9.out;omega)⟩
       have hti : (p0 :: toks)[i]? =some t:=by
        obtain ⟨i',rfl⟩ : ∃i',i=i' + 1:=⟨i - 1,by omega⟩
        rw [List.getElem?_cons_succ];exact ht
       have hci0:=strs_cell hS4.out (j:=i) (s:=bs t) (by rw [List.getElem?_map,hti];rfl)
       have hci:=(hBt.out.cell (p:=⟨bl,ol + i,none⟩) hci0.2 (by show bl≠pp;omega)).trans hci0.1
       have htl:=hsub.out t (List.mem_of_getElem? hti)
       have cEt:=cE.out t htl wr
       have hnone:=fun h=>tok_none hP.out ht h
       have hbad:=fun q kg h1 h2 h3 h4=>tok_bad (q:=q) (kg:=kg) hP.out ht h1 h2 h3 h4
       have hgood:=fun q kg pv h1 h2 h3 h4=>tok_ok (q:=q) (kg:=kg) (pv:=pv) hP.out ht h1 h2 h3 h4
       obtain ⟨key,val,is,hcut⟩ : ∃key val is,cutL 61 t=(key,val,is):=⟨_,_,_,rfl⟩
       have hcl9:=cutL_len 61 t
       rw [hcut] at hnone hbad hgood hcl9
       dsimp only at hnone hbad hgood hcl9
       have hblt:=hci0.2
       clear hci0 hti ht hP
       replace hnone:=Lib.hid hnone
       replace hbad:=Lib.hid hbad
       replace hgood:=Lib.hid hgood
       cases is with
       | false=>
         have hez : eqZ t= -1:=by unfold eqZ;rw [hcut];rfl
         rw [hez] at cEt
         have hle : (-1 : Int)≤lz:=by have:=hlz.out;omega
         have hR:=Lib.hid (show rdLine s.data.toList= .bad keyB by rw [hw2k.out,hnone.out (.inr rfl)])
         replace cEt:=Lib.hid cEt
         go_upto_region 14 with (go_at_call 49;(with_reducible refine cEt.out.mono ?_);rintro r w5 ⟨rfl,rfl⟩)
         have q1:=hxr.out
         have q2:=hrr.out.setRow_other (b2:=V.heap.size) (by omega) (stZ 0).toArray
         have q3:=(hxr.out.setRow (stZ 0)).setRow_other (b2:=V.heap.size + 1) (by omega) (erB keyB).toArray
         have q4:=q2.setRow (erB keyB)
         unfold Row at q1 q2 q3 q4
         go_wp2_with (first
          | (refine wpList_build_as 44 _ rfl rfl (stZ 0).toArray st_built0 ?_)
          | (refine wpList_build_as 53 _ rfl rfl (erB keyB).toArray (by kernel_rfl) ?_)
          | (refine wpList_store_at 44 _ _ rfl rfl V.heap.size (stZ 0).toArray rfl rfl 44 (stZ 0).toArray q1 (by kernel_rfl) rfl stZ_one ?_)
          | (refine wpList_store_at 53 _ _ rfl rfl (V.heap.size + 1) (erB keyB).toArray rfl rfl 53 erL.toArray q2 (er_info2 _) rfl (erB_one _) ?_))
         refine bodyPost_ret (results_cells2 rfl _ _ V.heap.size (V.heap.size + 1) 44 53 (stZ 0).toArray (erB keyB).toArray (0,0) (0,0) _ _ rfl rfl q3 q4 Tryz.underlying44 rfl (by kernel_rfl) Tryz.underlying53 rfl (er_info2 _)) rfl (rbad hR.out (below_setRow (below_setRow hWr.out (Nat.le_refl _) _) (Nat.le_succ _) _))
       | true=>
         obtain ⟨hte,hx1,hx2⟩:=ext_key hcut
         have hez : eqZ t=(key.length : Int):=by unfold eqZ;rw [hcut];rfl
         rw [hez] at cEt
         have hys : (bs t).size=key.length + 1 + val.length:=by rw [bs_size,hte];simp;omega
         have hvs : val.length≤s.size:=by have : t.length=(bs t).size:=(bs_size t).symm;omega
         have hn9 : key.length≤1000000:=by have : t.length=(bs t).size:=(bs_size t).symm;omega
         obtain ⟨n0,hn0⟩ : ∃n0,key.length=n0:=⟨_,rfl⟩
         rw [hn0] at cEt hx1 hx2 hys hn9
         generalize hyt : bs t=yt at *
         have cPt:=fun W' A' h=>cPl.out (yt.extract 0 n0) W' A' h
         rw [hx1,bs_list,← hx1] at cPt
         have hpl9:=placeL_dropT d (w:=key)
         have hpz:=placeZ_rng (keyT.map (fun x : List UInt8 × Tag=>x.1)) key
         have hpn : placeZ (keyT.map (fun x : List UInt8 × Tag=>x.1)) key= -1→placeL (keyT.map (fun x : List UInt8 × Tag=>x.1)) key=none:=fun h=>by
          unfold placeZ at h
          cases hp : placeL (keyT.map (fun x : List UInt8 × Tag=>x.1)) key with
          | none=>rfl
          | some i=>rw [hp] at h;dsimp only at h;omega
         have hpk : ∀kk : Nat,placeZ (keyT.map (fun x : List UInt8 × Tag=>x.1)) key=kk→placeL (keyT.map (fun x : List UInt8 × Tag=>x.1)) key=some kk:=fun kk h=>by
          unfold placeZ at h
          cases hp : placeL (keyT.map (fun x : List UInt8 × Tag=>x.1)) key with
          | none=>rw [hp] at h;dsimp only at h;omega
          | some i=>rw [hp] at h;dsimp only at h;obtain rfl : i=kk:=(by omega);rfl
         generalize placeZ (keyT.map (fun x : List UInt8 × Tag=>x.1)) key=z2 at *
         have g0 : (0 : Int)≤(n0 : Int):=Int.natCast_nonneg _
         have g1 : (n0 : Int)≤(yt.size : Int):=by omega
         have g2 : (n0 : Int) + 1≤(yt.size : Int):=by omega
         have g3 : (0 : Int)≤(n0 : Int) + 1:=by omega
         replace hpl9:=Lib.hid hpl9
         replace hpz:=Lib.hid hpz
         replace hpn:=Lib.hid hpn
         replace hpk:=Lib.hid hpk
         replace cPt:=Lib.hid cPt
         replace cEt:=Lib.hid cEt
         replace hx1:=Lib.hid hx1
         replace hx2:=Lib.hid hx2
         replace hyt:=Lib.hid hyt
         replace hn0:=Lib.hid hn0
         clear hte hez hcut hys
         go_upto_region 12 with (go_at_call 49;(with_reducible refine cEt.out.mono ?_);rintro r w5 ⟨rfl,rfl⟩)
         have hE0:=Lib.hid (show Below wr.heap.size wr wr.drew from drewN_below 1)
         have hT:=Lib.hid (fun W' (h : Below wr.heap.size wr W')=>(h.cell (p:=⟨bl,ol + i,none⟩) (block_lt_of_cell hci)).trans hci)
         go_region_held3 (fun W'=>W'.cell? ⟨bl,ol + i,none⟩=some (.string yt))
          (first | exact hT.out _ hE0.out | exact hT.out _ hE1.out)
          (first
            | (go_at_call 42;(with_reducible refine (cKy.out _).mono ?_);rintro r w6 ⟨kb,rfl,hKs,hb⟩;have hE1:=Lib.hid (hE0.out.trans (hb.mono hE0.out.size));replace hKs:=Lib.hid hKs;clear hb)
            | (go_at_call 16;(with_reducible refine (cPt.out _ _ hKs.out).mono ?_);rintro r w7 ⟨rfl,rfl⟩))
         have hBt6:=Lib.hid (hBt.out.trans (But.of_below (b:=pp) hE1.out))
         have hx6:=Lib.hid (hxr.out.keep hE1.out)
         have hr6:=Lib.hid (hrr.out.keep hE1.out)
         have hW6:=Lib.hid (hWr.out.trans (hE1.out.mono hWr.out.size))
         have hrow6:=Lib.hid (hrow.out.keep hE1.out)
         have hsn6:=Lib.hid (hsn.out.but (But.of_below hE1.out))
         have hci6:=hT.out w6 hE1.out
         clear hE0 hT hKs cPt cEt hci hxr hrr hWr hrow hsn hBt hE1
         rcases hpz.out with rfl | ⟨j,rfl,hj⟩
         · have hle : (-1 : Int)≤lz:=by have:=hlz.out;omega
           have hR:=Lib.hid (show rdLine s.data.toList= .bad keyB by rw [hw2k.out,hnone.out (.inl (by rw [hpl9.out,hpn.out rfl]))])
           go_upto_region 14 with fail
           have q1:=hx6.out
           have q2:=hr6.out.setRow_other (b2:=V.heap.size) (by omega) (stZ 0).toArray
           have q3:=(hx6.out.setRow (stZ 0)).setRow_other (b2:=V.heap.size + 1) (by omega) (erB keyB).toArray
           have q4:=q2.setRow (erB keyB)
           unfold Row at q1 q2 q3 q4
           go_wp2_with (first
            | (refine wpList_build_as 44 _ rfl rfl (stZ 0).toArray st_built0 ?_)
            | (refine wpList_build_as 53 _ rfl rfl (erB keyB).toArray (by kernel_rfl) ?_)
            | (refine wpList_store_at 44 _ _ rfl rfl V.heap.size (stZ 0).toArray rfl rfl 44 (stZ 0).toArray q1 (by kernel_rfl) rfl stZ_one ?_)
            | (refine wpList_store_at 53 _ _ rfl rfl (V.heap.size + 1) (erB keyB).toArray rfl rfl 53 erL.toArray q2 (er_info2 _) rfl (erB_one _) ?_))
           refine bodyPost_ret (results_cells2 rfl _ _ V.heap.size (V.heap.size + 1) 44 53 (stZ 0).toArray (erB keyB).toArray (0,0) (0,0) _ _ rfl rfl q3 q4 Tryz.underlying44 rfl (by kernel_rfl) Tryz.underlying53 rfl (er_info2 _)) rfl (rbad hR.out (below_setRow (below_setRow hW6.out (Nat.le_refl _) _) (Nat.le_succ _) _))
         · by_cases hjd : j < d
           · have hle : (j : Int)≤lz:=by have:=hlz.out;omega
             have hR:=Lib.hid (show rdLine s.data.toList= .bad keyB by rw [hw2k.out,hnone.out (.inl (by rw [hpl9.out,hpk.out j rfl];dsimp only;rw [if_neg (by omega)]))])
             go_upto_region 14 with fail
             have q1:=hx6.out
             have q2:=hr6.out.setRow_other (b2:=V.heap.size) (by omega) (stZ 0).toArray
             have q3:=(hx6.out.setRow (stZ 0)).setRow_other (b2:=V.heap.size + 1) (by omega) (erB keyB).toArray
             have q4:=q2.setRow (erB keyB)
             unfold Row at q1 q2 q3 q4
             go_wp2_with (first
              | (refine wpList_build_as 44 _ rfl rfl (stZ 0).toArray st_built0 ?_)
              | (refine wpList_build_as 53 _ rfl rfl (erB keyB).toArray (by kernel_rfl) ?_)
              | (refine wpList_store_at 44 _ _ rfl rfl V.heap.size (stZ 0).toArray rfl rfl 44 (stZ 0).toArray q1 (by kernel_rfl) rfl stZ_one ?_)
              | (refine wpList_store_at 53 _ _ rfl rfl (V.heap.size + 1) (erB keyB).toArray rfl rfl 53 erL.toArray q2 (er_info2 _) rfl (erB_one _) ?_))
             refine bodyPost_ret (results_cells2 rfl _ _ V.heap.size (V.heap.size + 1) 44 53 (stZ 0).toArray (erB keyB).toArray (0,0) (0,0) _ _ rfl rfl q3 q4 Tryz.underlying44 rfl (by kernel_rfl) Tryz.underlying53 rfl (er_info2 _)) rfl (rbad hR.out (below_setRow (below_setRow hW6.out (Nat.le_refl _) _) (Nat.le_succ _) _))
           · have hnle : ¬(j : Int)≤lz:=by have:=hlz.out;omega
             rw [List.length_map,keyT_len] at hj
             obtain ⟨kg,hkg⟩ : ∃kg,keyT[j]? =some kg:=⟨_,List.getElem?_eq_getElem (by rw [keyT_len];exact hj)⟩
             obtain ⟨off,hoff⟩ : ∃off,offT[j]? =some off:=⟨_,List.getElem?_eq_getElem (by rw [offT_len];exact hj)⟩
             have hpl2 : placeL ((keyT.drop d).map (·.1)) key=some (j - d):=by rw [hpl9.out,hpk.out j rfl];dsimp only;rw [if_pos (by omega)]
             have hky : kg.1=key:=by
              have:=placeL_mem (hpk.out j rfl)
              rw [List.getElem?_map,hkg] at this
              injection this
             have hdj : d + (j - d)=j:=by omega
             have hkg' : keyT[d + (j - d)]? =some kg:=by rw [hdj];exact hkg
             have hbad':=hbad.out (j - d) kg hpl2 (by trivial) hkg'
             have hgood':=fun pv=>hgood.out (j - d) kg pv hpl2 (by trivial) hkg'
             obtain ⟨key',g⟩:=kg
             dsimp only at hky
             subst hky
             obtain ⟨yv,hyv⟩ : ∃yv,bs val=yv:=⟨_,rfl⟩
             have hput:=put_any cs k (pre ++ zeros (keyT.drop d)) (bs val) w6 hsn6.out.c hsn6.out.ok (by rw [bs_size];omega) j off (key',g) hkg hoff
             rw [bs_list] at hput
             rw [hyv] at hx2 hput
             have hrng:=hrow6.out.range
             have hcl29:=hsn6.out.len
             have hci9:=st_in9 cs hcl29
             replace hput:=Lib.hid hput
             replace hbad':=Lib.hid hbad'
             replace hgood':=Lib.hid hgood'
             replace hyv:=Lib.hid hyv
             clear hbad hgood hnone hpl9 hpn hpk hpz
             have hx3 : yt.extract (RowKit.wrap64 ((n0 : Int) + 1)).toNat yt.size=yv:=by rw [wrap_one hn9,hx2.out]
             have hx5 : yt.extract ((n0 : Int) + 1).toNat yt.size=yv:=hx2.out
             replace hx3:=Lib.hid hx3
             replace hx5:=Lib.hid hx5
             go_upto_region 17 with fail
             first | rw [hx2.out] | rw [hx5.out] | rw [hx3.out]
             go_upto_region 18 with (first
              | (refine wpList_load_at 44 _ rfl rfl pp 0 rfl cs _ hrng Tryz.underlying44 rfl hci9 ?_)
              | (go_at_call 50;(with_reducible refine hput.out.mono ?_);rintro r w7 ⟨z9,b,rfl,hb,hzl,hz1,hs1,hs2⟩
                 obtain ⟨ds,hds⟩ : ∃ds,setAt cs off z9=ds:=⟨_,rfl⟩
                 rw [hds]
                 have hdl : ds.length=29:=by rw [← hds,setAt_len];exact hcl29
                 have hd1 : ds.toArray.all (·.oneCell')=true:=one_arr (by rw [← hds];exact setAt_one z9 cs off hsn6.out.one hz1)
                 have hgz:=heap_new w7 (.cells (stZ 0).toArray 44)
                 have hdi:=st_in9' ds hdl
                 have hdo:=st_old ds hdl
                 replace hb:=Lib.hid hb
                 replace hs1:=Lib.hid hs1
                 replace hs2:=Lib.hid hs2
                 replace hz1:=Lib.hid hz1
                 replace hds:=Lib.hid hds)
              | (refine wpList_alloc_row 44 rfl rfl (stZ 0).toArray st_zero ?_)
              | (refine wpList_store_at 44 _ _ rfl rfl w7.heap.size ds.toArray rfl rfl 44 (stZ 0).toArray hgz hdi hdo hd1 ?_
                 rw [setRow_new]))
             have hbn:=below_new w7 (.cells ds.toArray 44)
             have hpa8 : Row (w7.alloc (.cells ds.toArray 44)) w7.heap.size 44 ds:=heap_new w7 _
             have hE2:=hb.out.trans (hbn.mono hb.out.size)
             have hbn':=Lib.hid hbn
             have hi9:=st_in9 ds hdl
             obtain ⟨pa,hpa⟩ : ∃pa,w7.heap.size=pa:=⟨_,rfl⟩
             rw [hpa] at hpa8 ⊢
             clear hgz hput hdi hdo hrng hpa
             generalize w7.alloc (.cells ds.toArray 44)=w8 at *
             have hx8:=Lib.hid (hx6.out.keep hE2)
             have hr8:=Lib.hid (hr6.out.keep hE2)
             have hW8:=Lib.hid (hW6.out.trans (hE2.mono hW6.out.size))
             have hrow8:=Lib.hid (hrow6.out.keep hE2)
             have hBt8:=Lib.hid (hBt6.out.trans (But.of_below (b:=pp) hE2))
             have hwo:=wishO_ok hsn6.out.ok
             generalize wishO (pre ++ zeros (keyT.drop d))=o9 at *
             replace hpa8:=Lib.hid hpa8
             cases hrr9 : rdR g o9 val with
             | none=>
               obtain rfl:=hs2.out hrr9
               have hR:=Lib.hid (show rdLine s.data.toList= .bad key' by rw [hw2k.out,hbad'.out (by rw [← okR_eq g (o:=o9) val hwo];unfold okR;rw [hrr9])])
               clear hs1 hs2 hgood' hbad' hi9 hpa8
               go_upto_region 19 with fail
               have hkk:=hkg
               obtain ⟨ky,hkyb⟩ : ∃ky,bs key' =ky:=⟨_,rfl⟩
               have hkyA:=Lib.hid (fun W' kb (h : Strs W' (some ⟨kb,0,none⟩) 26 ((keyT.map (fun x : List UInt8 × Tag=>x.1)).map bs))=>(show W'.cell? ⟨kb,j,none⟩=some (.string ky) from by have:=(keys_at h hkk hj).1.2;dsimp only at this;rwa [hkyb] at this))
               have hqk9 : Hid (¬9223372036854775807 < ky.size + 1):=Lib.hid (by have h1:=key_small ⟨j,hj⟩;rw [List.getD_eq_getElem?_getD,List.getElem?_map,hkk] at h1;dsimp only [Option.map,Option.getD] at h1;rw [hkyb] at h1;omega)
               replace hkyb:=Lib.hid hkyb
               have cKn:=Lib.hid (fun W'=>rkeys_new W')
               clear hkk
               refine region_iw tbRe dsRe (vsRe j ky) (fun L T W=>RdI3 V j ky (L 1) (L 3) (L 4) (L 8) (T.getD 81 undef) (T.getD 83 undef) W) rfl (by decide) (by kernel_rfl) ?hlt ?hstep ?hdone ?hstart
               case hstart=>exact ⟨hW8.out.trans ((drewN_below 1).mono hW8.out.size),hx8.out.keep (drewN_below 1),(by show Row _ _ _ (if (Array.replicate 9 false).getD 8 true=true then _ else _);rw [if_neg (inv_not (n:=9) (i:=8) (by decide))];exact hr8.out.keep (drewN_below 1)),fun h=>absurd h (inv_not (n:=9) (i:=1) (by decide)),fun h=>absurd h (inv_not (n:=9) (i:=3) (by decide))⟩
               case hlt=>
                intro ix o ho
                have hi:=(Array.getElem?_eq_some_iff.1 ho).1
                match ix,hi with
                | 0,_=>obtain rfl:=Option.some.inj ho;decide
                | 1,_=>obtain rfl:=Option.some.inj ho;decide
                | 2,_=>obtain rfl:=Option.some.inj ho;decide
                | 3,_=>obtain rfl:=Option.some.inj ho;decide
                | 4,_=>obtain rfl:=Option.some.inj ho;decide
                | 5,_=>obtain rfl:=Option.some.inj ho;decide
                | 6,_=>obtain rfl:=Option.some.inj ho;decide
                | 7,_=>obtain rfl:=Option.some.inj ho;decide
                | 8,_=>obtain rfl:=Option.some.inj ho;decide
               case hstep=>
                intro T1 hE L T W ix o hF hW hc ho hLi hd K hK
                have hN : T1.size=90:=by rw [hE];rfl
                have f2 : T.getD 2 undef= .pointer (some ⟨V.heap.size,0,none⟩):=(hF.old 2 (by decide)).trans (by rw [hE];rfl)
                have f3 : T.getD 3 undef= .pointer (some ⟨V.heap.size + 1,0,none⟩):=(hF.old 3 (by decide)).trans (by rw [hE];rfl)
                have f9 : T.getD 9 undef= .int .i64 ↑j:=(hF.old 9 (by decide)).trans (by rw [hE];rfl)
                clear hE
                replace hF:=Lib.hid hF
                replace hW:=Lib.hid hW
                replace hK:=Lib.hid hK
                have hi:=(List.getElem?_eq_some_iff.1 ho).1
                match ix,hi with
                | 0,_=>
                  obtain rfl:=Option.some.inj ho
                  clear hd ho hi hc hLi
                  exact st_val (v:= .agg (stZ 0).toArray) (w':=W) (want_none rfl) (by unfold execOp;simp only [List.map_toArray,List.map_nil,Act.eval,Sem.run_bind,run_build (P:=Tryz.prog) W _ _ _ st_built0,Result.andThen_ok,Sem.run_pure]) (hK.out _ _ (hF.out.putv (k:=0) (s:=80) rfl (by decide) hN (by decide) rfl (by dsimp only;rw [gd_ne (show 80≠81 by decide),gd_ne (show 80≠83 by decide)];exact hW.out)))
                | 1,_=>
                  obtain rfl:=Option.some.inj ho
                  have n8 : ¬L 8=true:=fun h=>by have:=hc 8 1 h (by decide);rw [hLi] at this;cases this
                  have cc:=Lib.hid (cKn.out W)
                  clear hd ho hi hc
                  refine st_call (want_none rfl) (by unfold execOp;go_simp) cc.out ?_
                  rintro r w19 ⟨kb,rfl,hKs,hb,hfr⟩
                  exact ⟨_,rfl,hK.out _ _ (hF.out.put (k:=1) (s:=81) rfl (by decide) hN (by decide) (fun u hu=>by cases hu) (by dsimp only;rw [gd_ne (show 81≠83 by decide)];exact (by rw [gd_eq (by rw [hF.out.size,hN];decide)];exact { hW.out.grow hb with s81:=fun _ _=>⟨kb,rfl,hKs,by have:=hW.out.re.lt;omega⟩ })))⟩
                | 2,_=>
                  obtain rfl:=Option.some.inj ho
                  clear hd ho hi hc hLi
                  exact st_val (v:= .int .i64 ↑j) (w':=W) (want_none rfl) (by unfold execOp;dsimp only [Act.eval];simp only [f9];go_simp) (hK.out _ _ (hF.out.putv (k:=2) (s:=82) rfl (by decide) hN (by decide) rfl (by dsimp only;rw [gd_ne (show 82≠81 by decide),gd_ne (show 82≠83 by decide)];exact hW.out)))
                | 3,_=>
                  obtain rfl:=Option.some.inj ho
                  have l1 : L 1=true:=dep_of hd (n:=1) (by decide)
                  have l2 : L 2=true:=dep_of hd (n:=2) (by decide)
                  have e82 : T.getD 82 undef= .int .i64 ↑j:=hF.out.val 2 82 _ l2 rfl rfl
                  obtain ⟨kb,e81,hKs,hkb⟩:=hW.out.s81 l1 hLi
                  have hj26:=hj
                  have hj27 : (j : Int) < 26:=by omega
                  clear hd ho hi hc
                  exact st_val (v:= .pointer (some ⟨kb,j,none⟩)) (w':=W) (want_none rfl) (by unfold execOp;dsimp only [Act.eval];simp only [e81,e82];go_simp) (hK.out _ _ (hF.out.put (k:=3) (s:=83) rfl (by decide) hN (by decide) (fun u hu=>by cases hu) (by dsimp only;rw [gd_ne (show 83≠81 by decide)];exact (by rw [gd_eq (by rw [hF.out.size,hN];decide)];exact { hW.out with s81:=fun _ h=>absurd h (by simp),s83:=fun _ _=>⟨kb,rfl,hkb,hkyA.out W kb hKs⟩ }))))
                | 4,_=>
                  obtain rfl:=Option.some.inj ho
                  have l3 : L 3=true:=dep_of hd (n:=3) (by decide)
                  obtain ⟨kb,e83,hkb,hcl⟩:=hW.out.s83 l3 hLi
                  clear hd ho hi hc
                  exact st_val (v:= .string ky) (w':=W) (want_none rfl) (by unfold execOp;dsimp only [Act.eval];simp only [e83];go_simp) (hK.out _ _ (hF.out.putv (k:=4) (s:=84) rfl (by decide) hN (by decide) rfl (by dsimp only;rw [gd_ne (show 84≠81 by decide),gd_ne (show 84≠83 by decide)];exact { hW.out with s83:=fun _ h=>absurd h (by simp) })))
                | 5,_=>
                  obtain rfl:=Option.some.inj ho
                  have l4 : L 4=true:=dep_of hd (n:=4) (by decide)
                  have e84 : T.getD 84 undef= .string ky:=hF.out.val 4 84 _ l4 rfl rfl
                  have hqk:=hqk9.out
                  clear hd ho hi hc hLi
                  exact st_val (v:= .string (ky ++ (⟨#[32]⟩ : ByteArray))) (w':=W) (want_none rfl) (by unfold execOp;dsimp only [Act.eval];simp only [e84];go_simp) (hK.out _ _ (hF.out.putv (k:=5) (s:=85) rfl (by decide) hN (by decide) rfl (by dsimp only;rw [gd_ne (show 85≠81 by decide),gd_ne (show 85≠83 by decide)];exact hW.out)))
                | 6,_=>
                  obtain rfl:=Option.some.inj ho
                  have l5 : L 5=true:=dep_of hd (n:=5) (by decide)
                  have e85 : T.getD 85 undef= .string (ky ++ (⟨#[32]⟩ : ByteArray)):=hF.out.val 5 85 _ l5 rfl rfl
                  clear hd ho hi hc hLi
                  exact st_val (v:= .agg #[.int .i64 3,.string (ky ++ (⟨#[32]⟩ : ByteArray))]) (w':=W) (want_none rfl) (by unfold execOp;simp only [List.map_toArray,List.map_cons,List.map_nil,Act.eval,e85,Sem.run_bind,run_build (P:=Tryz.prog) W _ _ _ (er_built ky),Result.andThen_ok,Sem.run_pure]) (hK.out _ _ (hF.out.putv (k:=6) (s:=86) rfl (by decide) hN (by decide) rfl (by dsimp only;rw [gd_ne (show 86≠81 by decide),gd_ne (show 86≠83 by decide)];exact hW.out)))
                | 7,_=>
                  obtain rfl:=Option.some.inj ho
                  have l0 : L 0=true:=dep_of hd (n:=0) (by decide)
                  have e80 : T.getD 80 undef= .agg (stZ 0).toArray:=hF.out.val 0 80 _ l0 rfl rfl
                  have hrs:=hW.out.rs
                  clear hd ho hi hc
                  exact st_do (w':=W.setRow V.heap.size (stZ 0).toArray) (want_none rfl) (run_store_ 44 (.tmp 2) (.tmp 80) rfl V.heap.size _ (show T.getD 2 undef=_ from f2) (show T.getD 80 undef=_ from e80) _ _ hrs (by kernel_rfl) rfl stZ_one) (hK.out _ _ (hF.out.pass (k:=7) rfl hW.out.stz))
                | 8,_=>
                  obtain rfl:=Option.some.inj ho
                  have l6 : L 6=true:=dep_of hd (n:=6) (by decide)
                  have e86 : T.getD 86 undef= .agg #[.int .i64 3,.string (ky ++ (⟨#[32]⟩ : ByteArray))]:=hF.out.val 6 86 _ l6 rfl rfl
                  have l5 : L 5=true:=hc 6 5 l6 (by decide)
                  have l4 : L 4=true:=hc 5 4 l5 (by decide)
                  have l3 : L 3=true:=hc 4 3 l4 (by decide)
                  have hre:=hW.out.re
                  rw [hLi] at hre
                  have hl3:=Lib.hid l3
                  have hl4:=Lib.hid l4
                  clear hd ho hi hc
                  exact st_do (w':=W.setRow (V.heap.size + 1) #[.int .i64 3,.string (ky ++ (⟨#[32]⟩ : ByteArray))]) (want_none rfl) (run_store_ 53 (.tmp 3) (.tmp 86) rfl (V.heap.size + 1) _ (show T.getD 3 undef=_ from f3) (show T.getD 86 undef=_ from e86) _ _ hre (by kernel_rfl) rfl (er_one9 ky)) (hK.out _ _ (hF.out.pass (k:=8) rfl (hW.out.ste hl3.out hl4.out)))
               case hdone=>
                intro L T W2 hF hW hall
                obtain ⟨z81,e81⟩ : ∃z,T.getD 81 undef=z:=⟨_,rfl⟩
                obtain ⟨z83,e83⟩ : ∃z,T.getD 83 undef=z:=⟨_,rfl⟩
                have q1:=hW.rs
                have q2:=hW.re
                rw [hall 8 (by decide),if_pos rfl] at q2
                have hB19:=hW.bl
                clear hW
                have hT : T=#[.string s,undef,.pointer (some ⟨V.heap.size,0,none⟩),.pointer (some ⟨V.heap.size + 1,0,none⟩),.slice (some ⟨bl,ol,none⟩) m cl,.pointer (some ⟨pp,0,none⟩),.int .i64 ↑j,.int .i64 ↑i,.int .i64 ↑n0,.int .i64 ↑j,.string yv,.pointer (some ⟨pa,0,none⟩),.bool false,.string s,.slice (some ⟨bl,ol,none⟩) m cl,z15,.slice (some ⟨bl,ol,none⟩) m cl,.pointer (some ⟨bl,ol,none⟩),.string y0,.int .i64 ↑k,.agg (stZ ↑k).toArray,.pointer (some ⟨pp,0,none⟩),.int .i64 ↑k,.bool false,undef,undef,.int .i64 ↑i,.slice (some ⟨bl,ol,none⟩) m cl,.int .i64 ↑m,.bool true,u30,u31,.slice (some ⟨bl,ol,none⟩) m cl,.int .i64 ↑i,.pointer (some ⟨bl,ol + i,none⟩),.string yt,.int .i64 ↑n0,.int .i64 ↑n0,.bool true,.slice (some ⟨kb,0,none⟩) 26 26,.slice (some ⟨bl,ol,none⟩) m cl,.int .i64 ↑i,.pointer (some ⟨bl,ol + i,none⟩),.string yt,.int .i64 ↑n0,.string (yt.extract 0 n0),.int .i64 ↑j,.int .i64 ↑j,.int .i64 lz,.bool false,u50,u51,.int .i64 ↑j,.slice (some ⟨bl,ol,none⟩) m cl,.int .i64 ↑i,.pointer (some ⟨bl,ol + i,none⟩),.string yt,.int .i64 ↑n0,.int .i64 (↑n0 + 1),.string yv,.tuple #[.agg ds.toArray,.bool false],.agg cs.toArray,.int .i64 ↑j,.string yv,.tuple #[.agg ds.toArray,.bool false],.agg ds.toArray,.bool false,.bool false,.bool true,.bool true,undef,undef,.bool true,.bool true,undef,undef,undef,undef,undef,.bool true,.agg (stZ 0).toArray,z81,.int .i64 ↑j,z83,.string ky,.string (ky ++ (⟨#[32]⟩ : ByteArray)),.agg #[.int .i64 3,.string (ky ++ (⟨#[32]⟩ : ByteArray))],u87,undef,undef]:=(hF.fin [(80,.agg (stZ 0).toArray),(81,z81),(82,.int .i64 ↑j),(83,z83),(84,.string ky),(85,.string (ky ++ (⟨#[32]⟩ : ByteArray))),(86,.agg #[.int .i64 3,.string (ky ++ (⟨#[32]⟩ : ByteArray))])] [80,81,82,83,84,85,86] rfl (List.forall_mem_cons.2 ⟨hF.val 0 _ _ (hall 0 (show 0 < 9 by decide)) rfl rfl,(List.forall_mem_cons.2 ⟨e81,(List.forall_mem_cons.2 ⟨hF.val 2 _ _ (hall 2 (show 2 < 9 by decide)) rfl rfl,(List.forall_mem_cons.2 ⟨e83,(List.forall_mem_cons.2 ⟨hF.val 4 _ _ (hall 4 (show 4 < 9 by decide)) rfl rfl,(List.forall_mem_cons.2 ⟨hF.val 5 _ _ (hall 5 (show 5 < 9 by decide)) rfl rfl,(List.forall_mem_cons.2 ⟨hF.val 6 _ _ (hall 6 (show 6 < 9 by decide)) rfl rfl,(fun _ h=>absurd h List.not_mem_nil)⟩)⟩)⟩)⟩)⟩)⟩)⟩) (by decide)).trans (by kernel_rfl)
                clear hF hall
                subst hT
                clear e81 e83
                unfold Row at q1 q2
                have hR2:=rbad (w':=W2) hR.out hB19
                rw [show erB key' =[.int .i64 3,.string (ky ++ (⟨#[32]⟩ : ByteArray))] by unfold erB;rw [hkyb.out]] at hR2
                go_wp2_with fail
                refine bodyPost_ret (results_cells2 rfl _ _ V.heap.size (V.heap.size + 1) 44 53 (stZ 0).toArray [.int .i64 3,.string (ky ++ (⟨#[32]⟩ : ByteArray))].toArray (0,0) (0,0) _ _ rfl rfl q1 q2 Tryz.underlying44 rfl (by kernel_rfl) Tryz.underlying53 rfl (by kernel_rfl)) rfl hR2
             | some pv=>
               obtain ⟨rfl,hpv⟩:=hs1.out pv hrr9
               by_cases hv0 : val=[]
               · have he : yv.toList.isEmpty=true:=by rw [← hyv.out,bs_nil,decide_eq_true hv0]
                 have hR:=Lib.hid (show rdLine s.data.toList= .bad key' by rw [hw2k.out,hbad'.out (by rw [hv0];unfold okP;rw [rdP_nil])])
                 clear hs1 hs2 hgood' hbad' hi9 hpa8 hpv
                 go_upto_region 19 with fail
                 have hkk:=hkg
                 obtain ⟨ky,hkyb⟩ : ∃ky,bs key' =ky:=⟨_,rfl⟩
                 have hkyA:=Lib.hid (fun W' kb (h : Strs W' (some ⟨kb,0,none⟩) 26 ((keyT.map (fun x : List UInt8 × Tag=>x.1)).map bs))=>(show W'.cell? ⟨kb,j,none⟩=some (.string ky) from by have:=(keys_at h hkk hj).1.2;dsimp only at this;rwa [hkyb] at this))
                 have hqk9 : Hid (¬9223372036854775807 < ky.size + 1):=Lib.hid (by have h1:=key_small ⟨j,hj⟩;rw [List.getD_eq_getElem?_getD,List.getElem?_map,hkk] at h1;dsimp only [Option.map,Option.getD] at h1;rw [hkyb] at h1;omega)
                 replace hkyb:=Lib.hid hkyb
                 have cKn:=Lib.hid (fun W'=>rkeys_new W')
                 clear hkk
                 refine region_iw tbRe dsRe (vsRe j ky) (fun L T W=>RdI3 V j ky (L 1) (L 3) (L 4) (L 8) (T.getD 81 undef) (T.getD 83 undef) W) rfl (by decide) (by kernel_rfl) ?hlt ?hstep ?hdone ?hstart
                 case hstart=>exact ⟨hW8.out.trans ((drewN_below 1).mono hW8.out.size),hx8.out.keep (drewN_below 1),(by show Row _ _ _ (if (Array.replicate 9 false).getD 8 true=true then _ else _);rw [if_neg (inv_not (n:=9) (i:=8) (by decide))];exact hr8.out.keep (drewN_below 1)),fun h=>absurd h (inv_not (n:=9) (i:=1) (by decide)),fun h=>absurd h (inv_not (n:=9) (i:=3) (by decide))⟩
                 case hlt=>
                  intro ix o ho
                  have hi:=(Array.getElem?_eq_some_iff.1 ho).1
                  match ix,hi with
                  | 0,_=>obtain rfl:=Option.some.inj ho;decide
                  | 1,_=>obtain rfl:=Option.some.inj ho;decide
                  | 2,_=>obtain rfl:=Option.some.inj ho;decide
                  | 3,_=>obtain rfl:=Option.some.inj ho;decide
                  | 4,_=>obtain rfl:=Option.some.inj ho;decide
                  | 5,_=>obtain rfl:=Option.some.inj ho;decide
                  | 6,_=>obtain rfl:=Option.some.inj ho;decide
                  | 7,_=>obtain rfl:=Option.some.inj ho;decide
                  | 8,_=>obtain rfl:=Option.some.inj ho;decide
                 case hstep=>
                  intro T1 hE L T W ix o hF hW hc ho hLi hd K hK
                  have hN : T1.size=90:=by rw [hE];rfl
                  have f2 : T.getD 2 undef= .pointer (some ⟨V.heap.size,0,none⟩):=(hF.old 2 (by decide)).trans (by rw [hE];rfl)
                  have f3 : T.getD 3 undef= .pointer (some ⟨V.heap.size + 1,0,none⟩):=(hF.old 3 (by decide)).trans (by rw [hE];rfl)
                  have f9 : T.getD 9 undef= .int .i64 ↑j:=(hF.old 9 (by decide)).trans (by rw [hE];rfl)
                  clear hE
                  replace hF:=Lib.hid hF
                  replace hW:=Lib.hid hW
                  replace hK:=Lib.hid hK
                  have hi:=(List.getElem?_eq_some_iff.1 ho).1
                  match ix,hi with
                  | 0,_=>
                    obtain rfl:=Option.some.inj ho
                    clear hd ho hi hc hLi
                    exact st_val (v:= .agg (stZ 0).toArray) (w':=W) (want_none rfl) (by unfold execOp;simp only [List.map_toArray,List.map_nil,Act.eval,Sem.run_bind,run_build (P:=Tryz.prog) W _ _ _ st_built0,Result.andThen_ok,Sem.run_pure]) (hK.out _ _ (hF.out.putv (k:=0) (s:=80) rfl (by decide) hN (by decide) rfl (by dsimp only;rw [gd_ne (show 80≠81 by decide),gd_ne (show 80≠83 by decide)];exact hW.out)))
                  | 1,_=>
                    obtain rfl:=Option.some.inj ho
                    have n8 : ¬L 8=true:=fun h=>by have:=hc 8 1 h (by decide);rw [hLi] at this;cases this
                    have cc:=Lib.hid (cKn.out W)
                    clear hd ho hi hc
                    refine st_call (want_none rfl) (by unfold execOp;go_simp) cc.out ?_
                    rintro r w19 ⟨kb,rfl,hKs,hb,hfr⟩
                    exact ⟨_,rfl,hK.out _ _ (hF.out.put (k:=1) (s:=81) rfl (by decide) hN (by decide) (fun u hu=>by cases hu) (by dsimp only;rw [gd_ne (show 81≠83 by decide)];exact (by rw [gd_eq (by rw [hF.out.size,hN];decide)];exact { hW.out.grow hb with s81:=fun _ _=>⟨kb,rfl,hKs,by have:=hW.out.re.lt;omega⟩ })))⟩
                  | 2,_=>
                    obtain rfl:=Option.some.inj ho
                    clear hd ho hi hc hLi
                    exact st_val (v:= .int .i64 ↑j) (w':=W) (want_none rfl) (by unfold execOp;dsimp only [Act.eval];simp only [f9];go_simp) (hK.out _ _ (hF.out.putv (k:=2) (s:=82) rfl (by decide) hN (by decide) rfl (by dsimp only;rw [gd_ne (show 82≠81 by decide),gd_ne (show 82≠83 by decide)];exact hW.out)))
                  | 3,_=>
                    obtain rfl:=Option.some.inj ho
                    have l1 : L 1=true:=dep_of hd (n:=1) (by decide)
                    have l2 : L 2=true:=dep_of hd (n:=2) (by decide)
                    have e82 : T.getD 82 undef= .int .i64 ↑j:=hF.out.val 2 82 _ l2 rfl rfl
                    obtain ⟨kb,e81,hKs,hkb⟩:=hW.out.s81 l1 hLi
                    have hj26:=hj
                    have hj27 : (j : Int) < 26:=by omega
                    clear hd ho hi hc
                    exact st_val (v:= .pointer (some ⟨kb,j,none⟩)) (w':=W) (want_none rfl) (by unfold execOp;dsimp only [Act.eval];simp only [e81,e82];go_simp) (hK.out _ _ (hF.out.put (k:=3) (s:=83) rfl (by decide) hN (by decide) (fun u hu=>by cases hu) (by dsimp only;rw [gd_ne (show 83≠81 by decide)];exact (by rw [gd_eq (by rw [hF.out.size,hN];decide)];exact { hW.out with s81:=fun _ h=>absurd h (by simp),s83:=fun _ _=>⟨kb,rfl,hkb,hkyA.out W kb hKs⟩ }))))
                  | 4,_=>
                    obtain rfl:=Option.some.inj ho
                    have l3 : L 3=true:=dep_of hd (n:=3) (by decide)
                    obtain ⟨kb,e83,hkb,hcl⟩:=hW.out.s83 l3 hLi
                    clear hd ho hi hc
                    exact st_val (v:= .string ky) (w':=W) (want_none rfl) (by unfold execOp;dsimp only [Act.eval];simp only [e83];go_simp) (hK.out _ _ (hF.out.putv (k:=4) (s:=84) rfl (by decide) hN (by decide) rfl (by dsimp only;rw [gd_ne (show 84≠81 by decide),gd_ne (show 84≠83 by decide)];exact { hW.out with s83:=fun _ h=>absurd h (by simp) })))
                  | 5,_=>
                    obtain rfl:=Option.some.inj ho
                    have l4 : L 4=true:=dep_of hd (n:=4) (by decide)
                    have e84 : T.getD 84 undef= .string ky:=hF.out.val 4 84 _ l4 rfl rfl
                    have hqk:=hqk9.out
                    clear hd ho hi hc hLi
                    exact st_val (v:= .string (ky ++ (⟨#[32]⟩ : ByteArray))) (w':=W) (want_none rfl) (by unfold execOp;dsimp only [Act.eval];simp only [e84];go_simp) (hK.out _ _ (hF.out.putv (k:=5) (s:=85) rfl (by decide) hN (by decide) rfl (by dsimp only;rw [gd_ne (show 85≠81 by decide),gd_ne (show 85≠83 by decide)];exact hW.out)))
                  | 6,_=>
                    obtain rfl:=Option.some.inj ho
                    have l5 : L 5=true:=dep_of hd (n:=5) (by decide)
                    have e85 : T.getD 85 undef= .string (ky ++ (⟨#[32]⟩ : ByteArray)):=hF.out.val 5 85 _ l5 rfl rfl
                    clear hd ho hi hc hLi
                    exact st_val (v:= .agg #[.int .i64 3,.string (ky ++ (⟨#[32]⟩ : ByteArray))]) (w':=W) (want_none rfl) (by unfold execOp;simp only [List.map_toArray,List.map_cons,List.map_nil,Act.eval,e85,Sem.run_bind,run_build (P:=Tryz.prog) W _ _ _ (er_built ky),Result.andThen_ok,Sem.run_pure]) (hK.out _ _ (hF.out.putv (k:=6) (s:=86) rfl (by decide) hN (by decide) rfl (by dsimp only;rw [gd_ne (show 86≠81 by decide),gd_ne (show 86≠83 by decide)];exact hW.out)))
                  | 7,_=>
                    obtain rfl:=Option.some.inj ho
                    have l0 : L 0=true:=dep_of hd (n:=0) (by decide)
                    have e80 : T.getD 80 undef= .agg (stZ 0).toArray:=hF.out.val 0 80 _ l0 rfl rfl
                    have hrs:=hW.out.rs
                    clear hd ho hi hc
                    exact st_do (w':=W.setRow V.heap.size (stZ 0).toArray) (want_none rfl) (run_store_ 44 (.tmp 2) (.tmp 80) rfl V.heap.size _ (show T.getD 2 undef=_ from f2) (show T.getD 80 undef=_ from e80) _ _ hrs (by kernel_rfl) rfl stZ_one) (hK.out _ _ (hF.out.pass (k:=7) rfl hW.out.stz))
                  | 8,_=>
                    obtain rfl:=Option.some.inj ho
                    have l6 : L 6=true:=dep_of hd (n:=6) (by decide)
                    have e86 : T.getD 86 undef= .agg #[.int .i64 3,.string (ky ++ (⟨#[32]⟩ : ByteArray))]:=hF.out.val 6 86 _ l6 rfl rfl
                    have l5 : L 5=true:=hc 6 5 l6 (by decide)
                    have l4 : L 4=true:=hc 5 4 l5 (by decide)
                    have l3 : L 3=true:=hc 4 3 l4 (by decide)
                    have hre:=hW.out.re
                    rw [hLi] at hre
                    have hl3:=Lib.hid l3
                    have hl4:=Lib.hid l4
                    clear hd ho hi hc
                    exact st_do (w':=W.setRow (V.heap.size + 1) #[.int .i64 3,.string (ky ++ (⟨#[32]⟩ : ByteArray))]) (want_none rfl) (run_store_ 53 (.tmp 3) (.tmp 86) rfl (V.heap.size + 1) _ (show T.getD 3 undef=_ from f3) (show T.getD 86 undef=_ from e86) _ _ hre (by kernel_rfl) rfl (er_one9 ky)) (hK.out _ _ (hF.out.pass (k:=8) rfl (hW.out.ste hl3.out hl4.out)))
                 case hdone=>
                  intro L T W2 hF hW hall
                  obtain ⟨z81,e81⟩ : ∃z,T.getD 81 undef=z:=⟨_,rfl⟩
                  obtain ⟨z83,e83⟩ : ∃z,T.getD 83 undef=z:=⟨_,rfl⟩
                  have q1:=hW.rs
                  have q2:=hW.re
                  rw [hall 8 (by decide),if_pos rfl] at q2
                  have hB19:=hW.bl
                  clear hW
                  have hT : T=#[.string s,undef,.pointer (some ⟨V.heap.size,0,none⟩),.pointer (some ⟨V.heap.size + 1,0,none⟩),.slice (some ⟨bl,ol,none⟩) m cl,.pointer (some ⟨pp,0,none⟩),.int .i64 ↑j,.int .i64 ↑i,.int .i64 ↑n0,.int .i64 ↑j,.string yv,.pointer (some ⟨pa,0,none⟩),.bool true,.string s,.slice (some ⟨bl,ol,none⟩) m cl,z15,.slice (some ⟨bl,ol,none⟩) m cl,.pointer (some ⟨bl,ol,none⟩),.string y0,.int .i64 ↑k,.agg (stZ ↑k).toArray,.pointer (some ⟨pp,0,none⟩),.int .i64 ↑k,.bool false,undef,undef,.int .i64 ↑i,.slice (some ⟨bl,ol,none⟩) m cl,.int .i64 ↑m,.bool true,u30,u31,.slice (some ⟨bl,ol,none⟩) m cl,.int .i64 ↑i,.pointer (some ⟨bl,ol + i,none⟩),.string yt,.int .i64 ↑n0,.int .i64 ↑n0,.bool true,.slice (some ⟨kb,0,none⟩) 26 26,.slice (some ⟨bl,ol,none⟩) m cl,.int .i64 ↑i,.pointer (some ⟨bl,ol + i,none⟩),.string yt,.int .i64 ↑n0,.string (yt.extract 0 n0),.int .i64 ↑j,.int .i64 ↑j,.int .i64 lz,.bool false,u50,u51,.int .i64 ↑j,.slice (some ⟨bl,ol,none⟩) m cl,.int .i64 ↑i,.pointer (some ⟨bl,ol + i,none⟩),.string yt,.int .i64 ↑n0,.int .i64 (↑n0 + 1),.string yv,.tuple #[.agg ds.toArray,.bool true],.agg cs.toArray,.int .i64 ↑j,.string yv,.tuple #[.agg ds.toArray,.bool true],.agg ds.toArray,.bool true,.bool true,.bool false,.bool false,.string yv,.bool true,.bool true,.bool true,undef,undef,undef,undef,undef,.bool true,.agg (stZ 0).toArray,z81,.int .i64 ↑j,z83,.string ky,.string (ky ++ (⟨#[32]⟩ : ByteArray)),.agg #[.int .i64 3,.string (ky ++ (⟨#[32]⟩ : ByteArray))],u87,undef,undef]:=(hF.fin [(80,.agg (stZ 0).toArray),(81,z81),(82,.int .i64 ↑j),(83,z83),(84,.string ky),(85,.string (ky ++ (⟨#[32]⟩ : ByteArray))),(86,.agg #[.int .i64 3,.string (ky ++ (⟨#[32]⟩ : ByteArray))])] [80,81,82,83,84,85,86] rfl (List.forall_mem_cons.2 ⟨hF.val 0 _ _ (hall 0 (show 0 < 9 by decide)) rfl rfl,(List.forall_mem_cons.2 ⟨e81,(List.forall_mem_cons.2 ⟨hF.val 2 _ _ (hall 2 (show 2 < 9 by decide)) rfl rfl,(List.forall_mem_cons.2 ⟨e83,(List.forall_mem_cons.2 ⟨hF.val 4 _ _ (hall 4 (show 4 < 9 by decide)) rfl rfl,(List.forall_mem_cons.2 ⟨hF.val 5 _ _ (hall 5 (show 5 < 9 by decide)) rfl rfl,(List.forall_mem_cons.2 ⟨hF.val 6 _ _ (hall 6 (show 6 < 9 by decide)) rfl rfl,(fun _ h=>absurd h List.not_mem_nil)⟩)⟩)⟩)⟩)⟩)⟩)⟩) (by decide)).trans (by kernel_rfl)
                  clear hF hall
                  subst hT
                  clear e81 e83
                  unfold Row at q1 q2
                  have hR2:=rbad (w':=W2) hR.out hB19
                  rw [show erB key' =[.int .i64 3,.string (ky ++ (⟨#[32]⟩ : ByteArray))] by unfold erB;rw [hkyb.out]] at hR2
                  go_wp2_with fail
                  refine bodyPost_ret (results_cells2 rfl _ _ V.heap.size (V.heap.size + 1) 44 53 (stZ 0).toArray [.int .i64 3,.string (ky ++ (⟨#[32]⟩ : ByteArray))].toArray (0,0) (0,0) _ _ rfl rfl q1 q2 Tryz.underlying44 rfl (by kernel_rfl) Tryz.underlying53 rfl (by kernel_rfl)) rfl hR2
               · have he : yv.toList.isEmpty=false:=by rw [← hyv.out,bs_nil,decide_eq_false hv0]
                 have hpv6 : PValN pp w7 pv z9:=PValG.mono (fun _ _ _ h=>h.weak (show pp≤w6.heap.size from Nat.le_of_lt hrow6.out.lt)) hpv
                 have hpv7 : PValN pp w8 pv z9:=hpv6.but (But.of_below hbn'.out)
                 have hok9:=rdR_ok hwo hrr9
                 have hsn8:=(hsn6.out.put (But.of_below hE2) hkg hoff hok9 hpv7 hzl)
                 rw [hds.out] at hsn8
                 have hvsl:=hsn6.out.ok.len
                 have hgt : ((pre ++ zeros (keyT.drop d)).set j pv)[j]? =some pv:=List.getElem?_set_self (by rw [hvsl,keyT_len];exact hj)
                 have hlv : (wrPV pv).length≤2000100:=by have:=rdR_len hwo hrr9;omega
                 have hsz8 : ∀v∈(pre ++ zeros (keyT.drop d)).set j pv,(wrPV v).length≤1099511627776:=fun v hv=>by
                  rcases List.mem_or_eq_of_mem_set hv with hv | rfl
                  · exact hzs.out v hv
                  · omega
                 have cVl:=Lib.hid (rvalue_any ds k _ w8 hsn8.c hsn8.ok hsz8 j pv hgt)
                 have hrp:=hpa8.out.range
                 replace hsn8:=Lib.hid hsn8
                 replace hsz8:=Lib.hid hsz8
                 clear hs1 hs2 hpv hpv6 hpv7 hgt hvsl
                 by_cases hww : wrPV pv=val
                 · have hq : ((bs (wrPV pv)).toList == yv.toList)=true:=by rw [← hyv.out,bsq_eq,bs_list,decide_eq_true hww]
                   have hne : ((bs (wrPV pv)).toList != yv.toList)=false:=by unfold bne;rw [hq];rfl
                   have hP2:=hgood'.out pv (by rw [← okR_eq g (o:=o9) val hwo];unfold okR;rw [hrr9];dsimp only;rw [if_pos ⟨hv0,hww⟩])
                   rw [hdj,show i - 1 + 1=i + 1 - 1 by omega] at hP2
                   have hzset:=zeros_set pv hpre.out hkg'
                   rw [hdj] at hzset
                   rw [hzset] at hsn8 hsz8
                   have hpl7 : (pre ++ (zeros ((keyT.drop d).take (j - d)) ++ [pv])).length=j + 1:=by
                    have h1:=hpre.out
                    have h2 : (zeros ((keyT.drop d).take (j - d))).length=j - d:=by unfold zeros;rw [List.length_map,List.length_take,List.length_drop,keyT_len];omega
                    rw [List.length_append,List.length_append,h1,h2,List.length_singleton]
                    omega
                   generalize pre ++ (zeros ((keyT.drop d).take (j - d)) ++ [pv])=pre2 at *
                   generalize bs (wrPV pv)=yw at *
                   replace hP2:=Lib.hid hP2
                   replace hpl7:=Lib.hid hpl7
                   have ji1:=st_in9' ds hdl
                   have ji2 : cs.toArray.size=ds.toArray.size:=by rw [List.size_toArray,List.size_toArray,hdl,hcl29]
                   have hlz2 : Hid ((j : Int) + 1=((j + 1 : Nat) : Int)):=Lib.hid (by omega)
                   clear hzset hww hrr9 hkg hkg' hoff hok9 hv0 hbad' hgood'
                   go_wp2_with (first
                    | (refine wpList_load_at 44 _ rfl rfl pa 0 rfl ds _ hrp Tryz.underlying44 rfl hi9 ?_)
                    | (go_at_call 43;(with_reducible refine cVl.out.mono ?_);rintro r w9 ⟨rfl,hb9⟩
                       have hrp:=(hpa8.out.keep hb9).range
                       have hrow9:=hrow8.out.keep hb9
                       have hrow9' : w9.heap[pp]? =some (.cells cs.toArray 44 (0,0)):=hrow9
                       have hrow10:=Lib.hid (hrow9.setRow ds)
                       have hsn10:=Lib.hid ((hsn8.out.but (But.of_below hb9)).but (But.row (b:=pp) ds.toArray))
                       have hBt10:=Lib.hid ((hBt8.out.trans (But.of_below (b:=pp) hb9)).trans (But.row (b:=pp) ds.toArray))
                       clear hrow9 hb9)
                    | (refine wpList_store_at 44 _ _ rfl rfl pp ds.toArray rfl rfl 44 cs.toArray hrow9' ji1 ji2 hd1 ?_))
                   go_roundw
                   case rel=>exact ⟨i + 1,j + 1,(j : Int),pre2,ds,by omega,by omega,by go_num,rfl,hlz2,by omega,hP2,hrow10,hsn10,hpl7,hsz8,hBt10⟩
                   case measure=>simp [intOf];omega
                 · have hq : ((bs (wrPV pv)).toList == yv.toList)=false:=by rw [← hyv.out,bsq_eq,bs_list,decide_eq_false hww]
                   have hne : ((bs (wrPV pv)).toList != yv.toList)=true:=by unfold bne;rw [hq];rfl
                   have hR:=Lib.hid (show rdLine s.data.toList= .bad key' by rw [hw2k.out,hbad'.out (by rw [← okR_eq g (o:=o9) val hwo];unfold okR;rw [hrr9];dsimp only;rw [if_neg (fun h=>hww h.2)])])
                   generalize bs (wrPV pv)=yw at *
                   clear hgood' hbad' hww hrr9
                   go_upto_region 19 with (first
                    | (refine wpList_load_at 44 _ rfl rfl pa 0 rfl ds _ hrp Tryz.underlying44 rfl hi9 ?_)
                    | (go_at_call 43;(with_reducible refine cVl.out.mono ?_);rintro r w9 ⟨rfl,hb9⟩
                       have hx9:=Lib.hid (hx8.out.keep hb9)
                       have hr9:=Lib.hid (hr8.out.keep hb9)
                       have hW9:=Lib.hid (hW8.out.trans (hb9.mono hW8.out.size))
                       clear hb9))
                   have hkk:=hkg
                   obtain ⟨ky,hkyb⟩ : ∃ky,bs key' =ky:=⟨_,rfl⟩
                   have hkyA:=Lib.hid (fun W' kb (h : Strs W' (some ⟨kb,0,none⟩) 26 ((keyT.map (fun x : List UInt8 × Tag=>x.1)).map bs))=>(show W'.cell? ⟨kb,j,none⟩=some (.string ky) from by have:=(keys_at h hkk hj).1.2;dsimp only at this;rwa [hkyb] at this))
                   have hqk9 : Hid (¬9223372036854775807 < ky.size + 1):=Lib.hid (by have h1:=key_small ⟨j,hj⟩;rw [List.getD_eq_getElem?_getD,List.getElem?_map,hkk] at h1;dsimp only [Option.map,Option.getD] at h1;rw [hkyb] at h1;omega)
                   replace hkyb:=Lib.hid hkyb
                   have cKn:=Lib.hid (fun W'=>rkeys_new W')
                   clear hkk
                   refine region_iw tbRe dsRe (vsRe j ky) (fun L T W=>RdI3 V j ky (L 1) (L 3) (L 4) (L 8) (T.getD 81 undef) (T.getD 83 undef) W) rfl (by decide) (by kernel_rfl) ?hlt ?hstep ?hdone ?hstart
                   case hstart=>exact ⟨hW9.out.trans ((drewN_below 1).mono hW9.out.size),hx9.out.keep (drewN_below 1),(by show Row _ _ _ (if (Array.replicate 9 false).getD 8 true=true then _ else _);rw [if_neg (inv_not (n:=9) (i:=8) (by decide))];exact hr9.out.keep (drewN_below 1)),fun h=>absurd h (inv_not (n:=9) (i:=1) (by decide)),fun h=>absurd h (inv_not (n:=9) (i:=3) (by decide))⟩
                   case hlt=>
                    intro ix o ho
                    have hi:=(Array.getElem?_eq_some_iff.1 ho).1
                    match ix,hi with
                    | 0,_=>obtain rfl:=Option.some.inj ho;decide
                    | 1,_=>obtain rfl:=Option.some.inj ho;decide
                    | 2,_=>obtain rfl:=Option.some.inj ho;decide
                    | 3,_=>obtain rfl:=Option.some.inj ho;decide
                    | 4,_=>obtain rfl:=Option.some.inj ho;decide
                    | 5,_=>obtain rfl:=Option.some.inj ho;decide
                    | 6,_=>obtain rfl:=Option.some.inj ho;decide
                    | 7,_=>obtain rfl:=Option.some.inj ho;decide
                    | 8,_=>obtain rfl:=Option.some.inj ho;decide
                   case hstep=>
                    intro T1 hE L T W ix o hF hW hc ho hLi hd K hK
                    have hN : T1.size=90:=by rw [hE];rfl
                    have f2 : T.getD 2 undef= .pointer (some ⟨V.heap.size,0,none⟩):=(hF.old 2 (by decide)).trans (by rw [hE];rfl)
                    have f3 : T.getD 3 undef= .pointer (some ⟨V.heap.size + 1,0,none⟩):=(hF.old 3 (by decide)).trans (by rw [hE];rfl)
                    have f9 : T.getD 9 undef= .int .i64 ↑j:=(hF.old 9 (by decide)).trans (by rw [hE];rfl)
                    clear hE
                    replace hF:=Lib.hid hF
                    replace hW:=Lib.hid hW
                    replace hK:=Lib.hid hK
                    have hi:=(List.getElem?_eq_some_iff.1 ho).1
                    match ix,hi with
                    | 0,_=>
                      obtain rfl:=Option.some.inj ho
                      clear hd ho hi hc hLi
                      exact st_val (v:= .agg (stZ 0).toArray) (w':=W) (want_none rfl) (by unfold execOp;simp only [List.map_toArray,List.map_nil,Act.eval,Sem.run_bind,run_build (P:=Tryz.prog) W _ _ _ st_built0,Result.andThen_ok,Sem.run_pure]) (hK.out _ _ (hF.out.putv (k:=0) (s:=80) rfl (by decide) hN (by decide) rfl (by dsimp only;rw [gd_ne (show 80≠81 by decide),gd_ne (show 80≠83 by decide)];exact hW.out)))
                    | 1,_=>
                      obtain rfl:=Option.some.inj ho
                      have n8 : ¬L 8=true:=fun h=>by have:=hc 8 1 h (by decide);rw [hLi] at this;cases this
                      have cc:=Lib.hid (cKn.out W)
                      clear hd ho hi hc
                      refine st_call (want_none rfl) (by unfold execOp;go_simp) cc.out ?_
                      rintro r w19 ⟨kb,rfl,hKs,hb,hfr⟩
                      exact ⟨_,rfl,hK.out _ _ (hF.out.put (k:=1) (s:=81) rfl (by decide) hN (by decide) (fun u hu=>by cases hu) (by dsimp only;rw [gd_ne (show 81≠83 by decide)];exact (by rw [gd_eq (by rw [hF.out.size,hN];decide)];exact { hW.out.grow hb with s81:=fun _ _=>⟨kb,rfl,hKs,by have:=hW.out.re.lt;omega⟩ })))⟩
                    | 2,_=>
                      obtain rfl:=Option.some.inj ho
                      clear hd ho hi hc hLi
                      exact st_val (v:= .int .i64 ↑j) (w':=W) (want_none rfl) (by unfold execOp;dsimp only [Act.eval];simp only [f9];go_simp) (hK.out _ _ (hF.out.putv (k:=2) (s:=82) rfl (by decide) hN (by decide) rfl (by dsimp only;rw [gd_ne (show 82≠81 by decide),gd_ne (show 82≠83 by decide)];exact hW.out)))
                    | 3,_=>
                      obtain rfl:=Option.some.inj ho
                      have l1 : L 1=true:=dep_of hd (n:=1) (by decide)
                      have l2 : L 2=true:=dep_of hd (n:=2) (by decide)
                      have e82 : T.getD 82 undef= .int .i64 ↑j:=hF.out.val 2 82 _ l2 rfl rfl
                      obtain ⟨kb,e81,hKs,hkb⟩:=hW.out.s81 l1 hLi
                      have hj26:=hj
                      have hj27 : (j : Int) < 26:=by omega
                      clear hd ho hi hc
                      exact st_val (v:= .pointer (some ⟨kb,j,none⟩)) (w':=W) (want_none rfl) (by unfold execOp;dsimp only [Act.eval];simp only [e81,e82];go_simp) (hK.out _ _ (hF.out.put (k:=3) (s:=83) rfl (by decide) hN (by decide) (fun u hu=>by cases hu) (by dsimp only;rw [gd_ne (show 83≠81 by decide)];exact (by rw [gd_eq (by rw [hF.out.size,hN];decide)];exact { hW.out with s81:=fun _ h=>absurd h (by simp),s83:=fun _ _=>⟨kb,rfl,hkb,hkyA.out W kb hKs⟩ }))))
                    | 4,_=>
                      obtain rfl:=Option.some.inj ho
                      have l3 : L 3=true:=dep_of hd (n:=3) (by decide)
                      obtain ⟨kb,e83,hkb,hcl⟩:=hW.out.s83 l3 hLi
                      clear hd ho hi hc
                      exact st_val (v:= .string ky) (w':=W) (want_none rfl) (by unfold execOp;dsimp only [Act.eval];simp only [e83];go_simp) (hK.out _ _ (hF.out.putv (k:=4) (s:=84) rfl (by decide) hN (by decide) rfl (by dsimp only;rw [gd_ne (show 84≠81 by decide),gd_ne (show 84≠83 by decide)];exact { hW.out with s83:=fun _ h=>absurd h (by simp) })))
                    | 5,_=>
                      obtain rfl:=Option.some.inj ho
                      have l4 : L 4=true:=dep_of hd (n:=4) (by decide)
                      have e84 : T.getD 84 undef= .string ky:=hF.out.val 4 84 _ l4 rfl rfl
                      have hqk:=hqk9.out
                      clear hd ho hi hc hLi
                      exact st_val (v:= .string (ky ++ (⟨#[32]⟩ : ByteArray))) (w':=W) (want_none rfl) (by unfold execOp;dsimp only [Act.eval];simp only [e84];go_simp) (hK.out _ _ (hF.out.putv (k:=5) (s:=85) rfl (by decide) hN (by decide) rfl (by dsimp only;rw [gd_ne (show 85≠81 by decide),gd_ne (show 85≠83 by decide)];exact hW.out)))
                    | 6,_=>
                      obtain rfl:=Option.some.inj ho
                      have l5 : L 5=true:=dep_of hd (n:=5) (by decide)
                      have e85 : T.getD 85 undef= .string (ky ++ (⟨#[32]⟩ : ByteArray)):=hF.out.val 5 85 _ l5 rfl rfl
                      clear hd ho hi hc hLi
                      exact st_val (v:= .agg #[.int .i64 3,.string (ky ++ (⟨#[32]⟩ : ByteArray))]) (w':=W) (want_none rfl) (by unfold execOp;simp only [List.map_toArray,List.map_cons,List.map_nil,Act.eval,e85,Sem.run_bind,run_build (P:=Tryz.prog) W _ _ _ (er_built ky),Result.andThen_ok,Sem.run_pure]) (hK.out _ _ (hF.out.putv (k:=6) (s:=86) rfl (by decide) hN (by decide) rfl (by dsimp only;rw [gd_ne (show 86≠81 by decide),gd_ne (show 86≠83 by decide)];exact hW.out)))
                    | 7,_=>
                      obtain rfl:=Option.some.inj ho
                      have l0 : L 0=true:=dep_of hd (n:=0) (by decide)
                      have e80 : T.getD 80 undef= .agg (stZ 0).toArray:=hF.out.val 0 80 _ l0 rfl rfl
                      have hrs:=hW.out.rs
                      clear hd ho hi hc
                      exact st_do (w':=W.setRow V.heap.size (stZ 0).toArray) (want_none rfl) (run_store_ 44 (.tmp 2) (.tmp 80) rfl V.heap.size _ (show T.getD 2 undef=_ from f2) (show T.getD 80 undef=_ from e80) _ _ hrs (by kernel_rfl) rfl stZ_one) (hK.out _ _ (hF.out.pass (k:=7) rfl hW.out.stz))
                    | 8,_=>
                      obtain rfl:=Option.some.inj ho
                      have l6 : L 6=true:=dep_of hd (n:=6) (by decide)
                      have e86 : T.getD 86 undef= .agg #[.int .i64 3,.string (ky ++ (⟨#[32]⟩ : ByteArray))]:=hF.out.val 6 86 _ l6 rfl rfl
                      have l5 : L 5=true:=hc 6 5 l6 (by decide)
                      have l4 : L 4=true:=hc 5 4 l5 (by decide)
                      have l3 : L 3=true:=hc 4 3 l4 (by decide)
                      have hre:=hW.out.re
                      rw [hLi] at hre
                      have hl3:=Lib.hid l3
                      have hl4:=Lib.hid l4
                      clear hd ho hi hc
                      exact st_do (w':=W.setRow (V.heap.size + 1) #[.int .i64 3,.string (ky ++ (⟨#[32]⟩ : ByteArray))]) (want_none rfl) (run_store_ 53 (.tmp 3) (.tmp 86) rfl (V.heap.size + 1) _ (show T.getD 3 undef=_ from f3) (show T.getD 86 undef=_ from e86) _ _ hre (by kernel_rfl) rfl (er_one9 ky)) (hK.out _ _ (hF.out.pass (k:=8) rfl (hW.out.ste hl3.out hl4.out)))
                   case hdone=>
                    intro L T W2 hF hW hall
                    obtain ⟨z81,e81⟩ : ∃z,T.getD 81 undef=z:=⟨_,rfl⟩
                    obtain ⟨z83,e83⟩ : ∃z,T.getD 83 undef=z:=⟨_,rfl⟩
                    have q1:=hW.rs
                    have q2:=hW.re
                    rw [hall 8 (by decide),if_pos rfl] at q2
                    have hB19:=hW.bl
                    clear hW
                    have hT : T=#[.string s,undef,.pointer (some ⟨V.heap.size,0,none⟩),.pointer (some ⟨V.heap.size + 1,0,none⟩),.slice (some ⟨bl,ol,none⟩) m cl,.pointer (some ⟨pp,0,none⟩),.int .i64 ↑j,.int .i64 ↑i,.int .i64 ↑n0,.int .i64 ↑j,.string yv,.pointer (some ⟨pa,0,none⟩),.bool true,.string s,.slice (some ⟨bl,ol,none⟩) m cl,z15,.slice (some ⟨bl,ol,none⟩) m cl,.pointer (some ⟨bl,ol,none⟩),.string y0,.int .i64 ↑k,.agg (stZ ↑k).toArray,.pointer (some ⟨pp,0,none⟩),.int .i64 ↑k,.bool false,undef,undef,.int .i64 ↑i,.slice (some ⟨bl,ol,none⟩) m cl,.int .i64 ↑m,.bool true,u30,u31,.slice (some ⟨bl,ol,none⟩) m cl,.int .i64 ↑i,.pointer (some ⟨bl,ol + i,none⟩),.string yt,.int .i64 ↑n0,.int .i64 ↑n0,.bool true,.slice (some ⟨kb,0,none⟩) 26 26,.slice (some ⟨bl,ol,none⟩) m cl,.int .i64 ↑i,.pointer (some ⟨bl,ol + i,none⟩),.string yt,.int .i64 ↑n0,.string (yt.extract 0 n0),.int .i64 ↑j,.int .i64 ↑j,.int .i64 lz,.bool false,u50,u51,.int .i64 ↑j,.slice (some ⟨bl,ol,none⟩) m cl,.int .i64 ↑i,.pointer (some ⟨bl,ol + i,none⟩),.string yt,.int .i64 ↑n0,.int .i64 (↑n0 + 1),.string yv,.tuple #[.agg ds.toArray,.bool true],.agg cs.toArray,.int .i64 ↑j,.string yv,.tuple #[.agg ds.toArray,.bool true],.agg ds.toArray,.bool true,.bool true,.bool false,.bool false,.string yv,.bool false,.bool false,.bool false,.agg ds.toArray,.int .i64 ↑j,.string yw,.string yv,.bool true,.bool true,.agg (stZ 0).toArray,z81,.int .i64 ↑j,z83,.string ky,.string (ky ++ (⟨#[32]⟩ : ByteArray)),.agg #[.int .i64 3,.string (ky ++ (⟨#[32]⟩ : ByteArray))],u87,undef,undef]:=(hF.fin [(80,.agg (stZ 0).toArray),(81,z81),(82,.int .i64 ↑j),(83,z83),(84,.string ky),(85,.string (ky ++ (⟨#[32]⟩ : ByteArray))),(86,.agg #[.int .i64 3,.string (ky ++ (⟨#[32]⟩ : ByteArray))])] [80,81,82,83,84,85,86] rfl (List.forall_mem_cons.2 ⟨hF.val 0 _ _ (hall 0 (show 0 < 9 by decide)) rfl rfl,(List.forall_mem_cons.2 ⟨e81,(List.forall_mem_cons.2 ⟨hF.val 2 _ _ (hall 2 (show 2 < 9 by decide)) rfl rfl,(List.forall_mem_cons.2 ⟨e83,(List.forall_mem_cons.2 ⟨hF.val 4 _ _ (hall 4 (show 4 < 9 by decide)) rfl rfl,(List.forall_mem_cons.2 ⟨hF.val 5 _ _ (hall 5 (show 5 < 9 by decide)) rfl rfl,(List.forall_mem_cons.2 ⟨hF.val 6 _ _ (hall 6 (show 6 < 9 by decide)) rfl rfl,(fun _ h=>absurd h List.not_mem_nil)⟩)⟩)⟩)⟩)⟩)⟩)⟩) (by decide)).trans (by kernel_rfl)
                    clear hF hall
                    subst hT
                    clear e81 e83
                    unfold Row at q1 q2
                    have hR2:=rbad (w':=W2) hR.out hB19
                    rw [show erB key' =[.int .i64 3,.string (ky ++ (⟨#[32]⟩ : ByteArray))] by unfold erB;rw [hkyb.out]] at hR2
                    go_wp2_with fail
                    refine bodyPost_ret (results_cells2 rfl _ _ V.heap.size (V.heap.size + 1) 44 53 (stZ 0).toArray [.int .i64 3,.string (ky ++ (⟨#[32]⟩ : ByteArray))].toArray (0,0) (0,0) _ _ rfl rfl q1 q2 Tryz.underlying44 rfl (by kernel_rfl) Tryz.underlying53 rfl (by kernel_rfl)) rfl hR2
     · obtain rfl : i=m:=by omega
       have hdrop : toks.drop (i - 1)=[]:=List.drop_eq_nil_of_le (by have:=hlt9.out;omega)
       have hE9 : rdLine s.data.toList= .ok k (pre ++ zeros (keyT.drop d)):=by
        rw [hw2k.out,hP.out,hdrop]
        rfl
       have hrng:=hrow.out.range
       have hi9:=st_in9 cs hsn.out.len
       have hi8:=st_in9' cs hsn.out.len
       have ho8:=st_old cs hsn.out.len
       have hone:=one_arr hsn.out.one
       have q1:=hxr.out
       have q2:=hrr.out.setRow_other (b2:=V.heap.size) (by omega) cs.toArray
       have q3:=(hxr.out.setRow cs).setRow_other (b2:=V.heap.size + 1) (by omega) erL.toArray
       have q4:=q2.setRow erL
       have hfin : RReadRN s.data.toList V (.returned (.tuple #[.agg cs.toArray,.agg erL.toArray])) ((wr.setRow V.heap.size cs.toArray).setRow (V.heap.size + 1) erL.toArray):=
        .inl ⟨k,_,cs,hE9,rfl,((hsn.out.but' (But.row (b:=V.heap.size) cs.toArray) (by omega)).but' (But.row (b:=V.heap.size + 1) erL.toArray) (by omega)).low (by omega),below_setRow (below_setRow hWr.out (Nat.le_refl _) _) (Nat.le_succ _) _⟩
       unfold Row at q1 q2 q3 q4
       replace hfin:=Lib.hid hfin
       go_wp2_with (first
        | (refine wpList_load_at 44 _ rfl rfl pp 0 rfl cs _ hrng Tryz.underlying44 rfl hi9 ?_)
        | (refine wpList_build_as 53 _ rfl rfl erL.toArray (by kernel_rfl) ?_)
        | (refine wpList_store_at 44 _ _ rfl rfl V.heap.size cs.toArray rfl rfl 44 (stZ 0).toArray q1 hi8 ho8 hone ?_)
        | (refine wpList_store_at 53 _ _ rfl rfl (V.heap.size + 1) erL.toArray rfl rfl 53 erL.toArray q2 (by kernel_rfl) rfl (by decide +kernel) ?_))
       refine bodyPost_ret (results_cells2 rfl _ _ V.heap.size (V.heap.size + 1) 44 53 cs.toArray erL.toArray (0,0) (0,0) _ _ rfl rfl q3 q4 Tryz.underlying44 rfl hi8 Tryz.underlying53 rfl (by kernel_rfl)) rfl hfin.out
end Go.Proofs.YtmicohmbmgbnkaaGreatDoor
