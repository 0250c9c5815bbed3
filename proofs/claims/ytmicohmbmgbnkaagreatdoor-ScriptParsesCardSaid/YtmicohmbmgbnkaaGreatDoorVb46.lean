/- The reference's Parse. (printed by wip/gen_smu.py) -/
import Derived.Test.YtmicohmbmgbnkaaGreatDoorVb45
import Derived.Test.YtmicohmbmgbnkaaGreatDoorVb41
namespace Go.Proofs.YtmicohmbmgbnkaaGreatDoor
open Go Go.RowKit Go.Shelf
open Go.Lib (itoa)
def at3 (m : Nat) (a : List UInt8) : ByteArray:=spS [scriptS,bs (itoa ((m : Int) + 1)),bs a]
theorem at3_eq {m : Nat} {a : List UInt8} {yd : ByteArray} (h : bs (itoa ((m : Int) + 1))=yd) : at3 m a=((((⟨#[115,99,114,105,112,116,32]⟩ : ByteArray) ++ yd) ++ ⟨#[32]⟩) ++ (bs a ++ ⟨#[32]⟩)):=by
 unfold at3
 rw [h]
 unfold spS
 simp only [List.foldl_cons,List.foldl_nil,ByteArray.append_assoc]
 rfl
def scrE (e : Int) : List Value:=[.int .i64 e,.string ⟨#[115,99,114,105,112,116,32]⟩]
def RPsR (ls : List (List UInt8)) (m : Nat) (a : List UInt8) (W : World) (r : Ending) (w' : World) : Prop:=
 (m=ls.length→∃(v : Value) (rows : List (Int × List PV × List Value)),r= .returned (.tuple #[v,.agg erZ])∧OwnR w' W.heap.size 29 44 v (rows.map fun s=>s.2.2)∧RowsO v.ownBlock w' ls rows∧rows.length=m∧Below W.heap.size W w')∧
 (m < ls.length→r= .returned (.tuple #[.slice none 0 0,.agg #[.int .i64 3,.string (at3 m a)]])∧Below W.heap.size W w')
theorem er_agg3 (y : ByteArray) : Tryz.prog.built 53 [(0,.int .i64 3),(1,.string y)]=some #[.int .i64 3,.string y]:=by kernel_rfl
theorem wrap6k {i : Nat} (h : i≤1000) : IntKind.i64.wrap ((i : Int) + 1)=(i : Int) + 1:=by
 have : ∀i : Fin 1001,IntKind.i64.wrap ((i.1 : Int) + 1)=(i.1 : Int) + 1:=by decide +kernel
 exact this ⟨i,by omega⟩
theorem er_one3 (y : ByteArray) : (#[.int .i64 3,.string y] : Array Value).all (·.oneCell')=true:=by simp [Value.oneCell']
theorem setRow_same {W : World} {g : Nat} {t : TypeId} {cs : List Value} (h : Row W g t cs) : W.setRow g cs.toArray=W:=by
 have h9 : (W.setRow g cs.toArray).heap=W.heap:=by
  unfold World.setRow
  dsimp only
  apply Array.ext
  · simp
  · intro i h1 h2
    rw [Array.getElem_modify]
    split
    · rename_i e
      subst e
      have:=(Array.getElem?_eq_some_iff.1 h).2
      rw [this]
    · rfl
 calc W.setRow g cs.toArray={ W with heap:=(W.setRow g cs.toArray).heap }:=rfl
  _=W:=by rw [h9]
structure RqI (V : World) (b p7 : Nat) (y z : ByteArray) (l12 : Bool) (W : World) : Prop where
 bl : Below V.heap.size V W
 rs : Row W p7 53 [.int .i64 3,.string y]
 re : Row W b 53 (if l12=true then [.int .i64 3,.string z] else erL)
theorem RqI.grow {V : World} {b p7 : Nat} {y z : ByteArray} {l12 : Bool} {W W' : World} (h : RqI V b p7 y z l12 W) (hb : Below W.heap.size W W') : RqI V b p7 y z l12 W':=⟨h.bl.trans (hb.mono h.bl.size),h.rs.keep hb,h.re.keep hb⟩
def dsRq : List (Option Nat):=[some 44,some 45,some 46,some 47,some 48,some 49,some 50,some 51,some 52,some 53,some 54,some 2,none]
def tbRq : List (List Nat):=[[],[0],[],[2],[3],[4],[5],[],[7],[6,8],[1,9],[4],[0,1,2,3,4,5,6,7,8,9,10,11]]
def vsRq (p8 : Nat) (i : Nat) (yp : ByteArray) (yd : ByteArray) : List (Option Value):=[some (.pointer (some ⟨p8,0,none⟩)),some (.int .i64 3),some (.int .i64 ↑i),some (.int .i64 (↑i + 1)),some (.string yd),some (.string ((⟨#[115,99,114,105,112,116,32]⟩ : ByteArray) ++ yd)),some (.string ((⟨#[115,99,114,105,112,116,32]⟩ : ByteArray) ++ yd ++ (⟨#[32]⟩ : ByteArray))),some (.pointer (some ⟨p8,1,none⟩)),some (.string yp),some (.string ((⟨#[115,99,114,105,112,116,32]⟩ : ByteArray) ++ yd ++ (⟨#[32]⟩ : ByteArray) ++ yp)),some (.agg #[.int .i64 3,.string ((⟨#[115,99,114,105,112,116,32]⟩ : ByteArray) ++ yd ++ (⟨#[32]⟩ : ByteArray) ++ yp)]),some (.slice none 0 0),none]
set_option maxRecDepth 100000 in
set_option maxHeartbeats 8000000 in
theorem rparse_nil (U0 : World) : Calls Tryz.prog 29 #[.string ⟨#[]⟩] U0 fun r w'=>r= .returned (.tuple #[.slice none 0 0,.agg erZ])∧Below U0.heap.size U0 w':=by
 have hc : (U0.alloc (.cells erZ 53)).heap[U0.heap.size]? =_:=heap_new U0 (.cells erZ 53)
 have hsr:=below_setRow (below_new U0 (.cells erZ 53)) (Nat.le_refl _) erZ
 go_enter Tryz.func29,Tryz.ntmps29
 go_wp2_with (first
  | (refine wpList_alloc_row 53 rfl rfl erZ er_zero ?_)
  | (refine wpList_build_as 53 _ rfl rfl erZ (by kernel_rfl) ?_)
  | (refine wpList_store_at 53 _ _ rfl rfl U0.heap.size erZ rfl rfl 53 erL.toArray hc (by kernel_rfl) rfl (by decide +kernel) ?_))
 refine bodyPost_ret (results_tmp_cell rfl _ _ U0.heap.size 53 erZ (0,0) _ (.slice none 0 0) rfl (hsetRow _ _ _ _ _ _ hc) Tryz.underlying53 rfl (by kernel_rfl) rfl) rfl ⟨rfl,hsr⟩
theorem ne_nil_size {s : ByteArray} (h : s.data.toList≠[]) : ¬s.size=0∧s.toList.isEmpty=false:=by
 have h0 : ¬s.size=0:=fun e=>h (List.eq_nil_of_length_eq_zero (by rw [Array.length_toList];exact e))
 have:=bs_ne0 h
 rw [bs_back] at this
 exact ⟨h0,this⟩
set_option maxRecDepth 100000 in
set_option maxHeartbeats 8000000 in
theorem rparse_bad (s : ByteArray) (U0 : World) (hs : s.size≤1000000) (hne : s.data.toList≠[]) (e : Int) (n : Nat) (hn : (splitL 10 s.data.toList).length=n + 1) (he : (e=2∧1000 < n)∨(e=3∧n≤1000∧∃x,(splitL 10 s.data.toList)[n]? =some x∧x≠[])) :
 Calls Tryz.prog 29 #[.string s] U0 fun r w'=>r= .returned (.tuple #[.slice none 0 0,.agg (scrE e).toArray])∧Below U0.heap.size U0 w':=by
 have hemp:=(ne_nil_size hne).2
 have hs0:=(ne_nil_size hne).1
 obtain ⟨W1,hW1⟩ : ∃x,U0.alloc (.cells erZ 53)=x:=⟨_,rfl⟩
 have hb1:=below_new U0 (.cells erZ 53)
 have hc1 : Row (U0.alloc (.cells erZ 53)) U0.heap.size 53 erL:=heap_new U0 (.cells erZ 53)
 rw [hW1] at hb1 hc1
 have cS:=rsplit_any 10 s W1 (by omega)
 rw [c10] at cS
 have hl : ((splitL 10 s.data.toList).map bs).length=n + 1:=by rw [List.length_map,hn]
 have hu1 : U0.heap.size < W1.heap.size:=hc1.lt
 replace cS:=Lib.hid cS
 replace hb1:=Lib.hid hb1
 replace hc1:=Lib.hid hc1
 replace hl:=Lib.hid hl
 replace he:=Lib.hid he
 clear hne hn hs0
 go_enter Tryz.func29,Tryz.ntmps29
 go_upto_region 4 with (first
  | (refine wpList_alloc_row 53 rfl rfl erZ er_zero ?_;try rw [hW1])
  | (go_at_call 48;(with_reducible refine cS.out.mono ?_);rintro r w2 ⟨v,rfl,hO,hb2⟩
     obtain ⟨A,c,rfl,hS⟩:=hO.strs
     rw [hl.out] at hS ⊢
     have hB2:=Lib.hid (hb1.out.trans (hb2.mono hb1.out.size))
     have hc:=hc1.out.keep hb2
     have hsr:=Lib.hid (below_setRow hB2.out (Nat.le_refl _) (scrE e).toArray)
     replace hS:=Lib.hid hS
     unfold Row at hc
     clear hb2 hO))
 rcases he.out with ⟨rfl,hn⟩ | ⟨rfl,hn,x,hx,hxn⟩
 · have k2 : (1001 : Int) < ((n + 1 : Nat) : Int):=by omega
   go_wp2_with (first
    | (refine wpList_build_as 53 _ rfl rfl (scrE 2).toArray (by kernel_rfl) ?_)
    | (refine wpList_store_at 53 _ _ rfl rfl U0.heap.size (scrE 2).toArray rfl rfl 53 erL.toArray hc (by kernel_rfl) rfl (by decide +kernel) ?_))
   refine bodyPost_ret (results_tmp_cell rfl _ _ U0.heap.size 53 (scrE 2).toArray (0,0) _ (.slice none 0 0) rfl (hsetRow _ _ _ _ _ _ hc) Tryz.underlying53 rfl (by kernel_rfl) rfl) rfl ⟨rfl,hsr.out⟩
 · have k1 : ((n + 1 : Nat) : Int) - 1=(n : Int):=by omega
   have k2 : ¬(1001 : Int) < ((n + 1 : Nat) : Int):=by omega
   obtain ⟨b9,o9,x9,rfl,hb9,hx9,hcn⟩:=hS.out.at_ (j:=n) (by omega)
   rw [List.getElem?_map,hx] at hx9
   obtain rfl:=Option.some.inj hx9
   have hyx:=bs_ne0 hxn
   generalize bs x=y at *
   clear hx9 hx hxn
   go_wp2_with (first
    | (refine wpList_build_as 53 _ rfl rfl (scrE 3).toArray (by kernel_rfl) ?_)
    | (refine wpList_store_at 53 _ _ rfl rfl U0.heap.size (scrE 3).toArray rfl rfl 53 erL.toArray hc (by kernel_rfl) rfl (by decide +kernel) ?_))
   refine bodyPost_ret (results_tmp_cell rfl _ _ U0.heap.size 53 (scrE 3).toArray (0,0) _ (.slice none 0 0) rfl (hsetRow _ _ _ _ _ _ hc) Tryz.underlying53 rfl (by kernel_rfl) rfl) rfl ⟨rfl,hsr.out⟩
set_option maxRecDepth 100000 in
set_option maxHeartbeats 8000000 in
theorem rparse_lines (s : ByteArray) (ls : List (List UInt8)) (U0 : World) (hs : s.size≤1000000) (hps : splitL 10 s.data.toList=ls ++ [[]]) (hne : s.data.toList≠[]) (h1000 : ls.length≤1000) (m : Nat) (a : List UInt8) (hmn : m≤ls.length) (hg : ∀(j : Nat) l,j < m→ls[j]? =some l→∃k vs,rdLine l= .ok k vs) (hb : ∀l,ls[m]? =some l→rdLine l= .bad a) :
 Calls Tryz.prog 29 #[.string s] U0 (RPsR ls m a U0):=by
 obtain ⟨i0,hi0,hz0,hz1,hz2⟩ : ∃i,Tryz.prog.info? 44=some i∧i.zero=some (.agg (stZ 0).toArray)∧i.size=29∧i.bytes≤1000:=by
  have h:=step_info
  cases hq : Tryz.prog.info? 44 with
  | none=>rw [hq] at h;cases h
  | some i=>
    rw [hq] at h
    injection h with h
    injection h with h1 h2
    injection h2 with h2 h3
    exact ⟨i,rfl,h1,h2,of_decide_eq_true h3⟩
 have hemp:=(ne_nil_size hne).2
 have hs0:=(ne_nil_size hne).1
 have hsub:=fun p (hp : p∈splitL 10 s.data.toList)=>split_size p hp
 have hsl : s.data.toList.length=s.size:=by rw [Array.length_toList];rfl
 rw [hsl] at hsub
 obtain ⟨W1,hW1⟩ : ∃x,U0.alloc (.cells erZ 53)=x:=⟨_,rfl⟩
 have hb1:=below_new U0 (.cells erZ 53)
 have hc1 : Row (U0.alloc (.cells erZ 53)) U0.heap.size 53 erL:=heap_new U0 (.cells erZ 53)
 rw [hW1] at hb1 hc1
 have hu1 : U0.heap.size < W1.heap.size:=hc1.lt
 have cS:=rsplit_any 10 s W1 (by omega)
 rw [c10] at cS
 rw [hps] at cS hsub
 obtain ⟨n,hn⟩ : ∃n,ls.length=n:=⟨_,rfl⟩
 have hn1 : ((ls ++ [([] : List UInt8)]).map bs).length=n + 1:=by rw [List.length_map,List.length_append,hn];rfl
 rw [hn] at h1000 hmn
 have k1 : ((n + 1 : Nat) : Int) - 1=(n : Int):=by omega
 have k2 : decide ((1001 : Int) < (n : Int) + 1)=false:=decide_eq_false (by omega)
 replace cS:=Lib.hid cS
 replace hb1:=Lib.hid hb1
 replace hc1:=Lib.hid hc1
 replace hsub:=Lib.hid hsub
 replace hg:=Lib.hid hg
 replace hb:=Lib.hid hb
 replace hn1:=Lib.hid hn1
 have hnk:=Lib.hid hn
 clear hps hne hsl hn hs0
 go_enter Tryz.func29,Tryz.ntmps29
 go_upto_region 4 with (first
  | (refine wpList_alloc_row 53 rfl rfl erZ er_zero ?_;try rw [hW1])
  | (go_at_call 48;(with_reducible refine cS.out.mono ?_);rintro r wa ⟨v,rfl,hO,hb2⟩
     obtain ⟨As,cs9,rfl,hS⟩:=hO.strs
     rw [hn1.out] at hS ⊢
     have hB2:=Lib.hid (hb1.out.trans (hb2.mono hb1.out.size))
     have hEa:=Lib.hid (hc1.out.keep hb2)
     have hua:=Lib.hid (Nat.lt_of_lt_of_le hu1 hb2.size)
     have hO1:=Lib.hid (OwnR.nil_ wa wa.heap.size 29 44)
     replace hS:=Lib.hid hS
     clear hb2 hO))
 obtain ⟨b9,o9,x9,rfl,hb9,hx9,hcn⟩:=hS.out.at_ (j:=n) (by omega)
 rw [List.getElem?_map,List.getElem?_append_right (by rw [hnk.out];exact Nat.le_refl _),hnk.out,Nat.sub_self] at hx9
 obtain rfl : (⟨#[]⟩ : ByteArray)=x9:=Option.some.inj hx9
 go_wp2_with fail
 clear hcn hx9
 go_loopw [5,6] (fun av jv wr=> ∃(i : Nat) (rows : List (Int × List PV × List Value)) (ov : Value),i≤m∧ov=av∧jv= .int .i64 i∧Hid (OwnR wr wa.heap.size 29 44 ov (rows.map fun s=>s.2.2))∧Hid (RowsO ov.ownBlock wr ls rows)∧Hid (rows.length=i)∧Hid (Below wa.heap.size wa wr)) (fun _ jv _=>n - (intOf jv).toNat)
 case atStart=>exact ⟨0,[],_,Nat.zero_le _,rfl,rfl,hO1,Lib.hid (fun j s h=>by cases h),Lib.hid rfl,Lib.hid (Below.refl _ _)⟩
 case round=>
  clear hO1
  obtain ⟨i,rows,ov,hi,rfl,rfl,hO,hR,hL,hB⟩:=hrel
  have hBw:=Lib.hid (hB2.out.trans (hB.out.mono hB2.out.size))
  have hE:=Lib.hid (hEa.out.keep hB.out)
  have hue : Hid (U0.heap.size < wr.heap.size):=Lib.hid (Nat.lt_of_lt_of_le hua.out hB.out.size)
  have hwk:=wrap6k (i:=i) (by omega)
  generalize wr=wv at *
  by_cases hlt : i < n
  · have hlt' : (i : Int) + 1 < ((n + 1 : Nat) : Int):=by omega
    have h0i : (0 : Int)≤(i : Int):=Int.natCast_nonneg _
    have hin : (i : Int) < ((n + 1 : Nat) : Int):=by omega
    obtain ⟨l,hl⟩ : ∃l,ls[i]? =some l:=⟨ls[i]'(by rw [hnk.out];exact hlt),List.getElem?_eq_getElem _⟩
    have hla : (ls ++ [([] : List UInt8)])[i]? =some l:=by rw [List.getElem?_append_left (by rw [hnk.out];exact hlt)];exact hl
    obtain ⟨hc0,_⟩:=strs_cell (hS.out.keep hB.out) (j:=i) (s:=bs l) (by rw [List.getElem?_map,hla];rfl)
    have hll:=hsub.out l (List.mem_of_getElem? hla)
    have cR:=rread_anyN (bs l) wv (by rw [bs_size];omega)
    rw [bs_list] at cR
    by_cases him : i < m
    · obtain ⟨k,vs,hr⟩:=hg.out i l him hl
      replace cR:=Lib.hid (cR.mono (fun (r : Ending) (w' : World) h=>(by
       rcases h with ⟨k',vs',ds,h1,h2,h3,h4⟩ | ⟨b,h1,_⟩
       · rw [hr] at h1;injection h1 with e1 e2;subst e1 e2;exact ⟨ds,h2,h3,h4⟩
       · exact (nomatch (hr.symm.trans h1)) : ∃ds : List Value,r=Ending.returned (.tuple #[.agg ds.toArray,.agg erZ])∧StN wv.heap.size w' k vs ds∧Below wv.heap.size wv w')))
      have how : Hid (∀g,ov.ownBlock=some g→g≤wv.heap.size):=Lib.hid (fun g h=>Nat.le_of_lt (own_step hO.out h))
      have hend:=Lib.hid (fun (o : Option Nat) (W' : World) ds (h : RowsO o W' ls rows) (hs : StO o W' k vs ds)=>h.snoc (by rw [hL.out];exact hl) hr hs)
      have hL2 : Hid (∀ds : List Value,(rows ++ [((k : Int),vs,ds)]).length=i + 1):=Lib.hid (fun ds=>by rw [List.length_append,hL.out];rfl)
      have hmp : Hid (∀ds : List Value,(rows ++ [((k : Int),vs,ds)]).map (fun s=>s.2.2)=rows.map (fun s=>s.2.2) ++ [ds]):=Lib.hid (fun ds=>by rw [List.map_append];rfl)
      have hln : (rows.map fun s=>s.2.2).length=i:=by rw [List.length_map,hL.out]
      generalize hzs : (rows.map fun s=>s.2.2)=zs at *
      replace hzs:=Lib.hid hzs
      generalize bs l=yl at *
      clear hl hla hll hr hL
      go_upto_region 13 with (first
       | (go_at_call 24;(with_reducible refine cR.out.mono ?_);rintro r w7 ⟨ds,rfl,hm7,hb7⟩
          obtain ⟨q1,q2,q3,q4,hb8⟩:=lay_two w7 (ds:=ds) (es:=erL)
          have hone:=(StN.c hm7).one
          have hon9:=Lib.hid hm7.one
          have hd29:=hm7.len
          have i4:=st_in9 ds hd29
          have j1:=st_in9' ds hd29
          have j2:=st_old ds hd29
          have hb9:=hb7.trans (hb8.mono hb7.size)
          have hO8:=Lib.hid (hO.out.keep hb9)
          have hR8:=Lib.hid (RowsO.keep hR.out hb9)
          have hm8:=Lib.hid (hm7.but (But.of_below hb8))
          have hB8:=Lib.hid (hB.out.trans (hb9.mono hB.out.size))
          have hc8:=q4.cell (off:=0) (v:= .int .i64 0) rfl
          unfold Row at q1 q2
          clear hb7 hb8 hb9 hm7 hO hR)
       | (refine wpList_alloc_row 44 rfl rfl (stZ 0).toArray st_zero ?_;try simp only [World.size_alloc])
       | (refine wpList_alloc_row 53 rfl rfl erZ er_zero ?_;try simp only [World.size_alloc])
       | (refine wpList_store_at 44 _ _ rfl rfl w7.heap.size ds.toArray rfl rfl 44 (stZ 0).toArray q1 j1 j2 hone ?_)
       | (refine wpList_store_at 53 _ _ rfl rfl (w7.heap.size + 1) erL.toArray rfl rfl 53 erL.toArray q2 (by kernel_rfl) rfl (by decide +kernel) ?_))
      have q8:=q3.range
      generalize (((w7.alloc (.cells (stZ 0).toArray 44)).alloc (.cells erZ 53)).setRow w7.heap.size ds.toArray).setRow (w7.heap.size + 1) erL.toArray=w8 at *
      generalize w7.heap.size=p8 at *
      have hb9:=below_new w8 (.cells ds.toArray 44)
      have hB9:=Lib.hid (hB8.out.trans (hb9.mono hB8.out.size))
      have hO9:=Lib.hid (hO8.out.keep hb9)
      have hR9:=Lib.hid (RowsO.keep hR8.out hb9)
      have hm9:=Lib.hid (StO.keep (StN.o hm8.out how.out) hb9)
      have hfill : Instr.fill (fun j=>some (j * i0.size,i0.size)) ((Array.range (1 * i0.size)).map ((Value.agg (stZ 0).toArray).cells[· % (Value.agg (stZ 0).toArray).cells.size]!)) [(0,.agg ds.toArray)]=some ds.toArray:=by
       rw [hz1];exact fill_one 29 _ _ (by simp) (by rw [List.size_toArray,hd29])
      have hby : (zs.length + 1) * i0.bytes≤140737488355328:=by
       have h1 : (zs.length + 1) * i0.bytes≤1001 * 1000:=Nat.mul_le_mul (by omega) hz2
       omega
      replace hby:=Lib.hid hby
      replace hln:=Lib.hid hln
      clear hb9 hO8 hR8 hm8 q1 q2 q3 q4
      go_wp2_with (first
       | (refine wpList_load_at 44 _ rfl rfl p8 0 rfl ds _ q8 Tryz.underlying44 rfl i4 ?_)
       | (refine wpList_buildSlice_as 46 44 1 _ rfl rfl i0 (.agg (stZ 0).toArray) ds.toArray Tryz.underlying46 hi0 hz0 (by rw [hz1];decide) (by rw [hz1];decide) hfill ?_)
       | (at_builtin
          refine wpList_append_one_at rfl _ _ 46 rfl 44 i0 (.agg (stZ 0).toArray) 29 i0.bytes Tryz.underlying46 hi0 hz0 hz1 rfl rfl (by decide) wa hB9.out _ _ rfl hO9.out w8.heap.size 1 ds rfl ?_ hd29 hon9.out ?_ hby.out ?_
          · exact rangeAt_list (heap_new w8 (.cells ds.toArray 44))
          · rw [hln.out];unfold maxLen;omega
          intro v' w3 hO5 hB5 hg5 hat5
          have hO6:=Lib.hid (show OwnR w3 wa.heap.size 29 44 v' ((rows ++ [((k : Int),vs,ds)]).map fun s=>s.2.2) by rw [hmp.out];exact hO5)
          have hR6:=Lib.hid (hend.out _ _ ds (RowsO.grown hR9.out hg5 hat5) (StO.grown hm9.out hg5 hat5))
          have hB6:=Lib.hid hB5))
      go_roundw
      case rel=>exact ⟨i + 1,_,_,by omega,rfl,by go_num,hO6,hR6,Lib.hid (hL2.out ds),hB6⟩
      case measure=>simp [intOf];omega
    · obtain rfl : i=m:=by omega
      have hr:=hb.out l hl
      have hal:=line_bad hr
      replace cR:=Lib.hid (cR.mono (fun (r : Ending) (w' : World) h=>(by
       rcases h with ⟨k',vs',ds,h1,_⟩ | ⟨b,h1,h2,h4⟩
       · exact (nomatch (hr.symm.trans h1))
       · rw [hr] at h1;injection h1 with e1;subst e1;exact ⟨h2,h4⟩ : r=Ending.returned (.tuple #[.agg (stZ 0).toArray,.agg (erB a).toArray])∧Below wv.heap.size wv w')))
      have cI:=Lib.hid (fun W'=>digits_any ((i : Int) + 1) (i64_small (by omega)) W')
      have hdl:=itoa_len20 (i64_small (m:=i) (by omega))
      obtain ⟨yd,hyd⟩ : ∃yd,bs (itoa ((i : Int) + 1))=yd:=⟨_,rfl⟩
      have hat:=at3_eq (a:=a) hyd
      have hds : yd.size≤20:=by rw [← hyd,bs_size];exact hdl
      have hps : (bs a ++ (⟨#[32]⟩ : ByteArray)).size≤1000010:=by rw [ByteArray.size_append,bs_size];have : (⟨#[32]⟩ : ByteArray).size=1:=rfl;omega
      rw [hyd] at cI
      unfold erB at cR
      generalize bs a ++ (⟨#[32]⟩ : ByteArray)=yp at *
      have hq1 : ¬9223372036854775807 < 7 + yd.size:=by omega
      have hq2 : 7 + yd.size≤9223372036854775806:=by omega
      have hq3 : 7 + yd.size + 1 + yp.size≤9223372036854775807:=by omega
      replace hq1:=Lib.hid hq1
      replace hq2:=Lib.hid hq2
      replace hq3:=Lib.hid hq3
      replace hat:=Lib.hid hat
      generalize bs l=yl at *
      clear hl hla hll hr hal hdl hds hps hyd hO hR hL
      go_upto_region 14 with (first
       | (go_at_call 24;(with_reducible refine cR.out.mono ?_);rintro r w7 ⟨rfl,hb7⟩
          obtain ⟨q1,q2,q3,q4,hb8⟩:=lay_two w7 (ds:=stZ 0) (es:=[.int .i64 3,.string yp])
          have hb9:=hb7.trans (hb8.mono hb7.size)
          have hE8:=Lib.hid (hE.out.keep hb9)
          have hB8:=Lib.hid (hBw.out.trans (hb9.mono hBw.out.size))
          have hc8:=q4.cell (off:=0) (v:= .int .i64 3) rfl
          have hbp9 : Hid (U0.heap.size < w7.heap.size + 1):=Lib.hid (Nat.lt_succ_of_lt (Nat.lt_of_lt_of_le hue.out hb7.size))
          unfold Row at q1 q2
          clear hb7 hb8 hb9)
       | (refine wpList_alloc_row 44 rfl rfl (stZ 0).toArray st_zero ?_;try simp only [World.size_alloc])
       | (refine wpList_alloc_row 53 rfl rfl erZ er_zero ?_;try simp only [World.size_alloc])
       | (refine wpList_store_at 44 _ _ rfl rfl w7.heap.size (stZ 0).toArray rfl rfl 44 (stZ 0).toArray q1 (by kernel_rfl) rfl stZ_one ?_)
       | (refine wpList_store_at 53 _ _ rfl rfl (w7.heap.size + 1) #[.int .i64 3,.string yp] rfl rfl 53 erL.toArray q2 (by kernel_rfl) rfl (by simp [Value.oneCell']) ?_))
      generalize (((w7.alloc (.cells (stZ 0).toArray 44)).alloc (.cells erZ 53)).setRow w7.heap.size (stZ 0).toArray).setRow (w7.heap.size + 1) [.int .i64 3,.string yp].toArray=w8 at *
      generalize w7.heap.size + 1=p8 at *
      clear q1 q2 q3
      have hp6:=q4.lt
      have hbp : U0.heap.size < p8:=hbp9.out
      refine region_iw tbRq dsRq (vsRq p8 i yp yd) (fun L T W=>RqI U0 U0.heap.size p8 yp ((⟨#[115,99,114,105,112,116,32]⟩ : ByteArray) ++ yd ++ (⟨#[32]⟩ : ByteArray) ++ yp) (L 12) W) rfl (by decide) (by kernel_rfl) ?hlt ?hstep ?hdone ?hstart
      case hstart=>exact ⟨hB8.out.trans ((drewN_below 1).mono hB8.out.size),q4.keep (drewN_below 1),(by show Row _ _ _ (if (Array.replicate 13 false).getD 12 true=true then _ else _);rw [if_neg (inv_not (n:=13) (i:=12) (by decide))];exact hE8.out.keep (drewN_below 1))⟩
      case hlt=>
       intro ix o ho
       have hi:=(Array.getElem?_eq_some_iff.1 ho).1
       match ix,hi with
       | 0,_=>obtain rfl:=Option.some.inj ho;decide
       | 1,_=>obtain rfl:=Option.some.inj ho;decide
       | 2,_=>obtain rfl:=Option.some.inj ho;decide
       | 3,_=>obtain rfl:=Option.some.inj ho;decide
       | 4,_=>obtain rfl:=Option.some.inj ho;decide
       | 5,_=>obtain rfl:=Option.some.inj ho;decide
       | 6,_=>obtain rfl:=Option.some.inj ho;decide
       | 7,_=>obtain rfl:=Option.some.inj ho;decide
       | 8,_=>obtain rfl:=Option.some.inj ho;decide
       | 9,_=>obtain rfl:=Option.some.inj ho;decide
       | 10,_=>obtain rfl:=Option.some.inj ho;decide
       | 11,_=>obtain rfl:=Option.some.inj ho;decide
       | 12,_=>obtain rfl:=Option.some.inj ho;decide
      case hstep=>
       intro T1 hE L T W ix o hF hW hc ho hLi hd K hK
       have hN : T1.size=61:=by rw [hE];rfl
       have f3 : T.getD 3 undef= .pointer (some ⟨U0.heap.size,0,none⟩):=(hF.old 3 (by decide)).trans (by rw [hE];rfl)
       have f6 : T.getD 6 undef= .int .i64 ↑i:=(hF.old 6 (by decide)).trans (by rw [hE];rfl)
       have f8 : T.getD 8 undef= .pointer (some ⟨p8,0,none⟩):=(hF.old 8 (by decide)).trans (by rw [hE];rfl)
       clear hE
       replace hF:=Lib.hid hF
       replace hW:=Lib.hid hW
       replace hK:=Lib.hid hK
       have hi:=(List.getElem?_eq_some_iff.1 ho).1
       match ix,hi with
       | 0,_=>
         obtain rfl:=Option.some.inj ho
         clear hd ho hi hc hLi
         exact st_val (v:= .pointer (some ⟨p8,0,none⟩)) (w':=W) (want_none rfl) (by unfold execOp;dsimp only [Act.eval];simp only [f8];go_simp) (hK.out _ _ (hF.out.putv (k:=0) (s:=44) rfl (by decide) hN (by decide) rfl hW.out))
       | 1,_=>
         obtain rfl:=Option.some.inj ho
         have l0 : L 0=true:=dep_of hd (n:=0) (by decide)
         have e44 : T.getD 44 undef= .pointer (some ⟨p8,0,none⟩):=hF.out.val 0 44 _ l0 rfl rfl
         have hcl:=hW.out.rs.cell (off:=0) (v:= .int .i64 3) rfl
         clear hd ho hi hc hLi
         exact st_val (v:= .int .i64 3) (w':=W) (want_none rfl) (by unfold execOp;dsimp only [Act.eval];simp only [e44];go_simp) (hK.out _ _ (hF.out.putv (k:=1) (s:=45) rfl (by decide) hN (by decide) rfl hW.out))
       | 2,_=>
         obtain rfl:=Option.some.inj ho
         clear hd ho hi hc hLi
         exact st_val (v:= .int .i64 ↑i) (w':=W) (want_none rfl) (by unfold execOp;dsimp only [Act.eval];simp only [f6];go_simp) (hK.out _ _ (hF.out.putv (k:=2) (s:=46) rfl (by decide) hN (by decide) rfl hW.out))
       | 3,_=>
         obtain rfl:=Option.some.inj ho
         have l2 : L 2=true:=dep_of hd (n:=2) (by decide)
         have e46 : T.getD 46 undef= .int .i64 ↑i:=hF.out.val 2 46 _ l2 rfl rfl
         have hwr:=hwk
         clear hd ho hi hc hLi
         exact st_val (v:= .int .i64 (↑i + 1)) (w':=W) (want_none rfl) (by unfold execOp;dsimp only [Act.eval];simp only [e46];go_simp) (hK.out _ _ (hF.out.putv (k:=3) (s:=47) rfl (by decide) hN (by decide) rfl hW.out))
       | 4,_=>
         obtain rfl:=Option.some.inj ho
         have l3 : L 3=true:=dep_of hd (n:=3) (by decide)
         have e47 : T.getD 47 undef= .int .i64 (↑i + 1):=hF.out.val 3 47 _ l3 rfl rfl
         have cc:=Lib.hid (cI.out W)
         clear hd ho hi hc hLi
         refine st_call (want_none rfl) (by unfold execOp;simp only [Act.eval,e47];go_simp) cc.out ?_
         rintro r w9 ⟨rfl,hb⟩
         exact ⟨_,rfl,hK.out _ _ (hF.out.putv (k:=4) (s:=48) rfl (by decide) hN (by decide) rfl (hW.out.grow hb))⟩
       | 5,_=>
         obtain rfl:=Option.some.inj ho
         have l4 : L 4=true:=dep_of hd (n:=4) (by decide)
         have e48 : T.getD 48 undef= .string yd:=hF.out.val 4 48 _ l4 rfl rfl
         have hqk:=hq1.out
         clear hd ho hi hc hLi
         exact st_val (v:= .string ((⟨#[115,99,114,105,112,116,32]⟩ : ByteArray) ++ yd)) (w':=W) (want_none rfl) (by unfold execOp;dsimp only [Act.eval];simp only [e48];go_simp) (hK.out _ _ (hF.out.putv (k:=5) (s:=49) rfl (by decide) hN (by decide) rfl hW.out))
       | 6,_=>
         obtain rfl:=Option.some.inj ho
         have l5 : L 5=true:=dep_of hd (n:=5) (by decide)
         have e49 : T.getD 49 undef= .string ((⟨#[115,99,114,105,112,116,32]⟩ : ByteArray) ++ yd):=hF.out.val 5 49 _ l5 rfl rfl
         have hqk:=hq2.out
         clear hd ho hi hc hLi
         exact st_val (v:= .string ((⟨#[115,99,114,105,112,116,32]⟩ : ByteArray) ++ yd ++ (⟨#[32]⟩ : ByteArray))) (w':=W) (want_none rfl) (by unfold execOp;dsimp only [Act.eval];simp only [e49];go_simp) (hK.out _ _ (hF.out.putv (k:=6) (s:=50) rfl (by decide) hN (by decide) rfl hW.out))
       | 7,_=>
         obtain rfl:=Option.some.inj ho
         clear hd ho hi hc hLi
         exact st_val (v:= .pointer (some ⟨p8,1,none⟩)) (w':=W) (want_none rfl) (by unfold execOp;dsimp only [Act.eval];simp only [f8];go_simp) (hK.out _ _ (hF.out.putv (k:=7) (s:=51) rfl (by decide) hN (by decide) rfl hW.out))
       | 8,_=>
         obtain rfl:=Option.some.inj ho
         have l7 : L 7=true:=dep_of hd (n:=7) (by decide)
         have e51 : T.getD 51 undef= .pointer (some ⟨p8,1,none⟩):=hF.out.val 7 51 _ l7 rfl rfl
         have hcl:=hW.out.rs.cell (off:=1) (v:= .string yp) rfl
         clear hd ho hi hc hLi
         exact st_val (v:= .string yp) (w':=W) (want_none rfl) (by unfold execOp;dsimp only [Act.eval];simp only [e51];go_simp) (hK.out _ _ (hF.out.putv (k:=8) (s:=52) rfl (by decide) hN (by decide) rfl hW.out))
       | 9,_=>
         obtain rfl:=Option.some.inj ho
         have l6 : L 6=true:=dep_of hd (n:=6) (by decide)
         have e50 : T.getD 50 undef= .string ((⟨#[115,99,114,105,112,116,32]⟩ : ByteArray) ++ yd ++ (⟨#[32]⟩ : ByteArray)):=hF.out.val 6 50 _ l6 rfl rfl
         have l8 : L 8=true:=dep_of hd (n:=8) (by decide)
         have e52 : T.getD 52 undef= .string yp:=hF.out.val 8 52 _ l8 rfl rfl
         have hqk:=hq3.out
         clear hd ho hi hc hLi
         exact st_val (v:= .string ((⟨#[115,99,114,105,112,116,32]⟩ : ByteArray) ++ yd ++ (⟨#[32]⟩ : ByteArray) ++ yp)) (w':=W) (want_none rfl) (by unfold execOp;dsimp only [Act.eval];simp only [e50,e52];go_simp) (hK.out _ _ (hF.out.putv (k:=9) (s:=53) rfl (by decide) hN (by decide) rfl hW.out))
       | 10,_=>
         obtain rfl:=Option.some.inj ho
         have l1 : L 1=true:=dep_of hd (n:=1) (by decide)
         have e45 : T.getD 45 undef= .int .i64 3:=hF.out.val 1 45 _ l1 rfl rfl
         have l9 : L 9=true:=dep_of hd (n:=9) (by decide)
         have e53 : T.getD 53 undef= .string ((⟨#[115,99,114,105,112,116,32]⟩ : ByteArray) ++ yd ++ (⟨#[32]⟩ : ByteArray) ++ yp):=hF.out.val 9 53 _ l9 rfl rfl
         clear hd ho hi hc hLi
         exact st_val (v:= .agg #[.int .i64 3,.string ((⟨#[115,99,114,105,112,116,32]⟩ : ByteArray) ++ yd ++ (⟨#[32]⟩ : ByteArray) ++ yp)]) (w':=W) (want_none rfl) (by unfold execOp;simp only [List.map_toArray,List.map_cons,List.map_nil,Act.eval,e45,e53,Sem.run_bind,run_build (P:=Tryz.prog) W _ _ _ (er_agg3 _),Result.andThen_ok,Sem.run_pure]) (hK.out _ _ (hF.out.putv (k:=10) (s:=54) rfl (by decide) hN (by decide) rfl hW.out))
       | 11,_=>
         obtain rfl:=Option.some.inj ho
         clear hd ho hi hc hLi
         exact st_val (v:= .slice none 0 0) (w':=W) (want_none rfl) (by unfold execOp;dsimp only [Act.eval];go_simp) (hK.out _ _ (hF.out.putv (k:=11) (s:=2) rfl (by decide) hN (by decide) rfl hW.out))
       | 12,_=>
         obtain rfl:=Option.some.inj ho
         have l10 : L 10=true:=dep_of hd (n:=10) (by decide)
         have e54 : T.getD 54 undef= .agg #[.int .i64 3,.string ((⟨#[115,99,114,105,112,116,32]⟩ : ByteArray) ++ yd ++ (⟨#[32]⟩ : ByteArray) ++ yp)]:=hF.out.val 10 54 _ l10 rfl rfl
         have hre:=hW.out.re
         rw [hLi] at hre
         clear hd ho hi hc
         exact st_do (w':=W.setRow U0.heap.size #[.int .i64 3,.string ((⟨#[115,99,114,105,112,116,32]⟩ : ByteArray) ++ yd ++ (⟨#[32]⟩ : ByteArray) ++ yp)]) (want_none rfl) (run_store_ 53 (.tmp 3) (.tmp 54) rfl U0.heap.size _ (show T.getD 3 undef=_ from f3) (show T.getD 54 undef=_ from e54) _ _ hre (by kernel_rfl) rfl (er_one3 _)) (hK.out _ _ (hF.out.pass (k:=12) rfl ⟨below_setRow hW.out.bl (Nat.le_refl _) _,hW.out.rs.setRow_other (by omega) _,hre.setRow _⟩))
      case hdone=>
       intro L T W2 hF hW hall
       have q2:=hW.re
       rw [hall 12 (by decide),if_pos rfl] at q2
       have hB19:=hW.bl
       clear hW
       have hT : T=#[.string s,undef,.slice none 0 0,.pointer (some ⟨U0.heap.size,0,none⟩),.slice (some ⟨b9,o9,none⟩) (n + 1) cs9,ov,.int .i64 ↑i,.pointer (some ⟨w7.heap.size,0,none⟩),.pointer (some ⟨p8,0,none⟩),.string s,.bool false,undef,.string s,.slice (some ⟨b9,o9,none⟩) (n + 1) cs9,.slice (some ⟨b9,o9,none⟩) (n + 1) cs9,.int .i64 (↑n + 1),.bool false,undef,.slice (some ⟨b9,o9,none⟩) (n + 1) cs9,.slice (some ⟨b9,o9,none⟩) (n + 1) cs9,.int .i64 (↑n + 1),.int .i64 ↑n,.pointer (some ⟨b9,o9 + n,none⟩),.string ⟨#[]⟩,.bool false,undef,.int .i64 ↑i,.int .i64 (↑i + 1),.slice (some ⟨b9,o9,none⟩) (n + 1) cs9,.int .i64 (↑n + 1),.bool true,u31,u32,.tuple #[.agg (stZ 0).toArray,.agg #[.int .i64 3,.string yp]],.slice (some ⟨b9,o9,none⟩) (n + 1) cs9,.int .i64 ↑i,.pointer (some ⟨b9,o9 + i,none⟩),.string yl,.tuple #[.agg (stZ 0).toArray,.agg #[.int .i64 3,.string yp]],.agg (stZ 0).toArray,.agg #[.int .i64 3,.string yp],.pointer (some ⟨p8,0,none⟩),.int .i64 3,.bool true,.pointer (some ⟨p8,0,none⟩),.int .i64 3,.int .i64 ↑i,.int .i64 (↑i + 1),.string yd,.string ((⟨#[115,99,114,105,112,116,32]⟩ : ByteArray) ++ yd),.string ((⟨#[115,99,114,105,112,116,32]⟩ : ByteArray) ++ yd ++ (⟨#[32]⟩ : ByteArray)),.pointer (some ⟨p8,1,none⟩),.string yp,.string ((⟨#[115,99,114,105,112,116,32]⟩ : ByteArray) ++ yd ++ (⟨#[32]⟩ : ByteArray) ++ yp),.agg #[.int .i64 3,.string ((⟨#[115,99,114,105,112,116,32]⟩ : ByteArray) ++ yd ++ (⟨#[32]⟩ : ByteArray) ++ yp)],u55,u56,u57,u58,undef,undef]:=(hF.fin [(44,.pointer (some ⟨p8,0,none⟩)),(45,.int .i64 3),(46,.int .i64 ↑i),(47,.int .i64 (↑i + 1)),(48,.string yd),(49,.string ((⟨#[115,99,114,105,112,116,32]⟩ : ByteArray) ++ yd)),(50,.string ((⟨#[115,99,114,105,112,116,32]⟩ : ByteArray) ++ yd ++ (⟨#[32]⟩ : ByteArray))),(51,.pointer (some ⟨p8,1,none⟩)),(52,.string yp),(53,.string ((⟨#[115,99,114,105,112,116,32]⟩ : ByteArray) ++ yd ++ (⟨#[32]⟩ : ByteArray) ++ yp)),(54,.agg #[.int .i64 3,.string ((⟨#[115,99,114,105,112,116,32]⟩ : ByteArray) ++ yd ++ (⟨#[32]⟩ : ByteArray) ++ yp)]),(2,.slice none 0 0)] [44,45,46,47,48,49,50,51,52,53,54,2] rfl (List.forall_mem_cons.2 ⟨hF.val 0 _ _ (hall 0 (show 0 < 13 by decide)) rfl rfl,(List.forall_mem_cons.2 ⟨hF.val 1 _ _ (hall 1 (show 1 < 13 by decide)) rfl rfl,(List.forall_mem_cons.2 ⟨hF.val 2 _ _ (hall 2 (show 2 < 13 by decide)) rfl rfl,(List.forall_mem_cons.2 ⟨hF.val 3 _ _ (hall 3 (show 3 < 13 by decide)) rfl rfl,(List.forall_mem_cons.2 ⟨hF.val 4 _ _ (hall 4 (show 4 < 13 by decide)) rfl rfl,(List.forall_mem_cons.2 ⟨hF.val 5 _ _ (hall 5 (show 5 < 13 by decide)) rfl rfl,(List.forall_mem_cons.2 ⟨hF.val 6 _ _ (hall 6 (show 6 < 13 by decide)) rfl rfl,(List.forall_mem_cons.2 ⟨hF.val 7 _ _ (hall 7 (show 7 < 13 by decide)) rfl rfl,(List.forall_mem_cons.2 ⟨hF.val 8 _ _ (hall 8 (show 8 < 13 by decide)) rfl rfl,(List.forall_mem_cons.2 ⟨hF.val 9 _ _ (hall 9 (show 9 < 13 by decide)) rfl rfl,(List.forall_mem_cons.2 ⟨hF.val 10 _ _ (hall 10 (show 10 < 13 by decide)) rfl rfl,(List.forall_mem_cons.2 ⟨hF.val 11 _ _ (hall 11 (show 11 < 13 by decide)) rfl rfl,(fun _ h=>absurd h List.not_mem_nil)⟩)⟩)⟩)⟩)⟩)⟩)⟩)⟩)⟩)⟩)⟩)⟩) (by decide)).trans (by kernel_rfl)
       clear hF hall
       subst hT
       unfold Row at q2
       have hB9:=Lib.hid hB19
       have hat9:=hat.out
       go_wp2_with fail
       refine bodyPost_ret (results_tmp_cell rfl _ _ U0.heap.size 53 [.int .i64 3,.string ((⟨#[115,99,114,105,112,116,32]⟩ : ByteArray) ++ yd ++ (⟨#[32]⟩ : ByteArray) ++ yp)].toArray (0,0) _ (.slice none 0 0) rfl q2 Tryz.underlying53 rfl (by kernel_rfl) rfl) rfl ⟨fun h=>absurd h (by have:=hnk.out;omega),fun _=>⟨by rw [hat9],hB9.out⟩⟩
  · obtain rfl : i=n:=by omega
    obtain rfl : m=i:=by omega
    have k5 : ¬(m : Int) + 1 < ((m + 1 : Nat) : Int):=by omega
    have hc:=hE.out
    have hsame:=setRow_same hc
    have hfin : RPsR ls m a U0 (.returned (.tuple #[ov,.agg erZ])) (wv.setRow U0.heap.size erZ):=by
     rw [show erZ=erL.toArray from rfl,hsame]
     exact ⟨fun _=>⟨ov,rows,rfl,hO.out.lowB hB2.out.size,hR.out,hL.out,hBw.out⟩,fun h=>absurd h (by have:=hnk.out;omega)⟩
    replace hfin:=Lib.hid hfin
    unfold Row at hc
    clear hsame hR hL hE
    go_wp2_with (first
     | (refine wpList_build_as 53 _ rfl rfl erZ (by kernel_rfl) ?_)
     | (refine wpList_store_at 53 _ _ rfl rfl U0.heap.size erZ rfl rfl 53 erL.toArray hc (by kernel_rfl) rfl (by decide +kernel) ?_))
    refine bodyPost_ret (results_tmp_cell rfl _ _ U0.heap.size 53 erZ (0,0) _ ov rfl (hsetRow _ _ _ _ _ _ hc) Tryz.underlying53 rfl (by kernel_rfl) rfl) rfl hfin.out
end Go.Proofs.YtmicohmbmgbnkaaGreatDoor
