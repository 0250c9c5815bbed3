/- Texts joined: what each shows stands ahead of its theorems. -/
import Derived.Test.YtmicohmbmgbnkaaGreatDoorVb39
import Derived.Test.YtmicohmbmgbnkaaGreatDoorVb0
import Derived.LaidEql
import Derived.Stop.Asserts
import Derived.RowKitTokens
import Derived.Deep.DeepCutAuto
import Derived.Deep.RegionHeld3
import Derived.Test.YtmicohmbmgbnkaaGreatDoorVb37
namespace Go.Proofs.YtmicohmbmgbnkaaGreatDoor
section
open Go Go.RowKit Go.Shelf Go.ChangeShapes Go.WideShapes Go.Deep
def opDs9 : List TypeDesc:=[.int .i64,.int .i64,.int .i64,.int .i64,.string]
theorem op_flat9 : flatDesc Tryz.prog 3 85=some opDs9:=by kernel_rfl
theorem op_ok9 {o : OpX} (hl : o.s.length≤281474976710656) (h : OkOp o) : allOk opDs9 o.row:=by
 obtain ⟨h1,h2,ha,hb,hc⟩:=h
 refine ⟨rfl,fun i d v hd hv=> ?_⟩
 match i with
 | 0=>injection hd with hd;injection hv with hv;subst hd hv;exact ⟨_,rfl,by show -9223372036854775808≤o.kind;omega,by show o.kind≤9223372036854775807;omega⟩
 | 1=>injection hd with hd;injection hv with hv;subst hd hv;exact ⟨_,rfl,ha.1,ha.2⟩
 | 2=>injection hd with hd;injection hv with hv;subst hd hv;exact ⟨_,rfl,hb.1,hb.2⟩
 | 3=>injection hd with hd;injection hv with hv;subst hd hv;exact ⟨_,rfl,hc.1,hc.2⟩
 | 4=>injection hd with hd;injection hv with hv;subst hd hv;exact ⟨_,rfl,by rw [bs_size];unfold maxLen;omega⟩
 | i + 5=>cases hd
theorem op_neq {o : OpX} (hl : o.s.length≤281474976710656) (h : OkOp o) (w : World) : (binOp .neq 85 (.agg o.row.toArray) (.agg o.row.toArray)).run Tryz.prog w= .ok (.bool false) w:=
 neq_flat (m:=3) (n:=3) Tryz.underlying85 (by kernel_rfl) op_flat9 (by kernel_rfl) (by kernel_rfl) (by decide) o.row o.row (op_ok9 hl h) (op_ok9 hl h) true (by simp) w
theorem op_guard : Tryz.prog.eqGuardType Tryz.prog.depth 85=false:=by kernel_rfl
noncomputable def ldO (a : Addr) : Sem Value:=loadVar 85 a
theorem ldO_eq (a : Addr) : loadVar 85 a=ldO a:=rfl
theorem ldO_run {w : World} {b o : Nat} {g : OpX} (h : w.rangeAt b o g.row) : (ldO ⟨b,o,none⟩).run Tryz.prog w= .ok (.agg g.row.toArray) w:=by
 unfold ldO
 exact run_loadVar_mid (P:=Tryz.prog) w b o 85 g.row _ h Tryz.underlying85 rfl (by kernel_rfl)
noncomputable def neO (x y : Value) : Sem Value:=binOp .neq 85 x y
theorem neO_eq (x y : Value) : binOp .neq 85 x y=neO x y:=rfl
noncomputable def egO (x y : Operand) (a b : Value) : Sem Unit:=eqGuard .neq 85 x y a b
theorem egO_eq (x y : Operand) (a b : Value) : eqGuard .neq 85 x y a b=egO x y a b:=rfl
theorem egO_run (x y : Operand) (xs ys : Array Value) (w : World) : (egO x y (.agg xs) (.agg ys)).run Tryz.prog w= .ok () w:=run_eqGuard_agg (w:=w) .neq _ x y xs ys op_guard
section
attribute [local go_sem ↓] ldO_eq neO_eq egO_eq
attribute [local go_sem] egO_run
set_option maxRecDepth 100000 in
set_option maxHeartbeats 16000000 in
theorem same35_any (cs ds : List Value) (kd : Int) (vs : List PV) (V : World) (hS : StC V kd vs cs) (hT : StC V kd vs ds) (hok : OkVs keyT vs) (hgl : ∀l,vs[18]? =some (.grants l)→∀g∈l,g.user.length≤281474976710656) (hol : ∀l,vs[3]? =some (.ops l)→∀o∈l,o.s.length≤281474976710656) :
 Calls Tryz.prog 23 #[.agg cs.toArray,.agg ds.toArray] V fun r w'=>r= .returned (.bool true)∧Below V.heap.size V w':=by
 obtain ⟨tx,htx⟩:=text_cell hS hok 2 26 (by decide) rfl rfl
 obtain ⟨nt,hnt,_⟩:=num_cell hS hok 0 1 (by decide) rfl rfl
 obtain ⟨nw,hnw,_⟩:=num_cell hS hok 1 25 (by decide) rfl rfl
 obtain ⟨os,hos,how⟩:=ops_pv hok
 obtain ⟨ks,hks,_⟩:=nums_pv hok 4 (by decide) rfl
 have stx : cs[26]? =some (.string (bs tx)):=cell_of hS htx rfl (fun z h=>by have e : z=_:=h;rw [e];rfl)
 have snt : cs[1]? =some (.int .i64 nt):=cell_of hS hnt rfl (fun z h=>by have e : z=_:=h;rw [e];rfl)
 have snw : cs[25]? =some (.int .i64 nw):=cell_of hS hnw rfl (fun z h=>by have e : z=_:=h;rw [e];rfl)
 obtain ⟨sAg,scg,sgr,sg1,sg2,sgR⟩:=slice_of (K:=5) (zs:=os.map OpX.row) hS hos rfl (fun z h=>h)
 obtain ⟨sAk,sck,sks,sk1,sk2,skR⟩:=slice_of (K:=1) (zs:=ks.map iv) hS hks rfl (fun z h=>h)
 have ttx : ds[26]? =some (.string (bs tx)):=cell_of hT htx rfl (fun z h=>by have e : z=_:=h;rw [e];rfl)
 have tnt : ds[1]? =some (.int .i64 nt):=cell_of hT hnt rfl (fun z h=>by have e : z=_:=h;rw [e];rfl)
 have tnw : ds[25]? =some (.int .i64 nw):=cell_of hT hnw rfl (fun z h=>by have e : z=_:=h;rw [e];rfl)
 obtain ⟨tAg,tcg,tgr,tg1,tg2,tgR⟩:=slice_of (K:=5) (zs:=os.map OpX.row) hT hos rfl (fun z h=>h)
 obtain ⟨tAk,tck,tks,tk1,tk2,tkR⟩:=slice_of (K:=1) (zs:=ks.map iv) hT hks rfl (fun z h=>h)
 simp only [List.length_map] at sgr sg1 sgR sks sk1 skR tgr tg1 tgR tks tk1 tkR
 have hfl : ((cs.drop 2).take 23).length=23:=by rw [List.length_take,List.length_drop,hS.len];decide
 have hgl' : ((ds.drop 2).take 23).length=23:=by rw [List.length_take,List.length_drop,hT.len];decide
 have hfm : ∀(j : Nat) x,((cs.drop 2).take 23)[j]? =some x→cs[2 + j]? =some x:=fun j x hj=>by
  have hj2 : j < 23:=by have:=(List.getElem?_eq_some_iff.1 hj).1;omega
  rwa [List.getElem?_take,if_pos hj2,List.getElem?_drop] at hj
 have hgm : ∀(j : Nat) x,((ds.drop 2).take 23)[j]? =some x→ds[2 + j]? =some x:=fun j x hj=>by
  have hj2 : j < 23:=by have:=(List.getElem?_eq_some_iff.1 hj).1;omega
  rwa [List.getElem?_take,if_pos hj2,List.getElem?_drop] at hj
 obtain ⟨U2,hU2⟩ : ∃x,(V.alloc (.cells cs.toArray 44)).alloc (.cells ds.toArray 44)=x:=⟨_,rfl⟩
 have hB1:=below_new V (.cells cs.toArray 44)
 have hB2:=hB1.trans ((below_new (V.alloc (.cells cs.toArray 44)) (.cells ds.toArray 44)).mono hB1.size)
 have hF : Row ((V.alloc (.cells cs.toArray 44)).alloc (.cells ds.toArray 44)) V.heap.size 44 cs:=Row.keep (heap_new V _) (below_new _ _)
 have hG : Row ((V.alloc (.cells cs.toArray 44)).alloc (.cells ds.toArray 44)) (V.heap.size + 1) 44 ds:=by have:=heap_new (V.alloc (.cells cs.toArray 44)) (.cells ds.toArray 44);rwa [World.size_alloc] at this
 rw [hU2] at hB2 hF hG
 have csk:=hF.cell hS.kind
 have csnt:=hF.cell snt
 have csnw:=hF.cell snw
 have cstx:=hF.cell stx
 have ps:=hF.mid hfm
 have gs_:=hF.cell sgr
 have ks_:=hF.cell sks
 have ctk:=hG.cell hT.kind
 have ctnt:=hG.cell tnt
 have ctnw:=hG.cell tnw
 have cttx:=hG.cell ttx
 have pt:=hG.mid hgm
 have gt_:=hG.cell tgr
 have kt_:=hG.cell tks
 have hl0:=hF.lt
 have hl1:=hG.lt
 have hCl:=Lib.hid (fun W' (h : Below U2.heap.size U2 W')=>And.intro ((h.cell (p:=⟨V.heap.size,27,none⟩) hl0).trans gs_) (And.intro ((h.cell (p:=⟨V.heap.size + 1,27,none⟩) hl1).trans gt_) (And.intro ((h.cell (p:=⟨V.heap.size,28,none⟩) hl0).trans ks_) ((h.cell (p:=⟨V.heap.size + 1,28,none⟩) hl1).trans kt_))))
 have c25:=Lib.hid (csame_any cs ds kd kd vs U2 (hS.keep hB2) (hT.keep hB2) hok hgl)
 have hgo:=Lib.hid (fun g (hg : g∈os) w=>op_neq (hol os hos g hg) (how g hg) w)
 have hgS:=Lib.hid (fun W' (h : Below V.heap.size V W')=>And.intro (sgR.keep h) (tgR.keep h))
 have hkS:=Lib.hid (fun W' (h : Below V.heap.size V W')=>And.intro (skR.keep h) (tkR.keep h))
 obtain ⟨ng,hng⟩ : ∃ng,os.length=ng:=⟨_,rfl⟩
 obtain ⟨nk,hnk⟩ : ∃nk,ks.length=nk:=⟨_,rfl⟩
 rw [hng,hnk] at hCl
 rw [hng] at hgS
 rw [hnk] at hkS
 have hngb : ng≤9223372036854775807:=by omega
 have hnkb : nk≤9223372036854775807:=by omega
 have hci:=cf_in9 _ hfl
 have hdi:=cf_in9 _ hgl'
 replace hB2:=Lib.hid hB2
 generalize bs tx=ytx at *
 generalize (cs.drop 2).take 23=cf at *
 generalize (ds.drop 2).take 23=df at *
 clear hfm hgm hB1 hF hG gs_ gt_ ks_ kt_ hS hT hok hgl hol hng hnk
 go_enter Tryz.func23,Tryz.ntmps23
 go_upto_region 1 with (first
  | (refine wpList_box_row 44 _ rfl rfl (List.toArray _) rfl ?_;try simp only [World.size_alloc]))
 try rw [hU2]
 clear hU2
 go_wp2_with (first
  | (refine wpList_load_at 41 _ rfl rfl V.heap.size 2 rfl cf _ ps Tryz.underlying41 rfl hci ?_)
  | (refine wpList_load_at 41 _ rfl rfl (V.heap.size + 1) 2 rfl df _ pt Tryz.underlying41 rfl hdi ?_)
  | (go_at_call 47;(with_reducible refine c25.out.mono ?_);rintro r w3 ⟨rfl,hb3⟩
     obtain ⟨gs9,gt9,ks9,kt9⟩:=hCl.out w3 hb3
     replace hb3:=Lib.hid hb3))
 go_loopw [5] (fun iv wr=> ∃i : Nat,i≤ng∧iv= .int .i64 i∧Hid (Below U2.heap.size U2 wr)) (fun iv _=>ng - (intOf iv).toNat)
 case atStart=>exact ⟨0,Nat.zero_le _,rfl,hb3⟩
 case round=>
  obtain ⟨i,hi,rfl,hBr⟩:=hrel
  obtain ⟨gs9,gt9,ks9,kt9⟩:=hCl.out wr hBr.out
  have hBV:=hB2.out.trans (hBr.out.mono hB2.out.size)
  by_cases hlt : i < ng
  · have hlt' : (i : Int) < (ng : Int):=by omega
    have h0i : (0 : Int)≤(i : Int):=Int.natCast_nonneg _
    obtain ⟨rs,rt⟩:=hgS.out wr hBV
    obtain ⟨b2,off2,z2,rfl,hb2,hz2,_,hr2⟩:=Rws.row rs hlt
    obtain ⟨b3,off3,z3,rfl,hb3_,hz3,_,hr3⟩:=Rws.row rt hlt
    obtain ⟨x,hx,rfl⟩:=map_at hz2
    rw [hz2] at hz3
    obtain rfl:=Option.some.inj hz3
    have v1 : ∀q,(ldO ⟨b2,off2 + i * 5,none⟩).run Tryz.prog (wr.drewN q)= .ok (.agg x.row.toArray) (wr.drewN q):=fun q=>ldO_run (rangeAt_keep hr2 (drewN_below q) hb2)
    have v2 : ∀q,(ldO ⟨b3,off3 + i * 5,none⟩).run Tryz.prog (wr.drewN q)= .ok (.agg x.row.toArray) (wr.drewN q):=fun q=>ldO_run (rangeAt_keep hr3 (drewN_below q) hb3_)
    have v3 : ∀w,(neO (.agg x.row.toArray) (.agg x.row.toArray)).run Tryz.prog w= .ok (.bool false) w:=fun w=>hgo.out x (List.mem_of_getElem? hx) w
    generalize x.row=xr at *
    clear hz2 hx rs rt hr2 hr3
    go_wp2_with fail
    go_quiet (fail)
    go_wp2_with fail
    go_roundw
    case rel=>exact ⟨i + 1,by omega,by go_num,hBr.out.trans ((drewN_below _).mono hBr.out.size)⟩
    case measure=>simp [intOf];omega
  · obtain rfl : i=ng:=by omega
    have hBn:=hBr
    clear hBV
    generalize wr=wn at *
    go_wp2_with fail
    go_loopw [6] (fun iv wr=> ∃i : Nat,i≤nk∧iv= .int .i64 i∧Hid (Below U2.heap.size U2 wr)) (fun iv _=>nk - (intOf iv).toNat)
    case atStart=>exact ⟨0,Nat.zero_le _,rfl,hBn⟩
    case round=>
     obtain ⟨i,hi,rfl,hBr⟩:=hrel
     obtain ⟨gs9,gt9,ks9,kt9⟩:=hCl.out wr hBr.out
     have hBV:=hB2.out.trans (hBr.out.mono hB2.out.size)
     by_cases hlt : i < nk
     · have hlt' : (i : Int) < (nk : Int):=by omega
       have h0i : (0 : Int)≤(i : Int):=Int.natCast_nonneg _
       obtain ⟨rs,rt⟩:=hkS.out wr hBV
       obtain ⟨b2,off2,z2,rfl,hb2,hz2,_,hr2⟩:=Rws.row rs hlt
       obtain ⟨b3,off3,z3,rfl,hb3_,hz3,_,hr3⟩:=Rws.row rt hlt
       obtain ⟨x,hx,rfl⟩:=map_at hz2
       rw [hz2] at hz3
       obtain rfl:=Option.some.inj hz3
       have hc2:=hr2 0 _ rfl
       have hc3:=hr3 0 _ rfl
       rw [Nat.mul_one,Nat.add_zero] at hc2 hc3
       clear hz2 hx rs rt hr2 hr3
       go_wp2_with fail
       go_quiet (fail)
       go_wp2_with fail
       go_roundw
       case rel=>exact ⟨i + 1,by omega,by go_num,hBr.out.trans ((drewN_below _).mono hBr.out.size)⟩
       case measure=>simp [intOf];omega
     · obtain rfl : i=nk:=by omega
       go_wp2_with fail
       go_ret
       exact ⟨rfl,hBV⟩
end
end
section
open Go.RowKit Go.Extern.Stop Go.Stop Go.Extern
/-! ### Closed facts on the model's entries for internal/reflectlite -/
theorem rlm (z : Sem Value) (f : TypeId→Addr→Nat→Nat→Sem Value) (v : Value) :
 ReflectliteValue.method z f #[v]=(do match ← ReflectliteValue.parts v with | none=>z | some (t,a,fl)=>f t a fl (fl % 32)):=rfl
theorem rls (v x : Value) : ReflectliteValue.set #[v,x]=(do
 let (some (dst,a,fl),some (src,b,_)):=(← ReflectliteValue.parts v,← ReflectliteValue.parts x)
  | unsupported (.noEntry "extern/(internal/reflectlite.Value).Set.zeroValue")
 if fl / ReflectliteValue.flagAddr % 2 == 0 then unsupported (.noEntry "extern/(internal/reflectlite.Value).Set.unaddressable")
 let val ← loadVar src b
 if ← Rtype.directlyAssignable dst src then storeVar dst a val
 else if ← Rtype.implements dst src then
  if (← Rtype.kind src) == 20 then
   match val with
   | .nilIface=>unsupported (.noEntry "extern/reflectlite: a nil value of one interface type handed on as a value of another")
   | _=>storeVar dst a val
  else storeVar dst a (.iface src val)
 else panicString ("reflectlite.Set: value of type " ++ (← Rtype.spelt src) ++ " is not assignable to type " ++ (← Rtype.spelt dst))
 pure (.tuple #[])):=rfl
theorem valueOfTN (t : Addr) (w : World) : (ReflectliteValue.unpack (.iface 168 (.pointer (some t)))).run Tryz.prog w
 = .ok (.agg #[.pointer (some ⟨11,168,none⟩),.pointer (some ⟨w.heap.size,0,none⟩),.int .u64 150]) (w.alloc (.cells #[.pointer (some t)] 168)):=by kernel_rfl
theorem typeTN (a : Addr) (w : World) : (ReflectliteValue.methodAny (ReflectliteValue.valueError "reflectlite.Value.Type" 0) (fun t _ _ _=>ReflectliteType.toType t) #[.agg #[.pointer (some ⟨11,168,none⟩),.pointer (some a),.int .u64 150]]).run Tryz.prog w
 = .ok (.iface 199 (.agg #[.pointer (some ⟨11,168,none⟩)])) w:=by kernel_rfl
theorem kindTN (w : World) : ((ReflectliteType.abiMethod fun t=>(fun a : Nat=>Value.int IntKind.u8 (a : Int)) <$> Rtype.kind t) #[.pointer (some ⟨11,168,none⟩)]).run Tryz.prog w= .ok (.int .u8 22) w:=by kernel_rfl
theorem kindEN (w : World) : ((ReflectliteType.abiMethod fun t=>(fun a : Nat=>Value.int IntKind.u8 (a : Int)) <$> Rtype.kind t) #[.pointer (some ⟨11,51,none⟩)]).run Tryz.prog w= .ok (.int .u8 2) w:=by kernel_rfl
theorem partsTN (a : Addr) (w : World) : (ReflectliteValue.parts (.agg #[.pointer (some ⟨11,168,none⟩),.pointer (some a),.int .u64 150])).run Tryz.prog w= .ok (some (168,a,150)) w:=by kernel_rfl
theorem isNilTN (a p : Addr) (W : World) (ha : W.cell? a=some (.pointer (some p))) :
 (ReflectliteValue.method (ReflectliteValue.valueError "reflectlite.Value.IsNil" 0) ReflectliteValue.isNil #[.agg #[.pointer (some ⟨11,168,none⟩),.pointer (some a),.int .u64 150]]).run Tryz.prog W= .ok (.bool false) W:=by
 rw [rlm]
 simp only [Sem.run_bind,partsTN,Result.andThen]
 simp [ReflectliteValue.isNil,loadVar,isAgg,underlying,Tryz.underlying168,ha,Result.andThen]
theorem elemTN (w : World) : (ReflectliteType.method ReflectliteType.elem #[.agg #[.pointer (some ⟨11,168,none⟩)]]).run Tryz.prog w= .ok (.iface 199 (.agg #[.pointer (some ⟨11,51,none⟩)])) w:=by kernel_rfl
theorem implEN (w : World) : (ReflectliteType.relation "Implements" ReflectliteType.implements_ #[.agg #[.pointer (some ⟨11,51,none⟩)],.iface 199 (.agg #[.pointer (some ⟨11,48,none⟩)])]).run Tryz.prog w= .ok (.bool true) w:=by kernel_rfl
theorem typeOfEN (v : Value) (w : World) : (ReflectliteType.typeOf #[.iface 51 v]).run Tryz.prog w= .ok (.iface 199 (.agg #[.pointer (some ⟨11,51,none⟩)])) w:=by kernel_rfl
theorem assEN (w : World) : (ReflectliteType.relation "AssignableTo" ReflectliteType.assignableTo #[.agg #[.pointer (some ⟨11,51,none⟩)],.iface 199 (.agg #[.pointer (some ⟨11,51,none⟩)])]).run Tryz.prog w= .ok (.bool true) w:=by kernel_rfl
theorem assFN (w : World) : (ReflectliteType.relation "AssignableTo" ReflectliteType.assignableTo #[.agg #[.pointer (some ⟨11,109,none⟩)],.iface 199 (.agg #[.pointer (some ⟨11,51,none⟩)])]).run Tryz.prog w= .ok (.bool false) w:=by kernel_rfl
theorem valueOfEN (n : Int) (w : World) : (ReflectliteValue.unpack (.iface 51 (.int .i64 n))).run Tryz.prog w
 = .ok (.agg #[.pointer (some ⟨11,51,none⟩),.pointer (some ⟨w.heap.size,0,none⟩),.int .u64 130]) (w.alloc (.cells #[.int .i64 n] 51)):=by kernel_rfl
theorem elemOfTN (w : World) : (Rtype.elem? 168).run Tryz.prog w= .ok (some 51) w:=by kernel_rfl
theorem mkEN (p : Addr) (w : World) : (ReflectliteValue.mk 51 p ReflectliteValue.flagAddr).run Tryz.prog w= .ok (.agg #[.pointer (some ⟨11,51,none⟩),.pointer (some p),.int .u64 386]) w:=by kernel_rfl
theorem elemVN (a p : Addr) (W : World) (ha : W.cell? a=some (.pointer (some p))) :
 (ReflectliteValue.method (ReflectliteValue.valueError "reflectlite.Value.Elem" 0) ReflectliteValue.elem #[.agg #[.pointer (some ⟨11,168,none⟩),.pointer (some a),.int .u64 150]]).run Tryz.prog W
   = .ok (.agg #[.pointer (some ⟨11,51,none⟩),.pointer (some p),.int .u64 386]) W:=by
 rw [rlm]
 simp only [Sem.run_bind,partsTN,Result.andThen]
 simp [ReflectliteValue.elem,loadVar,isAgg,underlying,Tryz.underlying168,ha,Result.andThen,elemOfTN,mkEN]
theorem partsAN (a : Addr) (w : World) : (ReflectliteValue.parts (.agg #[.pointer (some ⟨11,51,none⟩),.pointer (some a),.int .u64 386])).run Tryz.prog w= .ok (some (51,a,386)) w:=by kernel_rfl
theorem partsEN (a : Addr) (w : World) : (ReflectliteValue.parts (.agg #[.pointer (some ⟨11,51,none⟩),.pointer (some a),.int .u64 130])).run Tryz.prog w= .ok (some (51,a,130)) w:=by kernel_rfl
theorem directEN (w : World) : (Rtype.directlyAssignable 51 51).run Tryz.prog w= .ok true w:=by kernel_rfl
theorem setEN (ta b : Addr) (n : Int) (old : Value) (W : World) (hb : W.cell? b=some (.int .i64 n)) (ht : W.cell? ta=some old) (hf : W.frozen? ta=false) :
 (ReflectliteValue.set #[.agg #[.pointer (some ⟨11,51,none⟩),.pointer (some ta),.int .u64 386],.agg #[.pointer (some ⟨11,51,none⟩),.pointer (some b),.int .u64 130]]).run Tryz.prog W
   = .ok (.tuple #[]) (W.setCell ta (.int .i64 n)):=by
 rw [rls]
 simp only [Sem.run_bind,partsAN,partsEN,Result.andThen]
 simp [ReflectliteValue.flagAddr,loadVar,isAgg,underlying,Tryz.underlying51,hb,Result.andThen,directEN,storeVar,Value.cells,storeCells,Addr.add]
 rw [run_store Tryz.prog W ta _ _ (by rfl)]
 simp [ht,hf]
theorem valueOfTF (t : Addr) (w : World) : (ReflectliteValue.unpack (.iface 167 (.pointer (some t)))).run Tryz.prog w
 = .ok (.agg #[.pointer (some ⟨11,167,none⟩),.pointer (some ⟨w.heap.size,0,none⟩),.int .u64 150]) (w.alloc (.cells #[.pointer (some t)] 167)):=by kernel_rfl
theorem typeTF (a : Addr) (w : World) : (ReflectliteValue.methodAny (ReflectliteValue.valueError "reflectlite.Value.Type" 0) (fun t _ _ _=>ReflectliteType.toType t) #[.agg #[.pointer (some ⟨11,167,none⟩),.pointer (some a),.int .u64 150]]).run Tryz.prog w
 = .ok (.iface 199 (.agg #[.pointer (some ⟨11,167,none⟩)])) w:=by kernel_rfl
theorem kindTF (w : World) : ((ReflectliteType.abiMethod fun t=>(fun a : Nat=>Value.int IntKind.u8 (a : Int)) <$> Rtype.kind t) #[.pointer (some ⟨11,167,none⟩)]).run Tryz.prog w= .ok (.int .u8 22) w:=by kernel_rfl
theorem kindEF (w : World) : ((ReflectliteType.abiMethod fun t=>(fun a : Nat=>Value.int IntKind.u8 (a : Int)) <$> Rtype.kind t) #[.pointer (some ⟨11,109,none⟩)]).run Tryz.prog w= .ok (.int .u8 22) w:=by kernel_rfl
theorem partsTF (a : Addr) (w : World) : (ReflectliteValue.parts (.agg #[.pointer (some ⟨11,167,none⟩),.pointer (some a),.int .u64 150])).run Tryz.prog w= .ok (some (167,a,150)) w:=by kernel_rfl
theorem isNilTF (a p : Addr) (W : World) (ha : W.cell? a=some (.pointer (some p))) :
 (ReflectliteValue.method (ReflectliteValue.valueError "reflectlite.Value.IsNil" 0) ReflectliteValue.isNil #[.agg #[.pointer (some ⟨11,167,none⟩),.pointer (some a),.int .u64 150]]).run Tryz.prog W= .ok (.bool false) W:=by
 rw [rlm]
 simp only [Sem.run_bind,partsTF,Result.andThen]
 simp [ReflectliteValue.isNil,loadVar,isAgg,underlying,Tryz.underlying167,ha,Result.andThen]
theorem elemTF (w : World) : (ReflectliteType.method ReflectliteType.elem #[.agg #[.pointer (some ⟨11,167,none⟩)]]).run Tryz.prog w= .ok (.iface 199 (.agg #[.pointer (some ⟨11,109,none⟩)])) w:=by kernel_rfl
theorem implEF (w : World) : (ReflectliteType.relation "Implements" ReflectliteType.implements_ #[.agg #[.pointer (some ⟨11,109,none⟩)],.iface 199 (.agg #[.pointer (some ⟨11,48,none⟩)])]).run Tryz.prog w= .ok (.bool true) w:=by kernel_rfl
theorem typeOfEF (v : Value) (w : World) : (ReflectliteType.typeOf #[.iface 109 v]).run Tryz.prog w= .ok (.iface 199 (.agg #[.pointer (some ⟨11,109,none⟩)])) w:=by kernel_rfl
theorem assEF (w : World) : (ReflectliteType.relation "AssignableTo" ReflectliteType.assignableTo #[.agg #[.pointer (some ⟨11,51,none⟩)],.iface 199 (.agg #[.pointer (some ⟨11,109,none⟩)])]).run Tryz.prog w= .ok (.bool false) w:=by kernel_rfl
theorem assFF (w : World) : (ReflectliteType.relation "AssignableTo" ReflectliteType.assignableTo #[.agg #[.pointer (some ⟨11,109,none⟩)],.iface 199 (.agg #[.pointer (some ⟨11,109,none⟩)])]).run Tryz.prog w= .ok (.bool true) w:=by kernel_rfl
theorem valueOfEF (n : Addr) (w : World) : (ReflectliteValue.unpack (.iface 109 (.pointer (some n)))).run Tryz.prog w
 = .ok (.agg #[.pointer (some ⟨11,109,none⟩),.pointer (some ⟨w.heap.size,0,none⟩),.int .u64 150]) (w.alloc (.cells #[.pointer (some n)] 109)):=by kernel_rfl
theorem elemOfTF (w : World) : (Rtype.elem? 167).run Tryz.prog w= .ok (some 109) w:=by kernel_rfl
theorem mkEF (p : Addr) (w : World) : (ReflectliteValue.mk 109 p ReflectliteValue.flagAddr).run Tryz.prog w= .ok (.agg #[.pointer (some ⟨11,109,none⟩),.pointer (some p),.int .u64 406]) w:=by kernel_rfl
theorem elemVF (a p : Addr) (W : World) (ha : W.cell? a=some (.pointer (some p))) :
 (ReflectliteValue.method (ReflectliteValue.valueError "reflectlite.Value.Elem" 0) ReflectliteValue.elem #[.agg #[.pointer (some ⟨11,167,none⟩),.pointer (some a),.int .u64 150]]).run Tryz.prog W
   = .ok (.agg #[.pointer (some ⟨11,109,none⟩),.pointer (some p),.int .u64 406]) W:=by
 rw [rlm]
 simp only [Sem.run_bind,partsTF,Result.andThen]
 simp [ReflectliteValue.elem,loadVar,isAgg,underlying,Tryz.underlying167,ha,Result.andThen,elemOfTF,mkEF]
theorem partsAF (a : Addr) (w : World) : (ReflectliteValue.parts (.agg #[.pointer (some ⟨11,109,none⟩),.pointer (some a),.int .u64 406])).run Tryz.prog w= .ok (some (109,a,406)) w:=by kernel_rfl
theorem partsEF (a : Addr) (w : World) : (ReflectliteValue.parts (.agg #[.pointer (some ⟨11,109,none⟩),.pointer (some a),.int .u64 150])).run Tryz.prog w= .ok (some (109,a,150)) w:=by kernel_rfl
theorem directEF (w : World) : (Rtype.directlyAssignable 109 109).run Tryz.prog w= .ok true w:=by kernel_rfl
theorem setEF (ta b : Addr) (n : Addr) (old : Value) (W : World) (hb : W.cell? b=some (.pointer (some n))) (ht : W.cell? ta=some old) (hf : W.frozen? ta=false) :
 (ReflectliteValue.set #[.agg #[.pointer (some ⟨11,109,none⟩),.pointer (some ta),.int .u64 406],.agg #[.pointer (some ⟨11,109,none⟩),.pointer (some b),.int .u64 150]]).run Tryz.prog W
   = .ok (.tuple #[]) (W.setCell ta (.pointer (some n))):=by
 rw [rls]
 simp only [Sem.run_bind,partsAF,partsEF,Result.andThen]
 simp [ReflectliteValue.flagAddr,loadVar,isAgg,underlying,Tryz.underlying109,hb,Result.andThen,directEF,storeVar,Value.cells,storeCells,Addr.add]
 rw [run_store Tryz.prog W ta _ _ (by rfl)]
 simp [ht,hf]
theorem methodKind (h : Value) (w : World) : (Go.method 369 199 (.agg #[h]) "Kind").run Tryz.prog w= .ok (185,h) w:=by kernel_rfl
theorem methodElem (h : Value) (w : World) : (Go.method 369 199 (.agg #[h]) "Elem").run Tryz.prog w= .ok (198,.agg #[h]) w:=by kernel_rfl
theorem methodImplements (h : Value) (w : World) : (Go.method 369 199 (.agg #[h]) "Implements").run Tryz.prog w= .ok (199,.agg #[h]) w:=by kernel_rfl
theorem methodAssignableTo (h : Value) (w : World) : (Go.method 369 199 (.agg #[h]) "AssignableTo").run Tryz.prog w= .ok (196,.agg #[h]) w:=by kernel_rfl
theorem methodUnwrap (b : Addr) (w : World) : (Go.method 369 109 (.pointer (some b)) "Unwrap").run Tryz.prog w= .ok (191,.pointer (some b)) w:=by kernel_rfl
/-! ### What the assertions find -/
theorem noAsN (v : Value) (xT : TypeId) (w : World) : (Instr.typeAssert (.iface 51 v) xT 204 true).run Tryz.prog w= .ok (.tuple #[.nilIface,.bool false]) w:=run_typeAssert_lacksB Tryz.underlying204 (by kernel_rfl) (by kernel_rfl) v xT w
theorem noAsF (v : Value) (xT : TypeId) (w : World) : (Instr.typeAssert (.iface 109 v) xT 204 true).run Tryz.prog w= .ok (.tuple #[.nilIface,.bool false]) w:=run_typeAssert_lacksB Tryz.underlying204 (by kernel_rfl) (by kernel_rfl) v xT w
theorem noUnwrapN (v : Value) (xT : TypeId) (w : World) : (Instr.typeAssert (.iface 51 v) xT 207 true).run Tryz.prog w= .ok (.tuple #[.nilIface,.bool false]) w:=run_typeAssert_lacksB Tryz.underlying207 (by kernel_rfl) (by kernel_rfl) v xT w
theorem noUnwrapsN (v : Value) (xT : TypeId) (w : World) : (Instr.typeAssert (.iface 51 v) xT 209 true).run Tryz.prog w= .ok (.tuple #[.nilIface,.bool false]) w:=run_typeAssert_lacksB Tryz.underlying209 (by kernel_rfl) (by kernel_rfl) v xT w
theorem hasUnwrapF (v : Value) (xT : TypeId) (w : World) : (Instr.typeAssert (.iface 109 v) xT 207 true).run Tryz.prog w= .ok (.tuple #[.iface 109 v,.bool true]) w:=run_typeAssert_hasB Tryz.underlying207 (by kernel_rfl) v xT w
end
section
open Go.RowKit Go.Extern.Stop Go.Stop Go.Extern
def SetIn (w : World) (t : Addr) (x : Value) (w' : World) : Prop:= ∃W,Below w.heap.size w W∧w' =W.setCell t x
theorem SetIn.cell {w w' : World} {b o : Nat} {x old : Value} (h : SetIn w ⟨b,o,none⟩ x w') (ht : w.cell? ⟨b,o,none⟩=some old) : w'.cell? ⟨b,o,none⟩=some x:=by
 obtain ⟨W,hb,rfl⟩:=h
 have hlt : b < w.heap.size:=block_lt_of_cell ht
 have hW : W.cell? ⟨b,o,none⟩=some old:=(hb.cell (p:=⟨b,o,none⟩) hlt).trans ht
 exact World.cell?_setCell_same _ _ _ hW
theorem SetIn.size {w w' : World} {t : Addr} {x : Value} (h : SetIn w t x w') : w.heap.size≤w'.heap.size:=by
 obtain ⟨W,hb,rfl⟩:=h
 rw [World.size_setCell]
 exact hb.size
theorem SetIn.below {w w0 w' : World} {t : Addr} {x : Value} {B : Nat} (h : SetIn w t x w') (hb : Below B w0 w) (hw : B≤w.heap.size) (hB : B≤t.block) : Below B w0 w':=by
 obtain ⟨W,hb2,rfl⟩:=h
 exact (hb.trans (hb2.mono hw)).setCell hB _
theorem SetIn.from_ {w w2 w' : World} {t : Addr} {x : Value} (hb : Below w.heap.size w w2) (h : SetIn w2 t x w') : SetIn w t x w':=by
 obtain ⟨W,hb2,rfl⟩:=h
 exact ⟨W,hb.trans (hb2.mono hb.size),rfl⟩
theorem isErr_iface {w : World} {n : Int} : ∀{p : List ByteArray} {v : Value},isErr w (some n) p v→∃T u,v= .iface T u
 | [],_,h=>⟨_,_,h⟩
 | _ :: _,_,⟨_,_,e,_⟩=>⟨_,_,e⟩
set_option maxHeartbeats 1000000 in
theorem asN_hit (n : Int) (p : List ByteArray) (v tgt : Value) (a t : Addr) (old : Value) (w : World) (H : isErr w (some n) p v) (ha : w.cell? a=some (.pointer (some t))) (ht : w.cell? t=some old) (hf : w.frozen? t=false) :
 Calls Tryz.prog 134 #[v,tgt,.agg #[.pointer (some ⟨11,168,none⟩),.pointer (some a),.int .u64 150],.iface 199 (.agg #[.pointer (some ⟨11,51,none⟩)])] w fun r w'=>r= .returned (.bool true)∧SetIn w t (.int .i64 n) w':=by
 have hal:=block_lt_of_cell ha
 have htl:=block_lt_of_cell ht
 have h62:=@run_callFunc_extern Tryz.prog 131 _ (fun args=>ReflectliteValue.unpack (args.getD 0 (.tuple #[]))) Tryz.func131 (by kernel_rfl) (by kernel_rfl) (by kernel_rfl) (by kernel_rfl)
 have h66:=@run_callFunc_extern Tryz.prog 148 _ ReflectliteType.typeOf Tryz.func148 (by kernel_rfl) (by kernel_rfl) (by kernel_rfl) (by kernel_rfl)
 have h109:=@run_callFunc_extern Tryz.prog 196 _ (ReflectliteType.relation "AssignableTo" ReflectliteType.assignableTo) Tryz.func196 (by kernel_rfl) (by kernel_rfl) (by kernel_rfl) (by kernel_rfl)
 have h75:=@run_callFunc_extern Tryz.prog 149 _ (ReflectliteValue.method (ReflectliteValue.valueError "reflectlite.Value.Elem" 0) ReflectliteValue.elem) Tryz.func149 (by kernel_rfl) (by kernel_rfl) (by kernel_rfl) (by kernel_rfl)
 have h76:=@run_callFunc_extern Tryz.prog 150 _ ReflectliteValue.set Tryz.func150 (by kernel_rfl) (by kernel_rfl) (by kernel_rfl) (by kernel_rfl)
 have tN:=typeOfEN
 have tF:=typeOfEF
 have mA:=methodAssignableTo
 have aN:=assEN
 have aF:=assFN
 have nF:=noAsF
 have nN:=noAsN
 have uF:=hasUnwrapF
 have uN:=noUnwrapN
 have usN:=noUnwrapsN
 have mU:=methodUnwrap
 have vE:=valueOfEN n
 have el:=elemVN a t (w.alloc (.cells #[.pointer (some ⟨11,168,none⟩),.pointer (some a),.int .u64 150] 179)) (by rw [World.cell?_alloc_lt _ _ a hal];exact ha)
 have st:=setEN t ⟨w.heap.size + 1,0,none⟩ n old ((w.alloc (.cells #[.pointer (some ⟨11,168,none⟩),.pointer (some a),.int .u64 150] 179)).alloc (.cells #[.int .i64 n] 51))
  (by rw [World.cell?_alloc_at _ _ _ _ (by simp)];rfl)
  (by rw [World.cell?_alloc_lt _ _ t (by simp <;> omega),World.cell?_alloc_lt _ _ t htl];exact ht)
  (by rw [World.frozen?_alloc_old _ _ t (by simp <;> omega),World.frozen?_alloc_old _ _ t (Nat.ne_of_lt htl)];exact hf)
 have hB:=Lib.hid ((Below.refl w.heap.size w).alloc (Nat.le_refl _) (.cells #[.pointer (some ⟨11,168,none⟩),.pointer (some a),.int .u64 150] 179))
 have H:=Lib.hid H
 go_enter Tryz.func134,Tryz.ntmps134
 go_wp2
 go_loopg [0] p.length (fun k x wr=> ∃q : List ByteArray,Hid (q.length=k)∧wr=w.alloc (.cells #[.pointer (some ⟨11,168,none⟩),.pointer (some a),.int .u64 150] 179)∧Hid (isErr wr (some n) q x))
 case atStart=>exact ⟨p,rfl,rfl,H.out.keep hB.out⟩
 case round=>
  obtain ⟨q,hq,rfl,hE⟩:=hrel
  cases q with
  | nil=>
    have e:=hE.out
    simp only [isErr] at e
    subst e
    clear hE
    go_wp2
    go_ret
    exact ⟨rfl,_,hB.out.alloc (by simp) _,rfl⟩
  | cons s q=>
    obtain ⟨b,v',rfl,hlt,c0,c1,hE'⟩:=hE.out
    obtain ⟨T,u,rfl⟩:=isErr_iface hE'
    have hE':=Lib.hid hE'
    clear hE c0
    go_wp2
    go_roundg q.length
    case measure=>have:=hq.out;simp at this;omega
    case rel=>exact ⟨q,rfl,rfl,hE'⟩
set_option maxHeartbeats 1000000 in
theorem asF_hit (n : Addr) (tgt : Value) (a t : Addr) (old : Value) (w : World) (ha : w.cell? a=some (.pointer (some t))) (ht : w.cell? t=some old) (hf : w.frozen? t=false) :
 Calls Tryz.prog 134 #[.iface 109 (.pointer (some n)),tgt,.agg #[.pointer (some ⟨11,167,none⟩),.pointer (some a),.int .u64 150],.iface 199 (.agg #[.pointer (some ⟨11,109,none⟩)])] w fun r w'=>r= .returned (.bool true)∧SetIn w t (.pointer (some n)) w':=by
 have hal:=block_lt_of_cell ha
 have htl:=block_lt_of_cell ht
 have h62:=@run_callFunc_extern Tryz.prog 131 _ (fun args=>ReflectliteValue.unpack (args.getD 0 (.tuple #[]))) Tryz.func131 (by kernel_rfl) (by kernel_rfl) (by kernel_rfl) (by kernel_rfl)
 have h66:=@run_callFunc_extern Tryz.prog 148 _ ReflectliteType.typeOf Tryz.func148 (by kernel_rfl) (by kernel_rfl) (by kernel_rfl) (by kernel_rfl)
 have h109:=@run_callFunc_extern Tryz.prog 196 _ (ReflectliteType.relation "AssignableTo" ReflectliteType.assignableTo) Tryz.func196 (by kernel_rfl) (by kernel_rfl) (by kernel_rfl) (by kernel_rfl)
 have h75:=@run_callFunc_extern Tryz.prog 149 _ (ReflectliteValue.method (ReflectliteValue.valueError "reflectlite.Value.Elem" 0) ReflectliteValue.elem) Tryz.func149 (by kernel_rfl) (by kernel_rfl) (by kernel_rfl) (by kernel_rfl)
 have h76:=@run_callFunc_extern Tryz.prog 150 _ ReflectliteValue.set Tryz.func150 (by kernel_rfl) (by kernel_rfl) (by kernel_rfl) (by kernel_rfl)
 have tN:=typeOfEN
 have tF:=typeOfEF
 have mA:=methodAssignableTo
 have aN:=assEF
 have aF:=assFF
 have nF:=noAsF
 have nN:=noAsN
 have uF:=hasUnwrapF
 have uN:=noUnwrapN
 have usN:=noUnwrapsN
 have mU:=methodUnwrap
 have vE:=valueOfEF n
 have el:=elemVF a t (w.alloc (.cells #[.pointer (some ⟨11,167,none⟩),.pointer (some a),.int .u64 150] 179)) (by rw [World.cell?_alloc_lt _ _ a hal];exact ha)
 have st:=setEF t ⟨w.heap.size + 1,0,none⟩ n old ((w.alloc (.cells #[.pointer (some ⟨11,167,none⟩),.pointer (some a),.int .u64 150] 179)).alloc (.cells #[.pointer (some n)] 109))
  (by rw [World.cell?_alloc_at _ _ _ _ (by simp)];rfl)
  (by rw [World.cell?_alloc_lt _ _ t (by simp <;> omega),World.cell?_alloc_lt _ _ t htl];exact ht)
  (by rw [World.frozen?_alloc_old _ _ t (by simp <;> omega),World.frozen?_alloc_old _ _ t (Nat.ne_of_lt htl)];exact hf)
 have hB:=Lib.hid ((Below.refl w.heap.size w).alloc (Nat.le_refl _) (.cells #[.pointer (some ⟨11,167,none⟩),.pointer (some a),.int .u64 150] 179))
 go_enter Tryz.func134,Tryz.ntmps134
 go_wp2
 refine wp_loop_rounds 1 ?_
 rw [rounds_succ]
 go_wp2
 go_ret
 exact ⟨rfl,_,hB.out.alloc (by simp) _,rfl⟩
set_option maxHeartbeats 1000000 in
theorem asF_miss (m : Int) (tgt : Value) (a t : Addr) (old : Value) (w : World) (ha : w.cell? a=some (.pointer (some t))) (ht : w.cell? t=some old) (hf : w.frozen? t=false) :
 Calls Tryz.prog 134 #[.iface 51 (.int .i64 m),tgt,.agg #[.pointer (some ⟨11,167,none⟩),.pointer (some a),.int .u64 150],.iface 199 (.agg #[.pointer (some ⟨11,109,none⟩)])] w fun r w'=>r= .returned (.bool false)∧Below w.heap.size w w':=by
 have hal:=block_lt_of_cell ha
 have htl:=block_lt_of_cell ht
 have h62:=@run_callFunc_extern Tryz.prog 131 _ (fun args=>ReflectliteValue.unpack (args.getD 0 (.tuple #[]))) Tryz.func131 (by kernel_rfl) (by kernel_rfl) (by kernel_rfl) (by kernel_rfl)
 have h66:=@run_callFunc_extern Tryz.prog 148 _ ReflectliteType.typeOf Tryz.func148 (by kernel_rfl) (by kernel_rfl) (by kernel_rfl) (by kernel_rfl)
 have h109:=@run_callFunc_extern Tryz.prog 196 _ (ReflectliteType.relation "AssignableTo" ReflectliteType.assignableTo) Tryz.func196 (by kernel_rfl) (by kernel_rfl) (by kernel_rfl) (by kernel_rfl)
 have h75:=@run_callFunc_extern Tryz.prog 149 _ (ReflectliteValue.method (ReflectliteValue.valueError "reflectlite.Value.Elem" 0) ReflectliteValue.elem) Tryz.func149 (by kernel_rfl) (by kernel_rfl) (by kernel_rfl) (by kernel_rfl)
 have h76:=@run_callFunc_extern Tryz.prog 150 _ ReflectliteValue.set Tryz.func150 (by kernel_rfl) (by kernel_rfl) (by kernel_rfl) (by kernel_rfl)
 have tN:=typeOfEN
 have tF:=typeOfEF
 have mA:=methodAssignableTo
 have aN:=assEF
 have aF:=assFF
 have nF:=noAsF
 have nN:=noAsN
 have uF:=hasUnwrapF
 have uN:=noUnwrapN
 have usN:=noUnwrapsN
 have mU:=methodUnwrap
 have hB:=Lib.hid ((Below.refl w.heap.size w).alloc (Nat.le_refl _) (.cells #[.pointer (some ⟨11,167,none⟩),.pointer (some a),.int .u64 150] 179))
 go_enter Tryz.func134,Tryz.ntmps134
 go_wp2
 refine wp_loop_rounds 1 ?_
 rw [rounds_succ]
 go_wp2
 go_ret
 exact ⟨rfl,hB.out⟩
end
section
open Go.RowKit Go.Extern.Stop Go.Stop Go.Extern
set_option maxHeartbeats 1000000 in
theorem AsN_hit (n : Int) (p : List ByteArray) (v : Value) (t : Addr) (old : Value) (w : World) (H : isErr w (some n) p v) (G : ETy w) (ht : w.cell? t=some old) (hf : w.frozen? t=false) :
 Calls Tryz.prog 121 #[v,.iface 168 (.pointer (some t))] w fun r w'=>r= .returned (.bool true)∧SetIn w t (.int .i64 n) w':=by
 obtain ⟨T,u,rfl⟩:=isErr_iface H
 have H:=Lib.hid H
 have htl:=block_lt_of_cell ht
 obtain ⟨_,hg0,hgl⟩:=G
 have h62:=@run_callFunc_extern Tryz.prog 131 _ (fun args=>ReflectliteValue.unpack (args.getD 0 (.tuple #[]))) Tryz.func131 (by kernel_rfl) (by kernel_rfl) (by kernel_rfl) (by kernel_rfl)
 have h63:=@run_callFunc_extern Tryz.prog 132 _ (ReflectliteValue.methodAny (ReflectliteValue.valueError "reflectlite.Value.Type" 0) (fun t _ _ _=>ReflectliteType.toType t)) Tryz.func132 (by kernel_rfl) (by kernel_rfl) (by kernel_rfl) (by kernel_rfl)
 have h64:=@run_callFunc_extern Tryz.prog 133 _ (ReflectliteValue.method (ReflectliteValue.valueError "reflectlite.Value.IsNil" 0) ReflectliteValue.isNil) Tryz.func133 (by kernel_rfl) (by kernel_rfl) (by kernel_rfl) (by kernel_rfl)
 have h102:=@run_callFunc_extern Tryz.prog 185 _ (ReflectliteType.abiMethod fun t=>do pure (.int .u8 (← Rtype.kind t))) Tryz.func185 (by kernel_rfl) (by kernel_rfl) (by kernel_rfl) (by kernel_rfl)
 have h111:=@run_callFunc_extern Tryz.prog 198 _ (ReflectliteType.method ReflectliteType.elem) Tryz.func198 (by kernel_rfl) (by kernel_rfl) (by kernel_rfl) (by kernel_rfl)
 have h112:=@run_callFunc_extern Tryz.prog 199 _ (ReflectliteType.relation "Implements" ReflectliteType.implements_) Tryz.func199 (by kernel_rfl) (by kernel_rfl) (by kernel_rfl) (by kernel_rfl)
 have mK:=methodKind
 have mE:=methodElem
 have mI:=methodImplements
 have vT:=valueOfTN t
 have tT:=typeTN
 have kT:=kindTN
 have kE:=kindEN
 have eT:=elemTN
 have iE:=implEN
 have n8:=isNilTN ⟨w.heap.size,0,none⟩ t ((w.alloc (.cells #[.pointer (some t)] 168)).alloc (.cells #[.pointer (some ⟨11,168,none⟩),.pointer (some ⟨w.heap.size,0,none⟩),.int .u64 150] 179)) (by simp)
 have hg2 : ((w.alloc (.cells #[.pointer (some t)] 168)).alloc (.cells #[.pointer (some ⟨11,168,none⟩),.pointer (some ⟨w.heap.size,0,none⟩),.int .u64 150] 179)).cell? ⟨2,0,none⟩=some (.iface 199 (.agg #[.pointer (some ⟨11,48,none⟩)])):=by
  rw [World.cell?_alloc_lt _ _ ⟨2,0,none⟩ (by simp <;> omega),World.cell?_alloc_lt _ _ ⟨2,0,none⟩ hgl];exact hg0
 have hB:=Lib.hid (((Below.refl w.heap.size w).alloc (Nat.le_refl _) (.cells #[.pointer (some t)] 168)).alloc (by simp) (.cells #[.pointer (some ⟨11,168,none⟩),.pointer (some ⟨w.heap.size,0,none⟩),.int .u64 150] 179))
 have cA:=Lib.hid (asN_hit n p _ (.iface 168 (.pointer (some t))) ⟨w.heap.size,0,none⟩ t old _ (H.out.keep hB.out) (show ((w.alloc (.cells #[.pointer (some t)] 168)).alloc (.cells #[.pointer (some ⟨11,168,none⟩),.pointer (some ⟨w.heap.size,0,none⟩),.int .u64 150] 179)).cell? ⟨w.heap.size,0,none⟩=_ by simp)
  (by rw [World.cell?_alloc_lt _ _ t (by simp <;> omega),World.cell?_alloc_lt _ _ t htl];exact ht)
  (by rw [World.frozen?_alloc_old _ _ t (by simp <;> omega),World.frozen?_alloc_old _ _ t (Nat.ne_of_lt htl)];exact hf))
 clear ht hf hg0
 go_enter Tryz.func121,Tryz.ntmps121
 go_wp2_with (go_at_call 134;refine cA.out.mono ?_;rintro r w1 ⟨rfl,hq⟩)
 go_ret
 exact ⟨rfl,SetIn.from_ hB.out hq⟩
set_option maxHeartbeats 1000000 in
theorem AsF_hit (n : Addr) (t : Addr) (old : Value) (w : World) (G : ETy w) (ht : w.cell? t=some old) (hf : w.frozen? t=false) :
 Calls Tryz.prog 121 #[.iface 109 (.pointer (some n)),.iface 167 (.pointer (some t))] w fun r w'=>r= .returned (.bool true)∧SetIn w t (.pointer (some n)) w':=by
 have htl:=block_lt_of_cell ht
 obtain ⟨_,hg0,hgl⟩:=G
 have h62:=@run_callFunc_extern Tryz.prog 131 _ (fun args=>ReflectliteValue.unpack (args.getD 0 (.tuple #[]))) Tryz.func131 (by kernel_rfl) (by kernel_rfl) (by kernel_rfl) (by kernel_rfl)
 have h63:=@run_callFunc_extern Tryz.prog 132 _ (ReflectliteValue.methodAny (ReflectliteValue.valueError "reflectlite.Value.Type" 0) (fun t _ _ _=>ReflectliteType.toType t)) Tryz.func132 (by kernel_rfl) (by kernel_rfl) (by kernel_rfl) (by kernel_rfl)
 have h64:=@run_callFunc_extern Tryz.prog 133 _ (ReflectliteValue.method (ReflectliteValue.valueError "reflectlite.Value.IsNil" 0) ReflectliteValue.isNil) Tryz.func133 (by kernel_rfl) (by kernel_rfl) (by kernel_rfl) (by kernel_rfl)
 have h102:=@run_callFunc_extern Tryz.prog 185 _ (ReflectliteType.abiMethod fun t=>do pure (.int .u8 (← Rtype.kind t))) Tryz.func185 (by kernel_rfl) (by kernel_rfl) (by kernel_rfl) (by kernel_rfl)
 have h111:=@run_callFunc_extern Tryz.prog 198 _ (ReflectliteType.method ReflectliteType.elem) Tryz.func198 (by kernel_rfl) (by kernel_rfl) (by kernel_rfl) (by kernel_rfl)
 have h112:=@run_callFunc_extern Tryz.prog 199 _ (ReflectliteType.relation "Implements" ReflectliteType.implements_) Tryz.func199 (by kernel_rfl) (by kernel_rfl) (by kernel_rfl) (by kernel_rfl)
 have mK:=methodKind
 have mE:=methodElem
 have mI:=methodImplements
 have vT:=valueOfTF t
 have tT:=typeTF
 have kT:=kindTF
 have kE:=kindEF
 have eT:=elemTF
 have iE:=implEF
 have n8:=isNilTF ⟨w.heap.size,0,none⟩ t ((w.alloc (.cells #[.pointer (some t)] 167)).alloc (.cells #[.pointer (some ⟨11,167,none⟩),.pointer (some ⟨w.heap.size,0,none⟩),.int .u64 150] 179)) (by simp)
 have hg2 : ((w.alloc (.cells #[.pointer (some t)] 167)).alloc (.cells #[.pointer (some ⟨11,167,none⟩),.pointer (some ⟨w.heap.size,0,none⟩),.int .u64 150] 179)).cell? ⟨2,0,none⟩=some (.iface 199 (.agg #[.pointer (some ⟨11,48,none⟩)])):=by
  rw [World.cell?_alloc_lt _ _ ⟨2,0,none⟩ (by simp <;> omega),World.cell?_alloc_lt _ _ ⟨2,0,none⟩ hgl];exact hg0
 have hB:=Lib.hid (((Below.refl w.heap.size w).alloc (Nat.le_refl _) (.cells #[.pointer (some t)] 167)).alloc (by simp) (.cells #[.pointer (some ⟨11,167,none⟩),.pointer (some ⟨w.heap.size,0,none⟩),.int .u64 150] 179))
 have cA:=Lib.hid (asF_hit n (.iface 167 (.pointer (some t))) ⟨w.heap.size,0,none⟩ t old _ (show ((w.alloc (.cells #[.pointer (some t)] 167)).alloc (.cells #[.pointer (some ⟨11,167,none⟩),.pointer (some ⟨w.heap.size,0,none⟩),.int .u64 150] 179)).cell? ⟨w.heap.size,0,none⟩=_ by simp)
  (by rw [World.cell?_alloc_lt _ _ t (by simp <;> omega),World.cell?_alloc_lt _ _ t htl];exact ht)
  (by rw [World.frozen?_alloc_old _ _ t (by simp <;> omega),World.frozen?_alloc_old _ _ t (Nat.ne_of_lt htl)];exact hf))
 clear ht hf hg0
 go_enter Tryz.func121,Tryz.ntmps121
 go_wp2_with (go_at_call 134;refine cA.out.mono ?_;rintro r w1 ⟨rfl,hq⟩)
 go_ret
 exact ⟨rfl,SetIn.from_ hB.out hq⟩
set_option maxHeartbeats 1000000 in
theorem AsF_miss (m : Int) (t : Addr) (old : Value) (w : World) (G : ETy w) (ht : w.cell? t=some old) (hf : w.frozen? t=false) :
 Calls Tryz.prog 121 #[.iface 51 (.int .i64 m),.iface 167 (.pointer (some t))] w fun r w'=>r= .returned (.bool false)∧Below w.heap.size w w':=by
 have htl:=block_lt_of_cell ht
 obtain ⟨_,hg0,hgl⟩:=G
 have h62:=@run_callFunc_extern Tryz.prog 131 _ (fun args=>ReflectliteValue.unpack (args.getD 0 (.tuple #[]))) Tryz.func131 (by kernel_rfl) (by kernel_rfl) (by kernel_rfl) (by kernel_rfl)
 have h63:=@run_callFunc_extern Tryz.prog 132 _ (ReflectliteValue.methodAny (ReflectliteValue.valueError "reflectlite.Value.Type" 0) (fun t _ _ _=>ReflectliteType.toType t)) Tryz.func132 (by kernel_rfl) (by kernel_rfl) (by kernel_rfl) (by kernel_rfl)
 have h64:=@run_callFunc_extern Tryz.prog 133 _ (ReflectliteValue.method (ReflectliteValue.valueError "reflectlite.Value.IsNil" 0) ReflectliteValue.isNil) Tryz.func133 (by kernel_rfl) (by kernel_rfl) (by kernel_rfl) (by kernel_rfl)
 have h102:=@run_callFunc_extern Tryz.prog 185 _ (ReflectliteType.abiMethod fun t=>do pure (.int .u8 (← Rtype.kind t))) Tryz.func185 (by kernel_rfl) (by kernel_rfl) (by kernel_rfl) (by kernel_rfl)
 have h111:=@run_callFunc_extern Tryz.prog 198 _ (ReflectliteType.method ReflectliteType.elem) Tryz.func198 (by kernel_rfl) (by kernel_rfl) (by kernel_rfl) (by kernel_rfl)
 have h112:=@run_callFunc_extern Tryz.prog 199 _ (ReflectliteType.relation "Implements" ReflectliteType.implements_) Tryz.func199 (by kernel_rfl) (by kernel_rfl) (by kernel_rfl) (by kernel_rfl)
 have mK:=methodKind
 have mE:=methodElem
 have mI:=methodImplements
 have vT:=valueOfTF t
 have tT:=typeTF
 have kT:=kindTF
 have kE:=kindEF
 have eT:=elemTF
 have iE:=implEF
 have n8:=isNilTF ⟨w.heap.size,0,none⟩ t ((w.alloc (.cells #[.pointer (some t)] 167)).alloc (.cells #[.pointer (some ⟨11,167,none⟩),.pointer (some ⟨w.heap.size,0,none⟩),.int .u64 150] 179)) (by simp)
 have hg2 : ((w.alloc (.cells #[.pointer (some t)] 167)).alloc (.cells #[.pointer (some ⟨11,167,none⟩),.pointer (some ⟨w.heap.size,0,none⟩),.int .u64 150] 179)).cell? ⟨2,0,none⟩=some (.iface 199 (.agg #[.pointer (some ⟨11,48,none⟩)])):=by
  rw [World.cell?_alloc_lt _ _ ⟨2,0,none⟩ (by simp <;> omega),World.cell?_alloc_lt _ _ ⟨2,0,none⟩ hgl];exact hg0
 have hB:=Lib.hid (((Below.refl w.heap.size w).alloc (Nat.le_refl _) (.cells #[.pointer (some t)] 167)).alloc (by simp) (.cells #[.pointer (some ⟨11,167,none⟩),.pointer (some ⟨w.heap.size,0,none⟩),.int .u64 150] 179))
 have cA:=Lib.hid (asF_miss m (.iface 167 (.pointer (some t))) ⟨w.heap.size,0,none⟩ t old _ (show ((w.alloc (.cells #[.pointer (some t)] 167)).alloc (.cells #[.pointer (some ⟨11,167,none⟩),.pointer (some ⟨w.heap.size,0,none⟩),.int .u64 150] 179)).cell? ⟨w.heap.size,0,none⟩=_ by simp)
  (by rw [World.cell?_alloc_lt _ _ t (by simp <;> omega),World.cell?_alloc_lt _ _ t htl];exact ht)
  (by rw [World.frozen?_alloc_old _ _ t (by simp <;> omega),World.frozen?_alloc_old _ _ t (Nat.ne_of_lt htl)];exact hf))
 clear ht hf hg0
 go_enter Tryz.func121,Tryz.ntmps121
 go_wp2_with (go_at_call 134;refine cA.out.mono ?_;rintro r w1 ⟨rfl,hq⟩)
 go_ret
 exact ⟨rfl,hB.out.trans (hq.mono hB.out.size)⟩
end
section
open Go.RowKit Go.Extern.Stop Go.Stop Go.Extern
section
variable {P : Program} (w : World)
end
end
section
open Go.RowKit
set_option maxHeartbeats 400000 in
theorem code_num (n : Int) (p : List ByteArray) (v : Value) (w : World) (H : isErr w (some n) p v) (G : ETy w) :
 Calls Tryz.prog 74 #[v] w fun r w'=>r= .returned (.int .i64 n)∧Below w.heap.size w w':=by
 obtain ⟨T,u,rfl⟩:=isErr_some H
 have hB:=(Below.refl w.heap.size w).alloc (Nat.le_refl _) (.cells #[.int .i64 0] 51)
 have ht : (w.alloc (.cells #[.int .i64 0] 51)).cell? ⟨w.heap.size,0,none⟩=some (.int .i64 0):=by simp
 have hT:=Lib.hid ht
 have cA:=Lib.hid (AsN_hit n p _ ⟨w.heap.size,0,none⟩ (.int .i64 0) _ (H.keep hB) (G.keep hB) ht (by simp))
 have hB:=Lib.hid hB
 clear ht
 go_enter Tryz.func74,Tryz.ntmps74
 go_wp2_with (go_at_call 121;refine cA.out.mono ?_;rintro r w1 ⟨rfl,hq⟩;have hc:=hq.cell hT.out)
 go_ret
 exact ⟨rfl,hq.below hB.out (by simp) (Nat.le_refl _)⟩
end
section
open Go.RowKit
section
variable {P : Program} {ops : Array Oper} {Q : Exit→Act→World→Prop} {a : Act} {w : World} {rest : List Oper} {o : Oper}
theorem wpList_append_at (hgd : o.guard=none) (s x : Operand) (t : TypeId)
 (ho : o.op= .call { callee:= .builtin .append,args:=#[s,x],argTypes:=#[t,t] })
 (e : TypeId) (i : TypeInfo) (z : Value) (size bytes : Nat) (ht : P.underlying t=some (.slice e)) (hi : P.info? e=some i) (hz : i.zero=some z)
 (hsize : i.size=size) (hby : i.bytes=bytes) (hzs : z.cells.size=size) (hsz : 0 < size)
 (base : Nat) (hB : base≤w.heap.size) (v : Value) (zs : List (List Value)) (hs : a.eval s=v) (hown : OwnR w base size e v zs)
 (g c : Nat) (row : List Value) (hx : a.eval x= .slice (some ⟨g,0,none⟩) 1 c) (hrow : w.rangeAt g 0 row) (hl : row.length=size) (h1 : ∀u∈row,u.oneCell' =true)
 (h63 : zs.length + 1≤maxLen) (hbytes : (zs.length + 1) * bytes≤140737488355328)
 (h : ∀v' w',OwnR w' base size e v' (zs ++ [row])→Below base w w'→wpList P ops Q rest (a.put o.dst v') w') : wpList P ops Q (o :: rest) a w:=by
 refine wpList_append_own w hgd s x t ho base e i z size bytes ht hi hz hsize hby hzs hsz v zs.length zs.flatten hs hown.1 ⟨g,0,none⟩ 1 c row hx (by rw [hl,Nat.one_mul])
  (fun j u hu=>by rw [Addr.add_mid];exact hrow j u hu) h1 h63 hbytes hB ?_
 intro v' w' hown' hg _
 refine h v' w' ⟨by simpa [List.length_append,List.flatten_append] using hown',fun z hz=> ?_⟩ ((Below.refl base w).grown hg hB hown.lt)
 rcases List.mem_append.1 hz with hz | hz
 · exact hown.2 z hz
 · simp only [List.mem_singleton] at hz
   subst hz
   exact hl
end
theorem OwnR.from_ {w w' : World} {base k : Nat} {E : TypeId} {v : Value} {zs : List (List Value)} (h : OwnR w base k E v zs) (hb : ∀g,base≤g→g < w.heap.size→w'.heap[g]? =w.heap[g]?) : OwnR w' base k E v zs:=by
 obtain ⟨⟨hl,hh⟩,hz⟩:=h
 refine ⟨⟨hl,?_⟩,hz⟩
 rcases hh with h0 | ⟨g,cap,cur,hv,hg,hc,r⟩
 · exact .inl h0
 · have hlt : g < w.heap.size:=(Array.getElem?_eq_some_iff.1 hc).1
   exact .inr ⟨g,cap,cur,hv,hg,(hb g hg hlt).trans hc,r⟩
theorem SetIn.block {w w' : World} {t : Addr} {x : Value} (h : SetIn w t x w') {g : Nat} (hg : g≠t.block) (hlt : g < w.heap.size) : w'.heap[g]? =w.heap[g]? :=by
 obtain ⟨W,hb,rfl⟩:=h
 exact (Below.heap_setCell W t x g hg).trans (hb.block g hlt)
theorem OwnR.setIn {w w' : World} {base k : Nat} {E : TypeId} {v x : Value} {t : Addr} {zs : List (List Value)} (h : OwnR w base k E v zs) (hq : SetIn w t x w') (ht : t.block < base) : OwnR w' base k E v zs:=
 h.from_ fun g hg hlt=>hq.block (by omega) hlt
structure PSt (w0 w : World) (v : Value) (p : List ByteArray) : Prop where
 own : OwnR w (w0.heap.size + 1) 1 9 v (p.map sv)
 size : w0.heap.size + 1≤w.heap.size
 cell : ∃old,w.cell? ⟨w0.heap.size,0,none⟩=some old
 free : w.frozen? ⟨w0.heap.size,0,none⟩=false
 below : Below w0.heap.size w0 w
theorem frozen_setIn {w w' : World} {b o : Nat} {x old : Value} (h : SetIn w ⟨b,o,none⟩ x w') (ht : w.cell? ⟨b,o,none⟩=some old) (hf : w.frozen? ⟨b,o,none⟩=false) : w'.frozen? ⟨b,o,none⟩=false:=by
 obtain ⟨W,hb,rfl⟩:=h
 have hlt : b < w.heap.size:=block_lt_of_cell ht
 rw [World.frozen?_setCell]
 exact (hb.frozen (p:=⟨b,o,none⟩) hlt).trans hf
theorem PSt.set {w0 w w' : World} {v x : Value} {p : List ByteArray} (h : PSt w0 w v p) (hq : SetIn w ⟨w0.heap.size,0,none⟩ x w') : PSt w0 w' v p∧w'.cell? ⟨w0.heap.size,0,none⟩=some x:=by
 obtain ⟨old,hc⟩:=h.cell
 have hx:=hq.cell hc
 exact ⟨⟨h.own.setIn hq (by simp),Nat.le_trans h.size hq.size,⟨_,hx⟩,frozen_setIn hq hc h.free,hq.below h.below (by have:=h.size;omega) (Nat.le_refl _)⟩,hx⟩
theorem PSt.keep {w0 w w' : World} {v : Value} {p : List ByteArray} (h : PSt w0 w v p) (hb : Below w.heap.size w w') : PSt w0 w' v p:=by
 have hlt : w0.heap.size < w.heap.size:=h.size
 obtain ⟨old,hc⟩:=h.cell
 exact ⟨h.own.keep hb,Nat.le_trans h.size hb.size,⟨old,(hb.cell (p:=⟨w0.heap.size,0,none⟩) hlt).trans hc⟩,(hb.frozen (p:=⟨w0.heap.size,0,none⟩) hlt).trans h.free,h.below.trans (hb.mono (by omega))⟩
theorem PSt.put {w0 w w' : World} {v v' : Value} {p : List ByteArray} {s : ByteArray} (h : PSt w0 w v p) (hown : OwnR w' (w0.heap.size + 1) 1 9 v' (p.map sv ++ [sv s])) (hb : Below (w0.heap.size + 1) w w') : PSt w0 w' v' (p ++ [s]):=by
 obtain ⟨old,hc⟩:=h.cell
 exact ⟨by rw [List.map_append];exact hown,Nat.le_trans h.size (by have:=hb.size;have:=h.size;omega),⟨old,(hb.cell (p:=⟨w0.heap.size,0,none⟩) (by simp)).trans hc⟩,(hb.frozen (p:=⟨w0.heap.size,0,none⟩) (by simp)).trans h.free,h.below.trans (hb.mono (by omega))⟩
def Places (w : World) (p : List ByteArray) (r : Ending) (w' : World) : Prop:= ∃v,r= .returned v∧OwnS w' w.heap.size v p∧Below w.heap.size w w'
theorem PSt.out {w0 w : World} {v : Value} {p : List ByteArray} (h : PSt w0 w v p) : Places w0 p (.returned v) w:=by
 refine ⟨v,rfl,?_,h.below⟩
 obtain ⟨⟨hl,hh⟩,hz⟩:=h.own
 refine ⟨⟨hl,?_⟩,hz⟩
 rcases hh with h0 | ⟨g,cap,cur,hv,hg,hc,r⟩
 · exact .inl h0
 · exact .inr ⟨g,cap,cur,hv,by omega,hc,r⟩
set_option maxRecDepth 100000 in
set_option maxHeartbeats 2000000 in
theorem path_any (o : Option Int) (p : List ByteArray) (v : Value) (w : World) (hp : p.length≤1000000) (H : isErr w o p v) (G : ETy w) :
 Calls Tryz.prog 73 #[v] w (Places w p):=by
 obtain ⟨i0,hi,hz0,hz1,hz2⟩:=info_parts str_info
 have hS : PSt w (w.alloc (.cells #[.pointer none] 109)) (.slice none 0 0) []:=
  ⟨OwnR.nil_ _ _ _ _,by simp,⟨.pointer none,by simp⟩,by simp,(Below.refl _ _).alloc (Nat.le_refl _) _⟩
 have hS:=Lib.hid hS
 have G:=Lib.hid G
 have H:=Lib.hid H
 go_enter Tryz.func73,Tryz.ntmps73
 go_wp2
 go_loopg [0,3] p.length (fun k x out wr=> ∃q pre : List ByteArray,Hid (p=pre ++ q)∧Hid (q.length=k)∧Hid (isErr w o q x)∧Hid (PSt w wr out pre))
 case atStart=>exact ⟨p,[],rfl,rfl,H,hS⟩
 case round=>
  obtain ⟨q,pre,hpq,hq,hE,hS⟩:=hrel
  cases q with
  | nil=>
    have e:=hE.out
    cases o with
    | none=>
      simp only [isErr] at e
      subst e
      have hfin:=Lib.hid (show Places w p (.returned u3) wr by rw [hpq.out,List.append_nil];exact hS.out.out)
      clear hE hS
      go_wp2
      go_ret
      exact hfin.out
    | some m=>
      simp only [isErr] at e
      subst e
      obtain ⟨old,hc⟩:=hS.out.cell
      have cA:=Lib.hid (AsF_miss m ⟨w.heap.size,0,none⟩ old wr (G.out.keep hS.out.below) hc hS.out.free)
      clear hE hc
      go_wp2_with (go_at_call 121;refine cA.out.mono ?_;rintro r w1 ⟨rfl,hb⟩)
      have hfin:=Lib.hid (show Places w p (.returned u3) w1 by rw [hpq.out,List.append_nil];exact (hS.out.keep hb).out)
      go_ret
      exact hfin.out
  | cons s q=>
    obtain ⟨b,v',rfl,hlt,c0,c1,hE'⟩:=hE.out
    obtain ⟨old,hc⟩:=hS.out.cell
    have cA:=Lib.hid (AsF_hit ⟨b,0,none⟩ ⟨w.heap.size,0,none⟩ old wr (G.out.keep hS.out.below) hc hS.out.free)
    have hE':=Lib.hid hE'
    have C0:=Lib.hid c0
    have C1:=Lib.hid c1
    clear hE hc c0 c1
    go_upto_region 4 with (go_at_call 121;refine cA.out.mono ?_;rintro r w1 ⟨rfl,hb⟩;obtain ⟨hS1,hf1⟩:=hS.out.set hb;have d0:=(hS1.below.cell (p:=⟨b,0,none⟩) hlt).trans C0.out;have d1:=(hS1.below.cell (p:=⟨b,1,none⟩) hlt).trans C1.out;have hS1:=Lib.hid hS1;have hf1':=Lib.hid hf1)
    have hb1:=Lib.hid ((Below.refl w1.heap.size w1).alloc (Nat.le_refl _) (.cells #[.string s] 9))
    have hx:=Lib.hid (rangeAt_list (cs:=[.string s]) (heap_new w1 (.cells #[.string s] 9)))
    have hpl:=Lib.hid (show pre.length + 1≤1000000 by have:=congrArg List.length hpq.out;simp at this;omega)
    have hown:=hS1.out.own.keep hb1.out
    go_upto_region 5 with (refine wpList_append_at rfl _ _ 27 rfl 9 i0 (.string ByteArray.empty) 1 16 Tryz.underlying27 hi hz0 hz1 hz2 rfl (by decide) (w.heap.size + 1) ?c1 _ _ rfl hown w1.heap.size 1 (sv s) rfl hx.out rfl ?c2 ?c3 ?c4 ?_)
    case c1=>have:=hS1.out.size;simp;omega
    case c2=>intro u hu;simp [sv] at hu;subst hu;rfl
    case c3=>have:=hpl.out;unfold maxLen;simp;omega
    case c4=>have:=hpl.out;simp;omega
    intro v2 w2 hown2 hb2
    have hS2:=Lib.hid ((hS1.out.keep hb1.out).put hown2 hb2)
    have d1':=(hS2.out.below.cell (p:=⟨b,1,none⟩) hlt).trans C1.out
    have hf2:=(hb2.cell (p:=⟨w.heap.size,0,none⟩) (by simp)).trans ((hb1.out.cell (p:=⟨w.heap.size,0,none⟩) hS1.out.size).trans hf1'.out)
    clear hown hown2 hf1 d0 d1 hb hb2
    go_wp2
    go_roundg q.length
    case measure=>have:=hq.out;simp at this;omega
    case rel=>exact ⟨q,pre ++ [s],by unfold Hid;rw [hpq.out];simp,rfl,hE',hS2⟩
end
section
open Go.RowKit
def spS (p : List ByteArray) : ByteArray:=p.foldl (fun a s=>a ++ s ++ ⟨#[32]⟩) ⟨#[]⟩
theorem spS_snoc (p : List ByteArray) (s : ByteArray) : spS (p ++ [s])=spS p ++ s ++ ⟨#[32]⟩:=by unfold spS;rw [List.foldl_append];rfl
theorem spS_le (p q : List ByteArray) : (spS p).size≤(spS (p ++ q)).size:=by
 induction q generalizing p with
 | nil=>rw [List.append_nil];exact Nat.le_refl _
 | cons s q ih=>
   have h:=ih (p ++ [s])
   rw [List.append_assoc,spS_snoc] at h
   refine Nat.le_trans ?_ h
   simp only [ByteArray.size_append];omega
theorem spS_room {p : List ByteArray} {k : Nat} {s : ByteArray} (h : p[k]? =some s) : (spS (p.take k)).size + s.size + 1≤(spS p).size:=by
 have h1:=spS_le (p.take (k + 1)) (p.drop (k + 1))
 rw [List.take_append_drop,take_succ_of h,spS_snoc] at h1
 have h2 : (spS (p.take k) ++ s ++ ⟨#[32]⟩).size=(spS (p.take k)).size + s.size + 1:=by simp only [ByteArray.size_append];rfl
 omega
theorem places_slice {w w' : World} {p : List ByteArray} {r : Ending} (h : Places w p r w') : ∃A k c,r= .returned (.slice A k c)∧Hid (k=p.length)∧Hid (Strs w' A k p)∧Below w.heap.size w w':=by
 obtain ⟨v,rfl,ho,hb⟩:=h
 obtain ⟨A,c,rfl,hs⟩:=ho.strs
 exact ⟨A,p.length,c,rfl,rfl,hs,hb⟩
set_option maxRecDepth 100000 in
set_option maxHeartbeats 4000000 in
theorem wrong07_any (n : Int) (p : List ByteArray) (v : Value) (w : World) (hl : p.length≤20) (hp : (spS p).size≤1000000) (H : isErr w (some n) p v) (G : ETy w) :
 Calls Tryz.prog 44 #[v,.agg #[.int .i64 n,.string (spS p)]] w fun r w'=>r= .returned (.bool true)∧Below w.heap.size w w':=by
 obtain ⟨T,u,rfl⟩:=isErr_some H
 have hB1:=(Below.refl w.heap.size w).alloc (Nat.le_refl _) (.cells #[.int .i64 n,.string (spS p)] 94)
 have cP:=Lib.hid (path_any (some n) p (.iface T u) _ (by omega) (H.keep hB1) (G.keep hB1))
 have hc:=heap_new w (.cells #[.int .i64 n,.string (spS p)] 94)
 have hlt:=(Array.getElem?_eq_some_iff.1 hc).1
 have c0 : (w.alloc (.cells #[.int .i64 n,.string (spS p)] 94)).cell? ⟨w.heap.size,0,none⟩=some (.int .i64 n):=cell_of_row _ _ 0 _ _ _ hc
 have c1 : (w.alloc (.cells #[.int .i64 n,.string (spS p)] 94)).cell? ⟨w.heap.size,1,none⟩=some (.string (spS p)):=cell_of_row _ _ 1 _ _ _ hc
 have HE:=Lib.hid (fun W (h : Below w.heap.size w W)=>code_num n p (.iface T u) W (H.keep h) (G.keep h))
 have hB1:=Lib.hid hB1
 have c0:=Lib.hid c0
 have c1:=Lib.hid c1
 have hlt:=Lib.hid hlt
 clear H G hc
 go_enter Tryz.func44,Tryz.ntmps44
 go_wp2_with (go_at_call 73;refine cP.out.mono ?_;rintro r w5 hpl;obtain ⟨A5,k5,cc5,rfl,hk5,hS5,hb5⟩:=places_slice hpl;clear hpl;have hB5:=Lib.hid (hB1.out.trans (hb5.mono hB1.out.size));have d0:=Lib.hid ((hb5.cell (p:=⟨w.heap.size,0,none⟩) hlt.out).trans c0.out);have d1:=Lib.hid ((hb5.cell (p:=⟨w.heap.size,1,none⟩) hlt.out).trans c1.out);have hl5:=Lib.hid (Nat.lt_of_lt_of_le hlt.out hb5.size);clear hb5)
 have hk20 : k5≤20:=by rw [hk5.out];exact hl
 go_loop [5,7] (fun s i=> ∃m : Nat,m≤k5∧i= .int .i64 m∧s= .string (spS (p.take m))) (fun _ i=>k5 - (intOf i).toNat)
 case atStart=>exact ⟨0,by omega,rfl,rfl⟩
 case round=>
  obtain ⟨m,hm,rfl,rfl⟩:=hrel
  by_cases hlt : m < k5
  · obtain ⟨b,off,s,rfl,hb,hs,hcs⟩:=hS5.out.at_ hlt
    have hroom:=spS_room hs
    have hstep:=Lib.hid (show spS (p.take (m + 1))=spS (p.take m) ++ s ++ ⟨#[32]⟩ by rw [take_succ_of hs,spS_snoc])
    clear hs
    generalize spS (p.take m)=a at hroom hstep ⊢
    have h1 : a.size + s.size≤1000000:=by omega
    have h2 : (a ++ s).size≤1000000:=by rw [ByteArray.size_append];omega
    have h3 : m < 20:=by omega
    clear hroom hp
    go_wp2_with fail
    go_round
    case rel=>exact ⟨m + 1,by omega,by go_num,by rw [hstep.out]⟩
    case measure=>simp [intOf];omega
  · have hm5 : m=k5:=by omega
    have htk : p.take m=p:=List.take_of_length_le (by rw [← hk5.out,hm5];exact Nat.le_refl _)
    rw [htk]
    have hge : ¬m < k5:=hlt
    generalize spS p=a at hp d1 ⊢
    clear htk hm5 hm hl
    have hS:=Lib.hid (fun W (h : Below w5.heap.size w5 W)=>(⟨(h.cell (p:=⟨w.heap.size,0,none⟩) hl5.out).trans d0.out,(h.cell (p:=⟨w.heap.size,1,none⟩) hl5.out).trans d1.out⟩ : W.cell? ⟨w.heap.size,0,none⟩=some (.int .i64 n)∧W.cell? ⟨w.heap.size,1,none⟩=some (.string a)))
    have hB0:=Lib.hid (show Below w5.heap.size w5 w5.drew from drewN_below 1)
    go_wp2_with fail
    go_region_held3 (fun W=>W.cell? ⟨w.heap.size,0,none⟩=some (.int .i64 n)∧W.cell? ⟨w.heap.size,1,none⟩=some (.string a))
     (first | exact hS.out _ hB0.out | exact hS.out _ hB7.out)
     (first
       | (go_at_call 74;(with_reducible refine (HE.out _ (hB5.out.trans (hB0.out.mono hB5.out.size))).mono ?_);rintro r w7 ⟨rfl,hb7⟩;have hB7:=Lib.hid (hB0.out.trans (hb7.mono hB0.out.size));clear hb7))
    all_goals
     go_wp2_with fail
     go_ret
     exact ⟨rfl,hB5.out.trans (hB7.out.mono hB5.out.size)⟩
end
section
open Go Go.RowKit Go.Shelf
set_option maxRecDepth 100000 in
set_option maxHeartbeats 4000000 in
theorem told_any (n : Int) (p : List ByteArray) (v : Value) (w : World) (y : ByteArray) (hn : n≠0) (hy : y=spS p) (hl : p.length≤20) (hp : (spS p).size≤1000000) (H : isErr w (some n) p v) (G : ETy w) :
 Calls Tryz.prog 21 #[v,.agg #[.int .i64 n,.string y]] w fun r w'=>r= .returned (.bool true)∧Below w.heap.size w w':=by
 obtain ⟨T,u,rfl⟩:=isErr_some H
 have hB1:=below_new w (.cells #[.int .i64 n,.string y] 53)
 have hc:=heap_new w (.cells #[.int .i64 n,.string y] 53)
 have c0 : (w.alloc (.cells #[.int .i64 n,.string y] 53)).cell? ⟨w.heap.size,0,none⟩=some (.int .i64 n):=cell_of_row _ _ 0 _ _ _ hc
 have c1 : (w.alloc (.cells #[.int .i64 n,.string y] 53)).cell? ⟨w.heap.size,1,none⟩=some (.string y):=cell_of_row _ _ 1 _ _ _ hc
 have cW:=wrong07_any n p (.iface T u) _ hl hp (H.keep hB1) (G.keep hB1)
 rw [← hy] at cW
 have hn0 : (n == 0)=false:=beq_eq_false_iff_ne.2 hn
 replace cW:=Lib.hid cW
 replace hB1:=Lib.hid hB1
 clear hn hy hp hl H G hc
 go_enter Tryz.func21,Tryz.ntmps21
 go_wp2_with (first
  | (refine wpList_box_row 53 _ rfl rfl #[.int .i64 n,.string y] rfl ?_)
  | (refine wpList_build_as 94 _ rfl rfl #[.int .i64 n,.string y] (by kernel_rfl) ?_)
  | (go_at_call 44;(with_reducible refine cW.out.mono ?_);rintro r w2 ⟨rfl,hb2⟩;replace hb2:=Lib.hid hb2))
 go_ret
 exact ⟨rfl,hB1.out.trans (hb2.out.mono hB1.out.size)⟩
end
end Go.Proofs.YtmicohmbmgbnkaaGreatDoor
