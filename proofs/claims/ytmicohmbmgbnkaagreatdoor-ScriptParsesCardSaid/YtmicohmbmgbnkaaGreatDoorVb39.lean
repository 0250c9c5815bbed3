/- The law's own Same of confs: two of the same values. (printed by wip/gen_sma.py) -/
import Derived.Test.YtmicohmbmgbnkaaGreatDoorVb37
import Derived.Test.YtmicohmbmgbnkaaGreatDoorVb38
import Derived.BigQuiet
import Derived.Deep.QuietTactic
namespace Go.Proofs.YtmicohmbmgbnkaaGreatDoor
open Go Go.RowKit Go.Shelf Go.ChangeShapes Go.WideShapes Go.Deep
section
variable {W : World} {kd : Int} {vs : List PV} {cs : List Value}
theorem ok_pv (hok : OkVs keyT vs) (i : Nat) (hi : i < 26) {g : Tag} (hk : (keyT[i]?).map (fun p : List UInt8 × Tag=>p.2)=some g) : ∃v,vs[i]? =some v∧OkPV g v:=by
 have hlv : i < vs.length:=by rw [hok.len,keyT_len];exact hi
 obtain ⟨kg,hkg,hg⟩:=map_some hk
 refine ⟨vs[i],List.getElem?_eq_getElem hlv,?_⟩
 rw [← hg]
 exact hok.at hkg (List.getElem?_eq_getElem hlv)
theorem num_cell (hS : StC W kd vs cs) (hok : OkVs keyT vs) (i off : Nat) (hi : i < 26) (ho : offT[i]? =some off) (hk : (keyT[i]?).map (fun p : List UInt8 × Tag=>p.2)=some .num) : ∃n,vs[i]? =some (.num n)∧I64 n:=by
 obtain ⟨v,hv,hp⟩:=ok_pv hok i hi hk
 cases v <;> first | exact absurd hp id | exact ⟨_,hv,hp⟩
theorem text_cell (hS : StC W kd vs cs) (hok : OkVs keyT vs) (i off : Nat) (hi : i < 26) (ho : offT[i]? =some off) (hk : (keyT[i]?).map (fun p : List UInt8 × Tag=>p.2)=some .text) : ∃n,vs[i]? =some (.text n):=by
 obtain ⟨v,hv,hp⟩:=ok_pv hok i hi hk
 cases v <;> first | exact absurd hp id | exact ⟨_,hv⟩
theorem flag_cell (hS : StC W kd vs cs) (hok : OkVs keyT vs) (i off : Nat) (hi : i < 26) (ho : offT[i]? =some off) (hk : (keyT[i]?).map (fun p : List UInt8 × Tag=>p.2)=some .flag) : ∃n,vs[i]? =some (.flag n):=by
 obtain ⟨v,hv,hp⟩:=ok_pv hok i hi hk
 cases v <;> first | exact absurd hp id | exact ⟨_,hv⟩
theorem nums_pv (hok : OkVs keyT vs) (i : Nat) (hi : i < 26) (hk : (keyT[i]?).map (fun p : List UInt8 × Tag=>p.2)=some .nums) : ∃l,vs[i]? =some (.nums l)∧∀n∈l,I64 n:=by
 obtain ⟨v,hv,hp⟩:=ok_pv hok i hi hk
 cases v <;> first | exact absurd hp id | exact ⟨_,hv,hp⟩
theorem texts_pv (hok : OkVs keyT vs) (i : Nat) (hi : i < 26) (hk : (keyT[i]?).map (fun p : List UInt8 × Tag=>p.2)=some .texts) : ∃l,vs[i]? =some (.texts l):=by
 obtain ⟨v,hv,hp⟩:=ok_pv hok i hi hk
 cases v <;> first | exact absurd hp id | exact ⟨_,hv⟩
theorem grants_pv (hok : OkVs keyT vs) : ∃l,vs[18]? =some (.grants l)∧∀g∈l,I64 g.who:=by
 obtain ⟨v,hv,hp⟩:=ok_pv hok 18 (by decide) (g:= .grants) rfl
 cases v <;> first | exact absurd hp id | exact ⟨_,hv,hp⟩
theorem ops_pv (hok : OkVs keyT vs) : ∃l,vs[3]? =some (.ops l)∧∀o∈l,OkOp o:=by
 obtain ⟨v,hv,hp⟩:=ok_pv hok 3 (by decide) (g:= .ops) rfl
 cases v <;> first | exact absurd hp id | exact ⟨_,hv,hp⟩
theorem cell_of (hS : StC W kd vs cs) {i off : Nat} {v : PV} {x : Value} (hv : vs[i]? =some v) (ho : offT[i]? =some off) (h : ∀z,PVal W v z→z[0]? =some x) : cs[off]? =some x:=by
 obtain ⟨z,hz,hc⟩:=hS.val i off v hv ho
 exact hc 0 x (h z hz)
theorem slice_of (hS : StC W kd vs cs) {i off K : Nat} {v : PV} {zs : List (List Value)} (hv : vs[i]? =some v) (ho : offT[i]? =some off) (h : ∀z,PVal W v z→∃y,z=[y]∧SlV W K zs y) : ∃A c,cs[off]? =some (.slice A zs.length c)∧zs.length≤c∧c≤9223372036854775807∧Rws W K A zs.length zs:=by
 obtain ⟨z,hz,hc⟩:=hS.val i off v hv ho
 obtain ⟨y,rfl,A,c,rfl,h1,h2,h3⟩:=h z hz
 exact ⟨A,c,hc 0 _ rfl,h1,h2,h3⟩
end
theorem wish_neq {a b c : Nat} (ha : a < 4294967296) (hb : b < 4294967296) (hc : c < 4294967296) (w : World) : (binOp .neq 39 (.agg #[.int .u32 (a : Int),.int .u32 (b : Int),.int .u32 (c : Int)]) (.agg #[.int .u32 (a : Int),.int .u32 (b : Int),.int .u32 (c : Int)])).run Tryz.prog w= .ok (.bool false) w:=by
 have h:=eql_flatA (m:=3) (n:=3) Tryz.underlying39 (by kernel_rfl) wish_ds (by kernel_rfl) (by kernel_rfl) (by decide) [.int .u32 (a : Int),.int .u32 (b : Int),.int .u32 (c : Int)] [.int .u32 (a : Int),.int .u32 (b : Int),.int .u32 (c : Int)] (wish_ok ha hb hc) (wish_ok ha hb hc) true (by simp) w
 have h : (binOp .eql 39 (.agg #[.int .u32 (a : Int),.int .u32 (b : Int),.int .u32 (c : Int)]) (.agg #[.int .u32 (a : Int),.int .u32 (b : Int),.int .u32 (c : Int)])).run Tryz.prog w= .ok (.bool true) w:=h
 rw [run_eql_struct] at h
 rw [run_neq_struct]
 cases hr : (Op.equalIn 10000 39 (.agg #[.int .u32 (a : Int),.int .u32 (b : Int),.int .u32 (c : Int)]) (.agg #[.int .u32 (a : Int),.int .u32 (b : Int),.int .u32 (c : Int)])).run Tryz.prog w with
 | ok b w'=>
   rw [hr] at h
   simp only [Result.andThen_ok,Result.ok.injEq,Value.bool.injEq] at h
   simp only [Result.andThen_ok,h.1,h.2,Bool.not_true]
 | halt e w'=>
   rw [hr] at h
   simp [Result.andThen] at h
theorem wish_guard : Tryz.prog.eqGuardType Tryz.prog.depth 39=false:=by kernel_rfl
def grDs9 : List TypeDesc:=[.string,.int .i64]
theorem gr_flat9 : flatDesc Tryz.prog 3 108=some grDs9:=by kernel_rfl
theorem gr_ok9 {g : GrX} (hl : g.user.length≤281474976710656) (h : I64 g.who) : allOk grDs9 g.row:=by
 refine ⟨rfl,fun i d v hd hv=> ?_⟩
 match i with
 | 0=>injection hd with hd;injection hv with hv;subst hd hv;exact ⟨_,rfl,by rw [bs_size];unfold maxLen;omega⟩
 | 1=>injection hd with hd;injection hv with hv;subst hd hv;exact ⟨_,rfl,h.1,h.2⟩
 | i + 2=>cases hd
theorem gr_neq {g : GrX} (hl : g.user.length≤281474976710656) (h : I64 g.who) (w : World) : (binOp .neq 108 (.agg g.row.toArray) (.agg g.row.toArray)).run Tryz.prog w= .ok (.bool false) w:=
 neq_flat (m:=3) (n:=3) Tryz.underlying108 (by kernel_rfl) gr_flat9 (by kernel_rfl) (by kernel_rfl) (by decide) g.row g.row (gr_ok9 hl h) (gr_ok9 hl h) true (by simp) w
theorem gr_guard : Tryz.prog.eqGuardType Tryz.prog.depth 108=false:=by kernel_rfl
noncomputable def ldG (a : Addr) : Sem Value:=loadVar 108 a
theorem ldG_eq (a : Addr) : loadVar 108 a=ldG a:=rfl
theorem ldG_run {w : World} {b o : Nat} {g : GrX} (h : w.rangeAt b o g.row) : (ldG ⟨b,o,none⟩).run Tryz.prog w= .ok (.agg g.row.toArray) w:=by
 unfold ldG
 exact run_loadVar_mid (P:=Tryz.prog) w b o 108 g.row _ h Tryz.underlying108 rfl (by kernel_rfl)
noncomputable def neG (x y : Value) : Sem Value:=binOp .neq 108 x y
theorem neG_eq (x y : Value) : binOp .neq 108 x y=neG x y:=rfl
noncomputable def egG (x y : Operand) (a b : Value) : Sem Unit:=eqGuard .neq 108 x y a b
theorem egG_eq (x y : Operand) (a b : Value) : eqGuard .neq 108 x y a b=egG x y a b:=rfl
theorem egG_run (x y : Operand) (xs ys : Array Value) (w : World) : (egG x y (.agg xs) (.agg ys)).run Tryz.prog w= .ok () w:=run_eqGuard_agg (w:=w) .neq _ x y xs ys gr_guard
theorem strV_of {W : World} {A : Option Addr} {n c : Nat} {l : List (List UInt8)} (h1 : n≤c) (h2 : c≤9223372036854775807) (h : Rws W 1 A n (l.map fun s=>sv (bs s))) : StrV W (.slice A n c) (l.map bs):=⟨A,n,c,rfl,h1,h2,by unfold Strs;rw [List.map_map];exact h⟩
section
attribute [local go_sem ↓] ldG_eq neG_eq egG_eq
attribute [local go_sem] egG_run
set_option maxRecDepth 100000 in
set_option maxHeartbeats 16000000 in
theorem csame_any (cs ds : List Value) (kd ke : Int) (vs : List PV) (V : World) (hS : StC V kd vs cs) (hT : StC V ke vs ds) (hok : OkVs keyT vs) (hgl : ∀l,vs[18]? =some (.grants l)→∀g∈l,g.user.length≤281474976710656) :
 Calls Tryz.prog 47 #[.agg ((cs.drop 2).take 23).toArray,.agg ((ds.drop 2).take 23).toArray] V fun r w'=>r= .returned (.bool true)∧Below V.heap.size V w':=by
 obtain ⟨sw,hsw⟩:=text_cell hS hok 6 3 (by decide) rfl rfl
 obtain ⟨cm,hcm⟩:=text_cell hS hok 7 4 (by decide) rfl rfl
 obtain ⟨us,hus⟩:=text_cell hS hok 21 18 (by decide) rfl rfl
 obtain ⟨fs_,hfs_⟩:=flag_cell hS hok 5 2 (by decide) rfl rfl
 obtain ⟨fe,hfe⟩:=flag_cell hS hok 23 20 (by decide) rfl rfl
 obtain ⟨fg,hfg⟩:=flag_cell hS hok 24 21 (by decide) rfl rfl
 obtain ⟨no,hno,_⟩:=num_cell hS hok 17 14 (by decide) rfl rfl
 obtain ⟨nl,hnl,_⟩:=num_cell hS hok 19 16 (by decide) rfl rfl
 obtain ⟨np,hnp,_⟩:=num_cell hS hok 20 17 (by decide) rfl rfl
 obtain ⟨gr,hgr,hgw⟩:=grants_pv hok
 obtain ⟨ks,hks,_⟩:=nums_pv hok 22 (by decide) rfl
 obtain ⟨al,hal⟩:=texts_pv hok 16 (by decide) rfl
 obtain ⟨l0,hl0⟩:=texts_pv hok 8 (by decide) rfl
 obtain ⟨l1,hl1⟩:=texts_pv hok 9 (by decide) rfl
 obtain ⟨l2,hl2⟩:=texts_pv hok 10 (by decide) rfl
 obtain ⟨l3,hl3⟩:=texts_pv hok 11 (by decide) rfl
 obtain ⟨l4,hl4⟩:=texts_pv hok 12 (by decide) rfl
 obtain ⟨l5,hl5⟩:=texts_pv hok 13 (by decide) rfl
 obtain ⟨l6,hl6⟩:=texts_pv hok 14 (by decide) rfl
 obtain ⟨l7,hl7⟩:=texts_pv hok 15 (by decide) rfl
 have hwi:=wishO_at hok
 have hwb:=wishO_ok hok
 generalize wishO vs=o9 at hwi hwb
 obtain ⟨wa,wb,wc⟩:=o9
 dsimp only at hwi hwb
 have ssw : cs[3]? =some (.string (bs sw)):=cell_of hS hsw rfl (fun z h=>by have e : z=_:=h;rw [e];rfl)
 have scm : cs[4]? =some (.string (bs cm)):=cell_of hS hcm rfl (fun z h=>by have e : z=_:=h;rw [e];rfl)
 have sus : cs[18]? =some (.string (bs us)):=cell_of hS hus rfl (fun z h=>by have e : z=_:=h;rw [e];rfl)
 have sfs : cs[2]? =some (.bool fs_):=cell_of hS hfs_ rfl (fun z h=>by have e : z=_:=h;rw [e];rfl)
 have sfe : cs[20]? =some (.bool fe):=cell_of hS hfe rfl (fun z h=>by have e : z=_:=h;rw [e];rfl)
 have sfg : cs[21]? =some (.bool fg):=cell_of hS hfg rfl (fun z h=>by have e : z=_:=h;rw [e];rfl)
 have sno : cs[14]? =some (.int .i64 no):=cell_of hS hno rfl (fun z h=>by have e : z=_:=h;rw [e];rfl)
 have snl : cs[16]? =some (.int .i64 nl):=cell_of hS hnl rfl (fun z h=>by have e : z=_:=h;rw [e];rfl)
 have snp : cs[17]? =some (.int .i64 np):=cell_of hS hnp rfl (fun z h=>by have e : z=_:=h;rw [e];rfl)
 obtain ⟨sAg,scg,sgr,sg1,sg2,sgR⟩:=slice_of (K:=2) (zs:=gr.map GrX.row) hS hgr rfl (fun z h=>h)
 obtain ⟨sAk,sck,sks,sk1,sk2,skR⟩:=slice_of (K:=1) (zs:=ks.map iv) hS hks rfl (fun z h=>h)
 obtain ⟨sAa,sca,sal,sa1,sa2,saR⟩:=slice_of (K:=1) (zs:=al.map fun s=>sv (bs s)) hS hal rfl (fun z h=>h)
 obtain ⟨swz,swh,swc⟩:=hS.val 25 22 _ hwi rfl
 obtain rfl:=swh
 obtain ⟨sA0,sc0,sl0,sx0,sy0,sR0⟩:=slice_of (K:=1) (zs:=l0.map fun s=>sv (bs s)) hS hl0 rfl (fun z h=>h)
 obtain ⟨sA1,sc1,sl1,sx1,sy1,sR1⟩:=slice_of (K:=1) (zs:=l1.map fun s=>sv (bs s)) hS hl1 rfl (fun z h=>h)
 obtain ⟨sA2,sc2,sl2,sx2,sy2,sR2⟩:=slice_of (K:=1) (zs:=l2.map fun s=>sv (bs s)) hS hl2 rfl (fun z h=>h)
 obtain ⟨sA3,sc3,sl3,sx3,sy3,sR3⟩:=slice_of (K:=1) (zs:=l3.map fun s=>sv (bs s)) hS hl3 rfl (fun z h=>h)
 obtain ⟨sA4,sc4,sl4,sx4,sy4,sR4⟩:=slice_of (K:=1) (zs:=l4.map fun s=>sv (bs s)) hS hl4 rfl (fun z h=>h)
 obtain ⟨sA5,sc5,sl5,sx5,sy5,sR5⟩:=slice_of (K:=1) (zs:=l5.map fun s=>sv (bs s)) hS hl5 rfl (fun z h=>h)
 obtain ⟨sA6,sc6,sl6,sx6,sy6,sR6⟩:=slice_of (K:=1) (zs:=l6.map fun s=>sv (bs s)) hS hl6 rfl (fun z h=>h)
 obtain ⟨sA7,sc7,sl7,sx7,sy7,sR7⟩:=slice_of (K:=1) (zs:=l7.map fun s=>sv (bs s)) hS hl7 rfl (fun z h=>h)
 have tsw : ds[3]? =some (.string (bs sw)):=cell_of hT hsw rfl (fun z h=>by have e : z=_:=h;rw [e];rfl)
 have tcm : ds[4]? =some (.string (bs cm)):=cell_of hT hcm rfl (fun z h=>by have e : z=_:=h;rw [e];rfl)
 have tus : ds[18]? =some (.string (bs us)):=cell_of hT hus rfl (fun z h=>by have e : z=_:=h;rw [e];rfl)
 have tfs : ds[2]? =some (.bool fs_):=cell_of hT hfs_ rfl (fun z h=>by have e : z=_:=h;rw [e];rfl)
 have tfe : ds[20]? =some (.bool fe):=cell_of hT hfe rfl (fun z h=>by have e : z=_:=h;rw [e];rfl)
 have tfg : ds[21]? =some (.bool fg):=cell_of hT hfg rfl (fun z h=>by have e : z=_:=h;rw [e];rfl)
 have tno : ds[14]? =some (.int .i64 no):=cell_of hT hno rfl (fun z h=>by have e : z=_:=h;rw [e];rfl)
 have tnl : ds[16]? =some (.int .i64 nl):=cell_of hT hnl rfl (fun z h=>by have e : z=_:=h;rw [e];rfl)
 have tnp : ds[17]? =some (.int .i64 np):=cell_of hT hnp rfl (fun z h=>by have e : z=_:=h;rw [e];rfl)
 obtain ⟨tAg,tcg,tgr,tg1,tg2,tgR⟩:=slice_of (K:=2) (zs:=gr.map GrX.row) hT hgr rfl (fun z h=>h)
 obtain ⟨tAk,tck,tks,tk1,tk2,tkR⟩:=slice_of (K:=1) (zs:=ks.map iv) hT hks rfl (fun z h=>h)
 obtain ⟨tAa,tca,tal,ta1,ta2,taR⟩:=slice_of (K:=1) (zs:=al.map fun s=>sv (bs s)) hT hal rfl (fun z h=>h)
 obtain ⟨twz,twh,twc⟩:=hT.val 25 22 _ hwi rfl
 obtain rfl:=twh
 obtain ⟨tA0,tc0,tl0,tx0,ty0,tR0⟩:=slice_of (K:=1) (zs:=l0.map fun s=>sv (bs s)) hT hl0 rfl (fun z h=>h)
 obtain ⟨tA1,tc1,tl1,tx1,ty1,tR1⟩:=slice_of (K:=1) (zs:=l1.map fun s=>sv (bs s)) hT hl1 rfl (fun z h=>h)
 obtain ⟨tA2,tc2,tl2,tx2,ty2,tR2⟩:=slice_of (K:=1) (zs:=l2.map fun s=>sv (bs s)) hT hl2 rfl (fun z h=>h)
 obtain ⟨tA3,tc3,tl3,tx3,ty3,tR3⟩:=slice_of (K:=1) (zs:=l3.map fun s=>sv (bs s)) hT hl3 rfl (fun z h=>h)
 obtain ⟨tA4,tc4,tl4,tx4,ty4,tR4⟩:=slice_of (K:=1) (zs:=l4.map fun s=>sv (bs s)) hT hl4 rfl (fun z h=>h)
 obtain ⟨tA5,tc5,tl5,tx5,ty5,tR5⟩:=slice_of (K:=1) (zs:=l5.map fun s=>sv (bs s)) hT hl5 rfl (fun z h=>h)
 obtain ⟨tA6,tc6,tl6,tx6,ty6,tR6⟩:=slice_of (K:=1) (zs:=l6.map fun s=>sv (bs s)) hT hl6 rfl (fun z h=>h)
 obtain ⟨tA7,tc7,tl7,tx7,ty7,tR7⟩:=slice_of (K:=1) (zs:=l7.map fun s=>sv (bs s)) hT hl7 rfl (fun z h=>h)
 simp only [List.length_map] at sgr sg1 sgR sks sk1 skR sal sa1 saR sl0 sl1 sl2 sl3 sl4 sl5 sl6 sl7 sx0 sx1 sx2 sx3 sx4 sx5 sx6 sx7 sR0 sR1 sR2 sR3 sR4 sR5 sR6 sR7 tgr tg1 tgR tks tk1 tkR tal ta1 taR tl0 tl1 tl2 tl3 tl4 tl5 tl6 tl7 tx0 tx1 tx2 tx3 tx4 tx5 tx6 tx7 tR0 tR1 tR2 tR3 tR4 tR5 tR6 tR7
 have sPf : Pf V [.slice sA0 l0.length sc0,.slice sA1 l1.length sc1,.slice sA2 l2.length sc2,.slice sA3 l3.length sc3,.slice sA4 l4.length sc4,.slice sA5 l5.length sc5,.slice sA6 l6.length sc6,.slice sA7 l7.length sc7] [l0.map bs,l1.map bs,l2.map bs,l3.map bs,l4.map bs,l5.map bs,l6.map bs,l7.map bs]:=⟨rfl,rfl,fun i v l h1 h2=>by
  match i with
  | 0=>injection h1 with h1;injection h2 with h2;subst h1 h2;exact strV_of sx0 sy0 sR0
  | 1=>injection h1 with h1;injection h2 with h2;subst h1 h2;exact strV_of sx1 sy1 sR1
  | 2=>injection h1 with h1;injection h2 with h2;subst h1 h2;exact strV_of sx2 sy2 sR2
  | 3=>injection h1 with h1;injection h2 with h2;subst h1 h2;exact strV_of sx3 sy3 sR3
  | 4=>injection h1 with h1;injection h2 with h2;subst h1 h2;exact strV_of sx4 sy4 sR4
  | 5=>injection h1 with h1;injection h2 with h2;subst h1 h2;exact strV_of sx5 sy5 sR5
  | 6=>injection h1 with h1;injection h2 with h2;subst h1 h2;exact strV_of sx6 sy6 sR6
  | 7=>injection h1 with h1;injection h2 with h2;subst h1 h2;exact strV_of sx7 sy7 sR7
  | i + 8=>cases h1⟩
 have tPf : Pf V [.slice tA0 l0.length tc0,.slice tA1 l1.length tc1,.slice tA2 l2.length tc2,.slice tA3 l3.length tc3,.slice tA4 l4.length tc4,.slice tA5 l5.length tc5,.slice tA6 l6.length tc6,.slice tA7 l7.length tc7] [l0.map bs,l1.map bs,l2.map bs,l3.map bs,l4.map bs,l5.map bs,l6.map bs,l7.map bs]:=⟨rfl,rfl,fun i v l h1 h2=>by
  match i with
  | 0=>injection h1 with h1;injection h2 with h2;subst h1 h2;exact strV_of tx0 ty0 tR0
  | 1=>injection h1 with h1;injection h2 with h2;subst h1 h2;exact strV_of tx1 ty1 tR1
  | 2=>injection h1 with h1;injection h2 with h2;subst h1 h2;exact strV_of tx2 ty2 tR2
  | 3=>injection h1 with h1;injection h2 with h2;subst h1 h2;exact strV_of tx3 ty3 tR3
  | 4=>injection h1 with h1;injection h2 with h2;subst h1 h2;exact strV_of tx4 ty4 tR4
  | 5=>injection h1 with h1;injection h2 with h2;subst h1 h2;exact strV_of tx5 ty5 tR5
  | 6=>injection h1 with h1;injection h2 with h2;subst h1 h2;exact strV_of tx6 ty6 tR6
  | 7=>injection h1 with h1;injection h2 with h2;subst h1 h2;exact strV_of tx7 ty7 tR7
  | i + 8=>cases h1⟩
 have hfm : ∀(i : Nat) x,i < 23→cs[2 + i]? =some x→((cs.drop 2).take 23)[i]? =some x:=fun i x hi h=>by rw [List.getElem?_take,if_pos hi,List.getElem?_drop];exact h
 have hgm : ∀(i : Nat) x,i < 23→ds[2 + i]? =some x→((ds.drop 2).take 23)[i]? =some x:=fun i x hi h=>by rw [List.getElem?_take,if_pos hi,List.getElem?_drop];exact h
 obtain ⟨U2,hU2⟩ : ∃x,(V.alloc (.cells ((cs.drop 2).take 23).toArray 41)).alloc (.cells ((ds.drop 2).take 23).toArray 41)=x:=⟨_,rfl⟩
 have hB1:=below_new V (.cells ((cs.drop 2).take 23).toArray 41)
 have hB2:=hB1.trans ((below_new (V.alloc (.cells ((cs.drop 2).take 23).toArray 41)) (.cells ((ds.drop 2).take 23).toArray 41)).mono hB1.size)
 have hF : Row ((V.alloc (.cells ((cs.drop 2).take 23).toArray 41)).alloc (.cells ((ds.drop 2).take 23).toArray 41)) V.heap.size 41 ((cs.drop 2).take 23):=Row.keep (heap_new V _) (below_new _ _)
 have hG : Row ((V.alloc (.cells ((cs.drop 2).take 23).toArray 41)).alloc (.cells ((ds.drop 2).take 23).toArray 41)) (V.heap.size + 1) 41 ((ds.drop 2).take 23):=by have:=heap_new (V.alloc (.cells ((cs.drop 2).take 23).toArray 41)) (.cells ((ds.drop 2).take 23).toArray 41);rwa [World.size_alloc] at this
 rw [hU2] at hB2 hF hG
 have cs0:=hF.cell (hfm 0 _ (by decide) sfs)
 have cs1:=hF.cell (hfm 1 _ (by decide) ssw)
 have cs2:=hF.cell (hfm 2 _ (by decide) scm)
 have cs12:=hF.cell (hfm 12 _ (by decide) sno)
 have cs14:=hF.cell (hfm 14 _ (by decide) snl)
 have cs15:=hF.cell (hfm 15 _ (by decide) snp)
 have cs16:=hF.cell (hfm 16 _ (by decide) sus)
 have cs18:=hF.cell (hfm 18 _ (by decide) sfe)
 have cs19:=hF.cell (hfm 19 _ (by decide) sfg)
 have ws : U2.rangeAt (V.heap.size) 20 [.int .u32 (wa : Int),.int .u32 (wb : Int),.int .u32 (wc : Int)]:=hF.mid (fun j x hx=>hfm (20 + j) x (by have:=(List.getElem?_eq_some_iff.1 hx).1;simp at this;omega) (by have:=swc j x hx;rwa [show 2 + (20 + j)=22 + j by omega]))
 have ps : U2.rangeAt (V.heap.size) 3 [.slice sA0 l0.length sc0,.slice sA1 l1.length sc1,.slice sA2 l2.length sc2,.slice sA3 l3.length sc3,.slice sA4 l4.length sc4,.slice sA5 l5.length sc5,.slice sA6 l6.length sc6,.slice sA7 l7.length sc7]:=hF.mid (fun j x hx=>by
  match j with
  | 0=>injection hx with hx;subst hx;exact hfm 3 _ (by decide) sl0
  | 1=>injection hx with hx;subst hx;exact hfm 4 _ (by decide) sl1
  | 2=>injection hx with hx;subst hx;exact hfm 5 _ (by decide) sl2
  | 3=>injection hx with hx;subst hx;exact hfm 6 _ (by decide) sl3
  | 4=>injection hx with hx;subst hx;exact hfm 7 _ (by decide) sl4
  | 5=>injection hx with hx;subst hx;exact hfm 8 _ (by decide) sl5
  | 6=>injection hx with hx;subst hx;exact hfm 9 _ (by decide) sl6
  | 7=>injection hx with hx;subst hx;exact hfm 10 _ (by decide) sl7
  | j + 8=>cases hx)
 have as_:=hF.cell (hfm 11 _ (by decide) sal)
 have gs_:=hF.cell (hfm 13 _ (by decide) sgr)
 have ks_:=hF.cell (hfm 17 _ (by decide) sks)
 have ct0:=hG.cell (hgm 0 _ (by decide) tfs)
 have ct1:=hG.cell (hgm 1 _ (by decide) tsw)
 have ct2:=hG.cell (hgm 2 _ (by decide) tcm)
 have ct12:=hG.cell (hgm 12 _ (by decide) tno)
 have ct14:=hG.cell (hgm 14 _ (by decide) tnl)
 have ct15:=hG.cell (hgm 15 _ (by decide) tnp)
 have ct16:=hG.cell (hgm 16 _ (by decide) tus)
 have ct18:=hG.cell (hgm 18 _ (by decide) tfe)
 have ct19:=hG.cell (hgm 19 _ (by decide) tfg)
 have wt : U2.rangeAt (V.heap.size + 1) 20 [.int .u32 (wa : Int),.int .u32 (wb : Int),.int .u32 (wc : Int)]:=hG.mid (fun j x hx=>hgm (20 + j) x (by have:=(List.getElem?_eq_some_iff.1 hx).1;simp at this;omega) (by have:=twc j x hx;rwa [show 2 + (20 + j)=22 + j by omega]))
 have pt : U2.rangeAt (V.heap.size + 1) 3 [.slice tA0 l0.length tc0,.slice tA1 l1.length tc1,.slice tA2 l2.length tc2,.slice tA3 l3.length tc3,.slice tA4 l4.length tc4,.slice tA5 l5.length tc5,.slice tA6 l6.length tc6,.slice tA7 l7.length tc7]:=hG.mid (fun j x hx=>by
  match j with
  | 0=>injection hx with hx;subst hx;exact hgm 3 _ (by decide) tl0
  | 1=>injection hx with hx;subst hx;exact hgm 4 _ (by decide) tl1
  | 2=>injection hx with hx;subst hx;exact hgm 5 _ (by decide) tl2
  | 3=>injection hx with hx;subst hx;exact hgm 6 _ (by decide) tl3
  | 4=>injection hx with hx;subst hx;exact hgm 7 _ (by decide) tl4
  | 5=>injection hx with hx;subst hx;exact hgm 8 _ (by decide) tl5
  | 6=>injection hx with hx;subst hx;exact hgm 9 _ (by decide) tl6
  | 7=>injection hx with hx;subst hx;exact hgm 10 _ (by decide) tl7
  | j + 8=>cases hx)
 have at_:=hG.cell (hgm 11 _ (by decide) tal)
 have gt_:=hG.cell (hgm 13 _ (by decide) tgr)
 have kt_:=hG.cell (hgm 17 _ (by decide) tks)
 have hl0:=hF.lt
 have hl1:=hG.lt
 have hCl:=Lib.hid (fun W' (h : Below U2.heap.size U2 W')=>And.intro ((h.cell (p:=⟨V.heap.size,11,none⟩) hl0).trans as_) (And.intro ((h.cell (p:=⟨V.heap.size + 1,11,none⟩) hl1).trans at_) (And.intro ((h.cell (p:=⟨V.heap.size,13,none⟩) hl0).trans gs_) (And.intro ((h.cell (p:=⟨V.heap.size + 1,13,none⟩) hl1).trans gt_) (And.intro ((h.cell (p:=⟨V.heap.size,17,none⟩) hl0).trans ks_) ((h.cell (p:=⟨V.heap.size + 1,17,none⟩) hl1).trans kt_))))))
 have c15:=Lib.hid (fun W' (h : Below V.heap.size V W')=>(same15_any [.slice sA0 l0.length sc0,.slice sA1 l1.length sc1,.slice sA2 l2.length sc2,.slice sA3 l3.length sc3,.slice sA4 l4.length sc4,.slice sA5 l5.length sc5,.slice sA6 l6.length sc6,.slice sA7 l7.length sc7] [.slice tA0 l0.length tc0,.slice tA1 l1.length tc1,.slice tA2 l2.length tc2,.slice tA3 l3.length tc3,.slice tA4 l4.length tc4,.slice tA5 l5.length tc5,.slice tA6 l6.length tc6,.slice tA7 l7.length tc7] [l0.map bs,l1.map bs,l2.map bs,l3.map bs,l4.map bs,l5.map bs,l6.map bs,l7.map bs] [l0.map bs,l1.map bs,l2.map bs,l3.map bs,l4.map bs,l5.map bs,l6.map bs,l7.map bs] W' (sPf.keep h) (tPf.keep h)).mono (fun (r : Ending) (w' : World) h=>(⟨by rw [h.1,decide_eq_true rfl],h.2⟩ : r=Ending.returned (.bool true)∧Below W'.heap.size W' w')))
 have c04:=Lib.hid (fun W' (h : Below V.heap.size V W')=>(same_any (al.map bs) (al.map bs) sAa tAa al.length sca al.length tca W' (by omega) (by omega) (by unfold Strs;rw [List.map_map];exact saR.keep h) (by unfold Strs;rw [List.map_map];exact taR.keep h)).mono (fun (r : Ending) (w' : World) h=>(⟨by rw [h.1,decide_eq_true rfl],by obtain ⟨q,rfl⟩:=h.2;exact drewN_below q⟩ : r=Ending.returned (.bool true)∧Below W'.heap.size W' w')))
 have hnw:=wish_neq hwb.1 hwb.2.1 hwb.2.2
 have hgo:=Lib.hid (fun g (hg : g∈gr) w=>gr_neq (hgl gr hgr g hg) (hgw g hg) w)
 have hgS:=Lib.hid (fun W' (h : Below V.heap.size V W')=>And.intro (sgR.keep h) (tgR.keep h))
 have hkS:=Lib.hid (fun W' (h : Below V.heap.size V W')=>And.intro (skR.keep h) (tkR.keep h))
 obtain ⟨ng,hng⟩ : ∃ng,gr.length=ng:=⟨_,rfl⟩
 obtain ⟨nk,hnk⟩ : ∃nk,ks.length=nk:=⟨_,rfl⟩
 obtain ⟨na,hna⟩ : ∃na,al.length=na:=⟨_,rfl⟩
 rw [hna] at c04
 rw [hna,hng,hnk] at hCl
 rw [hng] at hgS
 rw [hnk] at hkS
 have hngb : ng≤9223372036854775807:=by omega
 have hnkb : nk≤9223372036854775807:=by omega
 obtain ⟨as9,at9,gs9,gt9,ks9,kt9⟩:=hCl.out U2 (Below.refl _ _)
 replace hB2:=Lib.hid hB2
 generalize bs sw=ysw at *
 generalize bs cm=ycm at *
 generalize bs us=yus at *
 clear hfm hgm hB1 hF hG as_ at_ gs_ gt_ ks_ kt_ hS hT hok hgl sPf tPf hng hnk hna
 go_enter Tryz.func47,Tryz.ntmps47
 go_upto_region 1 with (first
  | (refine wpList_box_row 41 _ rfl rfl (List.toArray _) rfl ?_;try simp only [World.size_alloc]))
 try rw [hU2]
 clear hU2
 simp only [List.append]
 go_wp2_with (first
  | (refine wpList_load_at 39 _ rfl rfl V.heap.size 20 rfl [.int .u32 (wa : Int),.int .u32 (wb : Int),.int .u32 (wc : Int)] _ ws Tryz.underlying39 rfl (by kernel_rfl) ?_)
  | (refine wpList_load_at 39 _ rfl rfl (V.heap.size + 1) 20 rfl [.int .u32 (wa : Int),.int .u32 (wb : Int),.int .u32 (wc : Int)] _ wt Tryz.underlying39 rfl (by kernel_rfl) ?_)
  | (refine wpList_neq_at 39 _ _ _ rfl rfl #[.int .u32 (wa : Int),.int .u32 (wb : Int),.int .u32 (wc : Int)] #[.int .u32 (wa : Int),.int .u32 (wb : Int),.int .u32 (wc : Int)] rfl rfl wish_guard false (hnw _) ?_)
  | (refine wpList_load_at 35 _ rfl rfl V.heap.size 3 rfl [.slice sA0 l0.length sc0,.slice sA1 l1.length sc1,.slice sA2 l2.length sc2,.slice sA3 l3.length sc3,.slice sA4 l4.length sc4,.slice sA5 l5.length sc5,.slice sA6 l6.length sc6,.slice sA7 l7.length sc7] _ ps Tryz.underlying35 rfl (by kernel_rfl) ?_)
  | (refine wpList_load_at 35 _ rfl rfl (V.heap.size + 1) 3 rfl [.slice tA0 l0.length tc0,.slice tA1 l1.length tc1,.slice tA2 l2.length tc2,.slice tA3 l3.length tc3,.slice tA4 l4.length tc4,.slice tA5 l5.length tc5,.slice tA6 l6.length tc6,.slice tA7 l7.length tc7] _ pt Tryz.underlying35 rfl (by kernel_rfl) ?_)
  | (go_at_call 77;(with_reducible refine (c15.out _ hB2.out).mono ?_);rintro r w3 ⟨rfl,hb3⟩
     obtain ⟨as9,at9,gs9,gt9,ks9,kt9⟩:=hCl.out w3 hb3
     have hB3:=Lib.hid (hB2.out.trans (hb3.mono hB2.out.size))
     replace hb3:=Lib.hid hb3)
  | (go_at_call 78;(with_reducible refine (c04.out _ hB3.out).mono ?_);rintro r w4 ⟨rfl,hb4⟩
     have hb5:=hb3.out.trans (hb4.mono hb3.out.size)
     obtain ⟨as9,at9,gs9,gt9,ks9,kt9⟩:=hCl.out w4 hb5
     replace hb5:=Lib.hid hb5
     clear hb4))
 go_loopw [5] (fun iv wr=> ∃i : Nat,i≤ng∧iv= .int .i64 i∧Hid (Below U2.heap.size U2 wr)) (fun iv _=>ng - (intOf iv).toNat)
 case atStart=>exact ⟨0,Nat.zero_le _,rfl,hb5⟩
 case round=>
  obtain ⟨i,hi,rfl,hBr⟩:=hrel
  obtain ⟨as9,at9,gs9,gt9,ks9,kt9⟩:=hCl.out wr hBr.out
  have hBV:=hB2.out.trans (hBr.out.mono hB2.out.size)
  by_cases hlt : i < ng
  · have hlt' : (i : Int) < (ng : Int):=by omega
    have h0i : (0 : Int)≤(i : Int):=Int.natCast_nonneg _
    obtain ⟨rs,rt⟩:=hgS.out wr hBV
    obtain ⟨b2,off2,z2,rfl,hb2,hz2,_,hr2⟩:=Rws.row rs hlt
    obtain ⟨b3,off3,z3,rfl,hb3_,hz3,_,hr3⟩:=Rws.row rt hlt
    obtain ⟨x,hx,rfl⟩:=map_at hz2
    rw [hz2] at hz3
    obtain rfl:=Option.some.inj hz3
    have v1 : ∀q,(ldG ⟨b2,off2 + i * 2,none⟩).run Tryz.prog (wr.drewN q)= .ok (.agg x.row.toArray) (wr.drewN q):=fun q=>ldG_run (rangeAt_keep hr2 (drewN_below q) hb2)
    have v2 : ∀q,(ldG ⟨b3,off3 + i * 2,none⟩).run Tryz.prog (wr.drewN q)= .ok (.agg x.row.toArray) (wr.drewN q):=fun q=>ldG_run (rangeAt_keep hr3 (drewN_below q) hb3_)
    have v3 : ∀w,(neG (.agg x.row.toArray) (.agg x.row.toArray)).run Tryz.prog w= .ok (.bool false) w:=fun w=>hgo.out x (List.mem_of_getElem? hx) w
    generalize x.row=xr at *
    clear hz2 hx rs rt hr2 hr3
    go_wp2_with fail
    go_quiet (fail)
    go_wp2_with fail
    go_roundw
    case rel=>exact ⟨i + 1,by omega,by go_num,hBr.out.trans ((drewN_below _).mono hBr.out.size)⟩
    case measure=>simp [intOf];omega
  · obtain rfl : i=ng:=by omega
    have hBn:=hBr
    clear hBV
    generalize wr=wn at *
    go_wp2_with fail
    go_loopw [6] (fun iv wr=> ∃i : Nat,i≤nk∧iv= .int .i64 i∧Hid (Below U2.heap.size U2 wr)) (fun iv _=>nk - (intOf iv).toNat)
    case atStart=>exact ⟨0,Nat.zero_le _,rfl,hBn⟩
    case round=>
     obtain ⟨i,hi,rfl,hBr⟩:=hrel
     obtain ⟨as9,at9,gs9,gt9,ks9,kt9⟩:=hCl.out wr hBr.out
     have hBV:=hB2.out.trans (hBr.out.mono hB2.out.size)
     by_cases hlt : i < nk
     · have hlt' : (i : Int) < (nk : Int):=by omega
       have h0i : (0 : Int)≤(i : Int):=Int.natCast_nonneg _
       obtain ⟨rs,rt⟩:=hkS.out wr hBV
       obtain ⟨b2,off2,z2,rfl,hb2,hz2,_,hr2⟩:=Rws.row rs hlt
       obtain ⟨b3,off3,z3,rfl,hb3_,hz3,_,hr3⟩:=Rws.row rt hlt
       obtain ⟨x,hx,rfl⟩:=map_at hz2
       rw [hz2] at hz3
       obtain rfl:=Option.some.inj hz3
       have hc2:=hr2 0 _ rfl
       have hc3:=hr3 0 _ rfl
       rw [Nat.mul_one,Nat.add_zero] at hc2 hc3
       clear hz2 hx rs rt hr2 hr3
       go_wp2_with fail
       go_quiet (fail)
       go_wp2_with fail
       go_roundw
       case rel=>exact ⟨i + 1,by omega,by go_num,hBr.out.trans ((drewN_below _).mono hBr.out.size)⟩
       case measure=>simp [intOf];omega
     · obtain rfl : i=nk:=by omega
       go_wp2_with fail
       go_ret
       exact ⟨rfl,hBV⟩
end
end Go.Proofs.YtmicohmbmgbnkaaGreatDoor
