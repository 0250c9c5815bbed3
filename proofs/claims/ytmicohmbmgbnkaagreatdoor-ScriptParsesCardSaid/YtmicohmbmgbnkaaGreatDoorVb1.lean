/- The values of a step's parts: how they are written, and read. Plainly. (printed by wip/gen_skd.py) -/
import Derived.Test.YtmicohmbmgbnkaaGreatDoorVb0
namespace Go.Proofs.YtmicohmbmgbnkaaGreatDoor
open Go
open Go.Lib (itoa)
def kindW : List (List UInt8):=[[115,112,97,119,110],[116,97,107,101],[108,105,110,101],[112,108,97,105,110],[115,101,97,108,101,100],[98,97,100],[112,97,115,115],[114,101,107,101,121],[115,97,121]]
def opW : List (List UInt8):=[[100,97,116,97],[110,111,110,99,101],[107,110,111,119],[115,101,110,116],[98,97,115,101],[101,120,112],[112,117,98],[115,105,103,110],[104,97,115,104],[100,101,114,105,118,101],[115,101,97,108],[111,112,101,110],[101,109,112,116,121],[97,100,100],[97,116]]
inductive Tag where | num | text | flag | nums | texts | ops | grants | wish
 deriving DecidableEq
def keyT : List (List UInt8 × Tag):=[([116,111],.num),([119,104,111],.num),([116,101,120,116],.text),([111,112,115],.ops),([99,117,116,115],.nums),([115,101,114,118,101,114],.flag),([115,111,102,116,119,97,114,101],.text),([99,111,109,109,101,110,116],.text),([107,101,120],.texts),([104,111,115,116],.texts),([101,110,99,99],.texts),([101,110,99,115],.texts),([109,97,99,99],.texts),([109,97,99,115],.texts),([99,111,109,112,99],.texts),([99,111,109,112,115],.texts),([97,108,103,115],.texts),([111,119,110],.num),([103,114,97,110,116,115],.grants),([108,105,109,105,116],.num),([112,101,101,114],.num),([117,115,101,114],.text),([107,101,121,115],.nums),([101,120,116],.flag),([103,117,101,115,115],.flag),([119,105,115,104],.wish)]
structure OpX where
 kind : Int
 a : Int
 b : Int
 c : Int
 s : List UInt8
structure GrX where
 user : List UInt8
 who : Int
inductive PV where
 | num (n : Int) | text (s : List UInt8) | flag (b : Bool) | nums (l : List Int) | texts (l : List (List UInt8)) | ops (l : List OpX) | grants (l : List GrX) | wish (a b c : Nat)
def allM {α β : Type} (f : α→Option β) : List α→Option (List β)
 | []=>some []
 | x :: l=>match f x with | none=>none | some y=>match allM f l with | none=>none | some r=>some (y :: r)
theorem allM_map {α β : Type} {f : β→Option α} {g : α→β} : ∀{l : List α},(∀x∈l,f (g x)=some x)→allM f (l.map g)=some l
 | [],_=>rfl
 | x :: l,h=>by
   rw [List.map_cons,allM,h x List.mem_cons_self]
   dsimp only
   rw [allM_map fun y hy=>h y (List.mem_cons_of_mem _ hy)]
theorem allM_mem {α β : Type} {f : α→Option β} : ∀{l : List α} {r : List β},allM f l=some r→∀y∈r,∃x∈l,f x=some y
 | [],r,h,y,hy=>by
   rw [allM] at h
   injection h with h
   subst h
   cases hy
 | x :: l,r,h,y,hy=>by
   rw [allM] at h
   cases h1 : f x with
   | none=>rw [h1] at h;cases h
   | some z=>
     rw [h1] at h
     dsimp only at h
     cases h2 : allM f l with
     | none=>rw [h2] at h;cases h
     | some q=>
       rw [h2] at h
       injection h with h
       subst h
       rcases List.mem_cons.1 hy with rfl | hy
       · exact ⟨x,List.mem_cons_self,h1⟩
       · obtain ⟨x',hx',e⟩:=allM_mem h2 y hy
         exact ⟨x',List.mem_cons_of_mem _ hx',e⟩
def placeL : List (List UInt8)→List UInt8→Option Nat
 | [],_=>none
 | x :: r,w=>if x=w then some 0 else (placeL r w).map (· + 1)
def wrName (s : List UInt8) : List UInt8:=if s=[] then [59] else escL s
def rdName (t : List UInt8) : Option (List UInt8):=if t=[59] then some [] else match unescL t with | some u=>if u=[] then none else some u | none=>none
def rdNameR (t : List UInt8) : Option (List UInt8):=if t=[59] then some [] else unescL t
def wrOp (o : OpX) : List UInt8:=joinL 58 [opW.getD o.kind.toNat [],itoa o.a,itoa o.b,itoa o.c,escL o.s]
def rdOp (t : List UInt8) : Option OpX:=
 match splitL 58 t with
 | [w,a,b,c,s]=>match placeL opW w,numL a,numL b,numL c,unescL s with | some k,some a,some b,some c,some s=>some ⟨k,a,b,c,s⟩ | _,_,_,_,_=>none
 | _=>none
def wrGr (g : GrX) : List UInt8:=joinL 58 [escL g.user,itoa g.who]
def rdGr (t : List UInt8) : Option GrX:=if (cutL 58 t).2.2=true then match unescL (cutL 58 t).1,numL (cutL 58 t).2.1 with | some u,some n=>some ⟨u,n⟩ | _,_=>none else none
def rdGrR (t : List UInt8) : Option GrX:=
 match splitL 58 t with
 | [u,n]=>match unescL u,numL n with | some u,some n=>some ⟨u,n⟩ | _,_=>none
 | _=>none
def wrPV : PV→List UInt8
 | .num n=>if n=0 then [] else itoa n
 | .text s=>escL s
 | .flag b=>if b=true then [49] else []
 | .nums l=>joinL 44 (l.map itoa)
 | .texts l=>joinL 44 (l.map wrName)
 | .ops l=>joinL 44 (l.map wrOp)
 | .grants l=>joinL 44 (l.map wrGr)
 | .wish a b c=>if a=0∧b=0∧c=0 then [] else joinL 58 [itoa a,itoa b,itoa c]
def rdWish (s : List UInt8) : Option PV:=
 match splitL 58 s with
 | [a,b,c]=>match numL a,numL b,numL c with | some a,some b,some c=>some (.wish (a % 4294967296).toNat (b % 4294967296).toNat (c % 4294967296).toNat) | _,_,_=>none
 | _=>none
def rdP (g : Tag) (s : List UInt8) : Option PV:=match g with
 | .num=>match numL s with | some n=>if n=0 then none else some (.num n) | none=>none
 | .text=>match unescL s with | some u=>if u=[] then none else some (.text u) | none=>none
 | .flag=>if s=[49] then some (.flag true) else none
 | .nums=>(allM numL (splitL 44 s)).map .nums
 | .texts=>(allM rdName (splitL 44 s)).map .texts
 | .ops=>(allM rdOp (splitL 44 s)).map .ops
 | .grants=>(allM rdGr (splitL 44 s)).map .grants
 | .wish=>rdWish s
def rdR (g : Tag) (o : Nat × Nat × Nat) (s : List UInt8) : Option PV:=match g with
 | .num=>(numL s).map .num
 | .text=>(unescL s).map .text
 | .flag=>some (.flag (decide (s=[49])))
 | .nums=>(allM numL (splitL 44 s)).map .nums
 | .texts=>(allM rdNameR (splitL 44 s)).map .texts
 | .ops=>(allM rdOp (splitL 44 s)).map .ops
 | .grants=>(allM rdGrR (splitL 44 s)).map .grants
 | .wish=>match allM numL (splitL 58 s) with | none=>none | some w=>some (.wish ((w[0]?.map fun (n : Int)=>(n % 4294967296).toNat).getD o.1) ((w[1]?.map fun (n : Int)=>(n % 4294967296).toNat).getD o.2.1) ((w[2]?.map fun (n : Int)=>(n % 4294967296).toNat).getD o.2.2))
def OkOp (o : OpX) : Prop:=0≤o.kind∧o.kind < 15∧I64 o.a∧I64 o.b∧I64 o.c
def OkPV : Tag→PV→Prop
 | .num,.num n=>I64 n
 | .text,.text _=>True
 | .flag,.flag _=>True
 | .nums,.nums l=> ∀n∈l,I64 n
 | .texts,.texts _=>True
 | .ops,.ops l=> ∀o∈l,OkOp o
 | .grants,.grants l=> ∀g∈l,I64 g.who
 | .wish,.wish a b c=>a < 4294967296∧b < 4294967296∧c < 4294967296
 | _,_=>False
/-! What stands in a text that was written. -/
theorem itoa_mem {n : Int} : ∀x∈itoa n,x=45∨(48≤x.toNat∧x.toNat≤57):=by
 intro x hx
 unfold itoa at hx
 split at hx
 · rcases List.mem_cons.1 hx with h | h
   · exact .inl h
   · exact .inr (dec_digit _ x h)
 · exact .inr (dec_digit _ x hx)
theorem itoa_not {n : Int} {c : UInt8} (h : c.toNat < 45∨57 < c.toNat) : c ∉ itoa n:=fun hc=>by
 rcases itoa_mem c hc with e | e
 · rw [e] at h
   have h45 : (45 : UInt8).toNat=45:=rfl
   omega
 · omega
theorem itoa_ne (n : Int) : itoa n≠[]:=by
 unfold itoa
 split
 · simp
 · exact dec_ne _
theorem hexD_rng {n : Nat} (h : n < 16) : (48≤(hexD n).toNat∧(hexD n).toNat≤57)∨(97≤(hexD n).toNat∧(hexD n).toNat≤102):=by
 have : ∀i : Fin 16,(48≤(hexD i.1).toNat∧(hexD i.1).toNat≤57)∨(97≤(hexD i.1).toNat∧(hexD i.1).toNat≤102):=by decide
 exact this ⟨n,h⟩
theorem escB_mem (c : UInt8) : ∀x∈escB c,33≤x.toNat∧x.toNat≤126∧x.toNat≠44∧x.toNat≠58∧x.toNat≠59∧x.toNat≠61:=by
 intro x hx
 have hc : c.toNat < 256:=c.toNat_lt
 unfold escB at hx
 split at hx
 · next h=>
   rw [List.mem_singleton.1 hx]
   unfold plainN at h
   simp at h
   omega
 · rcases List.mem_cons.1 hx with rfl | hx
   · decide
   · rcases List.mem_cons.1 hx with rfl | hx
     · have:=hexD_rng (n:=c.toNat / 16) (by omega)
       omega
     · rw [List.mem_singleton.1 hx]
       have:=hexD_rng (n:=c.toNat % 16) (by omega)
       omega
theorem escL_mem : ∀(s : List UInt8),∀x∈escL s,33≤x.toNat∧x.toNat≤126∧x.toNat≠44∧x.toNat≠58∧x.toNat≠59∧x.toNat≠61
 | [],x,hx=>by cases hx
 | c :: s,x,hx=>by
   rw [escL] at hx
   rcases List.mem_append.1 hx with hx | hx
   · exact escB_mem c x hx
   · exact escL_mem s x hx
theorem escB_ne (c : UInt8) : escB c≠[]:=by unfold escB;split <;> simp
theorem escL_nil {s : List UInt8} : escL s=[]↔s=[]:=by
 cases s with
 | nil=>exact ⟨fun _=>rfl,fun _=>rfl⟩
 | cons c s=>
   refine ⟨fun h=> ?_,fun h=>by cases h⟩
   rw [escL] at h
   exact absurd (List.append_eq_nil_iff.1 h).1 (escB_ne c)
theorem rdName_wr (s : List UInt8) : rdName (wrName s)=some s:=by
 unfold wrName
 by_cases h : s=[]
 · rw [if_pos h,h];rfl
 · rw [if_neg h]
   unfold rdName
   rw [if_neg,unescL_esc]
   · dsimp only
     rw [if_neg h]
   · intro e
     have:=escL_mem s 59 (by rw [e];exact List.mem_cons_self)
     exact this.2.2.2.2.1 rfl
theorem rdNameR_wr (s : List UInt8) : rdNameR (wrName s)=some s:=by
 unfold wrName
 by_cases h : s=[]
 · rw [if_pos h,h];rfl
 · rw [if_neg h]
   unfold rdNameR
   rw [if_neg,unescL_esc]
   intro e
   have:=escL_mem s 59 (by rw [e];exact List.mem_cons_self)
   exact this.2.2.2.2.1 rfl
theorem opW_at : ∀k : Fin 15,placeL opW (opW.getD k.1 [])=some k.1∧(∀x∈opW.getD k.1 [],97≤x.toNat∧x.toNat≤122)∧opW.getD k.1 []≠[]:=by decide +kernel
theorem op_at {k : Int} (h0 : 0≤k) (h1 : k < 15) : placeL opW (opW.getD k.toNat [])=some k.toNat∧(∀x∈opW.getD k.toNat [],97≤x.toNat∧x.toNat≤122)∧opW.getD k.toNat []≠[]:=opW_at ⟨k.toNat,by omega⟩
theorem rdOp_wr {o : OpX} (h : OkOp o) : rdOp (wrOp o)=some o:=by
 obtain ⟨h0,h1,ha,hb,hc⟩:=h
 obtain ⟨hw1,hw2,_⟩:=op_at h0 h1
 unfold rdOp wrOp
 rw [split_join (by simp)]
 · dsimp only
   rw [hw1,numL_itoa ha,numL_itoa hb,numL_itoa hc,unescL_esc]
   dsimp only
   rw [Int.toNat_of_nonneg h0]
 · intro p hp
   simp only [List.mem_cons,List.not_mem_nil,or_false] at hp
   have e58 : (58 : UInt8).toNat=58:=rfl
   rcases hp with rfl | rfl | rfl | rfl | rfl
   · intro hx;have:=hw2 _ hx;omega
   · exact itoa_not (by omega)
   · exact itoa_not (by omega)
   · exact itoa_not (by omega)
   · intro hx;have:=escL_mem _ _ hx;omega
theorem rdGr_wr {g : GrX} (h : I64 g.who) : rdGr (wrGr g)=some g:=by
 unfold rdGr wrGr
 have hn : (58 : UInt8) ∉ escL g.user:=fun hx=>by have:=escL_mem _ _ hx;have e58 : (58 : UInt8).toNat=58:=rfl;omega
 rw [joinL_cons (by simp),cutL_app _ hn,if_pos rfl]
 dsimp only [joinL]
 rw [unescL_esc,numL_itoa h]
theorem rdGrR_wr {g : GrX} (h : I64 g.who) : rdGrR (wrGr g)=some g:=by
 unfold rdGrR wrGr
 rw [split_join (by simp)]
 · dsimp only
   rw [unescL_esc,numL_itoa h]
 · intro p hp
   have e58 : (58 : UInt8).toNat=58:=rfl
   simp only [List.mem_cons,List.not_mem_nil,or_false] at hp
   rcases hp with rfl | rfl
   · intro hx;have:=escL_mem _ _ hx;omega
   · exact itoa_not (by omega)
theorem joinL_mem {c : UInt8} : ∀{ps : List (List UInt8)} {x : UInt8},x∈joinL c ps→x=c∨∃p∈ps,x∈p
 | [],x,h=>by cases h
 | [p],x,h=> .inr ⟨p,List.mem_cons_self,h⟩
 | p :: q :: r,x,h=>by
   rw [joinL_cons (by simp)] at h
   rcases List.mem_append.1 h with h | h
   · exact .inr ⟨p,List.mem_cons_self,h⟩
   · rcases List.mem_cons.1 h with h | h
     · exact .inl h
     · rcases joinL_mem h with h | ⟨y,hy,h⟩
       · exact .inl h
       · exact .inr ⟨y,List.mem_cons_of_mem _ hy,h⟩
theorem joinL_nil {c : UInt8} {ps : List (List UInt8)} (h : joinL c ps=[]) : ps=[]∨ps=[[]]:=by
 match ps,h with
 | [],_=>exact .inl rfl
 | [p],h=>right;rw [show joinL c [p]=p from rfl] at h;rw [h]
 | p :: q :: r,h=>rw [joinL_cons (by simp)] at h;exact absurd (List.append_eq_nil_iff.1 h).2 (by simp)
def InT (x : UInt8) : Prop:=33≤x.toNat∧x.toNat≤126∧x.toNat≠44∧x.toNat≠61
theorem inT_58 : InT 58:=by unfold InT;decide
theorem itoa_inT {n : Int} : ∀x∈itoa n,InT x:=fun x hx=>by
 rcases itoa_mem x hx with e | e
 · rw [e];unfold InT;decide
 · unfold InT;omega
theorem escL_inT {s : List UInt8} : ∀x∈escL s,InT x:=fun x hx=>by have:=escL_mem s x hx;unfold InT;omega
theorem wrName_inT (s : List UInt8) : ∀x∈wrName s,InT x:=fun x hx=>by
 unfold wrName at hx
 split at hx
 · rw [List.mem_singleton.1 hx];unfold InT;decide
 · exact escL_inT x hx
theorem wrOp_inT {o : OpX} (h : OkOp o) : ∀x∈wrOp o,InT x:=fun x hx=>by
 rcases joinL_mem hx with rfl | ⟨p,hp,hx⟩
 · exact inT_58
 · simp only [List.mem_cons,List.not_mem_nil,or_false] at hp
   rcases hp with rfl | rfl | rfl | rfl | rfl
   · have:=(op_at h.1 h.2.1).2.1 x hx
     unfold InT
     omega
   · exact itoa_inT x hx
   · exact itoa_inT x hx
   · exact itoa_inT x hx
   · exact escL_inT x hx
theorem wrGr_inT (g : GrX) : ∀x∈wrGr g,InT x:=fun x hx=>by
 rcases joinL_mem hx with rfl | ⟨p,hp,hx⟩
 · exact inT_58
 · simp only [List.mem_cons,List.not_mem_nil,or_false] at hp
   rcases hp with rfl | rfl
   · exact escL_inT x hx
   · exact itoa_inT x hx
theorem inT_44 {l : List UInt8} (h : ∀x∈l,InT x) : (44 : UInt8) ∉ l:=fun hx=>(h _ hx).2.2.1 rfl
theorem listM {α : Type} {f : List UInt8→Option α} {g : α→List UInt8} {l : List α} (hl : l≠[]) (h : ∀x∈l,f (g x)=some x) (hi : ∀x∈l,∀y∈g x,InT y) : allM f (splitL 44 (joinL 44 (l.map g)))=some l:=by
 rw [split_join (by simpa using hl)]
 · exact allM_map h
 · intro p hp
   obtain ⟨x,hx,rfl⟩:=List.mem_map.1 hp
   exact inT_44 (hi x hx)
theorem join_ne {α : Type} {g : α→List UInt8} {l : List α} (h : joinL 44 (l.map g)≠[]) : l≠[]:=fun e=>h (by rw [e];rfl)
theorem u32_back {a : Nat} (h : a < 4294967296) : ((a : Int) % 4294967296).toNat=a:=by omega
theorem i64_nat {a : Nat} (h : a < 4294967296) : I64 (a : Int):=by unfold I64;omega
theorem wish_split {a b c : Nat} : splitL 58 (joinL 58 [itoa a,itoa b,itoa c])=[itoa a,itoa b,itoa c]:=by
 have e58 : (58 : UInt8).toNat=58:=rfl
 refine split_join (by simp) fun p hp=> ?_
 simp only [List.mem_cons,List.not_mem_nil,or_false] at hp
 rcases hp with rfl | rfl | rfl <;> exact itoa_not (by omega)
theorem rdP_wr {g : Tag} {v : PV} (hok : OkPV g v) (hne : wrPV v≠[]) : rdP g (wrPV v)=some v:=by
 cases g <;> cases v <;> first | exact absurd hok id | skip
 case num.num n=>
  dsimp only [wrPV] at hne ⊢
  by_cases h : n=0
  · rw [if_pos h] at hne;exact absurd rfl hne
  · rw [if_neg h]
    unfold rdP
    dsimp only
    rw [numL_itoa hok]
    dsimp only
    rw [if_neg h]
 case text.text s=>
  unfold wrPV at hne ⊢
  unfold rdP
  dsimp only
  rw [unescL_esc]
  dsimp only
  rw [if_neg fun e=>hne (escL_nil.2 e)]
 case flag.flag b=>
  cases b
  · exact absurd rfl hne
  · rfl
 case nums.nums l=>
  unfold wrPV at hne ⊢
  unfold rdP
  dsimp only
  rw [listM (join_ne hne) (fun x hx=>numL_itoa (hok x hx)) (fun x _=>itoa_inT)]
  rfl
 case texts.texts l=>
  unfold wrPV at hne ⊢
  unfold rdP
  dsimp only
  rw [listM (join_ne hne) (fun x _=>rdName_wr x) (fun x _=>wrName_inT x)]
  rfl
 case ops.ops l=>
  unfold wrPV at hne ⊢
  unfold rdP
  dsimp only
  rw [listM (join_ne hne) (fun x hx=>rdOp_wr (hok x hx)) (fun x hx=>wrOp_inT (hok x hx))]
  rfl
 case grants.grants l=>
  unfold wrPV at hne ⊢
  unfold rdP
  dsimp only
  rw [listM (join_ne hne) (fun x hx=>rdGr_wr (hok x hx)) (fun x _=>wrGr_inT x)]
  rfl
 case wish.wish a b c=>
  obtain ⟨h1,h2,h3⟩:=hok
  dsimp only [wrPV] at hne ⊢
  by_cases h : a=0∧b=0∧c=0
  · rw [if_pos h] at hne;exact absurd rfl hne
  · rw [if_neg h]
    unfold rdP rdWish
    dsimp only
    rw [wish_split]
    dsimp only
    rw [numL_itoa (i64_nat h1),numL_itoa (i64_nat h2),numL_itoa (i64_nat h3)]
    dsimp only
    rw [u32_back h1,u32_back h2,u32_back h3]
theorem rdR_wr {g : Tag} {v : PV} (o : Nat × Nat × Nat) (hok : OkPV g v) (hne : wrPV v≠[]) : rdR g o (wrPV v)=some v:=by
 cases g <;> cases v <;> first | exact absurd hok id | skip
 case num.num n=>
  dsimp only [wrPV] at hne ⊢
  by_cases h : n=0
  · rw [if_pos h] at hne;exact absurd rfl hne
  · rw [if_neg h]
    unfold rdR
    dsimp only
    rw [numL_itoa hok]
    rfl
 case text.text s=>
  unfold wrPV rdR
  dsimp only
  rw [unescL_esc]
  rfl
 case flag.flag b=>
  cases b
  · exact absurd rfl hne
  · rfl
 case nums.nums l=>
  unfold wrPV at hne ⊢
  unfold rdR
  dsimp only
  rw [listM (join_ne hne) (fun x hx=>numL_itoa (hok x hx)) (fun x _=>itoa_inT)]
  rfl
 case texts.texts l=>
  unfold wrPV at hne ⊢
  unfold rdR
  dsimp only
  rw [listM (join_ne hne) (fun x _=>rdNameR_wr x) (fun x _=>wrName_inT x)]
  rfl
 case ops.ops l=>
  unfold wrPV at hne ⊢
  unfold rdR
  dsimp only
  rw [listM (join_ne hne) (fun x hx=>rdOp_wr (hok x hx)) (fun x hx=>wrOp_inT (hok x hx))]
  rfl
 case grants.grants l=>
  unfold wrPV at hne ⊢
  unfold rdR
  dsimp only
  rw [listM (join_ne hne) (fun x hx=>rdGrR_wr (hok x hx)) (fun x _=>wrGr_inT x)]
  rfl
 case wish.wish a b c=>
  obtain ⟨h1,h2,h3⟩:=hok
  dsimp only [wrPV] at hne ⊢
  by_cases h : a=0∧b=0∧c=0
  · rw [if_pos h] at hne;exact absurd rfl hne
  · rw [if_neg h]
    unfold rdR
    dsimp only
    rw [wish_split]
    have e : allM numL [itoa (a : Int),itoa (b : Int),itoa (c : Int)]=some [(a : Int),(b : Int),(c : Int)]:=allM_map (g:=itoa) (l:=[(a : Int),(b : Int),(c : Int)]) (fun x hx=>by
     simp only [List.mem_cons,List.not_mem_nil,or_false] at hx
     rcases hx with rfl | rfl | rfl
     · exact numL_itoa (i64_nat h1)
     · exact numL_itoa (i64_nat h2)
     · exact numL_itoa (i64_nat h3))
    rw [e]
    dsimp only [List.getElem?_cons_zero,List.getElem?_cons_succ,Option.map,Option.getD]
    rw [u32_back h1,u32_back h2,u32_back h3]
theorem rdOp_ok {t : List UInt8} {o : OpX} (h : rdOp t=some o) : OkOp o:=by
 have hp : ∀(ws : List (List UInt8)) w k,placeL ws w=some k→k < ws.length:=by
  intro ws
  induction ws with
  | nil=>intro w k h;cases h
  | cons x r ih=>
    intro w k h
    rw [placeL] at h
    split at h
    · injection h with h;subst h;simp
    · cases h2 : placeL r w with
      | none=>rw [h2] at h;cases h
      | some q=>rw [h2] at h;injection h with h;have h' : q + 1=k:=h;have:=ih w q h2;rw [List.length_cons];omega
 unfold rdOp at h
 split at h
 · split at h
   · next k a b c s hk ha hb hc hs=>
     injection h with h
     subst h
     have:=hp _ _ _ hk
     have e15 : opW.length=15:=rfl
     exact ⟨Int.natCast_nonneg _,by dsimp only;omega,(numL_some ha).1,(numL_some hb).1,(numL_some hc).1⟩
   · cases h
 · cases h
theorem rdGr_ok {t : List UInt8} {g : GrX} (h : rdGr t=some g) : I64 g.who:=by
 unfold rdGr at h
 split at h
 · split at h
   · next u n hu hn=>injection h with h;subst h;exact (numL_some hn).1
   · cases h
 · cases h
theorem rdGrR_ok {t : List UInt8} {g : GrX} (h : rdGrR t=some g) : I64 g.who:=by
 unfold rdGrR at h
 split at h
 · split at h
   · next u n hu hn=>injection h with h;subst h;exact (numL_some hn).1
   · cases h
 · cases h
theorem mod_u32 (n : Int) : (n % 4294967296).toNat < 4294967296:=by omega
end Go.Proofs.YtmicohmbmgbnkaaGreatDoor
