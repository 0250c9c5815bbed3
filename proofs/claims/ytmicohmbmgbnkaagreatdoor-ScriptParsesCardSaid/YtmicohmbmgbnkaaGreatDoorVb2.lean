/- The tokens of a step's line, written and read, plainly. -/
import Derived.Test.YtmicohmbmgbnkaaGreatDoorVb1
namespace Go.Proofs.YtmicohmbmgbnkaaGreatDoor
open Go
open Go.Lib (itoa)
def okP (g : Tag) (v : List UInt8) : Option PV:=match rdP g v with | some pv=>if wrPV pv=v then some pv else none | none=>none
def okR (g : Tag) (o : Nat × Nat × Nat) (v : List UInt8) : Option PV:=match rdR g o v with | some pv=>if v≠[]∧wrPV pv=v then some pv else none | none=>none
theorem map_some {α β : Type} {f : α→β} {x : Option α} {y : β} (h : x.map f=some y) : ∃a,x=some a∧f a=y:=by
 cases x with
 | none=>cases h
 | some a=>injection h with h;exact ⟨a,rfl,h⟩
theorem rdP_ok {g : Tag} {v : List UInt8} {pv : PV} (h : rdP g v=some pv) : OkPV g pv:=by
 cases g
 case num=>
  unfold rdP at h
  dsimp only at h
  cases hn : numL v with
  | none=>rw [hn] at h;cases h
  | some n=>
    rw [hn] at h
    dsimp only at h
    split at h
    · cases h
    · injection h with h;subst h;exact (numL_some hn).1
 case text=>
  unfold rdP at h
  dsimp only at h
  split at h
  · split at h
    · cases h
    · injection h with h;subst h;exact trivial
  · cases h
 case flag=>
  unfold rdP at h
  dsimp only at h
  split at h
  · injection h with h;subst h;exact trivial
  · cases h
 case nums=>
  obtain ⟨l,hl,rfl⟩:=map_some (show (allM numL (splitL 44 v)).map PV.nums=some pv from h)
  intro n hn
  obtain ⟨x,_,e⟩:=allM_mem hl n hn
  exact (numL_some e).1
 case texts=>
  obtain ⟨l,hl,rfl⟩:=map_some (show (allM rdName (splitL 44 v)).map PV.texts=some pv from h)
  exact trivial
 case ops=>
  obtain ⟨l,hl,rfl⟩:=map_some (show (allM rdOp (splitL 44 v)).map PV.ops=some pv from h)
  intro n hn
  obtain ⟨x,_,e⟩:=allM_mem hl n hn
  exact rdOp_ok e
 case grants=>
  obtain ⟨l,hl,rfl⟩:=map_some (show (allM rdGr (splitL 44 v)).map PV.grants=some pv from h)
  intro n hn
  obtain ⟨x,_,e⟩:=allM_mem hl n hn
  exact rdGr_ok e
 case wish=>
  have h : rdWish v=some pv:=h
  unfold rdWish at h
  split at h
  · split at h
    · injection h with h;subst h;exact ⟨mod_u32 _,mod_u32 _,mod_u32 _⟩
    · cases h
  · cases h
theorem getD_u32 (w : Option Int) {o : Nat} (h : o < 4294967296) : (w.map fun (n : Int)=>(n % 4294967296).toNat).getD o < 4294967296:=by
 cases w with
 | none=>exact h
 | some n=>exact mod_u32 n
theorem rdR_ok {g : Tag} {o : Nat × Nat × Nat} {v : List UInt8} {pv : PV} (ho : o.1 < 4294967296∧o.2.1 < 4294967296∧o.2.2 < 4294967296) (h : rdR g o v=some pv) : OkPV g pv:=by
 cases g
 case num=>
  obtain ⟨n,hn,rfl⟩:=map_some (show (numL v).map PV.num=some pv from h)
  exact (numL_some hn).1
 case text=>
  obtain ⟨n,hn,rfl⟩:=map_some (show (unescL v).map PV.text=some pv from h)
  exact trivial
 case flag=>
  injection (show some (PV.flag (decide (v=[49])))=some pv from h) with h
  subst h
  exact trivial
 case nums=>
  obtain ⟨l,hl,rfl⟩:=map_some (show (allM numL (splitL 44 v)).map PV.nums=some pv from h)
  intro n hn
  obtain ⟨x,_,e⟩:=allM_mem hl n hn
  exact (numL_some e).1
 case texts=>
  obtain ⟨l,hl,rfl⟩:=map_some (show (allM rdNameR (splitL 44 v)).map PV.texts=some pv from h)
  exact trivial
 case ops=>
  obtain ⟨l,hl,rfl⟩:=map_some (show (allM rdOp (splitL 44 v)).map PV.ops=some pv from h)
  intro n hn
  obtain ⟨x,_,e⟩:=allM_mem hl n hn
  exact rdOp_ok e
 case grants=>
  obtain ⟨l,hl,rfl⟩:=map_some (show (allM rdGrR (splitL 44 v)).map PV.grants=some pv from h)
  intro n hn
  obtain ⟨x,_,e⟩:=allM_mem hl n hn
  exact rdGrR_ok e
 case wish=>
  unfold rdR at h
  dsimp only at h
  split at h
  · cases h
  · injection h with h
    subst h
    exact ⟨getD_u32 _ ho.1,getD_u32 _ ho.2.1,getD_u32 _ ho.2.2⟩
theorem rdP_nil (g : Tag) : rdP g []=none:=by
 cases g <;> rfl
theorem okP_wr {g : Tag} {pv : PV} (hok : OkPV g pv) (hne : wrPV pv≠[]) : okP g (wrPV pv)=some pv:=by
 unfold okP
 rw [rdP_wr hok hne]
 dsimp only
 rw [if_pos rfl]
theorem okP_some {g : Tag} {v : List UInt8} {pv : PV} (h : okP g v=some pv) : OkPV g pv∧wrPV pv=v∧v≠[]:=by
 unfold okP at h
 cases hr : rdP g v with
 | none=>rw [hr] at h;cases h
 | some q=>
   rw [hr] at h
   dsimp only at h
   split at h
   · next e=>
     injection h with h
     subst h
     refine ⟨rdP_ok hr,e,fun h0=> ?_⟩
     rw [h0,rdP_nil] at hr
     cases hr
   · cases h
theorem okR_some {g : Tag} {o : Nat × Nat × Nat} {v : List UInt8} {pv : PV} (ho : o.1 < 4294967296∧o.2.1 < 4294967296∧o.2.2 < 4294967296) (h : okR g o v=some pv) : OkPV g pv∧wrPV pv=v∧v≠[]:=by
 unfold okR at h
 cases hr : rdR g o v with
 | none=>rw [hr] at h;cases h
 | some q=>
   rw [hr] at h
   dsimp only at h
   split at h
   · next e=>
     injection h with h
     subst h
     exact ⟨rdR_ok ho hr,e.2,e.1⟩
   · cases h
theorem okR_wr {g : Tag} {o : Nat × Nat × Nat} {pv : PV} (hok : OkPV g pv) (hne : wrPV pv≠[]) : okR g o (wrPV pv)=some pv:=by
 unfold okR
 rw [rdR_wr o hok hne]
 dsimp only
 rw [if_pos ⟨hne,rfl⟩]
theorem okR_eq (g : Tag) {o : Nat × Nat × Nat} (v : List UInt8) (ho : o.1 < 4294967296∧o.2.1 < 4294967296∧o.2.2 < 4294967296) : okR g o v=okP g v:=by
 cases h : okP g v with
 | some pv=>
   obtain ⟨h1,h2,h3⟩:=okP_some h
   subst h2
   exact okR_wr h1 h3
 | none=>
   cases h' : okR g o v with
   | none=>rfl
   | some pv=>
     obtain ⟨h1,h2,h3⟩:=okR_some ho h'
     subst h2
     rw [okP_wr h1 h3] at h
     cases h
def zeroPV : Tag→PV
 | .num=> .num 0 | .text=> .text [] | .flag=> .flag false | .nums=> .nums [] | .texts=> .texts [] | .ops=> .ops [] | .grants=> .grants [] | .wish=> .wish 0 0 0
theorem zero_ok (g : Tag) : OkPV g (zeroPV g):=by
 cases g
 · exact (by unfold I64;omega : I64 0)
 · trivial
 · trivial
 · intro n hn;cases hn
 · trivial
 · intro n hn;cases hn
 · intro n hn;cases hn
 · exact ⟨by decide,by decide,by decide⟩
theorem zero_wr (g : Tag) : wrPV (zeroPV g)=[]:=by cases g <;> rfl
theorem wrName_ne (s : List UInt8) : wrName s≠[]:=by
 unfold wrName
 split
 · simp
 · next h=>exact fun e=>h (escL_nil.1 e)
theorem wrOp_ne (o : OpX) : wrOp o≠[]:=by
 unfold wrOp
 rw [joinL_cons (by simp)]
 simp
theorem wrGr_ne (g : GrX) : wrGr g≠[]:=by
 unfold wrGr
 rw [joinL_cons (by simp)]
 simp
theorem list_zero {α : Type} {w : α→List UInt8} {l : List α} (hw : ∀x,w x≠[]) (h : joinL 44 (l.map w)=[]) : l=[]:=by
 rcases joinL_nil h with h | h
 · exact List.map_eq_nil_iff.1 h
 · match l,h with
   | [],_=>rfl
   | [x],h=>injection h with h;exact absurd h (hw x)
   | x :: y :: r,h=>injection h with _ h;cases h
theorem wr_zero {g : Tag} {pv : PV} (hok : OkPV g pv) (h : wrPV pv=[]) : pv=zeroPV g:=by
 cases g <;> cases pv <;> first | exact absurd hok id | skip
 case num.num n=>
  dsimp only [wrPV] at h
  by_cases h0 : n=0
  · rw [h0];rfl
  · rw [if_neg h0] at h;exact absurd h (itoa_ne n)
 case text.text s=>rw [escL_nil.1 (show escL s=[] from h)];rfl
 case flag.flag b=>
  cases b
  · rfl
  · cases h
 case nums.nums l=>rw [list_zero itoa_ne (show joinL 44 (l.map itoa)=[] from h)];rfl
 case texts.texts l=>rw [list_zero wrName_ne (show joinL 44 (l.map wrName)=[] from h)];rfl
 case ops.ops l=>rw [list_zero wrOp_ne (show joinL 44 (l.map wrOp)=[] from h)];rfl
 case grants.grants l=>rw [list_zero wrGr_ne (show joinL 44 (l.map wrGr)=[] from h)];rfl
 case wish.wish a b c=>
  dsimp only [wrPV] at h
  by_cases h0 : a=0∧b=0∧c=0
  · obtain ⟨rfl,rfl,rfl⟩:=h0;rfl
  · rw [if_neg h0,joinL_cons (by simp)] at h
    simp at h
theorem wr_seen {g : Tag} {pv : PV} (hok : OkPV g pv) : ∀x∈wrPV pv,33≤x.toNat∧x.toNat≤126:=by
 have h44 : 33≤(44 : UInt8).toNat∧(44 : UInt8).toNat≤126:=by decide
 have h58 : 33≤(58 : UInt8).toNat∧(58 : UInt8).toNat≤126:=by decide
 have hj : ∀{α : Type} {w : α→List UInt8} {l : List α},(∀y∈l,∀x∈w y,InT x)→∀x∈joinL 44 (l.map w),33≤x.toNat∧x.toNat≤126:=by
  intro α w l hw x hx
  rcases joinL_mem hx with rfl | ⟨p,hp,hx⟩
  · exact h44
  · obtain ⟨y,hy,rfl⟩:=List.mem_map.1 hp
    have:=hw y hy x hx
    exact ⟨this.1,this.2.1⟩
 intro x hx
 cases g <;> cases pv <;> first | exact absurd hok id | skip
 case num.num n=>
  dsimp only [wrPV] at hx
  split at hx
  · cases hx
  · have:=itoa_inT x hx;exact ⟨this.1,this.2.1⟩
 case text.text s=>have:=escL_inT x (show x∈escL s from hx);exact ⟨this.1,this.2.1⟩
 case flag.flag b=>
  cases b
  · cases hx
  · rw [List.mem_singleton.1 (show x∈[49] from hx)];decide
 case nums.nums l=>exact hj (fun y _=>itoa_inT) x hx
 case texts.texts l=>exact hj (fun y _=>wrName_inT y) x hx
 case ops.ops l=>exact hj (fun y hy=>wrOp_inT (hok y hy)) x hx
 case grants.grants l=>exact hj (fun y _=>wrGr_inT y) x hx
 case wish.wish a b c=>
  dsimp only [wrPV] at hx
  split at hx
  · cases hx
  · rcases joinL_mem hx with rfl | ⟨p,hp,hx⟩
    · exact h58
    · simp only [List.mem_cons,List.not_mem_nil,or_false] at hp
      rcases hp with rfl | rfl | rfl <;> (have:=itoa_inT x hx;exact ⟨this.1,this.2.1⟩)
/-! The tokens of a line. -/
abbrev KT:=List (List UInt8 × Tag)
def tokens : KT→List PV→List (List UInt8)
 | (k,_) :: ks,v :: vs=>if wrPV v=[] then tokens ks vs else (k ++ 61 :: wrPV v) :: tokens ks vs
 | _,_=>[]
inductive RdE where | ok (vs : List PV) | bad (at_ : List UInt8)
def keyB : List UInt8:=[107,101,121]
def zeros (ks : KT) : List PV:=ks.map fun p=>zeroPV p.2
def rdToks : KT→List (List UInt8)→RdE
 | ks,[]=> .ok (zeros ks)
 | ks,t :: toks=>
   match placeL (ks.map (·.1)) (cutL 61 t).1 with
   | none=> .bad keyB
   | some i=>
     if (cutL 61 t).2.2=false then .bad keyB else
     match ks[i]? with
     | none=> .bad keyB
     | some kg=>
       match okP kg.2 (cutL 61 t).2.1 with
       | none=> .bad (cutL 61 t).1
       | some pv=>match rdToks (ks.drop (i + 1)) toks with | .ok vs=> .ok (zeros (ks.take i) ++ pv :: vs) | .bad a=> .bad a
inductive OkVs : KT→List PV→Prop
 | nil : OkVs [] []
 | cons {k g ks v vs} : OkPV g v→OkVs ks vs→OkVs ((k,g) :: ks) (v :: vs)
def OkKeys (ks : KT) : Prop:=(ks.map (·.1)).Nodup∧∀p∈ks,(61 : UInt8) ∉ p.1
theorem OkKeys.tail {p : List UInt8 × Tag} {ks : KT} (h : OkKeys (p :: ks)) : OkKeys ks:=⟨(List.nodup_cons.1 h.1).2,fun q hq=>h.2 q (List.mem_cons_of_mem _ hq)⟩
theorem placeL_mem : ∀{ws : List (List UInt8)} {w : List UInt8} {i : Nat},placeL ws w=some i→ws[i]? =some w
 | [],_,_,h=>by cases h
 | x :: r,w,i,h=>by
   rw [placeL] at h
   split at h
   · next e=>injection h with h;subst h;rw [e];rfl
   · obtain ⟨q,hq,e⟩:=map_some h
     have e' : q + 1=i:=e
     subst e'
     rw [List.getElem?_cons_succ]
     exact placeL_mem hq
theorem cut_tok {k v : List UInt8} (h : (61 : UInt8) ∉ k) : cutL 61 (k ++ 61 :: v)=(k,v,true):=cutL_app v h
theorem rdToks_skip {p : List UInt8 × Tag} {ks : KT} : ∀{toks : List (List UInt8)},(∀t∈toks.head?,(cutL 61 t).1≠p.1)→rdToks (p :: ks) toks=match rdToks ks toks with | .ok vs=> .ok (zeroPV p.2 :: vs) | .bad a=> .bad a
 | [],_=>rfl
 | t :: toks,h=>by
   have h1:=h t rfl
   rw [rdToks,rdToks,List.map_cons,placeL,if_neg (fun e=>h1 e.symm)]
   cases hp : placeL (ks.map (·.1)) (cutL 61 t).1 with
   | none=>rfl
   | some i=>
     dsimp only [Option.map]
     by_cases hc : (cutL 61 t).2.2=false
     · rw [if_pos hc,if_pos hc]
     · rw [if_neg hc,if_neg hc,List.getElem?_cons_succ]
       cases hk : ks[i]? with
       | none=>rfl
       | some kg=>
         dsimp only
         cases ho : okP kg.2 (cutL 61 t).2.1 with
         | none=>rfl
         | some pv=>
           dsimp only
           rw [List.drop_succ_cons,List.take_succ_cons]
           cases rdToks (ks.drop (i + 1)) toks <;> rfl
theorem tokens_head : ∀{ks : KT} {vs : List PV},(∀p∈ks,(61 : UInt8) ∉ p.1)→∀t∈(tokens ks vs).head?,∃p∈ks,(cutL 61 t).1=p.1
 | [],vs,_,t,ht=>by cases vs <;> cases ht
 | p :: ks,[],_,t,ht=>by cases ht
 | p :: ks,v :: vs,h,t,ht=>by
   rw [tokens] at ht
   split at ht
   · obtain ⟨q,hq,e⟩:=tokens_head (fun q hq=>h q (List.mem_cons_of_mem _ hq)) t ht
     exact ⟨q,List.mem_cons_of_mem _ hq,e⟩
   · injection ht with ht
     subst ht
     exact ⟨p,List.mem_cons_self,by rw [cut_tok (h p List.mem_cons_self)]⟩
theorem rdToks_wr : ∀{ks : KT} {vs : List PV},OkKeys ks→OkVs ks vs→rdToks ks (tokens ks vs)= .ok vs
 | _,_,_,.nil=>rfl
 | (k,g) :: ks,v :: vs,hk,.cons hv hvs=>by
   have ih:=rdToks_wr hk.tail hvs
   by_cases h0 : wrPV v=[]
   · rw [tokens,if_pos h0,rdToks_skip,ih]
     · dsimp only
       rw [wr_zero hv h0]
     · intro t ht e
       obtain ⟨q,hq,e2⟩:=tokens_head hk.tail.2 t ht
       rw [e2] at e
       exact (List.nodup_cons.1 hk.1).1 (List.mem_map.2 ⟨q,hq,e⟩)
   · rw [tokens,if_neg h0,rdToks,cut_tok (hk.2 _ List.mem_cons_self),List.map_cons,placeL,if_pos rfl]
     dsimp only
     rw [if_neg (by decide),List.getElem?_cons_zero]
     dsimp only
     rw [okP_wr hv h0]
     dsimp only
     rw [Nat.zero_add,List.drop_succ_cons,List.drop_zero,ih]
     rfl
theorem OkVs.zeros_ : ∀ks : KT,OkVs ks (zeros ks)
 | []=> .nil
 | p :: ks=> .cons (zero_ok p.2) (OkVs.zeros_ ks)
theorem tokens_zeros : ∀ks : KT,tokens ks (zeros ks)=[]
 | []=>rfl
 | p :: ks=>by
   show tokens (p :: ks) (zeroPV p.2 :: zeros ks)=[]
   rw [tokens,if_pos (zero_wr p.2),tokens_zeros]
theorem tokens_at : ∀{ks : KT} {i : Nat} {kg : List UInt8 × Tag} {pv : PV} {vs : List PV},ks[i]? =some kg→wrPV pv≠[]→tokens ks (zeros (ks.take i) ++ pv :: vs)=(kg.1 ++ 61 :: wrPV pv) :: tokens (ks.drop (i + 1)) vs
 | [],i,_,_,_,h,_=>by cases h
 | p :: ks,0,kg,pv,vs,h,h0=>by
   injection h with h
   subst h
   show tokens (p :: ks) (pv :: vs)=_
   rw [tokens,if_neg h0]
   rfl
 | p :: ks,i + 1,kg,pv,vs,h,h0=>by
   show tokens (p :: ks) (zeroPV p.2 :: (zeros (ks.take i) ++ pv :: vs))=_
   rw [tokens,if_pos (zero_wr p.2),tokens_at (show ks[i]? =some kg from h) h0]
   rfl
theorem OkVs.at_ : ∀{ks : KT} {i : Nat} {kg : List UInt8 × Tag} {pv : PV} {vs : List PV},ks[i]? =some kg→OkPV kg.2 pv→OkVs (ks.drop (i + 1)) vs→OkVs ks (zeros (ks.take i) ++ pv :: vs)
 | [],i,_,_,_,h,_,_=>by cases h
 | p :: ks,0,kg,pv,vs,h,h0,hv=>by
   injection h with h
   subst h
   exact .cons h0 hv
 | p :: ks,i + 1,kg,pv,vs,h,h0,hv=> .cons (zero_ok p.2) (OkVs.at_ h h0 hv)
theorem rdToks_some : ∀{toks : List (List UInt8)} {ks : KT} {vs : List PV},rdToks ks toks= .ok vs→tokens ks vs=toks∧OkVs ks vs
 | [],ks,vs,h=>by
   rw [rdToks] at h
   injection h with h
   subst h
   exact ⟨tokens_zeros ks,OkVs.zeros_ ks⟩
 | t :: toks,ks,vs,h=>by
   rw [rdToks] at h
   cases hp : placeL (ks.map (·.1)) (cutL 61 t).1 with
   | none=>rw [hp] at h;cases h
   | some i=>
     rw [hp] at h
     dsimp only at h
     by_cases hc : (cutL 61 t).2.2=false
     · rw [if_pos hc] at h;cases h
     · rw [if_neg hc] at h
       cases hk : ks[i]? with
       | none=>rw [hk] at h;cases h
       | some kg=>
         rw [hk] at h
         dsimp only at h
         cases ho : okP kg.2 (cutL 61 t).2.1 with
         | none=>rw [ho] at h;cases h
         | some pv=>
           rw [ho] at h
           dsimp only at h
           cases hr : rdToks (ks.drop (i + 1)) toks with
           | bad a=>rw [hr] at h;cases h
           | ok us=>
             rw [hr] at h
             injection h with h
             subst h
             obtain ⟨h1,h2⟩:=rdToks_some hr
             obtain ⟨o1,o2,o3⟩:=okP_some ho
             have hkey : kg.1=(cutL 61 t).1:=by
              have:=placeL_mem hp
              rw [List.getElem?_map,hk] at this
              injection this
             have ht : t=kg.1 ++ 61 :: wrPV pv:=by
              rcases cutL_cases 61 t with ⟨_,e⟩ | ⟨a,b,_,e,e2⟩
              · rw [e] at hc;exact absurd rfl hc
              · rw [e2] at hkey o2
                rw [hkey,o2]
                exact e
             refine ⟨?_,OkVs.at_ hk o1 h2⟩
             rw [tokens_at hk (by rw [o2];exact o3),h1,← ht]
end Go.Proofs.YtmicohmbmgbnkaaGreatDoor
