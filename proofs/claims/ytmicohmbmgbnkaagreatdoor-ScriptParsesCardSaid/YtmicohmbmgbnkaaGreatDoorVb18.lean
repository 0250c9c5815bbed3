/- The program's Line. -/
import Derived.Test.YtmicohmbmgbnkaaGreatDoorVb17
import Derived.Test.YtmicohmbmgbnkaaGreatDoorVb0
namespace Go.Proofs.YtmicohmbmgbnkaaGreatDoor
open Go Go.RowKit Go.Shelf
open Go.Lib (itoa)
def TyPV : Tag→PV→Prop
 | .ops,.ops l=> ∀o∈l,I64 o.a∧I64 o.b∧I64 o.c
 | .ops,_=>False
 | g,v=>OkPV g v
inductive TyVs : KT→List PV→Prop
 | nil : TyVs [] []
 | cons {k g ks v vs} : TyPV g v→TyVs ks vs→TyVs ((k,g) :: ks) (v :: vs)
theorem OkPV.ty {g : Tag} {v : PV} (h : OkPV g v) : TyPV g v:=by
 cases g <;> cases v <;> first | exact absurd h id | exact h | skip
 intro o ho
 exact (h o ho).2.2
theorem OkVs.ty : ∀{ks : KT} {vs : List PV},OkVs ks vs→TyVs ks vs
 | _,_,.nil=> .nil
 | _,_,.cons h hs=> .cons h.ty hs.ty
theorem OkVs.len : ∀{ks : KT} {vs : List PV},OkVs ks vs→vs.length=ks.length
 | _,_,.nil=>rfl
 | _,_,.cons _ hs=>by simp [hs.len]
theorem TyVs.len : ∀{ks : KT} {vs : List PV},TyVs ks vs→vs.length=ks.length
 | _,_,.nil=>rfl
 | _,_,.cons _ hs=>by simp [hs.len]
theorem OkVs.at : ∀{ks : KT} {vs : List PV} {i : Nat} {kg : List UInt8 × Tag} {v : PV},OkVs ks vs→ks[i]? =some kg→vs[i]? =some v→OkPV kg.2 v
 | _,_,i,_,_,.nil,h,_=>by cases h
 | _,_,0,_,_,.cons h _,h1,h2=>by
   injection h1 with h1
   injection h2 with h2
   subst h1 h2
   exact h
 | _,_,i + 1,_,_,.cons _ hs,h1,h2=>OkVs.at (i:=i) hs h1 h2
theorem TyVs.at : ∀{ks : KT} {vs : List PV} {i : Nat} {kg : List UInt8 × Tag} {v : PV},TyVs ks vs→ks[i]? =some kg→vs[i]? =some v→TyPV kg.2 v
 | _,_,i,_,_,.nil,h,_=>by cases h
 | _,_,0,_,_,.cons h _,h1,h2=>by
   injection h1 with h1
   injection h2 with h2
   subst h1 h2
   exact h
 | _,_,i + 1,_,_,.cons _ hs,h1,h2=>TyVs.at (i:=i) hs h1 h2
theorem keyT_len : keyT.length=26:=rfl
theorem offT_len : offT.length=26:=rfl
def opsOf (vs : List PV) : List OpX:=match (vs[3]? : Option PV) with | some (PV.ops l)=>l | _=>[]
theorem TyVs.ops {vs : List PV} (h : TyVs keyT vs) : ∃l,vs[3]? =some (.ops l)∧opsOf vs=l∧∀o∈l,I64 o.a∧I64 o.b∧I64 o.c:=by
 have hl:=h.len
 obtain ⟨v,hv⟩ : ∃v,vs[3]? =some v:=⟨_,List.getElem?_eq_getElem (by rw [hl];decide)⟩
 have ht:=h.at (i:=3) rfl hv
 cases v <;> first | exact absurd ht id | skip
 rename_i l
 exact ⟨l,hv,by unfold opsOf;rw [hv],ht⟩
def okK (o : OpX) : Prop:=0≤o.kind∧o.kind < 15
theorem ok_of_ty : ∀{ks : KT} {vs : List PV},TyVs ks vs→(∀(i : Nat) (l : List OpX),(ks[i]?).map (fun p : List UInt8 × Tag=>p.2)=some Tag.ops→vs[i]? =some (PV.ops l)→∀o∈l,okK o)→OkVs ks vs
 | _,_,.nil,_=> .nil
 | _,_,.cons (g:=g) (v:=v) h hs,hk=>by
   refine .cons ?_ (ok_of_ty hs fun i l h1 h2=>hk (i + 1) l h1 h2)
   cases g <;> cases v <;> first | exact absurd h id | exact h | skip
   rename_i l
   intro o ho
   have h1:=hk 0 l rfl rfl o ho
   exact ⟨h1.1,h1.2,h o ho⟩
theorem keyT_ops : ∀i : Nat,(keyT[i]?).map (fun p : List UInt8 × Tag=>p.2)=some Tag.ops→i=3:=by
 intro i h
 have hl : i < 26:=by
  rcases Nat.lt_or_ge i 26 with h1 | h1
  · exact h1
  · rw [List.getElem?_eq_none (by rw [keyT_len];exact h1)] at h;cases h
 have : ∀j : Fin 26,(keyT[j.1]?).map (fun p : List UInt8 × Tag=>p.2)=some Tag.ops→j.1=3:=by decide +kernel
 exact this ⟨i,hl⟩ h
theorem TyVs.ok {vs : List PV} (h : TyVs keyT vs) (hk : ∀o∈opsOf vs,okK o) : OkVs keyT vs:=
 ok_of_ty h fun i l h1 h2 o ho=>hk o (by
  have:=keyT_ops i h1
  subst this
  unfold opsOf
  rw [h2]
  exact ho)
structure StC (W : World) (k : Int) (vs : List PV) (cs : List Value) : Prop where
 len : cs.length=29
 kind : cs[0]? =some (.int .i64 k)
 val : ∀(i off : Nat) (v : PV),vs[i]? =some v→offT[i]? =some off→∃z,PVal W v z∧∀(j : Nat) x,z[j]? =some x→cs[off + j]? =some x
 one : cs.toArray.all (·.oneCell')=true
theorem StC.keep {W W' : World} {k : Int} {vs : List PV} {cs : List Value} (h : StC W k vs cs) (hb : Below W.heap.size W W') : StC W' k vs cs:=
 ⟨h.len,h.kind,fun i off v h1 h2=>by obtain ⟨z,hz,hc⟩:=h.val i off v h1 h2;exact ⟨z,hz.keep hb,hc⟩,h.one⟩
theorem Blk.range {W : World} {b off : Nat} {cs z : List Value} (h : Blk W b cs) (hz : ∀(j : Nat) x,z[j]? =some x→cs[off + j]? =some x) : W.rangeAt b off z:=fun j x hx=>by
 exact h.cell (hz j x hx)
theorem callW (g : Tag) : ∀args w,(callFunc (wrF g) args).run Tryz.prog w= .ok (.enter (wrF g) args) w:=by
 cases g <;> (intro args w;kernel_rfl)
theorem callR (g : Tag) : ∀args w,(callFunc (rdF g) args).run Tryz.prog w= .ok (.enter (rdF g) args) w:=by
 cases g <;> (intro args w;kernel_rfl)
theorem tokens_snoc : ∀{ks : KT} {vs : List PV} {j : Nat} {kg : List UInt8 × Tag} {v : PV},ks[j]? =some kg→vs[j]? =some v→tokens (ks.take (j + 1)) (vs.take (j + 1))=tokens (ks.take j) (vs.take j) ++ (if wrPV v=[] then [] else [kg.1 ++ 61 :: wrPV v])
 | [],_,_,_,_,h,_=>by cases h
 | (k,g) :: ks,[],_,_,_,_,h=>by cases h
 | (k,g) :: ks,x :: vs,0,kg,v,h1,h2=>by
   injection h1 with h1
   injection h2 with h2
   subst h1 h2
   simp only [List.take_succ_cons,List.take_zero,tokens]
   split <;> rfl
 | (k,g) :: ks,x :: vs,j + 1,kg,v,h1,h2=>by
   have ih:=tokens_snoc (ks:=ks) (vs:=vs) (j:=j) h1 h2
   simp only [List.take_succ_cons,tokens]
   split
   · exact ih
   · rw [ih];rfl
theorem joinL_snoc {c : UInt8} : ∀{l : List (List UInt8)} (t : List UInt8),l≠[]→joinL c (l ++ [t])=joinL c l ++ c :: t
 | [],_,h=>absurd rfl h
 | [p],t,_=>by rw [List.singleton_append,joinL_cons (by simp)];rfl
 | p :: q :: r,t,_=>by
   show joinL c (p :: (q :: r ++ [t]))=_
   rw [joinL_cons (p:=p) (r:=q :: r ++ [t]) (by simp),joinL_snoc (l:=q :: r) t (by simp),joinL_cons (p:=p) (r:=q :: r) (by simp),List.append_assoc,List.cons_append]
def accL (w : List UInt8) (vs : List PV) (j : Nat) : List UInt8:=joinL 32 (w :: tokens (keyT.take j) (vs.take j))
theorem accL_zero (w : List UInt8) (vs : List PV) : accL w vs 0=w:=by
 unfold accL
 rw [List.take_zero,List.take_zero]
 rfl
theorem accL_step {w : List UInt8} {vs : List PV} {j : Nat} {kg : List UInt8 × Tag} {v : PV} (h1 : keyT[j]? =some kg) (h2 : vs[j]? =some v) : accL w vs (j + 1)=if wrPV v=[] then accL w vs j else accL w vs j ++ 32 :: (kg.1 ++ 61 :: wrPV v):=by
 unfold accL
 rw [tokens_snoc h1 h2]
 split
 · rw [List.append_nil]
 · rw [← List.cons_append,joinL_snoc _ (by simp)]
theorem accL_end {k : Int} {vs : List PV} (h0 : 0≤k) (hl : vs.length=26) (h9 : k < 9) : accL (kwB k) vs 26=lineX k vs:=by
 unfold accL lineX kwB
 rw [if_pos ⟨h0,h9⟩,List.take_of_length_le (by rw [keyT_len];exact Nat.le_refl _),List.take_of_length_le (by rw [hl];exact Nat.le_refl _)]
theorem bs_tok (a k v : List UInt8) : bs (a ++ 32 :: (k ++ 61 :: v))=bs a ++ (⟨#[32]⟩ ++ bs k ++ ⟨#[61]⟩ ++ bs v):=by
 rw [show (32 : UInt8) :: (k ++ 61 :: v)=[32] ++ (k ++ ([61] ++ v)) from rfl,← bs_app,← bs_app,← bs_app,← bs_app]
 simp only [ByteArray.append_assoc]
 rfl
def wordS : ByteArray:=⟨#[119,111,114,100]⟩
def opsS : ByteArray:=⟨#[111,112,115]⟩
def ErrOut (v0 : Value) (n : Int) (p : List ByteArray) (w : World) (r : Ending) (w' : World) : Prop:= ∃e,r= .returned (.tuple #[v0,e])∧isErr w' (some n) p e∧Below w.heap.size w w'
end Go.Proofs.YtmicohmbmgbnkaaGreatDoor
