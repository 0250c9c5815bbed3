/- What Read keeps: a step that is read part by part. -/
import Derived.Test.YtmicohmbmgbnkaaGreatDoorVb19
namespace Go.Proofs.YtmicohmbmgbnkaaGreatDoor
open Go Go.RowKit Go.Shelf
open Go.Lib (itoa)
/-! What was read is no longer when it is written. -/
theorem allM_join_le {α : Type} {f : List UInt8→Option α} {g : α→List UInt8} {c : UInt8} (h : ∀p x,f p=some x→(g x).length≤p.length) : ∀{ps : List (List UInt8)} {l : List α},allM f ps=some l→(joinL c (l.map g)).length≤(joinL c ps).length
 | [],l,e=>by injection e with e;subst e;exact Nat.le_refl _
 | p :: ps,l,e=>by
   rw [allM] at e
   cases h1 : f p with
   | none=>rw [h1] at e;cases e
   | some y=>
     rw [h1] at e
     dsimp only at e
     cases h2 : allM f ps with
     | none=>rw [h2] at e;cases e
     | some r=>
       rw [h2] at e
       injection e with e
       subst e
       have ih:=allM_join_le (c:=c) h h2
       have hy:=h p y h1
       match ps,r,h2,ih with
       | [],r,h2,_=>injection h2 with h2;subst h2;exact hy
       | q :: s,[],h2,_=>
         rw [allM] at h2
         split at h2
         · cases h2
         · split at h2 <;> cases h2
       | q :: s,z :: r,h2,ih=>
         rw [List.map_cons,joinL_cons (by simp),joinL_cons (by simp)]
         simp only [List.length_append,List.length_cons] at ih ⊢
         omega
theorem numL_len {p : List UInt8} {n : Int} (h : numL p=some n) : (itoa n).length≤p.length:=by rw [(numL_some h).2];exact Nat.le_refl _
theorem unescL_len {p u : List UInt8} (h : unescL p=some u) : (escL u).length≤p.length:=by rw [unescL_some h];exact Nat.le_refl _
theorem rdName_len {p u : List UInt8} (h : rdName p=some u) : (wrName u).length≤p.length:=by
 unfold rdName at h
 by_cases e : p=[59]
 · rw [if_pos e] at h
   injection h with h
   subst h
   rw [e]
   exact Nat.le_refl _
 · rw [if_neg e] at h
   cases hu : unescL p with
   | none=>rw [hu] at h;cases h
   | some x=>
     rw [hu] at h
     dsimp only at h
     by_cases e2 : x=[]
     · rw [if_pos e2] at h;cases h
     · rw [if_neg e2] at h
       injection h with h
       subst h
       unfold wrName
       rw [if_neg e2]
       exact unescL_len hu
theorem rdOp_le {p : List UInt8} {o : OpX} (h : rdOp p=some o) : (wrOp o).length≤p.length:=by
 unfold rdOp at h
 split at h
 · next w a b c s e=>
   split at h
   · next k a' b' c' s' h1 h2 h3 h4 h5=>
     injection h with h
     subst h
     have hw : opW.getD k []=w:=by rw [List.getD_eq_getElem?_getD,placeL_mem h1];rfl
     have hp : p=joinL 58 [w,a,b,c,s]:=by rw [← e,join_split]
     rw [hp]
     unfold wrOp
     dsimp only
     rw [Int.toNat_natCast,hw,(numL_some h2).2,(numL_some h3).2,(numL_some h4).2,unescL_some h5]
     exact Nat.le_refl _
   · cases h
 · cases h
theorem rdGr_le {p : List UInt8} {g : GrX} (h : rdGr p=some g) : (wrGr g).length≤p.length:=by
 unfold rdGr at h
 split at h
 · next hc=>
   split at h
   · next u n h1 h2=>
     injection h with h
     subst h
     rcases cutL_cases 58 p with ⟨_,e⟩ | ⟨a,b,_,e,e2⟩
     · rw [e] at hc;cases hc
     · rw [e2] at h1 h2
       unfold wrGr
       rw [joinL_cons (by simp),show joinL 58 [itoa n]=itoa n from rfl,e]
       simp only [List.length_append,List.length_cons]
       have k1:=unescL_len h1
       have k2:=numL_len h2
       dsimp only at k1 k2
       omega
   · cases h
 · cases h
theorem rdP_len {g : Tag} {v : List UInt8} {pv : PV} (h : rdP g v=some pv) : (wrPV pv).length≤v.length + 100:=by
 have hok:=rdP_ok h
 cases g
 case num=>
  unfold rdP at h
  dsimp only at h
  cases hn : numL v with
  | none=>rw [hn] at h;cases h
  | some n=>
    rw [hn] at h
    dsimp only at h
    split at h
    · cases h
    · next h0=>
      injection h with h
      subst h
      dsimp only [wrPV]
      rw [if_neg h0]
      have:=numL_len hn
      omega
 case text=>
  unfold rdP at h
  dsimp only at h
  split at h
  · next u hu=>
    split at h
    · cases h
    · injection h with h
      subst h
      dsimp only [wrPV]
      have:=unescL_len hu
      omega
  · cases h
 case flag=>
  unfold rdP at h
  dsimp only at h
  split at h
  · injection h with h
    subst h
    show 1≤_
    omega
  · cases h
 case nums=>
  obtain ⟨l,hl,rfl⟩:=map_some (show (allM numL (splitL 44 v)).map PV.nums=some pv from h)
  have:=allM_join_le (c:=44) (fun p x=>numL_len) hl
  rw [join_split] at this
  exact Nat.le_trans this (Nat.le_add_right _ _)
 case texts=>
  obtain ⟨l,hl,rfl⟩:=map_some (show (allM rdName (splitL 44 v)).map PV.texts=some pv from h)
  have:=allM_join_le (c:=44) (fun p x=>rdName_len) hl
  rw [join_split] at this
  exact Nat.le_trans this (Nat.le_add_right _ _)
 case ops=>
  obtain ⟨l,hl,rfl⟩:=map_some (show (allM rdOp (splitL 44 v)).map PV.ops=some pv from h)
  have:=allM_join_le (c:=44) (fun p x=>rdOp_le) hl
  rw [join_split] at this
  exact Nat.le_trans this (Nat.le_add_right _ _)
 case grants=>
  obtain ⟨l,hl,rfl⟩:=map_some (show (allM rdGr (splitL 44 v)).map PV.grants=some pv from h)
  have:=allM_join_le (c:=44) (fun p x=>rdGr_le) hl
  rw [join_split] at this
  exact Nat.le_trans this (Nat.le_add_right _ _)
 case wish=>
  cases pv <;> first | exact absurd hok id | skip
  rename_i a b c
  have h1:=itoa_len20 (i64_nat hok.1)
  have h2:=itoa_len20 (i64_nat hok.2.1)
  have h3:=itoa_len20 (i64_nat hok.2.2)
  dsimp only [wrPV]
  split
  · exact Nat.zero_le _
  · rw [joinL_cons (by simp),joinL_cons (by simp),show joinL 58 [itoa (c : Int)]=itoa (c : Int) from rfl]
    simp only [List.length_append,List.length_cons]
    omega
/-! Where the parts lie. -/
theorem off_all : ∀i : Fin 26,1≤offT.getD i.1 0∧offT.getD i.1 0 + widthT ((keyT.map (·.2)).getD i.1 .num)≤29∧∀j : Fin 26,i≠j→offT.getD i.1 0 + widthT ((keyT.map (·.2)).getD i.1 .num)≤offT.getD j.1 0∨offT.getD j.1 0 + widthT ((keyT.map (·.2)).getD j.1 .num)≤offT.getD i.1 0:=by decide +kernel
theorem off_at {i off : Nat} {kg : List UInt8 × Tag} (hk : keyT[i]? =some kg) (ho : offT[i]? =some off) : 1≤off∧off + widthT kg.2≤29∧∀(j off' : Nat) (kg' : List UInt8 × Tag),keyT[j]? =some kg'→offT[j]? =some off'→i≠j→off + widthT kg.2≤off'∨off' + widthT kg'.2≤off:=by
 have hi : i < 26:=by have:=(List.getElem?_eq_some_iff.1 hk).1;rwa [keyT_len] at this
 have h:=off_all ⟨i,hi⟩
 have e1 : offT.getD i 0=off:=by rw [List.getD_eq_getElem?_getD,ho];rfl
 have e2 : (keyT.map (·.2)).getD i .num=kg.2:=by rw [List.getD_eq_getElem?_getD,List.getElem?_map,hk];rfl
 dsimp only at h
 rw [e1,e2] at h
 refine ⟨h.1,h.2.1,fun j off' kg' hk' ho' hne=> ?_⟩
 have hj : j < 26:=by have:=(List.getElem?_eq_some_iff.1 hk').1;rwa [keyT_len] at this
 have h3:=h.2.2 ⟨j,hj⟩ (fun e=>hne (Fin.mk.inj e))
 have e3 : offT.getD j 0=off':=by rw [List.getD_eq_getElem?_getD,ho'];rfl
 have e4 : (keyT.map (·.2)).getD j .num=kg'.2:=by rw [List.getD_eq_getElem?_getD,List.getElem?_map,hk'];rfl
 dsimp only at h3
 rw [e3,e4] at h3
 exact h3
theorem PValG.one {S : Nat→List (List Value)→Value→Prop} (hS : ∀K zs v,S K zs v→v.oneCell' =true) : ∀{pv : PV} {z : List Value},PValG S pv z→∀x∈z,x.oneCell' =true:=by
 intro pv z h x hx
 cases pv
 case num n=>have e : z=_:=h;rw [e] at hx;rw [List.mem_singleton.1 hx];rfl
 case text s=>have e : z=_:=h;rw [e] at hx;rw [List.mem_singleton.1 hx];rfl
 case flag s=>have e : z=_:=h;rw [e] at hx;rw [List.mem_singleton.1 hx];rfl
 case nums l=>obtain ⟨v,rfl,hv⟩:=h;rw [List.mem_singleton.1 hx];exact hS _ _ _ hv
 case texts l=>obtain ⟨v,rfl,hv⟩:=h;rw [List.mem_singleton.1 hx];exact hS _ _ _ hv
 case ops l=>obtain ⟨v,rfl,hv⟩:=h;rw [List.mem_singleton.1 hx];exact hS _ _ _ hv
 case grants l=>obtain ⟨v,rfl,hv⟩:=h;rw [List.mem_singleton.1 hx];exact hS _ _ _ hv
 case wish a b c=>
  have e : z=_:=h
  rw [e] at hx
  simp only [List.mem_cons,List.not_mem_nil,or_false] at hx
  rcases hx with rfl | rfl | rfl <;> rfl
theorem SlN.one {b : Nat} {W : World} {K : Nat} {zs : List (List Value)} {v : Value} (h : SlN b W K zs v) : v.oneCell' =true:=by
 obtain ⟨A,c,rfl,_⟩:=h
 rfl
theorem setAt_one : ∀(z cs : List Value) (off : Nat),(∀x∈cs,x.oneCell' =true)→(∀x∈z,x.oneCell' =true)→∀x∈setAt cs off z,x.oneCell' =true
 | [],_,_,h,_=>h
 | v :: r,cs,off,h,hz=>setAt_one r _ _ (fun x hx=>by
     rcases List.mem_or_eq_of_mem_set hx with hx | rfl
     · exact h x hx
     · exact hz _ List.mem_cons_self) (fun x hx=>hz x (List.mem_cons_of_mem _ hx))
structure StN (b : Nat) (W : World) (k : Int) (vs : List PV) (cs : List Value) : Prop where
 len : cs.length=29
 kind : cs[0]? =some (.int .i64 k)
 ok : OkVs keyT vs
 val : ∀(i off : Nat) (v : PV),vs[i]? =some v→offT[i]? =some off→∃z,PValN b W v z∧∀(j : Nat) x,z[j]? =some x→cs[off + j]? =some x
 one : ∀x∈cs,x.oneCell' =true
theorem StN.but {b : Nat} {W W' : World} {k : Int} {vs : List PV} {cs : List Value} (h : StN b W k vs cs) (hb : But b W W') : StN b W' k vs cs:=
 ⟨h.len,h.kind,h.ok,fun i off v h1 h2=>by obtain ⟨z,hz,hc⟩:=h.val i off v h1 h2;exact ⟨z,hz.but hb,hc⟩,h.one⟩
theorem StN.c {b : Nat} {W : World} {k : Int} {vs : List PV} {cs : List Value} (h : StN b W k vs cs) : StC W k vs cs:=
 ⟨h.len,h.kind,fun i off v h1 h2=>by obtain ⟨z,hz,hc⟩:=h.val i off v h1 h2;exact ⟨z,hz.v,hc⟩,by rw [List.all_toArray];exact List.all_eq_true.2 h.one⟩
theorem OkVs.set : ∀{ks : KT} {vs : List PV} {i : Nat} {kg : List UInt8 × Tag} {pv : PV},OkVs ks vs→ks[i]? =some kg→OkPV kg.2 pv→OkVs ks (vs.set i pv)
 | _,_,i,_,_,.nil,h,_=>by cases h
 | _,_,0,_,_,.cons _ hs,h1,h2=>by injection h1 with h1;subst h1;exact .cons h2 hs
 | _,_,i + 1,_,_,.cons h hs,h1,h2=> .cons h (OkVs.set (i:=i) hs h1 h2)
theorem StN.put {b : Nat} {W W' : World} {k : Int} {vs : List PV} {cs z : List Value} {i off : Nat} {kg : List UInt8 × Tag} {pv : PV} (h : StN b W k vs cs) (hb : But b W W') (hk : keyT[i]? =some kg) (ho : offT[i]? =some off) (hok : OkPV kg.2 pv) (hz : PValN b W' pv z) (hzl : z.length=widthT kg.2) : StN b W' k (vs.set i pv) (setAt cs off z):=by
 obtain ⟨o1,o2,o3⟩:=off_at hk ho
 have hl:=h.len
 refine ⟨by rw [setAt_len,hl],by rw [setAt_off _ _ _ _ (.inl (by omega))];exact h.kind,h.ok.set hk hok,fun j off' v h1 h2=> ?_,setAt_one _ _ _ h.one (PValG.one (fun _ _ _=>SlN.one) hz)⟩
 by_cases e : i=j
 · subst e
   rw [ho] at h2
   injection h2 with h2
   subst h2
   have hi : i < vs.length:=by have:=(List.getElem?_eq_some_iff.1 h1).1;rwa [List.length_set] at this
   rw [List.getElem?_set_self hi] at h1
   injection h1 with h1
   subst h1
   exact ⟨z,hz,fun j x hx=>setAt_at z cs off j x (by omega) hx⟩
 · rw [List.getElem?_set_ne e] at h1
   obtain ⟨z',hz',hc'⟩:=h.val j off' v h1 h2
   refine ⟨z',hz'.but hb,fun q x hx=> ?_⟩
   obtain ⟨kg',hkg'⟩ : ∃kg',keyT[j]? =some kg':=⟨_,List.getElem?_eq_getElem (by have:=h.ok.len;have:=(List.getElem?_eq_some_iff.1 h1).1;omega)⟩
   have hzl':=PValG.len (h.ok.at hkg' h1) hz'
   have hq:=(List.getElem?_eq_some_iff.1 hx).1
   rw [setAt_off _ _ _ _ (by have:=o3 j off' kg' hkg' h2 e;omega)]
   exact hc' q x hx
def stZ (k : Int) : List Value:=[.int .i64 k,.int .i64 0,.bool false,.string ByteArray.empty,.string ByteArray.empty,.slice none 0 0,.slice none 0 0,.slice none 0 0,.slice none 0 0,.slice none 0 0,.slice none 0 0,.slice none 0 0,.slice none 0 0,.slice none 0 0,.int .i64 0,.slice none 0 0,.int .i64 0,.int .i64 0,.string ByteArray.empty,.slice none 0 0,.bool false,.bool false,.int .u32 0,.int .u32 0,.int .u32 0,.int .i64 0,.string ByteArray.empty,.slice none 0 0,.slice none 0 0]
theorem st_zero : (Tryz.prog.info? 44).bind (·.zero)=some (.agg (stZ 0).toArray):=by kernel_rfl
theorem st_built0 : Tryz.prog.built 44 []=some (stZ 0).toArray:=by kernel_rfl
theorem st_built1 (k : Int) : Tryz.prog.built 44 [(0,.int .i64 k)]=some (stZ k).toArray:=by kernel_rfl
theorem wish_off : ∀i : Fin 26,(keyT.map (·.2)).getD i.1 .num= .wish→offT.getD i.1 0=22:=by decide +kernel
theorem zero_cells : ∀i : Nat,i < 26→(stZ 0)[offT.getD i 0]? =(match (keyT.map (·.2)).getD i .num with | .num=>some (.int .i64 0) | .text=>some (.string ByteArray.empty) | .flag=>some (.bool false) | .wish=>some (.int .u32 0) | _=>some (.slice none 0 0))
 | 0,_=>rfl
 | 1,_=>rfl
 | 2,_=>rfl
 | 3,_=>rfl
 | 4,_=>rfl
 | 5,_=>rfl
 | 6,_=>rfl
 | 7,_=>rfl
 | 8,_=>rfl
 | 9,_=>rfl
 | 10,_=>rfl
 | 11,_=>rfl
 | 12,_=>rfl
 | 13,_=>rfl
 | 14,_=>rfl
 | 15,_=>rfl
 | 16,_=>rfl
 | 17,_=>rfl
 | 18,_=>rfl
 | 19,_=>rfl
 | 20,_=>rfl
 | 21,_=>rfl
 | 22,_=>rfl
 | 23,_=>rfl
 | 24,_=>rfl
 | 25,_=>rfl
 | i + 26,h=>absurd h (by omega)
theorem SlN.nil_ (b : Nat) (W : World) (K : Nat) : SlN b W K [] (.slice none 0 0):=⟨none,0,rfl,Nat.le_refl _,by decide,Rws.nil_,fun h=>absurd h (Nat.lt_irrefl _)⟩
theorem stZ_at (k : Int) {i : Nat} (h : 1≤i) : (stZ k)[i]? =(stZ 0)[i]? :=by
 obtain ⟨j,rfl⟩ : ∃j,i=j + 1:=⟨i - 1,by omega⟩
 rfl
theorem zeros_at {i : Nat} {v : PV} (h : (zeros keyT)[i]? =some v) : ∃kg,keyT[i]? =some kg∧v=zeroPV kg.2:=by
 unfold zeros at h
 rw [List.getElem?_map] at h
 cases hk : keyT[i]? with
 | none=>rw [hk] at h;cases h
 | some kg=>rw [hk] at h;injection h with h;exact ⟨kg,rfl,h.symm⟩
theorem StN.zero_ (b : Nat) (W : World) (k : Int) : StN b W k (zeros keyT) (stZ k):=by
 refine ⟨rfl,rfl,OkVs.zeros_ keyT,fun i off v h1 h2=> ?_,fun x hx=> ?_⟩
 · obtain ⟨kg,hkg,rfl⟩:=zeros_at h1
   have hi : i < 26:=by have:=(List.getElem?_eq_some_iff.1 hkg).1;rwa [keyT_len] at this
   have hz:=zero_cells i hi
   have hw:=wish_off ⟨i,hi⟩
   have e1 : offT.getD i 0=off:=by rw [List.getD_eq_getElem?_getD,h2];rfl
   have e2 : (keyT.map (·.2)).getD i .num=kg.2:=by rw [List.getD_eq_getElem?_getD,List.getElem?_map,hkg];rfl
   have ho:=(off_at hkg h2).1
   dsimp only at hz hw
   rw [e1,e2,← stZ_at k ho] at hz
   rw [e1,e2] at hw
   have one : ∀x : Value,(stZ k)[off]? =some x→∀(j : Nat) y,([x] : List Value)[j]? =some y→(stZ k)[off + j]? =some y:=fun x hx j y hy=>by
    match j,hy with
    | 0,hy=>injection hy with hy;subst hy;exact hx
   cases hg : kg.2 with
   | num=>rw [hg] at hz;exact ⟨_,rfl,one _ hz⟩
   | text=>rw [hg] at hz;exact ⟨_,rfl,one _ hz⟩
   | flag=>rw [hg] at hz;exact ⟨_,rfl,one _ hz⟩
   | nums=>rw [hg] at hz;exact ⟨_,⟨_,rfl,SlN.nil_ _ _ _⟩,one _ hz⟩
   | texts=>rw [hg] at hz;exact ⟨_,⟨_,rfl,SlN.nil_ _ _ _⟩,one _ hz⟩
   | ops=>rw [hg] at hz;exact ⟨_,⟨_,rfl,SlN.nil_ _ _ _⟩,one _ hz⟩
   | grants=>rw [hg] at hz;exact ⟨_,⟨_,rfl,SlN.nil_ _ _ _⟩,one _ hz⟩
   | wish=>
     have h22:=hw hg
     subst h22
     refine ⟨[.int .u32 0,.int .u32 0,.int .u32 0],rfl,fun j y hy=> ?_⟩
     match j,hy with
     | 0,hy=>exact hy
     | 1,hy=>exact hy
     | 2,hy=>exact hy
 · unfold stZ at hx
   simp only [List.mem_cons,List.not_mem_nil,or_false] at hx
   rcases hx with h | h | h | h | h | h | h | h | h | h | h | h | h | h | h | h | h | h | h | h | h | h | h | h | h | h | h | h | h <;> (rw [h];rfl)
/-! The slice x[K:]. -/
def beh (A : Option Addr) (K k c : Nat) : Option Addr:=if c=K then A else A.map (·.add (K * k))
theorem beh_run (t : TypeId) (k : Nat) (ht : Tryz.prog.underlying t=some (.slice (Tryz.prog.elem t))) (hz : ∀w,(sizeOf (Tryz.prog.elem t)).run Tryz.prog w= .ok k w) (A : Option Addr) (n c K : Nat) (hK : K≤n) (W : World) :
 (Instr.sliceAt t (.slice A n c) (some (.int .i64 (K : Int))) none none).run Tryz.prog W= .ok (.slice (beh A K k c) (n - K) (c - K)) W:=by
 rw [run_sliceAt_slice (h:=ht),run_slice_l (ht:=ht) (h0:=by omega) (h1:=by omega),hz]
 simp only [Result.andThen,sliced,Int.toNat_natCast,beh]
theorem Rws.beh {w : World} {A : Option Addr} {n c K k : Nat} {zs : List (List Value)} (h : Rws w k A n zs) (hc : n≤c) : Rws w k (beh A K k c) (n - K) (zs.drop K):=
 ⟨by rw [List.length_drop,h.1],fun z hz=>h.2.1 z (List.mem_of_mem_drop hz),fun hp=>by
  obtain ⟨b,off,e,hlt,hcell⟩:=h.2.2 (by omega)
  refine ⟨b,off + K * k,?_,hlt,fun j z hz=> ?_⟩
  · unfold Go.Proofs.YtmicohmbmgbnkaaGreatDoor.beh
    rw [if_neg (by omega),e]
    simp [Addr.add]
  · rw [List.getElem?_drop] at hz
    have:=hcell (K + j) z hz
    rwa [show off + (K + j) * k=off + K * k + j * k by rw [Nat.add_mul];omega] at this⟩
theorem u_strs9 : Tryz.prog.underlying 27=some (.slice (Tryz.prog.elem 27)):=by kernel_rfl
theorem z_strs9 : ∀w,(sizeOf (Tryz.prog.elem 27)).run Tryz.prog w= .ok 1 w:=by intro w;kernel_rfl
theorem u_parts : Tryz.prog.underlying 87=some (.slice (Tryz.prog.elem 87)):=by kernel_rfl
theorem z_parts : ∀w,(sizeOf (Tryz.prog.elem 87)).run Tryz.prog w= .ok 3 w:=by intro w;kernel_rfl
/-! What the tokens tell, step by step. -/
def addPre (pre : List PV) : RdE→RdE
 | .ok vs=> .ok (pre ++ vs)
 | .bad a=> .bad a
theorem addPre_nil (r : RdE) : addPre [] r=r:=by cases r <;> rfl
theorem drop_at {α : Type} {l : List α} {i : Nat} {x : α} (h : l[i]? =some x) : l.drop i=x :: l.drop (i + 1):=by
 obtain ⟨hl,e⟩:=List.getElem?_eq_some_iff.1 h
 rw [List.drop_eq_getElem_cons hl,e]
theorem tok_none {toks : List (List UInt8)} {d i : Nat} {pre : List PV} {t : List UInt8} (h : rdToks keyT toks=addPre pre (rdToks (keyT.drop d) (toks.drop i))) (ht : toks[i]? =some t) (hn : placeL ((keyT.drop d).map (·.1)) (cutL 61 t).1=none∨(cutL 61 t).2.2=false) : rdToks keyT toks= .bad keyB:=by
 rw [h,drop_at ht,rdToks]
 rcases hn with hn | hn
 · rw [hn];rfl
 · cases placeL ((keyT.drop d).map (·.1)) (cutL 61 t).1 with
   | none=>rfl
   | some q=>dsimp only;rw [if_pos hn];rfl
theorem tok_bad {toks : List (List UInt8)} {d i q : Nat} {pre : List PV} {t : List UInt8} {kg : List UInt8 × Tag} (h : rdToks keyT toks=addPre pre (rdToks (keyT.drop d) (toks.drop i))) (ht : toks[i]? =some t) (hq : placeL ((keyT.drop d).map (·.1)) (cutL 61 t).1=some q) (hc : (cutL 61 t).2.2=true) (hk : keyT[d + q]? =some kg) (ho : okP kg.2 (cutL 61 t).2.1=none) : rdToks keyT toks= .bad (cutL 61 t).1:=by
 rw [h,drop_at ht,rdToks,hq]
 dsimp only
 rw [if_neg (by rw [hc];decide),List.getElem?_drop,hk]
 dsimp only
 rw [ho]
 rfl
theorem tok_ok {toks : List (List UInt8)} {d i q : Nat} {pre : List PV} {t : List UInt8} {kg : List UInt8 × Tag} {pv : PV} (h : rdToks keyT toks=addPre pre (rdToks (keyT.drop d) (toks.drop i))) (ht : toks[i]? =some t) (hq : placeL ((keyT.drop d).map (·.1)) (cutL 61 t).1=some q) (hc : (cutL 61 t).2.2=true) (hk : keyT[d + q]? =some kg) (ho : okP kg.2 (cutL 61 t).2.1=some pv) :
 rdToks keyT toks=addPre (pre ++ (zeros ((keyT.drop d).take q) ++ [pv])) (rdToks (keyT.drop (d + q + 1)) (toks.drop (i + 1))):=by
 rw [h,drop_at ht,rdToks,hq]
 dsimp only
 rw [if_neg (by rw [hc];decide),List.getElem?_drop,hk]
 dsimp only
 rw [ho]
 dsimp only
 rw [List.drop_drop,show d + (q + 1)=d + q + 1 by omega]
 cases rdToks (keyT.drop (d + q + 1)) (toks.drop (i + 1)) with
 | bad a=>rfl
 | ok vs=>show RdE.ok _=RdE.ok _;rw [List.append_assoc,List.append_assoc];rfl
theorem tok_end {toks : List (List UInt8)} {d i : Nat} {pre : List PV} (h : rdToks keyT toks=addPre pre (rdToks (keyT.drop d) (toks.drop i))) (hi : toks.length≤i) : rdToks keyT toks= .ok (pre ++ zeros (keyT.drop d)):=by
 rw [h,List.drop_eq_nil_of_le hi]
 rfl
theorem zeros_set {d q : Nat} {pre : List PV} {kg : List UInt8 × Tag} (pv : PV) (hp : pre.length=d) (hk : keyT[d + q]? =some kg) : (pre ++ zeros (keyT.drop d)).set (d + q) pv=(pre ++ (zeros ((keyT.drop d).take q) ++ [pv])) ++ zeros (keyT.drop (d + q + 1)):=by
 have e : keyT.drop d=(keyT.drop d).take q ++ kg :: keyT.drop (d + q + 1):=by
  have h1 : (keyT.drop d)[q]? =some kg:=by rw [List.getElem?_drop];exact hk
  conv=>lhs;rw [← List.take_append_drop q (keyT.drop d)]
  rw [drop_at h1,List.drop_drop]
  rfl
 have hql : ((keyT.drop d).take q).length=q:=by
  rw [List.length_take,List.length_drop]
  have:=(List.getElem?_eq_some_iff.1 hk).1
  omega
 rw [List.set_append_right _ _ (by omega),hp,Nat.add_sub_cancel_left]
 conv=>lhs;rw [e]
 unfold zeros
 rw [List.map_append,List.set_append_right _ _ (by rw [List.length_map,hql];exact Nat.le_refl _),List.length_map,hql,Nat.sub_self]
 simp [List.append_assoc]
end Go.Proofs.YtmicohmbmgbnkaaGreatDoor
