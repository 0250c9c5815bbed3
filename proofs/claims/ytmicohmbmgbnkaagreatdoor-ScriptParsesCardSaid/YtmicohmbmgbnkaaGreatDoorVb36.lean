/- Texts joined: what each shows stands ahead of its theorems. -/
import Derived.Test.YtmicohmbmgbnkaaGreatDoorVb35
import Derived.Test.YtmicohmbmgbnkaaGreatDoorVb28
namespace Go.Proofs.YtmicohmbmgbnkaaGreatDoor
section
open Go Go.RowKit Go.Shelf
open Go.Lib (itoa)
def wishO (vs : List PV) : Nat × Nat × Nat:=match (vs[25]? : Option PV) with | some (PV.wish a b c)=>(a,b,c) | _=>(0,0,0)
theorem wishO_ok {vs : List PV} (hok : OkVs keyT vs) : (wishO vs).1 < 4294967296∧(wishO vs).2.1 < 4294967296∧(wishO vs).2.2 < 4294967296:=by
 have hl:=hok.len
 have hv : vs[25]? =some (vs[25]'(by rw [hl];decide)):=List.getElem?_eq_getElem _
 have ho:=hok.at (i:=25) rfl hv
 unfold wishO
 rw [hv]
 generalize vs[25]'(by rw [hl];decide)=v at *
 cases v <;> first | exact absurd ho id | exact ho
theorem wishO_at {vs : List PV} (hok : OkVs keyT vs) : vs[25]? =some (.wish (wishO vs).1 (wishO vs).2.1 (wishO vs).2.2):=by
 have hl:=hok.len
 have hv : vs[25]? =some (vs[25]'(by rw [hl];decide)):=List.getElem?_eq_getElem _
 have ho:=hok.at (i:=25) rfl hv
 unfold wishO
 rw [hv]
 generalize vs[25]'(by rw [hl];decide)=v at *
 cases v <;> first | exact absurd ho id | rfl
theorem put_any (cs : List Value) (kd : Int) (vs : List PV) (s : ByteArray) (W : World) (hS : StC W kd vs cs) (hok : OkVs keyT vs) (hs : s.size≤1099511627776) (j off : Nat) (kg : List UInt8 × Tag) (hk : keyT[j]? =some kg) (ho : offT[j]? =some off) :
 Calls Tryz.prog 50 #[.agg cs.toArray,.int .i64 j,.string s] W (PutR kg.2 off (wishO vs) cs s.data.toList W):=by
 have hj : j < 26:=by have:=(List.getElem?_eq_some_iff.1 hk).1;rwa [keyT_len] at this
 have hl:=hS.len
 have h1:=one_list hS.one
 match j,hj with
 | 0,_=>
   obtain rfl:=Option.some.inj hk
   obtain rfl:=Option.some.inj ho
   exact put_0 cs _ s W hs hl h1
 | 1,_=>
   obtain rfl:=Option.some.inj hk
   obtain rfl:=Option.some.inj ho
   exact put_1 cs _ s W hs hl h1
 | 2,_=>
   obtain rfl:=Option.some.inj hk
   obtain rfl:=Option.some.inj ho
   exact put_2 cs _ s W hs hl h1
 | 3,_=>
   obtain rfl:=Option.some.inj hk
   obtain rfl:=Option.some.inj ho
   exact put_3 cs _ s W hs hl h1
 | 4,_=>
   obtain rfl:=Option.some.inj hk
   obtain rfl:=Option.some.inj ho
   exact put_4 cs _ s W hs hl h1
 | 5,_=>
   obtain rfl:=Option.some.inj hk
   obtain rfl:=Option.some.inj ho
   exact put_5 cs _ s W hs hl h1
 | 6,_=>
   obtain rfl:=Option.some.inj hk
   obtain rfl:=Option.some.inj ho
   exact put_6 cs _ s W hs hl h1
 | 7,_=>
   obtain rfl:=Option.some.inj hk
   obtain rfl:=Option.some.inj ho
   exact put_7 cs _ s W hs hl h1
 | 8,_=>
   obtain rfl:=Option.some.inj hk
   obtain rfl:=Option.some.inj ho
   exact put_8 cs _ s W hs hl h1
 | 9,_=>
   obtain rfl:=Option.some.inj hk
   obtain rfl:=Option.some.inj ho
   exact put_9 cs _ s W hs hl h1
 | 10,_=>
   obtain rfl:=Option.some.inj hk
   obtain rfl:=Option.some.inj ho
   exact put_10 cs _ s W hs hl h1
 | 11,_=>
   obtain rfl:=Option.some.inj hk
   obtain rfl:=Option.some.inj ho
   exact put_11 cs _ s W hs hl h1
 | 12,_=>
   obtain rfl:=Option.some.inj hk
   obtain rfl:=Option.some.inj ho
   exact put_12 cs _ s W hs hl h1
 | 13,_=>
   obtain rfl:=Option.some.inj hk
   obtain rfl:=Option.some.inj ho
   exact put_13 cs _ s W hs hl h1
 | 14,_=>
   obtain rfl:=Option.some.inj hk
   obtain rfl:=Option.some.inj ho
   exact put_14 cs _ s W hs hl h1
 | 15,_=>
   obtain rfl:=Option.some.inj hk
   obtain rfl:=Option.some.inj ho
   exact put_15 cs _ s W hs hl h1
 | 16,_=>
   obtain rfl:=Option.some.inj hk
   obtain rfl:=Option.some.inj ho
   exact put_16 cs _ s W hs hl h1
 | 17,_=>
   obtain rfl:=Option.some.inj hk
   obtain rfl:=Option.some.inj ho
   exact put_17 cs _ s W hs hl h1
 | 18,_=>
   obtain rfl:=Option.some.inj hk
   obtain rfl:=Option.some.inj ho
   exact put_18 cs _ s W hs hl h1
 | 19,_=>
   obtain rfl:=Option.some.inj hk
   obtain rfl:=Option.some.inj ho
   exact put_19 cs _ s W hs hl h1
 | 20,_=>
   obtain rfl:=Option.some.inj hk
   obtain rfl:=Option.some.inj ho
   exact put_20 cs _ s W hs hl h1
 | 21,_=>
   obtain rfl:=Option.some.inj hk
   obtain rfl:=Option.some.inj ho
   exact put_21 cs _ s W hs hl h1
 | 22,_=>
   obtain rfl:=Option.some.inj hk
   obtain rfl:=Option.some.inj ho
   exact put_22 cs _ s W hs hl h1
 | 23,_=>
   obtain rfl:=Option.some.inj hk
   obtain rfl:=Option.some.inj ho
   exact put_23 cs _ s W hs hl h1
 | 24,_=>
   obtain rfl:=Option.some.inj hk
   obtain rfl:=Option.some.inj ho
   exact put_24 cs _ s W hs hl h1
 | 25,_=>
   obtain rfl:=Option.some.inj hk
   obtain rfl:=Option.some.inj ho
   obtain ⟨z,hz,hc⟩:=hS.val 25 22 _ (wishO_at hok) rfl
   obtain rfl:=hz
   exact put_25 cs _ s W hs hl h1 (hc 0 _ rfl) (hc 1 _ rfl) (hc 2 _ rfl)
theorem StC.put {W W' : World} {kd : Int} {vs : List PV} {cs z : List Value} {j off : Nat} {kg : List UInt8 × Tag} {pv : PV} (h : StC W kd vs cs) (hok : OkVs keyT vs) (hb : Below W.heap.size W W') (hk : keyT[j]? =some kg) (ho : offT[j]? =some off) (hz : PVal W' pv z) (hzl : z.length=widthT kg.2) (hz1 : ∀x∈z,x.oneCell' =true) : StC W' kd (vs.set j pv) (setAt cs off z):=by
 obtain ⟨o1,o2,o3⟩:=off_at hk ho
 have hl:=h.len
 refine ⟨by rw [setAt_len,hl],by rw [setAt_off _ _ _ _ (.inl (by omega))];exact h.kind,fun i off' v h1 h2=> ?_,one_arr (setAt_one _ _ _ (one_list h.one) hz1)⟩
 by_cases e : j=i
 · subst e
   rw [ho] at h2
   injection h2 with h2
   subst h2
   have hi : j < vs.length:=by have:=(List.getElem?_eq_some_iff.1 h1).1;rwa [List.length_set] at this
   rw [List.getElem?_set_self hi] at h1
   injection h1 with h1
   subst h1
   exact ⟨z,hz,fun q x hx=>setAt_at z cs off q x (by omega) hx⟩
 · rw [List.getElem?_set_ne e] at h1
   obtain ⟨z',hz',hc'⟩:=h.val i off' v h1 h2
   refine ⟨z',hz'.keep hb,fun q x hx=> ?_⟩
   obtain ⟨kg',hkg'⟩ : ∃kg',keyT[i]? =some kg':=⟨_,List.getElem?_eq_getElem (by have:=hok.len;have:=(List.getElem?_eq_some_iff.1 h1).1;omega)⟩
   have hzl':=PValG.len (hok.at hkg' h1) hz'
   have hq:=(List.getElem?_eq_some_iff.1 hx).1
   rw [setAt_off _ _ _ _ (by have:=o3 i off' kg' hkg' h2 e;omega)]
   exact hc' q x hx
theorem allM_join_le1 {α : Type} {f : List UInt8→Option α} {w : α→List UInt8} {c : UInt8} (hw : ∀p x,f p=some x→(w x).length≤p.length + 1) : ∀{ps : List (List UInt8)} {l : List α},allM f ps=some l→(joinL c (l.map w)).length≤(joinL c ps).length + ps.length
 | [],l,h=>by injection h with h;subst h;exact Nat.zero_le _
 | [p],l,h=>by
   rw [allM] at h
   cases hp : f p with
   | none=>rw [hp] at h;cases h
   | some x=>
     rw [hp] at h
     injection h with h
     subst h
     exact hw p x hp
 | p :: q :: ps,l,h=>by
   rw [allM] at h
   cases hp : f p with
   | none=>rw [hp] at h;cases h
   | some x=>
     rw [hp] at h
     dsimp only at h
     cases hr : allM f (q :: ps) with
     | none=>rw [hr] at h;cases h
     | some r=>
       rw [hr] at h
       injection h with h
       subst h
       have ih:=allM_join_le1 (c:=c) hw hr
       have h1:=hw p x hp
       rw [joinL_cons (p:=p) (by simp)]
       cases r with
       | nil=>simp only [List.map_cons,List.map_nil,joinL,List.length_append,List.length_cons];omega
       | cons y ys=>
         rw [List.map_cons,joinL_cons (by simp)]
         simp only [List.length_append,List.length_cons] at ih ⊢
         omega
theorem rdNameR_len {p x : List UInt8} (h : rdNameR p=some x) : (wrName x).length≤p.length + 1:=by
 unfold rdNameR at h
 by_cases e : p=[59]
 · rw [if_pos e] at h
   injection h with h
   subst h
   rw [e]
   decide
 · rw [if_neg e] at h
   have:=unescL_some h
   unfold wrName
   split
   · simp
   · rw [this];omega
theorem rdGrR_le {p : List UInt8} {g : GrX} (h : rdGrR p=some g) : (wrGr g).length≤p.length + 1:=by
 unfold rdGrR at h
 split at h
 · next u n e=>
   split at h
   · next u' n' h1 h2=>
     injection h with h
     subst h
     have hp : p=joinL 58 [u,n]:=by rw [← e,join_split]
     rw [hp]
     unfold wrGr
     dsimp only
     rw [unescL_some h1,(numL_some h2).2]
     omega
   · cases h
 · cases h
theorem rdR_len {g : Tag} {o : Nat × Nat × Nat} {v : List UInt8} {pv : PV} (ho : o.1 < 4294967296∧o.2.1 < 4294967296∧o.2.2 < 4294967296) (h : rdR g o v=some pv) : (wrPV pv).length≤2 * v.length + 100:=by
 have hok:=rdR_ok ho h
 have hsl:=splitL_len 44 v
 have js : ∀{α : Type} {f : List UInt8→Option α} {w : α→List UInt8} {l : List α},(∀p x,f p=some x→(w x).length≤p.length + 1)→allM f (splitL 44 v)=some l→(joinL 44 (l.map w)).length≤2 * v.length + 100:=fun hw hl=>by
  have:=allM_join_le1 (c:=44) hw hl
  rw [join_split] at this
  omega
 cases g
 case num=>
  obtain ⟨n,hn,rfl⟩:=map_some (show (numL v).map PV.num=some pv from h)
  have h1:=numL_len hn
  dsimp only [wrPV]
  split
  · exact Nat.zero_le _
  · omega
 case text=>
  obtain ⟨n,hn,rfl⟩:=map_some (show (unescL v).map PV.text=some pv from h)
  have h1:=unescL_len hn
  dsimp only [wrPV]
  omega
 case flag=>
  injection (show some (PV.flag (decide (v=[49])))=some pv from h) with h
  subst h
  dsimp only [wrPV]
  split
  · show 1≤_;omega
  · exact Nat.zero_le _
 case nums=>
  obtain ⟨l,hl,rfl⟩:=map_some (show (allM numL (splitL 44 v)).map PV.nums=some pv from h)
  exact js (fun p x h=>by have:=numL_len h;omega) hl
 case texts=>
  obtain ⟨l,hl,rfl⟩:=map_some (show (allM rdNameR (splitL 44 v)).map PV.texts=some pv from h)
  exact js (fun p x=>rdNameR_len) hl
 case ops=>
  obtain ⟨l,hl,rfl⟩:=map_some (show (allM rdOp (splitL 44 v)).map PV.ops=some pv from h)
  exact js (fun p x h=>by have:=rdOp_le h;omega) hl
 case grants=>
  obtain ⟨l,hl,rfl⟩:=map_some (show (allM rdGrR (splitL 44 v)).map PV.grants=some pv from h)
  exact js (fun p x=>rdGrR_le) hl
 case wish=>
  cases pv <;> first | exact absurd hok id | skip
  rename_i a b c
  have h1:=itoa_len20 (i64_nat hok.1)
  have h2:=itoa_len20 (i64_nat hok.2.1)
  have h3:=itoa_len20 (i64_nat hok.2.2)
  dsimp only [wrPV]
  split
  · exact Nat.zero_le _
  · rw [joinL_cons (by simp),joinL_cons (by simp),show joinL 58 [itoa (c : Int)]=itoa (c : Int) from rfl]
    simp only [List.length_append,List.length_cons]
    omega
theorem placeL_dropT (d : Nat) {w : List UInt8} : placeL ((keyT.drop d).map (·.1)) w=match placeL (keyT.map (·.1)) w with | some i=>if d≤i then some (i - d) else none | none=>none:=by
 rw [List.map_drop]
 exact placeL_drop key_all.1 d
end
section
open Go Go.RowKit Go.Shelf
end
end Go.Proofs.YtmicohmbmgbnkaaGreatDoor
