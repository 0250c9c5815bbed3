/- The walk of ScriptReads. (printed by wip/gen_smd.py) -/
import Derived.Test.YtmicohmbmgbnkaaGreatDoorVb40
namespace Go.Proofs.YtmicohmbmgbnkaaGreatDoor
open Go Go.RowKit Go.Shelf
open Go.Lib (itoa)
theorem tok_len : ∀{ks : KT} {vs : List PV},vs.length=ks.length→∀v∈vs,wrPV v=[]∨∃t∈tokens ks vs,(wrPV v).length≤t.length
 | _,[],_,v,hv=>by cases hv
 | [],_ :: _,h,_,_=>by cases h
 | (k,g) :: ks,x :: vs,h,v,hv=>by
   rcases List.mem_cons.1 hv with rfl | hv
   · by_cases h0 : wrPV v=[]
     · exact .inl h0
     · exact .inr ⟨k ++ 61 :: wrPV v,by rw [tokens,if_neg h0];exact List.mem_cons_self,by simp;omega⟩
   · rcases tok_len (ks:=ks) (vs:=vs) (by simpa using h) v hv with h1 | ⟨t,ht,h1⟩
     · exact .inl h1
     · exact .inr ⟨t,by rw [tokens];split;exact ht;exact List.mem_cons_of_mem _ ht,h1⟩
theorem line_len {k : Nat} {vs : List PV} (hok : OkVs keyT vs) : ∀v∈vs,(wrPV v).length≤(lineX k vs).length:=fun v hv=>by
 rcases tok_len hok.len v hv with h | ⟨t,ht,h⟩
 · rw [h];exact Nat.zero_le _
 · refine Nat.le_trans h ?_
   unfold lineX
   exact joinL_len_le (List.mem_cons_of_mem _ ht)
theorem gr_len {l : List GrX} {g : GrX} (hg : g∈l) : g.user.length≤(wrPV (.grants l)).length:=by
 have h1 : (wrGr g).length≤(joinL 44 (l.map wrGr)).length:=joinL_len_le (List.mem_map_of_mem hg)
 have h2 : (escL g.user).length≤(wrGr g).length:=joinL_len_le (c:=58) (ps:=[escL g.user,itoa g.who]) List.mem_cons_self
 exact Nat.le_trans (Nat.le_trans (escL_le _) h2) h1
theorem op_len9 {l : List OpX} {o : OpX} (hg : o∈l) : o.s.length≤(wrPV (.ops l)).length:=by
 have h1 : (wrOp o).length≤(joinL 44 (l.map wrOp)).length:=joinL_len_le (List.mem_map_of_mem hg)
 have h2 : (escL o.s).length≤(wrOp o).length:=joinL_len_le (c:=58) (ps:=[opW.getD o.kind.toNat [],itoa o.a,itoa o.b,itoa o.c,escL o.s]) (by simp)
 exact Nat.le_trans (Nat.le_trans (escL_le _) h2) h1
theorem toks_bad : ∀{toks : List (List UInt8)} {ks : KT} {a : List UInt8} {M : Nat},rdToks ks toks= .bad a→(∀t∈toks,t.length≤M)→a.length≤M + 3
 | [],ks,a,M,h,_=>by rw [rdToks] at h;cases h
 | t :: toks,ks,a,M,h,hM=>by
   have hc:=cutL_len 61 t
   have ht:=hM t List.mem_cons_self
   rw [rdToks] at h
   cases hp : placeL (ks.map (·.1)) (cutL 61 t).1 with
   | none=>rw [hp] at h;injection h with h;subst h;show 3≤_;omega
   | some i=>
     rw [hp] at h
     dsimp only at h
     split at h
     · injection h with h;subst h;show 3≤_;omega
     · cases hk : ks[i]? with
       | none=>rw [hk] at h;injection h with h;subst h;show 3≤_;omega
       | some kg=>
         rw [hk] at h
         dsimp only at h
         cases ho : okP kg.2 (cutL 61 t).2.1 with
         | none=>rw [ho] at h;injection h with h;subst h;omega
         | some pv=>
           rw [ho] at h
           dsimp only at h
           cases hr : rdToks (ks.drop (i + 1)) toks with
           | ok vs=>rw [hr] at h;cases h
           | bad b=>rw [hr] at h;injection h with h;subst h;exact toks_bad hr fun t ht=>hM t (List.mem_cons_of_mem _ ht)
theorem line_bad {L a : List UInt8} (h : rdLine L= .bad a) : a.length≤L.length + 4:=by
 unfold rdLine at h
 have hm:=fun t (ht : t∈splitL 32 L)=>split_size t ht
 cases hs : splitL 32 L with
 | nil=>rw [hs,rdParts] at h;injection h with h;subst h;show 4≤_;omega
 | cons w toks=>
   rw [hs,rdParts] at h
   cases hp : placeL kindW w with
   | none=>rw [hp] at h;injection h with h;subst h;show 4≤_;omega
   | some k=>
     rw [hp] at h
     dsimp only at h
     cases hr : rdToks keyT toks with
     | ok vs=>rw [hr] at h;cases h
     | bad b=>
       rw [hr] at h
       injection h with h
       subst h
       have:=toks_bad (M:=L.length) hr fun t ht=>hm t (by rw [hs];exact List.mem_cons_of_mem _ ht)
       omega
theorem lay_step (w : World) {ds : List Value} (hl : ds.length=29) : Row ((w.alloc (.cells (stZ 0).toArray 44)).setRow w.heap.size ds.toArray) w.heap.size 44 ds∧Below w.heap.size w ((w.alloc (.cells (stZ 0).toArray 44)).setRow w.heap.size ds.toArray):=
 ⟨Row.setRow (show Row (w.alloc (.cells (stZ 0).toArray 44)) w.heap.size 44 (stZ 0) from heap_new w _) ds,below_setRow (below_new w _) (Nat.le_refl _) _⟩
theorem lay_two (w : World) {ds es : List Value} : Row ((w.alloc (.cells (stZ 0).toArray 44)).alloc (.cells erZ 53)) w.heap.size 44 (stZ 0)∧Row (((w.alloc (.cells (stZ 0).toArray 44)).alloc (.cells erZ 53)).setRow w.heap.size ds.toArray) (w.heap.size + 1) 53 erL
 ∧Row ((((w.alloc (.cells (stZ 0).toArray 44)).alloc (.cells erZ 53)).setRow w.heap.size ds.toArray).setRow (w.heap.size + 1) es.toArray) w.heap.size 44 ds
 ∧Row ((((w.alloc (.cells (stZ 0).toArray 44)).alloc (.cells erZ 53)).setRow w.heap.size ds.toArray).setRow (w.heap.size + 1) es.toArray) (w.heap.size + 1) 53 es
 ∧Below w.heap.size w ((((w.alloc (.cells (stZ 0).toArray 44)).alloc (.cells erZ 53)).setRow w.heap.size ds.toArray).setRow (w.heap.size + 1) es.toArray):=by
 have h1 : Row ((w.alloc (.cells (stZ 0).toArray 44)).alloc (.cells erZ 53)) w.heap.size 44 (stZ 0):=Row.keep (heap_new w _) (below_new _ _)
 have h2 : Row ((w.alloc (.cells (stZ 0).toArray 44)).alloc (.cells erZ 53)) (w.heap.size + 1) 53 erL:=by have:=heap_new (w.alloc (.cells (stZ 0).toArray 44)) (.cells erZ 53);rwa [World.size_alloc] at this
 have hb:=(below_new w (.cells (stZ 0).toArray 44)).trans ((below_new (w.alloc (.cells (stZ 0).toArray 44)) (.cells erZ 53)).mono (by simp))
 have h3:=h2.setRow_other (b2:=w.heap.size) (by omega) ds.toArray
 exact ⟨h1,h3,(h1.setRow ds).setRow_other (by omega) es.toArray,h3.setRow es,below_setRow (below_setRow hb (Nat.le_refl _) _) (Nat.le_succ _) _⟩
end Go.Proofs.YtmicohmbmgbnkaaGreatDoor
