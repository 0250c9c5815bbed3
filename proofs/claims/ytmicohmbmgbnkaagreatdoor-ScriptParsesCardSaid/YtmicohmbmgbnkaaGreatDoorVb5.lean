/- Texts joined: what each shows stands ahead of its theorems. -/
import Derived.Orders
import Derived.RegionTactic
import Derived.Test.YtmicohmbmgbnkaaGreatDoorVb0
import Derived.Maps.AppendAt
namespace Go.Proofs.YtmicohmbmgbnkaaGreatDoor
section
open Go
theorem getD_put_same {l : Array Bool} {i : Nat} (h : i < l.size) : (l.setIfInBounds i true).getD i true=true:=by
 simp [Array.getD,h]
theorem getD_put_other {l : Array Bool} {i j : Nat} (h : i≠j) : (l.setIfInBounds i true).getD j true=l.getD j true:=by
 simp [Array.getD_eq_getD_getElem?,Array.getElem?_setIfInBounds,h]
def todo (l : Array Bool) : Nat:=((List.range l.size).filter (fun j=> !(l.getD j true))).length
theorem todo_put {l : Array Bool} {i : Nat} (h : l.getD i true=false) : todo (l.setIfInBounds i true) + 1≤todo l:=by
 have hi : i < l.size:=by
  rcases Nat.lt_or_ge i l.size with h1 | h1
  · exact h1
  · simp [Array.getD_eq_getD_getElem?,Array.getElem?_eq_none h1] at h
 unfold todo
 rw [Array.size_setIfInBounds]
 have hs : (List.range l.size).filter (fun j=> !((l.setIfInBounds i true).getD j true))=((List.range l.size).filter (fun j=> !(l.getD j true))).filter (fun j=>j != i):=by
  rw [List.filter_filter]
  refine List.filter_congr fun j _=> ?_
  by_cases e : i=j
  · subst e
    rw [getD_put_same hi];simp
  · rw [getD_put_other e]
    have : (j != i)=true:=by simp [Ne.symm e]
    rw [this];simp
 rw [hs]
 have hm : i∈(List.range l.size).filter (fun j=> !(l.getD j true)):=List.mem_filter.2 ⟨List.mem_range.2 hi,by simp [h]⟩
 generalize (List.range l.size).filter (fun j=> !(l.getD j true))=L at hm
 induction L with
 | nil=>cases hm
 | cons x r ih=>
   rcases List.mem_cons.1 hm with rfl | hm
   · rw [List.filter_cons_of_neg (by simp)]
     exact Nat.succ_le_succ (List.length_filter_le _ _)
   · by_cases e : x=i
     · subst e
       rw [List.filter_cons_of_neg (by simp)]
       exact Nat.succ_le_succ (List.length_filter_le _ _)
     · rw [List.filter_cons_of_pos (by simp [e])]
       exact Nat.succ_le_succ (ih hm)
theorem todo_zero {l : Array Bool} (h : todo l=0) (j : Nat) : l.getD j true=true:=by
 rcases Nat.lt_or_ge j l.size with h1 | h1
 · cases hq : l.getD j true with
   | true=>rfl
   | false=>
     have : j∈(List.range l.size).filter (fun j=> !(l.getD j true)):=List.mem_filter.2 ⟨List.mem_range.2 h1,by simp [hq]⟩
     unfold todo at h
     rw [List.eq_nil_of_length_eq_zero h] at this
     cases this
 · simp [Array.getD_eq_getD_getElem?,Array.getElem?_eq_none h1]
theorem getD_both {l : Array Bool} {j : Nat} (h : j < l.size) : l.getD j false=l.getD j true:=by
 simp [Array.getD_eq_getD_getElem?,Array.getElem?_eq_getElem h]
section
variable {P : Program} {md : Region.Mode} {ops : Array Oper} {Q : Exit→Act→World→Prop} (I : (Nat→Bool)→Act→World→Prop)
 (hlt : ∀(i : Nat) (o : Oper),ops[i]? =some o→∀e∈o.after,Region.binds md e=true→e.on < i)
 (hstep : ∀(L : Nat→Bool) (a : Act) (w : World) (i : Nat) (o : Oper),I L a w→ops[i]? =some o→L i=false→(∀e∈o.after,Region.binds md e=true→L e.on=true)→
   ∀K : Act→World→Prop,(∀a' w',I (fun j=>j == i || L j) a' w'→K a' w')→if Region.wanted o (yielded ops a.tmps)=true then Oper.wp P o a w K Q else K (a.put o.dst undef) w)
 (hdone : ∀L a w,I L a w→(∀i,i < ops.size→L i=true)→Q .normal a w)
include hlt hstep hdone
theorem wpAny_inv : ∀(fuel : Nat) (listed : Array Bool) (a : Act) (w : World),listed.size=ops.size→todo listed≤fuel→I (fun j=>listed.getD j true) a w→wpAny P md ops Q fuel listed a w:=by
 intro fuel
 induction fuel with
 | zero=>
   intro listed a w hs ht hI
   have h0:=todo_zero (Nat.le_zero.1 ht)
   refine ⟨List.eq_nil_iff_forall_not_mem.2 fun j hj=> ?_,hdone _ _ _ hI (fun i _=>h0 i)⟩
   have:=(mem_ready.1 hj).1
   rw [h0 j] at this
   cases this
 | succ fuel ih=>
   intro listed a w hs ht hI
   refine ⟨fun hr=> ?_,fun i hi=> ?_⟩
   · refine hdone _ _ _ hI fun i hi=> ?_
     induction i using Nat.strongRecOn with
     | _ i ih2=>
       cases hq : listed.getD i true with
       | true=>rfl
       | false=>
         have ho : ops[i]? =some ops[i]:=Array.getElem?_eq_getElem hi
         have : i∈Region.ready md ops listed:=mem_ready.2 ⟨hq,_,ho,fun e he hb=>by
          have h1:=hlt i _ ho e he hb
          rw [getD_both (by rw [hs];omega)]
          exact ih2 e.on h1 (by omega)⟩
         rw [hr] at this
         cases this
   · obtain ⟨h0,o,ho,hall⟩:=mem_ready.1 hi
     have hio : i < ops.size:=(Array.getElem?_eq_some_iff.1 ho).1
     refine wpOp_step ho (fun K' hK=>hstep _ a w i o hI ho h0 (fun e he hb=> ?_) K' (fun a' w' hI'=>hK a' w' (ih _ a' w' (by rw [Array.size_setIfInBounds];exact hs) (by have:=todo_put h0;omega) ?_)))
     · have h1:=hall e he hb
       rw [getD_both (by rw [hs];have:=hlt i o ho e he hb;omega)] at h1
       exact h1
     · have hf : (fun j=>(listed.setIfInBounds i true).getD j true)=(fun j=>j == i || listed.getD j true):=by
        funext j
        by_cases e : i=j
        · subst e
          rw [getD_put_same (by rw [hs];exact hio)];simp
        · rw [getD_put_other e]
          have : (j == i)=false:=by simp [Ne.symm e]
          rw [this];rfl
       rw [hf]
       exact hI'
theorem region_inv {id : Nat} {a : Act} {w : World} (hmd : md= .any) (hm : P.follows .mixedOrders=true) (hI : I (fun j=>(Array.replicate ops.size false).getD j true) a w.drew) : (Code.region id ops true).wp P Q a w:=by
 subst hmd
 refine wp_region_any hm (wpAny_inv I hlt hstep hdone _ _ _ _ (by simp) ?_ hI)
 unfold todo
 rw [Array.size_replicate]
 exact Nat.le_trans (List.length_filter_le _ _) (by simp)
end
def hasDep (md : Region.Mode) (o : Oper) (n : Nat) : Bool:=o.after.toList.any (fun e=>Region.binds md e && e.on == n)
theorem dep_of {md : Region.Mode} {o : Oper} {L : Nat→Bool} (h : ∀e∈o.after,Region.binds md e=true→L e.on=true) {n : Nat} (hn : hasDep md o n=true) : L n=true:=by
 unfold hasDep at hn
 rw [List.any_eq_true] at hn
 obtain ⟨e,he,h1⟩:=hn
 rw [Bool.and_eq_true] at h1
 have h2 : e.on=n:=by simpa using h1.2
 rw [← h2]
 exact h e (Array.mem_toList_iff.1 he) h1.1
end
section
open Go
theorem inv_none {n i : Nat} (h : i < n) : (Array.replicate n false).getD i true=false:=by simp [Array.getD_eq_getD_getElem?,h]
theorem inv_not {n i : Nat} (h : i < n) : ¬((Array.replicate n false).getD i true=true):=by rw [inv_none h];decide
end
section
open Go
def upd (us : List (Nat × Value)) (A : Array Value) : Array Value:=us.foldl (fun A p=>A.setIfInBounds p.1 p.2) A
theorem gd_eq {A : Array Value} {s : Nat} {v : Value} (h : s < A.size) : (A.setIfInBounds s v).getD s undef=v:=by simp [Array.getD_eq_getD_getElem?,h]
theorem gd_ne {A : Array Value} {s r : Nat} {v : Value} (h : s≠r) : (A.setIfInBounds s v).getD r undef=A.getD r undef:=by simp [Array.getD_eq_getD_getElem?,Array.getElem?_setIfInBounds,h]
theorem gd_out {A : Array Value} {s : Nat} (h : A.size≤s) : A.getD s undef=undef:=by simp [Array.getD_eq_getD_getElem?,Array.getElem?_eq_none h]
theorem arr_ext {T U : Array Value} (hs : T.size=U.size) (h : ∀s,T.getD s undef=U.getD s undef) : T=U:=by
 refine Array.ext hs fun i h1 h2=> ?_
 have:=h i
 simpa [Array.getD_eq_getD_getElem?,Array.getElem?_eq_getElem h1,Array.getElem?_eq_getElem h2] using this
theorem upd_eq {T : Array Value} : ∀{us : List (Nat × Value)} {A : Array Value},T.size=A.size→(∀p∈us,T.getD p.1 undef=p.2)→(∀s,s ∉ us.map Prod.fst→T.getD s undef=A.getD s undef)→T=upd us A
 | [],A,hs,_,h=>arr_ext hs fun s=>h s (by simp)
 | (s,v) :: r,A,hs,hv,h=>by
   have h0 : T.getD s undef=v:=hv (s,v) (by simp)
   refine upd_eq (us:=r) (A:=A.setIfInBounds s v) (by simpa using hs) (fun p hp=>hv p (by simp [hp])) fun s' hs'=> ?_
   by_cases e : s=s'
   · subst e
     rcases Nat.lt_or_ge s A.size with h1 | h1
     · rw [gd_eq h1,h0]
     · rw [gd_out (by omega),gd_out (by simpa using h1)]
   · rw [gd_ne e]
     exact h s' (by simp only [List.map_cons,List.mem_cons,not_or];exact ⟨Ne.symm e,hs'⟩)
def uniq (ds : List (Option Nat)) (k s : Nat) : Bool:=(List.range ds.length).all fun j=>j == k || ds[j]? != some (some s)
theorem uniq_of {ds : List (Option Nat)} {k s j : Nat} (h : uniq ds k s=true) (hj : ds[j]? =some (some s)) : j=k:=by
 unfold uniq at h
 have hl : j < ds.length:=by
  rcases Nat.lt_or_ge j ds.length with h1 | h1
  · exact h1
  · rw [List.getElem?_eq_none h1] at hj;cases hj
 have:=List.all_eq_true.1 h j (List.mem_range.2 hl)
 rw [hj] at this
 simpa using this
section
variable (T0 : Array Value) (ds : List (Option Nat)) (vs : List (Option Value)) (Wi : (Nat→Bool)→Array Value→World→Prop)
structure FW (L : Nat→Bool) (T : Array Value) : Prop where
 size : T.size=T0.size
 old : ∀s,some s ∉ ds→T.getD s undef=T0.getD s undef
 val : ∀k s u,L k=true→ds[k]? =some (some s)→vs[k]? =some (some u)→T.getD s undef=u
def IW (L : Nat→Bool) (ac : Act) (W : World) : Prop:= ∃T,ac=⟨T,[]⟩∧FW T0 ds vs L T∧Wi L T W
end
section
variable {T0 : Array Value} {ds : List (Option Nat)} {vs : List (Option Value)} {Wi : (Nat→Bool)→Array Value→World→Prop} {L : Nat→Bool} {T : Array Value} {W' : World}
theorem FW.put (h : FW T0 ds vs L T) {k s : Nat} {v : Value} (hk : ds[k]? =some (some s)) (hu : uniq ds k s=true) {N : Nat} (hN : T0.size=N) (hs : s < N) (hv : ∀u,vs[k]? =some (some u)→v=u) (hW : Wi (fun q=>q == k || L q) (T.setIfInBounds s v) W') :
 IW T0 ds vs Wi (fun q=>q == k || L q) ⟨T.setIfInBounds s v,[]⟩ W':=by
 refine ⟨_,rfl,⟨by simpa using h.size,fun r hr=> ?_,fun j r u hl hj hv'=> ?_⟩,hW⟩
 · have : s≠r:=fun e=>hr (by rw [← e];exact List.mem_of_getElem? hk)
   rw [gd_ne this]
   exact h.old r hr
 · by_cases e : j=k
   · subst e
     rw [hk] at hj
     obtain rfl:=Option.some.inj (Option.some.inj hj)
     rw [gd_eq (by rw [h.size,hN];exact hs)]
     exact hv u hv'
   · have hne : s≠r:=fun e'=>e (uniq_of hu (by rw [e'];exact hj))
     rw [gd_ne hne]
     exact h.val j r u (by simpa [e] using hl) hj hv'
theorem FW.putv (h : FW T0 ds vs L T) {k s : Nat} {v : Value} (hk : ds[k]? =some (some s)) (hu : uniq ds k s=true) {N : Nat} (hN : T0.size=N) (hs : s < N) (hv : vs[k]? =some (some v)) (hW : Wi (fun q=>q == k || L q) (T.setIfInBounds s v) W') :
 IW T0 ds vs Wi (fun q=>q == k || L q) ⟨T.setIfInBounds s v,[]⟩ W':=
 h.put hk hu hN hs (fun u hu=>Option.some.inj (Option.some.inj (hv.symm.trans hu))) hW
theorem FW.pass (h : FW T0 ds vs L T) {k : Nat} (hk : ds[k]? =some none) (hW : Wi (fun q=>q == k || L q) T W') : IW T0 ds vs Wi (fun q=>q == k || L q) ⟨T,[]⟩ W':=by
 refine ⟨_,rfl,⟨h.size,h.old,fun j r u hl hj hv'=>h.val j r u ?_ hj hv'⟩,hW⟩
 by_cases e : j=k
 · subst e;rw [hk] at hj;cases hj
 · simpa [e] using hl
theorem FW.fin (h : FW T0 ds vs L T) (us : List (Nat × Value)) (keys : List Nat) (hkeys : us.map Prod.fst=keys) (hv : ∀p∈us,T.getD p.1 undef=p.2) (hc : (ds.all fun x=>match x with | none=>true | some s=>keys.contains s)=true) : T=upd us T0:=by
 refine upd_eq h.size hv fun s hs=>h.old s fun hd=>hs ?_
 have:=List.all_eq_true.1 hc (some s) hd
 rw [hkeys]
 simpa using this
end
section
variable {P : Program} {ops : Array Oper} {Q : Exit→Act→World→Prop} {T0 : Array Value} {w : World}
def tbOk (ops : List Oper) (tb : List (List Nat)) : Bool:=(List.range tb.length).all fun k=>(tb.getD k []).all fun n=>match ops[k]? with | some o=>hasDep .any o n | none=>false
theorem tb_of {ops : List Oper} {tb : List (List Nat)} (h : tbOk ops tb=true) {k n : Nat} (hn : n∈tb.getD k []) : ∃o,ops[k]? =some o∧hasDep .any o n=true:=by
 have hk : k < tb.length:=by
  rcases Nat.lt_or_ge k tb.length with h1 | h1
  · exact h1
  · simp [List.getD_eq_getElem?_getD,List.getElem?_eq_none h1] at hn
 have:=List.all_eq_true.1 (List.all_eq_true.1 h k (List.mem_range.2 hk)) n hn
 cases ho : ops[k]? with
 | none=>rw [ho] at this;cases this
 | some o=>rw [ho] at this;exact ⟨o,rfl,this⟩
theorem region_iw {id : Nat} (tb : List (List Nat)) (ds : List (Option Nat)) (vs : List (Option Value)) (Wi : (Nat→Bool)→Array Value→World→Prop) (hlen : vs.length=ops.size) (htb : tbOk ops.toList tb=true) (hm : P.follows .mixedOrders=true)
 (hlt : ∀(i : Nat) (o : Oper),ops[i]? =some o→∀e∈o.after,Region.binds .any e=true→e.on < i)
 (hstep : ∀T1,T1=T0→∀(L : Nat→Bool) (T : Array Value) (W : World) (i : Nat) (o : Oper),FW T1 ds vs L T→Wi L T W→(∀k n,L k=true→n∈tb.getD k []→L n=true)→ops.toList[i]? =some o→L i=false→(∀e∈o.after,Region.binds .any e=true→L e.on=true)→
   ∀K : Act→World→Prop,(∀a' w',IW T1 ds vs Wi (fun j=>j == i || L j) a' w'→K a' w')→if Region.wanted o (yielded ops T)=true then Oper.wp P o ⟨T,[]⟩ W K Q else K ((⟨T,[]⟩ : Act).put o.dst undef) W)
 (hdone : ∀L T W,FW T0 ds vs L T→Wi L T W→(∀i,i < ops.size→L i=true)→Q .normal ⟨T,[]⟩ W)
 (hstart : Wi (fun j=>(Array.replicate ops.size false).getD j true) T0 w.drew) : (Code.region id ops true).wp P Q ⟨T0,[]⟩ w:=by
 refine region_inv (md:= .any) (fun L a W=>IW T0 ds vs Wi L a W∧∀k n,k < ops.size→L k=true→n∈tb.getD k []→L n=true) hlt ?_ ?_ rfl hm ⟨⟨T0,rfl,⟨rfl,fun _ _=>rfl,fun k s u hl _ hv=> ?_⟩,hstart⟩,fun k n hk hl _=> ?_⟩
 · rintro L a W i o ⟨⟨T,rfl,hF,hW⟩,hc⟩ ho hLi hd K hK
   have hio : i < ops.size:=(Array.getElem?_eq_some_iff.1 ho).1
   have hcl : ∀k n,L k=true→n∈tb.getD k []→L n=true:=fun k n hl hn=>by
    obtain ⟨o',ho',_⟩:=tb_of htb hn
    have:=(List.getElem?_eq_some_iff.1 ho').1
    exact hc k n (by simpa using this) hl hn
   refine hstep T0 rfl L T W i o hF hW hcl (by rw [Array.getElem?_toList];exact ho) hLi hd K fun a' w' h=>hK a' w' ⟨h,fun k n _ hl hn=> ?_⟩
   by_cases e : k=i
   · subst e
     obtain ⟨o',ho',hd'⟩:=tb_of htb hn
     rw [Array.getElem?_toList,ho] at ho'
     obtain rfl:=Option.some.inj ho'
     have:=dep_of hd hd'
     simp [this]
   · have:=hcl k n (by simpa [e] using hl) hn
     simp [this]
 · rintro L a W ⟨⟨T,rfl,hF,hW⟩,_⟩ hall
   exact hdone L T W hF hW hall
 · have hk : k < ops.size:=by
    rw [← hlen]
    rcases Nat.lt_or_ge k vs.length with h1 | h1
    · exact h1
    · rw [List.getElem?_eq_none h1] at hv;cases hv
   rw [inv_none hk] at hl
   cases hl
 · have hl : (Array.replicate ops.size false).getD k true=true:=hl
   rw [inv_none hk] at hl
   cases hl
/-! ### One operation -/
variable {o : Oper} {a : Act} {w' : World} {K : Act→World→Prop} {T : Array Value}
theorem st_val {v : Value} (hw : Region.wanted o (yielded ops T)=true) (hrun : (execOp (⟨T,[]⟩ : Act).eval o).run P w= .ok (.value v) w') (h : K ((⟨T,[]⟩ : Act).put o.dst v) w') :
 if Region.wanted o (yielded ops T)=true then Oper.wp P o ⟨T,[]⟩ w K Q else K ((⟨T,[]⟩ : Act).put o.dst undef) w:=by
 rw [if_pos hw]
 unfold Oper.wp
 rw [hrun]
 exact h
theorem st_do (hw : Region.wanted o (yielded ops T)=true) (hrun : (execOp (⟨T,[]⟩ : Act).eval o).run P w= .ok .skip w') (h : K ((⟨T,[]⟩ : Act).put o.dst undef) w') :
 if Region.wanted o (yielded ops T)=true then Oper.wp P o ⟨T,[]⟩ w K Q else K ((⟨T,[]⟩ : Act).put o.dst undef) w:=by
 rw [if_pos hw]
 unfold Oper.wp
 rw [hrun]
 exact h
theorem st_call {f : FuncId} {args : Array Value} {R : Ending→World→Prop} (hw : Region.wanted o (yielded ops T)=true) (hrun : (execOp (⟨T,[]⟩ : Act).eval o).run P w= .ok (.enter f args) w') (hc : Calls P f args w' R)
 (h : ∀r w2,R r w2→∃v,r= .returned v∧K ((⟨T,[]⟩ : Act).put o.dst v) w2) :
 if Region.wanted o (yielded ops T)=true then Oper.wp P o ⟨T,[]⟩ w K Q else K ((⟨T,[]⟩ : Act).put o.dst undef) w:=by
 rw [if_pos hw]
 unfold Oper.wp
 rw [hrun]
 refine hc.mono fun r w2 hr=> ?_
 obtain ⟨v,rfl,hk⟩:=h r w2 hr
 exact hk
theorem want_none (h : o.guard=none) : Region.wanted o (yielded ops T)=true:=by unfold Region.wanted;rw [h]
end
end
section
open Go Go.RowKit
section
variable {P : Program} {ops : Array Oper} {Q : Exit→Act→World→Prop} {w : World} {o : Oper} {K : Act→World→Prop} {T : Array Value}
theorem st_append (hw : Region.wanted o (yielded ops T)=true) (s x : Operand) (t : TypeId)
 (ho : o.op= .call { callee:= .builtin .append,args:=#[s,x],argTypes:=#[t,t] })
 (e : TypeId) (i : TypeInfo) (z : Value) (size bytes : Nat) (ht : P.underlying t=some (.slice e)) (hi : P.info? e=some i) (hz : i.zero=some z)
 (hsize : i.size=size) (hby : i.bytes=bytes) (hzs : z.cells.size=size) (hsz : 0 < size)
 (base : Nat) (hB : base≤w.heap.size) (v : Value) (zs : List (List Value)) (hs : (⟨T,[]⟩ : Act).eval s=v) (hown : OwnR w base size e v zs)
 (g c : Nat) (row : List Value) (hx : (⟨T,[]⟩ : Act).eval x= .slice (some ⟨g,0,none⟩) 1 c) (hrow : w.rangeAt g 0 row) (hl : row.length=size) (h1 : ∀u∈row,u.oneCell' =true)
 (h63 : zs.length + 1≤maxLen) (hbytes : (zs.length + 1) * bytes≤140737488355328)
 (h : ∀v' w',OwnR w' base size e v' (zs ++ [row])→w.grownBy w' v.ownBlock→(v'.ownBlock=v.ownBlock∨v'.ownBlock=some w.heap.size)→K ((⟨T,[]⟩ : Act).put o.dst v') w') :
 if Region.wanted o (yielded ops T)=true then Oper.wp P o ⟨T,[]⟩ w K Q else K ((⟨T,[]⟩ : Act).put o.dst undef) w:=by
 rw [if_pos hw]
 obtain ⟨v',w',hr,h2,h3,_,h5⟩:=run_append_own_at (P:=P) (w:=w) base t o.type e i z size bytes ht hi hz hsize hby hzs hsz v zs.length zs.flatten hown.1 ⟨g,0,none⟩ 1 c row (by rw [hl,Nat.one_mul])
  (fun j u hu=>by rw [Addr.add_mid];exact hrow j u hu) h1 h63 hbytes hB
 unfold Oper.wp execOp
 simp only [ho,resolve,invoke,builtin,Sem.run_bind,Sem.run_pure,Result.andThen_ok,List.map_toArray,List.map_cons,List.map_nil,hs,hx,hr]
 refine h v' w' ⟨by simpa [List.length_append,List.flatten_append] using h2,fun z hz=> ?_⟩ h3 h5
 rcases List.mem_append.1 hz with hz | hz
 · exact hown.2 z hz
 · simp only [List.mem_singleton] at hz
   subst hz
   exact hl
theorem run_alloc_ (ty : TypeId) (ho : o.op= .alloc ty) (cs : Array Value) (hz : (P.info? ty).bind (·.zero)=some (.agg cs)) : (execOp (⟨T,[]⟩ : Act).eval o).run P w= .ok (.value (.pointer (some ⟨w.heap.size,0,none⟩))) (w.alloc (.cells cs ty)):=by
 unfold execOp
 cases hq : P.info? ty with
 | none=>simp [hq] at hz
 | some i=>
   have hzz : i.zero=some (.agg cs):=by simpa [hq] using hz
   simp [ho,Instr.alloc,zeroValue,typeInfo,hq,hzz,newVar,newRow,Value.cells]
theorem run_store_ (ty : TypeId) (x y : Operand) (ho : o.op= .store ty x y) (g : Nat) (cells : Array Value) (hx : (⟨T,[]⟩ : Act).eval x= .pointer (some ⟨g,0,none⟩)) (hy : (⟨T,[]⟩ : Act).eval y= .agg cells)
 (t : TypeId) (old : Array Value) (hg : w.heap[g]? =some (.cells old t (0,0))) (hi : (P.info? ty).map (·.size)=some cells.size) (hold : old.size=cells.size) (h1 : cells.all (·.oneCell')=true) :
 (execOp (⟨T,[]⟩ : Act).eval o).run P w= .ok .skip (w.setRow g cells):=by
 unfold execOp
 simp only [ho,hx,hy,Instr.storeAt,Instr.sureAddr,Sem.run_bind,Sem.run_pure,Result.andThen_ok,run_storeVar_row w g t ty old cells hg hi hold h1]
end
end
end Go.Proofs.YtmicohmbmgbnkaaGreatDoor
