/- Texts joined: what each shows stands ahead of its theorems. -/
import Derived.WalkKit
import Derived.WalkSpells
import Derived.WalkLawsBesides
import Derived.Lib.Hide
import Derived.Deep.MidRow
import Derived.Deep.LoopGhost
import Derived.Deep.DeepMust
import Derived.Deep.Draws
import Derived.KernelRfl
import Derived.Test.YtmicohmbmgbnkaaGreatDoorProg
import Derived.Test.YtmicohmbmgbnkaaGreatDoorRows
import Derived.ProofKit
import Derived.OpenShut
import Derived.Deep.Slices
import Derived.ChangeSame
import Derived.SizedLaws
import Derived.OwnWalk
import Derived.Shelf.Strings.Builder1
import Derived.Shelf.Strings.BuilderK
import Derived.Lib.AtoiAllCases
import Derived.Lib.ItoaNum
import Derived.Lib.ItoaLen
import Derived.Lib.ItoaMem
import Derived.Lib.Split
import Derived.Lib.SplitLaws
import Derived.Lib.Join
import Derived.Lib.IndexMore
namespace Go.Proofs.YtmicohmbmgbnkaaGreatDoor
section
open Go.RowKit
def Rws (w : World) (k : Nat) (A : Option Addr) (n : Nat) (zs : List (List Value)) : Prop:=
 zs.length=n∧(∀z∈zs,z.length=k)∧(0 < n→∃b off,A=some ⟨b,off,none⟩∧b < w.heap.size∧∀j z,zs[j]? =some z→w.rangeAt b (off + j * k) z)
theorem rangeAt_keep {w w' : World} {b o : Nat} {cs : List Value} (h : w.rangeAt b o cs) (hb : Below w.heap.size w w') (hlt : b < w.heap.size) : w'.rangeAt b o cs:=fun j v hv=>by
 rw [hb.cell (p:=⟨b,o + j,none⟩) hlt];exact h j v hv
theorem Rws.keep {w w' : World} {k : Nat} {A : Option Addr} {n : Nat} {zs : List (List Value)} (h : Rws w k A n zs) (hb : Below w.heap.size w w') : Rws w' k A n zs:=
 ⟨h.1,h.2.1,fun hn=>by
  obtain ⟨b,off,e,hlt,hc⟩:=h.2.2 hn
  exact ⟨b,off,e,Nat.lt_of_lt_of_le hlt hb.size,fun j z hz=>rangeAt_keep (hc j z hz) hb hlt⟩⟩
theorem Rws.nil_ {w : World} {k : Nat} {A : Option Addr} : Rws w k A 0 []:=⟨rfl,by simp,fun h=>absurd h (by omega)⟩
theorem Rws.row {w : World} {k : Nat} {A : Option Addr} {n : Nat} {zs : List (List Value)} (h : Rws w k A n zs) {j : Nat} (hj : j < n) :
 ∃b off z,A=some ⟨b,off,none⟩∧b < w.heap.size∧zs[j]? =some z∧z.length=k∧w.rangeAt b (off + j * k) z:=by
 obtain ⟨b,off,e,hlt,hc⟩:=h.2.2 (by omega)
 have hl : j < zs.length:=by rw [h.1];exact hj
 exact ⟨b,off,zs[j],e,hlt,List.getElem?_eq_getElem hl,h.2.1 _ (List.getElem_mem hl),hc j _ (List.getElem?_eq_getElem hl)⟩
theorem ret_bool {a b : Bool} (h : a=b) : Ending.returned (.bool a)= .returned (.bool b):=by rw [h]
/-! ### Laws at a region's operation: whole structs, by value; guarded or not ('hw': the guard lets the operation run; by rfl). -/
section
variable {P : Program} {ops : Array Oper} {Q : Exit→Act→World→Prop} {a : Act} {w w' : World} {rest : List Oper} {o : Oper}
theorem wpList_val {v : Value} (hw : Region.wanted o (yielded ops a.tmps)=true) (hrun : (execOp a.eval o).run P w= .ok (.value v) w') (h : wpList P ops Q rest (a.put o.dst v) w') : wpList P ops Q (o :: rest) a w:=by
 refine wpList_step fun K hK=> ?_
 rw [if_pos hw]
 unfold Oper.wp
 rw [hrun]
 exact hK _ _ h
theorem wpList_do (hw : Region.wanted o (yielded ops a.tmps)=true) (hrun : (execOp a.eval o).run P w= .ok .skip w') (h : wpList P ops Q rest (a.put o.dst undef) w') : wpList P ops Q (o :: rest) a w:=by
 refine wpList_step fun K hK=> ?_
 rw [if_pos hw]
 unfold Oper.wp
 rw [hrun]
 exact hK _ _ h
theorem wpList_load_at (ty : TypeId) (x : Operand) (ho : o.op= .load ty x) (hw : Region.wanted o (yielded ops a.tmps)=true)
 (b off : Nat) (hx : a.eval x= .pointer (some ⟨b,off,none⟩)) (cs : List Value) (d : TypeDesc) (hc : w.rangeAt b off cs)
 (hu : P.underlying ty=some d) (hd : d.isRow=true) (hi : (P.info? ty).map (·.size)=some cs.length)
 (h : wpList P ops Q rest (a.put o.dst (.agg cs.toArray)) w) : wpList P ops Q (o :: rest) a w:=
 wpList_val hw (by
  unfold execOp
  simp only [ho,hx,Instr.loadAt,Instr.sureAddr,Sem.run_bind,Sem.run_pure,Result.andThen_ok,run_loadVar_mid w b off ty cs d hc hu hd hi]) h
theorem wpList_alloc_row (ty : TypeId) (ho : o.op= .alloc ty) (hw : Region.wanted o (yielded ops a.tmps)=true) (cs : Array Value) (hz : (P.info? ty).bind (·.zero)=some (.agg cs))
 (h : wpList P ops Q rest (a.put o.dst (.pointer (some ⟨w.heap.size,0,none⟩))) (w.alloc (.cells cs ty))) : wpList P ops Q (o :: rest) a w:=
 wpList_val hw (by
  unfold execOp
  cases hq : P.info? ty with
  | none=>simp [hq] at hz
  | some i=>
    have hzz : i.zero=some (.agg cs):=by simpa [hq] using hz
    simp [ho,Instr.alloc,zeroValue,typeInfo,hq,hzz,newVar,newRow,Value.cells]) h
theorem wpList_box_row (ty : TypeId) (x : Operand) (ho : o.op= .box ty x) (hw : Region.wanted o (yielded ops a.tmps)=true) (cs : Array Value) (hx : a.eval x= .agg cs)
 (h : wpList P ops Q rest (a.put o.dst (.pointer (some ⟨w.heap.size,0,none⟩))) (w.alloc (.cells cs ty))) : wpList P ops Q (o :: rest) a w:=
 wpList_val hw (by
  unfold execOp
  simp [ho,hx,Instr.box,newVar,newRow,Value.cells]) h
theorem wpList_store_at (ty : TypeId) (x y : Operand) (ho : o.op= .store ty x y) (hw : Region.wanted o (yielded ops a.tmps)=true)
 (g : Nat) (cells : Array Value) (hx : a.eval x= .pointer (some ⟨g,0,none⟩)) (hy : a.eval y= .agg cells)
 (t : TypeId) (old : Array Value) (hg : w.heap[g]? =some (.cells old t (0,0))) (hi : (P.info? ty).map (·.size)=some cells.size)
 (hold : old.size=cells.size) (h1 : cells.all (·.oneCell')=true)
 (h : wpList P ops Q rest (a.put o.dst undef) (w.setRow g cells)) : wpList P ops Q (o :: rest) a w:=
 wpList_do hw (by
  unfold execOp
  simp only [ho,hx,hy,Instr.storeAt,Instr.sureAddr,Sem.run_bind,Sem.run_pure,Result.andThen_ok,run_storeVar_row w g t ty old cells hg hi hold h1]) h
theorem wpList_build_as (t : TypeId) (parts : Array (Nat × Operand)) (ho : o.op= .build t parts) (hw : Region.wanted o (yielded ops a.tmps)=true) (cells : Array Value)
 (hf : P.built t (parts.toList.map fun x=>(x.1,a.eval x.2))=some cells)
 (h : wpList P ops Q rest (a.put o.dst (.agg cells)) w) : wpList P ops Q (o :: rest) a w:=
 wpList_val hw (by
  unfold execOp
  have hr:=run_build (P:=P) w t (parts.map fun (i,x)=>(i,a.eval x)) cells (by rw [← hf];simp)
  simp only [ho,Sem.run_bind,hr,Result.andThen_ok,Sem.run_pure]) h
theorem wpList_buildSlice_as (t e : TypeId) (len : Nat) (parts : Array (Nat × Operand)) (ho : o.op= .buildSlice t len parts) (hw : Region.wanted o (yielded ops a.tmps)=true) (i : TypeInfo) (z : Value) (cells : Array Value)
 (ht : P.underlying t=some (.slice e)) (hi : P.info? e=some i) (hz : i.zero=some z) (hpos : len * i.size≠0) (hsmall : len * i.size≤16777216)
 (hf : Instr.fill (fun j=>some (j * i.size,i.size)) ((Array.range (len * i.size)).map (z.cells[· % z.cells.size]!)) (parts.toList.map fun x=>(x.1,a.eval x.2))=some cells)
 (h : wpList P ops Q rest (a.put o.dst (.slice (some ⟨w.heap.size,0,none⟩) len len)) (w.alloc (.cells cells e))) : wpList P ops Q (o :: rest) a w:=
 wpList_val hw (by
  have hf' : Instr.fill (fun j=>some (j * i.size,i.size)) ((Array.range (len * i.size)).map (z.cells[· % z.cells.size]!)) (parts.map fun (j,x)=>(j,a.eval x)).toList=some cells:=by
   rw [← hf];simp
  have htI : ∀w,(typeInfo e).run P w= .ok i w:=fun w=>by simp [typeInfo,hi]
  have hsz : ∀w,(sizeOf e).run P w= .ok i.size w:=fun w=>by unfold sizeOf;rw [Sem.run_bind,htI];simp
  have hzv : ∀w,(zeroValue e).run P w= .ok z w:=fun w=>by unfold zeroValue;rw [Sem.run_bind,htI];simp [hz]
  have hb : (Instr.buildSlice t len (parts.map fun (j,x)=>(j,a.eval x))).run P w= .ok (.slice (some ⟨w.heap.size,0,none⟩) len len) (w.alloc (.cells cells e)):=by
   unfold Instr.buildSlice
   rw [Sem.run_bind,run_underlying ht w,Result.andThen_ok]
   simp only [Sem.run_bind,hsz,Result.andThen_ok,show (2 : Nat) ^ 24=16777216 from rfl,if_neg (show ¬len * i.size > 16777216 by omega),if_neg hpos,hzv,Sem.run_pure,hf',newRow,run_newObj_alloc]
  unfold execOp
  simp only [ho,Sem.run_bind,hb,Result.andThen_ok,Sem.run_pure]) h
end
theorem heap_new (w : World) (o : Obj) : (w.alloc o).heap[w.heap.size]? =some o:=heap_alloc_new w o
theorem heap_past {w : World} {k : Nat} {x : Obj} (h : w.heap[k]? =some x) (o : Obj) : (w.alloc o).heap[k]? =some x:=by
 have hk : k < w.heap.size:=by
  rcases Nat.lt_or_ge k w.heap.size with hlt | hge
  · exact hlt
  · rw [Array.getElem?_eq_none hge] at h;cases h
 exact (Below.heap_alloc w o k hk).trans h
theorem setRow_new (w : World) (old cs : Array Value) (t : TypeId) : (w.alloc (.cells old t)).setRow w.heap.size cs=w.alloc (.cells cs t):=by
 simp only [World.setRow,World.alloc]
 congr 1
 apply Array.ext
 · simp
 · intro i h1 h2
   simp only [Array.getElem_modify,Array.getElem_push]
   simp only [Array.size_modify,Array.size_push] at h1
   by_cases e : i < w.heap.size
   · simp [e,show w.heap.size≠i by omega]
   · have : i=w.heap.size:=by omega
     subst this
     simp
theorem rangeAt_block {w : World} {g : Nat} {cs : Array Value} {t : TypeId} {fr : Nat × Nat} (h : w.heap[g]? =some (.cells cs t fr)) : w.rangeAt g 0 cs.toList:=fun j v hv=>by
 rw [cell_of_row w g (0 + j) cs t fr h]
 simpa using hv
theorem rangeAt_list {w : World} {g : Nat} {cs : List Value} {t : TypeId} {fr : Nat × Nat} (h : w.heap[g]? =some (.cells cs.toArray t fr)) : w.rangeAt g 0 cs:=by
 have:=rangeAt_block h
 simpa using this
theorem Rws.block {w : World} {g : Nat} {zs : List (List Value)} {t : TypeId} {fr : Nat × Nat} {k : Nat} (hk : ∀z∈zs,z.length=k) (h : w.heap[g]? =some (.cells zs.flatten.toArray t fr)) (hlt : g < w.heap.size) : Rws w k (some ⟨g,0,none⟩) zs.length zs:=by
 refine ⟨rfl,hk,fun hpos=>⟨g,0,rfl,hlt,fun j z hz i v hv=> ?_⟩⟩
 clear hpos
 rw [cell_of_row w g _ _ t fr h]
 rw [List.getElem?_toArray]
 clear h hlt
 revert j
 induction zs with
 | nil=>intro j hz;simp at hz
 | cons y ys ih=>
   intro j hz
   have hy : y.length=k:=hk y (by simp)
   cases j with
   | zero=>
     simp only [List.getElem?_cons_zero,Option.some.injEq] at hz
     subst hz
     have hi : i < y.length:=(List.getElem?_eq_some_iff.1 hv).1
     rw [List.flatten_cons,List.getElem?_append_left (by omega)]
     simpa using hv
   | succ j=>
     rw [List.getElem?_cons_succ] at hz
     rw [List.flatten_cons,List.getElem?_append_right (by rw [hy,Nat.succ_mul];omega)]
     have:=ih (fun z hz=>hk z (by simp [hz])) j hz
     rw [show 0 + (j + 1) * k + i - y.length=0 + j * k + i by rw [hy,Nat.succ_mul];omega]
     exact this
theorem drewN_below {w : World} (q : Nat) : Below w.heap.size w (w.drewN q):=⟨rfl,rfl,rfl,Nat.le_refl _,fun _ _=>rfl⟩
end
section
open Go.RowKit
def isErr (w : World) (o : Option Int) : List ByteArray→Value→Prop
 | [],v=>(match o with | some n=>v= .iface 51 (.int .i64 n) | none=>v= .nilIface)
 | s :: p,v=> ∃b v',v= .iface 109 (.pointer (some ⟨b,0,none⟩))∧b < w.heap.size∧w.cell? ⟨b,0,none⟩=some (.string s)∧w.cell? ⟨b,1,none⟩=some v'∧isErr w o p v'
theorem isErr.keep {w w' : World} {o : Option Int} (hb : Below w.heap.size w w') : ∀{p : List ByteArray} {v : Value},isErr w o p v→isErr w' o p v
 | [],_,h=>h
 | _ :: _,_,⟨b,v',e,hlt,h1,h2,h3⟩=>⟨b,v',e,Nat.lt_of_lt_of_le hlt hb.size,(hb.cell (p:=⟨b,0,none⟩) hlt).trans h1,(hb.cell (p:=⟨b,1,none⟩) hlt).trans h2,isErr.keep hb h3⟩
def ETy (w : World) : Prop:=0 < w.heap.size∧w.cell? ⟨2,0,none⟩=some (.iface 199 (.agg #[.pointer (some ⟨11,48,none⟩)]))∧2 < w.heap.size
theorem ETy.keep {w w' : World} (h : ETy w) (hb : Below w.heap.size w w') : ETy w':=⟨Nat.lt_of_lt_of_le h.1 hb.size,(hb.cell (p:=⟨2,0,none⟩) h.2.2).trans h.2.1,Nat.lt_of_lt_of_le h.2.2 hb.size⟩
theorem isErr_some {w : World} {n : Int} : ∀{p : List ByteArray} {v : Value},isErr w (some n) p v→∃T u,v= .iface T u
 | [],_,h=>⟨_,_,h⟩
 | _ :: _,_,⟨_,_,e,_⟩=>⟨_,_,e⟩
def Mk (w : World) (o : Option Int) (p : List ByteArray) (r : Ending) (w' : World) : Prop:= ∃v,r= .returned v∧isErr w' o p v∧Below w.heap.size w w'
theorem isErr_new {w : World} {o : Option Int} {p : List ByteArray} {v : Value} (H : isErr w o p v) (s : ByteArray) (t : TypeId) :
 isErr (w.alloc (.cells #[.string s,v] t)) o (s :: p) (.iface 109 (.pointer (some ⟨w.heap.size,0,none⟩))):=
 ⟨w.heap.size,v,rfl,by simp,by simp,by simp,H.keep ((Below.refl _ _).alloc (Nat.le_refl _) _)⟩
theorem at_any (s : ByteArray) (o : Option Int) (p : List ByteArray) (T : TypeId) (u : Value) (w : World) (H : isErr w o p (.iface T u)) :
 Calls Tryz.prog 51 #[.string s,.iface T u] w (Mk w o (s :: p)):=by
 have H:=Lib.hid H
 go_enter Tryz.func51,Tryz.ntmps51
 go_wp2
 go_ret
 exact ⟨_,rfl,isErr_new H.out s _,(Below.refl _ _).alloc (Nat.le_refl _) _⟩
theorem of_any (s : ByteArray) (n : Int) (w : World) (hn : n≠0) :
 Calls Tryz.prog 40 #[.string s,.int .i64 n] w (Mk w (some n) [s]):=by
 have h0 : (n == 0)=false:=beq_eq_false_iff_ne.2 hn
 clear hn
 go_enter Tryz.func40,Tryz.ntmps40
 go_wp2
 go_ret
 exact ⟨_,rfl,isErr_new (show isErr w (some n) [] (.iface 51 (.int .i64 n)) from rfl) s _,(Below.refl _ _).alloc (Nat.le_refl _) _⟩
end
section
open Go.RowKit Go.ChangeShapes Go.WideShapes
theorem Tryz.own : ownKnob Tryz.prog.godebug=none:=by kernel_rfl
theorem Tryz.laidOut : laidOutB Tryz.prog=true:=by kernel_rfl
section
variable {H : Type} {enc : TypeId × Value→H} {P : Program}
theorem trodAll_below (hl : laidOutB P=true) {W W' : World} (hb : Below W.heap.size W W') : ∀(ts : List TypeId) (vs : List Value) (ds : List (DataW H)) (ps : List MemPlace),
 ts.all (fun t=>P.readableRec t && decide (t < P.types.size))=true→DataW.TrodAll enc P W 0 (fun _=>true) true ts vs ds ps→(∀x∈ps,x.block < W.heap.size)→
 DataW.TrodAll enc P W' 0 (fun b=>decide (b < W.heap.size)) true ts vs ds ps
 | [],vs,ds,ps,_,h,_=>by
   obtain ⟨rfl,rfl,rfl⟩:=trodAll_nil h
   exact trodAll_mk0
 | t :: ts,vs,ds,ps,ht,h,hlt=>by
   match vs,ds,h with
   | v :: vs,d :: ds,h=>
     obtain ⟨p,p',h1,h2,rfl⟩:=h
     simp only [List.all_cons,Bool.and_eq_true,decide_eq_true_eq] at ht
     exact ⟨p,p',Below.trod hl ht.1.1 ht.1.2 h1 hb (fun x hx=>hlt x (by simp [hx])),trodAll_below hl hb ts vs ds p' ht.2 h2 (fun x hx=>hlt x (by simp [hx])),rfl⟩
theorem law_post {f : Func} {s : ChangeSpec} {fresh handsOn : Bool} {W W' : World} {args : Array Value} {ds : List (DataW H)} {before : List MemPlace} {tb : TypeId} (hl : laidOutB P=true)
 (hts : f.params.toList.all (fun t=>P.readableRec t && decide (t < P.types.size))=true) (htb : P.underlying tb=some .bool) (hrt : f.resultTypes=#[tb]) (hv : s.vars=[])
 (hW : DataW.Whole enc P f.params.toList s.vars false W args.toList ds [] before)
 (hfr : (s.fn H (ds ++ [])).results=[.lit (.bool true)]) (hfa : (s.fn H (ds ++ [])).args=ds) (hfv : (s.fn H (ds ++ [])).vars=[])
 (hb : Below W.heap.size W W') : s.post enc P f false fresh handsOn false W args (.bool true) W':=by
 have hlt : ∀p∈before,p.block < W.heap.size:=fun p hp=>hW.lt p hp
 have hW':=hW
 obtain ⟨p,q,hA,hV,rfl,hz,hn⟩:=hW
 rw [hv] at hV
 obtain ⟨_,rfl⟩:=trodVars_none hV
 rw [List.append_nil] at hlt hW'
 refine ⟨ds,[],p,[],p,[],hW',?_,?_,?_,hb.frame _,fun h=>by cases h⟩
 · rw [hrt,hfr]
   exact trodAll_mk1 (shut_bool htb true)
 · rw [hfa]
   exact trodAll_below hl hb _ _ _ _ hts hA hlt
 · rw [hfv,hv]
   rfl
end
end
section
open Go.RowKit Go.ChangeShapes Go.WideShapes Go.Deep
def flatDesc (P : Program) : Nat→TypeId→Option (List TypeDesc)
 | 0,_=>none
 | n + 1,t=>match P.underlying t with
   | some (.int k)=>some [.int k]
   | some .bool=>some [.bool]
   | some .string=>some [.string]
   | some (.struct fs)=>fs.toList.foldlM (fun (acc : List TypeDesc) f=>if f.offset=acc.length then (flatDesc P n f.type).bind (fun l=>if P.cellsOf f.type=l.length then some (acc ++ l) else none) else none) [] >>= (fun ds=>if P.cellsOf t=ds.length then some ds else none)
   | some (.array m e)=>(flatDesc P n e).bind (fun l=>if P.cellsOf e=l.length∧P.cellsOf t=m * l.length then some (List.replicate m l).flatten else none)
   | _=>none
def cellOk (d : TypeDesc) (v : Value) : Prop:=match d with
 | .int k=> ∃n,v= .int k n∧k.min≤n∧n≤k.max
 | .bool=> ∃b,v= .bool b
 | .string=> ∃s,v= .string s∧s.size≤maxLen
 | _=>False
theorem replicate_flatten_get {α : Type} {l : List α} : ∀(m i : Nat),(List.replicate m l).flatten[i]? =if i < m * l.length then l[i % l.length]? else none:=by
 intro m
 induction m with
 | zero=>intro i;simp
 | succ m ih=>
   intro i
   rw [List.replicate_succ,List.flatten_cons]
   by_cases h : i < l.length
   · rw [List.getElem?_append_left h,if_pos (by rw [Nat.succ_mul];omega),Nat.mod_eq_of_lt h]
   · rw [List.getElem?_append_right (by omega),ih]
     by_cases h2 : i < (m + 1) * l.length
     · rw [Nat.succ_mul] at h2
       rw [if_pos (by omega),if_pos (by rw [Nat.succ_mul];omega),← Nat.mod_eq_sub_mod (by omega)]
     · rw [if_neg (by rw [Nat.succ_mul] at h2;omega),if_neg h2]
section
variable {H : Type} {enc : TypeId × Value→H} {P : Program} {w : World} {base : Nat} {spare : Nat→Bool} {held : Bool}
def allOk (ds : List TypeDesc) (cs : List Value) : Prop:=cs.length=ds.length∧∀(i : Nat) (d : TypeDesc) (v : Value),ds[i]? =some d→cs[i]? =some v→cellOk d v
end
end
section
open Go.RowKit Go.ChangeShapes Go.WideShapes Go.Deep
section
variable {H : Type} {enc : TypeId × Value→H} {P : Program} {w : World} {base : Nat} {spare : Nat→Bool} {held : Bool}
end
end
section
open Go.RowKit Go.ChangeShapes Go.WideShapes Go.Deep
section
variable {H : Type} {enc : TypeId × Value→H} {P : Program} {w : World} {base : Nat} {spare : Nat→Bool} {held : Bool}
end
end
section
open Go.RowKit
def OwnR (w : World) (base k : Nat) (E : TypeId) (v : Value) (zs : List (List Value)) : Prop:=w.ownsRow base E k v zs.length zs.flatten∧∀z∈zs,z.length=k
theorem OwnR.nil_ (w : World) (base k : Nat) (E : TypeId) : OwnR w base k E (.slice none 0 0) []:=⟨World.ownsRow_nil w base E k,by simp⟩
theorem OwnR.keep {w w' : World} {base k : Nat} {E : TypeId} {v : Value} {zs : List (List Value)} (h : OwnR w base k E v zs) (hb : Below w.heap.size w w') : OwnR w' base k E v zs:=by
 obtain ⟨⟨hl,hh⟩,hz⟩:=h
 refine ⟨⟨hl,?_⟩,hz⟩
 rcases hh with h0 | ⟨g,cap,cur,hv,hg,hc,r⟩
 · exact .inl h0
 · have hlt : g < w.heap.size:=(Array.getElem?_eq_some_iff.1 hc).1
   exact .inr ⟨g,cap,cur,hv,hg,(hb.block g hlt).trans hc,r⟩
theorem flat_get {k : Nat} : ∀{zs : List (List Value)},(∀z∈zs,z.length=k)→∀{j : Nat} {z : List Value},zs[j]? =some z→∀{i : Nat} {v : Value},z[i]? =some v→zs.flatten[j * k + i]? =some v:=by
 intro zs
 induction zs with
 | nil=>intro _ j z hz;simp at hz
 | cons y ys ih=>
   intro hk j z hz i v hv
   have hy : y.length=k:=hk y (by simp)
   cases j with
   | zero=>
     simp only [List.getElem?_cons_zero,Option.some.injEq] at hz
     subst hz
     have hi : i < y.length:=(List.getElem?_eq_some_iff.1 hv).1
     rw [List.flatten_cons,List.getElem?_append_left (by omega)]
     simpa using hv
   | succ j=>
     rw [List.getElem?_cons_succ] at hz
     rw [List.flatten_cons,List.getElem?_append_right (by rw [hy,Nat.succ_mul];omega)]
     have:=ih (fun z hz=>hk z (by simp [hz])) hz hv
     rw [show (j + 1) * k + i - y.length=j * k + i by rw [hy,Nat.succ_mul];omega]
     exact this
theorem OwnR.rws {w : World} {base k : Nat} {E : TypeId} {v : Value} {zs : List (List Value)} (h : OwnR w base k E v zs) : ∃A c,v= .slice A zs.length c∧Rws w k A zs.length zs:=by
 obtain ⟨hown,hz⟩:=h
 have hh:=hown.2
 rcases hh with ⟨rfl,h0⟩ | ⟨g,cap,cur,rfl,hg,hc,_⟩
 · have : zs=[]:=List.eq_nil_of_length_eq_zero h0
   subst this
   exact ⟨none,0,rfl,Rws.nil_⟩
 · have hlt : g < w.heap.size:=(Array.getElem?_eq_some_iff.1 hc).1
   refine ⟨_,_,rfl,rfl,hz,fun _=>⟨g,0,rfl,hlt,fun j z hj i v hv=> ?_⟩⟩
   have:=hown.cells (g:=g) rfl _ v (flat_get hz hj hv)
   rw [Addr.add_mid] at this
   rw [show 0 + j * k + i=0 + (j * k + i) by omega]
   exact this
theorem OwnR.lt {w : World} {base k : Nat} {E : TypeId} {v : Value} {zs : List (List Value)} (h : OwnR w base k E v zs) : ∀g,v.ownBlock=some g→base≤g:=fun g hg=>(h.1.lt g hg).1
section
variable {P : Program} {ops : Array Oper} {Q : Exit→Act→World→Prop} {a : Act} {w : World} {rest : List Oper} {o : Oper}
theorem wpList_append_one (hgd : o.guard=none) (s x : Operand) (t : TypeId)
 (ho : o.op= .call { callee:= .builtin .append,args:=#[s,x],argTypes:=#[t,t] })
 (e : TypeId) (i : TypeInfo) (z : Value) (size bytes : Nat) (ht : P.underlying t=some (.slice e)) (hi : P.info? e=some i) (hz : i.zero=some z)
 (hsize : i.size=size) (hby : i.bytes=bytes) (hzs : z.cells.size=size) (hsz : 0 < size)
 (w0 : World) (hB : Below w0.heap.size w0 w) (v : Value) (zs : List (List Value)) (hs : a.eval s=v) (hown : OwnR w w0.heap.size size e v zs)
 (g c : Nat) (row : List Value) (hx : a.eval x= .slice (some ⟨g,0,none⟩) 1 c) (hrow : w.rangeAt g 0 row) (hl : row.length=size) (h1 : ∀u∈row,u.oneCell' =true)
 (h63 : zs.length + 1≤maxLen) (hbytes : (zs.length + 1) * bytes≤140737488355328)
 (h : ∀v' w',OwnR w' w0.heap.size size e v' (zs ++ [row])→Below w0.heap.size w0 w'→w.grownBy w' v.ownBlock→wpList P ops Q rest (a.put o.dst v') w') : wpList P ops Q (o :: rest) a w:=by
 refine wpList_append_own w hgd s x t ho w0.heap.size e i z size bytes ht hi hz hsize hby hzs hsz v zs.length zs.flatten hs hown.1 ⟨g,0,none⟩ 1 c row hx (by rw [hl,Nat.one_mul])
  (fun j u hu=>by rw [Addr.add_mid];exact hrow j u hu) h1 h63 hbytes hB.size ?_
 intro v' w' hown' hg _
 refine h v' w' ⟨by simpa [List.length_append,List.flatten_append] using hown',fun z hz=> ?_⟩ (hB.grown hg hB.size hown.lt) hg
 rcases List.mem_append.1 hz with hz | hz
 · exact hown.2 z hz
 · simp only [List.mem_singleton] at hz
   subst hz
   exact hl
end
theorem fill_one (n : Nat) (zs cs : Array Value) (h0 : zs.size=n) (h1 : cs.size=n) : Instr.fill (fun j=>some (j * n,n)) zs [(0,.agg cs)]=some cs:=by
 unfold Instr.fill
 simp only [Nat.zero_mul,Value.cells,h1,h0,Nat.zero_add,Nat.lt_irrefl,decide_false,ne_eq,not_true_eq_false,Bool.or_self,Bool.false_eq_true,if_false,gt_iff_lt,Bool.or_false]
 unfold Instr.fill
 congr 1
 obtain ⟨l⟩:=cs
 have key : ∀(l : List Value) (off : Nat) (z : Array Value),off + l.length=z.size→
  (l.zipIdx off).foldl (fun cs (x : Value × Nat)=>cs.setIfInBounds x.2 x.1) z=((z.toList.take off) ++ l).toArray:=by
  intro l
  induction l with
  | nil=>
    intro off z h
    simp only [List.length_nil,Nat.add_zero] at h
    rw [List.take_of_length_le (by simp;omega)]
    simp
  | cons y ys ih=>
    intro off z h
    simp only [List.length_cons] at h
    rw [List.zipIdx_cons,List.foldl_cons,ih (off + 1) _ (by simp;omega)]
    congr 1
    simp only [Array.toList_setIfInBounds]
    rw [List.take_add_one,List.take_set,List.set_eq_of_length_le (by simp;omega),List.getElem?_set_self (by simp;omega)]
    simp
 have:=key l 0 zs (by simp at h1;omega)
 simp only [List.take_zero,List.nil_append] at this
 rw [← Array.foldl_toList,Array.toList_zipIdx]
 simpa using this
end
section
theorem take_succ_of {α : Type} {l : List α} {k : Nat} {x : α} (h : l[k]? =some x) : l.take (k + 1)=l.take k ++ [x]:=by
 rw [List.take_add_one,h];rfl
end
section
open Go.RowKit Go.ChangeShapes Go.WideShapes Go.Deep
def sv (s : ByteArray) : List Value:=[.string s]
def Strs (w : World) (A : Option Addr) (n : Nat) (ss : List ByteArray) : Prop:=Rws w 1 A n (ss.map sv)
theorem Strs.keep {w w' : World} {A : Option Addr} {n : Nat} {ss : List ByteArray} (h : Strs w A n ss) (hb : Below w.heap.size w w') : Strs w' A n ss:=Rws.keep h hb
theorem Strs.len {w : World} {A : Option Addr} {n : Nat} {ss : List ByteArray} (h : Strs w A n ss) : ss.length=n:=by simpa using h.1
theorem Strs.nil_ {w : World} {A : Option Addr} : Strs w A 0 []:=Rws.nil_
theorem Strs.at_ {w : World} {A : Option Addr} {n : Nat} {ss : List ByteArray} (h : Strs w A n ss) {j : Nat} (hj : j < n) :
 ∃b off s,A=some ⟨b,off,none⟩∧b < w.heap.size∧ss[j]? =some s∧w.cell? ⟨b,off + j,none⟩=some (.string s):=by
 obtain ⟨b,off,z,e,hlt,hz,_,hr⟩:=Rws.row h hj
 rw [List.getElem?_map] at hz
 cases he : ss[j]? with
 | none=>rw [he] at hz;cases hz
 | some x=>
   rw [he] at hz
   simp only [Option.map_some,Option.some.injEq] at hz
   subst hz
   have:=hr 0 _ rfl
   rw [Nat.mul_one,Nat.add_zero] at this
   exact ⟨b,off,x,e,hlt,rfl,this⟩
def OwnS (w : World) (base : Nat) (v : Value) (ss : List ByteArray) : Prop:=OwnR w base 1 9 v (ss.map sv)
theorem OwnS.strs {w : World} {base : Nat} {v : Value} {ss : List ByteArray} (h : OwnS w base v ss) : ∃A c,v= .slice A ss.length c∧Strs w A ss.length ss:=by
 obtain ⟨A,c,hv,hr⟩:=OwnR.rws h
 rw [List.length_map] at hv hr
 exact ⟨A,c,hv,hr⟩
theorem OwnS.keep {w w' : World} {base : Nat} {v : Value} {ss : List ByteArray} (h : OwnS w base v ss) (hb : Below w.heap.size w w') : OwnS w' base v ss:=OwnR.keep h hb
theorem str_info : (Tryz.prog.info? 9).map (fun i=>(i.zero,i.size,i.bytes))=some (some (.string ByteArray.empty),1,16):=by kernel_rfl
theorem Strs.block {w : World} {g : Nat} {ss : List ByteArray} {t : TypeId} {fr : Nat × Nat} (h : w.heap[g]? =some (.cells (ss.flatMap sv).toArray t fr)) (hlt : g < w.heap.size) : Strs w (some ⟨g,0,none⟩) ss.length ss:=by
 have:=Rws.block (w:=w) (zs:=ss.map sv) (k:=1) (by intro z hz;obtain ⟨e,_,rfl⟩:=List.mem_map.1 hz;rfl) (by rw [← List.flatMap_def];exact h) hlt
 simpa [Strs] using this
def has (ss : List ByteArray) (s : ByteArray) : Bool:=ss.any (· == s)
def first (ss ts : List ByteArray) : Option ByteArray:=ss.find? (has ts)
end
section
open Go.Shelf Go.RowKit
def bldRen : Go.Shelf.Ren:=⟨fun | 166=>32 | 167=>31 | 169=>33 | 240=>54 | 276=>86 | n=>n,fun | 0=>0 | 3=>3 | 4=>4 | 5=>5 | 9=>9 | 20=>20 | 37=>72 | 70=>71 | 72=>74 | 75=>48 | 76=>77 | 80=>80 | 127=>104 | 164=>151 | n=>n,fun | n=>n⟩
theorem bld166 : Go.Proofs.Lays.n166 Tryz.prog bldRen:={
 mixed:=by kernel_rfl
 f166:=Tryz.func32.trans (congrArg some (by kernel_rfl))
 f240:=Tryz.func54.trans (congrArg some (by kernel_rfl))
 f276:=Tryz.func86.trans (congrArg some (by kernel_rfl))
 t0:=by kernel_rfl
 a0:=Tryz.isAgg0
 z0:=Tryz.sizeOf0
 v0:=Tryz.zeroValue0
 t3:=by kernel_rfl
 a3:=Tryz.isAgg3
 z3:=Tryz.sizeOf3
 v3:=Tryz.zeroValue3
 t4:=by kernel_rfl
 a4:=Tryz.isAgg4
 z4:=Tryz.sizeOf4
 v4:=Tryz.zeroValue4
 t9:=by kernel_rfl
 a9:=Tryz.isAgg9
 z9:=Tryz.sizeOf9
 v9:=Tryz.zeroValue9
 t20:=by kernel_rfl
 a20:=Tryz.isAgg20
 z20:=Tryz.sizeOf20
 v20:=Tryz.zeroValue20
 t37:=by kernel_rfl
 a37:=Tryz.isAgg72
 z37:=Tryz.sizeOf72
 v37:=Tryz.zeroValue72
 t70:=by kernel_rfl
 a70:=Tryz.isAgg71
 z70:=Tryz.sizeOf71
 v70:=Tryz.zeroValue71
 t72:=by kernel_rfl
 a72:=Tryz.isAgg74
 z72:=Tryz.sizeOf74
 v72:=Tryz.zeroValue74
 t75:=by kernel_rfl
 a75:=Tryz.isAgg48
 z75:=Tryz.sizeOf48
 v75:=Tryz.zeroValue48
 t164:=by kernel_rfl
 a164:=Tryz.isAgg151
 z164:=Tryz.sizeOf151
 v164:=Tryz.zeroValue151 }
theorem bld167 : Go.Proofs.Lays.n167 Tryz.prog bldRen:={
 mixed:=by kernel_rfl
 f167:=Tryz.func31.trans (congrArg some (by kernel_rfl))
 f240:=Tryz.func54.trans (congrArg some (by kernel_rfl))
 f276:=Tryz.func86.trans (congrArg some (by kernel_rfl))
 t0:=by kernel_rfl
 a0:=Tryz.isAgg0
 z0:=Tryz.sizeOf0
 v0:=Tryz.zeroValue0
 t4:=by kernel_rfl
 a4:=Tryz.isAgg4
 z4:=Tryz.sizeOf4
 v4:=Tryz.zeroValue4
 t5:=by kernel_rfl
 a5:=Tryz.isAgg5
 z5:=Tryz.sizeOf5
 v5:=Tryz.zeroValue5
 t9:=by kernel_rfl
 a9:=Tryz.isAgg9
 z9:=Tryz.sizeOf9
 v9:=Tryz.zeroValue9
 t20:=by kernel_rfl
 a20:=Tryz.isAgg20
 z20:=Tryz.sizeOf20
 v20:=Tryz.zeroValue20
 t37:=by kernel_rfl
 a37:=Tryz.isAgg72
 z37:=Tryz.sizeOf72
 v37:=Tryz.zeroValue72
 t70:=by kernel_rfl
 a70:=Tryz.isAgg71
 z70:=Tryz.sizeOf71
 v70:=Tryz.zeroValue71
 t72:=by kernel_rfl
 a72:=Tryz.isAgg74
 z72:=Tryz.sizeOf74
 v72:=Tryz.zeroValue74
 t75:=by kernel_rfl
 a75:=Tryz.isAgg48
 z75:=Tryz.sizeOf48
 v75:=Tryz.zeroValue48
 t164:=by kernel_rfl
 a164:=Tryz.isAgg151
 z164:=Tryz.sizeOf151
 v164:=Tryz.zeroValue151 }
theorem bld169 : Go.Proofs.Lays.n169 Tryz.prog bldRen:={
 mixed:=by kernel_rfl
 f169:=Tryz.func33.trans (congrArg some (by kernel_rfl))
 t0:=by kernel_rfl
 a0:=Tryz.isAgg0
 z0:=Tryz.sizeOf0
 v0:=Tryz.zeroValue0
 t3:=by kernel_rfl
 a3:=Tryz.isAgg3
 z3:=Tryz.sizeOf3
 v3:=Tryz.zeroValue3
 t9:=by kernel_rfl
 a9:=Tryz.isAgg9
 z9:=Tryz.sizeOf9
 v9:=Tryz.zeroValue9
 t37:=by kernel_rfl
 a37:=Tryz.isAgg72
 z37:=Tryz.sizeOf72
 v37:=Tryz.zeroValue72
 t70:=by kernel_rfl
 a70:=Tryz.isAgg71
 z70:=Tryz.sizeOf71
 v70:=Tryz.zeroValue71
 t72:=by kernel_rfl
 a72:=Tryz.isAgg74
 z72:=Tryz.sizeOf74
 v72:=Tryz.zeroValue74
 t127:=by kernel_rfl
 a127:=Tryz.isAgg104
 z127:=Tryz.sizeOf104
 v127:=Tryz.zeroValue104 }
theorem bldX : Builder.Extra Tryz.prog bldRen:={
 sizeBuilder:=by kernel_rfl
 liesBuilder:=by kernel_rfl
 t5:=by kernel_rfl
 a5:=Tryz.isAgg5
 z5:=Tryz.sizeOf5
 v5:=Tryz.zeroValue5
 infoByte:=by kernel_rfl
 cellsByte:=by kernel_rfl
 sizeByte:=by kernel_rfl
 neB5:=by decide }
end
section
open Go
def plainN (c : UInt8) : Bool:=decide (33≤c.toNat) && decide (c.toNat≤126) && !(decide (c.toNat=37) || decide (c.toNat=44) || decide (c.toNat=58) || decide (c.toNat=59) || decide (c.toNat=61))
def hexD (n : Nat) : UInt8:=if n < 10 then UInt8.ofNat (48 + n) else UInt8.ofNat (87 + n)
def hexV (c : UInt8) : Nat:=if 48≤c.toNat∧c.toNat≤57 then c.toNat - 48 else if 97≤c.toNat∧c.toNat≤102 then c.toNat - 87 else 16
def escB (c : UInt8) : List UInt8:=if plainN c=true then [c] else [37,hexD (c.toNat / 16),hexD (c.toNat % 16)]
def escL : List UInt8→List UInt8
 | []=>[]
 | c :: l=>escB c ++ escL l
theorem escL_app : ∀(l m : List UInt8),escL (l ++ m)=escL l ++ escL m
 | [],_=>rfl
 | c :: l,m=>by rw [List.cons_append,escL,escL,escL_app,List.append_assoc]
theorem escL_snoc (l : List UInt8) (c : UInt8) : escL (l ++ [c])=escL l ++ escB c:=by rw [escL_app];simp [escL]
theorem escB_len (c : UInt8) : (escB c).length≤3:=by unfold escB;split <;> simp
theorem escL_len : ∀l : List UInt8,(escL l).length≤3 * l.length
 | []=>by simp [escL]
 | c :: l=>by rw [escL,List.length_append,List.length_cons];have:=escB_len c;have:=escL_len l;omega
def unesc : List UInt8→Option (List UInt8)
 | []=>some []
 | c :: l=>if c.toNat=37 then (match l with | a :: b :: r=>if hexV a < 16∧hexV b < 16 then (unesc r).map (UInt8.ofNat (16 * hexV a + hexV b) :: ·) else none | _=>none) else (unesc l).map (c :: ·)
def unescL (s : List UInt8) : Option (List UInt8):=match unesc s with | some o=>if escL o=s then some o else none | none=>none
theorem hexV_hexD {n : Nat} (h : n < 16) : hexV (hexD n)=n:=by
 have : ∀i : Fin 16,hexV (hexD i.1)=i.1:=by decide
 exact this ⟨n,h⟩
theorem u8_back (c : UInt8) : UInt8.ofNat (16 * (c.toNat / 16) + c.toNat % 16)=c:=by
 rw [Nat.div_add_mod]
 simp
theorem unesc_cons {c : UInt8} {l : List UInt8} (h : c.toNat≠37) : unesc (c :: l)=(unesc l).map (c :: ·):=by
 match l with
 | []=>simp [unesc,h]
 | [a]=>simp [unesc,h]
 | a :: b :: r=>simp [unesc,h]
theorem unesc_pct (a b : UInt8) (r : List UInt8) {c : UInt8} (h : c.toNat=37) : unesc (c :: a :: b :: r)=if hexV a < 16∧hexV b < 16 then (unesc r).map (UInt8.ofNat (16 * hexV a + hexV b) :: ·) else none:=by
 rw [unesc,if_pos h]
theorem unesc_short {c : UInt8} {l : List UInt8} (h : c.toNat=37) (hl : l.length < 2) : unesc (c :: l)=none:=by
 match l,hl with
 | [],_=>simp [unesc,h]
 | [a],_=>simp [unesc,h]
theorem unesc_escB (c : UInt8) (l : List UInt8) : unesc (escB c ++ l)=(unesc l).map (c :: ·):=by
 have hc : c.toNat < 256:=c.toNat_lt
 unfold escB
 by_cases h : plainN c=true
 · rw [if_pos h,List.singleton_append,unesc_cons]
   intro h37
   unfold plainN at h
   rw [h37] at h
   simp at h
 · rw [if_neg h]
   show unesc (37 :: hexD (c.toNat / 16) :: hexD (c.toNat % 16) :: l)=_
   rw [unesc_pct _ _ _ (by rfl),hexV_hexD (by omega),hexV_hexD (by omega),if_pos ⟨by omega,by omega⟩,u8_back]
theorem unesc_esc : ∀s : List UInt8,unesc (escL s)=some s
 | []=>rfl
 | c :: l=>by rw [escL,unesc_escB,unesc_esc l];rfl
theorem unescL_esc (s : List UInt8) : unescL (escL s)=some s:=by
 unfold unescL
 rw [unesc_esc]
 dsimp only
 rw [if_pos rfl]
theorem unescL_some {s o : List UInt8} (h : unescL s=some o) : escL o=s:=by
 unfold unescL at h
 split at h
 · split at h
   · rename_i e
     rw [← Option.some.inj h];exact e
   · cases h
 · cases h
end
section
open Go
open Go.Lib (itoa decDigits atoiAll parseUint10 parseMag signless signed NumEnd)
def I64 (n : Int) : Prop:= -9223372036854775808≤n∧n≤9223372036854775807
theorem pu_app : ∀(l m : List UInt8) (acc u : Nat),parseUint10 acc l= .ok u→parseUint10 acc (l ++ m)=parseUint10 u m
 | [],m,acc,u,h=>by
   simp only [parseUint10] at h
   injection h with h
   rw [h,List.nil_append]
 | c :: r,m,acc,u,h=>by
   rw [List.cons_append]
   simp only [parseUint10] at h ⊢
   split at h
   · next h1=>
     rw [if_pos h1]
     split at h
     · cases h
     · next h2=>
       rw [if_neg h2]
       split at h
       · cases h
       · next h3=>
         rw [if_neg h3]
         exact pu_app r m _ u h
   · cases h
theorem dig_nat {i : Nat} (h : i < 10) : (UInt8.ofNat (48 + i)).toNat=48 + i:=by
 rw [UInt8.toNat_ofNat']
 exact Nat.mod_eq_of_lt (by omega)
theorem dec_digit (u : Nat) : ∀c∈decDigits u,48≤c.toNat∧c.toNat≤57:=by
 induction u using Nat.strongRecOn with
 | ind u ih=>
   intro c hc
   rw [decDigits] at hc
   by_cases h : u < 10
   · rw [dif_pos h] at hc
     rw [List.mem_singleton.1 hc,dig_nat h]
     omega
   · rw [dif_neg h] at hc
     rcases List.mem_append.1 hc with hc | hc
     · exact ih (u / 10) (by omega) c hc
     · rw [List.mem_singleton.1 hc,dig_nat (by omega)]
       omega
theorem dec_ne (u : Nat) : decDigits u≠[]:=by
 rw [decDigits]
 split <;> simp
theorem pu_dec (u : Nat) (h : u < 18446744073709551616) : parseUint10 0 (decDigits u)= .ok u:=by
 induction u using Nat.strongRecOn with
 | ind u ih=>
   rw [decDigits]
   by_cases h1 : u < 10
   · rw [dif_pos h1]
     simp only [parseUint10]
     rw [dig_nat h1,if_pos (by omega),if_neg (by omega),if_neg (by omega)]
     congr 1
     omega
   · rw [dif_neg h1,pu_app _ _ _ _ (ih (u / 10) (by omega) (by omega))]
     simp only [parseUint10]
     rw [dig_nat (by omega : u % 10 < 10),if_pos (by omega),if_neg (by omega),if_neg (by omega)]
     congr 1
     omega
theorem mag_dec (u : Nat) (h : u < 18446744073709551616) : parseMag (decDigits u)= .ok u:=by
 unfold parseMag
 rw [if_neg (dec_ne u)]
 exact pu_dec u h
theorem atoi_itoa {n : Int} (h : I64 n) : atoiAll (itoa n)= .ok n:=by
 obtain ⟨h1,h2⟩:=h
 unfold itoa
 by_cases hn : n < 0
 · rw [if_pos hn,Lib.atoiAll_minus,mag_dec _ (by omega)]
   unfold signed
   dsimp only
   rw [if_neg (by omega)]
   congr 1
   omega
 · rw [if_neg hn]
   obtain ⟨c,r,e⟩ : ∃c r,decDigits n.toNat=c :: r:=by
    cases hd : decDigits n.toNat with
    | nil=>exact absurd hd (dec_ne _)
    | cons c r=>exact ⟨c,r,rfl⟩
   have hc:=dec_digit n.toNat c (by rw [e];exact List.mem_cons_self)
   rw [e,Lib.atoiAll_plain c r (by omega) (by omega),← e,mag_dec _ (by omega)]
   unfold signless
   dsimp only
   rw [if_neg (by omega)]
   congr 1
   omega
def numL (s : List UInt8) : Option Int:=match atoiAll s with | .ok n=>if itoa n=s then some n else none | _=>none
theorem numL_itoa {n : Int} (h : I64 n) : numL (itoa n)=some n:=by
 unfold numL
 rw [atoi_itoa h]
 dsimp only
 rw [if_pos rfl]
theorem numL_some {s : List UInt8} {n : Int} (h : numL s=some n) : I64 n∧itoa n=s:=by
 unfold numL at h
 cases hs : atoiAll s with
 | ok m=>
   rw [hs] at h
   dsimp only at h
   split at h
   · next e=>
     injection h with h
     subst h
     exact ⟨Lib.atoiAll_bounds hs,e⟩
   · cases h
 | «syntax» =>rw [hs] at h;cases h
 | range=>rw [hs] at h;cases h
theorem numL_iff {s : List UInt8} {n : Int} : numL s=some n↔I64 n∧itoa n=s:=⟨numL_some,fun ⟨h,e⟩=>by rw [← e];exact numL_itoa h⟩
def wr64 (z : Int) : Int:=(z + 9223372036854775808) % 18446744073709551616 - 9223372036854775808
theorem wr64_I64 (z : Int) : I64 (wr64 z):=by unfold I64 wr64;omega
def wrapN (acc : Int) : List UInt8→Int
 | []=>acc
 | c :: r=>wrapN (wr64 (wr64 (acc * 10) + ((c.toNat : Int) - 48))) r
theorem wrapN_app : ∀(l m : List UInt8) (acc : Int),wrapN acc (l ++ m)=wrapN (wrapN acc l) m
 | [],_,_=>rfl
 | c :: r,m,acc=>by rw [List.cons_append,wrapN,wrapN,wrapN_app]
theorem wr64_congr (a b : Int) : wr64 (wr64 (wr64 a * 10) + b)=wr64 (a * 10 + b):=by unfold wr64;omega
theorem wrapN_dec (u : Nat) : wrapN 0 (decDigits u)=wr64 u:=by
 induction u using Nat.strongRecOn with
 | ind u ih=>
   rw [decDigits]
   by_cases h1 : u < 10
   · rw [dif_pos h1]
     simp only [wrapN]
     rw [dig_nat h1]
     unfold wr64
     omega
   · rw [dif_neg h1,wrapN_app,ih (u / 10) (by omega)]
     simp only [wrapN]
     rw [dig_nat (by omega : u % 10 < 10),wr64_congr]
     congr 1
     omega
def allD (l : List UInt8) : Bool:=l.all fun c=>decide (48≤c.toNat) && decide (c.toNat≤57)
def numZ (neg : Bool) (d : List UInt8) : Int:=if neg=true then wr64 (-(wrapN 0 d)) else wrapN 0 d
def numD (neg : Bool) (d s : List UInt8) : Option Int:=if d=[]∨20 < s.length∨allD d=false then none else if itoa (numZ neg d)=s then some (numZ neg d) else none
def refNum (s : List UInt8) : Option Int:=if s.head? =some 45 then numD true (s.drop 1) s else numD false s s
theorem wrapN_I64 : ∀(l : List UInt8) (acc : Int),I64 acc→I64 (wrapN acc l)
 | [],_,h=>h
 | c :: r,acc,_=>wrapN_I64 r _ (wr64_I64 _)
theorem nDigits_low (u : Nat) (h : u≠0) : 10 ^ (Lib.nDigits u - 1)≤u:=by
 induction u using Nat.strongRecOn with
 | ind u ih=>
   by_cases h1 : u < 10
   · rw [Lib.nDigits_small h1]
     simp
     omega
   · rw [Lib.nDigits_big h1]
     have h2:=ih (u / 10) (by omega) (by omega)
     have h3:=Lib.nDigits_pos (u / 10)
     have e : Lib.nDigits (u / 10) + 1 - 1=Lib.nDigits (u / 10) - 1 + 1:=by omega
     rw [e,Nat.pow_succ]
     omega
theorem itoa_len20 {n : Int} (h : I64 n) : (itoa n).length≤20:=by
 have key : ∀u : Nat,u < 10000000000000000000→(decDigits u).length≤19:=by
  intro u hu
  rw [Lib.decDigits_length]
  by_cases h0 : u=0
  · subst h0;rw [Lib.nDigits_small (by decide)];decide
  · have h1:=Lib.nDigits_pos u
    rcases Nat.lt_or_ge (Lib.nDigits u) 20 with h2 | h2
    · omega
    · exfalso
      have h3:=nDigits_low u h0
      have h4 : 10 ^ 19≤10 ^ (Lib.nDigits u - 1):=Nat.pow_le_pow_right (by decide) (by omega)
      omega
 obtain ⟨h1,h2⟩:=h
 unfold itoa
 split
 · rw [List.length_cons]
   have:=key n.natAbs (by omega)
   omega
 · have:=key n.toNat (by omega)
   omega
theorem numZ_I64 (neg : Bool) (d : List UInt8) : I64 (numZ neg d):=by
 unfold numZ
 split
 · exact wr64_I64 _
 · exact wrapN_I64 _ _ (by unfold I64;omega)
theorem numD_some {neg : Bool} {d s : List UInt8} {n : Int} (h : numD neg d s=some n) : I64 n∧itoa n=s:=by
 unfold numD at h
 by_cases h1 : d=[]∨20 < s.length∨allD d=false
 · rw [if_pos h1] at h;cases h
 · rw [if_neg h1] at h
   by_cases h2 : itoa (numZ neg d)=s
   · rw [if_pos h2] at h
     injection h with h
     rw [← h]
     exact ⟨numZ_I64 _ _,h2⟩
   · rw [if_neg h2] at h;cases h
theorem dec_allD (u : Nat) : allD (decDigits u)=true:=List.all_eq_true.2 fun c hc=>by have:=dec_digit _ c hc;simp [this]
theorem numD_dec {neg : Bool} {u : Nat} {s : List UInt8} {n : Int} (hz : numZ neg (decDigits u)=n) (hl : s.length≤20) (e : itoa n=s) : numD neg (decDigits u) s=some n:=by
 unfold numD
 rw [if_neg,hz,if_pos e]
 rintro (h | h | h)
 · exact dec_ne _ h
 · omega
 · rw [dec_allD] at h;cases h
theorem refNum_eq (s : List UInt8) : refNum s=numL s:=by
 have hS : ∀{n : Int},refNum s=some n→I64 n∧itoa n=s:=by
  intro n h
  unfold refNum at h
  by_cases h1 : s.head? =some 45
  · rw [if_pos h1] at h;exact numD_some h
  · rw [if_neg h1] at h;exact numD_some h
 have hN : ∀{n : Int},I64 n→itoa n=s→refNum s=some n:=by
  intro n hn e
  have hl:=itoa_len20 hn
  rw [e] at hl
  unfold refNum
  by_cases h0 : n < 0
  · have e2 : s=45 :: decDigits n.natAbs:=by rw [← e];unfold itoa;rw [if_pos h0]
    have hh : s.head? =some 45:=by rw [e2];rfl
    have hd : s.drop 1=decDigits n.natAbs:=by rw [e2];rfl
    rw [if_pos hh,hd]
    refine numD_dec ?_ hl e
    unfold numZ
    rw [if_pos rfl,wrapN_dec]
    unfold I64 at hn
    unfold wr64
    omega
  · have e2 : s=decDigits n.toNat:=by rw [← e];unfold itoa;rw [if_neg h0]
    have hh : ¬s.head? =some 45:=by
     intro hh
     cases hs : s with
     | nil=>rw [hs] at hh;cases hh
     | cons c r=>
       rw [hs] at hh
       injection hh with hh
       have:=dec_digit n.toNat c (by rw [← e2,hs];exact List.mem_cons_self)
       rw [hh] at this
       have h45 : (45 : UInt8).toNat=45:=rfl
       omega
    rw [if_neg hh]
    have hz : numZ false (decDigits n.toNat)=n:=by
     unfold numZ
     rw [if_neg (by decide),wrapN_dec]
     unfold I64 at hn
     unfold wr64
     omega
    have:=numD_dec hz hl e
    rwa [← e2] at this
 cases h : numL s with
 | some n=>obtain ⟨h1,h2⟩:=numL_some h;exact hN h1 h2
 | none=>
   cases h' : refNum s with
   | none=>rfl
   | some n=>
     obtain ⟨h1,h2⟩:=hS h'
     rw [numL_iff.2 ⟨h1,h2⟩] at h
     cases h
end
section
open Go
def splitL (c : UInt8) : List UInt8→List (List UInt8)
 | []=>[[]]
 | x :: l=>if x=c then [] :: splitL c l else match splitL c l with | []=>[[x]] | p :: r=>(x :: p) :: r
def joinL (c : UInt8) : List (List UInt8)→List UInt8
 | []=>[]
 | [p]=>p
 | p :: q :: r=>p ++ c :: joinL c (q :: r)
theorem splitL_ne (c : UInt8) : ∀s,splitL c s≠[]
 | []=>by simp [splitL]
 | x :: l=>by
   rw [splitL]
   split
   · simp
   · split <;> simp
theorem splitL_hit (c : UInt8) (l : List UInt8) : splitL c (c :: l)=[] :: splitL c l:=by rw [splitL,if_pos rfl]
theorem splitL_miss {c x : UInt8} {l p : List UInt8} {r : List (List UInt8)} (h : x≠c) (e : splitL c l=p :: r) : splitL c (x :: l)=(x :: p) :: r:=by rw [splitL,if_neg h,e]
theorem splitL_cons (c : UInt8) (s : List UInt8) : ∃p r,splitL c s=p :: r:=by
 cases h : splitL c s with
 | nil=>exact absurd h (splitL_ne c s)
 | cons p r=>exact ⟨p,r,rfl⟩
theorem splitL_none {c : UInt8} : ∀{s : List UInt8},c ∉ s→splitL c s=[s]
 | [],_=>rfl
 | x :: l,h=>splitL_miss (fun e=>h (by rw [e];exact List.mem_cons_self)) (splitL_none fun h2=>h (List.mem_cons_of_mem _ h2))
theorem splitL_app {c : UInt8} (l : List UInt8) : ∀{p : List UInt8},c ∉ p→splitL c (p ++ c :: l)=p :: splitL c l
 | [],_=>splitL_hit c l
 | x :: p,h=>splitL_miss (fun e=>h (by rw [e];exact List.mem_cons_self)) (splitL_app l fun h2=>h (List.mem_cons_of_mem _ h2))
theorem splitL_mem {c : UInt8} : ∀{s : List UInt8},∀p∈splitL c s,c ∉ p
 | [],p,hp=>by rw [splitL] at hp;rw [List.mem_singleton.1 hp];simp
 | x :: l,p,hp=>by
   have ih:=fun q hq=>splitL_mem (c:=c) (s:=l) q hq
   by_cases h : x=c
   · subst h
     rw [splitL_hit] at hp
     rcases List.mem_cons.1 hp with rfl | hp
     · simp
     · exact ih p hp
   · obtain ⟨q,r,e⟩:=splitL_cons c l
     rw [splitL_miss h e] at hp
     rw [e] at ih
     rcases List.mem_cons.1 hp with rfl | hp
     · intro hc
       rcases List.mem_cons.1 hc with hc | hc
       · exact h hc.symm
       · exact ih q List.mem_cons_self hc
     · exact ih p (List.mem_cons_of_mem _ hp)
theorem joinL_cons {c : UInt8} {p : List UInt8} {r : List (List UInt8)} (h : r≠[]) : joinL c (p :: r)=p ++ c :: joinL c r:=by
 cases r with
 | nil=>exact absurd rfl h
 | cons q r=>rfl
theorem split_join {c : UInt8} : ∀{ps : List (List UInt8)},ps≠[]→(∀p∈ps,c ∉ p)→splitL c (joinL c ps)=ps
 | [],h,_=>absurd rfl h
 | [p],_,h=>splitL_none (h p List.mem_cons_self)
 | p :: q :: r,_,h=>by
   rw [joinL_cons (by simp),splitL_app _ (h p List.mem_cons_self),split_join (by simp) fun x hx=>h x (List.mem_cons_of_mem _ hx)]
theorem join_split (c : UInt8) : ∀s : List UInt8,joinL c (splitL c s)=s
 | []=>rfl
 | x :: l=>by
   by_cases h : x=c
   · subst h
     rw [splitL_hit,joinL_cons (splitL_ne _ _),join_split]
     rfl
   · obtain ⟨q,r,e⟩:=splitL_cons c l
     have ih:=join_split c l
     rw [splitL_miss h e]
     rw [e] at ih
     cases r with
     | nil=>rw [← ih];rfl
     | cons y r=>rw [joinL_cons (by simp)] at ih ⊢;rw [← ih];rfl
theorem splitL_len (c : UInt8) : ∀s : List UInt8,(splitL c s).length≤s.length + 1
 | []=>by simp [splitL]
 | x :: l=>by
   have:=splitL_len c l
   by_cases h : x=c
   · subst h;rw [splitL_hit];simp;omega
   · obtain ⟨q,r,e⟩:=splitL_cons c l
     rw [splitL_miss h e]
     rw [e] at this
     simp at this ⊢
     omega
def cutL (c : UInt8) : List UInt8→List UInt8 × List UInt8 × Bool
 | []=>([],[],false)
 | x :: l=>if x=c then ([],l,true) else (x :: (cutL c l).1,(cutL c l).2)
theorem cutL_app {c : UInt8} (l : List UInt8) : ∀{p : List UInt8},c ∉ p→cutL c (p ++ c :: l)=(p,l,true)
 | [],_=>by rw [List.nil_append,cutL,if_pos rfl]
 | x :: p,h=>by
   rw [List.cons_append,cutL,if_neg fun e=>h (by rw [e];exact List.mem_cons_self),cutL_app l fun h2=>h (List.mem_cons_of_mem _ h2)]
theorem cutL_none {c : UInt8} : ∀{s : List UInt8},c ∉ s→cutL c s=(s,[],false)
 | [],_=>rfl
 | x :: l,h=>by rw [cutL,if_neg fun e=>h (by rw [e];exact List.mem_cons_self),cutL_none fun h2=>h (List.mem_cons_of_mem _ h2)]
theorem first_of {c : UInt8} : ∀{s : List UInt8},c∈s→∃a b,s=a ++ c :: b∧c ∉ a
 | [],h=>by cases h
 | x :: l,h=>by
   by_cases e : x=c
   · subst e;exact ⟨[],l,rfl,by simp⟩
   · rcases List.mem_cons.1 h with h | h
     · exact absurd h.symm e
     · obtain ⟨a,b,e1,e2⟩:=first_of h
       refine ⟨x :: a,b,by rw [e1];rfl,fun hc=> ?_⟩
       rcases List.mem_cons.1 hc with hc | hc
       · exact e hc.symm
       · exact e2 hc
theorem cutL_cases (c : UInt8) (s : List UInt8) : (c ∉ s∧cutL c s=(s,[],false))∨∃a b,c ∉ a∧s=a ++ c :: b∧cutL c s=(a,b,true):=by
 by_cases h : c∈s
 · right
   obtain ⟨a,b,e,hn⟩:=first_of h
   exact ⟨a,b,hn,e,by rw [e];exact cutL_app b hn⟩
 · exact .inl ⟨h,cutL_none h⟩
/-! As the library tells it. -/
theorem pre1 (c x : UInt8) (l : List UInt8) : ([c].isPrefixOf (x :: l)=true)↔x=c:=by
 rw [List.isPrefixOf,List.isPrefixOf,Bool.and_true,beq_iff_eq]
 exact eq_comm
theorem index1_none {c : UInt8} : ∀{s : List UInt8},c ∉ s→Lib.index s [c]= -1
 | [],_=>rfl
 | x :: l,h=>by
   rw [Lib.index,if_neg (fun e=>h (by rw [(pre1 c x l).1 e];exact List.mem_cons_self)),index1_none fun h2=>h (List.mem_cons_of_mem _ h2)]
   rfl
theorem index1_app {c : UInt8} (l : List UInt8) : ∀{p : List UInt8},c ∉ p→Lib.index (p ++ c :: l) [c]=p.length
 | [],_=>by rw [List.nil_append,Lib.index,if_pos ((pre1 c c l).2 rfl)];rfl
 | x :: p,h=>by
   rw [List.cons_append,Lib.index,if_neg (fun e=>h (by rw [(pre1 c x _).1 e];exact List.mem_cons_self)),index1_app l fun h2=>h (List.mem_cons_of_mem _ h2)]
   have : ¬(((p.length : Int) == -1)=true):=fun e=>by have:=beq_iff_eq.1 e;omega
   rw [if_neg this,List.length_cons]
   omega
theorem splitK_one (c : UInt8) : ∀(f : Nat) (s : List UInt8),s.length < f→Lib.splitK [c] 0 (Lib.countFrom [c] f s) s=splitL c s
 | 0,s,h=>absurd h (Nat.not_lt_zero _)
 | f + 1,s,h=>by
   rcases cutL_cases c s with ⟨hn,_⟩ | ⟨a,b,ha,e,_⟩
   · rw [Lib.countFrom,index1_none hn,splitL_none hn]
     rfl
   · subst e
     rw [Lib.countFrom,index1_app b ha,splitL_app b ha]
     have hq : ¬(((a.length : Int) == -1)=true):=fun e=>by have:=beq_iff_eq.1 e;omega
     have hd : (a ++ c :: b).drop ((a.length : Int).toNat + [c].length)=b:=by
      rw [Int.toNat_natCast]
      show (a ++ c :: b).drop (a.length + 1)=b
      rw [← List.drop_drop,List.drop_left]
      rfl
     have hl : b.length < f:=by rw [List.length_append,List.length_cons] at h;omega
     rw [if_neg hq,hd,Nat.add_comm 1,Lib.splitK,index1_app b ha,if_neg hq,hd,splitK_one c f b hl,Int.toNat_natCast,Nat.add_zero,List.take_left]
theorem lib_split (c : UInt8) (s : List UInt8) : Lib.split s [c]=splitL c s:=splitK_one c _ s (Nat.lt_succ_self _)
theorem lib_cut (c : UInt8) (s : List UInt8) : Lib.cut s [c]=cutL c s:=by
 unfold Lib.cut
 rcases cutL_cases c s with ⟨hn,e⟩ | ⟨a,b,ha,e,e2⟩
 · rw [index1_none hn,e]
   rfl
 · subst e
   rw [index1_app b ha,e2,if_pos (by omega),Int.toNat_natCast,List.take_left]
   congr 2
   show (a ++ c :: b).drop (a.length + 1)=b
   rw [← List.drop_drop,List.drop_left]
   rfl
theorem lib_join (c : UInt8) : ∀ps : List (List UInt8),Lib.join ps [c]=joinL c ps
 | []=>rfl
 | [p]=>Lib.join_one p [c]
 | p :: q :: r=>by
   rw [joinL_cons (by simp),← lib_join c (q :: r),Lib.join_cons,Lib.join_cons]
   simp [Lib.joinTail]
end
end Go.Proofs.YtmicohmbmgbnkaaGreatDoor
