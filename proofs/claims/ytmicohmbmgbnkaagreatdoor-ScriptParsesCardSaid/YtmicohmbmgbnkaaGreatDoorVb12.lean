/- '==' at a flat type (integers, bools, strings, structs and arrays of these): true just where all cells are the same. -/
import Derived.Test.YtmicohmbmgbnkaaGreatDoorVb0
import Derived.DeepKeys
import Derived.Laws.StructEq
namespace Go.Proofs.YtmicohmbmgbnkaaGreatDoor
open Go.RowKit Go.ChangeShapes Go.WideShapes Go.Deep
def litOf : Value→Lit
 | .int k n=> .int k n
 | .bool b=> .bool b
 | .string s=> .string s.data.toList
 | _=> .bool false
def noBlank (P : Program) : Nat→TypeId→Bool
 | 0,_=>false
 | n + 1,t=>match P.underlying t with
   | some (.struct fs)=>fs.all (·.name != "_") && fs.toList.all (fun f=>noBlank P n f.type)
   | some (.array _ e)=>noBlank P n e
   | _=>true
section
variable {P : Program}
theorem mapM_range_pieces {f : Nat→Option (List Lit)} {g : Nat→List Lit} : ∀(m : Nat),(∀i,i < m→f i=some (g i))→(List.range m).mapM f=some ((List.range m).map g):=by
 intro m
 induction m with
 | zero=>intro _;simp
 | succ m ih=>
   intro h
   rw [List.range_succ,List.mapM_append,ih (fun i hi=>h i (by omega)),List.map_append]
   simp [h m (by omega)]
theorem flatten_pieces {α : Type} (l : List α) (k : Nat) : ∀(m : Nat),((List.range m).map fun i=>(l.drop (i * k)).take k).flatten=l.take (m * k):=by
 intro m
 induction m with
 | zero=>simp
 | succ m ih=>
   rw [List.range_succ,List.map_append,List.flatten_append,ih,Nat.succ_mul,List.take_add]
   simp
theorem flat_keyLits : ∀(n : Nat) (t : TypeId) (ds : List TypeDesc) (cs : List Value) (D : Nat),flatDesc P n t=some ds→noBlank P n t=true→allOk ds cs→n≤D→P.keyLits D t cs=some (cs.map litOf):=by
 intro n
 induction n with
 | zero=>intro t ds cs D h;simp [flatDesc] at h
 | succ n ih=>
   intro t ds cs D h hb hc hD
   obtain ⟨d,rfl⟩ : ∃d,D=d + 1:=⟨D - 1,by omega⟩
   obtain ⟨hl,hok⟩:=hc
   unfold flatDesc at h
   unfold noBlank at hb
   cases hu : P.underlying t with
   | none=>simp [hu] at h
   | some dd=>
     rw [hu] at h hb
     cases dd with
     | int k=>
       simp only [Option.some.injEq] at h
       subst h
       match cs,hl with
       | [v],_=>
         obtain ⟨m,rfl,h1,h2⟩:=hok 0 _ _ rfl rfl
         have hwf : (Lit.int k m).wf=true:=by simp only [Lit.wf,Bool.and_eq_true,decide_eq_true_eq];exact ⟨h1,h2⟩
         unfold Program.keyLits
         rw [hu]
         simp [hwf,litOf]
     | bool=>
       simp only [Option.some.injEq] at h
       subst h
       match cs,hl with
       | [v],_=>
         obtain ⟨m,rfl⟩:=hok 0 _ _ rfl rfl
         unfold Program.keyLits
         rw [hu]
         rfl
     | string=>
       simp only [Option.some.injEq] at h
       subst h
       match cs,hl with
       | [v],_=>
         obtain ⟨m,rfl,h1⟩:=hok 0 _ _ rfl rfl
         unfold Program.keyLits
         rw [hu]
         simp [h1,litOf]
     | struct fs=>
       simp only [Option.bind_eq_bind,Option.bind_eq_some_iff] at h
       obtain ⟨ds0,h,hlast⟩:=h
       have hct : P.cellsOf t=ds0.length:=by
        by_cases hc : P.cellsOf t=ds0.length
        · exact hc
        · rw [if_neg hc] at hlast;cases hlast
       rw [if_pos hct,Option.some.injEq] at hlast
       subst hlast
       simp only [Bool.and_eq_true] at hb
       have key : ∀(l : List Field) (acc ds : List TypeDesc),l.all (fun f=>noBlank P n f.type)=true→
        l.foldlM (fun (acc : List TypeDesc) f=>if f.offset=acc.length then (flatDesc P n f.type).bind (fun l=>if P.cellsOf f.type=l.length then some (acc ++ l) else none) else none) acc=some ds→
        ds.length≤cs.length→(∀(i : Nat) (d : TypeDesc) (v : Value),ds[i]? =some d→cs[i]? =some v→cellOk d v)→
        acc.length≤ds.length∧(∃pre,ds=acc ++ pre)∧∃pieces : List (List Lit),l.mapM (fun f=>P.keyLits d f.type ((cs.drop f.offset).take (P.cellsOf f.type)))=some pieces∧pieces.flatten=((cs.drop acc.length).take (ds.length - acc.length)).map litOf:=by
        intro l
        induction l with
        | nil=>
          intro acc ds _ h _ _
          simp at h
          subst h
          exact ⟨Nat.le_refl _,⟨[],by simp⟩,[],by simp,by simp⟩
        | cons f r ihl=>
          intro acc ds hnb h hlen hall
          rw [List.foldlM_cons] at h
          simp only [List.all_cons,Bool.and_eq_true] at hnb
          by_cases ho : f.offset=acc.length
          · rw [if_pos ho] at h
            cases hfd : flatDesc P n f.type with
            | none=>simp [hfd] at h
            | some l0=>
              rw [hfd] at h
              by_cases hc : P.cellsOf f.type=l0.length
              · simp only [Option.bind_some,if_pos hc,Option.bind_eq_bind] at h
                obtain ⟨g1,⟨pre,g2⟩,pieces,g3,g4⟩:=ihl (acc ++ l0) ds hnb.2 h hlen hall
                rw [List.length_append] at g1
                have hpc : allOk l0 ((cs.drop f.offset).take (P.cellsOf f.type)):=by
                 refine ⟨by rw [List.length_take,List.length_drop,hc,ho];omega,fun i dd v hd hv=> ?_⟩
                 have hil : i < l0.length:=(List.getElem?_eq_some_iff.1 hd).1
                 rw [List.getElem?_take,if_pos (by omega),List.getElem?_drop,ho] at hv
                 refine hall (acc.length + i) dd v ?_ hv
                 rw [g2,List.append_assoc,List.getElem?_append_right (by omega),show acc.length + i - acc.length=i by omega,List.getElem?_append_left hil]
                 exact hd
                have hk:=ih f.type l0 _ d hfd hnb.1 hpc (by omega)
                refine ⟨by omega,⟨l0 ++ pre,by rw [g2,List.append_assoc]⟩,_ :: pieces,by rw [List.mapM_cons,hk,g3];rfl,?_⟩
                rw [List.flatten_cons,g4,ho,hc,List.length_append,show ds.length - acc.length=l0.length + (ds.length - (acc.length + l0.length)) by omega,List.take_add,List.map_append,List.drop_drop]
              · simp only [Option.bind_some,if_neg hc] at h
                simp at h
          · rw [if_neg ho] at h;simp at h
       obtain ⟨_,_,pieces,k3,k4⟩:=key fs.toList [] ds0 hb.2 h (by omega) hok
       unfold Program.keyLits
       rw [hu]
       simp only
       rw [if_pos ⟨by rw [hl,hct],hb.1⟩,k3,Option.map_some,k4]
       simp [← hl]
     | array m e=>
       simp only at h
       cases hfd : flatDesc P n e with
       | none=>simp [hfd] at h
       | some l0=>
         rw [hfd] at h
         by_cases hc : P.cellsOf e=l0.length∧P.cellsOf t=m * l0.length
         · simp only [Option.bind_some,if_pos hc,Option.some.injEq] at h
           subst h
           have hfl : (List.replicate m l0).flatten.length=m * l0.length:=by simp
           rw [hfl] at hl
           unfold Program.keyLits
           rw [hu]
           simp only
           rw [if_pos (by rw [hl,hc.2])]
           rw [mapM_range_pieces (g:=fun i=>((cs.drop (i * P.cellsOf e)).take (P.cellsOf e)).map litOf) m (fun i hi=>ih e l0 _ d hfd hb ?_ (by omega))]
           · rw [Option.map_some,hc.1]
             have:=flatten_pieces (cs.map litOf) l0.length m
             rw [List.take_of_length_le (by simp [hl])] at this
             rw [← this]
             simp only [List.map_drop,List.map_take]
           · refine ⟨by rw [List.length_take,List.length_drop,hc.1,hl];have : i * l0.length + l0.length≤m * l0.length:=by rw [← Nat.succ_mul];exact Nat.mul_le_mul_right _ hi
                        omega,fun q dd v hd hv=> ?_⟩
             have hq : q < l0.length:=(List.getElem?_eq_some_iff.1 hd).1
             rw [hc.1,List.getElem?_take,if_pos hq,List.getElem?_drop] at hv
             refine hok (i * l0.length + q) dd v ?_ hv
             have hlt : i * l0.length + q < m * l0.length:=by
              have : i * l0.length + l0.length≤m * l0.length:=by rw [← Nat.succ_mul];exact Nat.mul_le_mul_right _ hi
              omega
             rw [replicate_flatten_get,if_pos hlt,Nat.mul_comm,Nat.mul_add_mod,Nat.mod_eq_of_lt hq]
             exact hd
         · simp only [Option.bind_some,if_neg hc] at h
           simp at h
     | _=>simp at h
theorem litOf_inj {d : TypeDesc} {a b : Value} (ha : cellOk d a) (hb : cellOk d b) (h : litOf a=litOf b) : a=b:=by
 cases d with
 | int k=>
   obtain ⟨m,rfl,_⟩:=ha
   obtain ⟨q,rfl,_⟩:=hb
   simp only [litOf,Lit.int.injEq] at h
   rw [h.2]
 | bool=>
   obtain ⟨m,rfl⟩:=ha
   obtain ⟨q,rfl⟩:=hb
   simp only [litOf,Lit.bool.injEq] at h
   rw [h]
 | string=>
   obtain ⟨m,rfl,_⟩:=ha
   obtain ⟨q,rfl,_⟩:=hb
   simp only [litOf,Lit.string.injEq] at h
   obtain ⟨m⟩:=m
   obtain ⟨q⟩:=q
   simp only at h
   rw [Array.toList_inj.1 h]
 | _=>exact absurd ha (by simp [cellOk])
theorem lits_eq {ds : List TypeDesc} {xs ys : List Value} (hx : allOk ds xs) (hy : allOk ds ys) : xs.map litOf=ys.map litOf↔xs=ys:=by
 constructor
 · intro h
   apply List.ext_getElem?
   intro i
   by_cases hi : i < ds.length
   · have h1 : i < xs.length:=by rw [hx.1];exact hi
     have h2 : i < ys.length:=by rw [hy.1];exact hi
     rw [List.getElem?_eq_getElem h1,List.getElem?_eq_getElem h2]
     have h3 : (xs.map litOf)[i]? =(ys.map litOf)[i]? :=by rw [h]
     rw [List.getElem?_map,List.getElem?_map,List.getElem?_eq_getElem h1,List.getElem?_eq_getElem h2] at h3
     simp only [Option.map_some,Option.some.injEq] at h3
     rw [litOf_inj (hx.2 i _ _ (List.getElem?_eq_getElem hi) (List.getElem?_eq_getElem h1)) (hy.2 i _ _ (List.getElem?_eq_getElem hi) (List.getElem?_eq_getElem h2)) h3]
   · rw [List.getElem?_eq_none (by rw [hx.1];omega),List.getElem?_eq_none (by rw [hy.1];omega)]
 · rintro rfl;rfl
theorem eql_flat {n m : Nat} {t : TypeId} {ds : List TypeDesc} {fs : Array Field} (hu : P.underlying t=some (.struct fs)) (hct : P.cellsOf t=ds.length) (hf : flatDesc P n t=some ds) (hb : noBlank P n t=true) (hk : P.keyTypeAt m t=true) (hm : m≤10000)
 (xs ys : List Value) (hx : allOk ds xs) (hy : allOk ds ys) (q : Bool) (hq : (q=true↔xs=ys)) (w : World) :
 (binOp .eql t (.agg xs.toArray) (.agg ys.toArray)).run P w= .ok (.bool q) w:=by
 have fx : (Value.agg xs.toArray).formed P t=true:=by unfold Value.formed;rw [hu];simp [hct,hx.1]
 have fy : (Value.agg ys.toArray).formed P t=true:=by unfold Value.formed;rw [hu];simp [hct,hy.1]
 have kx:=flat_keyLits n t ds xs n hf hb hx (Nat.le_refl _)
 have ky:=flat_keyLits n t ds ys n hf hb hy (Nat.le_refl _)
 obtain ⟨r,hr,hiff⟩:=run_equalIn_deep (10000 - m) m t hk w n n _ _ _ _ fx fy (by simpa [Value.cells] using kx) (by simpa [Value.cells] using ky)
 rw [run_eql_struct,show (10000 : Nat)=10000 - m + m by omega,hr]
 have : r=q:=by rw [Bool.eq_iff_iff,hiff,lits_eq hx hy,hq]
 rw [this]
 rfl
end
section
variable {P : Program} {ops : Array Oper} {Q : Exit→Act→World→Prop} {a : Act} {w : World} {rest : List Oper} {o : Oper}
theorem wpList_eql_at (t t' : TypeId) (x y : Operand) (ho : o.op= .binOp .eql t x y t') (hw : Region.wanted o (yielded ops a.tmps)=true) (xs ys : Array Value) (hx : a.eval x= .agg xs) (hy : a.eval y= .agg ys)
 (hm : P.eqGuardType P.depth t=false) (q : Bool) (hq : (binOp .eql t (.agg xs) (.agg ys)).run P w= .ok (.bool q) w) (h : wpList P ops Q rest (a.put o.dst (.bool q)) w) : wpList P ops Q (o :: rest) a w:=
 wpList_val hw (by
  unfold execOp
  simp only [ho,hx,hy,Sem.run_bind,run_eqGuard_agg w .eql t x y xs ys hm,Result.andThen_ok,hq,Sem.run_pure]) h
end
end Go.Proofs.YtmicohmbmgbnkaaGreatDoor
