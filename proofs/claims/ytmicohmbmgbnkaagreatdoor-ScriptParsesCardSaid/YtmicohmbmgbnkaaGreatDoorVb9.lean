/- Texts joined: what each shows stands ahead of its theorems. -/
import Derived.Test.YtmicohmbmgbnkaaGreatDoorVb0
import Derived.Laws.CopyRow
import Derived.Laws.CopyOwn
import Derived.Test.YtmicohmbmgbnkaaGreatDoorVb8
namespace Go.Proofs.YtmicohmbmgbnkaaGreatDoor
section
open Go.RowKit
theorem resV2 {P : Program} {fn : Func} {p u : Tmp} {ty : TypeId} (h : fn.results=#[.cell p ty,.tmp u]) (tmps : Array Value) (w : World) (g : Nat) (t : TypeId) (cs : Array Value) (fr : Nat × Nat) (d : TypeDesc) (v : Value)
 (hp : tmps.getD p undef= .pointer (some ⟨g,0,none⟩)) (hg : w.heap[g]? =some (.cells cs t fr))
 (hu : P.underlying ty=some d) (hd : (match d with | .struct _ | .array _ _=>true | _=>false)=true) (hi : (P.info? ty).map (·.size)=some cs.size) (hv : tmps.getD u undef=v) :
 (results fn tmps).run P w= .ok (.tuple #[.agg cs,v]) w:=by
 rw [results_cell_tmp h,hp,hv]
 simp [asAddr,run_loadVar_row w g t ty cs fr d hg hu hd hi]
theorem hsetRow (w : World) (g : Nat) (old cs : Array Value) (t : TypeId) (fr : Nat × Nat) (h : w.heap[g]? =some (.cells old t fr)) : (w.setRow g cs).heap[g]? =some (.cells cs t fr):=by
 simp only [World.setRow,Array.getElem?_modify,if_true,h,Option.map_some]
end
section
open Go Go.RowKit Go.Shelf
open Go.Lib (itoa)
def Ans {α : Type} (o : Option α) (b : Bool) (x : α) : Prop:=o=if b=true then some x else none
theorem Ans.yes {α : Type} {o : Option α} {x : α} (h : Ans o true x) : o=some x:=h
theorem Ans.no {α : Type} {o : Option α} {x : α} (h : Ans o false x) : o=none:=h
theorem Ans.of {α : Type} (o : Option α) (d : α) : Ans o o.isSome (o.getD d):=by cases o <;> rfl
theorem NbR.ans {L : List UInt8} {r : Ending} (h : NbR L r) : ∃(n : Int) (b : Bool),r= .returned (.tuple #[.int .i64 n,.bool b])∧Ans (numL L) b n:=⟨_,_,h,Ans.of _ _⟩
theorem UnR.ans {L : List UInt8} {r : Ending} (h : UnR L r) : ∃(u : List UInt8) (b : Bool),r= .returned (.tuple #[.string (bs u),.bool b])∧Ans (unescL L) b u:=⟨_,_,h,Ans.of _ _⟩
theorem bs_nil {u : List UInt8} : (bs u).toList.isEmpty=decide (u=[]):=by
 rw [ByteArray.toList_eq]
 cases u with
 | nil=>rfl
 | cons x r=>rfl
set_option maxRecDepth 100000 in
set_option maxHeartbeats 2000000 in
theorem readName_any (s : ByteArray) (w : World) (hs : s.size≤1099511627776) :
 Calls Tryz.prog 111 #[.string s] w fun r w'=> ∃(u : List UInt8) (b : Bool),r= .returned (.tuple #[.string (bs u),.bool b])∧Ans (rdName s.data.toList) b u∧Below w.heap.size w w':=by
 by_cases h : s.data.toList=[59]
 · have hq : (s.toList == [59])=true:=by rw [ByteArray.toList_eq,h];rfl
   have hR:=Lib.hid (show Ans (rdName s.data.toList) true [] by unfold rdName Ans;rw [if_pos h];rfl)
   clear h
   go_enter Tryz.func111,Tryz.ntmps111
   go_wp2_with fail
   go_ret2
   exact ⟨[],true,rfl,hR.out,Below.refl _ _⟩
 · have hq : (s.toList == [59])=false:=by rw [ByteArray.toList_eq,beq_eq_false_iff_ne];exact h
   have cU:=Lib.hid (unescape_any s w hs)
   have hR : ∀u b,Ans (unescL s.data.toList) b u→Ans (rdName s.data.toList) (b && !(bs u).toList.isEmpty) u:=fun u b ha=>by
    unfold rdName
    rw [if_neg h]
    cases b with
    | false=>rw [ha.no];rfl
    | true=>
      rw [ha.yes,bs_nil]
      dsimp only
      by_cases hu : u=[]
      · rw [if_pos hu,decide_eq_true hu];rfl
      · rw [if_neg hu,decide_eq_false hu];rfl
   replace hR:=Lib.hid hR
   clear h
   go_enter Tryz.func111,Tryz.ntmps111
   go_upto_region 4 with (go_at_call 11;(with_reducible refine cU.out.mono ?_);rintro r w1 ⟨hu,hb⟩;obtain ⟨u,b,rfl,ha⟩:=hu.ans;replace ha:=Lib.hid (hR.out u b ha);replace hb:=Lib.hid hb;clear hu)
   cases b with
   | false=>
     go_wp2_with fail
     go_ret2
     exact ⟨u,false,rfl,ha.out,hb.out⟩
   | true=>
     cases hz : (bs u).toList.isEmpty with
     | true=>
       rw [hz] at ha
       go_wp2_with fail
       go_ret2
       exact ⟨u,false,rfl,ha.out,hb.out⟩
     | false=>
       rw [hz] at ha
       go_wp2_with fail
       go_ret2
       exact ⟨u,true,rfl,ha.out,hb.out⟩
theorem rdGr_ans {t p q : List UInt8} {c b1 b2 : Bool} {u : List UInt8} {n : Int} (h : cutL 58 t=(p,q,c)) (h1 : Ans (unescL p) b1 u) (h2 : Ans (numL q) b2 n) : Ans (rdGr t) (c && b1 && b2) ⟨u,n⟩:=by
 unfold rdGr
 rw [h]
 dsimp only
 cases c with
 | false=>rfl
 | true=>
   rw [if_pos rfl]
   cases b1 with
   | false=>rw [h1.no];rfl
   | true=>
     rw [h1.yes]
     cases b2 with
     | false=>rw [h2.no];rfl
     | true=>rw [h2.yes];rfl
theorem cutL_len (c : UInt8) (s : List UInt8) : (cutL c s).1.length≤s.length∧(cutL c s).2.1.length≤s.length:=by
 rcases cutL_cases c s with ⟨_,e⟩ | ⟨a,b,_,e,e2⟩
 · rw [e];exact ⟨Nat.le_refl _,Nat.zero_le _⟩
 · rw [e2,e];simp only [List.length_append,List.length_cons];omega
theorem GrX.one (g : GrX) : g.row.toArray.all (·.oneCell')=true:=by simp [GrX.row,Value.oneCell']
theorem OpX.one (g : OpX) : g.row.toArray.all (·.oneCell')=true:=by simp [OpX.row,Value.oneCell']
set_option maxRecDepth 100000 in
set_option maxHeartbeats 4000000 in
theorem readGrant_any (s : ByteArray) (w : World) (E : EnvS w) (hs : s.size < 4294967281) :
 Calls Tryz.prog 117 #[.string s] w fun r w'=> ∃(g : GrX) (b : Bool),r= .returned (.tuple #[.agg g.row.toArray,.bool b])∧Ans (rdGr s.data.toList) b g∧Below w.heap.size w w':=by
 have hB0:=below_new w (.cells grZ 108)
 have hz0:=heap_new w (.cells grZ 108)
 have hlt:=(Array.getElem?_eq_some_iff.1 hz0).1
 have cC:=cut_any 58 s _ (E.keep hB0 E.size) hs
 obtain ⟨p,q,c,hpq⟩ : ∃p q c,cutL 58 s.data.toList=(p,q,c):=⟨_,_,_,rfl⟩
 obtain ⟨hp,hq⟩:=cutL_len 58 s.data.toList
 have hsl : s.data.toList.length=s.size:=by rw [Array.length_toList];rfl
 rw [hpq] at cC hp hq
 have cU:=Lib.hid (fun W=>unescape_any (bs p) W (by rw [bs_size];dsimp only at hp;omega))
 have cN:=Lib.hid (fun W (h : Below w.heap.size w W)=>number_any (bs q) W (E.keep h E.size) (by rw [bs_size];dsimp only at hq;omega))
 rw [bs_list] at cU cN
 have hA:=Lib.hid (fun (b1 b2 : Bool) (u : List UInt8) (n : Int) h1 h2=>rdGr_ans (b1:=b1) (b2:=b2) (u:=u) (n:=n) hpq h1 h2)
 have hKz:=Lib.hid (fun W (h : Below (w.alloc (.cells grZ 108)).heap.size (w.alloc (.cells grZ 108)) W)=>(h.block w.heap.size hlt).trans hz0)
 dsimp only at cC
 replace cC:=Lib.hid cC
 replace hB0:=Lib.hid hB0
 clear hpq hp hq hsl hz0 hlt
 go_enter Tryz.func117,Tryz.ntmps117
 go_upto_region 4 with (first
  | (refine wpList_alloc_row 108 rfl rfl grZ gr_zero ?_)
  | (go_at_call 46;(with_reducible refine cC.out.mono ?_);rintro r w1 ⟨rfl,hb1⟩;have hB1:=Lib.hid (hB0.out.trans (hb1.mono hB0.out.size));have hK1:=Lib.hid hb1;clear hb1)
  | (go_at_call 11;(with_reducible refine (cU.out w1).mono ?_);rintro r w2 ⟨hu,hb2⟩;obtain ⟨u,b1,rfl,ha1⟩:=hu.ans;replace ha1:=Lib.hid ha1;have hB2:=Lib.hid (hB1.out.trans (hb2.mono hB1.out.size));have hK2:=Lib.hid (hK1.out.trans (hb2.mono hK1.out.size));clear hb2 hu)
  | (go_at_call 91;(with_reducible refine (cN.out w2 hB2.out).mono ?_);rintro r w3 ⟨hn,hb3⟩;obtain ⟨n,b2,rfl,ha2⟩:=hn.ans;have hB3:=Lib.hid (hB2.out.trans (hb3.mono hB2.out.size));have hK3:=hKz.out _ (hK2.out.trans (hb3.mono hK2.out.size));have hAn:=hA.out _ _ _ _ ha1.out ha2;clear hb3 hn ha2))
 have h2a : (#[.string (bs u),.int .i64 n] : Array Value).all (·.oneCell')=true:=by simp [Value.oneCell']
 replace hAn:=Lib.hid hAn
 cases c <;> cases b1 <;> cases b2
 all_goals
  go_wp2_with (first
   | (refine wpList_store_at 108 _ _ rfl rfl w.heap.size #[.string (bs u),.int .i64 n] rfl rfl 108 grZ hK3 (by kernel_rfl) rfl h2a ?_))
  refine bodyPost_ret (resV2 rfl _ _ w.heap.size 108 #[.string (bs u),.int .i64 n] (0,0) _ _ rfl (hsetRow _ _ _ _ _ _ hK3) Tryz.underlying108 rfl (by kernel_rfl) rfl) rfl ⟨⟨u,n⟩,_,rfl,hAn.out,below_setRow hB3.out (Nat.le_refl _) _⟩
end
end Go.Proofs.YtmicohmbmgbnkaaGreatDoor
