/- The texts of a list's elements. (printed by wip/gen_sko.py) -/
import Derived.Test.YtmicohmbmgbnkaaGreatDoorVb4
import Derived.Test.YtmicohmbmgbnkaaGreatDoorVb5
namespace Go.Proofs.YtmicohmbmgbnkaaGreatDoor
open Go Go.RowKit Go.Shelf
open Go.Lib (itoa)
def OpX.row (o : OpX) : List Value:=[.int .i64 o.kind,.int .i64 o.a,.int .i64 o.b,.int .i64 o.c,.string (bs o.s)]
def GrX.row (g : GrX) : List Value:=[.string (bs g.user),.int .i64 g.who]
theorem bs_join2 (c : UInt8) (p q : List UInt8) : bs (joinL c [p,q])=bs p ++ ⟨#[c]⟩ ++ bs q:=by
 rw [joinL_cons (by simp),show c :: joinL c [q]=[c] ++ q from rfl,← bs_app,← bs_app,ByteArray.append_assoc]
 rfl
theorem bs_join5 (c : UInt8) (p q r s t : List UInt8) : bs (joinL c [p,q,r,s,t])=bs p ++ ⟨#[c]⟩ ++ bs q ++ ⟨#[c]⟩ ++ bs r ++ ⟨#[c]⟩ ++ bs s ++ ⟨#[c]⟩ ++ bs t:=by
 rw [joinL_cons (by simp),joinL_cons (by simp),joinL_cons (by simp)]
 have h : ∀(x : List UInt8) y,bs (x ++ c :: y)=bs x ++ ⟨#[c]⟩ ++ bs y:=fun x y=>by
  rw [show c :: y=[c] ++ y from rfl,← bs_app,← bs_app,ByteArray.append_assoc]
  rfl
 rw [h,h,h,bs_join2]
 simp only [ByteArray.append_assoc]
theorem itoa_sz {n : Int} (h : I64 n) : (bs (itoa n)).size≤20:=by rw [bs_size];exact itoa_len20 h
set_option maxRecDepth 100000 in
theorem writeName_any (s : List UInt8) (w : World) (hs : s.length≤1099511627776) :
 Calls Tryz.prog 108 #[.string (bs s)] w fun r w'=>r= .returned (.string (bs (wrName s)))∧Below w.heap.size w w':=by
 have cE:=Lib.hid (escape_any (bs s) w (by rw [bs_size];exact hs))
 rw [bs_list] at cE
 unfold wrName
 by_cases h : s=[]
 · subst h
   rw [if_pos rfl]
   have h1 : (bs []).toList.isEmpty=true:=by rw [ByteArray.toList_eq];rfl
   go_enter Tryz.func108,Tryz.ntmps108
   go_wp2_with fail
   go_ret
   exact ⟨rfl,Below.refl _ _⟩
 · rw [if_neg h]
   have h1 : (bs s).toList.isEmpty=false:=by
    rw [ByteArray.toList_eq]
    cases s with
    | nil=>exact absurd rfl h
    | cons x r=>rfl
   generalize escL s=t at *
   generalize bs s=y at *
   go_enter Tryz.func108,Tryz.ntmps108
   go_wp2_with (go_at_call 10;(with_reducible refine cE.out.mono ?_);rintro r w1 ⟨rfl,hb⟩;replace hb:=Lib.hid hb)
   go_ret
   exact ⟨rfl,hb.out⟩
def dsWg : List (Option Nat):=[some 3,some 4,some 5,some 6,some 7,some 8,some 9,some 10,some 2]
def tbWg : List (List Nat):=[[],[0],[1],[2],[],[4],[5],[3,6],[7]]
def vsWg (p : Nat) (u : ByteArray) (n : Int) (y1 : ByteArray) (y2 : ByteArray) : List (Option Value):=[some (.pointer (some ⟨p,0,none⟩)),some (.string u),some (.string y1),some (.string (y1 ++ ⟨#[58]⟩)),some (.pointer (some ⟨p,1,none⟩)),some (.int .i64 n),some (.string y2),some (.string (y1 ++ ⟨#[58]⟩ ++ y2)),some (.string (y1 ++ ⟨#[58]⟩ ++ y2))]
set_option maxRecDepth 100000 in
set_option maxHeartbeats 4000000 in
theorem writeGrant_any (g : GrX) (w : World) (E : EnvS w) (hw : I64 g.who) (hs : g.user.length≤1099511627776) :
 Calls Tryz.prog 114 #[.agg g.row.toArray] w fun r w'=>r= .returned (.string (bs (wrGr g)))∧Below w.heap.size w w':=by
 obtain ⟨us,n⟩:=g
 dsimp only at hw hs
 have hB0:=below_new2 w (.cells #[.string (bs us),.int .i64 n] 108)
 have hg:=heap_new w (.cells #[.string (bs us),.int .i64 n] 108)
 have hlt:=(Array.getElem?_eq_some_iff.1 hg).1
 have hCl:=Lib.hid (fun W' (h : Below (w.alloc (.cells #[.string (bs us),.int .i64 n] 108)).heap.size (w.alloc (.cells #[.string (bs us),.int .i64 n] 108)) W')=>(show W'.cell? ⟨w.heap.size,0,none⟩=some (.string (bs us))∧W'.cell? ⟨w.heap.size,1,none⟩=some (.int .i64 n) from And.intro ((h.cell (p:=⟨w.heap.size,0,none⟩) hlt).trans (cell_of_row _ _ 0 _ _ _ hg)) ((h.cell (p:=⟨w.heap.size,1,none⟩) hlt).trans (cell_of_row _ _ 1 _ _ _ hg))))
 have cE:=Lib.hid (fun W' (h : Below (w.alloc (.cells #[.string (bs us),.int .i64 n] 108)).heap.size (w.alloc (.cells #[.string (bs us),.int .i64 n] 108)) W')=>escape_any (bs us) W' (by rw [bs_size];exact hs))
 have cI:=Lib.hid (fun W' (h : Below (w.alloc (.cells #[.string (bs us),.int .i64 n] 108)).heap.size (w.alloc (.cells #[.string (bs us),.int .i64 n] 108)) W')=>itoa_any n hw W' (E.keep (hB0.trans (h.mono hB0.size)) E.size))
 rw [bs_list] at cE
 have hR:=bs_join2 58 (escL us) (itoa n)
 have h1:=escL_len us
 have hz1 : ¬9223372036854775807 < (bs (escL us)).size + 1:=by rw [bs_size];omega
 have hz2 : ¬9223372036854775807 < (bs (escL us)).size + 1 + (bs (itoa n)).size:=by have:=itoa_sz hw;simp only [bs_size] at this ⊢;omega
 unfold wrGr GrX.row
 dsimp only at *
 rw [hR]
 replace hB0:=Lib.hid hB0
 replace hz1:=Lib.hid hz1
 replace hz2:=Lib.hid hz2
 clear hg hlt hR h1 E
 generalize bs (escL us)=y1 at *
 generalize bs (itoa n)=y2 at *
 generalize bs us=u at *
 go_enter Tryz.func114,Tryz.ntmps114
 go_upto_region 1 with fail
 generalize (w.alloc (.cells #[Value.string u,.int .i64 n] 108))=W1 at *
 refine region_iw tbWg dsWg (vsWg (w.heap.size) u n y1 y2) (fun L T W=>Below W1.heap.size W1 W) rfl (by decide) (by kernel_rfl) ?hlt ?hstep ?hdone ?hstart
 case hstart=>exact drewN_below 1
 case hlt=>
  intro ix o ho
  have hi:=(Array.getElem?_eq_some_iff.1 ho).1
  match ix,hi with
  | 0,_=>obtain rfl:=Option.some.inj ho;decide
  | 1,_=>obtain rfl:=Option.some.inj ho;decide
  | 2,_=>obtain rfl:=Option.some.inj ho;decide
  | 3,_=>obtain rfl:=Option.some.inj ho;decide
  | 4,_=>obtain rfl:=Option.some.inj ho;decide
  | 5,_=>obtain rfl:=Option.some.inj ho;decide
  | 6,_=>obtain rfl:=Option.some.inj ho;decide
  | 7,_=>obtain rfl:=Option.some.inj ho;decide
  | 8,_=>obtain rfl:=Option.some.inj ho;decide
 case hstep=>
  intro T1 hE L T W ix o hF hW hc ho hLi hd K hK
  have hN : T1.size=11:=by rw [hE];rfl
  have f1 : T.getD 1 undef= .pointer (some ⟨(w.heap.size),0,none⟩):=(hF.old 1 (by decide)).trans (by rw [hE];rfl)
  clear hE
  replace hF:=Lib.hid hF
  replace hW:=Lib.hid hW
  replace hK:=Lib.hid hK
  have hi:=(List.getElem?_eq_some_iff.1 ho).1
  match ix,hi with
  | 0,_=>
    obtain rfl:=Option.some.inj ho
    clear hd ho hi hc hLi
    exact st_val (v:= .pointer (some ⟨(w.heap.size),0,none⟩)) (w':=W) (want_none rfl) (by unfold execOp;dsimp only [Act.eval];simp only [f1];go_simp) (hK.out _ _ (hF.out.putv (k:=0) (s:=3) rfl (by decide) hN (by decide) rfl hW.out))
  | 1,_=>
    obtain rfl:=Option.some.inj ho
    have l0 : L 0=true:=dep_of hd (n:=0) (by decide)
    have e3 : T.getD 3 undef= .pointer (some ⟨(w.heap.size),0,none⟩):=hF.out.val 0 3 _ l0 rfl rfl
    have hcc:=(hCl.out W hW.out).1
    clear hd ho hi hc hLi
    exact st_val (v:= .string u) (w':=W) (want_none rfl) (by unfold execOp;dsimp only [Act.eval];simp only [e3];go_simp) (hK.out _ _ (hF.out.putv (k:=1) (s:=4) rfl (by decide) hN (by decide) rfl hW.out))
  | 2,_=>
    obtain rfl:=Option.some.inj ho
    have l1 : L 1=true:=dep_of hd (n:=1) (by decide)
    have e4 : T.getD 4 undef= .string u:=hF.out.val 1 4 _ l1 rfl rfl
    have cc:=Lib.hid (cE.out W hW.out)
    clear hd ho hi hc hLi
    refine st_call (want_none rfl) (by unfold execOp;go_simp) cc.out ?_
    rintro r w3 ⟨rfl,hb⟩
    exact ⟨_,rfl,hK.out _ _ (hF.out.putv (k:=2) (s:=5) rfl (by decide) hN (by decide) rfl (hW.out.trans (hb.mono hW.out.size)))⟩
  | 3,_=>
    obtain rfl:=Option.some.inj ho
    have l2 : L 2=true:=dep_of hd (n:=2) (by decide)
    have e5 : T.getD 5 undef= .string y1:=hF.out.val 2 5 _ l2 rfl rfl
    have hz:=hz1.out
    clear hd ho hi hc hLi
    exact st_val (v:= .string (y1 ++ ⟨#[58]⟩)) (w':=W) (want_none rfl) (by unfold execOp;dsimp only [Act.eval];simp only [e5];go_simp) (hK.out _ _ (hF.out.putv (k:=3) (s:=6) rfl (by decide) hN (by decide) rfl hW.out))
  | 4,_=>
    obtain rfl:=Option.some.inj ho
    clear hd ho hi hc hLi
    exact st_val (v:= .pointer (some ⟨(w.heap.size),1,none⟩)) (w':=W) (want_none rfl) (by unfold execOp;dsimp only [Act.eval];simp only [f1];go_simp) (hK.out _ _ (hF.out.putv (k:=4) (s:=7) rfl (by decide) hN (by decide) rfl hW.out))
  | 5,_=>
    obtain rfl:=Option.some.inj ho
    have l4 : L 4=true:=dep_of hd (n:=4) (by decide)
    have e7 : T.getD 7 undef= .pointer (some ⟨(w.heap.size),1,none⟩):=hF.out.val 4 7 _ l4 rfl rfl
    have hcc:=(hCl.out W hW.out).2
    clear hd ho hi hc hLi
    exact st_val (v:= .int .i64 n) (w':=W) (want_none rfl) (by unfold execOp;dsimp only [Act.eval];simp only [e7];go_simp) (hK.out _ _ (hF.out.putv (k:=5) (s:=8) rfl (by decide) hN (by decide) rfl hW.out))
  | 6,_=>
    obtain rfl:=Option.some.inj ho
    have l5 : L 5=true:=dep_of hd (n:=5) (by decide)
    have e8 : T.getD 8 undef= .int .i64 n:=hF.out.val 5 8 _ l5 rfl rfl
    have cc:=Lib.hid (cI.out W hW.out)
    clear hd ho hi hc hLi
    refine st_call (want_none rfl) (by unfold execOp;go_simp) cc.out ?_
    rintro r w3 ⟨rfl,hb⟩
    exact ⟨_,rfl,hK.out _ _ (hF.out.putv (k:=6) (s:=9) rfl (by decide) hN (by decide) rfl (hW.out.trans (hb.mono hW.out.size)))⟩
  | 7,_=>
    obtain rfl:=Option.some.inj ho
    have l3 : L 3=true:=dep_of hd (n:=3) (by decide)
    have e6 : T.getD 6 undef= .string (y1 ++ ⟨#[58]⟩):=hF.out.val 3 6 _ l3 rfl rfl
    have l6 : L 6=true:=dep_of hd (n:=6) (by decide)
    have e9 : T.getD 9 undef= .string y2:=hF.out.val 6 9 _ l6 rfl rfl
    have hz:=hz2.out
    clear hd ho hi hc hLi
    exact st_val (v:= .string (y1 ++ ⟨#[58]⟩ ++ y2)) (w':=W) (want_none rfl) (by unfold execOp;dsimp only [Act.eval];simp only [e6,e9];go_simp) (hK.out _ _ (hF.out.putv (k:=7) (s:=10) rfl (by decide) hN (by decide) rfl hW.out))
  | 8,_=>
    obtain rfl:=Option.some.inj ho
    have l7 : L 7=true:=dep_of hd (n:=7) (by decide)
    have e10 : T.getD 10 undef= .string (y1 ++ ⟨#[58]⟩ ++ y2):=hF.out.val 7 10 _ l7 rfl rfl
    clear hd ho hi hc hLi
    exact st_val (v:= .string (y1 ++ ⟨#[58]⟩ ++ y2)) (w':=W) (want_none rfl) (by unfold execOp;dsimp only [Act.eval];simp only [e10];go_simp) (hK.out _ _ (hF.out.putv (k:=8) (s:=2) rfl (by decide) hN (by decide) rfl hW.out))
 case hdone=>
  intro L T W2 hF hW hall
  have hT : T=#[.agg #[.string u,.int .i64 n],.pointer (some ⟨(w.heap.size),0,none⟩),.string (y1 ++ ⟨#[58]⟩ ++ y2),.pointer (some ⟨(w.heap.size),0,none⟩),.string u,.string y1,.string (y1 ++ ⟨#[58]⟩),.pointer (some ⟨(w.heap.size),1,none⟩),.int .i64 n,.string y2,.string (y1 ++ ⟨#[58]⟩ ++ y2)]:=(hF.fin [(3,.pointer (some ⟨(w.heap.size),0,none⟩)),(4,.string u),(5,.string y1),(6,.string (y1 ++ ⟨#[58]⟩)),(7,.pointer (some ⟨(w.heap.size),1,none⟩)),(8,.int .i64 n),(9,.string y2),(10,.string (y1 ++ ⟨#[58]⟩ ++ y2)),(2,.string (y1 ++ ⟨#[58]⟩ ++ y2))] [3,4,5,6,7,8,9,10,2] rfl (List.forall_mem_cons.2 ⟨hF.val 0 _ _ (hall 0 (show 0 < 9 by decide)) rfl rfl,(List.forall_mem_cons.2 ⟨hF.val 1 _ _ (hall 1 (show 1 < 9 by decide)) rfl rfl,(List.forall_mem_cons.2 ⟨hF.val 2 _ _ (hall 2 (show 2 < 9 by decide)) rfl rfl,(List.forall_mem_cons.2 ⟨hF.val 3 _ _ (hall 3 (show 3 < 9 by decide)) rfl rfl,(List.forall_mem_cons.2 ⟨hF.val 4 _ _ (hall 4 (show 4 < 9 by decide)) rfl rfl,(List.forall_mem_cons.2 ⟨hF.val 5 _ _ (hall 5 (show 5 < 9 by decide)) rfl rfl,(List.forall_mem_cons.2 ⟨hF.val 6 _ _ (hall 6 (show 6 < 9 by decide)) rfl rfl,(List.forall_mem_cons.2 ⟨hF.val 7 _ _ (hall 7 (show 7 < 9 by decide)) rfl rfl,(List.forall_mem_cons.2 ⟨hF.val 8 _ _ (hall 8 (show 8 < 9 by decide)) rfl rfl,(fun _ h=>absurd h List.not_mem_nil)⟩)⟩)⟩)⟩)⟩)⟩)⟩)⟩)⟩) (by decide)).trans (by kernel_rfl)
  clear hF hall
  subst hT
  go_wp2_with fail
  go_ret
  exact ⟨rfl,hB0.out.trans (hW.mono hB0.out.size)⟩
def dsWo : List (Option Nat):=[some 3,some 4,some 5,some 6,some 7,some 8,some 9,some 10,some 11,some 12,some 13,some 14,some 15,some 16,some 17,some 18,some 19,some 20,some 21,some 22,some 23,some 24,some 25,some 26,some 2]
def tbWo : List (List Nat):=[[],[0],[1],[2],[3],[],[5],[6],[4,7],[8],[],[10],[11],[9,12],[13],[],[15],[16],[14,17],[18],[],[20],[21],[19,22],[23]]
def vsWo (p : Nat) (k : Nat) (a : Int) (b : Int) (c : Int) (s : ByteArray) (y0 : ByteArray) (ya : ByteArray) (yb : ByteArray) (yc : ByteArray) (ys : ByteArray) (d4 : ByteArray) (d8 : ByteArray) (d9 : ByteArray) (d13 : ByteArray) (d14 : ByteArray) (d18 : ByteArray) (d19 : ByteArray) (d23 : ByteArray) : List (Option Value):=[some (.pointer (some ⟨p,0,none⟩)),some (.int .i64 k),some (.pointer (some ⟨1,k,none⟩)),some (.string y0),some (.string d4),some (.pointer (some ⟨p,1,none⟩)),some (.int .i64 a),some (.string ya),some (.string d8),some (.string d9),some (.pointer (some ⟨p,2,none⟩)),some (.int .i64 b),some (.string yb),some (.string d13),some (.string d14),some (.pointer (some ⟨p,3,none⟩)),some (.int .i64 c),some (.string yc),some (.string d18),some (.string d19),some (.pointer (some ⟨p,4,none⟩)),some (.string s),some (.string ys),some (.string d23),some (.string d23)]
theorem opW_size : ∀k : Nat,k < 15→(bs (opW.getD k [])).size≤10:=by
 have : ∀k : Fin 15,(bs (opW.getD k.1 [])).size≤10:=by decide +kernel
 exact fun k h=>this ⟨k,h⟩
set_option maxRecDepth 100000 in
set_option maxHeartbeats 4000000 in
theorem writeOp_any (o : OpX) (w : World) (E : EnvS w) (ho : OkOp o) (hs : o.s.length≤1099511627776) :
 Calls Tryz.prog 96 #[.agg o.row.toArray] w fun r w'=>r= .returned (.string (bs (wrOp o)))∧Below w.heap.size w w':=by
 obtain ⟨kk,a,b,c,s⟩:=o
 obtain ⟨h0,h15,ha,hb,hc⟩:=ho
 dsimp only at h0 h15 ha hb hc hs
 obtain ⟨k,rfl⟩:=Int.eq_ofNat_of_zero_le h0
 have hk : k < 15:=by omega
 have hB0:=below_new2 w (.cells #[.int .i64 (k : Int),.int .i64 a,.int .i64 b,.int .i64 c,.string (bs s)] 85)
 have hg:=heap_new w (.cells #[.int .i64 (k : Int),.int .i64 a,.int .i64 b,.int .i64 c,.string (bs s)] 85)
 have hlt:=(Array.getElem?_eq_some_iff.1 hg).1
 have hE0:=fun W' (h : Below (w.alloc (.cells #[.int .i64 (k : Int),.int .i64 a,.int .i64 b,.int .i64 c,.string (bs s)] 85)).heap.size (w.alloc (.cells #[.int .i64 (k : Int),.int .i64 a,.int .i64 b,.int .i64 c,.string (bs s)] 85)) W')=>E.keep (hB0.trans (h.mono hB0.size)) E.size
 have hCl:=Lib.hid (fun W' (h : Below (w.alloc (.cells #[.int .i64 (k : Int),.int .i64 a,.int .i64 b,.int .i64 c,.string (bs s)] 85)).heap.size (w.alloc (.cells #[.int .i64 (k : Int),.int .i64 a,.int .i64 b,.int .i64 c,.string (bs s)] 85)) W')=>(show W'.cell? ⟨w.heap.size,0,none⟩=some (.int .i64 (k : Int))∧W'.cell? ⟨w.heap.size,1,none⟩=some (.int .i64 a)∧W'.cell? ⟨w.heap.size,2,none⟩=some (.int .i64 b)∧W'.cell? ⟨w.heap.size,3,none⟩=some (.int .i64 c)∧W'.cell? ⟨w.heap.size,4,none⟩=some (.string (bs s))∧W'.cell? ⟨1,k,none⟩=some (.string (bs (opW.getD k []))) from And.intro ((h.cell (p:=⟨w.heap.size,0,none⟩) hlt).trans (cell_of_row _ _ 0 _ _ _ hg)) (And.intro ((h.cell (p:=⟨w.heap.size,1,none⟩) hlt).trans (cell_of_row _ _ 1 _ _ _ hg)) (And.intro ((h.cell (p:=⟨w.heap.size,2,none⟩) hlt).trans (cell_of_row _ _ 2 _ _ _ hg)) (And.intro ((h.cell (p:=⟨w.heap.size,3,none⟩) hlt).trans (cell_of_row _ _ 3 _ _ _ hg)) (And.intro ((h.cell (p:=⟨w.heap.size,4,none⟩) hlt).trans (cell_of_row _ _ 4 _ _ _ hg)) ((hE0 W' h).ops k (opW.getD k []) (by rw [List.getD_eq_getElem?_getD,List.getElem?_eq_getElem (show k < opW.length from hk)];rfl))))))))
 have cE:=Lib.hid (fun W' (h : Below (w.alloc (.cells #[.int .i64 (k : Int),.int .i64 a,.int .i64 b,.int .i64 c,.string (bs s)] 85)).heap.size (w.alloc (.cells #[.int .i64 (k : Int),.int .i64 a,.int .i64 b,.int .i64 c,.string (bs s)] 85)) W')=>escape_any (bs s) W' (by rw [bs_size];exact hs))
 have cA:=Lib.hid (fun W' h=>itoa_any a ha W' (hE0 W' h))
 have cB:=Lib.hid (fun W' h=>itoa_any b hb W' (hE0 W' h))
 have cC:=Lib.hid (fun W' h=>itoa_any c hc W' (hE0 W' h))
 rw [bs_list] at cE
 have hR:=bs_join5 58 (opW.getD k []) (itoa a) (itoa b) (itoa c) (escL s)
 have h1 : (bs (escL s)).size≤3298534883328:=by have:=escL_len s;rw [bs_size];omega
 have h2:=opW_size k hk
 have h3:=itoa_sz ha
 have h4:=itoa_sz hb
 have h5:=itoa_sz hc
 have hk0:=Lib.hid h0
 have hk15:=Lib.hid h15
 unfold wrOp OpX.row
 dsimp only at *
 rw [Int.toNat_natCast,hR]
 replace hB0:=Lib.hid hB0
 clear hg hlt hR E hE0 ha hb hc
 generalize bs (escL s)=ys at *
 generalize bs (itoa a)=ya at *
 generalize bs (itoa b)=yb at *
 generalize bs (itoa c)=yc at *
 generalize bs (opW.getD k [])=y0 at *
 have hz4:=Lib.hid (show ¬9223372036854775807 < y0.size + 1 by omega)
 obtain ⟨d4,hq4,hs4⟩ : ∃z,y0 ++ ⟨#[58]⟩=z∧z.size=y0.size + 1:=⟨_,rfl,by rw [ByteArray.size_append] <;> first | done | rfl⟩
 rw [hq4]
 replace hq4:=Lib.hid hq4
 have hz8:=Lib.hid (show ¬9223372036854775807 < d4.size + ya.size by omega)
 obtain ⟨d8,hq8,hs8⟩ : ∃z,d4 ++ ya=z∧z.size=d4.size + ya.size:=⟨_,rfl,by rw [ByteArray.size_append] <;> first | done | rfl⟩
 rw [hq8]
 replace hq8:=Lib.hid hq8
 have hz9:=Lib.hid (show ¬9223372036854775807 < d8.size + 1 by omega)
 obtain ⟨d9,hq9,hs9⟩ : ∃z,d8 ++ ⟨#[58]⟩=z∧z.size=d8.size + 1:=⟨_,rfl,by rw [ByteArray.size_append] <;> first | done | rfl⟩
 rw [hq9]
 replace hq9:=Lib.hid hq9
 have hz13:=Lib.hid (show ¬9223372036854775807 < d9.size + yb.size by omega)
 obtain ⟨d13,hq13,hs13⟩ : ∃z,d9 ++ yb=z∧z.size=d9.size + yb.size:=⟨_,rfl,by rw [ByteArray.size_append] <;> first | done | rfl⟩
 rw [hq13]
 replace hq13:=Lib.hid hq13
 have hz14:=Lib.hid (show ¬9223372036854775807 < d13.size + 1 by omega)
 obtain ⟨d14,hq14,hs14⟩ : ∃z,d13 ++ ⟨#[58]⟩=z∧z.size=d13.size + 1:=⟨_,rfl,by rw [ByteArray.size_append] <;> first | done | rfl⟩
 rw [hq14]
 replace hq14:=Lib.hid hq14
 have hz18:=Lib.hid (show ¬9223372036854775807 < d14.size + yc.size by omega)
 obtain ⟨d18,hq18,hs18⟩ : ∃z,d14 ++ yc=z∧z.size=d14.size + yc.size:=⟨_,rfl,by rw [ByteArray.size_append] <;> first | done | rfl⟩
 rw [hq18]
 replace hq18:=Lib.hid hq18
 have hz19:=Lib.hid (show ¬9223372036854775807 < d18.size + 1 by omega)
 obtain ⟨d19,hq19,hs19⟩ : ∃z,d18 ++ ⟨#[58]⟩=z∧z.size=d18.size + 1:=⟨_,rfl,by rw [ByteArray.size_append] <;> first | done | rfl⟩
 rw [hq19]
 replace hq19:=Lib.hid hq19
 have hz23:=Lib.hid (show ¬9223372036854775807 < d19.size + ys.size by omega)
 obtain ⟨d23,hq23,hs23⟩ : ∃z,d19 ++ ys=z∧z.size=d19.size + ys.size:=⟨_,rfl,by rw [ByteArray.size_append] <;> first | done | rfl⟩
 rw [hq23]
 replace hq23:=Lib.hid hq23
 clear h0 h15 h1 h2 h3 h4 h5 hs4 hs8 hs9 hs13 hs14 hs18 hs19 hs23
 generalize bs s=s at *
 go_enter Tryz.func96,Tryz.ntmps96
 go_upto_region 1 with fail
 generalize (w.alloc (.cells #[Value.int .i64 (k : Int),.int .i64 a,.int .i64 b,.int .i64 c,.string s] 85))=W1 at *
 refine region_iw tbWo dsWo (vsWo (w.heap.size) k a b c s y0 ya yb yc ys d4 d8 d9 d13 d14 d18 d19 d23) (fun L T W=>Below W1.heap.size W1 W) rfl (by decide) (by kernel_rfl) ?hlt ?hstep ?hdone ?hstart
 case hstart=>exact drewN_below 1
 case hlt=>
  intro ix o ho
  have hi:=(Array.getElem?_eq_some_iff.1 ho).1
  match ix,hi with
  | 0,_=>obtain rfl:=Option.some.inj ho;decide
  | 1,_=>obtain rfl:=Option.some.inj ho;decide
  | 2,_=>obtain rfl:=Option.some.inj ho;decide
  | 3,_=>obtain rfl:=Option.some.inj ho;decide
  | 4,_=>obtain rfl:=Option.some.inj ho;decide
  | 5,_=>obtain rfl:=Option.some.inj ho;decide
  | 6,_=>obtain rfl:=Option.some.inj ho;decide
  | 7,_=>obtain rfl:=Option.some.inj ho;decide
  | 8,_=>obtain rfl:=Option.some.inj ho;decide
  | 9,_=>obtain rfl:=Option.some.inj ho;decide
  | 10,_=>obtain rfl:=Option.some.inj ho;decide
  | 11,_=>obtain rfl:=Option.some.inj ho;decide
  | 12,_=>obtain rfl:=Option.some.inj ho;decide
  | 13,_=>obtain rfl:=Option.some.inj ho;decide
  | 14,_=>obtain rfl:=Option.some.inj ho;decide
  | 15,_=>obtain rfl:=Option.some.inj ho;decide
  | 16,_=>obtain rfl:=Option.some.inj ho;decide
  | 17,_=>obtain rfl:=Option.some.inj ho;decide
  | 18,_=>obtain rfl:=Option.some.inj ho;decide
  | 19,_=>obtain rfl:=Option.some.inj ho;decide
  | 20,_=>obtain rfl:=Option.some.inj ho;decide
  | 21,_=>obtain rfl:=Option.some.inj ho;decide
  | 22,_=>obtain rfl:=Option.some.inj ho;decide
  | 23,_=>obtain rfl:=Option.some.inj ho;decide
  | 24,_=>obtain rfl:=Option.some.inj ho;decide
 case hstep=>
  intro T1 hE L T W ix o hF hW hc ho hLi hd K hK
  have hN : T1.size=27:=by rw [hE];rfl
  have f1 : T.getD 1 undef= .pointer (some ⟨(w.heap.size),0,none⟩):=(hF.old 1 (by decide)).trans (by rw [hE];rfl)
  clear hE
  replace hF:=Lib.hid hF
  replace hW:=Lib.hid hW
  replace hK:=Lib.hid hK
  have hi:=(List.getElem?_eq_some_iff.1 ho).1
  match ix,hi with
  | 0,_=>
    obtain rfl:=Option.some.inj ho
    clear hd ho hi hc hLi
    exact st_val (v:= .pointer (some ⟨(w.heap.size),0,none⟩)) (w':=W) (want_none rfl) (by unfold execOp;dsimp only [Act.eval];simp only [f1];go_simp) (hK.out _ _ (hF.out.putv (k:=0) (s:=3) rfl (by decide) hN (by decide) rfl hW.out))
  | 1,_=>
    obtain rfl:=Option.some.inj ho
    have l0 : L 0=true:=dep_of hd (n:=0) (by decide)
    have e3 : T.getD 3 undef= .pointer (some ⟨(w.heap.size),0,none⟩):=hF.out.val 0 3 _ l0 rfl rfl
    have hcc:=(hCl.out W hW.out).1
    clear hd ho hi hc hLi
    exact st_val (v:= .int .i64 k) (w':=W) (want_none rfl) (by unfold execOp;dsimp only [Act.eval];simp only [e3];go_simp) (hK.out _ _ (hF.out.putv (k:=1) (s:=4) rfl (by decide) hN (by decide) rfl hW.out))
  | 2,_=>
    obtain rfl:=Option.some.inj ho
    have l1 : L 1=true:=dep_of hd (n:=1) (by decide)
    have e4 : T.getD 4 undef= .int .i64 k:=hF.out.val 1 4 _ l1 rfl rfl
    have hk1:=hk0.out
    have hk2:=hk15.out
    clear hd ho hi hc hLi
    exact st_val (v:= .pointer (some ⟨1,k,none⟩)) (w':=W) (want_none rfl) (by unfold execOp;dsimp only [Act.eval];simp only [e4];go_simp) (hK.out _ _ (hF.out.putv (k:=2) (s:=5) rfl (by decide) hN (by decide) rfl hW.out))
  | 3,_=>
    obtain rfl:=Option.some.inj ho
    have l2 : L 2=true:=dep_of hd (n:=2) (by decide)
    have e5 : T.getD 5 undef= .pointer (some ⟨1,k,none⟩):=hF.out.val 2 5 _ l2 rfl rfl
    have hcc:=(hCl.out W hW.out).2.2.2.2.2
    clear hd ho hi hc hLi
    exact st_val (v:= .string y0) (w':=W) (want_none rfl) (by unfold execOp;dsimp only [Act.eval];simp only [e5];go_simp) (hK.out _ _ (hF.out.putv (k:=3) (s:=6) rfl (by decide) hN (by decide) rfl hW.out))
  | 4,_=>
    obtain rfl:=Option.some.inj ho
    have l3 : L 3=true:=dep_of hd (n:=3) (by decide)
    have e6 : T.getD 6 undef= .string y0:=hF.out.val 3 6 _ l3 rfl rfl
    have hz:=hz4.out
    have hq:=hq4.out
    clear hd ho hi hc hLi
    exact st_val (v:= .string d4) (w':=W) (want_none rfl) (by unfold execOp;dsimp only [Act.eval];simp only [e6];go_simp) (hK.out _ _ (hF.out.putv (k:=4) (s:=7) rfl (by decide) hN (by decide) rfl hW.out))
  | 5,_=>
    obtain rfl:=Option.some.inj ho
    clear hd ho hi hc hLi
    exact st_val (v:= .pointer (some ⟨(w.heap.size),1,none⟩)) (w':=W) (want_none rfl) (by unfold execOp;dsimp only [Act.eval];simp only [f1];go_simp) (hK.out _ _ (hF.out.putv (k:=5) (s:=8) rfl (by decide) hN (by decide) rfl hW.out))
  | 6,_=>
    obtain rfl:=Option.some.inj ho
    have l5 : L 5=true:=dep_of hd (n:=5) (by decide)
    have e8 : T.getD 8 undef= .pointer (some ⟨(w.heap.size),1,none⟩):=hF.out.val 5 8 _ l5 rfl rfl
    have hcc:=(hCl.out W hW.out).2.1
    clear hd ho hi hc hLi
    exact st_val (v:= .int .i64 a) (w':=W) (want_none rfl) (by unfold execOp;dsimp only [Act.eval];simp only [e8];go_simp) (hK.out _ _ (hF.out.putv (k:=6) (s:=9) rfl (by decide) hN (by decide) rfl hW.out))
  | 7,_=>
    obtain rfl:=Option.some.inj ho
    have l6 : L 6=true:=dep_of hd (n:=6) (by decide)
    have e9 : T.getD 9 undef= .int .i64 a:=hF.out.val 6 9 _ l6 rfl rfl
    have cc:=Lib.hid (cA.out W hW.out)
    clear hd ho hi hc hLi
    refine st_call (want_none rfl) (by unfold execOp;go_simp) cc.out ?_
    rintro r w3 ⟨rfl,hb⟩
    exact ⟨_,rfl,hK.out _ _ (hF.out.putv (k:=7) (s:=10) rfl (by decide) hN (by decide) rfl (hW.out.trans (hb.mono hW.out.size)))⟩
  | 8,_=>
    obtain rfl:=Option.some.inj ho
    have l4 : L 4=true:=dep_of hd (n:=4) (by decide)
    have e7 : T.getD 7 undef= .string d4:=hF.out.val 4 7 _ l4 rfl rfl
    have l7 : L 7=true:=dep_of hd (n:=7) (by decide)
    have e10 : T.getD 10 undef= .string ya:=hF.out.val 7 10 _ l7 rfl rfl
    have hz:=hz8.out
    have hq:=hq8.out
    clear hd ho hi hc hLi
    exact st_val (v:= .string d8) (w':=W) (want_none rfl) (by unfold execOp;dsimp only [Act.eval];simp only [e7,e10];go_simp) (hK.out _ _ (hF.out.putv (k:=8) (s:=11) rfl (by decide) hN (by decide) rfl hW.out))
  | 9,_=>
    obtain rfl:=Option.some.inj ho
    have l8 : L 8=true:=dep_of hd (n:=8) (by decide)
    have e11 : T.getD 11 undef= .string d8:=hF.out.val 8 11 _ l8 rfl rfl
    have hz:=hz9.out
    have hq:=hq9.out
    clear hd ho hi hc hLi
    exact st_val (v:= .string d9) (w':=W) (want_none rfl) (by unfold execOp;dsimp only [Act.eval];simp only [e11];go_simp) (hK.out _ _ (hF.out.putv (k:=9) (s:=12) rfl (by decide) hN (by decide) rfl hW.out))
  | 10,_=>
    obtain rfl:=Option.some.inj ho
    clear hd ho hi hc hLi
    exact st_val (v:= .pointer (some ⟨(w.heap.size),2,none⟩)) (w':=W) (want_none rfl) (by unfold execOp;dsimp only [Act.eval];simp only [f1];go_simp) (hK.out _ _ (hF.out.putv (k:=10) (s:=13) rfl (by decide) hN (by decide) rfl hW.out))
  | 11,_=>
    obtain rfl:=Option.some.inj ho
    have l10 : L 10=true:=dep_of hd (n:=10) (by decide)
    have e13 : T.getD 13 undef= .pointer (some ⟨(w.heap.size),2,none⟩):=hF.out.val 10 13 _ l10 rfl rfl
    have hcc:=(hCl.out W hW.out).2.2.1
    clear hd ho hi hc hLi
    exact st_val (v:= .int .i64 b) (w':=W) (want_none rfl) (by unfold execOp;dsimp only [Act.eval];simp only [e13];go_simp) (hK.out _ _ (hF.out.putv (k:=11) (s:=14) rfl (by decide) hN (by decide) rfl hW.out))
  | 12,_=>
    obtain rfl:=Option.some.inj ho
    have l11 : L 11=true:=dep_of hd (n:=11) (by decide)
    have e14 : T.getD 14 undef= .int .i64 b:=hF.out.val 11 14 _ l11 rfl rfl
    have cc:=Lib.hid (cB.out W hW.out)
    clear hd ho hi hc hLi
    refine st_call (want_none rfl) (by unfold execOp;go_simp) cc.out ?_
    rintro r w3 ⟨rfl,hb⟩
    exact ⟨_,rfl,hK.out _ _ (hF.out.putv (k:=12) (s:=15) rfl (by decide) hN (by decide) rfl (hW.out.trans (hb.mono hW.out.size)))⟩
  | 13,_=>
    obtain rfl:=Option.some.inj ho
    have l9 : L 9=true:=dep_of hd (n:=9) (by decide)
    have e12 : T.getD 12 undef= .string d9:=hF.out.val 9 12 _ l9 rfl rfl
    have l12 : L 12=true:=dep_of hd (n:=12) (by decide)
    have e15 : T.getD 15 undef= .string yb:=hF.out.val 12 15 _ l12 rfl rfl
    have hz:=hz13.out
    have hq:=hq13.out
    clear hd ho hi hc hLi
    exact st_val (v:= .string d13) (w':=W) (want_none rfl) (by unfold execOp;dsimp only [Act.eval];simp only [e12,e15];go_simp) (hK.out _ _ (hF.out.putv (k:=13) (s:=16) rfl (by decide) hN (by decide) rfl hW.out))
  | 14,_=>
    obtain rfl:=Option.some.inj ho
    have l13 : L 13=true:=dep_of hd (n:=13) (by decide)
    have e16 : T.getD 16 undef= .string d13:=hF.out.val 13 16 _ l13 rfl rfl
    have hz:=hz14.out
    have hq:=hq14.out
    clear hd ho hi hc hLi
    exact st_val (v:= .string d14) (w':=W) (want_none rfl) (by unfold execOp;dsimp only [Act.eval];simp only [e16];go_simp) (hK.out _ _ (hF.out.putv (k:=14) (s:=17) rfl (by decide) hN (by decide) rfl hW.out))
  | 15,_=>
    obtain rfl:=Option.some.inj ho
    clear hd ho hi hc hLi
    exact st_val (v:= .pointer (some ⟨(w.heap.size),3,none⟩)) (w':=W) (want_none rfl) (by unfold execOp;dsimp only [Act.eval];simp only [f1];go_simp) (hK.out _ _ (hF.out.putv (k:=15) (s:=18) rfl (by decide) hN (by decide) rfl hW.out))
  | 16,_=>
    obtain rfl:=Option.some.inj ho
    have l15 : L 15=true:=dep_of hd (n:=15) (by decide)
    have e18 : T.getD 18 undef= .pointer (some ⟨(w.heap.size),3,none⟩):=hF.out.val 15 18 _ l15 rfl rfl
    have hcc:=(hCl.out W hW.out).2.2.2.1
    clear hd ho hi hc hLi
    exact st_val (v:= .int .i64 c) (w':=W) (want_none rfl) (by unfold execOp;dsimp only [Act.eval];simp only [e18];go_simp) (hK.out _ _ (hF.out.putv (k:=16) (s:=19) rfl (by decide) hN (by decide) rfl hW.out))
  | 17,_=>
    obtain rfl:=Option.some.inj ho
    have l16 : L 16=true:=dep_of hd (n:=16) (by decide)
    have e19 : T.getD 19 undef= .int .i64 c:=hF.out.val 16 19 _ l16 rfl rfl
    have cc:=Lib.hid (cC.out W hW.out)
    clear hd ho hi hc hLi
    refine st_call (want_none rfl) (by unfold execOp;go_simp) cc.out ?_
    rintro r w3 ⟨rfl,hb⟩
    exact ⟨_,rfl,hK.out _ _ (hF.out.putv (k:=17) (s:=20) rfl (by decide) hN (by decide) rfl (hW.out.trans (hb.mono hW.out.size)))⟩
  | 18,_=>
    obtain rfl:=Option.some.inj ho
    have l14 : L 14=true:=dep_of hd (n:=14) (by decide)
    have e17 : T.getD 17 undef= .string d14:=hF.out.val 14 17 _ l14 rfl rfl
    have l17 : L 17=true:=dep_of hd (n:=17) (by decide)
    have e20 : T.getD 20 undef= .string yc:=hF.out.val 17 20 _ l17 rfl rfl
    have hz:=hz18.out
    have hq:=hq18.out
    clear hd ho hi hc hLi
    exact st_val (v:= .string d18) (w':=W) (want_none rfl) (by unfold execOp;dsimp only [Act.eval];simp only [e17,e20];go_simp) (hK.out _ _ (hF.out.putv (k:=18) (s:=21) rfl (by decide) hN (by decide) rfl hW.out))
  | 19,_=>
    obtain rfl:=Option.some.inj ho
    have l18 : L 18=true:=dep_of hd (n:=18) (by decide)
    have e21 : T.getD 21 undef= .string d18:=hF.out.val 18 21 _ l18 rfl rfl
    have hz:=hz19.out
    have hq:=hq19.out
    clear hd ho hi hc hLi
    exact st_val (v:= .string d19) (w':=W) (want_none rfl) (by unfold execOp;dsimp only [Act.eval];simp only [e21];go_simp) (hK.out _ _ (hF.out.putv (k:=19) (s:=22) rfl (by decide) hN (by decide) rfl hW.out))
  | 20,_=>
    obtain rfl:=Option.some.inj ho
    clear hd ho hi hc hLi
    exact st_val (v:= .pointer (some ⟨(w.heap.size),4,none⟩)) (w':=W) (want_none rfl) (by unfold execOp;dsimp only [Act.eval];simp only [f1];go_simp) (hK.out _ _ (hF.out.putv (k:=20) (s:=23) rfl (by decide) hN (by decide) rfl hW.out))
  | 21,_=>
    obtain rfl:=Option.some.inj ho
    have l20 : L 20=true:=dep_of hd (n:=20) (by decide)
    have e23 : T.getD 23 undef= .pointer (some ⟨(w.heap.size),4,none⟩):=hF.out.val 20 23 _ l20 rfl rfl
    have hcc:=(hCl.out W hW.out).2.2.2.2.1
    clear hd ho hi hc hLi
    exact st_val (v:= .string s) (w':=W) (want_none rfl) (by unfold execOp;dsimp only [Act.eval];simp only [e23];go_simp) (hK.out _ _ (hF.out.putv (k:=21) (s:=24) rfl (by decide) hN (by decide) rfl hW.out))
  | 22,_=>
    obtain rfl:=Option.some.inj ho
    have l21 : L 21=true:=dep_of hd (n:=21) (by decide)
    have e24 : T.getD 24 undef= .string s:=hF.out.val 21 24 _ l21 rfl rfl
    have cc:=Lib.hid (cE.out W hW.out)
    clear hd ho hi hc hLi
    refine st_call (want_none rfl) (by unfold execOp;go_simp) cc.out ?_
    rintro r w3 ⟨rfl,hb⟩
    exact ⟨_,rfl,hK.out _ _ (hF.out.putv (k:=22) (s:=25) rfl (by decide) hN (by decide) rfl (hW.out.trans (hb.mono hW.out.size)))⟩
  | 23,_=>
    obtain rfl:=Option.some.inj ho
    have l19 : L 19=true:=dep_of hd (n:=19) (by decide)
    have e22 : T.getD 22 undef= .string d19:=hF.out.val 19 22 _ l19 rfl rfl
    have l22 : L 22=true:=dep_of hd (n:=22) (by decide)
    have e25 : T.getD 25 undef= .string ys:=hF.out.val 22 25 _ l22 rfl rfl
    have hz:=hz23.out
    have hq:=hq23.out
    clear hd ho hi hc hLi
    exact st_val (v:= .string d23) (w':=W) (want_none rfl) (by unfold execOp;dsimp only [Act.eval];simp only [e22,e25];go_simp) (hK.out _ _ (hF.out.putv (k:=23) (s:=26) rfl (by decide) hN (by decide) rfl hW.out))
  | 24,_=>
    obtain rfl:=Option.some.inj ho
    have l23 : L 23=true:=dep_of hd (n:=23) (by decide)
    have e26 : T.getD 26 undef= .string d23:=hF.out.val 23 26 _ l23 rfl rfl
    clear hd ho hi hc hLi
    exact st_val (v:= .string d23) (w':=W) (want_none rfl) (by unfold execOp;dsimp only [Act.eval];simp only [e26];go_simp) (hK.out _ _ (hF.out.putv (k:=24) (s:=2) rfl (by decide) hN (by decide) rfl hW.out))
 case hdone=>
  intro L T W2 hF hW hall
  have hT : T=#[.agg #[.int .i64 k,.int .i64 a,.int .i64 b,.int .i64 c,.string s],.pointer (some ⟨(w.heap.size),0,none⟩),.string d23,.pointer (some ⟨(w.heap.size),0,none⟩),.int .i64 k,.pointer (some ⟨1,k,none⟩),.string y0,.string d4,.pointer (some ⟨(w.heap.size),1,none⟩),.int .i64 a,.string ya,.string d8,.string d9,.pointer (some ⟨(w.heap.size),2,none⟩),.int .i64 b,.string yb,.string d13,.string d14,.pointer (some ⟨(w.heap.size),3,none⟩),.int .i64 c,.string yc,.string d18,.string d19,.pointer (some ⟨(w.heap.size),4,none⟩),.string s,.string ys,.string d23]:=(hF.fin [(3,.pointer (some ⟨(w.heap.size),0,none⟩)),(4,.int .i64 k),(5,.pointer (some ⟨1,k,none⟩)),(6,.string y0),(7,.string d4),(8,.pointer (some ⟨(w.heap.size),1,none⟩)),(9,.int .i64 a),(10,.string ya),(11,.string d8),(12,.string d9),(13,.pointer (some ⟨(w.heap.size),2,none⟩)),(14,.int .i64 b),(15,.string yb),(16,.string d13),(17,.string d14),(18,.pointer (some ⟨(w.heap.size),3,none⟩)),(19,.int .i64 c),(20,.string yc),(21,.string d18),(22,.string d19),(23,.pointer (some ⟨(w.heap.size),4,none⟩)),(24,.string s),(25,.string ys),(26,.string d23),(2,.string d23)] [3,4,5,6,7,8,9,10,11,12,13,14,15,16,17,18,19,20,21,22,23,24,25,26,2] rfl (List.forall_mem_cons.2 ⟨hF.val 0 _ _ (hall 0 (show 0 < 25 by decide)) rfl rfl,(List.forall_mem_cons.2 ⟨hF.val 1 _ _ (hall 1 (show 1 < 25 by decide)) rfl rfl,(List.forall_mem_cons.2 ⟨hF.val 2 _ _ (hall 2 (show 2 < 25 by decide)) rfl rfl,(List.forall_mem_cons.2 ⟨hF.val 3 _ _ (hall 3 (show 3 < 25 by decide)) rfl rfl,(List.forall_mem_cons.2 ⟨hF.val 4 _ _ (hall 4 (show 4 < 25 by decide)) rfl rfl,(List.forall_mem_cons.2 ⟨hF.val 5 _ _ (hall 5 (show 5 < 25 by decide)) rfl rfl,(List.forall_mem_cons.2 ⟨hF.val 6 _ _ (hall 6 (show 6 < 25 by decide)) rfl rfl,(List.forall_mem_cons.2 ⟨hF.val 7 _ _ (hall 7 (show 7 < 25 by decide)) rfl rfl,(List.forall_mem_cons.2 ⟨hF.val 8 _ _ (hall 8 (show 8 < 25 by decide)) rfl rfl,(List.forall_mem_cons.2 ⟨hF.val 9 _ _ (hall 9 (show 9 < 25 by decide)) rfl rfl,(List.forall_mem_cons.2 ⟨hF.val 10 _ _ (hall 10 (show 10 < 25 by decide)) rfl rfl,(List.forall_mem_cons.2 ⟨hF.val 11 _ _ (hall 11 (show 11 < 25 by decide)) rfl rfl,(List.forall_mem_cons.2 ⟨hF.val 12 _ _ (hall 12 (show 12 < 25 by decide)) rfl rfl,(List.forall_mem_cons.2 ⟨hF.val 13 _ _ (hall 13 (show 13 < 25 by decide)) rfl rfl,(List.forall_mem_cons.2 ⟨hF.val 14 _ _ (hall 14 (show 14 < 25 by decide)) rfl rfl,(List.forall_mem_cons.2 ⟨hF.val 15 _ _ (hall 15 (show 15 < 25 by decide)) rfl rfl,(List.forall_mem_cons.2 ⟨hF.val 16 _ _ (hall 16 (show 16 < 25 by decide)) rfl rfl,(List.forall_mem_cons.2 ⟨hF.val 17 _ _ (hall 17 (show 17 < 25 by decide)) rfl rfl,(List.forall_mem_cons.2 ⟨hF.val 18 _ _ (hall 18 (show 18 < 25 by decide)) rfl rfl,(List.forall_mem_cons.2 ⟨hF.val 19 _ _ (hall 19 (show 19 < 25 by decide)) rfl rfl,(List.forall_mem_cons.2 ⟨hF.val 20 _ _ (hall 20 (show 20 < 25 by decide)) rfl rfl,(List.forall_mem_cons.2 ⟨hF.val 21 _ _ (hall 21 (show 21 < 25 by decide)) rfl rfl,(List.forall_mem_cons.2 ⟨hF.val 22 _ _ (hall 22 (show 22 < 25 by decide)) rfl rfl,(List.forall_mem_cons.2 ⟨hF.val 23 _ _ (hall 23 (show 23 < 25 by decide)) rfl rfl,(List.forall_mem_cons.2 ⟨hF.val 24 _ _ (hall 24 (show 24 < 25 by decide)) rfl rfl,(fun _ h=>absurd h List.not_mem_nil)⟩)⟩)⟩)⟩)⟩)⟩)⟩)⟩)⟩)⟩)⟩)⟩)⟩)⟩)⟩)⟩)⟩)⟩)⟩)⟩)⟩)⟩)⟩)⟩)⟩) (by decide)).trans (by kernel_rfl)
  clear hF hall
  subst hT
  go_wp2_with fail
  go_ret
  exact ⟨rfl,hB0.out.trans (hW.mono hB0.out.size)⟩
end Go.Proofs.YtmicohmbmgbnkaaGreatDoor
