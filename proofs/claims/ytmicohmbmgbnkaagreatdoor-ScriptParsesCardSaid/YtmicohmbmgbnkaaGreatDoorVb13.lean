/- A step's parts in memory; how each is written. (printed by wip/gen_sku.py) -/
import Derived.Test.YtmicohmbmgbnkaaGreatDoorVb11
import Derived.Test.YtmicohmbmgbnkaaGreatDoorVb12
namespace Go.Proofs.YtmicohmbmgbnkaaGreatDoor
open Go Go.RowKit Go.Shelf Go.ChangeShapes Go.WideShapes Go.Deep
open Go.Lib (itoa)
def SlV (W : World) (K : Nat) (zs : List (List Value)) (v : Value) : Prop:= ∃A c,v= .slice A zs.length c∧zs.length≤c∧c≤9223372036854775807∧Rws W K A zs.length zs
def SlN (b : Nat) (W : World) (K : Nat) (zs : List (List Value)) (v : Value) : Prop:= ∃A c,v= .slice A zs.length c∧zs.length≤c∧c≤9223372036854775807∧Rws W K A zs.length zs∧(0 < zs.length→∀a,A=some a→b < a.block)
theorem SlN.v {b : Nat} {W : World} {K : Nat} {zs : List (List Value)} {v : Value} (h : SlN b W K zs v) : SlV W K zs v:=by
 obtain ⟨A,c,h1,h2,h3,h4,_⟩:=h
 exact ⟨A,c,h1,h2,h3,h4⟩
theorem SlV.keep {W W' : World} {K : Nat} {zs : List (List Value)} {v : Value} (h : SlV W K zs v) (hb : Below W.heap.size W W') : SlV W' K zs v:=by
 obtain ⟨A,c,h1,h2,h3,h4⟩:=h
 exact ⟨A,c,h1,h2,h3,h4.keep hb⟩
def PValG (S : Nat→List (List Value)→Value→Prop) : PV→List Value→Prop
 | .num n,z=>z=[.int .i64 n]
 | .text s,z=>z=[.string (bs s)]
 | .flag x,z=>z=[.bool x]
 | .nums l,z=> ∃v,z=[v]∧S 1 (l.map iv) v
 | .texts l,z=> ∃v,z=[v]∧S 1 (l.map fun s=>sv (bs s)) v
 | .ops l,z=> ∃v,z=[v]∧S 5 (l.map OpX.row) v
 | .grants l,z=> ∃v,z=[v]∧S 2 (l.map GrX.row) v
 | .wish a b c,z=>z=[.int .u32 a,.int .u32 b,.int .u32 c]
def PVal (W : World) : PV→List Value→Prop:=PValG (SlV W)
def PValN (b : Nat) (W : World) : PV→List Value→Prop:=PValG (SlN b W)
theorem PValG.mono {S S' : Nat→List (List Value)→Value→Prop} (h : ∀K zs v,S K zs v→S' K zs v) : ∀{pv : PV} {z : List Value},PValG S pv z→PValG S' pv z
 | .num _,_,e=>e
 | .text _,_,e=>e
 | .flag _,_,e=>e
 | .nums _,_,⟨v,e,hs⟩=>⟨v,e,h _ _ _ hs⟩
 | .texts _,_,⟨v,e,hs⟩=>⟨v,e,h _ _ _ hs⟩
 | .ops _,_,⟨v,e,hs⟩=>⟨v,e,h _ _ _ hs⟩
 | .grants _,_,⟨v,e,hs⟩=>⟨v,e,h _ _ _ hs⟩
 | .wish _ _ _,_,e=>e
def widthT : Tag→Nat | .wish=>3 | _=>1
theorem PValG.len {S : Nat→List (List Value)→Value→Prop} : ∀{g : Tag} {pv : PV} {z : List Value},OkPV g pv→PValG S pv z→z.length=widthT g:=by
 intro g pv z hok h
 cases g <;> cases pv <;> first | exact absurd hok id | skip
 all_goals first
  | (obtain ⟨v,rfl,_⟩:=h;rfl)
  | (have h' : z=_:=h;rw [h'];rfl)
def wrF : Tag→Nat
 | .num=>89 | .text=>92 | .flag=>104 | .nums=>100
 | .texts=>106 | .ops=>94 | .grants=>112 | .wish=>118
def rdF : Tag→Nat
 | .num=>90 | .text=>93 | .flag=>105 | .nums=>102
 | .texts=>109 | .ops=>97 | .grants=>115 | .wish=>120
theorem wish_ds : flatDesc Tryz.prog 3 39=some [.int .u32,.int .u32,.int .u32]:=by kernel_rfl
section
variable {P : Program}
theorem eql_flatA {n m : Nat} {t : TypeId} {ds : List TypeDesc} {k : Nat} {e : TypeId} (hu : P.underlying t=some (.array k e)) (hct : P.cellsOf t=ds.length) (hf : flatDesc P n t=some ds) (hb : noBlank P n t=true) (hk : P.keyTypeAt m t=true) (hm : m≤10000)
 (xs ys : List Value) (hx : allOk ds xs) (hy : allOk ds ys) (q : Bool) (hq : (q=true↔xs=ys)) (w : World) :
 (binOp .eql t (.agg xs.toArray) (.agg ys.toArray)).run P w= .ok (.bool q) w:=by
 have fx : (Value.agg xs.toArray).formed P t=true:=by unfold Value.formed;rw [hu];simp [hct,hx.1]
 have fy : (Value.agg ys.toArray).formed P t=true:=by unfold Value.formed;rw [hu];simp [hct,hy.1]
 have kx:=flat_keyLits n t ds xs n hf hb hx (Nat.le_refl _)
 have ky:=flat_keyLits n t ds ys n hf hb hy (Nat.le_refl _)
 obtain ⟨r,hr,hiff⟩:=run_equalIn_deep (10000 - m) m t hk w n n _ _ _ _ fx fy (by simpa [Value.cells] using kx) (by simpa [Value.cells] using ky)
 rw [run_eql_struct,show (10000 : Nat)=10000 - m + m by omega,hr]
 have : r=q:=by rw [Bool.eq_iff_iff,hiff,lits_eq hx hy,hq]
 rw [this]
 rfl
end
theorem wish_ok {a b c : Nat} (ha : a < 4294967296) (hb : b < 4294967296) (hc : c < 4294967296) : allOk [.int .u32,.int .u32,.int .u32] [.int .u32 (a : Int),.int .u32 (b : Int),.int .u32 (c : Int)]:=by
 have key : ∀n : Nat,n < 4294967296→cellOk (.int .u32) (.int .u32 (n : Int)):=fun n h=>⟨n,rfl,by show (0 : Int)≤n;omega,by show (n : Int)≤4294967295;omega⟩
 refine ⟨rfl,fun i d v hd hv=> ?_⟩
 match i with
 | 0=>injection hd with hd;injection hv with hv;subst hd hv;exact key a ha
 | 1=>injection hd with hd;injection hv with hv;subst hd hv;exact key b hb
 | 2=>injection hd with hd;injection hv with hv;subst hd hv;exact key c hc
 | i + 3=>cases hd
theorem wish_eql {a b c : Nat} (ha : a < 4294967296) (hb : b < 4294967296) (hc : c < 4294967296) (q : Bool) (hq : q=true↔(a=0∧b=0∧c=0)) (w : World) : (binOp .eql 39 (.agg #[.int .u32 (a : Int),.int .u32 (b : Int),.int .u32 (c : Int)]) (.agg #[.int .u32 0,.int .u32 0,.int .u32 0])).run Tryz.prog w= .ok (.bool q) w:=
 eql_flatA (m:=3) (n:=3) Tryz.underlying39 (by kernel_rfl) wish_ds (by kernel_rfl) (by kernel_rfl) (by decide) [.int .u32 (a : Int),.int .u32 (b : Int),.int .u32 (c : Int)] [.int .u32 0,.int .u32 0,.int .u32 0] (wish_ok ha hb hc) (wish_ok (a:=0) (b:=0) (c:=0) (by decide) (by decide) (by decide)) q (by
  rw [hq]
  constructor
  · rintro ⟨rfl,rfl,rfl⟩;rfl
  · intro h
    simp only [List.cons.injEq,Value.int.injEq,true_and,and_true] at h
    omega) w
def BoxP (W : World) (q b off : Nat) : Prop:=W.cell? ⟨q,0,none⟩=some (.pointer (some ⟨b,off,none⟩))
def WrR (v : PV) (w : World) (r : Ending) (w' : World) : Prop:=r= .returned (.string (bs (wrPV v)))∧Below w.heap.size w w'
set_option maxRecDepth 100000 in
set_option maxHeartbeats 2000000 in
theorem write_num {q b off : Nat} (n : Int) (hn : I64 n) (W : World) (E : EnvS W) (hq : BoxP W q b off) (hc : W.cell? ⟨b,off,none⟩=some (.int .i64 n)) : Calls Tryz.prog 89 #[.pointer (some ⟨q,0,none⟩)] W (WrR (.num n) W):=by
 unfold BoxP at hq
 unfold WrR
 dsimp only [wrPV]
 have cI:=Lib.hid (itoa_any n hn W E)
 by_cases h0 : n=0
 · subst h0
   rw [if_pos rfl]
   go_enter Tryz.func89,Tryz.ntmps89
   go_wp2_with fail
   go_ret
   exact ⟨rfl,Below.refl _ _⟩
 · rw [if_neg h0]
   have hb : (n == 0)=false:=beq_eq_false_iff_ne.2 h0
   clear h0
   go_enter Tryz.func89,Tryz.ntmps89
   go_wp2_with (go_at_call 52;(with_reducible refine cI.out.mono ?_);rintro r w1 ⟨rfl,hb1⟩;replace hb1:=Lib.hid hb1)
   go_ret
   exact ⟨rfl,hb1.out⟩
set_option maxRecDepth 100000 in
set_option maxHeartbeats 2000000 in
theorem write_text {q b off : Nat} (s : List UInt8) (hs : s.length≤1099511627776) (W : World) (hq : BoxP W q b off) (hc : W.cell? ⟨b,off,none⟩=some (.string (bs s))) : Calls Tryz.prog 92 #[.pointer (some ⟨q,0,none⟩)] W (WrR (.text s) W):=by
 unfold BoxP at hq
 unfold WrR
 dsimp only [wrPV]
 have cI:=Lib.hid (escape_any (bs s) W (by rw [bs_size];exact hs))
 rw [bs_list] at cI
 go_enter Tryz.func92,Tryz.ntmps92
 go_wp2_with (go_at_call 10;(with_reducible refine cI.out.mono ?_);rintro r w1 ⟨rfl,hb1⟩;replace hb1:=Lib.hid hb1)
 go_ret
 exact ⟨rfl,hb1.out⟩
set_option maxRecDepth 100000 in
set_option maxHeartbeats 2000000 in
theorem write_flag {q b off : Nat} (x : Bool) (W : World) (hq : BoxP W q b off) (hc : W.cell? ⟨b,off,none⟩=some (.bool x)) : Calls Tryz.prog 104 #[.pointer (some ⟨q,0,none⟩)] W (WrR (.flag x) W):=by
 unfold BoxP at hq
 unfold WrR
 dsimp only [wrPV]
 cases x
 all_goals
  go_enter Tryz.func104,Tryz.ntmps104
  go_wp2_with fail
  go_ret
  exact ⟨rfl,Below.refl _ _⟩
set_option maxRecDepth 100000 in
set_option maxHeartbeats 2000000 in
theorem write_nums {q b off : Nat} (l : List Int) (hi : ∀x∈l,I64 x) (hl : (joinL 44 (l.map itoa)).length≤1099511627776) (W : World) (E : EnvS W) (hq : BoxP W q b off) {v : Value} (hc : W.cell? ⟨b,off,none⟩=some v) (hv : SlV W 1 (l.map iv) v) : Calls Tryz.prog 100 #[.pointer (some ⟨q,0,none⟩)] W (WrR (.nums l) W):=by
 unfold BoxP at hq
 unfold WrR
 dsimp only [wrPV]
 obtain ⟨A,c,rfl,h1,h2,hr⟩:=hv
 rw [List.length_map] at hr hc h1
 have cI:=Lib.hid (listI_any l A l.length c W E hr hi hl)
 obtain ⟨n,hn⟩ : ∃n,l.length=n:=⟨_,rfl⟩
 rw [hn] at hc cI
 clear hr hn h1
 go_enter Tryz.func100,Tryz.ntmps100
 go_wp2_with (go_at_call 101;(with_reducible refine cI.out.mono ?_);rintro r w1 ⟨rfl,hb1⟩;replace hb1:=Lib.hid hb1)
 go_ret
 exact ⟨rfl,hb1.out⟩
set_option maxRecDepth 100000 in
set_option maxHeartbeats 2000000 in
theorem write_texts {q b off : Nat} (l : List (List UInt8)) (hl : (joinL 44 (l.map wrName)).length≤1099511627776) (W : World) (E : EnvS W) (hq : BoxP W q b off) {v : Value} (hc : W.cell? ⟨b,off,none⟩=some v) (hv : SlV W 1 (l.map (fun s=>sv (bs s))) v) : Calls Tryz.prog 106 #[.pointer (some ⟨q,0,none⟩)] W (WrR (.texts l) W):=by
 unfold BoxP at hq
 unfold WrR
 dsimp only [wrPV]
 obtain ⟨A,c,rfl,h1,h2,hr⟩:=hv
 rw [List.length_map] at hr hc h1
 have cI:=Lib.hid (listS_any l A l.length c W E hr hl)
 obtain ⟨n,hn⟩ : ∃n,l.length=n:=⟨_,rfl⟩
 rw [hn] at hc cI
 clear hr hn h1
 go_enter Tryz.func106,Tryz.ntmps106
 go_wp2_with (go_at_call 107;(with_reducible refine cI.out.mono ?_);rintro r w1 ⟨rfl,hb1⟩;replace hb1:=Lib.hid hb1)
 go_ret
 exact ⟨rfl,hb1.out⟩
set_option maxRecDepth 100000 in
set_option maxHeartbeats 2000000 in
theorem write_ops {q b off : Nat} (l : List OpX) (hi : ∀x∈l,OkOp x) (hl : (joinL 44 (l.map wrOp)).length≤1099511627776) (W : World) (E : EnvS W) (hq : BoxP W q b off) {v : Value} (hc : W.cell? ⟨b,off,none⟩=some v) (hv : SlV W 5 (l.map OpX.row) v) : Calls Tryz.prog 94 #[.pointer (some ⟨q,0,none⟩)] W (WrR (.ops l) W):=by
 unfold BoxP at hq
 unfold WrR
 dsimp only [wrPV]
 obtain ⟨A,c,rfl,h1,h2,hr⟩:=hv
 rw [List.length_map] at hr hc h1
 have cI:=Lib.hid (listO_any l A l.length c W E hr hi hl)
 obtain ⟨n,hn⟩ : ∃n,l.length=n:=⟨_,rfl⟩
 rw [hn] at hc cI
 clear hr hn h1
 go_enter Tryz.func94,Tryz.ntmps94
 go_wp2_with (go_at_call 95;(with_reducible refine cI.out.mono ?_);rintro r w1 ⟨rfl,hb1⟩;replace hb1:=Lib.hid hb1)
 go_ret
 exact ⟨rfl,hb1.out⟩
set_option maxRecDepth 100000 in
set_option maxHeartbeats 2000000 in
theorem write_grants {q b off : Nat} (l : List GrX) (hi : ∀x∈l,I64 x.who) (hl : (joinL 44 (l.map wrGr)).length≤1099511627776) (W : World) (E : EnvS W) (hq : BoxP W q b off) {v : Value} (hc : W.cell? ⟨b,off,none⟩=some v) (hv : SlV W 2 (l.map GrX.row) v) : Calls Tryz.prog 112 #[.pointer (some ⟨q,0,none⟩)] W (WrR (.grants l) W):=by
 unfold BoxP at hq
 unfold WrR
 dsimp only [wrPV]
 obtain ⟨A,c,rfl,h1,h2,hr⟩:=hv
 rw [List.length_map] at hr hc h1
 have cI:=Lib.hid (listG_any l A l.length c W E hr hi hl)
 obtain ⟨n,hn⟩ : ∃n,l.length=n:=⟨_,rfl⟩
 rw [hn] at hc cI
 clear hr hn h1
 go_enter Tryz.func112,Tryz.ntmps112
 go_wp2_with (go_at_call 113;(with_reducible refine cI.out.mono ?_);rintro r w1 ⟨rfl,hb1⟩;replace hb1:=Lib.hid hb1)
 go_ret
 exact ⟨rfl,hb1.out⟩
set_option maxRecDepth 100000 in
set_option maxHeartbeats 4000000 in
theorem write_wish {q b off : Nat} (x y z : Nat) (hx : x < 4294967296) (hy : y < 4294967296) (hz : z < 4294967296) (W : World) (E : EnvS W) (hq : BoxP W q b off) (hc : W.rangeAt b off [.int .u32 (x : Int),.int .u32 (y : Int),.int .u32 (z : Int)]) (hbw : b < W.heap.size) :
 Calls Tryz.prog 118 #[.pointer (some ⟨q,0,none⟩)] W (WrR (.wish x y z) W):=by
 unfold WrR
 dsimp only [wrPV]
 have hqw:=block_lt_of_cell hq
 by_cases h0 : x=0∧y=0∧z=0
 · rw [if_pos h0]
   have hE:=wish_eql hx hy hz true (by simp [h0]) W
   clear h0
   unfold BoxP at hq
   go_enter Tryz.func118,Tryz.ntmps118
   go_wp2_with (first
    | (refine wpList_load_at 39 _ rfl rfl b off rfl [.int .u32 (x : Int),.int .u32 (y : Int),.int .u32 (z : Int)] _ hc Tryz.underlying39 rfl (by kernel_rfl) ?_)
    | (refine wpList_eql_at 39 _ _ _ rfl rfl #[.int .u32 (x : Int),.int .u32 (y : Int),.int .u32 (z : Int)] #[.int .u32 0,.int .u32 0,.int .u32 0] rfl rfl (by kernel_rfl) true hE ?_))
   go_ret
   exact ⟨rfl,Below.refl _ _⟩
 · rw [if_neg h0]
   have hE:=wish_eql hx hy hz false (by simp [h0]) W
   obtain ⟨i0,hi0,hz0,hz1,hz2⟩:=info_parts str_info
   have cI:=Lib.hid (fun (n : Nat) (h : n < 4294967296) W' (hb : Below W.heap.size W W')=>itoa_any (n : Int) (i64_nat h) W' (E.keep hb E.size))
   have hts : (joinL 58 [itoa x,itoa y,itoa z]).length≤1000:=by
    have h1:=itoa_len20 (i64_nat hx)
    have h2:=itoa_len20 (i64_nat hy)
    have h3:=itoa_len20 (i64_nat hz)
    rw [joinL_cons (by simp),joinL_cons (by simp),show joinL 58 [itoa (z : Int)]=itoa (z : Int) from rfl]
    simp only [List.length_append,List.length_cons]
    omega
   have cJ:=Lib.hid (fun A cc W' (hS : Strs W' A 3 (([itoa x,itoa y,itoa z] : List (List UInt8)).map bs)) (hcc : 3≤cc)=>join_any 58 [itoa x,itoa y,itoa z] A 3 cc W' hS hcc (by omega) (by decide))
   have htx:=Lib.hid (show ∀(k n : Nat),([x,y,z] : List Nat)[k]? =some n→(([itoa x,itoa y,itoa z] : List (List UInt8)).map bs)[k]? =some (bs (itoa n))∧n < 4294967296∧W.cell? ⟨b,off + k,none⟩=some (.int .u32 (n : Int)) from fun k n h=>by
    have hcc:=hc k (.int .u32 (n : Int))
    match k,h with
    | 0,h=>injection h with h;subst h;exact ⟨rfl,hx,hcc rfl⟩
    | 1,h=>injection h with h;subst h;exact ⟨rfl,hy,hcc rfl⟩
    | 2,h=>injection h with h;subst h;exact ⟨rfl,hz,hcc rfl⟩)
   have hO0 : Hid (OwnS W W.heap.size (.slice none 0 0) ((([itoa x,itoa y,itoa z] : List (List UInt8)).map bs).take 0)):=Lib.hid (OwnR.nil_ W W.heap.size 1 9)
   obtain ⟨X,hX,hX3⟩ : ∃X,([x,y,z] : List Nat)=X∧X.length=3:=⟨_,rfl,rfl⟩
   obtain ⟨TX,hTX,hT3⟩ : ∃TX,([itoa x,itoa y,itoa z] : List (List UInt8)).map bs=TX∧TX.length=3:=⟨_,rfl,rfl⟩
   rw [hTX] at cJ hO0 htx
   rw [hX] at htx
   generalize joinL 58 [itoa (x : Int),itoa (y : Int),itoa (z : Int)]=jt at *
   have hB0:=Lib.hid (Below.refl W.heap.size W)
   unfold BoxP at hq
   clear hts hX hTX h0
   go_enter Tryz.func118,Tryz.ntmps118
   go_wp2_with (first
    | (refine wpList_load_at 39 _ rfl rfl b off rfl [.int .u32 (x : Int),.int .u32 (y : Int),.int .u32 (z : Int)] _ hc Tryz.underlying39 rfl (by kernel_rfl) ?_)
    | (refine wpList_eql_at 39 _ _ _ rfl rfl #[.int .u32 (x : Int),.int .u32 (y : Int),.int .u32 (z : Int)] #[.int .u32 0,.int .u32 0,.int .u32 0] rfl rfl (by kernel_rfl) false hE ?_))
   go_loopw [2,11] (fun v jv wr=> ∃k : Nat,k≤3∧jv= .int .i64 k∧Hid (OwnS wr W.heap.size v (TX.take k))∧Hid (Below W.heap.size W wr)) (fun _ jv _=>3 - (intOf jv).toNat)
   case atStart=>exact ⟨0,Nat.zero_le _,rfl,hO0,hB0⟩
   case round=>
    clear hO0 hB0 hc hE
    obtain ⟨k,hk,rfl,hO,hB⟩:=hrel
    by_cases hlt : k < 3
    · have hlt' : (k : Int) < 3:=by omega
      obtain ⟨n,hn⟩ : ∃n,X[k]? =some n:=⟨X[k]'(by rw [hX3];exact hlt),List.getElem?_eq_getElem _⟩
      obtain ⟨h1,h2,h3⟩:=htx.out k n hn
      have hcell:=(hB.out.cell (p:=⟨b,off + k,none⟩) hbw).trans h3
      have hwr : IntKind.i64.wrap (n : Int)=(n : Int):=IntWalk.i64_in _ (by omega)
      have cX:=Lib.hid (cI.out n h2 wr hB.out)
      have htk:=Lib.hid (take_succ_of h1)
      have hlen : (TX.take k).length≤3:=by rw [List.length_take];omega
      generalize TX.take k=D at *
      generalize bs (itoa (n : Int))=yt at *
      clear h1 h3 hn
      go_wp2_with (first
       | (go_at_call 52;(with_reducible refine cX.out.mono ?_);rintro r w2 ⟨rfl,hb2'⟩
          have hbn:=below_new w2 (.cells #[.string yt] 9)
          have hO1:=Lib.hid ((hO.out.keep hb2').keep hbn)
          have hB2:=hB.out.trans (hb2'.mono hB.out.size)
          have hB3:=Lib.hid (hB2.trans (hbn.mono hB2.size))
          clear hb2' hbn hB2)
       | (at_builtin
          refine wpList_append_one rfl _ _ 27 rfl 9 i0 (.string ByteArray.empty) 1 16 Tryz.underlying27 hi0 hz0 hz1 hz2 rfl (by decide) W hB3.out _ _ rfl hO1.out w2.heap.size 1 (sv yt) rfl ?_ rfl ?_ ?_ ?_ ?_
          · exact rangeAt_list (heap_new w2 (.cells #[.string yt] 9))
          · intro u hu;simp [sv] at hu;subst hu;rfl
          · simp only [List.length_map];unfold maxLen;omega
          · simp only [List.length_map];omega
          intro v' w3 hO2 hB4 _
          have hO2:=Lib.hid (show OwnS w3 W.heap.size v' (D ++ [yt]) by unfold OwnS;simpa using hO2)
          have hB4:=Lib.hid hB4))
      go_roundw
      case rel=>exact ⟨k + 1,by omega,by go_num,by rw [htk.out];exact hO2,hB4⟩
      case measure=>simp [intOf];omega
    · obtain rfl : k=3:=by omega
      rw [List.take_of_length_le (by rw [hT3];exact Nat.le_refl _)] at hO
      obtain ⟨A9,c9,e9,hS⟩:=hO.out.strs
      rw [hT3] at e9 hS
      have hc9:=Lib.hid (own_cap hO.out e9)
      subst e9
      have cK:=Lib.hid (cJ.out A9 c9 wr hS hc9.out.1)
      clear hO hS
      go_wp2_with (go_at_call 119;(with_reducible refine cK.out.mono ?_);rintro r w2 ⟨rfl,hb2⟩;replace hb2:=Lib.hid (hB.out.trans (hb2.mono hB.out.size)))
      go_ret
      exact ⟨rfl,hb2.out⟩
end Go.Proofs.YtmicohmbmgbnkaaGreatDoor
