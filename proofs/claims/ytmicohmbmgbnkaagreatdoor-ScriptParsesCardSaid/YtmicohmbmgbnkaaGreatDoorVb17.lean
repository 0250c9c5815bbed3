/- All parts of a step. (printed by wip/gen_sky.py) -/
import Derived.Test.YtmicohmbmgbnkaaGreatDoorVb16
namespace Go.Proofs.YtmicohmbmgbnkaaGreatDoor
open Go Go.RowKit Go.Shelf
open Go.Lib (itoa)
def rowsP : KT→List Nat→List (List Value)
 | (k,g) :: ks,q :: qs=>partRow (bs k) g q :: rowsP ks qs
 | _,_=>[]
theorem rowsP_len : ∀(ks : KT) (qs : List Nat),∀z∈rowsP ks qs,z.length=3
 | [],_,z,h=>by cases h
 | (k,g) :: ks,[],z,h=>by cases h
 | (k,g) :: ks,q :: qs,z,h=>by
   rcases List.mem_cons.1 h with rfl | h
   · rfl
   · exact rowsP_len ks qs z h
theorem rowsP_at : ∀{ks : KT} {qs : List Nat} {i : Nat} {kg : List UInt8 × Tag} {q : Nat},ks[i]? =some kg→qs[i]? =some q→(rowsP ks qs)[i]? =some (partRow (bs kg.1) kg.2 q)
 | [],_,_,_,_,h,_=>by cases h
 | (k,g) :: ks,[],_,_,_,_,h=>by cases h
 | (k,g) :: ks,q :: qs,0,kg,q',h,h'=>by
   injection h with h
   injection h' with h'
   subst h h'
   rfl
 | (k,g) :: ks,q :: qs,i + 1,kg,q',h,h'=>rowsP_at (ks:=ks) (qs:=qs) (i:=i) h h'
theorem rowsP_length : ∀{ks : KT} {qs : List Nat},qs.length=ks.length→(rowsP ks qs).length=qs.length
 | [],[],_=>rfl
 | (k,g) :: ks,q :: qs,h=>by
   simp only [List.length_cons,Nat.add_right_cancel_iff] at h
   simp only [rowsP,List.length_cons,rowsP_length h]
def PaA (W : World) (b : Nat) (qs : List Nat) (w : World) : Prop:=Below W.heap.size W w∧∀(j q off : Nat),qs[j]? =some q→offT[j]? =some off→BoxP w q b off∧W.heap.size≤q∧q < w.heap.size
theorem PaA.keep {W : World} {b : Nat} {qs : List Nat} {w w' : World} (h : PaA W b qs w) (hb : Below w.heap.size w w') : PaA W b qs w':=
 ⟨h.1.trans (hb.mono h.1.size),fun j q off h1 h2=>by
  obtain ⟨g1,g2,g3⟩:=h.2 j q off h1 h2
  exact ⟨(hb.cell (p:=⟨q,0,none⟩) g3).trans g1,g2,Nat.lt_of_lt_of_le g3 hb.size⟩⟩
theorem PaA.snoc {W : World} {b : Nat} {qs : List Nat} {w w' : World} {q off : Nat} (h : PaA W b qs w) (ho : offT[qs.length]? =some off) (h1 : BoxP w' q b off) (h2 : w.heap.size≤q) (h3 : q < w'.heap.size) (hb : Below w.heap.size w w') : PaA W b (qs ++ [q]) w':=by
 have hk:=h.keep hb
 refine ⟨hk.1,fun j q' off' g1 g2=> ?_⟩
 rcases Nat.lt_or_ge j qs.length with hj | hj
 · rw [List.getElem?_append_left hj] at g1
   exact hk.2 j q' off' g1 g2
 · rw [List.getElem?_append_right hj] at g1
   have e : j - qs.length=0:=by
    rcases Nat.eq_zero_or_pos (j - qs.length) with e | e
    · exact e
    · rw [List.getElem?_eq_none (by simp;omega)] at g1;cases g1
   rw [e] at g1
   injection g1 with g1
   have ej : j=qs.length:=by omega
   subst g1 ej
   rw [ho] at g2
   injection g2 with g2
   subst g2
   exact ⟨h1,Nat.le_trans h.1.size h2,h3⟩
theorem parts_fill (q0 q1 q2 q3 q4 q5 q6 q7 q8 q9 q10 q11 q12 q13 q14 q15 q16 q17 q18 q19 q20 q21 q22 q23 q24 q25 : Nat) : Instr.fill (fun j=>some (j * 3,3)) ((Array.range (26 * 3)).map (paZ[· % paZ.size]!)) [(0,.agg (partRow ⟨#[116,111]⟩ .num q0).toArray),(1,.agg (partRow ⟨#[119,104,111]⟩ .num q1).toArray),(2,.agg (partRow ⟨#[116,101,120,116]⟩ .text q2).toArray),(3,.agg (partRow ⟨#[111,112,115]⟩ .ops q3).toArray),(4,.agg (partRow ⟨#[99,117,116,115]⟩ .nums q4).toArray),(5,.agg (partRow ⟨#[115,101,114,118,101,114]⟩ .flag q5).toArray),(6,.agg (partRow ⟨#[115,111,102,116,119,97,114,101]⟩ .text q6).toArray),(7,.agg (partRow ⟨#[99,111,109,109,101,110,116]⟩ .text q7).toArray),(8,.agg (partRow ⟨#[107,101,120]⟩ .texts q8).toArray),(9,.agg (partRow ⟨#[104,111,115,116]⟩ .texts q9).toArray),(10,.agg (partRow ⟨#[101,110,99,99]⟩ .texts q10).toArray),(11,.agg (partRow ⟨#[101,110,99,115]⟩ .texts q11).toArray),(12,.agg (partRow ⟨#[109,97,99,99]⟩ .texts q12).toArray),(13,.agg (partRow ⟨#[109,97,99,115]⟩ .texts q13).toArray),(14,.agg (partRow ⟨#[99,111,109,112,99]⟩ .texts q14).toArray),(15,.agg (partRow ⟨#[99,111,109,112,115]⟩ .texts q15).toArray),(16,.agg (partRow ⟨#[97,108,103,115]⟩ .texts q16).toArray),(17,.agg (partRow ⟨#[111,119,110]⟩ .num q17).toArray),(18,.agg (partRow ⟨#[103,114,97,110,116,115]⟩ .grants q18).toArray),(19,.agg (partRow ⟨#[108,105,109,105,116]⟩ .num q19).toArray),(20,.agg (partRow ⟨#[112,101,101,114]⟩ .num q20).toArray),(21,.agg (partRow ⟨#[117,115,101,114]⟩ .text q21).toArray),(22,.agg (partRow ⟨#[107,101,121,115]⟩ .nums q22).toArray),(23,.agg (partRow ⟨#[101,120,116]⟩ .flag q23).toArray),(24,.agg (partRow ⟨#[103,117,101,115,115]⟩ .flag q24).toArray),(25,.agg (partRow ⟨#[119,105,115,104]⟩ .wish q25).toArray)]=some (rowsP keyT [q0,q1,q2,q3,q4,q5,q6,q7,q8,q9,q10,q11,q12,q13,q14,q15,q16,q17,q18,q19,q20,q21,q22,q23,q24,q25]).flatten.toArray:=by kernel_rfl
def PaR (b : Nat) (W : World) (r : Ending) (W' : World) : Prop:=
 ∃(A : Option Addr) (qs : List Nat),r= .returned (.slice A 26 26)∧qs.length=26∧Rws W' 3 A 26 (rowsP keyT qs)∧PaA W b qs W'∧∀a,A=some a→W.heap.size≤a.block
section
variable {P : Program} {w : World} {o : Oper} {T : Array Value}
theorem run_buildN_ (t e : TypeId) (len : Nat) (parts : Array (Nat × Operand)) (ho : o.op= .buildSlice t len parts) (i : TypeInfo) (z : Value) (cells : Array Value)
 (ht : P.underlying t=some (.slice e)) (hi : P.info? e=some i) (hz : i.zero=some z) (hpos : len * i.size≠0) (hsmall : len * i.size≤16777216)
 (hf : Instr.fill (fun j=>some (j * i.size,i.size)) ((Array.range (len * i.size)).map (z.cells[· % z.cells.size]!)) (parts.toList.map fun x=>(x.1,(⟨T,[]⟩ : Act).eval x.2))=some cells) :
 (execOp (⟨T,[]⟩ : Act).eval o).run P w= .ok (.value (.slice (some ⟨w.heap.size,0,none⟩) len len)) (w.alloc (.cells cells e)):=by
 have hf' : Instr.fill (fun j=>some (j * i.size,i.size)) ((Array.range (len * i.size)).map (z.cells[· % z.cells.size]!)) (parts.map fun (j,x)=>(j,(⟨T,[]⟩ : Act).eval x)).toList=some cells:=by
  rw [← hf];simp
 have htI : ∀w,(typeInfo e).run P w= .ok i w:=fun w=>by simp [typeInfo,hi]
 have hsz : ∀w,(sizeOf e).run P w= .ok i.size w:=fun w=>by unfold sizeOf;rw [Sem.run_bind,htI];simp
 have hzv : ∀w,(zeroValue e).run P w= .ok z w:=fun w=>by unfold zeroValue;rw [Sem.run_bind,htI];simp [hz]
 have hb : (Instr.buildSlice t len (parts.map fun (j,x)=>(j,(⟨T,[]⟩ : Act).eval x))).run P w= .ok (.slice (some ⟨w.heap.size,0,none⟩) len len) (w.alloc (.cells cells e)):=by
  unfold Instr.buildSlice
  rw [Sem.run_bind,run_underlying ht w,Result.andThen_ok]
  simp only [Sem.run_bind,hsz,Result.andThen_ok,show (2 : Nat) ^ 24=16777216 from rfl,if_neg (show ¬len * i.size > 16777216 by omega),if_neg (show ¬len * i.size=0 by omega),hzv,Sem.run_pure,hf',newRow,run_newObj_alloc]
 unfold execOp
 simp only [ho,Sem.run_bind,hb,Result.andThen_ok,Sem.run_pure]
end
structure PaQ (W1 : World) (b : Nat) (qs : List Nat) (L : Nat→Bool) (T : Array Value) (W : World) : Prop where
 a : PaA W1 b qs W
 le : qs.length≤26
 made : ∀i,i < 26→(L (4 * i + 3)=true↔i < qs.length)
 val : ∀(i q : Nat) (kg : List UInt8 × Tag),qs[i]? =some q→keyT[i]? =some kg→T.getD (14 + 4 * i) undef= .agg (partRow (bs kg.1) kg.2 q).toArray
 built : L 104=true→∃g,T.getD 115 undef= .slice (some ⟨g,0,none⟩) 26 26∧W1.heap.size≤g∧Rws W 3 (some ⟨g,0,none⟩) 26 (rowsP keyT qs)
 last : L 105=true→L 104=true∧T.getD 2 undef=T.getD 115 undef
def PaI (W1 : World) (b : Nat) (L : Nat→Bool) (T : Array Value) (W : World) : Prop:= ∃qs,PaQ W1 b qs L T W
theorem PaQ.pass {W1 : World} {b : Nat} {qs : List Nat} {L : Nat→Bool} {T : Array Value} {W : World} (h : PaQ W1 b qs L T W) {k s : Nat} (v : Value) (hk : k % 4≠3∧k≠104∧k≠105) (hs : s=115∨103 < s∨s % 4≠2) (hs2 : s≠2∧s < 114) (hs3 : s % 4≠2) : PaQ W1 b qs (fun j=>j == k || L j) (T.setIfInBounds s v) W where
 a:=h.a
 le:=h.le
 made i hi:=by
  have : (4 * i + 3 == k)=false:=beq_eq_false_iff_ne.2 (by omega)
  try dsimp only
  rw [this,Bool.false_or]
  exact h.made i hi
 val i q kg h1 h2:=by
  rw [gd_ne (by omega)]
  exact h.val i q kg h1 h2
 built hb:=by
  have : (104 == k)=false:=beq_eq_false_iff_ne.2 (by omega)
  try dsimp only at hb
  rw [this,Bool.false_or] at hb
  obtain ⟨g,h1,h2⟩:=h.built hb
  exact ⟨g,by rw [gd_ne (by omega)];exact h1,h2⟩
 last hb:=by
  have : (105 == k)=false:=beq_eq_false_iff_ne.2 (by omega)
  have h104 : (104 == k)=false:=beq_eq_false_iff_ne.2 (by omega)
  try dsimp only at hb ⊢
  rw [this,Bool.false_or] at hb
  obtain ⟨h1,h2⟩:=h.last hb
  exact ⟨by rw [h1,Bool.or_true],by rw [gd_ne (by omega),gd_ne (by omega)];exact h2⟩
theorem PaI.pass {W1 : World} {b : Nat} {L : Nat→Bool} {T : Array Value} {W : World} (h : PaI W1 b L T W) {k s : Nat} (v : Value) (hk : k % 4≠3∧k≠104∧k≠105) (hs2 : s≠2∧s < 114) (hs3 : s % 4≠2) : PaI W1 b (fun j=>j == k || L j) (T.setIfInBounds s v) W:=by
 obtain ⟨qs,h⟩:=h
 exact ⟨qs,h.pass v hk (.inr (.inr hs3)) hs2 hs3⟩
theorem PaI.call {W1 : World} {b : Nat} {L : Nat→Bool} {T : Array Value} {W W' : World} (h : PaI W1 b L T W) {i : Nat} {key : ByteArray} {g : Tag} {off : Nat} {r : Ending} {kl : List UInt8} (hi : i < 26) (hk : keyT[i]? =some (kl,g)) (hkl : bs kl=key) (ho : offT[i]? =some off) (hp : i=0∨L (4 * (i - 1) + 3)=true) (hL : L (4 * i + 3)=false) (h104 : L 104=false) (h105 : L 105=false) (hT : T.size=116) (hof : OfR key g b off W r W') :
 ∃v,r= .returned v∧PaI W1 b (fun j=>j == 4 * i + 3 || L j) (T.setIfInBounds (14 + 4 * i) v) W':=by
 obtain ⟨qs,h⟩:=h
 obtain ⟨q,rfl,g1,g2,g3,g4⟩:=hof
 have hlen : qs.length=i:=by
  have h1:=h.made i hi
  rw [hL] at h1
  have h2 : ¬i < qs.length:=fun hh=>by have:=h1.2 hh;cases this
  rcases hp with rfl | hp
  · omega
  · have h3:=(h.made (i - 1) (by omega)).1 hp
    omega
 refine ⟨_,rfl,qs ++ [q],⟨h.a.snoc (by rw [hlen];exact ho) g1 g2 g3 g4,by rw [List.length_append,List.length_singleton];omega,fun j hj=> ?_,fun j q' kg h1 h2=> ?_,fun hb=> ?_,fun hb=> ?_⟩⟩
 · try dsimp only
   rw [List.length_append,List.length_singleton]
   by_cases e : j=i
   · subst e
     simp
     omega
   · have : (4 * j + 3 == 4 * i + 3)=false:=beq_eq_false_iff_ne.2 (by omega)
     rw [this,Bool.false_or,h.made j hj]
     omega
 · rcases Nat.lt_or_ge j qs.length with hj | hj
   · rw [List.getElem?_append_left hj] at h1
     rw [gd_ne (by omega)]
     exact h.val j q' kg h1 h2
   · have hj2 : j=i:=by have:=(List.getElem?_eq_some_iff.1 h1).1;rw [List.length_append,List.length_singleton] at this;omega
     subst hj2
     rw [List.getElem?_append_right hj,hlen,Nat.sub_self] at h1
     injection h1 with h1
     rw [hk] at h2
     injection h2 with h2
     subst h1 h2 hkl
     rw [gd_eq (by rw [hT];omega)]
 · try dsimp only at hb
   rw [beq_eq_false_iff_ne.2 (show 104≠4 * i + 3 by omega),Bool.false_or,h104] at hb
   cases hb
 · try dsimp only at hb
   rw [beq_eq_false_iff_ne.2 (show 105≠4 * i + 3 by omega),Bool.false_or,h105] at hb
   cases hb
theorem PaQ.put {W1 : World} {b : Nat} {qs : List Nat} {L : Nat→Bool} {T : Array Value} {W : World} (h : PaQ W1 b qs L T W) (hT : T.size=116) (h26 : qs.length=26) (h105 : L 105=false) : PaI W1 b (fun j=>j == 104 || L j) (T.setIfInBounds 115 (.slice (some ⟨W.heap.size,0,none⟩) 26 26)) (W.alloc (.cells (rowsP keyT qs).flatten.toArray 91)):=by
 have hb:=below_new W (.cells (rowsP keyT qs).flatten.toArray 91)
 have hg:=heap_new W (.cells (rowsP keyT qs).flatten.toArray 91)
 have hrl : (rowsP keyT qs).length=26:=(rowsP_length (by rw [h26];rfl)).trans h26
 refine ⟨qs,⟨h.a.keep hb,h.le,fun i hi=> ?_,fun i q kg h1 h2=> ?_,fun _=>⟨_,gd_eq (by rw [hT];decide),h.a.1.size,?_⟩,fun hb=> ?_⟩⟩
 · try dsimp only
   rw [beq_eq_false_iff_ne.2 (show 4 * i + 3≠104 by omega),Bool.false_or]
   exact h.made i hi
 · rw [gd_ne (by have:=(List.getElem?_eq_some_iff.1 h1).1;omega)]
   exact h.val i q kg h1 h2
 · have:=Rws.block (zs:=rowsP keyT qs) (rowsP_len _ _) hg (Array.getElem?_eq_some_iff.1 hg).1
   rwa [hrl] at this
 · try dsimp only at hb
   rw [show (105 == 104)=false from rfl,Bool.false_or,h105] at hb
   cases hb
theorem PaI.fin {W1 : World} {b : Nat} {L : Nat→Bool} {T : Array Value} {W : World} (h : PaI W1 b L T W) (hT : T.size=116) (hl : L 104=true) : PaI W1 b (fun j=>j == 105 || L j) (T.setIfInBounds 2 (T.getD 115 undef)) W:=by
 obtain ⟨qs,h⟩:=h
 refine ⟨qs,⟨h.a,h.le,fun i hi=> ?_,fun i q kg h1 h2=> ?_,fun hb=> ?_,fun _=>⟨?_,?_⟩⟩⟩
 · try dsimp only
   rw [beq_eq_false_iff_ne.2 (show 4 * i + 3≠105 by omega),Bool.false_or]
   exact h.made i hi
 · rw [gd_ne (by omega)]
   exact h.val i q kg h1 h2
 · obtain ⟨g,h1,h2⟩:=h.built hl
   exact ⟨g,by rw [gd_ne (by decide)];exact h1,h2⟩
 · try dsimp only
   rw [hl,Bool.or_true]
 · rw [gd_eq (by rw [hT];decide),gd_ne (by decide)]
theorem list26 {α : Type} {l : List α} (h : l.length=26) : ∃q0 q1 q2 q3 q4 q5 q6 q7 q8 q9 q10 q11 q12 q13 q14 q15 q16 q17 q18 q19 q20 q21 q22 q23 q24 q25,l=[q0,q1,q2,q3,q4,q5,q6,q7,q8,q9,q10,q11,q12,q13,q14,q15,q16,q17,q18,q19,q20,q21,q22,q23,q24,q25]:=by
 match l,h with
 | [q0,q1,q2,q3,q4,q5,q6,q7,q8,q9,q10,q11,q12,q13,q14,q15,q16,q17,q18,q19,q20,q21,q22,q23,q24,q25],_=>exact ⟨q0,q1,q2,q3,q4,q5,q6,q7,q8,q9,q10,q11,q12,q13,q14,q15,q16,q17,q18,q19,q20,q21,q22,q23,q24,q25,rfl⟩
theorem PaI.all {W1 : World} {b : Nat} {L : Nat→Bool} {T : Array Value} {W : World} (h : PaI W1 b L T W) (hl : L 103=true) : ∃q0 q1 q2 q3 q4 q5 q6 q7 q8 q9 q10 q11 q12 q13 q14 q15 q16 q17 q18 q19 q20 q21 q22 q23 q24 q25,PaQ W1 b [q0,q1,q2,q3,q4,q5,q6,q7,q8,q9,q10,q11,q12,q13,q14,q15,q16,q17,q18,q19,q20,q21,q22,q23,q24,q25] L T W∧T.getD 14 undef= .agg (partRow ⟨#[116,111]⟩ .num q0).toArray∧T.getD 18 undef= .agg (partRow ⟨#[119,104,111]⟩ .num q1).toArray∧T.getD 22 undef= .agg (partRow ⟨#[116,101,120,116]⟩ .text q2).toArray∧T.getD 26 undef= .agg (partRow ⟨#[111,112,115]⟩ .ops q3).toArray∧T.getD 30 undef= .agg (partRow ⟨#[99,117,116,115]⟩ .nums q4).toArray∧T.getD 34 undef= .agg (partRow ⟨#[115,101,114,118,101,114]⟩ .flag q5).toArray∧T.getD 38 undef= .agg (partRow ⟨#[115,111,102,116,119,97,114,101]⟩ .text q6).toArray∧T.getD 42 undef= .agg (partRow ⟨#[99,111,109,109,101,110,116]⟩ .text q7).toArray∧T.getD 46 undef= .agg (partRow ⟨#[107,101,120]⟩ .texts q8).toArray∧T.getD 50 undef= .agg (partRow ⟨#[104,111,115,116]⟩ .texts q9).toArray∧T.getD 54 undef= .agg (partRow ⟨#[101,110,99,99]⟩ .texts q10).toArray∧T.getD 58 undef= .agg (partRow ⟨#[101,110,99,115]⟩ .texts q11).toArray∧T.getD 62 undef= .agg (partRow ⟨#[109,97,99,99]⟩ .texts q12).toArray∧T.getD 66 undef= .agg (partRow ⟨#[109,97,99,115]⟩ .texts q13).toArray∧T.getD 70 undef= .agg (partRow ⟨#[99,111,109,112,99]⟩ .texts q14).toArray∧T.getD 74 undef= .agg (partRow ⟨#[99,111,109,112,115]⟩ .texts q15).toArray∧T.getD 78 undef= .agg (partRow ⟨#[97,108,103,115]⟩ .texts q16).toArray∧T.getD 82 undef= .agg (partRow ⟨#[111,119,110]⟩ .num q17).toArray∧T.getD 86 undef= .agg (partRow ⟨#[103,114,97,110,116,115]⟩ .grants q18).toArray∧T.getD 90 undef= .agg (partRow ⟨#[108,105,109,105,116]⟩ .num q19).toArray∧T.getD 94 undef= .agg (partRow ⟨#[112,101,101,114]⟩ .num q20).toArray∧T.getD 98 undef= .agg (partRow ⟨#[117,115,101,114]⟩ .text q21).toArray∧T.getD 102 undef= .agg (partRow ⟨#[107,101,121,115]⟩ .nums q22).toArray∧T.getD 106 undef= .agg (partRow ⟨#[101,120,116]⟩ .flag q23).toArray∧T.getD 110 undef= .agg (partRow ⟨#[103,117,101,115,115]⟩ .flag q24).toArray∧T.getD 114 undef= .agg (partRow ⟨#[119,105,115,104]⟩ .wish q25).toArray:=by
 obtain ⟨qs,h⟩:=h
 have h26 : qs.length=26:=by have:=(h.made 25 (by decide)).1 hl;have:=h.le;omega
 obtain ⟨q0,q1,q2,q3,q4,q5,q6,q7,q8,q9,q10,q11,q12,q13,q14,q15,q16,q17,q18,q19,q20,q21,q22,q23,q24,q25,rfl⟩:=list26 h26
 exact ⟨q0,q1,q2,q3,q4,q5,q6,q7,q8,q9,q10,q11,q12,q13,q14,q15,q16,q17,q18,q19,q20,q21,q22,q23,q24,q25,h,h.val 0 q0 _ rfl rfl,h.val 1 q1 _ rfl rfl,h.val 2 q2 _ rfl rfl,h.val 3 q3 _ rfl rfl,h.val 4 q4 _ rfl rfl,h.val 5 q5 _ rfl rfl,h.val 6 q6 _ rfl rfl,h.val 7 q7 _ rfl rfl,h.val 8 q8 _ rfl rfl,h.val 9 q9 _ rfl rfl,h.val 10 q10 _ rfl rfl,h.val 11 q11 _ rfl rfl,h.val 12 q12 _ rfl rfl,h.val 13 q13 _ rfl rfl,h.val 14 q14 _ rfl rfl,h.val 15 q15 _ rfl rfl,h.val 16 q16 _ rfl rfl,h.val 17 q17 _ rfl rfl,h.val 18 q18 _ rfl rfl,h.val 19 q19 _ rfl rfl,h.val 20 q20 _ rfl rfl,h.val 21 q21 _ rfl rfl,h.val 22 q22 _ rfl rfl,h.val 23 q23 _ rfl rfl,h.val 24 q24 _ rfl rfl,h.val 25 q25 _ rfl rfl⟩
def dsPa : List (Option Nat):=[some 11,some 12,some 13,some 14,some 15,some 16,some 17,some 18,some 19,some 20,some 21,some 22,some 23,some 24,some 25,some 26,some 27,some 28,some 29,some 30,some 31,some 32,some 33,some 34,some 35,some 36,some 37,some 38,some 39,some 40,some 41,some 42,some 43,some 44,some 45,some 46,some 47,some 48,some 49,some 50,some 51,some 52,some 53,some 54,some 55,some 56,some 57,some 58,some 59,some 60,some 61,some 62,some 63,some 64,some 65,some 66,some 67,some 68,some 69,some 70,some 71,some 72,some 73,some 74,some 75,some 76,some 77,some 78,some 79,some 80,some 81,some 82,some 83,some 84,some 85,some 86,some 87,some 88,some 89,some 90,some 91,some 92,some 93,some 94,some 95,some 96,some 97,some 98,some 99,some 100,some 101,some 102,some 103,some 104,some 105,some 106,some 107,some 108,some 109,some 110,some 111,some 112,some 113,some 114,some 115,some 2]
def tbPa : List (List Nat):=[[],[0],[1],[2],[],[4],[5],[3,6],[],[8],[9],[7,10],[],[12],[13],[11,14],[],[16],[17],[15,18],[],[20],[21],[19,22],[],[24],[25],[23,26],[],[28],[29],[27,30],[],[32],[33],[31,34],[],[36],[37],[35,38],[],[40],[41],[39,42],[],[44],[45],[43,46],[],[48],[49],[47,50],[],[52],[53],[51,54],[],[56],[57],[55,58],[],[60],[61],[59,62],[],[64],[65],[63,66],[],[68],[69],[67,70],[],[72],[73],[71,74],[],[76],[77],[75,78],[],[80],[81],[79,82],[],[84],[85],[83,86],[],[88],[89],[87,90],[],[92],[93],[91,94],[],[96],[97],[95,98],[],[100],[101],[99,102],[3,7,11,15,19,23,27,31,35,39,43,47,51,55,59,63,67,71,75,79,83,87,91,95,99,103],[104]]
def vsPa (b : Nat) : List (Option Value):=[some (.pointer (some ⟨b,0,none⟩)),some (.pointer (some ⟨b,0,none⟩)),some (.pointer (some ⟨b,1,none⟩)),none,some (.pointer (some ⟨b,0,none⟩)),some (.pointer (some ⟨b,0,none⟩)),some (.pointer (some ⟨b,25,none⟩)),none,some (.pointer (some ⟨b,0,none⟩)),some (.pointer (some ⟨b,0,none⟩)),some (.pointer (some ⟨b,26,none⟩)),none,some (.pointer (some ⟨b,0,none⟩)),some (.pointer (some ⟨b,0,none⟩)),some (.pointer (some ⟨b,27,none⟩)),none,some (.pointer (some ⟨b,0,none⟩)),some (.pointer (some ⟨b,0,none⟩)),some (.pointer (some ⟨b,28,none⟩)),none,some (.pointer (some ⟨b,2,none⟩)),some (.pointer (some ⟨b,2,none⟩)),some (.pointer (some ⟨b,2,none⟩)),none,some (.pointer (some ⟨b,2,none⟩)),some (.pointer (some ⟨b,2,none⟩)),some (.pointer (some ⟨b,3,none⟩)),none,some (.pointer (some ⟨b,2,none⟩)),some (.pointer (some ⟨b,2,none⟩)),some (.pointer (some ⟨b,4,none⟩)),none,some (.pointer (some ⟨b,5,none⟩)),some (.pointer (some ⟨b,5,none⟩)),some (.pointer (some ⟨b,5,none⟩)),none,some (.pointer (some ⟨b,5,none⟩)),some (.pointer (some ⟨b,5,none⟩)),some (.pointer (some ⟨b,6,none⟩)),none,some (.pointer (some ⟨b,5,none⟩)),some (.pointer (some ⟨b,5,none⟩)),some (.pointer (some ⟨b,7,none⟩)),none,some (.pointer (some ⟨b,5,none⟩)),some (.pointer (some ⟨b,5,none⟩)),some (.pointer (some ⟨b,8,none⟩)),none,some (.pointer (some ⟨b,5,none⟩)),some (.pointer (some ⟨b,5,none⟩)),some (.pointer (some ⟨b,9,none⟩)),none,some (.pointer (some ⟨b,5,none⟩)),some (.pointer (some ⟨b,5,none⟩)),some (.pointer (some ⟨b,10,none⟩)),none,some (.pointer (some ⟨b,5,none⟩)),some (.pointer (some ⟨b,5,none⟩)),some (.pointer (some ⟨b,11,none⟩)),none,some (.pointer (some ⟨b,5,none⟩)),some (.pointer (some ⟨b,5,none⟩)),some (.pointer (some ⟨b,12,none⟩)),none,some (.pointer (some ⟨b,2,none⟩)),some (.pointer (some ⟨b,2,none⟩)),some (.pointer (some ⟨b,13,none⟩)),none,some (.pointer (some ⟨b,2,none⟩)),some (.pointer (some ⟨b,2,none⟩)),some (.pointer (some ⟨b,14,none⟩)),none,some (.pointer (some ⟨b,2,none⟩)),some (.pointer (some ⟨b,2,none⟩)),some (.pointer (some ⟨b,15,none⟩)),none,some (.pointer (some ⟨b,2,none⟩)),some (.pointer (some ⟨b,2,none⟩)),some (.pointer (some ⟨b,16,none⟩)),none,some (.pointer (some ⟨b,2,none⟩)),some (.pointer (some ⟨b,2,none⟩)),some (.pointer (some ⟨b,17,none⟩)),none,some (.pointer (some ⟨b,2,none⟩)),some (.pointer (some ⟨b,2,none⟩)),some (.pointer (some ⟨b,18,none⟩)),none,some (.pointer (some ⟨b,2,none⟩)),some (.pointer (some ⟨b,2,none⟩)),some (.pointer (some ⟨b,19,none⟩)),none,some (.pointer (some ⟨b,2,none⟩)),some (.pointer (some ⟨b,2,none⟩)),some (.pointer (some ⟨b,20,none⟩)),none,some (.pointer (some ⟨b,2,none⟩)),some (.pointer (some ⟨b,2,none⟩)),some (.pointer (some ⟨b,21,none⟩)),none,some (.pointer (some ⟨b,2,none⟩)),some (.pointer (some ⟨b,2,none⟩)),some (.pointer (some ⟨b,22,none⟩)),none,none,none]
set_option maxRecDepth 100000 in
set_option maxHeartbeats 16000000 in
theorem parts_any (b : Nat) (w : World) : Calls Tryz.prog 41 #[.pointer (some ⟨b,0,none⟩)] w (PaR b w):=by
 go_enter Tryz.func41,Tryz.ntmps41
 go_wp2_with fail
 simp only [List.append]
 refine region_iw tbPa dsPa (vsPa b) (fun L T W=>PaI w b L T W) rfl (by decide) (by kernel_rfl) ?hlt ?hstep ?hdone ?hstart
 case hstart=>exact ⟨[],⟨⟨drewN_below 1,fun j q off h=>(by cases h)⟩,Nat.zero_le _,fun i hi=>⟨fun h=>absurd h (inv_not (n:=106) (i:=4 * i + 3) (by omega)),fun h=>absurd h (Nat.not_lt_zero _)⟩,fun i q kg h=>(by cases h),fun h=>absurd h (inv_not (n:=106) (i:=104) (by decide)),fun h=>absurd h (inv_not (n:=106) (i:=105) (by decide))⟩⟩
 case hlt=>
  intro ix o ho
  have hi:=(Array.getElem?_eq_some_iff.1 ho).1
  match ix,hi with
  | 0,_=>obtain rfl:=Option.some.inj ho;decide
  | 1,_=>obtain rfl:=Option.some.inj ho;decide
  | 2,_=>obtain rfl:=Option.some.inj ho;decide
  | 3,_=>obtain rfl:=Option.some.inj ho;decide
  | 4,_=>obtain rfl:=Option.some.inj ho;decide
  | 5,_=>obtain rfl:=Option.some.inj ho;decide
  | 6,_=>obtain rfl:=Option.some.inj ho;decide
  | 7,_=>obtain rfl:=Option.some.inj ho;decide
  | 8,_=>obtain rfl:=Option.some.inj ho;decide
  | 9,_=>obtain rfl:=Option.some.inj ho;decide
  | 10,_=>obtain rfl:=Option.some.inj ho;decide
  | 11,_=>obtain rfl:=Option.some.inj ho;decide
  | 12,_=>obtain rfl:=Option.some.inj ho;decide
  | 13,_=>obtain rfl:=Option.some.inj ho;decide
  | 14,_=>obtain rfl:=Option.some.inj ho;decide
  | 15,_=>obtain rfl:=Option.some.inj ho;decide
  | 16,_=>obtain rfl:=Option.some.inj ho;decide
  | 17,_=>obtain rfl:=Option.some.inj ho;decide
  | 18,_=>obtain rfl:=Option.some.inj ho;decide
  | 19,_=>obtain rfl:=Option.some.inj ho;decide
  | 20,_=>obtain rfl:=Option.some.inj ho;decide
  | 21,_=>obtain rfl:=Option.some.inj ho;decide
  | 22,_=>obtain rfl:=Option.some.inj ho;decide
  | 23,_=>obtain rfl:=Option.some.inj ho;decide
  | 24,_=>obtain rfl:=Option.some.inj ho;decide
  | 25,_=>obtain rfl:=Option.some.inj ho;decide
  | 26,_=>obtain rfl:=Option.some.inj ho;decide
  | 27,_=>obtain rfl:=Option.some.inj ho;decide
  | 28,_=>obtain rfl:=Option.some.inj ho;decide
  | 29,_=>obtain rfl:=Option.some.inj ho;decide
  | 30,_=>obtain rfl:=Option.some.inj ho;decide
  | 31,_=>obtain rfl:=Option.some.inj ho;decide
  | 32,_=>obtain rfl:=Option.some.inj ho;decide
  | 33,_=>obtain rfl:=Option.some.inj ho;decide
  | 34,_=>obtain rfl:=Option.some.inj ho;decide
  | 35,_=>obtain rfl:=Option.some.inj ho;decide
  | 36,_=>obtain rfl:=Option.some.inj ho;decide
  | 37,_=>obtain rfl:=Option.some.inj ho;decide
  | 38,_=>obtain rfl:=Option.some.inj ho;decide
  | 39,_=>obtain rfl:=Option.some.inj ho;decide
  | 40,_=>obtain rfl:=Option.some.inj ho;decide
  | 41,_=>obtain rfl:=Option.some.inj ho;decide
  | 42,_=>obtain rfl:=Option.some.inj ho;decide
  | 43,_=>obtain rfl:=Option.some.inj ho;decide
  | 44,_=>obtain rfl:=Option.some.inj ho;decide
  | 45,_=>obtain rfl:=Option.some.inj ho;decide
  | 46,_=>obtain rfl:=Option.some.inj ho;decide
  | 47,_=>obtain rfl:=Option.some.inj ho;decide
  | 48,_=>obtain rfl:=Option.some.inj ho;decide
  | 49,_=>obtain rfl:=Option.some.inj ho;decide
  | 50,_=>obtain rfl:=Option.some.inj ho;decide
  | 51,_=>obtain rfl:=Option.some.inj ho;decide
  | 52,_=>obtain rfl:=Option.some.inj ho;decide
  | 53,_=>obtain rfl:=Option.some.inj ho;decide
  | 54,_=>obtain rfl:=Option.some.inj ho;decide
  | 55,_=>obtain rfl:=Option.some.inj ho;decide
  | 56,_=>obtain rfl:=Option.some.inj ho;decide
  | 57,_=>obtain rfl:=Option.some.inj ho;decide
  | 58,_=>obtain rfl:=Option.some.inj ho;decide
  | 59,_=>obtain rfl:=Option.some.inj ho;decide
  | 60,_=>obtain rfl:=Option.some.inj ho;decide
  | 61,_=>obtain rfl:=Option.some.inj ho;decide
  | 62,_=>obtain rfl:=Option.some.inj ho;decide
  | 63,_=>obtain rfl:=Option.some.inj ho;decide
  | 64,_=>obtain rfl:=Option.some.inj ho;decide
  | 65,_=>obtain rfl:=Option.some.inj ho;decide
  | 66,_=>obtain rfl:=Option.some.inj ho;decide
  | 67,_=>obtain rfl:=Option.some.inj ho;decide
  | 68,_=>obtain rfl:=Option.some.inj ho;decide
  | 69,_=>obtain rfl:=Option.some.inj ho;decide
  | 70,_=>obtain rfl:=Option.some.inj ho;decide
  | 71,_=>obtain rfl:=Option.some.inj ho;decide
  | 72,_=>obtain rfl:=Option.some.inj ho;decide
  | 73,_=>obtain rfl:=Option.some.inj ho;decide
  | 74,_=>obtain rfl:=Option.some.inj ho;decide
  | 75,_=>obtain rfl:=Option.some.inj ho;decide
  | 76,_=>obtain rfl:=Option.some.inj ho;decide
  | 77,_=>obtain rfl:=Option.some.inj ho;decide
  | 78,_=>obtain rfl:=Option.some.inj ho;decide
  | 79,_=>obtain rfl:=Option.some.inj ho;decide
  | 80,_=>obtain rfl:=Option.some.inj ho;decide
  | 81,_=>obtain rfl:=Option.some.inj ho;decide
  | 82,_=>obtain rfl:=Option.some.inj ho;decide
  | 83,_=>obtain rfl:=Option.some.inj ho;decide
  | 84,_=>obtain rfl:=Option.some.inj ho;decide
  | 85,_=>obtain rfl:=Option.some.inj ho;decide
  | 86,_=>obtain rfl:=Option.some.inj ho;decide
  | 87,_=>obtain rfl:=Option.some.inj ho;decide
  | 88,_=>obtain rfl:=Option.some.inj ho;decide
  | 89,_=>obtain rfl:=Option.some.inj ho;decide
  | 90,_=>obtain rfl:=Option.some.inj ho;decide
  | 91,_=>obtain rfl:=Option.some.inj ho;decide
  | 92,_=>obtain rfl:=Option.some.inj ho;decide
  | 93,_=>obtain rfl:=Option.some.inj ho;decide
  | 94,_=>obtain rfl:=Option.some.inj ho;decide
  | 95,_=>obtain rfl:=Option.some.inj ho;decide
  | 96,_=>obtain rfl:=Option.some.inj ho;decide
  | 97,_=>obtain rfl:=Option.some.inj ho;decide
  | 98,_=>obtain rfl:=Option.some.inj ho;decide
  | 99,_=>obtain rfl:=Option.some.inj ho;decide
  | 100,_=>obtain rfl:=Option.some.inj ho;decide
  | 101,_=>obtain rfl:=Option.some.inj ho;decide
  | 102,_=>obtain rfl:=Option.some.inj ho;decide
  | 103,_=>obtain rfl:=Option.some.inj ho;decide
  | 104,_=>obtain rfl:=Option.some.inj ho;decide
  | 105,_=>obtain rfl:=Option.some.inj ho;decide
 case hstep=>
  intro T1 hE L T W ix o hF hW hc ho hLi hd K hK
  have hN : T1.size=116:=by rw [hE];rfl
  have f0 : T.getD 0 undef= .pointer (some ⟨b,0,none⟩):=(hF.old 0 (by decide)).trans (by rw [hE];rfl)
  have f3 : T.getD 3 undef= .pointer (some ⟨b,2,none⟩):=(hF.old 3 (by decide)).trans (by rw [hE];rfl)
  have f4 : T.getD 4 undef= .pointer (some ⟨b,5,none⟩):=(hF.old 4 (by decide)).trans (by rw [hE];rfl)
  clear hE
  replace hF:=Lib.hid hF
  replace hW:=Lib.hid hW
  replace hK:=Lib.hid hK
  have hi:=(List.getElem?_eq_some_iff.1 ho).1
  match ix,hi with
  | 0,_=>
    obtain rfl:=Option.some.inj ho
    clear hd ho hi hc hLi
    exact st_val (v:= .pointer (some ⟨b,0,none⟩)) (w':=W) (want_none rfl) (by unfold execOp;dsimp only [Act.eval];simp only [f0];go_simp) (hK.out _ _ (hF.out.putv (k:=0) (s:=11) rfl (by decide) hN (by decide) rfl (hW.out.pass (k:=0) (s:=11) _ (by decide) (by decide) (by decide))))
  | 1,_=>
    obtain rfl:=Option.some.inj ho
    have l0 : L 0=true:=dep_of hd (n:=0) (by decide)
    have e11 : T.getD 11 undef= .pointer (some ⟨b,0,none⟩):=hF.out.val 0 11 _ l0 rfl rfl
    clear hd ho hi hc hLi
    exact st_val (v:= .pointer (some ⟨b,0,none⟩)) (w':=W) (want_none rfl) (by unfold execOp;dsimp only [Act.eval];simp only [e11];go_simp) (hK.out _ _ (hF.out.putv (k:=1) (s:=12) rfl (by decide) hN (by decide) rfl (hW.out.pass (k:=1) (s:=12) _ (by decide) (by decide) (by decide))))
  | 2,_=>
    obtain rfl:=Option.some.inj ho
    have l1 : L 1=true:=dep_of hd (n:=1) (by decide)
    have e12 : T.getD 12 undef= .pointer (some ⟨b,0,none⟩):=hF.out.val 1 12 _ l1 rfl rfl
    clear hd ho hi hc hLi
    exact st_val (v:= .pointer (some ⟨b,1,none⟩)) (w':=W) (want_none rfl) (by unfold execOp;dsimp only [Act.eval];simp only [e12];go_simp) (hK.out _ _ (hF.out.putv (k:=2) (s:=13) rfl (by decide) hN (by decide) rfl (hW.out.pass (k:=2) (s:=13) _ (by decide) (by decide) (by decide))))
  | 3,_=>
    obtain rfl:=Option.some.inj ho
    have l2 : L 2=true:=dep_of hd (n:=2) (by decide)
    have e13 : T.getD 13 undef= .pointer (some ⟨b,1,none⟩):=hF.out.val 2 13 _ l2 rfl rfl
    have n104 : L 104=false:=by cases h4 : L 104 with | false=>rfl | true=>exact absurd ((hc 104 3 h4 (by decide)).symm.trans hLi) (by decide)
    have n105 : L 105=false:=by cases h4 : L 105 with | false=>rfl | true=>exact absurd ((hc 104 3 (hc 105 104 h4 (by decide)) (by decide)).symm.trans hLi) (by decide)
    clear hd ho hi hc
    refine st_call (want_none rfl) (by unfold execOp;go_simp) (of_num ⟨#[116,111]⟩ b 1 W) ?_
    rintro r w3 hof
    obtain ⟨v,rfl,hI⟩:=hW.out.call (i:=0) (key:=⟨#[116,111]⟩) (g:= .num) (off:=1) (by decide) rfl rfl rfl (.inl rfl) hLi n104 n105 (by rw [hF.out.size,hN]) hof
    exact ⟨_,rfl,hK.out _ _ (hF.out.put (k:=3) (s:=14) rfl (by decide) hN (by decide) (fun u hu=>by cases hu) hI)⟩
  | 4,_=>
    obtain rfl:=Option.some.inj ho
    clear hd ho hi hc hLi
    exact st_val (v:= .pointer (some ⟨b,0,none⟩)) (w':=W) (want_none rfl) (by unfold execOp;dsimp only [Act.eval];simp only [f0];go_simp) (hK.out _ _ (hF.out.putv (k:=4) (s:=15) rfl (by decide) hN (by decide) rfl (hW.out.pass (k:=4) (s:=15) _ (by decide) (by decide) (by decide))))
  | 5,_=>
    obtain rfl:=Option.some.inj ho
    have l4 : L 4=true:=dep_of hd (n:=4) (by decide)
    have e15 : T.getD 15 undef= .pointer (some ⟨b,0,none⟩):=hF.out.val 4 15 _ l4 rfl rfl
    clear hd ho hi hc hLi
    exact st_val (v:= .pointer (some ⟨b,0,none⟩)) (w':=W) (want_none rfl) (by unfold execOp;dsimp only [Act.eval];simp only [e15];go_simp) (hK.out _ _ (hF.out.putv (k:=5) (s:=16) rfl (by decide) hN (by decide) rfl (hW.out.pass (k:=5) (s:=16) _ (by decide) (by decide) (by decide))))
  | 6,_=>
    obtain rfl:=Option.some.inj ho
    have l5 : L 5=true:=dep_of hd (n:=5) (by decide)
    have e16 : T.getD 16 undef= .pointer (some ⟨b,0,none⟩):=hF.out.val 5 16 _ l5 rfl rfl
    clear hd ho hi hc hLi
    exact st_val (v:= .pointer (some ⟨b,25,none⟩)) (w':=W) (want_none rfl) (by unfold execOp;dsimp only [Act.eval];simp only [e16];go_simp) (hK.out _ _ (hF.out.putv (k:=6) (s:=17) rfl (by decide) hN (by decide) rfl (hW.out.pass (k:=6) (s:=17) _ (by decide) (by decide) (by decide))))
  | 7,_=>
    obtain rfl:=Option.some.inj ho
    have l6 : L 6=true:=dep_of hd (n:=6) (by decide)
    have e17 : T.getD 17 undef= .pointer (some ⟨b,25,none⟩):=hF.out.val 6 17 _ l6 rfl rfl
    have l3 : L 3=true:=dep_of hd (n:=3) (by decide)
    have n104 : L 104=false:=by cases h4 : L 104 with | false=>rfl | true=>exact absurd ((hc 104 7 h4 (by decide)).symm.trans hLi) (by decide)
    have n105 : L 105=false:=by cases h4 : L 105 with | false=>rfl | true=>exact absurd ((hc 104 7 (hc 105 104 h4 (by decide)) (by decide)).symm.trans hLi) (by decide)
    clear hd ho hi hc
    refine st_call (want_none rfl) (by unfold execOp;go_simp) (of_num ⟨#[119,104,111]⟩ b 25 W) ?_
    rintro r w3 hof
    obtain ⟨v,rfl,hI⟩:=hW.out.call (i:=1) (key:=⟨#[119,104,111]⟩) (g:= .num) (off:=25) (by decide) rfl rfl rfl (.inr l3) hLi n104 n105 (by rw [hF.out.size,hN]) hof
    exact ⟨_,rfl,hK.out _ _ (hF.out.put (k:=7) (s:=18) rfl (by decide) hN (by decide) (fun u hu=>by cases hu) hI)⟩
  | 8,_=>
    obtain rfl:=Option.some.inj ho
    clear hd ho hi hc hLi
    exact st_val (v:= .pointer (some ⟨b,0,none⟩)) (w':=W) (want_none rfl) (by unfold execOp;dsimp only [Act.eval];simp only [f0];go_simp) (hK.out _ _ (hF.out.putv (k:=8) (s:=19) rfl (by decide) hN (by decide) rfl (hW.out.pass (k:=8) (s:=19) _ (by decide) (by decide) (by decide))))
  | 9,_=>
    obtain rfl:=Option.some.inj ho
    have l8 : L 8=true:=dep_of hd (n:=8) (by decide)
    have e19 : T.getD 19 undef= .pointer (some ⟨b,0,none⟩):=hF.out.val 8 19 _ l8 rfl rfl
    clear hd ho hi hc hLi
    exact st_val (v:= .pointer (some ⟨b,0,none⟩)) (w':=W) (want_none rfl) (by unfold execOp;dsimp only [Act.eval];simp only [e19];go_simp) (hK.out _ _ (hF.out.putv (k:=9) (s:=20) rfl (by decide) hN (by decide) rfl (hW.out.pass (k:=9) (s:=20) _ (by decide) (by decide) (by decide))))
  | 10,_=>
    obtain rfl:=Option.some.inj ho
    have l9 : L 9=true:=dep_of hd (n:=9) (by decide)
    have e20 : T.getD 20 undef= .pointer (some ⟨b,0,none⟩):=hF.out.val 9 20 _ l9 rfl rfl
    clear hd ho hi hc hLi
    exact st_val (v:= .pointer (some ⟨b,26,none⟩)) (w':=W) (want_none rfl) (by unfold execOp;dsimp only [Act.eval];simp only [e20];go_simp) (hK.out _ _ (hF.out.putv (k:=10) (s:=21) rfl (by decide) hN (by decide) rfl (hW.out.pass (k:=10) (s:=21) _ (by decide) (by decide) (by decide))))
  | 11,_=>
    obtain rfl:=Option.some.inj ho
    have l10 : L 10=true:=dep_of hd (n:=10) (by decide)
    have e21 : T.getD 21 undef= .pointer (some ⟨b,26,none⟩):=hF.out.val 10 21 _ l10 rfl rfl
    have l7 : L 7=true:=dep_of hd (n:=7) (by decide)
    have n104 : L 104=false:=by cases h4 : L 104 with | false=>rfl | true=>exact absurd ((hc 104 11 h4 (by decide)).symm.trans hLi) (by decide)
    have n105 : L 105=false:=by cases h4 : L 105 with | false=>rfl | true=>exact absurd ((hc 104 11 (hc 105 104 h4 (by decide)) (by decide)).symm.trans hLi) (by decide)
    clear hd ho hi hc
    refine st_call (want_none rfl) (by unfold execOp;go_simp) (of_text ⟨#[116,101,120,116]⟩ b 26 W) ?_
    rintro r w3 hof
    obtain ⟨v,rfl,hI⟩:=hW.out.call (i:=2) (key:=⟨#[116,101,120,116]⟩) (g:= .text) (off:=26) (by decide) rfl rfl rfl (.inr l7) hLi n104 n105 (by rw [hF.out.size,hN]) hof
    exact ⟨_,rfl,hK.out _ _ (hF.out.put (k:=11) (s:=22) rfl (by decide) hN (by decide) (fun u hu=>by cases hu) hI)⟩
  | 12,_=>
    obtain rfl:=Option.some.inj ho
    clear hd ho hi hc hLi
    exact st_val (v:= .pointer (some ⟨b,0,none⟩)) (w':=W) (want_none rfl) (by unfold execOp;dsimp only [Act.eval];simp only [f0];go_simp) (hK.out _ _ (hF.out.putv (k:=12) (s:=23) rfl (by decide) hN (by decide) rfl (hW.out.pass (k:=12) (s:=23) _ (by decide) (by decide) (by decide))))
  | 13,_=>
    obtain rfl:=Option.some.inj ho
    have l12 : L 12=true:=dep_of hd (n:=12) (by decide)
    have e23 : T.getD 23 undef= .pointer (some ⟨b,0,none⟩):=hF.out.val 12 23 _ l12 rfl rfl
    clear hd ho hi hc hLi
    exact st_val (v:= .pointer (some ⟨b,0,none⟩)) (w':=W) (want_none rfl) (by unfold execOp;dsimp only [Act.eval];simp only [e23];go_simp) (hK.out _ _ (hF.out.putv (k:=13) (s:=24) rfl (by decide) hN (by decide) rfl (hW.out.pass (k:=13) (s:=24) _ (by decide) (by decide) (by decide))))
  | 14,_=>
    obtain rfl:=Option.some.inj ho
    have l13 : L 13=true:=dep_of hd (n:=13) (by decide)
    have e24 : T.getD 24 undef= .pointer (some ⟨b,0,none⟩):=hF.out.val 13 24 _ l13 rfl rfl
    clear hd ho hi hc hLi
    exact st_val (v:= .pointer (some ⟨b,27,none⟩)) (w':=W) (want_none rfl) (by unfold execOp;dsimp only [Act.eval];simp only [e24];go_simp) (hK.out _ _ (hF.out.putv (k:=14) (s:=25) rfl (by decide) hN (by decide) rfl (hW.out.pass (k:=14) (s:=25) _ (by decide) (by decide) (by decide))))
  | 15,_=>
    obtain rfl:=Option.some.inj ho
    have l14 : L 14=true:=dep_of hd (n:=14) (by decide)
    have e25 : T.getD 25 undef= .pointer (some ⟨b,27,none⟩):=hF.out.val 14 25 _ l14 rfl rfl
    have l11 : L 11=true:=dep_of hd (n:=11) (by decide)
    have n104 : L 104=false:=by cases h4 : L 104 with | false=>rfl | true=>exact absurd ((hc 104 15 h4 (by decide)).symm.trans hLi) (by decide)
    have n105 : L 105=false:=by cases h4 : L 105 with | false=>rfl | true=>exact absurd ((hc 104 15 (hc 105 104 h4 (by decide)) (by decide)).symm.trans hLi) (by decide)
    clear hd ho hi hc
    refine st_call (want_none rfl) (by unfold execOp;go_simp) (of_ops ⟨#[111,112,115]⟩ b 27 W) ?_
    rintro r w3 hof
    obtain ⟨v,rfl,hI⟩:=hW.out.call (i:=3) (key:=⟨#[111,112,115]⟩) (g:= .ops) (off:=27) (by decide) rfl rfl rfl (.inr l11) hLi n104 n105 (by rw [hF.out.size,hN]) hof
    exact ⟨_,rfl,hK.out _ _ (hF.out.put (k:=15) (s:=26) rfl (by decide) hN (by decide) (fun u hu=>by cases hu) hI)⟩
  | 16,_=>
    obtain rfl:=Option.some.inj ho
    clear hd ho hi hc hLi
    exact st_val (v:= .pointer (some ⟨b,0,none⟩)) (w':=W) (want_none rfl) (by unfold execOp;dsimp only [Act.eval];simp only [f0];go_simp) (hK.out _ _ (hF.out.putv (k:=16) (s:=27) rfl (by decide) hN (by decide) rfl (hW.out.pass (k:=16) (s:=27) _ (by decide) (by decide) (by decide))))
  | 17,_=>
    obtain rfl:=Option.some.inj ho
    have l16 : L 16=true:=dep_of hd (n:=16) (by decide)
    have e27 : T.getD 27 undef= .pointer (some ⟨b,0,none⟩):=hF.out.val 16 27 _ l16 rfl rfl
    clear hd ho hi hc hLi
    exact st_val (v:= .pointer (some ⟨b,0,none⟩)) (w':=W) (want_none rfl) (by unfold execOp;dsimp only [Act.eval];simp only [e27];go_simp) (hK.out _ _ (hF.out.putv (k:=17) (s:=28) rfl (by decide) hN (by decide) rfl (hW.out.pass (k:=17) (s:=28) _ (by decide) (by decide) (by decide))))
  | 18,_=>
    obtain rfl:=Option.some.inj ho
    have l17 : L 17=true:=dep_of hd (n:=17) (by decide)
    have e28 : T.getD 28 undef= .pointer (some ⟨b,0,none⟩):=hF.out.val 17 28 _ l17 rfl rfl
    clear hd ho hi hc hLi
    exact st_val (v:= .pointer (some ⟨b,28,none⟩)) (w':=W) (want_none rfl) (by unfold execOp;dsimp only [Act.eval];simp only [e28];go_simp) (hK.out _ _ (hF.out.putv (k:=18) (s:=29) rfl (by decide) hN (by decide) rfl (hW.out.pass (k:=18) (s:=29) _ (by decide) (by decide) (by decide))))
  | 19,_=>
    obtain rfl:=Option.some.inj ho
    have l18 : L 18=true:=dep_of hd (n:=18) (by decide)
    have e29 : T.getD 29 undef= .pointer (some ⟨b,28,none⟩):=hF.out.val 18 29 _ l18 rfl rfl
    have l15 : L 15=true:=dep_of hd (n:=15) (by decide)
    have n104 : L 104=false:=by cases h4 : L 104 with | false=>rfl | true=>exact absurd ((hc 104 19 h4 (by decide)).symm.trans hLi) (by decide)
    have n105 : L 105=false:=by cases h4 : L 105 with | false=>rfl | true=>exact absurd ((hc 104 19 (hc 105 104 h4 (by decide)) (by decide)).symm.trans hLi) (by decide)
    clear hd ho hi hc
    refine st_call (want_none rfl) (by unfold execOp;go_simp) (of_nums ⟨#[99,117,116,115]⟩ b 28 W) ?_
    rintro r w3 hof
    obtain ⟨v,rfl,hI⟩:=hW.out.call (i:=4) (key:=⟨#[99,117,116,115]⟩) (g:= .nums) (off:=28) (by decide) rfl rfl rfl (.inr l15) hLi n104 n105 (by rw [hF.out.size,hN]) hof
    exact ⟨_,rfl,hK.out _ _ (hF.out.put (k:=19) (s:=30) rfl (by decide) hN (by decide) (fun u hu=>by cases hu) hI)⟩
  | 20,_=>
    obtain rfl:=Option.some.inj ho
    clear hd ho hi hc hLi
    exact st_val (v:= .pointer (some ⟨b,2,none⟩)) (w':=W) (want_none rfl) (by unfold execOp;dsimp only [Act.eval];simp only [f3];go_simp) (hK.out _ _ (hF.out.putv (k:=20) (s:=31) rfl (by decide) hN (by decide) rfl (hW.out.pass (k:=20) (s:=31) _ (by decide) (by decide) (by decide))))
  | 21,_=>
    obtain rfl:=Option.some.inj ho
    have l20 : L 20=true:=dep_of hd (n:=20) (by decide)
    have e31 : T.getD 31 undef= .pointer (some ⟨b,2,none⟩):=hF.out.val 20 31 _ l20 rfl rfl
    clear hd ho hi hc hLi
    exact st_val (v:= .pointer (some ⟨b,2,none⟩)) (w':=W) (want_none rfl) (by unfold execOp;dsimp only [Act.eval];simp only [e31];go_simp) (hK.out _ _ (hF.out.putv (k:=21) (s:=32) rfl (by decide) hN (by decide) rfl (hW.out.pass (k:=21) (s:=32) _ (by decide) (by decide) (by decide))))
  | 22,_=>
    obtain rfl:=Option.some.inj ho
    have l21 : L 21=true:=dep_of hd (n:=21) (by decide)
    have e32 : T.getD 32 undef= .pointer (some ⟨b,2,none⟩):=hF.out.val 21 32 _ l21 rfl rfl
    clear hd ho hi hc hLi
    exact st_val (v:= .pointer (some ⟨b,2,none⟩)) (w':=W) (want_none rfl) (by unfold execOp;dsimp only [Act.eval];simp only [e32];go_simp) (hK.out _ _ (hF.out.putv (k:=22) (s:=33) rfl (by decide) hN (by decide) rfl (hW.out.pass (k:=22) (s:=33) _ (by decide) (by decide) (by decide))))
  | 23,_=>
    obtain rfl:=Option.some.inj ho
    have l22 : L 22=true:=dep_of hd (n:=22) (by decide)
    have e33 : T.getD 33 undef= .pointer (some ⟨b,2,none⟩):=hF.out.val 22 33 _ l22 rfl rfl
    have l19 : L 19=true:=dep_of hd (n:=19) (by decide)
    have n104 : L 104=false:=by cases h4 : L 104 with | false=>rfl | true=>exact absurd ((hc 104 23 h4 (by decide)).symm.trans hLi) (by decide)
    have n105 : L 105=false:=by cases h4 : L 105 with | false=>rfl | true=>exact absurd ((hc 104 23 (hc 105 104 h4 (by decide)) (by decide)).symm.trans hLi) (by decide)
    clear hd ho hi hc
    refine st_call (want_none rfl) (by unfold execOp;go_simp) (of_flag ⟨#[115,101,114,118,101,114]⟩ b 2 W) ?_
    rintro r w3 hof
    obtain ⟨v,rfl,hI⟩:=hW.out.call (i:=5) (key:=⟨#[115,101,114,118,101,114]⟩) (g:= .flag) (off:=2) (by decide) rfl rfl rfl (.inr l19) hLi n104 n105 (by rw [hF.out.size,hN]) hof
    exact ⟨_,rfl,hK.out _ _ (hF.out.put (k:=23) (s:=34) rfl (by decide) hN (by decide) (fun u hu=>by cases hu) hI)⟩
  | 24,_=>
    obtain rfl:=Option.some.inj ho
    clear hd ho hi hc hLi
    exact st_val (v:= .pointer (some ⟨b,2,none⟩)) (w':=W) (want_none rfl) (by unfold execOp;dsimp only [Act.eval];simp only [f3];go_simp) (hK.out _ _ (hF.out.putv (k:=24) (s:=35) rfl (by decide) hN (by decide) rfl (hW.out.pass (k:=24) (s:=35) _ (by decide) (by decide) (by decide))))
  | 25,_=>
    obtain rfl:=Option.some.inj ho
    have l24 : L 24=true:=dep_of hd (n:=24) (by decide)
    have e35 : T.getD 35 undef= .pointer (some ⟨b,2,none⟩):=hF.out.val 24 35 _ l24 rfl rfl
    clear hd ho hi hc hLi
    exact st_val (v:= .pointer (some ⟨b,2,none⟩)) (w':=W) (want_none rfl) (by unfold execOp;dsimp only [Act.eval];simp only [e35];go_simp) (hK.out _ _ (hF.out.putv (k:=25) (s:=36) rfl (by decide) hN (by decide) rfl (hW.out.pass (k:=25) (s:=36) _ (by decide) (by decide) (by decide))))
  | 26,_=>
    obtain rfl:=Option.some.inj ho
    have l25 : L 25=true:=dep_of hd (n:=25) (by decide)
    have e36 : T.getD 36 undef= .pointer (some ⟨b,2,none⟩):=hF.out.val 25 36 _ l25 rfl rfl
    clear hd ho hi hc hLi
    exact st_val (v:= .pointer (some ⟨b,3,none⟩)) (w':=W) (want_none rfl) (by unfold execOp;dsimp only [Act.eval];simp only [e36];go_simp) (hK.out _ _ (hF.out.putv (k:=26) (s:=37) rfl (by decide) hN (by decide) rfl (hW.out.pass (k:=26) (s:=37) _ (by decide) (by decide) (by decide))))
  | 27,_=>
    obtain rfl:=Option.some.inj ho
    have l26 : L 26=true:=dep_of hd (n:=26) (by decide)
    have e37 : T.getD 37 undef= .pointer (some ⟨b,3,none⟩):=hF.out.val 26 37 _ l26 rfl rfl
    have l23 : L 23=true:=dep_of hd (n:=23) (by decide)
    have n104 : L 104=false:=by cases h4 : L 104 with | false=>rfl | true=>exact absurd ((hc 104 27 h4 (by decide)).symm.trans hLi) (by decide)
    have n105 : L 105=false:=by cases h4 : L 105 with | false=>rfl | true=>exact absurd ((hc 104 27 (hc 105 104 h4 (by decide)) (by decide)).symm.trans hLi) (by decide)
    clear hd ho hi hc
    refine st_call (want_none rfl) (by unfold execOp;go_simp) (of_text ⟨#[115,111,102,116,119,97,114,101]⟩ b 3 W) ?_
    rintro r w3 hof
    obtain ⟨v,rfl,hI⟩:=hW.out.call (i:=6) (key:=⟨#[115,111,102,116,119,97,114,101]⟩) (g:= .text) (off:=3) (by decide) rfl rfl rfl (.inr l23) hLi n104 n105 (by rw [hF.out.size,hN]) hof
    exact ⟨_,rfl,hK.out _ _ (hF.out.put (k:=27) (s:=38) rfl (by decide) hN (by decide) (fun u hu=>by cases hu) hI)⟩
  | 28,_=>
    obtain rfl:=Option.some.inj ho
    clear hd ho hi hc hLi
    exact st_val (v:= .pointer (some ⟨b,2,none⟩)) (w':=W) (want_none rfl) (by unfold execOp;dsimp only [Act.eval];simp only [f3];go_simp) (hK.out _ _ (hF.out.putv (k:=28) (s:=39) rfl (by decide) hN (by decide) rfl (hW.out.pass (k:=28) (s:=39) _ (by decide) (by decide) (by decide))))
  | 29,_=>
    obtain rfl:=Option.some.inj ho
    have l28 : L 28=true:=dep_of hd (n:=28) (by decide)
    have e39 : T.getD 39 undef= .pointer (some ⟨b,2,none⟩):=hF.out.val 28 39 _ l28 rfl rfl
    clear hd ho hi hc hLi
    exact st_val (v:= .pointer (some ⟨b,2,none⟩)) (w':=W) (want_none rfl) (by unfold execOp;dsimp only [Act.eval];simp only [e39];go_simp) (hK.out _ _ (hF.out.putv (k:=29) (s:=40) rfl (by decide) hN (by decide) rfl (hW.out.pass (k:=29) (s:=40) _ (by decide) (by decide) (by decide))))
  | 30,_=>
    obtain rfl:=Option.some.inj ho
    have l29 : L 29=true:=dep_of hd (n:=29) (by decide)
    have e40 : T.getD 40 undef= .pointer (some ⟨b,2,none⟩):=hF.out.val 29 40 _ l29 rfl rfl
    clear hd ho hi hc hLi
    exact st_val (v:= .pointer (some ⟨b,4,none⟩)) (w':=W) (want_none rfl) (by unfold execOp;dsimp only [Act.eval];simp only [e40];go_simp) (hK.out _ _ (hF.out.putv (k:=30) (s:=41) rfl (by decide) hN (by decide) rfl (hW.out.pass (k:=30) (s:=41) _ (by decide) (by decide) (by decide))))
  | 31,_=>
    obtain rfl:=Option.some.inj ho
    have l30 : L 30=true:=dep_of hd (n:=30) (by decide)
    have e41 : T.getD 41 undef= .pointer (some ⟨b,4,none⟩):=hF.out.val 30 41 _ l30 rfl rfl
    have l27 : L 27=true:=dep_of hd (n:=27) (by decide)
    have n104 : L 104=false:=by cases h4 : L 104 with | false=>rfl | true=>exact absurd ((hc 104 31 h4 (by decide)).symm.trans hLi) (by decide)
    have n105 : L 105=false:=by cases h4 : L 105 with | false=>rfl | true=>exact absurd ((hc 104 31 (hc 105 104 h4 (by decide)) (by decide)).symm.trans hLi) (by decide)
    clear hd ho hi hc
    refine st_call (want_none rfl) (by unfold execOp;go_simp) (of_text ⟨#[99,111,109,109,101,110,116]⟩ b 4 W) ?_
    rintro r w3 hof
    obtain ⟨v,rfl,hI⟩:=hW.out.call (i:=7) (key:=⟨#[99,111,109,109,101,110,116]⟩) (g:= .text) (off:=4) (by decide) rfl rfl rfl (.inr l27) hLi n104 n105 (by rw [hF.out.size,hN]) hof
    exact ⟨_,rfl,hK.out _ _ (hF.out.put (k:=31) (s:=42) rfl (by decide) hN (by decide) (fun u hu=>by cases hu) hI)⟩
  | 32,_=>
    obtain rfl:=Option.some.inj ho
    clear hd ho hi hc hLi
    exact st_val (v:= .pointer (some ⟨b,5,none⟩)) (w':=W) (want_none rfl) (by unfold execOp;dsimp only [Act.eval];simp only [f4];go_simp) (hK.out _ _ (hF.out.putv (k:=32) (s:=43) rfl (by decide) hN (by decide) rfl (hW.out.pass (k:=32) (s:=43) _ (by decide) (by decide) (by decide))))
  | 33,_=>
    obtain rfl:=Option.some.inj ho
    have l32 : L 32=true:=dep_of hd (n:=32) (by decide)
    have e43 : T.getD 43 undef= .pointer (some ⟨b,5,none⟩):=hF.out.val 32 43 _ l32 rfl rfl
    clear hd ho hi hc hLi
    exact st_val (v:= .pointer (some ⟨b,5,none⟩)) (w':=W) (want_none rfl) (by unfold execOp;dsimp only [Act.eval];simp only [e43];go_simp) (hK.out _ _ (hF.out.putv (k:=33) (s:=44) rfl (by decide) hN (by decide) rfl (hW.out.pass (k:=33) (s:=44) _ (by decide) (by decide) (by decide))))
  | 34,_=>
    obtain rfl:=Option.some.inj ho
    have l33 : L 33=true:=dep_of hd (n:=33) (by decide)
    have e44 : T.getD 44 undef= .pointer (some ⟨b,5,none⟩):=hF.out.val 33 44 _ l33 rfl rfl
    clear hd ho hi hc hLi
    exact st_val (v:= .pointer (some ⟨b,5,none⟩)) (w':=W) (want_none rfl) (by unfold execOp;dsimp only [Act.eval];simp only [e44];go_simp) (hK.out _ _ (hF.out.putv (k:=34) (s:=45) rfl (by decide) hN (by decide) rfl (hW.out.pass (k:=34) (s:=45) _ (by decide) (by decide) (by decide))))
  | 35,_=>
    obtain rfl:=Option.some.inj ho
    have l34 : L 34=true:=dep_of hd (n:=34) (by decide)
    have e45 : T.getD 45 undef= .pointer (some ⟨b,5,none⟩):=hF.out.val 34 45 _ l34 rfl rfl
    have l31 : L 31=true:=dep_of hd (n:=31) (by decide)
    have n104 : L 104=false:=by cases h4 : L 104 with | false=>rfl | true=>exact absurd ((hc 104 35 h4 (by decide)).symm.trans hLi) (by decide)
    have n105 : L 105=false:=by cases h4 : L 105 with | false=>rfl | true=>exact absurd ((hc 104 35 (hc 105 104 h4 (by decide)) (by decide)).symm.trans hLi) (by decide)
    clear hd ho hi hc
    refine st_call (want_none rfl) (by unfold execOp;go_simp) (of_texts ⟨#[107,101,120]⟩ b 5 W) ?_
    rintro r w3 hof
    obtain ⟨v,rfl,hI⟩:=hW.out.call (i:=8) (key:=⟨#[107,101,120]⟩) (g:= .texts) (off:=5) (by decide) rfl rfl rfl (.inr l31) hLi n104 n105 (by rw [hF.out.size,hN]) hof
    exact ⟨_,rfl,hK.out _ _ (hF.out.put (k:=35) (s:=46) rfl (by decide) hN (by decide) (fun u hu=>by cases hu) hI)⟩
  | 36,_=>
    obtain rfl:=Option.some.inj ho
    clear hd ho hi hc hLi
    exact st_val (v:= .pointer (some ⟨b,5,none⟩)) (w':=W) (want_none rfl) (by unfold execOp;dsimp only [Act.eval];simp only [f4];go_simp) (hK.out _ _ (hF.out.putv (k:=36) (s:=47) rfl (by decide) hN (by decide) rfl (hW.out.pass (k:=36) (s:=47) _ (by decide) (by decide) (by decide))))
  | 37,_=>
    obtain rfl:=Option.some.inj ho
    have l36 : L 36=true:=dep_of hd (n:=36) (by decide)
    have e47 : T.getD 47 undef= .pointer (some ⟨b,5,none⟩):=hF.out.val 36 47 _ l36 rfl rfl
    clear hd ho hi hc hLi
    exact st_val (v:= .pointer (some ⟨b,5,none⟩)) (w':=W) (want_none rfl) (by unfold execOp;dsimp only [Act.eval];simp only [e47];go_simp) (hK.out _ _ (hF.out.putv (k:=37) (s:=48) rfl (by decide) hN (by decide) rfl (hW.out.pass (k:=37) (s:=48) _ (by decide) (by decide) (by decide))))
  | 38,_=>
    obtain rfl:=Option.some.inj ho
    have l37 : L 37=true:=dep_of hd (n:=37) (by decide)
    have e48 : T.getD 48 undef= .pointer (some ⟨b,5,none⟩):=hF.out.val 37 48 _ l37 rfl rfl
    clear hd ho hi hc hLi
    exact st_val (v:= .pointer (some ⟨b,6,none⟩)) (w':=W) (want_none rfl) (by unfold execOp;dsimp only [Act.eval];simp only [e48];go_simp) (hK.out _ _ (hF.out.putv (k:=38) (s:=49) rfl (by decide) hN (by decide) rfl (hW.out.pass (k:=38) (s:=49) _ (by decide) (by decide) (by decide))))
  | 39,_=>
    obtain rfl:=Option.some.inj ho
    have l38 : L 38=true:=dep_of hd (n:=38) (by decide)
    have e49 : T.getD 49 undef= .pointer (some ⟨b,6,none⟩):=hF.out.val 38 49 _ l38 rfl rfl
    have l35 : L 35=true:=dep_of hd (n:=35) (by decide)
    have n104 : L 104=false:=by cases h4 : L 104 with | false=>rfl | true=>exact absurd ((hc 104 39 h4 (by decide)).symm.trans hLi) (by decide)
    have n105 : L 105=false:=by cases h4 : L 105 with | false=>rfl | true=>exact absurd ((hc 104 39 (hc 105 104 h4 (by decide)) (by decide)).symm.trans hLi) (by decide)
    clear hd ho hi hc
    refine st_call (want_none rfl) (by unfold execOp;go_simp) (of_texts ⟨#[104,111,115,116]⟩ b 6 W) ?_
    rintro r w3 hof
    obtain ⟨v,rfl,hI⟩:=hW.out.call (i:=9) (key:=⟨#[104,111,115,116]⟩) (g:= .texts) (off:=6) (by decide) rfl rfl rfl (.inr l35) hLi n104 n105 (by rw [hF.out.size,hN]) hof
    exact ⟨_,rfl,hK.out _ _ (hF.out.put (k:=39) (s:=50) rfl (by decide) hN (by decide) (fun u hu=>by cases hu) hI)⟩
  | 40,_=>
    obtain rfl:=Option.some.inj ho
    clear hd ho hi hc hLi
    exact st_val (v:= .pointer (some ⟨b,5,none⟩)) (w':=W) (want_none rfl) (by unfold execOp;dsimp only [Act.eval];simp only [f4];go_simp) (hK.out _ _ (hF.out.putv (k:=40) (s:=51) rfl (by decide) hN (by decide) rfl (hW.out.pass (k:=40) (s:=51) _ (by decide) (by decide) (by decide))))
  | 41,_=>
    obtain rfl:=Option.some.inj ho
    have l40 : L 40=true:=dep_of hd (n:=40) (by decide)
    have e51 : T.getD 51 undef= .pointer (some ⟨b,5,none⟩):=hF.out.val 40 51 _ l40 rfl rfl
    clear hd ho hi hc hLi
    exact st_val (v:= .pointer (some ⟨b,5,none⟩)) (w':=W) (want_none rfl) (by unfold execOp;dsimp only [Act.eval];simp only [e51];go_simp) (hK.out _ _ (hF.out.putv (k:=41) (s:=52) rfl (by decide) hN (by decide) rfl (hW.out.pass (k:=41) (s:=52) _ (by decide) (by decide) (by decide))))
  | 42,_=>
    obtain rfl:=Option.some.inj ho
    have l41 : L 41=true:=dep_of hd (n:=41) (by decide)
    have e52 : T.getD 52 undef= .pointer (some ⟨b,5,none⟩):=hF.out.val 41 52 _ l41 rfl rfl
    clear hd ho hi hc hLi
    exact st_val (v:= .pointer (some ⟨b,7,none⟩)) (w':=W) (want_none rfl) (by unfold execOp;dsimp only [Act.eval];simp only [e52];go_simp) (hK.out _ _ (hF.out.putv (k:=42) (s:=53) rfl (by decide) hN (by decide) rfl (hW.out.pass (k:=42) (s:=53) _ (by decide) (by decide) (by decide))))
  | 43,_=>
    obtain rfl:=Option.some.inj ho
    have l42 : L 42=true:=dep_of hd (n:=42) (by decide)
    have e53 : T.getD 53 undef= .pointer (some ⟨b,7,none⟩):=hF.out.val 42 53 _ l42 rfl rfl
    have l39 : L 39=true:=dep_of hd (n:=39) (by decide)
    have n104 : L 104=false:=by cases h4 : L 104 with | false=>rfl | true=>exact absurd ((hc 104 43 h4 (by decide)).symm.trans hLi) (by decide)
    have n105 : L 105=false:=by cases h4 : L 105 with | false=>rfl | true=>exact absurd ((hc 104 43 (hc 105 104 h4 (by decide)) (by decide)).symm.trans hLi) (by decide)
    clear hd ho hi hc
    refine st_call (want_none rfl) (by unfold execOp;go_simp) (of_texts ⟨#[101,110,99,99]⟩ b 7 W) ?_
    rintro r w3 hof
    obtain ⟨v,rfl,hI⟩:=hW.out.call (i:=10) (key:=⟨#[101,110,99,99]⟩) (g:= .texts) (off:=7) (by decide) rfl rfl rfl (.inr l39) hLi n104 n105 (by rw [hF.out.size,hN]) hof
    exact ⟨_,rfl,hK.out _ _ (hF.out.put (k:=43) (s:=54) rfl (by decide) hN (by decide) (fun u hu=>by cases hu) hI)⟩
  | 44,_=>
    obtain rfl:=Option.some.inj ho
    clear hd ho hi hc hLi
    exact st_val (v:= .pointer (some ⟨b,5,none⟩)) (w':=W) (want_none rfl) (by unfold execOp;dsimp only [Act.eval];simp only [f4];go_simp) (hK.out _ _ (hF.out.putv (k:=44) (s:=55) rfl (by decide) hN (by decide) rfl (hW.out.pass (k:=44) (s:=55) _ (by decide) (by decide) (by decide))))
  | 45,_=>
    obtain rfl:=Option.some.inj ho
    have l44 : L 44=true:=dep_of hd (n:=44) (by decide)
    have e55 : T.getD 55 undef= .pointer (some ⟨b,5,none⟩):=hF.out.val 44 55 _ l44 rfl rfl
    clear hd ho hi hc hLi
    exact st_val (v:= .pointer (some ⟨b,5,none⟩)) (w':=W) (want_none rfl) (by unfold execOp;dsimp only [Act.eval];simp only [e55];go_simp) (hK.out _ _ (hF.out.putv (k:=45) (s:=56) rfl (by decide) hN (by decide) rfl (hW.out.pass (k:=45) (s:=56) _ (by decide) (by decide) (by decide))))
  | 46,_=>
    obtain rfl:=Option.some.inj ho
    have l45 : L 45=true:=dep_of hd (n:=45) (by decide)
    have e56 : T.getD 56 undef= .pointer (some ⟨b,5,none⟩):=hF.out.val 45 56 _ l45 rfl rfl
    clear hd ho hi hc hLi
    exact st_val (v:= .pointer (some ⟨b,8,none⟩)) (w':=W) (want_none rfl) (by unfold execOp;dsimp only [Act.eval];simp only [e56];go_simp) (hK.out _ _ (hF.out.putv (k:=46) (s:=57) rfl (by decide) hN (by decide) rfl (hW.out.pass (k:=46) (s:=57) _ (by decide) (by decide) (by decide))))
  | 47,_=>
    obtain rfl:=Option.some.inj ho
    have l46 : L 46=true:=dep_of hd (n:=46) (by decide)
    have e57 : T.getD 57 undef= .pointer (some ⟨b,8,none⟩):=hF.out.val 46 57 _ l46 rfl rfl
    have l43 : L 43=true:=dep_of hd (n:=43) (by decide)
    have n104 : L 104=false:=by cases h4 : L 104 with | false=>rfl | true=>exact absurd ((hc 104 47 h4 (by decide)).symm.trans hLi) (by decide)
    have n105 : L 105=false:=by cases h4 : L 105 with | false=>rfl | true=>exact absurd ((hc 104 47 (hc 105 104 h4 (by decide)) (by decide)).symm.trans hLi) (by decide)
    clear hd ho hi hc
    refine st_call (want_none rfl) (by unfold execOp;go_simp) (of_texts ⟨#[101,110,99,115]⟩ b 8 W) ?_
    rintro r w3 hof
    obtain ⟨v,rfl,hI⟩:=hW.out.call (i:=11) (key:=⟨#[101,110,99,115]⟩) (g:= .texts) (off:=8) (by decide) rfl rfl rfl (.inr l43) hLi n104 n105 (by rw [hF.out.size,hN]) hof
    exact ⟨_,rfl,hK.out _ _ (hF.out.put (k:=47) (s:=58) rfl (by decide) hN (by decide) (fun u hu=>by cases hu) hI)⟩
  | 48,_=>
    obtain rfl:=Option.some.inj ho
    clear hd ho hi hc hLi
    exact st_val (v:= .pointer (some ⟨b,5,none⟩)) (w':=W) (want_none rfl) (by unfold execOp;dsimp only [Act.eval];simp only [f4];go_simp) (hK.out _ _ (hF.out.putv (k:=48) (s:=59) rfl (by decide) hN (by decide) rfl (hW.out.pass (k:=48) (s:=59) _ (by decide) (by decide) (by decide))))
  | 49,_=>
    obtain rfl:=Option.some.inj ho
    have l48 : L 48=true:=dep_of hd (n:=48) (by decide)
    have e59 : T.getD 59 undef= .pointer (some ⟨b,5,none⟩):=hF.out.val 48 59 _ l48 rfl rfl
    clear hd ho hi hc hLi
    exact st_val (v:= .pointer (some ⟨b,5,none⟩)) (w':=W) (want_none rfl) (by unfold execOp;dsimp only [Act.eval];simp only [e59];go_simp) (hK.out _ _ (hF.out.putv (k:=49) (s:=60) rfl (by decide) hN (by decide) rfl (hW.out.pass (k:=49) (s:=60) _ (by decide) (by decide) (by decide))))
  | 50,_=>
    obtain rfl:=Option.some.inj ho
    have l49 : L 49=true:=dep_of hd (n:=49) (by decide)
    have e60 : T.getD 60 undef= .pointer (some ⟨b,5,none⟩):=hF.out.val 49 60 _ l49 rfl rfl
    clear hd ho hi hc hLi
    exact st_val (v:= .pointer (some ⟨b,9,none⟩)) (w':=W) (want_none rfl) (by unfold execOp;dsimp only [Act.eval];simp only [e60];go_simp) (hK.out _ _ (hF.out.putv (k:=50) (s:=61) rfl (by decide) hN (by decide) rfl (hW.out.pass (k:=50) (s:=61) _ (by decide) (by decide) (by decide))))
  | 51,_=>
    obtain rfl:=Option.some.inj ho
    have l50 : L 50=true:=dep_of hd (n:=50) (by decide)
    have e61 : T.getD 61 undef= .pointer (some ⟨b,9,none⟩):=hF.out.val 50 61 _ l50 rfl rfl
    have l47 : L 47=true:=dep_of hd (n:=47) (by decide)
    have n104 : L 104=false:=by cases h4 : L 104 with | false=>rfl | true=>exact absurd ((hc 104 51 h4 (by decide)).symm.trans hLi) (by decide)
    have n105 : L 105=false:=by cases h4 : L 105 with | false=>rfl | true=>exact absurd ((hc 104 51 (hc 105 104 h4 (by decide)) (by decide)).symm.trans hLi) (by decide)
    clear hd ho hi hc
    refine st_call (want_none rfl) (by unfold execOp;go_simp) (of_texts ⟨#[109,97,99,99]⟩ b 9 W) ?_
    rintro r w3 hof
    obtain ⟨v,rfl,hI⟩:=hW.out.call (i:=12) (key:=⟨#[109,97,99,99]⟩) (g:= .texts) (off:=9) (by decide) rfl rfl rfl (.inr l47) hLi n104 n105 (by rw [hF.out.size,hN]) hof
    exact ⟨_,rfl,hK.out _ _ (hF.out.put (k:=51) (s:=62) rfl (by decide) hN (by decide) (fun u hu=>by cases hu) hI)⟩
  | 52,_=>
    obtain rfl:=Option.some.inj ho
    clear hd ho hi hc hLi
    exact st_val (v:= .pointer (some ⟨b,5,none⟩)) (w':=W) (want_none rfl) (by unfold execOp;dsimp only [Act.eval];simp only [f4];go_simp) (hK.out _ _ (hF.out.putv (k:=52) (s:=63) rfl (by decide) hN (by decide) rfl (hW.out.pass (k:=52) (s:=63) _ (by decide) (by decide) (by decide))))
  | 53,_=>
    obtain rfl:=Option.some.inj ho
    have l52 : L 52=true:=dep_of hd (n:=52) (by decide)
    have e63 : T.getD 63 undef= .pointer (some ⟨b,5,none⟩):=hF.out.val 52 63 _ l52 rfl rfl
    clear hd ho hi hc hLi
    exact st_val (v:= .pointer (some ⟨b,5,none⟩)) (w':=W) (want_none rfl) (by unfold execOp;dsimp only [Act.eval];simp only [e63];go_simp) (hK.out _ _ (hF.out.putv (k:=53) (s:=64) rfl (by decide) hN (by decide) rfl (hW.out.pass (k:=53) (s:=64) _ (by decide) (by decide) (by decide))))
  | 54,_=>
    obtain rfl:=Option.some.inj ho
    have l53 : L 53=true:=dep_of hd (n:=53) (by decide)
    have e64 : T.getD 64 undef= .pointer (some ⟨b,5,none⟩):=hF.out.val 53 64 _ l53 rfl rfl
    clear hd ho hi hc hLi
    exact st_val (v:= .pointer (some ⟨b,10,none⟩)) (w':=W) (want_none rfl) (by unfold execOp;dsimp only [Act.eval];simp only [e64];go_simp) (hK.out _ _ (hF.out.putv (k:=54) (s:=65) rfl (by decide) hN (by decide) rfl (hW.out.pass (k:=54) (s:=65) _ (by decide) (by decide) (by decide))))
  | 55,_=>
    obtain rfl:=Option.some.inj ho
    have l54 : L 54=true:=dep_of hd (n:=54) (by decide)
    have e65 : T.getD 65 undef= .pointer (some ⟨b,10,none⟩):=hF.out.val 54 65 _ l54 rfl rfl
    have l51 : L 51=true:=dep_of hd (n:=51) (by decide)
    have n104 : L 104=false:=by cases h4 : L 104 with | false=>rfl | true=>exact absurd ((hc 104 55 h4 (by decide)).symm.trans hLi) (by decide)
    have n105 : L 105=false:=by cases h4 : L 105 with | false=>rfl | true=>exact absurd ((hc 104 55 (hc 105 104 h4 (by decide)) (by decide)).symm.trans hLi) (by decide)
    clear hd ho hi hc
    refine st_call (want_none rfl) (by unfold execOp;go_simp) (of_texts ⟨#[109,97,99,115]⟩ b 10 W) ?_
    rintro r w3 hof
    obtain ⟨v,rfl,hI⟩:=hW.out.call (i:=13) (key:=⟨#[109,97,99,115]⟩) (g:= .texts) (off:=10) (by decide) rfl rfl rfl (.inr l51) hLi n104 n105 (by rw [hF.out.size,hN]) hof
    exact ⟨_,rfl,hK.out _ _ (hF.out.put (k:=55) (s:=66) rfl (by decide) hN (by decide) (fun u hu=>by cases hu) hI)⟩
  | 56,_=>
    obtain rfl:=Option.some.inj ho
    clear hd ho hi hc hLi
    exact st_val (v:= .pointer (some ⟨b,5,none⟩)) (w':=W) (want_none rfl) (by unfold execOp;dsimp only [Act.eval];simp only [f4];go_simp) (hK.out _ _ (hF.out.putv (k:=56) (s:=67) rfl (by decide) hN (by decide) rfl (hW.out.pass (k:=56) (s:=67) _ (by decide) (by decide) (by decide))))
  | 57,_=>
    obtain rfl:=Option.some.inj ho
    have l56 : L 56=true:=dep_of hd (n:=56) (by decide)
    have e67 : T.getD 67 undef= .pointer (some ⟨b,5,none⟩):=hF.out.val 56 67 _ l56 rfl rfl
    clear hd ho hi hc hLi
    exact st_val (v:= .pointer (some ⟨b,5,none⟩)) (w':=W) (want_none rfl) (by unfold execOp;dsimp only [Act.eval];simp only [e67];go_simp) (hK.out _ _ (hF.out.putv (k:=57) (s:=68) rfl (by decide) hN (by decide) rfl (hW.out.pass (k:=57) (s:=68) _ (by decide) (by decide) (by decide))))
  | 58,_=>
    obtain rfl:=Option.some.inj ho
    have l57 : L 57=true:=dep_of hd (n:=57) (by decide)
    have e68 : T.getD 68 undef= .pointer (some ⟨b,5,none⟩):=hF.out.val 57 68 _ l57 rfl rfl
    clear hd ho hi hc hLi
    exact st_val (v:= .pointer (some ⟨b,11,none⟩)) (w':=W) (want_none rfl) (by unfold execOp;dsimp only [Act.eval];simp only [e68];go_simp) (hK.out _ _ (hF.out.putv (k:=58) (s:=69) rfl (by decide) hN (by decide) rfl (hW.out.pass (k:=58) (s:=69) _ (by decide) (by decide) (by decide))))
  | 59,_=>
    obtain rfl:=Option.some.inj ho
    have l58 : L 58=true:=dep_of hd (n:=58) (by decide)
    have e69 : T.getD 69 undef= .pointer (some ⟨b,11,none⟩):=hF.out.val 58 69 _ l58 rfl rfl
    have l55 : L 55=true:=dep_of hd (n:=55) (by decide)
    have n104 : L 104=false:=by cases h4 : L 104 with | false=>rfl | true=>exact absurd ((hc 104 59 h4 (by decide)).symm.trans hLi) (by decide)
    have n105 : L 105=false:=by cases h4 : L 105 with | false=>rfl | true=>exact absurd ((hc 104 59 (hc 105 104 h4 (by decide)) (by decide)).symm.trans hLi) (by decide)
    clear hd ho hi hc
    refine st_call (want_none rfl) (by unfold execOp;go_simp) (of_texts ⟨#[99,111,109,112,99]⟩ b 11 W) ?_
    rintro r w3 hof
    obtain ⟨v,rfl,hI⟩:=hW.out.call (i:=14) (key:=⟨#[99,111,109,112,99]⟩) (g:= .texts) (off:=11) (by decide) rfl rfl rfl (.inr l55) hLi n104 n105 (by rw [hF.out.size,hN]) hof
    exact ⟨_,rfl,hK.out _ _ (hF.out.put (k:=59) (s:=70) rfl (by decide) hN (by decide) (fun u hu=>by cases hu) hI)⟩
  | 60,_=>
    obtain rfl:=Option.some.inj ho
    clear hd ho hi hc hLi
    exact st_val (v:= .pointer (some ⟨b,5,none⟩)) (w':=W) (want_none rfl) (by unfold execOp;dsimp only [Act.eval];simp only [f4];go_simp) (hK.out _ _ (hF.out.putv (k:=60) (s:=71) rfl (by decide) hN (by decide) rfl (hW.out.pass (k:=60) (s:=71) _ (by decide) (by decide) (by decide))))
  | 61,_=>
    obtain rfl:=Option.some.inj ho
    have l60 : L 60=true:=dep_of hd (n:=60) (by decide)
    have e71 : T.getD 71 undef= .pointer (some ⟨b,5,none⟩):=hF.out.val 60 71 _ l60 rfl rfl
    clear hd ho hi hc hLi
    exact st_val (v:= .pointer (some ⟨b,5,none⟩)) (w':=W) (want_none rfl) (by unfold execOp;dsimp only [Act.eval];simp only [e71];go_simp) (hK.out _ _ (hF.out.putv (k:=61) (s:=72) rfl (by decide) hN (by decide) rfl (hW.out.pass (k:=61) (s:=72) _ (by decide) (by decide) (by decide))))
  | 62,_=>
    obtain rfl:=Option.some.inj ho
    have l61 : L 61=true:=dep_of hd (n:=61) (by decide)
    have e72 : T.getD 72 undef= .pointer (some ⟨b,5,none⟩):=hF.out.val 61 72 _ l61 rfl rfl
    clear hd ho hi hc hLi
    exact st_val (v:= .pointer (some ⟨b,12,none⟩)) (w':=W) (want_none rfl) (by unfold execOp;dsimp only [Act.eval];simp only [e72];go_simp) (hK.out _ _ (hF.out.putv (k:=62) (s:=73) rfl (by decide) hN (by decide) rfl (hW.out.pass (k:=62) (s:=73) _ (by decide) (by decide) (by decide))))
  | 63,_=>
    obtain rfl:=Option.some.inj ho
    have l62 : L 62=true:=dep_of hd (n:=62) (by decide)
    have e73 : T.getD 73 undef= .pointer (some ⟨b,12,none⟩):=hF.out.val 62 73 _ l62 rfl rfl
    have l59 : L 59=true:=dep_of hd (n:=59) (by decide)
    have n104 : L 104=false:=by cases h4 : L 104 with | false=>rfl | true=>exact absurd ((hc 104 63 h4 (by decide)).symm.trans hLi) (by decide)
    have n105 : L 105=false:=by cases h4 : L 105 with | false=>rfl | true=>exact absurd ((hc 104 63 (hc 105 104 h4 (by decide)) (by decide)).symm.trans hLi) (by decide)
    clear hd ho hi hc
    refine st_call (want_none rfl) (by unfold execOp;go_simp) (of_texts ⟨#[99,111,109,112,115]⟩ b 12 W) ?_
    rintro r w3 hof
    obtain ⟨v,rfl,hI⟩:=hW.out.call (i:=15) (key:=⟨#[99,111,109,112,115]⟩) (g:= .texts) (off:=12) (by decide) rfl rfl rfl (.inr l59) hLi n104 n105 (by rw [hF.out.size,hN]) hof
    exact ⟨_,rfl,hK.out _ _ (hF.out.put (k:=63) (s:=74) rfl (by decide) hN (by decide) (fun u hu=>by cases hu) hI)⟩
  | 64,_=>
    obtain rfl:=Option.some.inj ho
    clear hd ho hi hc hLi
    exact st_val (v:= .pointer (some ⟨b,2,none⟩)) (w':=W) (want_none rfl) (by unfold execOp;dsimp only [Act.eval];simp only [f3];go_simp) (hK.out _ _ (hF.out.putv (k:=64) (s:=75) rfl (by decide) hN (by decide) rfl (hW.out.pass (k:=64) (s:=75) _ (by decide) (by decide) (by decide))))
  | 65,_=>
    obtain rfl:=Option.some.inj ho
    have l64 : L 64=true:=dep_of hd (n:=64) (by decide)
    have e75 : T.getD 75 undef= .pointer (some ⟨b,2,none⟩):=hF.out.val 64 75 _ l64 rfl rfl
    clear hd ho hi hc hLi
    exact st_val (v:= .pointer (some ⟨b,2,none⟩)) (w':=W) (want_none rfl) (by unfold execOp;dsimp only [Act.eval];simp only [e75];go_simp) (hK.out _ _ (hF.out.putv (k:=65) (s:=76) rfl (by decide) hN (by decide) rfl (hW.out.pass (k:=65) (s:=76) _ (by decide) (by decide) (by decide))))
  | 66,_=>
    obtain rfl:=Option.some.inj ho
    have l65 : L 65=true:=dep_of hd (n:=65) (by decide)
    have e76 : T.getD 76 undef= .pointer (some ⟨b,2,none⟩):=hF.out.val 65 76 _ l65 rfl rfl
    clear hd ho hi hc hLi
    exact st_val (v:= .pointer (some ⟨b,13,none⟩)) (w':=W) (want_none rfl) (by unfold execOp;dsimp only [Act.eval];simp only [e76];go_simp) (hK.out _ _ (hF.out.putv (k:=66) (s:=77) rfl (by decide) hN (by decide) rfl (hW.out.pass (k:=66) (s:=77) _ (by decide) (by decide) (by decide))))
  | 67,_=>
    obtain rfl:=Option.some.inj ho
    have l66 : L 66=true:=dep_of hd (n:=66) (by decide)
    have e77 : T.getD 77 undef= .pointer (some ⟨b,13,none⟩):=hF.out.val 66 77 _ l66 rfl rfl
    have l63 : L 63=true:=dep_of hd (n:=63) (by decide)
    have n104 : L 104=false:=by cases h4 : L 104 with | false=>rfl | true=>exact absurd ((hc 104 67 h4 (by decide)).symm.trans hLi) (by decide)
    have n105 : L 105=false:=by cases h4 : L 105 with | false=>rfl | true=>exact absurd ((hc 104 67 (hc 105 104 h4 (by decide)) (by decide)).symm.trans hLi) (by decide)
    clear hd ho hi hc
    refine st_call (want_none rfl) (by unfold execOp;go_simp) (of_texts ⟨#[97,108,103,115]⟩ b 13 W) ?_
    rintro r w3 hof
    obtain ⟨v,rfl,hI⟩:=hW.out.call (i:=16) (key:=⟨#[97,108,103,115]⟩) (g:= .texts) (off:=13) (by decide) rfl rfl rfl (.inr l63) hLi n104 n105 (by rw [hF.out.size,hN]) hof
    exact ⟨_,rfl,hK.out _ _ (hF.out.put (k:=67) (s:=78) rfl (by decide) hN (by decide) (fun u hu=>by cases hu) hI)⟩
  | 68,_=>
    obtain rfl:=Option.some.inj ho
    clear hd ho hi hc hLi
    exact st_val (v:= .pointer (some ⟨b,2,none⟩)) (w':=W) (want_none rfl) (by unfold execOp;dsimp only [Act.eval];simp only [f3];go_simp) (hK.out _ _ (hF.out.putv (k:=68) (s:=79) rfl (by decide) hN (by decide) rfl (hW.out.pass (k:=68) (s:=79) _ (by decide) (by decide) (by decide))))
  | 69,_=>
    obtain rfl:=Option.some.inj ho
    have l68 : L 68=true:=dep_of hd (n:=68) (by decide)
    have e79 : T.getD 79 undef= .pointer (some ⟨b,2,none⟩):=hF.out.val 68 79 _ l68 rfl rfl
    clear hd ho hi hc hLi
    exact st_val (v:= .pointer (some ⟨b,2,none⟩)) (w':=W) (want_none rfl) (by unfold execOp;dsimp only [Act.eval];simp only [e79];go_simp) (hK.out _ _ (hF.out.putv (k:=69) (s:=80) rfl (by decide) hN (by decide) rfl (hW.out.pass (k:=69) (s:=80) _ (by decide) (by decide) (by decide))))
  | 70,_=>
    obtain rfl:=Option.some.inj ho
    have l69 : L 69=true:=dep_of hd (n:=69) (by decide)
    have e80 : T.getD 80 undef= .pointer (some ⟨b,2,none⟩):=hF.out.val 69 80 _ l69 rfl rfl
    clear hd ho hi hc hLi
    exact st_val (v:= .pointer (some ⟨b,14,none⟩)) (w':=W) (want_none rfl) (by unfold execOp;dsimp only [Act.eval];simp only [e80];go_simp) (hK.out _ _ (hF.out.putv (k:=70) (s:=81) rfl (by decide) hN (by decide) rfl (hW.out.pass (k:=70) (s:=81) _ (by decide) (by decide) (by decide))))
  | 71,_=>
    obtain rfl:=Option.some.inj ho
    have l70 : L 70=true:=dep_of hd (n:=70) (by decide)
    have e81 : T.getD 81 undef= .pointer (some ⟨b,14,none⟩):=hF.out.val 70 81 _ l70 rfl rfl
    have l67 : L 67=true:=dep_of hd (n:=67) (by decide)
    have n104 : L 104=false:=by cases h4 : L 104 with | false=>rfl | true=>exact absurd ((hc 104 71 h4 (by decide)).symm.trans hLi) (by decide)
    have n105 : L 105=false:=by cases h4 : L 105 with | false=>rfl | true=>exact absurd ((hc 104 71 (hc 105 104 h4 (by decide)) (by decide)).symm.trans hLi) (by decide)
    clear hd ho hi hc
    refine st_call (want_none rfl) (by unfold execOp;go_simp) (of_num ⟨#[111,119,110]⟩ b 14 W) ?_
    rintro r w3 hof
    obtain ⟨v,rfl,hI⟩:=hW.out.call (i:=17) (key:=⟨#[111,119,110]⟩) (g:= .num) (off:=14) (by decide) rfl rfl rfl (.inr l67) hLi n104 n105 (by rw [hF.out.size,hN]) hof
    exact ⟨_,rfl,hK.out _ _ (hF.out.put (k:=71) (s:=82) rfl (by decide) hN (by decide) (fun u hu=>by cases hu) hI)⟩
  | 72,_=>
    obtain rfl:=Option.some.inj ho
    clear hd ho hi hc hLi
    exact st_val (v:= .pointer (some ⟨b,2,none⟩)) (w':=W) (want_none rfl) (by unfold execOp;dsimp only [Act.eval];simp only [f3];go_simp) (hK.out _ _ (hF.out.putv (k:=72) (s:=83) rfl (by decide) hN (by decide) rfl (hW.out.pass (k:=72) (s:=83) _ (by decide) (by decide) (by decide))))
  | 73,_=>
    obtain rfl:=Option.some.inj ho
    have l72 : L 72=true:=dep_of hd (n:=72) (by decide)
    have e83 : T.getD 83 undef= .pointer (some ⟨b,2,none⟩):=hF.out.val 72 83 _ l72 rfl rfl
    clear hd ho hi hc hLi
    exact st_val (v:= .pointer (some ⟨b,2,none⟩)) (w':=W) (want_none rfl) (by unfold execOp;dsimp only [Act.eval];simp only [e83];go_simp) (hK.out _ _ (hF.out.putv (k:=73) (s:=84) rfl (by decide) hN (by decide) rfl (hW.out.pass (k:=73) (s:=84) _ (by decide) (by decide) (by decide))))
  | 74,_=>
    obtain rfl:=Option.some.inj ho
    have l73 : L 73=true:=dep_of hd (n:=73) (by decide)
    have e84 : T.getD 84 undef= .pointer (some ⟨b,2,none⟩):=hF.out.val 73 84 _ l73 rfl rfl
    clear hd ho hi hc hLi
    exact st_val (v:= .pointer (some ⟨b,15,none⟩)) (w':=W) (want_none rfl) (by unfold execOp;dsimp only [Act.eval];simp only [e84];go_simp) (hK.out _ _ (hF.out.putv (k:=74) (s:=85) rfl (by decide) hN (by decide) rfl (hW.out.pass (k:=74) (s:=85) _ (by decide) (by decide) (by decide))))
  | 75,_=>
    obtain rfl:=Option.some.inj ho
    have l74 : L 74=true:=dep_of hd (n:=74) (by decide)
    have e85 : T.getD 85 undef= .pointer (some ⟨b,15,none⟩):=hF.out.val 74 85 _ l74 rfl rfl
    have l71 : L 71=true:=dep_of hd (n:=71) (by decide)
    have n104 : L 104=false:=by cases h4 : L 104 with | false=>rfl | true=>exact absurd ((hc 104 75 h4 (by decide)).symm.trans hLi) (by decide)
    have n105 : L 105=false:=by cases h4 : L 105 with | false=>rfl | true=>exact absurd ((hc 104 75 (hc 105 104 h4 (by decide)) (by decide)).symm.trans hLi) (by decide)
    clear hd ho hi hc
    refine st_call (want_none rfl) (by unfold execOp;go_simp) (of_grants ⟨#[103,114,97,110,116,115]⟩ b 15 W) ?_
    rintro r w3 hof
    obtain ⟨v,rfl,hI⟩:=hW.out.call (i:=18) (key:=⟨#[103,114,97,110,116,115]⟩) (g:= .grants) (off:=15) (by decide) rfl rfl rfl (.inr l71) hLi n104 n105 (by rw [hF.out.size,hN]) hof
    exact ⟨_,rfl,hK.out _ _ (hF.out.put (k:=75) (s:=86) rfl (by decide) hN (by decide) (fun u hu=>by cases hu) hI)⟩
  | 76,_=>
    obtain rfl:=Option.some.inj ho
    clear hd ho hi hc hLi
    exact st_val (v:= .pointer (some ⟨b,2,none⟩)) (w':=W) (want_none rfl) (by unfold execOp;dsimp only [Act.eval];simp only [f3];go_simp) (hK.out _ _ (hF.out.putv (k:=76) (s:=87) rfl (by decide) hN (by decide) rfl (hW.out.pass (k:=76) (s:=87) _ (by decide) (by decide) (by decide))))
  | 77,_=>
    obtain rfl:=Option.some.inj ho
    have l76 : L 76=true:=dep_of hd (n:=76) (by decide)
    have e87 : T.getD 87 undef= .pointer (some ⟨b,2,none⟩):=hF.out.val 76 87 _ l76 rfl rfl
    clear hd ho hi hc hLi
    exact st_val (v:= .pointer (some ⟨b,2,none⟩)) (w':=W) (want_none rfl) (by unfold execOp;dsimp only [Act.eval];simp only [e87];go_simp) (hK.out _ _ (hF.out.putv (k:=77) (s:=88) rfl (by decide) hN (by decide) rfl (hW.out.pass (k:=77) (s:=88) _ (by decide) (by decide) (by decide))))
  | 78,_=>
    obtain rfl:=Option.some.inj ho
    have l77 : L 77=true:=dep_of hd (n:=77) (by decide)
    have e88 : T.getD 88 undef= .pointer (some ⟨b,2,none⟩):=hF.out.val 77 88 _ l77 rfl rfl
    clear hd ho hi hc hLi
    exact st_val (v:= .pointer (some ⟨b,16,none⟩)) (w':=W) (want_none rfl) (by unfold execOp;dsimp only [Act.eval];simp only [e88];go_simp) (hK.out _ _ (hF.out.putv (k:=78) (s:=89) rfl (by decide) hN (by decide) rfl (hW.out.pass (k:=78) (s:=89) _ (by decide) (by decide) (by decide))))
  | 79,_=>
    obtain rfl:=Option.some.inj ho
    have l78 : L 78=true:=dep_of hd (n:=78) (by decide)
    have e89 : T.getD 89 undef= .pointer (some ⟨b,16,none⟩):=hF.out.val 78 89 _ l78 rfl rfl
    have l75 : L 75=true:=dep_of hd (n:=75) (by decide)
    have n104 : L 104=false:=by cases h4 : L 104 with | false=>rfl | true=>exact absurd ((hc 104 79 h4 (by decide)).symm.trans hLi) (by decide)
    have n105 : L 105=false:=by cases h4 : L 105 with | false=>rfl | true=>exact absurd ((hc 104 79 (hc 105 104 h4 (by decide)) (by decide)).symm.trans hLi) (by decide)
    clear hd ho hi hc
    refine st_call (want_none rfl) (by unfold execOp;go_simp) (of_num ⟨#[108,105,109,105,116]⟩ b 16 W) ?_
    rintro r w3 hof
    obtain ⟨v,rfl,hI⟩:=hW.out.call (i:=19) (key:=⟨#[108,105,109,105,116]⟩) (g:= .num) (off:=16) (by decide) rfl rfl rfl (.inr l75) hLi n104 n105 (by rw [hF.out.size,hN]) hof
    exact ⟨_,rfl,hK.out _ _ (hF.out.put (k:=79) (s:=90) rfl (by decide) hN (by decide) (fun u hu=>by cases hu) hI)⟩
  | 80,_=>
    obtain rfl:=Option.some.inj ho
    clear hd ho hi hc hLi
    exact st_val (v:= .pointer (some ⟨b,2,none⟩)) (w':=W) (want_none rfl) (by unfold execOp;dsimp only [Act.eval];simp only [f3];go_simp) (hK.out _ _ (hF.out.putv (k:=80) (s:=91) rfl (by decide) hN (by decide) rfl (hW.out.pass (k:=80) (s:=91) _ (by decide) (by decide) (by decide))))
  | 81,_=>
    obtain rfl:=Option.some.inj ho
    have l80 : L 80=true:=dep_of hd (n:=80) (by decide)
    have e91 : T.getD 91 undef= .pointer (some ⟨b,2,none⟩):=hF.out.val 80 91 _ l80 rfl rfl
    clear hd ho hi hc hLi
    exact st_val (v:= .pointer (some ⟨b,2,none⟩)) (w':=W) (want_none rfl) (by unfold execOp;dsimp only [Act.eval];simp only [e91];go_simp) (hK.out _ _ (hF.out.putv (k:=81) (s:=92) rfl (by decide) hN (by decide) rfl (hW.out.pass (k:=81) (s:=92) _ (by decide) (by decide) (by decide))))
  | 82,_=>
    obtain rfl:=Option.some.inj ho
    have l81 : L 81=true:=dep_of hd (n:=81) (by decide)
    have e92 : T.getD 92 undef= .pointer (some ⟨b,2,none⟩):=hF.out.val 81 92 _ l81 rfl rfl
    clear hd ho hi hc hLi
    exact st_val (v:= .pointer (some ⟨b,17,none⟩)) (w':=W) (want_none rfl) (by unfold execOp;dsimp only [Act.eval];simp only [e92];go_simp) (hK.out _ _ (hF.out.putv (k:=82) (s:=93) rfl (by decide) hN (by decide) rfl (hW.out.pass (k:=82) (s:=93) _ (by decide) (by decide) (by decide))))
  | 83,_=>
    obtain rfl:=Option.some.inj ho
    have l82 : L 82=true:=dep_of hd (n:=82) (by decide)
    have e93 : T.getD 93 undef= .pointer (some ⟨b,17,none⟩):=hF.out.val 82 93 _ l82 rfl rfl
    have l79 : L 79=true:=dep_of hd (n:=79) (by decide)
    have n104 : L 104=false:=by cases h4 : L 104 with | false=>rfl | true=>exact absurd ((hc 104 83 h4 (by decide)).symm.trans hLi) (by decide)
    have n105 : L 105=false:=by cases h4 : L 105 with | false=>rfl | true=>exact absurd ((hc 104 83 (hc 105 104 h4 (by decide)) (by decide)).symm.trans hLi) (by decide)
    clear hd ho hi hc
    refine st_call (want_none rfl) (by unfold execOp;go_simp) (of_num ⟨#[112,101,101,114]⟩ b 17 W) ?_
    rintro r w3 hof
    obtain ⟨v,rfl,hI⟩:=hW.out.call (i:=20) (key:=⟨#[112,101,101,114]⟩) (g:= .num) (off:=17) (by decide) rfl rfl rfl (.inr l79) hLi n104 n105 (by rw [hF.out.size,hN]) hof
    exact ⟨_,rfl,hK.out _ _ (hF.out.put (k:=83) (s:=94) rfl (by decide) hN (by decide) (fun u hu=>by cases hu) hI)⟩
  | 84,_=>
    obtain rfl:=Option.some.inj ho
    clear hd ho hi hc hLi
    exact st_val (v:= .pointer (some ⟨b,2,none⟩)) (w':=W) (want_none rfl) (by unfold execOp;dsimp only [Act.eval];simp only [f3];go_simp) (hK.out _ _ (hF.out.putv (k:=84) (s:=95) rfl (by decide) hN (by decide) rfl (hW.out.pass (k:=84) (s:=95) _ (by decide) (by decide) (by decide))))
  | 85,_=>
    obtain rfl:=Option.some.inj ho
    have l84 : L 84=true:=dep_of hd (n:=84) (by decide)
    have e95 : T.getD 95 undef= .pointer (some ⟨b,2,none⟩):=hF.out.val 84 95 _ l84 rfl rfl
    clear hd ho hi hc hLi
    exact st_val (v:= .pointer (some ⟨b,2,none⟩)) (w':=W) (want_none rfl) (by unfold execOp;dsimp only [Act.eval];simp only [e95];go_simp) (hK.out _ _ (hF.out.putv (k:=85) (s:=96) rfl (by decide) hN (by decide) rfl (hW.out.pass (k:=85) (s:=96) _ (by decide) (by decide) (by decide))))
  | 86,_=>
    obtain rfl:=Option.some.inj ho
    have l85 : L 85=true:=dep_of hd (n:=85) (by decide)
    have e96 : T.getD 96 undef= .pointer (some ⟨b,2,none⟩):=hF.out.val 85 96 _ l85 rfl rfl
    clear hd ho hi hc hLi
    exact st_val (v:= .pointer (some ⟨b,18,none⟩)) (w':=W) (want_none rfl) (by unfold execOp;dsimp only [Act.eval];simp only [e96];go_simp) (hK.out _ _ (hF.out.putv (k:=86) (s:=97) rfl (by decide) hN (by decide) rfl (hW.out.pass (k:=86) (s:=97) _ (by decide) (by decide) (by decide))))
  | 87,_=>
    obtain rfl:=Option.some.inj ho
    have l86 : L 86=true:=dep_of hd (n:=86) (by decide)
    have e97 : T.getD 97 undef= .pointer (some ⟨b,18,none⟩):=hF.out.val 86 97 _ l86 rfl rfl
    have l83 : L 83=true:=dep_of hd (n:=83) (by decide)
    have n104 : L 104=false:=by cases h4 : L 104 with | false=>rfl | true=>exact absurd ((hc 104 87 h4 (by decide)).symm.trans hLi) (by decide)
    have n105 : L 105=false:=by cases h4 : L 105 with | false=>rfl | true=>exact absurd ((hc 104 87 (hc 105 104 h4 (by decide)) (by decide)).symm.trans hLi) (by decide)
    clear hd ho hi hc
    refine st_call (want_none rfl) (by unfold execOp;go_simp) (of_text ⟨#[117,115,101,114]⟩ b 18 W) ?_
    rintro r w3 hof
    obtain ⟨v,rfl,hI⟩:=hW.out.call (i:=21) (key:=⟨#[117,115,101,114]⟩) (g:= .text) (off:=18) (by decide) rfl rfl rfl (.inr l83) hLi n104 n105 (by rw [hF.out.size,hN]) hof
    exact ⟨_,rfl,hK.out _ _ (hF.out.put (k:=87) (s:=98) rfl (by decide) hN (by decide) (fun u hu=>by cases hu) hI)⟩
  | 88,_=>
    obtain rfl:=Option.some.inj ho
    clear hd ho hi hc hLi
    exact st_val (v:= .pointer (some ⟨b,2,none⟩)) (w':=W) (want_none rfl) (by unfold execOp;dsimp only [Act.eval];simp only [f3];go_simp) (hK.out _ _ (hF.out.putv (k:=88) (s:=99) rfl (by decide) hN (by decide) rfl (hW.out.pass (k:=88) (s:=99) _ (by decide) (by decide) (by decide))))
  | 89,_=>
    obtain rfl:=Option.some.inj ho
    have l88 : L 88=true:=dep_of hd (n:=88) (by decide)
    have e99 : T.getD 99 undef= .pointer (some ⟨b,2,none⟩):=hF.out.val 88 99 _ l88 rfl rfl
    clear hd ho hi hc hLi
    exact st_val (v:= .pointer (some ⟨b,2,none⟩)) (w':=W) (want_none rfl) (by unfold execOp;dsimp only [Act.eval];simp only [e99];go_simp) (hK.out _ _ (hF.out.putv (k:=89) (s:=100) rfl (by decide) hN (by decide) rfl (hW.out.pass (k:=89) (s:=100) _ (by decide) (by decide) (by decide))))
  | 90,_=>
    obtain rfl:=Option.some.inj ho
    have l89 : L 89=true:=dep_of hd (n:=89) (by decide)
    have e100 : T.getD 100 undef= .pointer (some ⟨b,2,none⟩):=hF.out.val 89 100 _ l89 rfl rfl
    clear hd ho hi hc hLi
    exact st_val (v:= .pointer (some ⟨b,19,none⟩)) (w':=W) (want_none rfl) (by unfold execOp;dsimp only [Act.eval];simp only [e100];go_simp) (hK.out _ _ (hF.out.putv (k:=90) (s:=101) rfl (by decide) hN (by decide) rfl (hW.out.pass (k:=90) (s:=101) _ (by decide) (by decide) (by decide))))
  | 91,_=>
    obtain rfl:=Option.some.inj ho
    have l90 : L 90=true:=dep_of hd (n:=90) (by decide)
    have e101 : T.getD 101 undef= .pointer (some ⟨b,19,none⟩):=hF.out.val 90 101 _ l90 rfl rfl
    have l87 : L 87=true:=dep_of hd (n:=87) (by decide)
    have n104 : L 104=false:=by cases h4 : L 104 with | false=>rfl | true=>exact absurd ((hc 104 91 h4 (by decide)).symm.trans hLi) (by decide)
    have n105 : L 105=false:=by cases h4 : L 105 with | false=>rfl | true=>exact absurd ((hc 104 91 (hc 105 104 h4 (by decide)) (by decide)).symm.trans hLi) (by decide)
    clear hd ho hi hc
    refine st_call (want_none rfl) (by unfold execOp;go_simp) (of_nums ⟨#[107,101,121,115]⟩ b 19 W) ?_
    rintro r w3 hof
    obtain ⟨v,rfl,hI⟩:=hW.out.call (i:=22) (key:=⟨#[107,101,121,115]⟩) (g:= .nums) (off:=19) (by decide) rfl rfl rfl (.inr l87) hLi n104 n105 (by rw [hF.out.size,hN]) hof
    exact ⟨_,rfl,hK.out _ _ (hF.out.put (k:=91) (s:=102) rfl (by decide) hN (by decide) (fun u hu=>by cases hu) hI)⟩
  | 92,_=>
    obtain rfl:=Option.some.inj ho
    clear hd ho hi hc hLi
    exact st_val (v:= .pointer (some ⟨b,2,none⟩)) (w':=W) (want_none rfl) (by unfold execOp;dsimp only [Act.eval];simp only [f3];go_simp) (hK.out _ _ (hF.out.putv (k:=92) (s:=103) rfl (by decide) hN (by decide) rfl (hW.out.pass (k:=92) (s:=103) _ (by decide) (by decide) (by decide))))
  | 93,_=>
    obtain rfl:=Option.some.inj ho
    have l92 : L 92=true:=dep_of hd (n:=92) (by decide)
    have e103 : T.getD 103 undef= .pointer (some ⟨b,2,none⟩):=hF.out.val 92 103 _ l92 rfl rfl
    clear hd ho hi hc hLi
    exact st_val (v:= .pointer (some ⟨b,2,none⟩)) (w':=W) (want_none rfl) (by unfold execOp;dsimp only [Act.eval];simp only [e103];go_simp) (hK.out _ _ (hF.out.putv (k:=93) (s:=104) rfl (by decide) hN (by decide) rfl (hW.out.pass (k:=93) (s:=104) _ (by decide) (by decide) (by decide))))
  | 94,_=>
    obtain rfl:=Option.some.inj ho
    have l93 : L 93=true:=dep_of hd (n:=93) (by decide)
    have e104 : T.getD 104 undef= .pointer (some ⟨b,2,none⟩):=hF.out.val 93 104 _ l93 rfl rfl
    clear hd ho hi hc hLi
    exact st_val (v:= .pointer (some ⟨b,20,none⟩)) (w':=W) (want_none rfl) (by unfold execOp;dsimp only [Act.eval];simp only [e104];go_simp) (hK.out _ _ (hF.out.putv (k:=94) (s:=105) rfl (by decide) hN (by decide) rfl (hW.out.pass (k:=94) (s:=105) _ (by decide) (by decide) (by decide))))
  | 95,_=>
    obtain rfl:=Option.some.inj ho
    have l94 : L 94=true:=dep_of hd (n:=94) (by decide)
    have e105 : T.getD 105 undef= .pointer (some ⟨b,20,none⟩):=hF.out.val 94 105 _ l94 rfl rfl
    have l91 : L 91=true:=dep_of hd (n:=91) (by decide)
    have n104 : L 104=false:=by cases h4 : L 104 with | false=>rfl | true=>exact absurd ((hc 104 95 h4 (by decide)).symm.trans hLi) (by decide)
    have n105 : L 105=false:=by cases h4 : L 105 with | false=>rfl | true=>exact absurd ((hc 104 95 (hc 105 104 h4 (by decide)) (by decide)).symm.trans hLi) (by decide)
    clear hd ho hi hc
    refine st_call (want_none rfl) (by unfold execOp;go_simp) (of_flag ⟨#[101,120,116]⟩ b 20 W) ?_
    rintro r w3 hof
    obtain ⟨v,rfl,hI⟩:=hW.out.call (i:=23) (key:=⟨#[101,120,116]⟩) (g:= .flag) (off:=20) (by decide) rfl rfl rfl (.inr l91) hLi n104 n105 (by rw [hF.out.size,hN]) hof
    exact ⟨_,rfl,hK.out _ _ (hF.out.put (k:=95) (s:=106) rfl (by decide) hN (by decide) (fun u hu=>by cases hu) hI)⟩
  | 96,_=>
    obtain rfl:=Option.some.inj ho
    clear hd ho hi hc hLi
    exact st_val (v:= .pointer (some ⟨b,2,none⟩)) (w':=W) (want_none rfl) (by unfold execOp;dsimp only [Act.eval];simp only [f3];go_simp) (hK.out _ _ (hF.out.putv (k:=96) (s:=107) rfl (by decide) hN (by decide) rfl (hW.out.pass (k:=96) (s:=107) _ (by decide) (by decide) (by decide))))
  | 97,_=>
    obtain rfl:=Option.some.inj ho
    have l96 : L 96=true:=dep_of hd (n:=96) (by decide)
    have e107 : T.getD 107 undef= .pointer (some ⟨b,2,none⟩):=hF.out.val 96 107 _ l96 rfl rfl
    clear hd ho hi hc hLi
    exact st_val (v:= .pointer (some ⟨b,2,none⟩)) (w':=W) (want_none rfl) (by unfold execOp;dsimp only [Act.eval];simp only [e107];go_simp) (hK.out _ _ (hF.out.putv (k:=97) (s:=108) rfl (by decide) hN (by decide) rfl (hW.out.pass (k:=97) (s:=108) _ (by decide) (by decide) (by decide))))
  | 98,_=>
    obtain rfl:=Option.some.inj ho
    have l97 : L 97=true:=dep_of hd (n:=97) (by decide)
    have e108 : T.getD 108 undef= .pointer (some ⟨b,2,none⟩):=hF.out.val 97 108 _ l97 rfl rfl
    clear hd ho hi hc hLi
    exact st_val (v:= .pointer (some ⟨b,21,none⟩)) (w':=W) (want_none rfl) (by unfold execOp;dsimp only [Act.eval];simp only [e108];go_simp) (hK.out _ _ (hF.out.putv (k:=98) (s:=109) rfl (by decide) hN (by decide) rfl (hW.out.pass (k:=98) (s:=109) _ (by decide) (by decide) (by decide))))
  | 99,_=>
    obtain rfl:=Option.some.inj ho
    have l98 : L 98=true:=dep_of hd (n:=98) (by decide)
    have e109 : T.getD 109 undef= .pointer (some ⟨b,21,none⟩):=hF.out.val 98 109 _ l98 rfl rfl
    have l95 : L 95=true:=dep_of hd (n:=95) (by decide)
    have n104 : L 104=false:=by cases h4 : L 104 with | false=>rfl | true=>exact absurd ((hc 104 99 h4 (by decide)).symm.trans hLi) (by decide)
    have n105 : L 105=false:=by cases h4 : L 105 with | false=>rfl | true=>exact absurd ((hc 104 99 (hc 105 104 h4 (by decide)) (by decide)).symm.trans hLi) (by decide)
    clear hd ho hi hc
    refine st_call (want_none rfl) (by unfold execOp;go_simp) (of_flag ⟨#[103,117,101,115,115]⟩ b 21 W) ?_
    rintro r w3 hof
    obtain ⟨v,rfl,hI⟩:=hW.out.call (i:=24) (key:=⟨#[103,117,101,115,115]⟩) (g:= .flag) (off:=21) (by decide) rfl rfl rfl (.inr l95) hLi n104 n105 (by rw [hF.out.size,hN]) hof
    exact ⟨_,rfl,hK.out _ _ (hF.out.put (k:=99) (s:=110) rfl (by decide) hN (by decide) (fun u hu=>by cases hu) hI)⟩
  | 100,_=>
    obtain rfl:=Option.some.inj ho
    clear hd ho hi hc hLi
    exact st_val (v:= .pointer (some ⟨b,2,none⟩)) (w':=W) (want_none rfl) (by unfold execOp;dsimp only [Act.eval];simp only [f3];go_simp) (hK.out _ _ (hF.out.putv (k:=100) (s:=111) rfl (by decide) hN (by decide) rfl (hW.out.pass (k:=100) (s:=111) _ (by decide) (by decide) (by decide))))
  | 101,_=>
    obtain rfl:=Option.some.inj ho
    have l100 : L 100=true:=dep_of hd (n:=100) (by decide)
    have e111 : T.getD 111 undef= .pointer (some ⟨b,2,none⟩):=hF.out.val 100 111 _ l100 rfl rfl
    clear hd ho hi hc hLi
    exact st_val (v:= .pointer (some ⟨b,2,none⟩)) (w':=W) (want_none rfl) (by unfold execOp;dsimp only [Act.eval];simp only [e111];go_simp) (hK.out _ _ (hF.out.putv (k:=101) (s:=112) rfl (by decide) hN (by decide) rfl (hW.out.pass (k:=101) (s:=112) _ (by decide) (by decide) (by decide))))
  | 102,_=>
    obtain rfl:=Option.some.inj ho
    have l101 : L 101=true:=dep_of hd (n:=101) (by decide)
    have e112 : T.getD 112 undef= .pointer (some ⟨b,2,none⟩):=hF.out.val 101 112 _ l101 rfl rfl
    clear hd ho hi hc hLi
    exact st_val (v:= .pointer (some ⟨b,22,none⟩)) (w':=W) (want_none rfl) (by unfold execOp;dsimp only [Act.eval];simp only [e112];go_simp) (hK.out _ _ (hF.out.putv (k:=102) (s:=113) rfl (by decide) hN (by decide) rfl (hW.out.pass (k:=102) (s:=113) _ (by decide) (by decide) (by decide))))
  | 103,_=>
    obtain rfl:=Option.some.inj ho
    have l102 : L 102=true:=dep_of hd (n:=102) (by decide)
    have e113 : T.getD 113 undef= .pointer (some ⟨b,22,none⟩):=hF.out.val 102 113 _ l102 rfl rfl
    have l99 : L 99=true:=dep_of hd (n:=99) (by decide)
    have n104 : L 104=false:=by cases h4 : L 104 with | false=>rfl | true=>exact absurd ((hc 104 103 h4 (by decide)).symm.trans hLi) (by decide)
    have n105 : L 105=false:=by cases h4 : L 105 with | false=>rfl | true=>exact absurd ((hc 104 103 (hc 105 104 h4 (by decide)) (by decide)).symm.trans hLi) (by decide)
    clear hd ho hi hc
    refine st_call (want_none rfl) (by unfold execOp;go_simp) (of_wish ⟨#[119,105,115,104]⟩ b 22 W) ?_
    rintro r w3 hof
    obtain ⟨v,rfl,hI⟩:=hW.out.call (i:=25) (key:=⟨#[119,105,115,104]⟩) (g:= .wish) (off:=22) (by decide) rfl rfl rfl (.inr l99) hLi n104 n105 (by rw [hF.out.size,hN]) hof
    exact ⟨_,rfl,hK.out _ _ (hF.out.put (k:=103) (s:=114) rfl (by decide) hN (by decide) (fun u hu=>by cases hu) hI)⟩
  | 104,_=>
    obtain rfl:=Option.some.inj ho
    have l3 : L 3=true:=dep_of hd (n:=3) (by decide)
    have l7 : L 7=true:=dep_of hd (n:=7) (by decide)
    have l11 : L 11=true:=dep_of hd (n:=11) (by decide)
    have l15 : L 15=true:=dep_of hd (n:=15) (by decide)
    have l19 : L 19=true:=dep_of hd (n:=19) (by decide)
    have l23 : L 23=true:=dep_of hd (n:=23) (by decide)
    have l27 : L 27=true:=dep_of hd (n:=27) (by decide)
    have l31 : L 31=true:=dep_of hd (n:=31) (by decide)
    have l35 : L 35=true:=dep_of hd (n:=35) (by decide)
    have l39 : L 39=true:=dep_of hd (n:=39) (by decide)
    have l43 : L 43=true:=dep_of hd (n:=43) (by decide)
    have l47 : L 47=true:=dep_of hd (n:=47) (by decide)
    have l51 : L 51=true:=dep_of hd (n:=51) (by decide)
    have l55 : L 55=true:=dep_of hd (n:=55) (by decide)
    have l59 : L 59=true:=dep_of hd (n:=59) (by decide)
    have l63 : L 63=true:=dep_of hd (n:=63) (by decide)
    have l67 : L 67=true:=dep_of hd (n:=67) (by decide)
    have l71 : L 71=true:=dep_of hd (n:=71) (by decide)
    have l75 : L 75=true:=dep_of hd (n:=75) (by decide)
    have l79 : L 79=true:=dep_of hd (n:=79) (by decide)
    have l83 : L 83=true:=dep_of hd (n:=83) (by decide)
    have l87 : L 87=true:=dep_of hd (n:=87) (by decide)
    have l91 : L 91=true:=dep_of hd (n:=91) (by decide)
    have l95 : L 95=true:=dep_of hd (n:=95) (by decide)
    have l99 : L 99=true:=dep_of hd (n:=99) (by decide)
    have l103 : L 103=true:=dep_of hd (n:=103) (by decide)
    obtain ⟨i0,hi0,hz0,hz1,hz2⟩:=info_parts pa_info
    obtain ⟨q0,q1,q2,q3,q4,q5,q6,q7,q8,q9,q10,q11,q12,q13,q14,q15,q16,q17,q18,q19,q20,q21,q22,q23,q24,q25,hQ,hT⟩:=hW.out.all l103
    have n105 : L 105=false:=by cases h4 : L 105 with | false=>rfl | true=>exact absurd ((hc 105 104 h4 (by decide)).symm.trans hLi) (by decide)
    clear hd ho hi hc
    exact st_val (v:= .slice (some ⟨W.heap.size,0,none⟩) 26 26) (w':=W.alloc (.cells (rowsP keyT [q0,q1,q2,q3,q4,q5,q6,q7,q8,q9,q10,q11,q12,q13,q14,q15,q16,q17,q18,q19,q20,q21,q22,q23,q24,q25]).flatten.toArray 91)) (want_none rfl) (run_buildN_ 87 91 26 #[(0,.tmp 14),(1,.tmp 18),(2,.tmp 22),(3,.tmp 26),(4,.tmp 30),(5,.tmp 34),(6,.tmp 38),(7,.tmp 42),(8,.tmp 46),(9,.tmp 50),(10,.tmp 54),(11,.tmp 58),(12,.tmp 62),(13,.tmp 66),(14,.tmp 70),(15,.tmp 74),(16,.tmp 78),(17,.tmp 82),(18,.tmp 86),(19,.tmp 90),(20,.tmp 94),(21,.tmp 98),(22,.tmp 102),(23,.tmp 106),(24,.tmp 110),(25,.tmp 114)] rfl i0 (.agg paZ) _ Tryz.underlying87 hi0 hz0 (by rw [hz1];decide) (by rw [hz1];decide) (by rw [hz1];simp only [List.map_cons,List.map_nil,Act.eval];obtain ⟨t0,t1,t2,t3,t4,t5,t6,t7,t8,t9,t10,t11,t12,t13,t14,t15,t16,t17,t18,t19,t20,t21,t22,t23,t24,t25⟩:=hT;rw [t0,t1,t2,t3,t4,t5,t6,t7,t8,t9,t10,t11,t12,t13,t14,t15,t16,t17,t18,t19,t20,t21,t22,t23,t24,t25];exact parts_fill q0 q1 q2 q3 q4 q5 q6 q7 q8 q9 q10 q11 q12 q13 q14 q15 q16 q17 q18 q19 q20 q21 q22 q23 q24 q25)) (hK.out _ _ (hF.out.put (k:=104) (s:=115) rfl (by decide) hN (by decide) (fun u hu=>by cases hu) (hQ.put (by rw [hF.out.size,hN]) rfl n105)))
  | 105,_=>
    obtain rfl:=Option.some.inj ho
    have l104 : L 104=true:=dep_of hd (n:=104) (by decide)
    clear hd ho hi hc hLi
    exact st_val (v:=T.getD 115 undef) (w':=W) (want_none rfl) rfl (hK.out _ _ (hF.out.put (k:=105) (s:=2) rfl (by decide) hN (by decide) (fun u hu=>by cases hu) (hW.out.fin (by rw [hF.out.size,hN]) l104)))
 case hdone=>
  intro L T W2 hF hW hall
  obtain ⟨q0,q1,q2,q3,q4,q5,q6,q7,q8,q9,q10,q11,q12,q13,q14,q15,q16,q17,q18,q19,q20,q21,q22,q23,q24,q25,hQ,e14,e18,e22,e26,e30,e34,e38,e42,e46,e50,e54,e58,e62,e66,e70,e74,e78,e82,e86,e90,e94,e98,e102,e106,e110,e114⟩:=hW.all (hall 103 (by decide))
  obtain ⟨gg,e115,hgg,hRw⟩:=hQ.built (hall 104 (by decide))
  have e2:=(hQ.last (hall 105 (by decide))).2.trans e115
  have hPA:=Lib.hid hQ.a
  replace hRw:=Lib.hid hRw
  have hT : T=#[.pointer (some ⟨b,0,none⟩),undef,.slice (some ⟨gg,0,none⟩) 26 26,.pointer (some ⟨b,2,none⟩),.pointer (some ⟨b,5,none⟩),.pointer (some ⟨b,0,none⟩),.pointer (some ⟨b,0,none⟩),.pointer (some ⟨b,2,none⟩),.pointer (some ⟨b,2,none⟩),.pointer (some ⟨b,2,none⟩),.pointer (some ⟨b,5,none⟩),.pointer (some ⟨b,0,none⟩),.pointer (some ⟨b,0,none⟩),.pointer (some ⟨b,1,none⟩),.agg (partRow ⟨#[116,111]⟩ .num q0).toArray,.pointer (some ⟨b,0,none⟩),.pointer (some ⟨b,0,none⟩),.pointer (some ⟨b,25,none⟩),.agg (partRow ⟨#[119,104,111]⟩ .num q1).toArray,.pointer (some ⟨b,0,none⟩),.pointer (some ⟨b,0,none⟩),.pointer (some ⟨b,26,none⟩),.agg (partRow ⟨#[116,101,120,116]⟩ .text q2).toArray,.pointer (some ⟨b,0,none⟩),.pointer (some ⟨b,0,none⟩),.pointer (some ⟨b,27,none⟩),.agg (partRow ⟨#[111,112,115]⟩ .ops q3).toArray,.pointer (some ⟨b,0,none⟩),.pointer (some ⟨b,0,none⟩),.pointer (some ⟨b,28,none⟩),.agg (partRow ⟨#[99,117,116,115]⟩ .nums q4).toArray,.pointer (some ⟨b,2,none⟩),.pointer (some ⟨b,2,none⟩),.pointer (some ⟨b,2,none⟩),.agg (partRow ⟨#[115,101,114,118,101,114]⟩ .flag q5).toArray,.pointer (some ⟨b,2,none⟩),.pointer (some ⟨b,2,none⟩),.pointer (some ⟨b,3,none⟩),.agg (partRow ⟨#[115,111,102,116,119,97,114,101]⟩ .text q6).toArray,.pointer (some ⟨b,2,none⟩),.pointer (some ⟨b,2,none⟩),.pointer (some ⟨b,4,none⟩),.agg (partRow ⟨#[99,111,109,109,101,110,116]⟩ .text q7).toArray,.pointer (some ⟨b,5,none⟩),.pointer (some ⟨b,5,none⟩),.pointer (some ⟨b,5,none⟩),.agg (partRow ⟨#[107,101,120]⟩ .texts q8).toArray,.pointer (some ⟨b,5,none⟩),.pointer (some ⟨b,5,none⟩),.pointer (some ⟨b,6,none⟩),.agg (partRow ⟨#[104,111,115,116]⟩ .texts q9).toArray,.pointer (some ⟨b,5,none⟩),.pointer (some ⟨b,5,none⟩),.pointer (some ⟨b,7,none⟩),.agg (partRow ⟨#[101,110,99,99]⟩ .texts q10).toArray,.pointer (some ⟨b,5,none⟩),.pointer (some ⟨b,5,none⟩),.pointer (some ⟨b,8,none⟩),.agg (partRow ⟨#[101,110,99,115]⟩ .texts q11).toArray,.pointer (some ⟨b,5,none⟩),.pointer (some ⟨b,5,none⟩),.pointer (some ⟨b,9,none⟩),.agg (partRow ⟨#[109,97,99,99]⟩ .texts q12).toArray,.pointer (some ⟨b,5,none⟩),.pointer (some ⟨b,5,none⟩),.pointer (some ⟨b,10,none⟩),.agg (partRow ⟨#[109,97,99,115]⟩ .texts q13).toArray,.pointer (some ⟨b,5,none⟩),.pointer (some ⟨b,5,none⟩),.pointer (some ⟨b,11,none⟩),.agg (partRow ⟨#[99,111,109,112,99]⟩ .texts q14).toArray,.pointer (some ⟨b,5,none⟩),.pointer (some ⟨b,5,none⟩),.pointer (some ⟨b,12,none⟩),.agg (partRow ⟨#[99,111,109,112,115]⟩ .texts q15).toArray,.pointer (some ⟨b,2,none⟩),.pointer (some ⟨b,2,none⟩),.pointer (some ⟨b,13,none⟩),.agg (partRow ⟨#[97,108,103,115]⟩ .texts q16).toArray,.pointer (some ⟨b,2,none⟩),.pointer (some ⟨b,2,none⟩),.pointer (some ⟨b,14,none⟩),.agg (partRow ⟨#[111,119,110]⟩ .num q17).toArray,.pointer (some ⟨b,2,none⟩),.pointer (some ⟨b,2,none⟩),.pointer (some ⟨b,15,none⟩),.agg (partRow ⟨#[103,114,97,110,116,115]⟩ .grants q18).toArray,.pointer (some ⟨b,2,none⟩),.pointer (some ⟨b,2,none⟩),.pointer (some ⟨b,16,none⟩),.agg (partRow ⟨#[108,105,109,105,116]⟩ .num q19).toArray,.pointer (some ⟨b,2,none⟩),.pointer (some ⟨b,2,none⟩),.pointer (some ⟨b,17,none⟩),.agg (partRow ⟨#[112,101,101,114]⟩ .num q20).toArray,.pointer (some ⟨b,2,none⟩),.pointer (some ⟨b,2,none⟩),.pointer (some ⟨b,18,none⟩),.agg (partRow ⟨#[117,115,101,114]⟩ .text q21).toArray,.pointer (some ⟨b,2,none⟩),.pointer (some ⟨b,2,none⟩),.pointer (some ⟨b,19,none⟩),.agg (partRow ⟨#[107,101,121,115]⟩ .nums q22).toArray,.pointer (some ⟨b,2,none⟩),.pointer (some ⟨b,2,none⟩),.pointer (some ⟨b,20,none⟩),.agg (partRow ⟨#[101,120,116]⟩ .flag q23).toArray,.pointer (some ⟨b,2,none⟩),.pointer (some ⟨b,2,none⟩),.pointer (some ⟨b,21,none⟩),.agg (partRow ⟨#[103,117,101,115,115]⟩ .flag q24).toArray,.pointer (some ⟨b,2,none⟩),.pointer (some ⟨b,2,none⟩),.pointer (some ⟨b,22,none⟩),.agg (partRow ⟨#[119,105,115,104]⟩ .wish q25).toArray,.slice (some ⟨gg,0,none⟩) 26 26]:=(hF.fin [(11,.pointer (some ⟨b,0,none⟩)),(12,.pointer (some ⟨b,0,none⟩)),(13,.pointer (some ⟨b,1,none⟩)),(14,.agg (partRow ⟨#[116,111]⟩ .num q0).toArray),(15,.pointer (some ⟨b,0,none⟩)),(16,.pointer (some ⟨b,0,none⟩)),(17,.pointer (some ⟨b,25,none⟩)),(18,.agg (partRow ⟨#[119,104,111]⟩ .num q1).toArray),(19,.pointer (some ⟨b,0,none⟩)),(20,.pointer (some ⟨b,0,none⟩)),(21,.pointer (some ⟨b,26,none⟩)),(22,.agg (partRow ⟨#[116,101,120,116]⟩ .text q2).toArray),(23,.pointer (some ⟨b,0,none⟩)),(24,.pointer (some ⟨b,0,none⟩)),(25,.pointer (some ⟨b,27,none⟩)),(26,.agg (partRow ⟨#[111,112,115]⟩ .ops q3).toArray),(27,.pointer (some ⟨b,0,none⟩)),(28,.pointer (some ⟨b,0,none⟩)),(29,.pointer (some ⟨b,28,none⟩)),(30,.agg (partRow ⟨#[99,117,116,115]⟩ .nums q4).toArray),(31,.pointer (some ⟨b,2,none⟩)),(32,.pointer (some ⟨b,2,none⟩)),(33,.pointer (some ⟨b,2,none⟩)),(34,.agg (partRow ⟨#[115,101,114,118,101,114]⟩ .flag q5).toArray),(35,.pointer (some ⟨b,2,none⟩)),(36,.pointer (some ⟨b,2,none⟩)),(37,.pointer (some ⟨b,3,none⟩)),(38,.agg (partRow ⟨#[115,111,102,116,119,97,114,101]⟩ .text q6).toArray),(39,.pointer (some ⟨b,2,none⟩)),(40,.pointer (some ⟨b,2,none⟩)),(41,.pointer (some ⟨b,4,none⟩)),(42,.agg (partRow ⟨#[99,111,109,109,101,110,116]⟩ .text q7).toArray),(43,.pointer (some ⟨b,5,none⟩)),(44,.pointer (some ⟨b,5,none⟩)),(45,.pointer (some ⟨b,5,none⟩)),(46,.agg (partRow ⟨#[107,101,120]⟩ .texts q8).toArray),(47,.pointer (some ⟨b,5,none⟩)),(48,.pointer (some ⟨b,5,none⟩)),(49,.pointer (some ⟨b,6,none⟩)),(50,.agg (partRow ⟨#[104,111,115,116]⟩ .texts q9).toArray),(51,.pointer (some ⟨b,5,none⟩)),(52,.pointer (some ⟨b,5,none⟩)),(53,.pointer (some ⟨b,7,none⟩)),(54,.agg (partRow ⟨#[101,110,99,99]⟩ .texts q10).toArray),(55,.pointer (some ⟨b,5,none⟩)),(56,.pointer (some ⟨b,5,none⟩)),(57,.pointer (some ⟨b,8,none⟩)),(58,.agg (partRow ⟨#[101,110,99,115]⟩ .texts q11).toArray),(59,.pointer (some ⟨b,5,none⟩)),(60,.pointer (some ⟨b,5,none⟩)),(61,.pointer (some ⟨b,9,none⟩)),(62,.agg (partRow ⟨#[109,97,99,99]⟩ .texts q12).toArray),(63,.pointer (some ⟨b,5,none⟩)),(64,.pointer (some ⟨b,5,none⟩)),(65,.pointer (some ⟨b,10,none⟩)),(66,.agg (partRow ⟨#[109,97,99,115]⟩ .texts q13).toArray),(67,.pointer (some ⟨b,5,none⟩)),(68,.pointer (some ⟨b,5,none⟩)),(69,.pointer (some ⟨b,11,none⟩)),(70,.agg (partRow ⟨#[99,111,109,112,99]⟩ .texts q14).toArray),(71,.pointer (some ⟨b,5,none⟩)),(72,.pointer (some ⟨b,5,none⟩)),(73,.pointer (some ⟨b,12,none⟩)),(74,.agg (partRow ⟨#[99,111,109,112,115]⟩ .texts q15).toArray),(75,.pointer (some ⟨b,2,none⟩)),(76,.pointer (some ⟨b,2,none⟩)),(77,.pointer (some ⟨b,13,none⟩)),(78,.agg (partRow ⟨#[97,108,103,115]⟩ .texts q16).toArray),(79,.pointer (some ⟨b,2,none⟩)),(80,.pointer (some ⟨b,2,none⟩)),(81,.pointer (some ⟨b,14,none⟩)),(82,.agg (partRow ⟨#[111,119,110]⟩ .num q17).toArray),(83,.pointer (some ⟨b,2,none⟩)),(84,.pointer (some ⟨b,2,none⟩)),(85,.pointer (some ⟨b,15,none⟩)),(86,.agg (partRow ⟨#[103,114,97,110,116,115]⟩ .grants q18).toArray),(87,.pointer (some ⟨b,2,none⟩)),(88,.pointer (some ⟨b,2,none⟩)),(89,.pointer (some ⟨b,16,none⟩)),(90,.agg (partRow ⟨#[108,105,109,105,116]⟩ .num q19).toArray),(91,.pointer (some ⟨b,2,none⟩)),(92,.pointer (some ⟨b,2,none⟩)),(93,.pointer (some ⟨b,17,none⟩)),(94,.agg (partRow ⟨#[112,101,101,114]⟩ .num q20).toArray),(95,.pointer (some ⟨b,2,none⟩)),(96,.pointer (some ⟨b,2,none⟩)),(97,.pointer (some ⟨b,18,none⟩)),(98,.agg (partRow ⟨#[117,115,101,114]⟩ .text q21).toArray),(99,.pointer (some ⟨b,2,none⟩)),(100,.pointer (some ⟨b,2,none⟩)),(101,.pointer (some ⟨b,19,none⟩)),(102,.agg (partRow ⟨#[107,101,121,115]⟩ .nums q22).toArray),(103,.pointer (some ⟨b,2,none⟩)),(104,.pointer (some ⟨b,2,none⟩)),(105,.pointer (some ⟨b,20,none⟩)),(106,.agg (partRow ⟨#[101,120,116]⟩ .flag q23).toArray),(107,.pointer (some ⟨b,2,none⟩)),(108,.pointer (some ⟨b,2,none⟩)),(109,.pointer (some ⟨b,21,none⟩)),(110,.agg (partRow ⟨#[103,117,101,115,115]⟩ .flag q24).toArray),(111,.pointer (some ⟨b,2,none⟩)),(112,.pointer (some ⟨b,2,none⟩)),(113,.pointer (some ⟨b,22,none⟩)),(114,.agg (partRow ⟨#[119,105,115,104]⟩ .wish q25).toArray),(115,.slice (some ⟨gg,0,none⟩) 26 26),(2,.slice (some ⟨gg,0,none⟩) 26 26)] [11,12,13,14,15,16,17,18,19,20,21,22,23,24,25,26,27,28,29,30,31,32,33,34,35,36,37,38,39,40,41,42,43,44,45,46,47,48,49,50,51,52,53,54,55,56,57,58,59,60,61,62,63,64,65,66,67,68,69,70,71,72,73,74,75,76,77,78,79,80,81,82,83,84,85,86,87,88,89,90,91,92,93,94,95,96,97,98,99,100,101,102,103,104,105,106,107,108,109,110,111,112,113,114,115,2] rfl (List.forall_mem_cons.2 ⟨hF.val 0 _ _ (hall 0 (show 0 < 106 by decide)) rfl rfl,(List.forall_mem_cons.2 ⟨hF.val 1 _ _ (hall 1 (show 1 < 106 by decide)) rfl rfl,(List.forall_mem_cons.2 ⟨hF.val 2 _ _ (hall 2 (show 2 < 106 by decide)) rfl rfl,(List.forall_mem_cons.2 ⟨e14,(List.forall_mem_cons.2 ⟨hF.val 4 _ _ (hall 4 (show 4 < 106 by decide)) rfl rfl,(List.forall_mem_cons.2 ⟨hF.val 5 _ _ (hall 5 (show 5 < 106 by decide)) rfl rfl,(List.forall_mem_cons.2 ⟨hF.val 6 _ _ (hall 6 (show 6 < 106 by decide)) rfl rfl,(List.forall_mem_cons.2 ⟨e18,(List.forall_mem_cons.2 ⟨hF.val 8 _ _ (hall 8 (show 8 < 106 by decide)) rfl rfl,(List.forall_mem_cons.2 ⟨hF.val 9 _ _ (hall 9 (show 9 < 106 by decide)) rfl rfl,(List.forall_mem_cons.2 ⟨hF.val 10 _ _ (hall 10 (show 10 < 106 by decide)) rfl rfl,(List.forall_mem_cons.2 ⟨e22,(List.forall_mem_cons.2 ⟨hF.val 12 _ _ (hall 12 (show 12 < 106 by decide)) rfl rfl,(List.forall_mem_cons.2 ⟨hF.val 13 _ _ (hall 13 (show 13 < 106 by decide)) rfl rfl,(List.forall_mem_cons.2 ⟨hF.val 14 _ _ (hall 14 (show 14 < 106 by decide)) rfl rfl,(List.forall_mem_cons.2 ⟨e26,(List.forall_mem_cons.2 ⟨hF.val 16 _ _ (hall 16 (show 16 < 106 by decide)) rfl rfl,(List.forall_mem_cons.2 ⟨hF.val 17 _ _ (hall 17 (show 17 < 106 by decide)) rfl rfl,(List.forall_mem_cons.2 ⟨hF.val 18 _ _ (hall 18 (show 18 < 106 by decide)) rfl rfl,(List.forall_mem_cons.2 ⟨e30,(List.forall_mem_cons.2 ⟨hF.val 20 _ _ (hall 20 (show 20 < 106 by decide)) rfl rfl,(List.forall_mem_cons.2 ⟨hF.val 21 _ _ (hall 21 (show 21 < 106 by decide)) rfl rfl,(List.forall_mem_cons.2 ⟨hF.val 22 _ _ (hall 22 (show 22 < 106 by decide)) rfl rfl,(List.forall_mem_cons.2 ⟨e34,(List.forall_mem_cons.2 ⟨hF.val 24 _ _ (hall 24 (show 24 < 106 by decide)) rfl rfl,(List.forall_mem_cons.2 ⟨hF.val 25 _ _ (hall 25 (show 25 < 106 by decide)) rfl rfl,(List.forall_mem_cons.2 ⟨hF.val 26 _ _ (hall 26 (show 26 < 106 by decide)) rfl rfl,(List.forall_mem_cons.2 ⟨e38,(List.forall_mem_cons.2 ⟨hF.val 28 _ _ (hall 28 (show 28 < 106 by decide)) rfl rfl,(List.forall_mem_cons.2 ⟨hF.val 29 _ _ (hall 29 (show 29 < 106 by decide)) rfl rfl,(List.forall_mem_cons.2 ⟨hF.val 30 _ _ (hall 30 (show 30 < 106 by decide)) rfl rfl,(List.forall_mem_cons.2 ⟨e42,(List.forall_mem_cons.2 ⟨hF.val 32 _ _ (hall 32 (show 32 < 106 by decide)) rfl rfl,(List.forall_mem_cons.2 ⟨hF.val 33 _ _ (hall 33 (show 33 < 106 by decide)) rfl rfl,(List.forall_mem_cons.2 ⟨hF.val 34 _ _ (hall 34 (show 34 < 106 by decide)) rfl rfl,(List.forall_mem_cons.2 ⟨e46,(List.forall_mem_cons.2 ⟨hF.val 36 _ _ (hall 36 (show 36 < 106 by decide)) rfl rfl,(List.forall_mem_cons.2 ⟨hF.val 37 _ _ (hall 37 (show 37 < 106 by decide)) rfl rfl,(List.forall_mem_cons.2 ⟨hF.val 38 _ _ (hall 38 (show 38 < 106 by decide)) rfl rfl,(List.forall_mem_cons.2 ⟨e50,(List.forall_mem_cons.2 ⟨hF.val 40 _ _ (hall 40 (show 40 < 106 by decide)) rfl rfl,(List.forall_mem_cons.2 ⟨hF.val 41 _ _ (hall 41 (show 41 < 106 by decide)) rfl rfl,(List.forall_mem_cons.2 ⟨hF.val 42 _ _ (hall 42 (show 42 < 106 by decide)) rfl rfl,(List.forall_mem_cons.2 ⟨e54,(List.forall_mem_cons.2 ⟨hF.val 44 _ _ (hall 44 (show 44 < 106 by decide)) rfl rfl,(List.forall_mem_cons.2 ⟨hF.val 45 _ _ (hall 45 (show 45 < 106 by decide)) rfl rfl,(List.forall_mem_cons.2 ⟨hF.val 46 _ _ (hall 46 (show 46 < 106 by decide)) rfl rfl,(List.forall_mem_cons.2 ⟨e58,(List.forall_mem_cons.2 ⟨hF.val 48 _ _ (hall 48 (show 48 < 106 by decide)) rfl rfl,(List.forall_mem_cons.2 ⟨hF.val 49 _ _ (hall 49 (show 49 < 106 by decide)) rfl rfl,(List.forall_mem_cons.2 ⟨hF.val 50 _ _ (hall 50 (show 50 < 106 by decide)) rfl rfl,(List.forall_mem_cons.2 ⟨e62,(List.forall_mem_cons.2 ⟨hF.val 52 _ _ (hall 52 (show 52 < 106 by decide)) rfl rfl,(List.forall_mem_cons.2 ⟨hF.val 53 _ _ (hall 53 (show 53 < 106 by decide)) rfl rfl,(List.forall_mem_cons.2 ⟨hF.val 54 _ _ (hall 54 (show 54 < 106 by decide)) rfl rfl,(List.forall_mem_cons.2 ⟨e66,(List.forall_mem_cons.2 ⟨hF.val 56 _ _ (hall 56 (show 56 < 106 by decide)) rfl rfl,(List.forall_mem_cons.2 ⟨hF.val 57 _ _ (hall 57 (show 57 < 106 by decide)) rfl rfl,(List.forall_mem_cons.2 ⟨hF.val 58 _ _ (hall 58 (show 58 < 106 by decide)) rfl rfl,(List.forall_mem_cons.2 ⟨e70,(List.forall_mem_cons.2 ⟨hF.val 60 _ _ (hall 60 (show 60 < 106 by decide)) rfl rfl,(List.forall_mem_cons.2 ⟨hF.val 61 _ _ (hall 61 (show 61 < 106 by decide)) rfl rfl,(List.forall_mem_cons.2 ⟨hF.val 62 _ _ (hall 62 (show 62 < 106 by decide)) rfl rfl,(List.forall_mem_cons.2 ⟨e74,(List.forall_mem_cons.2 ⟨hF.val 64 _ _ (hall 64 (show 64 < 106 by decide)) rfl rfl,(List.forall_mem_cons.2 ⟨hF.val 65 _ _ (hall 65 (show 65 < 106 by decide)) rfl rfl,(List.forall_mem_cons.2 ⟨hF.val 66 _ _ (hall 66 (show 66 < 106 by decide)) rfl rfl,(List.forall_mem_cons.2 ⟨e78,(List.forall_mem_cons.2 ⟨hF.val 68 _ _ (hall 68 (show 68 < 106 by decide)) rfl rfl,(List.forall_mem_cons.2 ⟨hF.val 69 _ _ (hall 69 (show 69 < 106 by decide)) rfl rfl,(List.forall_mem_cons.2 ⟨hF.val 70 _ _ (hall 70 (show 70 < 106 by decide)) rfl rfl,(List.forall_mem_cons.2 ⟨e82,(List.forall_mem_cons.2 ⟨hF.val 72 _ _ (hall 72 (show 72 < 106 by decide)) rfl rfl,(List.forall_mem_cons.2 ⟨hF.val 73 _ _ (hall 73 (show 73 < 106 by decide)) rfl rfl,(List.forall_mem_cons.2 ⟨hF.val 74 _ _ (hall 74 (show 74 < 106 by decide)) rfl rfl,(List.forall_mem_cons.2 ⟨e86,(List.forall_mem_cons.2 ⟨hF.val 76 _ _ (hall 76 (show 76 < 106 by decide)) rfl rfl,(List.forall_mem_cons.2 ⟨hF.val 77 _ _ (hall 77 (show 77 < 106 by decide)) rfl rfl,(List.forall_mem_cons.2 ⟨hF.val 78 _ _ (hall 78 (show 78 < 106 by decide)) rfl rfl,(List.forall_mem_cons.2 ⟨e90,(List.forall_mem_cons.2 ⟨hF.val 80 _ _ (hall 80 (show 80 < 106 by decide)) rfl rfl,(List.forall_mem_cons.2 ⟨hF.val 81 _ _ (hall 81 (show 81 < 106 by decide)) rfl rfl,(List.forall_mem_cons.2 ⟨hF.val 82 _ _ (hall 82 (show 82 < 106 by decide)) rfl rfl,(List.forall_mem_cons.2 ⟨e94,(List.forall_mem_cons.2 ⟨hF.val 84 _ _ (hall 84 (show 84 < 106 by decide)) rfl rfl,(List.forall_mem_cons.2 ⟨hF.val 85 _ _ (hall 85 (show 85 < 106 by decide)) rfl rfl,(List.forall_mem_cons.2 ⟨hF.val 86 _ _ (hall 86 (show 86 < 106 by decide)) rfl rfl,(List.forall_mem_cons.2 ⟨e98,(List.forall_mem_cons.2 ⟨hF.val 88 _ _ (hall 88 (show 88 < 106 by decide)) rfl rfl,(List.forall_mem_cons.2 ⟨hF.val 89 _ _ (hall 89 (show 89 < 106 by decide)) rfl rfl,(List.forall_mem_cons.2 ⟨hF.val 90 _ _ (hall 90 (show 90 < 106 by decide)) rfl rfl,(List.forall_mem_cons.2 ⟨e102,(List.forall_mem_cons.2 ⟨hF.val 92 _ _ (hall 92 (show 92 < 106 by decide)) rfl rfl,(List.forall_mem_cons.2 ⟨hF.val 93 _ _ (hall 93 (show 93 < 106 by decide)) rfl rfl,(List.forall_mem_cons.2 ⟨hF.val 94 _ _ (hall 94 (show 94 < 106 by decide)) rfl rfl,(List.forall_mem_cons.2 ⟨e106,(List.forall_mem_cons.2 ⟨hF.val 96 _ _ (hall 96 (show 96 < 106 by decide)) rfl rfl,(List.forall_mem_cons.2 ⟨hF.val 97 _ _ (hall 97 (show 97 < 106 by decide)) rfl rfl,(List.forall_mem_cons.2 ⟨hF.val 98 _ _ (hall 98 (show 98 < 106 by decide)) rfl rfl,(List.forall_mem_cons.2 ⟨e110,(List.forall_mem_cons.2 ⟨hF.val 100 _ _ (hall 100 (show 100 < 106 by decide)) rfl rfl,(List.forall_mem_cons.2 ⟨hF.val 101 _ _ (hall 101 (show 101 < 106 by decide)) rfl rfl,(List.forall_mem_cons.2 ⟨hF.val 102 _ _ (hall 102 (show 102 < 106 by decide)) rfl rfl,(List.forall_mem_cons.2 ⟨e114,(List.forall_mem_cons.2 ⟨e115,(List.forall_mem_cons.2 ⟨e2,(fun _ h=>absurd h List.not_mem_nil)⟩)⟩)⟩)⟩)⟩)⟩)⟩)⟩)⟩)⟩)⟩)⟩)⟩)⟩)⟩)⟩)⟩)⟩)⟩)⟩)⟩)⟩)⟩)⟩)⟩)⟩)⟩)⟩)⟩)⟩)⟩)⟩)⟩)⟩)⟩)⟩)⟩)⟩)⟩)⟩)⟩)⟩)⟩)⟩)⟩)⟩)⟩)⟩)⟩)⟩)⟩)⟩)⟩)⟩)⟩)⟩)⟩)⟩)⟩)⟩)⟩)⟩)⟩)⟩)⟩)⟩)⟩)⟩)⟩)⟩)⟩)⟩)⟩)⟩)⟩)⟩)⟩)⟩)⟩)⟩)⟩)⟩)⟩)⟩)⟩)⟩)⟩)⟩)⟩)⟩)⟩)⟩)⟩)⟩)⟩)⟩)⟩)⟩)⟩)⟩)⟩)⟩)⟩)⟩)⟩)⟩) (by decide)).trans (by kernel_rfl)
  clear hF hall
  subst hT
  clear e14 e18 e22 e26 e30 e34 e38 e42 e46 e50 e54 e58 e62 e66 e70 e74 e78 e82 e86 e90 e94 e98 e102 e106 e110 e114
  go_wp2_with fail
  go_ret
  refine ⟨_,[q0,q1,q2,q3,q4,q5,q6,q7,q8,q9,q10,q11,q12,q13,q14,q15,q16,q17,q18,q19,q20,q21,q22,q23,q24,q25],rfl,rfl,hRw.out,hPA.out,fun a ha=>(by injection ha with ha;rw [← ha];exact hgg)⟩
end Go.Proofs.YtmicohmbmgbnkaaGreatDoor
