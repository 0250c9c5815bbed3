/- Texts joined: what each shows stands ahead of its theorems. -/
import Derived.Test.YtmicohmbmgbnkaaGreatDoorVb2
import Derived.Test.YtmicohmbmgbnkaaGreatDoorVb0
import Derived.StillTailTactics
import Derived.Deep.DeepCutAuto
import Derived.Test.YtmicohmbmgbnkaaGreatDoorVShelf
import Derived.Laws.BytesArg
import Derived.Test.YtmicohmbmgbnkaaGreatDoorCards
import Derived.Test.YtmicohmbmgbnkaaGreatDoorTie
import Derived.Lay
import Derived.MakeChecks
import Derived.LaidLaws
import Derived.LaidHandle
import Derived.OpenShut
import Derived.Deep.DeepHandedRow
namespace Go.Proofs.YtmicohmbmgbnkaaGreatDoor
section
open Go
open Go.Lib (itoa)
def lineX (k : Int) (vs : List PV) : List UInt8:=joinL 32 (kindW.getD k.toNat [] :: tokens keyT vs)
inductive LnR where | ok (k : Nat) (vs : List PV) | bad (at_ : List UInt8)
def wordB : List UInt8:=[119,111,114,100]
def rdParts : List (List UInt8)→LnR
 | []=> .bad wordB
 | w :: toks=>match placeL kindW w with | none=> .bad wordB | some k=>match rdToks keyT toks with | .ok vs=> .ok k vs | .bad a=> .bad a
def rdLine (s : List UInt8) : LnR:=rdParts (splitL 32 s)
theorem kind_at : ∀k : Fin 9,placeL kindW (kindW.getD k.1 [])=some k.1∧(∀x∈kindW.getD k.1 [],97≤x.toNat∧x.toNat≤122)∧kindW.getD k.1 []≠[]:=by decide +kernel
theorem key_all : (keyT.map (·.1)).Nodup∧∀p∈keyT,∀x∈p.1,97≤x.toNat∧x.toNat≤122:=by decide +kernel
theorem keyT_ok : OkKeys keyT:=⟨key_all.1,fun p hp h=>by have:=key_all.2 p hp _ h;have e : (61 : UInt8).toNat=61:=rfl;omega⟩
theorem OkVs.mem_seen : ∀{ks : KT} {vs : List PV},(∀p∈ks,∀x∈p.1,97≤x.toNat∧x.toNat≤122)→OkVs ks vs→∀t∈tokens ks vs,∀x∈t,33≤x.toNat∧x.toNat≤126
 | _,_,_,.nil,t,ht,_,_=>by cases ht
 | (k,g) :: ks,v :: vs,hk,.cons hv hvs,t,ht,x,hx=>by
   have ih:=OkVs.mem_seen (fun p hp=>hk p (List.mem_cons_of_mem _ hp)) hvs
   rw [tokens] at ht
   split at ht
   · exact ih t ht x hx
   · rcases List.mem_cons.1 ht with rfl | ht
     · rcases List.mem_append.1 hx with hx | hx
       · have:=hk (k,g) List.mem_cons_self x hx
         omega
       · rcases List.mem_cons.1 hx with rfl | hx
         · decide
         · exact wr_seen hv x hx
     · exact ih t ht x hx
theorem line_parts {k : Nat} {vs : List PV} (hk : k < 9) (h : OkVs keyT vs) : ∀p∈kindW.getD k [] :: tokens keyT vs,∀x∈p,33≤x.toNat∧x.toNat≤126:=by
 intro p hp x hx
 rcases List.mem_cons.1 hp with rfl | hp
 · have:=(kind_at ⟨k,hk⟩).2.1 x hx
   omega
 · exact h.mem_seen key_all.2 p hp x hx
theorem line_split {k : Nat} {vs : List PV} (hk : k < 9) (h : OkVs keyT vs) : splitL 32 (lineX k vs)=kindW.getD k [] :: tokens keyT vs:=by
 unfold lineX
 rw [Int.toNat_natCast]
 refine split_join (by simp) fun p hp hx=> ?_
 have:=line_parts hk h p hp _ hx
 have e : (32 : UInt8).toNat=32:=rfl
 omega
theorem rdLine_wr {k : Nat} {vs : List PV} (hk : k < 9) (h : OkVs keyT vs) : rdLine (lineX k vs)= .ok k vs:=by
 unfold rdLine
 rw [line_split hk h,rdParts,(kind_at ⟨k,hk⟩).1]
 dsimp only
 rw [rdToks_wr keyT_ok h]
theorem kindW_len : kindW.length=9:=rfl
theorem rdLine_some {s : List UInt8} {k : Nat} {vs : List PV} (h : rdLine s= .ok k vs) : lineX k vs=s∧OkVs keyT vs∧k < 9:=by
 unfold rdLine at h
 obtain ⟨w,toks,e⟩:=splitL_cons 32 s
 rw [e,rdParts] at h
 cases hp : placeL kindW w with
 | none=>rw [hp] at h;cases h
 | some q=>
   rw [hp] at h
   dsimp only at h
   cases hr : rdToks keyT toks with
   | bad a=>rw [hr] at h;cases h
   | ok us=>
     rw [hr] at h
     injection h with h1 h2
     subst h1 h2
     obtain ⟨h3,h4⟩:=rdToks_some hr
     have hm:=placeL_mem hp
     have hq : q < 9:=by
      rcases Nat.lt_or_ge q 9 with h | h
      · exact h
      · rw [List.getElem?_eq_none (by rw [kindW_len];exact h)] at hm
        cases hm
     refine ⟨?_,h4,hq⟩
     unfold lineX
     rw [Int.toNat_natCast,h3,List.getD_eq_getElem?_getD,hm,Option.getD_some,← e]
     exact join_split 32 s
/-! The text of steps. -/
def textX : List (List UInt8)→List UInt8
 | []=>[]
 | l :: ls=>l ++ 10 :: textX ls
theorem text_join : ∀(ls : List (List UInt8)),joinL 10 (ls ++ [[]])=textX ls
 | []=>rfl
 | l :: ls=>by
   rw [List.cons_append,joinL_cons (by simp),text_join,textX]
theorem text_of_split {s : List UInt8} {ls : List (List UInt8)} (h : splitL 10 s=ls ++ [[]]) : textX ls=s:=by
 rw [← text_join,← h,join_split]
theorem placeL_drop {ws : List (List UInt8)} (hn : ws.Nodup) : ∀(j : Nat) {w : List UInt8},placeL (ws.drop j) w=match placeL ws w with | some i=>if j≤i then some (i - j) else none | none=>none:=by
 induction ws with
 | nil=>intro j w;rw [List.drop_nil];rfl
 | cons x r ih=>
   intro j w
   obtain ⟨hx,hr⟩:=List.nodup_cons.1 hn
   cases j with
   | zero=>
     rw [List.drop_zero]
     cases placeL (x :: r) w with
     | none=>rfl
     | some i=>dsimp only;rw [if_pos (Nat.zero_le _),Nat.sub_zero]
   | succ j=>
     rw [List.drop_succ_cons,ih hr j,placeL]
     by_cases e : x=w
     · rw [if_pos e]
       dsimp only
       rw [if_neg (by omega)]
       subst e
       cases hp : placeL r x with
       | none=>rfl
       | some i=>exact absurd (List.mem_of_getElem? (placeL_mem hp)) hx
     · rw [if_neg e]
       cases hp : placeL r w with
       | none=>rfl
       | some i=>
         dsimp only [Option.map]
         by_cases h : j≤i
         · rw [if_pos h,if_pos (by omega)]
           congr 1
           omega
         · rw [if_neg h,if_neg (by omega)]
end
section
open Go Go.RowKit Go.Shelf
def bs (l : List UInt8) : ByteArray:=⟨l.toArray⟩
theorem bs_back (s : ByteArray) : bs s.data.toList=s:=by unfold bs;simp
theorem bs_size (l : List UInt8) : (bs l).size=l.length:=by unfold bs;show l.toArray.size=_;simp
theorem bs_list (l : List UInt8) : (bs l).data.toList=l:=rfl
def BF (B b : Nat) (l : List UInt8) (w : World) : Prop:=Lib.IsBuilderF 74 5 B b (Lib.byteCells l) w
def OK (b : Nat) (w w' : World) : Prop:=Lib.OthersKept 5 (some b) w w'
theorem BF.below {B b : Nat} {l : List UInt8} {W W' : World} (h : BF B b l W) (hb : Below W.heap.size W W') : BF B b l W':=by
 have q : ∀p,Lib.BuilderAtF 74 5 B b p (Lib.byteCells l) W→Lib.BuilderAtF 74 5 B b p (Lib.byteCells l) W':=fun p h=>by
  have hlt:=h.lt
  obtain ⟨hB,v,hv,hown,hne⟩:=h
  exact ⟨hB,v,(hb.block b hlt).trans hv,hown.kept (row:=none) ⟨hb.os,hb.tape,hb.output,hb.size,fun k hk _=>hb.block k hk⟩ (Classical.em _),hne⟩
 exact h.elim (fun x=> .inl (q _ x)) (fun x=> .inr (q _ x))
theorem cWrite {B b : Nat} {l m : List UInt8} {w : World} (h : BF B b l w) (hl : l.length + m.length≤140737488355328) (hB : B≤w.heap.size) :
 Calls Tryz.prog 32 #[.pointer (some ⟨b,0,none⟩),.string (bs m)] w fun r w'=>r= .returned (.tuple #[.int .i64 (bs m).size,.nilIface])∧BF B b (l ++ m) w'∧Below B w w'∧OK b w w':=by
 refine (Any.Builder_WriteString_k bld166 bldX B b (Lib.byteCells l) (bs m) w h (by rw [bs_size];simpa [Lib.byteCells] using hl) hB).mono ?_
 rintro r w' ⟨rfl,h1,h2,h3⟩
 refine ⟨rfl,?_,h2,h3⟩
 have e : Lib.strCells (bs m)=Lib.byteCells m:=rfl
 rw [e,← Lib.byteCells_append] at h1
 exact .inr h1
theorem cByte {B b : Nat} {l : List UInt8} {c : UInt8} {w : World} (h : BF B b l w) (hl : l.length + 1≤140737488355328) (hB : B≤w.heap.size) :
 Calls Tryz.prog 31 #[.pointer (some ⟨b,0,none⟩),.int .u8 c.toNat] w fun r w'=>r= .returned .nilIface∧BF B b (l ++ [c]) w'∧Below B w w'∧OK b w w':=by
 refine (Any.Builder_WriteByte_k bld167 bldX B b (Lib.byteCells l) c.toNat w h (by simpa [Lib.byteCells] using hl) hB).mono ?_
 rintro r w' ⟨rfl,h1,h2,h3⟩
 refine ⟨rfl,?_,h2,h3⟩
 have e : Lib.byteCells l ++ [.int .u8 c.toNat]=Lib.byteCells (l ++ [c]):=by simp [Lib.byteCells]
 rw [e] at h1
 exact .inr h1
theorem cString {B b : Nat} {l : List UInt8} {w : World} (h : BF B b l w) (hB : B≤w.heap.size) :
 Calls Tryz.prog 33 #[.pointer (some ⟨b,0,none⟩)] w fun r w'=>r= .returned (.string (bs l))∧BF B b l w'∧Below B w w'∧OK b w w':=
 (Any.Builder_String_any_k bld169 bldX B b l w h hB).mono fun r w' ⟨h1,h2,h3,h4⟩=>⟨h1,h2,h3,h4⟩
set_option maxRecDepth 100000 in
set_option maxHeartbeats 2000000 in
theorem plain_any (c : UInt8) (w : World) : Calls Tryz.prog 30 #[.int .u8 c.toNat] w fun r w'=>r= .returned (.bool (plainN c))∧w' =w:=by
 have h256 : (c.toNat : Int)≤255:=by have:=c.toNat_lt;omega
 have h0 : (0 : Int)≤c.toNat:=Int.natCast_nonneg _
 obtain ⟨n,hn⟩ : ∃n : Nat,c.toNat=n:=⟨_,rfl⟩
 unfold plainN
 rw [hn] at h256 h0 ⊢
 clear hn
 by_cases e1 : n=37
 · subst e1;go_enter Tryz.func30,Tryz.ntmps30;go_wp2_with fail;go_ret;exact ⟨rfl,rfl⟩
 by_cases e2 : n=44
 · subst e2;go_enter Tryz.func30,Tryz.ntmps30;go_wp2_with fail;go_ret;exact ⟨rfl,rfl⟩
 by_cases e3 : n=58
 · subst e3;go_enter Tryz.func30,Tryz.ntmps30;go_wp2_with fail;go_ret;exact ⟨rfl,rfl⟩
 by_cases e4 : n=59
 · subst e4;go_enter Tryz.func30,Tryz.ntmps30;go_wp2_with fail;go_ret;exact ⟨rfl,rfl⟩
 by_cases e5 : n=61
 · subst e5;go_enter Tryz.func30,Tryz.ntmps30;go_wp2_with fail;go_ret;exact ⟨rfl,rfl⟩
 have f1 : ((n : Int) == 37)=false:=by rw [beq_eq_false_iff_ne];omega
 have f2 : ((n : Int) == 44)=false:=by rw [beq_eq_false_iff_ne];omega
 have f3 : ((n : Int) == 58)=false:=by rw [beq_eq_false_iff_ne];omega
 have f4 : ((n : Int) == 59)=false:=by rw [beq_eq_false_iff_ne];omega
 have f5 : ((n : Int) == 61)=false:=by rw [beq_eq_false_iff_ne];omega
 by_cases g1 : 32 < n
 · by_cases g2 : n≤126
   · have k1 : (32 : Int) < n:=by omega
     have k2 : (n : Int)≤126:=by omega
     go_enter Tryz.func30,Tryz.ntmps30
     go_wp2_with fail
     go_ret
     exact ⟨by simp [e1,e2,e3,e4,e5] <;> omega,rfl⟩
   · have k1 : (32 : Int) < n:=by omega
     have k2 : ¬(n : Int)≤126:=by omega
     go_enter Tryz.func30,Tryz.ntmps30
     go_wp2_with fail
     go_ret
     exact ⟨by simp [e1,e2,e3,e4,e5] <;> omega,rfl⟩
 · have k1 : ¬(32 : Int) < n:=by omega
   go_enter Tryz.func30,Tryz.ntmps30
   go_wp2_with fail
   go_ret
   exact ⟨by simp [e1,e2,e3,e4,e5] <;> omega,rfl⟩
end
section
open Go Go.RowKit Go.Shelf
theorem below_new2 (w : World) (o : Obj) : Below w.heap.size w (w.alloc o):=(Below.refl _ _).alloc (Nat.le_refl _) o
theorem bf_zero (w : World) : BF w.heap.size w.heap.size [] (w.alloc (.cells #[.pointer none,.slice none 0 0] 74)):=
 Lib.IsBuilderF.of (.inl ⟨Nat.le_refl _,_,heap_new w _,World.ownsRow_nil _ _ _ _,by simp [Value.ownBlock]⟩)
theorem ba_get (s : ByteArray) {k : Nat} (h : k < s.size) : s.data.toList[k]? =some (s[k]'h):=by
 rw [Array.getElem?_toList]
 exact Array.getElem?_eq_getElem h
theorem hex_at (d : Nat) (h : d < 16) : IntKind.u8.wrap ((d : Int) + 1)=(d : Int) + 1∧ByteArray.extract ⟨#[48,49,50,51,52,53,54,55,56,57,97,98,99,100,101,102]⟩ d (d + 1)=⟨#[hexD d]⟩:=by
 have : ∀i : Fin 16,IntKind.u8.wrap ((i.1 : Int) + 1)=(i.1 : Int) + 1∧ByteArray.extract ⟨#[48,49,50,51,52,53,54,55,56,57,97,98,99,100,101,102]⟩ i.1 (i.1 + 1)=⟨#[hexD i.1]⟩:=by decide +kernel
 exact this ⟨d,h⟩
theorem bits_15 (c : UInt8) : bits BinOp.and IntKind.u8 (c.toNat : Int) 15=((c.toNat % 16 : Nat) : Int):=by
 have : ∀i : Fin 256,bits BinOp.and IntKind.u8 (i.1 : Int) 15=((i.1 % 16 : Nat) : Int):=by decide +kernel
 exact this ⟨c.toNat,c.toNat_lt⟩
set_option maxRecDepth 100000 in
set_option maxHeartbeats 4000000 in
theorem escape_any (s : ByteArray) (w : World) (hs : s.size≤1099511627776) :
 Calls Tryz.prog 10 #[.string s] w fun r w'=>r= .returned (.string (bs (escL s.data.toList)))∧Below w.heap.size w w':=by
 have hb0 : Hid (BF w.heap.size w.heap.size (escL (s.data.toList.take 0)) (w.alloc (.cells #[.pointer none,.slice none 0 0] 74))):=Lib.hid (bf_zero w)
 have hB0:=Lib.hid (below_new2 w (.cells #[.pointer none,.slice none 0 0] 74))
 have hsl : Hid (s.data.toList.length=s.size):=Lib.hid (by rw [Array.length_toList];rfl)
 go_enter Tryz.func10,Tryz.ntmps10
 go_wp2_with fail
 go_loopw [7] (fun iv wr=> ∃k : Nat,k≤s.size∧iv= .int .i64 k∧Hid (BF w.heap.size w.heap.size (escL (s.data.toList.take k)) wr)∧Hid (Below w.heap.size w wr)) (fun iv _=>s.size - (intOf iv).toNat)
 case atStart=>exact ⟨0,Nat.zero_le _,rfl,hb0,hB0⟩
 case round=>
  clear hb0 hB0
  obtain ⟨k,hk,rfl,hF,hB⟩:=hrel
  by_cases hlt : k < s.size
  · have hlt' : (k : Int) < (s.size : Int):=by omega
    have h0k : (0 : Int)≤(k : Int):=Int.natCast_nonneg _
    obtain ⟨c,hc⟩ : ∃c,s[k]'hlt=c:=⟨_,rfl⟩
    have htk : s.data.toList.take (k + 1)=s.data.toList.take k ++ [c]:=by rw [← hc];exact take_succ_of (ba_get s hlt)
    have hsn : escL (s.data.toList.take (k + 1))=escL (s.data.toList.take k) ++ escB c:=by rw [htk];exact escL_snoc _ _
    have hel:=escL_len (s.data.toList.take k)
    rw [List.length_take] at hel
    have hel2 : (escL (s.data.toList.take k)).length≤3298534883328:=by omega
    have cP:=Lib.hid (plain_any c wr)
    have h256 : c.toNat < 256:=c.toNat_lt
    clear htk hel
    cases hp : plainN c with
    | true=>
      rw [hp] at cP
      have he : escB c=[c]:=by unfold escB;rw [if_pos hp]
      rw [he] at hsn
      have cW:=Lib.hid (cByte (c:=c) hF.out (by omega) hB.out.size)
      rw [← hsn] at cW
      clear he hsn hp
      go_wp2_with (first
       | (go_at_call 30;(with_reducible refine cP.out.mono ?_);rintro r w1 ⟨rfl,rfl⟩)
       | (go_at_call 31;(with_reducible refine cW.out.mono ?_);rintro r w2 ⟨rfl,hF2,hB2,_⟩
          replace hF2:=Lib.hid hF2
          have hB3:=Lib.hid (hB.out.trans hB2)
          clear hB2 hF hB))
      go_roundw
      case rel=>exact ⟨k + 1,by omega,by go_num,hF2,hB3⟩
      case measure=>simp [intOf];omega
    | false=>
      rw [hp] at cP
      have he : escB c=[37,hexD (c.toNat / 16),hexD (c.toNat % 16)]:=by unfold escB;rw [if_neg (by rw [hp];decide)]
      rw [he] at hsn
      clear he hp
      go_upto_region 7 with (go_at_call 30;(with_reducible refine cP.out.mono ?_);rintro r w1 ⟨rfl,rfl⟩)
      have q0 : (0 : Int)≤(c.toNat : Int):=Int.natCast_nonneg _
      obtain ⟨d,hd,hd16⟩ : ∃d : Nat,c.toNat / 16=d∧d < 16:=⟨_,rfl,by omega⟩
      have z0 : (c.toNat : Int) / 16=(d : Int):=by omega
      obtain ⟨z1,z4⟩:=hex_at d hd16
      have z2 : (d : Int) + 1≤16:=by omega
      have z3 : (0 : Int)≤d:=by omega
      have z5 : (d : Int)≤(d : Int) + 1:=by omega
      obtain ⟨e,he,he16⟩ : ∃e : Nat,c.toNat % 16=e∧e < 16:=⟨_,rfl,by omega⟩
      have y0 : bits BinOp.and IntKind.u8 (c.toNat : Int) 15=(e : Int):=by rw [bits_15 c,he]
      obtain ⟨y1,y4⟩:=hex_at e he16
      have y2 : (e : Int) + 1≤16:=by omega
      have y3 : (0 : Int)≤e:=by omega
      have y5 : (e : Int)≤(e : Int) + 1:=by omega
      rw [hd,he] at hsn
      have hdr : Below w1.heap.size w1 w1.drew:=drewN_below 1
      have hB9:=hB.out.trans (hdr.mono hB.out.size)
      have hF9:=hF.out.below hdr
      obtain ⟨w9,hw9⟩ : ∃w9,w1.drew=w9:=⟨_,rfl⟩
      rw [hw9] at hB9 hF9
      have cW:=Lib.hid (cWrite (m:=[37,hexD d,hexD e]) hF9 (by simp;omega) hB9.size)
      rw [← hsn] at cW
      replace hB9:=Lib.hid hB9
      have hcat : (⟨#[37]⟩ ++ ⟨#[hexD d]⟩ ++ ⟨#[hexD e]⟩ : ByteArray)=bs [37,hexD d,hexD e]:=rfl
      clear hF9 hF hB hdr hsn
      go_still_tail 22,(by kernel_rfl)
      change wpList _ _ _ _ _ w1.drew
      rw [hw9]
      clear hw9
      go_wp2_with (go_at_call 32;try rw [hcat]
                   (with_reducible refine cW.out.mono ?_);rintro r w2 ⟨rfl,hF2,hB2,_⟩
                   replace hF2:=Lib.hid hF2
                   have hB3:=Lib.hid (hB9.out.trans hB2)
                   clear hB2)
      go_roundw
      case rel=>exact ⟨k + 1,by omega,by go_num,hF2,hB3⟩
      case measure=>simp [intOf];omega
  · have hkn : s.data.toList.take k=s.data.toList:=List.take_of_length_le (by rw [hsl.out];omega)
    rw [hkn] at hF
    have cS:=Lib.hid (cString hF.out hB.out.size)
    clear hF hkn
    go_wp2_with (go_at_call 33;(with_reducible refine cS.out.mono ?_);rintro r w2 ⟨rfl,_,hB2,_⟩)
    go_ret
    exact ⟨rfl,hB.out.trans hB2⟩
end
section
open Go Go.RowKit Go.Shelf
def digZ (c : UInt8) : Int:=if hexV c=16 then -1 else hexV c
theorem index_hex (c : UInt8) : Lib.indexByte [48,49,50,51,52,53,54,55,56,57,97,98,99,100,101,102] ((c.toNat : Int).toNat.toUInt8)=digZ c:=by
 have : ∀i : Fin 256,Lib.indexByte [48,49,50,51,52,53,54,55,56,57,97,98,99,100,101,102] (((UInt8.ofNat i.1).toNat : Int).toNat.toUInt8)=digZ (UInt8.ofNat i.1):=by decide +kernel
 have h:=this ⟨c.toNat,c.toNat_lt⟩
 rwa [show UInt8.ofNat c.toNat=c by simp] at h
theorem hexV_le (c : UInt8) : hexV c≤16:=by
 unfold hexV
 split
 · omega
 · split <;> omega
theorem hexV_16 {c : UInt8} (h : ∀j,j < 16→hexD j≠c) : hexV c=16:=by
 have : ∀i : Fin 256,(∀j : Fin 16,hexD j.1≠UInt8.ofNat i.1)→hexV (UInt8.ofNat i.1)=16:=by decide +kernel
 have h2:=this ⟨c.toNat,c.toNat_lt⟩
 rw [show UInt8.ofNat c.toNat=c by simp] at h2
 exact h2 fun j=>h j.1 j.2
set_option maxRecDepth 100000 in
theorem digit_any (c : UInt8) (w : World) : Calls Tryz.prog 34 #[.int .u8 c.toNat] w fun r w'=>r= .returned (.int .i64 (digZ c))∧w' =w:=by
 have cI:=Tryz.strings_IndexByte ⟨#[48,49,50,51,52,53,54,55,56,57,97,98,99,100,101,102]⟩ (c.toNat : Int) w
 rw [show (ByteArray.mk #[48,49,50,51,52,53,54,55,56,57,97,98,99,100,101,102]).data.toList=[48,49,50,51,52,53,54,55,56,57,97,98,99,100,101,102] from rfl,index_hex c] at cI
 replace cI:=Lib.hid cI
 go_enter Tryz.func34,Tryz.ntmps34
 go_wp2_with (go_at_call 55;(with_reducible refine cI.out.mono ?_);rintro r w1 ⟨rfl,rfl⟩)
 go_ret
 exact ⟨rfl,rfl⟩
set_option maxRecDepth 100000 in
theorem hex_any (d : Nat) (h : d < 16) (w : World) : Calls Tryz.prog 36 #[.int .i64 d] w fun r w'=>r= .returned (.string (bs [hexD d]))∧w' =w:=by
 obtain ⟨_,z4⟩:=hex_at d h
 have z2 : (d : Int) + 1≤16:=by omega
 have z3 : (0 : Int)≤d:=by omega
 have z5 : (d : Int)≤(d : Int) + 1:=by omega
 go_enter Tryz.func36,Tryz.ntmps36
 go_wp2_with fail
 go_ret
 exact ⟨rfl,rfl⟩
set_option maxRecDepth 100000 in
set_option maxHeartbeats 2000000 in
theorem value_any (c : UInt8) (w : World) : Calls Tryz.prog 35 #[.int .u8 c.toNat] w fun r w'=>r= .returned (.int .i64 (hexV c))∧w' =w:=by
 go_enter Tryz.func35,Tryz.ntmps35
 go_wp2_with fail
 go_loopw [3] (fun iv wr=> ∃k : Nat,k≤16∧iv= .int .i64 k∧Hid (wr=w)∧Hid (∀j,j < k→hexD j≠c)) (fun iv _=>16 - (intOf iv).toNat)
 case atStart=>exact ⟨0,by decide,rfl,Lib.hid rfl,Lib.hid fun j h=>absurd h (Nat.not_lt_zero _)⟩
 case round=>
  obtain ⟨k,hk,rfl,hw,hN⟩:=hrel
  by_cases hlt : k < 16
  · have hlt' : (k : Int) < 16:=by omega
    have cH:=Lib.hid (hex_any k hlt wr)
    obtain ⟨s1,hs1,hz,hg⟩ : ∃(s1 : ByteArray),bs [hexD k]=s1∧∃hz : 0 < s1.size,s1[0]'hz=hexD k:=⟨_,rfl,(by decide : 0 < 1),rfl⟩
    rw [hs1] at cH
    clear hs1
    have hz' : (0 : Int) < (s1.size : Int):=by omega
    by_cases he : hexD k=c
    · have hv : hexV c=k:=by rw [← he];exact hexV_hexD hlt
      have hb : (((s1[0]'hz).toNat : Int) == (c.toNat : Int))=true:=by rw [hg,he];simp
      clear hg
      go_wp2_with (go_at_call 36;(with_reducible refine cH.out.mono ?_);rintro r w1 ⟨rfl,rfl⟩)
      go_ret
      exact ⟨by rw [hv];rfl,hw.out⟩
    · have hb : (((s1[0]'hz).toNat : Int) == (c.toNat : Int))=false:=by
       rw [beq_eq_false_iff_ne,hg]
       intro e
       exact he (UInt8.toNat_inj.1 (by omega))
      have hN2:=Lib.hid (show ∀j,j < k + 1→hexD j≠c from fun j hj=>by
       by_cases e : j=k
       · rw [e];exact he
       · exact hN.out j (by omega))
      clear he hg
      go_wp2_with (go_at_call 36;(with_reducible refine cH.out.mono ?_);rintro r w1 ⟨rfl,rfl⟩)
      go_roundw
      case rel=>exact ⟨k + 1,by omega,by go_num,hw,hN2⟩
      case measure=>simp [intOf];omega
  · have h16 : k=16:=by omega
    subst h16
    have hv:=hexV_16 hN.out
    go_wp2_with fail
    go_ret
    exact ⟨by rw [hv];rfl,hw.out⟩
end
section
open Go Go.RowKit Go.Shelf
theorem bs_app (l m : List UInt8) : bs l ++ bs m=bs (l ++ m):=by
 apply ByteArray.ext
 simp [bs]
theorem ext_one (s : ByteArray) {k : Nat} (h : k < s.size) : s.extract k (k + 1)=bs [s[k]'h]:=by
 have e : (s.extract k (k + 1)).data.toList=[s[k]'h]:=by
  rw [Lib.extract_data,Nat.add_sub_cancel_left]
  have:=ba_get s h
  rw [List.take_one,List.head?_drop,this]
  rfl
 rw [← bs_back (s.extract k (k + 1)),e]
theorem plain_cases (c : UInt8) : plainN c=false→c.toNat < 33∨(¬c.toNat < 33∧126 < c.toNat)∨((¬c.toNat < 33∧¬126 < c.toNat)∧(c.toNat=37∨c.toNat=44∨c.toNat=58∨c.toNat=59∨c.toNat=61)):=by
 unfold plainN
 intro h
 simp at h
 omega
theorem plain_true (c : UInt8) : plainN c=true→¬c.toNat < 33∧¬126 < c.toNat∧c.toNat≠37∧c.toNat≠44∧c.toNat≠58∧c.toNat≠59∧c.toNat≠61:=by
 unfold plainN
 intro h
 simp at h
 omega
set_option maxRecDepth 100000 in
set_option maxHeartbeats 4000000 in
theorem rescape_any (s : ByteArray) (w : World) (hs : s.size≤1099511627776) :
 Calls Tryz.prog 13 #[.string s] w fun r w'=>r= .returned (.string (bs (escL s.data.toList)))∧w' =w:=by
 have hsl : Hid (s.data.toList.length=s.size):=Lib.hid (by rw [Array.length_toList];rfl)
 go_enter Tryz.func13,Tryz.ntmps13
 go_wp2_with fail
 go_loopw [3,4] (fun ov iv wr=> ∃(k : Nat) (o : ByteArray),k≤s.size∧ov= .string o∧iv= .int .i64 k∧Hid (o=bs (escL (s.data.toList.take k)))∧Hid (wr=w)) (fun _ iv _=>s.size - (intOf iv).toNat)
 case atStart=>exact ⟨0,_,Nat.zero_le _,rfl,rfl,Lib.hid rfl,Lib.hid rfl⟩
 case round=>
  obtain ⟨k,o,hk,rfl,rfl,ho,hw⟩:=hrel
  by_cases hlt : k < s.size
  · have hlt' : (k : Int) < (s.size : Int):=by omega
    have h0k : (0 : Int)≤(k : Int):=Int.natCast_nonneg _
    have hx1:=ext_one s hlt
    obtain ⟨c,hc⟩ : ∃c,s[k]'hlt=c:=⟨_,rfl⟩
    rw [hc] at hx1
    have htk : s.data.toList.take (k + 1)=s.data.toList.take k ++ [c]:=by rw [← hc];exact take_succ_of (ba_get s hlt)
    have hsn : escL (s.data.toList.take (k + 1))=escL (s.data.toList.take k) ++ escB c:=by rw [htk];exact escL_snoc _ _
    have hel:=escL_len (s.data.toList.take k)
    rw [List.length_take] at hel
    have hos : o.size≤3298534883328:=by rw [ho.out,bs_size];omega
    have h256 : c.toNat < 256:=c.toNat_lt
    clear htk hel
    have q0 : (0 : Int)≤(c.toNat : Int):=Int.natCast_nonneg _
    cases hp : plainN c with
    | true=>
      have he : escB c=[c]:=by unfold escB;rw [if_pos hp]
      rw [he] at hsn
      obtain ⟨p1,p2,p3,p4,p5,p6,p7⟩:=plain_true c hp
      have f1 : ¬(c.toNat : Int) < 33:=by omega
      have f2 : ¬(126 : Int) < c.toNat:=by omega
      have f3 : ((c.toNat : Int) == 37)=false:=by rw [beq_eq_false_iff_ne];omega
      have f4 : ((c.toNat : Int) == 44)=false:=by rw [beq_eq_false_iff_ne];omega
      have f5 : ((c.toNat : Int) == 58)=false:=by rw [beq_eq_false_iff_ne];omega
      have f6 : ((c.toNat : Int) == 59)=false:=by rw [beq_eq_false_iff_ne];omega
      have f7 : ((c.toNat : Int) == 61)=false:=by rw [beq_eq_false_iff_ne];omega
      have hnx:=Lib.hid (show o ++ bs [c]=bs (escL (s.data.toList.take (k + 1))) by rw [ho.out,bs_app,hsn])
      have hcz : ¬9223372036854775807 < o.size + (bs [c]).size:=by rw [bs_size,List.length_singleton];omega
      clear he hsn hp p1 p2 p3 p4 p5 p6 p7 ho
      go_wp2_with fail
      go_roundw
      case rel=>exact ⟨k + 1,_,by omega,rfl,by go_num,hnx,hw⟩
      case measure=>simp [intOf];omega
    | false=>
      have he : escB c=[37,hexD (c.toNat / 16),hexD (c.toNat % 16)]:=by unfold escB;rw [if_neg (by rw [hp];decide)]
      rw [he] at hsn
      obtain ⟨d,hd,hd16⟩ : ∃d : Nat,c.toNat / 16=d∧d < 16:=⟨_,rfl,by omega⟩
      obtain ⟨e,he2,he16⟩ : ∃e : Nat,c.toNat % 16=e∧e < 16:=⟨_,rfl,by omega⟩
      have z0 : (c.toNat : Int) / 16=(d : Int):=by omega
      have z1 : (c.toNat : Int) % 16=(e : Int):=by omega
      have z2 : (c.toNat : Int).tdiv 16=(d : Int):=by rw [Int.tdiv_eq_ediv_of_nonneg q0];exact z0
      have z3 : (c.toNat : Int).tmod 16=(e : Int):=by rw [Int.tmod_eq_emod_of_nonneg q0];exact z1
      have cH:=Lib.hid (fun (d : Nat) (h : d < 16)=>hex_any d h wr)
      rw [hd,he2] at hsn
      have hnx:=Lib.hid (show o ++ ⟨#[37]⟩ ++ bs [hexD d] ++ bs [hexD e]=bs (escL (s.data.toList.take (k + 1))) by
       rw [show (⟨#[37]⟩ : ByteArray)=bs [37] from rfl,ho.out,bs_app,bs_app,bs_app,hsn]
       simp)
      have hz1 : ¬9223372036854775807 < o.size + 1:=by omega
      have hz2 : (o ++ ⟨#[37]⟩).size=o.size + 1:=by rw [ByteArray.size_append];rfl
      have hz3 : (o ++ ⟨#[37]⟩ ++ bs [hexD d]).size=o.size + 2:=by rw [ByteArray.size_append,hz2];rfl
      have hz4 : ¬9223372036854775807 < (o ++ ⟨#[37]⟩).size + (bs [hexD d]).size:=by rw [hz2,bs_size,List.length_singleton];omega
      have hz5 : ¬9223372036854775807 < (o ++ ⟨#[37]⟩ ++ bs [hexD d]).size + (bs [hexD e]).size:=by rw [hz3,bs_size,List.length_singleton];omega
      have hcs:=plain_cases c hp
      clear he hsn hp ho hd he2 hx1 hz2 hz3
      rcases hcs with h1 | ⟨h1,h2⟩ | ⟨⟨h1,h2⟩,h3 | h3 | h3 | h3 | h3⟩
      case inl=>
       have f1 : (c.toNat : Int) < 33:=by omega
       clear h1
       go_wp2_with (first
        | (go_at_call 36;(with_reducible refine (cH.out d hd16).mono ?_);rintro r w1 ⟨rfl,rfl⟩)
        | (go_at_call 36;(with_reducible refine (cH.out e he16).mono ?_);rintro r w1 ⟨rfl,rfl⟩))
       go_roundw
       case rel=>exact ⟨k + 1,_,by omega,rfl,by go_num,hnx,hw⟩
       case measure=>simp [intOf];omega
      case inr.inl=>
       have f1 : ¬(c.toNat : Int) < 33:=by omega
       have f2 : (126 : Int) < c.toNat:=by omega
       clear h1 h2
       go_wp2_with (first
        | (go_at_call 36;(with_reducible refine (cH.out d hd16).mono ?_);rintro r w1 ⟨rfl,rfl⟩)
        | (go_at_call 36;(with_reducible refine (cH.out e he16).mono ?_);rintro r w1 ⟨rfl,rfl⟩))
       go_roundw
       case rel=>exact ⟨k + 1,_,by omega,rfl,by go_num,hnx,hw⟩
       case measure=>simp [intOf];omega
      case inr.inr.inl=>
       have f1 : ¬(c.toNat : Int) < 33:=by omega
       have f2 : ¬(126 : Int) < c.toNat:=by omega
       have g37 : ((c.toNat : Int) == 37)=true:=by rw [beq_iff_eq];omega
       clear h1 h2 h3
       go_wp2_with (first
        | (go_at_call 36;(with_reducible refine (cH.out d hd16).mono ?_);rintro r w1 ⟨rfl,rfl⟩)
        | (go_at_call 36;(with_reducible refine (cH.out e he16).mono ?_);rintro r w1 ⟨rfl,rfl⟩))
       go_roundw
       case rel=>exact ⟨k + 1,_,by omega,rfl,by go_num,hnx,hw⟩
       case measure=>simp [intOf];omega
      case inr.inr.inr.inl=>
       have f1 : ¬(c.toNat : Int) < 33:=by omega
       have f2 : ¬(126 : Int) < c.toNat:=by omega
       have g37 : ((c.toNat : Int) == 37)=false:=by rw [beq_eq_false_iff_ne];omega
       have g44 : ((c.toNat : Int) == 44)=true:=by rw [beq_iff_eq];omega
       clear h1 h2 h3
       go_wp2_with (first
        | (go_at_call 36;(with_reducible refine (cH.out d hd16).mono ?_);rintro r w1 ⟨rfl,rfl⟩)
        | (go_at_call 36;(with_reducible refine (cH.out e he16).mono ?_);rintro r w1 ⟨rfl,rfl⟩))
       go_roundw
       case rel=>exact ⟨k + 1,_,by omega,rfl,by go_num,hnx,hw⟩
       case measure=>simp [intOf];omega
      case inr.inr.inr.inr.inl=>
       have f1 : ¬(c.toNat : Int) < 33:=by omega
       have f2 : ¬(126 : Int) < c.toNat:=by omega
       have g37 : ((c.toNat : Int) == 37)=false:=by rw [beq_eq_false_iff_ne];omega
       have g44 : ((c.toNat : Int) == 44)=false:=by rw [beq_eq_false_iff_ne];omega
       have g58 : ((c.toNat : Int) == 58)=true:=by rw [beq_iff_eq];omega
       clear h1 h2 h3
       go_wp2_with (first
        | (go_at_call 36;(with_reducible refine (cH.out d hd16).mono ?_);rintro r w1 ⟨rfl,rfl⟩)
        | (go_at_call 36;(with_reducible refine (cH.out e he16).mono ?_);rintro r w1 ⟨rfl,rfl⟩))
       go_roundw
       case rel=>exact ⟨k + 1,_,by omega,rfl,by go_num,hnx,hw⟩
       case measure=>simp [intOf];omega
      case inr.inr.inr.inr.inr.inl=>
       have f1 : ¬(c.toNat : Int) < 33:=by omega
       have f2 : ¬(126 : Int) < c.toNat:=by omega
       have g37 : ((c.toNat : Int) == 37)=false:=by rw [beq_eq_false_iff_ne];omega
       have g44 : ((c.toNat : Int) == 44)=false:=by rw [beq_eq_false_iff_ne];omega
       have g58 : ((c.toNat : Int) == 58)=false:=by rw [beq_eq_false_iff_ne];omega
       have g59 : ((c.toNat : Int) == 59)=true:=by rw [beq_iff_eq];omega
       clear h1 h2 h3
       go_wp2_with (first
        | (go_at_call 36;(with_reducible refine (cH.out d hd16).mono ?_);rintro r w1 ⟨rfl,rfl⟩)
        | (go_at_call 36;(with_reducible refine (cH.out e he16).mono ?_);rintro r w1 ⟨rfl,rfl⟩))
       go_roundw
       case rel=>exact ⟨k + 1,_,by omega,rfl,by go_num,hnx,hw⟩
       case measure=>simp [intOf];omega
      case inr.inr.inr.inr.inr.inr=>
       have f1 : ¬(c.toNat : Int) < 33:=by omega
       have f2 : ¬(126 : Int) < c.toNat:=by omega
       have g37 : ((c.toNat : Int) == 37)=false:=by rw [beq_eq_false_iff_ne];omega
       have g44 : ((c.toNat : Int) == 44)=false:=by rw [beq_eq_false_iff_ne];omega
       have g58 : ((c.toNat : Int) == 58)=false:=by rw [beq_eq_false_iff_ne];omega
       have g59 : ((c.toNat : Int) == 59)=false:=by rw [beq_eq_false_iff_ne];omega
       have g61 : ((c.toNat : Int) == 61)=true:=by rw [beq_iff_eq];omega
       clear h1 h2 h3
       go_wp2_with (first
        | (go_at_call 36;(with_reducible refine (cH.out d hd16).mono ?_);rintro r w1 ⟨rfl,rfl⟩)
        | (go_at_call 36;(with_reducible refine (cH.out e he16).mono ?_);rintro r w1 ⟨rfl,rfl⟩))
       go_roundw
       case rel=>exact ⟨k + 1,_,by omega,rfl,by go_num,hnx,hw⟩
       case measure=>simp [intOf];omega
  · have hkn : s.data.toList.take k=s.data.toList:=List.take_of_length_le (by rw [hsl.out];omega)
    rw [hkn] at ho
    have ho':=ho.out
    subst ho'
    clear ho hkn
    go_wp2_with fail
    go_ret
    exact ⟨rfl,hw.out⟩
end
section
open Go Go.RowKit Go.Shelf
def UnR (L : List UInt8) (r : Ending) : Prop:=r= .returned (.tuple #[.string (bs ((unescL L).getD [])),.bool (unescL L).isSome])
theorem unR_none {L : List UInt8} (h : unesc L=none) : UnR L (.returned (.tuple #[.string ⟨#[]⟩,.bool false])):=by
 unfold UnR unescL
 rw [h]
 rfl
theorem unR_some {L o : List UInt8} (h : unesc L=some o) (he : escL o=L) : UnR L (.returned (.tuple #[.string (bs o),.bool true])):=by
 unfold UnR unescL
 rw [h]
 dsimp only
 rw [if_pos he]
 rfl
theorem unR_ne {L o : List UInt8} (h : unesc L=some o) (he : escL o≠L) : UnR L (.returned (.tuple #[.string ⟨#[]⟩,.bool false])):=by
 unfold UnR unescL
 rw [h]
 dsimp only
 rw [if_neg he]
 rfl
def UnAt (L : List UInt8) (k : Nat) (o : List UInt8) : Prop:=unesc L=(unesc (L.drop k)).map (o ++ ·)∧o.length≤k
theorem UnAt.start (L : List UInt8) : UnAt L 0 []:=⟨by rw [List.drop_zero];cases unesc L <;> rfl,Nat.le_refl _⟩
theorem UnAt.plain {L : List UInt8} {k : Nat} {o : List UInt8} {c : UInt8} (h : UnAt L k o) (hc : L[k]? =some c) (hn : c.toNat≠37) : UnAt L (k + 1) (o ++ [c]):=by
 obtain ⟨hk,e⟩:=List.getElem?_eq_some_iff.1 hc
 refine ⟨?_,by rw [List.length_append,List.length_singleton];have:=h.2;omega⟩
 rw [h.1,List.drop_eq_getElem_cons hk,e,unesc_cons hn]
 cases unesc (L.drop (k + 1)) <;> simp
theorem UnAt.pct {L : List UInt8} {k : Nat} {o : List UInt8} {c a b : UInt8} (h : UnAt L k o) (hc : L[k]? =some c) (ha : L[k + 1]? =some a) (hb : L[k + 2]? =some b) (hn : c.toNat=37) (h1 : hexV a < 16) (h2 : hexV b < 16) : UnAt L (k + 3) (o ++ [UInt8.ofNat (16 * hexV a + hexV b)]):=by
 obtain ⟨hk,e⟩:=List.getElem?_eq_some_iff.1 hc
 obtain ⟨hk1,e1⟩:=List.getElem?_eq_some_iff.1 ha
 obtain ⟨hk2,e2⟩:=List.getElem?_eq_some_iff.1 hb
 refine ⟨?_,by rw [List.length_append,List.length_singleton];have:=h.2;omega⟩
 rw [h.1,List.drop_eq_getElem_cons hk,List.drop_eq_getElem_cons hk1,List.drop_eq_getElem_cons hk2,e,e1,e2,unesc_pct _ _ _ hn,if_pos ⟨h1,h2⟩]
 cases unesc (L.drop (k + 2 + 1)) <;> simp
theorem UnAt.short {L : List UInt8} {k : Nat} {o : List UInt8} {c : UInt8} (h : UnAt L k o) (hc : L[k]? =some c) (hn : c.toNat=37) (hl : L.length < k + 3) : unesc L=none:=by
 obtain ⟨hk,e⟩:=List.getElem?_eq_some_iff.1 hc
 rw [h.1,List.drop_eq_getElem_cons hk,e,unesc_short hn (by rw [List.length_drop];omega)]
 rfl
theorem UnAt.bad {L : List UInt8} {k : Nat} {o : List UInt8} {c a b : UInt8} (h : UnAt L k o) (hc : L[k]? =some c) (ha : L[k + 1]? =some a) (hb : L[k + 2]? =some b) (hn : c.toNat=37) (h1 : ¬(hexV a < 16∧hexV b < 16)) : unesc L=none:=by
 obtain ⟨hk,e⟩:=List.getElem?_eq_some_iff.1 hc
 obtain ⟨hk1,e1⟩:=List.getElem?_eq_some_iff.1 ha
 obtain ⟨hk2,e2⟩:=List.getElem?_eq_some_iff.1 hb
 rw [h.1,List.drop_eq_getElem_cons hk,List.drop_eq_getElem_cons hk1,List.drop_eq_getElem_cons hk2,e,e1,e2,unesc_pct _ _ _ hn,if_neg h1]
 rfl
theorem UnAt.done {L : List UInt8} {k : Nat} {o : List UInt8} (h : UnAt L k o) (hk : L.length≤k) : unesc L=some o:=by
 rw [h.1,List.drop_eq_nil_of_le hk]
 simp [unesc]
theorem nums_bs (l : List Nat) : strOfNums (l.map fun x : Nat=>(x : Int))=bs (l.map UInt8.ofNat):=by
 unfold strOfNums bs
 congr 1
 simp [List.map_map,Function.comp_def]
theorem conv_nums (w : World) (l : List Nat) : (convert 72 9 (.slice (some ⟨w.heap.size,0,none⟩) l.length l.length)).run Tryz.prog (w.alloc (.cells (l.map (fun x : Nat=>Value.int .u8 x)).toArray 5))= .ok (.string (bs (l.map UInt8.ofNat))) (w.alloc (.cells (l.map (fun x : Nat=>Value.int .u8 x)).toArray 5)):=by
 have h:=run_convert_bytes_arg (P:=Tryz.prog) (w.alloc (.cells (l.map (fun x : Nat=>Value.int .u8 x)).toArray 5)) 72 5 Tryz.underlying72 Tryz.underlying5 w.heap.size 0 l.length l.length (l.map fun x : Nat=>(x : Int)) (by simp) (fun i hi=>by
  rw [Nat.zero_add,World.cell?_alloc_at _ _ _ _ rfl]
  simp [List.getElem?_eq_getElem hi,List.getD_eq_getElem?_getD]) 9 Tryz.underlying9
 rw [nums_bs] at h
 exact h
theorem conv_one (w : World) (m : Nat) : (convert 72 9 (.slice (some ⟨w.heap.size,0,none⟩) 1 1)).run Tryz.prog (w.alloc (.cells #[.int .u8 m] 5))= .ok (.string (bs [UInt8.ofNat m])) (w.alloc (.cells #[.int .u8 m] 5)):=conv_nums w [m]
set_option maxRecDepth 100000 in
set_option maxHeartbeats 4000000 in
theorem runescape_any (s : ByteArray) (w : World) (hs : s.size≤1099511627776) :
 Calls Tryz.prog 12 #[.string s] w fun r w'=>UnR s.data.toList r∧Below w.heap.size w w':=by
 have hsl : Hid (s.data.toList.length=s.size):=Lib.hid (by rw [Array.length_toList];rfl)
 have hst : Hid (∃l,(⟨#[]⟩ : ByteArray)=bs l∧UnAt s.data.toList 0 l):=Lib.hid ⟨[],rfl,UnAt.start _⟩
 go_enter Tryz.func12,Tryz.ntmps12
 go_wp2_with fail
 go_loopw [4,5] (fun ov iv wr=> ∃(k : Nat) (o : ByteArray),k≤s.size∧ov= .string o∧iv= .int .i64 k∧Hid (∃l,o=bs l∧UnAt s.data.toList k l)∧Hid (Below w.heap.size w wr)) (fun _ iv _=>s.size - (intOf iv).toNat)
 case atStart=>exact ⟨0,_,Nat.zero_le _,rfl,rfl,hst,Lib.hid (Below.refl _ _)⟩
 case round=>
  clear hst
  obtain ⟨k,o,hk,rfl,rfl,ho,hw⟩:=hrel
  obtain ⟨l,hol,hU⟩:=ho.out
  have hll:=hU.2
  have hos : o.size≤1099511627776:=by rw [hol,bs_size];omega
  replace hU:=Lib.hid hU
  clear ho
  by_cases hlt : k < s.size
  · have hlt' : (k : Int) < (s.size : Int):=by omega
    have h0k : (0 : Int)≤(k : Int):=Int.natCast_nonneg _
    have hx1:=ext_one s hlt
    have hcL:=ba_get s hlt
    obtain ⟨c,hc⟩ : ∃c,s[k]'hlt=c:=⟨_,rfl⟩
    rw [hc] at hx1 hcL
    have h256 : c.toNat < 256:=c.toNat_lt
    replace hcL:=Lib.hid hcL
    by_cases h37 : c.toNat=37
    · have f37 : ((c.toNat : Int) == 37)=true:=by rw [h37];rfl
      by_cases hsh : s.size < k + 3
      · have f3 : (s.size : Int) - (k : Int) < 3:=by omega
        have hR:=unR_none (hU.out.short hcL.out h37 (by rw [hsl.out];exact hsh))
        replace hR:=Lib.hid hR
        clear h37
        go_wp2_with fail
        go_ret2
        exact ⟨hR.out,hw.out⟩
      · obtain ⟨a,ha⟩ : ∃a,s[k + 1]'(by omega)=a:=⟨_,rfl⟩
        obtain ⟨b,hb⟩ : ∃b,s[k + 2]'(by omega)=b:=⟨_,rfl⟩
        have haL:=ba_get s (k:=k + 1) (by omega)
        have hbL:=ba_get s (k:=k + 2) (by omega)
        rw [ha] at haL
        rw [hb] at hbL
        have f3 : ¬(s.size : Int) - (k : Int) < 3:=by omega
        have k1 : (k : Int) + 1 < (s.size : Int):=by omega
        have k2 : (k : Int) + 2 < (s.size : Int):=by omega
        have a256 : a.toNat < 256:=a.toNat_lt
        have b256 : b.toNat < 256:=b.toNat_lt
        have cA:=Lib.hid (value_any a wr)
        have cB:=Lib.hid (value_any b wr)
        have hp16:=hexV_le a
        have hq16:=hexV_le b
        have hbad:=Lib.hid (fun h=>unR_none (hU.out.bad hcL.out haL hbL h37 h))
        have hgood:=Lib.hid (hU.out.pct hcL.out haL hbL h37)
        generalize hexV a=p at *
        generalize hexV b=q at *
        clear haL hbL h37
        by_cases hp : p < 16
        · have fp : ¬(15 : Int) < (p : Int):=by omega
          by_cases hq : q < 16
          · have fq : ¬(15 : Int) < (q : Int):=by omega
            have hU3:=hgood.out hp hq
            have hB9:=Lib.hid (hw.out.trans ((below_new2 wr (.cells #[.int .u8 ((16 * p + q : Nat) : Int)] 5)).mono hw.out.size))
            obtain ⟨m,hm,hm256⟩ : ∃m : Nat,16 * p + q=m∧m < 256:=⟨_,rfl,by omega⟩
            have e1 : (16 : Int) * (p : Int) + (q : Int)=(m : Int):=by omega
            rw [hm] at hB9 hU3
            have hmz : (0 : Int)≤(m : Int):=Int.natCast_nonneg _
            have hm255 : (m : Int)≤255:=by omega
            have kc:=conv_one wr m
            have hnx:=Lib.hid (show ∃l,o ++ bs [UInt8.ofNat m]=bs l∧UnAt s.data.toList (k + 3) l from ⟨_,by rw [hol,bs_app],hU3⟩)
            have hcz : ¬9223372036854775807 < o.size + (bs [UInt8.ofNat m]).size:=by rw [bs_size,List.length_singleton];omega
            have k3 : (k : Int) + 3≤(s.size : Int):=by omega
            have hwk:=hw
            clear hw
            clear hbad hgood hol hU3
            go_wp2_with (first
             | (go_at_call 35;(with_reducible refine cA.out.mono ?_);rintro r w1 ⟨rfl,rfl⟩)
             | (go_at_call 35;(with_reducible refine cB.out.mono ?_);rintro r w1 ⟨rfl,rfl⟩))
            go_roundw
            case rel=>exact ⟨k + 3,_,by omega,rfl,by go_num,hnx,hB9⟩
            case measure=>have:=hsh;simp only [intOf];omega
          · have fq : (15 : Int) < (q : Int):=by omega
            have hR:=Lib.hid (hbad.out fun h=>hq h.2)
            clear hbad hgood hp hq
            go_wp2_with (first
             | (go_at_call 35;(with_reducible refine cA.out.mono ?_);rintro r w1 ⟨rfl,rfl⟩)
             | (go_at_call 35;(with_reducible refine cB.out.mono ?_);rintro r w1 ⟨rfl,rfl⟩))
            go_ret2
            exact ⟨hR.out,hw.out⟩
        · have fp : (15 : Int) < (p : Int):=by omega
          have hR:=Lib.hid (hbad.out fun h=>hp h.1)
          clear hbad hgood hp
          go_wp2_with (first
           | (go_at_call 35;(with_reducible refine cA.out.mono ?_);rintro r w1 ⟨rfl,rfl⟩)
           | (go_at_call 35;(with_reducible refine cB.out.mono ?_);rintro r w1 ⟨rfl,rfl⟩))
          go_ret2
          exact ⟨hR.out,hw.out⟩
    · have f37 : ((c.toNat : Int) == 37)=false:=by rw [beq_eq_false_iff_ne];omega
      have hnx:=Lib.hid (show ∃l,o ++ bs [c]=bs l∧UnAt s.data.toList (k + 1) l from ⟨l ++ [c],by rw [hol,bs_app],hU.out.plain hcL.out h37⟩)
      have hcz : ¬9223372036854775807 < o.size + (bs [c]).size:=by rw [bs_size,List.length_singleton];omega
      clear h37 hol
      go_wp2_with fail
      go_roundw
      case rel=>exact ⟨k + 1,_,by omega,rfl,by go_num,hnx,hw⟩
      case measure=>simp [intOf];omega
  · have hd:=hU.out.done (by rw [hsl.out];omega)
    have hes : (bs l).data.toList=l:=rfl
    subst hol
    have cE:=Lib.hid (rescape_any (bs l) wr (by rw [bs_size];omega))
    rw [hes] at cE
    by_cases he : escL l=s.data.toList
    · have hR:=Lib.hid (unR_some hd he)
      have hq : ((bs (escL l)).toList == s.toList)=true:=by rw [he,bs_back];simp
      clear hd he
      go_wp2_with (go_at_call 13;(with_reducible refine cE.out.mono ?_);rintro r w1 ⟨rfl,rfl⟩)
      go_ret2
      exact ⟨hR.out,hw.out⟩
    · have hR:=Lib.hid (unR_ne hd he)
      have hq : ((bs (escL l)).toList == s.toList)=false:=by
       rw [beq_eq_false_iff_ne]
       intro e
       apply he
       have e2 : bs (escL l)=s:=by
        apply ByteArray.ext
        rw [ByteArray.toList_eq,ByteArray.toList_eq] at e
        exact Array.toList_inj.1 e
       rw [← e2]
       rfl
      clear hd he
      go_wp2_with (go_at_call 13;(with_reducible refine cE.out.mono ?_);rintro r w1 ⟨rfl,rfl⟩)
      go_ret2
      exact ⟨hR.out,hw.out⟩
end
section
open Go Go.RowKit Go.Shelf
theorem digZ_lt {c : UInt8} {p : Nat} (h : hexV c=p) (hp : p < 16) : digZ c=p:=by
 unfold digZ
 rw [h,if_neg (by omega)]
theorem digZ_bad {c : UInt8} (h : ¬hexV c < 16) : digZ c= -1:=by
 unfold digZ
 rw [if_pos (by have:=hexV_le c;omega)]
theorem hex_or {p q m : Nat} (hp : p < 16) (hq : q < 16) (hm : 16 * p + q=m) : IntKind.i64.wrap ((p : Int) * 16)=(p : Int) * 16∧bits BinOp.or IntKind.i64 ((p : Int) * 16) (q : Int)=(m : Int)∧IntKind.u8.wrap (m : Int)=(m : Int):=by
 have : ∀i j : Fin 16,IntKind.i64.wrap ((i.1 : Int) * 16)=(i.1 : Int) * 16∧bits BinOp.or IntKind.i64 ((i.1 : Int) * 16) (j.1 : Int)=((16 * i.1 + j.1 : Nat) : Int)∧IntKind.u8.wrap ((16 * i.1 + j.1 : Nat) : Int)=((16 * i.1 + j.1 : Nat) : Int):=by decide +kernel
 rw [← hm]
 exact this ⟨p,hp⟩ ⟨q,hq⟩
set_option maxRecDepth 100000 in
set_option maxHeartbeats 4000000 in
theorem unescape_any (s : ByteArray) (w : World) (hs : s.size≤1099511627776) :
 Calls Tryz.prog 11 #[.string s] w fun r w'=>UnR s.data.toList r∧Below w.heap.size w w':=by
 have hsl : Hid (s.data.toList.length=s.size):=Lib.hid (by rw [Array.length_toList];rfl)
 have hst : Hid (UnAt s.data.toList 0 []):=Lib.hid (UnAt.start _)
 have hb0 : Hid (BF w.heap.size w.heap.size [] (w.alloc (.cells #[.pointer none,.slice none 0 0] 74))):=Lib.hid (bf_zero w)
 have hB0:=Lib.hid (below_new2 w (.cells #[.pointer none,.slice none 0 0] 74))
 go_enter Tryz.func11,Tryz.ntmps11
 go_wp2_with fail
 go_loopw [5] (fun iv wr=> ∃(k : Nat) (l : List UInt8),k≤s.size∧iv= .int .i64 k∧Hid (UnAt s.data.toList k l)∧Hid (BF w.heap.size w.heap.size l wr)∧Hid (Below w.heap.size w wr)) (fun iv _=>s.size - (intOf iv).toNat)
 case atStart=>exact ⟨0,[],Nat.zero_le _,rfl,hst,hb0,hB0⟩
 case round=>
  clear hst hb0 hB0
  obtain ⟨k,l,hk,rfl,hU,hF,hw⟩:=hrel
  have hll:=hU.out.2
  by_cases hlt : k < s.size
  · have hlt' : (k : Int) < (s.size : Int):=by omega
    have h0k : (0 : Int)≤(k : Int):=Int.natCast_nonneg _
    have hcL:=ba_get s hlt
    obtain ⟨c,hc⟩ : ∃c,s[k]'hlt=c:=⟨_,rfl⟩
    rw [hc] at hcL
    have h256 : c.toNat < 256:=c.toNat_lt
    replace hcL:=Lib.hid hcL
    by_cases h37 : c.toNat=37
    · have f37 : ((c.toNat : Int) == 37)=true:=by rw [h37];rfl
      by_cases hsh : s.size < k + 3
      · have f3 : (s.size : Int)≤(k : Int) + 2:=by omega
        have hR:=unR_none (hU.out.short hcL.out h37 (by rw [hsl.out];exact hsh))
        replace hR:=Lib.hid hR
        clear h37
        go_wp2_with fail
        go_ret2
        exact ⟨hR.out,hw.out⟩
      · obtain ⟨a,ha⟩ : ∃a,s[k + 1]'(by omega)=a:=⟨_,rfl⟩
        obtain ⟨b,hb⟩ : ∃b,s[k + 2]'(by omega)=b:=⟨_,rfl⟩
        have haL:=ba_get s (k:=k + 1) (by omega)
        have hbL:=ba_get s (k:=k + 2) (by omega)
        rw [ha] at haL
        rw [hb] at hbL
        have f3 : ¬(s.size : Int)≤(k : Int) + 2:=by omega
        have k1 : (k : Int) + 1 < (s.size : Int):=by omega
        have k2 : (k : Int) + 2 < (s.size : Int):=by omega
        have a256 : a.toNat < 256:=a.toNat_lt
        have b256 : b.toNat < 256:=b.toNat_lt
        have cA:=Lib.hid (fun W=>digit_any a W)
        have cB:=Lib.hid (fun W=>digit_any b W)
        have hbad:=Lib.hid (fun h=>unR_none (hU.out.bad hcL.out haL hbL h37 h))
        have hgood:=Lib.hid (hU.out.pct hcL.out haL hbL h37)
        clear haL hbL h37
        by_cases hp : hexV a < 16
        · obtain ⟨p,hpa⟩ : ∃p,hexV a=p:=⟨_,rfl⟩
          rw [digZ_lt hpa (by omega)] at cA
          rw [hpa] at hp hgood
          have fp : ¬(p : Int) < 0:=by omega
          by_cases hq : hexV b < 16
          · obtain ⟨q,hqb⟩ : ∃q,hexV b=q:=⟨_,rfl⟩
            rw [digZ_lt hqb (by omega)] at cB
            rw [hqb] at hq hgood
            have fq : ¬(q : Int) < 0:=by omega
            have hU3:=Lib.hid (hgood.out hp hq)
            clear hbad hgood
            have cA1:=cA.out wr
            have cB1:=cB.out wr
            replace cA1:=Lib.hid cA1
            replace cB1:=Lib.hid cB1
            obtain ⟨m,hm,hm256⟩ : ∃m : Nat,16 * p + q=m∧m < 256:=⟨_,rfl,by omega⟩
            rw [hm] at hU3
            go_upto_region 9 with (first
             | (go_at_call 34;(with_reducible refine cA1.out.mono ?_);rintro r w1 ⟨rfl,rfl⟩)
             | (go_at_call 34;(with_reducible refine cB1.out.mono ?_);rintro r w1 ⟨rfl,rfl⟩))
            have hdr : Below w1.heap.size w1 w1.drew:=drewN_below 1
            have hB9:=hw.out.trans (hdr.mono hw.out.size)
            have hF9:=hF.out.below hdr
            obtain ⟨w9,hw9⟩ : ∃w9,w1.drew=w9:=⟨_,rfl⟩
            rw [hw9] at hB9 hF9
            have cW:=cByte (c:=UInt8.ofNat m) hF9 (by omega) hB9.size
            rw [show (UInt8.ofNat m).toNat=m by simp;omega] at cW
            replace cW:=Lib.hid cW
            replace hB9:=Lib.hid hB9
            clear hF9 hF hw hdr cA1 cB1
            have e1 : IntKind.i64.wrap ((k : Int) + 1)=(k : Int) + 1:=IntWalk.i64_in _ (by omega)
            have e2 : IntKind.i64.wrap ((k : Int) + 2)=(k : Int) + 2:=IntWalk.i64_in _ (by omega)
            have z1 : 0≤(k : Int) + 1:=by omega
            have z2 : 0≤(k : Int) + 2:=by omega
            have ia : ∀h,s[((k : Int) + 1).toNat]'h=a:=fun h=>by
             have : ((k : Int) + 1).toNat=k + 1:=by omega
             simp only [this,ha]
            have ib : ∀h,s[((k : Int) + 2).toNat]'h=b:=fun h=>by
             have : ((k : Int) + 2).toNat=k + 2:=by omega
             simp only [this,hb]
            obtain ⟨eS,eO,eC⟩:=hex_or hp hq hm
            go_still_tail 13,(by kernel_rfl)
            still_call (cA.out _)
            repeat still_step
            still_call (cB.out _)
            repeat still_step
            refine wpStill_nil ?_
            change wpList _ _ _ _ _ w1.drew
            rw [hw9]
            clear hw9 eS eO eC ia ib e1 e2
            go_wp2_with (go_at_call 31;(with_reducible refine cW.out.mono ?_);rintro r w2 ⟨rfl,hF2,hB2,_⟩
                         replace hF2:=Lib.hid hF2
                         have hB3:=Lib.hid (hB9.out.trans hB2)
                         clear hB2 hB9)
            go_roundw
            case rel=>exact ⟨k + 3,_,by omega,by go_num,hU3,hF2,hB3⟩
            case measure=>have:=hsh;simp only [intOf];omega
          · rw [digZ_bad hq] at cB
            have hR:=Lib.hid (hbad.out fun h=>hq h.2)
            have cA1:=cA.out wr
            have cB1:=cB.out wr
            replace cA1:=Lib.hid cA1
            replace cB1:=Lib.hid cB1
            clear hbad hgood hq
            go_wp2_with (first
             | (go_at_call 34;(with_reducible refine cA1.out.mono ?_);rintro r w1 ⟨rfl,rfl⟩)
             | (go_at_call 34;(with_reducible refine cB1.out.mono ?_);rintro r w1 ⟨rfl,rfl⟩))
            go_ret2
            exact ⟨hR.out,hw.out⟩
        · rw [digZ_bad hp] at cA
          have hR:=Lib.hid (hbad.out fun h=>hp h.1)
          have cA1:=cA.out wr
          replace cA1:=Lib.hid cA1
          clear hbad hgood hp
          go_wp2_with (go_at_call 34;(with_reducible refine cA1.out.mono ?_);rintro r w1 ⟨rfl,rfl⟩)
          go_ret2
          exact ⟨hR.out,hw.out⟩
    · have f37 : ((c.toNat : Int) == 37)=false:=by rw [beq_eq_false_iff_ne];omega
      have hU1:=Lib.hid (hU.out.plain hcL.out h37)
      have cW:=Lib.hid (cByte (c:=c) hF.out (by omega) hw.out.size)
      clear h37
      go_wp2_with (go_at_call 31;(with_reducible refine cW.out.mono ?_);rintro r w2 ⟨rfl,hF2,hB2,_⟩
                   replace hF2:=Lib.hid hF2
                   have hB3:=Lib.hid (hw.out.trans hB2)
                   clear hB2 hw hF)
      go_roundw
      case rel=>exact ⟨k + 1,_,by omega,by go_num,hU1,hF2,hB3⟩
      case measure=>simp [intOf];omega
  · have hd:=hU.out.done (by rw [hsl.out];omega)
    have hes : (bs l).data.toList=l:=rfl
    have cS:=Lib.hid (cString hF.out hw.out.size)
    have cE:=Lib.hid (fun W=>escape_any (bs l) W (by rw [bs_size];omega))
    rw [hes] at cE
    clear hF
    by_cases he : escL l=s.data.toList
    · have hR:=Lib.hid (unR_some hd he)
      have hq : ((bs (escL l)).toList == s.toList)=true:=by rw [he,bs_back];simp
      clear hd he
      go_wp2_with (first
       | (go_at_call 33;(with_reducible refine cS.out.mono ?_);rintro r w2 ⟨rfl,hF2,hB2,_⟩
          have hB3:=Lib.hid (hw.out.trans hB2)
          clear hB2 hw cS
          replace hF2:=Lib.hid hF2)
       | (go_at_call 10;(with_reducible refine (cE.out w2).mono ?_);rintro r w3 ⟨rfl,hB4⟩
          have hB5:=Lib.hid (hB3.out.trans (hB4.mono hB3.out.size))
          have cT:=Lib.hid (cString (hF2.out.below hB4) hB5.out.size)
          clear hB4 hB3 hF2)
       | (go_at_call 33;(with_reducible refine cT.out.mono ?_);rintro r w4 ⟨rfl,hF6,hB6,_⟩
          have hB7:=Lib.hid (hB5.out.trans hB6)
          clear hB5 hB6 hF6))
      go_ret2
      exact ⟨hR.out,hB7.out⟩
    · have hR:=Lib.hid (unR_ne hd he)
      have hq : ((bs (escL l)).toList == s.toList)=false:=by
       rw [beq_eq_false_iff_ne]
       intro e
       apply he
       have e2 : bs (escL l)=s:=by
        apply ByteArray.ext
        rw [ByteArray.toList_eq,ByteArray.toList_eq] at e
        exact Array.toList_inj.1 e
       rw [← e2]
       rfl
      clear hd he
      go_wp2_with (first
       | (go_at_call 33;(with_reducible refine cS.out.mono ?_);rintro r w2 ⟨rfl,hF2,hB2,_⟩
          have hB3:=Lib.hid (hw.out.trans hB2)
          clear hB2 hw cS)
       | (go_at_call 10;(with_reducible refine (cE.out w2).mono ?_);rintro r w3 ⟨rfl,hB4⟩
          have hB5:=Lib.hid (hB3.out.trans (hB4.mono hB3.out.size))
          clear hB4 hB3))
      go_ret2
      exact ⟨hR.out,hB5.out⟩
end
section
open Go Go.RowKit Go.Shelf
open Go.Lib (itoa)
structure EnvS (W : World) : Prop where
 size : 11≤W.heap.size
 kinds : ∀(i : Nat) s,kindW[i]? =some s→W.cell? ⟨0,i,none⟩=some (.string (bs s))
 ops : ∀(i : Nat) s,opW[i]? =some s→W.cell? ⟨1,i,none⟩=some (.string (bs s))
 len : ∃m,W.cell? ⟨3,0,none⟩=some (.int .i64 m)
 pow : Lib.TabIs Tryz.prog W "internal/strconv.uint64pow10" .u64 Lib.pow10Tab
 syn : ∃ev,W.cell? ⟨7,0,none⟩=some ev∧(ev= .nilIface∨∃te pe,ev= .iface te pe)
 rng : ∃ev,W.cell? ⟨8,0,none⟩=some ev∧(ev= .nilIface∨∃te pe,ev= .iface te pe)
theorem EnvS.keep {n : Nat} {W W' : World} (h : EnvS W) (hb : Below n W W') (hn : 11≤n) : EnvS W' where
 size:=Nat.le_trans h.size hb.size
 kinds i s e:=(hb.cell (p:=⟨0,i,none⟩) (Nat.lt_of_lt_of_le (show 0 < 11 by decide) hn)).trans (h.kinds i s e)
 ops i s e:=(hb.cell (p:=⟨1,i,none⟩) (Nat.lt_of_lt_of_le (show 1 < 11 by decide) hn)).trans (h.ops i s e)
 len:=by
  obtain ⟨m,hm⟩:=h.len
  exact ⟨m,(hb.cell (p:=⟨3,0,none⟩) (Nat.lt_of_lt_of_le (show 3 < 11 by decide) hn)).trans hm⟩
 pow:=by
  have hp:=h.pow
  unfold Lib.TabIs World.var? at hp ⊢
  rw [show Tryz.prog.globalNamed "internal/strconv.uint64pow10" =some 4 by kernel_rfl] at hp ⊢
  simp only [Option.bind_some] at hp ⊢
  rw [hb.block 4 (Nat.lt_of_lt_of_le (show 4 < 11 by decide) hn)]
  exact hp
 syn:=by
  obtain ⟨m,hm,h2⟩:=h.syn
  exact ⟨m,(hb.cell (p:=⟨7,0,none⟩) (Nat.lt_of_lt_of_le (show 7 < 11 by decide) hn)).trans hm,h2⟩
 rng:=by
  obtain ⟨m,hm,h2⟩:=h.rng
  exact ⟨m,(hb.cell (p:=⟨8,0,none⟩) (Nat.lt_of_lt_of_le (show 8 < 11 by decide) hn)).trans hm,h2⟩
theorem itoa_any (n : Int) (h : I64 n) (w : World) (E : EnvS w) : Calls Tryz.prog 52 #[.int .i64 n] w fun r w'=>r= .returned (.string (bs (itoa n)))∧Below w.heap.size w w':=
 (Tryz.strconv_Itoa n h.1 h.2 w E.pow).mono fun r w' ⟨h1,k,os,h2⟩=>⟨h1,by rw [h2];exact ⟨rfl,rfl,rfl,by simp [«Sort».grow,World.drewN],fun k hk=>by simp [«Sort».grow,World.drewN,Array.getElem?_append,hk]⟩⟩
theorem splitB_L (c : UInt8) (s : ByteArray) : Lib.splitB (bs [c]) 0 (Lib.countB s (bs [c])) s=(splitL c s.data.toList).map bs:=by
 have h:=Lib.splitB_data (bs [c]) 0 (Lib.countB s (bs [c])) s
 have hc : Lib.countB s (bs [c])=Lib.count s.data.toList [c]:=rfl
 rw [hc] at h ⊢
 have h2:=h.trans (lib_split c s.data.toList)
 rw [← h2,List.map_map]
 conv=>lhs;rw [← List.map_id (Lib.splitB (bs [c]) 0 (Lib.count s.data.toList [c]) s)]
 refine List.map_congr_left fun x _=> ?_
 exact (bs_back x).symm
theorem splitB_len (c : UInt8) (s : ByteArray) : (splitL c s.data.toList).length=Lib.countB s (bs [c]) + 1:=by
 have h:=Lib.splitB_all (bs [c]) (Nat.le_refl 1) 0 _ s rfl
 rw [splitB_L,List.length_map] at h
 exact h
theorem flat_strs (l : List ByteArray) : (l.map Value.string).toArray=(l.flatMap sv).toArray:=by
 congr 1
 induction l with
 | nil=>rfl
 | cons x r ih=>rw [List.map_cons,List.flatMap_cons,ih];rfl
theorem split_any (c : UInt8) (s : ByteArray) (w : World) (E : EnvS w) (hs : s.size < 4294967281) :
 Calls Tryz.prog 45 #[.string s,.string ⟨#[c]⟩] w fun r w'=> ∃W,r= .returned (.slice (some ⟨w.heap.size,0,none⟩) (splitL c s.data.toList).length (splitL c s.data.toList).length)∧w' =W∧Strs W (some ⟨w.heap.size,0,none⟩) (splitL c s.data.toList).length ((splitL c s.data.toList).map bs)∧Below w.heap.size w W:=by
 obtain ⟨m,hm⟩:=E.len
 have cS:=Tryz.strings_Split s (bs [c]) m w hs hm (Nat.le_refl 1)
 rw [splitB_L,← splitB_len,flat_strs] at cS
 refine cS.mono fun r w' h=>⟨_,h.1,h.2,?_,(Below.refl _ _).alloc (Nat.le_refl _) _⟩
 have hg1:=heap_new w (.cells (((splitL c s.data.toList).map bs).flatMap sv).toArray 9)
 have:=Strs.block (ss:=(splitL c s.data.toList).map bs) hg1 (Array.getElem?_eq_some_iff.1 hg1).1
 rwa [List.length_map] at this
theorem cut_any (c : UInt8) (s : ByteArray) (w : World) (E : EnvS w) (hs : s.size < 4294967281) :
 Calls Tryz.prog 46 #[.string s,.string ⟨#[c]⟩] w fun r w'=>r= .returned (.tuple #[.string (bs (cutL c s.data.toList).1),.string (bs (cutL c s.data.toList).2.1),.bool (cutL c s.data.toList).2.2])∧Below w.heap.size w w':=by
 obtain ⟨m,hm⟩:=E.len
 refine (Tryz.strings_Cut s (bs [c]) m w hs hm).mono fun r w' ⟨h1,n,h2⟩=>⟨?_,by rw [h2];exact drewN_below n⟩
 rw [bs_list,lib_cut] at h1
 exact h1
theorem join_any (c : UInt8) (ps : List (List UInt8)) (A : Option Addr) (n cc : Nat) (w : World) (H : Strs w A n (ps.map bs)) (hcc : n≤cc) (hl : (joinL c ps).length≤140737488355328) (hn : n≤140737488355328) :
 Calls Tryz.prog 119 #[.slice A n cc,.string ⟨#[c]⟩] w fun r w'=>r= .returned (.string (bs (joinL c ps)))∧Below w.heap.size w w':=by
 have hpl : ps.length=n:=by have:=H.len;simpa using this
 rcases Nat.eq_zero_or_pos n with h0 | h0
 · obtain rfl : ps=[]:=List.length_eq_zero_iff.1 (by omega)
   subst h0
   exact (Tryz.strings_Join_none A cc (bs [c]) w).mono fun r w' ⟨h1,h2⟩=>⟨h1,by rw [h2];exact Below.refl _ _⟩
 · obtain ⟨b,off,_,rfl,hlt,_,_⟩:=H.at_ h0
   have cJ:=Tryz.strings_Join b off cc (ps.map bs) (bs [c]) w (fun j x hx=> ?_) hlt (by rw [List.length_map];omega) (by rw [List.length_map];omega) ?_
   · rw [List.length_map,hpl,List.map_map] at cJ
     have e : (fun x=>x.data.toList) ∘ bs=id:=rfl
     rw [show (fun (x : ByteArray)=>x.data.toList) ∘ bs=id from rfl,List.map_id,bs_list,lib_join] at cJ
     exact cJ
   · have hj : j < n:=by have:=(List.getElem?_eq_some_iff.1 hx).1;rw [List.length_map] at this;omega
     obtain ⟨b',off',s,e,_,hs,hc⟩:=H.at_ hj
     injection e with e
     injection e with e1 e2
     rw [hx] at hs
     injection hs with hs
     subst e1 e2 hs
     exact hc
   · rw [List.map_map,show (fun (x : ByteArray)=>x.data.toList) ∘ bs=id from rfl,List.map_id,bs_list,lib_join]
     exact hl
theorem atoi_I64 {l : List UInt8} {n : Int} (h : Lib.atoiAll l= .ok n) : I64 n:=by
 unfold Lib.atoiAll at h
 split at h
 · cases h
 · dsimp only at h
   split at h
   · cases h
   · cases h
   · split at h
     · cases h
     · split at h
       · cases h
       · injection h with h
         subst h
         unfold I64
         split <;> omega
def NbR (L : List UInt8) (r : Ending) : Prop:=r= .returned (.tuple #[.int .i64 ((numL L).getD 0),.bool (numL L).isSome])
theorem bsq_eq {l : List UInt8} {s : ByteArray} : ((bs l).toList == s.toList)=decide (l=s.data.toList):=by
 by_cases h : l=s.data.toList
 · rw [decide_eq_true h,h,bs_back];simp
 · rw [decide_eq_false h,beq_eq_false_iff_ne]
   intro e
   apply h
   rw [ByteArray.toList_eq,ByteArray.toList_eq] at e
   exact e
set_option maxRecDepth 100000 in
set_option maxHeartbeats 2000000 in
theorem number_any (s : ByteArray) (w : World) (E : EnvS w) (hs : s.size≤281474976710656) :
 Calls Tryz.prog 91 #[.string s] w fun r w'=>NbR s.data.toList r∧Below w.heap.size w w':=by
 cases ha : Lib.atoiAll s.data.toList with
 | ok n=>
   have hI:=atoi_I64 ha
   have cA:=Lib.hid (Tryz.strconv_Atoi_ok s (by omega) n ha w)
   have hB1:=Lib.hid (show ∀w',(w' =w∨∃t,w' =Lib.bytesWorld w 5 t)→Below w.heap.size w w' from fun w' h=>by
    rcases h with rfl | ⟨t,rfl⟩
    · exact Below.refl _ _
    · exact Lib.bytesWorld_below _ _ _)
   have cI:=Lib.hid (fun W (h : Below w.heap.size w W)=>itoa_any n hI W (E.keep h E.size))
   by_cases he : itoa n=s.data.toList
   · have hR:=Lib.hid (show NbR s.data.toList (.returned (.tuple #[.int .i64 n,.bool true])) by unfold NbR numL;rw [ha];dsimp only;rw [if_pos he];rfl)
     have hq : ((bs (itoa n)).toList == s.toList)=true:=by rw [bsq_eq,decide_eq_true he]
     clear he ha hI
     go_enter Tryz.func91,Tryz.ntmps91
     go_wp2_with (first
      | (go_at_call 128;(with_reducible refine cA.out.mono ?_);rintro r w1 ⟨rfl,hw1⟩;have hb1:=Lib.hid (hB1.out w1 hw1);clear hw1)
      | (go_at_call 52;(with_reducible refine (cI.out _ hb1.out).mono ?_);rintro r w2 ⟨rfl,hb2⟩;have hb3:=Lib.hid (hb1.out.trans (hb2.mono hb1.out.size));clear hb2))
     go_ret2
     exact ⟨hR.out,hb3.out⟩
   · have hR:=Lib.hid (show NbR s.data.toList (.returned (.tuple #[.int .i64 0,.bool false])) by unfold NbR numL;rw [ha];dsimp only;rw [if_neg he];rfl)
     have hq : ((bs (itoa n)).toList == s.toList)=false:=by rw [bsq_eq,decide_eq_false he]
     clear he ha hI
     go_enter Tryz.func91,Tryz.ntmps91
     go_wp2_with (first
      | (go_at_call 128;(with_reducible refine cA.out.mono ?_);rintro r w1 ⟨rfl,hw1⟩;have hb1:=Lib.hid (hB1.out w1 hw1);clear hw1)
      | (go_at_call 52;(with_reducible refine (cI.out _ hb1.out).mono ?_);rintro r w2 ⟨rfl,hb2⟩;have hb3:=Lib.hid (hb1.out.trans (hb2.mono hb1.out.size));clear hb2))
     go_ret2
     exact ⟨hR.out,hb3.out⟩
 | «syntax» =>
   obtain ⟨ev,h1,h2⟩:=E.syn
   have cA:=Lib.hid (Tryz.strconv_Atoi_syntax s hs ha ev w h1 h2)
   have hR:=Lib.hid (show NbR s.data.toList (.returned (.tuple #[.int .i64 0,.bool false])) by unfold NbR numL;rw [ha];rfl)
   clear h2 ha
   go_enter Tryz.func91,Tryz.ntmps91
   go_wp2_with (go_at_call 128;(with_reducible refine cA.out.mono ?_);rintro r w1 ⟨N,rfl,_,_,hb1⟩;replace hb1:=Lib.hid hb1)
   go_ret2
   exact ⟨hR.out,hb1.out⟩
 | range=>
   obtain ⟨ev,h1,h2⟩:=E.rng
   have cA:=Lib.hid (Tryz.strconv_Atoi_range s hs ha ev w h1 h2)
   have hR:=Lib.hid (show NbR s.data.toList (.returned (.tuple #[.int .i64 0,.bool false])) by unfold NbR numL;rw [ha];rfl)
   clear h2 ha
   go_enter Tryz.func91,Tryz.ntmps91
   go_wp2_with (go_at_call 128;(with_reducible refine cA.out.mono ?_);rintro r w1 ⟨N,rfl,_,_,hb1⟩;replace hb1:=Lib.hid hb1)
   go_ret2
   exact ⟨hR.out,hb1.out⟩
end
section
open Go.ChangeShapes Go.WideShapes Go.RowKit
theorem str_tab {H : Type} {enc : TypeId × Value→H} {P : Program} {w : World} {base : Nat} {spare : Nat→Bool} {held : Bool} {fuel : Nat} {t e : TypeId} {n : Nat} {cs : List Value} {L : List ByteArray} {d : DataW H} {ps : List MemPlace}
 (ht : P.underlying t=some (.array n e)) (he : P.underlying e=some .string) (hc : P.cellsOf e=1) (h : DataW.trod enc P w base spare held fuel t cs=some (d,ps)) (hd : d= .agg (L.map fun s=> .lit (.string s.data.toList))) :
 ∀(i : Nat) x,L[i]? =some x→cs[i]? =some (.string x):=by
 subst hd
 obtain ⟨xs,m,_,ex,_,hl,hel⟩:=DataW.trod_array ht h
 injection ex with ex _
 injection ex with ex
 have hlen : L.length=n:=by have:=congrArg List.length ex;simpa [hl] using this
 intro i x hx
 have hi : i < n:=by rw [← hlen];exact (List.getElem?_eq_some_iff.1 hx).1
 have h1:=hel i hi
 rw [hc,Nat.mul_one] at h1
 obtain ⟨y,hy⟩ : ∃y,xs[i]? =some y:=⟨_,List.getElem?_eq_getElem (by rw [hl];exact hi)⟩
 rw [hy] at h1
 obtain ⟨s,hs,rfl,_⟩:=DataW.trod_string he h1
 have h2:=congrArg (·[i]?) ex
 simp only [List.getElem?_map,hx,hy,Option.map_some,Option.some.injEq] at h2
 injection h2 with h2
 injection h2 with h2
 have hsx : x=s:=by
  cases x;cases s
  simp only [ByteArray.mk.injEq]
  exact Array.toList_inj.1 h2
 subst hsx
 have h3:=congrArg (·[0]?) hs
 simpa [List.getElem?_take,List.getElem?_drop] using h3
theorem iface_cell {H : Type} {enc : TypeId × Value→H} {P : Program} {w : World} {base : Nat} {spare : Nat→Bool} {held : Bool} {fuel : Nat} {t : TypeId} {ms : Array (String × TypeId)} {cs : List Value} {d : DataW H} {ps : List MemPlace}
 (ht : P.underlying t=some (.interface ms)) (h : DataW.trod enc P w base spare held fuel t cs=some (d,ps)) : ∃ev,cs[0]? =some ev∧(ev= .nilIface∨∃te pe,ev= .iface te pe):=by
 cases fuel with
 | zero=>simp [DataW.trod] at h
 | succ f=>
   unfold DataW.trod at h
   rw [ht] at h
   split at h
   all_goals first
    | (rename_i e;cases e;done)
    | exact ⟨_,rfl,.inl rfl⟩
    | exact ⟨_,rfl,.inr ⟨_,_,rfl⟩⟩
    | simp_all
theorem str_one : Tryz.prog.cellsOf 9=1:=by kernel_rfl
theorem gl_kinds : Tryz.prog.globalNamed "shibboleth/script.kinds" =some 0:=by kernel_rfl
theorem gl_ops : Tryz.prog.globalNamed "shibboleth/script.ops" =some 1:=by kernel_rfl
theorem gl_pow : Tryz.prog.globalNamed "internal/strconv.uint64pow10" =some 4:=by kernel_rfl
theorem gl_rng : Tryz.prog.globalNamed "strconv.ErrRange" =some 8:=by kernel_rfl
theorem gl_syn : Tryz.prog.globalNamed "strconv.ErrSyntax" =some 7:=by kernel_rfl
theorem ty_kinds : (Tryz.prog.globals[0]?).map (·.type)=some 82:=by kernel_rfl
theorem ty_ops : (Tryz.prog.globals[1]?).map (·.type)=some 172:=by kernel_rfl
theorem ty_pow : (Tryz.prog.globals[4]?).map (·.type)=some 215:=by kernel_rfl
theorem ty_rng : (Tryz.prog.globals[8]?).map (·.type)=some 48:=by kernel_rfl
theorem ty_syn : (Tryz.prog.globals[7]?).map (·.type)=some 48:=by kernel_rfl
def Laid1 (W : World) (n : String) (d : DataW Unit) : Prop:= ∃(g : Nat) (t : TypeId) (cs : Array Value) (fuel : Nat) (p : List MemPlace),Tryz.prog.globalNamed n=some g∧(Tryz.prog.globals[g]?).map (·.type)=some t∧W.var? Tryz.prog n=some cs∧DataW.trod (fun _=>()) Tryz.prog W 0 (fun _=>true) false fuel t cs.toList=some (d,p)
theorem laid1_of {W : World} : ∀{l : List (String × DataW Unit)} {ps : List MemPlace},DataW.LaidVars Tryz.prog W l ps→∀x∈l,Laid1 W x.1 x.2
 | [],_,_,x,h=>by cases h
 | (n,d) :: r,ps,⟨g,t,cs,fuel,p,q,e1,e2,e3,e4,e5,_⟩,x,h=>by
   rcases List.mem_cons.1 h with rfl | h
   · exact ⟨g,t,cs,fuel,p,e1,e2,e3,e4⟩
   · exact laid1_of e5 x h
theorem Laid1.at {W : World} {n : String} {d : DataW Unit} {g : Nat} {t : TypeId} (h : Laid1 W n d) (hg : Tryz.prog.globalNamed n=some g) (ht : (Tryz.prog.globals[g]?).map (·.type)=some t) : ∃(cs : Array Value) (fuel : Nat) (p : List MemPlace),W.var? Tryz.prog n=some cs∧DataW.trod (fun _=>()) Tryz.prog W 0 (fun _=>true) false fuel t cs.toList=some (d,p):=by
 obtain ⟨g',t',cs,fuel,p,e1,e2,e3,e4⟩:=h
 have eg : g' =g:=(Option.some.inj (hg.symm.trans e1)).symm
 subst eg
 have et : t' =t:=(Option.some.inj (ht.symm.trans e2)).symm
 subst et
 exact ⟨cs,fuel,p,e3,e4⟩
theorem env_of_laidL {W : World} {l : List (String × DataW Unit)} (h : laidMet Tryz.prog l W) (hl : ∀x∈([("math/bits.deBruijn64tab",Rows.laid_math_bits_deBruijn64tab),("internal/strconv.uint64pow10",Rows.laid_internal_strconv_uint64pow10),("strconv.ErrRange",Rows.laid_strconv_ErrRange),("strconv.ErrSyntax",Rows.laid_strconv_ErrSyntax),("shibboleth/script.kinds",Rows.laid_shibboleth_script_kinds),("shibboleth/script.ops",Rows.laid_shibboleth_script_ops)] : List (String × DataW Unit)),x∈l) (hSh : W.ShapedOpen Tryz.prog) : EnvS W:=by
 obtain ⟨ps,hv,_⟩:=h
 have hx:=fun x hx=>laid1_of hv x (hl x hx)
 obtain ⟨cp,fp,pp,vp,tp⟩:=(hx ("internal/strconv.uint64pow10",Rows.laid_internal_strconv_uint64pow10) (by simp)).at gl_pow ty_pow
 obtain ⟨cr,fr,pr,vr,tr⟩:=(hx ("strconv.ErrRange",Rows.laid_strconv_ErrRange) (by simp)).at gl_rng ty_rng
 obtain ⟨cy,fy,py,vy,hty⟩:=(hx ("strconv.ErrSyntax",Rows.laid_strconv_ErrSyntax) (by simp)).at gl_syn ty_syn
 obtain ⟨ck,fk,pk,vk,tk⟩:=(hx ("shibboleth/script.kinds",Rows.laid_shibboleth_script_kinds) (by simp)).at gl_kinds ty_kinds
 obtain ⟨co,fo,po,vo,hto⟩:=(hx ("shibboleth/script.ops",Rows.laid_shibboleth_script_ops) (by simp)).at gl_ops ty_ops
 have k1:=str_tab (L:=kindW.map bs) Tryz.underlying82 Tryz.underlying9 str_one tk rfl
 have k2:=str_tab (L:=opW.map bs) Tryz.underlying172 Tryz.underlying9 str_one hto rfl
 have k3:=Lib.cells_of_tab (zs:=Lib.pow10Tab) (k:= .u64) Tryz.underlying215 Tryz.underlying192 (by kernel_rfl) (by kernel_rfl) tp
 obtain ⟨e1,h1,h1'⟩:=iface_cell Tryz.underlying48 tr
 obtain ⟨e2,h2,h2'⟩:=iface_cell Tryz.underlying48 hty
 have c1 : ∀(i : Nat) s,kindW[i]? =some s→W.cell? ⟨0,i,none⟩=some (.string (bs s)):=fun i s hs=>by rw [World.var?_cell gl_kinds vk i,← Array.getElem?_toList];exact k1 i _ (by rw [List.getElem?_map,hs];rfl)
 have c2 : ∀(i : Nat) s,opW[i]? =some s→W.cell? ⟨1,i,none⟩=some (.string (bs s)):=fun i s hs=>by rw [World.var?_cell gl_ops vo i,← Array.getElem?_toList];exact k2 i _ (by rw [List.getElem?_map,hs];rfl)
 have c3 : W.cell? ⟨8,0,none⟩=some e1:=by rw [World.var?_cell gl_rng vr 0,← Array.getElem?_toList];exact h1
 have c4 : W.cell? ⟨7,0,none⟩=some e2:=by rw [World.var?_cell gl_syn vy 0,← Array.getElem?_toList];exact h2
 have hp : Lib.TabIs Tryz.prog W "internal/strconv.uint64pow10" .u64 Lib.pow10Tab:=by unfold Lib.TabIs;rw [vp,← k3]
 refine ⟨?_,c1,c2,Tryz.laysM146.s1_3 W hSh,hp,⟨e2,c4,h2'⟩,⟨e1,c3,h1'⟩⟩
 obtain ⟨g,tt,cb,fb,pb,e1,_,vb,_⟩:=hx ("math/bits.deBruijn64tab",Rows.laid_math_bits_deBruijn64tab) (by simp)
 have eg : g=10:=(Option.some.inj ((show Tryz.prog.globalNamed "math/bits.deBruijn64tab" =some 10 by kernel_rfl).symm.trans e1)).symm
 unfold World.var? at vb
 rw [e1] at vb
 simp only [Option.bind_some] at vb
 rw [eg] at vb
 rcases Nat.lt_or_ge 10 W.heap.size with h | h
 · exact h
 · rw [Array.getElem?_eq_none h] at vb;cases vb
end
section
open Go.ChangeShapes Go.WideShapes Go.RowKit
def laidM : List (String × DataW Unit):=[("math/bits.deBruijn32tab",Rows.laid_math_bits_deBruijn32tab),("math/bits.deBruijn64tab",Rows.laid_math_bits_deBruijn64tab),("internal/strconv.uint64pow10",Rows.laid_internal_strconv_uint64pow10),("unicode/utf8.acceptRanges",Rows.laid_unicode_utf8_acceptRanges),("errors.errorType",Rows.laid_errors_errorType),("strconv.ErrRange",Rows.laid_strconv_ErrRange),("strconv.ErrSyntax",Rows.laid_strconv_ErrSyntax),("shibboleth/script.kinds",Rows.laid_shibboleth_script_kinds),("shibboleth/script.ops",Rows.laid_shibboleth_script_ops),("unicode/utf8.first",Rows.laid_unicode_utf8_first)]
def laidE : List (String × DataW Unit):=[("errors.errorType",Rows.laid_errors_errorType)]
def laidP : List (String × DataW Unit):=[("math/bits.deBruijn32tab",Rows.laid_math_bits_deBruijn32tab),("math/bits.deBruijn64tab",Rows.laid_math_bits_deBruijn64tab),("internal/strconv.uint64pow10",Rows.laid_internal_strconv_uint64pow10),("unicode/utf8.acceptRanges",Rows.laid_unicode_utf8_acceptRanges),("strconv.ErrRange",Rows.laid_strconv_ErrRange),("strconv.ErrSyntax",Rows.laid_strconv_ErrSyntax),("shibboleth/script.kinds",Rows.laid_shibboleth_script_kinds),("shibboleth/script.ops",Rows.laid_shibboleth_script_ops),("unicode/utf8.first",Rows.laid_unicode_utf8_first)]
theorem doorEt : Tryz.prog.globalNamed "errors.errorType" =some 2:=by kernel_rfl
theorem doorRt : (Tryz.prog.cutTypes.find? (·.1 == "internal/reflectlite.rtype")).map (·.2)=some 199:=by kernel_rfl
theorem doorSize : Tryz.prog.types.size=269:=by kernel_rfl
theorem doorRow : ((List.range 269).filter fun t=>Tryz.prog.rowNamed t [101,114,114,111,114])=[48]:=by kernel_rfl
theorem ety_of_laid {W : World} (h : laidMetH Tryz.prog laidM W) : ETy W:=by
 have h' : laidMet Tryz.prog laidP W∧handlesMet Tryz.prog laidE W:=h
 obtain ⟨name,u,ty,e1,e2,e3,e4,e5⟩:=h'.2 _ (List.mem_singleton.2 rfl)
 have en : name=[101,114,114,111,114]:=(Option.some.inj e1).symm
 subst en
 obtain rfl:=Option.some.inj (doorRt.symm.trans e2)
 have hm : ty∈(List.range 269).filter fun t=>Tryz.prog.rowNamed t [101,114,114,111,114]:=List.mem_filter.2 ⟨List.mem_range.2 (by rw [← doorSize];exact e3),e4⟩
 rw [doorRow] at hm
 obtain rfl:=List.mem_singleton.1 hm
 have hh : typeHandle Tryz.prog 48= .pointer (some ⟨11,48,none⟩):=by kernel_rfl
 rw [hh] at e5
 have hc : W.cell? ⟨2,0,none⟩=some (.iface 199 (.agg #[.pointer (some ⟨11,48,none⟩)])):=by simpa using World.var?_cell doorEt e5 0
 have hl:=block_lt_of_cell hc
 exact ⟨Nat.lt_of_le_of_lt (Nat.zero_le _) hl,hc,hl⟩
noncomputable def laidWorldE (os : Os) : World:=
 { World.holding Tryz.prog os ⟨#[],#[],[]⟩ with heap:=(World.holding Tryz.prog os ⟨#[],#[],[]⟩).heap.modify 2 fun
  | .cells _ t frozen=> .cells #[.iface 199 (.agg #[.pointer (some ⟨11,48,none⟩)])] t frozen
  | o=>o }
noncomputable def laidWorld (os : Os) : World:=(laidWorldE os).layVars Tryz.prog laidP
set_option maxRecDepth 100000 in
theorem laidP_met (os : Os) (args : Array Value) : laidMet Tryz.prog laidP ((laidWorld os).forCall (fun _ _=>0) ⟨#[],args,[]⟩).memory:=by
 have e1 : (laidP.filter fun x=>(laidP.map (·.1)).contains x.1)=laidP:=List.filter_eq_self.2 fun x hx=>List.contains_iff_mem.2 (List.mem_map.2 ⟨x,hx,rfl⟩)
 have e2 : (laidP.filter fun x=> !(laidP.map (·.1)).contains x.1)=[]:=List.filter_eq_nil_iff.2 fun x hx=>by rw [List.contains_iff_mem.2 (List.mem_map.2 ⟨x,hx,rfl⟩)];simp
 have h : laidMet Tryz.prog laidP (laidWorld os):=laidMet_layVars (w0:=laidWorldE os) (laidP.map (·.1)) [] (by rw [e1];rfl) (by rw [e1];kernel_rfl) (by rw [e1];kernel_rfl) (by rw [e2];exact LaidIn.none)
 exact h.of_heap (by simp [World.memory,World.forCall,Input.heap])
theorem laid_met (os : Os) (args : Array Value) : laidMetH Tryz.prog laidM ((laidWorld os).forCall (fun _ _=>0) ⟨#[],args,[]⟩).memory:=
 laidMetH_of_parts (laidP_met os args) (by kernel_rfl)
theorem env_of_laidM {W : World} (h : laidMetH Tryz.prog laidM W) (hSh : W.ShapedOpen Tryz.prog) : EnvS W:=by
 have h' : laidMet Tryz.prog laidP W∧handlesMet Tryz.prog laidE W:=h
 exact env_of_laidL h'.1 (by intro x hx;simp only [List.mem_cons,List.not_mem_nil,or_false] at hx;rcases hx with rfl | rfl | rfl | rfl | rfl | rfl <;> simp [laidP]) hSh
end
end Go.Proofs.YtmicohmbmgbnkaaGreatDoor
