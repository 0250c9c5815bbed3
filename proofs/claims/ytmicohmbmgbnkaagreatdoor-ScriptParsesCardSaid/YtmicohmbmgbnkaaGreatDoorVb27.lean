/- Texts joined: what each shows stands ahead of its theorems. -/
import Derived.Test.YtmicohmbmgbnkaaGreatDoorVb26
namespace Go.Proofs.YtmicohmbmgbnkaaGreatDoor
section
open Go Go.RowKit Go.Shelf
theorem texts_cell {W : World} {kd : Int} {vs : List PV} {cs : List Value} (hS : StC W kd vs cs) (hok : OkVs keyT vs) (i off : Nat) (hi : i < 26) (ho : offT[i]? =some off) (hg : (keyT[i]?).map (·.2)=some Tag.texts) :
 ∃(l : List (List UInt8)) (A : Option Addr) (n c : Nat),vs[i]? =some (.texts l)∧Rws W 1 A n (l.map fun s=>sv (bs s))∧cs[off]? =some (.slice A n c):=by
 have hlv : i < vs.length:=by rw [hok.len,keyT_len];exact hi
 have hv : vs[i]? =some vs[i]:=List.getElem?_eq_getElem hlv
 obtain ⟨kg,hk,hg2⟩ : ∃kg,keyT[i]? =some kg∧kg.2=Tag.texts:=by
  cases h : keyT[i]? with
  | none=>rw [h] at hg;cases hg
  | some kg=>rw [h] at hg;exact ⟨kg,rfl,Option.some.inj hg⟩
 have ho':=hok.at hk hv
 rw [hg2] at ho'
 generalize vs[i]=v at hv ho'
 cases v <;> first | exact absurd ho' id | skip
 rename_i l
 obtain ⟨z,⟨v,rfl,A,c,rfl,_,_,hr⟩,hz⟩:=hS.val i off _ hv ho
 exact ⟨l,A,_,c,hv,hr,hz 0 _ rfl⟩
set_option maxRecDepth 100000 in
theorem rvalue_any (cs : List Value) (kd : Int) (vs : List PV) (W : World) (hS : StC W kd vs cs) (hok : OkVs keyT vs) (hsz : ∀v∈vs,(wrPV v).length≤1099511627776) (j : Nat) (v : PV) (hv : vs[j]? =some v) :
 Calls Tryz.prog 43 #[.agg cs.toArray,.int .i64 j] W fun r w'=>r= .returned (.string (bs (wrPV v)))∧Below W.heap.size W w':=by
 have hj : j < 26:=by have:=(List.getElem?_eq_some_iff.1 hv).1;rw [hok.len,keyT_len] at this;exact this
 have hs:=hsz v (List.mem_of_getElem? hv)
 match j,hj with
 | 0,_=>
   have ho:=hok.at (i:=0) rfl hv
   cases v <;> first | exact absurd ho id | skip
   obtain ⟨z,hp,hz⟩:=hS.val 0 1 _ hv rfl
   obtain rfl:=hp
   exact value_0 cs W _ ho hS.len hS.one (hz 0 _ rfl)
 | 1,_=>
   have ho:=hok.at (i:=1) rfl hv
   cases v <;> first | exact absurd ho id | skip
   obtain ⟨z,hp,hz⟩:=hS.val 1 25 _ hv rfl
   obtain rfl:=hp
   exact value_1 cs W _ ho hS.len hS.one (hz 0 _ rfl)
 | 2,_=>
   have ho:=hok.at (i:=2) rfl hv
   cases v <;> first | exact absurd ho id | skip
   obtain ⟨z,hp,hz⟩:=hS.val 2 26 _ hv rfl
   obtain rfl:=hp
   exact value_2 cs W _ (Nat.le_trans (escL_le _) hs) hS.len hS.one (hz 0 _ rfl)
 | 3,_=>
   have ho:=hok.at (i:=3) rfl hv
   cases v <;> first | exact absurd ho id | skip
   obtain ⟨z,hp,hz⟩:=hS.val 3 27 _ hv rfl
   rename_i l
   obtain ⟨v,rfl,A,c,rfl,_,_,hr⟩:=hp
   rw [List.length_map] at hr hz
   exact value_3 cs W l ho hs A _ c hr hS.len hS.one (hz 0 _ rfl)
 | 4,_=>
   have ho:=hok.at (i:=4) rfl hv
   cases v <;> first | exact absurd ho id | skip
   obtain ⟨z,hp,hz⟩:=hS.val 4 28 _ hv rfl
   rename_i l
   obtain ⟨v,rfl,A,c,rfl,_,_,hr⟩:=hp
   rw [List.length_map] at hr hz
   have hn : l.length≤1099511627777:=by
    have h1:=joinL_count (c:=44) (l.map Go.Lib.itoa)
    rw [List.length_map] at h1
    have h2 : (joinL 44 (l.map Go.Lib.itoa)).length≤1099511627776:=hs
    omega
   exact value_4 cs W l ho hn A c hr hS.len hS.one (hz 0 _ rfl)
 | 5,_=>
   have ho:=hok.at (i:=5) rfl hv
   cases v <;> first | exact absurd ho id | skip
   obtain ⟨z,hp,hz⟩:=hS.val 5 2 _ hv rfl
   obtain rfl:=hp
   exact value_5 cs W _ hS.len hS.one (hz 0 _ rfl)
 | 6,_=>
   have ho:=hok.at (i:=6) rfl hv
   cases v <;> first | exact absurd ho id | skip
   obtain ⟨z,hp,hz⟩:=hS.val 6 3 _ hv rfl
   obtain rfl:=hp
   exact value_6 cs W _ (Nat.le_trans (escL_le _) hs) hS.len hS.one (hz 0 _ rfl)
 | 7,_=>
   have ho:=hok.at (i:=7) rfl hv
   cases v <;> first | exact absurd ho id | skip
   obtain ⟨z,hp,hz⟩:=hS.val 7 4 _ hv rfl
   obtain rfl:=hp
   exact value_7 cs W _ (Nat.le_trans (escL_le _) hs) hS.len hS.one (hz 0 _ rfl)
 | 8,_=>
   obtain ⟨l0,A0,n0,c0,hv0,hr0,g0⟩:=texts_cell hS hok 8 5 (by decide) rfl rfl
   obtain ⟨l1,A1,n1,c1,hv1,hr1,g1⟩:=texts_cell hS hok 9 6 (by decide) rfl rfl
   obtain ⟨l2,A2,n2,c2,hv2,hr2,g2⟩:=texts_cell hS hok 10 7 (by decide) rfl rfl
   obtain ⟨l3,A3,n3,c3,hv3,hr3,g3⟩:=texts_cell hS hok 11 8 (by decide) rfl rfl
   obtain ⟨l4,A4,n4,c4,hv4,hr4,g4⟩:=texts_cell hS hok 12 9 (by decide) rfl rfl
   obtain ⟨l5,A5,n5,c5,hv5,hr5,g5⟩:=texts_cell hS hok 13 10 (by decide) rfl rfl
   obtain ⟨l6,A6,n6,c6,hv6,hr6,g6⟩:=texts_cell hS hok 14 11 (by decide) rfl rfl
   obtain ⟨l7,A7,n7,c7,hv7,hr7,g7⟩:=texts_cell hS hok 15 12 (by decide) rfl rfl
   obtain ⟨l8,A8,n8,c8,hv8,hr8,g8⟩:=texts_cell hS hok 16 13 (by decide) rfl rfl
   obtain rfl:=Option.some.inj (hv0.symm.trans hv)
   exact value_8 cs W l0 hs hr0 hS.len hS.one g0 g1 g2 g3 g4 g5 g6 g7 g8
 | 9,_=>
   obtain ⟨l0,A0,n0,c0,hv0,hr0,g0⟩:=texts_cell hS hok 8 5 (by decide) rfl rfl
   obtain ⟨l1,A1,n1,c1,hv1,hr1,g1⟩:=texts_cell hS hok 9 6 (by decide) rfl rfl
   obtain ⟨l2,A2,n2,c2,hv2,hr2,g2⟩:=texts_cell hS hok 10 7 (by decide) rfl rfl
   obtain ⟨l3,A3,n3,c3,hv3,hr3,g3⟩:=texts_cell hS hok 11 8 (by decide) rfl rfl
   obtain ⟨l4,A4,n4,c4,hv4,hr4,g4⟩:=texts_cell hS hok 12 9 (by decide) rfl rfl
   obtain ⟨l5,A5,n5,c5,hv5,hr5,g5⟩:=texts_cell hS hok 13 10 (by decide) rfl rfl
   obtain ⟨l6,A6,n6,c6,hv6,hr6,g6⟩:=texts_cell hS hok 14 11 (by decide) rfl rfl
   obtain ⟨l7,A7,n7,c7,hv7,hr7,g7⟩:=texts_cell hS hok 15 12 (by decide) rfl rfl
   obtain ⟨l8,A8,n8,c8,hv8,hr8,g8⟩:=texts_cell hS hok 16 13 (by decide) rfl rfl
   obtain rfl:=Option.some.inj (hv1.symm.trans hv)
   exact value_9 cs W l1 hs hr1 hS.len hS.one g0 g1 g2 g3 g4 g5 g6 g7 g8
 | 10,_=>
   obtain ⟨l0,A0,n0,c0,hv0,hr0,g0⟩:=texts_cell hS hok 8 5 (by decide) rfl rfl
   obtain ⟨l1,A1,n1,c1,hv1,hr1,g1⟩:=texts_cell hS hok 9 6 (by decide) rfl rfl
   obtain ⟨l2,A2,n2,c2,hv2,hr2,g2⟩:=texts_cell hS hok 10 7 (by decide) rfl rfl
   obtain ⟨l3,A3,n3,c3,hv3,hr3,g3⟩:=texts_cell hS hok 11 8 (by decide) rfl rfl
   obtain ⟨l4,A4,n4,c4,hv4,hr4,g4⟩:=texts_cell hS hok 12 9 (by decide) rfl rfl
   obtain ⟨l5,A5,n5,c5,hv5,hr5,g5⟩:=texts_cell hS hok 13 10 (by decide) rfl rfl
   obtain ⟨l6,A6,n6,c6,hv6,hr6,g6⟩:=texts_cell hS hok 14 11 (by decide) rfl rfl
   obtain ⟨l7,A7,n7,c7,hv7,hr7,g7⟩:=texts_cell hS hok 15 12 (by decide) rfl rfl
   obtain ⟨l8,A8,n8,c8,hv8,hr8,g8⟩:=texts_cell hS hok 16 13 (by decide) rfl rfl
   obtain rfl:=Option.some.inj (hv2.symm.trans hv)
   exact value_10 cs W l2 hs hr2 hS.len hS.one g0 g1 g2 g3 g4 g5 g6 g7 g8
 | 11,_=>
   obtain ⟨l0,A0,n0,c0,hv0,hr0,g0⟩:=texts_cell hS hok 8 5 (by decide) rfl rfl
   obtain ⟨l1,A1,n1,c1,hv1,hr1,g1⟩:=texts_cell hS hok 9 6 (by decide) rfl rfl
   obtain ⟨l2,A2,n2,c2,hv2,hr2,g2⟩:=texts_cell hS hok 10 7 (by decide) rfl rfl
   obtain ⟨l3,A3,n3,c3,hv3,hr3,g3⟩:=texts_cell hS hok 11 8 (by decide) rfl rfl
   obtain ⟨l4,A4,n4,c4,hv4,hr4,g4⟩:=texts_cell hS hok 12 9 (by decide) rfl rfl
   obtain ⟨l5,A5,n5,c5,hv5,hr5,g5⟩:=texts_cell hS hok 13 10 (by decide) rfl rfl
   obtain ⟨l6,A6,n6,c6,hv6,hr6,g6⟩:=texts_cell hS hok 14 11 (by decide) rfl rfl
   obtain ⟨l7,A7,n7,c7,hv7,hr7,g7⟩:=texts_cell hS hok 15 12 (by decide) rfl rfl
   obtain ⟨l8,A8,n8,c8,hv8,hr8,g8⟩:=texts_cell hS hok 16 13 (by decide) rfl rfl
   obtain rfl:=Option.some.inj (hv3.symm.trans hv)
   exact value_11 cs W l3 hs hr3 hS.len hS.one g0 g1 g2 g3 g4 g5 g6 g7 g8
 | 12,_=>
   obtain ⟨l0,A0,n0,c0,hv0,hr0,g0⟩:=texts_cell hS hok 8 5 (by decide) rfl rfl
   obtain ⟨l1,A1,n1,c1,hv1,hr1,g1⟩:=texts_cell hS hok 9 6 (by decide) rfl rfl
   obtain ⟨l2,A2,n2,c2,hv2,hr2,g2⟩:=texts_cell hS hok 10 7 (by decide) rfl rfl
   obtain ⟨l3,A3,n3,c3,hv3,hr3,g3⟩:=texts_cell hS hok 11 8 (by decide) rfl rfl
   obtain ⟨l4,A4,n4,c4,hv4,hr4,g4⟩:=texts_cell hS hok 12 9 (by decide) rfl rfl
   obtain ⟨l5,A5,n5,c5,hv5,hr5,g5⟩:=texts_cell hS hok 13 10 (by decide) rfl rfl
   obtain ⟨l6,A6,n6,c6,hv6,hr6,g6⟩:=texts_cell hS hok 14 11 (by decide) rfl rfl
   obtain ⟨l7,A7,n7,c7,hv7,hr7,g7⟩:=texts_cell hS hok 15 12 (by decide) rfl rfl
   obtain ⟨l8,A8,n8,c8,hv8,hr8,g8⟩:=texts_cell hS hok 16 13 (by decide) rfl rfl
   obtain rfl:=Option.some.inj (hv4.symm.trans hv)
   exact value_12 cs W l4 hs hr4 hS.len hS.one g0 g1 g2 g3 g4 g5 g6 g7 g8
 | 13,_=>
   obtain ⟨l0,A0,n0,c0,hv0,hr0,g0⟩:=texts_cell hS hok 8 5 (by decide) rfl rfl
   obtain ⟨l1,A1,n1,c1,hv1,hr1,g1⟩:=texts_cell hS hok 9 6 (by decide) rfl rfl
   obtain ⟨l2,A2,n2,c2,hv2,hr2,g2⟩:=texts_cell hS hok 10 7 (by decide) rfl rfl
   obtain ⟨l3,A3,n3,c3,hv3,hr3,g3⟩:=texts_cell hS hok 11 8 (by decide) rfl rfl
   obtain ⟨l4,A4,n4,c4,hv4,hr4,g4⟩:=texts_cell hS hok 12 9 (by decide) rfl rfl
   obtain ⟨l5,A5,n5,c5,hv5,hr5,g5⟩:=texts_cell hS hok 13 10 (by decide) rfl rfl
   obtain ⟨l6,A6,n6,c6,hv6,hr6,g6⟩:=texts_cell hS hok 14 11 (by decide) rfl rfl
   obtain ⟨l7,A7,n7,c7,hv7,hr7,g7⟩:=texts_cell hS hok 15 12 (by decide) rfl rfl
   obtain ⟨l8,A8,n8,c8,hv8,hr8,g8⟩:=texts_cell hS hok 16 13 (by decide) rfl rfl
   obtain rfl:=Option.some.inj (hv5.symm.trans hv)
   exact value_13 cs W l5 hs hr5 hS.len hS.one g0 g1 g2 g3 g4 g5 g6 g7 g8
 | 14,_=>
   obtain ⟨l0,A0,n0,c0,hv0,hr0,g0⟩:=texts_cell hS hok 8 5 (by decide) rfl rfl
   obtain ⟨l1,A1,n1,c1,hv1,hr1,g1⟩:=texts_cell hS hok 9 6 (by decide) rfl rfl
   obtain ⟨l2,A2,n2,c2,hv2,hr2,g2⟩:=texts_cell hS hok 10 7 (by decide) rfl rfl
   obtain ⟨l3,A3,n3,c3,hv3,hr3,g3⟩:=texts_cell hS hok 11 8 (by decide) rfl rfl
   obtain ⟨l4,A4,n4,c4,hv4,hr4,g4⟩:=texts_cell hS hok 12 9 (by decide) rfl rfl
   obtain ⟨l5,A5,n5,c5,hv5,hr5,g5⟩:=texts_cell hS hok 13 10 (by decide) rfl rfl
   obtain ⟨l6,A6,n6,c6,hv6,hr6,g6⟩:=texts_cell hS hok 14 11 (by decide) rfl rfl
   obtain ⟨l7,A7,n7,c7,hv7,hr7,g7⟩:=texts_cell hS hok 15 12 (by decide) rfl rfl
   obtain ⟨l8,A8,n8,c8,hv8,hr8,g8⟩:=texts_cell hS hok 16 13 (by decide) rfl rfl
   obtain rfl:=Option.some.inj (hv6.symm.trans hv)
   exact value_14 cs W l6 hs hr6 hS.len hS.one g0 g1 g2 g3 g4 g5 g6 g7 g8
 | 15,_=>
   obtain ⟨l0,A0,n0,c0,hv0,hr0,g0⟩:=texts_cell hS hok 8 5 (by decide) rfl rfl
   obtain ⟨l1,A1,n1,c1,hv1,hr1,g1⟩:=texts_cell hS hok 9 6 (by decide) rfl rfl
   obtain ⟨l2,A2,n2,c2,hv2,hr2,g2⟩:=texts_cell hS hok 10 7 (by decide) rfl rfl
   obtain ⟨l3,A3,n3,c3,hv3,hr3,g3⟩:=texts_cell hS hok 11 8 (by decide) rfl rfl
   obtain ⟨l4,A4,n4,c4,hv4,hr4,g4⟩:=texts_cell hS hok 12 9 (by decide) rfl rfl
   obtain ⟨l5,A5,n5,c5,hv5,hr5,g5⟩:=texts_cell hS hok 13 10 (by decide) rfl rfl
   obtain ⟨l6,A6,n6,c6,hv6,hr6,g6⟩:=texts_cell hS hok 14 11 (by decide) rfl rfl
   obtain ⟨l7,A7,n7,c7,hv7,hr7,g7⟩:=texts_cell hS hok 15 12 (by decide) rfl rfl
   obtain ⟨l8,A8,n8,c8,hv8,hr8,g8⟩:=texts_cell hS hok 16 13 (by decide) rfl rfl
   obtain rfl:=Option.some.inj (hv7.symm.trans hv)
   exact value_15 cs W l7 hs hr7 hS.len hS.one g0 g1 g2 g3 g4 g5 g6 g7 g8
 | 16,_=>
   obtain ⟨l0,A0,n0,c0,hv0,hr0,g0⟩:=texts_cell hS hok 8 5 (by decide) rfl rfl
   obtain ⟨l1,A1,n1,c1,hv1,hr1,g1⟩:=texts_cell hS hok 9 6 (by decide) rfl rfl
   obtain ⟨l2,A2,n2,c2,hv2,hr2,g2⟩:=texts_cell hS hok 10 7 (by decide) rfl rfl
   obtain ⟨l3,A3,n3,c3,hv3,hr3,g3⟩:=texts_cell hS hok 11 8 (by decide) rfl rfl
   obtain ⟨l4,A4,n4,c4,hv4,hr4,g4⟩:=texts_cell hS hok 12 9 (by decide) rfl rfl
   obtain ⟨l5,A5,n5,c5,hv5,hr5,g5⟩:=texts_cell hS hok 13 10 (by decide) rfl rfl
   obtain ⟨l6,A6,n6,c6,hv6,hr6,g6⟩:=texts_cell hS hok 14 11 (by decide) rfl rfl
   obtain ⟨l7,A7,n7,c7,hv7,hr7,g7⟩:=texts_cell hS hok 15 12 (by decide) rfl rfl
   obtain ⟨l8,A8,n8,c8,hv8,hr8,g8⟩:=texts_cell hS hok 16 13 (by decide) rfl rfl
   obtain rfl:=Option.some.inj (hv8.symm.trans hv)
   exact value_16 cs W l8 hs hr8 hS.len hS.one g0 g1 g2 g3 g4 g5 g6 g7 g8
 | 17,_=>
   have ho:=hok.at (i:=17) rfl hv
   cases v <;> first | exact absurd ho id | skip
   obtain ⟨z,hp,hz⟩:=hS.val 17 14 _ hv rfl
   obtain rfl:=hp
   exact value_17 cs W _ ho hS.len hS.one (hz 0 _ rfl)
 | 18,_=>
   have ho:=hok.at (i:=18) rfl hv
   cases v <;> first | exact absurd ho id | skip
   obtain ⟨z,hp,hz⟩:=hS.val 18 15 _ hv rfl
   rename_i l
   obtain ⟨v,rfl,A,c,rfl,_,_,hr⟩:=hp
   rw [List.length_map] at hr hz
   exact value_18 cs W l ho hs A _ c hr hS.len hS.one (hz 0 _ rfl)
 | 19,_=>
   have ho:=hok.at (i:=19) rfl hv
   cases v <;> first | exact absurd ho id | skip
   obtain ⟨z,hp,hz⟩:=hS.val 19 16 _ hv rfl
   obtain rfl:=hp
   exact value_19 cs W _ ho hS.len hS.one (hz 0 _ rfl)
 | 20,_=>
   have ho:=hok.at (i:=20) rfl hv
   cases v <;> first | exact absurd ho id | skip
   obtain ⟨z,hp,hz⟩:=hS.val 20 17 _ hv rfl
   obtain rfl:=hp
   exact value_20 cs W _ ho hS.len hS.one (hz 0 _ rfl)
 | 21,_=>
   have ho:=hok.at (i:=21) rfl hv
   cases v <;> first | exact absurd ho id | skip
   obtain ⟨z,hp,hz⟩:=hS.val 21 18 _ hv rfl
   obtain rfl:=hp
   exact value_21 cs W _ (Nat.le_trans (escL_le _) hs) hS.len hS.one (hz 0 _ rfl)
 | 22,_=>
   have ho:=hok.at (i:=22) rfl hv
   cases v <;> first | exact absurd ho id | skip
   obtain ⟨z,hp,hz⟩:=hS.val 22 19 _ hv rfl
   rename_i l
   obtain ⟨v,rfl,A,c,rfl,_,_,hr⟩:=hp
   rw [List.length_map] at hr hz
   have hn : l.length≤1099511627777:=by
    have h1:=joinL_count (c:=44) (l.map Go.Lib.itoa)
    rw [List.length_map] at h1
    have h2 : (joinL 44 (l.map Go.Lib.itoa)).length≤1099511627776:=hs
    omega
   exact value_22 cs W l ho hn A c hr hS.len hS.one (hz 0 _ rfl)
 | 23,_=>
   have ho:=hok.at (i:=23) rfl hv
   cases v <;> first | exact absurd ho id | skip
   obtain ⟨z,hp,hz⟩:=hS.val 23 20 _ hv rfl
   obtain rfl:=hp
   exact value_23 cs W _ hS.len hS.one (hz 0 _ rfl)
 | 24,_=>
   have ho:=hok.at (i:=24) rfl hv
   cases v <;> first | exact absurd ho id | skip
   obtain ⟨z,hp,hz⟩:=hS.val 24 21 _ hv rfl
   obtain rfl:=hp
   exact value_24 cs W _ hS.len hS.one (hz 0 _ rfl)
 | 25,_=>
   have ho:=hok.at (i:=25) rfl hv
   cases v <;> first | exact absurd ho id | skip
   obtain ⟨z,hp,hz⟩:=hS.val 25 22 _ hv rfl
   obtain rfl:=hp
   exact value_25 cs W _ _ _ ho.1 ho.2.1 ho.2.2 hS.len hS.one (hz 0 _ rfl) (hz 1 _ rfl) (hz 2 _ rfl)
 | j + 26,hj=>exact absurd hj (by omega)
end
section
open Go Go.RowKit Go.Shelf
set_option maxRecDepth 100000 in
set_option maxHeartbeats 2000000 in
theorem rkeys_any (w : World) : Calls Tryz.prog 42 #[] w fun r w'=> ∃b,r= .returned (.slice (some ⟨b,0,none⟩) 26 26)∧Strs w' (some ⟨b,0,none⟩) 26 ((keyT.map (fun x : List UInt8 × Tag=>x.1)).map bs)∧Below w.heap.size w w':=by
 go_enter Tryz.func42,Tryz.ntmps42
 go_wp2_with fail
 go_ret
 have hg:=heap_new w (.cells (((keyT.map (fun x : List UInt8 × Tag=>x.1)).map bs).flatMap sv).toArray 9)
 have hs:=Strs.block (ss:=(keyT.map (fun x : List UInt8 × Tag=>x.1)).map bs) hg (Array.getElem?_eq_some_iff.1 hg).1
 have hb:=below_new w (.cells (((keyT.map (fun x : List UInt8 × Tag=>x.1)).map bs).flatMap sv).toArray 9)
 exact ⟨_,rfl,hs,hb⟩
end
end Go.Proofs.YtmicohmbmgbnkaaGreatDoor
