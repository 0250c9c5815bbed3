/- The reference's Value at the keys without loops. (printed by wip/gen_slk.py) -/
import Derived.Test.YtmicohmbmgbnkaaGreatDoorVb23
namespace Go.Proofs.YtmicohmbmgbnkaaGreatDoor
open Go Go.RowKit Go.Shelf
open Go.Lib (itoa decDigits)
structure VPre (w w2 : World) (cs fs : List Value) : Prop where
 len : fs.length=23
 one : fs.toArray.all (·.oneCell')=true
 at_ : ∀j,j < 23→fs[j]? =cs[2 + j]?
 b : ∀(i : Nat) x,cs[i]? =some x→w2.cell? ⟨w.heap.size,i,none⟩=some x
 f : ∀(i : Nat) x,fs[i]? =some x→w2.cell? ⟨w.heap.size + 1,i,none⟩=some x
 r : w2.rangeAt (w.heap.size + 1) 0 fs
 below : Below w.heap.size w w2
 lt : w.heap.size + 1 < w2.heap.size
theorem vpre (cs : List Value) (w : World) (hl : cs.length=29) (h1 : cs.toArray.all (·.oneCell')=true) : (w.alloc (.cells cs.toArray 44)).rangeAt w.heap.size 2 ((cs.drop 2).take 23)∧VPre w ((w.alloc (.cells cs.toArray 44)).alloc (.cells ((cs.drop 2).take 23).toArray 41)) cs ((cs.drop 2).take 23):=by
 have hg1:=heap_new w (.cells cs.toArray 44)
 have hlt1:=(Array.getElem?_eq_some_iff.1 hg1).1
 have hB1:=below_new w (.cells cs.toArray 44)
 have hB2:=below_new (w.alloc (.cells cs.toArray 44)) (.cells ((cs.drop 2).take 23).toArray 41)
 have hg2:=heap_new (w.alloc (.cells cs.toArray 44)) (.cells ((cs.drop 2).take 23).toArray 41)
 have hlt2:=(Array.getElem?_eq_some_iff.1 hg2).1
 simp only [World.size_alloc] at hg2 hlt2
 have hat : ∀j,j < 23→((cs.drop 2).take 23)[j]? =cs[2 + j]? :=fun j hj=>by rw [List.getElem?_take,if_pos hj,List.getElem?_drop]
 have hb : ∀(i : Nat) x,cs[i]? =some x→(w.alloc (.cells cs.toArray 44)).cell? ⟨w.heap.size,i,none⟩=some x:=fun i x hx=>(cell_of_row _ _ _ _ _ _ hg1).trans (by rw [List.getElem?_toArray];exact hx)
 refine ⟨fun j v hj=> ?_,⟨by rw [List.length_take,List.length_drop];omega,?_,hat,fun i x hx=>(hB2.cell (p:=⟨w.heap.size,i,none⟩) hlt1).trans (hb i x hx),fun i x hx=>(cell_of_row _ _ _ _ _ _ hg2).trans (by rw [List.getElem?_toArray];exact hx),rangeAt_list hg2,hB1.trans (hB2.mono hB1.size),(by simp)⟩⟩
 · have hj2 : j < 23:=by have:=(List.getElem?_eq_some_iff.1 hj).1;rw [List.length_take] at this;omega
   rw [hat j hj2] at hj
   exact hb (2 + j) v hj
 · rw [List.all_toArray] at h1 ⊢
   rw [List.all_eq_true] at h1 ⊢
   exact fun x hx=>h1 x (List.mem_of_mem_drop (List.mem_of_mem_take hx))
set_option maxRecDepth 100000 in
set_option maxHeartbeats 4000000 in
theorem value_0 (cs : List Value) (w : World) (n : Int) (hI : I64 n) (hl : cs.length=29) (h1 : cs.toArray.all (·.oneCell')=true) (hc : cs[1]? =some (.int .i64 n)) :
 Calls Tryz.prog 43 #[.agg cs.toArray,.int .i64 0] w fun r w'=>r= .returned (.string (bs (wrPV (.num n))))∧Below w.heap.size w w':=by
 obtain ⟨hr,hV⟩:=vpre cs w hl h1
 have hgz:=heap_new (w.alloc (.cells cs.toArray 44)) (.cells cfZ 41)
 simp only [World.size_alloc] at hgz
 generalize (cs.drop 2).take 23=fs at hr hV
 have hfi : (Tryz.prog.info? 41).map (·.size)=some fs.length:=by rw [hV.len];kernel_rfl
 have hfi' : (Tryz.prog.info? 41).map (·.size)=some fs.toArray.size:=by rw [List.size_toArray];exact hfi
 have hold : cfZ.size=fs.toArray.size:=by rw [show fs.toArray.size=fs.length from List.size_toArray,hV.len];rfl
 have hone:=hV.one
 replace hV:=Lib.hid hV
 go_enter Tryz.func43,Tryz.ntmps43
 go_upto_region 2 with (first
  | (refine wpList_box_row 44 _ rfl rfl cs.toArray rfl ?_)
  | (refine wpList_load_at 41 _ rfl rfl w.heap.size 2 rfl fs _ hr Tryz.underlying41 rfl hfi ?_)
  | (refine wpList_alloc_row 41 rfl rfl cfZ cf_zero ?_;try simp only [World.size_alloc])
  | (refine wpList_store_at 41 _ _ rfl rfl (w.heap.size + 1) fs.toArray rfl rfl 41 cfZ hgz hfi' hold hone ?_
     rw [show w.heap.size + 1=(w.alloc (.cells cs.toArray 44)).heap.size by simp,setRow_new]
     try simp only [World.size_alloc]))
 generalize (w.alloc (.cells cs.toArray 44)).alloc (.cells fs.toArray 41)=w2 at *
 have hB:=Lib.hid hV.out.below
 have hcell : w2.cell? ⟨w.heap.size,1,none⟩=some (.int .i64 n):=hV.out.b 1 _ hc
 have cC:=Lib.hid (rcount_any n hI w2)
 clear hc
 go_wp2_with (first
  | (go_at_call 65;(with_reducible refine cC.out.mono ?_);rintro r w3 ⟨rfl,hb1⟩;replace hb1:=Lib.hid hb1))
 go_ret
 exact ⟨rfl,hB.out.trans (hb1.out.mono hB.out.size)⟩
set_option maxRecDepth 100000 in
set_option maxHeartbeats 4000000 in
theorem value_1 (cs : List Value) (w : World) (n : Int) (hI : I64 n) (hl : cs.length=29) (h1 : cs.toArray.all (·.oneCell')=true) (hc : cs[25]? =some (.int .i64 n)) :
 Calls Tryz.prog 43 #[.agg cs.toArray,.int .i64 1] w fun r w'=>r= .returned (.string (bs (wrPV (.num n))))∧Below w.heap.size w w':=by
 obtain ⟨hr,hV⟩:=vpre cs w hl h1
 have hgz:=heap_new (w.alloc (.cells cs.toArray 44)) (.cells cfZ 41)
 simp only [World.size_alloc] at hgz
 generalize (cs.drop 2).take 23=fs at hr hV
 have hfi : (Tryz.prog.info? 41).map (·.size)=some fs.length:=by rw [hV.len];kernel_rfl
 have hfi' : (Tryz.prog.info? 41).map (·.size)=some fs.toArray.size:=by rw [List.size_toArray];exact hfi
 have hold : cfZ.size=fs.toArray.size:=by rw [show fs.toArray.size=fs.length from List.size_toArray,hV.len];rfl
 have hone:=hV.one
 replace hV:=Lib.hid hV
 go_enter Tryz.func43,Tryz.ntmps43
 go_upto_region 2 with (first
  | (refine wpList_box_row 44 _ rfl rfl cs.toArray rfl ?_)
  | (refine wpList_load_at 41 _ rfl rfl w.heap.size 2 rfl fs _ hr Tryz.underlying41 rfl hfi ?_)
  | (refine wpList_alloc_row 41 rfl rfl cfZ cf_zero ?_;try simp only [World.size_alloc])
  | (refine wpList_store_at 41 _ _ rfl rfl (w.heap.size + 1) fs.toArray rfl rfl 41 cfZ hgz hfi' hold hone ?_
     rw [show w.heap.size + 1=(w.alloc (.cells cs.toArray 44)).heap.size by simp,setRow_new]
     try simp only [World.size_alloc]))
 generalize (w.alloc (.cells cs.toArray 44)).alloc (.cells fs.toArray 41)=w2 at *
 have hB:=Lib.hid hV.out.below
 have hcell : w2.cell? ⟨w.heap.size,25,none⟩=some (.int .i64 n):=hV.out.b 25 _ hc
 have cC:=Lib.hid (rcount_any n hI w2)
 clear hc
 go_wp2_with (first
  | (go_at_call 65;(with_reducible refine cC.out.mono ?_);rintro r w3 ⟨rfl,hb1⟩;replace hb1:=Lib.hid hb1))
 go_ret
 exact ⟨rfl,hB.out.trans (hb1.out.mono hB.out.size)⟩
set_option maxRecDepth 100000 in
set_option maxHeartbeats 4000000 in
theorem value_2 (cs : List Value) (w : World) (s : List UInt8) (hs : s.length≤1099511627776) (hl : cs.length=29) (h1 : cs.toArray.all (·.oneCell')=true) (hc : cs[26]? =some (.string (bs s))) :
 Calls Tryz.prog 43 #[.agg cs.toArray,.int .i64 2] w fun r w'=>r= .returned (.string (bs (wrPV (.text s))))∧Below w.heap.size w w':=by
 obtain ⟨hr,hV⟩:=vpre cs w hl h1
 have hgz:=heap_new (w.alloc (.cells cs.toArray 44)) (.cells cfZ 41)
 simp only [World.size_alloc] at hgz
 generalize (cs.drop 2).take 23=fs at hr hV
 have hfi : (Tryz.prog.info? 41).map (·.size)=some fs.length:=by rw [hV.len];kernel_rfl
 have hfi' : (Tryz.prog.info? 41).map (·.size)=some fs.toArray.size:=by rw [List.size_toArray];exact hfi
 have hold : cfZ.size=fs.toArray.size:=by rw [show fs.toArray.size=fs.length from List.size_toArray,hV.len];rfl
 have hone:=hV.one
 replace hV:=Lib.hid hV
 go_enter Tryz.func43,Tryz.ntmps43
 go_upto_region 2 with (first
  | (refine wpList_box_row 44 _ rfl rfl cs.toArray rfl ?_)
  | (refine wpList_load_at 41 _ rfl rfl w.heap.size 2 rfl fs _ hr Tryz.underlying41 rfl hfi ?_)
  | (refine wpList_alloc_row 41 rfl rfl cfZ cf_zero ?_;try simp only [World.size_alloc])
  | (refine wpList_store_at 41 _ _ rfl rfl (w.heap.size + 1) fs.toArray rfl rfl 41 cfZ hgz hfi' hold hone ?_
     rw [show w.heap.size + 1=(w.alloc (.cells cs.toArray 44)).heap.size by simp,setRow_new]
     try simp only [World.size_alloc]))
 generalize (w.alloc (.cells cs.toArray 44)).alloc (.cells fs.toArray 41)=w2 at *
 have hB:=Lib.hid hV.out.below
 have hcell : w2.cell? ⟨w.heap.size,26,none⟩=some (.string (bs s)):=hV.out.b 26 _ hc
 have cC:=rescape_any (bs s) w2 (by rw [bs_size];exact hs)
 rw [bs_list] at cC
 replace cC:=Lib.hid cC
 clear hc
 go_wp2_with (first
  | (go_at_call 13;(with_reducible refine cC.out.mono ?_);rintro r w3 ⟨rfl,rfl⟩))
 go_ret
 exact ⟨rfl,hB.out⟩
set_option maxRecDepth 100000 in
set_option maxHeartbeats 4000000 in
theorem value_4 (cs : List Value) (w : World) (l : List Int) (hI : ∀x∈l,I64 x) (hn : l.length≤1099511627777) (A : Option Addr) (cc : Nat) (H : Rws w 1 A l.length (l.map iv)) (hl : cs.length=29) (h1 : cs.toArray.all (·.oneCell')=true) (hc : cs[28]? =some (.slice A l.length cc)) :
 Calls Tryz.prog 43 #[.agg cs.toArray,.int .i64 4] w fun r w'=>r= .returned (.string (bs (wrPV (.nums l))))∧Below w.heap.size w w':=by
 obtain ⟨hr,hV⟩:=vpre cs w hl h1
 have hgz:=heap_new (w.alloc (.cells cs.toArray 44)) (.cells cfZ 41)
 simp only [World.size_alloc] at hgz
 generalize (cs.drop 2).take 23=fs at hr hV
 have hfi : (Tryz.prog.info? 41).map (·.size)=some fs.length:=by rw [hV.len];kernel_rfl
 have hfi' : (Tryz.prog.info? 41).map (·.size)=some fs.toArray.size:=by rw [List.size_toArray];exact hfi
 have hold : cfZ.size=fs.toArray.size:=by rw [show fs.toArray.size=fs.length from List.size_toArray,hV.len];rfl
 have hone:=hV.one
 replace hV:=Lib.hid hV
 go_enter Tryz.func43,Tryz.ntmps43
 go_upto_region 2 with (first
  | (refine wpList_box_row 44 _ rfl rfl cs.toArray rfl ?_)
  | (refine wpList_load_at 41 _ rfl rfl w.heap.size 2 rfl fs _ hr Tryz.underlying41 rfl hfi ?_)
  | (refine wpList_alloc_row 41 rfl rfl cfZ cf_zero ?_;try simp only [World.size_alloc])
  | (refine wpList_store_at 41 _ _ rfl rfl (w.heap.size + 1) fs.toArray rfl rfl 41 cfZ hgz hfi' hold hone ?_
     rw [show w.heap.size + 1=(w.alloc (.cells cs.toArray 44)).heap.size by simp,setRow_new]
     try simp only [World.size_alloc]))
 generalize (w.alloc (.cells cs.toArray 44)).alloc (.cells fs.toArray 41)=w2 at *
 have hB:=Lib.hid hV.out.below
 have hcell : w2.cell? ⟨w.heap.size,28,none⟩=some (.slice A l.length cc):=hV.out.b 28 _ hc
 have cC:=rints_any 44 l A l.length cc w2 (H.keep hB.out) hI hn
 replace cC:=Lib.hid cC
 generalize l.length=n at *
 clear hc H
 go_wp2_with (first
  | (go_at_call 67;(with_reducible refine cC.out.mono ?_);rintro r w3 ⟨rfl,hb1⟩;replace hb1:=Lib.hid hb1))
 go_ret
 exact ⟨rfl,hB.out.trans (hb1.out.mono hB.out.size)⟩
set_option maxRecDepth 100000 in
set_option maxHeartbeats 4000000 in
theorem value_5 (cs : List Value) (w : World) (b : Bool) (hl : cs.length=29) (h1 : cs.toArray.all (·.oneCell')=true) (hc : cs[2]? =some (.bool b)) :
 Calls Tryz.prog 43 #[.agg cs.toArray,.int .i64 5] w fun r w'=>r= .returned (.string (bs (wrPV (.flag b))))∧Below w.heap.size w w':=by
 obtain ⟨hr,hV⟩:=vpre cs w hl h1
 have hgz:=heap_new (w.alloc (.cells cs.toArray 44)) (.cells cfZ 41)
 simp only [World.size_alloc] at hgz
 generalize (cs.drop 2).take 23=fs at hr hV
 have hfi : (Tryz.prog.info? 41).map (·.size)=some fs.length:=by rw [hV.len];kernel_rfl
 have hfi' : (Tryz.prog.info? 41).map (·.size)=some fs.toArray.size:=by rw [List.size_toArray];exact hfi
 have hold : cfZ.size=fs.toArray.size:=by rw [show fs.toArray.size=fs.length from List.size_toArray,hV.len];rfl
 have hone:=hV.one
 replace hV:=Lib.hid hV
 go_enter Tryz.func43,Tryz.ntmps43
 go_upto_region 2 with (first
  | (refine wpList_box_row 44 _ rfl rfl cs.toArray rfl ?_)
  | (refine wpList_load_at 41 _ rfl rfl w.heap.size 2 rfl fs _ hr Tryz.underlying41 rfl hfi ?_)
  | (refine wpList_alloc_row 41 rfl rfl cfZ cf_zero ?_;try simp only [World.size_alloc])
  | (refine wpList_store_at 41 _ _ rfl rfl (w.heap.size + 1) fs.toArray rfl rfl 41 cfZ hgz hfi' hold hone ?_
     rw [show w.heap.size + 1=(w.alloc (.cells cs.toArray 44)).heap.size by simp,setRow_new]
     try simp only [World.size_alloc]))
 generalize (w.alloc (.cells cs.toArray 44)).alloc (.cells fs.toArray 41)=w2 at *
 have hB:=Lib.hid hV.out.below
 have hcell : w2.cell? ⟨w.heap.size + 1,0,none⟩=some (.bool b):=hV.out.f 0 _ ((hV.out.at_ 0 (by decide)).trans hc)
 have cC:=Lib.hid (rflag_any b w2)
 clear hc
 go_wp2_with (first
  | (go_at_call 69;(with_reducible refine cC.out.mono ?_);rintro r w3 ⟨rfl,rfl⟩))
 go_ret
 exact ⟨rfl,hB.out⟩
set_option maxRecDepth 100000 in
set_option maxHeartbeats 4000000 in
theorem value_6 (cs : List Value) (w : World) (s : List UInt8) (hs : s.length≤1099511627776) (hl : cs.length=29) (h1 : cs.toArray.all (·.oneCell')=true) (hc : cs[3]? =some (.string (bs s))) :
 Calls Tryz.prog 43 #[.agg cs.toArray,.int .i64 6] w fun r w'=>r= .returned (.string (bs (wrPV (.text s))))∧Below w.heap.size w w':=by
 obtain ⟨hr,hV⟩:=vpre cs w hl h1
 have hgz:=heap_new (w.alloc (.cells cs.toArray 44)) (.cells cfZ 41)
 simp only [World.size_alloc] at hgz
 generalize (cs.drop 2).take 23=fs at hr hV
 have hfi : (Tryz.prog.info? 41).map (·.size)=some fs.length:=by rw [hV.len];kernel_rfl
 have hfi' : (Tryz.prog.info? 41).map (·.size)=some fs.toArray.size:=by rw [List.size_toArray];exact hfi
 have hold : cfZ.size=fs.toArray.size:=by rw [show fs.toArray.size=fs.length from List.size_toArray,hV.len];rfl
 have hone:=hV.one
 replace hV:=Lib.hid hV
 go_enter Tryz.func43,Tryz.ntmps43
 go_upto_region 2 with (first
  | (refine wpList_box_row 44 _ rfl rfl cs.toArray rfl ?_)
  | (refine wpList_load_at 41 _ rfl rfl w.heap.size 2 rfl fs _ hr Tryz.underlying41 rfl hfi ?_)
  | (refine wpList_alloc_row 41 rfl rfl cfZ cf_zero ?_;try simp only [World.size_alloc])
  | (refine wpList_store_at 41 _ _ rfl rfl (w.heap.size + 1) fs.toArray rfl rfl 41 cfZ hgz hfi' hold hone ?_
     rw [show w.heap.size + 1=(w.alloc (.cells cs.toArray 44)).heap.size by simp,setRow_new]
     try simp only [World.size_alloc]))
 generalize (w.alloc (.cells cs.toArray 44)).alloc (.cells fs.toArray 41)=w2 at *
 have hB:=Lib.hid hV.out.below
 have hcell : w2.cell? ⟨w.heap.size + 1,1,none⟩=some (.string (bs s)):=hV.out.f 1 _ ((hV.out.at_ 1 (by decide)).trans hc)
 have cC:=rescape_any (bs s) w2 (by rw [bs_size];exact hs)
 rw [bs_list] at cC
 replace cC:=Lib.hid cC
 clear hc
 go_wp2_with (first
  | (go_at_call 13;(with_reducible refine cC.out.mono ?_);rintro r w3 ⟨rfl,rfl⟩))
 go_ret
 exact ⟨rfl,hB.out⟩
set_option maxRecDepth 100000 in
set_option maxHeartbeats 4000000 in
theorem value_7 (cs : List Value) (w : World) (s : List UInt8) (hs : s.length≤1099511627776) (hl : cs.length=29) (h1 : cs.toArray.all (·.oneCell')=true) (hc : cs[4]? =some (.string (bs s))) :
 Calls Tryz.prog 43 #[.agg cs.toArray,.int .i64 7] w fun r w'=>r= .returned (.string (bs (wrPV (.text s))))∧Below w.heap.size w w':=by
 obtain ⟨hr,hV⟩:=vpre cs w hl h1
 have hgz:=heap_new (w.alloc (.cells cs.toArray 44)) (.cells cfZ 41)
 simp only [World.size_alloc] at hgz
 generalize (cs.drop 2).take 23=fs at hr hV
 have hfi : (Tryz.prog.info? 41).map (·.size)=some fs.length:=by rw [hV.len];kernel_rfl
 have hfi' : (Tryz.prog.info? 41).map (·.size)=some fs.toArray.size:=by rw [List.size_toArray];exact hfi
 have hold : cfZ.size=fs.toArray.size:=by rw [show fs.toArray.size=fs.length from List.size_toArray,hV.len];rfl
 have hone:=hV.one
 replace hV:=Lib.hid hV
 go_enter Tryz.func43,Tryz.ntmps43
 go_upto_region 2 with (first
  | (refine wpList_box_row 44 _ rfl rfl cs.toArray rfl ?_)
  | (refine wpList_load_at 41 _ rfl rfl w.heap.size 2 rfl fs _ hr Tryz.underlying41 rfl hfi ?_)
  | (refine wpList_alloc_row 41 rfl rfl cfZ cf_zero ?_;try simp only [World.size_alloc])
  | (refine wpList_store_at 41 _ _ rfl rfl (w.heap.size + 1) fs.toArray rfl rfl 41 cfZ hgz hfi' hold hone ?_
     rw [show w.heap.size + 1=(w.alloc (.cells cs.toArray 44)).heap.size by simp,setRow_new]
     try simp only [World.size_alloc]))
 generalize (w.alloc (.cells cs.toArray 44)).alloc (.cells fs.toArray 41)=w2 at *
 have hB:=Lib.hid hV.out.below
 have hcell : w2.cell? ⟨w.heap.size + 1,2,none⟩=some (.string (bs s)):=hV.out.f 2 _ ((hV.out.at_ 2 (by decide)).trans hc)
 have cC:=rescape_any (bs s) w2 (by rw [bs_size];exact hs)
 rw [bs_list] at cC
 replace cC:=Lib.hid cC
 clear hc
 go_wp2_with (first
  | (go_at_call 13;(with_reducible refine cC.out.mono ?_);rintro r w3 ⟨rfl,rfl⟩))
 go_ret
 exact ⟨rfl,hB.out⟩
set_option maxRecDepth 100000 in
set_option maxHeartbeats 4000000 in
theorem value_8 (cs : List Value) (w : World) (l : List (List UInt8)) (hl2 : (joinL 44 (l.map wrName)).length≤1099511627776) {A0 : Option Addr} {n0 c0 : Nat} {A1 : Option Addr} {n1 c1 : Nat} {A2 : Option Addr} {n2 c2 : Nat} {A3 : Option Addr} {n3 c3 : Nat} {A4 : Option Addr} {n4 c4 : Nat} {A5 : Option Addr} {n5 c5 : Nat} {A6 : Option Addr} {n6 c6 : Nat} {A7 : Option Addr} {n7 c7 : Nat} {A8 : Option Addr} {n8 c8 : Nat} (H : Rws w 1 A0 n0 (l.map fun s=>sv (bs s))) (hl : cs.length=29) (h1 : cs.toArray.all (·.oneCell')=true) (g0 : cs[5]? =some (.slice A0 n0 c0)) (g1 : cs[6]? =some (.slice A1 n1 c1)) (g2 : cs[7]? =some (.slice A2 n2 c2)) (g3 : cs[8]? =some (.slice A3 n3 c3)) (g4 : cs[9]? =some (.slice A4 n4 c4)) (g5 : cs[10]? =some (.slice A5 n5 c5)) (g6 : cs[11]? =some (.slice A6 n6 c6)) (g7 : cs[12]? =some (.slice A7 n7 c7)) (g8 : cs[13]? =some (.slice A8 n8 c8)) :
 Calls Tryz.prog 43 #[.agg cs.toArray,.int .i64 8] w fun r w'=>r= .returned (.string (bs (wrPV (.texts l))))∧Below w.heap.size w w':=by
 obtain ⟨hr,hV⟩:=vpre cs w hl h1
 have hgz:=heap_new (w.alloc (.cells cs.toArray 44)) (.cells cfZ 41)
 simp only [World.size_alloc] at hgz
 generalize (cs.drop 2).take 23=fs at hr hV
 have hfi : (Tryz.prog.info? 41).map (·.size)=some fs.length:=by rw [hV.len];kernel_rfl
 have hfi' : (Tryz.prog.info? 41).map (·.size)=some fs.toArray.size:=by rw [List.size_toArray];exact hfi
 have hold : cfZ.size=fs.toArray.size:=by rw [show fs.toArray.size=fs.length from List.size_toArray,hV.len];rfl
 have hone:=hV.one
 replace hV:=Lib.hid hV
 go_enter Tryz.func43,Tryz.ntmps43
 go_upto_region 2 with (first
  | (refine wpList_box_row 44 _ rfl rfl cs.toArray rfl ?_)
  | (refine wpList_load_at 41 _ rfl rfl w.heap.size 2 rfl fs _ hr Tryz.underlying41 rfl hfi ?_)
  | (refine wpList_alloc_row 41 rfl rfl cfZ cf_zero ?_;try simp only [World.size_alloc])
  | (refine wpList_store_at 41 _ _ rfl rfl (w.heap.size + 1) fs.toArray rfl rfl 41 cfZ hgz hfi' hold hone ?_
     rw [show w.heap.size + 1=(w.alloc (.cells cs.toArray 44)).heap.size by simp,setRow_new]
     try simp only [World.size_alloc]))
 generalize (w.alloc (.cells cs.toArray 44)).alloc (.cells fs.toArray 41)=w2 at *
 have hB:=Lib.hid hV.out.below
 have cL:=Lib.hid (rlists_any fs w2 ((hV.out.at_ 3 (by decide)).trans g0) ((hV.out.at_ 4 (by decide)).trans g1) ((hV.out.at_ 5 (by decide)).trans g2) ((hV.out.at_ 6 (by decide)).trans g3) ((hV.out.at_ 7 (by decide)).trans g4) ((hV.out.at_ 8 (by decide)).trans g5) ((hV.out.at_ 9 (by decide)).trans g6) ((hV.out.at_ 10 (by decide)).trans g7) ((hV.out.at_ 11 (by decide)).trans g8) hone)
 have hrf:=Lib.hid hV.out.r
 have cT:=Lib.hid (fun W' (h : Below w2.heap.size w2 W')=>rtexts_any l A0 n0 c0 W' ((H.keep hB.out).keep h) hl2)
 clear g0 g1 g2 g3 g4 g5 g6 g7 g8 H
 go_wp2_with (first
  | (refine wpList_load_at 41 _ rfl rfl (w.heap.size + 1) 0 rfl fs _ hrf.out Tryz.underlying41 rfl hfi ?_)
  | (go_at_call 71;(with_reducible refine cL.out.mono ?_);rintro r w3 ⟨A9,rfl,hRl,hb0⟩
     obtain ⟨b3,o3,z3,rfl,_,hz3,_,hr3⟩:=Rws.row hRl (j:=0) (by decide)
     obtain rfl:=Option.some.inj hz3
     have hcl : w3.cell? ⟨b3,o3,none⟩=some (.slice A0 n0 c0):=hr3 0 _ rfl
     have hb9:=Lib.hid hb0
     clear hRl hz3 hr3 hb0)
  | (go_at_call 70;(with_reducible refine (cT.out w3 hb9.out).mono ?_);rintro r w4 ⟨rfl,hb8⟩;have hb1:=Lib.hid (hb9.out.trans (hb8.mono hb9.out.size));clear hb8))
 go_ret
 exact ⟨rfl,hB.out.trans (hb1.out.mono hB.out.size)⟩
set_option maxRecDepth 100000 in
set_option maxHeartbeats 4000000 in
theorem value_9 (cs : List Value) (w : World) (l : List (List UInt8)) (hl2 : (joinL 44 (l.map wrName)).length≤1099511627776) {A0 : Option Addr} {n0 c0 : Nat} {A1 : Option Addr} {n1 c1 : Nat} {A2 : Option Addr} {n2 c2 : Nat} {A3 : Option Addr} {n3 c3 : Nat} {A4 : Option Addr} {n4 c4 : Nat} {A5 : Option Addr} {n5 c5 : Nat} {A6 : Option Addr} {n6 c6 : Nat} {A7 : Option Addr} {n7 c7 : Nat} {A8 : Option Addr} {n8 c8 : Nat} (H : Rws w 1 A1 n1 (l.map fun s=>sv (bs s))) (hl : cs.length=29) (h1 : cs.toArray.all (·.oneCell')=true) (g0 : cs[5]? =some (.slice A0 n0 c0)) (g1 : cs[6]? =some (.slice A1 n1 c1)) (g2 : cs[7]? =some (.slice A2 n2 c2)) (g3 : cs[8]? =some (.slice A3 n3 c3)) (g4 : cs[9]? =some (.slice A4 n4 c4)) (g5 : cs[10]? =some (.slice A5 n5 c5)) (g6 : cs[11]? =some (.slice A6 n6 c6)) (g7 : cs[12]? =some (.slice A7 n7 c7)) (g8 : cs[13]? =some (.slice A8 n8 c8)) :
 Calls Tryz.prog 43 #[.agg cs.toArray,.int .i64 9] w fun r w'=>r= .returned (.string (bs (wrPV (.texts l))))∧Below w.heap.size w w':=by
 obtain ⟨hr,hV⟩:=vpre cs w hl h1
 have hgz:=heap_new (w.alloc (.cells cs.toArray 44)) (.cells cfZ 41)
 simp only [World.size_alloc] at hgz
 generalize (cs.drop 2).take 23=fs at hr hV
 have hfi : (Tryz.prog.info? 41).map (·.size)=some fs.length:=by rw [hV.len];kernel_rfl
 have hfi' : (Tryz.prog.info? 41).map (·.size)=some fs.toArray.size:=by rw [List.size_toArray];exact hfi
 have hold : cfZ.size=fs.toArray.size:=by rw [show fs.toArray.size=fs.length from List.size_toArray,hV.len];rfl
 have hone:=hV.one
 replace hV:=Lib.hid hV
 go_enter Tryz.func43,Tryz.ntmps43
 go_upto_region 2 with (first
  | (refine wpList_box_row 44 _ rfl rfl cs.toArray rfl ?_)
  | (refine wpList_load_at 41 _ rfl rfl w.heap.size 2 rfl fs _ hr Tryz.underlying41 rfl hfi ?_)
  | (refine wpList_alloc_row 41 rfl rfl cfZ cf_zero ?_;try simp only [World.size_alloc])
  | (refine wpList_store_at 41 _ _ rfl rfl (w.heap.size + 1) fs.toArray rfl rfl 41 cfZ hgz hfi' hold hone ?_
     rw [show w.heap.size + 1=(w.alloc (.cells cs.toArray 44)).heap.size by simp,setRow_new]
     try simp only [World.size_alloc]))
 generalize (w.alloc (.cells cs.toArray 44)).alloc (.cells fs.toArray 41)=w2 at *
 have hB:=Lib.hid hV.out.below
 have cL:=Lib.hid (rlists_any fs w2 ((hV.out.at_ 3 (by decide)).trans g0) ((hV.out.at_ 4 (by decide)).trans g1) ((hV.out.at_ 5 (by decide)).trans g2) ((hV.out.at_ 6 (by decide)).trans g3) ((hV.out.at_ 7 (by decide)).trans g4) ((hV.out.at_ 8 (by decide)).trans g5) ((hV.out.at_ 9 (by decide)).trans g6) ((hV.out.at_ 10 (by decide)).trans g7) ((hV.out.at_ 11 (by decide)).trans g8) hone)
 have hrf:=Lib.hid hV.out.r
 have cT:=Lib.hid (fun W' (h : Below w2.heap.size w2 W')=>rtexts_any l A1 n1 c1 W' ((H.keep hB.out).keep h) hl2)
 clear g0 g1 g2 g3 g4 g5 g6 g7 g8 H
 go_wp2_with (first
  | (refine wpList_load_at 41 _ rfl rfl (w.heap.size + 1) 0 rfl fs _ hrf.out Tryz.underlying41 rfl hfi ?_)
  | (go_at_call 71;(with_reducible refine cL.out.mono ?_);rintro r w3 ⟨A9,rfl,hRl,hb0⟩
     obtain ⟨b3,o3,z3,rfl,_,hz3,_,hr3⟩:=Rws.row hRl (j:=1) (by decide)
     obtain rfl:=Option.some.inj hz3
     have hcl : w3.cell? ⟨b3,o3 + 1,none⟩=some (.slice A1 n1 c1):=hr3 0 _ rfl
     have hb9:=Lib.hid hb0
     clear hRl hz3 hr3 hb0)
  | (go_at_call 70;(with_reducible refine (cT.out w3 hb9.out).mono ?_);rintro r w4 ⟨rfl,hb8⟩;have hb1:=Lib.hid (hb9.out.trans (hb8.mono hb9.out.size));clear hb8))
 go_ret
 exact ⟨rfl,hB.out.trans (hb1.out.mono hB.out.size)⟩
set_option maxRecDepth 100000 in
set_option maxHeartbeats 4000000 in
theorem value_10 (cs : List Value) (w : World) (l : List (List UInt8)) (hl2 : (joinL 44 (l.map wrName)).length≤1099511627776) {A0 : Option Addr} {n0 c0 : Nat} {A1 : Option Addr} {n1 c1 : Nat} {A2 : Option Addr} {n2 c2 : Nat} {A3 : Option Addr} {n3 c3 : Nat} {A4 : Option Addr} {n4 c4 : Nat} {A5 : Option Addr} {n5 c5 : Nat} {A6 : Option Addr} {n6 c6 : Nat} {A7 : Option Addr} {n7 c7 : Nat} {A8 : Option Addr} {n8 c8 : Nat} (H : Rws w 1 A2 n2 (l.map fun s=>sv (bs s))) (hl : cs.length=29) (h1 : cs.toArray.all (·.oneCell')=true) (g0 : cs[5]? =some (.slice A0 n0 c0)) (g1 : cs[6]? =some (.slice A1 n1 c1)) (g2 : cs[7]? =some (.slice A2 n2 c2)) (g3 : cs[8]? =some (.slice A3 n3 c3)) (g4 : cs[9]? =some (.slice A4 n4 c4)) (g5 : cs[10]? =some (.slice A5 n5 c5)) (g6 : cs[11]? =some (.slice A6 n6 c6)) (g7 : cs[12]? =some (.slice A7 n7 c7)) (g8 : cs[13]? =some (.slice A8 n8 c8)) :
 Calls Tryz.prog 43 #[.agg cs.toArray,.int .i64 10] w fun r w'=>r= .returned (.string (bs (wrPV (.texts l))))∧Below w.heap.size w w':=by
 obtain ⟨hr,hV⟩:=vpre cs w hl h1
 have hgz:=heap_new (w.alloc (.cells cs.toArray 44)) (.cells cfZ 41)
 simp only [World.size_alloc] at hgz
 generalize (cs.drop 2).take 23=fs at hr hV
 have hfi : (Tryz.prog.info? 41).map (·.size)=some fs.length:=by rw [hV.len];kernel_rfl
 have hfi' : (Tryz.prog.info? 41).map (·.size)=some fs.toArray.size:=by rw [List.size_toArray];exact hfi
 have hold : cfZ.size=fs.toArray.size:=by rw [show fs.toArray.size=fs.length from List.size_toArray,hV.len];rfl
 have hone:=hV.one
 replace hV:=Lib.hid hV
 go_enter Tryz.func43,Tryz.ntmps43
 go_upto_region 2 with (first
  | (refine wpList_box_row 44 _ rfl rfl cs.toArray rfl ?_)
  | (refine wpList_load_at 41 _ rfl rfl w.heap.size 2 rfl fs _ hr Tryz.underlying41 rfl hfi ?_)
  | (refine wpList_alloc_row 41 rfl rfl cfZ cf_zero ?_;try simp only [World.size_alloc])
  | (refine wpList_store_at 41 _ _ rfl rfl (w.heap.size + 1) fs.toArray rfl rfl 41 cfZ hgz hfi' hold hone ?_
     rw [show w.heap.size + 1=(w.alloc (.cells cs.toArray 44)).heap.size by simp,setRow_new]
     try simp only [World.size_alloc]))
 generalize (w.alloc (.cells cs.toArray 44)).alloc (.cells fs.toArray 41)=w2 at *
 have hB:=Lib.hid hV.out.below
 have cL:=Lib.hid (rlists_any fs w2 ((hV.out.at_ 3 (by decide)).trans g0) ((hV.out.at_ 4 (by decide)).trans g1) ((hV.out.at_ 5 (by decide)).trans g2) ((hV.out.at_ 6 (by decide)).trans g3) ((hV.out.at_ 7 (by decide)).trans g4) ((hV.out.at_ 8 (by decide)).trans g5) ((hV.out.at_ 9 (by decide)).trans g6) ((hV.out.at_ 10 (by decide)).trans g7) ((hV.out.at_ 11 (by decide)).trans g8) hone)
 have hrf:=Lib.hid hV.out.r
 have cT:=Lib.hid (fun W' (h : Below w2.heap.size w2 W')=>rtexts_any l A2 n2 c2 W' ((H.keep hB.out).keep h) hl2)
 clear g0 g1 g2 g3 g4 g5 g6 g7 g8 H
 go_wp2_with (first
  | (refine wpList_load_at 41 _ rfl rfl (w.heap.size + 1) 0 rfl fs _ hrf.out Tryz.underlying41 rfl hfi ?_)
  | (go_at_call 71;(with_reducible refine cL.out.mono ?_);rintro r w3 ⟨A9,rfl,hRl,hb0⟩
     obtain ⟨b3,o3,z3,rfl,_,hz3,_,hr3⟩:=Rws.row hRl (j:=2) (by decide)
     obtain rfl:=Option.some.inj hz3
     have hcl : w3.cell? ⟨b3,o3 + 2,none⟩=some (.slice A2 n2 c2):=hr3 0 _ rfl
     have hb9:=Lib.hid hb0
     clear hRl hz3 hr3 hb0)
  | (go_at_call 70;(with_reducible refine (cT.out w3 hb9.out).mono ?_);rintro r w4 ⟨rfl,hb8⟩;have hb1:=Lib.hid (hb9.out.trans (hb8.mono hb9.out.size));clear hb8))
 go_ret
 exact ⟨rfl,hB.out.trans (hb1.out.mono hB.out.size)⟩
set_option maxRecDepth 100000 in
set_option maxHeartbeats 4000000 in
theorem value_11 (cs : List Value) (w : World) (l : List (List UInt8)) (hl2 : (joinL 44 (l.map wrName)).length≤1099511627776) {A0 : Option Addr} {n0 c0 : Nat} {A1 : Option Addr} {n1 c1 : Nat} {A2 : Option Addr} {n2 c2 : Nat} {A3 : Option Addr} {n3 c3 : Nat} {A4 : Option Addr} {n4 c4 : Nat} {A5 : Option Addr} {n5 c5 : Nat} {A6 : Option Addr} {n6 c6 : Nat} {A7 : Option Addr} {n7 c7 : Nat} {A8 : Option Addr} {n8 c8 : Nat} (H : Rws w 1 A3 n3 (l.map fun s=>sv (bs s))) (hl : cs.length=29) (h1 : cs.toArray.all (·.oneCell')=true) (g0 : cs[5]? =some (.slice A0 n0 c0)) (g1 : cs[6]? =some (.slice A1 n1 c1)) (g2 : cs[7]? =some (.slice A2 n2 c2)) (g3 : cs[8]? =some (.slice A3 n3 c3)) (g4 : cs[9]? =some (.slice A4 n4 c4)) (g5 : cs[10]? =some (.slice A5 n5 c5)) (g6 : cs[11]? =some (.slice A6 n6 c6)) (g7 : cs[12]? =some (.slice A7 n7 c7)) (g8 : cs[13]? =some (.slice A8 n8 c8)) :
 Calls Tryz.prog 43 #[.agg cs.toArray,.int .i64 11] w fun r w'=>r= .returned (.string (bs (wrPV (.texts l))))∧Below w.heap.size w w':=by
 obtain ⟨hr,hV⟩:=vpre cs w hl h1
 have hgz:=heap_new (w.alloc (.cells cs.toArray 44)) (.cells cfZ 41)
 simp only [World.size_alloc] at hgz
 generalize (cs.drop 2).take 23=fs at hr hV
 have hfi : (Tryz.prog.info? 41).map (·.size)=some fs.length:=by rw [hV.len];kernel_rfl
 have hfi' : (Tryz.prog.info? 41).map (·.size)=some fs.toArray.size:=by rw [List.size_toArray];exact hfi
 have hold : cfZ.size=fs.toArray.size:=by rw [show fs.toArray.size=fs.length from List.size_toArray,hV.len];rfl
 have hone:=hV.one
 replace hV:=Lib.hid hV
 go_enter Tryz.func43,Tryz.ntmps43
 go_upto_region 2 with (first
  | (refine wpList_box_row 44 _ rfl rfl cs.toArray rfl ?_)
  | (refine wpList_load_at 41 _ rfl rfl w.heap.size 2 rfl fs _ hr Tryz.underlying41 rfl hfi ?_)
  | (refine wpList_alloc_row 41 rfl rfl cfZ cf_zero ?_;try simp only [World.size_alloc])
  | (refine wpList_store_at 41 _ _ rfl rfl (w.heap.size + 1) fs.toArray rfl rfl 41 cfZ hgz hfi' hold hone ?_
     rw [show w.heap.size + 1=(w.alloc (.cells cs.toArray 44)).heap.size by simp,setRow_new]
     try simp only [World.size_alloc]))
 generalize (w.alloc (.cells cs.toArray 44)).alloc (.cells fs.toArray 41)=w2 at *
 have hB:=Lib.hid hV.out.below
 have cL:=Lib.hid (rlists_any fs w2 ((hV.out.at_ 3 (by decide)).trans g0) ((hV.out.at_ 4 (by decide)).trans g1) ((hV.out.at_ 5 (by decide)).trans g2) ((hV.out.at_ 6 (by decide)).trans g3) ((hV.out.at_ 7 (by decide)).trans g4) ((hV.out.at_ 8 (by decide)).trans g5) ((hV.out.at_ 9 (by decide)).trans g6) ((hV.out.at_ 10 (by decide)).trans g7) ((hV.out.at_ 11 (by decide)).trans g8) hone)
 have hrf:=Lib.hid hV.out.r
 have cT:=Lib.hid (fun W' (h : Below w2.heap.size w2 W')=>rtexts_any l A3 n3 c3 W' ((H.keep hB.out).keep h) hl2)
 clear g0 g1 g2 g3 g4 g5 g6 g7 g8 H
 go_wp2_with (first
  | (refine wpList_load_at 41 _ rfl rfl (w.heap.size + 1) 0 rfl fs _ hrf.out Tryz.underlying41 rfl hfi ?_)
  | (go_at_call 71;(with_reducible refine cL.out.mono ?_);rintro r w3 ⟨A9,rfl,hRl,hb0⟩
     obtain ⟨b3,o3,z3,rfl,_,hz3,_,hr3⟩:=Rws.row hRl (j:=3) (by decide)
     obtain rfl:=Option.some.inj hz3
     have hcl : w3.cell? ⟨b3,o3 + 3,none⟩=some (.slice A3 n3 c3):=hr3 0 _ rfl
     have hb9:=Lib.hid hb0
     clear hRl hz3 hr3 hb0)
  | (go_at_call 70;(with_reducible refine (cT.out w3 hb9.out).mono ?_);rintro r w4 ⟨rfl,hb8⟩;have hb1:=Lib.hid (hb9.out.trans (hb8.mono hb9.out.size));clear hb8))
 go_ret
 exact ⟨rfl,hB.out.trans (hb1.out.mono hB.out.size)⟩
set_option maxRecDepth 100000 in
set_option maxHeartbeats 4000000 in
theorem value_12 (cs : List Value) (w : World) (l : List (List UInt8)) (hl2 : (joinL 44 (l.map wrName)).length≤1099511627776) {A0 : Option Addr} {n0 c0 : Nat} {A1 : Option Addr} {n1 c1 : Nat} {A2 : Option Addr} {n2 c2 : Nat} {A3 : Option Addr} {n3 c3 : Nat} {A4 : Option Addr} {n4 c4 : Nat} {A5 : Option Addr} {n5 c5 : Nat} {A6 : Option Addr} {n6 c6 : Nat} {A7 : Option Addr} {n7 c7 : Nat} {A8 : Option Addr} {n8 c8 : Nat} (H : Rws w 1 A4 n4 (l.map fun s=>sv (bs s))) (hl : cs.length=29) (h1 : cs.toArray.all (·.oneCell')=true) (g0 : cs[5]? =some (.slice A0 n0 c0)) (g1 : cs[6]? =some (.slice A1 n1 c1)) (g2 : cs[7]? =some (.slice A2 n2 c2)) (g3 : cs[8]? =some (.slice A3 n3 c3)) (g4 : cs[9]? =some (.slice A4 n4 c4)) (g5 : cs[10]? =some (.slice A5 n5 c5)) (g6 : cs[11]? =some (.slice A6 n6 c6)) (g7 : cs[12]? =some (.slice A7 n7 c7)) (g8 : cs[13]? =some (.slice A8 n8 c8)) :
 Calls Tryz.prog 43 #[.agg cs.toArray,.int .i64 12] w fun r w'=>r= .returned (.string (bs (wrPV (.texts l))))∧Below w.heap.size w w':=by
 obtain ⟨hr,hV⟩:=vpre cs w hl h1
 have hgz:=heap_new (w.alloc (.cells cs.toArray 44)) (.cells cfZ 41)
 simp only [World.size_alloc] at hgz
 generalize (cs.drop 2).take 23=fs at hr hV
 have hfi : (Tryz.prog.info? 41).map (·.size)=some fs.length:=by rw [hV.len];kernel_rfl
 have hfi' : (Tryz.prog.info? 41).map (·.size)=some fs.toArray.size:=by rw [List.size_toArray];exact hfi
 have hold : cfZ.size=fs.toArray.size:=by rw [show fs.toArray.size=fs.length from List.size_toArray,hV.len];rfl
 have hone:=hV.one
 replace hV:=Lib.hid hV
 go_enter Tryz.func43,Tryz.ntmps43
 go_upto_region 2 with (first
  | (refine wpList_box_row 44 _ rfl rfl cs.toArray rfl ?_)
  | (refine wpList_load_at 41 _ rfl rfl w.heap.size 2 rfl fs _ hr Tryz.underlying41 rfl hfi ?_)
  | (refine wpList_alloc_row 41 rfl rfl cfZ cf_zero ?_;try simp only [World.size_alloc])
  | (refine wpList_store_at 41 _ _ rfl rfl (w.heap.size + 1) fs.toArray rfl rfl 41 cfZ hgz hfi' hold hone ?_
     rw [show w.heap.size + 1=(w.alloc (.cells cs.toArray 44)).heap.size by simp,setRow_new]
     try simp only [World.size_alloc]))
 generalize (w.alloc (.cells cs.toArray 44)).alloc (.cells fs.toArray 41)=w2 at *
 have hB:=Lib.hid hV.out.below
 have cL:=Lib.hid (rlists_any fs w2 ((hV.out.at_ 3 (by decide)).trans g0) ((hV.out.at_ 4 (by decide)).trans g1) ((hV.out.at_ 5 (by decide)).trans g2) ((hV.out.at_ 6 (by decide)).trans g3) ((hV.out.at_ 7 (by decide)).trans g4) ((hV.out.at_ 8 (by decide)).trans g5) ((hV.out.at_ 9 (by decide)).trans g6) ((hV.out.at_ 10 (by decide)).trans g7) ((hV.out.at_ 11 (by decide)).trans g8) hone)
 have hrf:=Lib.hid hV.out.r
 have cT:=Lib.hid (fun W' (h : Below w2.heap.size w2 W')=>rtexts_any l A4 n4 c4 W' ((H.keep hB.out).keep h) hl2)
 clear g0 g1 g2 g3 g4 g5 g6 g7 g8 H
 go_wp2_with (first
  | (refine wpList_load_at 41 _ rfl rfl (w.heap.size + 1) 0 rfl fs _ hrf.out Tryz.underlying41 rfl hfi ?_)
  | (go_at_call 71;(with_reducible refine cL.out.mono ?_);rintro r w3 ⟨A9,rfl,hRl,hb0⟩
     obtain ⟨b3,o3,z3,rfl,_,hz3,_,hr3⟩:=Rws.row hRl (j:=4) (by decide)
     obtain rfl:=Option.some.inj hz3
     have hcl : w3.cell? ⟨b3,o3 + 4,none⟩=some (.slice A4 n4 c4):=hr3 0 _ rfl
     have hb9:=Lib.hid hb0
     clear hRl hz3 hr3 hb0)
  | (go_at_call 70;(with_reducible refine (cT.out w3 hb9.out).mono ?_);rintro r w4 ⟨rfl,hb8⟩;have hb1:=Lib.hid (hb9.out.trans (hb8.mono hb9.out.size));clear hb8))
 go_ret
 exact ⟨rfl,hB.out.trans (hb1.out.mono hB.out.size)⟩
set_option maxRecDepth 100000 in
set_option maxHeartbeats 4000000 in
theorem value_13 (cs : List Value) (w : World) (l : List (List UInt8)) (hl2 : (joinL 44 (l.map wrName)).length≤1099511627776) {A0 : Option Addr} {n0 c0 : Nat} {A1 : Option Addr} {n1 c1 : Nat} {A2 : Option Addr} {n2 c2 : Nat} {A3 : Option Addr} {n3 c3 : Nat} {A4 : Option Addr} {n4 c4 : Nat} {A5 : Option Addr} {n5 c5 : Nat} {A6 : Option Addr} {n6 c6 : Nat} {A7 : Option Addr} {n7 c7 : Nat} {A8 : Option Addr} {n8 c8 : Nat} (H : Rws w 1 A5 n5 (l.map fun s=>sv (bs s))) (hl : cs.length=29) (h1 : cs.toArray.all (·.oneCell')=true) (g0 : cs[5]? =some (.slice A0 n0 c0)) (g1 : cs[6]? =some (.slice A1 n1 c1)) (g2 : cs[7]? =some (.slice A2 n2 c2)) (g3 : cs[8]? =some (.slice A3 n3 c3)) (g4 : cs[9]? =some (.slice A4 n4 c4)) (g5 : cs[10]? =some (.slice A5 n5 c5)) (g6 : cs[11]? =some (.slice A6 n6 c6)) (g7 : cs[12]? =some (.slice A7 n7 c7)) (g8 : cs[13]? =some (.slice A8 n8 c8)) :
 Calls Tryz.prog 43 #[.agg cs.toArray,.int .i64 13] w fun r w'=>r= .returned (.string (bs (wrPV (.texts l))))∧Below w.heap.size w w':=by
 obtain ⟨hr,hV⟩:=vpre cs w hl h1
 have hgz:=heap_new (w.alloc (.cells cs.toArray 44)) (.cells cfZ 41)
 simp only [World.size_alloc] at hgz
 generalize (cs.drop 2).take 23=fs at hr hV
 have hfi : (Tryz.prog.info? 41).map (·.size)=some fs.length:=by rw [hV.len];kernel_rfl
 have hfi' : (Tryz.prog.info? 41).map (·.size)=some fs.toArray.size:=by rw [List.size_toArray];exact hfi
 have hold : cfZ.size=fs.toArray.size:=by rw [show fs.toArray.size=fs.length from List.size_toArray,hV.len];rfl
 have hone:=hV.one
 replace hV:=Lib.hid hV
 go_enter Tryz.func43,Tryz.ntmps43
 go_upto_region 2 with (first
  | (refine wpList_box_row 44 _ rfl rfl cs.toArray rfl ?_)
  | (refine wpList_load_at 41 _ rfl rfl w.heap.size 2 rfl fs _ hr Tryz.underlying41 rfl hfi ?_)
  | (refine wpList_alloc_row 41 rfl rfl cfZ cf_zero ?_;try simp only [World.size_alloc])
  | (refine wpList_store_at 41 _ _ rfl rfl (w.heap.size + 1) fs.toArray rfl rfl 41 cfZ hgz hfi' hold hone ?_
     rw [show w.heap.size + 1=(w.alloc (.cells cs.toArray 44)).heap.size by simp,setRow_new]
     try simp only [World.size_alloc]))
 generalize (w.alloc (.cells cs.toArray 44)).alloc (.cells fs.toArray 41)=w2 at *
 have hB:=Lib.hid hV.out.below
 have cL:=Lib.hid (rlists_any fs w2 ((hV.out.at_ 3 (by decide)).trans g0) ((hV.out.at_ 4 (by decide)).trans g1) ((hV.out.at_ 5 (by decide)).trans g2) ((hV.out.at_ 6 (by decide)).trans g3) ((hV.out.at_ 7 (by decide)).trans g4) ((hV.out.at_ 8 (by decide)).trans g5) ((hV.out.at_ 9 (by decide)).trans g6) ((hV.out.at_ 10 (by decide)).trans g7) ((hV.out.at_ 11 (by decide)).trans g8) hone)
 have hrf:=Lib.hid hV.out.r
 have cT:=Lib.hid (fun W' (h : Below w2.heap.size w2 W')=>rtexts_any l A5 n5 c5 W' ((H.keep hB.out).keep h) hl2)
 clear g0 g1 g2 g3 g4 g5 g6 g7 g8 H
 go_wp2_with (first
  | (refine wpList_load_at 41 _ rfl rfl (w.heap.size + 1) 0 rfl fs _ hrf.out Tryz.underlying41 rfl hfi ?_)
  | (go_at_call 71;(with_reducible refine cL.out.mono ?_);rintro r w3 ⟨A9,rfl,hRl,hb0⟩
     obtain ⟨b3,o3,z3,rfl,_,hz3,_,hr3⟩:=Rws.row hRl (j:=5) (by decide)
     obtain rfl:=Option.some.inj hz3
     have hcl : w3.cell? ⟨b3,o3 + 5,none⟩=some (.slice A5 n5 c5):=hr3 0 _ rfl
     have hb9:=Lib.hid hb0
     clear hRl hz3 hr3 hb0)
  | (go_at_call 70;(with_reducible refine (cT.out w3 hb9.out).mono ?_);rintro r w4 ⟨rfl,hb8⟩;have hb1:=Lib.hid (hb9.out.trans (hb8.mono hb9.out.size));clear hb8))
 go_ret
 exact ⟨rfl,hB.out.trans (hb1.out.mono hB.out.size)⟩
set_option maxRecDepth 100000 in
set_option maxHeartbeats 4000000 in
theorem value_14 (cs : List Value) (w : World) (l : List (List UInt8)) (hl2 : (joinL 44 (l.map wrName)).length≤1099511627776) {A0 : Option Addr} {n0 c0 : Nat} {A1 : Option Addr} {n1 c1 : Nat} {A2 : Option Addr} {n2 c2 : Nat} {A3 : Option Addr} {n3 c3 : Nat} {A4 : Option Addr} {n4 c4 : Nat} {A5 : Option Addr} {n5 c5 : Nat} {A6 : Option Addr} {n6 c6 : Nat} {A7 : Option Addr} {n7 c7 : Nat} {A8 : Option Addr} {n8 c8 : Nat} (H : Rws w 1 A6 n6 (l.map fun s=>sv (bs s))) (hl : cs.length=29) (h1 : cs.toArray.all (·.oneCell')=true) (g0 : cs[5]? =some (.slice A0 n0 c0)) (g1 : cs[6]? =some (.slice A1 n1 c1)) (g2 : cs[7]? =some (.slice A2 n2 c2)) (g3 : cs[8]? =some (.slice A3 n3 c3)) (g4 : cs[9]? =some (.slice A4 n4 c4)) (g5 : cs[10]? =some (.slice A5 n5 c5)) (g6 : cs[11]? =some (.slice A6 n6 c6)) (g7 : cs[12]? =some (.slice A7 n7 c7)) (g8 : cs[13]? =some (.slice A8 n8 c8)) :
 Calls Tryz.prog 43 #[.agg cs.toArray,.int .i64 14] w fun r w'=>r= .returned (.string (bs (wrPV (.texts l))))∧Below w.heap.size w w':=by
 obtain ⟨hr,hV⟩:=vpre cs w hl h1
 have hgz:=heap_new (w.alloc (.cells cs.toArray 44)) (.cells cfZ 41)
 simp only [World.size_alloc] at hgz
 generalize (cs.drop 2).take 23=fs at hr hV
 have hfi : (Tryz.prog.info? 41).map (·.size)=some fs.length:=by rw [hV.len];kernel_rfl
 have hfi' : (Tryz.prog.info? 41).map (·.size)=some fs.toArray.size:=by rw [List.size_toArray];exact hfi
 have hold : cfZ.size=fs.toArray.size:=by rw [show fs.toArray.size=fs.length from List.size_toArray,hV.len];rfl
 have hone:=hV.one
 replace hV:=Lib.hid hV
 go_enter Tryz.func43,Tryz.ntmps43
 go_upto_region 2 with (first
  | (refine wpList_box_row 44 _ rfl rfl cs.toArray rfl ?_)
  | (refine wpList_load_at 41 _ rfl rfl w.heap.size 2 rfl fs _ hr Tryz.underlying41 rfl hfi ?_)
  | (refine wpList_alloc_row 41 rfl rfl cfZ cf_zero ?_;try simp only [World.size_alloc])
  | (refine wpList_store_at 41 _ _ rfl rfl (w.heap.size + 1) fs.toArray rfl rfl 41 cfZ hgz hfi' hold hone ?_
     rw [show w.heap.size + 1=(w.alloc (.cells cs.toArray 44)).heap.size by simp,setRow_new]
     try simp only [World.size_alloc]))
 generalize (w.alloc (.cells cs.toArray 44)).alloc (.cells fs.toArray 41)=w2 at *
 have hB:=Lib.hid hV.out.below
 have cL:=Lib.hid (rlists_any fs w2 ((hV.out.at_ 3 (by decide)).trans g0) ((hV.out.at_ 4 (by decide)).trans g1) ((hV.out.at_ 5 (by decide)).trans g2) ((hV.out.at_ 6 (by decide)).trans g3) ((hV.out.at_ 7 (by decide)).trans g4) ((hV.out.at_ 8 (by decide)).trans g5) ((hV.out.at_ 9 (by decide)).trans g6) ((hV.out.at_ 10 (by decide)).trans g7) ((hV.out.at_ 11 (by decide)).trans g8) hone)
 have hrf:=Lib.hid hV.out.r
 have cT:=Lib.hid (fun W' (h : Below w2.heap.size w2 W')=>rtexts_any l A6 n6 c6 W' ((H.keep hB.out).keep h) hl2)
 clear g0 g1 g2 g3 g4 g5 g6 g7 g8 H
 go_wp2_with (first
  | (refine wpList_load_at 41 _ rfl rfl (w.heap.size + 1) 0 rfl fs _ hrf.out Tryz.underlying41 rfl hfi ?_)
  | (go_at_call 71;(with_reducible refine cL.out.mono ?_);rintro r w3 ⟨A9,rfl,hRl,hb0⟩
     obtain ⟨b3,o3,z3,rfl,_,hz3,_,hr3⟩:=Rws.row hRl (j:=6) (by decide)
     obtain rfl:=Option.some.inj hz3
     have hcl : w3.cell? ⟨b3,o3 + 6,none⟩=some (.slice A6 n6 c6):=hr3 0 _ rfl
     have hb9:=Lib.hid hb0
     clear hRl hz3 hr3 hb0)
  | (go_at_call 70;(with_reducible refine (cT.out w3 hb9.out).mono ?_);rintro r w4 ⟨rfl,hb8⟩;have hb1:=Lib.hid (hb9.out.trans (hb8.mono hb9.out.size));clear hb8))
 go_ret
 exact ⟨rfl,hB.out.trans (hb1.out.mono hB.out.size)⟩
set_option maxRecDepth 100000 in
set_option maxHeartbeats 4000000 in
theorem value_15 (cs : List Value) (w : World) (l : List (List UInt8)) (hl2 : (joinL 44 (l.map wrName)).length≤1099511627776) {A0 : Option Addr} {n0 c0 : Nat} {A1 : Option Addr} {n1 c1 : Nat} {A2 : Option Addr} {n2 c2 : Nat} {A3 : Option Addr} {n3 c3 : Nat} {A4 : Option Addr} {n4 c4 : Nat} {A5 : Option Addr} {n5 c5 : Nat} {A6 : Option Addr} {n6 c6 : Nat} {A7 : Option Addr} {n7 c7 : Nat} {A8 : Option Addr} {n8 c8 : Nat} (H : Rws w 1 A7 n7 (l.map fun s=>sv (bs s))) (hl : cs.length=29) (h1 : cs.toArray.all (·.oneCell')=true) (g0 : cs[5]? =some (.slice A0 n0 c0)) (g1 : cs[6]? =some (.slice A1 n1 c1)) (g2 : cs[7]? =some (.slice A2 n2 c2)) (g3 : cs[8]? =some (.slice A3 n3 c3)) (g4 : cs[9]? =some (.slice A4 n4 c4)) (g5 : cs[10]? =some (.slice A5 n5 c5)) (g6 : cs[11]? =some (.slice A6 n6 c6)) (g7 : cs[12]? =some (.slice A7 n7 c7)) (g8 : cs[13]? =some (.slice A8 n8 c8)) :
 Calls Tryz.prog 43 #[.agg cs.toArray,.int .i64 15] w fun r w'=>r= .returned (.string (bs (wrPV (.texts l))))∧Below w.heap.size w w':=by
 obtain ⟨hr,hV⟩:=vpre cs w hl h1
 have hgz:=heap_new (w.alloc (.cells cs.toArray 44)) (.cells cfZ 41)
 simp only [World.size_alloc] at hgz
 generalize (cs.drop 2).take 23=fs at hr hV
 have hfi : (Tryz.prog.info? 41).map (·.size)=some fs.length:=by rw [hV.len];kernel_rfl
 have hfi' : (Tryz.prog.info? 41).map (·.size)=some fs.toArray.size:=by rw [List.size_toArray];exact hfi
 have hold : cfZ.size=fs.toArray.size:=by rw [show fs.toArray.size=fs.length from List.size_toArray,hV.len];rfl
 have hone:=hV.one
 replace hV:=Lib.hid hV
 go_enter Tryz.func43,Tryz.ntmps43
 go_upto_region 2 with (first
  | (refine wpList_box_row 44 _ rfl rfl cs.toArray rfl ?_)
  | (refine wpList_load_at 41 _ rfl rfl w.heap.size 2 rfl fs _ hr Tryz.underlying41 rfl hfi ?_)
  | (refine wpList_alloc_row 41 rfl rfl cfZ cf_zero ?_;try simp only [World.size_alloc])
  | (refine wpList_store_at 41 _ _ rfl rfl (w.heap.size + 1) fs.toArray rfl rfl 41 cfZ hgz hfi' hold hone ?_
     rw [show w.heap.size + 1=(w.alloc (.cells cs.toArray 44)).heap.size by simp,setRow_new]
     try simp only [World.size_alloc]))
 generalize (w.alloc (.cells cs.toArray 44)).alloc (.cells fs.toArray 41)=w2 at *
 have hB:=Lib.hid hV.out.below
 have cL:=Lib.hid (rlists_any fs w2 ((hV.out.at_ 3 (by decide)).trans g0) ((hV.out.at_ 4 (by decide)).trans g1) ((hV.out.at_ 5 (by decide)).trans g2) ((hV.out.at_ 6 (by decide)).trans g3) ((hV.out.at_ 7 (by decide)).trans g4) ((hV.out.at_ 8 (by decide)).trans g5) ((hV.out.at_ 9 (by decide)).trans g6) ((hV.out.at_ 10 (by decide)).trans g7) ((hV.out.at_ 11 (by decide)).trans g8) hone)
 have hrf:=Lib.hid hV.out.r
 have cT:=Lib.hid (fun W' (h : Below w2.heap.size w2 W')=>rtexts_any l A7 n7 c7 W' ((H.keep hB.out).keep h) hl2)
 clear g0 g1 g2 g3 g4 g5 g6 g7 g8 H
 go_wp2_with (first
  | (refine wpList_load_at 41 _ rfl rfl (w.heap.size + 1) 0 rfl fs _ hrf.out Tryz.underlying41 rfl hfi ?_)
  | (go_at_call 71;(with_reducible refine cL.out.mono ?_);rintro r w3 ⟨A9,rfl,hRl,hb0⟩
     obtain ⟨b3,o3,z3,rfl,_,hz3,_,hr3⟩:=Rws.row hRl (j:=7) (by decide)
     obtain rfl:=Option.some.inj hz3
     have hcl : w3.cell? ⟨b3,o3 + 7,none⟩=some (.slice A7 n7 c7):=hr3 0 _ rfl
     have hb9:=Lib.hid hb0
     clear hRl hz3 hr3 hb0)
  | (go_at_call 70;(with_reducible refine (cT.out w3 hb9.out).mono ?_);rintro r w4 ⟨rfl,hb8⟩;have hb1:=Lib.hid (hb9.out.trans (hb8.mono hb9.out.size));clear hb8))
 go_ret
 exact ⟨rfl,hB.out.trans (hb1.out.mono hB.out.size)⟩
set_option maxRecDepth 100000 in
set_option maxHeartbeats 4000000 in
theorem value_16 (cs : List Value) (w : World) (l : List (List UInt8)) (hl2 : (joinL 44 (l.map wrName)).length≤1099511627776) {A0 : Option Addr} {n0 c0 : Nat} {A1 : Option Addr} {n1 c1 : Nat} {A2 : Option Addr} {n2 c2 : Nat} {A3 : Option Addr} {n3 c3 : Nat} {A4 : Option Addr} {n4 c4 : Nat} {A5 : Option Addr} {n5 c5 : Nat} {A6 : Option Addr} {n6 c6 : Nat} {A7 : Option Addr} {n7 c7 : Nat} {A8 : Option Addr} {n8 c8 : Nat} (H : Rws w 1 A8 n8 (l.map fun s=>sv (bs s))) (hl : cs.length=29) (h1 : cs.toArray.all (·.oneCell')=true) (g0 : cs[5]? =some (.slice A0 n0 c0)) (g1 : cs[6]? =some (.slice A1 n1 c1)) (g2 : cs[7]? =some (.slice A2 n2 c2)) (g3 : cs[8]? =some (.slice A3 n3 c3)) (g4 : cs[9]? =some (.slice A4 n4 c4)) (g5 : cs[10]? =some (.slice A5 n5 c5)) (g6 : cs[11]? =some (.slice A6 n6 c6)) (g7 : cs[12]? =some (.slice A7 n7 c7)) (g8 : cs[13]? =some (.slice A8 n8 c8)) :
 Calls Tryz.prog 43 #[.agg cs.toArray,.int .i64 16] w fun r w'=>r= .returned (.string (bs (wrPV (.texts l))))∧Below w.heap.size w w':=by
 obtain ⟨hr,hV⟩:=vpre cs w hl h1
 have hgz:=heap_new (w.alloc (.cells cs.toArray 44)) (.cells cfZ 41)
 simp only [World.size_alloc] at hgz
 generalize (cs.drop 2).take 23=fs at hr hV
 have hfi : (Tryz.prog.info? 41).map (·.size)=some fs.length:=by rw [hV.len];kernel_rfl
 have hfi' : (Tryz.prog.info? 41).map (·.size)=some fs.toArray.size:=by rw [List.size_toArray];exact hfi
 have hold : cfZ.size=fs.toArray.size:=by rw [show fs.toArray.size=fs.length from List.size_toArray,hV.len];rfl
 have hone:=hV.one
 replace hV:=Lib.hid hV
 go_enter Tryz.func43,Tryz.ntmps43
 go_upto_region 2 with (first
  | (refine wpList_box_row 44 _ rfl rfl cs.toArray rfl ?_)
  | (refine wpList_load_at 41 _ rfl rfl w.heap.size 2 rfl fs _ hr Tryz.underlying41 rfl hfi ?_)
  | (refine wpList_alloc_row 41 rfl rfl cfZ cf_zero ?_;try simp only [World.size_alloc])
  | (refine wpList_store_at 41 _ _ rfl rfl (w.heap.size + 1) fs.toArray rfl rfl 41 cfZ hgz hfi' hold hone ?_
     rw [show w.heap.size + 1=(w.alloc (.cells cs.toArray 44)).heap.size by simp,setRow_new]
     try simp only [World.size_alloc]))
 generalize (w.alloc (.cells cs.toArray 44)).alloc (.cells fs.toArray 41)=w2 at *
 have hB:=Lib.hid hV.out.below
 have cL:=Lib.hid (rlists_any fs w2 ((hV.out.at_ 3 (by decide)).trans g0) ((hV.out.at_ 4 (by decide)).trans g1) ((hV.out.at_ 5 (by decide)).trans g2) ((hV.out.at_ 6 (by decide)).trans g3) ((hV.out.at_ 7 (by decide)).trans g4) ((hV.out.at_ 8 (by decide)).trans g5) ((hV.out.at_ 9 (by decide)).trans g6) ((hV.out.at_ 10 (by decide)).trans g7) ((hV.out.at_ 11 (by decide)).trans g8) hone)
 have hrf:=Lib.hid hV.out.r
 have cT:=Lib.hid (fun W' (h : Below w2.heap.size w2 W')=>rtexts_any l A8 n8 c8 W' ((H.keep hB.out).keep h) hl2)
 clear g0 g1 g2 g3 g4 g5 g6 g7 g8 H
 go_wp2_with (first
  | (refine wpList_load_at 41 _ rfl rfl (w.heap.size + 1) 0 rfl fs _ hrf.out Tryz.underlying41 rfl hfi ?_)
  | (go_at_call 71;(with_reducible refine cL.out.mono ?_);rintro r w3 ⟨A9,rfl,hRl,hb0⟩
     obtain ⟨b3,o3,z3,rfl,_,hz3,_,hr3⟩:=Rws.row hRl (j:=8) (by decide)
     obtain rfl:=Option.some.inj hz3
     have hcl : w3.cell? ⟨b3,o3 + 8,none⟩=some (.slice A8 n8 c8):=hr3 0 _ rfl
     have hb9:=Lib.hid hb0
     clear hRl hz3 hr3 hb0)
  | (go_at_call 70;(with_reducible refine (cT.out w3 hb9.out).mono ?_);rintro r w4 ⟨rfl,hb8⟩;have hb1:=Lib.hid (hb9.out.trans (hb8.mono hb9.out.size));clear hb8))
 go_ret
 exact ⟨rfl,hB.out.trans (hb1.out.mono hB.out.size)⟩
set_option maxRecDepth 100000 in
set_option maxHeartbeats 4000000 in
theorem value_17 (cs : List Value) (w : World) (n : Int) (hI : I64 n) (hl : cs.length=29) (h1 : cs.toArray.all (·.oneCell')=true) (hc : cs[14]? =some (.int .i64 n)) :
 Calls Tryz.prog 43 #[.agg cs.toArray,.int .i64 17] w fun r w'=>r= .returned (.string (bs (wrPV (.num n))))∧Below w.heap.size w w':=by
 obtain ⟨hr,hV⟩:=vpre cs w hl h1
 have hgz:=heap_new (w.alloc (.cells cs.toArray 44)) (.cells cfZ 41)
 simp only [World.size_alloc] at hgz
 generalize (cs.drop 2).take 23=fs at hr hV
 have hfi : (Tryz.prog.info? 41).map (·.size)=some fs.length:=by rw [hV.len];kernel_rfl
 have hfi' : (Tryz.prog.info? 41).map (·.size)=some fs.toArray.size:=by rw [List.size_toArray];exact hfi
 have hold : cfZ.size=fs.toArray.size:=by rw [show fs.toArray.size=fs.length from List.size_toArray,hV.len];rfl
 have hone:=hV.one
 replace hV:=Lib.hid hV
 go_enter Tryz.func43,Tryz.ntmps43
 go_upto_region 2 with (first
  | (refine wpList_box_row 44 _ rfl rfl cs.toArray rfl ?_)
  | (refine wpList_load_at 41 _ rfl rfl w.heap.size 2 rfl fs _ hr Tryz.underlying41 rfl hfi ?_)
  | (refine wpList_alloc_row 41 rfl rfl cfZ cf_zero ?_;try simp only [World.size_alloc])
  | (refine wpList_store_at 41 _ _ rfl rfl (w.heap.size + 1) fs.toArray rfl rfl 41 cfZ hgz hfi' hold hone ?_
     rw [show w.heap.size + 1=(w.alloc (.cells cs.toArray 44)).heap.size by simp,setRow_new]
     try simp only [World.size_alloc]))
 generalize (w.alloc (.cells cs.toArray 44)).alloc (.cells fs.toArray 41)=w2 at *
 have hB:=Lib.hid hV.out.below
 have hcell : w2.cell? ⟨w.heap.size + 1,12,none⟩=some (.int .i64 n):=hV.out.f 12 _ ((hV.out.at_ 12 (by decide)).trans hc)
 have cC:=Lib.hid (rcount_any n hI w2)
 clear hc
 go_wp2_with (first
  | (go_at_call 65;(with_reducible refine cC.out.mono ?_);rintro r w3 ⟨rfl,hb1⟩;replace hb1:=Lib.hid hb1))
 go_ret
 exact ⟨rfl,hB.out.trans (hb1.out.mono hB.out.size)⟩
set_option maxRecDepth 100000 in
set_option maxHeartbeats 4000000 in
theorem value_19 (cs : List Value) (w : World) (n : Int) (hI : I64 n) (hl : cs.length=29) (h1 : cs.toArray.all (·.oneCell')=true) (hc : cs[16]? =some (.int .i64 n)) :
 Calls Tryz.prog 43 #[.agg cs.toArray,.int .i64 19] w fun r w'=>r= .returned (.string (bs (wrPV (.num n))))∧Below w.heap.size w w':=by
 obtain ⟨hr,hV⟩:=vpre cs w hl h1
 have hgz:=heap_new (w.alloc (.cells cs.toArray 44)) (.cells cfZ 41)
 simp only [World.size_alloc] at hgz
 generalize (cs.drop 2).take 23=fs at hr hV
 have hfi : (Tryz.prog.info? 41).map (·.size)=some fs.length:=by rw [hV.len];kernel_rfl
 have hfi' : (Tryz.prog.info? 41).map (·.size)=some fs.toArray.size:=by rw [List.size_toArray];exact hfi
 have hold : cfZ.size=fs.toArray.size:=by rw [show fs.toArray.size=fs.length from List.size_toArray,hV.len];rfl
 have hone:=hV.one
 replace hV:=Lib.hid hV
 go_enter Tryz.func43,Tryz.ntmps43
 go_upto_region 2 with (first
  | (refine wpList_box_row 44 _ rfl rfl cs.toArray rfl ?_)
  | (refine wpList_load_at 41 _ rfl rfl w.heap.size 2 rfl fs _ hr Tryz.underlying41 rfl hfi ?_)
  | (refine wpList_alloc_row 41 rfl rfl cfZ cf_zero ?_;try simp only [World.size_alloc])
  | (refine wpList_store_at 41 _ _ rfl rfl (w.heap.size + 1) fs.toArray rfl rfl 41 cfZ hgz hfi' hold hone ?_
     rw [show w.heap.size + 1=(w.alloc (.cells cs.toArray 44)).heap.size by simp,setRow_new]
     try simp only [World.size_alloc]))
 generalize (w.alloc (.cells cs.toArray 44)).alloc (.cells fs.toArray 41)=w2 at *
 have hB:=Lib.hid hV.out.below
 have cC:=Lib.hid (more_19 fs n hI w2 ((hV.out.at_ 14 (by decide)).trans hc))
 have hrf:=Lib.hid hV.out.r
 clear hc
 go_wp2_with (first
  | (refine wpList_load_at 41 _ rfl rfl (w.heap.size + 1) 0 rfl fs _ hrf.out Tryz.underlying41 rfl hfi ?_)
  | (go_at_call 72;(with_reducible refine cC.out.mono ?_);rintro r w3 ⟨rfl,hb1⟩;replace hb1:=Lib.hid hb1))
 go_ret
 exact ⟨rfl,hB.out.trans (hb1.out.mono hB.out.size)⟩
set_option maxRecDepth 100000 in
set_option maxHeartbeats 4000000 in
theorem value_20 (cs : List Value) (w : World) (n : Int) (hI : I64 n) (hl : cs.length=29) (h1 : cs.toArray.all (·.oneCell')=true) (hc : cs[17]? =some (.int .i64 n)) :
 Calls Tryz.prog 43 #[.agg cs.toArray,.int .i64 20] w fun r w'=>r= .returned (.string (bs (wrPV (.num n))))∧Below w.heap.size w w':=by
 obtain ⟨hr,hV⟩:=vpre cs w hl h1
 have hgz:=heap_new (w.alloc (.cells cs.toArray 44)) (.cells cfZ 41)
 simp only [World.size_alloc] at hgz
 generalize (cs.drop 2).take 23=fs at hr hV
 have hfi : (Tryz.prog.info? 41).map (·.size)=some fs.length:=by rw [hV.len];kernel_rfl
 have hfi' : (Tryz.prog.info? 41).map (·.size)=some fs.toArray.size:=by rw [List.size_toArray];exact hfi
 have hold : cfZ.size=fs.toArray.size:=by rw [show fs.toArray.size=fs.length from List.size_toArray,hV.len];rfl
 have hone:=hV.one
 replace hV:=Lib.hid hV
 go_enter Tryz.func43,Tryz.ntmps43
 go_upto_region 2 with (first
  | (refine wpList_box_row 44 _ rfl rfl cs.toArray rfl ?_)
  | (refine wpList_load_at 41 _ rfl rfl w.heap.size 2 rfl fs _ hr Tryz.underlying41 rfl hfi ?_)
  | (refine wpList_alloc_row 41 rfl rfl cfZ cf_zero ?_;try simp only [World.size_alloc])
  | (refine wpList_store_at 41 _ _ rfl rfl (w.heap.size + 1) fs.toArray rfl rfl 41 cfZ hgz hfi' hold hone ?_
     rw [show w.heap.size + 1=(w.alloc (.cells cs.toArray 44)).heap.size by simp,setRow_new]
     try simp only [World.size_alloc]))
 generalize (w.alloc (.cells cs.toArray 44)).alloc (.cells fs.toArray 41)=w2 at *
 have hB:=Lib.hid hV.out.below
 have cC:=Lib.hid (more_20 fs n hI w2 ((hV.out.at_ 15 (by decide)).trans hc))
 have hrf:=Lib.hid hV.out.r
 clear hc
 go_wp2_with (first
  | (refine wpList_load_at 41 _ rfl rfl (w.heap.size + 1) 0 rfl fs _ hrf.out Tryz.underlying41 rfl hfi ?_)
  | (go_at_call 72;(with_reducible refine cC.out.mono ?_);rintro r w3 ⟨rfl,hb1⟩;replace hb1:=Lib.hid hb1))
 go_ret
 exact ⟨rfl,hB.out.trans (hb1.out.mono hB.out.size)⟩
set_option maxRecDepth 100000 in
set_option maxHeartbeats 4000000 in
theorem value_21 (cs : List Value) (w : World) (s : List UInt8) (hs : s.length≤1099511627776) (hl : cs.length=29) (h1 : cs.toArray.all (·.oneCell')=true) (hc : cs[18]? =some (.string (bs s))) :
 Calls Tryz.prog 43 #[.agg cs.toArray,.int .i64 21] w fun r w'=>r= .returned (.string (bs (wrPV (.text s))))∧Below w.heap.size w w':=by
 obtain ⟨hr,hV⟩:=vpre cs w hl h1
 have hgz:=heap_new (w.alloc (.cells cs.toArray 44)) (.cells cfZ 41)
 simp only [World.size_alloc] at hgz
 generalize (cs.drop 2).take 23=fs at hr hV
 have hfi : (Tryz.prog.info? 41).map (·.size)=some fs.length:=by rw [hV.len];kernel_rfl
 have hfi' : (Tryz.prog.info? 41).map (·.size)=some fs.toArray.size:=by rw [List.size_toArray];exact hfi
 have hold : cfZ.size=fs.toArray.size:=by rw [show fs.toArray.size=fs.length from List.size_toArray,hV.len];rfl
 have hone:=hV.one
 replace hV:=Lib.hid hV
 go_enter Tryz.func43,Tryz.ntmps43
 go_upto_region 2 with (first
  | (refine wpList_box_row 44 _ rfl rfl cs.toArray rfl ?_)
  | (refine wpList_load_at 41 _ rfl rfl w.heap.size 2 rfl fs _ hr Tryz.underlying41 rfl hfi ?_)
  | (refine wpList_alloc_row 41 rfl rfl cfZ cf_zero ?_;try simp only [World.size_alloc])
  | (refine wpList_store_at 41 _ _ rfl rfl (w.heap.size + 1) fs.toArray rfl rfl 41 cfZ hgz hfi' hold hone ?_
     rw [show w.heap.size + 1=(w.alloc (.cells cs.toArray 44)).heap.size by simp,setRow_new]
     try simp only [World.size_alloc]))
 generalize (w.alloc (.cells cs.toArray 44)).alloc (.cells fs.toArray 41)=w2 at *
 have hB:=Lib.hid hV.out.below
 have cC:=Lib.hid (more_21 fs s hs w2 ((hV.out.at_ 16 (by decide)).trans hc))
 have hrf:=Lib.hid hV.out.r
 clear hc
 go_wp2_with (first
  | (refine wpList_load_at 41 _ rfl rfl (w.heap.size + 1) 0 rfl fs _ hrf.out Tryz.underlying41 rfl hfi ?_)
  | (go_at_call 72;(with_reducible refine cC.out.mono ?_);rintro r w3 ⟨rfl,hb1⟩;replace hb1:=Lib.hid hb1))
 go_ret
 exact ⟨rfl,hB.out.trans (hb1.out.mono hB.out.size)⟩
set_option maxRecDepth 100000 in
set_option maxHeartbeats 4000000 in
theorem value_22 (cs : List Value) (w : World) (l : List Int) (hI : ∀x∈l,I64 x) (hn : l.length≤1099511627777) (A : Option Addr) (cc : Nat) (H : Rws w 1 A l.length (l.map iv)) (hl : cs.length=29) (h1 : cs.toArray.all (·.oneCell')=true) (hc : cs[19]? =some (.slice A l.length cc)) :
 Calls Tryz.prog 43 #[.agg cs.toArray,.int .i64 22] w fun r w'=>r= .returned (.string (bs (wrPV (.nums l))))∧Below w.heap.size w w':=by
 obtain ⟨hr,hV⟩:=vpre cs w hl h1
 have hgz:=heap_new (w.alloc (.cells cs.toArray 44)) (.cells cfZ 41)
 simp only [World.size_alloc] at hgz
 generalize (cs.drop 2).take 23=fs at hr hV
 have hfi : (Tryz.prog.info? 41).map (·.size)=some fs.length:=by rw [hV.len];kernel_rfl
 have hfi' : (Tryz.prog.info? 41).map (·.size)=some fs.toArray.size:=by rw [List.size_toArray];exact hfi
 have hold : cfZ.size=fs.toArray.size:=by rw [show fs.toArray.size=fs.length from List.size_toArray,hV.len];rfl
 have hone:=hV.one
 replace hV:=Lib.hid hV
 go_enter Tryz.func43,Tryz.ntmps43
 go_upto_region 2 with (first
  | (refine wpList_box_row 44 _ rfl rfl cs.toArray rfl ?_)
  | (refine wpList_load_at 41 _ rfl rfl w.heap.size 2 rfl fs _ hr Tryz.underlying41 rfl hfi ?_)
  | (refine wpList_alloc_row 41 rfl rfl cfZ cf_zero ?_;try simp only [World.size_alloc])
  | (refine wpList_store_at 41 _ _ rfl rfl (w.heap.size + 1) fs.toArray rfl rfl 41 cfZ hgz hfi' hold hone ?_
     rw [show w.heap.size + 1=(w.alloc (.cells cs.toArray 44)).heap.size by simp,setRow_new]
     try simp only [World.size_alloc]))
 generalize (w.alloc (.cells cs.toArray 44)).alloc (.cells fs.toArray 41)=w2 at *
 have hB:=Lib.hid hV.out.below
 have cC:=Lib.hid (more_22 fs w2 l hI hn A cc (H.keep hB.out) ((hV.out.at_ 17 (by decide)).trans hc))
 have hrf:=Lib.hid hV.out.r
 clear hc
 go_wp2_with (first
  | (refine wpList_load_at 41 _ rfl rfl (w.heap.size + 1) 0 rfl fs _ hrf.out Tryz.underlying41 rfl hfi ?_)
  | (go_at_call 72;(with_reducible refine cC.out.mono ?_);rintro r w3 ⟨rfl,hb1⟩;replace hb1:=Lib.hid hb1))
 go_ret
 exact ⟨rfl,hB.out.trans (hb1.out.mono hB.out.size)⟩
set_option maxRecDepth 100000 in
set_option maxHeartbeats 4000000 in
theorem value_23 (cs : List Value) (w : World) (b : Bool) (hl : cs.length=29) (h1 : cs.toArray.all (·.oneCell')=true) (hc : cs[20]? =some (.bool b)) :
 Calls Tryz.prog 43 #[.agg cs.toArray,.int .i64 23] w fun r w'=>r= .returned (.string (bs (wrPV (.flag b))))∧Below w.heap.size w w':=by
 obtain ⟨hr,hV⟩:=vpre cs w hl h1
 have hgz:=heap_new (w.alloc (.cells cs.toArray 44)) (.cells cfZ 41)
 simp only [World.size_alloc] at hgz
 generalize (cs.drop 2).take 23=fs at hr hV
 have hfi : (Tryz.prog.info? 41).map (·.size)=some fs.length:=by rw [hV.len];kernel_rfl
 have hfi' : (Tryz.prog.info? 41).map (·.size)=some fs.toArray.size:=by rw [List.size_toArray];exact hfi
 have hold : cfZ.size=fs.toArray.size:=by rw [show fs.toArray.size=fs.length from List.size_toArray,hV.len];rfl
 have hone:=hV.one
 replace hV:=Lib.hid hV
 go_enter Tryz.func43,Tryz.ntmps43
 go_upto_region 2 with (first
  | (refine wpList_box_row 44 _ rfl rfl cs.toArray rfl ?_)
  | (refine wpList_load_at 41 _ rfl rfl w.heap.size 2 rfl fs _ hr Tryz.underlying41 rfl hfi ?_)
  | (refine wpList_alloc_row 41 rfl rfl cfZ cf_zero ?_;try simp only [World.size_alloc])
  | (refine wpList_store_at 41 _ _ rfl rfl (w.heap.size + 1) fs.toArray rfl rfl 41 cfZ hgz hfi' hold hone ?_
     rw [show w.heap.size + 1=(w.alloc (.cells cs.toArray 44)).heap.size by simp,setRow_new]
     try simp only [World.size_alloc]))
 generalize (w.alloc (.cells cs.toArray 44)).alloc (.cells fs.toArray 41)=w2 at *
 have hB:=Lib.hid hV.out.below
 have cC:=Lib.hid (more_23 fs b w2 ((hV.out.at_ 18 (by decide)).trans hc))
 have hrf:=Lib.hid hV.out.r
 clear hc
 go_wp2_with (first
  | (refine wpList_load_at 41 _ rfl rfl (w.heap.size + 1) 0 rfl fs _ hrf.out Tryz.underlying41 rfl hfi ?_)
  | (go_at_call 72;(with_reducible refine cC.out.mono ?_);rintro r w3 ⟨rfl,hb1⟩;replace hb1:=Lib.hid hb1))
 go_ret
 exact ⟨rfl,hB.out.trans (hb1.out.mono hB.out.size)⟩
set_option maxRecDepth 100000 in
set_option maxHeartbeats 4000000 in
theorem value_24 (cs : List Value) (w : World) (b : Bool) (hl : cs.length=29) (h1 : cs.toArray.all (·.oneCell')=true) (hc : cs[21]? =some (.bool b)) :
 Calls Tryz.prog 43 #[.agg cs.toArray,.int .i64 24] w fun r w'=>r= .returned (.string (bs (wrPV (.flag b))))∧Below w.heap.size w w':=by
 obtain ⟨hr,hV⟩:=vpre cs w hl h1
 have hgz:=heap_new (w.alloc (.cells cs.toArray 44)) (.cells cfZ 41)
 simp only [World.size_alloc] at hgz
 generalize (cs.drop 2).take 23=fs at hr hV
 have hfi : (Tryz.prog.info? 41).map (·.size)=some fs.length:=by rw [hV.len];kernel_rfl
 have hfi' : (Tryz.prog.info? 41).map (·.size)=some fs.toArray.size:=by rw [List.size_toArray];exact hfi
 have hold : cfZ.size=fs.toArray.size:=by rw [show fs.toArray.size=fs.length from List.size_toArray,hV.len];rfl
 have hone:=hV.one
 replace hV:=Lib.hid hV
 go_enter Tryz.func43,Tryz.ntmps43
 go_upto_region 2 with (first
  | (refine wpList_box_row 44 _ rfl rfl cs.toArray rfl ?_)
  | (refine wpList_load_at 41 _ rfl rfl w.heap.size 2 rfl fs _ hr Tryz.underlying41 rfl hfi ?_)
  | (refine wpList_alloc_row 41 rfl rfl cfZ cf_zero ?_;try simp only [World.size_alloc])
  | (refine wpList_store_at 41 _ _ rfl rfl (w.heap.size + 1) fs.toArray rfl rfl 41 cfZ hgz hfi' hold hone ?_
     rw [show w.heap.size + 1=(w.alloc (.cells cs.toArray 44)).heap.size by simp,setRow_new]
     try simp only [World.size_alloc]))
 generalize (w.alloc (.cells cs.toArray 44)).alloc (.cells fs.toArray 41)=w2 at *
 have hB:=Lib.hid hV.out.below
 have cC:=Lib.hid (more_24 fs b w2 ((hV.out.at_ 19 (by decide)).trans hc))
 have hrf:=Lib.hid hV.out.r
 clear hc
 go_wp2_with (first
  | (refine wpList_load_at 41 _ rfl rfl (w.heap.size + 1) 0 rfl fs _ hrf.out Tryz.underlying41 rfl hfi ?_)
  | (go_at_call 72;(with_reducible refine cC.out.mono ?_);rintro r w3 ⟨rfl,hb1⟩;replace hb1:=Lib.hid hb1))
 go_ret
 exact ⟨rfl,hB.out.trans (hb1.out.mono hB.out.size)⟩
set_option maxRecDepth 100000 in
set_option maxHeartbeats 4000000 in
theorem value_25 (cs : List Value) (w : World) (x y z : Nat) (hx : x < 4294967296) (hy : y < 4294967296) (hz : z < 4294967296) (hl : cs.length=29) (h1 : cs.toArray.all (·.oneCell')=true) (hc : cs[22]? =some (.int .u32 x)) (hc2 : cs[23]? =some (.int .u32 y)) (hc3 : cs[24]? =some (.int .u32 z)) :
 Calls Tryz.prog 43 #[.agg cs.toArray,.int .i64 25] w fun r w'=>r= .returned (.string (bs (wrPV (.wish x y z))))∧Below w.heap.size w w':=by
 obtain ⟨hr,hV⟩:=vpre cs w hl h1
 have hgz:=heap_new (w.alloc (.cells cs.toArray 44)) (.cells cfZ 41)
 simp only [World.size_alloc] at hgz
 generalize (cs.drop 2).take 23=fs at hr hV
 have hfi : (Tryz.prog.info? 41).map (·.size)=some fs.length:=by rw [hV.len];kernel_rfl
 have hfi' : (Tryz.prog.info? 41).map (·.size)=some fs.toArray.size:=by rw [List.size_toArray];exact hfi
 have hold : cfZ.size=fs.toArray.size:=by rw [show fs.toArray.size=fs.length from List.size_toArray,hV.len];rfl
 have hone:=hV.one
 replace hV:=Lib.hid hV
 go_enter Tryz.func43,Tryz.ntmps43
 go_upto_region 2 with (first
  | (refine wpList_box_row 44 _ rfl rfl cs.toArray rfl ?_)
  | (refine wpList_load_at 41 _ rfl rfl w.heap.size 2 rfl fs _ hr Tryz.underlying41 rfl hfi ?_)
  | (refine wpList_alloc_row 41 rfl rfl cfZ cf_zero ?_;try simp only [World.size_alloc])
  | (refine wpList_store_at 41 _ _ rfl rfl (w.heap.size + 1) fs.toArray rfl rfl 41 cfZ hgz hfi' hold hone ?_
     rw [show w.heap.size + 1=(w.alloc (.cells cs.toArray 44)).heap.size by simp,setRow_new]
     try simp only [World.size_alloc]))
 generalize (w.alloc (.cells cs.toArray 44)).alloc (.cells fs.toArray 41)=w2 at *
 have hB:=Lib.hid hV.out.below
 have cC:=Lib.hid (more_25 fs x y z hx hy hz w2 ((hV.out.at_ 20 (by decide)).trans hc) ((hV.out.at_ 21 (by decide)).trans hc2) ((hV.out.at_ 22 (by decide)).trans hc3))
 have hrf:=Lib.hid hV.out.r
 clear hc
 go_wp2_with (first
  | (refine wpList_load_at 41 _ rfl rfl (w.heap.size + 1) 0 rfl fs _ hrf.out Tryz.underlying41 rfl hfi ?_)
  | (go_at_call 72;(with_reducible refine cC.out.mono ?_);rintro r w3 ⟨rfl,hb1⟩;replace hb1:=Lib.hid hb1))
 go_ret
 exact ⟨rfl,hB.out.trans (hb1.out.mono hB.out.size)⟩
end Go.Proofs.YtmicohmbmgbnkaaGreatDoor
