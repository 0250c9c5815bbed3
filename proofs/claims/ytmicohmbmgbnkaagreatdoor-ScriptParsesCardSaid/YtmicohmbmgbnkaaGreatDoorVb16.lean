/- The parts of a step. (printed by wip/gen_skx.py) -/
import Derived.Test.YtmicohmbmgbnkaaGreatDoorVb15
namespace Go.Proofs.YtmicohmbmgbnkaaGreatDoor
open Go Go.RowKit Go.Shelf
open Go.Lib (itoa)
def offT : List Nat:=[1,25,26,27,28,2,3,4,5,6,7,8,9,10,11,12,13,14,15,16,17,18,19,20,21,22]
def partRow (key : ByteArray) (g : Tag) (q : Nat) : List Value:=[.string key,.func (.func (wrF g)) #[] #[.pointer (some ⟨q,0,none⟩)],.func (.func (rdF g)) #[] #[.pointer (some ⟨q,0,none⟩)]]
def OfR (key : ByteArray) (g : Tag) (b off : Nat) (W : World) (r : Ending) (W' : World) : Prop:=
 ∃q,r= .returned (.agg (partRow key g q).toArray)∧BoxP W' q b off∧W.heap.size≤q∧q < W'.heap.size∧Below W.heap.size W W'
def paZ : Array Value:=#[.string ByteArray.empty,.nilFunc,.nilFunc]
theorem pa_zero : (Tryz.prog.info? 91).bind (·.zero)=some (.agg paZ):=by kernel_rfl
theorem pa_info : (Tryz.prog.info? 91).map (fun i=>(i.zero,i.size,i.bytes))=some (some (.agg paZ),3,32):=by kernel_rfl
theorem pa_built (s : ByteArray) (f h : Nat) (x y : Array Value) : Tryz.prog.built 91 [(0,.string s),(1,.func (.func f) #[] x),(2,.func (.func h) #[] y)]=some #[.string s,.func (.func f) #[] x,.func (.func h) #[] y]:=by kernel_rfl
set_option maxRecDepth 100000 in
set_option maxHeartbeats 2000000 in
theorem of_num (key : ByteArray) (b off : Nat) (W : World) : Calls Tryz.prog 57 #[.string key,.pointer (some ⟨b,off,none⟩)] W (OfR key .num b off W):=by
 have hb1:=below_new W (.cells #[.pointer (some ⟨b,off,none⟩)] 115)
 have hg1:=heap_new W (.cells #[.pointer (some ⟨b,off,none⟩)] 115)
 have hz:=heap_new (W.alloc (.cells #[.pointer (some ⟨b,off,none⟩)] 115)) (.cells paZ 91)
 have hb2:=below_new (W.alloc (.cells #[.pointer (some ⟨b,off,none⟩)] 115)) (.cells #[.string key,.func (.func 89) #[] #[.pointer (some ⟨W.heap.size,0,none⟩)],.func (.func 90) #[] #[.pointer (some ⟨W.heap.size,0,none⟩)]] 91)
 have hg2:=heap_new (W.alloc (.cells #[.pointer (some ⟨b,off,none⟩)] 115)) (.cells #[.string key,.func (.func 89) #[] #[.pointer (some ⟨W.heap.size,0,none⟩)],.func (.func 90) #[] #[.pointer (some ⟨W.heap.size,0,none⟩)]] 91)
 simp only [World.size_alloc] at hz hg2
 have hone : (#[.string key,.func (.func 89) #[] #[.pointer (some ⟨W.heap.size,0,none⟩)],.func (.func 90) #[] #[.pointer (some ⟨W.heap.size,0,none⟩)]] : Array Value).all (·.oneCell')=true:=by simp [Value.oneCell']
 have hB:=hb1.trans (hb2.mono hb1.size)
 have hq2:=(hb2.block W.heap.size (by simp)).trans hg1
 replace hB:=Lib.hid hB
 replace hq2:=Lib.hid hq2
 replace hg2:=Lib.hid hg2
 clear hb1 hg1 hb2
 go_enter Tryz.func57,Tryz.ntmps57
 go_wp2_with (first
  | (refine wpList_alloc_row 91 rfl rfl paZ pa_zero ?_;try simp only [World.size_alloc])
  | (refine wpList_build_as 91 _ rfl rfl #[.string key,.func (.func 89) #[] #[.pointer (some ⟨W.heap.size,0,none⟩)],.func (.func 90) #[] #[.pointer (some ⟨W.heap.size,0,none⟩)]] (pa_built _ _ _ _ _) ?_)
  | (refine wpList_store_at 91 _ _ rfl rfl (W.heap.size + 1) #[.string key,.func (.func 89) #[] #[.pointer (some ⟨W.heap.size,0,none⟩)],.func (.func 90) #[] #[.pointer (some ⟨W.heap.size,0,none⟩)]] rfl rfl 91 paZ hz (by kernel_rfl) rfl hone ?_
     rw [show W.heap.size + 1=(W.alloc (.cells #[.pointer (some ⟨b,off,none⟩)] 115)).heap.size by simp,setRow_new]
     simp only [World.size_alloc]))
 refine bodyPost_ret (results_cell_row rfl _ _ (W.heap.size + 1) 91 #[.string key,.func (.func 89) #[] #[.pointer (some ⟨W.heap.size,0,none⟩)],.func (.func 90) #[] #[.pointer (some ⟨W.heap.size,0,none⟩)]] (0,0) _ rfl hg2.out Tryz.underlying91 rfl (by kernel_rfl)) rfl ⟨W.heap.size,rfl,cell_of_row _ W.heap.size 0 _ _ _ hq2.out,Nat.le_refl _,(Array.getElem?_eq_some_iff.1 hq2.out).1,hB.out⟩
set_option maxRecDepth 100000 in
set_option maxHeartbeats 2000000 in
theorem of_text (key : ByteArray) (b off : Nat) (W : World) : Calls Tryz.prog 58 #[.string key,.pointer (some ⟨b,off,none⟩)] W (OfR key .text b off W):=by
 have hb1:=below_new W (.cells #[.pointer (some ⟨b,off,none⟩)] 117)
 have hg1:=heap_new W (.cells #[.pointer (some ⟨b,off,none⟩)] 117)
 have hz:=heap_new (W.alloc (.cells #[.pointer (some ⟨b,off,none⟩)] 117)) (.cells paZ 91)
 have hb2:=below_new (W.alloc (.cells #[.pointer (some ⟨b,off,none⟩)] 117)) (.cells #[.string key,.func (.func 92) #[] #[.pointer (some ⟨W.heap.size,0,none⟩)],.func (.func 93) #[] #[.pointer (some ⟨W.heap.size,0,none⟩)]] 91)
 have hg2:=heap_new (W.alloc (.cells #[.pointer (some ⟨b,off,none⟩)] 117)) (.cells #[.string key,.func (.func 92) #[] #[.pointer (some ⟨W.heap.size,0,none⟩)],.func (.func 93) #[] #[.pointer (some ⟨W.heap.size,0,none⟩)]] 91)
 simp only [World.size_alloc] at hz hg2
 have hone : (#[.string key,.func (.func 92) #[] #[.pointer (some ⟨W.heap.size,0,none⟩)],.func (.func 93) #[] #[.pointer (some ⟨W.heap.size,0,none⟩)]] : Array Value).all (·.oneCell')=true:=by simp [Value.oneCell']
 have hB:=hb1.trans (hb2.mono hb1.size)
 have hq2:=(hb2.block W.heap.size (by simp)).trans hg1
 replace hB:=Lib.hid hB
 replace hq2:=Lib.hid hq2
 replace hg2:=Lib.hid hg2
 clear hb1 hg1 hb2
 go_enter Tryz.func58,Tryz.ntmps58
 go_wp2_with (first
  | (refine wpList_alloc_row 91 rfl rfl paZ pa_zero ?_;try simp only [World.size_alloc])
  | (refine wpList_build_as 91 _ rfl rfl #[.string key,.func (.func 92) #[] #[.pointer (some ⟨W.heap.size,0,none⟩)],.func (.func 93) #[] #[.pointer (some ⟨W.heap.size,0,none⟩)]] (pa_built _ _ _ _ _) ?_)
  | (refine wpList_store_at 91 _ _ rfl rfl (W.heap.size + 1) #[.string key,.func (.func 92) #[] #[.pointer (some ⟨W.heap.size,0,none⟩)],.func (.func 93) #[] #[.pointer (some ⟨W.heap.size,0,none⟩)]] rfl rfl 91 paZ hz (by kernel_rfl) rfl hone ?_
     rw [show W.heap.size + 1=(W.alloc (.cells #[.pointer (some ⟨b,off,none⟩)] 117)).heap.size by simp,setRow_new]
     simp only [World.size_alloc]))
 refine bodyPost_ret (results_cell_row rfl _ _ (W.heap.size + 1) 91 #[.string key,.func (.func 92) #[] #[.pointer (some ⟨W.heap.size,0,none⟩)],.func (.func 93) #[] #[.pointer (some ⟨W.heap.size,0,none⟩)]] (0,0) _ rfl hg2.out Tryz.underlying91 rfl (by kernel_rfl)) rfl ⟨W.heap.size,rfl,cell_of_row _ W.heap.size 0 _ _ _ hq2.out,Nat.le_refl _,(Array.getElem?_eq_some_iff.1 hq2.out).1,hB.out⟩
set_option maxRecDepth 100000 in
set_option maxHeartbeats 2000000 in
theorem of_flag (key : ByteArray) (b off : Nat) (W : World) : Calls Tryz.prog 61 #[.string key,.pointer (some ⟨b,off,none⟩)] W (OfR key .flag b off W):=by
 have hb1:=below_new W (.cells #[.pointer (some ⟨b,off,none⟩)] 123)
 have hg1:=heap_new W (.cells #[.pointer (some ⟨b,off,none⟩)] 123)
 have hz:=heap_new (W.alloc (.cells #[.pointer (some ⟨b,off,none⟩)] 123)) (.cells paZ 91)
 have hb2:=below_new (W.alloc (.cells #[.pointer (some ⟨b,off,none⟩)] 123)) (.cells #[.string key,.func (.func 104) #[] #[.pointer (some ⟨W.heap.size,0,none⟩)],.func (.func 105) #[] #[.pointer (some ⟨W.heap.size,0,none⟩)]] 91)
 have hg2:=heap_new (W.alloc (.cells #[.pointer (some ⟨b,off,none⟩)] 123)) (.cells #[.string key,.func (.func 104) #[] #[.pointer (some ⟨W.heap.size,0,none⟩)],.func (.func 105) #[] #[.pointer (some ⟨W.heap.size,0,none⟩)]] 91)
 simp only [World.size_alloc] at hz hg2
 have hone : (#[.string key,.func (.func 104) #[] #[.pointer (some ⟨W.heap.size,0,none⟩)],.func (.func 105) #[] #[.pointer (some ⟨W.heap.size,0,none⟩)]] : Array Value).all (·.oneCell')=true:=by simp [Value.oneCell']
 have hB:=hb1.trans (hb2.mono hb1.size)
 have hq2:=(hb2.block W.heap.size (by simp)).trans hg1
 replace hB:=Lib.hid hB
 replace hq2:=Lib.hid hq2
 replace hg2:=Lib.hid hg2
 clear hb1 hg1 hb2
 go_enter Tryz.func61,Tryz.ntmps61
 go_wp2_with (first
  | (refine wpList_alloc_row 91 rfl rfl paZ pa_zero ?_;try simp only [World.size_alloc])
  | (refine wpList_build_as 91 _ rfl rfl #[.string key,.func (.func 104) #[] #[.pointer (some ⟨W.heap.size,0,none⟩)],.func (.func 105) #[] #[.pointer (some ⟨W.heap.size,0,none⟩)]] (pa_built _ _ _ _ _) ?_)
  | (refine wpList_store_at 91 _ _ rfl rfl (W.heap.size + 1) #[.string key,.func (.func 104) #[] #[.pointer (some ⟨W.heap.size,0,none⟩)],.func (.func 105) #[] #[.pointer (some ⟨W.heap.size,0,none⟩)]] rfl rfl 91 paZ hz (by kernel_rfl) rfl hone ?_
     rw [show W.heap.size + 1=(W.alloc (.cells #[.pointer (some ⟨b,off,none⟩)] 123)).heap.size by simp,setRow_new]
     simp only [World.size_alloc]))
 refine bodyPost_ret (results_cell_row rfl _ _ (W.heap.size + 1) 91 #[.string key,.func (.func 104) #[] #[.pointer (some ⟨W.heap.size,0,none⟩)],.func (.func 105) #[] #[.pointer (some ⟨W.heap.size,0,none⟩)]] (0,0) _ rfl hg2.out Tryz.underlying91 rfl (by kernel_rfl)) rfl ⟨W.heap.size,rfl,cell_of_row _ W.heap.size 0 _ _ _ hq2.out,Nat.le_refl _,(Array.getElem?_eq_some_iff.1 hq2.out).1,hB.out⟩
set_option maxRecDepth 100000 in
set_option maxHeartbeats 2000000 in
theorem of_nums (key : ByteArray) (b off : Nat) (W : World) : Calls Tryz.prog 60 #[.string key,.pointer (some ⟨b,off,none⟩)] W (OfR key .nums b off W):=by
 have hb1:=below_new W (.cells #[.pointer (some ⟨b,off,none⟩)] 121)
 have hg1:=heap_new W (.cells #[.pointer (some ⟨b,off,none⟩)] 121)
 have hz:=heap_new (W.alloc (.cells #[.pointer (some ⟨b,off,none⟩)] 121)) (.cells paZ 91)
 have hb2:=below_new (W.alloc (.cells #[.pointer (some ⟨b,off,none⟩)] 121)) (.cells #[.string key,.func (.func 100) #[] #[.pointer (some ⟨W.heap.size,0,none⟩)],.func (.func 102) #[] #[.pointer (some ⟨W.heap.size,0,none⟩)]] 91)
 have hg2:=heap_new (W.alloc (.cells #[.pointer (some ⟨b,off,none⟩)] 121)) (.cells #[.string key,.func (.func 100) #[] #[.pointer (some ⟨W.heap.size,0,none⟩)],.func (.func 102) #[] #[.pointer (some ⟨W.heap.size,0,none⟩)]] 91)
 simp only [World.size_alloc] at hz hg2
 have hone : (#[.string key,.func (.func 100) #[] #[.pointer (some ⟨W.heap.size,0,none⟩)],.func (.func 102) #[] #[.pointer (some ⟨W.heap.size,0,none⟩)]] : Array Value).all (·.oneCell')=true:=by simp [Value.oneCell']
 have hB:=hb1.trans (hb2.mono hb1.size)
 have hq2:=(hb2.block W.heap.size (by simp)).trans hg1
 replace hB:=Lib.hid hB
 replace hq2:=Lib.hid hq2
 replace hg2:=Lib.hid hg2
 clear hb1 hg1 hb2
 go_enter Tryz.func60,Tryz.ntmps60
 go_wp2_with (first
  | (refine wpList_alloc_row 91 rfl rfl paZ pa_zero ?_;try simp only [World.size_alloc])
  | (refine wpList_build_as 91 _ rfl rfl #[.string key,.func (.func 100) #[] #[.pointer (some ⟨W.heap.size,0,none⟩)],.func (.func 102) #[] #[.pointer (some ⟨W.heap.size,0,none⟩)]] (pa_built _ _ _ _ _) ?_)
  | (refine wpList_store_at 91 _ _ rfl rfl (W.heap.size + 1) #[.string key,.func (.func 100) #[] #[.pointer (some ⟨W.heap.size,0,none⟩)],.func (.func 102) #[] #[.pointer (some ⟨W.heap.size,0,none⟩)]] rfl rfl 91 paZ hz (by kernel_rfl) rfl hone ?_
     rw [show W.heap.size + 1=(W.alloc (.cells #[.pointer (some ⟨b,off,none⟩)] 121)).heap.size by simp,setRow_new]
     simp only [World.size_alloc]))
 refine bodyPost_ret (results_cell_row rfl _ _ (W.heap.size + 1) 91 #[.string key,.func (.func 100) #[] #[.pointer (some ⟨W.heap.size,0,none⟩)],.func (.func 102) #[] #[.pointer (some ⟨W.heap.size,0,none⟩)]] (0,0) _ rfl hg2.out Tryz.underlying91 rfl (by kernel_rfl)) rfl ⟨W.heap.size,rfl,cell_of_row _ W.heap.size 0 _ _ _ hq2.out,Nat.le_refl _,(Array.getElem?_eq_some_iff.1 hq2.out).1,hB.out⟩
set_option maxRecDepth 100000 in
set_option maxHeartbeats 2000000 in
theorem of_texts (key : ByteArray) (b off : Nat) (W : World) : Calls Tryz.prog 62 #[.string key,.pointer (some ⟨b,off,none⟩)] W (OfR key .texts b off W):=by
 have hb1:=below_new W (.cells #[.pointer (some ⟨b,off,none⟩)] 125)
 have hg1:=heap_new W (.cells #[.pointer (some ⟨b,off,none⟩)] 125)
 have hz:=heap_new (W.alloc (.cells #[.pointer (some ⟨b,off,none⟩)] 125)) (.cells paZ 91)
 have hb2:=below_new (W.alloc (.cells #[.pointer (some ⟨b,off,none⟩)] 125)) (.cells #[.string key,.func (.func 106) #[] #[.pointer (some ⟨W.heap.size,0,none⟩)],.func (.func 109) #[] #[.pointer (some ⟨W.heap.size,0,none⟩)]] 91)
 have hg2:=heap_new (W.alloc (.cells #[.pointer (some ⟨b,off,none⟩)] 125)) (.cells #[.string key,.func (.func 106) #[] #[.pointer (some ⟨W.heap.size,0,none⟩)],.func (.func 109) #[] #[.pointer (some ⟨W.heap.size,0,none⟩)]] 91)
 simp only [World.size_alloc] at hz hg2
 have hone : (#[.string key,.func (.func 106) #[] #[.pointer (some ⟨W.heap.size,0,none⟩)],.func (.func 109) #[] #[.pointer (some ⟨W.heap.size,0,none⟩)]] : Array Value).all (·.oneCell')=true:=by simp [Value.oneCell']
 have hB:=hb1.trans (hb2.mono hb1.size)
 have hq2:=(hb2.block W.heap.size (by simp)).trans hg1
 replace hB:=Lib.hid hB
 replace hq2:=Lib.hid hq2
 replace hg2:=Lib.hid hg2
 clear hb1 hg1 hb2
 go_enter Tryz.func62,Tryz.ntmps62
 go_wp2_with (first
  | (refine wpList_alloc_row 91 rfl rfl paZ pa_zero ?_;try simp only [World.size_alloc])
  | (refine wpList_build_as 91 _ rfl rfl #[.string key,.func (.func 106) #[] #[.pointer (some ⟨W.heap.size,0,none⟩)],.func (.func 109) #[] #[.pointer (some ⟨W.heap.size,0,none⟩)]] (pa_built _ _ _ _ _) ?_)
  | (refine wpList_store_at 91 _ _ rfl rfl (W.heap.size + 1) #[.string key,.func (.func 106) #[] #[.pointer (some ⟨W.heap.size,0,none⟩)],.func (.func 109) #[] #[.pointer (some ⟨W.heap.size,0,none⟩)]] rfl rfl 91 paZ hz (by kernel_rfl) rfl hone ?_
     rw [show W.heap.size + 1=(W.alloc (.cells #[.pointer (some ⟨b,off,none⟩)] 125)).heap.size by simp,setRow_new]
     simp only [World.size_alloc]))
 refine bodyPost_ret (results_cell_row rfl _ _ (W.heap.size + 1) 91 #[.string key,.func (.func 106) #[] #[.pointer (some ⟨W.heap.size,0,none⟩)],.func (.func 109) #[] #[.pointer (some ⟨W.heap.size,0,none⟩)]] (0,0) _ rfl hg2.out Tryz.underlying91 rfl (by kernel_rfl)) rfl ⟨W.heap.size,rfl,cell_of_row _ W.heap.size 0 _ _ _ hq2.out,Nat.le_refl _,(Array.getElem?_eq_some_iff.1 hq2.out).1,hB.out⟩
set_option maxRecDepth 100000 in
set_option maxHeartbeats 2000000 in
theorem of_ops (key : ByteArray) (b off : Nat) (W : World) : Calls Tryz.prog 59 #[.string key,.pointer (some ⟨b,off,none⟩)] W (OfR key .ops b off W):=by
 have hb1:=below_new W (.cells #[.pointer (some ⟨b,off,none⟩)] 119)
 have hg1:=heap_new W (.cells #[.pointer (some ⟨b,off,none⟩)] 119)
 have hz:=heap_new (W.alloc (.cells #[.pointer (some ⟨b,off,none⟩)] 119)) (.cells paZ 91)
 have hb2:=below_new (W.alloc (.cells #[.pointer (some ⟨b,off,none⟩)] 119)) (.cells #[.string key,.func (.func 94) #[] #[.pointer (some ⟨W.heap.size,0,none⟩)],.func (.func 97) #[] #[.pointer (some ⟨W.heap.size,0,none⟩)]] 91)
 have hg2:=heap_new (W.alloc (.cells #[.pointer (some ⟨b,off,none⟩)] 119)) (.cells #[.string key,.func (.func 94) #[] #[.pointer (some ⟨W.heap.size,0,none⟩)],.func (.func 97) #[] #[.pointer (some ⟨W.heap.size,0,none⟩)]] 91)
 simp only [World.size_alloc] at hz hg2
 have hone : (#[.string key,.func (.func 94) #[] #[.pointer (some ⟨W.heap.size,0,none⟩)],.func (.func 97) #[] #[.pointer (some ⟨W.heap.size,0,none⟩)]] : Array Value).all (·.oneCell')=true:=by simp [Value.oneCell']
 have hB:=hb1.trans (hb2.mono hb1.size)
 have hq2:=(hb2.block W.heap.size (by simp)).trans hg1
 replace hB:=Lib.hid hB
 replace hq2:=Lib.hid hq2
 replace hg2:=Lib.hid hg2
 clear hb1 hg1 hb2
 go_enter Tryz.func59,Tryz.ntmps59
 go_wp2_with (first
  | (refine wpList_alloc_row 91 rfl rfl paZ pa_zero ?_;try simp only [World.size_alloc])
  | (refine wpList_build_as 91 _ rfl rfl #[.string key,.func (.func 94) #[] #[.pointer (some ⟨W.heap.size,0,none⟩)],.func (.func 97) #[] #[.pointer (some ⟨W.heap.size,0,none⟩)]] (pa_built _ _ _ _ _) ?_)
  | (refine wpList_store_at 91 _ _ rfl rfl (W.heap.size + 1) #[.string key,.func (.func 94) #[] #[.pointer (some ⟨W.heap.size,0,none⟩)],.func (.func 97) #[] #[.pointer (some ⟨W.heap.size,0,none⟩)]] rfl rfl 91 paZ hz (by kernel_rfl) rfl hone ?_
     rw [show W.heap.size + 1=(W.alloc (.cells #[.pointer (some ⟨b,off,none⟩)] 119)).heap.size by simp,setRow_new]
     simp only [World.size_alloc]))
 refine bodyPost_ret (results_cell_row rfl _ _ (W.heap.size + 1) 91 #[.string key,.func (.func 94) #[] #[.pointer (some ⟨W.heap.size,0,none⟩)],.func (.func 97) #[] #[.pointer (some ⟨W.heap.size,0,none⟩)]] (0,0) _ rfl hg2.out Tryz.underlying91 rfl (by kernel_rfl)) rfl ⟨W.heap.size,rfl,cell_of_row _ W.heap.size 0 _ _ _ hq2.out,Nat.le_refl _,(Array.getElem?_eq_some_iff.1 hq2.out).1,hB.out⟩
set_option maxRecDepth 100000 in
set_option maxHeartbeats 2000000 in
theorem of_grants (key : ByteArray) (b off : Nat) (W : World) : Calls Tryz.prog 63 #[.string key,.pointer (some ⟨b,off,none⟩)] W (OfR key .grants b off W):=by
 have hb1:=below_new W (.cells #[.pointer (some ⟨b,off,none⟩)] 127)
 have hg1:=heap_new W (.cells #[.pointer (some ⟨b,off,none⟩)] 127)
 have hz:=heap_new (W.alloc (.cells #[.pointer (some ⟨b,off,none⟩)] 127)) (.cells paZ 91)
 have hb2:=below_new (W.alloc (.cells #[.pointer (some ⟨b,off,none⟩)] 127)) (.cells #[.string key,.func (.func 112) #[] #[.pointer (some ⟨W.heap.size,0,none⟩)],.func (.func 115) #[] #[.pointer (some ⟨W.heap.size,0,none⟩)]] 91)
 have hg2:=heap_new (W.alloc (.cells #[.pointer (some ⟨b,off,none⟩)] 127)) (.cells #[.string key,.func (.func 112) #[] #[.pointer (some ⟨W.heap.size,0,none⟩)],.func (.func 115) #[] #[.pointer (some ⟨W.heap.size,0,none⟩)]] 91)
 simp only [World.size_alloc] at hz hg2
 have hone : (#[.string key,.func (.func 112) #[] #[.pointer (some ⟨W.heap.size,0,none⟩)],.func (.func 115) #[] #[.pointer (some ⟨W.heap.size,0,none⟩)]] : Array Value).all (·.oneCell')=true:=by simp [Value.oneCell']
 have hB:=hb1.trans (hb2.mono hb1.size)
 have hq2:=(hb2.block W.heap.size (by simp)).trans hg1
 replace hB:=Lib.hid hB
 replace hq2:=Lib.hid hq2
 replace hg2:=Lib.hid hg2
 clear hb1 hg1 hb2
 go_enter Tryz.func63,Tryz.ntmps63
 go_wp2_with (first
  | (refine wpList_alloc_row 91 rfl rfl paZ pa_zero ?_;try simp only [World.size_alloc])
  | (refine wpList_build_as 91 _ rfl rfl #[.string key,.func (.func 112) #[] #[.pointer (some ⟨W.heap.size,0,none⟩)],.func (.func 115) #[] #[.pointer (some ⟨W.heap.size,0,none⟩)]] (pa_built _ _ _ _ _) ?_)
  | (refine wpList_store_at 91 _ _ rfl rfl (W.heap.size + 1) #[.string key,.func (.func 112) #[] #[.pointer (some ⟨W.heap.size,0,none⟩)],.func (.func 115) #[] #[.pointer (some ⟨W.heap.size,0,none⟩)]] rfl rfl 91 paZ hz (by kernel_rfl) rfl hone ?_
     rw [show W.heap.size + 1=(W.alloc (.cells #[.pointer (some ⟨b,off,none⟩)] 127)).heap.size by simp,setRow_new]
     simp only [World.size_alloc]))
 refine bodyPost_ret (results_cell_row rfl _ _ (W.heap.size + 1) 91 #[.string key,.func (.func 112) #[] #[.pointer (some ⟨W.heap.size,0,none⟩)],.func (.func 115) #[] #[.pointer (some ⟨W.heap.size,0,none⟩)]] (0,0) _ rfl hg2.out Tryz.underlying91 rfl (by kernel_rfl)) rfl ⟨W.heap.size,rfl,cell_of_row _ W.heap.size 0 _ _ _ hq2.out,Nat.le_refl _,(Array.getElem?_eq_some_iff.1 hq2.out).1,hB.out⟩
set_option maxRecDepth 100000 in
set_option maxHeartbeats 2000000 in
theorem of_wish (key : ByteArray) (b off : Nat) (W : World) : Calls Tryz.prog 64 #[.string key,.pointer (some ⟨b,off,none⟩)] W (OfR key .wish b off W):=by
 have hb1:=below_new W (.cells #[.pointer (some ⟨b,off,none⟩)] 129)
 have hg1:=heap_new W (.cells #[.pointer (some ⟨b,off,none⟩)] 129)
 have hz:=heap_new (W.alloc (.cells #[.pointer (some ⟨b,off,none⟩)] 129)) (.cells paZ 91)
 have hb2:=below_new (W.alloc (.cells #[.pointer (some ⟨b,off,none⟩)] 129)) (.cells #[.string key,.func (.func 118) #[] #[.pointer (some ⟨W.heap.size,0,none⟩)],.func (.func 120) #[] #[.pointer (some ⟨W.heap.size,0,none⟩)]] 91)
 have hg2:=heap_new (W.alloc (.cells #[.pointer (some ⟨b,off,none⟩)] 129)) (.cells #[.string key,.func (.func 118) #[] #[.pointer (some ⟨W.heap.size,0,none⟩)],.func (.func 120) #[] #[.pointer (some ⟨W.heap.size,0,none⟩)]] 91)
 simp only [World.size_alloc] at hz hg2
 have hone : (#[.string key,.func (.func 118) #[] #[.pointer (some ⟨W.heap.size,0,none⟩)],.func (.func 120) #[] #[.pointer (some ⟨W.heap.size,0,none⟩)]] : Array Value).all (·.oneCell')=true:=by simp [Value.oneCell']
 have hB:=hb1.trans (hb2.mono hb1.size)
 have hq2:=(hb2.block W.heap.size (by simp)).trans hg1
 replace hB:=Lib.hid hB
 replace hq2:=Lib.hid hq2
 replace hg2:=Lib.hid hg2
 clear hb1 hg1 hb2
 go_enter Tryz.func64,Tryz.ntmps64
 go_wp2_with (first
  | (refine wpList_alloc_row 91 rfl rfl paZ pa_zero ?_;try simp only [World.size_alloc])
  | (refine wpList_build_as 91 _ rfl rfl #[.string key,.func (.func 118) #[] #[.pointer (some ⟨W.heap.size,0,none⟩)],.func (.func 120) #[] #[.pointer (some ⟨W.heap.size,0,none⟩)]] (pa_built _ _ _ _ _) ?_)
  | (refine wpList_store_at 91 _ _ rfl rfl (W.heap.size + 1) #[.string key,.func (.func 118) #[] #[.pointer (some ⟨W.heap.size,0,none⟩)],.func (.func 120) #[] #[.pointer (some ⟨W.heap.size,0,none⟩)]] rfl rfl 91 paZ hz (by kernel_rfl) rfl hone ?_
     rw [show W.heap.size + 1=(W.alloc (.cells #[.pointer (some ⟨b,off,none⟩)] 129)).heap.size by simp,setRow_new]
     simp only [World.size_alloc]))
 refine bodyPost_ret (results_cell_row rfl _ _ (W.heap.size + 1) 91 #[.string key,.func (.func 118) #[] #[.pointer (some ⟨W.heap.size,0,none⟩)],.func (.func 120) #[] #[.pointer (some ⟨W.heap.size,0,none⟩)]] (0,0) _ rfl hg2.out Tryz.underlying91 rfl (by kernel_rfl)) rfl ⟨W.heap.size,rfl,cell_of_row _ W.heap.size 0 _ _ _ hq2.out,Nat.le_refl _,(Array.getElem?_eq_some_iff.1 hq2.out).1,hB.out⟩
end Go.Proofs.YtmicohmbmgbnkaaGreatDoor
