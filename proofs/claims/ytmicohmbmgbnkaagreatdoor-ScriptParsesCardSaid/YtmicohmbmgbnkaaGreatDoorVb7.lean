/- Slices of integers: as a list; made by the call itself; the laws' 'has' and 'rises'. -/
import Derived.Test.YtmicohmbmgbnkaaGreatDoorVb0
import Derived.Test.YtmicohmbmgbnkaaGreatDoorProg
import Derived.BigQuiet
import Derived.Deep.QuietTactic
namespace Go.Proofs.YtmicohmbmgbnkaaGreatDoor
open Go.RowKit
def iv (x : Int) : List Value:=[.int .i64 x]
def Ints (w : World) (A : Option Addr) (n : Nat) (xs : List Int) : Prop:=Rws w 1 A n (xs.map iv)
theorem Ints.keep {w w' : World} {A : Option Addr} {n : Nat} {xs : List Int} (h : Ints w A n xs) (hb : Below w.heap.size w w') : Ints w' A n xs:=Rws.keep h hb
theorem Ints.len {w : World} {A : Option Addr} {n : Nat} {xs : List Int} (h : Ints w A n xs) : xs.length=n:=by simpa using h.1
theorem Ints.at_ {w : World} {A : Option Addr} {n : Nat} {xs : List Int} (h : Ints w A n xs) {j : Nat} (hj : j < n) :
 ∃b off x,A=some ⟨b,off,none⟩∧b < w.heap.size∧xs[j]? =some x∧w.cell? ⟨b,off + j,none⟩=some (.int .i64 x):=by
 obtain ⟨b,off,z,e,hlt,hz,_,hr⟩:=Rws.row h hj
 rw [List.getElem?_map] at hz
 cases he : xs[j]? with
 | none=>rw [he] at hz;cases hz
 | some x=>
   rw [he] at hz
   simp only [Option.map_some,Option.some.injEq] at hz
   subst hz
   have:=hr 0 _ rfl
   rw [Nat.mul_one,Nat.add_zero] at this
   exact ⟨b,off,x,e,hlt,rfl,this⟩
def OwnI (w : World) (base : Nat) (v : Value) (xs : List Int) : Prop:=OwnR w base 1 3 v (xs.map iv)
theorem OwnI.keep {w w' : World} {base : Nat} {v : Value} {xs : List Int} (h : OwnI w base v xs) (hb : Below w.heap.size w w') : OwnI w' base v xs:=OwnR.keep h hb
theorem int_info : (Tryz.prog.info? 3).map (fun i=>(i.zero,i.size,i.bytes))=some (some (.int .i64 0),1,8):=by kernel_rfl
end Go.Proofs.YtmicohmbmgbnkaaGreatDoor
