/- Prefs: the words of the lists, the methods' names. -/
import Derived.Test.YtfoegpacjkcidaaDoorPfB
import Derived.Test.YtfoegpacjkcidaaDoorNmA
import Derived.Test.YtfoegpacjkcidaaDoorBs
namespace Go.Proofs.YtfoegpacjkcidaaDoor
open Go.RowKit

def wordL : List ByteArray := [⟨#[107, 101, 120]⟩, ⟨#[104, 111, 115, 116]⟩, ⟨#[101, 110, 99, 45, 99]⟩, ⟨#[101, 110, 99, 45, 115]⟩, ⟨#[109, 97, 99, 45, 99]⟩, ⟨#[109, 97, 99, 45, 115]⟩, ⟨#[99, 111, 109, 112, 45, 99]⟩, ⟨#[99, 111, 109, 112, 45, 115]⟩]
def methL : List ByteArray := [⟨#[99, 117, 114, 118, 101, 50, 53, 53, 49, 57, 45, 115, 104, 97, 50, 53, 54]⟩, ⟨#[101, 99, 100, 104, 45, 115, 104, 97, 50, 45, 110, 105, 115, 116, 112, 50, 53, 54]⟩, ⟨#[100, 105, 102, 102, 105, 101, 45, 104, 101, 108, 108, 109, 97, 110, 45, 103, 114, 111, 117, 112, 45, 101, 120, 99, 104, 97, 110, 103, 101, 45, 115, 104, 97, 50, 53, 54]⟩]
/-- The two package variables as their own initialisers lay them. -/
structure PV (W : World) : Prop where
  m : ∀ (i : Nat) x, (⟨#[]⟩ :: methL)[i]? = some x → W.cell? ⟨0, i, none⟩ = some (.string x)
  w : ∀ (i : Nat) x, wordL[i]? = some x → W.cell? ⟨1, i, none⟩ = some (.string x)
  lm : 0 < W.heap.size
  lw : 1 < W.heap.size
theorem PV.keep {W W' : World} (h : PV W) (hb : Below W.heap.size W W') : PV W' :=
  ⟨fun i x hx => (hb.cell (p := ⟨0, i, none⟩) h.lm).trans (h.m i x hx), fun i x hx => (hb.cell (p := ⟨1, i, none⟩) h.lw).trans (h.w i x hx), Nat.lt_of_lt_of_le h.lm hb.size, Nat.lt_of_lt_of_le h.lw hb.size⟩
theorem ret_str' {a b : ByteArray} (h : a = b) : Ending.returned (.string a) = .returned (.string b) := by rw [h]
def wordAt (i : Int) : ByteArray := if 0 ≤ i ∧ i < 8 then wordL.getD i.toNat ⟨#[]⟩ else ⟨#[]⟩
def nameAt (i : Int) : ByteArray := if 0 ≤ i ∧ i < 4 then (⟨#[]⟩ :: methL).getD i.toNat ⟨#[]⟩ else ⟨#[]⟩
theorem getD_of {l : List ByteArray} {k : Nat} (h : k < l.length) : l[k]? = some (l.getD k ⟨#[]⟩) := by
  rw [List.getD_eq_getElem?_getD, List.getElem?_eq_getElem h]; rfl
theorem list_any (i : Int) (w : World) (h : PV w) :
    Calls Tryd.prog 36 #[.int .i64 i] w fun r w' => r = .returned (.string (wordAt i)) ∧ w = w' := by
  have hp : i < 0 ∨ (0 ≤ i ∧ 8 ≤ i) ∨ (0 ≤ i ∧ i < 8) := by omega
  rcases hp with h1 | ⟨h0, h1⟩ | ⟨h0, h1⟩
  · have hv := Lib.hid (show wordAt i = ⟨#[]⟩ by unfold wordAt; rw [if_neg (by omega)])
    go_enter Tryd.func36, Tryd.ntmps36
    go_wp2
    go_ret
    exact ⟨ret_str' hv.out.symm, rfl⟩
  · have hv := Lib.hid (show wordAt i = ⟨#[]⟩ by unfold wordAt; rw [if_neg (by omega)])
    go_enter Tryd.func36, Tryd.ntmps36
    go_wp2
    go_ret
    exact ⟨ret_str' hv.out.symm, rfl⟩
  · obtain ⟨k, rfl⟩ := Int.eq_ofNat_of_zero_le h0
    have hk : k < 8 := by omega
    have hc := h.w k _ (getD_of (l := wordL) hk)
    have hv := show wordAt (k : Int) = wordL.getD k ⟨#[]⟩ by unfold wordAt; rw [if_pos ⟨h0, h1⟩, Int.toNat_natCast]
    generalize wordL.getD k ⟨#[]⟩ = s at hc hv
    have hv := Lib.hid hv
    go_enter Tryd.func36, Tryd.ntmps36
    go_wp2
    go_ret
    exact ⟨ret_str' hv.out.symm, rfl⟩
/-- The method of a name. -/
def methN (s : ByteArray) : Int := if [99, 117, 114, 118, 101, 50, 53, 53, 49, 57, 45, 115, 104, 97, 50, 53, 54] == s.toList then 1 else if [101, 99, 100, 104, 45, 115, 104, 97, 50, 45, 110, 105, 115, 116, 112, 50, 53, 54] == s.toList then 2 else if [100, 105, 102, 102, 105, 101, 45, 104, 101, 108, 108, 109, 97, 110, 45, 103, 114, 111, 117, 112, 45, 101, 120, 99, 104, 97, 110, 103, 101, 45, 115, 104, 97, 50, 53, 54] == s.toList then 3 else 0
end Go.Proofs.YtfoegpacjkcidaaDoor
