/- The census: the walks of the reference's counts, of few and of within. -/
import Derived.Test.YtkgkpoiacbjdfaaTrE
import Derived.Deep.DeepCutAuto
namespace Go.Proofs.Ytkgkpoiacbjdfaa
open Go.RowKit

def win (x most : Int) : Int := if x < 0 ∨ most < x then 0 else x
theorem within_any (x most : Int) (w : World) :
    Calls Try.prog 49 #[.int .i64 x, .int .i64 most] w fun r w' => r = .returned (.int .i64 (win x most)) ∧ w = w' := by
  have hw : win x most = if x < 0 ∨ most < x then 0 else x := rfl
  by_cases h1 : x < 0
  · rw [if_pos (.inl h1)] at hw
    have hW := Lib.hid hw
    clear hw
    go_enter Try.func49, Try.ntmps49
    go_wp2_with fail
    go_ret
    exact ⟨ret_int hW.out.symm, rfl⟩
  by_cases h2 : most < x
  · rw [if_pos (.inr h2)] at hw
    have hW := Lib.hid hw
    clear hw
    go_enter Try.func49, Try.ntmps49
    go_wp2_with fail
    go_ret
    exact ⟨ret_int hW.out.symm, rfl⟩
  · rw [if_neg (by omega)] at hw
    have hW := Lib.hid hw
    clear hw
    go_enter Try.func49, Try.ntmps49
    go_wp2_with fail
    go_ret
    exact ⟨ret_int hW.out.symm, rfl⟩

theorem countP_take_succ {α : Type} (p : α → Bool) {l : List α} {k : Nat} {x : α} (h : l[k]? = some x) : (l.take (k + 1)).countP p = (l.take k).countP p + (if p x then 1 else 0) := by
  rw [take_succ_of h, List.countP_append]
  simp [List.countP_cons]
theorem countP_take_le {α : Type} (p : α → Bool) (l : List α) (k : Nat) : (l.take k).countP p ≤ k := Nat.le_trans List.countP_le_length (List.length_take_le _ _)

def kHit (place : Int) (e : Ev) : Bool := win e.kind 7 == place
def rHit (place : Int) (e : Ev) : Bool := e.kind == 6 && win e.num 15 == place
def mHit (place : Int) (e : Ev) : Bool := e.kind == 2 && win e.dn.method 3 == place
end Go.Proofs.Ytkgkpoiacbjdfaa
