import Derived.Test.YtkgkpoiacbjdfaaTrC
namespace Go.Proofs.Ytkgkpoiacbjdfaa
open Go.RowKit

theorem ahead_none {es : List Ev} {who : Int} (h : es.any (isTaken who) = false) (at_ : Int) : ahead es who at_ = false := by
  unfold ahead
  rw [List.any_eq_false] at h ⊢
  intro x hx
  exact h x (List.mem_of_mem_take hx)
theorem kept_none {es : List Ev} {who : Int} (h : idx (isTaken who) es = -1) (at_ : Int) : kept es who at_ = true := by
  simp [kept, h]

end Go.Proofs.Ytkgkpoiacbjdfaa
