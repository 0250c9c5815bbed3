import Derived.Test.YtbokdbppjiegjaaTrB
namespace Go.Proofs.Ytbokdbppjiegjaa
open Go.RowKit

def safe (es : List Ev) (at_ : Int) : Bool := if at_ < 0 then false else match es[at_.toNat]? with | none => false | some e => (e.kind == 2 || e.kind == 4) && kept es e.who at_

set_option maxHeartbeats 400000 in
theorem safe_any (es : List Ev) (A : Option Addr) (n c : Nat) (at_ : Int) (w : World) (hn : n ≤ 9223372036854775807) (H : Evs w A n es) :
    Calls Try.prog 39 #[.slice A n c, .int .i64 at_] w fun r w' => r = .returned (.bool (safe es at_)) ∧ Below w.heap.size w w' := by
  have HH := Lib.hid H
  have hlen := Lib.hid H.len
  by_cases h0 : at_ < 0
  · have hs := Lib.hid (show safe es at_ = false by simp [safe, h0])
    go_enter Try.func39, Try.ntmps39
    go_wp2_with fail
    go_ret
    exact ⟨ret_bool hs.out.symm, Below.refl _ _⟩
  obtain ⟨k, rfl⟩ := Int.eq_ofNat_of_zero_le (show 0 ≤ at_ by omega)
  by_cases hlt : k < n
  · obtain ⟨b, off, e, rfl, hb, he, hr⟩ := H.row hlt
    have hs := Lib.hid (show safe es k = ((e.kind == 2 || e.kind == 4) && kept es e.who k) by simp [safe, h0, he])
    have he := Lib.hid he
    have hg1 := heap_new w (.cells Ev.zero.cells.toArray 46)
    have e0 := e.at0
    have e3 := e.at3
    clear h0
    go_enter Try.func39, Try.ntmps39
    go_wp2_with (first
      | (refine wpList_load_at 46 _ rfl rfl b (off + k * 34) rfl e.cells _ hr Try.underlying46 rfl (by kernel_rfl) ?_)
      | (refine wpList_alloc_row 46 rfl rfl Ev.zero.cells.toArray ev_zero ?_; try simp only [World.size_alloc])
      | (refine wpList_store_at 46 _ _ rfl rfl w.heap.size e.cells.toArray rfl rfl 46 Ev.zero.cells.toArray hg1 (by kernel_rfl) rfl e.one ?_
         rw [setRow_new])
      | (go_at_call 59
         refine (kept_any es _ n c e.who k _ hn (HH.out.keep ((Below.refl _ _).alloc (Nat.le_refl _) _))).mono ?_
         rintro r w1 ⟨rfl, hb1⟩
         have hb2 : Below w.heap.size w w1 := ((Below.refl _ _).alloc (Nat.le_refl _) _).trans (hb1.mono (by simp))))
    all_goals
      go_ret
      refine ⟨ret_bool ?_, ?_⟩
      · rw [hs.out]; simp [*]
      · first | exact hb2 | exact (Below.refl _ _).alloc (Nat.le_refl _) _
  · have hs := Lib.hid (show safe es k = false by simp [safe, show es[k]? = none from List.getElem?_eq_none (by rw [hlen.out]; omega)])
    clear h0
    go_enter Try.func39, Try.ntmps39
    go_wp2_with fail
    go_ret
    exact ⟨ret_bool hs.out.symm, Below.refl _ _⟩

end Go.Proofs.Ytbokdbppjiegjaa
