import Derived.Test.YtfoegpacjkcidaaTrC
namespace Go.Proofs.Ytfoegpacjkcidaa
open Go.RowKit

theorem ahead_none {es : List Ev} {who : Int} (h : es.any (isTaken who) = false) (at_ : Int) : ahead es who at_ = false := by
  unfold ahead
  rw [List.any_eq_false] at h ⊢
  intro x hx
  exact h x (List.mem_of_mem_take hx)
theorem kept_none {es : List Ev} {who : Int} (h : idx (isTaken who) es = -1) (at_ : Int) : kept es who at_ = true := by
  simp [kept, h]

set_option maxHeartbeats 400000 in
theorem law_trustTaken (es : List Ev) (A : Option Addr) (n c : Nat) (who : Int) (w : World) (hn : n ≤ 9223372036854775807) (H : Evs w A n es) :
    Calls Try.prog 3 #[.slice A n c, .int .i64 who] w fun r w' => r = .returned (.bool true) ∧ Below w.heap.size w w' := by
  have HH := Lib.hid H
  have hlen := Lib.hid H.len
  by_cases h60 : 60 < n
  · go_enter Try.func3, Try.ntmps3
    go_wp2_with (go_at_call 9; refine (awake_any _).mono ?_; rintro r w1 ⟨rfl, hb1⟩)
    go_ret
    exact ⟨rfl, hb1⟩
  rcases idx_cases (isTaken who) es with ⟨hi, hm⟩ | ⟨k, e, hi, he, hp, hm⟩
  · have ha := Lib.hid (ahead_none (who := who) hm n)
    have hk := Lib.hid (kept_none hi n)
    have hi := Lib.hid hi
    clear hm
    go_enter Try.func3, Try.ntmps3
    go_wp2_with (go_at_call 10; refine (takenAt_any es A n c who _ hn HH.out).mono ?_; rintro r w1 ⟨rfl, hb1⟩; rw [hi.out])
    refine (awake_any _).mono ?_
    rintro r w2 ⟨rfl, hb2⟩
    have b2 := hb1.trans (hb2.mono hb1.size)
    clear hb1 hb2
    go_wp2_with fail
    refine (ahead_any es A n c who n _ hn (HH.out.keep b2)).mono ?_
    rintro r w3 ⟨rfl, rfl⟩
    rw [ha.out]
    go_wp2_with fail
    refine (kept_any es A n c who n _ hn (HH.out.keep b2)).mono ?_
    rintro r w3 ⟨rfl, hb3⟩
    rw [hk.out]
    go_wp2_with fail
    go_ret
    exact ⟨rfl, b2.trans (hb3.mono b2.size)⟩
  · have hkl : k < n := by have := (List.getElem?_eq_some_iff.1 he).1; have := H.len; omega
    have ha := Lib.hid (show ahead es who k = false by simpa [ahead] using hm)
    have hk := Lib.hid (show kept es who k = true by simp [kept, hi])
    have hk1 := Lib.hid (show kept es who (k + 1) = false by simp [kept, hi]; omega)
    have hi := Lib.hid hi
    obtain ⟨b, off, e', rfl, hb, he', hr⟩ := H.row hkl
    obtain rfl : e' = e := by rw [he] at he'; injection he' with h; exact h.symm
    simp only [isTaken, Bool.and_eq_true, beq_iff_eq] at hp
    obtain ⟨hp0, hp3⟩ := hp
    obtain ⟨c0, c1, c2, c3⟩ := Ev.flds hr
    rw [hp0] at c0
    rw [hp3] at c3
    clear he he' hm hp0 hp3 hr c1 c2
    go_enter Try.func3, Try.ntmps3
    go_wp2_with (go_at_call 10; refine (takenAt_any es _ n c who _ hn HH.out).mono ?_; rintro r w1 ⟨rfl, hb1⟩; rw [hi.out])
    refine (awake_any _).mono ?_
    rintro r w2 ⟨rfl, hb2⟩
    have b2 := hb1.trans (hb2.mono hb1.size)
    have d0 := (b2.cell (p := ⟨b, off + k * 34, none⟩) hb).trans c0
    have d3 := (b2.cell (p := ⟨b, off + k * 34 + 3, none⟩) hb).trans c3
    clear hb1 hb2 c0 c3
    go_wp2_with fail
    refine (ahead_any es _ n c who k _ hn (HH.out.keep b2)).mono ?_
    rintro r w3 ⟨rfl, rfl⟩
    rw [ha.out]
    go_wp2_with fail
    refine (kept_any es _ n c who k _ hn (HH.out.keep b2)).mono ?_
    rintro r w3 ⟨rfl, hb3⟩
    rw [hk.out]
    have b3 := b2.trans (hb3.mono b2.size)
    clear b2 hb3 d0 d3
    go_wp2_with fail
    refine (kept_any es _ n c who (k + 1) _ hn (HH.out.keep b3)).mono ?_
    rintro r w4 ⟨rfl, hb4⟩
    rw [hk1.out]
    go_wp2_with fail
    go_ret
    exact ⟨rfl, b3.trans (hb4.mono b3.size)⟩
end Go.Proofs.Ytfoegpacjkcidaa
