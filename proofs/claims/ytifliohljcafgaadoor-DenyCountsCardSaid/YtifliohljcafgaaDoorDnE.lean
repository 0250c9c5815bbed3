/- Deny: copies of grants. -/
import Derived.Test.YtifliohljcafgaaDoorDnC
import Derived.Test.YtifliohljcafgaaDoorOwn
import Derived.Lib.SliceRun
namespace Go.Proofs.YtifliohljcafgaaDoor
open Go.RowKit

theorem flat_split {k : Nat} (hk : 0 < k) : ∀ {zs : List (List Value)}, (∀ z ∈ zs, z.length = k) → ∀ {j : Nat} {u : Value}, zs.flatten[j]? = some u → ∃ z, zs[j / k]? = some z ∧ z[j % k]? = some u := by
  intro zs
  induction zs with
  | nil => intro _ j u h; simp at h
  | cons y ys ih =>
    intro hz j u h
    have hy : y.length = k := hz y (by simp)
    rw [List.flatten_cons] at h
    by_cases hj : j < k
    · rw [List.getElem?_append_left (by omega)] at h
      rw [Nat.div_eq_of_lt hj, Nat.mod_eq_of_lt hj]
      exact ⟨y, rfl, h⟩
    · rw [List.getElem?_append_right (by omega), hy] at h
      obtain ⟨z, h1, h2⟩ := ih (fun z hz' => hz z (by simp [hz'])) h
      obtain ⟨i, rfl⟩ : ∃ i, j = i + k := ⟨j - k, by omega⟩
      rw [Nat.add_sub_cancel] at h1 h2
      rw [Nat.add_div_right _ hk, Nat.add_mod_right]
      exact ⟨z, by rw [List.getElem?_cons_succ]; exact h1, h2⟩
theorem Rws.flat {w : World} {k n : Nat} {A : Addr} {zs : List (List Value)} (hk : 0 < k) (h : Rws w k (some A) n zs) : ∀ j u, zs.flatten[j]? = some u → w.cell? (A.add j) = some u := by
  intro j u hj
  obtain ⟨z, h1, h2⟩ := flat_split hk h.2.1 hj
  have hn : 0 < n := by
    have := (List.getElem?_eq_some_iff.1 h1).1
    rw [h.1] at this
    exact Nat.lt_of_le_of_lt (Nat.zero_le _) this
  obtain ⟨b, off, e, _, hc⟩ := h.2.2 hn
  injection e with e
  subst e
  have := hc _ _ h1 _ _ h2
  rw [show off + j / k * k + j % k = off + j by rw [Nat.mul_comm, Nat.add_assoc, Nat.div_add_mod]] at this
  rwa [Addr.add_mid]
theorem gr_info : (Tryd.prog.info? 30).map (fun i => (i.zero, i.size, i.bytes)) = some (some (.agg #[.string ByteArray.empty, .int .i64 0]), 2, 24) := by kernel_rfl
set_option maxHeartbeats 2000000 in
set_option maxRecDepth 100000 in
theorem cloneG_any (gs : List Gr) (A : Option Addr) (n c : Nat) (w : World) (hn : n ≤ 1000000) (H : Grs w A n gs) :
    Calls Tryd.prog 21 #[.slice A n c] w fun r w' => ∃ v', r = .returned v' ∧ OwnR w' w.heap.size 2 30 v' (gs.map grv) ∧ Below w.heap.size w w' := by
  have hl := H.len
  have q := fun (w : World) (a : Option Addr) (n c n' c' : Nat) => Lib.run_eql_slice_nil (P := Tryd.prog) w 31 30 a n c n' c' Tryd.underlying31
  cases A with
  | none =>
    have h0 : n = 0 := by
      by_cases h : 0 < n
      · obtain ⟨b, off, e, _⟩ := H.2.2 h; cases e
      · omega
    subst h0
    have hs : gs = [] := List.eq_nil_of_length_eq_zero hl
    subst hs
    clear H hl
    go_enter Tryd.func21, Tryd.ntmps21
    go_wp2
    go_ret
    exact ⟨_, rfl, OwnR.nil_ _ _ _ _, Below.refl _ _⟩
  | some ad =>
    obtain ⟨i0, hi, hz0, hz1, hz2⟩ := info_parts gr_info
    have hB1 := Lib.hid (below_grow w (.cells #[] 30))
    have hc := Lib.hid ((H.keep hB1.out).flat (by decide))
    have hfl : (gs.map grv).flatten.length = n * 2 := by
      rw [← hl]
      clear hc hl H
      induction gs with
      | nil => rfl
      | cons x r ih => simp only [List.map_cons, List.flatten_cons, List.length_append, ih, List.length_cons]; show 2 + r.length * 2 = _; omega
    have hfl := Lib.hid hfl
    have hL := Lib.hid hl
    clear H hl
    go_enter Tryd.func21, Tryd.ntmps21
    go_wp2_with (at_builtin; refine wpList_append_own _ rfl _ _ 31 rfl w.heap.size 30 i0 (.agg #[.string ByteArray.empty, .int .i64 0]) 2 24 Tryd.underlying31 hi hz0 hz1 hz2 rfl (by decide) _ _ _ rfl (World.ownsRow_made w #[] 0 (Nat.le_refl _) (Nat.zero_le _) rfl) ad n c (gs.map grv).flatten rfl ?qc1 ?qc2 ?qc3 ?qc4 ?qc5 ?qc6 ?_)
    case qc1 => exact hfl.out
    case qc2 => exact hc.out
    case qc3 => intro u hu; obtain ⟨z, hz, hu⟩ := List.mem_flatten.1 hu; obtain ⟨x, _, rfl⟩ := List.mem_map.1 hz; simp [grv] at hu; rcases hu with rfl | rfl <;> rfl
    case qc4 => unfold maxLen; omega
    case qc5 => omega
    case qc6 => simp
    intro v' w1 hown hgrow hnil
    go_wp2
    go_ret
    refine ⟨v', rfl, ⟨by simpa [hL.out] using hown, fun z hz => by obtain ⟨x, _, rfl⟩ := List.mem_map.1 hz; rfl⟩, ?_⟩
    exact ((Below.refl _ w).alloc (Nat.le_refl _) _).grown hgrow (by simp) (by intro k hk; simp [Value.ownBlock] at hk; omega)
end Go.Proofs.YtifliohljcafgaaDoor
