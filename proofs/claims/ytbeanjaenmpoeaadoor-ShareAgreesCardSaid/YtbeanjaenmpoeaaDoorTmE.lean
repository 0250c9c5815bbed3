/- Arenas: the walks of New, and of the copy of numbers. -/
import Derived.Test.YtbeanjaenmpoeaaDoorTmD
import Derived.Lib.SliceRun
import Derived.Carry
namespace Go.Proofs.YtbeanjaenmpoeaaDoor
open Go.RowKit Go.Maps

theorem flat_split {k : Nat} (hk : 0 < k) : ∀ {zs : List (List Value)}, (∀ z ∈ zs, z.length = k) → ∀ {j : Nat} {u : Value}, zs.flatten[j]? = some u → ∃ z, zs[j / k]? = some z ∧ z[j % k]? = some u := by
  intro zs
  induction zs with
  | nil => intro _ j u h; simp at h
  | cons y ys ih =>
    intro hz j u h
    have hy : y.length = k := hz y (by simp)
    rw [List.flatten_cons] at h
    by_cases hj : j < k
    · rw [List.getElem?_append_left (by omega)] at h
      rw [Nat.div_eq_of_lt hj, Nat.mod_eq_of_lt hj]
      exact ⟨y, rfl, h⟩
    · rw [List.getElem?_append_right (by omega), hy] at h
      obtain ⟨z, h1, h2⟩ := ih (fun z hz' => hz z (by simp [hz'])) h
      obtain ⟨i, rfl⟩ : ∃ i, j = i + k := ⟨j - k, by omega⟩
      rw [Nat.add_sub_cancel] at h1 h2
      rw [Nat.add_div_right _ hk, Nat.add_mod_right]
      exact ⟨z, by rw [List.getElem?_cons_succ]; exact h1, h2⟩
theorem Rws.flat {w : World} {k n : Nat} {A : Addr} {zs : List (List Value)} (hk : 0 < k) (h : Rws w k (some A) n zs) : ∀ j u, zs.flatten[j]? = some u → w.cell? (A.add j) = some u := by
  intro j u hj
  obtain ⟨z, h1, h2⟩ := flat_split hk h.2.1 hj
  have hn : 0 < n := by
    have := (List.getElem?_eq_some_iff.1 h1).1
    rw [h.1] at this
    exact Nat.lt_of_le_of_lt (Nat.zero_le _) this
  obtain ⟨b, off, e, _, hc⟩ := h.2.2 hn
  injection e with e
  subst e
  have := hc _ _ h1 _ _ h2
  rw [show off + j / k * k + j % k = off + j by rw [Nat.mul_comm, Nat.add_assoc, Nat.div_add_mod]] at this
  rwa [Addr.add_mid]

theorem id_info : (Tryd.prog.info? 26).map (fun i => (i.zero, i.size, i.bytes)) = some (some (.int .i64 0), 1, 8) := by kernel_rfl
theorem idv_len (xs : List Nat) : ((xs.map idv).flatten).length = xs.length := by
  induction xs with
  | nil => rfl
  | cons x r ih => simp only [List.map_cons, List.flatten_cons, List.length_append, ih, List.length_cons]; show 1 + r.length = _; omega
theorem IdsV.of_own {w : World} {base : Nat} {v : Value} {xs : List Nat} (h : OwnR w base 1 26 v (xs.map idv)) : IdsV w v xs := by
  have h1 := h.1.2
  obtain ⟨A, c, rfl, hr⟩ := h.rws
  rw [List.length_map] at hr
  refine ⟨A, c, by rw [List.length_map], hr, fun hn => ?_⟩
  rcases h1 with ⟨_, h0⟩ | ⟨g, cap, cur, e, _, hg, _⟩
  · rw [List.length_map] at h0; omega
  · injection e with e1 e2 e3
    exact ⟨g, 0, cur, (0, 0), e1, hg⟩
set_option maxHeartbeats 2000000 in
set_option maxRecDepth 100000 in
theorem cloneI_any (xs : List Nat) (A : Option Addr) (n c : Nat) (w : World) (hl : xs.length = n) (hn : n ≤ 1000000) (H : Rws w 1 A n (xs.map idv)) :
    Calls Tryd.prog 49 #[.slice A n c] w fun r w' => ∃ v', r = .returned v' ∧ OwnR w' w.heap.size 1 26 v' (xs.map idv) ∧ Below w.heap.size w w' := by
  have q := fun (w : World) (a : Option Addr) (n c n' c' : Nat) => Lib.run_eql_slice_nil (P := Tryd.prog) w 40 26 a n c n' c' Tryd.underlying40
  cases A with
  | none =>
    have h0 : n = 0 := by
      by_cases h : 0 < n
      · obtain ⟨b, off, e, _⟩ := H.2.2 h; cases e
      · omega
    subst h0
    have hs : xs = [] := List.eq_nil_of_length_eq_zero hl
    subst hs
    clear H hl
    go_enter Tryd.func49, Tryd.ntmps49
    go_wp2
    go_ret
    exact ⟨_, rfl, OwnR.nil_ _ _ _ _, Below.refl _ _⟩
  | some ad =>
    obtain ⟨i0, hi, hz0, hz1, hz2⟩ := info_parts id_info
    have hB1 := Lib.hid (below_new w (.cells #[] 26))
    have hc := Lib.hid ((H.keep hB1.out).flat (by decide))
    have hfl := Lib.hid (show (xs.map idv).flatten.length = n * 1 by rw [idv_len, hl, Nat.mul_one])
    have hL := Lib.hid hl
    clear H hl
    go_enter Tryd.func49, Tryd.ntmps49
    go_wp2_with (at_builtin; refine wpList_append_own _ rfl _ _ 40 rfl w.heap.size 26 i0 (.int .i64 0) 1 8 Tryd.underlying40 hi hz0 hz1 hz2 rfl (by decide) _ _ _ rfl (World.ownsRow_made w #[] 0 (Nat.le_refl _) (Nat.zero_le _) rfl) ad n c (xs.map idv).flatten rfl ?qc1 ?qc2 ?qc3 ?qc4 ?qc5 ?qc6 ?_)
    case qc1 => exact hfl.out
    case qc2 => exact hc.out
    case qc3 => intro u hu; obtain ⟨z, hz, hu⟩ := List.mem_flatten.1 hu; obtain ⟨x, _, rfl⟩ := List.mem_map.1 hz; simp [idv] at hu; subst hu; rfl
    case qc4 => unfold maxLen; omega
    case qc5 => omega
    case qc6 => simp
    intro v' w1 hown hgrow hnil
    go_wp2
    go_ret
    refine ⟨v', rfl, ⟨by simpa [hL.out] using hown, fun z hz => by obtain ⟨x, _, rfl⟩ := List.mem_map.1 hz; rfl⟩, ?_⟩
    exact ((Below.refl _ w).alloc (Nat.le_refl _) _).grown hgrow (by simp) (by intro k hk; simp [Value.ownBlock] at hk; omega)

def Ar.empty (g bm : Nat) : Ar := ⟨g, bm, .slice none 0 0, .slice none 0 0, []⟩
theorem arena_new {w : World} {B g bm : Nat} (hg : w.heap[g]? = some (.cells #[.slice none 0 0, .slice none 0 0, .map (some bm)] 90 (0, 0))) (h1 : B ≤ g) (h2 : B ≤ bm) (hb : w.heap[bm]? = some (.map #[] 0)) : Arena w B (Ar.empty g bm) where
  blk := hg
  hg := h1
  hm := h2
  nodes := OwnR.nil_ _ _ _ _
  sizes := OwnR.nil_ _ _ _ _
  map := ⟨.map [], ⟨#[], 0, hb, ⟨by simp, MapKept.stamped_empty 0, by simp⟩, Nat.le_refl _, rfl⟩, fun j x kl h => by simp [Ar.empty] at h, fun kl h => by simp [Maps.has] at h⟩
  ids := by simp [Ar.empty]
  args := by simp [Ar.empty]
  good := Good.nil_
  few := by simp [Ar.empty]
theorem tnew_any (w : World) :
    Calls Tryd.prog 12 #[] w fun r w' => ∃ A, r = .returned (.pointer (some ⟨A.g, 0, none⟩)) ∧ A.N = [] ∧ Arena w' w.heap.size A ∧ Below w.heap.size w w' := by
  have hB := Lib.hid ((below_new w (.map #[] 0)).alloc (below_new w (.map #[] 0)).size (.cells #[.slice none 0 0, .slice none 0 0, .map (some w.heap.size)] 90))
  have h1 := heap_past (heap_new w (.map #[] 0)) (.cells #[.slice none 0 0, .slice none 0 0, .map (some w.heap.size)] 90)
  have h2 := heap_new (w.alloc (.map #[] 0)) (.cells #[.slice none 0 0, .slice none 0 0, .map (some w.heap.size)] 90)
  simp only [World.size_alloc] at h2
  have hA := Lib.hid (arena_new (B := w.heap.size) h2 (by omega) (Nat.le_refl _) h1)
  clear h1 h2
  have hmm := @run_makeMap Tryd.prog
  go_enter Tryd.func12, Tryd.ntmps12
  go_wp2_with (first
    | (refine wpList_build_as 90 _ rfl rfl #[.slice none 0 0, .slice none 0 0, .map (some w.heap.size)] ?_ ?_; kernel_rfl)
    | (refine wpList_box_row 90 _ rfl rfl #[.slice none 0 0, .slice none 0 0, .map (some w.heap.size)] rfl ?_))
  trace_state
  go_ret
  exact ⟨Ar.empty (w.heap.size + 1) w.heap.size, rfl, rfl, hA.out, hB.out⟩
end Go.Proofs.YtbeanjaenmpoeaaDoor
