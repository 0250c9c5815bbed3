/- shibbolethlaw07.Wrong: an error with a number, within just these places. -/
import Derived.Test.YtfoegpacjkcidaaDoorFlE
import Derived.Test.YtfoegpacjkcidaaDoorFlF
import Derived.Deep.RegionHeld3
namespace Go.Proofs.YtfoegpacjkcidaaDoor
open Go.RowKit

def spS (p : List ByteArray) : ByteArray := p.foldl (fun a s => a ++ s ++ ⟨#[32]⟩) ⟨#[]⟩
theorem spS_snoc (p : List ByteArray) (s : ByteArray) : spS (p ++ [s]) = spS p ++ s ++ ⟨#[32]⟩ := by unfold spS; rw [List.foldl_append]; rfl
theorem spS_le (p q : List ByteArray) : (spS p).size ≤ (spS (p ++ q)).size := by
  induction q generalizing p with
  | nil => rw [List.append_nil]; exact Nat.le_refl _
  | cons s q ih =>
    have h := ih (p ++ [s])
    rw [List.append_assoc, spS_snoc] at h
    refine Nat.le_trans ?_ h
    simp only [ByteArray.size_append]; omega
theorem spS_room {p : List ByteArray} {k : Nat} {s : ByteArray} (h : p[k]? = some s) : (spS (p.take k)).size + s.size + 1 ≤ (spS p).size := by
  have h1 := spS_le (p.take (k + 1)) (p.drop (k + 1))
  rw [List.take_append_drop, take_succ_of h, spS_snoc] at h1
  have h2 : (spS (p.take k) ++ s ++ ⟨#[32]⟩).size = (spS (p.take k)).size + s.size + 1 := by simp only [ByteArray.size_append]; rfl
  omega
theorem places_slice {w w' : World} {p : List ByteArray} {r : Ending} (h : Places w p r w') : ∃ A k c, r = .returned (.slice A k c) ∧ Hid (k = p.length) ∧ Hid (Strs w' A k p) ∧ Below w.heap.size w w' := by
  obtain ⟨v, rfl, ho, hb⟩ := h
  obtain ⟨A, c, rfl, hs⟩ := ho.strs
  exact ⟨A, p.length, c, rfl, rfl, hs, hb⟩

set_option maxRecDepth 100000 in
set_option maxHeartbeats 4000000 in
theorem wrong07_any (n : Int) (p : List ByteArray) (v : Value) (w : World) (hl : p.length ≤ 20) (hp : (spS p).size ≤ 1000000) (H : isErr w (some n) p v) (G : ETy w) :
    Calls Tryd.prog 19 #[v, .agg #[.int .i64 n, .string (spS p)]] w fun r w' => r = .returned (.bool true) ∧ Below w.heap.size w w' := by
  obtain ⟨T, u, rfl⟩ := isErr_some H
  have hB1 := (Below.refl w.heap.size w).alloc (Nat.le_refl _) (.cells #[.int .i64 n, .string (spS p)] 46)
  have cP := Lib.hid (path_any (some n) p (.iface T u) _ (by omega) (H.keep hB1) (G.keep hB1))
  have hc := heap_new w (.cells #[.int .i64 n, .string (spS p)] 46)
  have hlt := (Array.getElem?_eq_some_iff.1 hc).1
  have c0 : (w.alloc (.cells #[.int .i64 n, .string (spS p)] 46)).cell? ⟨w.heap.size, 0, none⟩ = some (.int .i64 n) := cell_of_row _ _ 0 _ _ _ hc
  have c1 : (w.alloc (.cells #[.int .i64 n, .string (spS p)] 46)).cell? ⟨w.heap.size, 1, none⟩ = some (.string (spS p)) := cell_of_row _ _ 1 _ _ _ hc
  have HE := Lib.hid (fun W (h : Below w.heap.size w W) => code_num n p (.iface T u) W (H.keep h) (G.keep h))
  have hB1 := Lib.hid hB1
  have c0 := Lib.hid c0
  have c1 := Lib.hid c1
  have hlt := Lib.hid hlt
  clear H G hc
  go_enter Tryd.func19, Tryd.ntmps19
  go_wp2_with (go_at_call 41; refine cP.out.mono ?_; rintro r w5 hpl; obtain ⟨A5, k5, cc5, rfl, hk5, hS5, hb5⟩ := places_slice hpl; clear hpl; have hB5 := Lib.hid (hB1.out.trans (hb5.mono hB1.out.size)); have d0 := Lib.hid ((hb5.cell (p := ⟨w.heap.size, 0, none⟩) hlt.out).trans c0.out); have d1 := Lib.hid ((hb5.cell (p := ⟨w.heap.size, 1, none⟩) hlt.out).trans c1.out); have hl5 := Lib.hid (Nat.lt_of_lt_of_le hlt.out hb5.size); clear hb5)
  have hk20 : k5 ≤ 20 := by rw [hk5.out]; exact hl
  go_loop [5, 7] (fun s i => ∃ m : Nat, m ≤ k5 ∧ i = .int .i64 m ∧ s = .string (spS (p.take m))) (fun _ i => k5 - (intOf i).toNat)
  case atStart => exact ⟨0, by omega, rfl, rfl⟩
  case round =>
    obtain ⟨m, hm, rfl, rfl⟩ := hrel
    by_cases hlt : m < k5
    · obtain ⟨b, off, s, rfl, hb, hs, hcs⟩ := hS5.out.at_ hlt
      have hroom := spS_room hs
      have hstep := Lib.hid (show spS (p.take (m + 1)) = spS (p.take m) ++ s ++ ⟨#[32]⟩ by rw [take_succ_of hs, spS_snoc])
      clear hs
      generalize spS (p.take m) = a at hroom hstep ⊢
      have h1 : a.size + s.size ≤ 1000000 := by omega
      have h2 : (a ++ s).size ≤ 1000000 := by rw [ByteArray.size_append]; omega
      have h3 : m < 20 := by omega
      clear hroom hp
      go_wp2_with fail
      go_round
      case rel => exact ⟨m + 1, by omega, by go_num, by rw [hstep.out]⟩
      case measure => simp [intOf]; omega
    · have hm5 : m = k5 := by omega
      have htk : p.take m = p := List.take_of_length_le (by rw [← hk5.out, hm5]; exact Nat.le_refl _)
      rw [htk]
      have hge : ¬ m < k5 := hlt
      generalize spS p = a at hp d1 ⊢
      clear htk hm5 hm hl
      have hS := Lib.hid (fun W (h : Below w5.heap.size w5 W) => (⟨(h.cell (p := ⟨w.heap.size, 0, none⟩) hl5.out).trans d0.out, (h.cell (p := ⟨w.heap.size, 1, none⟩) hl5.out).trans d1.out⟩ : W.cell? ⟨w.heap.size, 0, none⟩ = some (.int .i64 n) ∧ W.cell? ⟨w.heap.size, 1, none⟩ = some (.string a)))
      have hB0 := Lib.hid (show Below w5.heap.size w5 w5.drew from drewN_below 1)
      go_wp2_with fail
      go_region_held3 (fun W => W.cell? ⟨w.heap.size, 0, none⟩ = some (.int .i64 n) ∧ W.cell? ⟨w.heap.size, 1, none⟩ = some (.string a))
        (first | exact hS.out _ hB0.out | exact hS.out _ hB7.out)
        (first
          | (go_at_call 42; (with_reducible refine (HE.out _ (hB5.out.trans (hB0.out.mono hB5.out.size))).mono ?_); rintro r w7 ⟨rfl, hb7⟩; have hB7 := Lib.hid (hB0.out.trans (hb7.mono hB0.out.size)); clear hb7))
      all_goals
        go_wp2_with fail
        go_ret
        exact ⟨rfl, hB5.out.trans (hB7.out.mono hB5.out.size)⟩
end Go.Proofs.YtfoegpacjkcidaaDoor
