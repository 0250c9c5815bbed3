/- The page's example; the walk of LineScans. -/
import Derived.Test.YtjiepgldgcghlaaLnC
namespace Go.Proofs.Ytjiepgldgcghlaa
open Go.RowKit

theorem mk_xy : mkLn ⟨#[120]⟩ ⟨#[121]⟩ = ⟨#[83, 83, 72, 45, 50, 46, 48, 45, 120, 32, 121]⟩ := by decide +kernel
theorem pl_xy : PL (mkLn ⟨#[120]⟩ ⟨#[121]⟩) 11 := by
  rw [mk_xy]
  refine ⟨by decide, fun i hi => ?_, fun h => by exact absurd h (by decide)⟩
  have : ∀ i : Fin 11, plainB (bt ⟨#[83, 83, 72, 45, 50, 46, 48, 45, 120, 32, 121]⟩ i.val) = true := by decide +kernel
  exact this ⟨i, hi⟩
theorem make_xy : makeV ⟨#[120]⟩ ⟨#[121]⟩ 11 = .tuple #[.string ⟨#[83, 83, 72, 45, 50, 46, 48, 45, 120, 32, 121]⟩, .int .i64 0] := by
  rw [makeV_yes (by decide +kernel), mk_xy]
set_option maxHeartbeats 400000 in
theorem awake_any (w : World) :
    Calls Try.prog 7 #[] w fun r w' => r = .returned (.bool true) ∧ w = w' := by
  have c := make_any ⟨#[120]⟩ ⟨#[121]⟩ 11 w (by decide) (by decide) pl_xy
  rw [make_xy] at c
  have c := Lib.hid c
  go_enter Try.func7, Try.ntmps7
  go_wp2_with (go_at_call 10; refine c.out.mono ?_; rintro r w1 ⟨rfl, rfl⟩)
  go_ret
  exact ⟨rfl, rfl⟩

theorem scanV_form (s : ByteArray) (n : Nat) : ∃ a b e, scanV s n = .tuple #[.string a, .int .i64 b, .int .i64 e] := by
  unfold scanV lnErr
  split
  · exact ⟨_, _, _, rfl⟩
  split
  · exact ⟨_, _, _, rfl⟩
  split
  · exact ⟨_, _, _, rfl⟩
  split
  · exact ⟨_, _, _, rfl⟩
  split
  · exact ⟨_, _, _, rfl⟩
  · exact ⟨_, _, _, rfl⟩

set_option maxHeartbeats 400000 in
theorem law_lineScans (s : ByteArray) (w : World) (hs : s.size ≤ 9223372036854775807) :
    Calls Try.prog 3 #[.string s] w fun r w' => r = .returned (.bool true) ∧ Below w.heap.size w w' := by
  have aw := Lib.hid (awake_any w)
  by_cases h6 : 600 < s.size
  · go_enter Try.func3, Try.ntmps3
    go_wp2_with (go_at_call 7; refine aw.out.mono ?_; rintro r w1 ⟨rfl, rfl⟩)
    go_ret
    exact ⟨rfl, Below.refl _ _⟩
  obtain ⟨n, hn⟩ := exists_PL s
  have cP := scan_any s n w (by omega) hn
  have cR := refScan_any s n w (by omega) hn
  obtain ⟨a, b, e, hv⟩ := scanV_form s n
  rw [hv] at cP cR
  have cP := Lib.hid cP
  have cR := Lib.hid cR
  clear hv hn
  go_enter Try.func3, Try.ntmps3
  go_wp2_with (first
    | (go_at_call 7; refine aw.out.mono ?_; rintro r w1 ⟨rfl, rfl⟩)
    | (go_at_call 8; refine cP.out.mono ?_; rintro r w1 ⟨rfl, rfl⟩)
    | (go_at_call 9; refine cR.out.mono ?_; rintro r w1 ⟨rfl, rfl⟩))
  go_ret
  exact ⟨rfl, Below.refl _ _⟩

/-! ### LinePieces -/
theorem PL_unique {s : ByteArray} {n m : Nat} (h : PL s n) (k : PL s m) : n = m := by
  obtain ⟨h1, h2, h3⟩ := h
  obtain ⟨k1, k2, k3⟩ := k
  rcases Nat.lt_trichotomy n m with e | e | e
  · have := h3 (by omega); rw [k2 n e] at this; cases this
  · exact e
  · have := k3 (by omega); rw [h2 m e] at this; cases this
theorem bt_app {s t : ByteArray} {i : Nat} (h : i < s.size) : bt (s ++ t) i = bt s i := by
  unfold bt
  rw [dif_pos (by rw [ByteArray.size_append]; omega), dif_pos h]
  rw [ByteArray.getElem_append_left h]
theorem PL_app_lt {s t : ByteArray} {n : Nat} (h : PL s n) (hn : n < s.size) : PL (s ++ t) n := by
  obtain ⟨h1, h2, h3⟩ := h
  refine ⟨by rw [ByteArray.size_append]; omega, fun i hi => by rw [bt_app (by omega)]; exact h2 i hi, fun _ => by rw [bt_app hn]; exact h3 hn⟩
theorem PL_app_ge {s t : ByteArray} {n m : Nat} (h : PL s n) (hn : n = s.size) (k : PL (s ++ t) m) : n ≤ m := by
  obtain ⟨h1, h2, h3⟩ := h
  obtain ⟨k1, k2, k3⟩ := k
  rcases Nat.lt_or_ge m n with e | e
  · have := k3 (by rw [ByteArray.size_append]; omega)
    rw [bt_app (by omega), h2 m e] at this
    cases this
  · exact e
theorem bt_cut {s : ByteArray} {m i : Nat} (hm : m ≤ s.size) (h : i < m) : bt (s.extract 0 m) i = bt s i := by
  unfold bt
  rw [dif_pos (by rw [ByteArray.size_extract]; omega), dif_pos (by omega)]
  rw [ByteArray.getElem_extract]
  simp
theorem PL_cut {s : ByteArray} {n m : Nat} (h : PL s n) (hm : m ≤ s.size) : PL (s.extract 0 m) (min n m) := by
  obtain ⟨h1, h2, h3⟩ := h
  have hz : (s.extract 0 m).size = m := by rw [ByteArray.size_extract]; omega
  refine ⟨by rw [hz]; omega, fun i hi => by rw [bt_cut hm (by omega)]; exact h2 i (by omega), fun hlt => ?_⟩
  rw [hz] at hlt
  rw [bt_cut hm hlt, show min n m = n by omega]
  exact h3 (by omega)
end Go.Proofs.Ytjiepgldgcghlaa
