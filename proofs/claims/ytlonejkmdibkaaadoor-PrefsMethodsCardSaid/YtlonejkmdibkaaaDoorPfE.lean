/- Prefs: the reference's Names and Method. -/
import Derived.Test.YtlonejkmdibkaaaDoorPfD
namespace Go.Proofs.YtlonejkmdibkaaaDoor
open Go.RowKit

theorem refNames_any (w : World) :
    Calls Tryd.prog 21 #[] w fun r w' => r = .returned (.slice (some ⟨w.heap.size, 0, none⟩) 3 3) ∧ w' = w.alloc (.cells #[.string ⟨#[99, 117, 114, 118, 101, 50, 53, 53, 49, 57, 45, 115, 104, 97, 50, 53, 54]⟩, .string ⟨#[101, 99, 100, 104, 45, 115, 104, 97, 50, 45, 110, 105, 115, 116, 112, 50, 53, 54]⟩, .string ⟨#[100, 105, 102, 102, 105, 101, 45, 104, 101, 108, 108, 109, 97, 110, 45, 103, 114, 111, 117, 112, 45, 101, 120, 99, 104, 97, 110, 103, 101, 45, 115, 104, 97, 50, 53, 54]⟩] 9) := by
  go_enter Tryd.func21, Tryd.ntmps21
  go_wp2
  go_ret
  exact ⟨rfl, rfl⟩
theorem names_strs (w : World) : Strs (w.alloc (.cells #[.string ⟨#[99, 117, 114, 118, 101, 50, 53, 53, 49, 57, 45, 115, 104, 97, 50, 53, 54]⟩, .string ⟨#[101, 99, 100, 104, 45, 115, 104, 97, 50, 45, 110, 105, 115, 116, 112, 50, 53, 54]⟩, .string ⟨#[100, 105, 102, 102, 105, 101, 45, 104, 101, 108, 108, 109, 97, 110, 45, 103, 114, 111, 117, 112, 45, 101, 120, 99, 104, 97, 110, 103, 101, 45, 115, 104, 97, 50, 53, 54]⟩] 9)) (some ⟨w.heap.size, 0, none⟩) 3 methL :=
  Strs.block (ss := methL) (by exact heap_new w _) (Array.getElem?_eq_some_iff.1 (heap_new w _)).1
set_option maxRecDepth 100000 in
set_option maxHeartbeats 1000000 in
theorem refMethod_any (s : ByteArray) (w : World) :
    Calls Tryd.prog 24 #[.string s] w fun r w' => r = .returned (.int .i64 (methN s)) ∧ Below w.heap.size w w' := by
  have cN := refNames_any w
  have hg := heap_new w (.cells #[.string ⟨#[99, 117, 114, 118, 101, 50, 53, 53, 49, 57, 45, 115, 104, 97, 50, 53, 54]⟩, .string ⟨#[101, 99, 100, 104, 45, 115, 104, 97, 50, 45, 110, 105, 115, 116, 112, 50, 53, 54]⟩, .string ⟨#[100, 105, 102, 102, 105, 101, 45, 104, 101, 108, 108, 109, 97, 110, 45, 103, 114, 111, 117, 112, 45, 101, 120, 99, 104, 97, 110, 103, 101, 45, 115, 104, 97, 50, 53, 54]⟩] 9)
  have hB := Lib.hid (below_got w (.cells #[.string ⟨#[99, 117, 114, 118, 101, 50, 53, 53, 49, 57, 45, 115, 104, 97, 50, 53, 54]⟩, .string ⟨#[101, 99, 100, 104, 45, 115, 104, 97, 50, 45, 110, 105, 115, 116, 112, 50, 53, 54]⟩, .string ⟨#[100, 105, 102, 102, 105, 101, 45, 104, 101, 108, 108, 109, 97, 110, 45, 103, 114, 111, 117, 112, 45, 101, 120, 99, 104, 97, 110, 103, 101, 45, 115, 104, 97, 50, 53, 54]⟩] 9))
  generalize w.alloc (.cells #[.string ⟨#[99, 117, 114, 118, 101, 50, 53, 53, 49, 57, 45, 115, 104, 97, 50, 53, 54]⟩, .string ⟨#[101, 99, 100, 104, 45, 115, 104, 97, 50, 45, 110, 105, 115, 116, 112, 50, 53, 54]⟩, .string ⟨#[100, 105, 102, 102, 105, 101, 45, 104, 101, 108, 108, 109, 97, 110, 45, 103, 114, 111, 117, 112, 45, 101, 120, 99, 104, 97, 110, 103, 101, 45, 115, 104, 97, 50, 53, 54]⟩] 9) = w1 at cN hg hB
  have c1 : w1.cell? ⟨w.heap.size, 0, none⟩ = some (.string ⟨#[99, 117, 114, 118, 101, 50, 53, 53, 49, 57, 45, 115, 104, 97, 50, 53, 54]⟩) := cell_of_row _ _ 0 _ _ _ hg
  have c2 : w1.cell? ⟨w.heap.size, 1, none⟩ = some (.string ⟨#[101, 99, 100, 104, 45, 115, 104, 97, 50, 45, 110, 105, 115, 116, 112, 50, 53, 54]⟩) := cell_of_row _ _ 1 _ _ _ hg
  have c3 : w1.cell? ⟨w.heap.size, 2, none⟩ = some (.string ⟨#[100, 105, 102, 102, 105, 101, 45, 104, 101, 108, 108, 109, 97, 110, 45, 103, 114, 111, 117, 112, 45, 101, 120, 99, 104, 97, 110, 103, 101, 45, 115, 104, 97, 50, 53, 54]⟩) := cell_of_row _ _ 2 _ _ _ hg
  have cN := Lib.hid cN
  clear hg
  have hv : methN s = if [99, 117, 114, 118, 101, 50, 53, 53, 49, 57, 45, 115, 104, 97, 50, 53, 54] == s.toList then 1 else if [101, 99, 100, 104, 45, 115, 104, 97, 50, 45, 110, 105, 115, 116, 112, 50, 53, 54] == s.toList then 2 else if [100, 105, 102, 102, 105, 101, 45, 104, 101, 108, 108, 109, 97, 110, 45, 103, 114, 111, 117, 112, 45, 101, 120, 99, 104, 97, 110, 103, 101, 45, 115, 104, 97, 50, 53, 54] == s.toList then 3 else 0 := rfl
  cases e1 : (([99, 117, 114, 118, 101, 50, 53, 53, 49, 57, 45, 115, 104, 97, 50, 53, 54] : List UInt8) == s.toList) with
  | true =>
    rw [e1] at hv
    have hV := Lib.hid hv
    clear hv
    go_enter Tryd.func24, Tryd.ntmps24
    go_wp2_with (go_at_call 21; refine cN.out.mono ?_; rintro r w4 ⟨rfl, rfl⟩)
    go_loop [4] (fun i => ∃ k : Nat, k ≤ 0 ∧ i = .int .i64 k) (fun i => 4 - (intOf i).toNat)
    case atStart => exact ⟨0, by omega, rfl⟩
    case round =>
      obtain ⟨k, hk, rfl⟩ := hrel
      obtain rfl : k = 0 := by omega
      · go_wp2
        go_ret
        exact ⟨ret_int (by rw [hV.out]; simp), hB.out⟩
  | false =>
    rw [e1] at hv
    cases e2 : (([101, 99, 100, 104, 45, 115, 104, 97, 50, 45, 110, 105, 115, 116, 112, 50, 53, 54] : List UInt8) == s.toList) with
    | true =>
      rw [e2] at hv
      have hV := Lib.hid hv
      clear hv
      go_enter Tryd.func24, Tryd.ntmps24
      go_wp2_with (go_at_call 21; refine cN.out.mono ?_; rintro r w4 ⟨rfl, rfl⟩)
      go_loop [4] (fun i => ∃ k : Nat, k ≤ 1 ∧ i = .int .i64 k) (fun i => 4 - (intOf i).toNat)
      case atStart => exact ⟨0, by omega, rfl⟩
      case round =>
        obtain ⟨k, hk, rfl⟩ := hrel
        have hp : k = 0 ∨ k = 1 := by omega
        rcases hp with rfl | rfl
        · go_wp2
          go_round
          case rel => exact ⟨1, by omega, by go_num⟩
          case measure => simp [intOf]
        · go_wp2
          go_ret
          exact ⟨ret_int (by rw [hV.out]; simp), hB.out⟩
    | false =>
      rw [e2] at hv
      cases e3 : (([100, 105, 102, 102, 105, 101, 45, 104, 101, 108, 108, 109, 97, 110, 45, 103, 114, 111, 117, 112, 45, 101, 120, 99, 104, 97, 110, 103, 101, 45, 115, 104, 97, 50, 53, 54] : List UInt8) == s.toList) with
      | true =>
        rw [e3] at hv
        have hV := Lib.hid hv
        clear hv
        go_enter Tryd.func24, Tryd.ntmps24
        go_wp2_with (go_at_call 21; refine cN.out.mono ?_; rintro r w4 ⟨rfl, rfl⟩)
        go_loop [4] (fun i => ∃ k : Nat, k ≤ 2 ∧ i = .int .i64 k) (fun i => 4 - (intOf i).toNat)
        case atStart => exact ⟨0, by omega, rfl⟩
        case round =>
          obtain ⟨k, hk, rfl⟩ := hrel
          have hp : k = 0 ∨ k = 1 ∨ k = 2 := by omega
          rcases hp with rfl | rfl | rfl
          · go_wp2
            go_round
            case rel => exact ⟨1, by omega, by go_num⟩
            case measure => simp [intOf]
          · go_wp2
            go_round
            case rel => exact ⟨2, by omega, by go_num⟩
            case measure => simp [intOf]
          · go_wp2
            go_ret
            exact ⟨ret_int (by rw [hV.out]; simp), hB.out⟩
      | false =>
        rw [e3] at hv
        have hV := Lib.hid hv
        clear hv
        go_enter Tryd.func24, Tryd.ntmps24
        go_wp2_with (go_at_call 21; refine cN.out.mono ?_; rintro r w4 ⟨rfl, rfl⟩)
        go_loop [4] (fun i => ∃ k : Nat, k ≤ 3 ∧ i = .int .i64 k) (fun i => 4 - (intOf i).toNat)
        case atStart => exact ⟨0, by omega, rfl⟩
        case round =>
          obtain ⟨k, hk, rfl⟩ := hrel
          have hp : k = 0 ∨ k = 1 ∨ k = 2 ∨ k = 3 := by omega
          rcases hp with rfl | rfl | rfl | rfl
          · go_wp2
            go_round
            case rel => exact ⟨1, by omega, by go_num⟩
            case measure => simp [intOf]
          · go_wp2
            go_round
            case rel => exact ⟨2, by omega, by go_num⟩
            case measure => simp [intOf]
          · go_wp2
            go_round
            case rel => exact ⟨3, by omega, by go_num⟩
            case measure => simp [intOf]
          · go_wp2
            go_ret
            exact ⟨ret_int (by rw [hV.out]; simp), hB.out⟩
end Go.Proofs.YtlonejkmdibkaaaDoor
