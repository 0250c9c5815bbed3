/- Gex: sizes, first, Pick. -/
import Derived.Test.YtlonejkmdibkaaaDoorGxD
import Derived.Test.YtlonejkmdibkaaaDoorInt
import Derived.Test.YtlonejkmdibkaaaDoorNmA
import Derived.Laws.ResultCell
import Derived.Laws.CopyRow
import Derived.Deep.DeepCutAuto
namespace Go.Proofs.YtlonejkmdibkaaaDoor
open Go.RowKit

theorem results_cell_two {P : Program} {fn : Func} {p u : Tmp} {ty : TypeId} (h : fn.results = #[.cell p ty, .tmp u]) (tmps : Array Value) (w : World) (g : Nat) (t : TypeId) (cs : Array Value) (fr : Nat × Nat) (d : TypeDesc) (v : Value)
    (hp : tmps.getD p undef = .pointer (some ⟨g, 0, none⟩)) (hg : w.heap[g]? = some (.cells cs t fr))
    (hu : P.underlying ty = some d) (hd : (match d with | .struct _ | .array _ _ => true | _ => false) = true) (hi : (P.info? ty).map (·.size) = some cs.size) (hv : tmps.getD u undef = v) :
    (results fn tmps).run P w = .ok (.tuple #[.agg cs, v]) w := by
  rw [results_cell_tmp h, hp, hv]
  simp [asAddr, run_loadVar_row w g t ty cs fr d hg hu hd hi]
theorem sizes_any (w : World) :
    Calls Tryd.prog 66 #[] w fun r w' => r = .returned (.slice (some ⟨w.heap.size, 0, none⟩) 4 4) ∧ w' = w.alloc (.cells #[.int .i64 1024, .int .i64 2048, .int .i64 3072, .int .i64 4096] 3) := by
  go_enter Tryd.func66, Tryd.ntmps66
  go_wp2
  go_ret
  exact ⟨rfl, rfl⟩
theorem sizes_ints (w : World) : Ints (w.alloc (.cells #[.int .i64 1024, .int .i64 2048, .int .i64 3072, .int .i64 4096] 3)) (some ⟨w.heap.size, 0, none⟩) 4 [1024, 2048, 3072, 4096] := by
  exact Rws.block (zs := [iv 1024, iv 2048, iv 3072, iv 4096]) (k := 1) (by decide +kernel) (by exact heap_new w _) (Array.getElem?_eq_some_iff.1 (heap_new w _)).1
set_option maxHeartbeats 400000 in
theorem gxFirst_any (p : Int → Bool) (g : Nat) (lb : Array Value) (eg : ∀ args w, (callFunc g args).run Tryd.prog w = .ok (.enter g args) w)
    (xs : List Int) (A : Option Addr) (n c : Nat) (w : World) (hn : n ≤ 1000) (H : Ints w A n xs) (hx : ∀ x ∈ xs, 1 ≤ x ∧ x ≤ 4096)
    (hp : ∀ x ∈ xs, Calls Tryd.prog g (#[.int .u32 x] ++ lb) w fun r w' => r = .returned (.bool (p x)) ∧ w = w') :
    Calls Tryd.prog 69 #[.slice A n c, .func (.func g) #[] lb] w fun r w' => r = .returned (.int .i64 ((xs.find? p).getD 0)) ∧ w = w' := by
  have hlen := Lib.hid H.len
  have hP := Lib.hid hp
  have hX := Lib.hid hx
  clear hp hx
  go_enter Tryd.func69, Tryd.ntmps69
  go_wp2
  go_loop [6, 9] (fun _ i => ∃ k : Nat, k ≤ n ∧ i = .int .i64 k ∧ Hid (((xs.take k).any p) = false)) (fun _ i => n - (intOf i).toNat)
  case atStart => exact ⟨0, by omega, rfl, by simp [Hid]⟩
  case round =>
    obtain ⟨k, hk, rfl, hf⟩ := hrel
    by_cases hlt : k < n
    · obtain ⟨b, off, x, rfl, hb, he, hr⟩ := H.at_ hlt
      have hm := List.mem_of_getElem? he
      obtain ⟨x1, x2⟩ := hX.out x hm
      have hc := hP.out x hm
      have he := Lib.hid he
      have hw : IntKind.u32.wrap x = x := IntWalk.u32_in _ (by omega)
      clear hm
      cases hq : p x with
      | true =>
        rw [hq] at hc
        have hq := Lib.hid hq
        go_wp2
        refine hc.mono ?_
        rintro r w1 ⟨rfl, rfl⟩
        go_wp2
        go_ret
        exact ⟨ret_int (by rw [find_hit he.out hq.out hf.out]; rfl), rfl⟩
      | false =>
        rw [hq] at hc
        have hq := Lib.hid hq
        go_wp2
        refine hc.mono ?_
        rintro r w1 ⟨rfl, rfl⟩
        go_wp2
        go_round
        case rel => exact ⟨k + 1, by omega, by go_num, (by unfold Hid; rw [any_take_succ _ he.out, hf.out, hq.out]; rfl)⟩
        case measure => simp [intOf]; omega
    · have hm := Lib.hid (find_miss (any_whole (n := k) (by rw [hlen.out]; omega) hf.out))
      go_wp2
      go_ret
      exact ⟨ret_int (by rw [hm.out]; rfl), rfl⟩
def btw (a b x : Int) : Bool := decide (a ≤ x) && decide (x ≤ b)
theorem pick1_any (x a b : Int) (ba bb : Nat) (w : World) (h1 : w.cell? ⟨ba, 0, none⟩ = some (.int .u32 a)) (h2 : w.cell? ⟨bb, 0, none⟩ = some (.int .u32 b)) :
    Calls Tryd.prog 70 (#[.int .u32 x] ++ #[.pointer (some ⟨ba, 0, none⟩), .pointer (some ⟨bb, 0, none⟩)]) w fun r w' => r = .returned (.bool (btw a b x)) ∧ w = w' := by
  have hr := Lib.hid (show btw a b x = (decide (a ≤ x) && decide (x ≤ b)) from rfl)
  show Calls Tryd.prog 70 #[.int .u32 x, .pointer (some ⟨ba, 0, none⟩), .pointer (some ⟨bb, 0, none⟩)] w _
  cases e1 : decide (a ≤ x) <;> cases e2 : decide (x ≤ b)
  all_goals
    rw [e1, e2] at hr
    simp only [decide_eq_true_eq, decide_eq_false_iff_not] at e1 e2
    go_enter Tryd.func70, Tryd.ntmps70
    go_wp2
    go_ret
    exact ⟨by rw [hr.out]; rfl, rfl⟩
theorem pick2_any (x a b : Int) (ba bb : Nat) (w : World) (h1 : w.cell? ⟨ba, 0, none⟩ = some (.int .u32 a)) (h2 : w.cell? ⟨bb, 0, none⟩ = some (.int .u32 b)) :
    Calls Tryd.prog 71 (#[.int .u32 x] ++ #[.pointer (some ⟨ba, 0, none⟩), .pointer (some ⟨bb, 0, none⟩)]) w fun r w' => r = .returned (.bool (btw a b x)) ∧ w = w' := by
  have hr := Lib.hid (show btw a b x = (decide (a ≤ x) && decide (x ≤ b)) from rfl)
  show Calls Tryd.prog 71 #[.int .u32 x, .pointer (some ⟨ba, 0, none⟩), .pointer (some ⟨bb, 0, none⟩)] w _
  cases e1 : decide (a ≤ x) <;> cases e2 : decide (x ≤ b)
  all_goals
    rw [e1, e2] at hr
    simp only [decide_eq_true_eq, decide_eq_false_iff_not] at e1 e2
    go_enter Tryd.func71, Tryd.ntmps71
    go_wp2
    go_ret
    exact ⟨by rw [hr.out]; rfl, rfl⟩
theorem find_up (a b : Int) : (([1024, 2048, 3072, 4096] : List Int).find? (btw a b)).getD 0 = 1024 * (upK a b : Int) := by
  unfold upK btw
  simp only [List.find?_cons, List.find?_nil]
  by_cases h1 : a ≤ 1024 ∧ 1024 ≤ b
  · simp [h1.1, h1.2]
  · have e1 : (decide (a ≤ 1024) && decide ((1024 : Int) ≤ b)) = false := by simpa using h1
    rw [e1, if_neg h1]
    by_cases h2 : a ≤ 2048 ∧ 2048 ≤ b
    · simp [h2.1, h2.2]
    · have e2 : (decide (a ≤ 2048) && decide ((2048 : Int) ≤ b)) = false := by simpa using h2
      rw [e2, if_neg h2]
      by_cases h3 : a ≤ 3072 ∧ 3072 ≤ b
      · simp [h3.1, h3.2]
      · have e3 : (decide (a ≤ 3072) && decide ((3072 : Int) ≤ b)) = false := by simpa using h3
        rw [e3, if_neg h3]
        by_cases h4 : a ≤ 4096 ∧ 4096 ≤ b
        · simp [h4.1, h4.2]
        · have e4 : (decide (a ≤ 4096) && decide ((4096 : Int) ≤ b)) = false := by simpa using h4
          rw [e4, if_neg h4]
          rfl
theorem find_dn (a b : Int) : (([4096, 3072, 2048, 1024] : List Int).find? (btw a b)).getD 0 = 1024 * (dnK a b : Int) := by
  unfold dnK btw
  simp only [List.find?_cons, List.find?_nil]
  by_cases h1 : a ≤ 4096 ∧ 4096 ≤ b
  · simp [h1.1, h1.2]
  · have e1 : (decide (a ≤ 4096) && decide ((4096 : Int) ≤ b)) = false := by simpa using h1
    rw [e1, if_neg h1]
    by_cases h2 : a ≤ 3072 ∧ 3072 ≤ b
    · simp [h2.1, h2.2]
    · have e2 : (decide (a ≤ 3072) && decide ((3072 : Int) ≤ b)) = false := by simpa using h2
      rw [e2, if_neg h2]
      by_cases h3 : a ≤ 2048 ∧ 2048 ≤ b
      · simp [h3.1, h3.2]
      · have e3 : (decide (a ≤ 2048) && decide ((2048 : Int) ≤ b)) = false := by simpa using h3
        rw [e3, if_neg h3]
        by_cases h4 : a ≤ 1024 ∧ 1024 ≤ b
        · simp [h4.1, h4.2]
        · have e4 : (decide (a ≤ 1024) && decide ((1024 : Int) ≤ b)) = false := by simpa using h4
          rw [e4, if_neg h4]
          rfl
theorem find_up' (a b : Int) : (([1024, 2048, 3072, 4096] : List Int).find? (btw a b)).getD 0 = ((1024 * upK a b : Nat) : Int) := by rw [find_up, Int.natCast_mul]; rfl
theorem find_dn' (a b : Int) : (([4096, 3072, 2048, 1024] : List Int).find? (btw a b)).getD 0 = ((1024 * dnK a b : Nat) : Int) := by rw [find_dn, Int.natCast_mul]; rfl
theorem blocks4 (w : World) (o0 o1 o2 o3 : Obj) : ((((w.alloc o0).alloc o1).alloc o2).alloc o3).heap[w.heap.size]? = some o0 ∧ ((((w.alloc o0).alloc o1).alloc o2).alloc o3).heap[w.heap.size + 1]? = some o1 ∧ ((((w.alloc o0).alloc o1).alloc o2).alloc o3).heap[w.heap.size + 2]? = some o2 ∧
    ((((w.alloc o0).alloc o1).alloc o2).alloc o3).heap[w.heap.size + 3]? = some o3 ∧ Below w.heap.size w ((((w.alloc o0).alloc o1).alloc o2).alloc o3) ∧ ((((w.alloc o0).alloc o1).alloc o2).alloc o3).heap.size = w.heap.size + 4 := by
  have s1 : (w.alloc o0).heap.size = w.heap.size + 1 := by simp
  have s2 : ((w.alloc o0).alloc o1).heap.size = w.heap.size + 2 := by simp
  have s3 : (((w.alloc o0).alloc o1).alloc o2).heap.size = w.heap.size + 3 := by simp
  refine ⟨heap_past (heap_past (heap_past (heap_new w o0) o1) o2) o3, ?_, ?_, ?_, ?_, by simp⟩
  · have := heap_past (heap_past (heap_new (w.alloc o0) o1) o2) o3; rwa [s1] at this
  · have := heap_past (heap_new ((w.alloc o0).alloc o1) o2) o3; rwa [s2] at this
  · have := heap_new (((w.alloc o0).alloc o1).alloc o2) o3; rwa [s3] at this
  · exact (((below_new w o0).alloc (by omega) o1).alloc (by omega) o2).alloc (by omega) o3

end Go.Proofs.YtlonejkmdibkaaaDoor
