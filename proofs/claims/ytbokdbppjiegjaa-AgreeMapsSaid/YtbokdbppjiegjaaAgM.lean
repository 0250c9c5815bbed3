/- Agree: the list of the rules; the first rule that does not hold. -/
import Derived.Test.YtbokdbppjiegjaaAgL
import Derived.Laws.EntriesVeiled
namespace Go.Proofs.Ytbokdbppjiegjaa
open Go.RowKit

/-- A rule as it lies in memory: its word, its function value, whether it holds. -/
structure Rl where
  s : ByteArray
  g : Nat
  lb : Array Value
  b : Bool
def Rl.row (R : Rl) : List Value := [.string R.s, .func (.func R.g) #[] R.lb]
def RlOk (w1 : World) (R : Rl) : Prop := (∀ args w, (callFunc R.g args).run Try.prog w = .ok (.enter R.g args) w) ∧ ∀ W, Below w1.heap.size w1 W → Calls Try.prog R.g R.lb W (fun r w' => r = .returned (.bool R.b) ∧ Below W.heap.size W w')
def OrderOut (B : List Ev) (x : Ev) (w : World) (r : Ending) (w' : World) : Prop :=
  ∃ (A : Option Addr) (Rs : List Rl), r = .returned (.slice A 6 6) ∧ Rs.map (fun R => (R.s, R.b)) = [(wordN 1, b1 B x), (wordN 2, b2 B x), (wordN 3, b3 B x), (wordN 4, b4 B x), (wordN 5, b5 B x), (wordN 6, b6 B x)] ∧ Rws w' 2 A 6 (Rs.map Rl.row) ∧ (∀ R ∈ Rs, RlOk w' R) ∧ Below w.heap.size w w'

def theRules (be bb bf bm : Nat) (B : List Ev) (x : Ev) : List Rl :=
  [⟨wordN 1, 79, #[.pointer (some ⟨be, 0, none⟩), .pointer (some ⟨bb, 0, none⟩), .pointer (some ⟨bm, 0, none⟩)], b1 B x⟩,
   ⟨wordN 2, 81, #[.pointer (some ⟨be, 0, none⟩), .pointer (some ⟨bb, 0, none⟩)], b2 B x⟩,
   ⟨wordN 3, 82, #[.pointer (some ⟨be, 0, none⟩), .pointer (some ⟨bb, 0, none⟩)], b3 B x⟩,
   ⟨wordN 4, 83, #[.pointer (some ⟨be, 0, none⟩), .pointer (some ⟨bf, 0, none⟩), .pointer (some ⟨bb, 0, none⟩)], b4 B x⟩,
   ⟨wordN 5, 84, #[.pointer (some ⟨be, 0, none⟩), .pointer (some ⟨bf, 0, none⟩), .pointer (some ⟨bb, 0, none⟩)], b5 B x⟩,
   ⟨wordN 6, 85, #[.pointer (some ⟨be, 0, none⟩), .pointer (some ⟨bb, 0, none⟩), .pointer (some ⟨bm, 0, none⟩)], b6 B x⟩]
theorem theRules_ok {w1 : World} {be bb bf bm : Nat} {x : Ev} {A : Option Addr} {n c : Nat} {B : List Ev} (h : OC w1 be bb bf bm x A n c B) : ∀ R ∈ theRules be bb bf bm B x, RlOk w1 R := by
  intro R hR
  simp only [theRules, List.mem_cons, List.not_mem_nil, or_false] at hR
  rcases hR with rfl | rfl | rfl | rfl | rfl | rfl
  · exact ⟨by intro args w; kernel_rfl, fun W hW => rule1_any (h.keep hW)⟩
  · exact ⟨by intro args w; kernel_rfl, fun W hW => rule2_any (h.keep hW)⟩
  · exact ⟨by intro args w; kernel_rfl, fun W hW => rule3_any (h.keep hW)⟩
  · exact ⟨by intro args w; kernel_rfl, fun W hW => rule4_any (h.keep hW)⟩
  · exact ⟨by intro args w; kernel_rfl, fun W hW => rule5_any (h.keep hW)⟩
  · exact ⟨by intro args w; kernel_rfl, fun W hW => rule6_any (h.keep hW)⟩

theorem rule_built (s : ByteArray) (g : Nat) (lb : Array Value) : Try.prog.built 100 [(0, .string s), (1, .func (.func g) #[] lb)] = some #[.string s, .func (.func g) #[] lb] := by kernel_rfl
theorem rule_info : (Try.prog.info? 100).map (fun i => (i.zero, i.size, i.bytes)) = some (some (.agg #[.string ByteArray.empty, .nilFunc]), 2, 24) := by kernel_rfl
theorem fill6 (s1 s2 s3 s4 s5 s6 : ByteArray) (f1 f2 f3 f4 f5 f6 : Value) : Instr.fill (fun j => some (j * 2, 2)) ((Array.range (6 * 2)).map ((Value.agg #[.string ByteArray.empty, .nilFunc]).cells[· % (Value.agg #[.string ByteArray.empty, .nilFunc]).cells.size]!))
    [(0, .agg #[.string s1, f1]), (1, .agg #[.string s2, f2]), (2, .agg #[.string s3, f3]), (3, .agg #[.string s4, f4]), (4, .agg #[.string s5, f5]), (5, .agg #[.string s6, f6])] = some #[.string s1, f1, .string s2, f2, .string s3, f3, .string s4, f4, .string s5, f5, .string s6, f6] := by kernel_rfl

theorem three_blocks (x : Ev) (A : Option Addr) (n c : Nat) (w : World) : Below w.heap.size w (((w.alloc (.cells x.cells.toArray 46)).alloc (.cells #[.slice A n c] 22)).alloc (.cells #[.func (.func 77) #[] #[.pointer (some ⟨w.heap.size, 0, none⟩)]] 112)) ∧ (((w.alloc (.cells x.cells.toArray 46)).alloc (.cells #[.slice A n c] 22)).alloc (.cells #[.func (.func 77) #[] #[.pointer (some ⟨w.heap.size, 0, none⟩)]] 112)).heap.size = w.heap.size + 3 ∧ (((w.alloc (.cells x.cells.toArray 46)).alloc (.cells #[.slice A n c] 22)).alloc (.cells #[.func (.func 77) #[] #[.pointer (some ⟨w.heap.size, 0, none⟩)]] 112)).rangeAt w.heap.size 0 x.cells ∧
    (((w.alloc (.cells x.cells.toArray 46)).alloc (.cells #[.slice A n c] 22)).alloc (.cells #[.func (.func 77) #[] #[.pointer (some ⟨w.heap.size, 0, none⟩)]] 112)).cell? ⟨w.heap.size + 1, 0, none⟩ = some (.slice A n c) ∧ (((w.alloc (.cells x.cells.toArray 46)).alloc (.cells #[.slice A n c] 22)).alloc (.cells #[.func (.func 77) #[] #[.pointer (some ⟨w.heap.size, 0, none⟩)]] 112)).cell? ⟨w.heap.size + 2, 0, none⟩ = some (.func (.func 77) #[] #[.pointer (some ⟨w.heap.size, 0, none⟩)]) := by
  have hb1 := ag_below w (.cells x.cells.toArray 46)
  have hb2 := hb1.alloc hb1.size (.cells #[.slice A n c] 22)
  have hb3 := hb2.alloc hb2.size (.cells #[.func (.func 77) #[] #[.pointer (some ⟨w.heap.size, 0, none⟩)]] 112)
  have g2 := heap_past (heap_new (w.alloc (.cells x.cells.toArray 46)) (.cells #[.slice A n c] 22)) (.cells #[.func (.func 77) #[] #[.pointer (some ⟨w.heap.size, 0, none⟩)]] 112)
  have g3 := heap_new ((w.alloc (.cells x.cells.toArray 46)).alloc (.cells #[.slice A n c] 22)) (.cells #[.func (.func 77) #[] #[.pointer (some ⟨w.heap.size, 0, none⟩)]] 112)
  simp only [World.size_alloc] at g2 g3
  refine ⟨hb3, by simp, ?_, cell_of_row _ _ 0 _ _ _ g2, cell_of_row _ _ 0 _ _ _ g3⟩
  exact rangeAt_list (heap_past (heap_past (heap_new w (.cells x.cells.toArray 46)) _) _)

set_option maxRecDepth 100000 in
set_option maxHeartbeats 4000000 in
theorem order_any (x : Ev) (B : List Ev) (A : Option Addr) (n c : Nat) (w : World) (hn : n ≤ 1000000) (H : Evs w A n B) :
    Calls Try.prog 63 #[.agg x.cells.toArray, .slice A n c] w (OrderOut B x w) := by
  obtain ⟨i0, hi0, hz0, hz1, hz2⟩ := info_parts rule_info
  obtain ⟨hb3, z3, f1, f2, f3⟩ := three_blocks x A n c w
  have c1 : (((w.alloc (.cells x.cells.toArray 46)).alloc (.cells #[.slice A n c] 22)).alloc (.cells #[.func (.func 77) #[] #[.pointer (some ⟨w.heap.size, 0, none⟩)]] 112)).cell? ⟨w.heap.size, 1, none⟩ = some (.int .i64 x.ses) := by have := f1 1 _ x.at1; simpa using this
  have cO := Lib.hid (opens_any B A n c x.ses _ (by omega) (H.keep hb3))
  have H := Lib.hid H
  have f1 := Lib.hid f1
  have F3 := Lib.hid f3
  have hb3 := Lib.hid hb3
  have z3 := Lib.hid z3
  have F2 := Lib.hid f2
  go_enter Try.func63, Try.ntmps63
  go_wp2_with (first
    | (go_at_call 47; refine cO.out.mono ?_; rintro r w4 ⟨rfl, hb4⟩)
    | (refine wpList_build_as 100 #[(0, .const (.string ⟨#[101, 110, 100]⟩)), (1, .tmp 12)] rfl rfl #[.string ⟨#[101, 110, 100]⟩, .func (.func 79) #[] #[.pointer (some ⟨w.heap.size, 0, none⟩), .pointer (some ⟨w.heap.size + 1, 0, none⟩), .pointer (some ⟨w.heap.size + 2, 0, none⟩)]] ?_ ?_; exact rule_built _ _ _)
    | (refine wpList_build_as 100 #[(0, .const (.string ⟨#[116, 97, 107, 101, 110]⟩)), (1, .tmp 14)] rfl rfl #[.string ⟨#[116, 97, 107, 101, 110]⟩, .func (.func 81) #[] #[.pointer (some ⟨w.heap.size, 0, none⟩), .pointer (some ⟨w.heap.size + 1, 0, none⟩)]] ?_ ?_; exact rule_built _ _ _)
    | (refine wpList_build_as 100 #[(0, .const (.string ⟨#[110, 117, 109, 98, 101, 114]⟩)), (1, .tmp 16)] rfl rfl #[.string ⟨#[110, 117, 109, 98, 101, 114]⟩, .func (.func 82) #[] #[.pointer (some ⟨w.heap.size, 0, none⟩), .pointer (some ⟨w.heap.size + 1, 0, none⟩)]] ?_ ?_; exact rule_built _ _ _)
    | (refine wpList_build_as 100 #[(0, .const (.string ⟨#[115, 101, 115, 115, 105, 111, 110]⟩)), (1, .tmp 18)] rfl rfl #[.string ⟨#[115, 101, 115, 115, 105, 111, 110]⟩, .func (.func 83) #[] #[.pointer (some ⟨w.heap.size, 0, none⟩), .pointer (some ⟨w4.heap.size, 0, none⟩), .pointer (some ⟨w.heap.size + 1, 0, none⟩)]] ?_ ?_; exact rule_built _ _ _)
    | (refine wpList_build_as 100 #[(0, .const (.string ⟨#[101, 97, 114, 108, 121]⟩)), (1, .tmp 20)] rfl rfl #[.string ⟨#[101, 97, 114, 108, 121]⟩, .func (.func 84) #[] #[.pointer (some ⟨w.heap.size, 0, none⟩), .pointer (some ⟨w4.heap.size, 0, none⟩), .pointer (some ⟨w.heap.size + 1, 0, none⟩)]] ?_ ?_; exact rule_built _ _ _)
    | (refine wpList_build_as 100 #[(0, .const (.string ⟨#[97, 103, 97, 105, 110]⟩)), (1, .tmp 22)] rfl rfl #[.string ⟨#[97, 103, 97, 105, 110]⟩, .func (.func 85) #[] #[.pointer (some ⟨w.heap.size, 0, none⟩), .pointer (some ⟨w.heap.size + 1, 0, none⟩), .pointer (some ⟨w.heap.size + 2, 0, none⟩)]] ?_ ?_; exact rule_built _ _ _)
    | (refine wpList_buildSlice_as 97 100 6 _ rfl rfl i0 (.agg #[.string ByteArray.empty, .nilFunc]) #[.string ⟨#[101, 110, 100]⟩, .func (.func 79) #[] #[.pointer (some ⟨w.heap.size, 0, none⟩), .pointer (some ⟨w.heap.size + 1, 0, none⟩), .pointer (some ⟨w.heap.size + 2, 0, none⟩)], .string ⟨#[116, 97, 107, 101, 110]⟩, .func (.func 81) #[] #[.pointer (some ⟨w.heap.size, 0, none⟩), .pointer (some ⟨w.heap.size + 1, 0, none⟩)], .string ⟨#[110, 117, 109, 98, 101, 114]⟩, .func (.func 82) #[] #[.pointer (some ⟨w.heap.size, 0, none⟩), .pointer (some ⟨w.heap.size + 1, 0, none⟩)], .string ⟨#[115, 101, 115, 115, 105, 111, 110]⟩, .func (.func 83) #[] #[.pointer (some ⟨w.heap.size, 0, none⟩), .pointer (some ⟨w4.heap.size, 0, none⟩), .pointer (some ⟨w.heap.size + 1, 0, none⟩)], .string ⟨#[101, 97, 114, 108, 121]⟩, .func (.func 84) #[] #[.pointer (some ⟨w.heap.size, 0, none⟩), .pointer (some ⟨w4.heap.size, 0, none⟩), .pointer (some ⟨w.heap.size + 1, 0, none⟩)], .string ⟨#[97, 103, 97, 105, 110]⟩, .func (.func 85) #[] #[.pointer (some ⟨w.heap.size, 0, none⟩), .pointer (some ⟨w.heap.size + 1, 0, none⟩), .pointer (some ⟨w.heap.size + 2, 0, none⟩)]] Try.underlying97 hi0 hz0 (by rw [hz1]; decide) (by rw [hz1]; decide) ?_ ?_
       · rw [hz1]; exact fill6 _ _ _ _ _ _ _ _ _ _ _ _))
  go_ret
  have hO4 : OC (w4.alloc (.cells #[.int .i64 (opensI B x.ses)] 3)) w.heap.size (w.heap.size + 1) w4.heap.size (w.heap.size + 2) x A n c B := by
    have hb5 := ag_below w4 (.cells #[.int .i64 (opensI B x.ses)] 3)
    have hs := hb4.size
    rw [z3.out] at hs
    have l0 : w.heap.size < (((w.alloc (.cells x.cells.toArray 46)).alloc (.cells #[.slice A n c] 22)).alloc (.cells #[.func (.func 77) #[] #[.pointer (some ⟨w.heap.size, 0, none⟩)]] 112)).heap.size := by rw [z3.out]; omega
    have l1 : w.heap.size + 1 < (((w.alloc (.cells x.cells.toArray 46)).alloc (.cells #[.slice A n c] 22)).alloc (.cells #[.func (.func 77) #[] #[.pointer (some ⟨w.heap.size, 0, none⟩)]] 112)).heap.size := by rw [z3.out]; omega
    have l2 : w.heap.size + 2 < (((w.alloc (.cells x.cells.toArray 46)).alloc (.cells #[.slice A n c] 22)).alloc (.cells #[.func (.func 77) #[] #[.pointer (some ⟨w.heap.size, 0, none⟩)]] 112)).heap.size := by rw [z3.out]; omega
    refine ⟨rangeAt_keep (rangeAt_keep f1.out hb4 l0) hb5 (by omega), (hb5.cell (p := ⟨w.heap.size + 1, 0, none⟩) (by show w.heap.size + 1 < _; omega)).trans ((hb4.cell (p := ⟨w.heap.size + 1, 0, none⟩) l1).trans F2.out), ?_,
      (hb5.cell (p := ⟨w.heap.size + 2, 0, none⟩) (by show w.heap.size + 2 < _; omega)).trans ((hb4.cell (p := ⟨w.heap.size + 2, 0, none⟩) l2).trans F3.out), ?_, ?_, ?_, ?_, ((H.out.keep hb3.out).keep hb4).keep hb5, hn⟩
    · exact cell_of_row _ _ 0 _ _ _ (heap_new w4 (.cells #[.int .i64 (opensI B x.ses)] 3))
    all_goals
      have := hb5.size
      simp only [World.size_alloc]
      omega
  have hB4 := hb3.out.trans (hb4.mono hb3.out.size)
  have hB5 := hB4.alloc hB4.size (.cells #[.int .i64 (opensI B x.ses)] 3)
  have hb6 := ag_below (w4.alloc (.cells #[.int .i64 (opensI B x.ses)] 3)) (.cells ((theRules w.heap.size (w.heap.size + 1) w4.heap.size (w.heap.size + 2) B x).map Rl.row).flatten.toArray 100)
  have hR := heap_new (w4.alloc (.cells #[.int .i64 (opensI B x.ses)] 3)) (.cells ((theRules w.heap.size (w.heap.size + 1) w4.heap.size (w.heap.size + 2) B x).map Rl.row).flatten.toArray 100)
  refine ⟨_, theRules w.heap.size (w.heap.size + 1) w4.heap.size (w.heap.size + 2) B x, rfl, rfl, ?_, theRules_ok (hO4.keep hb6), hB5.trans (hb6.mono hB5.size)⟩
  have := Rws.block (w := (w4.alloc (.cells #[.int .i64 (opensI B x.ses)] 3)).alloc (.cells ((theRules w.heap.size (w.heap.size + 1) w4.heap.size (w.heap.size + 2) B x).map Rl.row).flatten.toArray 100)) (k := 2)
    (zs := (theRules w.heap.size (w.heap.size + 1) w4.heap.size (w.heap.size + 2) B x).map Rl.row) (by intro z hz; obtain ⟨R, _, rfl⟩ := List.mem_map.1 hz; rfl) hR (Array.getElem?_eq_some_iff.1 hR).1
  simp only [World.size_alloc] at this
  exact this
end Go.Proofs.Ytbokdbppjiegjaa
