/- Agree: the page's example. -/
import Derived.Test.YtbokdbppjiegjaaAgR
namespace Go.Proofs.Ytbokdbppjiegjaa
open Go.RowKit

def cellOkB : TypeDesc → Value → Bool
  | .int k, .int k' n => decide (k' = k) && decide (k.min ≤ n) && decide (n ≤ k.max)
  | .bool, .bool _ => true
  | .string, .string s => decide (s.size ≤ maxLen)
  | _, _ => false
theorem cellOkB_ok {d : TypeDesc} {v : Value} (h : cellOkB d v = true) : cellOk d v := by
  unfold cellOkB at h
  split at h
  · simp only [Bool.and_eq_true, decide_eq_true_eq] at h
    exact ⟨_, by rw [h.1.1], h.1.2, h.2⟩
  · exact ⟨_, rfl⟩
  · exact ⟨_, rfl, by simpa using h⟩
  · cases h
def allOkB : List TypeDesc → List Value → Bool
  | [], [] => true
  | d :: ds, v :: vs => cellOkB d v && allOkB ds vs
  | _, _ => false
theorem allOkB_ok : ∀ {ds : List TypeDesc} {vs : List Value}, allOkB ds vs = true → allOk ds vs
  | [], [], _ => ⟨rfl, fun i d v hd => by simp at hd⟩
  | d :: ds, v :: vs, h => by
    simp only [allOkB, Bool.and_eq_true] at h
    obtain ⟨h1, h2⟩ := allOkB_ok h.2
    refine ⟨by simp [h1], fun i d' v' hd hv => ?_⟩
    match i with
    | 0 =>
      simp only [List.getElem?_cons_zero, Option.some.injEq] at hd hv
      subst hd; subst hv
      exact cellOkB_ok h.1
    | i + 1 =>
      rw [List.getElem?_cons_succ] at hd hv
      exact h2 i d' v' hd hv
  | [], _ :: _, h => by simp [allOkB] at h
  | _ :: _, [], h => by simp [allOkB] at h

def evA : Ev := { Ev.zero with kind := 7, who := 1 }
theorem evA_ok : allOk evDs evA.cells := allOkB_ok (by decide +kernel)
theorem builtA : Try.prog.built 46 [(0, .int .i64 7), (3, .int .i64 1)] = some evA.cells.toArray := by kernel_rfl
theorem fillAA : Instr.fill (fun j => some (j * 34, 34)) ((Array.range (2 * 34)).map ((Value.agg Ev.zero.cells.toArray).cells[· % (Value.agg Ev.zero.cells.toArray).cells.size]!)) [(0, .agg evA.cells.toArray), (1, .agg evA.cells.toArray)] = some ([evA, evA].flatMap Ev.cells).toArray := by kernel_rfl
theorem wrongAA : wrongI [evA, evA] = 1 ∧ ruleN [evA, evA] 1 = 2 := by decide +kernel
theorem wrongVAA : wrongV [evA, evA] = .tuple #[.int .i64 1, .string ⟨#[116, 97, 107, 101, 110]⟩] := by
  unfold wrongV wrongW
  rw [wrongAA.1, show ((1 : Int)).toNat = 1 from rfl, wrongAA.2]
  rfl
theorem ruleA : ∀ k, ruleN [evA] k = 0 := by
  intro k
  match k with
  | 0 => decide +kernel
  | k + 1 => exact rule_none _ (by simp)

set_option maxHeartbeats 1000000 in
theorem awake32_any (w : World) :
    Calls Try.prog 18 #[] w fun r w' => r = .returned (.bool true) ∧ Below w.heap.size w w' := by
  obtain ⟨i0, hi0, hz0, hz1, hz2⟩ := info_parts ev_info
  have hg1 := heap_new w (.cells Ev.zero.cells.toArray 46)
  have b1 := ag_below w (.cells evA.cells.toArray 46)
  have hA := rangeAt_list (heap_new w (.cells evA.cells.toArray 46))
  have hlA := (Array.getElem?_eq_some_iff.1 (heap_new w (.cells evA.cells.toArray 46))).1
  have b2 := b1.alloc b1.size (.cells ([evA, evA].flatMap Ev.cells).toArray 46)
  have hE2 := heap_new (w.alloc (.cells evA.cells.toArray 46)) (.cells ([evA, evA].flatMap Ev.cells).toArray 46)
  have hE := Evs.block hE2 (Array.getElem?_eq_some_iff.1 hE2).1
  simp only [World.size_alloc] at hE
  have cW := wrong_any [evA, evA] (by intro e he; simp only [List.mem_cons, List.not_mem_nil, or_false, or_self] at he; subst he; exact evA_ok) _ 2 2 _ (by omega) (by omega) (by omega) hE
  rw [wrongVAA] at cW
  have cW := Lib.hid cW
  have hA2 := Lib.hid (rangeAt_keep hA (ag_below (w.alloc (.cells evA.cells.toArray 46)) (.cells ([evA, evA].flatMap Ev.cells).toArray 46)) hlA)
  have hl2 := Lib.hid (Nat.lt_of_lt_of_le hlA (ag_below (w.alloc (.cells evA.cells.toArray 46)) (.cells ([evA, evA].flatMap Ev.cells).toArray 46)).size)
  have cC := Lib.hid (fun (W : World) => check_ok [evA] (by intro e he; simp only [List.mem_cons, List.not_mem_nil, or_false] at he; subst he; exact evA_ok) (some ⟨W.heap.size, 0, none⟩) 1 1 (W.alloc (.cells evA.cells.toArray 46)) (by omega) (by omega) (by omega)
    (by have := Evs.block (es := [evA]) (w := W.alloc (.cells evA.cells.toArray 46)) (t := 46) (g := W.heap.size) (by simpa using heap_new W (.cells evA.cells.toArray 46)) (by simp); exact this) ruleA)
  have b2 := Lib.hid b2
  clear b1 hE2 hE hlA
  go_enter Try.func18, Try.ntmps18
  go_wp2_with (first
      | (refine wpList_build_as 46 _ rfl rfl evA.cells.toArray ?_ ?_; exact builtA)
      | (refine wpList_alloc_row 46 rfl rfl Ev.zero.cells.toArray ev_zero ?_)
      | (refine wpList_store_at 46 _ _ rfl rfl w.heap.size evA.cells.toArray rfl rfl 46 Ev.zero.cells.toArray hg1 (by kernel_rfl) rfl evA.one ?_
         rw [setRow_new])
      | (refine wpList_load_at 46 (.tmp 1) rfl rfl w.heap.size 0 rfl evA.cells _ hA Try.underlying46 rfl (by kernel_rfl) ?_)
      | (refine wpList_buildSlice_as 22 46 2 _ rfl rfl i0 (.agg Ev.zero.cells.toArray) ([evA, evA].flatMap Ev.cells).toArray Try.underlying22 hi0 hz0 (by rw [hz1]; decide) (by rw [hz1]; decide) (by rw [hz1]; exact fillAA) ?_; simp only [World.size_alloc])
      | (go_at_call 25; refine cW.out.mono ?_; rintro r w5 ⟨rfl, hb5⟩; have hA5 := rangeAt_keep hA2.out hb5 hl2.out; have hB5 := Lib.hid (b2.out.trans (hb5.mono b2.out.size)); clear hb5)
      | (refine wpList_load_at 46 (.tmp 1) rfl rfl w.heap.size 0 rfl evA.cells _ hA5 Try.underlying46 rfl (by kernel_rfl) ?_)
      | (refine wpList_buildSlice_as 22 46 1 _ rfl rfl i0 (.agg Ev.zero.cells.toArray) evA.cells.toArray Try.underlying22 hi0 hz0 (by rw [hz1]; decide) (by rw [hz1]; decide) ?_ ?_
         · rw [hz1]; exact fill_one 34 _ _ (by simp) rfl)
      | (go_at_call 23; (with_reducible refine (cC.out _).mono ?_); rintro r w6 ⟨rfl, hb6⟩))
  go_ret
  have b6 := hB5.out.alloc hB5.out.size (.cells evA.cells.toArray 46)
  exact ⟨rfl, b6.trans (hb6.mono b6.size)⟩
end Go.Proofs.Ytbokdbppjiegjaa
