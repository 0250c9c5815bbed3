/- The census: the walk of few. -/
import Derived.Test.YtkgkpoiacbjdfaaTrE
import Derived.Deep.DeepCutAuto
namespace Go.Proofs.Ytkgkpoiacbjdfaa
open Go.RowKit

/-- few answers some truth; where it is yes, there are at most 60 events. -/
def SomeFew (n : Nat) (w : World) (r : Ending) (w' : World) : Prop := ∃ f : Bool, (f = true → n ≤ 60) ∧ r = .returned (.bool f) ∧ Below w.heap.size w w'
theorem Ev.chc_one (e : Ev) : e.chc.toArray.all (·.oneCell') = true := by simp [Ev.chc, Value.oneCell']
def chcZ : Array Value := #[.string ⟨#[]⟩, .string ⟨#[]⟩, .string ⟨#[]⟩, .string ⟨#[]⟩, .string ⟨#[]⟩, .string ⟨#[]⟩, .string ⟨#[]⟩, .string ⟨#[]⟩]
theorem chc_zero : (Try.prog.info? 29).bind (·.zero) = some (.agg chcZ) := by kernel_rfl
set_option maxRecDepth 10000000 in
set_option maxHeartbeats 1000000 in
theorem few_any (es : List Ev) (A : Option Addr) (n c : Nat) (w : World) (hn : n ≤ 9223372036854775807) (H : Evs w A n es) (hst : ∀ e ∈ es, ∀ (i : Nat) (s : ByteArray), e.cells[i]? = some (.string s) → s.size ≤ 140737488351232) :
    Calls Try.prog 14 #[.slice A n c] w (SomeFew n w) := by
  by_cases h60 : 60 < n
  · go_enter Try.func14, Try.ntmps14
    go_wp2_with fail
    go_ret
    exact ⟨false, by simp, rfl, Below.refl _ _⟩
  have hst := Lib.hid hst
  go_enter Try.func14, Try.ntmps14
  go_wp2_with fail
  go_loopw [3, 4] (fun i _ wr => ∃ k : Nat, k ≤ n ∧ i = .int .i64 k ∧ Hid (Below w.heap.size w wr)) (fun i _ _ => n - (intOf i).toNat)
  case atStart => exact ⟨0, by omega, rfl, Below.refl _ _⟩
  case round =>
    obtain ⟨k, hk, rfl, hB⟩ := hrel
    by_cases hlt : k < n
    · obtain ⟨b, off, e, rfl, hb, he, hr⟩ := H.row hlt
      have hr' := Ev.fldN (rangeAt_keep hr hB.out hb)
      have hg1 := heap_new wr (.cells chcZ 29)
      have f0 : e.chc[0]? = some (.string e.dn.c0) := rfl
      have f1 : e.chc[1]? = some (.string e.dn.c1) := rfl
      have f2 : e.chc[2]? = some (.string e.dn.c2) := rfl
      have f3 : e.chc[3]? = some (.string e.dn.c3) := rfl
      have f4 : e.chc[4]? = some (.string e.dn.c4) := rfl
      have f5 : e.chc[5]? = some (.string e.dn.c5) := rfl
      have f6 : e.chc[6]? = some (.string e.dn.c6) := rfl
      have f7 : e.chc[7]? = some (.string e.dn.c7) := rfl
      have bA := Lib.hid (hB.out.alloc hB.out.size (.cells e.chc.toArray 29))
      have hst' := hst.out e (List.mem_of_getElem? he)
      have g0 := hst' 12 _ rfl
      have g1 := hst' 13 _ rfl
      have g2 := hst' 14 _ rfl
      have g3 := hst' 15 _ rfl
      have g4 := hst' 16 _ rfl
      have g5 := hst' 17 _ rfl
      have g6 := hst' 18 _ rfl
      have g7 := hst' 19 _ rfl
      clear hr he hst'
      go_upto_region 7 with (first
        | (refine wpList_load_at 29 (.tmp 18) rfl rfl b (off + k * 34 + 8 + 4) rfl e.chc _ hr' Try.underlying29 rfl (by kernel_rfl) ?_)
        | (refine wpList_alloc_row 29 rfl rfl chcZ ?_ ?_; exact chc_zero)
        | (refine wpList_store_at 29 (.tmp 4) (.tmp 19) rfl rfl wr.heap.size e.chc.toArray rfl rfl 29 chcZ hg1 (by kernel_rfl) rfl e.chc_one ?_
           rw [setRow_new]))
      clear hr' hg1
      go_wp2_with fail
      all_goals
        first
          | (go_ret
             exact ⟨false, by simp, rfl, bA.out⟩)
          | (go_roundw
             case rel => exact ⟨k + 1, by omega, by go_num, bA⟩
             case measure => simp [intOf]; omega)
    · go_wp2_with fail
      go_ret
      exact ⟨true, fun _ => by omega, rfl, hB.out⟩

end Go.Proofs.Ytkgkpoiacbjdfaa
