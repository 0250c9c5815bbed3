/- Agree: Source, opens. -/
import Derived.Test.YtbokdbppjiegjaaAgE
namespace Go.Proofs.Ytbokdbppjiegjaa
open Go.RowKit

theorem like_any (e x : Ev) (he : allOk evDs e.cells) (hx : allOk evDs x.cells) (w : World) :
    Calls Try.prog 46 #[.agg e.cells.toArray, .agg x.cells.toArray] w fun r w' => r = .returned (.bool (likeE e x)) ∧ Below w.heap.size w w' := by
  by_cases k2 : x.kind = 2
  · exact like_2 e x he hx w k2
  by_cases k4 : x.kind = 4
  · by_cases e3 : e.kind = 3
    · exact like_45 e x he hx w (.inl ⟨k4, e3⟩)
    · exact like_no e x w (by unfold likeE; simp [k4, e3]) (.inl ⟨k4, e3⟩)
  by_cases k5 : x.kind = 5
  · by_cases e4 : e.kind = 4
    · exact like_45 e x he hx w (.inr ⟨k5, e4⟩)
    · exact like_no e x w (by unfold likeE; simp [k5, e4]) (.inr (.inl ⟨k5, e4⟩))
  exact like_no e x w (by unfold likeE; simp [k2, k4, k5]) (.inr (.inr ⟨k2, k4, k5⟩))

/-- A beginning of a slice of events. -/
theorem Evs.take_ {w : World} {A : Option Addr} {n m : Nat} {es : List Ev} (h : Evs w A n es) (hm : m ≤ n) : Evs w A m (es.take m) := by
  unfold Evs at *
  rw [List.map_take]
  refine ⟨by rw [List.length_take, h.1]; omega, fun z hz => h.2.1 z (List.mem_of_mem_take hz), fun hp => ?_⟩
  obtain ⟨b, off, e, hlt, hc⟩ := h.2.2 (by omega)
  refine ⟨b, off, e, hlt, fun j z hz => ?_⟩
  rw [List.getElem?_take] at hz
  split at hz
  · exact hc j z hz
  · cases hz

set_option maxHeartbeats 400000 in
theorem indexFunc_mem (p : Ev → Bool) (g : Nat) (lb : Array Value) (eg : ∀ args w, (callFunc g args).run Try.prog w = .ok (.enter g args) w)
    (es : List Ev) (A : Option Addr) (n c : Nat) (w : World) (hn : n ≤ 9223372036854775807) (H : Evs w A n es)
    (hp : ∀ (W : World) (e : Ev), e ∈ es → Below w.heap.size w W → Calls Try.prog g (#[.agg e.cells.toArray] ++ lb) W fun r w' => r = .returned (.bool (p e)) ∧ Below W.heap.size W w') :
    Calls Try.prog 44 #[.slice A n c, .func (.func g) #[] lb] w fun r w' => r = .returned (.int .i64 (idx p es)) ∧ Below w.heap.size w w' := by
  have hlen := Lib.hid H.len
  have hP := Lib.hid hp
  clear hp
  go_enter Try.func44, Try.ntmps44
  go_wp2
  go_loopw [5, 8] (fun _ i wr => ∃ k : Nat, k ≤ n ∧ i = .int .i64 k ∧ Hid (((es.take k).any p) = false) ∧ Hid (Below w.heap.size w wr)) (fun _ i _ => n - (intOf i).toNat)
  case atStart => exact ⟨0, by omega, rfl, by simp [Hid], Below.refl _ _⟩
  case round =>
    obtain ⟨k, hk, rfl, hf, hB⟩ := hrel
    by_cases hlt : k < n
    · obtain ⟨b, off, e, rfl, hb, he, hr⟩ := H.row hlt
      have hm := Lib.hid (List.mem_of_getElem? he)
      have he := Lib.hid he
      have hr' := rangeAt_keep hr hB.out hb
      clear hr
      go_wp2_with (first | (refine wpList_load_mid rfl 46 _ rfl b (off + k * 34) rfl e.cells _ hr' Try.underlying46 rfl (by kernel_rfl) ?_))
      have hc := hP.out wr e hm.out hB.out
      cases hq : p e with
      | true =>
        rw [hq] at hc
        have hq := Lib.hid hq
        refine hc.mono ?_
        rintro r w1 ⟨rfl, hb1⟩
        go_wp2
        go_ret
        exact ⟨ret_int (idx_hit he.out hq.out hf.out).symm, hB.out.trans (hb1.mono hB.out.size)⟩
      | false =>
        rw [hq] at hc
        have hq := Lib.hid hq
        refine hc.mono ?_
        rintro r w1 ⟨rfl, hb1⟩
        go_wp2
        go_roundw
        case rel => exact ⟨k + 1, by omega, by go_num, (by unfold Hid; rw [any_take_succ _ he.out, hf.out, hq.out]; rfl), hB.out.trans (hb1.mono hB.out.size)⟩
        case measure => simp [intOf]; omega
    · go_wp2
      go_ret
      exact ⟨ret_int (idx_miss (any_whole (n := k) (by rw [hlen.out]; omega) hf.out)).symm, hB.out⟩

attribute [local go_sem ↓] ldE_eq
set_option maxHeartbeats 1000000 in
theorem source_fn (e x : Ev) (he : allOk evDs e.cells) (hx : allOk evDs x.cells) (w : World) (bl ba b off n c k : Nat) (hn : n ≤ 9223372036854775807) (hk : k < n)
    (h1 : w.cell? ⟨bl, 0, none⟩ = some (.slice (some ⟨b, off, none⟩) n c)) (h2 : w.cell? ⟨ba, 0, none⟩ = some (.int .i64 k)) (h3 : w.rangeAt b (off + k * 34) x.cells) (l1 : bl < w.heap.size) (l2 : ba < w.heap.size) (l3 : b < w.heap.size) :
    Calls Try.prog 45 #[.agg e.cells.toArray, .pointer (some ⟨bl, 0, none⟩), .pointer (some ⟨ba, 0, none⟩)] w fun r w' => r = .returned (.bool (likeE e x)) ∧ Below w.heap.size w w' := by
  have hB := ag_below w (.cells e.cells.toArray 46)
  have hE := rangeAt_list (heap_new w (.cells e.cells.toArray 46))
  have hlt := (Array.getElem?_eq_some_iff.1 (heap_new w (.cells e.cells.toArray 46))).1
  have d1 := (hB.cell (p := ⟨bl, 0, none⟩) l1).trans h1
  have d2 := (hB.cell (p := ⟨ba, 0, none⟩) l2).trans h2
  have d3 := rangeAt_keep h3 hB l3
  have l1 := Nat.lt_of_lt_of_le l1 hB.size
  have l2 := Nat.lt_of_lt_of_le l2 hB.size
  have l3 := Nat.lt_of_lt_of_le l3 hB.size
  have i1 : (0 : Int) ≤ (k : Int) := by omega
  have i2 : (k : Int) < (n : Int) := by omega
  have cL := Lib.hid (fun W => like_any e x he hx W)
  generalize hv : likeE e x = q at cL
  clear hv h1 h2 h3 he hx
  have hS : ∀ W, Below (w.alloc (.cells e.cells.toArray 46)).heap.size (w.alloc (.cells e.cells.toArray 46)) W →
      ((ldE ⟨w.heap.size, 0, none⟩).run Try.prog W = .ok (.agg e.cells.toArray) W ∧ W.cell? ⟨bl, 0, none⟩ = some (.slice (some ⟨b, off, none⟩) n c) ∧ W.cell? ⟨ba, 0, none⟩ = some (.int .i64 k) ∧ (ldE ⟨b, off + k * 34, none⟩).run Try.prog W = .ok (.agg x.cells.toArray) W) := fun W hW =>
    ⟨ldE_run (rangeAt_keep hE hW hlt), (hW.cell (p := ⟨bl, 0, none⟩) l1).trans d1, (hW.cell (p := ⟨ba, 0, none⟩) l2).trans d2, ldE_run (rangeAt_keep d3 hW l3)⟩
  have hS := Lib.hid hS
  have hB := Lib.hid hB
  clear hE d1 d2 d3 l1 l2 l3 hlt
  go_enter Try.func45, Try.ntmps45
  go_wp2_with fail
  generalize w.alloc (.cells e.cells.toArray 46) = W0 at hB hS ⊢
  have hB0 := Lib.hid (show Below W0.heap.size W0 W0.drew from drewN_below 1)
  go_region_held3 (fun W => (ldE ⟨w.heap.size, 0, none⟩).run Try.prog W = .ok (.agg e.cells.toArray) W ∧ W.cell? ⟨bl, 0, none⟩ = some (.slice (some ⟨b, off, none⟩) n c) ∧ W.cell? ⟨ba, 0, none⟩ = some (.int .i64 k) ∧ (ldE ⟨b, off + k * 34, none⟩).run Try.prog W = .ok (.agg x.cells.toArray) W)
      (first | exact hS.out _ hB0.out | exact hS.out _ hB5.out)
      (first
        | (go_at_call 46; (with_reducible refine (cL.out _).mono ?_); rintro r w5 ⟨rfl, hb5⟩; have hB5 := Lib.hid (Below.trans hB0.out (hb5.mono hB0.out.size)); clear hb5))
  all_goals
    go_wp2_with fail
    go_ret
    exact ⟨rfl, hB.out.trans (Below.mono hB5.out hB.out.size)⟩

def srcV (s : Int) : Value := .tuple #[.int .i64 (if s < 0 then 0 else s), .bool (decide (0 ≤ s))]
theorem srcI_cases (es : List Ev) (k : Nat) (x : Ev) : srcI es k x = -1 ∨ ∃ s : Nat, srcI es k x = s ∧ s < k ∧ s < es.length := by
  unfold srcI
  rcases idx_cases (fun e => likeE e x) (es.take k) with ⟨h, _⟩ | ⟨s, y, h1, h2, _, _⟩
  · exact .inl h
  · have := (List.getElem?_eq_some_iff.1 h2).1
    rw [List.length_take] at this
    exact .inr ⟨s, h1, by omega, by omega⟩
set_option maxHeartbeats 1000000 in
theorem source_any (es : List Ev) (hok : ∀ e ∈ es, allOk evDs e.cells) (A : Option Addr) (n c k : Nat) (x : Ev) (w : World) (hc : n ≤ c) (hn : c ≤ 9223372036854775807) (H : Evs w A n es) (hx : es[k]? = some x) :
    Calls Try.prog 19 #[.slice A n c, .int .i64 k] w fun r w' => r = .returned (srcV (srcI es k x)) ∧ Below w.heap.size w w' := by
  have hkl : k < n := by have := (List.getElem?_eq_some_iff.1 hx).1; have := H.len; omega
  obtain ⟨b, off, x', rfl, hb, hx', hr⟩ := H.row hkl
  obtain rfl : x' = x := by rw [hx] at hx'; injection hx' with h; exact h.symm
  have hB1 := ag_below w (.cells #[.slice (some ⟨b, off, none⟩) n c] 22)
  have hB2 := hB1.alloc hB1.size (.cells #[.int .i64 k] 3)
  have hT := (H.keep hB2).take_ (m := k) (by omega)
  have q1 : ((w.alloc (.cells #[.slice (some ⟨b, off, none⟩) n c] 22)).alloc (.cells #[.int .i64 k] 3)).cell? ⟨w.heap.size, 0, none⟩ = some (.slice (some ⟨b, off, none⟩) n c) := by simp
  have q2 : ((w.alloc (.cells #[.slice (some ⟨b, off, none⟩) n c] 22)).alloc (.cells #[.int .i64 k] 3)).cell? ⟨w.heap.size + 1, 0, none⟩ = some (.int .i64 k) := by simp
  have q3 := rangeAt_keep hr hB2 hb
  have hxo := hok x' (List.mem_of_getElem? hx)
  have cI := indexFunc_mem (fun e => likeE e x') 45 #[.pointer (some ⟨w.heap.size, 0, none⟩), .pointer (some ⟨w.heap.size + 1, 0, none⟩)] (by intro args w; kernel_rfl)
    (es.take k) (some ⟨b, off, none⟩) k c _ (by omega) hT (fun W e hm hW => source_fn e x' (hok e (List.mem_of_mem_take hm)) hxo W w.heap.size (w.heap.size + 1) b off n c k (by omega) hkl
      ((hW.cell (p := ⟨w.heap.size, 0, none⟩) (by simp; omega)).trans q1) ((hW.cell (p := ⟨w.heap.size + 1, 0, none⟩) (by simp)).trans q2) (rangeAt_keep q3 hW (Nat.lt_of_lt_of_le hb hB2.size))
      (Nat.lt_of_lt_of_le (by simp; omega) hW.size) (Nat.lt_of_lt_of_le (by simp) hW.size) (Nat.lt_of_lt_of_le (Nat.lt_of_lt_of_le hb hB2.size) hW.size))
  have hsc := srcI_cases es k x'
  have hs : idx (fun e => likeE e x') (es.take k) = srcI es k x' := rfl
  rw [hs] at cI
  have cI := Lib.hid cI
  have hB2 := Lib.hid hB2
  clear hs hB1 hT q1 q2 q3 hr hx hx' hxo
  generalize srcI es k x' = s at cI hsc
  have i1 : (0 : Int) ≤ (k : Int) := by omega
  have i2 : (k : Int) < (n : Int) := by omega
  rcases hsc with rfl | ⟨m, rfl, hm1, hm2⟩
  all_goals
    go_enter Try.func19, Try.ntmps19
    go_wp2_with (go_at_call 44; refine cI.out.mono ?_; rintro r w1 ⟨rfl, hb1⟩)
    go_ret2
    refine ⟨?_, hB2.out.trans (hb1.mono hB2.out.size)⟩
    first | (simp [srcV]; done) | (simp [srcV]; omega)
theorem source_out (A : Option Addr) (n c : Nat) (at_ : Int) (w : World) (hn : n ≤ 9223372036854775807) (h : at_ < 0 ∨ (0 ≤ at_ ∧ (n : Int) ≤ at_)) :
    Calls Try.prog 19 #[.slice A n c, .int .i64 at_] w fun r w' => r = .returned (.tuple #[.int .i64 0, .bool false]) ∧ Below w.heap.size w w' := by
  have hB1 := ag_below w (.cells #[.slice A n c] 22)
  have hB2 := Lib.hid (hB1.alloc hB1.size (.cells #[.int .i64 at_] 3))
  clear hB1
  rcases h with h | ⟨h0, h⟩
  all_goals
    go_enter Try.func19, Try.ntmps19
    go_wp2_with fail
    go_ret2
    exact ⟨rfl, hB2.out⟩

set_option maxHeartbeats 400000 in
theorem opens_fn (e : Ev) (ses : Int) (w : World) (bs : Nat) (h1 : w.cell? ⟨bs, 0, none⟩ = some (.int .i64 ses)) (l1 : bs < w.heap.size) :
    Calls Try.prog 61 #[.agg e.cells.toArray, .pointer (some ⟨bs, 0, none⟩)] w fun r w' => r = .returned (.bool (ofSes ses e)) ∧ Below w.heap.size w w' := by
  have hB := ag_below w (.cells e.cells.toArray 46)
  have hE := rangeAt_list (heap_new w (.cells e.cells.toArray 46))
  have hlt := (Array.getElem?_eq_some_iff.1 (heap_new w (.cells e.cells.toArray 46))).1
  have d1 := (hB.cell (p := ⟨bs, 0, none⟩) l1).trans h1
  have l1 := Nat.lt_of_lt_of_le l1 hB.size
  have hS : ∀ W, Below (w.alloc (.cells e.cells.toArray 46)).heap.size (w.alloc (.cells e.cells.toArray 46)) W → (W.cell? ⟨w.heap.size, 1, none⟩ = some (.int .i64 e.ses) ∧ W.cell? ⟨bs, 0, none⟩ = some (.int .i64 ses)) := fun W hW => by
    refine ⟨?_, (hW.cell (p := ⟨bs, 0, none⟩) l1).trans d1⟩
    have := rangeAt_keep hE hW hlt 1 _ e.at1
    simpa using this
  have hS := Lib.hid hS
  have hB := Lib.hid hB
  have cE := Lib.hid (fun W => exchange_any e W)
  have hv := show ofSes ses e = (isExch e && e.ses == ses) from rfl
  generalize isExch e = q at cE hv
  clear d1 l1 h1 hlt
  cases q with
  | false =>
    have hv := Lib.hid hv
    go_enter Try.func61, Try.ntmps61
    go_wp2_with (first
      | (refine wpList_load_at 46 (.tmp 2) rfl rfl w.heap.size 0 rfl e.cells _ hE Try.underlying46 rfl (by kernel_rfl) ?_)
      | (go_at_call 62; refine (cE.out _).mono ?_; rintro r w1 ⟨rfl, hb1⟩))
    go_ret
    exact ⟨ret_bool hv.out.symm, hB.out.trans (hb1.mono hB.out.size)⟩
  | true =>
    have hv := Lib.hid hv
    go_enter Try.func61, Try.ntmps61
    go_wp2_with (first
      | (refine wpList_load_at 46 (.tmp 2) rfl rfl w.heap.size 0 rfl e.cells _ hE Try.underlying46 rfl (by kernel_rfl) ?_)
      | (go_at_call 62; refine (cE.out _).mono ?_; rintro r w1 ⟨rfl, hb1⟩; obtain ⟨s1, s2⟩ := hS.out w1 hb1))
    go_ret
    exact ⟨ret_bool (hv.out.trans (by simp)).symm, hB.out.trans (hb1.mono hB.out.size)⟩

set_option maxHeartbeats 400000 in
theorem opens_any (es : List Ev) (A : Option Addr) (n c : Nat) (ses : Int) (w : World) (hn : n ≤ 9223372036854775807) (H : Evs w A n es) :
    Calls Try.prog 47 #[.slice A n c, .int .i64 ses] w fun r w' => r = .returned (.int .i64 (opensI es ses)) ∧ Below w.heap.size w w' := by
  have b0 := ag_below w (.cells #[.int .i64 ses] 3)
  have cI := indexFunc_mem (ofSes ses) 61 #[.pointer (some ⟨w.heap.size, 0, none⟩)] (by intro args w; kernel_rfl) es A n c _ hn (H.keep b0)
    (fun W e _ hW => opens_fn e ses W w.heap.size ((hW.cell (p := ⟨w.heap.size, 0, none⟩) (by simp)).trans (by simp)) (Nat.lt_of_lt_of_le (by simp) hW.size))
  have cI := Lib.hid cI
  have b0 := Lib.hid b0
  go_enter Try.func47, Try.ntmps47
  go_wp2_with (go_at_call 44; refine cI.out.mono ?_; rintro r w1 ⟨rfl, hb1⟩)
  go_ret
  exact ⟨rfl, b0.out.trans (hb1.mono b0.out.size)⟩
end Go.Proofs.Ytbokdbppjiegjaa
