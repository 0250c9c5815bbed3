/- Choose: what two agree upon. -/
import Derived.Test.YtfoegpacjkcidaaDoorChB
import Derived.Test.YtfoegpacjkcidaaDoorFl0
import Derived.Test.YtfoegpacjkcidaaDoorPfN
namespace Go.Proofs.YtfoegpacjkcidaaDoor
open Go.RowKit

def chooseS : ByteArray := ⟨#[99, 104, 111, 111, 115, 101]⟩
def ChR (w : World) (L M : List (List ByteArray)) (r : Ending) (w' : World) : Prop :=
  if fK L M = 8 then r = .returned (.tuple #[.agg ((fOut L M 8).map Value.string).toArray, .nilIface]) ∧ Below w.heap.size w w'
  else ∃ T u, r = .returned (.tuple #[.agg #[.string ⟨#[]⟩, .string ⟨#[]⟩, .string ⟨#[]⟩, .string ⟨#[]⟩, .string ⟨#[]⟩, .string ⟨#[]⟩, .string ⟨#[]⟩, .string ⟨#[]⟩], .iface T u]) ∧ isErr w' (some 10) [chooseS, wordAt (fK L M)] (.iface T u) ∧ Below w.heap.size w w'
theorem setRow_eq (w : World) (g : Nat) (cs : Array Value) (t : TypeId) (fr : Nat × Nat) (h : w.heap[g]? = some (.cells cs t fr)) : w.setRow g cs = w := by
  have e : (w.setRow g cs).heap = w.heap := by
    apply Array.ext
    · simp [World.setRow]
    · intro i h1 h2
      simp only [World.setRow, Array.getElem_modify]
      by_cases e : g = i
      · subst e
        have := (Array.getElem?_eq_some_iff.1 h).2
        simp [this]
      · simp [e]
  unfold World.setRow at e ⊢
  cases w
  simp only at e ⊢
  rw [e]
theorem list8 {X : List ByteArray} (h : X.length = 8) : ∃ x0 x1 x2 x3 x4 x5 x6 x7, X = [x0, x1, x2, x3, x4, x5, x6, x7] := by
  match X, h with
  | [x0, x1, x2, x3, x4, x5, x6, x7], _ => exact ⟨_, _, _, _, _, _, _, _, rfl⟩
theorem fK_le (L M : List (List ByteArray)) : fK L M ≤ 8 := by
  have key : ∀ n i, fGo L M n i ≤ i + n := by
    intro n
    induction n with
    | zero => intro i; exact Nat.le_refl _
    | succ n ih => intro i; unfold fGo; split
                   · have := ih (i + 1); omega
                   · omega
  have := key 8 0
  unfold fK; omega
theorem ch_zero : (Tryd.prog.info? 28).bind (·.zero) = some (.agg #[.string ⟨#[]⟩, .string ⟨#[]⟩, .string ⟨#[]⟩, .string ⟨#[]⟩, .string ⟨#[]⟩, .string ⟨#[]⟩, .string ⟨#[]⟩, .string ⟨#[]⟩]) := by kernel_rfl
theorem s8_zero' : (Tryd.prog.info? 59).bind (·.zero) = some (.agg #[.string ⟨#[]⟩, .string ⟨#[]⟩, .string ⟨#[]⟩, .string ⟨#[]⟩, .string ⟨#[]⟩, .string ⟨#[]⟩, .string ⟨#[]⟩, .string ⟨#[]⟩]) := by kernel_rfl
theorem ch_built (x0 x1 x2 x3 x4 x5 x6 x7 : ByteArray) : Tryd.prog.built 28 [(0, .string x0), (1, .string x1), (2, .string x2), (3, .string x3), (4, .string x4), (5, .string x5), (6, .string x6), (7, .string x7)] = some #[.string x0, .string x1, .string x2, .string x3, .string x4, .string x5, .string x6, .string x7] := by kernel_rfl
theorem ch_built0 : Tryd.prog.built 28 [] = some #[.string ⟨#[]⟩, .string ⟨#[]⟩, .string ⟨#[]⟩, .string ⟨#[]⟩, .string ⟨#[]⟩, .string ⟨#[]⟩, .string ⟨#[]⟩, .string ⟨#[]⟩] := by kernel_rfl
theorem pf_size {w : World} {V : List Value} {L : List (List ByteArray)} (h : Pf w V L) : (Tryd.prog.info? 24).map (·.size) = some V.length := by rw [h.v8]; kernel_rfl
theorem set8 (w : World) (old : Array Value) (t : TypeId) (cs : Array Value) : (w.alloc (.cells old t)).setRow w.heap.size cs = w.alloc (.cells cs t) := setRow_new w old cs t
set_option maxRecDepth 100000 in
set_option maxHeartbeats 8000000 in
theorem choose_any (V U : List Value) (L M : List (List ByteArray)) (w : World) (H : Pf w V L) (K : Pf w U M) (hn : ∀ l ∈ L, l.length ≤ 1000000) (hm : ∀ l ∈ M, l.length ≤ 1000000) (P : PV w) :
    Calls Tryd.prog 10 #[.agg V.toArray, .agg U.toArray] w (ChR w L M) := by
  have hb1 := below_got w (.cells V.toArray 24)
  have hb2 := hb1.alloc hb1.size (.cells U.toArray 24)
  have hb3 := hb2.alloc hb2.size (.cells #[.string ⟨#[]⟩, .string ⟨#[]⟩, .string ⟨#[]⟩, .string ⟨#[]⟩, .string ⟨#[]⟩, .string ⟨#[]⟩, .string ⟨#[]⟩, .string ⟨#[]⟩] 28)
  have hg1 := heap_past (heap_past (heap_new w (.cells V.toArray 24)) (.cells U.toArray 24)) (.cells #[.string ⟨#[]⟩, .string ⟨#[]⟩, .string ⟨#[]⟩, .string ⟨#[]⟩, .string ⟨#[]⟩, .string ⟨#[]⟩, .string ⟨#[]⟩, .string ⟨#[]⟩] 28)
  have hg2 := heap_past (heap_new (w.alloc (.cells V.toArray 24)) (.cells U.toArray 24)) (.cells #[.string ⟨#[]⟩, .string ⟨#[]⟩, .string ⟨#[]⟩, .string ⟨#[]⟩, .string ⟨#[]⟩, .string ⟨#[]⟩, .string ⟨#[]⟩, .string ⟨#[]⟩] 28)
  have hg3 := heap_new ((w.alloc (.cells V.toArray 24)).alloc (.cells U.toArray 24)) (.cells #[.string ⟨#[]⟩, .string ⟨#[]⟩, .string ⟨#[]⟩, .string ⟨#[]⟩, .string ⟨#[]⟩, .string ⟨#[]⟩, .string ⟨#[]⟩, .string ⟨#[]⟩] 28)
  simp only [World.size_alloc] at hg2 hg3
  have hldV := rangeAt_list (cs := V) (by exact hg1)
  have hldU := rangeAt_list (cs := U) (by exact hg2)
  have hszV := pf_size H
  have hszU := pf_size K
  have hz8 := ch_zero
  have hz9 := s8_zero'
  have cF := firsts_any V U L M (((w.alloc (.cells V.toArray 24)).alloc (.cells U.toArray 24)).alloc (.cells #[.string ⟨#[]⟩, .string ⟨#[]⟩, .string ⟨#[]⟩, .string ⟨#[]⟩, .string ⟨#[]⟩, .string ⟨#[]⟩, .string ⟨#[]⟩, .string ⟨#[]⟩] 28)) (H.keep hb3) (K.keep hb3) hn hm
  have hfl := fK_le L M
  have hP := Lib.hid (fun W (h : Below w.heap.size w W) => P.keep h)
  have hlt3 := (Array.getElem?_eq_some_iff.1 hg3).1
  have hB1 := Lib.hid hb3
  clear H K hn hm hb1 hb2 hb3 hg1 hg2 P
  by_cases hk : fK L M = 8
  · rw [hk] at cF
    obtain ⟨x0, x1, x2, x3, x4, x5, x6, x7, hx⟩ := list8 (fOut_len L M 8)
    rw [hx] at cF
    have hx := Lib.hid hx
    have hk := Lib.hid hk
    clear hfl
    go_enter Tryd.func10, Tryd.ntmps10
    go_upto_region 1 with (first
      | (refine wpList_box_row 24 _ rfl rfl (List.toArray _) rfl ?_; try simp only [World.size_alloc])
      | (refine wpList_alloc_row 28 rfl rfl #[.string ⟨#[]⟩, .string ⟨#[]⟩, .string ⟨#[]⟩, .string ⟨#[]⟩, .string ⟨#[]⟩, .string ⟨#[]⟩, .string ⟨#[]⟩, .string ⟨#[]⟩] hz8 ?_; try simp only [World.size_alloc]))
    generalize (((w.alloc (.cells V.toArray 24)).alloc (.cells U.toArray 24)).alloc (.cells #[.string ⟨#[]⟩, .string ⟨#[]⟩, .string ⟨#[]⟩, .string ⟨#[]⟩, .string ⟨#[]⟩, .string ⟨#[]⟩, .string ⟨#[]⟩, .string ⟨#[]⟩] 28)) = w1 at cF hB1 hldV hldU hg3 hlt3 ⊢
    have cF := Lib.hid cF
    have hR := Lib.hid (fun W (h : Below w1.heap.size w1 W) => (h.block (w.heap.size + 1 + 1) hlt3).trans hg3)
    clear hg3 hlt3
    go_upto_region 4 with (first
      | (refine wpList_load_at 24 (.tmp 2) rfl (by rfl) w.heap.size 0 rfl V _ (by assumption) Tryd.underlying24 rfl hszV ?_)
      | (refine wpList_load_at 24 (.tmp 3) rfl (by rfl) (w.heap.size + 1) 0 rfl U _ (by assumption) Tryd.underlying24 rfl hszU ?_)
      | (go_at_call 33; (with_reducible refine cF.out.mono ?_); rintro r w2 ⟨rfl, hb2⟩; have hC2 := Lib.hid hb2; have hB2 := Lib.hid (hB1.out.trans (hb2.mono hB1.out.size)); have hn2 := heap_new w2 (.cells #[.string ⟨#[]⟩, .string ⟨#[]⟩, .string ⟨#[]⟩, .string ⟨#[]⟩, .string ⟨#[]⟩, .string ⟨#[]⟩, .string ⟨#[]⟩, .string ⟨#[]⟩] 59); clear hb2)
      | (refine wpList_alloc_row 59 rfl rfl #[.string ⟨#[]⟩, .string ⟨#[]⟩, .string ⟨#[]⟩, .string ⟨#[]⟩, .string ⟨#[]⟩, .string ⟨#[]⟩, .string ⟨#[]⟩, .string ⟨#[]⟩] hz9 ?_)
      | (refine wpList_store_at 59 _ _ rfl rfl w2.heap.size #[.string x0, .string x1, .string x2, .string x3, .string x4, .string x5, .string x6, .string x7] rfl rfl 59 #[.string ⟨#[]⟩, .string ⟨#[]⟩, .string ⟨#[]⟩, .string ⟨#[]⟩, .string ⟨#[]⟩, .string ⟨#[]⟩, .string ⟨#[]⟩, .string ⟨#[]⟩] hn2 (by kernel_rfl) rfl (by simp [Value.oneCell']) ?_; rw [setRow_new]))
    have hg4 := heap_new w2 (.cells #[.string x0, .string x1, .string x2, .string x3, .string x4, .string x5, .string x6, .string x7] 59)
    have hb4 := below_got w2 (.cells #[.string x0, .string x1, .string x2, .string x3, .string x4, .string x5, .string x6, .string x7] 59)
    generalize w2.alloc (.cells #[.string x0, .string x1, .string x2, .string x3, .string x4, .string x5, .string x6, .string x7] 59) = w4 at hg4 hb4 ⊢
    have e0 : w4.cell? ⟨w2.heap.size, 0, none⟩ = some (.string x0) := cell_of_row _ _ 0 _ _ _ hg4
    have e1 : w4.cell? ⟨w2.heap.size, 1, none⟩ = some (.string x1) := cell_of_row _ _ 1 _ _ _ hg4
    have e2 : w4.cell? ⟨w2.heap.size, 2, none⟩ = some (.string x2) := cell_of_row _ _ 2 _ _ _ hg4
    have e3 : w4.cell? ⟨w2.heap.size, 3, none⟩ = some (.string x3) := cell_of_row _ _ 3 _ _ _ hg4
    have e4 : w4.cell? ⟨w2.heap.size, 4, none⟩ = some (.string x4) := cell_of_row _ _ 4 _ _ _ hg4
    have e5 : w4.cell? ⟨w2.heap.size, 5, none⟩ = some (.string x5) := cell_of_row _ _ 5 _ _ _ hg4
    have e6 : w4.cell? ⟨w2.heap.size, 6, none⟩ = some (.string x6) := cell_of_row _ _ 6 _ _ _ hg4
    have e7 : w4.cell? ⟨w2.heap.size, 7, none⟩ = some (.string x7) := cell_of_row _ _ 7 _ _ _ hg4
    have hgr := hR.out w4 (hC2.out.trans (hb4.mono hC2.out.size))
    have hB4 := Lib.hid (hB2.out.trans (hb4.mono hB2.out.size))
    clear hg4 hb4 hn2
    go_wp2_with (first
      | (refine wpList_build_as 28 _ rfl rfl #[.string x0, .string x1, .string x2, .string x3, .string x4, .string x5, .string x6, .string x7] (by kernel_rfl) ?_)
      | (refine wpList_store_at 28 _ _ rfl rfl (w.heap.size + 1 + 1) #[.string x0, .string x1, .string x2, .string x3, .string x4, .string x5, .string x6, .string x7] rfl rfl 28 #[.string ⟨#[]⟩, .string ⟨#[]⟩, .string ⟨#[]⟩, .string ⟨#[]⟩, .string ⟨#[]⟩, .string ⟨#[]⟩, .string ⟨#[]⟩, .string ⟨#[]⟩] hgr (by kernel_rfl) rfl (by simp [Value.oneCell']) ?_))
    refine bodyPost_ret (results_two rfl _ _ (w.heap.size + 1 + 1) 28 #[.string x0, .string x1, .string x2, .string x3, .string x4, .string x5, .string x6, .string x7] (0, 0) _ _ rfl (heap_setRow_new _ _ _ _ _ _ hgr) Tryd.underlying28 rfl (by kernel_rfl) rfl) rfl ?_
    unfold ChR
    rw [if_pos hk.out, hx.out]
    exact ⟨rfl, below_row hB4.out (by omega) _⟩
  · have hlt : fK L M < 8 := by omega
    generalize hq0 : fK L M = q at cF hlt hk
    have hq := Lib.hid hq0
    clear hq0 hfl
    obtain ⟨x0, x1, x2, x3, x4, x5, x6, x7, hx⟩ := list8 (fOut_len L M q)
    rw [hx] at cF
    clear hx
    have hq8 := Lib.hid hk
    have i1 : (q : Int) < 8 := by omega
    have cI := Lib.hid (fun W (h : Below w.heap.size w W) => list_any (q : Int) W (hP.out W h))
    have cO := Lib.hid (fun s W => of_any s 10 W (by decide))
    have cAt := Lib.hid (fun (o : Option Int) (p : List ByteArray) T u W (h : isErr W o p (.iface T u)) => at_any ⟨#[99, 104, 111, 111, 115, 101]⟩ o p T u W h)
    clear hk hlt
    go_enter Tryd.func10, Tryd.ntmps10
    go_upto_region 1 with (first
      | (refine wpList_box_row 24 _ rfl rfl (List.toArray _) rfl ?_; try simp only [World.size_alloc])
      | (refine wpList_alloc_row 28 rfl rfl #[.string ⟨#[]⟩, .string ⟨#[]⟩, .string ⟨#[]⟩, .string ⟨#[]⟩, .string ⟨#[]⟩, .string ⟨#[]⟩, .string ⟨#[]⟩, .string ⟨#[]⟩] hz8 ?_; try simp only [World.size_alloc]))
    generalize (((w.alloc (.cells V.toArray 24)).alloc (.cells U.toArray 24)).alloc (.cells #[.string ⟨#[]⟩, .string ⟨#[]⟩, .string ⟨#[]⟩, .string ⟨#[]⟩, .string ⟨#[]⟩, .string ⟨#[]⟩, .string ⟨#[]⟩, .string ⟨#[]⟩] 28)) = w1 at cF hB1 hldV hldU hg3 hlt3 ⊢
    have cF := Lib.hid cF
    have hR := Lib.hid (fun W (h : Below w1.heap.size w1 W) => (h.block (w.heap.size + 1 + 1) hlt3).trans hg3)
    clear hg3 hlt3
    go_upto_region 3 with (first
      | (refine wpList_load_at 24 (.tmp 2) rfl (by rfl) w.heap.size 0 rfl V _ (by assumption) Tryd.underlying24 rfl hszV ?_)
      | (refine wpList_load_at 24 (.tmp 3) rfl (by rfl) (w.heap.size + 1) 0 rfl U _ (by assumption) Tryd.underlying24 rfl hszU ?_)
      | (go_at_call 33; (with_reducible refine cF.out.mono ?_); rintro r w2 ⟨rfl, hb2⟩; have hC2 := Lib.hid hb2; have hB2 := Lib.hid (hB1.out.trans (hb2.mono hB1.out.size)); have hn2 := heap_new w2 (.cells #[.string ⟨#[]⟩, .string ⟨#[]⟩, .string ⟨#[]⟩, .string ⟨#[]⟩, .string ⟨#[]⟩, .string ⟨#[]⟩, .string ⟨#[]⟩, .string ⟨#[]⟩] 59); clear hb2)
      | (refine wpList_alloc_row 59 rfl rfl #[.string ⟨#[]⟩, .string ⟨#[]⟩, .string ⟨#[]⟩, .string ⟨#[]⟩, .string ⟨#[]⟩, .string ⟨#[]⟩, .string ⟨#[]⟩, .string ⟨#[]⟩] hz9 ?_)
      | (refine wpList_store_at 59 _ _ rfl rfl w2.heap.size #[.string x0, .string x1, .string x2, .string x3, .string x4, .string x5, .string x6, .string x7] rfl rfl 59 #[.string ⟨#[]⟩, .string ⟨#[]⟩, .string ⟨#[]⟩, .string ⟨#[]⟩, .string ⟨#[]⟩, .string ⟨#[]⟩, .string ⟨#[]⟩, .string ⟨#[]⟩] hn2 (by kernel_rfl) rfl (by simp [Value.oneCell']) ?_; rw [setRow_new]))
    have hb4 := below_got w2 (.cells #[.string x0, .string x1, .string x2, .string x3, .string x4, .string x5, .string x6, .string x7] 59)
    generalize w2.alloc (.cells #[.string x0, .string x1, .string x2, .string x3, .string x4, .string x5, .string x6, .string x7] 59) = w4 at hb4 ⊢
    have hC4 := Lib.hid (hC2.out.trans (hb4.mono hC2.out.size))
    have hB4 := Lib.hid (hB2.out.trans (hb4.mono hB2.out.size))
    clear hb4 hn2
    go_wp2_with (first
      | (refine wpList_build_as 28 _ rfl rfl #[.string ⟨#[]⟩, .string ⟨#[]⟩, .string ⟨#[]⟩, .string ⟨#[]⟩, .string ⟨#[]⟩, .string ⟨#[]⟩, .string ⟨#[]⟩, .string ⟨#[]⟩] (by kernel_rfl) ?_)
      | (go_at_call 36; (with_reducible refine (cI.out _ hB4.out).mono ?_); rintro r w5 ⟨rfl, rfl⟩)
      | (go_at_call 35; (with_reducible refine (cO.out _ _).mono ?_); rintro r w7 ⟨v7, rfl, hE7, hb7⟩; obtain ⟨T7, u7, rfl⟩ := isErr_some hE7; have hE7 := Lib.hid hE7; have hC7 := Lib.hid (hC4.out.trans (hb7.mono hC4.out.size)); have hB7 := Lib.hid (hB4.out.trans (hb7.mono hB4.out.size)); clear hb7)
      | (go_at_call 34; (with_reducible refine (cAt.out _ _ _ _ _ hE7.out).mono ?_); rintro r w8 ⟨v8, rfl, hE8, hb8⟩; obtain ⟨T8, u8, rfl⟩ := isErr_some hE8; have hE8 := Lib.hid hE8; have hgr := hR.out _ (hC7.out.trans (hb8.mono hC7.out.size)); have hB8 := Lib.hid (hB7.out.trans (hb8.mono hB7.out.size)); clear hb8)
      | (refine wpList_store_at 28 _ _ rfl rfl (w.heap.size + 1 + 1) #[.string ⟨#[]⟩, .string ⟨#[]⟩, .string ⟨#[]⟩, .string ⟨#[]⟩, .string ⟨#[]⟩, .string ⟨#[]⟩, .string ⟨#[]⟩, .string ⟨#[]⟩] rfl rfl 28 #[.string ⟨#[]⟩, .string ⟨#[]⟩, .string ⟨#[]⟩, .string ⟨#[]⟩, .string ⟨#[]⟩, .string ⟨#[]⟩, .string ⟨#[]⟩, .string ⟨#[]⟩] hgr (by kernel_rfl) rfl (by simp [Value.oneCell']) ?_; rw [setRow_eq _ _ _ _ _ hgr]))
    refine bodyPost_ret (results_two rfl _ _ (w.heap.size + 1 + 1) 28 #[.string ⟨#[]⟩, .string ⟨#[]⟩, .string ⟨#[]⟩, .string ⟨#[]⟩, .string ⟨#[]⟩, .string ⟨#[]⟩, .string ⟨#[]⟩, .string ⟨#[]⟩] (0, 0) _ _ rfl hgr Tryd.underlying28 rfl (by kernel_rfl) rfl) rfl ?_
    unfold ChR
    rw [hq.out, if_neg hq8.out]
    exact ⟨_, _, rfl, hE8.out, hB8.out⟩
set_option maxRecDepth 100000 in
set_option maxHeartbeats 8000000 in
theorem can_any (V U : List Value) (L M : List (List ByteArray)) (w : World) (H : Pf w V L) (K : Pf w U M) (hn : ∀ l ∈ L, l.length ≤ 1000000) (hm : ∀ l ∈ M, l.length ≤ 1000000) :
    Calls Tryd.prog 15 #[.agg V.toArray, .agg U.toArray] w fun r w' => r = .returned (.bool (((fK L M : Nat) : Int) == 8)) ∧ Below w.heap.size w w' := by
  have hb1 := below_got w (.cells V.toArray 24)
  have hb2 := hb1.alloc hb1.size (.cells U.toArray 24)
  have hg1 := heap_past (heap_new w (.cells V.toArray 24)) (.cells U.toArray 24)
  have hg2 := heap_new (w.alloc (.cells V.toArray 24)) (.cells U.toArray 24)
  simp only [World.size_alloc] at hg2
  have hldV := rangeAt_list (cs := V) (by exact hg1)
  have hldU := rangeAt_list (cs := U) (by exact hg2)
  have hszV := pf_size H
  have hszU := pf_size K
  have hz9 := s8_zero'
  have cF := firsts_any V U L M ((w.alloc (.cells V.toArray 24)).alloc (.cells U.toArray 24)) (H.keep hb2) (K.keep hb2) hn hm
  have hB1 := Lib.hid hb2
  clear H K hn hm hb1 hb2 hg1 hg2
  generalize fK L M = q at cF ⊢
  obtain ⟨x0, x1, x2, x3, x4, x5, x6, x7, hx⟩ := list8 (fOut_len L M q)
  rw [hx] at cF
  clear hx
  go_enter Tryd.func15, Tryd.ntmps15
  go_upto_region 1 with (refine wpList_box_row 24 _ rfl rfl (List.toArray _) rfl ?_; try simp only [World.size_alloc])
  generalize ((w.alloc (.cells V.toArray 24)).alloc (.cells U.toArray 24)) = w1 at cF hB1 hldV hldU ⊢
  have cF := Lib.hid cF
  go_wp2_with (first
    | (refine wpList_load_at 24 (.tmp 2) rfl (by rfl) w.heap.size 0 rfl V _ (by assumption) Tryd.underlying24 rfl hszV ?_)
    | (refine wpList_load_at 24 (.tmp 3) rfl (by rfl) (w.heap.size + 1) 0 rfl U _ (by assumption) Tryd.underlying24 rfl hszU ?_)
    | (go_at_call 33; (with_reducible refine cF.out.mono ?_); rintro r w2 ⟨rfl, hb2⟩; have hB2 := Lib.hid (hB1.out.trans (hb2.mono hB1.out.size)); have hn2 := heap_new w2 (.cells #[.string ⟨#[]⟩, .string ⟨#[]⟩, .string ⟨#[]⟩, .string ⟨#[]⟩, .string ⟨#[]⟩, .string ⟨#[]⟩, .string ⟨#[]⟩, .string ⟨#[]⟩] 59); clear hb2)
    | (refine wpList_alloc_row 59 rfl rfl #[.string ⟨#[]⟩, .string ⟨#[]⟩, .string ⟨#[]⟩, .string ⟨#[]⟩, .string ⟨#[]⟩, .string ⟨#[]⟩, .string ⟨#[]⟩, .string ⟨#[]⟩] hz9 ?_)
    | (refine wpList_store_at 59 _ _ rfl rfl w2.heap.size #[.string x0, .string x1, .string x2, .string x3, .string x4, .string x5, .string x6, .string x7] rfl rfl 59 #[.string ⟨#[]⟩, .string ⟨#[]⟩, .string ⟨#[]⟩, .string ⟨#[]⟩, .string ⟨#[]⟩, .string ⟨#[]⟩, .string ⟨#[]⟩, .string ⟨#[]⟩] hn2 (by kernel_rfl) rfl (by simp [Value.oneCell']) ?_; rw [setRow_new]))
  go_ret
  exact ⟨rfl, hB2.out.trans ((below_got w2 _).mono hB2.out.size)⟩
theorem chLists_any (x0 x1 x2 x3 x4 x5 x6 x7 : ByteArray) (w : World) :
    Calls Tryd.prog 11 #[.agg #[.string x0, .string x1, .string x2, .string x3, .string x4, .string x5, .string x6, .string x7]] w fun r w' => r = .returned (.slice (some ⟨w.heap.size + 1, 0, none⟩) 8 8) ∧ w' = (w.alloc (.cells #[.string x0, .string x1, .string x2, .string x3, .string x4, .string x5, .string x6, .string x7] 28)).alloc (.cells #[.string x0, .string x1, .string x2, .string x3, .string x4, .string x5, .string x6, .string x7] 9) := by
  go_enter Tryd.func11, Tryd.ntmps11
  go_wp2
  go_ret
  exact ⟨rfl, rfl⟩
theorem chLists_strs (x0 x1 x2 x3 x4 x5 x6 x7 : ByteArray) (w : World) : Strs ((w.alloc (.cells #[.string x0, .string x1, .string x2, .string x3, .string x4, .string x5, .string x6, .string x7] 28)).alloc (.cells #[.string x0, .string x1, .string x2, .string x3, .string x4, .string x5, .string x6, .string x7] 9)) (some ⟨w.heap.size + 1, 0, none⟩) 8 [x0, x1, x2, x3, x4, x5, x6, x7] := by
  have := heap_new (w.alloc (.cells #[.string x0, .string x1, .string x2, .string x3, .string x4, .string x5, .string x6, .string x7] 28)) (.cells #[.string x0, .string x1, .string x2, .string x3, .string x4, .string x5, .string x6, .string x7] 9)
  rw [World.size_alloc] at this
  exact Strs.block (ss := [x0, x1, x2, x3, x4, x5, x6, x7]) (by exact this) (Array.getElem?_eq_some_iff.1 this).1
def hdB (l m : List ByteArray) : Bool := match l, m with
  | x :: _, y :: _ => x.toList == y.toList
  | _, _ => false
def guessB (L M : List (List ByteArray)) : Bool := hdB (L.getD 0 []) (M.getD 0 []) && hdB (L.getD 1 []) (M.getD 1 [])
theorem hd_cells {w : World} {A : Option Addr} {n : Nat} {l : List ByteArray} (H : Strs w A n l) (hn : 0 < n) : ∃ b off x r, A = some ⟨b, off, none⟩ ∧ l = x :: r ∧ w.cell? ⟨b, off, none⟩ = some (.string x) ∧ b < w.heap.size := by
  obtain ⟨b, off, x, e, hlt, hx, hc⟩ := H.at_ hn
  match l, hx with
  | y :: r, hx =>
    injection hx with hx
    subst hx
    exact ⟨b, off, y, r, e, rfl, by simpa using hc, hlt⟩
set_option maxRecDepth 100000 in
theorem chSame_any (l m : List ByteArray) (A B : Option Addr) (n c k d : Nat) (w : World) (H : Strs w A n l) (K : Strs w B k m) :
    Calls Tryd.prog 39 #[.slice A n c, .slice B k d] w fun r w' => r = .returned (.bool (hdB l m)) ∧ Below w.heap.size w w' := by
  have hl := H.len
  have hk := K.len
  by_cases h0 : n = 0
  · subst h0
    have hv := Lib.hid (show hdB l m = false by rw [List.eq_nil_of_length_eq_zero hl]; rfl)
    clear hl hk H K
    go_enter Tryd.func39, Tryd.ntmps39
    go_wp2_with fail
    go_quiet (fail)
    go_wp2_with fail
    go_ret
    exact ⟨ret_bool hv.out.symm, drewN_below _⟩
  · have i1 : (0 : Int) < (n : Int) := by omega
    have i1' : 0 < n := by omega
    by_cases h1 : k = 0
    · subst h1
      have hv := Lib.hid (show hdB l m = false by rw [List.eq_nil_of_length_eq_zero hk]; cases l <;> rfl)
      clear hl hk H K h0
      go_enter Tryd.func39, Tryd.ntmps39
      go_wp2_with fail
      go_quiet (fail)
      go_wp2_with fail
      go_ret
      exact ⟨ret_bool hv.out.symm, drewN_below _⟩
    · have i2 : (0 : Int) < (k : Int) := by omega
      have i2' : 0 < k := by omega
      obtain ⟨b, off, x, l', rfl, rfl, c1, _⟩ := hd_cells H i1'
      obtain ⟨b', off', y, m', rfl, rfl, c2, _⟩ := hd_cells K i2'
      clear hl hk H K h0 h1
      go_enter Tryd.func39, Tryd.ntmps39
      go_wp2_with fail
      go_quiet (fail)
      go_wp2_with fail
      go_ret
      exact ⟨rfl, drewN_below _⟩
set_option maxRecDepth 100000 in
set_option maxHeartbeats 4000000 in
theorem guess_any (V U : List Value) (L M : List (List ByteArray)) (w : World) (H : Pf w V L) (K : Pf w U M) :
    Calls Tryd.prog 16 #[.agg V.toArray, .agg U.toArray] w fun r w' => r = .returned (.bool (guessB L M)) ∧ Below w.heap.size w w' := by
  have hb1 := below_got w (.cells V.toArray 24)
  have hb2 := hb1.alloc hb1.size (.cells U.toArray 24)
  have hg1 := heap_past (heap_new w (.cells V.toArray 24)) (.cells U.toArray 24)
  have hg2 := heap_new (w.alloc (.cells V.toArray 24)) (.cells U.toArray 24)
  simp only [World.size_alloc] at hg2
  have hl1 := (Array.getElem?_eq_some_iff.1 hg1).1
  have hl2 := (Array.getElem?_eq_some_iff.1 hg2).1
  obtain ⟨A0, n0, c0, l0, e0, f0, _, _, S0⟩ := H.get (i := 0) (by decide)
  obtain ⟨A1, n1, c1, l1, e1, f1, _, _, S1⟩ := H.get (i := 1) (by decide)
  obtain ⟨B0, m0, d0, k0, g0, j0, _, _, T0⟩ := K.get (i := 0) (by decide)
  obtain ⟨B1, m1, d1, k1, g1, j1, _, _, T1⟩ := K.get (i := 1) (by decide)
  have hv : guessB L M = (hdB l0 k0 && hdB l1 k1) := by unfold guessB; simp only [List.getD_eq_getElem?_getD, f0, f1, j0, j1, Option.getD_some]
  have hS := Lib.hid (fun W (h : Below ((w.alloc (.cells V.toArray 24)).alloc (.cells U.toArray 24)).heap.size ((w.alloc (.cells V.toArray 24)).alloc (.cells U.toArray 24)) W) => (⟨(h.cell (p := ⟨w.heap.size, 0, none⟩) hl1).trans (by rw [cell_of_row _ _ 0 _ _ _ hg1, List.getElem?_toArray]; exact e0), (h.cell (p := ⟨w.heap.size, 1, none⟩) hl1).trans (by rw [cell_of_row _ _ 1 _ _ _ hg1, List.getElem?_toArray]; exact e1),
    (h.cell (p := ⟨w.heap.size + 1, 0, none⟩) hl2).trans (by rw [cell_of_row _ _ 0 _ _ _ hg2, List.getElem?_toArray]; exact g0), (h.cell (p := ⟨w.heap.size + 1, 1, none⟩) hl2).trans (by rw [cell_of_row _ _ 1 _ _ _ hg2, List.getElem?_toArray]; exact g1)⟩ :
    W.cell? ⟨w.heap.size, 0, none⟩ = some (.slice A0 n0 c0) ∧ W.cell? ⟨w.heap.size, 1, none⟩ = some (.slice A1 n1 c1) ∧ W.cell? ⟨w.heap.size + 1, 0, none⟩ = some (.slice B0 m0 d0) ∧ W.cell? ⟨w.heap.size + 1, 1, none⟩ = some (.slice B1 m1 d1)))
  have cA := fun W (h : Below w.heap.size w W) => chSame_any l0 k0 A0 B0 n0 c0 m0 d0 W (S0.keep h) (T0.keep h)
  have cB := fun W (h : Below w.heap.size w W) => chSame_any l1 k1 A1 B1 n1 c1 m1 d1 W (S1.keep h) (T1.keep h)
  have hB1 := Lib.hid hb2
  clear hb1 hb2 hg1 hg2 hl1 hl2 S0 S1 T0 T1 e0 e1 f0 f1 g0 g1 j0 j1 H K
  generalize hdB l0 k0 = p at cA hv
  generalize hdB l1 k1 = q at cB hv
  have cA := Lib.hid cA
  have cB := Lib.hid cB
  have hV := Lib.hid hv
  clear hv
  cases p with
  | false =>
    go_enter Tryd.func16, Tryd.ntmps16
    go_upto_region 1 with (refine wpList_box_row 24 _ rfl rfl (List.toArray _) rfl ?_; try simp only [World.size_alloc])
    generalize ((w.alloc (.cells V.toArray 24)).alloc (.cells U.toArray 24)) = w1 at hB1 hS ⊢
    obtain ⟨s0, s1, s2, s3⟩ := hS.out w1 (Below.refl _ _)
    go_wp2_with (go_at_call 39; (with_reducible refine (cA.out _ hB1.out).mono ?_); rintro r w2 ⟨rfl, hb2⟩; have hB2 := Lib.hid (hB1.out.trans (hb2.mono hB1.out.size)); clear hb2)
    go_ret
    exact ⟨ret_bool (by rw [hV.out]; rfl), hB2.out⟩
  | true =>
    go_enter Tryd.func16, Tryd.ntmps16
    go_upto_region 1 with (refine wpList_box_row 24 _ rfl rfl (List.toArray _) rfl ?_; try simp only [World.size_alloc])
    generalize ((w.alloc (.cells V.toArray 24)).alloc (.cells U.toArray 24)) = w1 at hB1 hS ⊢
    obtain ⟨s0, s1, s2, s3⟩ := hS.out w1 (Below.refl _ _)
    go_wp2_with (first
      | (go_at_call 39; (with_reducible refine (cA.out _ hB1.out).mono ?_); rintro r w2 ⟨rfl, hb2⟩; have hB2 := Lib.hid (hB1.out.trans (hb2.mono hB1.out.size)); obtain ⟨r0, r1, r2, r3⟩ := hS.out _ hb2; clear hb2)
      | (go_at_call 39; (with_reducible refine (cB.out _ hB2.out).mono ?_); rintro r w3 ⟨rfl, hb3⟩; have hB3 := Lib.hid (hB2.out.trans (hb3.mono hB2.out.size)); clear hb3))
    go_ret
    exact ⟨ret_bool (by rw [hV.out]; rfl), hB3.out⟩
theorem fK_plain : fK plainL plainL = 8 := by decide +kernel
theorem fOut_plain : fOut plainL plainL 8 = [⟨#[99, 117, 114, 118, 101, 50, 53, 53, 49, 57, 45, 115, 104, 97, 50, 53, 54]⟩, ⟨#[115, 115, 104, 45, 101, 100, 50, 53, 53, 49, 57]⟩, ⟨#[97, 101, 115, 50, 53, 54, 45, 103, 99, 109]⟩, ⟨#[97, 101, 115, 50, 53, 54, 45, 103, 99, 109]⟩, ⟨#[104, 109, 97, 99, 45, 115, 104, 97, 50, 45, 50, 53, 54]⟩, ⟨#[104, 109, 97, 99, 45, 115, 104, 97, 50, 45, 50, 53, 54]⟩, ⟨#[110, 111, 110, 101]⟩, ⟨#[110, 111, 110, 101]⟩] := by decide +kernel
theorem plain_lens' : ∀ l ∈ plainL, l.length ≤ 1000000 := by decide +kernel
set_option maxRecDepth 100000 in
set_option maxHeartbeats 4000000 in
theorem awake17_any (w : World) (P : PV w) :
    Calls Tryd.prog 9 #[] w fun r w' => r = .returned (.bool true) ∧ Below w.heap.size w w' := by
  have cP := Lib.hid (fun W (h : Below w.heap.size w W) => plainPf_any W (P.keep h))
  have cC := Lib.hid (fun V U W (h : Below w.heap.size w W) (hP : Pf W V plainL) (hU : Pf W U plainL) => Calls.mono (choose_any V U plainL plainL W hP hU plain_lens' plain_lens' (P.keep h)) (fun r w' h => (show r = .returned (.tuple #[.agg #[.string ⟨#[99, 117, 114, 118, 101, 50, 53, 53, 49, 57, 45, 115, 104, 97, 50, 53, 54]⟩, .string ⟨#[115, 115, 104, 45, 101, 100, 50, 53, 53, 49, 57]⟩, .string ⟨#[97, 101, 115, 50, 53, 54, 45, 103, 99, 109]⟩, .string ⟨#[97, 101, 115, 50, 53, 54, 45, 103, 99, 109]⟩, .string ⟨#[104, 109, 97, 99, 45, 115, 104, 97, 50, 45, 50, 53, 54]⟩, .string ⟨#[104, 109, 97, 99, 45, 115, 104, 97, 50, 45, 50, 53, 54]⟩, .string ⟨#[110, 111, 110, 101]⟩, .string ⟨#[110, 111, 110, 101]⟩], .nilIface]) ∧ Below W.heap.size W w' by unfold ChR at h; rw [if_pos fK_plain, fOut_plain] at h; exact h)))
  have hz8 := ch_zero
  clear P
  go_enter Tryd.func9, Tryd.ntmps9
  go_wp2_with (first
    | (go_at_call 10; (with_reducible refine (cC.out _ _ _ hB5.out hP4.out hP5.out).mono ?_); rintro r w6 ⟨rfl, hb6⟩; have hB6 := Lib.hid (hB5.out.trans (hb6.mono hB5.out.size)); have hn6 := heap_new w6 (.cells #[.string ⟨#[]⟩, .string ⟨#[]⟩, .string ⟨#[]⟩, .string ⟨#[]⟩, .string ⟨#[]⟩, .string ⟨#[]⟩, .string ⟨#[]⟩, .string ⟨#[]⟩] 28); clear hb6)
    | (go_at_call 32; (with_reducible refine (cP.out _ hB4.out).mono ?_); rintro r w5 ⟨V5, rfl, hP5, hb5⟩; have hB5 := Lib.hid (hB4.out.trans (hb5.mono hB4.out.size)); have hP4 := Lib.hid (hP4.out.keep hb5); have hP5 := Lib.hid hP5; clear hb5)
    | (go_at_call 32; (with_reducible refine (cP.out _ (Below.refl _ _)).mono ?_); rintro r w4 ⟨V4, rfl, hP4, hb4⟩; have hB4 := Lib.hid hb4; have hP4 := Lib.hid hP4; clear hb4)
    | (refine wpList_alloc_row 28 rfl rfl #[.string ⟨#[]⟩, .string ⟨#[]⟩, .string ⟨#[]⟩, .string ⟨#[]⟩, .string ⟨#[]⟩, .string ⟨#[]⟩, .string ⟨#[]⟩, .string ⟨#[]⟩] hz8 ?_)
    | (refine wpList_store_at 28 _ _ rfl rfl w6.heap.size #[.string ⟨#[99, 117, 114, 118, 101, 50, 53, 53, 49, 57, 45, 115, 104, 97, 50, 53, 54]⟩, .string ⟨#[115, 115, 104, 45, 101, 100, 50, 53, 53, 49, 57]⟩, .string ⟨#[97, 101, 115, 50, 53, 54, 45, 103, 99, 109]⟩, .string ⟨#[97, 101, 115, 50, 53, 54, 45, 103, 99, 109]⟩, .string ⟨#[104, 109, 97, 99, 45, 115, 104, 97, 50, 45, 50, 53, 54]⟩, .string ⟨#[104, 109, 97, 99, 45, 115, 104, 97, 50, 45, 50, 53, 54]⟩, .string ⟨#[110, 111, 110, 101]⟩, .string ⟨#[110, 111, 110, 101]⟩] rfl rfl 28 #[.string ⟨#[]⟩, .string ⟨#[]⟩, .string ⟨#[]⟩, .string ⟨#[]⟩, .string ⟨#[]⟩, .string ⟨#[]⟩, .string ⟨#[]⟩, .string ⟨#[]⟩] hn6 (by kernel_rfl) rfl (by simp [Value.oneCell']) ?_; rw [setRow_new]))
  go_ret
  exact ⟨rfl, hB6.out.trans ((below_got w6 _).mono hB6.out.size)⟩
end Go.Proofs.YtfoegpacjkcidaaDoor
