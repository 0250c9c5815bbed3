/- The walk of ChooseSelf. -/
import Derived.Test.YtfoegpacjkcidaaDoorChC
import Derived.Test.YtfoegpacjkcidaaDoorPfP0
namespace Go.Proofs.YtfoegpacjkcidaaDoor
open Go.RowKit

theorem fGo_all (L M : List (List ByteArray)) : ∀ n i, fGo L M n i = i + n ↔ ∀ j, i ≤ j → j < i + n → (fO L M j).isSome = true := by
  intro n
  induction n with
  | zero => intro i; exact ⟨fun _ j h1 h2 => by omega, fun _ => rfl⟩
  | succ n ih =>
    intro i
    have hle : ∀ n i, fGo L M n i ≤ i + n := by
      intro n
      induction n with
      | zero => intro i; exact Nat.le_refl _
      | succ n ih => intro i; unfold fGo; split
                     · have := ih (i + 1); omega
                     · omega
    unfold fGo
    split
    · rename_i h
      rw [show i + (n + 1) = (i + 1) + n by omega, ih (i + 1)]
      constructor
      · intro H j h1 h2
        by_cases e : j = i
        · subst e; exact h
        · exact H j (by omega) h2
      · intro H j h1 h2
        exact H j (by omega) h2
    · rename_i h
      constructor
      · intro e; omega
      · intro H; exact absurd (H i (Nat.le_refl _) (by omega)) h
theorem fK_eight {L M : List (List ByteArray)} : fK L M = 8 ↔ ∀ j, j < 8 → (fO L M j).isSome = true := by
  have := fGo_all L M 8 0
  unfold fK
  rw [Nat.zero_add] at this
  rw [this]
  exact ⟨fun h j hj => h j (Nat.zero_le _) hj, fun h j _ hj => h j hj⟩
theorem fO_self_nil {L : List (List ByteArray)} {k : Nat} (h : L[k]? = some []) : fO L L k = none := by
  unfold fO; rw [List.getD_eq_getElem?_getD, h]; rfl
theorem fO_self_cons {L : List (List ByteArray)} {k : Nat} {x : ByteArray} {r : List ByteArray} (h : L[k]? = some (x :: r)) : fO L L k = some x := by
  unfold fO
  rw [List.getD_eq_getElem?_getD, h]
  have hh : has (x :: r) x = true := by unfold has; rw [List.any_cons, beqS_iff.2 rfl]; rfl
  show List.find? (has (x :: r)) (x :: r) = some x
  rw [List.find?_cons_of_pos hh]
def full (l : List ByteArray) : Bool := !l.isEmpty
theorem full_get {L : List (List ByteArray)} (h : L.all full = true) {k : Nat} (hk : k < L.length) : ∃ x r, L[k]? = some (x :: r) := by
  have h1 := List.all_eq_true.1 h L[k] (List.getElem_mem hk)
  rw [List.getElem?_eq_getElem hk]
  cases hq : L[k] with
  | nil => rw [hq] at h1; cases h1
  | cons x r => exact ⟨x, r, rfl⟩
theorem fK_self {L : List (List ByteArray)} (h8 : L.length = 8) (h : L.all full = true) : fK L L = 8 := by
  refine fK_eight.2 fun j hj => ?_
  obtain ⟨x, r, e⟩ := full_get h (k := j) (by omega)
  rw [fO_self_cons e]; rfl
theorem guess_self {L : List (List ByteArray)} (h8 : L.length = 8) (h : L.all full = true) : guessB L L = true := by
  obtain ⟨x, r, e⟩ := full_get h (k := 0) (by omega)
  obtain ⟨y, s, f⟩ := full_get h (k := 1) (by omega)
  unfold guessB
  simp only [List.getD_eq_getElem?_getD, e, f, Option.getD_some]
  unfold hdB
  simp
theorem fOut_self {L : List (List ByteArray)} {k : Nat} {x : ByteArray} {r : List ByteArray} (hk : k < 8) (h : L[k]? = some (x :: r)) : (fOut L L 8)[k]? = some x := by
  rw [fOut_get _ _ _ hk, if_pos hk]
  unfold fN; rw [fO_self_cons h]; rfl
set_option maxRecDepth 100000 in
set_option maxHeartbeats 8000000 in
theorem law_chooseSelf (V : List Value) (L : List (List ByteArray)) (w : World) (H : Pf w V L) (hs : ∀ l ∈ L, ∀ s ∈ l, s.size ≤ 9223372036854775807) (P : PV w) :
    Calls Tryd.prog 4 #[.agg V.toArray] w fun r w' => r = .returned (.bool true) ∧ Below w.heap.size w w' := by
  have hb1 := below_got w (.cells V.toArray 24)
  have hg := heap_new w (.cells V.toArray 24)
  have hlt := (Array.getElem?_eq_some_iff.1 hg).1
  have hld0 := rangeAt_list (cs := V) (by exact hg)
  have hld := Lib.hid (fun W (h : Below (w.alloc (.cells V.toArray 24)).heap.size (w.alloc (.cells V.toArray 24)) W) => rangeAt_keep hld0 h hlt)
  have hszV := pf_size H
  have aw := Lib.hid (fun W (h : Below w.heap.size w W) => awake17_any W (P.keep h))
  have cF := few15_any V L (w.alloc (.cells V.toArray 24)) (H.keep hb1) hs
  have cR := Lib.hid (fun W (h : Below w.heap.size w W) => refLists_any V L W (H.keep h))
  have cCan := Lib.hid (fun W (h : Below w.heap.size w W) (hn : ∀ l ∈ L, l.length ≤ 1000000) => can_any V V L L W (H.keep h) (H.keep h) hn hn)
  have cCh := Lib.hid (fun W (h : Below w.heap.size w W) (hn : ∀ l ∈ L, l.length ≤ 1000000) => choose_any V V L L W (H.keep h) (H.keep h) hn hn (P.keep h))
  have cG := Lib.hid (fun W (h : Below w.heap.size w W) => guess_any V V L L W (H.keep h) (H.keep h))
  have hB1 := Lib.hid hb1
  have hL8 := Lib.hid H.l8
  have hlens := Lib.hid (@fewL_sizes L)
  have hz8 := ch_zero
  clear H hs hg hlt P
  generalize fewP L = q at cF hlens
  have cF := Lib.hid cF
  cases q with
  | false =>
    go_enter Tryd.func4, Tryd.ntmps4
    go_upto_region 1 with (refine wpList_box_row 24 _ rfl rfl V.toArray rfl ?_)
    generalize w.alloc (.cells V.toArray 24) = w1 at cF hB1 hld0 hld ⊢
    go_wp2_with (first
      | (refine wpList_load_at 24 (.tmp 1) rfl (by rfl) w.heap.size 0 rfl V _ (by assumption) Tryd.underlying24 rfl hszV ?_)
      | (go_at_call 8; refine cF.out.mono ?_; rintro r w2 ⟨rfl, hb2⟩; have hB2 := Lib.hid (hB1.out.trans (hb2.mono hB1.out.size)); clear hb2)
      | (go_at_call 9; refine (aw.out _ hB2.out).mono ?_; rintro r w8 ⟨rfl, hb8⟩))
    go_ret
    exact ⟨rfl, hB2.out.trans (hb8.mono hB2.out.size)⟩
  | true =>
    have hn := Lib.hid (hlens.out rfl)
    clear hlens
    go_enter Tryd.func4, Tryd.ntmps4
    go_upto_region 1 with (refine wpList_box_row 24 _ rfl rfl V.toArray rfl ?_)
    generalize w.alloc (.cells V.toArray 24) = w1 at cF hB1 hld0 hld ⊢
    go_wp2_with (first
      | (refine wpList_load_at 24 (.tmp 1) rfl (by rfl) w.heap.size 0 rfl V _ (by assumption) Tryd.underlying24 rfl hszV ?_)
      | (go_at_call 8; refine cF.out.mono ?_; rintro r w2 ⟨rfl, hb2⟩; have hW2 := Lib.hid hb2; have hB2 := Lib.hid (hB1.out.trans (hb2.mono hB1.out.size)); have hl2 := hld.out _ hb2; clear hb2)
      | (go_at_call 12; (with_reducible refine (cR.out _ hB2.out).mono ?_); rintro r w3 ⟨g, U, rfl, hU, hP, _, hb3⟩; have hU := Lib.hid hU; have hP := Lib.hid hP; have hW3 := Lib.hid (hW2.out.trans (hb3.mono hW2.out.size)); have hl3 := hld.out _ hW3.out; have hB3 := Lib.hid (hB2.out.trans (hb3.mono hB2.out.size)); clear hb3))
    clear hld0 hl2
    go_loop [4] (fun i => ∃ k : Nat, k ≤ 8 ∧ i = .int .i64 k ∧ Hid ((L.take k).all full = true)) (fun i => 8 - (intOf i).toNat)
    case atStart => exact ⟨0, by omega, rfl, by simp [Hid]⟩
    case round =>
      obtain ⟨k, hk, rfl, hf⟩ := hrel
      by_cases hlt : k < 8
      · obtain ⟨b, off, v, e, hb, hv, hc⟩ := hU.out.at_ hlt
        injection e with e
        injection e with e1 e2
        subst e1; subst e2
        obtain ⟨A, n, c, l, hv2, hl, hnc, hcm, hSt⟩ := hP.out.get hlt
        obtain rfl : v = .slice A n c := by rw [hv] at hv2; injection hv2
        have hst := all_take_succ full hl
        have hlen := hSt.len
        rw [Nat.zero_add] at hc
        have i1 : (0 : Int) ≤ (k : Int) := by omega
        have i2 : (k : Int) < 8 := by omega
        clear hv hv2 hb hSt
        by_cases h0 : n = 0
        · subst h0
          have hne : (((fK L L : Nat) : Int) == 8) = false := by
            rw [beq_eq_false_iff_ne]
            intro e
            have e8 : fK L L = 8 := by omega
            have := fK_eight.1 e8 k hlt
            rw [fO_self_nil (by rw [hl, List.eq_nil_of_length_eq_zero hlen])] at this
            cases this
          have cN := fun W (h : Below w.heap.size w W) => cCan.out W h hn.out
          rw [hne] at cN
          have cN := Lib.hid cN
          clear hst hlen hl hne
          go_wp2_with (first
            | (go_at_call 9; (with_reducible refine (aw.out _ hB3.out).mono ?_); rintro r w8 ⟨rfl, hb8⟩; have hB8 := Lib.hid (hB3.out.trans (hb8.mono hB3.out.size)); have hl8 := hld.out _ (hW3.out.trans (hb8.mono hW3.out.size)); clear hb8)
            | (refine wpList_load_at 24 (.tmp 1) rfl (by rfl) w.heap.size 0 rfl V _ (by assumption) Tryd.underlying24 rfl hszV ?_)
            | (go_at_call 15; (with_reducible refine (cN.out _ hB8.out).mono ?_); rintro r w9 ⟨rfl, hb9⟩))
          go_ret
          exact ⟨rfl, hB8.out.trans (hb9.mono hB8.out.size)⟩
        · have hne : ((n : Int) == 0) = false := beq_eq_false_iff_ne.2 (by omega)
          have hfl : full l = true := by
            cases l with
            | nil => exact absurd hlen.symm h0
            | cons x r => rfl
          have hn1 := Lib.hid (show (L.take (k + 1)).all full = true by rw [hst, hf.out, hfl]; rfl)
          clear hst hlen hl hfl h0
          go_wp2
          go_round
          case rel => exact ⟨k + 1, by omega, by go_num, hn1⟩
          case measure => simp [intOf]; omega
      · have hk8 : k = 8 := by omega
        subst hk8
        have hfull : L.all full = true := by have := hf.out; rwa [List.take_of_length_le (by rw [hL8.out]; exact Nat.le_refl _)] at this
        have hkk := fK_self hL8.out hfull
        have hgg := guess_self hL8.out hfull
        have hgetF := fun k (hk : k < 8) => full_get hfull (k := k) (by rw [hL8.out]; exact hk)
        obtain ⟨x0, x1, x2, x3, x4, x5, x6, x7, hx⟩ := list8 (fOut_len L L 8)
        have hfo := fun k x r (hk : k < 8) (h : L[k]? = some (x :: r)) => fOut_self hk h
        have cN := fun W (h : Below w.heap.size w W) => cCan.out W h hn.out
        have cG := cG.out
        have cC := fun W (h : Below w.heap.size w W) => Calls.mono (cCh.out W h hn.out) (fun r w' h => (show r = .returned (.tuple #[.agg #[.string x0, .string x1, .string x2, .string x3, .string x4, .string x5, .string x6, .string x7], .nilIface]) ∧ Below W.heap.size W w' by unfold ChR at h; rw [if_pos hkk, hx] at h; exact h))
        rw [hx] at hfo
        simp only [hkk] at cN
        simp only [hgg] at cG
        have cN := Lib.hid (fun W h => (show Calls Tryd.prog 15 #[.agg V.toArray, .agg V.toArray] W fun r w' => r = .returned (.bool true) ∧ Below W.heap.size W w' from cN W h))
        have cG := Lib.hid cG
        have cC := Lib.hid cC
        have cL := Lib.hid (fun W => chLists_any x0 x1 x2 x3 x4 x5 x6 x7 W)
        have hSs := Lib.hid (fun W => chLists_strs x0 x1 x2 x3 x4 x5 x6 x7 W)
        have hfo := Lib.hid hfo
        have hgetF := Lib.hid hgetF
        clear hkk hgg hx hfull hf
        go_wp2_with (first
          | (refine wpList_load_at 24 (.tmp 1) rfl (by rfl) w.heap.size 0 rfl V _ (by assumption) Tryd.underlying24 rfl hszV ?_)
          | (go_at_call 10; (with_reducible refine (cC.out _ hB3.out).mono ?_); rintro r w4 ⟨rfl, hb4⟩; have hn4 := heap_new w4 (.cells #[.string ⟨#[]⟩, .string ⟨#[]⟩, .string ⟨#[]⟩, .string ⟨#[]⟩, .string ⟨#[]⟩, .string ⟨#[]⟩, .string ⟨#[]⟩, .string ⟨#[]⟩] 28); have hB4 := Lib.hid (hB3.out.trans (hb4.mono hB3.out.size)); have hD4 := Lib.hid hb4; clear hb4)
          | (refine wpList_alloc_row 28 rfl rfl #[.string ⟨#[]⟩, .string ⟨#[]⟩, .string ⟨#[]⟩, .string ⟨#[]⟩, .string ⟨#[]⟩, .string ⟨#[]⟩, .string ⟨#[]⟩, .string ⟨#[]⟩] hz8 ?_)
          | (refine wpList_store_at 28 _ _ rfl rfl w4.heap.size #[.string x0, .string x1, .string x2, .string x3, .string x4, .string x5, .string x6, .string x7] rfl rfl 28 #[.string ⟨#[]⟩, .string ⟨#[]⟩, .string ⟨#[]⟩, .string ⟨#[]⟩, .string ⟨#[]⟩, .string ⟨#[]⟩, .string ⟨#[]⟩, .string ⟨#[]⟩] hn4 (by kernel_rfl) rfl (by simp [Value.oneCell']) ?_; rw [setRow_new]; have hr4 := rangeAt_list (cs := [.string x0, .string x1, .string x2, .string x3, .string x4, .string x5, .string x6, .string x7]) (heap_new w4 (.cells #[.string x0, .string x1, .string x2, .string x3, .string x4, .string x5, .string x6, .string x7] 28)))
          | (refine wpList_load_at 28 _ rfl (by rfl) w4.heap.size 0 rfl [.string x0, .string x1, .string x2, .string x3, .string x4, .string x5, .string x6, .string x7] _ hr4 Tryd.underlying28 rfl (by kernel_rfl) ?_)
          | (go_at_call 11; (with_reducible refine (cL.out _).mono ?_); rintro r w5 ⟨rfl, h5⟩; have hT5 := hSs.out (w4.alloc (.cells #[.string x0, .string x1, .string x2, .string x3, .string x4, .string x5, .string x6, .string x7] 28)); rw [← h5, World.size_alloc] at hT5; have hb5 : Below w4.heap.size w4 w5 := (by rw [h5]; exact ((below_got w4 (.cells #[.string x0, .string x1, .string x2, .string x3, .string x4, .string x5, .string x6, .string x7] 28)).trans ((((below_got _ _).trans ((below_got _ _).mono (below_got _ _).size))).mono (below_got w4 _).size))); have hT5 := Lib.hid hT5; have hD5 := Lib.hid (hD4.out.trans (hb5.mono hD4.out.size)); have hB5 := Lib.hid (hB4.out.trans (hb5.mono hB4.out.size)); have hl5 := hld.out _ (hW3.out.trans (hD5.out.mono hW3.out.size)); clear hb5 h5 hr4 hn4)
          | (go_at_call 15; (with_reducible refine (cN.out _ hB5.out).mono ?_); rintro r w6 ⟨rfl, hb6⟩; have hD6 := Lib.hid (hD5.out.trans (hb6.mono hD5.out.size)); have hT6 := Lib.hid (hT5.out.keep hb6); have hB6 := Lib.hid (hB5.out.trans (hb6.mono hB5.out.size)); have hl6 := hld.out _ (hW3.out.trans (hD6.out.mono hW3.out.size)); clear hb6)
          | (go_at_call 16; (with_reducible refine (cG.out _ hB6.out).mono ?_); rintro r w7 ⟨rfl, hb7⟩; have hD7 := Lib.hid (hD6.out.trans (hb7.mono hD6.out.size)); have hT7 := Lib.hid (hT6.out.keep hb7); have hB7 := Lib.hid (hB6.out.trans (hb7.mono hB6.out.size)); clear hb7))
        go_loopw [8] (fun i wr => ∃ k : Nat, k ≤ 8 ∧ i = .int .i64 k ∧ Hid (Below w7.heap.size w7 wr)) (fun i _ => 8 - (intOf i).toNat)
        case atStart => exact ⟨0, by omega, rfl, Below.refl _ _⟩
        case round =>
          obtain ⟨k, hk, rfl, hB⟩ := hrel
          by_cases hlt : k < 8
          · have hD := Lib.hid (hD7.out.trans (hB.out.mono hD7.out.size))
            obtain ⟨b, off, v, e, hb, hv, hc⟩ := (hU.out.keep hD.out).at_ hlt
            injection e with e
            injection e with e1 e2
            subst e1; subst e2
            obtain ⟨A, n, c, l, hv2, hl, hnc, hcm, hSt⟩ := (hP.out.keep hD.out).get hlt
            obtain rfl : v = .slice A n c := by rw [hv] at hv2; injection hv2
            obtain ⟨x, r, hxr⟩ := hgetF.out k hlt
            have hxk := hfo.out k x r hlt hxr
            rw [hl] at hxr
            injection hxr with hxr
            subst hxr
            have hlen := hSt.len
            have hn0 : 0 < n := by rw [← hlen]; exact Nat.succ_pos _
            obtain ⟨b2, off2, x2', r2, rfl, hxx, hc2, _⟩ := hd_cells hSt hn0
            injection hxx with hx1 hx2
            subst hx1
            obtain ⟨b3, off3, x3', e3, _, hx3, hc3⟩ := (hT7.out.keep hB.out).at_ (j := k) hlt
            injection e3 with e3
            injection e3 with e31 e32
            subst e31; subst e32
            rw [hxk] at hx3
            injection hx3 with hx3
            subst hx3
            rw [Nat.zero_add] at hc hc3
            have i1 : (0 : Int) ≤ (k : Int) := by omega
            have i2 : (k : Int) < 8 := by omega
            have i3 : (0 : Int) < (n : Int) := by omega
            clear hv hv2 hl hb hSt hlen hxk hx2 hn0
            go_wp2_with fail
            go_quiet (fail)
            go_wp2_with fail
            go_roundw
            case rel => exact ⟨k + 1, by omega, by go_num, hB.out.trans (Below.mono (drewN_below _) hB.out.size)⟩
            case measure => simp [intOf]; omega
          · have hB9 := Lib.hid (hB7.out.trans (hB.out.mono hB7.out.size))
            go_wp2_with (go_at_call 9; refine (aw.out _ hB9.out).mono ?_; rintro r w8 ⟨rfl, hb8⟩)
            go_ret
            exact ⟨rfl, hB9.out.trans (hb8.mono hB9.out.size)⟩
end Go.Proofs.YtfoegpacjkcidaaDoor
