/- Gex: Check. -/
import Derived.Test.YtlonejkmdibkaaaDoorGxP
namespace Go.Proofs.YtlonejkmdibkaaaDoor
open Go.RowKit

def shortB (s : ByteArray) : Bool := !(Lib.hasPrefix s.data.toList [0])
theorem short_any (s : ByteArray) (w : World) :
    Calls Tryd.prog 72 #[.string s] w fun r w' => r = .returned (.bool (shortB s)) ∧ w = w' := by
  have c := Lib.hid (fun W => Tryd.strings_HasPrefix s ⟨#[0]⟩ W)
  go_enter Tryd.func72, Tryd.ntmps72
  go_wp2_with (go_at_call 101; refine (c.out _).mono ?_; rintro r w4 ⟨rfl, rfl⟩)
  go_ret
  exact ⟨rfl, rfl⟩
theorem bits_some {s : ByteArray} (h : 1 ≤ bitsI s) : 0 < s.size := by
  have hz := plainS_size s
  by_cases hp : 0 < (plainS s).size
  · omega
  · unfold bitsI at h
    rw [bitsT_nil hp] at h
    omega
theorem shortB_plain (s : ByteArray) : shortB s = true ↔ plainS s = s := by
  unfold shortB Lib.hasPrefix
  rw [Bool.not_eq_true']
  constructor
  · intro h
    refine (plainS_of rfl ?_).symm
    rw [bsl]
    cases hq : s.data.toList with
    | nil => rfl
    | cons x r =>
      rw [hq] at h
      have hx : (x == 0) = false := by
        cases hx : (x == 0) with
        | false => rfl
        | true => have : x = 0 := by simpa using hx
                  subst this; simp [List.isPrefixOf] at h
      rw [List.dropWhile_cons, if_neg (by rw [hx]; decide)]
  · intro h
    have h1 := plainS_list s
    rw [h, bsl] at h1
    cases hq : s.data.toList with
    | nil => rfl
    | cons x r =>
      rw [hq] at h1
      have hx := dropZero_first _ _ _ h1.symm
      have : ((0 : UInt8) == x) = false := by rw [beq_eq_false_iff_ne]; exact fun e => hx e.symm
      simp [List.isPrefixOf, this]
def lastOdd (p : ByteArray) : Bool := if h : 0 < p.size then !((p[p.size - 1].toNat : Int) % 2 == 0) else false
def q1B (least top n : Int) : Bool := decide (n < 1024) || decide (8192 < n) || decide (n < least) || decide (top < n)
def checkB (least top : Int) (p g : ByteArray) : Bool :=
  !(q1B least top (bitsI p)) && shortB p && shortB g && lastOdd p && !(g.toList == []) && !(g.toList == [1]) && decide (bitsI g < bitsI p)
def ChkR (w : World) (q : Bool) (r : Ending) (w' : World) : Prop := if q then r = .returned .nilIface ∧ Below w.heap.size w w' else ∃ T u, r = .returned (.iface T u) ∧ isErr w' (some 5) [gexS] (.iface T u) ∧ Below w.heap.size w w'
set_option maxRecDepth 100000 in
set_option maxHeartbeats 8000000 in
theorem gxCheck_any (least top : Int) (p g : ByteArray) (w : World) (hp : p.size ≤ 1000000) (hg : g.size ≤ 1000000) :
    Calls Tryd.prog 19 #[.int .u32 least, .int .u32 top, .agg #[.string p, .string g]] w (ChkR w (checkB least top p g)) := by
  have cB := Lib.hid (fun W => gxBits_any p g W hp)
  have cW := Lib.hid (fun W => bits_any g W hg)
  have cS1 := Lib.hid (fun W => short_any p W)
  have cS2 := Lib.hid (fun W => short_any g W)
  have cO := Lib.hid (fun W => of_any ⟨#[103, 101, 120]⟩ 5 W (by decide))
  have hB1 := Lib.hid (below_new w (.cells #[.string p, .string g] 23))
  have hc := heap_new w (.cells #[.string p, .string g] 23)
  have hlt := (Array.getElem?_eq_some_iff.1 hc).1
  have hS := Lib.hid (fun W (h : Below (w.alloc (.cells #[.string p, .string g] 23)).heap.size (w.alloc (.cells #[.string p, .string g] 23)) W) => (⟨(h.cell (p := ⟨w.heap.size, 0, none⟩) hlt).trans (cell_of_row _ _ 0 _ _ _ hc), (h.cell (p := ⟨w.heap.size, 1, none⟩) hlt).trans (cell_of_row _ _ 1 _ _ _ hc)⟩ :
    W.cell? ⟨w.heap.size, 0, none⟩ = some (.string p) ∧ W.cell? ⟨w.heap.size, 1, none⟩ = some (.string g)))
  obtain ⟨c0, c1⟩ := hS.out _ (Below.refl _ _)
  obtain ⟨n0, n1⟩ := bitsI_range p hp
  obtain ⟨m0, m1⟩ := bitsI_range g hg
  have hv : checkB least top p g = (!(q1B least top (bitsI p)) && shortB p && shortB g && lastOdd p && !(g.toList == []) && !(g.toList == [1]) && decide (bitsI g < bitsI p)) := rfl
  have hq : q1B least top (bitsI p) = (decide (bitsI p < 1024) || decide (8192 < bitsI p) || decide (bitsI p < least) || decide (top < bitsI p)) := rfl
  have hpos := @bits_some p
  generalize q1B least top (bitsI p) = q1 at hv hq
  generalize bitsI p = n at cB hv hq n0 n1 hpos
  generalize bitsI g = m at cW hv m0 m1
  have hw : IntKind.u32.wrap n = n := IntWalk.u32_in _ (by omega)
  clear hc
  by_cases hA : q1 = true
  case pos =>
    have hA2 : n < 1024 ∨ (1024 ≤ n ∧ 8192 < n) ∨ (1024 ≤ n ∧ n ≤ 8192 ∧ n < least) ∨ (1024 ≤ n ∧ n ≤ 8192 ∧ least ≤ n ∧ top < n) := by
      rw [hA] at hq
      have := hq.symm
      simp only [Bool.or_eq_true, decide_eq_true_eq] at this
      omega
    have hV := Lib.hid (show checkB least top p g = false by rw [hv, hA]; rfl)
    clear hq hA hv
    rcases hA2 with a1 | ⟨a1, a2⟩ | ⟨a1, a2, a3⟩ | ⟨a1, a2, a3, a4⟩
    all_goals
      as_aux_lemma =>
        go_enter Tryd.func19, Tryd.ntmps19
        go_upto_region 1 with fail
        generalize w.alloc (.cells #[.string p, .string g] 23) = w1 at hB1 hS c0 c1 ⊢
        go_wp2_with (first
          | (go_at_call 41; (with_reducible refine (cB.out _).mono ?_); rintro r w4 ⟨rfl, hb4⟩; have hB4 := Lib.hid hb4; clear hb4)
          | (go_at_call 68; (with_reducible refine (cO.out _).mono ?_); rintro r w6 ⟨v6, rfl, hE6, hb6⟩; obtain ⟨T6, u6, rfl⟩ := isErr_some hE6; have hE6 := Lib.hid hE6; have hB6 := Lib.hid (hB4.out.trans (hb6.mono hB4.out.size)); clear hb6))
        go_ret
        unfold ChkR
        rw [hV.out, if_neg (by decide)]
        exact ⟨_, _, rfl, hE6.out, hB1.out.trans (hB6.out.mono hB1.out.size)⟩
  case neg =>
    have hA : q1 = false := by simpa using hA
    rw [hA] at hv hq
    rw [eq_comm] at hq
    simp only [Bool.or_eq_false_iff, decide_eq_false_iff_not] at hq
    obtain ⟨a1, a2, a3, a4⟩ : 1024 ≤ n ∧ n ≤ 8192 ∧ least ≤ n ∧ n ≤ top := by omega
    have hp0 : 0 < p.size := hpos (by omega)
    have i1 : (1 : Int) ≤ (p.size : Int) := by omega
    have i2 : (p.size : Int) - 1 < (p.size : Int) := by omega
    clear hpos
    have k1 : decide (n < 1024) = false := decide_eq_false (by omega)
    have k2 : decide (8192 < n) = false := decide_eq_false (by omega)
    have k3 : decide (n < least) = false := decide_eq_false (by omega)
    have k4 : decide (top < n) = false := decide_eq_false (by omega)
    clear hq
    clear hA
    rw [show (!false) = true from rfl, Bool.true_and] at hv
    cases hb1 : shortB p with
    | false =>
      rw [hb1] at cS1
      have hV := Lib.hid (show checkB least top p g = false by rw [hv, hb1]; rfl)
      clear hv hb1
      as_aux_lemma =>
        go_enter Tryd.func19, Tryd.ntmps19
        go_upto_region 1 with fail
        generalize w.alloc (.cells #[.string p, .string g] 23) = w1 at hB1 hS c0 c1 ⊢
        go_wp2_with (first
          | (go_at_call 41; (with_reducible refine (cB.out _).mono ?_); rintro r w4 ⟨rfl, hb4⟩; have hB4 := Lib.hid hb4; obtain ⟨d0, d1⟩ := hS.out _ hb4; clear hb4)
          | (go_at_call 72; (with_reducible refine (cS1.out _).mono ?_); rintro r w5 ⟨rfl, rfl⟩)
          | (go_at_call 68; (with_reducible refine (cO.out _).mono ?_); rintro r w6 ⟨v6, rfl, hE6, hb6⟩; obtain ⟨T6, u6, rfl⟩ := isErr_some hE6; have hE6 := Lib.hid hE6; have hB6 := Lib.hid (hB4.out.trans (hb6.mono hB4.out.size)); clear hb6))
        go_ret
        unfold ChkR
        rw [hV.out, if_neg (by decide)]
        exact ⟨_, _, rfl, hE6.out, hB1.out.trans (hB6.out.mono hB1.out.size)⟩
    | true =>
      have ho : lastOdd p = !((p[p.size - 1].toNat : Int) % 2 == 0) := by unfold lastOdd; rw [dif_pos hp0]
      rw [ho] at hv
      clear ho
      rw [hb1] at cS1 hv
      clear hb1
      cases hb2 : shortB g with
      | false =>
        rw [hb2] at cS2 hv
        clear hb2
        have hV := Lib.hid (show checkB least top p g = false by rw [hv]; rfl)
        clear hv
        as_aux_lemma =>
          go_enter Tryd.func19, Tryd.ntmps19
          go_upto_region 1 with fail
          generalize w.alloc (.cells #[.string p, .string g] 23) = w1 at hB1 hS c0 c1 ⊢
          go_wp2_with (first
            | (go_at_call 41; (with_reducible refine (cB.out _).mono ?_); rintro r w4 ⟨rfl, hb4⟩; have hB4 := Lib.hid hb4; obtain ⟨d0, d1⟩ := hS.out _ hb4; clear hb4)
            | (go_at_call 72; (with_reducible refine (cS1.out _).mono ?_); rintro r w5 ⟨rfl, rfl⟩)
            | (go_at_call 72; (with_reducible refine (cS2.out _).mono ?_); rintro r w5 ⟨rfl, rfl⟩)
            | (go_at_call 73; (with_reducible refine (cW.out _).mono ?_); rintro r w5 ⟨rfl, rfl⟩)
            | (go_at_call 68; (with_reducible refine (cO.out _).mono ?_); rintro r w6 ⟨v6, rfl, hE6, hb6⟩; obtain ⟨T6, u6, rfl⟩ := isErr_some hE6; have hE6 := Lib.hid hE6; have hB6 := Lib.hid (hB4.out.trans (hb6.mono hB4.out.size)); clear hb6))
          go_ret
          unfold ChkR
          rw [hV.out, if_neg (by decide)]
          exact ⟨_, _, rfl, hE6.out, hB1.out.trans (hB6.out.mono hB1.out.size)⟩
      | true =>
        rw [hb2] at cS2 hv
        clear hb2
        cases hq : ((p[p.size - 1].toNat : Int) % 2 == 0) with
        | true =>
          rw [hq] at hv
          have hV := Lib.hid (show checkB least top p g = false by rw [hv]; rfl)
          clear hv
          as_aux_lemma =>
            go_enter Tryd.func19, Tryd.ntmps19
            go_upto_region 1 with fail
            generalize w.alloc (.cells #[.string p, .string g] 23) = w1 at hB1 hS c0 c1 ⊢
            go_wp2_with (first
              | (go_at_call 41; (with_reducible refine (cB.out _).mono ?_); rintro r w4 ⟨rfl, hb4⟩; have hB4 := Lib.hid hb4; obtain ⟨d0, d1⟩ := hS.out _ hb4; clear hb4)
              | (go_at_call 72; (with_reducible refine (cS1.out _).mono ?_); rintro r w5 ⟨rfl, rfl⟩)
              | (go_at_call 72; (with_reducible refine (cS2.out _).mono ?_); rintro r w5 ⟨rfl, rfl⟩)
              | (go_at_call 73; (with_reducible refine (cW.out _).mono ?_); rintro r w5 ⟨rfl, rfl⟩)
              | (go_at_call 68; (with_reducible refine (cO.out _).mono ?_); rintro r w6 ⟨v6, rfl, hE6, hb6⟩; obtain ⟨T6, u6, rfl⟩ := isErr_some hE6; have hE6 := Lib.hid hE6; have hB6 := Lib.hid (hB4.out.trans (hb6.mono hB4.out.size)); clear hb6))
            go_ret
            unfold ChkR
            rw [hV.out, if_neg (by decide)]
            exact ⟨_, _, rfl, hE6.out, hB1.out.trans (hB6.out.mono hB1.out.size)⟩
        | false =>
          rw [hq] at hv
          cases he0 : (g.toList == []) with
          | true =>
            rw [he0] at hv
            have he1 : g = ⟨#[]⟩ := bs_ext (by rw [bsl ⟨#[]⟩]; simpa using he0)
            clear he0
            subst he1
            have hV := Lib.hid (show checkB least top p ⟨#[]⟩ = false by rw [hv]; rfl)
            clear hv
            as_aux_lemma =>
              go_enter Tryd.func19, Tryd.ntmps19
              go_upto_region 1 with fail
              generalize w.alloc (.cells #[.string p, .string ⟨#[]⟩] 23) = w1 at hB1 hS c0 c1 ⊢
              go_wp2_with (first
                | (go_at_call 41; (with_reducible refine (cB.out _).mono ?_); rintro r w4 ⟨rfl, hb4⟩; have hB4 := Lib.hid hb4; obtain ⟨d0, d1⟩ := hS.out _ hb4; clear hb4)
                | (go_at_call 72; (with_reducible refine (cS1.out _).mono ?_); rintro r w5 ⟨rfl, rfl⟩)
                | (go_at_call 72; (with_reducible refine (cS2.out _).mono ?_); rintro r w5 ⟨rfl, rfl⟩)
                | (go_at_call 73; (with_reducible refine (cW.out _).mono ?_); rintro r w5 ⟨rfl, rfl⟩)
                | (go_at_call 68; (with_reducible refine (cO.out _).mono ?_); rintro r w6 ⟨v6, rfl, hE6, hb6⟩; obtain ⟨T6, u6, rfl⟩ := isErr_some hE6; have hE6 := Lib.hid hE6; have hB6 := Lib.hid (hB4.out.trans (hb6.mono hB4.out.size)); clear hb6))
              go_ret
              unfold ChkR
              rw [hV.out, if_neg (by decide)]
              exact ⟨_, _, rfl, hE6.out, hB1.out.trans (hB6.out.mono hB1.out.size)⟩
          | false =>
            rw [he0] at hv
            have he2 : g.toList.isEmpty = false := by
              cases hq2 : g.toList with
              | nil => rw [hq2] at he0; cases he0
              | cons x r => rfl
            cases he1 : (g.toList == [1]) with
            | true =>
              rw [he1] at hv
              have hV := Lib.hid (show checkB least top p g = false by rw [hv]; rfl)
              clear hv
              as_aux_lemma =>
                go_enter Tryd.func19, Tryd.ntmps19
                go_upto_region 1 with fail
                generalize w.alloc (.cells #[.string p, .string g] 23) = w1 at hB1 hS c0 c1 ⊢
                go_wp2_with (first
                  | (go_at_call 41; (with_reducible refine (cB.out _).mono ?_); rintro r w4 ⟨rfl, hb4⟩; have hB4 := Lib.hid hb4; obtain ⟨d0, d1⟩ := hS.out _ hb4; clear hb4)
                  | (go_at_call 72; (with_reducible refine (cS1.out _).mono ?_); rintro r w5 ⟨rfl, rfl⟩)
                  | (go_at_call 72; (with_reducible refine (cS2.out _).mono ?_); rintro r w5 ⟨rfl, rfl⟩)
                  | (go_at_call 73; (with_reducible refine (cW.out _).mono ?_); rintro r w5 ⟨rfl, rfl⟩)
                  | (go_at_call 68; (with_reducible refine (cO.out _).mono ?_); rintro r w6 ⟨v6, rfl, hE6, hb6⟩; obtain ⟨T6, u6, rfl⟩ := isErr_some hE6; have hE6 := Lib.hid hE6; have hB6 := Lib.hid (hB4.out.trans (hb6.mono hB4.out.size)); clear hb6))
                go_ret
                unfold ChkR
                rw [hV.out, if_neg (by decide)]
                exact ⟨_, _, rfl, hE6.out, hB1.out.trans (hB6.out.mono hB1.out.size)⟩
            | false =>
              rw [he1] at hv
              by_cases hmn : m < n
              · have k5 : decide (n ≤ m) = false := decide_eq_false (by omega)
                have hV := Lib.hid (show checkB least top p g = true by rw [hv]; simp [hmn])
                clear hv
                as_aux_lemma =>
                  go_enter Tryd.func19, Tryd.ntmps19
                  go_upto_region 1 with fail
                  generalize w.alloc (.cells #[.string p, .string g] 23) = w1 at hB1 hS c0 c1 ⊢
                  go_wp2_with (first
                    | (go_at_call 41; (with_reducible refine (cB.out _).mono ?_); rintro r w4 ⟨rfl, hb4⟩; have hB4 := Lib.hid hb4; obtain ⟨d0, d1⟩ := hS.out _ hb4; clear hb4)
                    | (go_at_call 72; (with_reducible refine (cS1.out _).mono ?_); rintro r w5 ⟨rfl, rfl⟩)
                    | (go_at_call 72; (with_reducible refine (cS2.out _).mono ?_); rintro r w5 ⟨rfl, rfl⟩)
                    | (go_at_call 73; (with_reducible refine (cW.out _).mono ?_); rintro r w5 ⟨rfl, rfl⟩)
                    | (go_at_call 68; (with_reducible refine (cO.out _).mono ?_); rintro r w6 ⟨v6, rfl, hE6, hb6⟩; obtain ⟨T6, u6, rfl⟩ := isErr_some hE6; have hE6 := Lib.hid hE6; have hB6 := Lib.hid (hB4.out.trans (hb6.mono hB4.out.size)); clear hb6))
                  go_ret
                  unfold ChkR
                  rw [hV.out, if_pos rfl]
                  exact ⟨rfl, hB1.out.trans (hB4.out.mono hB1.out.size)⟩
              · have k5 : n ≤ m := by omega
                have hV := Lib.hid (show checkB least top p g = false by rw [hv]; simp [hmn])
                clear hv
                as_aux_lemma =>
                  go_enter Tryd.func19, Tryd.ntmps19
                  go_upto_region 1 with fail
                  generalize w.alloc (.cells #[.string p, .string g] 23) = w1 at hB1 hS c0 c1 ⊢
                  go_wp2_with (first
                    | (go_at_call 41; (with_reducible refine (cB.out _).mono ?_); rintro r w4 ⟨rfl, hb4⟩; have hB4 := Lib.hid hb4; obtain ⟨d0, d1⟩ := hS.out _ hb4; clear hb4)
                    | (go_at_call 72; (with_reducible refine (cS1.out _).mono ?_); rintro r w5 ⟨rfl, rfl⟩)
                    | (go_at_call 72; (with_reducible refine (cS2.out _).mono ?_); rintro r w5 ⟨rfl, rfl⟩)
                    | (go_at_call 73; (with_reducible refine (cW.out _).mono ?_); rintro r w5 ⟨rfl, rfl⟩)
                    | (go_at_call 68; (with_reducible refine (cO.out _).mono ?_); rintro r w6 ⟨v6, rfl, hE6, hb6⟩; obtain ⟨T6, u6, rfl⟩ := isErr_some hE6; have hE6 := Lib.hid hE6; have hB6 := Lib.hid (hB4.out.trans (hb6.mono hB4.out.size)); clear hb6))
                  go_ret
                  unfold ChkR
                  rw [hV.out, if_neg (by decide)]
                  exact ⟨_, _, rfl, hE6.out, hB1.out.trans (hB6.out.mono hB1.out.size)⟩
end Go.Proofs.YtlonejkmdibkaaaDoor
