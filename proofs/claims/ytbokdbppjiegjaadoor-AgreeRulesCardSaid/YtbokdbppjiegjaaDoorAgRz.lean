/- AgZ, AgY, AgRl, joined. -/
import Derived.Test.YtbokdbppjiegjaaDoorAgZk1
import Derived.Test.YtbokdbppjiegjaaDoorAgZk2
import Derived.Test.YtbokdbppjiegjaaDoorAgZk3
import Derived.Test.YtbokdbppjiegjaaDoorAgZk4
import Derived.Test.YtbokdbppjiegjaaDoorAgZk5
import Derived.Test.YtbokdbppjiegjaaDoorAgR
import Derived.Test.YtbokdbppjiegjaaDoorFlE
import Derived.Test.YtbokdbppjiegjaaDoorAgT
import Derived.Test.YtbokdbppjiegjaaDoorFlV
namespace Go.Proofs.YtbokdbppjiegjaaDoor
section
open Go.RowKit

theorem refRule_any (es : List Ev) (hok : ∀ e ∈ es, allOk evDs e.cells) (A : Option Addr) (n c k : Nat) (x : Ev) (w : World) (hn : n ≤ 1000000) (H : Evs w A n es) (hx : es[k]? = some x) :
    Calls Tryd.prog 10 #[.slice A n c, .int .i64 k] w fun r w' => r = .returned (.string (wordN (ruleX es k x))) ∧ Below w.heap.size w w' := by
  have hp : x.kind = 7 ∨ x.kind = 1 ∨ x.kind = 2 ∨ x.kind = 3 ∨ x.kind = 4 ∨ x.kind = 5 ∨ (x.kind ≠ 7 ∧ x.kind ≠ 1 ∧ x.kind ≠ 2 ∧ x.kind ≠ 3 ∧ x.kind ≠ 4 ∧ x.kind ≠ 5) := by omega
  rcases hp with hk | hk | hk | hk | hk | hk | hk
  · exact refRule_k7 es hok A n c k x w hn H hx hk
  · exact refRule_k1 es hok A n c k x w hn H hx hk
  · exact refRule_k2 es hok A n c k x w hn H hx hk
  · exact refRule_k3 es hok A n c k x w hn H hx hk
  · exact refRule_k4 es hok A n c k x w hn H hx hk
  · exact refRule_k5 es hok A n c k x w hn H hx hk
  · exact refRule_k0 es hok A n c k x w hn H hx hk
end

section
open Go.RowKit

def agreeS : ByteArray := ⟨#[97, 103, 114, 101, 101]⟩
theorem wrongW_ne {es : List Ev} {k : Nat} (hw : ruleN es k ≠ 0) : (wrongW es).toList.isEmpty = false := by
  unfold wrongW
  rcases wrongI_cases es with ⟨_, h⟩ | ⟨j, h1, _, h3, _⟩
  · exact absurd (h k) hw
  · rw [h1, Int.toNat_natCast]
    exact wordN_ne (ruleN_le es j) h3
theorem wordN_size (n : Nat) : (wordN n).size ≤ 7 := by
  match n with
  | 0 => decide
  | 1 => decide
  | 2 => decide
  | 3 => decide
  | 4 => decide
  | 5 => decide
  | 6 => decide
  | 7 => decide
  | 8 => decide
  | 9 => decide
  | 10 => decide
  | n + 11 => show (⟨#[]⟩ : ByteArray).size ≤ 7; decide
set_option maxHeartbeats 1000000 in
theorem check_mk (es : List Ev) (hok : ∀ e ∈ es, allOk evDs e.cells) (A : Option Addr) (n c : Nat) (w : World) (hc : n ≤ c) (hn1 : n ≤ 1000000) (hn : c ≤ 9223372036854775807) (H : Evs w A n es) {k : Nat} (hw : ruleN es k ≠ 0) :
    Calls Tryd.prog 13 #[.slice A n c] w (Mk w (some 14) [agreeS, wrongW es]) := by
  have cW := wrong_any es hok A n c w hc hn1 hn H
  have hne := wrongW_ne hw
  unfold wrongV at cW
  generalize wrongW es = s at cW hne ⊢
  generalize wrongI es = i at cW
  have cW := Lib.hid cW
  have hne2 : (!s.toList.isEmpty) = true := by rw [hne]; rfl
  have cO := Lib.hid (fun W => of_any s 14 W (by decide))
  have cA := Lib.hid (fun T u W (h : isErr W (some 14) [s] (.iface T u)) => at_any agreeS (some 14) [s] T u W h)
  unfold agreeS at cA
  clear hw hok H
  go_enter Tryd.func13, Tryd.ntmps13
  go_wp2_with (first
    | (go_at_call 12; (with_reducible refine cW.out.mono ?_); rintro r w5 ⟨rfl, hb5⟩; have hB5 := Lib.hid hb5; clear hb5)
    | (go_at_call 17; (with_reducible refine (cO.out _).mono ?_); rintro r w6 ⟨v6, rfl, hE6, hb6⟩; obtain ⟨T6, u6, rfl⟩ := isErr_some hE6; have hE6 := Lib.hid hE6; have hB6 := Lib.hid (hB5.out.trans (hb6.mono hB5.out.size)); clear hb6)
    | (go_at_call 16; (with_reducible refine (cA.out _ _ _ hE6.out).mono ?_); rintro r w7 ⟨v7, rfl, hE7, hb7⟩; have hE7 := Lib.hid hE7; have hB7 := Lib.hid (hB6.out.trans (hb7.mono hB6.out.size)); clear hb7))
  go_ret
  exact ⟨_, rfl, hE7.out, hB7.out⟩

/-- One more event. -/
theorem wrongW_none {es : List Ev} (h : ∀ k, ruleN es k = 0) : wrongI es = -1 ∧ wrongW es = ⟨#[]⟩ := by
  have h1 : wrongI es = -1 := by
    rcases wrongI_cases es with ⟨h1, _⟩ | ⟨j, _, _, h3, _⟩
    · exact h1
    · exact absurd (h j) h3
  refine ⟨h1, ?_⟩
  unfold wrongW
  rw [h]
  rfl
theorem wrongW_hit {es : List Ev} {k : Nat} (hk : k < es.length) (h : ruleN es k ≠ 0) (h0 : ∀ j, j < k → ruleN es j = 0) : wrongI es = k ∧ wrongW es = wordN (ruleN es k) := by
  have h1 : wrongI es = k := wrong_hit hk h (by rw [List.any_eq_false]; intro j hj; simp [h0 j (List.mem_range.1 hj)])
  exact ⟨h1, by unfold wrongW; rw [h1, Int.toNat_natCast]⟩
theorem wrong_next {es : List Ev} {m : Nat} (hm : m < es.length) :
    (wrongI (es.take m) = -1 ∧ wrongW (es.take m) = ⟨#[]⟩ ∧ ((ruleN es m = 0 ∧ wrongI (es.take (m + 1)) = -1 ∧ wrongW (es.take (m + 1)) = ⟨#[]⟩) ∨ (ruleN es m ≠ 0 ∧ wrongI (es.take (m + 1)) = m ∧ wrongW (es.take (m + 1)) = wordN (ruleN es m)))) ∨
    ((∃ j : Nat, wrongI (es.take m) = j ∧ j < m) ∧ wrongI (es.take (m + 1)) = wrongI (es.take m) ∧ wrongW (es.take (m + 1)) = wrongW (es.take m)) := by
  have e1 : ∀ j, j < m → ruleN (es.take m) j = ruleN es j := fun j hj => rule_take es hj (Nat.le_of_lt hm)
  have e2 : ∀ j, j < m + 1 → ruleN (es.take (m + 1)) j = ruleN es j := fun j hj => rule_take es hj hm
  have hl : (es.take (m + 1)).length = m + 1 := by rw [List.length_take]; omega
  rcases wrongI_cases (es.take m) with ⟨_, h⟩ | ⟨j, h1, h2, h3, h4⟩
  · left
    have hz : ∀ j, j < m → ruleN es j = 0 := fun j hj => by rw [← e1 j hj]; exact h j
    refine ⟨(wrongW_none h).1, (wrongW_none h).2, ?_⟩
    by_cases h0 : ruleN es m = 0
    · refine .inl ⟨h0, wrongW_none (fun k => ?_)⟩
      by_cases hk : k < m + 1
      · rw [e2 k hk]
        by_cases hkm : k = m
        · rw [hkm]; exact h0
        · exact hz k (by omega)
      · exact rule_none _ (by omega)
    · refine .inr ⟨h0, ?_⟩
      have := wrongW_hit (es := es.take (m + 1)) (k := m) (by omega) (by rw [e2 m (by omega)]; exact h0) (fun j hj => by rw [e2 j (by omega)]; exact hz j hj)
      rw [e2 m (by omega)] at this
      exact this
  · right
    have hjm : j < m := by rw [List.length_take] at h2; omega
    have r1 := wrongW_hit h2 h3 h4
    have r2 := wrongW_hit (es := es.take (m + 1)) (k := j) (by omega) (by rw [e2 j (by omega), ← e1 j hjm]; exact h3) (fun i hi => by rw [e2 i (by omega), ← e1 i (by omega)]; exact h4 i hi)
    refine ⟨⟨j, h1, hjm⟩, r2.1.trans h1.symm, ?_⟩
    rw [r2.2, r1.2, e1 j hjm, e2 j (by omega)]
end

section
open Go.RowKit

theorem err07_built (n : Int) (s : ByteArray) : Tryd.prog.built 36 [(0, .int .i64 n), (1, .string s)] = some #[.int .i64 n, .string s] := by kernel_rfl
theorem spS_agree (s : ByteArray) : spS [agreeS, s] = ⟨#[97, 103, 114, 101, 101, 32]⟩ ++ s ++ ⟨#[32]⟩ := by
  have : (⟨#[]⟩ ++ agreeS ++ ⟨#[32]⟩ : ByteArray) = ⟨#[97, 103, 114, 101, 101, 32]⟩ := by decide +kernel
  show (⟨#[]⟩ ++ agreeS ++ ⟨#[32]⟩) ++ s ++ ⟨#[32]⟩ = _
  rw [this]
theorem nil_wrong : wrongI [] = -1 ∧ wrongW [] = ⟨#[]⟩ := wrongW_none (fun _ => rule_none [] (by simp))
set_option maxRecDepth 100000 in
set_option maxHeartbeats 8000000 in
theorem law_agreeRules (es : List Ev) (hok : ∀ e ∈ es, allOk evDs e.cells) (A : Option Addr) (n c : Nat) (x : Int) (w : World) (hc : n ≤ c) (hn : c ≤ 9223372036854775807) (H : Evs w A n es) (G : ETy w) :
    Calls Tryd.prog 4 #[.slice A n c, .int .i64 x] w fun r w' => r = .returned (.bool true) ∧ Below w.heap.size w w' := by
  have aw := Lib.hid (fun W => awake32_any W)
  by_cases h40 : 40 < n
  · go_enter Tryd.func4, Tryd.ntmps4
    go_wp2_with (go_at_call 9; refine (aw.out _).mono ?_; rintro r w5 ⟨rfl, hb5⟩)
    go_ret
    exact ⟨rfl, hb5⟩
  have h40 : n ≤ 40 := by omega
  have hlen := Lib.hid H.len
  have HH := Lib.hid H
  have hok := Lib.hid hok
  have G := Lib.hid G
  have cW := Lib.hid (fun W (h : Below w.heap.size w W) => wrong_any es hok.out A n c W hc (by omega) hn (HH.out.keep h))
  have cO := Lib.hid (fun W h => rule_out A n c x W (by omega) h)
  have cCk := Lib.hid (fun W (h : Below w.heap.size w W) (hz : ∀ k, ruleN es k = 0) => check_ok es hok.out A n c W hc (by omega) hn (HH.out.keep h) hz)
  have cCb := Lib.hid (fun W (h : Below w.heap.size w W) (k : Nat) (hk : ruleN es k ≠ 0) => check_mk es hok.out A n c W hc (by omega) hn (HH.out.keep h) hk)
  have n0 := Lib.hid nil_wrong
  have cRA := Lib.hid (fun (m : Nat) (y : Ev) W (h : Below w.heap.size w W) (hy : es[m]? = some y) => rule_any es hok.out A n c m y W hc (by omega) hn (HH.out.keep h) hy)
  have cFA := Lib.hid (fun (m : Nat) (y : Ev) W (h : Below w.heap.size w W) (hy : es[m]? = some y) => refRule_any es hok.out A n c m y W (by omega) (HH.out.keep h) hy)
  clear H
  go_enter Tryd.func4, Tryd.ntmps4
  go_wp2_with fail
  go_loopw [5, 6, 7] (fun p s i wr => ∃ (m : Nat) (q : Int) (t : ByteArray), m ≤ n ∧ -1 ≤ q ∧ q ≤ 40 ∧ i = .int .i64 m ∧ p = .int .i64 q ∧ s = .string t ∧ Hid (wrongI (es.take m) = q) ∧ Hid (wrongW (es.take m) = t) ∧ Hid (Below w.heap.size w wr)) (fun _ _ i _ => n - (intOf i).toNat)
  case atStart => exact ⟨0, -1, ⟨#[]⟩, by omega, by omega, by omega, rfl, rfl, rfl, n0.out.1, n0.out.2, Below.refl _ _⟩
  case round =>
    obtain ⟨m, q, t, hm, hq1, hq2, rfl, rfl, rfl, hI, hW, hB⟩ := hrel
    by_cases hlt : m < n
    · have hml : m < es.length := by rw [hlen.out]; exact hlt
      have hy : es[m]? = some es[m] := List.getElem?_eq_getElem hml
      generalize es[m] = y at hy
      have cF := cFA.out m y wr hB.out hy
      have cR := fun W h => cRA.out m y W h hy
      have hr : ruleN es m = ruleX es m y := by unfold ruleN; rw [hy]
      rw [← hr] at cF
      simp only [← hr] at cR
      have hle := ruleN_le es m
      have hnx := wrong_next hml
      rw [hI.out, hW.out] at hnx
      clear hr hy
      rcases hnx with ⟨rfl, rfl, ⟨h0, h1, h2⟩ | ⟨h0, h1, h2⟩⟩ | ⟨⟨j, rfl, hjm⟩, h1, h2⟩
      · rw [h0] at cF cR
        have cF := Lib.hid cF
        have cR := Lib.hid cR
        have h1 := Lib.hid h1
        have h2 := Lib.hid h2
        clear h0 hle hml
        go_wp2_with (first
          | (go_at_call 10; (with_reducible refine cF.out.mono ?_); rintro r w5 ⟨rfl, hb5⟩; rw [show wordN 0 = ⟨#[]⟩ from rfl]; have hB5 := Lib.hid (hB.out.trans (hb5.mono hB.out.size)); clear hb5)
          | (go_at_call 11; (with_reducible refine (cR.out _ hB5.out).mono ?_); rintro r w6 ⟨rfl, hb6⟩; rw [show wordN 0 = ⟨#[]⟩ from rfl]; have hB6 := Lib.hid (hB5.out.trans (hb6.mono hB5.out.size)); clear hb6))
        go_roundw
        case rel => exact ⟨m + 1, -1, ⟨#[]⟩, by omega, by omega, by omega, by go_num, rfl, rfl, h1.out, h2.out, hB6.out⟩
        case measure => simp [intOf]; omega
      · have hne := wordN_ne hle h0
        generalize wordN (ruleN es m) = s at cF cR hne h2
        have cF := Lib.hid cF
        have cR := Lib.hid cR
        have h1 := Lib.hid h1
        have h2 := Lib.hid h2
        have hne2 : (!s.toList.isEmpty) = true := by rw [hne]; rfl
        clear h0 hle hml
        go_wp2_with (first
          | (go_at_call 10; (with_reducible refine cF.out.mono ?_); rintro r w5 ⟨rfl, hb5⟩; have hB5 := Lib.hid (hB.out.trans (hb5.mono hB.out.size)); clear hb5)
          | (go_at_call 11; (with_reducible refine (cR.out _ hB5.out).mono ?_); rintro r w6 ⟨rfl, hb6⟩; have hB6 := Lib.hid (hB5.out.trans (hb6.mono hB5.out.size)); clear hb6))
        go_roundw
        case rel => exact ⟨m + 1, m, s, by omega, by omega, by omega, by go_num, rfl, rfl, h1.out, h2.out, hB6.out⟩
        case measure => simp [intOf]; omega
      · have hj0 : (0 : Int) ≤ (j : Int) := by omega
        have h1 := Lib.hid h1
        have h2 := Lib.hid h2
        by_cases h0 : ruleN es m = 0
        · rw [h0] at cF cR
          have cF := Lib.hid cF
          have cR := Lib.hid cR
          clear h0 hle hml
          go_wp2_with (first
            | (go_at_call 10; (with_reducible refine cF.out.mono ?_); rintro r w5 ⟨rfl, hb5⟩; rw [show wordN 0 = ⟨#[]⟩ from rfl]; have hB5 := Lib.hid (hB.out.trans (hb5.mono hB.out.size)); clear hb5)
            | (go_at_call 11; (with_reducible refine (cR.out _ hB5.out).mono ?_); rintro r w6 ⟨rfl, hb6⟩; rw [show wordN 0 = ⟨#[]⟩ from rfl]; have hB6 := Lib.hid (hB5.out.trans (hb6.mono hB5.out.size)); clear hb6))
          go_roundw
          case rel => exact ⟨m + 1, j, t, by omega, by omega, by omega, by go_num, rfl, rfl, h1.out, h2.out, hB6.out⟩
          case measure => simp [intOf]; omega
        · have hne := wordN_ne hle h0
          generalize wordN (ruleN es m) = s at cF cR hne
          have cF := Lib.hid cF
          have cR := Lib.hid cR
          have hne2 : (!s.toList.isEmpty) = true := by rw [hne]; rfl
          clear h0 hle hml
          go_wp2_with (first
            | (go_at_call 10; (with_reducible refine cF.out.mono ?_); rintro r w5 ⟨rfl, hb5⟩; have hB5 := Lib.hid (hB.out.trans (hb5.mono hB.out.size)); clear hb5)
            | (go_at_call 11; (with_reducible refine (cR.out _ hB5.out).mono ?_); rintro r w6 ⟨rfl, hb6⟩; have hB6 := Lib.hid (hB5.out.trans (hb6.mono hB5.out.size)); clear hb6))
          go_roundw
          case rel => exact ⟨m + 1, j, t, by omega, by omega, by omega, by go_num, rfl, rfl, h1.out, h2.out, hB6.out⟩
          case measure => simp [intOf]; omega
    · have htk : es.take m = es := List.take_of_length_le (by rw [hlen.out]; omega)
      rw [htk] at hI hW
      have cV := Lib.hid (cW.out wr hB.out)
      have hV := Lib.hid (show wrongV es = .tuple #[.int .i64 q, .string t] by unfold wrongV; rw [hI.out, hW.out])
      have hx : (x < 0 ∨ (n : Int) ≤ x ∧ 0 ≤ x) ∨ (0 ≤ x ∧ x < (n : Int)) := by omega
      by_cases hz : ∀ k, ruleN es k = 0
      · have hqt := wrongW_none hz
        rw [hI.out, hW.out] at hqt
        obtain ⟨rfl, rfl⟩ := hqt
        have cC := Lib.hid (fun W h => cCk.out W h hz)
        clear hz htk
        rcases hx with (hx | ⟨hx, hx0⟩) | ⟨hx, hx0⟩
        · have cO' := Lib.hid (fun W => cO.out W (.inl hx))
          go_wp2_with (first
            | (go_at_call 12; (with_reducible refine cV.out.mono ?_); rintro r w5 ⟨rfl, hb5⟩; rw [hV.out]; have hB5 := Lib.hid (hB.out.trans (hb5.mono hB.out.size)); clear hb5)
            | (go_at_call 13; (with_reducible refine (cC.out _ hB5.out).mono ?_); rintro r w6 ⟨rfl, hb6⟩; have hB6 := Lib.hid (hB5.out.trans (hb6.mono hB5.out.size)); clear hb6)
            | (go_at_call 11; (with_reducible refine (cO'.out _).mono ?_); rintro r w7 ⟨rfl, rfl⟩)
            | (go_at_call 9; refine (aw.out _).mono ?_; rintro r w8 ⟨rfl, hb8⟩))
          go_ret
          exact ⟨rfl, hB6.out.trans (hb8.mono hB6.out.size)⟩
        · have cO' := Lib.hid (fun W => cO.out W (.inr ⟨hx0, hx⟩))
          go_wp2_with (first
            | (go_at_call 12; (with_reducible refine cV.out.mono ?_); rintro r w5 ⟨rfl, hb5⟩; rw [hV.out]; have hB5 := Lib.hid (hB.out.trans (hb5.mono hB.out.size)); clear hb5)
            | (go_at_call 13; (with_reducible refine (cC.out _ hB5.out).mono ?_); rintro r w6 ⟨rfl, hb6⟩; have hB6 := Lib.hid (hB5.out.trans (hb6.mono hB5.out.size)); clear hb6)
            | (go_at_call 11; (with_reducible refine (cO'.out _).mono ?_); rintro r w7 ⟨rfl, rfl⟩)
            | (go_at_call 9; refine (aw.out _).mono ?_; rintro r w8 ⟨rfl, hb8⟩))
          go_ret
          exact ⟨rfl, hB6.out.trans (hb8.mono hB6.out.size)⟩
        · go_wp2_with (first
            | (go_at_call 12; (with_reducible refine cV.out.mono ?_); rintro r w5 ⟨rfl, hb5⟩; rw [hV.out]; have hB5 := Lib.hid (hB.out.trans (hb5.mono hB.out.size)); clear hb5)
            | (go_at_call 13; (with_reducible refine (cC.out _ hB5.out).mono ?_); rintro r w6 ⟨rfl, hb6⟩; have hB6 := Lib.hid (hB5.out.trans (hb6.mono hB5.out.size)); clear hb6)
            | (go_at_call 9; refine (aw.out _).mono ?_; rintro r w8 ⟨rfl, hb8⟩))
          go_ret
          exact ⟨rfl, hB6.out.trans (hb8.mono hB6.out.size)⟩
      · obtain ⟨k, hk⟩ := Classical.not_forall.1 hz
        have hne := wrongW_ne hk
        have hs7 := wordN_size (ruleN es (wrongI es).toNat)
        rw [show wordN (ruleN es (wrongI es).toNat) = wrongW es from rfl] at hs7
        have cC := fun W h => cCb.out W h k hk
        rw [hW.out] at hne hs7
        simp only [hW.out] at cC
        have cC := Lib.hid cC
        have hne2 : (!t.toList.isEmpty) = true := by rw [hne]; rfl
        have hsp := Lib.hid (spS_agree t)
        have z1 : (⟨#[97, 103, 114, 101, 101, 32]⟩ ++ t : ByteArray).size ≤ 13 := by rw [ByteArray.size_append]; have e1 : (⟨#[97, 103, 114, 101, 101, 32]⟩ : ByteArray).size = 6 := rfl; omega
        have hsp7 := Lib.hid (show (spS [agreeS, t]).size ≤ 1000000 by rw [hsp.out, ByteArray.size_append]; have e2 : (⟨#[32]⟩ : ByteArray).size = 1 := rfl; omega)
        have cWr := Lib.hid (fun (v : Value) (W : World) (hE : isErr W (some 14) [agreeS, t] v) (hG : ETy W) => (by have := wrong07_any 14 [agreeS, t] v W (by simp) hsp7.out hE hG; rw [hsp.out] at this; exact this : Calls Tryd.prog 8 #[v, .agg #[.int .i64 14, .string (⟨#[97, 103, 114, 101, 101, 32]⟩ ++ t ++ ⟨#[32]⟩)]] W fun r w' => r = .returned (.bool true) ∧ Below W.heap.size W w'))
        clear hz htk hk hI hW
        rcases hx with (hx | ⟨hx, hx0⟩) | ⟨hx, hx0⟩
        · have cO' := Lib.hid (fun W => cO.out W (.inl hx))
          go_wp2_with (first
            | (go_at_call 12; (with_reducible refine cV.out.mono ?_); rintro r w5 ⟨rfl, hb5⟩; rw [hV.out]; have hB5 := Lib.hid (hB.out.trans (hb5.mono hB.out.size)); clear hb5)
            | (go_at_call 13; (with_reducible refine (cC.out _ hB5.out).mono ?_); rintro r w6 ⟨v6, rfl, hE6, hb6⟩; obtain ⟨T6, u6, rfl⟩ := isErr_some hE6; have hE6 := Lib.hid hE6; have hB6 := Lib.hid (hB5.out.trans (hb6.mono hB5.out.size)); clear hb6)
            | (go_at_call 11; (with_reducible refine (cO'.out _).mono ?_); rintro r w7 ⟨rfl, rfl⟩)
            | (refine wpList_build_as 36 _ rfl rfl #[.int .i64 14, .string (⟨#[97, 103, 114, 101, 101, 32]⟩ ++ t ++ ⟨#[32]⟩)] ?_ ?_; exact err07_built _ _)
            | (go_at_call 9; refine (aw.out _).mono ?_; rintro r w8 ⟨rfl, hb8⟩; have hE8 := Lib.hid (hE6.out.keep hb8); have hB8 := Lib.hid (hB6.out.trans (hb8.mono hB6.out.size)); clear hb8)
            | (go_at_call 8; refine (cWr.out _ _ hE8.out (G.out.keep hB8.out)).mono ?_; rintro r w9 ⟨rfl, hb9⟩))
          go_ret
          exact ⟨rfl, hB8.out.trans (hb9.mono hB8.out.size)⟩
        · have cO' := Lib.hid (fun W => cO.out W (.inr ⟨hx0, hx⟩))
          go_wp2_with (first
            | (go_at_call 12; (with_reducible refine cV.out.mono ?_); rintro r w5 ⟨rfl, hb5⟩; rw [hV.out]; have hB5 := Lib.hid (hB.out.trans (hb5.mono hB.out.size)); clear hb5)
            | (go_at_call 13; (with_reducible refine (cC.out _ hB5.out).mono ?_); rintro r w6 ⟨v6, rfl, hE6, hb6⟩; obtain ⟨T6, u6, rfl⟩ := isErr_some hE6; have hE6 := Lib.hid hE6; have hB6 := Lib.hid (hB5.out.trans (hb6.mono hB5.out.size)); clear hb6)
            | (go_at_call 11; (with_reducible refine (cO'.out _).mono ?_); rintro r w7 ⟨rfl, rfl⟩)
            | (refine wpList_build_as 36 _ rfl rfl #[.int .i64 14, .string (⟨#[97, 103, 114, 101, 101, 32]⟩ ++ t ++ ⟨#[32]⟩)] ?_ ?_; exact err07_built _ _)
            | (go_at_call 9; refine (aw.out _).mono ?_; rintro r w8 ⟨rfl, hb8⟩; have hE8 := Lib.hid (hE6.out.keep hb8); have hB8 := Lib.hid (hB6.out.trans (hb8.mono hB6.out.size)); clear hb8)
            | (go_at_call 8; refine (cWr.out _ _ hE8.out (G.out.keep hB8.out)).mono ?_; rintro r w9 ⟨rfl, hb9⟩))
          go_ret
          exact ⟨rfl, hB8.out.trans (hb9.mono hB8.out.size)⟩
        · go_wp2_with (first
            | (go_at_call 12; (with_reducible refine cV.out.mono ?_); rintro r w5 ⟨rfl, hb5⟩; rw [hV.out]; have hB5 := Lib.hid (hB.out.trans (hb5.mono hB.out.size)); clear hb5)
            | (go_at_call 13; (with_reducible refine (cC.out _ hB5.out).mono ?_); rintro r w6 ⟨v6, rfl, hE6, hb6⟩; obtain ⟨T6, u6, rfl⟩ := isErr_some hE6; have hE6 := Lib.hid hE6; have hB6 := Lib.hid (hB5.out.trans (hb6.mono hB5.out.size)); clear hb6)
            | (refine wpList_build_as 36 _ rfl rfl #[.int .i64 14, .string (⟨#[97, 103, 114, 101, 101, 32]⟩ ++ t ++ ⟨#[32]⟩)] ?_ ?_; exact err07_built _ _)
            | (go_at_call 9; refine (aw.out _).mono ?_; rintro r w8 ⟨rfl, hb8⟩; have hE8 := Lib.hid (hE6.out.keep hb8); have hB8 := Lib.hid (hB6.out.trans (hb8.mono hB6.out.size)); clear hb8)
            | (go_at_call 8; refine (cWr.out _ _ hE8.out (G.out.keep hB8.out)).mono ?_; rintro r w9 ⟨rfl, hb9⟩))
          go_ret
          exact ⟨rfl, hB8.out.trans (hb9.mono hB8.out.size)⟩
end
end Go.Proofs.YtbokdbppjiegjaaDoor
