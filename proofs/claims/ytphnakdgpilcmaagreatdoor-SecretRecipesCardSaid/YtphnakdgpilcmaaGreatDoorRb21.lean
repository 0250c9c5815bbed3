/- Texts joined: what each shows stands ahead of its theorems. -/
import Derived.Test.YtphnakdgpilcmaaGreatDoorRb20
import Derived.Test.YtphnakdgpilcmaaGreatDoorRb16
namespace Go.Proofs.YtphnakdgpilcmaaGreatDoor
section
open Go.RowKit Go.Maps

/-- The terms that are known, and those that were sent. -/
def haveL (known sent : List (Option Tm)) : List Tm := (known ++ sent).filterMap id
theorem haveL_mem {known sent : List (Option Tm)} {t : Tm} : t ∈ haveL known sent ↔ some t ∈ known ∨ some t ∈ sent := by
  unfold haveL
  rw [List.mem_filterMap]
  constructor
  · rintro ⟨o, h1, h2⟩
    have h2 : o = some t := h2
    subst h2
    exact List.mem_append.1 h1
  · intro h
    exact ⟨some t, List.mem_append.2 h, rfl⟩
/-- What New leaves. -/
def NewM (V : World) (g : Nat) (L : List Tm) (known sent : List (Option Tm)) (r : Ending) (W' : World) : Prop :=
  ∃ m b its ls, r = .returned (.pointer (some ⟨m, 0, none⟩)) ∧ MindI V W' g m b L known sent its ls ∧ Mind (haveL known sent) ls
theorem MindI.start {V : World} {g : Nat} {L : List Tm} {known sent : List (Option Tm)} : MindI V ((V.alloc (.map #[] 0)).alloc (.cells #[.pointer (some ⟨g, 0, none⟩), .slice none 0 0, .map (some V.heap.size)] 72)) g (V.heap.size + 1) V.heap.size L known sent [] [] := by
  have h1 := below_new V (.map #[] 0)
  have h2 := below_new (V.alloc (.map #[] 0)) (.cells #[.pointer (some ⟨g, 0, none⟩), .slice none 0 0, .map (some V.heap.size)] 72)
  have hs : (V.alloc (.map #[] 0)).heap.size = V.heap.size + 1 := by simp
  have h3 := heap_new (V.alloc (.map #[] 0)) (.cells #[.pointer (some ⟨g, 0, none⟩), .slice none 0 0, .map (some V.heap.size)] 72)
  rw [hs] at h3
  refine ⟨⟨none, 0, h1.trans (h2.mono h1.size), h3, by omega, Nat.le_refl _, OwnR.nil_ _ _ _ _, ?_, by simp, by simp⟩, rfl, List.nodup_nil, fun i it t h => by simp at h⟩
  have := (IMap.made V).keep h2
  rw [show atF (itsT []) = fun _ => none from atF_nil]
  exact this
theorem MindI.len {V W : World} {g m b : Nat} {L : List Tm} {known sent : List (Option Tm)} {its : List It} {ls : List Tm} (h : MindI V W g m b L known sent its ls) : ∃ A c, W.cell? ⟨m, 1, none⟩ = some (.slice A ls.length c) ∧ ls.length ≤ 100 := by
  obtain ⟨⟨A, c, h1⟩, h2, _, _⟩ := h
  have := h1.c0.2.1
  rw [h2.len] at this
  exact ⟨A, c, this, by rw [← h2.len]; exact h1.few⟩
theorem MindI.step {V W : World} {g m b : Nat} {L : List Tm} {known sent : List (Option Tm)} {ls : List Tm} {r : Ending} {W' : World} {o : Option Tm} (h : AddsR V W g m b L known sent ls (fun l => l = addL ls o) r W') : r = .returned (.tuple #[]) ∧ ∃ its' ls', MindI V W' g m b L known sent its' ls' ∧ (∀ t ∈ ls, t ∈ ls') ∧ ∀ t, o = some t → t ∈ ls' := by
  obtain ⟨h1, _, _, its', ls', h2, ⟨e, h3⟩, h4⟩ := h
  exact ⟨h1, its', ls', h2, fun t ht => by rw [h3]; exact List.mem_append_left _ ht, fun t ht => by rw [h4, ht]; exact addL_mem _ _⟩
theorem nm_get {L : List Tm} {l : List Int} {os : List (Option Tm)} (h : NmL L l os) {j : Nat} {x : Int} (hx : l[j]? = some x) : os[j]? = some (get L x) ∧ (∀ t, get L x = some t → os[j]? = some (some t)) := by
  have hl := (List.getElem?_eq_some_iff.1 hx).1
  have ho : os[j]? = some (os[j]'(by rw [← h.len]; exact hl)) := List.getElem?_eq_getElem _
  have hn := h.nm j x _ hx ho
  rw [ho]
  exact ⟨by rw [hn.1], fun t ht => by rw [← ht, hn.1]⟩
theorem nm_i64 {L : List Tm} {l : List Int} {os : List (Option Tm)} (h : NmL L l os) (hL : L.length ≤ 100) {j : Nat} {x : Int} (hx : l[j]? = some x) : i64 x := by
  have hl := (List.getElem?_eq_some_iff.1 hx).1
  have ho : os[j]? = some (os[j]'(by rw [← h.len]; exact hl)) := List.getElem?_eq_getElem _
  have hn := h.nm j x _ hx ho
  have := hn.lt
  exact i64_small (by omega) (by omega)
set_option maxRecDepth 100000 in
set_option maxHeartbeats 4000000 in
theorem mnew_any {V w0 : World} {g : Nat} {Ls : List Tm} (hS : St w0 g V Ls) {kA sA : Option Addr} {kn kc sn sc : Nat} {lk lq : List Int} {known sent : List (Option Tm)} (hk : Ints V kA kn lk) (hs : Ints V sA sn lq) (nk : NmL Ls lk known) (ns : NmL Ls lq sent) (hkn : kn ≤ 1000) (hsn : sn ≤ 1000) :
    Calls Tryz.prog 12 #[.pointer (some ⟨g, 0, none⟩), .slice kA kn kc, .slice sA sn sc] V (NewM V g Ls known sent) := by
  have hmm := @run_makeMap Tryz.prog
  have h0 := Lib.hid (MindI.start (V := V) (g := g) (L := Ls) (known := known) (sent := sent))
  have hkl := hk.len
  have hsl := hs.len
  have hkh := Lib.hid hk
  have hsh := Lib.hid hs
  have hSh := Lib.hid hS
  have hnh := Lib.hid (And.intro nk ns)
  have hll := Lib.hid (And.intro hkl hsl)
  clear hk hs hS nk ns hkl hsl
  go_enter Tryz.func12, Tryz.ntmps12
  go_upto_region 2 with (first
    | (refine wpList_build_as 72 _ rfl rfl #[.pointer (some ⟨g, 0, none⟩), .slice none 0 0, .map (some V.heap.size)] ?_ ?_; kernel_rfl)
    | (refine wpList_box_row 72 _ rfl rfl #[.pointer (some ⟨g, 0, none⟩), .slice none 0 0, .map (some V.heap.size)] rfl ?_))
  clear hmm
  generalize (V.alloc (.map #[] 0)).alloc (.cells #[.pointer (some ⟨g, 0, none⟩), .slice none 0 0, .map (some V.heap.size)] 72) = W1 at *
  generalize V.heap.size + 1 = m at *
  generalize V.heap.size = b at *
  have h1 : Hid (∃ its ls, MindI V W1 g m b Ls known sent its ls ∧ ∀ o ∈ known.take 0, ∀ t, o = some t → t ∈ ls) := Lib.hid ⟨[], [], h0.out, fun o ho => by simp at ho⟩
  clear h0
  go_wp2_with fail
  go_loopw [20] (fun iv wr => ∃ j : Nat, j ≤ kn ∧ iv = .int .i64 j ∧ Hid (∃ its ls, MindI V wr g m b Ls known sent its ls ∧ ∀ o ∈ known.take j, ∀ t, o = some t → t ∈ ls)) (fun iv _ => kn - (intOf iv).toNat)
  case atStart => exact ⟨0, Nat.zero_le _, rfl, h1⟩
  case round =>
    clear h1
    obtain ⟨j, hj, rfl, hr⟩ := hrel
    by_cases hlt : j < kn
    · have hlt' : (j : Int) < (kn : Int) := by omega
      obtain ⟨its, ls, hI, hin⟩ := hr.out
      obtain ⟨b1, o1, x, rfl, hbl, hx, hcell⟩ := hkh.out.at_ hlt
      have hc := (hI.below.cell (p := ⟨b1, o1 + j, none⟩) hbl).trans hcell
      have hg := nm_get hnh.out.1 hx
      have cA := hI.add hSh.out ⟨x, 0, 0, j⟩ (nm_i64 hnh.out.1 hSh.out.few hx) (fun t ht => .inl ⟨rfl, j, rfl, hg.2 t ht⟩)
      have cA := Lib.hid (Calls.mono cA fun (r : Ending) (W' : World) h => (show r = Ending.returned (.tuple #[]) ∧ ∃ its ls, MindI V W' g m b Ls known sent its ls ∧ ∀ o ∈ known.take (j + 1), ∀ t, o = some t → t ∈ ls from by
        obtain ⟨h1, its', ls', h2, h3, h4⟩ := MindI.step h
        refine ⟨h1, its', ls', h2, fun o ho t ht => ?_⟩
        rw [take_succ_of hg.1] at ho
        rcases List.mem_append.1 ho with ho | ho
        · exact h3 t (hin o ho t ht)
        · rw [List.mem_singleton.1 ho] at ht; exact h4 t ht))
      simp only [It.row] at cA
      clear hI hin hg hx hcell hr
      go_wp2_with (first
        | (refine wpList_build_as 75 _ rfl rfl #[.int .i64 x, .int .i64 0, .int .i64 0, .int .i64 j] ?_ ?_; kernel_rfl)
        | (go_at_call 31; (with_reducible refine cA.out.mono ?_); rintro r w3 ⟨rfl, hr3⟩; replace hr3 := Lib.hid hr3))
      go_roundw
      case rel => exact ⟨j + 1, by omega, by go_num, hr3⟩
      case measure => simp [intOf]; omega
    · have h2 : Hid (∃ its ls, MindI V wr g m b Ls known sent its ls ∧ (∀ o ∈ known, ∀ t, o = some t → t ∈ ls) ∧ ∀ o ∈ sent.take 0, ∀ t, o = some t → t ∈ ls) := by
        obtain ⟨its, ls, hI, hin⟩ := hr.out
        rw [List.take_of_length_le (by have := hll.out.1; have := hnh.out.1.len; omega)] at hin
        exact ⟨its, ls, hI, hin, fun o ho => by simp at ho⟩
      clear hr
      go_wp2_with fail
      go_loopw [33] (fun iv wr => ∃ j : Nat, j ≤ sn ∧ iv = .int .i64 j ∧ Hid (∃ its ls, MindI V wr g m b Ls known sent its ls ∧ (∀ o ∈ known, ∀ t, o = some t → t ∈ ls) ∧ ∀ o ∈ sent.take j, ∀ t, o = some t → t ∈ ls)) (fun iv _ => sn - (intOf iv).toNat)
      case atStart => exact ⟨0, Nat.zero_le _, rfl, h2⟩
      case round =>
        clear h2
        obtain ⟨j, hj, rfl, hr⟩ := hrel
        by_cases hlt : j < sn
        · have hlt' : (j : Int) < (sn : Int) := by omega
          obtain ⟨its, ls, hI, hprev, hin⟩ := hr.out
          obtain ⟨b1, o1, x, rfl, hbl, hx, hcell⟩ := hsh.out.at_ hlt
          have hc := (hI.below.cell (p := ⟨b1, o1 + j, none⟩) hbl).trans hcell
          have hg := nm_get hnh.out.2 hx
          have cA := hI.add hSh.out ⟨x, 1, 0, j⟩ (nm_i64 hnh.out.2 hSh.out.few hx) (fun t ht => .inr (.inl ⟨rfl, j, rfl, hg.2 t ht⟩))
          have cA := Lib.hid (Calls.mono cA fun (r : Ending) (W' : World) h => (show r = Ending.returned (.tuple #[]) ∧ ∃ its ls, MindI V W' g m b Ls known sent its ls ∧ (∀ o ∈ known, ∀ t, o = some t → t ∈ ls) ∧ ∀ o ∈ sent.take (j + 1), ∀ t, o = some t → t ∈ ls from by
            obtain ⟨h1, its', ls', h2, h3, h4⟩ := MindI.step h
            refine ⟨h1, its', ls', h2, fun o ho t ht => h3 t (hprev o ho t ht), fun o ho t ht => ?_⟩
            rw [take_succ_of hg.1] at ho
            rcases List.mem_append.1 ho with ho | ho
            · exact h3 t (hin o ho t ht)
            · rw [List.mem_singleton.1 ho] at ht; exact h4 t ht))
          simp only [It.row] at cA
          clear hI hin hg hx hcell hr hprev
          go_wp2_with (first
            | (refine wpList_build_as 75 _ rfl rfl #[.int .i64 x, .int .i64 1, .int .i64 0, .int .i64 j] ?_ ?_; kernel_rfl)
            | (go_at_call 31; (with_reducible refine cA.out.mono ?_); rintro r w3 ⟨rfl, hr3⟩; replace hr3 := Lib.hid hr3))
          go_roundw
          case rel => exact ⟨j + 1, by omega, by go_num, hr3⟩
          case measure => simp [intOf]; omega
        · have h3 : Hid (∃ its ls, MindI V wr g m b Ls known sent its ls ∧ (∀ t ∈ haveL known sent, t ∈ ls) ∧ (-1 : Int) ≤ ls.length ∧ ((-1 : Int) = ls.length → ∀ t ∈ ls, SplitD ls t)) := by
            obtain ⟨its, ls, hI, hp, hin⟩ := hr.out
            rw [List.take_of_length_le (by have := hll.out.2; have := hnh.out.2.len; omega)] at hin
            exact ⟨its, ls, hI, fun t ht => (haveL_mem.1 ht).elim (fun h => hp _ h t rfl) (fun h => hin _ h t rfl), by omega, fun h => by omega⟩
          clear hr
          go_wp2_with fail
          go_loopw [12] (fun nv wr => ∃ nn : Int, nv = .int .i64 nn ∧ -1 ≤ nn ∧ Hid (∃ its ls, MindI V wr g m b Ls known sent its ls ∧ (∀ t ∈ haveL known sent, t ∈ ls) ∧ nn ≤ ls.length ∧ (nn = ls.length → ∀ t ∈ ls, SplitD ls t))) (fun nv _ => (101 - intOf nv).toNat)
          case atStart => exact ⟨-1, rfl, by omega, h3⟩
          case round =>
            clear h3
            obtain ⟨nn, rfl, hn1, hr⟩ := hrel
            obtain ⟨its, ls, hI, hin, hle, hsp⟩ := hr.out
            obtain ⟨A, c, m1, h100⟩ := hI.len
            by_cases e : nn = (ls.length : Int)
            · subst e
              have hM := Lib.hid (show NewM V g Ls known sent (.returned (.pointer (some ⟨m, 0, none⟩))) wr from ⟨m, b, its, ls, rfl, hI, closed_of (hsp rfl), hin, fun t ht => by
                obtain ⟨i, hi⟩ := List.getElem?_of_mem ht
                exact hI.why.had hI.nm.len (fun t h => haveL_mem.2 (.inl h)) (fun t h => haveL_mem.2 (.inr h)) i t hi, hI.once⟩)
              clear hI hin hle hsp hr
              go_wp2_with fail
              go_ret
              exact hM.out
            · have ef : (nn == (ls.length : Int)) = false := beq_eq_false_iff_ne.2 e
              have hlt : nn < (ls.length : Int) := by omega
              have h4 : Hid (∃ its2 ls2, MindI V wr g m b Ls known sent its2 ls2 ∧ (∃ e, ls2 = ls ++ e) ∧ 0 ≤ ls2.length ∧ (ls2 = ls → ∀ k t, k < 0 → ls[k]? = some t → SplitD ls t)) := Lib.hid ⟨its, ls, hI, ⟨[], by simp⟩, Nat.zero_le _, fun _ k t hk => absurd hk (Nat.not_lt_zero _)⟩
              have hinh := Lib.hid hin
              have et : (nn != (ls.length : Int)) = true := by unfold bne; rw [ef]; rfl
              clear hI hin hle hsp hr e
              go_wp2_with fail
              clear m1
              go_loopw [13] (fun iv wz => ∃ i : Nat, iv = .int .i64 i ∧ Hid (∃ its2 ls2, MindI V wz g m b Ls known sent its2 ls2 ∧ (∃ e, ls2 = ls ++ e) ∧ i ≤ ls2.length ∧ (ls2 = ls → ∀ k t, k < i → ls[k]? = some t → SplitD ls t))) (fun iv _ => 101 - (intOf iv).toNat)
              case atStart => exact ⟨0, rfl, h4⟩
              case round =>
                clear h4
                obtain ⟨i, rfl, hr⟩ := hrel
                obtain ⟨its2, ls2, hI2, ⟨e2, he2⟩, hi2, hsp2⟩ := hr.out
                obtain ⟨A2, c2, m2, h1002⟩ := hI2.len
                by_cases hil : i < ls2.length
                · have hil' : (i : Int) < (ls2.length : Int) := by omega
                  obtain ⟨t, ht⟩ : ∃ t, ls2[i]? = some t := ⟨ls2[i], List.getElem?_eq_getElem hil⟩
                  have cS := msplit_any hI2 hSh.out i t ht
                  have cS := Lib.hid (Calls.mono cS fun (r : Ending) (W' : World) h => (show r = Ending.returned (.tuple #[]) ∧ ∃ its2 ls2, MindI V W' g m b Ls known sent its2 ls2 ∧ (∃ e, ls2 = ls ++ e) ∧ i + 1 ≤ ls2.length ∧ (ls2 = ls → ∀ k t, k < i + 1 → ls[k]? = some t → SplitD ls t) from by
                    obtain ⟨h1, _, _, its3, ls3, h2, ⟨e3, h3⟩, h4⟩ := h
                    refine ⟨h1, its3, ls3, h2, ⟨e2 ++ e3, by rw [h3, he2, List.append_assoc]⟩, by rw [h3, List.length_append]; omega, fun h5 => ?_⟩
                    have e0 : ls2 = ls := by
                      have := congrArg List.length h5
                      rw [h3, he2, List.length_append, List.length_append] at this
                      rw [he2, List.length_eq_zero_iff.1 (show e2.length = 0 by omega), List.append_nil]
                    have h6 := h4 (by rw [h5, e0])
                    intro k u hk hu
                    by_cases ek : k = i
                    · subst ek
                      rw [e0, hu] at ht
                      obtain rfl := Option.some.inj ht
                      rw [← e0]; exact h6
                    · exact hsp2 e0 k u (by omega) hu))
                  clear hI2 he2 hsp2 hr ht hi2
                  go_wp2_with (go_at_call 32; (with_reducible refine cS.out.mono ?_); rintro r w3 ⟨rfl, hr3⟩; replace hr3 := Lib.hid hr3)
                  go_roundw
                  case rel => exact ⟨i + 1, by go_num, hr3⟩
                  case measure => simp [intOf]; omega
                · have hil' : ¬ (i : Int) < (ls2.length : Int) := by omega
                  have h5 : Hid (∃ its ls', MindI V wr g m b Ls known sent its ls' ∧ (∀ t ∈ haveL known sent, t ∈ ls') ∧ (ls.length : Int) ≤ ls'.length ∧ ((ls.length : Int) = ls'.length → ∀ t ∈ ls', SplitD ls' t)) := by
                    refine ⟨its2, ls2, hI2, fun t ht => by rw [he2]; exact List.mem_append_left _ (hinh.out t ht), by rw [he2, List.length_append]; omega, fun h5 => ?_⟩
                    have e0 : ls2 = ls := by
                      rw [he2, List.length_append] at h5
                      rw [he2, List.length_eq_zero_iff.1 (show e2.length = 0 by omega), List.append_nil]
                    intro t ht
                    obtain ⟨k, hk⟩ := List.getElem?_of_mem ht
                    have hkl := (List.getElem?_eq_some_iff.1 hk).1
                    rw [e0] at hk ⊢
                    exact hsp2 e0 k t (by omega) hk
                  clear hI2 he2 hsp2 hr hi2
                  go_wp2_with fail
                  go_roundw
                  case rel => exact ⟨(ls.length : Int), rfl, by omega, h5⟩
                  case measure => simp [intOf]; omega
end

section
open Go.RowKit Go.Maps

theorem St.view_own2 {w : World} {g : Nat} {W : World} {L : List Tm} (h : St w g W L) (x : Int) (t : Tm) (hg : get L x = some t) : Calls Tryz.prog 23 #[.pointer (some ⟨g, 0, none⟩), .int .i64 x] W fun r w' => ∃ (Av : Option Addr) (c : Nat) (xs : List Nat), r = .returned (.tuple #[.agg (ndC t.kind t.a t.b t.s (.slice Av t.args.length c)).toArray, .bool true]) ∧ OwnR w' W.heap.size 1 33 (.slice Av t.args.length c) (xs.map idv) ∧ xs.map (fun i => L[i]?) = t.args.map some ∧ Below W.heap.size W w' := by
  obtain ⟨A, rfl, rfl, H, _⟩ := h
  exact view_own A _ W H x t hg
/-- A list's terms, in a slice of the call's own; or that it is none. -/
def LstR (L : List Tm) (W : World) (p : Option Tm) (r : Ending) (w' : World) : Prop := ∃ (A : Option Addr) (n c : Nat) (b : Bool), r = .returned (.tuple #[.slice A n c, .bool b]) ∧ Below W.heap.size W w' ∧ (kindO p = 10 ↔ b = true) ∧
  (b = true → ∃ (t : Tm) (xs : List Nat), p = some t ∧ t.kind = 10 ∧ n = t.args.length ∧ n ≤ 32 ∧ OwnR w' W.heap.size 1 33 (.slice A n c) (xs.map idv) ∧ xs.map (fun i => L[i]?) = t.args.map some)
set_option maxRecDepth 100000 in
set_option maxHeartbeats 4000000 in
theorem klist_any {w0 W : World} {g q : Nat} {L : List Tm} (hS : St w0 g W L) {k1 k2 k3 : Value} (hq : W.heap[q]? = some (.cells #[.pointer (some ⟨g, 0, none⟩), k1, k2, k3] 82 (0, 0))) (x : Int) (p : Option Tm) (hx : Nm L x p) :
    Calls Tryz.prog 102 #[.pointer (some ⟨q, 0, none⟩), .int .i64 x] W (LstR L W p) := by
  have c0 := cell_of_row W q 0 _ _ _ hq
  clear hq
  cases p with
  | none =>
    have cV := Lib.hid (hS.view_none x hx.1)
    clear hx hS
    unfold LstR
    go_enter Tryz.func102, Tryz.ntmps102
    go_upto_region 2 with (first
      | (go_at_call 23; refine cV.out.mono ?_; rintro r w2 ⟨rfl, hb2⟩
         obtain ⟨z, b3, hrow⟩ := nd_box2 w2 0 0 0 [] none 0 0
         have hz := Lib.hid z
         have hrowH := Lib.hid hrow
         have hb3H := Lib.hid (hb2.trans (b3.mono hb2.size))
         clear hb2 z b3 hrow)
      | (refine wpList_store_at 52 _ _ rfl rfl w2.heap.size zNd.toArray rfl rfl 52 zNd.toArray hz.out (by kernel_rfl) rfl zNd_one ?_))
    have hb3 : Below W.heap.size W ((w2.alloc (.cells #[.int .i64 0, .int .i64 0, .int .i64 0, .string ⟨#[]⟩, .slice none 0 0] 52)).setRow w2.heap.size zNd.toArray) := hb3H.out
    have hrow : ((w2.alloc (.cells #[.int .i64 0, .int .i64 0, .int .i64 0, .string ⟨#[]⟩, .slice none 0 0] 52)).setRow w2.heap.size zNd.toArray).heap[w2.heap.size]? = some (.cells zNd.toArray 52 (0, 0)) := hrowH.out
    clear hb3H hz hrowH
    generalize ((w2.alloc (.cells #[.int .i64 0, .int .i64 0, .int .i64 0, .string ⟨#[]⟩, .slice none 0 0] 52)).setRow w2.heap.size zNd.toArray) = w3 at *
    generalize w2.heap.size = p6 at *
    have d4 : w3.cell? ⟨p6, 4, none⟩ = some (.slice none 0 0) := cell_of_row w3 p6 4 _ _ _ hrow
    have hb3h := Lib.hid hb3
    clear hb3 hrow
    go_quiet (fail)
    have hb4 := Lib.hid (hb3h.out.trans (Below.mono (drewN_below nq) hb3h.out.size))
    go_wp2_with fail
    go_ret2
    exact ⟨_, _, _, _, rfl, hb4.out, by simp [kindO], fun h => by cases h⟩
  | some t =>
    obtain ⟨k, a, b, s, args⟩ := t
    have hok := ok_mk.1 (hS.good.ok _ (get_mem hx.1))
    have cV := hS.view_own2 x _ hx.1
    simp only [Tm.kind, Tm.a, Tm.b, Tm.s, Tm.args] at cV
    replace cV := Lib.hid cV
    have hm : k = 10 → args.length ≤ 32 := fun h => by have := hok.1; unfold okHd at this; omega
    replace hm := Lib.hid hm
    obtain ⟨bb, hbb⟩ : ∃ bb, bb = ((k : Int) == 10) := ⟨_, rfl⟩
    have hbb2 : k = 10 ↔ bb = true := by rw [hbb]; simp; omega
    replace hbb2 := Lib.hid hbb2
    have f1 : ((k : Int) == 10) = bb := hbb.symm
    clear hok hx hS hbb
    unfold LstR
    go_enter Tryz.func102, Tryz.ntmps102
    go_upto_region 2 with (first
      | (go_at_call 23; refine cV.out.mono ?_; rintro r w2 ⟨Av, cv, xs, rfl, hI2, hxs, hb2⟩
         obtain ⟨z, b3, hrow⟩ := nd_box2 w2 k a b s Av args.length cv
         have hI3H := Lib.hid (OwnR.keep hI2 b3)
         have hz := Lib.hid z
         have hrowH := Lib.hid hrow
         have hb3H := Lib.hid (hb2.trans (b3.mono hb2.size))
         have hxsh := Lib.hid hxs
         clear hI2 hb2 hrow b3 hxs z)
      | (refine wpList_store_at 52 _ _ rfl rfl w2.heap.size (ndC k a b s (.slice Av args.length cv)).toArray rfl rfl 52 zNd.toArray hz.out (by kernel_rfl) rfl nd_all ?_))
    replace hrowH := hrowH.out
    replace hb3H := hb3H.out
    replace hI3H := hI3H.out
    generalize ((w2.alloc (.cells #[.int .i64 0, .int .i64 0, .int .i64 0, .string ⟨#[]⟩, .slice none 0 0] 52)).setRow w2.heap.size (ndC k a b s (.slice Av args.length cv)).toArray) = w3 at *
    generalize w2.heap.size = p6 at *
    have d0 : w3.cell? ⟨p6, 0, none⟩ = some (.int .i64 k) := cell_of_row w3 p6 0 _ _ _ hrowH
    have d4 : w3.cell? ⟨p6, 4, none⟩ = some (.slice Av args.length cv) := cell_of_row w3 p6 4 _ _ _ hrowH
    have hb3h := Lib.hid hb3H
    have hI3 := Lib.hid hI3H
    clear hb3H hrowH hz hI3H
    go_quiet (fail)
    have hb4 := Lib.hid (hb3h.out.trans (Below.mono (drewN_below nq) hb3h.out.size))
    have hI4 := Lib.hid (OwnR.keep hI3.out (drewN_below nq))
    go_wp2_with fail
    go_ret2
    exact ⟨_, _, _, _, rfl, hb4.out, hbb2.out, fun h => ⟨_, xs, rfl, hbb2.out.2 h, rfl, hm.out (hbb2.out.2 h), hI4.out, hxsh.out⟩⟩
end
end Go.Proofs.YtphnakdgpilcmaaGreatDoor
