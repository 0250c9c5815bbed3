/- Texts joined: what each shows stands ahead of its theorems. -/
import Derived.Test.YtphnakdgpilcmaaGreatDoorHb20
import Derived.Test.YtphnakdgpilcmaaGreatDoorHb13
import Derived.Test.YtphnakdgpilcmaaGreatDoorHb11
namespace Go.Proofs.YtphnakdgpilcmaaGreatDoor
section
open Go.RowKit Go.Maps

/-- The terms that are known, and those that were sent. -/
def haveL (known sent : List (Option Tm)) : List Tm := (known ++ sent).filterMap id
theorem haveL_mem {known sent : List (Option Tm)} {t : Tm} : t ∈ haveL known sent ↔ some t ∈ known ∨ some t ∈ sent := by
  unfold haveL
  rw [List.mem_filterMap]
  constructor
  · rintro ⟨o, h1, h2⟩
    have h2 : o = some t := h2
    subst h2
    exact List.mem_append.1 h1
  · intro h
    exact ⟨some t, List.mem_append.2 h, rfl⟩
/-- What New leaves. -/
def NewM (V : World) (g : Nat) (L : List Tm) (known sent : List (Option Tm)) (r : Ending) (W' : World) : Prop :=
  ∃ m b its ls, r = .returned (.pointer (some ⟨m, 0, none⟩)) ∧ MindI V W' g m b L known sent its ls ∧ Mind (haveL known sent) ls
theorem MindI.start {V : World} {g : Nat} {L : List Tm} {known sent : List (Option Tm)} : MindI V ((V.alloc (.map #[] 0)).alloc (.cells #[.pointer (some ⟨g, 0, none⟩), .slice none 0 0, .map (some V.heap.size)] 72)) g (V.heap.size + 1) V.heap.size L known sent [] [] := by
  have h1 := below_new V (.map #[] 0)
  have h2 := below_new (V.alloc (.map #[] 0)) (.cells #[.pointer (some ⟨g, 0, none⟩), .slice none 0 0, .map (some V.heap.size)] 72)
  have hs : (V.alloc (.map #[] 0)).heap.size = V.heap.size + 1 := by simp
  have h3 := heap_new (V.alloc (.map #[] 0)) (.cells #[.pointer (some ⟨g, 0, none⟩), .slice none 0 0, .map (some V.heap.size)] 72)
  rw [hs] at h3
  refine ⟨⟨none, 0, h1.trans (h2.mono h1.size), h3, by omega, Nat.le_refl _, OwnR.nil_ _ _ _ _, ?_, by simp, by simp⟩, rfl, List.nodup_nil, fun i it t h => by simp at h⟩
  have := (IMap.made V).keep h2
  rw [show atF (itsT []) = fun _ => none from atF_nil]
  exact this
theorem MindI.len {V W : World} {g m b : Nat} {L : List Tm} {known sent : List (Option Tm)} {its : List It} {ls : List Tm} (h : MindI V W g m b L known sent its ls) : ∃ A c, W.cell? ⟨m, 1, none⟩ = some (.slice A ls.length c) ∧ ls.length ≤ 100 := by
  obtain ⟨⟨A, c, h1⟩, h2, _, _⟩ := h
  have := h1.c0.2.1
  rw [h2.len] at this
  exact ⟨A, c, this, by rw [← h2.len]; exact h1.few⟩
theorem MindI.step {V W : World} {g m b : Nat} {L : List Tm} {known sent : List (Option Tm)} {ls : List Tm} {r : Ending} {W' : World} {o : Option Tm} (h : AddsR V W g m b L known sent ls (fun l => l = addL ls o) r W') : r = .returned (.tuple #[]) ∧ ∃ its' ls', MindI V W' g m b L known sent its' ls' ∧ (∀ t ∈ ls, t ∈ ls') ∧ ∀ t, o = some t → t ∈ ls' := by
  obtain ⟨h1, _, _, its', ls', h2, ⟨e, h3⟩, h4⟩ := h
  exact ⟨h1, its', ls', h2, fun t ht => by rw [h3]; exact List.mem_append_left _ ht, fun t ht => by rw [h4, ht]; exact addL_mem _ _⟩
theorem nm_get {L : List Tm} {l : List Int} {os : List (Option Tm)} (h : NmL L l os) {j : Nat} {x : Int} (hx : l[j]? = some x) : os[j]? = some (get L x) ∧ (∀ t, get L x = some t → os[j]? = some (some t)) := by
  have hl := (List.getElem?_eq_some_iff.1 hx).1
  have ho : os[j]? = some (os[j]'(by rw [← h.len]; exact hl)) := List.getElem?_eq_getElem _
  have hn := h.nm j x _ hx ho
  rw [ho]
  exact ⟨by rw [hn.1], fun t ht => by rw [← ht, hn.1]⟩
theorem nm_i64 {L : List Tm} {l : List Int} {os : List (Option Tm)} (h : NmL L l os) (hL : L.length ≤ 100) {j : Nat} {x : Int} (hx : l[j]? = some x) : i64 x := by
  have hl := (List.getElem?_eq_some_iff.1 hx).1
  have ho : os[j]? = some (os[j]'(by rw [← h.len]; exact hl)) := List.getElem?_eq_getElem _
  have hn := h.nm j x _ hx ho
  have := hn.lt
  exact i64_small (by omega) (by omega)
set_option maxRecDepth 100000 in
set_option maxHeartbeats 4000000 in
theorem mnew_any {V w0 : World} {g : Nat} {Ls : List Tm} (hS : St w0 g V Ls) {kA sA : Option Addr} {kn kc sn sc : Nat} {lk lq : List Int} {known sent : List (Option Tm)} (hk : Ints V kA kn lk) (hs : Ints V sA sn lq) (nk : NmL Ls lk known) (ns : NmL Ls lq sent) (hkn : kn ≤ 1000) (hsn : sn ≤ 1000) :
    Calls Tryz.prog 12 #[.pointer (some ⟨g, 0, none⟩), .slice kA kn kc, .slice sA sn sc] V (NewM V g Ls known sent) := by
  have hmm := @run_makeMap Tryz.prog
  have h0 := Lib.hid (MindI.start (V := V) (g := g) (L := Ls) (known := known) (sent := sent))
  have hkl := hk.len
  have hsl := hs.len
  have hkh := Lib.hid hk
  have hsh := Lib.hid hs
  have hSh := Lib.hid hS
  have hnh := Lib.hid (And.intro nk ns)
  have hll := Lib.hid (And.intro hkl hsl)
  clear hk hs hS nk ns hkl hsl
  go_enter Tryz.func12, Tryz.ntmps12
  go_upto_region 2 with (first
    | (refine wpList_build_as 72 _ rfl rfl #[.pointer (some ⟨g, 0, none⟩), .slice none 0 0, .map (some V.heap.size)] ?_ ?_; kernel_rfl)
    | (refine wpList_box_row 72 _ rfl rfl #[.pointer (some ⟨g, 0, none⟩), .slice none 0 0, .map (some V.heap.size)] rfl ?_))
  clear hmm
  generalize (V.alloc (.map #[] 0)).alloc (.cells #[.pointer (some ⟨g, 0, none⟩), .slice none 0 0, .map (some V.heap.size)] 72) = W1 at *
  generalize V.heap.size + 1 = m at *
  generalize V.heap.size = b at *
  have h1 : Hid (∃ its ls, MindI V W1 g m b Ls known sent its ls ∧ ∀ o ∈ known.take 0, ∀ t, o = some t → t ∈ ls) := Lib.hid ⟨[], [], h0.out, fun o ho => by simp at ho⟩
  clear h0
  go_wp2_with fail
  go_loopw [20] (fun iv wr => ∃ j : Nat, j ≤ kn ∧ iv = .int .i64 j ∧ Hid (∃ its ls, MindI V wr g m b Ls known sent its ls ∧ ∀ o ∈ known.take j, ∀ t, o = some t → t ∈ ls)) (fun iv _ => kn - (intOf iv).toNat)
  case atStart => exact ⟨0, Nat.zero_le _, rfl, h1⟩
  case round =>
    clear h1
    obtain ⟨j, hj, rfl, hr⟩ := hrel
    by_cases hlt : j < kn
    · have hlt' : (j : Int) < (kn : Int) := by omega
      obtain ⟨its, ls, hI, hin⟩ := hr.out
      obtain ⟨b1, o1, x, rfl, hbl, hx, hcell⟩ := hkh.out.at_ hlt
      have hc := (hI.below.cell (p := ⟨b1, o1 + j, none⟩) hbl).trans hcell
      have hg := nm_get hnh.out.1 hx
      have cA := hI.add hSh.out ⟨x, 0, 0, j⟩ (nm_i64 hnh.out.1 hSh.out.few hx) (fun t ht => .inl ⟨rfl, j, rfl, hg.2 t ht⟩)
      have cA := Lib.hid (Calls.mono cA fun (r : Ending) (W' : World) h => (show r = Ending.returned (.tuple #[]) ∧ ∃ its ls, MindI V W' g m b Ls known sent its ls ∧ ∀ o ∈ known.take (j + 1), ∀ t, o = some t → t ∈ ls from by
        obtain ⟨h1, its', ls', h2, h3, h4⟩ := MindI.step h
        refine ⟨h1, its', ls', h2, fun o ho t ht => ?_⟩
        rw [take_succ_of hg.1] at ho
        rcases List.mem_append.1 ho with ho | ho
        · exact h3 t (hin o ho t ht)
        · rw [List.mem_singleton.1 ho] at ht; exact h4 t ht))
      simp only [It.row] at cA
      clear hI hin hg hx hcell hr
      go_wp2_with (first
        | (refine wpList_build_as 75 _ rfl rfl #[.int .i64 x, .int .i64 0, .int .i64 0, .int .i64 j] ?_ ?_; kernel_rfl)
        | (go_at_call 31; (with_reducible refine cA.out.mono ?_); rintro r w3 ⟨rfl, hr3⟩; replace hr3 := Lib.hid hr3))
      go_roundw
      case rel => exact ⟨j + 1, by omega, by go_num, hr3⟩
      case measure => simp [intOf]; omega
    · have h2 : Hid (∃ its ls, MindI V wr g m b Ls known sent its ls ∧ (∀ o ∈ known, ∀ t, o = some t → t ∈ ls) ∧ ∀ o ∈ sent.take 0, ∀ t, o = some t → t ∈ ls) := by
        obtain ⟨its, ls, hI, hin⟩ := hr.out
        rw [List.take_of_length_le (by have := hll.out.1; have := hnh.out.1.len; omega)] at hin
        exact ⟨its, ls, hI, hin, fun o ho => by simp at ho⟩
      clear hr
      go_wp2_with fail
      go_loopw [33] (fun iv wr => ∃ j : Nat, j ≤ sn ∧ iv = .int .i64 j ∧ Hid (∃ its ls, MindI V wr g m b Ls known sent its ls ∧ (∀ o ∈ known, ∀ t, o = some t → t ∈ ls) ∧ ∀ o ∈ sent.take j, ∀ t, o = some t → t ∈ ls)) (fun iv _ => sn - (intOf iv).toNat)
      case atStart => exact ⟨0, Nat.zero_le _, rfl, h2⟩
      case round =>
        clear h2
        obtain ⟨j, hj, rfl, hr⟩ := hrel
        by_cases hlt : j < sn
        · have hlt' : (j : Int) < (sn : Int) := by omega
          obtain ⟨its, ls, hI, hprev, hin⟩ := hr.out
          obtain ⟨b1, o1, x, rfl, hbl, hx, hcell⟩ := hsh.out.at_ hlt
          have hc := (hI.below.cell (p := ⟨b1, o1 + j, none⟩) hbl).trans hcell
          have hg := nm_get hnh.out.2 hx
          have cA := hI.add hSh.out ⟨x, 1, 0, j⟩ (nm_i64 hnh.out.2 hSh.out.few hx) (fun t ht => .inr (.inl ⟨rfl, j, rfl, hg.2 t ht⟩))
          have cA := Lib.hid (Calls.mono cA fun (r : Ending) (W' : World) h => (show r = Ending.returned (.tuple #[]) ∧ ∃ its ls, MindI V W' g m b Ls known sent its ls ∧ (∀ o ∈ known, ∀ t, o = some t → t ∈ ls) ∧ ∀ o ∈ sent.take (j + 1), ∀ t, o = some t → t ∈ ls from by
            obtain ⟨h1, its', ls', h2, h3, h4⟩ := MindI.step h
            refine ⟨h1, its', ls', h2, fun o ho t ht => h3 t (hprev o ho t ht), fun o ho t ht => ?_⟩
            rw [take_succ_of hg.1] at ho
            rcases List.mem_append.1 ho with ho | ho
            · exact h3 t (hin o ho t ht)
            · rw [List.mem_singleton.1 ho] at ht; exact h4 t ht))
          simp only [It.row] at cA
          clear hI hin hg hx hcell hr hprev
          go_wp2_with (first
            | (refine wpList_build_as 75 _ rfl rfl #[.int .i64 x, .int .i64 1, .int .i64 0, .int .i64 j] ?_ ?_; kernel_rfl)
            | (go_at_call 31; (with_reducible refine cA.out.mono ?_); rintro r w3 ⟨rfl, hr3⟩; replace hr3 := Lib.hid hr3))
          go_roundw
          case rel => exact ⟨j + 1, by omega, by go_num, hr3⟩
          case measure => simp [intOf]; omega
        · have h3 : Hid (∃ its ls, MindI V wr g m b Ls known sent its ls ∧ (∀ t ∈ haveL known sent, t ∈ ls) ∧ (-1 : Int) ≤ ls.length ∧ ((-1 : Int) = ls.length → ∀ t ∈ ls, SplitD ls t)) := by
            obtain ⟨its, ls, hI, hp, hin⟩ := hr.out
            rw [List.take_of_length_le (by have := hll.out.2; have := hnh.out.2.len; omega)] at hin
            exact ⟨its, ls, hI, fun t ht => (haveL_mem.1 ht).elim (fun h => hp _ h t rfl) (fun h => hin _ h t rfl), by omega, fun h => by omega⟩
          clear hr
          go_wp2_with fail
          go_loopw [12] (fun nv wr => ∃ nn : Int, nv = .int .i64 nn ∧ -1 ≤ nn ∧ Hid (∃ its ls, MindI V wr g m b Ls known sent its ls ∧ (∀ t ∈ haveL known sent, t ∈ ls) ∧ nn ≤ ls.length ∧ (nn = ls.length → ∀ t ∈ ls, SplitD ls t))) (fun nv _ => (101 - intOf nv).toNat)
          case atStart => exact ⟨-1, rfl, by omega, h3⟩
          case round =>
            clear h3
            obtain ⟨nn, rfl, hn1, hr⟩ := hrel
            obtain ⟨its, ls, hI, hin, hle, hsp⟩ := hr.out
            obtain ⟨A, c, m1, h100⟩ := hI.len
            by_cases e : nn = (ls.length : Int)
            · subst e
              have hM := Lib.hid (show NewM V g Ls known sent (.returned (.pointer (some ⟨m, 0, none⟩))) wr from ⟨m, b, its, ls, rfl, hI, closed_of (hsp rfl), hin, fun t ht => by
                obtain ⟨i, hi⟩ := List.getElem?_of_mem ht
                exact hI.why.had hI.nm.len (fun t h => haveL_mem.2 (.inl h)) (fun t h => haveL_mem.2 (.inr h)) i t hi, hI.once⟩)
              clear hI hin hle hsp hr
              go_wp2_with fail
              go_ret
              exact hM.out
            · have ef : (nn == (ls.length : Int)) = false := beq_eq_false_iff_ne.2 e
              have hlt : nn < (ls.length : Int) := by omega
              have h4 : Hid (∃ its2 ls2, MindI V wr g m b Ls known sent its2 ls2 ∧ (∃ e, ls2 = ls ++ e) ∧ 0 ≤ ls2.length ∧ (ls2 = ls → ∀ k t, k < 0 → ls[k]? = some t → SplitD ls t)) := Lib.hid ⟨its, ls, hI, ⟨[], by simp⟩, Nat.zero_le _, fun _ k t hk => absurd hk (Nat.not_lt_zero _)⟩
              have hinh := Lib.hid hin
              have et : (nn != (ls.length : Int)) = true := by unfold bne; rw [ef]; rfl
              clear hI hin hle hsp hr e
              go_wp2_with fail
              clear m1
              go_loopw [13] (fun iv wz => ∃ i : Nat, iv = .int .i64 i ∧ Hid (∃ its2 ls2, MindI V wz g m b Ls known sent its2 ls2 ∧ (∃ e, ls2 = ls ++ e) ∧ i ≤ ls2.length ∧ (ls2 = ls → ∀ k t, k < i → ls[k]? = some t → SplitD ls t))) (fun iv _ => 101 - (intOf iv).toNat)
              case atStart => exact ⟨0, rfl, h4⟩
              case round =>
                clear h4
                obtain ⟨i, rfl, hr⟩ := hrel
                obtain ⟨its2, ls2, hI2, ⟨e2, he2⟩, hi2, hsp2⟩ := hr.out
                obtain ⟨A2, c2, m2, h1002⟩ := hI2.len
                by_cases hil : i < ls2.length
                · have hil' : (i : Int) < (ls2.length : Int) := by omega
                  obtain ⟨t, ht⟩ : ∃ t, ls2[i]? = some t := ⟨ls2[i], List.getElem?_eq_getElem hil⟩
                  have cS := msplit_any hI2 hSh.out i t ht
                  have cS := Lib.hid (Calls.mono cS fun (r : Ending) (W' : World) h => (show r = Ending.returned (.tuple #[]) ∧ ∃ its2 ls2, MindI V W' g m b Ls known sent its2 ls2 ∧ (∃ e, ls2 = ls ++ e) ∧ i + 1 ≤ ls2.length ∧ (ls2 = ls → ∀ k t, k < i + 1 → ls[k]? = some t → SplitD ls t) from by
                    obtain ⟨h1, _, _, its3, ls3, h2, ⟨e3, h3⟩, h4⟩ := h
                    refine ⟨h1, its3, ls3, h2, ⟨e2 ++ e3, by rw [h3, he2, List.append_assoc]⟩, by rw [h3, List.length_append]; omega, fun h5 => ?_⟩
                    have e0 : ls2 = ls := by
                      have := congrArg List.length h5
                      rw [h3, he2, List.length_append, List.length_append] at this
                      rw [he2, List.length_eq_zero_iff.1 (show e2.length = 0 by omega), List.append_nil]
                    have h6 := h4 (by rw [h5, e0])
                    intro k u hk hu
                    by_cases ek : k = i
                    · subst ek
                      rw [e0, hu] at ht
                      obtain rfl := Option.some.inj ht
                      rw [← e0]; exact h6
                    · exact hsp2 e0 k u (by omega) hu))
                  clear hI2 he2 hsp2 hr ht hi2
                  go_wp2_with (go_at_call 32; (with_reducible refine cS.out.mono ?_); rintro r w3 ⟨rfl, hr3⟩; replace hr3 := Lib.hid hr3)
                  go_roundw
                  case rel => exact ⟨i + 1, by go_num, hr3⟩
                  case measure => simp [intOf]; omega
                · have hil' : ¬ (i : Int) < (ls2.length : Int) := by omega
                  have h5 : Hid (∃ its ls', MindI V wr g m b Ls known sent its ls' ∧ (∀ t ∈ haveL known sent, t ∈ ls') ∧ (ls.length : Int) ≤ ls'.length ∧ ((ls.length : Int) = ls'.length → ∀ t ∈ ls', SplitD ls' t)) := by
                    refine ⟨its2, ls2, hI2, fun t ht => by rw [he2]; exact List.mem_append_left _ (hinh.out t ht), by rw [he2, List.length_append]; omega, fun h5 => ?_⟩
                    have e0 : ls2 = ls := by
                      rw [he2, List.length_append] at h5
                      rw [he2, List.length_eq_zero_iff.1 (show e2.length = 0 by omega), List.append_nil]
                    intro t ht
                    obtain ⟨k, hk⟩ := List.getElem?_of_mem ht
                    have hkl := (List.getElem?_eq_some_iff.1 hk).1
                    rw [e0] at hk ⊢
                    exact hsp2 e0 k t (by omega) hk
                  clear hI2 he2 hsp2 hr hi2
                  go_wp2_with fail
                  go_roundw
                  case rel => exact ⟨(ls.length : Int), rfl, by omega, h5⟩
                  case measure => simp [intOf]; omega
end

section
open Go.RowKit Go.Maps

/-- A mind beside an arena that may grow. -/
structure MindF (w0 : World) (g : Nat) (W : World) (m b : Nat) (L : List Tm) (known sent : List (Option Tm)) (its : List It) (ls : List Tm) : Prop where
  mi : MindI w0 W g m b L known sent its ls
  off : OffB W g b
theorem MindF.keep {w0 W W' : World} {g m b : Nat} {L : List Tm} {known sent : List (Option Tm)} {its : List It} {ls : List Tm} (h : MindF w0 g W m b L known sent its ls) (hb : Below W.heap.size W W') : MindF w0 g W' m b L known sent its ls := by
  obtain ⟨vn, vs, bm, h1, h2⟩ := h.off
  exact ⟨h.mi.keep hb, vn, vs, bm, (hb.block g (Array.getElem?_eq_some_iff.1 h1).1).trans h1, h2⟩
theorem Named.grow {L e : List Tm} {its : List It} {ls : List Tm} (h : Named L its ls) : Named (L ++ e) its ls := by
  unfold Named
  refine List.ext_getElem? fun j => ?_
  rw [List.getElem?_map, List.getElem?_map]
  cases hi : its[j]? with
  | none =>
    have : ls[j]? = none := by
      rw [List.getElem?_eq_none_iff] at hi ⊢
      rw [← h.len]; exact hi
    rw [this]; rfl
  | some i =>
    obtain ⟨t, ht, hg⟩ := h.at_ hi
    rw [ht]
    simp only [Option.map_some]
    rw [get_app hg]
theorem IMap.maps {w w' : World} {b n : Nat} {f : Int → Option Int} (h : IMap w b n f) (hs : ∀ es cl, w.heap[b]? = some (.map es cl) → w'.heap[b]? = some (.map es cl)) : IMap w' b n f := by
  obtain ⟨D, ⟨es, clock, hblk, F, h1, hD⟩, h2⟩ := h
  exact ⟨D, ⟨es, clock, hs es clock hblk, F, h1, hD⟩, h2⟩
theorem MindF.grow {w0 W W' : World} {g m b : Nat} {L e : List Tm} {known sent : List (Option Tm)} {its : List It} {ls : List Tm} (h : MindF w0 g W m b L known sent its ls) (hS : St w0 g W' (L ++ e)) (hY : Stay W W') (hF : MapStay g W W') : MindF w0 g W' m b (L ++ e) known sent its ls := by
  obtain ⟨⟨⟨A, c, h1⟩, h2, h3, h4⟩, h5⟩ := h
  obtain ⟨D, ⟨es, clock, hblk, _⟩, _⟩ := h1.map
  refine ⟨⟨⟨A, c, hS.below, hY m _ _ _ h1.blk (by decide) (by decide) (by decide), h1.ge, h1.bge, OwnR.stay h1.own hY (by decide) (by decide) (by decide), h1.map.maps fun es cl hb => (hF b es cl hb h5).1, h1.few, h1.wf⟩, h2.grow, h3, h4⟩, (hF b es clock hblk h5).2⟩
theorem MindF.grow_ {w0 W W' : World} {g m b : Nat} {L L' : List Tm} {o : Option Tm} {known sent : List (Option Tm)} {its : List It} {ls : List Tm} (h : MindF w0 g W m b L known sent its ls) (hS : St w0 g W' L') (hG : Grow L L' o) (hY : Stay W W') (hF : Fresh g W W') : MindF w0 g W' m b L' known sent its ls := by
  obtain ⟨e, rfl⟩ := hG.pre
  exact h.grow hS hY hF.2
theorem NewM.fix {w0 V W' : World} {g : Nat} {L : List Tm} {known sent : List (Option Tm)} {r : Ending} (hS : St w0 g V L) (h : NewM V g L known sent r W') :
    ∃ m b its ls, r = .returned (.pointer (some ⟨m, 0, none⟩)) ∧ MindF w0 g W' m b L known sent its ls ∧ Mind (haveL known sent) ls ∧ St w0 g W' L ∧ Below V.heap.size V W' := by
  obtain ⟨m, b, its, ls, rfl, ⟨⟨A, c, h1⟩, h2, h3, h4⟩, hM⟩ := h
  have hsz := hS.below.size
  refine ⟨m, b, its, ls, rfl, ⟨⟨⟨A, c, hS.below.trans (h1.below.mono hsz), h1.blk, Nat.le_trans hsz h1.ge, Nat.le_trans hsz h1.bge, OwnR.low h1.own hsz, h1.map, h1.few, h1.wf⟩, h2, h3, h4⟩, ?_⟩, hM, hS.keep h1.below, h1.below⟩
  obtain ⟨Ar, rfl, rfl, H, _⟩ := hS
  obtain ⟨D, ⟨es, cl, hbm, _⟩, _⟩ := H.map
  have := (Array.getElem?_eq_some_iff.1 hbm).1
  have hg := h1.bge
  exact ⟨_, _, _, (h1.below.block _ H.lt).trans H.blk, by omega⟩
theorem MindF.full {w0 W : World} {g m b : Nat} {L : List Tm} {known sent : List (Option Tm)} {its : List It} {ls : List Tm} (h : MindF w0 g W m b L known sent its ls) : ls.take its.length = ls := List.take_of_length_le (by rw [h.mi.nm.len]; exact Nat.le_refl _)
set_option maxRecDepth 100000 in
set_option maxHeartbeats 4000000 in
theorem makes_none {V W w0 : World} {g m b : Nat} {A : Option Addr} {c : Nat} {its : List It} {L : List Tm} {n ba : Nat} (hM : MindW V W g m b A c its) (hS : St w0 g W L) (x : Int) (hx : get L x = none) :
    Calls Tryz.prog 75 #[.pointer (some ⟨m, 0, none⟩), .int .i64 x, .int .i64 n, .map (some ba)] W fun r w' => r = .returned (.bool false) ∧ Below W.heap.size W w' := by
  have cV := Lib.hid (hS.view_none x hx)
  obtain ⟨c0, -, -⟩ := hM.c0
  clear hM hS hx
  go_enter Tryz.func75, Tryz.ntmps75
  go_upto_region 2 with (first
    | (go_at_call 23; refine cV.out.mono ?_; rintro r w2 ⟨rfl, hb2⟩
       obtain ⟨z, b3, _⟩ := nd_box2 w2 0 0 0 [] none 0 0
       have hz := Lib.hid z
       have hb3H := Lib.hid (hb2.trans (b3.mono hb2.size))
       clear hb2 z b3)
    | (refine wpList_store_at 52 _ _ rfl rfl w2.heap.size zNd.toArray rfl rfl 52 zNd.toArray hz.out (by kernel_rfl) rfl zNd_one ?_))
  have hb3 : Below W.heap.size W ((w2.alloc (.cells #[.int .i64 0, .int .i64 0, .int .i64 0, .string ⟨#[]⟩, .slice none 0 0] 52)).setRow w2.heap.size zNd.toArray) := hb3H.out
  clear hb3H hz
  generalize ((w2.alloc (.cells #[.int .i64 0, .int .i64 0, .int .i64 0, .string ⟨#[]⟩, .slice none 0 0] 52)).setRow w2.heap.size zNd.toArray) = w3 at *
  have hb3h := Lib.hid hb3
  clear hb3
  go_wp2_with fail
  go_ret
  exact ⟨rfl, hb3h.out⟩
set_option maxRecDepth 100000 in
set_option maxHeartbeats 4000000 in
theorem can_none {V V1 w0 : World} {g m b : Nat} {A : Option Addr} {c : Nat} {its : List It} {L ls : List Tm} {n ba : Nat} (hM : MindW V V1 g m b A c its) (hS : St w0 g V1 L) (hN : Named L its ls) (hba : V1.heap.size ≤ ba) (W : World) (hb : Below V1.heap.size V1 W) (x : Int) (hx : get L x = none) (hx64 : i64 x) (hI : IMap W ba 0 (fun _ => none)) :
    Calls Tryz.prog 33 #[.pointer (some ⟨m, 0, none⟩), .int .i64 x, .int .i64 n, .map (some ba)] W fun r W' => r = .returned (.bool false) ∧ Below V1.heap.size V1 W' := by
  have cH := mhas_any (hM.keep hb) x hx64 n
  have hh : hasM (itsT its) x n = false := by
    rw [Bool.eq_false_iff]
    intro h
    have hm := List.mem_of_mem_take (hasM_iff.1 h)
    obtain ⟨j, hj⟩ := List.getElem?_of_mem hm
    unfold itsT at hj
    rw [List.getElem?_map] at hj
    cases hi : its[j]? with
    | none => rw [hi] at hj; cases hj
    | some i =>
      rw [hi] at hj
      obtain ⟨t, _, hg⟩ := hN.at_ hi
      have e : i.t = x := Option.some.inj hj
      rw [e, hx] at hg
      cases hg
  rw [hh] at cH
  replace cH := Lib.hid cH
  have hl := hI.look1 hx64
  simp only [Option.getD_none] at hl
  obtain ⟨W1, hr1, hI1, hg1⟩ := hI.set_ (by omega) hx64 (i64_small (x := 2) (by decide) (by decide))
  have hK1 : Keeps (fun z => z = ba) W W1 := Keeps.of_grown hg1 fun q hq => (Option.some.inj hq).symm
  have hb1 : Below V1.heap.size V1 W1 := hb.trans (hK1.below (fun k hk => by have hk : k = ba := hk; omega) hb.size)
  have cM := Lib.hid (makes_none (n := n) (ba := ba) (hM.keep hb1) (hS.keep hb1) x hx)
  have hb1h := Lib.hid hb1
  clear hM hS hN hb hx hI hI1 hg1 hK1 hb1 hh
  go_enter Tryz.func33, Tryz.ntmps33
  go_wp2_with (first
    | (go_at_call 34; refine cH.out.mono ?_; rintro r w2 ⟨rfl, rfl⟩)
    | (go_at_call 75; refine cM.out.mono ?_; rintro r w3 ⟨rfl, hb3⟩; replace hb3 := Lib.hid (hb1h.out.trans (hb3.mono hb1h.out.size))))
  go_ret
  exact ⟨rfl, hb3.out⟩
set_option maxRecDepth 100000 in
set_option maxHeartbeats 4000000 in
theorem mCan_some {w0 W : World} {g m b : Nat} {L : List Tm} {known sent : List (Option Tm)} {its : List It} {ls : List Tm} (h : MindF w0 g W m b L known sent its ls) (hS : St w0 g W L) (x : Int) (t : Tm) (hg : get L x = some t) :
    Calls Tryz.prog 13 #[.pointer (some ⟨m, 0, none⟩), .int .i64 x] W fun r w' => ∃ q : Bool, r = .returned (.bool q) ∧ (q = true ↔ der ls t) ∧ Below W.heap.size W w' := by
  have hmm := @run_makeMap Tryz.prog
  have hfull := h.full
  obtain ⟨⟨⟨A, c, hM⟩, hN, hnd, hwhy⟩, -⟩ := h
  obtain ⟨c0, c1, c2⟩ := hM.c0
  have hb1 := below_new W (.map #[] 0)
  have htz : tsz t ≤ 131072 := Nat.le_trans (tsz_le t) (hS.good.size t (get_mem hg))
  have cC := can_all hM hS hN (Nat.le_refl _) (Nat.le_refl W.heap.size) t (W.alloc (.map #[] 0)) x (fun _ => False) (fun _ => none) 0 hb1 hg (AskOk.nil_ _ _ _) (fun _ h => h.elim) (IMap.made W) (by omega)
  rw [hfull] at cC
  have cC := Lib.hid (Calls.mono cC fun (r : Ending) (W' : World) ⟨q, f', nb', h1, h2, _, _, _, h6⟩ => (show ∃ q : Bool, r = Ending.returned (.bool q) ∧ (q = true ↔ der ls t) ∧ Below W.heap.size W W' from ⟨q, h1, h2, hb1.trans (h6.below (fun k hk => by have hk : k = W.heap.size := hk; omega) hb1.size)⟩))
  clear hM hS hN hnd hwhy hb1 htz hg hfull
  go_enter Tryz.func13, Tryz.ntmps13
  go_wp2_with (go_at_call 33; (with_reducible refine cC.out.mono ?_); rintro r w3 ⟨q, rfl, hq, hb3⟩; replace hb3 := Lib.hid hb3; replace hq := Lib.hid hq)
  go_ret
  exact ⟨q, rfl, hq.out, hb3.out⟩
theorem mCan_true {w0 W : World} {g m b : Nat} {L : List Tm} {known sent : List (Option Tm)} {its : List It} {ls : List Tm} (h : MindF w0 g W m b L known sent its ls) (hS : St w0 g W L) (x : Int) (t : Tm) (hg : get L x = some t) (hd : der ls t) :
    Calls Tryz.prog 13 #[.pointer (some ⟨m, 0, none⟩), .int .i64 x] W fun r w' => r = .returned (.bool true) ∧ Below W.heap.size W w' :=
  (mCan_some h hS x t hg).mono fun r w' ⟨q, h1, h2, h3⟩ => ⟨by rw [h1, h2.2 hd], h3⟩
theorem mCan_false {w0 W : World} {g m b : Nat} {L : List Tm} {known sent : List (Option Tm)} {its : List It} {ls : List Tm} (h : MindF w0 g W m b L known sent its ls) (hS : St w0 g W L) (x : Int) (t : Tm) (hg : get L x = some t) (hd : ¬ der ls t) :
    Calls Tryz.prog 13 #[.pointer (some ⟨m, 0, none⟩), .int .i64 x] W fun r w' => r = .returned (.bool false) ∧ Below W.heap.size W w' :=
  (mCan_some h hS x t hg).mono fun r w' ⟨q, h1, h2, h3⟩ => ⟨by rw [h1]; cases q with | false => rfl | true => exact absurd (h2.1 rfl) hd, h3⟩
set_option maxRecDepth 100000 in
set_option maxHeartbeats 4000000 in
theorem mCan_none {w0 W : World} {g m b : Nat} {L : List Tm} {known sent : List (Option Tm)} {its : List It} {ls : List Tm} (h : MindF w0 g W m b L known sent its ls) (hS : St w0 g W L) (x : Int) (hg : get L x = none) (hx : i64 x) :
    Calls Tryz.prog 13 #[.pointer (some ⟨m, 0, none⟩), .int .i64 x] W fun r w' => r = .returned (.bool false) ∧ Below W.heap.size W w' := by
  have hmm := @run_makeMap Tryz.prog
  obtain ⟨⟨⟨A, c, hM⟩, hN, hnd, hwhy⟩, -⟩ := h
  obtain ⟨c0, c1, c2⟩ := hM.c0
  have hb1 := below_new W (.map #[] 0)
  have cC := Lib.hid (can_none (n := its.length) hM hS hN (Nat.le_refl W.heap.size) (W.alloc (.map #[] 0)) hb1 x hg hx (IMap.made W))
  clear hM hS hN hnd hwhy hb1 hg hx
  go_enter Tryz.func13, Tryz.ntmps13
  go_wp2_with (go_at_call 33; (with_reducible refine cC.out.mono ?_); rintro r w3 ⟨rfl, hb3⟩; replace hb3 := Lib.hid hb3)
  go_ret
  exact ⟨rfl, hb3.out⟩
/-- Can it be made? (None can't.) -/
def canO (ls : List Tm) (o : Option Tm) : Prop := ∃ t, o = some t ∧ der ls t
theorem mCan_any {w0 W : World} {g m b : Nat} {L : List Tm} {known sent : List (Option Tm)} {its : List It} {ls : List Tm} (h : MindF w0 g W m b L known sent its ls) (hS : St w0 g W L) (x : Int) (o : Option Tm) (hg : get L x = o) (hx : i64 x) :
    Calls Tryz.prog 13 #[.pointer (some ⟨m, 0, none⟩), .int .i64 x] W fun r w' => ∃ q : Bool, r = .returned (.bool q) ∧ (q = true ↔ canO ls o) ∧ Below W.heap.size W w' := by
  subst hg
  cases hg : get L x with
  | none => exact (mCan_none h hS x hg hx).mono fun r w' ⟨h1, h2⟩ => ⟨false, h1, ⟨fun h => (by cases h), fun ⟨t, h, _⟩ => (by cases h)⟩, h2⟩
  | some t => exact (mCan_some h hS x t hg).mono fun r w' ⟨q, h1, h2, h3⟩ => ⟨q, h1, h2.trans ⟨fun h => ⟨t, rfl, h⟩, fun ⟨u, h, hd⟩ => (by obtain rfl := Option.some.inj h; exact hd)⟩, h3⟩
theorem mCan_nil (x : Int) (W : World) : Calls Tryz.prog 13 #[.pointer none, .int .i64 x] W fun r w' => r = .returned (.bool false) ∧ W = w' := by
  go_enter Tryz.func13, Tryz.ntmps13
  go_wp2
  go_ret
  exact ⟨rfl, rfl⟩
set_option maxRecDepth 100000 in
set_option maxHeartbeats 4000000 in
theorem mHas_some {w0 W : World} {g m b : Nat} {L : List Tm} {known sent : List (Option Tm)} {its : List It} {ls : List Tm} (h : MindF w0 g W m b L known sent its ls) (hL : L.Nodup) (hl : L.length ≤ 100) (x : Int) (t : Tm) (hg : get L x = some t) :
    Calls Tryz.prog 14 #[.pointer (some ⟨m, 0, none⟩), .int .i64 x] W fun r w' => ∃ q : Bool, r = .returned (.bool q) ∧ (q = true ↔ t ∈ ls) ∧ W = w' := by
  have hfull := h.full
  obtain ⟨⟨⟨A, c, hM⟩, hN, hnd, hwhy⟩, -⟩ := h
  obtain ⟨c0, c1, c2⟩ := hM.c0
  have cH := Lib.hid (mhas_any hM x (i64_get hg hl) its.length)
  have hh := hN.has hL hg its.length
  rw [hfull] at hh
  generalize hasM (itsT its) x its.length = q at cH hh
  replace hh := Lib.hid hh
  clear hM hN hnd hwhy hg hfull
  go_enter Tryz.func14, Tryz.ntmps14
  go_wp2_with (go_at_call 34; refine cH.out.mono ?_; rintro r w2 ⟨rfl, rfl⟩)
  go_ret
  exact ⟨q, rfl, hh.out, rfl⟩
theorem mHas_nil (x : Int) (W : World) : Calls Tryz.prog 14 #[.pointer none, .int .i64 x] W fun r w' => r = .returned (.bool false) ∧ W = w' := by
  go_enter Tryz.func14, Tryz.ntmps14
  go_wp2
  go_ret
  exact ⟨rfl, rfl⟩
theorem mLen_any {w0 W : World} {g m b : Nat} {L : List Tm} {known sent : List (Option Tm)} {its : List It} {ls : List Tm} (h : MindF w0 g W m b L known sent its ls) :
    Calls Tryz.prog 21 #[.pointer (some ⟨m, 0, none⟩)] W fun r w' => r = .returned (.int .i64 ls.length) ∧ W = w' := by
  obtain ⟨A, c, c1, _⟩ := h.mi.len
  clear h
  go_enter Tryz.func21, Tryz.ntmps21
  go_wp2
  go_ret
  exact ⟨rfl, rfl⟩
theorem mLen_nil (W : World) : Calls Tryz.prog 21 #[.pointer none] W fun r w' => r = .returned (.int .i64 0) ∧ W = w' := by
  go_enter Tryz.func21, Tryz.ntmps21
  go_wp2
  go_ret
  exact ⟨rfl, rfl⟩
end

section
open Go.RowKit Go.Maps

def n0T : Tm := .mk 2 0 0 [] []
def n1T : Tm := .mk 2 1 0 [] []
def gL : List UInt8 := [103]
theorem n0T_ok : n0T.ok ∧ n0T.kind = 2 ∧ nonceT 0 0 = some n0T := by
  have h : nonceT 0 0 = some n0T := by
    unfold nonceT
    rw [if_pos ⟨by unfold numOk; omega, by unfold numOk; omega⟩]
    simp [mkO, alls, own, lens, n0T]
  exact ⟨(nonceT_kind h).1, rfl, h⟩
theorem n1T_ok : n1T.ok ∧ n1T.kind = 2 ∧ nonceT 1 0 = some n1T := by
  have h : nonceT 1 0 = some n1T := by
    unfold nonceT
    rw [if_pos ⟨by unfold numOk; omega, by unfold numOk; omega⟩]
    simp [mkO, alls, own, lens, n1T]
  exact ⟨(nonceT_kind h).1, rfl, h⟩
theorem base_eq33 : baseT gL = some (shT gL []) := shT_eq (g := gL) (by decide) (by decide) (xs := []) (by simp) (by simp)
theorem exp1_eq33 : expT (some (shT gL [])) (some n1T) = some (shT gL [n1T]) := by
  have h := shT_eq (g := gL) (by decide) (by decide) (xs := [n1T]) (by simpa using ⟨n1T_ok.1, n1T_ok.2.1⟩) (by simp)
  have e : exps (baseT gL) ([n1T].map some) = expT (baseT gL) (some n1T) := rfl
  rw [e, base_eq33] at h
  exact h
theorem exp2_eq33 {x : Tm} (hx : x.ok ∧ x.kind = 2) : expT (some (shT gL [n1T])) (some x) = some (shT gL [n1T, x]) := by
  have h := shT_eq (g := gL) (by decide) (by decide) (xs := [n1T, x]) (by simpa using ⟨⟨n1T_ok.1, n1T_ok.2.1⟩, hx⟩) (by simp)
  have e : exps (baseT gL) ([n1T, x].map some) = expT (expT (baseT gL) (some n1T)) (some x) := rfl
  rw [e, base_eq33, exp1_eq33] at h
  exact h
theorem sh_n1 : shT gL [n1T] = .mk 5 0 0 gL [n1T] := rfl
theorem sh_n10 : shT gL [n1T, n0T] = .mk 5 0 0 gL [n0T, n1T] := by simp [shT, insAll, ins, nle, n0T, n1T, Tm.a, Tm.b]
theorem sh_n11 : shT gL [n1T, n1T] = .mk 5 0 0 gL [n1T, n1T] := by simp [shT, insAll, ins, nle, n1T, Tm.a, Tm.b]
theorem n01 : n0T ≠ n1T := by unfold n0T n1T; intro h; injection h with _ h _; omega
theorem nder_n1 : ¬ nder [shT gL [n1T]] n1T := by
  rw [sh_n1]
  rintro (h | h)
  · rw [List.mem_singleton] at h
    unfold n1T at h
    injection h with h
    omega
  · exact absurd h.2 (by decide)
theorem der33a : der [shT gL [n1T]] (shT gL [n1T, n0T]) := by
  rw [der_share (by rw [sh_n10]; rfl)]
  refine .inr (.inr ⟨shT gL [n1T], by simp, rfl, by rw [sh_n10]; rfl, ?_⟩)
  have e1 : (shT gL [n1T]).args = [n1T] := rfl
  have e2 : (shT gL [n1T, n0T]).args = [n0T, n1T] := by rw [sh_n10]; rfl
  rw [e1, e2]
  refine ⟨fun x => by simp only [cnt_cons, cnt_nil]; omega, fun x hx => ?_⟩
  simp only [cnt_cons, cnt_nil] at hx
  by_cases h : n0T = x
  · subst h; exact .inr ⟨rfl, rfl⟩
  · rw [if_neg h] at hx; omega
theorem der33b : ¬ der [shT gL [n1T]] (shT gL [n1T, n1T]) := by
  rw [der_share (by rw [sh_n11]; rfl)]
  have e2 : (shT gL [n1T, n1T]).args = [n1T, n1T] := by rw [sh_n11]; rfl
  rw [e2]
  rintro (h | h | ⟨y, hy, _, _, h⟩)
  · rw [List.mem_singleton, sh_n11, sh_n1] at h
    injection h with _ _ _ _ h
    injection h with _ h
    cases h
  · exact nder_n1 (h.2 n1T (by simp [cnt_cons, cnt_nil]))
  · rw [List.mem_singleton] at hy
    subst hy
    have e1 : (shT gL [n1T]).args = [n1T] := rfl
    rw [e1] at h
    exact nder_n1 (h.2 n1T (by simp [cnt_cons, cnt_nil]))
theorem der33c : ¬ der [shT gL [n1T]] n1T := by
  rw [der_nonce rfl]
  exact nder_n1
theorem mind33 {ls : List Tm} (h : Mind (haveL [] [some (shT gL [n1T])]) ls) : ls = [shT gL [n1T]] := by
  have hH : haveL [] [some (shT gL [n1T])] = [shT gL [n1T]] := rfl
  rw [hH] at h
  have hd : ∀ t, Hd [shT gL [n1T]] t → t = shT gL [n1T] := fun t ht => by
    induction ht with
    | base h => exact List.mem_singleton.1 h
    | part _ hk _ ih => rw [ih, sh_n1] at hk; exact absurd hk (by decide)
    | opn S _ hk _ _ _ ih _ => rw [ih, sh_n1] at hk; exact absurd hk (by decide)
  have hin := h.all _ (List.mem_singleton.2 rfl)
  match ls, h, hin with
  | [x], h, hin => rw [hd x (h.had x (by simp))]
  | x :: y :: r, h, hin =>
    have hx := hd x (h.had x (by simp))
    have hy := hd y (h.had y (by simp))
    have := h.once
    rw [hx, hy] at this
    simp at this
set_option maxRecDepth 100000 in
set_option maxHeartbeats 4000000 in
theorem awake33 (w : World) : Calls Tryz.prog 8 #[] w fun r w' => r = .returned (.bool true) ∧ Below w.heap.size w w' := by
  have cN := Lib.hid (tnew_any w)
  have b0 := Lib.hid base_eq33
  have b1 := Lib.hid exp1_eq33
  have b2 := Lib.hid (exp2_eq33 ⟨n0T_ok.1, n0T_ok.2.1⟩)
  have b3 := Lib.hid (exp2_eq33 ⟨n1T_ok.1, n1T_ok.2.1⟩)
  have m0 := Lib.hid n0T_ok.2.2
  have m1 := Lib.hid n1T_ok.2.2
  have hd := Lib.hid (And.intro der33a (And.intro der33b der33c))
  have hmi := Lib.hid (show ∀ ls, Mind (haveL [] [some (shT gL [n1T])]) ls → ls = [shT gL [n1T]] from fun ls h => mind33 h)
  go_enter Tryz.func8, Tryz.ntmps8
  go_upto_region 4 with (first
    | (go_at_call 9; refine cN.out.mono ?_; rintro r w1 ⟨A, rfl, hN, hA, hb⟩
       have hS0 := St.start hN hA hb
       have c1 := hS0.nonce (by decide) 1 0
       rw [m1.out] at c1
       have c1h := Lib.hid c1
       clear hN hA hb cN hS0 c1
       generalize A.g = g at *)
    | (go_at_call 26; (with_reducible refine c1h.out.mono ?_); rintro r w2 ⟨L1, x, rfl, hS1, hG, hM, -, -⟩
       have hl1 := hG.len.2
       have c2 := hS1.base (by simp at hl1; omega) gL (by decide)
       rw [b0.out] at c2
       have c2h := Lib.hid c2
       have hK1 := Lib.hid hM
       have hl1 := Lib.hid (show L1.length ≤ 1 by simpa using hl1)
       clear hS1 hG hM c2)
    | (go_at_call 28; refine c2h.out.mono ?_; rintro r w3 ⟨L2, z, rfl, hS2, hG, hM, -, -⟩
       have hl2 : L2.length ≤ 2 := by have := hG.len.2; have := hl1.out; omega
       have c3 := hS2.exp (by omega) z x
       have hx2 : Nm L2 x (some n1T) := by obtain ⟨e, rfl⟩ := hG.pre; exact hK1.out.app
       rw [hM.1, hx2.1, b1.out] at c3
       have c3h := Lib.hid c3
       have hK2 := Lib.hid hx2
       have hl2 := Lib.hid hl2
       clear hS2 hG hM c3 hx2 hK1 hl1)
    | (go_at_call 27; (with_reducible refine c3h.out.mono ?_); rintro r w4 ⟨L3, s, rfl, hS3, hG, hM, -, -⟩
       have hl3 := Lib.hid (show L3.length ≤ 3 by have := hG.len.2; have := hl2.out; omega)
       have hK3 := Lib.hid (show Nm L3 x (some n1T) by obtain ⟨e, rfl⟩ := hG.pre; exact hK2.out.app)
       have hS5 := hS3.keep (below_new w4 (.cells #[.int .i64 s] 33))
       have cM := Lib.hid (mnew_any hS5 (kA := none) (sA := some ⟨w4.heap.size, 0, none⟩) (kn := 0) (kc := 0) (sn := 1) (sc := 1) (lk := []) (lq := [s]) (known := []) (sent := [some (shT gL [n1T])]) Rws.nil_ (ints_new w4 [s] _) (NmL.nil_ _) ((NmL.nil_ _).snoc hM) (by decide) (by decide))
       have hs3 := Lib.hid hM
       have hS5 := Lib.hid hS5
       clear hS3 hG hM hl2 hK2))
  clear c1h c2h c3h m1 b0 b1
  go_upto_region 5 with (go_at_call 12; (with_reducible refine cM.out.mono ?_); rintro r w5 hNew
                         obtain ⟨m, b, its, ls, rfl, hF, hMi, hS, hb5⟩ := hNew.fix hS5.out
                         obtain rfl := hmi.out _ hMi
                         have hF := Lib.hid hF
                         have cH := Lib.hid (Calls.mono (mHas_some hF.out hS.good.once hS.few s _ hs3.out.1) fun (r : Ending) (W' : World) ⟨q, h1, h2, h3⟩ => (show r = Ending.returned (.bool true) ∧ w5 = W' from ⟨by rw [h1, h2.2 (by simp)], h3⟩))
                         have cN0 := hS.nonce (by have := hl3.out; omega) 0 0
                         rw [m0.out] at cN0
                         have cN0 := Lib.hid cN0
                         have cLn := Lib.hid (fun W (h : Below w5.heap.size w5 W) => mLen_any (hF.out.keep h))
                         clear hNew hMi hb5 hS)
  clear cM hS5 m0 hmi cLn
  go_wp2_with (first
    | (go_at_call 14; (with_reducible refine cH.out.mono ?_); rintro r w6 ⟨rfl, rfl⟩)
    | (go_at_call 26; (with_reducible refine cN0.out.mono ?_); rintro r w7 ⟨L4, y, rfl, hS4, hG, hM, hY, -, hFr⟩
       have hF4 := Lib.hid (hF.out.grow_ hS4 hG hY hFr)
       have hl4 : L4.length ≤ 4 := by have := hG.len.2; have := hl3.out; omega
       obtain ⟨e, rfl⟩ := hG.pre
       have hs4 := Lib.hid (hs3.out.app (r := e))
       have hx4 := Lib.hid (hK3.out.app (r := e))
       have cE := hS4.exp (by omega) s y
       rw [hM.1, (hs3.out.app (r := e)).1, b2.out] at cE
       have cE := Lib.hid cE
       have hl4 := Lib.hid hl4
       generalize L3 ++ e = L4 at *
       clear hS4 hG hM hY hFr cN0 hF hl3 hs3 hK3)
    | (go_at_call 27; (with_reducible refine cE.out.mono ?_); rintro r w8 ⟨L5, u1, rfl, hS5, hG, hM, hY, -, hFr⟩
       have hF5 := Lib.hid (hF4.out.grow_ hS5 hG hY hFr)
       have hl5 := Lib.hid (show L5.length ≤ 5 by have := hG.len.2; have := hl4.out; omega)
       obtain ⟨e, rfl⟩ := hG.pre
       have hs5 := Lib.hid (hs4.out.app (r := e))
       have hx5 := Lib.hid (hx4.out.app (r := e))
       have cC1 := Lib.hid (mCan_true hF5.out hS5 u1 _ hM.1 hd.out.1)
       have hS5 := Lib.hid hS5
       generalize L4 ++ e = L5 at *
       clear hG hM hY hFr cE hF4 hl4 hs4 hx4)
    | (go_at_call 13; (with_reducible refine cC1.out.mono ?_); rintro r w9 ⟨rfl, hb9⟩
       have hF6 := Lib.hid (hF5.out.keep hb9)
       have hS6 := hS5.out.keep hb9
       have cE2 := hS6.exp (by have := hl5.out; omega) s x
       rw [hs5.out.1, hx5.out.1, b3.out] at cE2
       have cE2 := Lib.hid cE2
       clear cC1 hb9 hF5 hS5 hS6)
    | (go_at_call 27; (with_reducible refine cE2.out.mono ?_); rintro r w10 ⟨L7, u2, rfl, hS7, hG, hM, hY, -, hFr⟩
       have hF7 := Lib.hid (hF6.out.grow_ hS7 hG hY hFr)
       obtain ⟨e, rfl⟩ := hG.pre
       have hx7 := Lib.hid (hx5.out.app (r := e))
       have cC2 := Lib.hid (mCan_false hF7.out hS7 u2 _ hM.1 hd.out.2.1)
       have hS7 := Lib.hid hS7
       generalize L5 ++ e = L7 at *
       clear hG hM hY hFr cE2 hF6 hl5 hs5 hx5)
    | (go_at_call 13; (with_reducible refine cC2.out.mono ?_); rintro r w11 ⟨rfl, hb11⟩
       have hF8 := Lib.hid (hF7.out.keep hb11)
       have hS8 := hS7.out.keep hb11
       have cC3 := Lib.hid (mCan_false hF8.out hS8 x _ hx7.out.1 hd.out.2.2)
       have hS8 := Lib.hid hS8
       clear cC2 hb11 hF7 hS7)
    | (go_at_call 13; (with_reducible refine cC3.out.mono ?_); rintro r w12 ⟨rfl, hb12⟩
       have cL := Lib.hid (mLen_any (hF8.out.keep hb12))
       have hBz := Lib.hid (hS8.out.below.trans (hb12.mono hS8.out.below.size))
       clear cC3 hb12 hF8 hS8)
    | (go_at_call 21; (with_reducible refine cL.out.mono ?_); rintro r w13 ⟨rfl, rfl⟩))
  go_ret
  exact ⟨rfl, hBz.out⟩
end

section
open Go.RowKit Go.Maps

def few33B (ms : List Mk) (c0 c1 c2 : Int) : Bool := fewB ms 20 && decide (0 ≤ c0) && decide (c0 ≤ c1) && decide (c1 ≤ c2) && decide (c2 ≤ (ms.length : Int))
theorem few33_iff {ms : List Mk} {c0 c1 c2 : Int} : few33B ms c0 c1 c2 = true ↔ ms.length ≤ 20 ∧ (∀ x ∈ ms, x.s.length ≤ 200) ∧ ∃ a b c : Nat, c0 = a ∧ c1 = b ∧ c2 = c ∧ a ≤ b ∧ b ≤ c ∧ c ≤ ms.length := by
  unfold few33B
  simp only [Bool.and_eq_true, decide_eq_true_eq, fewB_iff]
  constructor
  · rintro ⟨⟨⟨⟨⟨h1, h2⟩, h3⟩, h4⟩, h5⟩, h6⟩
    exact ⟨by omega, h2, c0.toNat, c1.toNat, c2.toNat, by omega, by omega, by omega, by omega, by omega, by omega⟩
  · rintro ⟨h1, h2, a, b, c, rfl, rfl, rfl, h3, h4, h5⟩
    exact ⟨⟨⟨⟨⟨by omega, h2⟩, by omega⟩, by omega⟩, by omega⟩, by omega⟩
def cutC (c0 c1 c2 : Int) : Array Value := #[.int .i64 c0, .int .i64 c1, .int .i64 c2]
set_option maxRecDepth 100000 in
set_option maxHeartbeats 4000000 in
theorem few33_any (ms : List Mk) (A : Option Addr) (n c : Nat) (c0 c1 c2 : Int) (w : World) (hn : n ≤ 9223372036854775807) (H : Rws w 5 A n (ms.map Mk.row)) :
    Calls Tryz.prog 7 #[.slice A n c, .agg (cutC c0 c1 c2)] w fun r w' => r = .returned (.bool (few33B ms c0 c1 c2)) ∧ Below w.heap.size w w' := by
  have hl : ms.length = n := by have := H.1; simpa using this
  have hbx := below_new w (.cells (cutC c0 c1 c2) 23)
  have hrx := heap_new w (.cells (cutC c0 c1 c2) 23)
  obtain ⟨W1, hW1⟩ : ∃ W1, W1 = w.alloc (.cells (cutC c0 c1 c2) 23) := ⟨_, rfl⟩
  rw [← hW1] at hbx hrx
  have d0 : W1.cell? ⟨w.heap.size, 0, none⟩ = some (.int .i64 c0) := cell_of_row W1 w.heap.size 0 _ _ _ hrx
  have d1 : W1.cell? ⟨w.heap.size, 1, none⟩ = some (.int .i64 c1) := cell_of_row W1 w.heap.size 1 _ _ _ hrx
  have d2 : W1.cell? ⟨w.heap.size, 2, none⟩ = some (.int .i64 c2) := cell_of_row W1 w.heap.size 2 _ _ _ hrx
  have cF := few_any ms A n c 20 W1 hn (H.keep hbx)
  unfold few33B
  rw [hl]
  generalize fewB ms 20 = q at *
  replace cF := Lib.hid cF
  replace hbx := Lib.hid hbx
  clear H hrx hl
  cases q with
  | false =>
    go_enter Tryz.func7, Tryz.ntmps7
    go_upto_region 1 with fail
    rw [← hW1]
    clear hW1
    go_wp2_with (go_at_call 25; (with_reducible refine cF.out.mono ?_); rintro r w2 ⟨rfl, rfl⟩)
    go_ret
    exact ⟨rfl, hbx.out⟩
  | true =>
    by_cases h0 : 0 ≤ c0
    · by_cases h1 : c0 ≤ c1
      · by_cases h2 : c1 ≤ c2
        · by_cases h3 : c2 ≤ (n : Int)
          · have hres := Lib.hid (show (true && decide (0 ≤ c0) && decide (c0 ≤ c1) && decide (c1 ≤ c2) && decide (c2 ≤ (n : Int))) = true by simp [h0, h1, h2, h3])
            go_enter Tryz.func7, Tryz.ntmps7
            go_upto_region 1 with fail
            rw [← hW1]
            clear hW1
            go_wp2_with (go_at_call 25; (with_reducible refine cF.out.mono ?_); rintro r w2 ⟨rfl, rfl⟩)
            go_ret
            exact ⟨ret_bool (by first | exact hres.out.symm | (simp_all; done) | (simp_all; omega)), hbx.out⟩
          · have hres := Lib.hid (show (true && decide (0 ≤ c0) && decide (c0 ≤ c1) && decide (c1 ≤ c2) && decide (c2 ≤ (n : Int))) = false by simp [h3])
            go_enter Tryz.func7, Tryz.ntmps7
            go_upto_region 1 with fail
            rw [← hW1]
            clear hW1
            go_wp2_with (go_at_call 25; (with_reducible refine cF.out.mono ?_); rintro r w2 ⟨rfl, rfl⟩)
            go_ret
            exact ⟨ret_bool (by first | exact hres.out.symm | (simp_all; done) | (simp_all; omega)), hbx.out⟩
        · have hres := Lib.hid (show (true && decide (0 ≤ c0) && decide (c0 ≤ c1) && decide (c1 ≤ c2) && decide (c2 ≤ (n : Int))) = false by simp [h2])
          go_enter Tryz.func7, Tryz.ntmps7
          go_upto_region 1 with fail
          rw [← hW1]
          clear hW1
          go_wp2_with (go_at_call 25; (with_reducible refine cF.out.mono ?_); rintro r w2 ⟨rfl, rfl⟩)
          go_ret
          exact ⟨ret_bool (by first | exact hres.out.symm | (simp_all; done) | (simp_all; omega)), hbx.out⟩
      · have hres := Lib.hid (show (true && decide (0 ≤ c0) && decide (c0 ≤ c1) && decide (c1 ≤ c2) && decide (c2 ≤ (n : Int))) = false by simp [h1])
        go_enter Tryz.func7, Tryz.ntmps7
        go_upto_region 1 with fail
        rw [← hW1]
        clear hW1
        go_wp2_with (go_at_call 25; (with_reducible refine cF.out.mono ?_); rintro r w2 ⟨rfl, rfl⟩)
        go_ret
        exact ⟨ret_bool (by first | exact hres.out.symm | (simp_all; done) | (simp_all; omega)), hbx.out⟩
    · have hres := Lib.hid (show (true && decide (0 ≤ c0) && decide (c0 ≤ c1) && decide (c1 ≤ c2) && decide (c2 ≤ (n : Int))) = false by simp [h0])
      go_enter Tryz.func7, Tryz.ntmps7
      go_upto_region 1 with fail
      rw [← hW1]
      clear hW1
      go_wp2_with (go_at_call 25; (with_reducible refine cF.out.mono ?_); rintro r w2 ⟨rfl, rfl⟩)
      go_ret
      exact ⟨ret_bool (by first | exact hres.out.symm | (simp_all; done) | (simp_all; omega)), hbx.out⟩
/-- Where what lies behind the first K begins. -/
def behind3 (A : Option Addr) (K c : Nat) : Option Addr := if c = K then A else A.map (·.add (K * 1))
theorem slLH_run3 (t : TypeId) (ht : Tryz.prog.underlying t = some (.slice (Tryz.prog.elem t))) (hz : ∀ w, (sizeOf (Tryz.prog.elem t)).run Tryz.prog w = .ok 1 w) (A : Option Addr) (n c lo hi : Nat) (h1 : lo ≤ hi) (h2 : hi ≤ c) (W : World) :
    (Instr.sliceAt t (.slice A n c) (some (.int .i64 (lo : Int))) (some (.int .i64 (hi : Int))) none).run Tryz.prog W = .ok (.slice (behind3 A lo c) (hi - lo) (c - lo)) W := by
  rw [run_sliceAt_slice (h := ht), run_slice_lh (ht := ht) (h0 := by omega) (h1 := by omega) (h2 := by omega), hz]
  simp only [Result.andThen, sliced, Int.toNat_natCast, behind3]
theorem u_ids3 : Tryz.prog.underlying 28 = some (.slice (Tryz.prog.elem 28)) := by kernel_rfl
theorem z_ids3 : ∀ w, (sizeOf (Tryz.prog.elem 28)).run Tryz.prog w = .ok 1 w := by intro w; kernel_rfl
theorem u_strs3 : Tryz.prog.underlying 29 = some (.slice (Tryz.prog.elem 29)) := by kernel_rfl
theorem z_strs3 : ∀ w, (sizeOf (Tryz.prog.elem 29)).run Tryz.prog w = .ok 1 w := by intro w; kernel_rfl
/-- The elements from lo on, up to hi. -/
def subL {α : Type} (lo hi : Nat) (l : List α) : List α := (l.drop lo).take (hi - lo)
theorem subL_map {α β : Type} (f : α → β) (lo hi : Nat) (l : List α) : (subL lo hi l).map f = subL lo hi (l.map f) := by unfold subL; rw [List.map_take, List.map_drop]
theorem Rws.sub3 {w : World} {A : Option Addr} {n c lo hi : Nat} {zs : List (List Value)} (h : Rws w 1 A n zs) (hc : n ≤ c) (h2 : hi ≤ n) : Rws w 1 (behind3 A lo c) (hi - lo) (subL lo hi zs) := by
  refine ⟨by unfold subL; rw [List.length_take, List.length_drop, h.1]; omega, fun z hz => h.2.1 z (List.mem_of_mem_drop (List.mem_of_mem_take hz)), fun hp => ?_⟩
  obtain ⟨b, off, e, hlt, hcell⟩ := h.2.2 (by omega)
  refine ⟨b, off + lo, ?_, hlt, fun j z hz => ?_⟩
  · unfold behind3
    rw [if_neg (by omega), e]
    simp [Addr.add]
  · unfold subL at hz
    rw [List.getElem?_take] at hz
    split at hz
    · rw [List.getElem?_drop] at hz
      have := hcell (lo + j) z hz
      rwa [show off + (lo + j) * 1 = off + lo + j * 1 by omega] at this
    · cases hz
theorem NmL.sub3 {L : List Tm} {l : List Int} {os : List (Option Tm)} (h : NmL L l os) (lo hi : Nat) : NmL L (subL lo hi l) (subL lo hi os) := by
  refine ⟨by unfold subL; rw [List.length_take, List.length_take, List.length_drop, List.length_drop, h.len], fun i x o h1 h2 => ?_⟩
  unfold subL at h1 h2
  rw [List.getElem?_take] at h1 h2
  split at h1
  · rename_i hi'
    rw [if_pos hi'] at h2
    rw [List.getElem?_drop] at h1 h2
    exact h.nm _ x o h1 h2
  · cases h1
theorem IdsT.sub3 {w : World} {A : Option Addr} {n c lo hi : Nat} {l : List Int} (h : IdsT w A n l) (hc : n ≤ c) (h2 : hi ≤ n) : IdsT w (behind3 A lo c) (hi - lo) (subL lo hi l) :=
  ⟨by have := Rws.sub3 (lo := lo) (hi := hi) h.ints hc h2; unfold Ints; rw [subL_map]; exact this, fun hp => by
    obtain ⟨b, off, cur, fr, e, hb⟩ := h.typ (by omega)
    refine ⟨b, off + lo, cur, fr, ?_, hb⟩
    unfold behind3
    rw [if_neg (by omega), e]
    simp [Addr.add]⟩
theorem OwnR.cap3 {w : World} {base k : Nat} {E : TypeId} {A : Option Addr} {n c : Nat} {zs : List (List Value)} (h : OwnR w base k E (.slice A n c) zs) : n ≤ c := by
  rcases h.1.2 with ⟨e, _⟩ | ⟨g, cap, cur, e, _, _, hc, _⟩
  · injection e with _ e1 e2
    rw [e1, e2]
    exact Nat.le_refl _
  · injection e with _ e1 e2
    rw [e2, e1]
    exact hc
/-- A part of the numbers that were made. -/
theorem Md.sub3 {w0 : World} {g q B : Nat} {W : World} {AI AT : Option Addr} {n cI cT : Nat} {l : List Int} {L : List Tm} {os : List (Option Tm)} (h : Md w0 g q B W AI AT n cI cT l L os) {lo hi : Nat} (h2 : hi ≤ n) :
    IdsT W (behind3 AI lo cI) (hi - lo) (subL lo hi l) ∧ n ≤ cI := by
  have hc := OwnR.cap3 h.ids
  obtain ⟨A, c, e, hId⟩ := IdsT.of_own h.ids
  rw [h.ll] at e hId
  injection e with e1 _ _
  subst e1
  exact ⟨hId.sub3 hc h2, hc⟩
theorem Md.subT3 {w0 : World} {g q B : Nat} {W : World} {AI AT : Option Addr} {n cI cT : Nat} {l : List Int} {L : List Tm} {os : List (Option Tm)} (h : Md w0 g q B W AI AT n cI cT l L os) {lo hi : Nat} (h2 : hi ≤ n) :
    Strs W (behind3 AT lo cT) (hi - lo) (subL lo hi (os.map fun o => bs (encO o))) ∧ n ≤ cT := by
  have hc := OwnR.cap3 h.txt
  refine ⟨?_, hc⟩
  have := Rws.sub3 (lo := lo) (hi := hi) h.strs hc h2
  unfold Strs
  rw [subL_map]
  exact this
end
end Go.Proofs.YtphnakdgpilcmaaGreatDoor
