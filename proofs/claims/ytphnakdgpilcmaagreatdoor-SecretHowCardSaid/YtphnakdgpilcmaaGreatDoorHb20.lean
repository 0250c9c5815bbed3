/- A mind: what a term is made of (split). (printed by wip/gen_scw.py) -/
import Derived.Test.YtphnakdgpilcmaaGreatDoorHb19
namespace Go.Proofs.YtphnakdgpilcmaaGreatDoor
open Go.RowKit Go.Maps

/-- Whence an item's term comes. -/
def Expl (known sent : List (Option Tm)) (ls : List Tm) (i : Nat) (it : It) (t : Tm) : Prop :=
  (it.w = 0 ∧ ∃ p : Nat, it.p = p ∧ known[p]? = some (some t)) ∨ (it.w = 1 ∧ ∃ p : Nat, it.p = p ∧ sent[p]? = some (some t)) ∨
  (it.w = 2 ∧ ∃ (j p : Nat) (u : Tm), it.o = j ∧ j < i ∧ ls[j]? = some u ∧ u.kind = 10 ∧ it.p = p ∧ u.args[p]? = some t) ∨
  (it.w = 3 ∧ ∃ (j : Nat) (u k : Tm), it.o = j ∧ j < i ∧ ls[j]? = some u ∧ u.kind = 9 ∧ u.args = [k, t] ∧ der (ls.take i) k)
def Why (known sent : List (Option Tm)) (its : List It) (ls : List Tm) : Prop := ∀ (i : Nat) (it : It) (t : Tm), its[i]? = some it → ls[i]? = some t → Expl known sent ls i it t
theorem Expl.app {known sent : List (Option Tm)} {ls : List Tm} {i : Nat} {it : It} {t : Tm} (h : Expl known sent ls i it t) (hi : i ≤ ls.length) (e : List Tm) : Expl known sent (ls ++ e) i it t := by
  rcases h with h | h | ⟨h1, j, p, u, h2, h3, h4, h5⟩ | ⟨h1, j, u, k, h2, h3, h4, h5, h6, h7⟩
  · exact .inl h
  · exact .inr (.inl h)
  · exact .inr (.inr (.inl ⟨h1, j, p, u, h2, h3, by rw [List.getElem?_append_left (by omega)]; exact h4, h5⟩))
  · exact .inr (.inr (.inr ⟨h1, j, u, k, h2, h3, by rw [List.getElem?_append_left (by omega)]; exact h4, h5, h6, by rw [List.take_append_of_le_length hi]; exact h7⟩))
theorem Why.snoc {known sent : List (Option Tm)} {its : List It} {ls : List Tm} (h : Why known sent its ls) (hl : its.length = ls.length) {x : It} {t : Tm} (hx : Expl known sent ls ls.length x t) : Why known sent (its ++ [x]) (ls ++ [t]) := fun i it u h1 h2 => by
  by_cases hi : i < its.length
  · rw [List.getElem?_append_left hi] at h1
    rw [List.getElem?_append_left (by omega)] at h2
    exact (h i it u h1 h2).app (by omega) [t]
  · have hlt := (List.getElem?_eq_some_iff.1 h1).1
    have e : i = its.length := by simp at hlt; omega
    subst e
    simp at h1
    rw [hl] at h2
    simp at h2
    subst h1
    subst h2
    rw [hl]
    exact hx.app (Nat.le_refl _) [t]
theorem Why.had {known sent : List (Option Tm)} {its : List It} {ls : List Tm} (h : Why known sent its ls) (hl : its.length = ls.length) {H0 : List Tm} (hk : ∀ t, some t ∈ known → t ∈ H0) (hs : ∀ t, some t ∈ sent → t ∈ H0) : ∀ (i : Nat) (t : Tm), ls[i]? = some t → Hd H0 t := by
  intro i
  induction i using Nat.strongRecOn with
  | ind i ih =>
    intro t ht
    have hlt := (List.getElem?_eq_some_iff.1 ht).1
    obtain ⟨it, hit⟩ : ∃ it, its[i]? = some it := ⟨its[i]'(by omega), List.getElem?_eq_getElem _⟩
    rcases h i it t hit ht with ⟨_, p, _, hp⟩ | ⟨_, p, _, hp⟩ | ⟨_, j, p, u, _, hj, hu, hk10, _, hp⟩ | ⟨_, j, u, k, _, hj, hu, hk9, ha, hd⟩
    · exact .base (hk t (List.mem_of_getElem? hp))
    · exact .base (hs t (List.mem_of_getElem? hp))
    · exact .part (ih j hj u hu) hk10 (List.mem_of_getElem? hp)
    · refine .opn (ls.take i) (ih j hj u hu) hk9 ha (fun x hx => ?_) hd
      obtain ⟨q, hq⟩ := List.getElem?_of_mem hx
      have hqi : q < i := by
        have := (List.getElem?_eq_some_iff.1 hq).1
        rw [List.length_take] at this; omega
      rw [List.getElem?_take_of_lt hqi] at hq
      exact ih q hqi x hq
/-- A mind in memory, with what its items are. -/
structure MindI (V W : World) (g m b : Nat) (L : List Tm) (known sent : List (Option Tm)) (its : List It) (ls : List Tm) : Prop where
  mem : ∃ A c, MindW V W g m b A c its
  nm : Named L its ls
  once : ls.Nodup
  why : Why known sent its ls
theorem MindI.keep {V W W' : World} {g m b : Nat} {L : List Tm} {known sent : List (Option Tm)} {its : List It} {ls : List Tm} (h : MindI V W g m b L known sent its ls) (hb : Below W.heap.size W W') : MindI V W' g m b L known sent its ls := by
  obtain ⟨⟨A, c, h1⟩, h2, h3, h4⟩ := h
  exact ⟨⟨A, c, h1.keep hb⟩, h2, h3, h4⟩
theorem MindI.below {V W : World} {g m b : Nat} {L : List Tm} {known sent : List (Option Tm)} {its : List It} {ls : List Tm} (h : MindI V W g m b L known sent its ls) : Below V.heap.size V W := by
  obtain ⟨⟨A, c, h1⟩, _, _, _⟩ := h
  exact h1.below
open Classical in
theorem addL_pre (ls : List Tm) (o : Option Tm) : ∃ e, addL ls o = ls ++ e := by
  cases o with
  | none => exact ⟨[], by simp [addL]⟩
  | some t =>
    by_cases h : t ∈ ls
    · exact ⟨[], by rw [addL, if_pos h]; simp⟩
    · exact ⟨[t], by rw [addL, if_neg h]⟩
open Classical in
theorem addL_mem (ls : List Tm) (t : Tm) : t ∈ addL ls (some t) := by
  by_cases h : t ∈ ls
  · rw [addL, if_pos h]; exact h
  · rw [addL, if_neg h]; simp
/-- What a step leaves: nothing, or more. -/
def AddsR (V W : World) (g m b : Nat) (L : List Tm) (known sent : List (Option Tm)) (ls : List Tm) (Q : List Tm → Prop) (r : Ending) (W' : World) : Prop :=
  r = .returned (.tuple #[]) ∧ StayM W W' ∧ W.heap.size ≤ W'.heap.size ∧ ∃ its' ls', MindI V W' g m b L known sent its' ls' ∧ (∃ e, ls' = ls ++ e) ∧ Q ls'
open Classical in
theorem MindI.add {V W w0 : World} {g m b : Nat} {L : List Tm} {known sent : List (Option Tm)} {its : List It} {ls : List Tm} (h : MindI V W g m b L known sent its ls) (hS : St w0 g V L) (x : It) (hx : i64 x.t) (he : ∀ t, get L x.t = some t → Expl known sent ls ls.length x t) :
    Calls Tryz.prog 31 #[.pointer (some ⟨m, 0, none⟩), .agg x.row.toArray] W (AddsR V W g m b L known sent ls fun l => l = addL ls (get L x.t)) := by
  obtain ⟨⟨A, c, h1⟩, h2, h3, h4⟩ := h
  refine (madd_any h1 hS h2 h3 x hx).mono ?_
  rintro r W' ⟨rfl, a1, a2, A', c', a3⟩
  have hN := h2.add hS.good.once h3 x
  refine ⟨rfl, a1, a2, _, _, ⟨⟨A', c', a3⟩, hN.1, hN.2, ?_⟩, addL_pre ls _, rfl⟩
  unfold addI
  cases hg : get L x.t with
  | none => rw [if_neg (by simp)]; exact h4
  | some t =>
    have hm := h2.mem hS.good.once hg
    by_cases ht : t ∈ ls
    · rw [if_neg (fun q => q.1 (hm.2 ht)), show addL ls (some t) = ls from if_pos ht]; exact h4
    · rw [if_pos ⟨fun q => ht (hm.1 q), by simp⟩, show addL ls (some t) = ls ++ [t] from if_neg ht]
      exact h4.snoc h2.len (he t hg)
open Classical in
theorem addL_ne {ls : List Tm} {t : Tm} (h : t ∉ ls) : addL ls (some t) ≠ ls := by
  rw [addL, if_neg h]
  intro e
  have := congrArg List.length e
  simp at this
theorem OwnR.stayM {w W : World} {base k : Nat} {E : TypeId} {v : Value} {zs : List (List Value)} (h : OwnR w base k E v zs) (hs : StayM w W) (h1 : E ≠ 72) (h2 : E ≠ 75) : OwnR W base k E v zs := by
  refine ⟨⟨h.1.1, ?_⟩, h.2⟩
  rcases h.1.2 with hn | ⟨g, cap, cur, e, hg, hc, r⟩
  · exact .inl hn
  · exact .inr ⟨g, cap, cur, e, hg, hs g cur E _ hc h1 h2, r⟩
theorem two_of {l : List Tm} (h : l.length = 2) : ∃ a b, l = [a, b] := by
  match l, h with
  | [a, b], _ => exact ⟨a, b, rfl⟩
theorem own_atM {w w' : World} {B : Nat} {Av : Option Addr} {n cv : Nat} {l : List Int} (h : OwnD w B (.slice Av n cv) l) (hs : StayM w w') {j : Nat} {x : Int} (hx : l[j]? = some x) : ∃ b off, Av = some ⟨b, off, none⟩ ∧ w'.cell? ⟨b, off + j, none⟩ = some (.int .i64 x) := by
  have h' : OwnD w' B (.slice Av n cv) l := OwnR.stayM h hs (by decide) (by decide)
  obtain ⟨A, c, e, hI⟩ := h'.ints
  injection e with e1 _ _
  subst e1
  obtain ⟨b, off, y, rfl, _, hy, hc⟩ := hI.at_ (List.getElem?_eq_some_iff.1 hx).1
  rw [hx] at hy
  obtain rfl := Option.some.inj hy
  exact ⟨b, off, rfl, hc⟩
def dsSw0 : List (Option Nat) := [some 11, some 12, some 13, some 14, some 15, some 16, some 17, some 18, some 19, some 20, some 21, some 22, some 23, some 10, some 24, some 25, some 4, none, some 5]
def tbSw0 : List (List Nat) := [[], [0], [1], [2], [], [4], [5], [6], [], [7, 8], [9], [10], [3, 11], [12], [13], [13], [], [14, 16], [15]]
def vsSw0 (g : Nat) (m : Nat) (b1 : Nat) (o1 : Nat) (j : Nat) (ni : Nat) (c : Nat) (xt : Int) : List (Option Value) := [some (.pointer (some ⟨m, 0, none⟩)), some (.pointer (some ⟨m, 0, none⟩)), some (.pointer (some ⟨m, 0, none⟩)), some (.pointer (some ⟨g, 0, none⟩)), some (.pointer (some ⟨m, 0, none⟩)), some (.pointer (some ⟨m, 0, none⟩)), some (.pointer (some ⟨m, 1, none⟩)), some (.slice (some ⟨b1, o1, none⟩) ni c), some (.int .i64 j), some (.pointer (some ⟨b1, o1 + j * 4, none⟩)), some (.pointer (some ⟨b1, o1 + j * 4, none⟩)), some (.int .i64 xt), none, none, none, some (.bool true), none, none, some (.bool true)]
def dsSw10 : List (Option Nat) := [some 59, some 60, some 61, some 62, some 63, some 64, some 65, some 66, some 67, some 68, some 69, some 70, some 71, some 72, some 73, some 74]
def tbSw10 : List (List Nat) := [[], [0], [1], [2], [2], [2, 4], [2, 5], [2, 6], [2], [2, 8], [2, 9], [2, 10], [2, 11], [2], [2, 3, 7, 12, 13], [2, 14]]
def vsSw10 (m : Nat) (pp : Nat) (bb : Nat) (off : Nat) (cv : Nat) (b1 : Nat) (o1 : Nat) (n : Nat) (c : Nat) (zk : Int) (qd : Bool) : List (Option Value) := [some (.bool false), some (.bool true), some (.bool true), some (.pointer (some ⟨m, 0, none⟩)), some (.pointer (some ⟨pp, 4, none⟩)), some (.slice (some ⟨bb, off, none⟩) 2 cv), some (.pointer (some ⟨bb, off, none⟩)), some (.int .i64 zk), some (.pointer (some ⟨m, 0, none⟩)), some (.pointer (some ⟨m, 0, none⟩)), some (.pointer (some ⟨m, 1, none⟩)), some (.slice (some ⟨b1, o1, none⟩) n c), some (.int .i64 n), none, some (.bool qd), some (.bool qd)]
set_option maxRecDepth 100000 in
set_option maxHeartbeats 4000000 in
theorem msplit_any {V wr w0 : World} {g m b : Nat} {its : List It} {Ls ls : List Tm} {known sent : List (Option Tm)} (h : MindI V wr g m b Ls known sent its ls) (hS : St w0 g V Ls) (i : Nat) (t : Tm) (hi : ls[i]? = some t) :
    Calls Tryz.prog 32 #[.pointer (some ⟨m, 0, none⟩), .int .i64 i] wr (AddsR V wr g m b Ls known sent ls fun l => l = ls → SplitD ls t) := by
  have hI := Lib.hid h
  obtain ⟨⟨A, c, hM⟩, hN, hnd, hwhy⟩ := h
  have hSr := hS.keep hM.below
  obtain ⟨it, hit, hgt⟩ := hN.back hi
  obtain ⟨b1, o1, c0, c1, c3⟩ := hM.at_ hit
  obtain ⟨rfl, c3⟩ := c3
  have hcx := Lib.hid (fun W' (h : Below wr.heap.size wr W') => (⟨(h.cell (p := ⟨m, 0, none⟩) (lt_of_cell c0)).trans c0, (h.cell (p := ⟨m, 1, none⟩) (lt_of_cell c1)).trans c1, (h.cell (p := ⟨b1, o1 + i * 4, none⟩) (lt_of_cell c3)).trans c3⟩ : W'.cell? ⟨m, 0, none⟩ = some (.pointer (some ⟨g, 0, none⟩)) ∧ W'.cell? ⟨m, 1, none⟩ = some (.slice (some ⟨b1, o1, none⟩) its.length c) ∧ W'.cell? ⟨b1, o1 + i * 4, none⟩ = some (.int .i64 it.t)))
  have hilt := (List.getElem?_eq_some_iff.1 hit).1
  have hlti : (i : Int) < (its.length : Int) := by omega
  have hn100 : its.length ≤ 100 := hM.few
  have hok := Lib.hid (hS.good.ok t (get_mem hgt))
  have hih := Lib.hid hi
  have hgh := Lib.hid hgt
  have hMh := Lib.hid hM
  have hSh := Lib.hid hS
  have hNh := Lib.hid (And.intro hN (And.intro hnd hwhy))
  have cV := fun W' (h : Below wr.heap.size wr W') => (hSr.keep h).vown3 it.t t hgt
  obtain ⟨k, a, b', s, args⟩ := t
  simp only [Tm.kind, Tm.a, Tm.b, Tm.s, Tm.args] at cV
  replace cV := Lib.hid cV
  clear hM hS hSr hN hnd hwhy c0 c1 c3 hit hgt hi hilt
  go_enter Tryz.func32, Tryz.ntmps32
  go_upto_region 0 with fail
  refine region_iw tbSw0 dsSw0 (vsSw0 g m b1 o1 i (its.length) c (it.t)) (fun L T W => Below wr.heap.size wr W ∧ ∃ (Av : Option Addr) (cv : Nat) (xs : List Nat) (pp : Nat), (L 12 = true → T.getD 23 undef = .tuple #[.agg (ndC k a b' s (.slice Av args.length cv)).toArray, .bool true] ∧ OwnR W wr.heap.size 1 33 (.slice Av args.length cv) (xs.map idv) ∧ xs.map (fun i => Ls[i]?) = args.map some) ∧ (L 13 = true → T.getD 10 undef = .tuple #[.agg (ndC k a b' s (.slice Av args.length cv)).toArray, .bool true]) ∧ (L 14 = true → T.getD 24 undef = .agg (ndC k a b' s (.slice Av args.length cv)).toArray) ∧ (L 16 = true → T.getD 4 undef = .pointer (some ⟨pp, 0, none⟩) ∧ wr.heap.size ≤ pp ∧ (L 17 = false → W.heap[pp]? = some (.cells zNd.toArray 52)) ∧ (L 17 = true → W.heap[pp]? = some (.cells (ndC k a b' s (.slice Av args.length cv)).toArray 52)))) rfl (by decide) (by kernel_rfl) ?hlt ?hstep ?hdone ?hstart
  case hstart => exact ⟨drewN_below 1, none, 0, [], 0, fun h => absurd h (inv_not (n := 19) (i := 12) (by decide)), fun h => absurd h (inv_not (n := 19) (i := 13) (by decide)), fun h => absurd h (inv_not (n := 19) (i := 14) (by decide)), fun h => absurd h (inv_not (n := 19) (i := 16) (by decide))⟩
  case hlt =>
    intro ix o ho
    have hi := (Array.getElem?_eq_some_iff.1 ho).1
    match ix, hi with
    | 0, _ => obtain rfl := Option.some.inj ho; decide
    | 1, _ => obtain rfl := Option.some.inj ho; decide
    | 2, _ => obtain rfl := Option.some.inj ho; decide
    | 3, _ => obtain rfl := Option.some.inj ho; decide
    | 4, _ => obtain rfl := Option.some.inj ho; decide
    | 5, _ => obtain rfl := Option.some.inj ho; decide
    | 6, _ => obtain rfl := Option.some.inj ho; decide
    | 7, _ => obtain rfl := Option.some.inj ho; decide
    | 8, _ => obtain rfl := Option.some.inj ho; decide
    | 9, _ => obtain rfl := Option.some.inj ho; decide
    | 10, _ => obtain rfl := Option.some.inj ho; decide
    | 11, _ => obtain rfl := Option.some.inj ho; decide
    | 12, _ => obtain rfl := Option.some.inj ho; decide
    | 13, _ => obtain rfl := Option.some.inj ho; decide
    | 14, _ => obtain rfl := Option.some.inj ho; decide
    | 15, _ => obtain rfl := Option.some.inj ho; decide
    | 16, _ => obtain rfl := Option.some.inj ho; decide
    | 17, _ => obtain rfl := Option.some.inj ho; decide
    | 18, _ => obtain rfl := Option.some.inj ho; decide
  case hstep =>
    intro T1 hE L T W ix o hF hW hc ho hLi hd K hK
    have hN : T1.size = 83 := by rw [hE]; rfl
    have f0 : T.getD 0 undef = .pointer (some ⟨m, 0, none⟩) := (hF.old 0 (by decide)).trans (by rw [hE]; rfl)
    have f1 : T.getD 1 undef = .int .i64 i := (hF.old 1 (by decide)).trans (by rw [hE]; rfl)
    clear hE
    replace hF := Lib.hid hF
    replace hW := Lib.hid hW
    replace hK := Lib.hid hK
    have hi := (List.getElem?_eq_some_iff.1 ho).1
    match ix, hi with
    | 0, _ =>
      obtain rfl := Option.some.inj ho
      clear hd ho hi hc hLi
      exact st_val (v := .pointer (some ⟨m, 0, none⟩)) (w' := W) (want_none rfl) (by unfold execOp; dsimp only [Act.eval]; simp only [f0]; go_simp) (hK.out _ _ (hF.out.put (k := 0) (s := 11) rfl (by decide) hN (by decide) (fun u_v hu => Option.some.inj (Option.some.inj (show some (some (.pointer (some ⟨m, 0, none⟩))) = some (some u_v) from hu))) (by dsimp only; rw [gd_ne (show 11 ≠ 23 by decide), gd_ne (show 11 ≠ 10 by decide), gd_ne (show 11 ≠ 24 by decide), gd_ne (show 11 ≠ 4 by decide)]; exact hW.out)))
    | 1, _ =>
      obtain rfl := Option.some.inj ho
      have l0 : L 0 = true := dep_of hd (n := 0) (by decide)
      have e11 : T.getD 11 undef = .pointer (some ⟨m, 0, none⟩) := hF.out.val 0 11 _ l0 rfl rfl
      clear hd ho hi hc hLi
      exact st_val (v := .pointer (some ⟨m, 0, none⟩)) (w' := W) (want_none rfl) (by unfold execOp; dsimp only [Act.eval]; simp only [e11]; go_simp) (hK.out _ _ (hF.out.put (k := 1) (s := 12) rfl (by decide) hN (by decide) (fun u_v hu => Option.some.inj (Option.some.inj (show some (some (.pointer (some ⟨m, 0, none⟩))) = some (some u_v) from hu))) (by dsimp only; rw [gd_ne (show 12 ≠ 23 by decide), gd_ne (show 12 ≠ 10 by decide), gd_ne (show 12 ≠ 24 by decide), gd_ne (show 12 ≠ 4 by decide)]; exact hW.out)))
    | 2, _ =>
      obtain rfl := Option.some.inj ho
      have l1 : L 1 = true := dep_of hd (n := 1) (by decide)
      have e12 : T.getD 12 undef = .pointer (some ⟨m, 0, none⟩) := hF.out.val 1 12 _ l1 rfl rfl
      clear hd ho hi hc hLi
      exact st_val (v := .pointer (some ⟨m, 0, none⟩)) (w' := W) (want_none rfl) (by unfold execOp; dsimp only [Act.eval]; simp only [e12]; go_simp) (hK.out _ _ (hF.out.put (k := 2) (s := 13) rfl (by decide) hN (by decide) (fun u_v hu => Option.some.inj (Option.some.inj (show some (some (.pointer (some ⟨m, 0, none⟩))) = some (some u_v) from hu))) (by dsimp only; rw [gd_ne (show 13 ≠ 23 by decide), gd_ne (show 13 ≠ 10 by decide), gd_ne (show 13 ≠ 24 by decide), gd_ne (show 13 ≠ 4 by decide)]; exact hW.out)))
    | 3, _ =>
      obtain rfl := Option.some.inj ho
      have l2 : L 2 = true := dep_of hd (n := 2) (by decide)
      have e13 : T.getD 13 undef = .pointer (some ⟨m, 0, none⟩) := hF.out.val 2 13 _ l2 rfl rfl
      have hb := hW.out.1
      have hcc := (hcx.out W hb).1
      clear hd ho hi hc hLi
      exact st_val (v := .pointer (some ⟨g, 0, none⟩)) (w' := W) (want_none rfl) (by unfold execOp; dsimp only [Act.eval]; simp only [e13]; go_simp) (hK.out _ _ (hF.out.put (k := 3) (s := 14) rfl (by decide) hN (by decide) (fun u_v hu => Option.some.inj (Option.some.inj (show some (some (.pointer (some ⟨g, 0, none⟩))) = some (some u_v) from hu))) (by dsimp only; rw [gd_ne (show 14 ≠ 23 by decide), gd_ne (show 14 ≠ 10 by decide), gd_ne (show 14 ≠ 24 by decide), gd_ne (show 14 ≠ 4 by decide)]; exact hW.out)))
    | 4, _ =>
      obtain rfl := Option.some.inj ho
      clear hd ho hi hc hLi
      exact st_val (v := .pointer (some ⟨m, 0, none⟩)) (w' := W) (want_none rfl) (by unfold execOp; dsimp only [Act.eval]; simp only [f0]; go_simp) (hK.out _ _ (hF.out.put (k := 4) (s := 15) rfl (by decide) hN (by decide) (fun u_v hu => Option.some.inj (Option.some.inj (show some (some (.pointer (some ⟨m, 0, none⟩))) = some (some u_v) from hu))) (by dsimp only; rw [gd_ne (show 15 ≠ 23 by decide), gd_ne (show 15 ≠ 10 by decide), gd_ne (show 15 ≠ 24 by decide), gd_ne (show 15 ≠ 4 by decide)]; exact hW.out)))
    | 5, _ =>
      obtain rfl := Option.some.inj ho
      have l4 : L 4 = true := dep_of hd (n := 4) (by decide)
      have e15 : T.getD 15 undef = .pointer (some ⟨m, 0, none⟩) := hF.out.val 4 15 _ l4 rfl rfl
      clear hd ho hi hc hLi
      exact st_val (v := .pointer (some ⟨m, 0, none⟩)) (w' := W) (want_none rfl) (by unfold execOp; dsimp only [Act.eval]; simp only [e15]; go_simp) (hK.out _ _ (hF.out.put (k := 5) (s := 16) rfl (by decide) hN (by decide) (fun u_v hu => Option.some.inj (Option.some.inj (show some (some (.pointer (some ⟨m, 0, none⟩))) = some (some u_v) from hu))) (by dsimp only; rw [gd_ne (show 16 ≠ 23 by decide), gd_ne (show 16 ≠ 10 by decide), gd_ne (show 16 ≠ 24 by decide), gd_ne (show 16 ≠ 4 by decide)]; exact hW.out)))
    | 6, _ =>
      obtain rfl := Option.some.inj ho
      have l5 : L 5 = true := dep_of hd (n := 5) (by decide)
      have e16 : T.getD 16 undef = .pointer (some ⟨m, 0, none⟩) := hF.out.val 5 16 _ l5 rfl rfl
      clear hd ho hi hc hLi
      exact st_val (v := .pointer (some ⟨m, 1, none⟩)) (w' := W) (want_none rfl) (by unfold execOp; dsimp only [Act.eval]; simp only [e16]; go_simp) (hK.out _ _ (hF.out.put (k := 6) (s := 17) rfl (by decide) hN (by decide) (fun u_v hu => Option.some.inj (Option.some.inj (show some (some (.pointer (some ⟨m, 1, none⟩))) = some (some u_v) from hu))) (by dsimp only; rw [gd_ne (show 17 ≠ 23 by decide), gd_ne (show 17 ≠ 10 by decide), gd_ne (show 17 ≠ 24 by decide), gd_ne (show 17 ≠ 4 by decide)]; exact hW.out)))
    | 7, _ =>
      obtain rfl := Option.some.inj ho
      have l6 : L 6 = true := dep_of hd (n := 6) (by decide)
      have e17 : T.getD 17 undef = .pointer (some ⟨m, 1, none⟩) := hF.out.val 6 17 _ l6 rfl rfl
      have hb := hW.out.1
      have hcc := (hcx.out W hb).2.1
      clear hd ho hi hc hLi
      exact st_val (v := .slice (some ⟨b1, o1, none⟩) (its.length) c) (w' := W) (want_none rfl) (by unfold execOp; dsimp only [Act.eval]; simp only [e17]; go_simp) (hK.out _ _ (hF.out.put (k := 7) (s := 18) rfl (by decide) hN (by decide) (fun u_v hu => Option.some.inj (Option.some.inj (show some (some (.slice (some ⟨b1, o1, none⟩) (its.length) c)) = some (some u_v) from hu))) (by dsimp only; rw [gd_ne (show 18 ≠ 23 by decide), gd_ne (show 18 ≠ 10 by decide), gd_ne (show 18 ≠ 24 by decide), gd_ne (show 18 ≠ 4 by decide)]; exact hW.out)))
    | 8, _ =>
      obtain rfl := Option.some.inj ho
      clear hd ho hi hc hLi
      exact st_val (v := .int .i64 i) (w' := W) (want_none rfl) (by unfold execOp; dsimp only [Act.eval]; simp only [f1]; go_simp) (hK.out _ _ (hF.out.put (k := 8) (s := 19) rfl (by decide) hN (by decide) (fun u_v hu => Option.some.inj (Option.some.inj (show some (some (.int .i64 i)) = some (some u_v) from hu))) (by dsimp only; rw [gd_ne (show 19 ≠ 23 by decide), gd_ne (show 19 ≠ 10 by decide), gd_ne (show 19 ≠ 24 by decide), gd_ne (show 19 ≠ 4 by decide)]; exact hW.out)))
    | 9, _ =>
      obtain rfl := Option.some.inj ho
      have l7 : L 7 = true := dep_of hd (n := 7) (by decide)
      have e18 : T.getD 18 undef = .slice (some ⟨b1, o1, none⟩) (its.length) c := hF.out.val 7 18 _ l7 rfl rfl
      have l8 : L 8 = true := dep_of hd (n := 8) (by decide)
      have e19 : T.getD 19 undef = .int .i64 i := hF.out.val 8 19 _ l8 rfl rfl
      clear hd ho hi hc hLi
      exact st_val (v := .pointer (some ⟨b1, o1 + i * 4, none⟩)) (w' := W) (want_none rfl) (by unfold execOp; dsimp only [Act.eval]; simp only [e18, e19]; go_simp) (hK.out _ _ (hF.out.put (k := 9) (s := 20) rfl (by decide) hN (by decide) (fun u_v hu => Option.some.inj (Option.some.inj (show some (some (.pointer (some ⟨b1, o1 + i * 4, none⟩))) = some (some u_v) from hu))) (by dsimp only; rw [gd_ne (show 20 ≠ 23 by decide), gd_ne (show 20 ≠ 10 by decide), gd_ne (show 20 ≠ 24 by decide), gd_ne (show 20 ≠ 4 by decide)]; exact hW.out)))
    | 10, _ =>
      obtain rfl := Option.some.inj ho
      have l9 : L 9 = true := dep_of hd (n := 9) (by decide)
      have e20 : T.getD 20 undef = .pointer (some ⟨b1, o1 + i * 4, none⟩) := hF.out.val 9 20 _ l9 rfl rfl
      clear hd ho hi hc hLi
      exact st_val (v := .pointer (some ⟨b1, o1 + i * 4, none⟩)) (w' := W) (want_none rfl) (by unfold execOp; dsimp only [Act.eval]; simp only [e20]; go_simp) (hK.out _ _ (hF.out.put (k := 10) (s := 21) rfl (by decide) hN (by decide) (fun u_v hu => Option.some.inj (Option.some.inj (show some (some (.pointer (some ⟨b1, o1 + i * 4, none⟩))) = some (some u_v) from hu))) (by dsimp only; rw [gd_ne (show 21 ≠ 23 by decide), gd_ne (show 21 ≠ 10 by decide), gd_ne (show 21 ≠ 24 by decide), gd_ne (show 21 ≠ 4 by decide)]; exact hW.out)))
    | 11, _ =>
      obtain rfl := Option.some.inj ho
      have l10 : L 10 = true := dep_of hd (n := 10) (by decide)
      have e21 : T.getD 21 undef = .pointer (some ⟨b1, o1 + i * 4, none⟩) := hF.out.val 10 21 _ l10 rfl rfl
      have hb := hW.out.1
      have hcc := (hcx.out W hb).2.2
      clear hd ho hi hc hLi
      exact st_val (v := .int .i64 (it.t)) (w' := W) (want_none rfl) (by unfold execOp; dsimp only [Act.eval]; simp only [e21]; go_simp) (hK.out _ _ (hF.out.put (k := 11) (s := 22) rfl (by decide) hN (by decide) (fun u_v hu => Option.some.inj (Option.some.inj (show some (some (.int .i64 (it.t))) = some (some u_v) from hu))) (by dsimp only; rw [gd_ne (show 22 ≠ 23 by decide), gd_ne (show 22 ≠ 10 by decide), gd_ne (show 22 ≠ 24 by decide), gd_ne (show 22 ≠ 4 by decide)]; exact hW.out)))
    | 12, _ =>
      obtain rfl := Option.some.inj ho
      have l3 : L 3 = true := dep_of hd (n := 3) (by decide)
      have e14 : T.getD 14 undef = .pointer (some ⟨g, 0, none⟩) := hF.out.val 3 14 _ l3 rfl rfl
      have l11 : L 11 = true := dep_of hd (n := 11) (by decide)
      have e22 : T.getD 22 undef = .int .i64 (it.t) := hF.out.val 11 22 _ l11 rfl rfl
      have n13 : ¬ L 13 = true := fun h => by have := hc 13 12 h (by decide); rw [hLi] at this; cases this
      have n14 : ¬ L 14 = true := fun h => n13 (hc 14 13 h (by decide))
      have n17 : ¬ L 17 = true := fun h => n14 (hc 17 14 h (by decide))
      have hb := hW.out.1
      obtain ⟨Av, cv, xs, pp, hI⟩ := hW.out.2
      replace hI := Lib.hid hI
      have cc := Lib.hid (cV.out W hb)
      clear hd ho hi hc
      refine st_call (want_none rfl) (by unfold execOp; go_simp) cc.out ?_
      rintro r w3 ⟨Av2, cv2, xs2, rfl, hO2, hx2, hb4⟩
      exact ⟨_, rfl, hK.out _ _ (hF.out.put (k := 12) (s := 23) rfl (by decide) hN (by decide) (fun u hu => by cases hu) ⟨hb.trans (hb4.mono hb.size), Av2, cv2, xs2, pp, fun _ => ⟨gd_eq (by rw [hF.out.size, hN]; decide), OwnR.low hO2 hb.size, hx2⟩, fun h => absurd h n13, fun h => absurd h n14, fun h => (by obtain ⟨q1, q2, q3, q4⟩ := hI.out.2.2.2 h; exact ⟨(gd_ne (show 23 ≠ 4 by decide)).trans q1, q2, fun h17 => (hb4.block pp (Array.getElem?_eq_some_iff.1 (q3 h17)).1).trans (q3 h17), fun h17 => absurd h17 n17⟩)⟩)⟩
    | 13, _ =>
      obtain rfl := Option.some.inj ho
      have l12 : L 12 = true := dep_of hd (n := 12) (by decide)
      have n14 : ¬ L 14 = true := fun h => by have := hc 14 13 h (by decide); rw [hLi] at this; cases this
      have n17 : ¬ L 17 = true := fun h => n14 (hc 17 14 h (by decide))
      have hb := hW.out.1
      obtain ⟨Av, cv, xs, pp, hI⟩ := hW.out.2
      replace hI := Lib.hid hI
      have e12 := (hI.out.1 l12).1
      clear hd ho hi hc
      exact st_val (v := _) (w' := W) (want_none rfl) (by unfold execOp; dsimp only [Act.eval]; simp only [e12]; go_simp) (hK.out _ _ (hF.out.put (k := 13) (s := 10) rfl (by decide) hN (by decide) (fun u hu => by cases hu) ⟨hb, Av, cv, xs, pp, fun _ => ⟨(gd_ne (show 10 ≠ 23 by decide)).trans e12, (hI.out.1 l12).2⟩, fun _ => gd_eq (by rw [hF.out.size, hN]; decide), fun h => absurd h n14, fun h => (by obtain ⟨q1, q2⟩ := hI.out.2.2.2 h; exact ⟨(gd_ne (show 10 ≠ 4 by decide)).trans q1, q2⟩)⟩))
    | 14, _ =>
      obtain rfl := Option.some.inj ho
      have l13 : L 13 = true := dep_of hd (n := 13) (by decide)
      have n17 : ¬ L 17 = true := fun h => by have := hc 17 14 h (by decide); rw [hLi] at this; cases this
      have hb := hW.out.1
      obtain ⟨Av, cv, xs, pp, hI⟩ := hW.out.2
      replace hI := Lib.hid hI
      have e13 := hI.out.2.1 l13
      clear hd ho hi hc
      exact st_val (v := _) (w' := W) (want_none rfl) (by unfold execOp; dsimp only [Act.eval]; simp only [e13]; go_simp) (hK.out _ _ (hF.out.put (k := 14) (s := 24) rfl (by decide) hN (by decide) (fun u hu => by cases hu) ⟨hb, Av, cv, xs, pp, fun h => (by obtain ⟨q1, q2⟩ := hI.out.1 h; exact ⟨(gd_ne (show 24 ≠ 23 by decide)).trans q1, q2⟩), fun _ => (gd_ne (show 24 ≠ 10 by decide)).trans e13, fun _ => gd_eq (by rw [hF.out.size, hN]; decide), fun h => (by obtain ⟨q1, q2⟩ := hI.out.2.2.2 h; exact ⟨(gd_ne (show 24 ≠ 4 by decide)).trans q1, q2⟩)⟩))
    | 15, _ =>
      obtain rfl := Option.some.inj ho
      have l13 : L 13 = true := dep_of hd (n := 13) (by decide)
      have hb := hW.out.1
      obtain ⟨Av, cv, xs, pp, hI⟩ := hW.out.2
      replace hI := Lib.hid hI
      have e13 := hI.out.2.1 l13
      clear hd ho hi hc hLi
      exact st_val (v := .bool true) (w' := W) (want_none rfl) (by unfold execOp; dsimp only [Act.eval]; simp only [e13]; go_simp) (hK.out _ _ (hF.out.put (k := 15) (s := 25) rfl (by decide) hN (by decide) (fun u_v hu => Option.some.inj (Option.some.inj (show some (some (.bool true)) = some (some u_v) from hu))) (by dsimp only; rw [gd_ne (show 25 ≠ 23 by decide), gd_ne (show 25 ≠ 10 by decide), gd_ne (show 25 ≠ 24 by decide), gd_ne (show 25 ≠ 4 by decide)]; exact hW.out)))
    | 16, _ =>
      obtain rfl := Option.some.inj ho
      have n17 : ¬ L 17 = true := fun h => by have := hc 17 16 h (by decide); rw [hLi] at this; cases this
      have hb := hW.out.1
      obtain ⟨Av, cv, xs, pp, hI⟩ := hW.out.2
      replace hI := Lib.hid hI
      have hbn := below_new W (.cells zNd.toArray 52)
      clear hd ho hi hc
      exact st_val (v := .pointer (some ⟨W.heap.size, 0, none⟩)) (w' := W.alloc (.cells zNd.toArray 52)) (want_none rfl) (run_alloc_ 52 rfl _ (by kernel_rfl)) (hK.out _ _ (hF.out.put (k := 16) (s := 4) rfl (by decide) hN (by decide) (fun u hu => by cases hu) ⟨hb.trans (hbn.mono hb.size), Av, cv, xs, W.heap.size, fun h => (by obtain ⟨q1, q2, q3⟩ := hI.out.1 h; exact ⟨(gd_ne (show 4 ≠ 23 by decide)).trans q1, OwnR.keep q2 hbn, q3⟩), fun h => (gd_ne (show 4 ≠ 10 by decide)).trans (hI.out.2.1 h), fun h => (gd_ne (show 4 ≠ 24 by decide)).trans (hI.out.2.2.1 h), fun _ => ⟨gd_eq (by rw [hF.out.size, hN]; decide), hb.size, fun _ => heap_new W _, fun h17 => absurd h17 n17⟩⟩))
    | 17, _ =>
      obtain rfl := Option.some.inj ho
      have l16 : L 16 = true := dep_of hd (n := 16) (by decide)
      have l14 : L 14 = true := dep_of hd (n := 14) (by decide)
      have hb := hW.out.1
      obtain ⟨Av, cv, xs, pp, hI⟩ := hW.out.2
      replace hI := Lib.hid hI
      obtain ⟨q1, q2, q3, q4⟩ := hI.out.2.2.2 l16
      have e14 := hI.out.2.2.1 l14
      have q5 := q3 hLi
      have hst : Stay W (W.setRow pp (ndC k a b' s (.slice Av args.length cv)).toArray) := fun r cur t fr hc' a1 a2 a3 => (hsetRow_off (show r ≠ pp from fun e => by subst e; rw [q5] at hc'; injection hc' with hc'; injection hc' with _ hc' _; exact a2 hc'.symm) _).trans hc'
      clear hd ho hi hc
      exact st_do (w' := W.setRow pp (ndC k a b' s (.slice Av args.length cv)).toArray) (want_none rfl) (run_store_ 52 (.tmp 4) (.tmp 24) rfl pp _ (show T.getD 4 undef = _ from q1) (show T.getD 24 undef = _ from e14) _ _ q5 (by kernel_rfl) rfl nd_all) (hK.out _ _ (hF.out.pass (k := 17) rfl ⟨below_setRow_ hb q2 _, Av, cv, xs, pp, fun h => (by obtain ⟨p1, p2, p3⟩ := hI.out.1 h; exact ⟨p1, OwnR.stay p2 hst (by decide) (by decide) (by decide), p3⟩), hI.out.2.1, hI.out.2.2.1, fun _ => ⟨q1, q2, fun h => absurd h (by simp), fun _ => hsetRow _ _ _ _ _ _ q5⟩⟩))
    | 18, _ =>
      obtain rfl := Option.some.inj ho
      have l15 : L 15 = true := dep_of hd (n := 15) (by decide)
      have e25 : T.getD 25 undef = .bool true := hF.out.val 15 25 _ l15 rfl rfl
      clear hd ho hi hc hLi
      exact st_val (v := .bool true) (w' := W) (want_none rfl) (by unfold execOp; dsimp only [Act.eval]; simp only [e25]; go_simp) (hK.out _ _ (hF.out.put (k := 18) (s := 5) rfl (by decide) hN (by decide) (fun u_v hu => Option.some.inj (Option.some.inj (show some (some (.bool true)) = some (some u_v) from hu))) (by dsimp only; rw [gd_ne (show 5 ≠ 23 by decide), gd_ne (show 5 ≠ 10 by decide), gd_ne (show 5 ≠ 24 by decide), gd_ne (show 5 ≠ 4 by decide)]; exact hW.out)))
  case hdone =>
    intro L T W2 hF hW hall
    obtain ⟨hb6, Av, cv, xs, pp, hI⟩ := hW
    obtain ⟨e12, hO6, hx6⟩ := hI.1 (hall 12 (by decide))
    have e13 := hI.2.1 (hall 13 (by decide))
    have e14 := hI.2.2.1 (hall 14 (by decide))
    obtain ⟨e16, hp6, -, hr6⟩ := hI.2.2.2 (hall 16 (by decide))
    replace hr6 := hr6 (hall 17 (by decide))
    clear hI
    have hT : T = #[.pointer (some ⟨m, 0, none⟩), .int .i64 i, undef, undef, .pointer (some ⟨pp, 0, none⟩), .bool true, undef, undef, undef, undef, .tuple #[.agg (ndC k a b' s (.slice Av args.length cv)).toArray, .bool true], .pointer (some ⟨m, 0, none⟩), .pointer (some ⟨m, 0, none⟩), .pointer (some ⟨m, 0, none⟩), .pointer (some ⟨g, 0, none⟩), .pointer (some ⟨m, 0, none⟩), .pointer (some ⟨m, 0, none⟩), .pointer (some ⟨m, 1, none⟩), .slice (some ⟨b1, o1, none⟩) (its.length) c, .int .i64 i, .pointer (some ⟨b1, o1 + i * 4, none⟩), .pointer (some ⟨b1, o1 + i * 4, none⟩), .int .i64 (it.t), .tuple #[.agg (ndC k a b' s (.slice Av args.length cv)).toArray, .bool true], .agg (ndC k a b' s (.slice Av args.length cv)).toArray, .bool true, undef, undef, undef, undef, undef, undef, undef, undef, undef, undef, undef, undef, undef, undef, undef, undef, undef, undef, undef, undef, undef, undef, undef, undef, undef, undef, undef, undef, undef, undef, undef, undef, undef, undef, undef, undef, undef, undef, undef, undef, undef, undef, undef, undef, undef, undef, undef, undef, undef, undef, undef, undef, undef, undef, undef, undef, undef] := (hF.fin [(11, .pointer (some ⟨m, 0, none⟩)), (12, .pointer (some ⟨m, 0, none⟩)), (13, .pointer (some ⟨m, 0, none⟩)), (14, .pointer (some ⟨g, 0, none⟩)), (15, .pointer (some ⟨m, 0, none⟩)), (16, .pointer (some ⟨m, 0, none⟩)), (17, .pointer (some ⟨m, 1, none⟩)), (18, .slice (some ⟨b1, o1, none⟩) (its.length) c), (19, .int .i64 i), (20, .pointer (some ⟨b1, o1 + i * 4, none⟩)), (21, .pointer (some ⟨b1, o1 + i * 4, none⟩)), (22, .int .i64 (it.t)), (23, .tuple #[.agg (ndC k a b' s (.slice Av args.length cv)).toArray, .bool true]), (10, .tuple #[.agg (ndC k a b' s (.slice Av args.length cv)).toArray, .bool true]), (24, .agg (ndC k a b' s (.slice Av args.length cv)).toArray), (25, .bool true), (4, .pointer (some ⟨pp, 0, none⟩)), (5, .bool true)] [11, 12, 13, 14, 15, 16, 17, 18, 19, 20, 21, 22, 23, 10, 24, 25, 4, 5] rfl (List.forall_mem_cons.2 ⟨hF.val 0 _ _ (hall 0 (show 0 < 19 by decide)) rfl rfl, (List.forall_mem_cons.2 ⟨hF.val 1 _ _ (hall 1 (show 1 < 19 by decide)) rfl rfl, (List.forall_mem_cons.2 ⟨hF.val 2 _ _ (hall 2 (show 2 < 19 by decide)) rfl rfl, (List.forall_mem_cons.2 ⟨hF.val 3 _ _ (hall 3 (show 3 < 19 by decide)) rfl rfl, (List.forall_mem_cons.2 ⟨hF.val 4 _ _ (hall 4 (show 4 < 19 by decide)) rfl rfl, (List.forall_mem_cons.2 ⟨hF.val 5 _ _ (hall 5 (show 5 < 19 by decide)) rfl rfl, (List.forall_mem_cons.2 ⟨hF.val 6 _ _ (hall 6 (show 6 < 19 by decide)) rfl rfl, (List.forall_mem_cons.2 ⟨hF.val 7 _ _ (hall 7 (show 7 < 19 by decide)) rfl rfl, (List.forall_mem_cons.2 ⟨hF.val 8 _ _ (hall 8 (show 8 < 19 by decide)) rfl rfl, (List.forall_mem_cons.2 ⟨hF.val 9 _ _ (hall 9 (show 9 < 19 by decide)) rfl rfl, (List.forall_mem_cons.2 ⟨hF.val 10 _ _ (hall 10 (show 10 < 19 by decide)) rfl rfl, (List.forall_mem_cons.2 ⟨hF.val 11 _ _ (hall 11 (show 11 < 19 by decide)) rfl rfl, (List.forall_mem_cons.2 ⟨e12, (List.forall_mem_cons.2 ⟨e13, (List.forall_mem_cons.2 ⟨e14, (List.forall_mem_cons.2 ⟨hF.val 15 _ _ (hall 15 (show 15 < 19 by decide)) rfl rfl, (List.forall_mem_cons.2 ⟨e16, (List.forall_mem_cons.2 ⟨hF.val 18 _ _ (hall 18 (show 18 < 19 by decide)) rfl rfl, (fun _ h => absurd h List.not_mem_nil)⟩)⟩)⟩)⟩)⟩)⟩)⟩)⟩)⟩)⟩)⟩)⟩)⟩)⟩)⟩)⟩)⟩)⟩) (by decide)).trans (by kernel_rfl)
    clear hF hall
    subst hT
    obtain ⟨d0, -, -, -, d4⟩ := box_cells hr6
    have hpp : wr.heap.size ≤ pp := hp6
    have hb6h := Lib.hid hb6
    have hr6h := Lib.hid hr6
    obtain ⟨oz, z1, z2, z3, z4⟩ := zip_named hx6
    have hOD := Lib.hid (own_zip hO6 z1)
    have hz := Lib.hid (And.intro z2 z3)
    have hI2 := Lib.hid (hI.out.keep hb6)
    have hS2 := Lib.hid (StayM.of_below hb6)
    have hsz2 := Lib.hid hb6.size
    clear hb6 hr6 hO6 hx6 hp6 hpp e12 e13 e14 e16 hcx cV z1 z2 z3 z4 hlti
    by_cases hk : k = 10
    · subst hk
      have hm32 : args.length ≤ 32 := by
        have := (ok_mk.1 hok.out).1; unfold okHd at this; omega
      have h0 : Hid (∃ its' ls', MindI V W2 g m b Ls known sent its' ls' ∧ (∃ e, ls' = ls ++ e) ∧ ∀ u ∈ args.take 0, u ∈ ls') := Lib.hid ⟨its, ls, hI2.out, ⟨[], by simp⟩, by simp⟩
      go_wp2_with fail
      go_loopw [33] (fun iv wz => ∃ j : Nat, j ≤ args.length ∧ iv = .int .i64 j ∧ Hid (StayM W2 wz ∧ W2.heap.size ≤ wz.heap.size) ∧ Hid (∃ its' ls', MindI V wz g m b Ls known sent its' ls' ∧ (∃ e, ls' = ls ++ e) ∧ ∀ u ∈ args.take j, u ∈ ls')) (fun iv _ => args.length - (intOf iv).toNat)
      case atStart => exact ⟨0, Nat.zero_le _, rfl, Lib.hid ⟨StayM.refl _, Nat.le_refl _⟩, h0⟩
      case round =>
        clear h0
        obtain ⟨j, hj, rfl, hs, hrest⟩ := hrel
        by_cases hlt : j < args.length
        · obtain ⟨u, hu⟩ : ∃ u, args[j]? = some u := ⟨args[j], List.getElem?_eq_getElem hlt⟩
          obtain ⟨zi, hzi, hgz⟩ := zip_at hz.out.1 hz.out.2 hu
          obtain ⟨bb, off, rfl, hcell⟩ := own_atM hOD.out hs.out.1 hzi
          obtain ⟨its', ls', hIr, ⟨e, rfl⟩, hin⟩ := hrest.out
          have hil := (List.getElem?_eq_some_iff.1 hih.out).1
          have cA := hIr.add hSh.out ⟨zi, 2, i, j⟩ (i64_get hgz hSh.out.few) (fun t ht => .inr (.inr (.inl ⟨rfl, i, j, .mk 10 a b' s args, rfl, by simp; omega, by rw [List.getElem?_append_left hil]; exact hih.out, rfl, rfl, by rw [hgz] at ht; obtain rfl := Option.some.inj ht; exact hu⟩)))
          rw [hgz] at cA
          have cA := Lib.hid (Calls.mono cA fun (r : Ending) (W' : World) ⟨q1, q2, q3, its2, ls2, q4, ⟨e2, q5⟩, q6⟩ => (show r = Ending.returned (.tuple #[]) ∧ (StayM W2 W' ∧ W2.heap.size ≤ W'.heap.size) ∧ ∃ its' ls', MindI V W' g m b Ls known sent its' ls' ∧ (∃ e, ls' = ls ++ e) ∧ ∀ u ∈ args.take (j + 1), u ∈ ls' from
            ⟨q1, ⟨hs.out.1.trans q2, Nat.le_trans hs.out.2 q3⟩, its2, ls2, q4, ⟨e ++ e2, by rw [q5, List.append_assoc]⟩, fun v hv => by
              rw [take_succ_of hu] at hv
              rcases List.mem_append.1 hv with hv | hv
              · rw [q5]; exact List.mem_append_left _ (hin v hv)
              · rw [List.mem_singleton.1 hv, q6]; exact addL_mem _ _⟩))
          simp only [It.row] at cA
          clear hIr hin hil hrest hs hzi hgz hu
          go_wp2_with (first
            | (refine wpList_build_as 75 _ rfl rfl #[.int .i64 zi, .int .i64 2, .int .i64 i, .int .i64 j] ?_ ?_; kernel_rfl)
            | (go_at_call 31; (with_reducible refine cA.out.mono ?_); rintro r w3 ⟨rfl, hs3, hr3⟩; replace hs3 := Lib.hid hs3; replace hr3 := Lib.hid hr3))
          go_roundw
          case rel => exact ⟨j + 1, by omega, by go_num, hs3, hr3⟩
          case measure => simp [intOf]; omega
        · go_wp2_with fail
          go_end0
          obtain ⟨its', ls', hIr, he, hin⟩ := hrest.out
          rw [List.take_of_length_le (by omega)] at hin
          exact ⟨rfl, hS2.out.trans hs.out.1, Nat.le_trans hsz2.out hs.out.2, its', ls', hIr, he, fun e => ⟨fun _ u hu => by rw [← e]; exact hin u hu, fun h => (by cases h)⟩⟩
    by_cases hk9 : k = 9
    · subst hk9
      have hl2 : args.length = 2 := by
        have := (ok_mk.1 hok.out).1; unfold okHd at this; omega
      obtain ⟨tk, tc, rfl⟩ := two_of hl2
      obtain ⟨zk, hzk, hgk⟩ := zip_at (j := 0) hz.out.1 hz.out.2 rfl
      obtain ⟨zc, hzc, hgc⟩ := zip_at (j := 1) hz.out.1 hz.out.2 rfl
      obtain ⟨bb, off, rfl, x0⟩ := own_atM hOD.out (StayM.refl W2) hzk
      obtain ⟨bb', off', e, x1⟩ := own_atM hOD.out (StayM.refl W2) hzc
      injection e with e
      injection e with e1 e2 _
      subst e1
      subst e2
      rw [Nat.add_zero] at x0
      obtain ⟨m0, m1, m2⟩ := (hMh.out.keep hb6h.out).c0
      have hl := fun q : Nat => ((hMh.out.keep hb6h.out).map.keep (drewN_below q : Below W2.heap.size W2 (W2.drewN q))).look (i64_get hgc hSh.out.few)
      have hmem := hNh.out.1.mem hSh.out.good.once hgc
      have hfx : (atF (itsT its) zc = none ↔ zc ∉ itsT its) := by unfold atF; split <;> simp_all
      have hgkc := Lib.hid (And.intro hgk hgc)
      cases hf : atF (itsT its) zc with
      | some pl =>
        rw [hf] at hl
        simp only [Option.getD_some, Option.isSome_some] at hl
        have hin : tc ∈ ls := Classical.byContradiction fun hn => by have := hfx.2 (fun q => hn (hmem.1 q)); rw [hf] at this; cases this
        have hSD := Lib.hid (show SplitD ls (.mk 9 a b' s [tk, tc]) from ⟨fun h => (by cases h), fun _ k c (e : [tk, tc] = [k, c]) _ => (by injection e with _ e; injection e with e _; rw [← e]; exact hin)⟩)
        clear hmem hfx hf hin hzk hzc hgk hgc
        go_wp2_with fail
        go_quiet (fail)
        go_wp2_with fail
        have hBq := Lib.hid (drewN_below nq : Below W2.heap.size W2 (W2.drewN nq))
        generalize W2.drewN nq = W3 at *
        go_quiet (fail)
        have hBr := Lib.hid (hBq.out.trans ((drewN_below nq : Below W3.heap.size W3 (W3.drewN nq)).mono hBq.out.size))
        generalize W3.drewN nq = W4 at *
        go_wp2_with fail
        go_end0
        exact ⟨rfl, hS2.out.trans (StayM.of_below hBr.out), Nat.le_trans hsz2.out hBr.out.size, its, ls, hI2.out.keep hBr.out, ⟨[], by simp⟩, fun _ => hSD.out⟩
      | none =>
        rw [hf] at hl
        simp only [Option.getD_none, Option.isSome_none] at hl
        have hnin : tc ∉ ls := fun hn => hfx.1 hf (hmem.2 hn)
        have hninh := Lib.hid hnin
        clear hmem hfx hf hnin hzk hzc hgk hgc
        go_wp2_with fail
        go_quiet (fail)
        go_wp2_with fail
        have hBq := Lib.hid (drewN_below nq : Below W2.heap.size W2 (W2.drewN nq))
        generalize W2.drewN nq = W3 at *
        have hcx2 := Lib.hid (fun W' (h : Below W3.heap.size W3 W') => (by
          have h' := hBq.out.trans (h.mono hBq.out.size)
          exact ⟨(h'.cell (p := ⟨pp, 4, none⟩) (lt_of_cell d4)).trans d4, (h'.cell (p := ⟨bb, off, none⟩) (lt_of_cell x0)).trans x0, (h'.cell (p := ⟨bb, off + 1, none⟩) (lt_of_cell x1)).trans x1, (h'.cell (p := ⟨m, 1, none⟩) (lt_of_cell m1)).trans m1⟩ :
          W'.cell? ⟨pp, 4, none⟩ = some (.slice (some ⟨bb, off, none⟩) 2 cv) ∧ W'.cell? ⟨bb, off, none⟩ = some (.int .i64 zk) ∧ W'.cell? ⟨bb, off + 1, none⟩ = some (.int .i64 zc) ∧ W'.cell? ⟨m, 1, none⟩ = some (.slice (some ⟨b1, o1, none⟩) its.length c)))
        have hB3 := Lib.hid (hb6h.out.trans (hBq.out.mono hb6h.out.size))
        have hcan := Lib.hid (fun (ba : Nat) (hba : W3.heap.size ≤ ba) => can_all (hMh.out.keep hB3.out) (hSh.out.keep (hMh.out.keep hB3.out).below) hNh.out.1 (Nat.le_refl _) hba tk)
        obtain ⟨qd, hqd⟩ : ∃ qd : Bool, (qd = true ↔ der ls tk) := by classical exact ⟨decide (der ls tk), by simp⟩
        replace hqd := Lib.hid hqd
        have hlen := Lib.hid (show ls.take its.length = ls from List.take_of_length_le (by rw [hNh.out.1.len]; exact Nat.le_refl _))
        have htz := Lib.hid (show tsz tk ≤ 131072 from Nat.le_trans (tsz_le tk) (hSh.out.good.size tk (get_mem hgkc.out.1)))
        clear hl x0 x1 m0 m1 m2 d0 d4
        go_upto_region 10 with fail
        refine region_iw tbSw10 dsSw10 (vsSw10 m pp bb off cv b1 o1 (its.length) c zk qd) (fun L T W => Below W3.heap.size W3 W ∧ (L 13 = true → L 14 = false → ∃ ba : Nat, T.getD 72 undef = .map (some ba) ∧ W3.heap.size ≤ ba ∧ IMap W ba 0 (fun _ => none))) rfl (by decide) (by kernel_rfl) ?hlt ?hstep ?hdone ?hstart
        case hstart => exact ⟨drewN_below 1, fun h => absurd h (inv_not (n := 16) (i := 13) (by decide))⟩
        case hlt =>
          intro ix o ho
          have hi := (Array.getElem?_eq_some_iff.1 ho).1
          match ix, hi with
          | 0, _ => obtain rfl := Option.some.inj ho; decide
          | 1, _ => obtain rfl := Option.some.inj ho; decide
          | 2, _ => obtain rfl := Option.some.inj ho; decide
          | 3, _ => obtain rfl := Option.some.inj ho; decide
          | 4, _ => obtain rfl := Option.some.inj ho; decide
          | 5, _ => obtain rfl := Option.some.inj ho; decide
          | 6, _ => obtain rfl := Option.some.inj ho; decide
          | 7, _ => obtain rfl := Option.some.inj ho; decide
          | 8, _ => obtain rfl := Option.some.inj ho; decide
          | 9, _ => obtain rfl := Option.some.inj ho; decide
          | 10, _ => obtain rfl := Option.some.inj ho; decide
          | 11, _ => obtain rfl := Option.some.inj ho; decide
          | 12, _ => obtain rfl := Option.some.inj ho; decide
          | 13, _ => obtain rfl := Option.some.inj ho; decide
          | 14, _ => obtain rfl := Option.some.inj ho; decide
          | 15, _ => obtain rfl := Option.some.inj ho; decide
        case hstep =>
          intro T1 hE L T W ix o hF hW hc ho hLi hd K hK
          have hN : T1.size = 83 := by rw [hE]; rfl
          have f0 : T.getD 0 undef = .pointer (some ⟨m, 0, none⟩) := (hF.old 0 (by decide)).trans (by rw [hE]; rfl)
          have f4 : T.getD 4 undef = .pointer (some ⟨pp, 0, none⟩) := (hF.old 4 (by decide)).trans (by rw [hE]; rfl)
          have f9 : T.getD 9 undef = .bool false := (hF.old 9 (by decide)).trans (by rw [hE]; rfl)
          clear hE
          replace hF := Lib.hid hF
          replace hW := Lib.hid hW
          replace hK := Lib.hid hK
          have hi := (List.getElem?_eq_some_iff.1 ho).1
          match ix, hi with
          | 0, _ =>
            obtain rfl := Option.some.inj ho
            clear hd ho hi hc hLi
            exact st_val (v := .bool false) (w' := W) (want_none rfl) (by unfold execOp; dsimp only [Act.eval]; simp only [f9]; go_simp) (hK.out _ _ (hF.out.put (k := 0) (s := 59) rfl (by decide) hN (by decide) (fun u_v hu => Option.some.inj (Option.some.inj (show some (some (.bool false)) = some (some u_v) from hu))) (by dsimp only; rw [gd_ne (show 59 ≠ 72 by decide)]; exact hW.out)))
          | 1, _ =>
            obtain rfl := Option.some.inj ho
            have l0 : L 0 = true := dep_of hd (n := 0) (by decide)
            have e59 : T.getD 59 undef = .bool false := hF.out.val 0 59 _ l0 rfl rfl
            clear hd ho hi hc hLi
            exact st_val (v := .bool true) (w' := W) (want_none rfl) (by unfold execOp; dsimp only [Act.eval]; simp only [e59]; go_simp) (hK.out _ _ (hF.out.put (k := 1) (s := 60) rfl (by decide) hN (by decide) (fun u_v hu => Option.some.inj (Option.some.inj (show some (some (.bool true)) = some (some u_v) from hu))) (by dsimp only; rw [gd_ne (show 60 ≠ 72 by decide)]; exact hW.out)))
          | 2, _ =>
            obtain rfl := Option.some.inj ho
            have l1 : L 1 = true := dep_of hd (n := 1) (by decide)
            have e60 : T.getD 60 undef = .bool true := hF.out.val 1 60 _ l1 rfl rfl
            clear hd ho hi hc hLi
            exact st_val (v := .bool true) (w' := W) (want_none rfl) (by unfold execOp; dsimp only [Act.eval]; simp only [e60]; go_simp) (hK.out _ _ (hF.out.put (k := 2) (s := 61) rfl (by decide) hN (by decide) (fun u_v hu => Option.some.inj (Option.some.inj (show some (some (.bool true)) = some (some u_v) from hu))) (by dsimp only; rw [gd_ne (show 61 ≠ 72 by decide)]; exact hW.out)))
          | 3, _ =>
            obtain rfl := Option.some.inj ho
            have l2 : L 2 = true := dep_of hd (n := 2) (by decide)
            have e61 : T.getD 61 undef = .bool true := hF.out.val 2 61 _ l2 rfl rfl
            clear hd ho hi hc hLi
            exact st_val (v := .pointer (some ⟨m, 0, none⟩)) (w' := W) (by rw [want_some (j := 2) (s := 61) rfl rfl e61]; rfl) (by unfold execOp; dsimp only [Act.eval]; simp only [f0]; go_simp) (hK.out _ _ (hF.out.put (k := 3) (s := 62) rfl (by decide) hN (by decide) (fun u_v hu => Option.some.inj (Option.some.inj (show some (some (.pointer (some ⟨m, 0, none⟩))) = some (some u_v) from hu))) (by dsimp only; rw [gd_ne (show 62 ≠ 72 by decide)]; exact hW.out)))
          | 4, _ =>
            obtain rfl := Option.some.inj ho
            have l2 : L 2 = true := dep_of hd (n := 2) (by decide)
            have e61 : T.getD 61 undef = .bool true := hF.out.val 2 61 _ l2 rfl rfl
            clear hd ho hi hc hLi
            exact st_val (v := .pointer (some ⟨pp, 4, none⟩)) (w' := W) (by rw [want_some (j := 2) (s := 61) rfl rfl e61]; rfl) (by unfold execOp; dsimp only [Act.eval]; simp only [f4]; go_simp) (hK.out _ _ (hF.out.put (k := 4) (s := 63) rfl (by decide) hN (by decide) (fun u_v hu => Option.some.inj (Option.some.inj (show some (some (.pointer (some ⟨pp, 4, none⟩))) = some (some u_v) from hu))) (by dsimp only; rw [gd_ne (show 63 ≠ 72 by decide)]; exact hW.out)))
          | 5, _ =>
            obtain rfl := Option.some.inj ho
            have l4 : L 4 = true := dep_of hd (n := 4) (by decide)
            have e63 : T.getD 63 undef = .pointer (some ⟨pp, 4, none⟩) := hF.out.val 4 63 _ l4 rfl rfl
            have l2 : L 2 = true := dep_of hd (n := 2) (by decide)
            have e61 : T.getD 61 undef = .bool true := hF.out.val 2 61 _ l2 rfl rfl
            have hcc := (hcx2.out W hW.out.1).1
            clear hd ho hi hc hLi
            exact st_val (v := .slice (some ⟨bb, off, none⟩) 2 cv) (w' := W) (by rw [want_some (j := 2) (s := 61) rfl rfl e61]; rfl) (by unfold execOp; dsimp only [Act.eval]; simp only [e63]; go_simp) (hK.out _ _ (hF.out.put (k := 5) (s := 64) rfl (by decide) hN (by decide) (fun u_v hu => Option.some.inj (Option.some.inj (show some (some (.slice (some ⟨bb, off, none⟩) 2 cv)) = some (some u_v) from hu))) (by dsimp only; rw [gd_ne (show 64 ≠ 72 by decide)]; exact hW.out)))
          | 6, _ =>
            obtain rfl := Option.some.inj ho
            have l5 : L 5 = true := dep_of hd (n := 5) (by decide)
            have e64 : T.getD 64 undef = .slice (some ⟨bb, off, none⟩) 2 cv := hF.out.val 5 64 _ l5 rfl rfl
            have l2 : L 2 = true := dep_of hd (n := 2) (by decide)
            have e61 : T.getD 61 undef = .bool true := hF.out.val 2 61 _ l2 rfl rfl
            clear hd ho hi hc hLi
            exact st_val (v := .pointer (some ⟨bb, off, none⟩)) (w' := W) (by rw [want_some (j := 2) (s := 61) rfl rfl e61]; rfl) (by unfold execOp; dsimp only [Act.eval]; simp only [e64]; go_simp) (hK.out _ _ (hF.out.put (k := 6) (s := 65) rfl (by decide) hN (by decide) (fun u_v hu => Option.some.inj (Option.some.inj (show some (some (.pointer (some ⟨bb, off, none⟩))) = some (some u_v) from hu))) (by dsimp only; rw [gd_ne (show 65 ≠ 72 by decide)]; exact hW.out)))
          | 7, _ =>
            obtain rfl := Option.some.inj ho
            have l6 : L 6 = true := dep_of hd (n := 6) (by decide)
            have e65 : T.getD 65 undef = .pointer (some ⟨bb, off, none⟩) := hF.out.val 6 65 _ l6 rfl rfl
            have l2 : L 2 = true := dep_of hd (n := 2) (by decide)
            have e61 : T.getD 61 undef = .bool true := hF.out.val 2 61 _ l2 rfl rfl
            have hcc := (hcx2.out W hW.out.1).2.1
            clear hd ho hi hc hLi
            exact st_val (v := .int .i64 zk) (w' := W) (by rw [want_some (j := 2) (s := 61) rfl rfl e61]; rfl) (by unfold execOp; dsimp only [Act.eval]; simp only [e65]; go_simp) (hK.out _ _ (hF.out.put (k := 7) (s := 66) rfl (by decide) hN (by decide) (fun u_v hu => Option.some.inj (Option.some.inj (show some (some (.int .i64 zk)) = some (some u_v) from hu))) (by dsimp only; rw [gd_ne (show 66 ≠ 72 by decide)]; exact hW.out)))
          | 8, _ =>
            obtain rfl := Option.some.inj ho
            have l2 : L 2 = true := dep_of hd (n := 2) (by decide)
            have e61 : T.getD 61 undef = .bool true := hF.out.val 2 61 _ l2 rfl rfl
            clear hd ho hi hc hLi
            exact st_val (v := .pointer (some ⟨m, 0, none⟩)) (w' := W) (by rw [want_some (j := 2) (s := 61) rfl rfl e61]; rfl) (by unfold execOp; dsimp only [Act.eval]; simp only [f0]; go_simp) (hK.out _ _ (hF.out.put (k := 8) (s := 67) rfl (by decide) hN (by decide) (fun u_v hu => Option.some.inj (Option.some.inj (show some (some (.pointer (some ⟨m, 0, none⟩))) = some (some u_v) from hu))) (by dsimp only; rw [gd_ne (show 67 ≠ 72 by decide)]; exact hW.out)))
          | 9, _ =>
            obtain rfl := Option.some.inj ho
            have l8 : L 8 = true := dep_of hd (n := 8) (by decide)
            have e67 : T.getD 67 undef = .pointer (some ⟨m, 0, none⟩) := hF.out.val 8 67 _ l8 rfl rfl
            have l2 : L 2 = true := dep_of hd (n := 2) (by decide)
            have e61 : T.getD 61 undef = .bool true := hF.out.val 2 61 _ l2 rfl rfl
            clear hd ho hi hc hLi
            exact st_val (v := .pointer (some ⟨m, 0, none⟩)) (w' := W) (by rw [want_some (j := 2) (s := 61) rfl rfl e61]; rfl) (by unfold execOp; dsimp only [Act.eval]; simp only [e67]; go_simp) (hK.out _ _ (hF.out.put (k := 9) (s := 68) rfl (by decide) hN (by decide) (fun u_v hu => Option.some.inj (Option.some.inj (show some (some (.pointer (some ⟨m, 0, none⟩))) = some (some u_v) from hu))) (by dsimp only; rw [gd_ne (show 68 ≠ 72 by decide)]; exact hW.out)))
          | 10, _ =>
            obtain rfl := Option.some.inj ho
            have l9 : L 9 = true := dep_of hd (n := 9) (by decide)
            have e68 : T.getD 68 undef = .pointer (some ⟨m, 0, none⟩) := hF.out.val 9 68 _ l9 rfl rfl
            have l2 : L 2 = true := dep_of hd (n := 2) (by decide)
            have e61 : T.getD 61 undef = .bool true := hF.out.val 2 61 _ l2 rfl rfl
            clear hd ho hi hc hLi
            exact st_val (v := .pointer (some ⟨m, 1, none⟩)) (w' := W) (by rw [want_some (j := 2) (s := 61) rfl rfl e61]; rfl) (by unfold execOp; dsimp only [Act.eval]; simp only [e68]; go_simp) (hK.out _ _ (hF.out.put (k := 10) (s := 69) rfl (by decide) hN (by decide) (fun u_v hu => Option.some.inj (Option.some.inj (show some (some (.pointer (some ⟨m, 1, none⟩))) = some (some u_v) from hu))) (by dsimp only; rw [gd_ne (show 69 ≠ 72 by decide)]; exact hW.out)))
          | 11, _ =>
            obtain rfl := Option.some.inj ho
            have l10 : L 10 = true := dep_of hd (n := 10) (by decide)
            have e69 : T.getD 69 undef = .pointer (some ⟨m, 1, none⟩) := hF.out.val 10 69 _ l10 rfl rfl
            have l2 : L 2 = true := dep_of hd (n := 2) (by decide)
            have e61 : T.getD 61 undef = .bool true := hF.out.val 2 61 _ l2 rfl rfl
            have hcc := (hcx2.out W hW.out.1).2.2.2
            clear hd ho hi hc hLi
            exact st_val (v := .slice (some ⟨b1, o1, none⟩) (its.length) c) (w' := W) (by rw [want_some (j := 2) (s := 61) rfl rfl e61]; rfl) (by unfold execOp; dsimp only [Act.eval]; simp only [e69]; go_simp) (hK.out _ _ (hF.out.put (k := 11) (s := 70) rfl (by decide) hN (by decide) (fun u_v hu => Option.some.inj (Option.some.inj (show some (some (.slice (some ⟨b1, o1, none⟩) (its.length) c)) = some (some u_v) from hu))) (by dsimp only; rw [gd_ne (show 70 ≠ 72 by decide)]; exact hW.out)))
          | 12, _ =>
            obtain rfl := Option.some.inj ho
            have l11 : L 11 = true := dep_of hd (n := 11) (by decide)
            have e70 : T.getD 70 undef = .slice (some ⟨b1, o1, none⟩) (its.length) c := hF.out.val 11 70 _ l11 rfl rfl
            have l2 : L 2 = true := dep_of hd (n := 2) (by decide)
            have e61 : T.getD 61 undef = .bool true := hF.out.val 2 61 _ l2 rfl rfl
            clear hd ho hi hc hLi
            exact st_val (v := .int .i64 (its.length)) (w' := W) (by rw [want_some (j := 2) (s := 61) rfl rfl e61]; rfl) (by unfold execOp; go_simp) (hK.out _ _ (hF.out.put (k := 12) (s := 71) rfl (by decide) hN (by decide) (fun u_v hu => Option.some.inj (Option.some.inj (show some (some (.int .i64 (its.length))) = some (some u_v) from hu))) (by dsimp only; rw [gd_ne (show 71 ≠ 72 by decide)]; exact hW.out)))
          | 13, _ =>
            obtain rfl := Option.some.inj ho
            have l2 : L 2 = true := dep_of hd (n := 2) (by decide)
            have e61 : T.getD 61 undef = .bool true := hF.out.val 2 61 _ l2 rfl rfl
            have hbn := below_new W (.map #[] 0)
            have hIM := IMap.made W
            have hb := hW.out.1
            clear hd ho hi hc
            exact st_val (v := .map (some W.heap.size)) (w' := W.alloc (.map #[] 0)) (by rw [want_some (j := 2) (s := 61) rfl rfl e61]; rfl) (by have hmm := @run_makeMap Tryz.prog; unfold execOp; go_simp) (hK.out _ _ (hF.out.put (k := 13) (s := 72) rfl (by decide) hN (by decide) (fun u hu => by cases hu) ⟨hb.trans (hbn.mono hb.size), fun _ _ => ⟨W.heap.size, gd_eq (by rw [hF.out.size, hN]; decide), hb.size, hIM⟩⟩))
          | 14, _ =>
            obtain rfl := Option.some.inj ho
            have l3 : L 3 = true := dep_of hd (n := 3) (by decide)
            have e62 : T.getD 62 undef = .pointer (some ⟨m, 0, none⟩) := hF.out.val 3 62 _ l3 rfl rfl
            have l7 : L 7 = true := dep_of hd (n := 7) (by decide)
            have e66 : T.getD 66 undef = .int .i64 zk := hF.out.val 7 66 _ l7 rfl rfl
            have l12 : L 12 = true := dep_of hd (n := 12) (by decide)
            have e71 : T.getD 71 undef = .int .i64 (its.length) := hF.out.val 12 71 _ l12 rfl rfl
            have l13 : L 13 = true := dep_of hd (n := 13) (by decide)
            have l2 : L 2 = true := dep_of hd (n := 2) (by decide)
            have e61 : T.getD 61 undef = .bool true := hF.out.val 2 61 _ l2 rfl rfl
            obtain ⟨ba, e72, hba, hIM⟩ := hW.out.2 l13 hLi
            have hb := hW.out.1
            have cc := hcan.out ba hba W zk (fun _ => False) (fun _ => none) 0 hb hgkc.out.1 (AskOk.nil_ _ _ _) (fun _ h => h.elim) hIM (by have := htz.out; omega)
            rw [hlen.out] at cc
            replace cc := Lib.hid cc
            clear hIM
            clear hd ho hi hc
            refine st_call (by rw [want_some (j := 2) (s := 61) rfl rfl e61]; rfl) (by unfold execOp; go_simp) cc.out ?_
            rintro r wz ⟨q, f', nb', rfl, hq, -, -, -, hKp⟩
            have hqq : qd = q := by rw [Bool.eq_iff_iff, hq, hqd.out]
            subst hqq
            have hbz := hb.trans (hKp.below (fun k hk => by have hk : k = ba := hk; omega) hb.size)
            exact ⟨_, rfl, hK.out _ _ (hF.out.put (k := 14) (s := 73) rfl (by decide) hN (by decide) (fun u_v hu => Option.some.inj (Option.some.inj (show some (some (.bool qd)) = some (some u_v) from hu))) ⟨hbz, fun _ h => absurd h (by simp)⟩)⟩
          | 15, _ =>
            obtain rfl := Option.some.inj ho
            have l2 : L 2 = true := dep_of hd (n := 2) (by decide)
            have e61 : T.getD 61 undef = .bool true := hF.out.val 2 61 _ l2 rfl rfl
            have l14 : L 14 = true := dep_of hd (n := 14) (by decide)
            have e73 : T.getD 73 undef = .bool qd := hF.out.val 14 73 _ l14 rfl rfl
            clear hd ho hi hc hLi
            exact st_val (v := .bool qd) (w' := W) (want_none rfl) (by unfold execOp; dsimp only [Act.eval]; simp only [e61, e73]; go_simp) (hK.out _ _ (hF.out.put (k := 15) (s := 74) rfl (by decide) hN (by decide) (fun u_v hu => Option.some.inj (Option.some.inj (show some (some (.bool qd)) = some (some u_v) from hu))) (by dsimp only; rw [gd_ne (show 74 ≠ 72 by decide)]; exact hW.out)))
        case hdone =>
          intro L T W2 hF hW hall
          obtain ⟨z72, e72⟩ : ∃ z, T.getD 72 undef = z := ⟨_, rfl⟩
          have hB4 := Lib.hid hW.1
          have hT : T = #[.pointer (some ⟨m, 0, none⟩), .int .i64 i, undef, undef, .pointer (some ⟨pp, 0, none⟩), .bool true, undef, undef, .int .i64 0, .bool false, .tuple #[.agg (ndC 9 a b' s (.slice (some ⟨bb, off, none⟩) 2 cv)).toArray, .bool true], .pointer (some ⟨m, 0, none⟩), .pointer (some ⟨m, 0, none⟩), .pointer (some ⟨m, 0, none⟩), .pointer (some ⟨g, 0, none⟩), .pointer (some ⟨m, 0, none⟩), .pointer (some ⟨m, 0, none⟩), .pointer (some ⟨m, 1, none⟩), .slice (some ⟨b1, o1, none⟩) its.length c, .int .i64 i, .pointer (some ⟨b1, o1 + i * 4, none⟩), .pointer (some ⟨b1, o1 + i * 4, none⟩), .int .i64 it.t, .tuple #[.agg (ndC 9 a b' s (.slice (some ⟨bb, off, none⟩) 2 cv)).toArray, .bool true], .agg (ndC 9 a b' s (.slice (some ⟨bb, off, none⟩) 2 cv)).toArray, .bool true, .pointer (some ⟨pp, 0, none⟩), .int .i64 9, .bool false, .bool false, undef, undef, undef, undef, undef, undef, undef, undef, undef, undef, undef, undef, undef, undef, undef, .bool true, .bool true, .tuple #[.int .i64 0, .bool false], .pointer (some ⟨m, 0, none⟩), .pointer (some ⟨m, 0, none⟩), .pointer (some ⟨m, 2, none⟩), .map (some b), .pointer (some ⟨pp, 4, none⟩), .slice (some ⟨bb, off, none⟩) 2 cv, .pointer (some ⟨bb, off + 1, none⟩), .int .i64 zc, .tuple #[.int .i64 0, .bool false], .int .i64 0, .bool false, .bool false, .bool true, .bool true, .pointer (some ⟨m, 0, none⟩), .pointer (some ⟨pp, 4, none⟩), .slice (some ⟨bb, off, none⟩) 2 cv, .pointer (some ⟨bb, off, none⟩), .int .i64 zk, .pointer (some ⟨m, 0, none⟩), .pointer (some ⟨m, 0, none⟩), .pointer (some ⟨m, 1, none⟩), .slice (some ⟨b1, o1, none⟩) (its.length) c, .int .i64 (its.length), z72, .bool qd, .bool qd, undef, undef, undef, undef, undef, undef, undef, undef] := (hF.fin [(59, .bool false), (60, .bool true), (61, .bool true), (62, .pointer (some ⟨m, 0, none⟩)), (63, .pointer (some ⟨pp, 4, none⟩)), (64, .slice (some ⟨bb, off, none⟩) 2 cv), (65, .pointer (some ⟨bb, off, none⟩)), (66, .int .i64 zk), (67, .pointer (some ⟨m, 0, none⟩)), (68, .pointer (some ⟨m, 0, none⟩)), (69, .pointer (some ⟨m, 1, none⟩)), (70, .slice (some ⟨b1, o1, none⟩) (its.length) c), (71, .int .i64 (its.length)), (72, z72), (73, .bool qd), (74, .bool qd)] [59, 60, 61, 62, 63, 64, 65, 66, 67, 68, 69, 70, 71, 72, 73, 74] rfl (List.forall_mem_cons.2 ⟨hF.val 0 _ _ (hall 0 (show 0 < 16 by decide)) rfl rfl, (List.forall_mem_cons.2 ⟨hF.val 1 _ _ (hall 1 (show 1 < 16 by decide)) rfl rfl, (List.forall_mem_cons.2 ⟨hF.val 2 _ _ (hall 2 (show 2 < 16 by decide)) rfl rfl, (List.forall_mem_cons.2 ⟨hF.val 3 _ _ (hall 3 (show 3 < 16 by decide)) rfl rfl, (List.forall_mem_cons.2 ⟨hF.val 4 _ _ (hall 4 (show 4 < 16 by decide)) rfl rfl, (List.forall_mem_cons.2 ⟨hF.val 5 _ _ (hall 5 (show 5 < 16 by decide)) rfl rfl, (List.forall_mem_cons.2 ⟨hF.val 6 _ _ (hall 6 (show 6 < 16 by decide)) rfl rfl, (List.forall_mem_cons.2 ⟨hF.val 7 _ _ (hall 7 (show 7 < 16 by decide)) rfl rfl, (List.forall_mem_cons.2 ⟨hF.val 8 _ _ (hall 8 (show 8 < 16 by decide)) rfl rfl, (List.forall_mem_cons.2 ⟨hF.val 9 _ _ (hall 9 (show 9 < 16 by decide)) rfl rfl, (List.forall_mem_cons.2 ⟨hF.val 10 _ _ (hall 10 (show 10 < 16 by decide)) rfl rfl, (List.forall_mem_cons.2 ⟨hF.val 11 _ _ (hall 11 (show 11 < 16 by decide)) rfl rfl, (List.forall_mem_cons.2 ⟨hF.val 12 _ _ (hall 12 (show 12 < 16 by decide)) rfl rfl, (List.forall_mem_cons.2 ⟨e72, (List.forall_mem_cons.2 ⟨hF.val 14 _ _ (hall 14 (show 14 < 16 by decide)) rfl rfl, (List.forall_mem_cons.2 ⟨hF.val 15 _ _ (hall 15 (show 15 < 16 by decide)) rfl rfl, (fun _ h => absurd h List.not_mem_nil)⟩)⟩)⟩)⟩)⟩)⟩)⟩)⟩)⟩)⟩)⟩)⟩)⟩)⟩)⟩)⟩) (by decide)).trans (by kernel_rfl)
          clear hF hall
          subst hT
          obtain ⟨y0, y1, y2, y3⟩ := hcx2.out W2 hB4.out
          have hB5 := Lib.hid (hBq.out.trans (hB4.out.mono hBq.out.size))
          have hI5 := Lib.hid (hI2.out.keep hB5.out)
          clear e72 hcx2 hcan
          cases qd with
          | false =>
            have hSD := Lib.hid (show SplitD ls (.mk 9 a b' s [tk, tc]) from ⟨fun h => (by cases h), fun _ k c (e : [tk, tc] = [k, c]) hd => (by injection e with e _; rw [← e] at hd; exact absurd (hqd.out.2 hd) (by decide))⟩)
            go_wp2_with fail
            go_end0
            exact ⟨rfl, hS2.out.trans (StayM.of_below hB5.out), Nat.le_trans hsz2.out hB5.out.size, its, ls, hI5.out, ⟨[], by simp⟩, fun _ => hSD.out⟩
          | true =>
            have hil := (List.getElem?_eq_some_iff.1 hih.out).1
            have cA := hI5.out.add hSh.out ⟨zc, 3, i, 0⟩ (i64_get hgkc.out.2 hSh.out.few) (fun t ht => .inr (.inr (.inr ⟨rfl, i, .mk 9 a b' s [tk, tc], tk, rfl, hil, hih.out, rfl, by rw [hgkc.out.2] at ht; obtain rfl := Option.some.inj ht; rfl, by rw [List.take_of_length_le (Nat.le_refl _)]; exact hqd.out.1 rfl⟩)))
            rw [hgkc.out.2] at cA
            have cA := Lib.hid (Calls.mono cA fun (r : Ending) (W' : World) ⟨q1, q2, q3, its2, ls2, q4, q5, q6⟩ => (show r = Ending.returned (.tuple #[]) ∧ AddsR V wr g m b Ls known sent ls (fun l => l = ls → SplitD ls (.mk 9 a b' s [tk, tc])) (.returned (.tuple #[])) W' from
              ⟨q1, rfl, (hS2.out.trans (StayM.of_below hB5.out)).trans q2, Nat.le_trans hsz2.out (Nat.le_trans hB5.out.size q3), its2, ls2, q4, q5, fun e => absurd e (by rw [q6]; exact addL_ne hninh.out)⟩))
            simp only [It.row] at cA
            clear hil y1 y3
            go_wp2_with (first
              | (refine wpList_build_as 75 _ rfl rfl #[.int .i64 zc, .int .i64 3, .int .i64 i, .int .i64 0] ?_ ?_; kernel_rfl)
              | (go_at_call 31; (with_reducible refine cA.out.mono ?_); rintro r w3 ⟨rfl, hq⟩; replace hq := Lib.hid hq))
            go_end0
            exact hq.out
    · have k1 : ((k : Int) == 10) = false := by rw [beq_eq_false_iff_ne]; omega
      have k2 : ((k : Int) == 9) = false := by rw [beq_eq_false_iff_ne]; omega
      have hSD := Lib.hid (show SplitD ls (.mk k a b' s args) from ⟨fun h => absurd h hk, fun h => absurd h hk9⟩)
      clear hk hk9
      go_wp2_with fail
      go_end0
      exact ⟨rfl, hS2.out, hsz2.out, its, ls, hI2.out, ⟨[], by simp⟩, fun _ => hSD.out⟩
end Go.Proofs.YtphnakdgpilcmaaGreatDoor
