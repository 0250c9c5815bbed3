/- Recipes: all steps. (printed by wip/gen_rcg.py out of rcg_head.txt) -/
import Derived.Test.YtphnakdgpilcmaaGreatDoorRb24
namespace Go.Proofs.YtphnakdgpilcmaaGreatDoor
open Go.RowKit Go.Maps

/-- What All has at hand: the arena, the kitchen in block q (it holds vK), the numbers made so far in the slice vM of its own. -/
structure AllX (w0 W0 : World) (g q : Nat) (kA sA : Option Addr) (kn kc sn sc : Nat) (lk ls : List Int) (known sent : List (Option Tm)) (vK vM : Value) (lm : List Int) (made : List (Option Tm)) (W : World) (Lt : List Tm) : Prop where
  st : St w0 g W Lt
  blk : W.heap[q]? = some (.cells #[.pointer (some ⟨g, 0, none⟩), .slice kA kn kc, .slice sA sn sc, vK] 82 (0, 0))
  k : IdsT W kA kn lk
  s : IdsT W sA sn ls
  m : OwnD W W0.heap.size vM lm
  off : OffE W g (inV vM)
  nk : NmL Lt lk known
  ns : NmL Lt ls sent
  nm : NmL Lt lm made
  hq : W0.heap.size ≤ q
  stay : Stay W0 W
  sz : W0.heap.size ≤ W.heap.size
  maps : MapStay g W0 W
/-- What came in lies ahead of all that is made. -/
def Ahead (w : World) (A : Option Addr) (n : Nat) : Prop := ∀ b off, A = some ⟨b, off, none⟩ → 0 < n → b < w.heap.size
theorem IdsT.ahead {w : World} {A : Option Addr} {n : Nat} {l : List Int} (h : IdsT w A n l) : Ahead w A n := fun b off e hn => by
  obtain ⟨b', off', cur, fr, e', hc⟩ := h.typ hn
  rw [e] at e'
  injection e' with e'
  injection e' with q1 _ _
  rw [q1]
  exact (Array.getElem?_eq_some_iff.1 hc).1
theorem IdsT.grown {w w' : World} {A : Option Addr} {n : Nat} {l : List Int} {row : Option Nat} (h : IdsT w A n l) (hg : w.grownBy w' row) (hr : ∀ b off, A = some ⟨b, off, none⟩ → 0 < n → some b ≠ row) : IdsT w' A n l := by
  refine ⟨⟨h.ints.1, h.ints.2.1, fun hn => ?_⟩, fun hn => ?_⟩
  · obtain ⟨b1, off, cur, fr, e, hc⟩ := h.typ hn
    obtain ⟨b2, off2, e2, hlt, hr2⟩ := h.ints.2.2 hn
    rw [e] at e2
    injection e2 with e2
    injection e2 with q1 q2 _
    subst q1
    subst q2
    have hk := (hg.block b1 hlt (hr _ _ e hn)).trans hc
    refine ⟨b1, off, e, (Array.getElem?_eq_some_iff.1 hk).1, fun j z hz i u hu => ?_⟩
    rw [World.cell?_of_block (hk.trans hc.symm)]
    exact hr2 j z hz i u hu
  · obtain ⟨b1, off, cur, fr, e, hc⟩ := h.typ hn
    exact ⟨b1, off, cur, fr, e, (hg.block b1 (Array.getElem?_eq_some_iff.1 hc).1 (hr _ _ e hn)).trans hc⟩
section
variable {w0 W0 : World} {g q : Nat} {kA sA : Option Addr} {kn kc sn sc : Nat} {lk ls : List Int} {known sent : List (Option Tm)} {vK vM : Value} {lm : List Int} {made : List (Option Tm)} {W W' : World} {Lt : List Tm}
theorem AllX.step (h : AllX w0 W0 g q kA sA kn kc sn sc lk ls known sent vK vM lm made W Lt) {L' : List Tm} {o : Option Tm} (hS : St w0 g W' L') (hG : Grow Lt L' o) (hY : Stay W W') (hF : Fresh g W W') (hz : W.heap.size ≤ W'.heap.size) :
    AllX w0 W0 g q kA sA kn kc sn sc lk ls known sent vK vM lm made W' L' :=
  ⟨hS, hY q _ _ _ h.blk (by decide) (by decide) (by decide), h.k.stay hY, h.s.stay hY, h.m.stay hY, hF.1 _ (fun r hr => (OwnR.typ h.m hr).elim fun _ h => h.elim fun _ h => (Array.getElem?_eq_some_iff.1 h).1) h.off, h.nk.grow hG, h.ns.grow hG, h.nm.grow hG, h.hq, h.stay.trans hY, Nat.le_trans h.sz hz, h.maps.trans hF.2⟩
theorem AllX.below (h : AllX w0 W0 g q kA sA kn kc sn sc lk ls known sent vK vM lm made W Lt) (hb : Below W.heap.size W W') : AllX w0 W0 g q kA sA kn kc sn sc lk ls known sent vK vM lm made W' Lt :=
  ⟨h.st.keep hb, Stay.of_below hb q _ _ _ h.blk (by decide) (by decide) (by decide), h.k.stay (Stay.of_below hb), h.s.stay (Stay.of_below hb), h.m.stay (Stay.of_below hb), h.off.keep hb, h.nk, h.ns, h.nm, h.hq, h.stay.trans (Stay.of_below hb), Nat.le_trans h.sz hb.size, h.maps.trans (MapStay.of_below hb)⟩
theorem AllX.app (h : AllX w0 W0 g q kA sA kn kc sn sc lk ls known sent vK vM lm made W Lt) (hw : w0.heap.size ≤ W0.heap.size) (hkA : Ahead W0 kA kn) (hsA : Ahead W0 sA sn) {x : Int} {o : Option Tm} (hx : Nm Lt x o) {v' : Value}
    (hO : OwnR W' W0.heap.size 1 33 v' (lm.map iv ++ [[.int .i64 x]])) (hg : W.grownBy W' vM.ownBlock) (hat : v'.ownBlock = vM.ownBlock ∨ v'.ownBlock = some W.heap.size) :
    AllX w0 W0 g q kA sA kn kc sn sc lk ls known sent vK v' (lm ++ [x]) (made ++ [o]) W' Lt := by
  have hrow : ∀ r, vM.ownBlock = some r → Typ W r 33 := fun r hr => OwnR.typ h.m hr
  have hge : ∀ r, vM.ownBlock = some r → W0.heap.size ≤ r := fun r hr => OwnR.typ_ge h.m hr
  obtain ⟨hS, ho⟩ := h.st.app h.off h.m hw hg hat
  refine ⟨hS, block_grown h.blk hg hrow (by decide), h.k.grown hg (fun b off e hn eq => ?_), h.s.grown hg (fun b off e hn eq => ?_), ?_, ho, h.nk, h.ns, h.nm.snoc hx, h.hq, fun r cur t fr hc h1 h2 h3 => ?_, Nat.le_trans h.sz hg.size, h.maps.trans (MapStay.of_grown hg hrow (by decide))⟩
  · have := hkA b off e hn; have := hge b eq.symm; omega
  · have := hsA b off e hn; have := hge b eq.symm; omega
  · unfold OwnD; rw [List.map_append]; exact hO
  · have hlt : r < W0.heap.size := (Array.getElem?_eq_some_iff.1 hc).1
    exact (hg.block r (by have := h.sz; omega) (fun e => by have := hge r e.symm; omega)).trans (h.stay r cur t fr hc h1 h2 h3)
theorem AllX.store (h : AllX w0 W0 g q kA sA kn kc sn sc lk ls known sent vK vM lm made W Lt) (hw : w0.heap.size ≤ W0.heap.size) : AllX w0 W0 g q kA sA kn kc sn sc lk ls known sent vM vM lm made (W.setCell ⟨q, 3, none⟩ vM) Lt := by
  have hst := grown_set W ⟨q, 3, none⟩ vM
  have hty : ∀ r, some q = some r → Typ W r 82 := fun r hr => by injection hr with hr; subst hr; exact ⟨_, _, h.blk⟩
  obtain ⟨A, c, eA, hA⟩ := h.m.ints
  have hOM : OwnR W q 4 82 (.slice (some ⟨q, 0, none⟩) 1 1) [[.pointer (some ⟨g, 0, none⟩), .slice kA kn kc, .slice sA sn sc, vK]] := by
    refine ⟨⟨by simp, .inr ⟨q, 1, #[.pointer (some ⟨g, 0, none⟩), .slice kA kn kc, .slice sA sn sc, vK], rfl, Nat.le_refl _, h.blk, Nat.le_refl _, by unfold maxLen; omega, by simp, by simp⟩⟩, by simp⟩
  obtain ⟨hS6, ho6⟩ := h.st.app2 h.off hOM (Nat.le_trans hw h.hq) hst (by decide) (by decide) (by decide) (by decide)
  refine ⟨hS6, ?_, h.k.grown hst (fun b off e hn eq => ?_), h.s.grown hst (fun b off e hn eq => ?_), OwnR.grown_ h.m hst hty (by decide), ho6, h.nk, h.ns, h.nm, h.hq, fun r cur t fr hc h1 h2 h3 => ?_, Nat.le_trans h.sz hst.size, h.maps.trans (MapStay.of_grown hst hty (by decide))⟩
  · rw [heap_setCell_same W q 3 _ _ _ h.blk]; rfl
  · obtain ⟨b', off', cur, fr, e', hc⟩ := h.k.typ hn
    rw [e] at e'
    injection e' with e'
    injection e' with q1 _ _
    subst q1
    injection eq with eq
    subst eq
    rw [h.blk] at hc
    injection hc with hc
    injection hc with _ hc _
    exact absurd hc (by decide)
  · obtain ⟨b', off', cur, fr, e', hc⟩ := h.s.typ hn
    rw [e] at e'
    injection e' with e'
    injection e' with q1 _ _
    subst q1
    injection eq with eq
    subst eq
    rw [h.blk] at hc
    injection hc with hc
    injection hc with _ hc _
    exact absurd hc (by decide)
  · have hlt : r < W0.heap.size := (Array.getElem?_eq_some_iff.1 hc).1
    exact (hst.block r (by have := h.sz; omega) (fun e => by injection e with e; have := h.hq; have e : r = q := e; omega)).trans (h.stay r cur t fr hc h1 h2 h3)
theorem AllX.ks (h : AllX w0 W0 g q kA sA kn kc sn sc lk ls known sent vM vM lm made W Lt) {mA : Option Addr} {mn mc : Nat} (hv : vM = .slice mA mn mc) (h1 : kn ≤ 1000) (h2 : sn ≤ 1000) (h3 : lm.length ≤ 1000) (hn : mn = lm.length) : KS w0 g q W Lt kA sA mA kn kc sn sc mn mc lk ls lm known sent made := by
  subst hv
  subst hn
  obtain ⟨A, c, e, hI⟩ := IdsT.of_own h.m
  injection e with e1 _ _
  subst e1
  exact ⟨h.st, ⟨h.blk, h.k, h.s, hI⟩, h.nk, h.ns, h.nm, h1, h2, h3⟩
end
theorem right_any {A : Option Addr} {n c : Nat} (w : World) (hn : n ≤ 9223372036854775807) : Calls Tryz.prog 35 #[.slice A n c] w fun r w' => r = .returned (.bool (decide (n ≤ 64))) ∧ w = w' := by
  by_cases h : n ≤ 64
  · have hi : (n : Int) ≤ 64 := by omega
    rw [decide_eq_true h]
    go_enter Tryz.func35, Tryz.ntmps35
    go_wp2
    go_ret
    exact ⟨rfl, rfl⟩
  · have hi : ¬ (n : Int) ≤ 64 := by omega
    rw [decide_eq_false h]
    go_enter Tryz.func35, Tryz.ntmps35
    go_wp2
    go_ret
    exact ⟨rfl, rfl⟩
/-- What is known of the terms that the steps leave in the arena. -/
def AllE (L0 : List Tm) (os : List (Option Tm)) (L' : List Tm) : Prop := (∃ e, L' = L0 ++ e) ∧ ∀ t ∈ L', t ∈ L0 ∨ some t ∈ os
theorem AllE.step {L0 Lt L' : List Tm} {os : List (Option Tm)} {o : Option Tm} (h : AllE L0 os Lt) (hG : Grow Lt L' o) : AllE L0 (os ++ [o]) L' := by
  obtain ⟨⟨e, he⟩, h2⟩ := h
  rcases hG with ⟨rfl, _⟩ | ⟨t, rfl, _, rfl⟩
  · exact ⟨⟨e, he⟩, fun t ht => (h2 t ht).imp id fun h => List.mem_append_left _ h⟩
  · refine ⟨⟨e ++ [t], by rw [he, List.append_assoc]⟩, fun u hu => ?_⟩
    rcases List.mem_append.1 hu with hu | hu
    · exact (h2 u hu).imp id fun h => List.mem_append_left _ h
    · rw [List.mem_singleton.1 hu]; exact .inr (by simp)
theorem AllE.same {L0 L' : List Tm} {os : List (Option Tm)} (h : AllE L0 os L') (hN : L'.Nodup) (hin : ∀ t, some t ∈ os → t ∈ L0) : L' = L0 := by
  obtain ⟨⟨e, rfl⟩, h2⟩ := h
  cases e with
  | nil => simp
  | cons t r =>
    exfalso
    have ht : t ∈ L0 := (h2 t (by simp)).elim id (hin t)
    rw [List.nodup_append] at hN
    exact hN.2.2 t ht t (by simp) rfl
theorem recT_in {known sent : List (Option Tm)} {ms : List Mk} (j : Nat) : ∀ o ∈ recT known sent (ms.take j) [], o ∈ recT known sent ms [] := by
  intro o ho
  have e : recT known sent ms [] = recT known sent (ms.drop j) (recT known sent (ms.take j) []) := by rw [← recT_app, List.take_append_drop]
  obtain ⟨r, hr⟩ := recT_pre known sent (ms.drop j) (recT known sent (ms.take j) [])
  rw [e, hr]
  exact List.mem_append_left _ ho
theorem all_few {L0 Lt : List Tm} {known sent : List (Option Tm)} {ms : List Mk} {n j : Nat} (hL : L0.length + n ≤ 100 ∨ (L0.length < 100 ∧ ∀ t, some t ∈ recT known sent ms [] → t ∈ L0)) (hE : AllE L0 (recT known sent (ms.take j) []) Lt) (hl : Lt.length ≤ L0.length + j) (hj : j < n) (hN : Lt.Nodup) : Lt.length < 100 := by
  rcases hL with h | ⟨h, h2⟩
  · omega
  · rw [hE.same hN fun t ht => h2 t (recT_in j _ ht)]; exact h
/-- What All leaves. -/
def AllR (w0 W0 : World) (g : Nat) (L : List Tm) (known sent : List (Option Tm)) (ms : List Mk) (r : Ending) (W' : World) : Prop := ∃ vM l L', r = .returned vM ∧ St w0 g W' L' ∧ (∃ e, L' = L ++ e) ∧ L'.length ≤ L.length + ms.length ∧ OwnD W' W0.heap.size vM l ∧ NmL L' l (recT known sent ms []) ∧ Stay W0 W' ∧ W0.heap.size ≤ W'.heap.size ∧ (∀ t ∈ L', t ∈ L ∨ some t ∈ recT known sent ms []) ∧ MapStay g W0 W'
theorem all_nil {kA sA : Option Addr} {kn kc sn sc : Nat} {A : Option Addr} {n c : Nat} (w : World) : Calls Tryz.prog 16 #[.pointer none, .slice kA kn kc, .slice sA sn sc, .slice A n c] w fun r w' => r = .returned (.slice none 0 0) ∧ w = w' := by
  go_enter Tryz.func16, Tryz.ntmps16
  go_wp2
  go_ret
  exact ⟨rfl, rfl⟩
theorem all_long {kA sA : Option Addr} {kn kc sn sc g : Nat} {A : Option Addr} {n c : Nat} (w : World) (hn : n ≤ 9223372036854775807) (h : ¬ n ≤ 64) : Calls Tryz.prog 16 #[.pointer (some ⟨g, 0, none⟩), .slice kA kn kc, .slice sA sn sc, .slice A n c] w fun r w' => r = .returned (.slice none 0 0) ∧ w = w' := by
  have cR := right_any (A := A) (c := c) w hn
  rw [decide_eq_false h] at cR
  replace cR := Lib.hid cR
  clear h hn
  go_enter Tryz.func16, Tryz.ntmps16
  go_wp2_with (go_at_call 35; refine cR.out.mono ?_; rintro r w1 ⟨rfl, rfl⟩)
  go_ret
  exact ⟨rfl, rfl⟩
noncomputable def ldO (a : Addr) : Sem Value := loadVar 79 a
theorem ldO_eq (a : Addr) : loadVar 79 a = ldO a := rfl
theorem ldO_run {w : World} {b o : Nat} {k a x e : Int} {s : List UInt8} (h : w.rangeAt b o (mkRow k a x e s)) : (ldO ⟨b, o, none⟩).run Tryz.prog w = .ok (.agg (mkRow k a x e s).toArray) w := by
  unfold ldO
  exact run_loadVar_mid (P := Tryz.prog) w b o 79 (mkRow k a x e s) _ h Tryz.underlying79 rfl (by kernel_rfl)
theorem stK_run {w : World} {q : Nat} {A : Option Addr} {n c : Nat} {g : Nat} {v1 v2 v3 : Value} (h : w.heap[q]? = some (.cells #[.pointer (some ⟨g, 0, none⟩), v1, v2, v3] 82 (0, 0))) :
    (do Instr.storeAt 28 (.pointer (some ⟨q, 3, none⟩)) (.slice A n c); pure Next.skip : Sem Next).run Tryz.prog w = .ok .skip (w.setCell ⟨q, 3, none⟩ (.slice A n c)) := by
  have c3 : w.cell? ⟨q, 3, none⟩ = some v3 := cell_of_row w q 3 _ _ _ h
  have f3 : w.frozen? ⟨q, 3, none⟩ = false := by simp [World.frozen?, h]
  go_simp
attribute [local go_sem ↓] ldO_eq
def dsKa : List (Option Nat) := [some 30, some 31, some 32, some 33, some 34, some 35, some 36, some 37, some 38, some 39, some 40, some 41, none]
def tbKa : List (List Nat) := [[], [], [1], [2], [3], [], [], [5, 6], [7], [4, 8], [0], [10], [9, 11]]
def vsKa (g : Nat) (q : Nat) (p : Nat) (mA : Option Addr) (mc : Nat) (j : Nat) (k : Int) (a : Int) (b2 : Int) (e2 : Int) (s : List UInt8) : List (Option Value) := [some (.pointer (some ⟨q, 0, none⟩)), some (.pointer (some ⟨q, 0, none⟩)), some (.pointer (some ⟨q, 0, none⟩)), some (.pointer (some ⟨q, 3, none⟩)), some (.slice mA j mc), some (.pointer (some ⟨q, 0, none⟩)), some (.agg (mkRow k a b2 e2 s).toArray), none, none, none, some (.pointer (some ⟨q, 0, none⟩)), some (.pointer (some ⟨q, 3, none⟩)), none]
set_option maxRecDepth 100000 in
set_option maxHeartbeats 8000000 in
theorem all_any {w0 W0 : World} {g : Nat} {L0 : List Tm} {kA sA A : Option Addr} {kn kc sn sc n c : Nat} {lk ls : List Int} {known sent : List (Option Tm)} (ms : List Mk) (hS : St w0 g W0 L0) (hL : L0.length + n ≤ 100 ∨ (L0.length < 100 ∧ ∀ t, some t ∈ recT known sent ms [] → t ∈ L0)) (hn : n ≤ 64) (hs : ∀ x ∈ ms, x.s.length ≤ 200) (hM : ∀ W, Below w0.heap.size w0 W → Stay W0 W → Rws W 5 A n (ms.map Mk.row))
    (hk : IdsT W0 kA kn lk) (hsn : IdsT W0 sA sn ls) (hkn : kn ≤ 1000) (hsn2 : sn ≤ 1000) (nk : NmL L0 lk known) (ns : NmL L0 ls sent) :
    Calls Tryz.prog 16 #[.pointer (some ⟨g, 0, none⟩), .slice kA kn kc, .slice sA sn sc, .slice A n c] W0 (AllR w0 W0 g L0 known sent ms) := by
  obtain ⟨j0, hj0, hj1, hj2, hj3⟩ := info_parts id_info
  have hml : ms.length = n := by have := (hM W0 hS.below (Stay.refl _)).1; simpa using this
  have hw := hS.below.size
  have hb1 := below_new W0 (.cells #[.pointer (some ⟨g, 0, none⟩), .slice kA kn kc, .slice sA sn sc, .slice none 0 0] 82)
  have hS1 := hS.keep hb1
  have hX0 : AllX w0 W0 g W0.heap.size kA sA kn kc sn sc lk ls known sent (.slice none 0 0) (.slice none 0 0) [] [] (W0.alloc (.cells #[.pointer (some ⟨g, 0, none⟩), .slice kA kn kc, .slice sA sn sc, .slice none 0 0] 82)) L0 :=
    ⟨hS1, heap_new W0 _, hk.stay (Stay.of_below hb1), hsn.stay (Stay.of_below hb1), OwnR.nil_ _ _ _ _, by
      obtain ⟨A, h1, _, H, _⟩ := hS1
      exact ⟨_, A, H, h1, fun x hx A' n' c' hv hn q hq hf => by simp [inV, Value.ownBlock] at hf⟩, nk, ns, NmL.nil_ L0, Nat.le_refl _, Stay.of_below hb1, hb1.size, MapStay.of_below hb1⟩
  have hkA := Lib.hid hk.ahead
  have hsA := Lib.hid hsn.ahead
  have cR := right_any (A := A) (n := n) (c := c) W0 (by omega)
  rw [decide_eq_true hn] at cR
  replace cR := Lib.hid cR
  replace hX0 := Lib.hid hX0
  have hmlh := Lib.hid hml
  have hMh := Lib.hid hM
  have hsh := Lib.hid hs
  have hwh := Lib.hid hw
  have hknh := Lib.hid (And.intro hkn hsn2)
  have hLh := Lib.hid hL
  clear hb1 hS1 hk hsn nk ns hml hM hs hw hS hkn hsn2 hL
  go_enter Tryz.func16, Tryz.ntmps16
  go_upto_region 4 with (first
    | (go_at_call 35; refine cR.out.mono ?_; rintro r w1 ⟨rfl, rfl⟩)
    | (refine wpList_build_as 82 _ rfl rfl #[.pointer (some ⟨g, 0, none⟩), .slice kA kn kc, .slice sA sn sc, .slice none 0 0] ?_ ?_; kernel_rfl)
    | (refine wpList_box_row 82 _ rfl rfl #[.pointer (some ⟨g, 0, none⟩), .slice kA kn kc, .slice sA sn sc, .slice none 0 0] rfl ?_))
  generalize (W0.alloc (.cells #[.pointer (some ⟨g, 0, none⟩), .slice kA kn kc, .slice sA sn sc, .slice none 0 0] 82)) = W1 at *
  obtain ⟨q, hq⟩ : ∃ q, q = W0.heap.size := ⟨_, rfl⟩
  have hX0 : Hid (AllX w0 W0 g q kA sA kn kc sn sc lk ls known sent (.slice none 0 0) (.slice none 0 0) [] [] W1 L0) := by rw [hq]; exact hX0.out
  rw [← hq]
  clear hq
  go_wp2_with fail
  have h0 : Hid (AllE L0 (recT known sent (ms.take 0) []) L0) := ⟨⟨[], by simp⟩, fun t h => .inl h⟩
  go_loopw [26] (fun iv wr => ∃ (j : Nat) (vM : Value) (l : List Int) (Lt : List Tm), j ≤ n ∧ iv = .int .i64 j ∧ Hid (AllX w0 W0 g q kA sA kn kc sn sc lk ls known sent vM vM l (recT known sent (ms.take j) []) wr Lt) ∧ Hid (AllE L0 (recT known sent (ms.take j) []) Lt) ∧ Hid (Lt.length ≤ L0.length + j)) (fun iv _ => n - (intOf iv).toNat)
  case atStart => exact ⟨0, _, [], L0, by omega, rfl, hX0, h0, Nat.le_refl _⟩
  case round =>
    clear hX0 h0
    obtain ⟨j, vM, l, Lt, hj, rfl, hX, hE, hl⟩ := hrel
    by_cases hlt : j < n
    · have hji : (j : Int) < (n : Int) := by omega
      obtain ⟨b, off, z, rfl, hb, hz', _, hr⟩ := (hMh.out wr hX.out.st.below hX.out.stay).row hlt
      obtain ⟨x, hx⟩ : ∃ x, ms[j]? = some x := ⟨ms[j]'(by have := hmlh.out; omega), List.getElem?_eq_getElem (by have := hmlh.out; omega)⟩
      rw [List.getElem?_map, hx] at hz'
      have hz' : x.row = z := Option.some.inj hz'
      subst hz'
      have hsx := hsh.out x (List.mem_of_getElem? hx)
      have hol : (recT known sent (ms.take j) []).length = j := by rw [recT_len, List.length_take]; have := hmlh.out; simp; omega
      have hll : l.length = j := hX.out.nm.len.trans hol
      obtain ⟨mA, mc, ev, _⟩ := hX.out.m.ints
      rw [hll] at ev
      subst ev
      obtain ⟨k, a, b2, e2, s⟩ := x
      have hnext := Lib.hid (recT_take (known := known) (sent := sent) hx)
      have hrow := hr
      obtain ⟨z0, b3, r3⟩ : (wr.alloc (.cells #[.int .i64 0, .int .i64 0, .int .i64 0, .int .i64 0, .string ⟨#[]⟩] 79)).heap[wr.heap.size]? = some (.cells #[.int .i64 0, .int .i64 0, .int .i64 0, .int .i64 0, .string ⟨#[]⟩] 79 (0, 0)) ∧ Below wr.heap.size wr ((wr.alloc (.cells #[.int .i64 0, .int .i64 0, .int .i64 0, .int .i64 0, .string ⟨#[]⟩] 79)).setRow wr.heap.size (mkRow k a b2 e2 s).toArray) ∧ ((wr.alloc (.cells #[.int .i64 0, .int .i64 0, .int .i64 0, .int .i64 0, .string ⟨#[]⟩] 79)).setRow wr.heap.size (mkRow k a b2 e2 s).toArray).heap[wr.heap.size]? = some (.cells (mkRow k a b2 e2 s).toArray 79 (0, 0)) :=
        ⟨heap_new wr _, below_setRow_ (below_new wr _) (Nat.le_refl _) _, hsetRow _ _ _ _ _ _ (heap_new wr _)⟩
      have hz0 := Lib.hid z0
      have hb3 := Lib.hid b3
      have hr3 := Lib.hid r3
      have hrowh := Lib.hid hrow
      have hollh := Lib.hid (And.intro hol hll)
      clear hr hx hol hll z0 b3 r3 hrow hz'
      go_upto_region 7 with (first
        | (refine wpList_load_at 79 _ rfl rfl b (off + j * 5) rfl (mkRow k a b2 e2 s) _ hrowh.out Tryz.underlying79 rfl (by kernel_rfl) ?_)
        | (refine wpList_store_at 79 _ _ rfl rfl wr.heap.size (mkRow k a b2 e2 s).toArray rfl rfl 79 #[.int .i64 0, .int .i64 0, .int .i64 0, .int .i64 0, .string ⟨#[]⟩] hz0.out (by kernel_rfl) rfl (by simp [mkRow, Value.oneCell']) ?_))
      replace hb3 := hb3.out
      replace hr3 := hr3.out
      dsimp only [Act.put]
      generalize (wr.alloc (.cells #[.int .i64 0, .int .i64 0, .int .i64 0, .int .i64 0, .string ⟨#[]⟩] 79)).setRow wr.heap.size (mkRow k a b2 e2 s).toArray = W5 at *
      have hX5 := Lib.hid (hX.out.below hb3)
      have hrow5 := Lib.hid (fun W' (h : Below W5.heap.size W5 W') => rangeAt_keep (rangeAt_list hr3) h (Array.getElem?_eq_some_iff.1 hr3).1)
      have hEh := hE
      have hlh := hl
      have hsxh := Lib.hid (show s.length ≤ 200 from hsx)
      obtain ⟨o, ho⟩ : ∃ o, stepT known sent (recT known sent (ms.take j) []) ⟨k, a, b2, e2, s⟩ = o := ⟨_, rfl⟩
      have hoh := Lib.hid ho
      clear hz0 hrowh hX hE hl hsx hr3 hb3 ho
      refine region_iw tbKa dsKa (vsKa g q (wr.heap.size) mA mc j k a b2 e2 s) (fun L T W => (L 7 = false → Below W5.heap.size W5 W ∧ AllX w0 W0 g q kA sA kn kc sn sc lk ls known sent (.slice mA j mc) (.slice mA j mc) l (recT known sent (ms.take j) []) W Lt) ∧ (L 7 = true → L 8 = false → ∃ (L' : List Tm) (x' : Int), T.getD 37 undef = .int .i64 x' ∧ AllX w0 W0 g q kA sA kn kc sn sc lk ls known sent (.slice mA j mc) (.slice mA j mc) l (recT known sent (ms.take j) []) W L' ∧ Nm L' x' o ∧ AllE L0 (recT known sent (ms.take j) [] ++ [o]) L' ∧ L'.length ≤ L0.length + (j + 1)) ∧ (L 8 = true → L 9 = false → ∃ (L' : List Tm) (x' : Int) (g1 : Nat), T.getD 38 undef = .slice (some ⟨g1, 0, none⟩) 1 1 ∧ W.rangeAt g1 0 [.int .i64 x'] ∧ AllX w0 W0 g q kA sA kn kc sn sc lk ls known sent (.slice mA j mc) (.slice mA j mc) l (recT known sent (ms.take j) []) W L' ∧ Nm L' x' o ∧ AllE L0 (recT known sent (ms.take j) [] ++ [o]) L' ∧ L'.length ≤ L0.length + (j + 1)) ∧ (L 9 = true → L 12 = false → ∃ (L' : List Tm) (x' : Int), AllX w0 W0 g q kA sA kn kc sn sc lk ls known sent (.slice mA j mc) (T.getD 39 undef) (l ++ [x']) ((recT known sent (ms.take j) []) ++ [o]) W L' ∧ AllE L0 (recT known sent (ms.take j) [] ++ [o]) L' ∧ L'.length ≤ L0.length + (j + 1)) ∧ (L 12 = true → ∃ (L' : List Tm) (x' : Int), AllX w0 W0 g q kA sA kn kc sn sc lk ls known sent (T.getD 39 undef) (T.getD 39 undef) (l ++ [x']) ((recT known sent (ms.take j) []) ++ [o]) W L' ∧ AllE L0 (recT known sent (ms.take j) [] ++ [o]) L' ∧ L'.length ≤ L0.length + (j + 1))) rfl (by decide) (by kernel_rfl) ?hlt ?hstep ?hdone ?hstart
      case hstart => exact ⟨fun _ => ⟨drewN_below 1, hX5.out.below (drewN_below 1)⟩, fun h => absurd h (inv_not (n := 13) (i := 7) (by decide)), fun h => absurd h (inv_not (n := 13) (i := 8) (by decide)), fun h => absurd h (inv_not (n := 13) (i := 9) (by decide)), fun h => absurd h (inv_not (n := 13) (i := 12) (by decide))⟩
      case hlt =>
        intro ix o ho
        have hi := (Array.getElem?_eq_some_iff.1 ho).1
        match ix, hi with
        | 0, _ => obtain rfl := Option.some.inj ho; decide
        | 1, _ => obtain rfl := Option.some.inj ho; decide
        | 2, _ => obtain rfl := Option.some.inj ho; decide
        | 3, _ => obtain rfl := Option.some.inj ho; decide
        | 4, _ => obtain rfl := Option.some.inj ho; decide
        | 5, _ => obtain rfl := Option.some.inj ho; decide
        | 6, _ => obtain rfl := Option.some.inj ho; decide
        | 7, _ => obtain rfl := Option.some.inj ho; decide
        | 8, _ => obtain rfl := Option.some.inj ho; decide
        | 9, _ => obtain rfl := Option.some.inj ho; decide
        | 10, _ => obtain rfl := Option.some.inj ho; decide
        | 11, _ => obtain rfl := Option.some.inj ho; decide
        | 12, _ => obtain rfl := Option.some.inj ho; decide
      case hstep =>
        intro T1 hE L T W ix o hF hW hc ho hLi hd K hK
        have hN : T1.size = 47 := by rw [hE]; rfl
        have f9 : T.getD 9 undef = .pointer (some ⟨q, 0, none⟩) := (hF.old 9 (by decide)).trans (by rw [hE]; rfl)
        have f11 : T.getD 11 undef = .pointer (some ⟨(wr.heap.size), 0, none⟩) := (hF.old 11 (by decide)).trans (by rw [hE]; rfl)
        clear hE
        replace hF := Lib.hid hF
        replace hW := Lib.hid hW
        replace hK := Lib.hid hK
        have hi := (List.getElem?_eq_some_iff.1 ho).1
        match ix, hi with
        | 0, _ =>
          obtain rfl := Option.some.inj ho
          clear hd ho hi hc hLi
          exact st_val (v := .pointer (some ⟨q, 0, none⟩)) (w' := W) (want_none rfl) (by unfold execOp; dsimp only [Act.eval]; simp only [f9]; go_simp) (hK.out _ _ (hF.out.put (k := 0) (s := 30) rfl (by decide) hN (by decide) (fun u_v hu => Option.some.inj (Option.some.inj (show some (some (.pointer (some ⟨q, 0, none⟩))) = some (some u_v) from hu))) (by dsimp only; rw [gd_ne (show 30 ≠ 37 by decide), gd_ne (show 30 ≠ 38 by decide), gd_ne (show 30 ≠ 39 by decide)]; exact hW.out)))
        | 1, _ =>
          obtain rfl := Option.some.inj ho
          clear hd ho hi hc hLi
          exact st_val (v := .pointer (some ⟨q, 0, none⟩)) (w' := W) (want_none rfl) (by unfold execOp; dsimp only [Act.eval]; simp only [f9]; go_simp) (hK.out _ _ (hF.out.put (k := 1) (s := 31) rfl (by decide) hN (by decide) (fun u_v hu => Option.some.inj (Option.some.inj (show some (some (.pointer (some ⟨q, 0, none⟩))) = some (some u_v) from hu))) (by dsimp only; rw [gd_ne (show 31 ≠ 37 by decide), gd_ne (show 31 ≠ 38 by decide), gd_ne (show 31 ≠ 39 by decide)]; exact hW.out)))
        | 2, _ =>
          obtain rfl := Option.some.inj ho
          have l1 : L 1 = true := dep_of hd (n := 1) (by decide)
          have e31 : T.getD 31 undef = .pointer (some ⟨q, 0, none⟩) := hF.out.val 1 31 _ l1 rfl rfl
          clear hd ho hi hc hLi
          exact st_val (v := .pointer (some ⟨q, 0, none⟩)) (w' := W) (want_none rfl) (by unfold execOp; dsimp only [Act.eval]; simp only [e31]; go_simp) (hK.out _ _ (hF.out.put (k := 2) (s := 32) rfl (by decide) hN (by decide) (fun u_v hu => Option.some.inj (Option.some.inj (show some (some (.pointer (some ⟨q, 0, none⟩))) = some (some u_v) from hu))) (by dsimp only; rw [gd_ne (show 32 ≠ 37 by decide), gd_ne (show 32 ≠ 38 by decide), gd_ne (show 32 ≠ 39 by decide)]; exact hW.out)))
        | 3, _ =>
          obtain rfl := Option.some.inj ho
          have l2 : L 2 = true := dep_of hd (n := 2) (by decide)
          have e32 : T.getD 32 undef = .pointer (some ⟨q, 0, none⟩) := hF.out.val 2 32 _ l2 rfl rfl
          clear hd ho hi hc hLi
          exact st_val (v := .pointer (some ⟨q, 3, none⟩)) (w' := W) (want_none rfl) (by unfold execOp; dsimp only [Act.eval]; simp only [e32]; go_simp) (hK.out _ _ (hF.out.put (k := 3) (s := 33) rfl (by decide) hN (by decide) (fun u_v hu => Option.some.inj (Option.some.inj (show some (some (.pointer (some ⟨q, 3, none⟩))) = some (some u_v) from hu))) (by dsimp only; rw [gd_ne (show 33 ≠ 37 by decide), gd_ne (show 33 ≠ 38 by decide), gd_ne (show 33 ≠ 39 by decide)]; exact hW.out)))
        | 4, _ =>
          obtain rfl := Option.some.inj ho
          have l3 : L 3 = true := dep_of hd (n := 3) (by decide)
          have e33 : T.getD 33 undef = .pointer (some ⟨q, 3, none⟩) := hF.out.val 3 33 _ l3 rfl rfl
          have hq3 : W.cell? ⟨q, 3, none⟩ = some (.slice mA j mc) := by
            have n9 : ¬ L 9 = true := fun h => by have := hc 9 4 h (by decide); rw [hLi] at this; cases this
            have n12 : ¬ L 12 = true := fun h => n9 (hc 12 9 h (by decide))
            have hblk : W.heap[q]? = some (.cells #[.pointer (some ⟨g, 0, none⟩), .slice kA kn kc, .slice sA sn sc, .slice mA j mc] 82 (0, 0)) := by
              by_cases h7 : L 7 = true
              · by_cases h8 : L 8 = true
                · obtain ⟨L', x', g1, _, _, hx, _⟩ := hW.out.2.2.1 h8 (by simpa using n9)
                  exact hx.blk
                · obtain ⟨L', x', _, hx, _⟩ := hW.out.2.1 h7 (by simpa using h8)
                  exact hx.blk
              · exact (hW.out.1 (by simpa using h7)).2.blk
            exact cell_of_row W q 3 _ _ _ hblk
          clear hd ho hi hc
          exact st_val (v := .slice mA j mc) (w' := W) (want_none rfl) (by unfold execOp; dsimp only [Act.eval]; simp only [e33]; go_simp) (hK.out _ _ (hF.out.put (k := 4) (s := 34) rfl (by decide) hN (by decide) (fun u_v hu => Option.some.inj (Option.some.inj (show some (some (.slice mA j mc)) = some (some u_v) from hu))) (by dsimp only; rw [gd_ne (show 34 ≠ 37 by decide), gd_ne (show 34 ≠ 38 by decide), gd_ne (show 34 ≠ 39 by decide)]; exact hW.out)))
        | 5, _ =>
          obtain rfl := Option.some.inj ho
          clear hd ho hi hc hLi
          exact st_val (v := .pointer (some ⟨q, 0, none⟩)) (w' := W) (want_none rfl) (by unfold execOp; dsimp only [Act.eval]; simp only [f9]; go_simp) (hK.out _ _ (hF.out.put (k := 5) (s := 35) rfl (by decide) hN (by decide) (fun u_v hu => Option.some.inj (Option.some.inj (show some (some (.pointer (some ⟨q, 0, none⟩))) = some (some u_v) from hu))) (by dsimp only; rw [gd_ne (show 35 ≠ 37 by decide), gd_ne (show 35 ≠ 38 by decide), gd_ne (show 35 ≠ 39 by decide)]; exact hW.out)))
        | 6, _ =>
          obtain rfl := Option.some.inj ho
          have n7 : L 7 = false := by cases h : L 7 with | false => rfl | true => exact absurd ((hc 7 6 h (by decide)).symm.trans hLi) (by decide)
          have hld := ldO_run (hrow5.out W (hW.out.1 n7).1)
          clear hd ho hi hc
          exact st_val (v := .agg (mkRow k a b2 e2 s).toArray) (w' := W) (want_none rfl) (by unfold execOp; dsimp only [Act.eval]; simp only [f11]; go_simp) (hK.out _ _ (hF.out.put (k := 6) (s := 36) rfl (by decide) hN (by decide) (fun u_v hu => Option.some.inj (Option.some.inj (show some (some (.agg (mkRow k a b2 e2 s).toArray)) = some (some u_v) from hu))) (by dsimp only; rw [gd_ne (show 36 ≠ 37 by decide), gd_ne (show 36 ≠ 38 by decide), gd_ne (show 36 ≠ 39 by decide)]; exact hW.out)))
        | 7, _ =>
          obtain rfl := Option.some.inj ho
          have l5 : L 5 = true := dep_of hd (n := 5) (by decide)
          have e35 : T.getD 35 undef = .pointer (some ⟨q, 0, none⟩) := hF.out.val 5 35 _ l5 rfl rfl
          have l6 : L 6 = true := dep_of hd (n := 6) (by decide)
          have e36 : T.getD 36 undef = .agg (mkRow k a b2 e2 s).toArray := hF.out.val 6 36 _ l6 rfl rfl
          have n8 : ¬ L 8 = true := fun h => by have := hc 8 7 h (by decide); rw [hLi] at this; cases this
          have n9 : ¬ L 9 = true := fun h => n8 (hc 9 8 h (by decide))
          have n12 : ¬ L 12 = true := fun h => n9 (hc 12 9 h (by decide))
          have h0 := hW.out.1 hLi
          have cc := Lib.hid (step_any (h0.2.ks rfl hknh.out.1 hknh.out.2 (by have := hollh.out.2; omega) hollh.out.2.symm) (all_few hLh.out hEh.out hlh.out hlt h0.2.st.good.once) k a b2 e2 s (by have := hsxh.out; omega))
          rw [hoh.out] at cc
          have h0h := Lib.hid h0
          clear h0
          clear hd ho hi hc
          refine st_call (want_none rfl) (by unfold execOp; go_simp) cc.out ?_
          rintro r w3 ⟨L', x', rfl, a1, a2, a3, a4, a5, a6⟩
          exact ⟨_, rfl, hK.out _ _ (hF.out.put (k := 7) (s := 37) rfl (by decide) hN (by decide) (fun u hu => by cases hu) ⟨fun h => absurd h (by simp), fun _ _ => ⟨L', x', gd_eq (by rw [hF.out.size, hN]; decide), h0h.out.2.step a1 a2 a4 a6 a5, a3, hEh.out.step a2, (by have := a2.len; have := hlh.out; omega)⟩, fun h => absurd h n8, fun h => absurd h n9, fun h => absurd h n12⟩)⟩
        | 8, _ =>
          obtain rfl := Option.some.inj ho
          have l7 : L 7 = true := dep_of hd (n := 7) (by decide)
          have n9 : ¬ L 9 = true := fun h => by have := hc 9 8 h (by decide); rw [hLi] at this; cases this
          have n12 : ¬ L 12 = true := fun h => n9 (hc 12 9 h (by decide))
          obtain ⟨L', x', e37, hx, hn, hE1, hE2⟩ := hW.out.2.1 l7 hLi
          have hbn := below_new W (.cells #[.int .i64 x'] 33)
          have hrw := rangeAt_list (heap_new W (.cells [Value.int .i64 x'].toArray 33))
          have hall := Lib.hid (And.intro (hx.below hbn) (And.intro hn (And.intro hE1 (And.intro hE2 hrw))))
          have hl7 := Lib.hid l7
          clear hx hn hE1 hE2 hrw hbn
          clear hd ho hi hc
          exact st_val (v := .slice (some ⟨W.heap.size, 0, none⟩) 1 1) (w' := W.alloc (.cells #[.int .i64 x'] 33)) (want_none rfl) (by unfold execOp; simp only [List.map_toArray, List.map_cons, List.map_nil, Act.eval, e37]; go_simp) (hK.out _ _ (hF.out.put (k := 8) (s := 38) rfl (by decide) hN (by decide) (fun u hu => by cases hu) ⟨fun h => absurd ((show L 7 = false from h).symm.trans hl7.out) (by decide), fun _ h => absurd h (by simp), fun _ _ => ⟨L', x', W.heap.size, gd_eq (by rw [hF.out.size, hN]; decide), hall.out.2.2.2.2, hall.out.1, hall.out.2.1, hall.out.2.2.1, hall.out.2.2.2.1⟩, fun h => absurd h n9, fun h => absurd h n12⟩))
        | 9, _ =>
          obtain rfl := Option.some.inj ho
          have l4 : L 4 = true := dep_of hd (n := 4) (by decide)
          have e34 : T.getD 34 undef = .slice mA j mc := hF.out.val 4 34 _ l4 rfl rfl
          have l8 : L 8 = true := dep_of hd (n := 8) (by decide)
          have n12 : ¬ L 12 = true := fun h => by have := hc 12 9 h (by decide); rw [hLi] at this; cases this
          obtain ⟨L', x', g1, e38, hrw, hx, hn, hE1, hE2⟩ := hW.out.2.2.1 l8 hLi
          have hl8 := Lib.hid l8
          have hl7 := Lib.hid (hc 8 7 l8 (by decide))
          clear hd ho hi hc
          refine st_append (want_none rfl) _ _ 28 rfl 33 j0 _ 1 8 Tryz.underlying28 hj0 hj1 hj2 hj3 rfl (by decide) W0.heap.size hx.sz (.slice mA j mc) (l.map iv) (show T.getD 34 undef = _ from e34) hx.m g1 1 [.int .i64 x'] (show T.getD 38 undef = _ from e38) hrw rfl (by simp; rfl) (by rw [List.length_map, hollh.out.2]; unfold maxLen; omega) (by rw [List.length_map, hollh.out.2]; omega) ?_
          intro v' w3 hO2 hg hat
          exact hK.out _ _ (hF.out.put (k := 9) (s := 39) rfl (by decide) hN (by decide) (fun u hu => by cases hu) ⟨fun h => absurd ((show L 7 = false from h).symm.trans hl7.out) (by decide), fun _ h => absurd ((show L 8 = false from h).symm.trans hl8.out) (by decide), fun _ h => absurd h (by simp), fun _ _ => ⟨L', x', (by rw [gd_eq (by rw [hF.out.size, hN]; decide)]; exact hx.app hwh.out hkA.out hsA.out hn hO2 hg hat), hE1, hE2⟩, fun h => absurd h n12⟩)
        | 10, _ =>
          obtain rfl := Option.some.inj ho
          have l0 : L 0 = true := dep_of hd (n := 0) (by decide)
          have e30 : T.getD 30 undef = .pointer (some ⟨q, 0, none⟩) := hF.out.val 0 30 _ l0 rfl rfl
          clear hd ho hi hc hLi
          exact st_val (v := .pointer (some ⟨q, 0, none⟩)) (w' := W) (want_none rfl) (by unfold execOp; dsimp only [Act.eval]; simp only [e30]; go_simp) (hK.out _ _ (hF.out.put (k := 10) (s := 40) rfl (by decide) hN (by decide) (fun u_v hu => Option.some.inj (Option.some.inj (show some (some (.pointer (some ⟨q, 0, none⟩))) = some (some u_v) from hu))) (by dsimp only; rw [gd_ne (show 40 ≠ 37 by decide), gd_ne (show 40 ≠ 38 by decide), gd_ne (show 40 ≠ 39 by decide)]; exact hW.out)))
        | 11, _ =>
          obtain rfl := Option.some.inj ho
          have l10 : L 10 = true := dep_of hd (n := 10) (by decide)
          have e40 : T.getD 40 undef = .pointer (some ⟨q, 0, none⟩) := hF.out.val 10 40 _ l10 rfl rfl
          clear hd ho hi hc hLi
          exact st_val (v := .pointer (some ⟨q, 3, none⟩)) (w' := W) (want_none rfl) (by unfold execOp; dsimp only [Act.eval]; simp only [e40]; go_simp) (hK.out _ _ (hF.out.put (k := 11) (s := 41) rfl (by decide) hN (by decide) (fun u_v hu => Option.some.inj (Option.some.inj (show some (some (.pointer (some ⟨q, 3, none⟩))) = some (some u_v) from hu))) (by dsimp only; rw [gd_ne (show 41 ≠ 37 by decide), gd_ne (show 41 ≠ 38 by decide), gd_ne (show 41 ≠ 39 by decide)]; exact hW.out)))
        | 12, _ =>
          obtain rfl := Option.some.inj ho
          have l9 : L 9 = true := dep_of hd (n := 9) (by decide)
          have l11 : L 11 = true := dep_of hd (n := 11) (by decide)
          have e41 : T.getD 41 undef = .pointer (some ⟨q, 3, none⟩) := hF.out.val 11 41 _ l11 rfl rfl
          obtain ⟨L', x', hx, hE1, hE2⟩ := hW.out.2.2.2.1 l9 hLi
          have hl9 := Lib.hid l9
          have hl8 := Lib.hid (hc 9 8 l9 (by decide))
          have hl7 := Lib.hid (hc 8 7 hl8.out (by decide))
          obtain ⟨v9, e39⟩ : ∃ v, T.getD 39 undef = v := ⟨_, rfl⟩
          rw [e39] at hx
          have hx2 := hx.store hwh.out
          obtain ⟨A9, c9, ev9, _⟩ := hx.m.ints
          have hbk := hx.blk
          have hx2h := Lib.hid hx2
          clear hx hx2
          clear hd ho hi hc
          exact st_do (w' := W.setCell ⟨q, 3, none⟩ v9) (want_none rfl) (by unfold execOp; dsimp only [Act.eval]; simp only [e41, e39]; subst ev9; exact stK_run hbk) (hK.out _ _ (hF.out.pass (k := 12) rfl ⟨fun h => absurd ((show L 7 = false from h).symm.trans hl7.out) (by decide), fun _ h => absurd ((show L 8 = false from h).symm.trans hl8.out) (by decide), fun _ h => absurd ((show L 9 = false from h).symm.trans hl9.out) (by decide), fun _ h => absurd h (by simp), fun _ => ⟨L', x', (by rw [e39]; exact hx2h.out), hE1, hE2⟩⟩))
      case hdone =>
        intro L T W2 hF hW hall
        obtain ⟨L', x', hx, hE1, hE2⟩ := hW.2.2.2.2 (hall 12 (by decide))
        obtain ⟨z37, e37⟩ : ∃ z, T.getD 37 undef = z := ⟨_, rfl⟩
        obtain ⟨z38, e38⟩ : ∃ z, T.getD 38 undef = z := ⟨_, rfl⟩
        obtain ⟨z39, e39⟩ : ∃ z, T.getD 39 undef = z := ⟨_, rfl⟩
        rw [e39] at hx
        have hT : T = #[.pointer (some ⟨g, 0, none⟩), .slice kA kn kc, .slice sA sn sc, .slice (some ⟨b, off, none⟩) n c, undef, undef, undef, undef, .slice none 0 0, .pointer (some ⟨q, 0, none⟩), undef, .pointer (some ⟨(wr.heap.size), 0, none⟩), .pointer (some ⟨g, 0, none⟩), .bool false, .bool false, .slice (some ⟨b, off, none⟩) n c, .bool true, .bool false, .bool false, .pointer (some ⟨g, 0, none⟩), .slice kA kn kc, .slice sA sn sc, .agg #[.pointer (some ⟨g, 0, none⟩), .slice kA kn kc, .slice sA sn sc, .slice none 0 0], .pointer (some ⟨q, 0, none⟩), .slice (some ⟨b, off, none⟩) n c, .int .i64 ↑n, .int .i64 ↑j, .bool true, .pointer (some ⟨b, off + j * 5, none⟩), .agg (mkRow k a b2 e2 s).toArray, .pointer (some ⟨q, 0, none⟩), .pointer (some ⟨q, 0, none⟩), .pointer (some ⟨q, 0, none⟩), .pointer (some ⟨q, 3, none⟩), .slice mA j mc, .pointer (some ⟨q, 0, none⟩), .agg (mkRow k a b2 e2 s).toArray, z37, z38, z39, .pointer (some ⟨q, 0, none⟩), .pointer (some ⟨q, 3, none⟩), u42, undef, undef, undef, undef] := (hF.fin [(30, .pointer (some ⟨q, 0, none⟩)), (31, .pointer (some ⟨q, 0, none⟩)), (32, .pointer (some ⟨q, 0, none⟩)), (33, .pointer (some ⟨q, 3, none⟩)), (34, .slice mA j mc), (35, .pointer (some ⟨q, 0, none⟩)), (36, .agg (mkRow k a b2 e2 s).toArray), (37, z37), (38, z38), (39, z39), (40, .pointer (some ⟨q, 0, none⟩)), (41, .pointer (some ⟨q, 3, none⟩))] [30, 31, 32, 33, 34, 35, 36, 37, 38, 39, 40, 41] rfl (List.forall_mem_cons.2 ⟨hF.val 0 _ _ (hall 0 (show 0 < 13 by decide)) rfl rfl, (List.forall_mem_cons.2 ⟨hF.val 1 _ _ (hall 1 (show 1 < 13 by decide)) rfl rfl, (List.forall_mem_cons.2 ⟨hF.val 2 _ _ (hall 2 (show 2 < 13 by decide)) rfl rfl, (List.forall_mem_cons.2 ⟨hF.val 3 _ _ (hall 3 (show 3 < 13 by decide)) rfl rfl, (List.forall_mem_cons.2 ⟨hF.val 4 _ _ (hall 4 (show 4 < 13 by decide)) rfl rfl, (List.forall_mem_cons.2 ⟨hF.val 5 _ _ (hall 5 (show 5 < 13 by decide)) rfl rfl, (List.forall_mem_cons.2 ⟨hF.val 6 _ _ (hall 6 (show 6 < 13 by decide)) rfl rfl, (List.forall_mem_cons.2 ⟨e37, (List.forall_mem_cons.2 ⟨e38, (List.forall_mem_cons.2 ⟨e39, (List.forall_mem_cons.2 ⟨hF.val 10 _ _ (hall 10 (show 10 < 13 by decide)) rfl rfl, (List.forall_mem_cons.2 ⟨hF.val 11 _ _ (hall 11 (show 11 < 13 by decide)) rfl rfl, (fun _ h => absurd h List.not_mem_nil)⟩)⟩)⟩)⟩)⟩)⟩)⟩)⟩)⟩)⟩)⟩)⟩) (by decide)).trans (by kernel_rfl)
        clear hF hall
        subst hT
        have hxh : Hid (AllX w0 W0 g q kA sA kn kc sn sc lk ls known sent z39 z39 (l ++ [x']) (recT known sent (ms.take (j + 1)) []) W2 L') := by rw [hnext.out, hoh.out]; exact hx
        have hE1h : Hid (AllE L0 (recT known sent (ms.take (j + 1)) []) L') := by rw [hnext.out, hoh.out]; exact hE1
        have hE2h := Lib.hid hE2
        clear hx hE1 hE2 hW e37 e38 e39
        go_wp2_with fail
        go_roundw
        case rel => exact ⟨j + 1, z39, _, L', by omega, by go_num, hxh, hE1h, hE2h⟩
        case measure => simp [intOf]; omega
    · have hjn : j = n := by omega
      subst hjn
      have hres : Hid (AllR w0 W0 g L0 known sent ms (.returned vM) wr) := by
        have h1 := hX.out
        rw [List.take_of_length_le (Nat.le_of_eq hmlh.out)] at h1
        have h2 := hE.out
        rw [List.take_of_length_le (Nat.le_of_eq hmlh.out)] at h2
        exact ⟨vM, l, Lt, rfl, h1.st, h2.1, by have := hl.out; have := hmlh.out; omega, h1.m, h1.nm, h1.stay, h1.sz, h2.2, h1.maps⟩
      have c3 := cell_of_row wr q 3 _ _ _ hX.out.blk
      have c3 : wr.cell? ⟨q, 3, none⟩ = some vM := c3
      obtain ⟨A9, c9, ev9, _⟩ := hX.out.m.ints
      clear hX hE hl hlt
      subst ev9
      go_wp2_with fail
      go_ret
      exact hres.out
end Go.Proofs.YtphnakdgpilcmaaGreatDoor
