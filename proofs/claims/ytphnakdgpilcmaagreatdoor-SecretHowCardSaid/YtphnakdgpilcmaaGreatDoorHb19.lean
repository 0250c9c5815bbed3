/- A mind: one term more (add). (printed by wip/gen_scv.py) -/
import Derived.Test.YtphnakdgpilcmaaGreatDoorHb18
import Derived.StillTailTactics
namespace Go.Proofs.YtphnakdgpilcmaaGreatDoor
open Go.RowKit Go.Maps
open Classical in
/-- One more item, if its term is there and not had yet. -/
noncomputable def addI (L : List Tm) (its : List It) (x : It) : List It := if x.t ∉ itsT its ∧ get L x.t ≠ none then its ++ [x] else its
open Classical in
noncomputable def addL (ls : List Tm) : Option Tm → List Tm
  | none => ls
  | some t => if t ∈ ls then ls else ls ++ [t]
theorem nodup_le : ∀ {l m : List Tm}, l.Nodup → (∀ x ∈ l, x ∈ m) → l.length ≤ m.length
  | [], _, _, _ => Nat.zero_le _
  | x :: l, m, hn, hs => by
    classical
    have hx := hs x (by simp)
    have hn' := List.nodup_cons.1 hn
    have h1 : l.length ≤ (m.erase x).length := nodup_le hn'.2 fun y hy => (List.mem_erase_of_ne (fun e => hn'.1 (by rw [← e]; exact hy))).2 (hs y (by simp [hy]))
    have h2 := List.length_erase_of_mem hx
    have h3 : 0 < m.length := List.length_pos_of_mem hx
    simp only [List.length_cons]
    omega
theorem Named.in_ {L : List Tm} {its : List It} {ls : List Tm} (h : Named L its ls) : ∀ t ∈ ls, t ∈ L := fun t ht => by
  obtain ⟨j, hj⟩ := List.getElem?_of_mem ht
  obtain ⟨i, _, hg⟩ := h.back hj
  exact get_mem hg
theorem Named.le {L : List Tm} {its : List It} {ls : List Tm} (h : Named L its ls) (hn : ls.Nodup) : its.length ≤ L.length := by rw [h.len]; exact nodup_le hn h.in_
theorem Named.mem {L : List Tm} {its : List It} {ls : List Tm} (h : Named L its ls) (hL : L.Nodup) {x : Int} {t : Tm} (hx : get L x = some t) : x ∈ itsT its ↔ t ∈ ls := by
  have := h.has hL hx ls.length
  rw [hasM_iff] at this
  have e : (itsT its).length ≤ ls.length := by unfold itsT; rw [List.length_map, h.len]; exact Nat.le_refl _
  rwa [List.take_of_length_le e, List.take_of_length_le (Nat.le_refl _)] at this
open Classical in
theorem Named.add {L : List Tm} {its : List It} {ls : List Tm} (h : Named L its ls) (hL : L.Nodup) (hn : ls.Nodup) (x : It) : Named L (addI L its x) (addL ls (get L x.t)) ∧ (addL ls (get L x.t)).Nodup := by
  unfold addI
  cases hg : get L x.t with
  | none => rw [if_neg (by simp)]; exact ⟨h, hn⟩
  | some t =>
    have hm := h.mem hL hg
    by_cases ht : t ∈ ls
    · rw [if_neg (fun q => q.1 (hm.2 ht))]
      show Named L its (if t ∈ ls then ls else ls ++ [t]) ∧ _
      rw [show addL ls (some t) = ls from if_pos ht]
      rw [if_pos ht]
      exact ⟨h, hn⟩
    · rw [if_pos ⟨fun q => ht (hm.1 q), by simp⟩, show addL ls (some t) = ls ++ [t] from if_neg ht]
      refine ⟨?_, ?_⟩
      · unfold Named at h ⊢
        rw [List.map_append, List.map_append, h]
        simp [hg]
      · rw [List.nodup_append]
        exact ⟨hn, by simp, fun a ha b hb => by rw [List.mem_singleton.1 hb]; exact fun e => ht (by rw [← e]; exact ha)⟩
/-- Blocks of other types than a mind's and its items' stay. -/
def StayM (w w' : World) : Prop := ∀ (q : Nat) (cur : Array Value) (t : TypeId) (fr : Nat × Nat), w.heap[q]? = some (.cells cur t fr) → t ≠ 72 → t ≠ 75 → w'.heap[q]? = some (.cells cur t fr)
theorem StayM.refl (w : World) : StayM w w := fun _ _ _ _ h _ _ => h
theorem StayM.trans {a b c : World} (h : StayM a b) (k : StayM b c) : StayM a c := fun q cur t fr hq h1 h2 => k q cur t fr (h q cur t fr hq h1 h2) h1 h2
theorem StayM.of_below {w w' : World} (h : Below w.heap.size w w') : StayM w w' := fun q _ _ _ hq _ _ => (h.block q (Array.getElem?_eq_some_iff.1 hq).1).trans hq
theorem StayM.of_grown {w w' : World} {row : Option Nat} {E : TypeId} (hg : w.grownBy w' row) (hr : ∀ q, row = some q → Typ w q E) (hE : E = 72 ∨ E = 75) : StayM w w' := fun q cur t fr hq h1 h2 =>
  (hg.block q (Array.getElem?_eq_some_iff.1 hq).1 fun e => (hr q e.symm).ne ⟨_, _, hq⟩ (hE.elim (fun e h => h1 (h.symm.trans e)) fun e h => h2 (h.symm.trans e)) rfl).trans hq
theorem IMap.blk {w w' : World} {b n q : Nat} {f : Int → Option Int} {cur : Array Value} {t : TypeId} {fr : Nat × Nat} (hI : IMap w b n f) (hg : w.grownBy w' (some b)) (hq : w.heap[q]? = some (.cells cur t fr)) : w'.heap[q]? = some (.cells cur t fr) := by
  obtain ⟨D, ⟨es, cl, hb, _⟩, _⟩ := hI
  exact (hg.block q (Array.getElem?_eq_some_iff.1 hq).1 fun e => by
    injection e with e
    subst e
    rw [hb] at hq
    cases hq).trans hq
theorem StayM.of_map {w w' : World} {b n : Nat} {f : Int → Option Int} (hI : IMap w b n f) (hg : w.grownBy w' (some b)) : StayM w w' := fun q cur t fr hq _ _ => by
  obtain ⟨D, ⟨es, cl, hb, _⟩, _⟩ := hI
  exact (hg.block q (Array.getElem?_eq_some_iff.1 hq).1 fun e => by
    injection e with e
    subst e
    rw [hb] at hq
    cases hq).trans hq
theorem IMap.grownT {w w' : World} {row : Option Nat} {b n : Nat} {f : Int → Option Int} {E : TypeId} (h : IMap w b n f) (hg : w.grownBy w' row) (hr : ∀ q, row = some q → Typ w q E) : IMap w' b n f := h.kept hg fun e => by
  obtain ⟨D, ⟨es, cl, hb, _⟩, _⟩ := h
  exact (hr b e.symm).no_map hb rfl
theorem item_info : (Tryz.prog.info? 75).map (fun i => (i.zero, i.size, i.bytes)) = some (some (.agg #[.int .i64 0, .int .i64 0, .int .i64 0, .int .i64 0]), 4, 32) := by kernel_rfl
theorem row_one (x : It) : ∀ u ∈ x.row, u.oneCell' = true := by intro u hu; simp only [It.row, List.mem_cons, List.not_mem_nil, or_false] at hu; rcases hu with rfl | rfl | rfl | rfl <;> rfl
/-- Half of a step: the map knows the new term already. -/
structure MidW (V W : World) (g m b : Nat) (A : Option Addr) (c : Nat) (v : Value) (its its2 : List It) (x : It) : Prop where
  below : Below V.heap.size V W
  blk : W.heap[m]? = some (.cells #[.pointer (some ⟨g, 0, none⟩), .slice A its.length c, .map (some b)] 72)
  own : OwnR W V.heap.size 4 75 v (its2.map It.row)
  map : IMap W b (its.length + 1) (atF (itsT (its ++ [x])))
theorem MidW.keep {V W W' : World} {g m b : Nat} {A : Option Addr} {c : Nat} {v : Value} {its its2 : List It} {x : It} (h : MidW V W g m b A c v its its2 x) (hb : Below W.heap.size W W') : MidW V W' g m b A c v its its2 x :=
  ⟨h.below.trans (hb.mono h.below.size), (hb.block m (Array.getElem?_eq_some_iff.1 h.blk).1).trans h.blk, OwnR.keep h.own hb, h.map.keep hb⟩
theorem MidW.app {V W W' : World} {g m b : Nat} {A : Option Addr} {c : Nat} {v v' : Value} {its : List It} {x : It} (h : MidW V W g m b A c v its its x)
    (hO : OwnR W' V.heap.size 4 75 v' (its.map It.row ++ [x.row])) (hg : W.grownBy W' v.ownBlock) : MidW V W' g m b A c v' its (its ++ [x]) x := by
  have hT : ∀ q, v.ownBlock = some q → Typ W q 75 := fun q hq => OwnR.typ h.own hq
  refine ⟨h.below.grown hg h.below.size fun k hk => (h.own.1.lt k hk).1, block_grown h.blk hg hT (by decide), ?_, h.map.grownT hg hT⟩
  rw [List.map_append]
  exact hO
theorem mind_row {W : World} {m : Nat} {cs : Array Value} (h : W.heap[m]? = some (.cells cs 72)) (v : Value) : ∀ q, some (⟨m, 1, none⟩ : Addr).block = some q → Typ W q 72 := fun q hq => by
  injection hq with hq
  exact ⟨cs, (0, 0), by rw [← hq]; exact h⟩
theorem MidW.done {V W : World} {g m b : Nat} {A A' : Option Addr} {c c' : Nat} {its : List It} {x : It} (h : MidW V W g m b A c (.slice A' (its ++ [x]).length c') its (its ++ [x]) x) (hmg : V.heap.size ≤ m) (hbg : V.heap.size ≤ b) (hf : (its ++ [x]).length ≤ 100) (hw : ∀ i ∈ its ++ [x], i64 i.t) :
    MindW V (W.setCell ⟨m, 1, none⟩ (.slice A' (its ++ [x]).length c')) g m b A' c' (its ++ [x]) ∧ StayM W (W.setCell ⟨m, 1, none⟩ (.slice A' (its ++ [x]).length c')) := by
  have hg := grown_set W ⟨m, 1, none⟩ (.slice A' (its ++ [x]).length c')
  have hT := mind_row h.blk (.int .i64 0)
  refine ⟨⟨h.below.setCell hmg _, ?_, hmg, hbg, OwnR.grown_ h.own hg hT (by decide), ?_, hf, hw⟩, StayM.of_grown hg hT (.inl rfl)⟩
  · rw [heap_setCell_same W m 1 _ _ _ h.blk]; rfl
  · have := h.map.grownT hg hT
    rwa [show its.length + 1 = (its ++ [x]).length by simp] at this
/-- What add leaves. -/
def AddR (V W : World) (g m b : Nat) (L : List Tm) (its : List It) (x : It) (r : Ending) (W' : World) : Prop :=
  r = .returned (.tuple #[]) ∧ StayM W W' ∧ W.heap.size ≤ W'.heap.size ∧ ∃ A' c', MindW V W' g m b A' c' (addI L its x)
noncomputable def ldI (a : Addr) : Sem Value := loadVar 75 a
theorem ldI_eq (a : Addr) : loadVar 75 a = ldI a := rfl
theorem ldI_run {w : World} {b o : Nat} {x : It} (h : w.rangeAt b o x.row) : (ldI ⟨b, o, none⟩).run Tryz.prog w = .ok (.agg x.row.toArray) w := by
  unfold ldI
  exact run_loadVar_mid (P := Tryz.prog) w b o 75 x.row _ h Tryz.underlying75 rfl (by kernel_rfl)
theorem stM_run {w : World} {q : Nat} {A : Option Addr} {n c : Nat} {v0 v1 v2 : Value} (h : w.heap[q]? = some (.cells #[v0, v1, v2] 72 (0, 0))) :
    (do Instr.storeAt 70 (.pointer (some ⟨q, 1, none⟩)) (.slice A n c); pure Next.skip : Sem Next).run Tryz.prog w = .ok .skip (w.setCell ⟨q, 1, none⟩ (.slice A n c)) := by
  have c3 : w.cell? ⟨q, 1, none⟩ = some v1 := cell_of_row w q 1 _ _ _ h
  have f3 : w.frozen? ⟨q, 1, none⟩ = false := by simp [World.frozen?, h]
  go_simp
attribute [local go_sem ↓] ldI_eq
def dsSv4 : List (Option Nat) := [some 38, some 39, some 40, some 41, some 42, some 43, some 44, some 45, some 46, some 47, none]
def tbSv4 : List (List Nat) := [[], [], [1], [2], [3], [], [5], [4, 6], [0], [8], [7, 9]]
def vsSv4 (m : Nat) (p0 : Nat) (A : Option Addr) (n : Nat) (c : Nat) (x : It) : List (Option Value) := [some (.pointer (some ⟨m, 0, none⟩)), some (.pointer (some ⟨m, 0, none⟩)), some (.pointer (some ⟨m, 0, none⟩)), some (.pointer (some ⟨m, 1, none⟩)), some (.slice A n c), some (.agg x.row.toArray), none, none, some (.pointer (some ⟨m, 0, none⟩)), some (.pointer (some ⟨m, 1, none⟩)), none]
set_option maxRecDepth 100000 in
set_option maxHeartbeats 4000000 in
theorem madd_any {V W w0 : World} {g m b : Nat} {A : Option Addr} {c : Nat} {its : List It} {Ls ls : List Tm} (h : MindW V W g m b A c its) (hS : St w0 g V Ls) (hN : Named Ls its ls) (hnd : ls.Nodup) (x : It) (hx : i64 x.t) :
    Calls Tryz.prog 31 #[.pointer (some ⟨m, 0, none⟩), .agg x.row.toArray] W (AddR V W g m b Ls its x) := by
  obtain ⟨j0, hj0, hj1, hj2, hj3⟩ := info_parts item_info
  have hbx := below_new W (.cells x.row.toArray 75)
  have hrx := heap_new W (.cells x.row.toArray 75)
  obtain ⟨W1, hW1⟩ : ∃ W1, W1 = W.alloc (.cells x.row.toArray 75) := ⟨_, rfl⟩
  rw [← hW1] at hbx hrx
  have hM1 := h.keep hbx
  obtain ⟨c0, c1, c2⟩ := hM1.c0
  have d0 : W1.cell? ⟨W.heap.size, 0, none⟩ = some (.int .i64 x.t) := cell_of_row W1 W.heap.size 0 _ _ _ hrx
  have hl := fun k : Nat => (hM1.map.keep (drewN_below k : Below W1.heap.size W1 (W1.drewN k))).look hx
  have hfx : (atF (itsT its) x.t = none ↔ x.t ∉ itsT its) := by unfold atF; split <;> simp_all
  have hq := Lib.hid (show ∀ W', Below W1.heap.size W1 W' → ¬ (x.t ∉ itsT its ∧ get Ls x.t ≠ none) → AddR V W g m b Ls its x (.returned (.tuple #[])) W' from fun W' hB hn => ⟨rfl, StayM.of_below (hbx.trans (hB.mono hbx.size)), Nat.le_trans hbx.size hB.size, A, c, by unfold addI; rw [if_neg hn]; exact hM1.keep hB⟩)
  have hM1h := Lib.hid hM1
  have hbxh := Lib.hid hbx
  have hrxh := Lib.hid hrx
  have hNh := Lib.hid (And.intro hS (And.intro hN hnd))
  have hxh := Lib.hid hx
  have hfxh := Lib.hid hfx
  cases hf : atF (itsT its) x.t with
  | some i =>
    rw [hf] at hl
    simp only [Option.getD_some, Option.isSome_some] at hl
    have hnn := Lib.hid (show ¬ (x.t ∉ itsT its ∧ get Ls x.t ≠ none) from fun q => by have := hfx.2 q.1; rw [hf] at this; cases this)
    clear h hM1 hbx hrx hS hN hnd hx hf hfx
    go_enter Tryz.func31, Tryz.ntmps31
    go_upto_region 1 with fail
    rw [← hW1]
    clear hW1
    go_quiet (fail)
    go_wp2_with fail
    have hBq := Lib.hid (drewN_below nq : Below W1.heap.size W1 (W1.drewN nq))
    generalize W1.drewN nq = W2 at *
    go_quiet (fail)
    go_wp2_with fail
    (try simp only [Exit.inBlock, Exit.then])
    refine bodyPost_ret (results_none rfl _ _ _) rfl ?_
    exact hq.out _ (hBq.out.trans ((drewN_below nq : Below W2.heap.size W2 (W2.drewN nq)).mono hBq.out.size)) hnn.out
  | none =>
    rw [hf] at hl
    simp only [Option.getD_none, Option.isSome_none] at hl
    cases hg : get Ls x.t with
    | none =>
      have cK := fun W' (hB : Below W1.heap.size W1 W') => (((hS.keep h.below).keep (hbx.trans (hB.mono hbx.size))).kind x.t)
      rw [hg] at cK
      replace cK := Lib.hid cK
      have hnn := Lib.hid (show ¬ (x.t ∉ itsT its ∧ get Ls x.t ≠ none) from fun q => q.2 hg)
      clear h hM1 hbx hrx hS hN hnd hx hf hfx hg
      go_enter Tryz.func31, Tryz.ntmps31
      go_upto_region 1 with fail
      rw [← hW1]
      clear hW1
      go_quiet (fail)
      go_wp2_with fail
      have hBq := Lib.hid (drewN_below nq : Below W1.heap.size W1 (W1.drewN nq))
      have c0 := hBq.out.cell (p := ⟨m, 0, none⟩) (lt_of_cell c0) |>.trans c0
      have d0 := hBq.out.cell (p := ⟨W.heap.size, 0, none⟩) (lt_of_cell d0) |>.trans d0
      generalize W1.drewN nq = W2 at *
      go_quiet ((go_at_call 74; exact Calls.quiet_of_same ((cK.out _ (hBq.out.trans ((drewN_below _ : Below W2.heap.size W2 (W2.drewN _)).mono hBq.out.size))).mono (fun e w' h => ⟨h.1, h.2.symm⟩))))
      go_wp2_with fail
      (try simp only [Exit.inBlock, Exit.then])
      refine bodyPost_ret (results_none rfl _ _ _) rfl ?_
      exact hq.out _ (hBq.out.trans ((drewN_below nq : Below W2.heap.size W2 (W2.drewN nq)).mono hBq.out.size)) hnn.out
    | some u =>
      have cK := fun W' (hB : Below W1.heap.size W1 W') => (((hS.keep h.below).keep (hbx.trans (hB.mono hbx.size))).kind x.t)
      rw [hg] at cK
      have hok := hS.good.ok u (get_mem hg)
      have hku := ok_kind hok
      have hke : kindO (some u) = u.kind := rfl
      rw [hke] at cK
      generalize u.kind = ku at hku cK
      have hk0 : ((ku : Int) == 0) = false := by rw [beq_eq_false_iff_ne]; omega
      replace cK := Lib.hid cK
      have hnin := hfx.1 hf
      have hyes : x.t ∉ itsT its ∧ get Ls x.t ≠ none := ⟨hnin, by rw [hg]; simp⟩
      have hadd : addI Ls its x = its ++ [x] := by unfold addI; rw [if_pos hyes]
      have hfew : (its ++ [x]).length ≤ 100 := by
        have h1 := hN.add hS.good.once hnd x
        rw [hadd] at h1
        exact Nat.le_trans (h1.1.le h1.2) hS.few
      have hwf : ∀ i ∈ its ++ [x], i64 i.t := fun i hi => by
        rcases List.mem_append.1 hi with hi | hi
        · exact h.wf i hi
        · rw [List.mem_singleton.1 hi]; exact hx
      have hch := Lib.hid (And.intro hadd (And.intro hfew (And.intro hwf (And.intro hnin (And.intro h.ge h.bge)))))
      clear h hM1 hbx hrx hS hN hnd hx hf hfx hg hok hku hke hnin hyes hadd hfew hwf hq
      go_enter Tryz.func31, Tryz.ntmps31
      go_upto_region 1 with fail
      rw [← hW1]
      clear hW1
      go_quiet (fail)
      go_wp2_with fail
      have hBq := Lib.hid (drewN_below nq : Below W1.heap.size W1 (W1.drewN nq))
      have c0 := hBq.out.cell (p := ⟨m, 0, none⟩) (lt_of_cell c0) |>.trans c0
      have d0 := hBq.out.cell (p := ⟨W.heap.size, 0, none⟩) (lt_of_cell d0) |>.trans d0
      generalize W1.drewN nq = W2 at *
      go_quiet ((go_at_call 74; exact Calls.quiet_of_same ((cK.out _ (hBq.out.trans ((drewN_below _ : Below W2.heap.size W2 (W2.drewN _)).mono hBq.out.size))).mono (fun e w' h => ⟨h.1, h.2.symm⟩))))
      go_wp2_with fail
      have hB3 := Lib.hid (hBq.out.trans ((drewN_below nq : Below W2.heap.size W2 (W2.drewN nq)).mono hBq.out.size))
      clear c0 d0 hl cK c1 c2 hk0
      generalize W2.drewN nq = W3 at *
      clear hBq
      have hd1 : Below W3.heap.size W3 W3.drew := drewN_below 1
      obtain ⟨Wd, hwd⟩ : ∃ Wd, W3.drew = Wd := ⟨_, rfl⟩
      rw [hwd] at hd1
      have hB4 := hB3.out.trans (hd1.mono hB3.out.size)
      have hM3 := hM1h.out.keep hB4
      obtain ⟨c0, c1, c2⟩ := hM3.c0
      have hrx4 := (hB4.block W.heap.size (Array.getElem?_eq_some_iff.1 hrxh.out).1).trans hrxh.out
      have d0 : Wd.cell? ⟨W.heap.size, 0, none⟩ = some (.int .i64 x.t) := cell_of_row Wd W.heap.size 0 _ _ _ hrx4
      have hf100 := hM3.few
      obtain ⟨W4, hr4, hI4, hg4⟩ := hM3.map.set_ (by omega) hxh.out (i64_small (x := (its.length : Int)) (by omega) (by omega))
      have hMid : MidW V W4 g m b A c (.slice A its.length c) its its x := by
        obtain ⟨D, ⟨es, cl, hb, _⟩, _⟩ := hM3.map
        refine ⟨hM3.below.grown hg4 hM3.below.size (fun k hk => by injection hk with hk; rw [← hk]; exact hM3.bge), ?_, ?_, ?_⟩
        · exact hM3.map.blk hg4 hM3.blk
        · exact OwnR.keepF hM3.own (Keeps.of_grown (F := fun z => z = b) hg4 fun q hq => (Option.some.inj hq).symm) fun q hq e => (OwnR.typ hM3.own hq).no_map hb e
        · rw [show itsT (its ++ [x]) = itsT its ++ [x.t] by simp [itsT], atF_app hch.out.2.2.2.1, show (itsT its).length = its.length by simp [itsT]]
          exact hI4
      have hSt : StayM W W4 := (StayM.of_below (hbxh.out.trans (hB4.mono hbxh.out.size))).trans (StayM.of_map hM3.map hg4)
      have hz4 : W.heap.size ≤ W4.heap.size := Nat.le_trans hbxh.out.size (Nat.le_trans hB4.size hg4.size)
      have hr0 := Lib.hid (hM3.map.blk hg4 hrx4)
      replace hMid := Lib.hid hMid
      replace hSt := Lib.hid hSt
      replace hz4 := Lib.hid hz4
      clear hI4 hg4 hrx4 hM3 hB4 hd1 hB3 hrxh hbxh hM1h
      go_still_tail 11, (by kernel_rfl)
      change wpList _ _ _ _ _ W3.drew
      rw [hwd]
      clear hwd
      go_wp2_with fail
      clear c0 c1 c2 d0 hr4
      go_upto_region 4 with fail
      obtain ⟨p0, hp0⟩ : ∃ p0, W.heap.size = p0 := ⟨_, rfl⟩
      rw [hp0] at hr0 ⊢
      replace hp0 := Lib.hid hp0
      refine region_iw tbSv4 dsSv4 (vsSv4 m p0 A (its.length) c x) (fun L T W => (L 7 = false → Below W4.heap.size W4 W) ∧ (L 6 = true → L 7 = false → ∃ g1 : Nat, T.getD 44 undef = .slice (some ⟨g1, 0, none⟩) 1 1 ∧ W.rangeAt g1 0 x.row) ∧ (L 7 = true → L 10 = false → MidW V W g m b A c (T.getD 45 undef) its (its ++ [x]) x ∧ StayM W4 W ∧ W4.heap.size ≤ W.heap.size) ∧ (L 10 = true → (∃ A' c', MindW V W g m b A' c' (its ++ [x])) ∧ StayM W4 W ∧ W4.heap.size ≤ W.heap.size)) rfl (by decide) (by kernel_rfl) ?hlt ?hstep ?hdone ?hstart
      case hstart => exact ⟨fun _ => drewN_below 1, fun h => absurd h (inv_not (n := 11) (i := 6) (by decide)), fun h => absurd h (inv_not (n := 11) (i := 7) (by decide)), fun h => absurd h (inv_not (n := 11) (i := 10) (by decide))⟩
      case hlt =>
        intro ix o ho
        have hi := (Array.getElem?_eq_some_iff.1 ho).1
        match ix, hi with
        | 0, _ => obtain rfl := Option.some.inj ho; decide
        | 1, _ => obtain rfl := Option.some.inj ho; decide
        | 2, _ => obtain rfl := Option.some.inj ho; decide
        | 3, _ => obtain rfl := Option.some.inj ho; decide
        | 4, _ => obtain rfl := Option.some.inj ho; decide
        | 5, _ => obtain rfl := Option.some.inj ho; decide
        | 6, _ => obtain rfl := Option.some.inj ho; decide
        | 7, _ => obtain rfl := Option.some.inj ho; decide
        | 8, _ => obtain rfl := Option.some.inj ho; decide
        | 9, _ => obtain rfl := Option.some.inj ho; decide
        | 10, _ => obtain rfl := Option.some.inj ho; decide
      case hstep =>
        intro T1 hE L T W ix o hF hW hc ho hLi hd K hK
        have hN : T1.size = 48 := by rw [hE]; rfl
        have f0 : T.getD 0 undef = .pointer (some ⟨m, 0, none⟩) := (hF.old 0 (by decide)).trans (by rw [hE]; rfl)
        have f3 : T.getD 3 undef = .pointer (some ⟨p0, 0, none⟩) := (hF.old 3 (by decide)).trans (by rw [hE]; rfl)
        clear hE
        replace hF := Lib.hid hF
        replace hW := Lib.hid hW
        replace hK := Lib.hid hK
        have hi := (List.getElem?_eq_some_iff.1 ho).1
        match ix, hi with
        | 0, _ =>
          obtain rfl := Option.some.inj ho
          clear hd ho hi hc hLi
          exact st_val (v := .pointer (some ⟨m, 0, none⟩)) (w' := W) (want_none rfl) (by unfold execOp; dsimp only [Act.eval]; simp only [f0]; go_simp) (hK.out _ _ (hF.out.put (k := 0) (s := 38) rfl (by decide) hN (by decide) (fun u_v hu => Option.some.inj (Option.some.inj (show some (some (.pointer (some ⟨m, 0, none⟩))) = some (some u_v) from hu))) (by dsimp only; rw [gd_ne (show 38 ≠ 44 by decide), gd_ne (show 38 ≠ 45 by decide)]; exact hW.out)))
        | 1, _ =>
          obtain rfl := Option.some.inj ho
          clear hd ho hi hc hLi
          exact st_val (v := .pointer (some ⟨m, 0, none⟩)) (w' := W) (want_none rfl) (by unfold execOp; dsimp only [Act.eval]; simp only [f0]; go_simp) (hK.out _ _ (hF.out.put (k := 1) (s := 39) rfl (by decide) hN (by decide) (fun u_v hu => Option.some.inj (Option.some.inj (show some (some (.pointer (some ⟨m, 0, none⟩))) = some (some u_v) from hu))) (by dsimp only; rw [gd_ne (show 39 ≠ 44 by decide), gd_ne (show 39 ≠ 45 by decide)]; exact hW.out)))
        | 2, _ =>
          obtain rfl := Option.some.inj ho
          have l1 : L 1 = true := dep_of hd (n := 1) (by decide)
          have e39 : T.getD 39 undef = .pointer (some ⟨m, 0, none⟩) := hF.out.val 1 39 _ l1 rfl rfl
          clear hd ho hi hc hLi
          exact st_val (v := .pointer (some ⟨m, 0, none⟩)) (w' := W) (want_none rfl) (by unfold execOp; dsimp only [Act.eval]; simp only [e39]; go_simp) (hK.out _ _ (hF.out.put (k := 2) (s := 40) rfl (by decide) hN (by decide) (fun u_v hu => Option.some.inj (Option.some.inj (show some (some (.pointer (some ⟨m, 0, none⟩))) = some (some u_v) from hu))) (by dsimp only; rw [gd_ne (show 40 ≠ 44 by decide), gd_ne (show 40 ≠ 45 by decide)]; exact hW.out)))
        | 3, _ =>
          obtain rfl := Option.some.inj ho
          have l2 : L 2 = true := dep_of hd (n := 2) (by decide)
          have e40 : T.getD 40 undef = .pointer (some ⟨m, 0, none⟩) := hF.out.val 2 40 _ l2 rfl rfl
          clear hd ho hi hc hLi
          exact st_val (v := .pointer (some ⟨m, 1, none⟩)) (w' := W) (want_none rfl) (by unfold execOp; dsimp only [Act.eval]; simp only [e40]; go_simp) (hK.out _ _ (hF.out.put (k := 3) (s := 41) rfl (by decide) hN (by decide) (fun u_v hu => Option.some.inj (Option.some.inj (show some (some (.pointer (some ⟨m, 1, none⟩))) = some (some u_v) from hu))) (by dsimp only; rw [gd_ne (show 41 ≠ 44 by decide), gd_ne (show 41 ≠ 45 by decide)]; exact hW.out)))
        | 4, _ =>
          obtain rfl := Option.some.inj ho
          have l3 : L 3 = true := dep_of hd (n := 3) (by decide)
          have e41 : T.getD 41 undef = .pointer (some ⟨m, 1, none⟩) := hF.out.val 3 41 _ l3 rfl rfl
          have n7 : L 7 = false := by cases h : L 7 with | false => rfl | true => exact absurd ((hc 7 4 h (by decide) : L 4 = true).symm.trans hLi) (by decide)
          have hb := hW.out.1 n7
          have hcc : W.cell? ⟨m, 1, none⟩ = some (.slice A its.length c) := cell_of_row W m 1 _ _ _ ((hb.block m (Array.getElem?_eq_some_iff.1 hMid.out.blk).1).trans hMid.out.blk)
          clear hd ho hi hc
          exact st_val (v := .slice A (its.length) c) (w' := W) (want_none rfl) (by unfold execOp; dsimp only [Act.eval]; simp only [e41]; go_simp) (hK.out _ _ (hF.out.put (k := 4) (s := 42) rfl (by decide) hN (by decide) (fun u_v hu => Option.some.inj (Option.some.inj (show some (some (.slice A (its.length) c)) = some (some u_v) from hu))) (by dsimp only; rw [gd_ne (show 42 ≠ 44 by decide), gd_ne (show 42 ≠ 45 by decide)]; exact hW.out)))
        | 5, _ =>
          obtain rfl := Option.some.inj ho
          have n7 : L 7 = false := by cases h : L 7 with | false => rfl | true => exact absurd ((hc 6 5 (hc 7 6 h (by decide)) (by decide) : L 5 = true).symm.trans hLi) (by decide)
          have hb := hW.out.1 n7
          have hld := ldI_run (rangeAt_list ((hb.block p0 (Array.getElem?_eq_some_iff.1 hr0.out).1).trans hr0.out))
          clear hd ho hi hc
          exact st_val (v := .agg x.row.toArray) (w' := W) (want_none rfl) (by unfold execOp; dsimp only [Act.eval]; simp only [f3]; go_simp) (hK.out _ _ (hF.out.put (k := 5) (s := 43) rfl (by decide) hN (by decide) (fun u_v hu => Option.some.inj (Option.some.inj (show some (some (.agg x.row.toArray)) = some (some u_v) from hu))) (by dsimp only; rw [gd_ne (show 43 ≠ 44 by decide), gd_ne (show 43 ≠ 45 by decide)]; exact hW.out)))
        | 6, _ =>
          obtain rfl := Option.some.inj ho
          have l5 : L 5 = true := dep_of hd (n := 5) (by decide)
          have e43 : T.getD 43 undef = .agg x.row.toArray := hF.out.val 5 43 _ l5 rfl rfl
          have n7 : L 7 = false := by cases h : L 7 with | false => rfl | true => exact absurd ((hc 7 6 h (by decide) : L 6 = true).symm.trans hLi) (by decide)
          have hb := hW.out.1 n7
          have n10 : ¬ L 10 = true := fun h => by have := hc 10 7 h (by decide); rw [n7] at this; cases this
          have hbn := below_new W (.cells x.row.toArray 75)
          have hrw := rangeAt_list (heap_new W (.cells x.row.toArray 75))
          have hn7 := Lib.hid n7
          clear hd ho hi hc
          exact st_val (v := .slice (some ⟨W.heap.size, 0, none⟩) 1 1) (w' := W.alloc (.cells x.row.toArray 75)) (want_none rfl) (run_build1_ 70 75 (.tmp 43) rfl j0 _ _ Tryz.underlying70 hj0 hj1 hj2 (by decide) (by decide) (show T.getD 43 undef = _ from e43) rfl) (hK.out _ _ (hF.out.put (k := 6) (s := 44) rfl (by decide) hN (by decide) (fun u hu => by cases hu) ⟨fun _ => hb.trans (hbn.mono hb.size), fun _ _ => ⟨W.heap.size, gd_eq (by rw [hF.out.size, hN]; decide), hrw⟩, fun h _ => absurd ((show L 7 = true from h).symm.trans hn7.out) (by decide), fun h => absurd h n10⟩))
        | 7, _ =>
          obtain rfl := Option.some.inj ho
          have l4 : L 4 = true := dep_of hd (n := 4) (by decide)
          have e42 : T.getD 42 undef = .slice A (its.length) c := hF.out.val 4 42 _ l4 rfl rfl
          have l6 : L 6 = true := dep_of hd (n := 6) (by decide)
          have n10 : ¬ L 10 = true := fun h => by have := hc 10 7 h (by decide); rw [hLi] at this; cases this
          obtain ⟨g1, e44, hrw⟩ := hW.out.2.1 l6 hLi
          have hb := hW.out.1 hLi
          have hl6 := Lib.hid l6
          have hMb := hMid.out.keep hb
          have hbh := Lib.hid hb
          clear hd ho hi hc
          refine st_append (want_none rfl) _ _ 70 rfl 75 j0 _ 4 32 Tryz.underlying70 hj0 hj1 hj2 hj3 rfl (by decide) V.heap.size hMb.below.size (.slice A its.length c) (its.map It.row) (show T.getD 42 undef = _ from e42) hMb.own g1 1 x.row (show T.getD 44 undef = _ from e44) hrw rfl (row_one x) (by rw [List.length_map]; unfold maxLen; omega) (by rw [List.length_map]; omega) ?_
          intro v' w3 hO2 hg hat
          exact hK.out _ _ (hF.out.put (k := 7) (s := 45) rfl (by decide) hN (by decide) (fun u hu => by cases hu) ⟨fun h => absurd h (by simp), fun _ h => absurd h (by simp), fun _ _ => (by rw [gd_eq (by rw [hF.out.size, hN]; decide)]; exact ⟨hMb.app hO2 hg, (StayM.of_below hbh.out).trans (StayM.of_grown hg (fun q hq => OwnR.typ hMb.own hq) (.inr rfl)), Nat.le_trans hbh.out.size hg.size⟩), fun h => absurd h n10⟩)
        | 8, _ =>
          obtain rfl := Option.some.inj ho
          have l0 : L 0 = true := dep_of hd (n := 0) (by decide)
          have e38 : T.getD 38 undef = .pointer (some ⟨m, 0, none⟩) := hF.out.val 0 38 _ l0 rfl rfl
          clear hd ho hi hc hLi
          exact st_val (v := .pointer (some ⟨m, 0, none⟩)) (w' := W) (want_none rfl) (by unfold execOp; dsimp only [Act.eval]; simp only [e38]; go_simp) (hK.out _ _ (hF.out.put (k := 8) (s := 46) rfl (by decide) hN (by decide) (fun u_v hu => Option.some.inj (Option.some.inj (show some (some (.pointer (some ⟨m, 0, none⟩))) = some (some u_v) from hu))) (by dsimp only; rw [gd_ne (show 46 ≠ 44 by decide), gd_ne (show 46 ≠ 45 by decide)]; exact hW.out)))
        | 9, _ =>
          obtain rfl := Option.some.inj ho
          have l8 : L 8 = true := dep_of hd (n := 8) (by decide)
          have e46 : T.getD 46 undef = .pointer (some ⟨m, 0, none⟩) := hF.out.val 8 46 _ l8 rfl rfl
          clear hd ho hi hc hLi
          exact st_val (v := .pointer (some ⟨m, 1, none⟩)) (w' := W) (want_none rfl) (by unfold execOp; dsimp only [Act.eval]; simp only [e46]; go_simp) (hK.out _ _ (hF.out.put (k := 9) (s := 47) rfl (by decide) hN (by decide) (fun u_v hu => Option.some.inj (Option.some.inj (show some (some (.pointer (some ⟨m, 1, none⟩))) = some (some u_v) from hu))) (by dsimp only; rw [gd_ne (show 47 ≠ 44 by decide), gd_ne (show 47 ≠ 45 by decide)]; exact hW.out)))
        | 10, _ =>
          obtain rfl := Option.some.inj ho
          have l7 : L 7 = true := dep_of hd (n := 7) (by decide)
          have l9 : L 9 = true := dep_of hd (n := 9) (by decide)
          have e47 : T.getD 47 undef = .pointer (some ⟨m, 1, none⟩) := hF.out.val 9 47 _ l9 rfl rfl
          obtain ⟨hx, hs1, hs2⟩ := hW.out.2.2.1 l7 hLi
          have hl7 := Lib.hid l7
          obtain ⟨v9, e45⟩ : ∃ v, T.getD 45 undef = v := ⟨_, rfl⟩
          rw [e45] at hx
          obtain ⟨A9, c9, ev9, _⟩ := OwnR.rws hx.own
          rw [List.length_map] at ev9
          have hbk := hx.blk
          have hdn := (show MidW V W g m b A c (.slice A9 (its ++ [x]).length c9) its (its ++ [x]) x by rw [← ev9]; exact hx).done hch.out.2.2.2.2.1 hch.out.2.2.2.2.2 hch.out.2.1 hch.out.2.2.1
          have hdh := Lib.hid hdn
          have hsh := Lib.hid (And.intro hs1 hs2)
          clear hx hdn hs1 hs2
          clear hd ho hi hc
          exact st_do (w' := W.setCell ⟨m, 1, none⟩ (.slice A9 (its ++ [x]).length c9)) (want_none rfl) (by unfold execOp; dsimp only [Act.eval]; simp only [e47, e45]; subst ev9; exact stM_run hbk) (hK.out _ _ (hF.out.pass (k := 10) rfl ⟨fun h => absurd ((show L 7 = false from h).symm.trans hl7.out) (by decide), fun _ h => absurd ((show L 7 = false from h).symm.trans hl7.out) (by decide), fun _ h => absurd h (by simp), fun _ => ⟨⟨A9, c9, hdh.out.1⟩, hsh.out.1.trans hdh.out.2, Nat.le_trans hsh.out.2 (by simp [World.setCell])⟩⟩))
      case hdone =>
        intro L T W2 hF hW hall
        obtain ⟨⟨A', c', hMd⟩, hs1, hs2⟩ := hW.2.2.2 (hall 10 (by decide))
        obtain ⟨z44, e44⟩ : ∃ z, T.getD 44 undef = z := ⟨_, rfl⟩
        obtain ⟨z45, e45⟩ : ∃ z, T.getD 45 undef = z := ⟨_, rfl⟩
        have hT : T = #[.pointer (some ⟨m, 0, none⟩), .agg x.row.toArray, undef, .pointer (some ⟨p0, 0, none⟩), .int .i64 0, .bool false, .tuple #[.int .i64 0, .bool false], .pointer (some ⟨m, 0, none⟩), .pointer (some ⟨m, 0, none⟩), .pointer (some ⟨m, 2, none⟩), .map (some b), .pointer (some ⟨p0, 0, none⟩), .int .i64 x.t, .tuple #[.int .i64 0, .bool false], .int .i64 0, .bool false, .bool false, .bool false, .pointer (some ⟨m, 0, none⟩), .pointer (some ⟨m, 0, none⟩), .pointer (some ⟨m, 0, none⟩), .pointer (some ⟨g, 0, none⟩), .pointer (some ⟨p0, 0, none⟩), .int .i64 x.t, .int .i64 ku, .bool false, .bool false, .pointer (some ⟨m, 0, none⟩), .pointer (some ⟨m, 0, none⟩), .pointer (some ⟨m, 2, none⟩), .map (some b), .pointer (some ⟨p0, 0, none⟩), .int .i64 x.t, .pointer (some ⟨m, 0, none⟩), .pointer (some ⟨m, 0, none⟩), .pointer (some ⟨m, 1, none⟩), .slice A its.length c, .int .i64 its.length, .pointer (some ⟨m, 0, none⟩), .pointer (some ⟨m, 0, none⟩), .pointer (some ⟨m, 0, none⟩), .pointer (some ⟨m, 1, none⟩), .slice A (its.length) c, .agg x.row.toArray, z44, z45, .pointer (some ⟨m, 0, none⟩), .pointer (some ⟨m, 1, none⟩)] := (hF.fin [(38, .pointer (some ⟨m, 0, none⟩)), (39, .pointer (some ⟨m, 0, none⟩)), (40, .pointer (some ⟨m, 0, none⟩)), (41, .pointer (some ⟨m, 1, none⟩)), (42, .slice A (its.length) c), (43, .agg x.row.toArray), (44, z44), (45, z45), (46, .pointer (some ⟨m, 0, none⟩)), (47, .pointer (some ⟨m, 1, none⟩))] [38, 39, 40, 41, 42, 43, 44, 45, 46, 47] rfl (List.forall_mem_cons.2 ⟨hF.val 0 _ _ (hall 0 (show 0 < 11 by decide)) rfl rfl, (List.forall_mem_cons.2 ⟨hF.val 1 _ _ (hall 1 (show 1 < 11 by decide)) rfl rfl, (List.forall_mem_cons.2 ⟨hF.val 2 _ _ (hall 2 (show 2 < 11 by decide)) rfl rfl, (List.forall_mem_cons.2 ⟨hF.val 3 _ _ (hall 3 (show 3 < 11 by decide)) rfl rfl, (List.forall_mem_cons.2 ⟨hF.val 4 _ _ (hall 4 (show 4 < 11 by decide)) rfl rfl, (List.forall_mem_cons.2 ⟨hF.val 5 _ _ (hall 5 (show 5 < 11 by decide)) rfl rfl, (List.forall_mem_cons.2 ⟨e44, (List.forall_mem_cons.2 ⟨e45, (List.forall_mem_cons.2 ⟨hF.val 8 _ _ (hall 8 (show 8 < 11 by decide)) rfl rfl, (List.forall_mem_cons.2 ⟨hF.val 9 _ _ (hall 9 (show 9 < 11 by decide)) rfl rfl, (fun _ h => absurd h List.not_mem_nil)⟩)⟩)⟩)⟩)⟩)⟩)⟩)⟩)⟩)⟩) (by decide)).trans (by kernel_rfl)
        clear hF hall
        subst hT
        replace hMd := Lib.hid (show AddR V W g m b Ls its x (.returned (.tuple #[])) W2 from ⟨rfl, hSt.out.trans hs1, Nat.le_trans hz4.out hs2, A', c', by rw [hch.out.1]; exact hMd⟩)
        clear hs1 hs2 hW e44 e45
        go_end0
        exact hMd.out
end Go.Proofs.YtphnakdgpilcmaaGreatDoor
