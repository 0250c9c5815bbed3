/- Texts joined: what each shows stands ahead of its theorems. -/
import Derived.Test.YtbeanjaenmpoeaaGreatDoorZb12
import Derived.Test.YtbeanjaenmpoeaaGreatDoorZb2
import Derived.Test.YtbeanjaenmpoeaaGreatDoorZb6
namespace Go.Proofs.YtbeanjaenmpoeaaGreatDoor
section
open Go.RowKit Go.Maps

/-- Made: its numbers l and texts in the block q, beside the arena. -/
structure Md (w0 : World) (g q B : Nat) (W : World) (AI AT : Option Addr) (n cI cT : Nat) (l : List Int) (L : List Tm) (os : List (Option Tm)) : Prop where
  st : St w0 g W L
  ml : MadeL L l os
  ll : l.length = n
  lo : os.length = n
  blk : W.heap[q]? = some (.cells #[.slice AI n cI, .slice AT n cT] 31 (0, 0))
  ids : OwnD W B (.slice AI n cI) l
  txt : OwnS W B (.slice AT n cT) (os.map fun o => bs (encO o))
  off : OffE W g (inV (.slice AI n cI))
  hB : w0.heap.size ≤ B
  hq : w0.heap.size ≤ q
section
variable {w0 : World} {g q B : Nat} {W W' : World} {AI AT : Option Addr} {n cI cT : Nat} {l : List Int} {L L' : List Tm} {os : List (Option Tm)}
theorem Md.below (h : Md w0 g q B W AI AT n cI cT l L os) (hb : Below W.heap.size W W') : Md w0 g q B W' AI AT n cI cT l L os :=
  ⟨h.st.keep hb, h.ml, h.ll, h.lo, (hb.block q (Array.getElem?_eq_some_iff.1 h.blk).1).trans h.blk, OwnR.keep h.ids hb, OwnR.keep h.txt hb, h.off.keep hb, h.hB, h.hq⟩
theorem Md.ints (h : Md w0 g q B W AI AT n cI cT l L os) : Ints W AI n l := by
  obtain ⟨A, c, e, hi⟩ := h.ids.ints
  injection e with e1 e2 e3
  rw [e1, e2]
  exact hi
theorem Md.strs (h : Md w0 g q B W AI AT n cI cT l L os) : Strs W AT n (os.map fun o => bs (encO o)) := by
  obtain ⟨A, c, e, hi⟩ := h.txt.strs
  injection e with e1 e2 e3
  rw [e1, e2]
  exact hi
theorem Md.c0 (h : Md w0 g q B W AI AT n cI cT l L os) : W.cell? ⟨q, 0, none⟩ = some (.slice AI n cI) := cell_of_row W q 0 _ _ _ h.blk
theorem Md.c1 (h : Md w0 g q B W AI AT n cI cT l L os) : W.cell? ⟨q, 1, none⟩ = some (.slice AT n cT) := cell_of_row W q 1 _ _ _ h.blk
theorem Md.row (h : Md w0 g q B W AI AT n cI cT l L os) : W.rangeAt q 0 [.slice AI n cI, .slice AT n cT] := rangeAt_list h.blk
theorem Md.made (h : Md w0 g q B W AI AT n cI cT l L os) : MadeW W AI AT n l os := ⟨h.ints, h.strs⟩
/-- One of them. -/
theorem Md.at_ (h : Md w0 g q B W AI AT n cI cT l L os) {j : Nat} (hj : j < n) : ∃ b off b' off' x o, AI = some ⟨b, off, none⟩ ∧ AT = some ⟨b', off', none⟩ ∧ b < W.heap.size ∧ b' < W.heap.size ∧ l[j]? = some x ∧ os[j]? = some o ∧ W.cell? ⟨b, off + j, none⟩ = some (.int .i64 x) ∧ W.cell? ⟨b', off' + j, none⟩ = some (.string (bs (encO o))) ∧ Nm L x o ∧ okO o := by
  obtain ⟨b, off, x, e, hb, hx, hc⟩ := h.ints.at_ hj
  obtain ⟨b', off', z, e', hb', hz, hc'⟩ := h.strs.at_ hj
  obtain ⟨o, ho⟩ : ∃ o, os[j]? = some o := ⟨os[j]'(by rw [h.lo]; exact hj), List.getElem?_eq_getElem _⟩
  rw [List.getElem?_map, ho] at hz
  have hz : bs (encO o) = z := Option.some.inj hz
  subst hz
  exact ⟨b, off, b', off', x, o, e, e', hb, hb', hx, ho, hc, hc', h.ml.nm j x o hx ho, h.ml.ok h.st.good o (List.mem_of_getElem? ho)⟩
end
/-- What Makes returned, laid in a new block. -/
def boxW (W : World) (v : Array Value) : World := (W.alloc (.cells #[.slice none 0 0, .slice none 0 0] 31)).setRow W.heap.size v
theorem md_new {w0 W W' : World} {g : Nat} {ms : List Mk} {n : Nat} {r : Ending} (hn : ms.length = n) (hw : w0.heap.size ≤ W.heap.size) (h : MakesR w0 W g ms r W') :
    ∃ AI cI AT cT l L, r = .returned (.agg #[.slice AI n cI, .slice AT n cT]) ∧ Md w0 g W'.heap.size W.heap.size (boxW W' #[.slice AI n cI, .slice AT n cT]) AI AT n cI cT l L (mksO ms []) ∧ L.length ≤ n ∧
      (W'.alloc (.cells #[.slice none 0 0, .slice none 0 0] 31)).heap[W'.heap.size]? = some (.cells #[.slice none 0 0, .slice none 0 0] 31 (0, 0)) ∧ (#[.slice AI n cI, .slice AT n cT] : Array Value).all (·.oneCell') = true ∧
      (boxW W' #[.slice AI n cI, .slice AT n cT]).heap[W'.heap.size]? = some (.cells #[.slice AI n cI, .slice AT n cT] 31 (0, 0)) := by
  obtain ⟨vI, vT, l, L, rfl, hS, hM, hL, hO, hT, ho, hz⟩ := h
  have hlo : (mksO ms []).length = n := by rw [mksO_len]; simpa using hn
  have hll : l.length = n := hM.len.trans hlo
  obtain ⟨AI, cI, eI, _⟩ := hO.ints
  obtain ⟨AT, cT, eT, _⟩ := hT.strs
  rw [hll] at eI
  rw [List.length_map, hlo] at eT
  subst eI
  subst eT
  have hnew := heap_new W' (.cells #[.slice none 0 0, .slice none 0 0] 31)
  have hb : Below W'.heap.size W' (boxW W' #[.slice AI n cI, .slice AT n cT]) := below_setRow_ (below_new W' _) (Nat.le_refl _) _
  have hrow := hsetRow _ _ _ #[.slice AI n cI, .slice AT n cT] _ _ hnew
  refine ⟨AI, cI, AT, cT, l, L, rfl, ⟨hS.keep hb, hM, hll, hlo, hrow, OwnR.keep hO hb, OwnR.keep hT hb, ho.keep hb, hw, by omega⟩, by omega, hnew, by simp [Value.oneCell'], hrow⟩
end

section
open Go.RowKit Go.Maps

theorem put_nil (k a b : Nat) (s : List UInt8) (w : World) :
    Calls Tryz.prog 57 #[.pointer none, .agg #[.int .i64 k, .int .i64 a, .int .i64 b, .string (bs s), .slice none 0 0]] w fun r w' => r = .returned (.int .i64 (-1)) ∧ Below w.heap.size w w' := by
  have hB := Lib.hid (below_new w (.cells #[.int .i64 k, .int .i64 a, .int .i64 b, .string (bs s), .slice none 0 0] 68))
  go_enter Tryz.func57, Tryz.ntmps57
  go_wp2_with fail
  go_ret
  exact ⟨rfl, hB.out⟩
theorem data_nil (w : World) :
    Calls Tryz.prog 53 #[.pointer none, .string ⟨#[]⟩] w fun r w' => r = .returned (.int .i64 (-1)) ∧ Below w.heap.size w w' := by
  have cP := Lib.hid (show Calls Tryz.prog 57 #[.pointer none, .agg #[.int .i64 1, .int .i64 0, .int .i64 0, .string ⟨#[]⟩, .slice none 0 0]] w _ from put_nil 1 0 0 [] w)
  go_enter Tryz.func53, Tryz.ntmps53
  go_wp2_with (go_at_call 57; refine cP.out.mono ?_; rintro r w1 ⟨rfl, hb⟩)
  go_ret
  exact ⟨rfl, hb⟩
theorem list_nil (w : World) :
    Calls Tryz.prog 42 #[.pointer none, .slice none 0 0] w fun r w' => r = .returned (.int .i64 (-1)) ∧ Below w.heap.size w w' := by
  have cP := Lib.hid (show Calls Tryz.prog 57 #[.pointer none, .agg #[.int .i64 10, .int .i64 0, .int .i64 0, .string ⟨#[]⟩, .slice none 0 0]] w _ from put_nil 10 0 0 [] w)
  go_enter Tryz.func42, Tryz.ntmps42
  go_wp2_with (go_at_call 57; refine cP.out.mono ?_; rintro r w1 ⟨rfl, hb⟩)
  go_ret
  exact ⟨rfl, hb⟩
theorem kind_nil (x : Int) (w : World) :
    Calls Tryz.prog 43 #[.pointer none, .int .i64 x] w fun r w' => r = .returned (.int .i64 0) ∧ w = w' := by
  have cH := Lib.hid (has_nil x w)
  go_enter Tryz.func43, Tryz.ntmps43
  go_wp2_with (go_at_call 58; refine cH.out.mono ?_; rintro r w1 ⟨rfl, rfl⟩)
  go_ret
  exact ⟨rfl, rfl⟩
theorem view_nil (x : Int) (w : World) :
    Calls Tryz.prog 34 #[.pointer none, .int .i64 x] w fun r w' => r = .returned (.tuple #[.agg zNd.toArray, .bool false]) ∧ Below w.heap.size w w' := by
  have hB1 := below_new w (.cells zNd.toArray 68)
  have cH := Lib.hid (has_nil x (w.alloc (.cells zNd.toArray 68)))
  have hz1 := Lib.hid (heap_new w (.cells zNd.toArray 68))
  have hB1 := Lib.hid hB1
  go_enter Tryz.func34, Tryz.ntmps34
  go_wp2_with (first
    | (go_at_call 58; refine cH.out.mono ?_; rintro r w1 ⟨rfl, rfl⟩)
    | (refine wpList_store_at 68 _ _ rfl rfl w.heap.size zNd.toArray rfl rfl 68 zNd.toArray hz1.out (by kernel_rfl) rfl zNd_one ?_))
  refine bodyPost_ret (resV2 rfl _ _ w.heap.size 68 zNd.toArray (0, 0) _ _ rfl (hsetRow _ _ _ _ _ _ hz1.out) Tryz.underlying68 rfl (by kernel_rfl) rfl) rfl ⟨rfl, below_setRow hB1.out (Nat.le_refl _) _⟩
end

section
open Go.RowKit Go.Maps

/-- What Six makes of three terms. -/
def sixT (x y z : Option Tm) : List (Option Tm) := [deriveT 65 x y z, deriveT 66 x y z, deriveT 67 x y z, deriveT 68 x y z, deriveT 69 x y z, deriveT 70 x y z]
theorem sixT_at (x y z : Option Tm) {i : Nat} (h : i < 6) : (sixT x y z)[i]? = some (deriveT (65 + i) x y z) := by
  match i, h with
  | 0, _ => rfl
  | 1, _ => rfl
  | 2, _ => rfl
  | 3, _ => rfl
  | 4, _ => rfl
  | 5, _ => rfl
/-- Six numbers, of which the first are set. -/
def six0 (l : List Int) : List Value := l.map (Value.int .i64) ++ List.replicate (6 - l.length) (.int .i64 0)
theorem six0_len {l : List Int} (h : l.length ≤ 6) : (six0 l).length = 6 := by simp [six0]; omega
theorem six0_set {l : List Int} (x : Int) (h : l.length < 6) : (six0 l).toArray.setIfInBounds l.length (.int .i64 x) = (six0 (l ++ [x])).toArray := by
  unfold six0
  rw [List.setIfInBounds_toArray]
  congr 1
  obtain ⟨m, hm⟩ : ∃ m, 6 - l.length = m + 1 := ⟨6 - l.length - 1, by omega⟩
  have h2 : 6 - (l ++ [x]).length = m := by simp; omega
  rw [hm, h2, List.replicate_succ, List.map_append, List.map_cons, List.map_nil]
  have : (l.map (Value.int .i64)).length = l.length := by simp
  rw [List.set_append_right _ _ (by omega), this, Nat.sub_self, List.set_cons_zero, List.append_assoc]
  rfl
theorem six0_full {l : List Int} (h : l.length = 6) : six0 l = l.map (Value.int .i64) := by unfold six0; rw [h]; simp
theorem six0_at {l : List Int} {i : Nat} (hi : i = l.length) (h : i < 6) : (six0 l).toArray[i]? = some (.int .i64 0) := by
  subst hi
  unfold six0
  rw [List.getElem?_toArray, List.getElem?_append_right (by simp), List.length_map, Nat.sub_self, List.getElem?_replicate, if_pos (by omega)]
theorem sixT_take {x y z : Option Tm} {i : Nat} (h : i < 6) : (sixT x y z).take (i + 1) = (sixT x y z).take i ++ [deriveT (65 + i) x y z] := take_succ_of (sixT_at x y z h)
/-- A block that is written by a call of its own beside an arena. -/
theorem St.set_ {w0 : World} {g : Nat} {W : World} {L : List Tm} (h : St w0 g W L) {q o : Nat} {cs : Array Value} {t : TypeId} (hq : w0.heap.size ≤ q) (hb : W.heap[q]? = some (.cells cs t (0, 0))) (v : Value)
    (h1 : t ≠ 75) (h2 : t ≠ 68) (h3 : t ≠ 3) (h4 : t ≠ 33) : St w0 g (W.setCell ⟨q, o, none⟩ v) L := by
  have hst := grown_set W ⟨q, o, none⟩ v
  have hk : Keeps (fun r => r = q) W (W.setCell ⟨q, o, none⟩ v) := Keeps.of_grown hst fun r hr => by injection hr with hr; exact hr.symm
  have hT : Typ W q t := ⟨_, _, hb⟩
  obtain ⟨A, e1, e2, H, hB⟩ := h
  refine ⟨A, e1, e2, H.keepF hk (fun r hr hf => ?_) (fun r cur fr hr hf => ?_), hB.trans (hk.below (fun r hr => by rw [hr]; exact hq) hB.size)⟩
  · subst hf
    rcases has_typ H hr hT with e | e | e
    · exact h1 e
    · exact h2 e
    · exact h3 e
  · subst hf
    exact (show Typ W r _ from ⟨_, _, hr⟩).ne hT (Ne.symm h4) rfl
theorem St.row_ {w0 : World} {g : Nat} {W : World} {L : List Tm} (h : St w0 g W L) {q : Nat} {cs : Array Value} {t : TypeId} (hq : w0.heap.size ≤ q) (hb : W.heap[q]? = some (.cells cs t (0, 0))) (vs : Array Value)
    (h1 : t ≠ 75) (h2 : t ≠ 68) (h3 : t ≠ 3) (h4 : t ≠ 33) : St w0 g (W.setRow q vs) L := by
  have hst : W.grownBy (W.setRow q vs) (some q) := ⟨rfl, rfl, rfl, by simp [World.setRow], fun k _ hk => hsetRow_off (fun e => hk (by rw [e])) _⟩
  have hk : Keeps (fun r => r = q) W (W.setRow q vs) := Keeps.of_grown hst fun r hr => by injection hr with hr; exact hr.symm
  have hT : Typ W q t := ⟨_, _, hb⟩
  obtain ⟨A, e1, e2, H, hB⟩ := h
  refine ⟨A, e1, e2, H.keepF hk (fun r hr hf => ?_) (fun r cur fr hr hf => ?_), hB.trans (hk.below (fun r hr => by rw [hr]; exact hq) hB.size)⟩
  · subst hf
    rcases has_typ H hr hT with e | e | e
    · exact h1 e
    · exact h2 e
    · exact h3 e
  · subst hf
    exact (show Typ W r _ from ⟨_, _, hr⟩).ne hT (Ne.symm h4) rfl
def SixR (w0 W : World) (g : Nat) (L : List Tm) (x y z : Option Tm) (r : Ending) (W' : World) : Prop := ∃ l L', r = .returned (.agg (l.map (Value.int .i64)).toArray) ∧ l.length = 6 ∧ St w0 g W' L' ∧ (∃ e, L' = L ++ e) ∧ L'.length ≤ L.length + 6 ∧ NmL L' l (sixT x y z) ∧ Stay W W' ∧ W.heap.size ≤ W'.heap.size
set_option maxRecDepth 100000 in
set_option maxHeartbeats 4000000 in
theorem six_any {w0 W : World} {g : Nat} {L : List Tm} (hS : St w0 g W L) (hL : L.length + 6 ≤ 100) (x y z : Int) (o1 o2 o3 : Option Tm) (hx : Nm L x o1) (hy : Nm L y o2) (hz : Nm L z o3) :
    Calls Tryz.prog 11 #[.pointer (some ⟨g, 0, none⟩), .int .i64 x, .int .i64 y, .int .i64 z] W (SixR w0 W g L o1 o2 o3) := by
  have hb1 := below_new W (.cells (six0 []).toArray 36)
  have hb2 := below_new (W.alloc (.cells (six0 []).toArray 36)) (.cells (six0 []).toArray 36)
  have hr8 := heap_past (heap_new W (.cells (six0 []).toArray 36)) (.cells (six0 []).toArray 36)
  have hr9 := heap_new (W.alloc (.cells (six0 []).toArray 36)) (.cells (six0 []).toArray 36)
  rw [World.size_alloc] at hr9
  have hS2 := Lib.hid ((hS.keep hb1).keep hb2)
  have hY2 := Lib.hid ((Stay.of_below hb1).trans (Stay.of_below hb2))
  have hz2 := Lib.hid (Nat.le_trans hb1.size hb2.size)
  have hwW := Lib.hid hS.below.size
  have hr8h := Lib.hid hr8
  have hr9h := Lib.hid hr9
  have hLh := Lib.hid hL
  have hn := Lib.hid (And.intro hx (And.intro hy hz))
  clear hb1 hb2 hr8 hr9 hS hL hx hy hz
  go_enter Tryz.func11, Tryz.ntmps11
  go_upto_region 2 with (first
    | (refine wpList_alloc_row 36 rfl rfl (six0 []).toArray (by kernel_rfl) ?_; try simp only [World.size_alloc]))
  generalize ((W.alloc (.cells (six0 []).toArray 36)).alloc (.cells (six0 []).toArray 36)) = W2 at *
  obtain ⟨p8, hp8⟩ : ∃ p, p = W.heap.size := ⟨_, rfl⟩
  obtain ⟨p9, hp9⟩ : ∃ p, p = W.heap.size + 1 := ⟨_, rfl⟩
  rw [← hp9]
  rw [← hp9] at hr9h
  have hr8h : Hid (W2.heap[p8]? = some (.cells (six0 []).toArray 36 (0, 0))) := by rw [hp8]; exact hr8h.out
  rw [← hp8]
  have hp := Lib.hid (And.intro hp8 hp9)
  clear hp8 hp9
  go_wp2_with fail
  have hE0 : Hid (∃ e, L = L ++ e) := ⟨[], by simp⟩
  go_loopw [11] (fun iv wr => ∃ (l : List Int) (Lt : List Tm), l.length ≤ 6 ∧ iv = .int .i64 l.length ∧ Hid (St w0 g wr Lt) ∧ Hid (∃ e, Lt = L ++ e) ∧ Hid (Lt.length ≤ L.length + l.length) ∧ Hid (NmL Lt l ((sixT o1 o2 o3).take l.length)) ∧ Hid (Stay W wr) ∧ Hid (W.heap.size ≤ wr.heap.size) ∧
    Hid (wr.heap[p8]? = some (.cells (six0 []).toArray 36 (0, 0))) ∧ Hid (wr.heap[p9]? = some (.cells (six0 l).toArray 36 (0, 0)))) (fun iv _ => 6 - (intOf iv).toNat)
  case atStart => exact ⟨[], L, by simp, rfl, hS2, hE0, Nat.le_refl _, NmL.nil_ L, hY2, hz2, hr8h, hr9h⟩
  case round =>
    clear hS2 hE0 hY2 hz2 hr8h hr9h
    obtain ⟨l, Lt, hl, rfl, hS, hE, hLt, hN, hY, hz, h8, h9⟩ := hrel
    by_cases hlt : l.length < 6
    · have hli : (l.length : Int) < 6 := by omega
      have hnm : ∀ {v : Int} {o : Option Tm}, Nm L v o → get Lt v = o := fun h => by
        obtain ⟨e, he⟩ := hE.out
        rw [he]; exact (h.app).1
      have cD := hS.out.derive2 (by have := hLh.out; have := hLt.out; omega) (65 + l.length) (by omega) x y z
      rw [hnm hn.out.1, hnm hn.out.2.1, hnm hn.out.2.2] at cD
      replace cD := Lib.hid cD
      obtain ⟨i, hi⟩ : ∃ i, i = l.length := ⟨_, rfl⟩
      have hi6 : i < 6 := by omega
      have hwr : IntKind.u8.wrap (65 + (i : Int)) = 65 + (i : Int) := by rw [IntKind.wrap_u8]; omega
      have h9s := h9.out
      have hih := Lib.hid hi
      rw [← hi] at cD hli hlt ⊢
      clear hnm hi hl
      have cD : Hid (Calls Tryz.prog 37 #[.pointer (some ⟨g, 0, none⟩), .int .u8 (65 + (i : Int)), .int .i64 x, .int .i64 y, .int .i64 z] wr (SR w0 g wr Lt (deriveT (65 + i) o1 o2 o3))) := by have := cD.out; rwa [Int.natCast_add] at this
      go_wp2_with (go_at_call 37; refine cD.out.mono ?_; rintro r w3 ⟨L', x', rfl, a1, a2, a3, a4, a5, a6⟩
                   have h93 := a4 _ _ _ _ h9.out (by decide) (by decide) (by decide)
                   have h83 := Lib.hid (a4 _ _ _ _ h8.out (by decide) (by decide) (by decide))
                   have c93 : w3.cell? ⟨p9, i, none⟩ = some (.int .i64 0) := (cell_of_row w3 p9 i _ _ _ h93).trans (six0_at hih.out hi6)
                   have f93 : w3.frozen? ⟨p9, i, none⟩ = false := by simp [World.frozen?, h93]
                   have ha := Lib.hid (And.intro a1 (And.intro a2 (And.intro a3 (And.intro a4 (And.intro a5 h93))))))
      go_roundw
      case rel =>
        obtain ⟨a1, a2, a3, a4, a5, h93⟩ := ha.out
        have hge : w0.heap.size ≤ p9 := by have := hp.out.2; have := hwW.out; omega
        have hge2 : W.heap.size ≤ p9 := by have := hp.out.2; omega
        have hne : p8 ≠ p9 := by have := hp.out.1; have := hp.out.2; omega
        have hst := grown_set w3 ⟨p9, i, none⟩ (.int .i64 x')
        refine ⟨l ++ [x'], L', by simp; have := hih.out; omega, by rw [hih.out]; simp, a1.set_ hge h93 _ (by decide) (by decide) (by decide) (by decide), ?_, ?_, ?_, ?_, Nat.le_trans hz.out (Nat.le_trans a5 hst.size), ?_, ?_⟩
        · obtain ⟨e1, q1⟩ := a2.pre
          obtain ⟨e2', q2⟩ := hE.out
          exact ⟨e2' ++ e1, by rw [q1, q2, List.append_assoc]⟩
        · have h1 := a2.len; have h2 := hLt.out; show L'.length ≤ L.length + (l ++ [x']).length; simp; omega
        · have h1 := (hN.out.grow a2).snoc a3
          show NmL L' (l ++ [x']) ((sixT o1 o2 o3).take (l ++ [x']).length)
          rw [List.length_append, List.length_singleton, ← hih.out, sixT_take hi6]
          rw [← hih.out] at h1
          exact h1
        · intro r cur t fr hc q1 q2 q3
          have hlt2 : r < W.heap.size := (Array.getElem?_eq_some_iff.1 hc).1
          exact (heap_setCell_other w3 ⟨p9, i, none⟩ r _ (by show r ≠ p9; omega)).trans ((hY.out.trans a4) r cur t fr hc q1 q2 q3)
        · exact (heap_setCell_other w3 ⟨p9, i, none⟩ p8 _ hne).trans h83.out
        · show (w3.setCell ⟨p9, i, none⟩ (.int .i64 x')).heap[p9]? = _
          rw [heap_setCell_same w3 p9 i _ _ _ h93, hih.out, six0_set x' (by rw [← hih.out]; exact hi6)]
      case measure => simp [intOf]; omega
    · have h6 : l.length = 6 := by omega
      have hN6 := hN.out
      rw [h6, List.take_of_length_le (by simp [sixT])] at hN6
      have hR := Lib.hid (And.intro hN6 (And.intro hE.out (And.intro hS.out (And.intro hY.out hz.out))))
      have hLt6 := hLt.out
      rw [h6] at hLt6
      have hLh6 := Lib.hid hLt6
      have hr := Lib.hid (rangeAt_list h9.out)
      have he := six0_full h6
      have hcs := six0_len hl
      have h6h := Lib.hid h6
      have h8h := h8
      have hge : w0.heap.size ≤ p8 := by have := hp.out.1; have := hwW.out; omega
      have hgeh := Lib.hid (And.intro hge (show W.heap.size ≤ p8 by have := hp.out.1; omega))
      have hall : (six0 l).toArray.all (·.oneCell') = true := by
        rw [he]; simp [Value.oneCell']
      rw [show (l.length : Int) = 6 by omega]
      clear hN hE hS hY hz hlt hLt h8 hl hLt6 hN6 hge h6
      go_wp2_with (first
        | (refine wpList_load_at 36 _ rfl rfl p9 0 rfl (six0 l) _ hr.out Tryz.underlying36 rfl (by rw [hcs]; kernel_rfl) ?_)
        | (refine wpList_store_at 36 _ _ rfl rfl p8 (six0 l).toArray rfl rfl 36 (six0 []).toArray h8h.out (by simp only [List.size_toArray]; rw [hcs]; kernel_rfl) (by simp only [List.size_toArray]; rw [hcs]; rfl) hall ?_))
      have hfin : Hid (SixR w0 W g L o1 o2 o3 (.returned (.agg (six0 l).toArray)) (wr.setRow p8 (six0 l).toArray)) := by
        refine ⟨l, Lt, by rw [he], h6h.out, hR.out.2.2.1.row_ hgeh.out.1 h8h.out _ (by decide) (by decide) (by decide) (by decide), hR.out.2.1, hLh6.out, hR.out.1, fun r cur t fr hc q1 q2 q3 => ?_, Nat.le_trans hR.out.2.2.2.2 (by simp [World.setRow])⟩
        have hlt2 : r < W.heap.size := (Array.getElem?_eq_some_iff.1 hc).1
        have := hgeh.out.2
        exact (hsetRow_off (show r ≠ p8 by omega) _).trans (hR.out.2.2.2.1 r cur t fr hc q1 q2 q3)
      refine bodyPost_ret (results_cell_row rfl _ _ p8 36 (six0 l).toArray (0, 0) _ rfl (hsetRow _ _ _ _ _ _ h8h.out) Tryz.underlying36 rfl (by simp only [List.size_toArray]; rw [hcs]; kernel_rfl)) rfl hfin.out
end

section
open Classical in
/-- What is sealed in a term, opened with another one. -/
noncomputable def openT (p q : Option Tm) : Option Tm := match p with
  | some t => if t.kind = 9 ∧ t.args[0]? = q then t.args[1]? else none
  | none => none
def atT (p : Option Tm) (i : Int) : Option Tm := match p with
  | some t => if t.kind = 10 ∧ 0 ≤ i then t.args[i.toNat]? else none
  | none => none
def addT (p q : Option Tm) : Option Tm := match p with
  | some t => if t.kind = 10 then listT (t.args.map some ++ [q]) else none
  | none => none
/-- The first of a list with a key. -/
def sel {α : Type} (d : α) (k : Int) : List (Int × α) → α
  | [] => d
  | (i, a) :: r => if k = i then a else sel d k r
theorem sel_all {α : Type} {P : α → Prop} {d : α} {k : Int} (h0 : P d) : ∀ {l : List (Int × α)}, (∀ p ∈ l, k = p.1 → P p.2) → P (sel d k l)
  | [], _ => h0
  | (i, a) :: r, h => by
    rw [sel]
    split
    · rename_i e; exact h (i, a) (by simp) e
    · exact sel_all h0 fun p hp => h p (by simp [hp])
theorem sel_none {α : Type} {d : α} {k : Int} : ∀ {l : List (Int × α)}, (∀ p ∈ l, k ≠ p.1) → sel d k l = d
  | [], _ => rfl
  | (i, a) :: r, h => by rw [sel, if_neg (h (i, a) (by simp)), sel_none fun p hp => h p (by simp [hp])]
/-- What one step makes. -/
noncomputable def stepT (known sent made : List (Option Tm)) (x : Mk) : Option Tm :=
  sel none x.k [(0, dataT x.s), (1, nonceT 0 x.a), (2, pkO known x.a), (3, pkO sent x.a), (4, baseT x.s), (5, expT (pkO made x.a) (pkO made x.b)), (6, pubT (pkO made x.a)),
    (7, signT x.s (pkO made x.a) (pkO made x.b)), (8, hashT (pkO made x.a)), (9, if x.s = [] then none else deriveT (ltr x.s).toNat (pkO made x.a) (pkO made x.b) (pkO made x.c)),
    (10, if 0 ≤ x.c ∧ x.c ≤ 4294967295 then sealT (pkO made x.a) x.c.toNat (pkO made x.b) else none), (11, openT (pkO made x.a) (pkO made x.b)), (12, listT []), (13, addT (pkO made x.a) (pkO made x.b)), (14, atT (pkO made x.a) x.b)]
noncomputable def recT (known sent : List (Option Tm)) : List Mk → List (Option Tm) → List (Option Tm)
  | [], os => os
  | x :: r, os => recT known sent r (os ++ [stepT known sent os x])
theorem recT_app (known sent : List (Option Tm)) (l m : List Mk) (os : List (Option Tm)) : recT known sent (l ++ m) os = recT known sent m (recT known sent l os) := by
  induction l generalizing os with
  | nil => rfl
  | cons x r ih => exact ih _
theorem recT_len (known sent : List (Option Tm)) (l : List Mk) (os : List (Option Tm)) : (recT known sent l os).length = l.length + os.length := by
  induction l generalizing os with
  | nil => simp [recT]
  | cons x r ih => rw [recT, ih]; simp; omega
theorem recT_take {known sent : List (Option Tm)} {l : List Mk} {j : Nat} {x : Mk} (h : l[j]? = some x) : recT known sent (l.take (j + 1)) [] = recT known sent (l.take j) [] ++ [stepT known sent (recT known sent (l.take j) []) x] := by
  rw [take_succ_of h, recT_app]
  rfl
theorem recT_pre (known sent : List (Option Tm)) (l : List Mk) (os : List (Option Tm)) : ∃ r, recT known sent l os = os ++ r := by
  induction l generalizing os with
  | nil => exact ⟨[], by simp [recT]⟩
  | cons x r ih =>
    obtain ⟨m, hm⟩ := ih (os ++ [stepT known sent os x])
    exact ⟨[stepT known sent os x] ++ m, by rw [recT, hm, List.append_assoc]⟩
/-- What is to be shown of all steps is to be shown of one. -/
theorem recT_all {known sent : List (Option Tm)} {P : Option Tm → Prop} (l : List Mk) (hs : ∀ os x, x ∈ l → (∀ o ∈ os, P o) → P (stepT known sent os x)) : ∀ (os : List (Option Tm)), (∀ o ∈ os, P o) → ∀ o ∈ recT known sent l os, P o := by
  induction l with
  | nil => intro os h; exact h
  | cons x r ih =>
    intro os h
    rw [recT]
    refine ih (fun os x hx => hs os x (by simp [hx])) _ fun o ho => ?_
    rcases List.mem_append.1 ho with ho | ho
    · exact h o ho
    · rw [List.mem_singleton.1 ho]; exact hs os x (by simp) h

theorem openT_ok {p q : Option Tm} (h : okO p) : okO (openT p q) := by
  unfold openT
  cases p with
  | none => exact okO_none
  | some t =>
    dsimp only
    split
    · intro u hu
      have ht := h t rfl
      obtain ⟨k, a, b, s, args⟩ := t
      exact (ok_mk.1 ht).2.2 u (List.mem_of_getElem? hu)
    · exact okO_none
theorem atT_ok {p : Option Tm} {i : Int} (h : okO p) : okO (atT p i) := by
  unfold atT
  cases p with
  | none => exact okO_none
  | some t =>
    dsimp only
    split
    · intro u hu
      have ht := h t rfl
      obtain ⟨k, a, b, s, args⟩ := t
      exact (ok_mk.1 ht).2.2 u (List.mem_of_getElem? hu)
    · exact okO_none
theorem addT_ok {p q : Option Tm} (h : okO p) (hq : okO q) : okO (addT p q) := by
  unfold addT
  cases p with
  | none => exact okO_none
  | some t =>
    dsimp only
    split
    · refine listT_ok fun o ho => ?_
      have ht := h t rfl
      obtain ⟨k, a, b, s, args⟩ := t
      rcases List.mem_append.1 ho with ho | ho
      · obtain ⟨u, hu, rfl⟩ := List.mem_map.1 ho
        intro v hv
        obtain rfl := Option.some.inj hv
        exact (ok_mk.1 ht).2.2 _ hu
      · rw [List.mem_singleton.1 ho]; exact hq
    · exact okO_none
theorem stepT_ok {known sent made : List (Option Tm)} (x : Mk) (hk : ∀ o ∈ known, okO o) (hs : ∀ o ∈ sent, okO o) (hm : ∀ o ∈ made, okO o) : okO (stepT known sent made x) := by
  have a1 := fun i => pkO_all (P := okO) (os := made) i okO_none hm
  refine sel_all okO_none fun p hp e => ?_
  simp only [List.mem_cons, List.not_mem_nil, or_false] at hp
  rcases hp with rfl | rfl | rfl | rfl | rfl | rfl | rfl | rfl | rfl | rfl | rfl | rfl | rfl | rfl | rfl
  · exact dataT_ok _
  · exact nonceT_ok _ _
  · exact pkO_all _ okO_none hk
  · exact pkO_all _ okO_none hs
  · exact baseT_ok _
  · exact expT_ok (a1 _) (a1 _)
  · exact pubT_ok (a1 _)
  · exact signT_ok (a1 _) (a1 _)
  · exact hashT_ok (a1 _)
  · dsimp only
    split
    · exact okO_none
    · exact deriveT_ok (UInt8.toNat_lt _) (a1 _) (a1 _) (a1 _)
  · dsimp only
    split
    · exact sealT_ok (by omega) (a1 _) (a1 _)
    · exact okO_none
  · exact openT_ok (a1 _)
  · exact listT_ok (l := []) (fun _ h => absurd h (List.not_mem_nil))
  · exact addT_ok (a1 _) (a1 _)
  · exact atT_ok (a1 _)
end
end Go.Proofs.YtbeanjaenmpoeaaGreatDoor
