/- Texts joined: what each shows stands ahead of its theorems. -/
import Derived.Test.YtbeanjaenmpoeaaGreatDoorRb12
import Derived.Test.YtbeanjaenmpoeaaGreatDoorRb13
import Derived.Test.YtbeanjaenmpoeaaGreatDoorRb18
namespace Go.Proofs.YtbeanjaenmpoeaaGreatDoor
section
open Go.RowKit Go.Maps

/-- Made: its numbers l and texts in the block q, beside the arena. -/
structure Md (w0 : World) (g q B : Nat) (W : World) (AI AT : Option Addr) (n cI cT : Nat) (l : List Int) (L : List Tm) (os : List (Option Tm)) : Prop where
  st : St w0 g W L
  ml : MadeL L l os
  ll : l.length = n
  lo : os.length = n
  blk : W.heap[q]? = some (.cells #[.slice AI n cI, .slice AT n cT] 31 (0, 0))
  ids : OwnD W B (.slice AI n cI) l
  txt : OwnS W B (.slice AT n cT) (os.map fun o => bs (encO o))
  off : OffE W g (inV (.slice AI n cI))
  hB : w0.heap.size ≤ B
  hq : w0.heap.size ≤ q
section
variable {w0 : World} {g q B : Nat} {W W' : World} {AI AT : Option Addr} {n cI cT : Nat} {l : List Int} {L L' : List Tm} {os : List (Option Tm)}
theorem Md.below (h : Md w0 g q B W AI AT n cI cT l L os) (hb : Below W.heap.size W W') : Md w0 g q B W' AI AT n cI cT l L os :=
  ⟨h.st.keep hb, h.ml, h.ll, h.lo, (hb.block q (Array.getElem?_eq_some_iff.1 h.blk).1).trans h.blk, OwnR.keep h.ids hb, OwnR.keep h.txt hb, h.off.keep hb, h.hB, h.hq⟩
theorem Md.ints (h : Md w0 g q B W AI AT n cI cT l L os) : Ints W AI n l := by
  obtain ⟨A, c, e, hi⟩ := h.ids.ints
  injection e with e1 e2 e3
  rw [e1, e2]
  exact hi
theorem Md.strs (h : Md w0 g q B W AI AT n cI cT l L os) : Strs W AT n (os.map fun o => bs (encO o)) := by
  obtain ⟨A, c, e, hi⟩ := h.txt.strs
  injection e with e1 e2 e3
  rw [e1, e2]
  exact hi
theorem Md.c0 (h : Md w0 g q B W AI AT n cI cT l L os) : W.cell? ⟨q, 0, none⟩ = some (.slice AI n cI) := cell_of_row W q 0 _ _ _ h.blk
theorem Md.c1 (h : Md w0 g q B W AI AT n cI cT l L os) : W.cell? ⟨q, 1, none⟩ = some (.slice AT n cT) := cell_of_row W q 1 _ _ _ h.blk
theorem Md.row (h : Md w0 g q B W AI AT n cI cT l L os) : W.rangeAt q 0 [.slice AI n cI, .slice AT n cT] := rangeAt_list h.blk
theorem Md.made (h : Md w0 g q B W AI AT n cI cT l L os) : MadeW W AI AT n l os := ⟨h.ints, h.strs⟩
/-- One of them. -/
theorem Md.at_ (h : Md w0 g q B W AI AT n cI cT l L os) {j : Nat} (hj : j < n) : ∃ b off b' off' x o, AI = some ⟨b, off, none⟩ ∧ AT = some ⟨b', off', none⟩ ∧ b < W.heap.size ∧ b' < W.heap.size ∧ l[j]? = some x ∧ os[j]? = some o ∧ W.cell? ⟨b, off + j, none⟩ = some (.int .i64 x) ∧ W.cell? ⟨b', off' + j, none⟩ = some (.string (bs (encO o))) ∧ Nm L x o ∧ okO o := by
  obtain ⟨b, off, x, e, hb, hx, hc⟩ := h.ints.at_ hj
  obtain ⟨b', off', z, e', hb', hz, hc'⟩ := h.strs.at_ hj
  obtain ⟨o, ho⟩ : ∃ o, os[j]? = some o := ⟨os[j]'(by rw [h.lo]; exact hj), List.getElem?_eq_getElem _⟩
  rw [List.getElem?_map, ho] at hz
  have hz : bs (encO o) = z := Option.some.inj hz
  subst hz
  exact ⟨b, off, b', off', x, o, e, e', hb, hb', hx, ho, hc, hc', h.ml.nm j x o hx ho, h.ml.ok h.st.good o (List.mem_of_getElem? ho)⟩
end
/-- What Makes returned, laid in a new block. -/
def boxW (W : World) (v : Array Value) : World := (W.alloc (.cells #[.slice none 0 0, .slice none 0 0] 31)).setRow W.heap.size v
theorem md_new {w0 W W' : World} {g : Nat} {ms : List Mk} {n : Nat} {r : Ending} (hn : ms.length = n) (hw : w0.heap.size ≤ W.heap.size) (h : MakesR w0 W g ms r W') :
    ∃ AI cI AT cT l L, r = .returned (.agg #[.slice AI n cI, .slice AT n cT]) ∧ Md w0 g W'.heap.size W.heap.size (boxW W' #[.slice AI n cI, .slice AT n cT]) AI AT n cI cT l L (mksO ms []) ∧ L.length ≤ n ∧
      (W'.alloc (.cells #[.slice none 0 0, .slice none 0 0] 31)).heap[W'.heap.size]? = some (.cells #[.slice none 0 0, .slice none 0 0] 31 (0, 0)) ∧ (#[.slice AI n cI, .slice AT n cT] : Array Value).all (·.oneCell') = true ∧
      (boxW W' #[.slice AI n cI, .slice AT n cT]).heap[W'.heap.size]? = some (.cells #[.slice AI n cI, .slice AT n cT] 31 (0, 0)) := by
  obtain ⟨vI, vT, l, L, rfl, hS, hM, hL, hO, hT, ho, hz⟩ := h
  have hlo : (mksO ms []).length = n := by rw [mksO_len]; simpa using hn
  have hll : l.length = n := hM.len.trans hlo
  obtain ⟨AI, cI, eI, _⟩ := hO.ints
  obtain ⟨AT, cT, eT, _⟩ := hT.strs
  rw [hll] at eI
  rw [List.length_map, hlo] at eT
  subst eI
  subst eT
  have hnew := heap_new W' (.cells #[.slice none 0 0, .slice none 0 0] 31)
  have hb : Below W'.heap.size W' (boxW W' #[.slice AI n cI, .slice AT n cT]) := below_setRow_ (below_new W' _) (Nat.le_refl _) _
  have hrow := hsetRow _ _ _ #[.slice AI n cI, .slice AT n cT] _ _ hnew
  refine ⟨AI, cI, AT, cT, l, L, rfl, ⟨hS.keep hb, hM, hll, hlo, hrow, OwnR.keep hO hb, OwnR.keep hT hb, ho.keep hb, hw, by omega⟩, by omega, hnew, by simp [Value.oneCell'], hrow⟩
end

section
open Go.RowKit Go.Maps

/-- A slice of numbers of terms, in a block of such. -/
structure IdsT (w : World) (A : Option Addr) (n : Nat) (l : List Int) : Prop where
  ints : Ints w A n l
  typ : 0 < n → ∃ b off cur fr, A = some ⟨b, off, none⟩ ∧ w.heap[b]? = some (.cells cur 33 fr)
theorem IdsT.stay {w w' : World} {A : Option Addr} {n : Nat} {l : List Int} (h : IdsT w A n l) (hs : Stay w w') : IdsT w' A n l := by
  refine ⟨⟨h.ints.1, h.ints.2.1, fun hn => ?_⟩, fun hn => ?_⟩
  · obtain ⟨b1, off, cur, fr, e, hc⟩ := h.typ hn
    obtain ⟨b2, off2, e2, hlt, hr2⟩ := h.ints.2.2 hn
    rw [e] at e2
    injection e2 with e2
    injection e2 with q1 q2 _
    subst q1
    subst q2
    have hk := hs _ _ _ _ hc (by decide) (by decide) (by decide)
    refine ⟨b1, off, e, (Array.getElem?_eq_some_iff.1 hk).1, fun j z hz i u hu => ?_⟩
    rw [World.cell?_of_block (hk.trans hc.symm)]
    exact hr2 j z hz i u hu
  · obtain ⟨b1, off, cur, fr, e, hc⟩ := h.typ hn
    exact ⟨b1, off, cur, fr, e, hs _ _ _ _ hc (by decide) (by decide) (by decide)⟩
theorem IdsT.nil_ {w : World} {A : Option Addr} : IdsT w A 0 [] := ⟨Rws.nil_, fun h => absurd h (by omega)⟩
theorem IdsT.of_own {w : World} {B : Nat} {v : Value} {l : List Int} (h : OwnD w B v l) : ∃ A c, v = .slice A l.length c ∧ IdsT w A l.length l := by
  obtain ⟨A, c, hv, hi⟩ := h.ints
  refine ⟨A, c, hv, hi, fun hn => ?_⟩
  obtain ⟨b, off, e, _⟩ := hi.2.2 hn
  obtain ⟨cur, fr, hc⟩ := OwnR.typ h (q := b) (by rw [hv, e]; rfl)
  exact ⟨b, off, cur, fr, e, hc⟩
/-- What a kitchen holds: what is known, what was sent, what was made. -/
structure KF (g q : Nat) (W : World) (kA sA mA : Option Addr) (kn kc sn sc mn mc : Nat) (lk ls lm : List Int) : Prop where
  blk : W.heap[q]? = some (.cells #[.pointer (some ⟨g, 0, none⟩), .slice kA kn kc, .slice sA sn sc, .slice mA mn mc] 100 (0, 0))
  k : IdsT W kA kn lk
  s : IdsT W sA sn ls
  m : IdsT W mA mn lm
theorem KF.stay {g q : Nat} {W W' : World} {kA sA mA : Option Addr} {kn kc sn sc mn mc : Nat} {lk ls lm : List Int} (h : KF g q W kA sA mA kn kc sn sc mn mc lk ls lm) (hs : Stay W W') : KF g q W' kA sA mA kn kc sn sc mn mc lk ls lm :=
  ⟨hs _ _ _ _ h.blk (by decide) (by decide) (by decide), h.k.stay hs, h.s.stay hs, h.m.stay hs⟩
theorem KF.cells {g q : Nat} {W : World} {kA sA mA : Option Addr} {kn kc sn sc mn mc : Nat} {lk ls lm : List Int} (h : KF g q W kA sA mA kn kc sn sc mn mc lk ls lm) :
    W.cell? ⟨q, 0, none⟩ = some (.pointer (some ⟨g, 0, none⟩)) ∧ W.cell? ⟨q, 1, none⟩ = some (.slice kA kn kc) ∧ W.cell? ⟨q, 2, none⟩ = some (.slice sA sn sc) ∧ W.cell? ⟨q, 3, none⟩ = some (.slice mA mn mc) :=
  ⟨cell_of_row W q 0 _ _ _ h.blk, cell_of_row W q 1 _ _ _ h.blk, cell_of_row W q 2 _ _ _ h.blk, cell_of_row W q 3 _ _ _ h.blk⟩
theorem SR.same {w W W1 : World} {g : Nat} {L : List Tm} {o : Option Tm} {x : Int} (h : St w g W1 L) (hx : Nm L x o) (hb : Below W.heap.size W W1) : SR w g W L o (.returned (.int .i64 x)) W1 :=
  ⟨L, x, rfl, h, .inl ⟨rfl, fun t e => by have := hx.1; rw [e] at this; exact get_mem this⟩, hx, Stay.of_below hb, hb.size, Fresh.of_below hb⟩
theorem rat_any {A : Option Addr} {n c : Nat} {l : List Int} (i : Int) (w : World) (hn : n ≤ 1000) (h : Ints w A n l) :
    Calls Tryz.prog 84 #[.slice A n c, .int .i64 i] w fun r w' => r = .returned (.int .i64 (pkI l i)) ∧ w = w' := by
  have hll := h.len
  by_cases h0 : i < 0
  · have e1 : pkI l i = -1 := if_pos h0
    rw [e1]
    clear hll h
    go_enter Tryz.func84, Tryz.ntmps84
    go_wp2_with fail
    go_ret
    exact ⟨rfl, rfl⟩
  · obtain ⟨k, rfl⟩ := Int.eq_ofNat_of_zero_le (Int.not_lt.1 h0)
    by_cases hk : k < n
    · obtain ⟨b, off, x, rfl, hb, hx, hc⟩ := h.at_ hk
      have e1 : pkI l k = x := by unfold pkI; rw [if_neg h0, Int.toNat_natCast, hx]; rfl
      rw [e1]
      have hki : ¬ ((n : Int) ≤ (k : Int)) := by omega
      clear hll hx h e1
      go_enter Tryz.func84, Tryz.ntmps84
      go_wp2_with fail
      go_ret
      exact ⟨rfl, rfl⟩
    · have e1 : pkI l k = -1 := by unfold pkI; rw [if_neg h0, Int.toNat_natCast, List.getElem?_eq_none (by omega)]; rfl
      rw [e1]
      have hki : ((n : Int) ≤ (k : Int)) := by omega
      clear hll h e1
      go_enter Tryz.func84, Tryz.ntmps84
      go_wp2_with fail
      go_ret
      exact ⟨rfl, rfl⟩
/-- A node, laid in a new block. -/
theorem nd_box2 (w5 : World) (k a b : Nat) (s : List UInt8) (A : Option Addr) (m c : Nat) : (w5.alloc (.cells #[.int .i64 0, .int .i64 0, .int .i64 0, .string ⟨#[]⟩, .slice none 0 0] 68)).heap[w5.heap.size]? = some (.cells #[.int .i64 0, .int .i64 0, .int .i64 0, .string ⟨#[]⟩, .slice none 0 0] 68 (0, 0)) ∧ Below w5.heap.size w5 ((w5.alloc (.cells #[.int .i64 0, .int .i64 0, .int .i64 0, .string ⟨#[]⟩, .slice none 0 0] 68)).setRow w5.heap.size (ndC k a b s (.slice A m c)).toArray) ∧ ((w5.alloc (.cells #[.int .i64 0, .int .i64 0, .int .i64 0, .string ⟨#[]⟩, .slice none 0 0] 68)).setRow w5.heap.size (ndC k a b s (.slice A m c)).toArray).heap[w5.heap.size]? = some (.cells (ndC k a b s (.slice A m c)).toArray 68 (0, 0)) :=
  ⟨heap_new w5 _, below_setRow_ (below_new w5 _) (Nat.le_refl _) _, hsetRow _ _ _ _ _ _ (heap_new w5 _)⟩
/-- An argument's number. -/
theorem arg_nm {L : List Tm} {xs : List Nat} {args : List Tm} (h : xs.map (fun i => L[i]?) = args.map some) {j : Nat} {y : Nat} {u : Tm} (hy : xs[j]? = some y) (hu : args[j]? = some u) : Nm L (y : Int) (some u) := by
  have := congrArg (fun q => q[j]?) h
  simp only [List.getElem?_map, hy, hu] at this
  exact ⟨by rw [get_nat]; simpa using this, fun e => by cases e⟩
def OpnR (L : List Tm) (W : World) (o : Option Tm) (r : Ending) (w' : World) : Prop := ∃ z : Int, r = .returned (.int .i64 z) ∧ Nm L z o ∧ Below W.heap.size W w'
set_option maxRecDepth 100000 in
set_option maxHeartbeats 4000000 in
theorem opens_any {w0 W : World} {g q : Nat} {L : List Tm} (hS : St w0 g W L) {k1 k2 k3 : Value} (hq : W.heap[q]? = some (.cells #[.pointer (some ⟨g, 0, none⟩), k1, k2, k3] 100 (0, 0))) (x y : Int) (p o : Option Tm) (hx : Nm L x p) (hy : Nm L y o) :
    Calls Tryz.prog 87 #[.pointer (some ⟨q, 0, none⟩), .int .i64 x, .int .i64 y] W (OpnR L W (openT p o)) := by
  have c0 := cell_of_row W q 0 _ _ _ hq
  clear hq
  cases p with
  | none =>
    have cV := Lib.hid (hS.view_none x hx.1)
    have e : openT none o = none := rfl
    rw [e]
    have hN := Lib.hid (Nm.none_ L)
    clear e hx hy hS
    unfold OpnR
    go_enter Tryz.func87, Tryz.ntmps87
    go_upto_region 2 with (first
      | (go_at_call 34; refine cV.out.mono ?_; rintro r w2 ⟨rfl, hb2⟩
         obtain ⟨z, b3, _⟩ := nd_box2 w2 0 0 0 [] none 0 0
         have hz := Lib.hid z
         have hb3H := Lib.hid (hb2.trans (b3.mono hb2.size))
         clear hb2 z b3)
      | (refine wpList_store_at 68 _ _ rfl rfl w2.heap.size zNd.toArray rfl rfl 68 zNd.toArray hz.out (by kernel_rfl) rfl zNd_one ?_))
    have hb3 : Below W.heap.size W ((w2.alloc (.cells #[.int .i64 0, .int .i64 0, .int .i64 0, .string ⟨#[]⟩, .slice none 0 0] 68)).setRow w2.heap.size zNd.toArray) := hb3H.out
    clear hb3H hz
    generalize ((w2.alloc (.cells #[.int .i64 0, .int .i64 0, .int .i64 0, .string ⟨#[]⟩, .slice none 0 0] 68)).setRow w2.heap.size zNd.toArray) = w3 at *
    have hb3h := Lib.hid hb3
    clear hb3
    go_wp2_with fail
    go_ret
    exact ⟨_, rfl, hN.out, hb3h.out⟩
  | some t =>
    obtain ⟨k, a, b, s, args⟩ := t
    have hok := ok_mk.1 (hS.good.ok _ (get_mem hx.1))
    have hk1 := okHd_kind hok.1
    have cV := hS.view_ids x _ hx.1
    simp only [Tm.kind, Tm.a, Tm.b, Tm.s, Tm.args] at cV
    replace cV := Lib.hid cV
    have honce := Lib.hid hS.good.once
    have hyh := Lib.hid hy
    by_cases hk : k = 9
    · subst hk
      have hl2 : args.length = 2 := by have := hok.1; unfold okHd at this; omega
      obtain ⟨u0, u1, rfl⟩ : ∃ u0 u1, args = [u0, u1] := by
        match args, hl2 with
        | [u0, u1], _ => exact ⟨u0, u1, rfl⟩
      obtain ⟨res, hres⟩ : ∃ res, openT (some (.mk 9 a b s [u0, u1])) o = res := ⟨_, rfl⟩
      rw [hres]
      replace hres := Lib.hid hres
      clear hok hl2 hx hy hS
      unfold OpnR
      go_enter Tryz.func87, Tryz.ntmps87
      go_upto_region 2 with (first
        | (go_at_call 34; refine cV.out.mono ?_; rintro r w2 ⟨Av, cv, xs, rfl, hI2, hxs, hb2⟩
           obtain ⟨z, b3, hrow⟩ := nd_box2 w2 9 a b s Av 2 cv
           have hI3H := Lib.hid (hI2.keep (F := fun _ => False) (Keeps.of_below b3) (fun _ _ _ _ h => h))
           have hz := Lib.hid z
           have hrowH := Lib.hid hrow
           have hb3H := Lib.hid (hb2.trans (b3.mono hb2.size))
           have hxsh := Lib.hid hxs
           clear hI2 hb2 hrow b3 hxs z)
        | (refine wpList_store_at 68 _ _ rfl rfl w2.heap.size (ndC 9 a b s (.slice Av 2 cv)).toArray rfl rfl 68 zNd.toArray hz.out (by kernel_rfl) rfl nd_all ?_))
      replace hrowH := hrowH.out
      replace hb3H := hb3H.out
      replace hI3H := hI3H.out
      generalize ((w2.alloc (.cells #[.int .i64 0, .int .i64 0, .int .i64 0, .string ⟨#[]⟩, .slice none 0 0] 68)).setRow w2.heap.size (ndC 9 a b s (.slice Av 2 cv)).toArray) = w3 at *
      generalize w2.heap.size = p6 at *
      have d0 : w3.cell? ⟨p6, 0, none⟩ = some (.int .i64 9) := cell_of_row w3 p6 0 _ _ _ hrowH
      have d4 : w3.cell? ⟨p6, 4, none⟩ = some (.slice Av 2 cv) := cell_of_row w3 p6 4 _ _ _ hrowH
      obtain ⟨A', c', ev, hr, _⟩ := hI3H
      injection ev with e1 e2 e3
      subst e1
      clear e3
      have hxl : xs.length = 2 := e2.symm
      obtain ⟨y0, y1, rfl⟩ : ∃ y0 y1, xs = [y0, y1] := by
        match xs, hxl with
        | [y0, y1], _ => exact ⟨y0, y1, rfl⟩
      have n0 := arg_nm hxsh.out (j := 0) rfl rfl
      have n1 := Lib.hid (arg_nm hxsh.out (j := 1) rfl rfl)
      obtain ⟨b1, off, z0, rfl, hbl, hz0, _, hc0⟩ := hr.row (j := 0) (by simp)
      obtain ⟨b2, off2, z1, e2, _, hz1, _, hc1⟩ := hr.row (j := 1) (by simp)
      injection e2 with e2
      injection e2 with q1 q2 _
      subst q1
      subst q2
      obtain rfl : idv y0 = z0 := Option.some.inj hz0
      obtain rfl : idv y1 = z1 := Option.some.inj hz1
      have hc0 : w3.cell? ⟨b1, off, none⟩ = some (.int .i64 y0) := by have := hc0 0 _ rfl; simpa using this
      have hc1 : w3.cell? ⟨b1, off + 1, none⟩ = some (.int .i64 y1) := by have := hc1 0 _ rfl; simpa using this
      have hb3h := Lib.hid hb3H
      have hinj := Nm.inj honce.out n0 hyh.out
      by_cases ho : some u0 = o
      · have f1 : ((y0 : Int) == y) = true := by rw [hinj.2 ho]; simp
        have e : openT (some (.mk 9 a b s [u0, u1])) o = some u1 := by unfold openT; dsimp only; rw [if_pos ⟨rfl, ho⟩]; rfl
        have e2 := Lib.hid (hres.out.symm.trans e)
        clear hrowH hb3H hr hz0 hz1 hinj n0 honce hyh hxsh hxl e ho hz
        go_wp2_with fail
        go_ret
        exact ⟨_, rfl, by rw [e2.out]; exact n1.out, hb3h.out⟩
      · have f1 : ((y0 : Int) == y) = false := by rw [beq_eq_false_iff_ne]; exact fun h => ho (hinj.1 h)
        have e : openT (some (.mk 9 a b s [u0, u1])) o = none := by unfold openT; dsimp only; rw [if_neg (fun h => ho h.2)]
        have e2 := Lib.hid (hres.out.symm.trans e)
        have hN := Lib.hid (Nm.none_ L)
        clear hrowH hb3H hr hz0 hz1 hinj n0 honce hyh hxsh hxl e ho hz
        go_wp2_with fail
        go_ret
        exact ⟨_, rfl, by rw [e2.out]; exact hN.out, hb3h.out⟩
    · have e : openT (some (.mk k a b s args)) o = none := by unfold openT; dsimp only; rw [if_neg (fun h => hk h.1)]
      rw [e]
      have hN := Lib.hid (Nm.none_ L)
      have hkb : ((k : Int) == 9) = false := by rw [beq_eq_false_iff_ne]; omega
      clear e hok hx hy hyh honce hS
      unfold OpnR
      go_enter Tryz.func87, Tryz.ntmps87
      go_upto_region 2 with (first
        | (go_at_call 34; refine cV.out.mono ?_; rintro r w2 ⟨Av, cv, xs, rfl, _, _, hb2⟩
           obtain ⟨z, b3, hrow⟩ := nd_box2 w2 k a b s Av args.length cv
           have hz := Lib.hid z
           have hrowH := Lib.hid hrow
           have hb3H := Lib.hid (hb2.trans (b3.mono hb2.size))
           clear hb2 hrow b3 z)
        | (refine wpList_store_at 68 _ _ rfl rfl w2.heap.size (ndC k a b s (.slice Av args.length cv)).toArray rfl rfl 68 zNd.toArray hz.out (by kernel_rfl) rfl nd_all ?_))
      replace hrowH := hrowH.out
      replace hb3H := hb3H.out
      generalize ((w2.alloc (.cells #[.int .i64 0, .int .i64 0, .int .i64 0, .string ⟨#[]⟩, .slice none 0 0] 68)).setRow w2.heap.size (ndC k a b s (.slice Av args.length cv)).toArray) = w3 at *
      generalize w2.heap.size = p6 at *
      have d0 : w3.cell? ⟨p6, 0, none⟩ = some (.int .i64 k) := cell_of_row w3 p6 0 _ _ _ hrowH
      have hb3h := Lib.hid hb3H
      clear hb3H hrowH hz
      go_wp2_with fail
      go_ret
      exact ⟨_, rfl, hN.out, hb3h.out⟩
end

section
open Go.RowKit Go.Maps

theorem St.view_own2 {w : World} {g : Nat} {W : World} {L : List Tm} (h : St w g W L) (x : Int) (t : Tm) (hg : get L x = some t) : Calls Tryz.prog 34 #[.pointer (some ⟨g, 0, none⟩), .int .i64 x] W fun r w' => ∃ (Av : Option Addr) (c : Nat) (xs : List Nat), r = .returned (.tuple #[.agg (ndC t.kind t.a t.b t.s (.slice Av t.args.length c)).toArray, .bool true]) ∧ OwnR w' W.heap.size 1 33 (.slice Av t.args.length c) (xs.map idv) ∧ xs.map (fun i => L[i]?) = t.args.map some ∧ Below W.heap.size W w' := by
  obtain ⟨A, rfl, rfl, H, _⟩ := h
  exact view_own A _ W H x t hg
/-- A list's terms, in a slice of the call's own; or that it is none. -/
def LstR (L : List Tm) (W : World) (p : Option Tm) (r : Ending) (w' : World) : Prop := ∃ (A : Option Addr) (n c : Nat) (b : Bool), r = .returned (.tuple #[.slice A n c, .bool b]) ∧ Below W.heap.size W w' ∧ (kindO p = 10 ↔ b = true) ∧
  (b = true → ∃ (t : Tm) (xs : List Nat), p = some t ∧ t.kind = 10 ∧ n = t.args.length ∧ n ≤ 32 ∧ OwnR w' W.heap.size 1 33 (.slice A n c) (xs.map idv) ∧ xs.map (fun i => L[i]?) = t.args.map some)
set_option maxRecDepth 100000 in
set_option maxHeartbeats 4000000 in
theorem klist_any {w0 W : World} {g q : Nat} {L : List Tm} (hS : St w0 g W L) {k1 k2 k3 : Value} (hq : W.heap[q]? = some (.cells #[.pointer (some ⟨g, 0, none⟩), k1, k2, k3] 100 (0, 0))) (x : Int) (p : Option Tm) (hx : Nm L x p) :
    Calls Tryz.prog 103 #[.pointer (some ⟨q, 0, none⟩), .int .i64 x] W (LstR L W p) := by
  have c0 := cell_of_row W q 0 _ _ _ hq
  clear hq
  cases p with
  | none =>
    have cV := Lib.hid (hS.view_none x hx.1)
    clear hx hS
    unfold LstR
    go_enter Tryz.func103, Tryz.ntmps103
    go_upto_region 2 with (first
      | (go_at_call 34; refine cV.out.mono ?_; rintro r w2 ⟨rfl, hb2⟩
         obtain ⟨z, b3, hrow⟩ := nd_box2 w2 0 0 0 [] none 0 0
         have hz := Lib.hid z
         have hrowH := Lib.hid hrow
         have hb3H := Lib.hid (hb2.trans (b3.mono hb2.size))
         clear hb2 z b3 hrow)
      | (refine wpList_store_at 68 _ _ rfl rfl w2.heap.size zNd.toArray rfl rfl 68 zNd.toArray hz.out (by kernel_rfl) rfl zNd_one ?_))
    have hb3 : Below W.heap.size W ((w2.alloc (.cells #[.int .i64 0, .int .i64 0, .int .i64 0, .string ⟨#[]⟩, .slice none 0 0] 68)).setRow w2.heap.size zNd.toArray) := hb3H.out
    have hrow : ((w2.alloc (.cells #[.int .i64 0, .int .i64 0, .int .i64 0, .string ⟨#[]⟩, .slice none 0 0] 68)).setRow w2.heap.size zNd.toArray).heap[w2.heap.size]? = some (.cells zNd.toArray 68 (0, 0)) := hrowH.out
    clear hb3H hz hrowH
    generalize ((w2.alloc (.cells #[.int .i64 0, .int .i64 0, .int .i64 0, .string ⟨#[]⟩, .slice none 0 0] 68)).setRow w2.heap.size zNd.toArray) = w3 at *
    generalize w2.heap.size = p6 at *
    have d4 : w3.cell? ⟨p6, 4, none⟩ = some (.slice none 0 0) := cell_of_row w3 p6 4 _ _ _ hrow
    have hb3h := Lib.hid hb3
    clear hb3 hrow
    go_quiet (fail)
    have hb4 := Lib.hid (hb3h.out.trans (Below.mono (drewN_below nq) hb3h.out.size))
    go_wp2_with fail
    go_ret2
    exact ⟨_, _, _, _, rfl, hb4.out, by simp [kindO], fun h => by cases h⟩
  | some t =>
    obtain ⟨k, a, b, s, args⟩ := t
    have hok := ok_mk.1 (hS.good.ok _ (get_mem hx.1))
    have cV := hS.view_own2 x _ hx.1
    simp only [Tm.kind, Tm.a, Tm.b, Tm.s, Tm.args] at cV
    replace cV := Lib.hid cV
    have hm : k = 10 → args.length ≤ 32 := fun h => by have := hok.1; unfold okHd at this; omega
    replace hm := Lib.hid hm
    obtain ⟨bb, hbb⟩ : ∃ bb, bb = ((k : Int) == 10) := ⟨_, rfl⟩
    have hbb2 : k = 10 ↔ bb = true := by rw [hbb]; simp; omega
    replace hbb2 := Lib.hid hbb2
    have f1 : ((k : Int) == 10) = bb := hbb.symm
    clear hok hx hS hbb
    unfold LstR
    go_enter Tryz.func103, Tryz.ntmps103
    go_upto_region 2 with (first
      | (go_at_call 34; refine cV.out.mono ?_; rintro r w2 ⟨Av, cv, xs, rfl, hI2, hxs, hb2⟩
         obtain ⟨z, b3, hrow⟩ := nd_box2 w2 k a b s Av args.length cv
         have hI3H := Lib.hid (OwnR.keep hI2 b3)
         have hz := Lib.hid z
         have hrowH := Lib.hid hrow
         have hb3H := Lib.hid (hb2.trans (b3.mono hb2.size))
         have hxsh := Lib.hid hxs
         clear hI2 hb2 hrow b3 hxs z)
      | (refine wpList_store_at 68 _ _ rfl rfl w2.heap.size (ndC k a b s (.slice Av args.length cv)).toArray rfl rfl 68 zNd.toArray hz.out (by kernel_rfl) rfl nd_all ?_))
    replace hrowH := hrowH.out
    replace hb3H := hb3H.out
    replace hI3H := hI3H.out
    generalize ((w2.alloc (.cells #[.int .i64 0, .int .i64 0, .int .i64 0, .string ⟨#[]⟩, .slice none 0 0] 68)).setRow w2.heap.size (ndC k a b s (.slice Av args.length cv)).toArray) = w3 at *
    generalize w2.heap.size = p6 at *
    have d0 : w3.cell? ⟨p6, 0, none⟩ = some (.int .i64 k) := cell_of_row w3 p6 0 _ _ _ hrowH
    have d4 : w3.cell? ⟨p6, 4, none⟩ = some (.slice Av args.length cv) := cell_of_row w3 p6 4 _ _ _ hrowH
    have hb3h := Lib.hid hb3H
    have hI3 := Lib.hid hI3H
    clear hb3H hrowH hz hI3H
    go_quiet (fail)
    have hb4 := Lib.hid (hb3h.out.trans (Below.mono (drewN_below nq) hb3h.out.size))
    have hI4 := Lib.hid (OwnR.keep hI3.out (drewN_below nq))
    go_wp2_with fail
    go_ret2
    exact ⟨_, _, _, _, rfl, hb4.out, hbb2.out, fun h => ⟨_, xs, rfl, hbb2.out.2 h, rfl, hm.out (hbb2.out.2 h), hI4.out, hxsh.out⟩⟩
end
end Go.Proofs.YtbeanjaenmpoeaaGreatDoor
