/- Texts joined: what each shows stands ahead of its theorems. -/
import Derived.Test.YtphnakdgpilcmaaGreatDoorHb12
import Derived.Test.YtphnakdgpilcmaaGreatDoorHb13
import Derived.Test.YtphnakdgpilcmaaGreatDoorHb15
namespace Go.Proofs.YtphnakdgpilcmaaGreatDoor
section
open Go.RowKit Go.Maps

/-- Made: its numbers l and texts in the block q, beside the arena. -/
structure Md (w0 : World) (g q B : Nat) (W : World) (AI AT : Option Addr) (n cI cT : Nat) (l : List Int) (L : List Tm) (os : List (Option Tm)) : Prop where
  st : St w0 g W L
  ml : MadeL L l os
  ll : l.length = n
  lo : os.length = n
  blk : W.heap[q]? = some (.cells #[.slice AI n cI, .slice AT n cT] 31 (0, 0))
  ids : OwnD W B (.slice AI n cI) l
  txt : OwnS W B (.slice AT n cT) (os.map fun o => bs (encO o))
  off : OffE W g (inV (.slice AI n cI))
  hB : w0.heap.size ≤ B
  hq : w0.heap.size ≤ q
section
variable {w0 : World} {g q B : Nat} {W W' : World} {AI AT : Option Addr} {n cI cT : Nat} {l : List Int} {L L' : List Tm} {os : List (Option Tm)}
theorem Md.below (h : Md w0 g q B W AI AT n cI cT l L os) (hb : Below W.heap.size W W') : Md w0 g q B W' AI AT n cI cT l L os :=
  ⟨h.st.keep hb, h.ml, h.ll, h.lo, (hb.block q (Array.getElem?_eq_some_iff.1 h.blk).1).trans h.blk, OwnR.keep h.ids hb, OwnR.keep h.txt hb, h.off.keep hb, h.hB, h.hq⟩
theorem Md.ints (h : Md w0 g q B W AI AT n cI cT l L os) : Ints W AI n l := by
  obtain ⟨A, c, e, hi⟩ := h.ids.ints
  injection e with e1 e2 e3
  rw [e1, e2]
  exact hi
theorem Md.strs (h : Md w0 g q B W AI AT n cI cT l L os) : Strs W AT n (os.map fun o => bs (encO o)) := by
  obtain ⟨A, c, e, hi⟩ := h.txt.strs
  injection e with e1 e2 e3
  rw [e1, e2]
  exact hi
theorem Md.c0 (h : Md w0 g q B W AI AT n cI cT l L os) : W.cell? ⟨q, 0, none⟩ = some (.slice AI n cI) := cell_of_row W q 0 _ _ _ h.blk
theorem Md.c1 (h : Md w0 g q B W AI AT n cI cT l L os) : W.cell? ⟨q, 1, none⟩ = some (.slice AT n cT) := cell_of_row W q 1 _ _ _ h.blk
theorem Md.row (h : Md w0 g q B W AI AT n cI cT l L os) : W.rangeAt q 0 [.slice AI n cI, .slice AT n cT] := rangeAt_list h.blk
theorem Md.made (h : Md w0 g q B W AI AT n cI cT l L os) : MadeW W AI AT n l os := ⟨h.ints, h.strs⟩
/-- One of them. -/
theorem Md.at_ (h : Md w0 g q B W AI AT n cI cT l L os) {j : Nat} (hj : j < n) : ∃ b off b' off' x o, AI = some ⟨b, off, none⟩ ∧ AT = some ⟨b', off', none⟩ ∧ b < W.heap.size ∧ b' < W.heap.size ∧ l[j]? = some x ∧ os[j]? = some o ∧ W.cell? ⟨b, off + j, none⟩ = some (.int .i64 x) ∧ W.cell? ⟨b', off' + j, none⟩ = some (.string (bs (encO o))) ∧ Nm L x o ∧ okO o := by
  obtain ⟨b, off, x, e, hb, hx, hc⟩ := h.ints.at_ hj
  obtain ⟨b', off', z, e', hb', hz, hc'⟩ := h.strs.at_ hj
  obtain ⟨o, ho⟩ : ∃ o, os[j]? = some o := ⟨os[j]'(by rw [h.lo]; exact hj), List.getElem?_eq_getElem _⟩
  rw [List.getElem?_map, ho] at hz
  have hz : bs (encO o) = z := Option.some.inj hz
  subst hz
  exact ⟨b, off, b', off', x, o, e, e', hb, hb', hx, ho, hc, hc', h.ml.nm j x o hx ho, h.ml.ok h.st.good o (List.mem_of_getElem? ho)⟩
end
/-- What Makes returned, laid in a new block. -/
def boxW (W : World) (v : Array Value) : World := (W.alloc (.cells #[.slice none 0 0, .slice none 0 0] 31)).setRow W.heap.size v
theorem md_new {w0 W W' : World} {g : Nat} {ms : List Mk} {n : Nat} {r : Ending} (hn : ms.length = n) (hw : w0.heap.size ≤ W.heap.size) (h : MakesR w0 W g ms r W') :
    ∃ AI cI AT cT l L, r = .returned (.agg #[.slice AI n cI, .slice AT n cT]) ∧ Md w0 g W'.heap.size W.heap.size (boxW W' #[.slice AI n cI, .slice AT n cT]) AI AT n cI cT l L (mksO ms []) ∧ L.length ≤ n ∧
      (W'.alloc (.cells #[.slice none 0 0, .slice none 0 0] 31)).heap[W'.heap.size]? = some (.cells #[.slice none 0 0, .slice none 0 0] 31 (0, 0)) ∧ (#[.slice AI n cI, .slice AT n cT] : Array Value).all (·.oneCell') = true ∧
      (boxW W' #[.slice AI n cI, .slice AT n cT]).heap[W'.heap.size]? = some (.cells #[.slice AI n cI, .slice AT n cT] 31 (0, 0)) := by
  obtain ⟨vI, vT, l, L, rfl, hS, hM, hL, hO, hT, ho, hz⟩ := h
  have hlo : (mksO ms []).length = n := by rw [mksO_len]; simpa using hn
  have hll : l.length = n := hM.len.trans hlo
  obtain ⟨AI, cI, eI, _⟩ := hO.ints
  obtain ⟨AT, cT, eT, _⟩ := hT.strs
  rw [hll] at eI
  rw [List.length_map, hlo] at eT
  subst eI
  subst eT
  have hnew := heap_new W' (.cells #[.slice none 0 0, .slice none 0 0] 31)
  have hb : Below W'.heap.size W' (boxW W' #[.slice AI n cI, .slice AT n cT]) := below_setRow_ (below_new W' _) (Nat.le_refl _) _
  have hrow := hsetRow _ _ _ #[.slice AI n cI, .slice AT n cT] _ _ hnew
  refine ⟨AI, cI, AT, cT, l, L, rfl, ⟨hS.keep hb, hM, hll, hlo, hrow, OwnR.keep hO hb, OwnR.keep hT hb, ho.keep hb, hw, by omega⟩, by omega, hnew, by simp [Value.oneCell'], hrow⟩
end

section
open Go.RowKit Go.Maps

/-- A slice of numbers of terms, in a block of such. -/
structure IdsT (w : World) (A : Option Addr) (n : Nat) (l : List Int) : Prop where
  ints : Ints w A n l
  typ : 0 < n → ∃ b off cur fr, A = some ⟨b, off, none⟩ ∧ w.heap[b]? = some (.cells cur 33 fr)
theorem IdsT.stay {w w' : World} {A : Option Addr} {n : Nat} {l : List Int} (h : IdsT w A n l) (hs : Stay w w') : IdsT w' A n l := by
  refine ⟨⟨h.ints.1, h.ints.2.1, fun hn => ?_⟩, fun hn => ?_⟩
  · obtain ⟨b1, off, cur, fr, e, hc⟩ := h.typ hn
    obtain ⟨b2, off2, e2, hlt, hr2⟩ := h.ints.2.2 hn
    rw [e] at e2
    injection e2 with e2
    injection e2 with q1 q2 _
    subst q1
    subst q2
    have hk := hs _ _ _ _ hc (by decide) (by decide) (by decide)
    refine ⟨b1, off, e, (Array.getElem?_eq_some_iff.1 hk).1, fun j z hz i u hu => ?_⟩
    rw [World.cell?_of_block (hk.trans hc.symm)]
    exact hr2 j z hz i u hu
  · obtain ⟨b1, off, cur, fr, e, hc⟩ := h.typ hn
    exact ⟨b1, off, cur, fr, e, hs _ _ _ _ hc (by decide) (by decide) (by decide)⟩
theorem IdsT.nil_ {w : World} {A : Option Addr} : IdsT w A 0 [] := ⟨Rws.nil_, fun h => absurd h (by omega)⟩
theorem IdsT.of_own {w : World} {B : Nat} {v : Value} {l : List Int} (h : OwnD w B v l) : ∃ A c, v = .slice A l.length c ∧ IdsT w A l.length l := by
  obtain ⟨A, c, hv, hi⟩ := h.ints
  refine ⟨A, c, hv, hi, fun hn => ?_⟩
  obtain ⟨b, off, e, _⟩ := hi.2.2 hn
  obtain ⟨cur, fr, hc⟩ := OwnR.typ h (q := b) (by rw [hv, e]; rfl)
  exact ⟨b, off, cur, fr, e, hc⟩
/-- What a kitchen holds: what is known, what was sent, what was made. -/
structure KF (g q : Nat) (W : World) (kA sA mA : Option Addr) (kn kc sn sc mn mc : Nat) (lk ls lm : List Int) : Prop where
  blk : W.heap[q]? = some (.cells #[.pointer (some ⟨g, 0, none⟩), .slice kA kn kc, .slice sA sn sc, .slice mA mn mc] 82 (0, 0))
  k : IdsT W kA kn lk
  s : IdsT W sA sn ls
  m : IdsT W mA mn lm
theorem KF.stay {g q : Nat} {W W' : World} {kA sA mA : Option Addr} {kn kc sn sc mn mc : Nat} {lk ls lm : List Int} (h : KF g q W kA sA mA kn kc sn sc mn mc lk ls lm) (hs : Stay W W') : KF g q W' kA sA mA kn kc sn sc mn mc lk ls lm :=
  ⟨hs _ _ _ _ h.blk (by decide) (by decide) (by decide), h.k.stay hs, h.s.stay hs, h.m.stay hs⟩
theorem KF.cells {g q : Nat} {W : World} {kA sA mA : Option Addr} {kn kc sn sc mn mc : Nat} {lk ls lm : List Int} (h : KF g q W kA sA mA kn kc sn sc mn mc lk ls lm) :
    W.cell? ⟨q, 0, none⟩ = some (.pointer (some ⟨g, 0, none⟩)) ∧ W.cell? ⟨q, 1, none⟩ = some (.slice kA kn kc) ∧ W.cell? ⟨q, 2, none⟩ = some (.slice sA sn sc) ∧ W.cell? ⟨q, 3, none⟩ = some (.slice mA mn mc) :=
  ⟨cell_of_row W q 0 _ _ _ h.blk, cell_of_row W q 1 _ _ _ h.blk, cell_of_row W q 2 _ _ _ h.blk, cell_of_row W q 3 _ _ _ h.blk⟩
theorem SR.same {w W W1 : World} {g : Nat} {L : List Tm} {o : Option Tm} {x : Int} (h : St w g W1 L) (hx : Nm L x o) (hb : Below W.heap.size W W1) : SR w g W L o (.returned (.int .i64 x)) W1 :=
  ⟨L, x, rfl, h, .inl ⟨rfl, fun t e => by have := hx.1; rw [e] at this; exact get_mem this⟩, hx, Stay.of_below hb, hb.size, Fresh.of_below hb⟩
theorem rat_any {A : Option Addr} {n c : Nat} {l : List Int} (i : Int) (w : World) (hn : n ≤ 1000) (h : Ints w A n l) :
    Calls Tryz.prog 76 #[.slice A n c, .int .i64 i] w fun r w' => r = .returned (.int .i64 (pkI l i)) ∧ w = w' := by
  have hll := h.len
  by_cases h0 : i < 0
  · have e1 : pkI l i = -1 := if_pos h0
    rw [e1]
    clear hll h
    go_enter Tryz.func76, Tryz.ntmps76
    go_wp2_with fail
    go_ret
    exact ⟨rfl, rfl⟩
  · obtain ⟨k, rfl⟩ := Int.eq_ofNat_of_zero_le (Int.not_lt.1 h0)
    by_cases hk : k < n
    · obtain ⟨b, off, x, rfl, hb, hx, hc⟩ := h.at_ hk
      have e1 : pkI l k = x := by unfold pkI; rw [if_neg h0, Int.toNat_natCast, hx]; rfl
      rw [e1]
      have hki : ¬ ((n : Int) ≤ (k : Int)) := by omega
      clear hll hx h e1
      go_enter Tryz.func76, Tryz.ntmps76
      go_wp2_with fail
      go_ret
      exact ⟨rfl, rfl⟩
    · have e1 : pkI l k = -1 := by unfold pkI; rw [if_neg h0, Int.toNat_natCast, List.getElem?_eq_none (by omega)]; rfl
      rw [e1]
      have hki : ((n : Int) ≤ (k : Int)) := by omega
      clear hll h e1
      go_enter Tryz.func76, Tryz.ntmps76
      go_wp2_with fail
      go_ret
      exact ⟨rfl, rfl⟩
/-- A node, laid in a new block. -/
theorem nd_box2 (w5 : World) (k a b : Nat) (s : List UInt8) (A : Option Addr) (m c : Nat) : (w5.alloc (.cells #[.int .i64 0, .int .i64 0, .int .i64 0, .string ⟨#[]⟩, .slice none 0 0] 52)).heap[w5.heap.size]? = some (.cells #[.int .i64 0, .int .i64 0, .int .i64 0, .string ⟨#[]⟩, .slice none 0 0] 52 (0, 0)) ∧ Below w5.heap.size w5 ((w5.alloc (.cells #[.int .i64 0, .int .i64 0, .int .i64 0, .string ⟨#[]⟩, .slice none 0 0] 52)).setRow w5.heap.size (ndC k a b s (.slice A m c)).toArray) ∧ ((w5.alloc (.cells #[.int .i64 0, .int .i64 0, .int .i64 0, .string ⟨#[]⟩, .slice none 0 0] 52)).setRow w5.heap.size (ndC k a b s (.slice A m c)).toArray).heap[w5.heap.size]? = some (.cells (ndC k a b s (.slice A m c)).toArray 52 (0, 0)) :=
  ⟨heap_new w5 _, below_setRow_ (below_new w5 _) (Nat.le_refl _) _, hsetRow _ _ _ _ _ _ (heap_new w5 _)⟩
/-- An argument's number. -/
theorem arg_nm {L : List Tm} {xs : List Nat} {args : List Tm} (h : xs.map (fun i => L[i]?) = args.map some) {j : Nat} {y : Nat} {u : Tm} (hy : xs[j]? = some y) (hu : args[j]? = some u) : Nm L (y : Int) (some u) := by
  have := congrArg (fun q => q[j]?) h
  simp only [List.getElem?_map, hy, hu] at this
  exact ⟨by rw [get_nat]; simpa using this, fun e => by cases e⟩
def OpnR (L : List Tm) (W : World) (o : Option Tm) (r : Ending) (w' : World) : Prop := ∃ z : Int, r = .returned (.int .i64 z) ∧ Nm L z o ∧ Below W.heap.size W w'
set_option maxRecDepth 100000 in
set_option maxHeartbeats 4000000 in
theorem opens_any {w0 W : World} {g q : Nat} {L : List Tm} (hS : St w0 g W L) {k1 k2 k3 : Value} (hq : W.heap[q]? = some (.cells #[.pointer (some ⟨g, 0, none⟩), k1, k2, k3] 82 (0, 0))) (x y : Int) (p o : Option Tm) (hx : Nm L x p) (hy : Nm L y o) :
    Calls Tryz.prog 79 #[.pointer (some ⟨q, 0, none⟩), .int .i64 x, .int .i64 y] W (OpnR L W (openT p o)) := by
  have c0 := cell_of_row W q 0 _ _ _ hq
  clear hq
  cases p with
  | none =>
    have cV := Lib.hid (hS.view_none x hx.1)
    have e : openT none o = none := rfl
    rw [e]
    have hN := Lib.hid (Nm.none_ L)
    clear e hx hy hS
    unfold OpnR
    go_enter Tryz.func79, Tryz.ntmps79
    go_upto_region 2 with (first
      | (go_at_call 23; refine cV.out.mono ?_; rintro r w2 ⟨rfl, hb2⟩
         obtain ⟨z, b3, _⟩ := nd_box2 w2 0 0 0 [] none 0 0
         have hz := Lib.hid z
         have hb3H := Lib.hid (hb2.trans (b3.mono hb2.size))
         clear hb2 z b3)
      | (refine wpList_store_at 52 _ _ rfl rfl w2.heap.size zNd.toArray rfl rfl 52 zNd.toArray hz.out (by kernel_rfl) rfl zNd_one ?_))
    have hb3 : Below W.heap.size W ((w2.alloc (.cells #[.int .i64 0, .int .i64 0, .int .i64 0, .string ⟨#[]⟩, .slice none 0 0] 52)).setRow w2.heap.size zNd.toArray) := hb3H.out
    clear hb3H hz
    generalize ((w2.alloc (.cells #[.int .i64 0, .int .i64 0, .int .i64 0, .string ⟨#[]⟩, .slice none 0 0] 52)).setRow w2.heap.size zNd.toArray) = w3 at *
    have hb3h := Lib.hid hb3
    clear hb3
    go_wp2_with fail
    go_ret
    exact ⟨_, rfl, hN.out, hb3h.out⟩
  | some t =>
    obtain ⟨k, a, b, s, args⟩ := t
    have hok := ok_mk.1 (hS.good.ok _ (get_mem hx.1))
    have hk1 := okHd_kind hok.1
    have cV := hS.view_ids x _ hx.1
    simp only [Tm.kind, Tm.a, Tm.b, Tm.s, Tm.args] at cV
    replace cV := Lib.hid cV
    have honce := Lib.hid hS.good.once
    have hyh := Lib.hid hy
    by_cases hk : k = 9
    · subst hk
      have hl2 : args.length = 2 := by have := hok.1; unfold okHd at this; omega
      obtain ⟨u0, u1, rfl⟩ : ∃ u0 u1, args = [u0, u1] := by
        match args, hl2 with
        | [u0, u1], _ => exact ⟨u0, u1, rfl⟩
      obtain ⟨res, hres⟩ : ∃ res, openT (some (.mk 9 a b s [u0, u1])) o = res := ⟨_, rfl⟩
      rw [hres]
      replace hres := Lib.hid hres
      clear hok hl2 hx hy hS
      unfold OpnR
      go_enter Tryz.func79, Tryz.ntmps79
      go_upto_region 2 with (first
        | (go_at_call 23; refine cV.out.mono ?_; rintro r w2 ⟨Av, cv, xs, rfl, hI2, hxs, hb2⟩
           obtain ⟨z, b3, hrow⟩ := nd_box2 w2 9 a b s Av 2 cv
           have hI3H := Lib.hid (hI2.keep (F := fun _ => False) (Keeps.of_below b3) (fun _ _ _ _ h => h))
           have hz := Lib.hid z
           have hrowH := Lib.hid hrow
           have hb3H := Lib.hid (hb2.trans (b3.mono hb2.size))
           have hxsh := Lib.hid hxs
           clear hI2 hb2 hrow b3 hxs z)
        | (refine wpList_store_at 52 _ _ rfl rfl w2.heap.size (ndC 9 a b s (.slice Av 2 cv)).toArray rfl rfl 52 zNd.toArray hz.out (by kernel_rfl) rfl nd_all ?_))
      replace hrowH := hrowH.out
      replace hb3H := hb3H.out
      replace hI3H := hI3H.out
      generalize ((w2.alloc (.cells #[.int .i64 0, .int .i64 0, .int .i64 0, .string ⟨#[]⟩, .slice none 0 0] 52)).setRow w2.heap.size (ndC 9 a b s (.slice Av 2 cv)).toArray) = w3 at *
      generalize w2.heap.size = p6 at *
      have d0 : w3.cell? ⟨p6, 0, none⟩ = some (.int .i64 9) := cell_of_row w3 p6 0 _ _ _ hrowH
      have d4 : w3.cell? ⟨p6, 4, none⟩ = some (.slice Av 2 cv) := cell_of_row w3 p6 4 _ _ _ hrowH
      obtain ⟨A', c', ev, hr, _⟩ := hI3H
      injection ev with e1 e2 e3
      subst e1
      clear e3
      have hxl : xs.length = 2 := e2.symm
      obtain ⟨y0, y1, rfl⟩ : ∃ y0 y1, xs = [y0, y1] := by
        match xs, hxl with
        | [y0, y1], _ => exact ⟨y0, y1, rfl⟩
      have n0 := arg_nm hxsh.out (j := 0) rfl rfl
      have n1 := Lib.hid (arg_nm hxsh.out (j := 1) rfl rfl)
      obtain ⟨b1, off, z0, rfl, hbl, hz0, _, hc0⟩ := hr.row (j := 0) (by simp)
      obtain ⟨b2, off2, z1, e2, _, hz1, _, hc1⟩ := hr.row (j := 1) (by simp)
      injection e2 with e2
      injection e2 with q1 q2 _
      subst q1
      subst q2
      obtain rfl : idv y0 = z0 := Option.some.inj hz0
      obtain rfl : idv y1 = z1 := Option.some.inj hz1
      have hc0 : w3.cell? ⟨b1, off, none⟩ = some (.int .i64 y0) := by have := hc0 0 _ rfl; simpa using this
      have hc1 : w3.cell? ⟨b1, off + 1, none⟩ = some (.int .i64 y1) := by have := hc1 0 _ rfl; simpa using this
      have hb3h := Lib.hid hb3H
      have hinj := Nm.inj honce.out n0 hyh.out
      by_cases ho : some u0 = o
      · have f1 : ((y0 : Int) == y) = true := by rw [hinj.2 ho]; simp
        have e : openT (some (.mk 9 a b s [u0, u1])) o = some u1 := by unfold openT; dsimp only; rw [if_pos ⟨rfl, ho⟩]; rfl
        have e2 := Lib.hid (hres.out.symm.trans e)
        clear hrowH hb3H hr hz0 hz1 hinj n0 honce hyh hxsh hxl e ho hz
        go_wp2_with fail
        go_ret
        exact ⟨_, rfl, by rw [e2.out]; exact n1.out, hb3h.out⟩
      · have f1 : ((y0 : Int) == y) = false := by rw [beq_eq_false_iff_ne]; exact fun h => ho (hinj.1 h)
        have e : openT (some (.mk 9 a b s [u0, u1])) o = none := by unfold openT; dsimp only; rw [if_neg (fun h => ho h.2)]
        have e2 := Lib.hid (hres.out.symm.trans e)
        have hN := Lib.hid (Nm.none_ L)
        clear hrowH hb3H hr hz0 hz1 hinj n0 honce hyh hxsh hxl e ho hz
        go_wp2_with fail
        go_ret
        exact ⟨_, rfl, by rw [e2.out]; exact hN.out, hb3h.out⟩
    · have e : openT (some (.mk k a b s args)) o = none := by unfold openT; dsimp only; rw [if_neg (fun h => hk h.1)]
      rw [e]
      have hN := Lib.hid (Nm.none_ L)
      have hkb : ((k : Int) == 9) = false := by rw [beq_eq_false_iff_ne]; omega
      clear e hok hx hy hyh honce hS
      unfold OpnR
      go_enter Tryz.func79, Tryz.ntmps79
      go_upto_region 2 with (first
        | (go_at_call 23; refine cV.out.mono ?_; rintro r w2 ⟨Av, cv, xs, rfl, _, _, hb2⟩
           obtain ⟨z, b3, hrow⟩ := nd_box2 w2 k a b s Av args.length cv
           have hz := Lib.hid z
           have hrowH := Lib.hid hrow
           have hb3H := Lib.hid (hb2.trans (b3.mono hb2.size))
           clear hb2 hrow b3 z)
        | (refine wpList_store_at 52 _ _ rfl rfl w2.heap.size (ndC k a b s (.slice Av args.length cv)).toArray rfl rfl 52 zNd.toArray hz.out (by kernel_rfl) rfl nd_all ?_))
      replace hrowH := hrowH.out
      replace hb3H := hb3H.out
      generalize ((w2.alloc (.cells #[.int .i64 0, .int .i64 0, .int .i64 0, .string ⟨#[]⟩, .slice none 0 0] 52)).setRow w2.heap.size (ndC k a b s (.slice Av args.length cv)).toArray) = w3 at *
      generalize w2.heap.size = p6 at *
      have d0 : w3.cell? ⟨p6, 0, none⟩ = some (.int .i64 k) := cell_of_row w3 p6 0 _ _ _ hrowH
      have hb3h := Lib.hid hb3H
      clear hb3H hrowH hz
      go_wp2_with fail
      go_ret
      exact ⟨_, rfl, hN.out, hb3h.out⟩
end

section
open Go.RowKit Go.Maps

def ncB (t : Tm) : Bool := t.kind == 2 && t.a == 0
set_option maxRecDepth 100000 in
set_option maxHeartbeats 2000000 in
theorem mnonce_any {V W w0 : World} {g m b : Nat} {A : Option Addr} {c : Nat} {its : List It} {L : List Tm} (h : MindW V W g m b A c its) (hS : St w0 g W L) (x : Int) (hx : i64 x) (t : Tm) (ht : get L x = some t) (n : Nat) :
    Calls Tryz.prog 135 #[.pointer (some ⟨m, 0, none⟩), .int .i64 x, .int .i64 n] W fun r w' => r = .returned (.bool (hasM (itsT its) x n || ncB t)) ∧ Below W.heap.size W w' := by
  obtain ⟨k, a, b', s, args⟩ := t
  have cV := hS.view_some x _ ht
  simp only [Tm.kind, Tm.a, Tm.b, Tm.s, Tm.args] at cV
  replace cV := Lib.hid cV
  have cH := Lib.hid (fun W' (hb : Below W.heap.size W W') => mhas_any (h.keep hb) x hx n)
  obtain ⟨c0, -, -⟩ := h.c0
  unfold ncB
  simp only [Tm.kind, Tm.a]
  clear hS ht hx h
  generalize hasM (itsT its) x n = q at cH ⊢
  go_enter Tryz.func135, Tryz.ntmps135
  go_upto_region 2 with (first
    | (go_at_call 23; refine cV.out.mono ?_; rintro r w1 ⟨Av, cv, xs, rfl, _, _, hb⟩
       obtain ⟨z1, b1, r1⟩ := nd_box2 w1 k a b' s Av args.length cv
       have z1 := Lib.hid z1
       have r1 := Lib.hid r1
       have hB1 := Lib.hid (hb.trans (b1.mono hb.size))
       clear hb cV b1)
    | (refine wpList_store_at 52 _ _ rfl rfl w1.heap.size (ndC k a b' s (.slice Av args.length cv)).toArray rfl rfl 52 zNd.toArray z1.out (by kernel_rfl) rfl nd_all ?_))
  have r1 := r1.out
  have hB1 := hB1.out
  clear z1
  generalize (w1.alloc (.cells #[.int .i64 0, .int .i64 0, .int .i64 0, .string ⟨#[]⟩, .slice none 0 0] 52)).setRow w1.heap.size (ndC k a b' s (.slice Av args.length cv)).toArray = w2 at *
  generalize w1.heap.size = p1 at *
  have d0 : w2.cell? ⟨p1, 0, none⟩ = some (.int .i64 k) := cell_of_row w2 p1 0 _ _ _ r1
  have d1 : w2.cell? ⟨p1, 1, none⟩ = some (.int .i64 a) := cell_of_row w2 p1 1 _ _ _ r1
  have cH := Lib.hid (cH.out w2 hB1)
  replace hB1 := Lib.hid hB1
  clear r1 c0
  cases q with
  | true =>
    go_wp2_with (go_at_call 34; refine cH.out.mono ?_; rintro r w3 ⟨rfl, rfl⟩)
    go_ret
    exact ⟨rfl, hB1.out⟩
  | false =>
    by_cases hk : k = 2
    · subst hk
      by_cases ha : a = 0
      · subst ha
        go_wp2_with (go_at_call 34; refine cH.out.mono ?_; rintro r w3 ⟨rfl, rfl⟩)
        go_ret
        exact ⟨rfl, hB1.out⟩
      · have ha0 : ((a : Int) == 0) = false := by rw [beq_eq_false_iff_ne]; intro e; exact ha (by omega)
        have ha1 : (a == 0) = false := by rw [beq_eq_false_iff_ne]; exact ha
        replace ha1 := Lib.hid ha1
        go_wp2_with (go_at_call 34; refine cH.out.mono ?_; rintro r w3 ⟨rfl, rfl⟩)
        go_ret
        exact ⟨by rw [ha1.out]; rfl, hB1.out⟩
    · have ha0 : ((k : Int) == 2) = false := by rw [beq_eq_false_iff_ne]; intro e; exact hk (by omega)
      have ha1 : (k == 2) = false := by rw [beq_eq_false_iff_ne]; exact hk
      replace ha1 := Lib.hid ha1
      go_wp2_with (go_at_call 34; refine cH.out.mono ?_; rintro r w3 ⟨rfl, rfl⟩)
      go_ret
      exact ⟨by rw [ha1.out]; rfl, hB1.out⟩
/-- All of these can be made. -/
def allI (its : List It) (n : Nat) (zs : List (Int × Tm)) : Bool := zs.all fun z => hasM (itsT its) z.1 n || ncB z.2
set_option maxRecDepth 100000 in
set_option maxHeartbeats 2000000 in
theorem mall_any {V W w0 : World} {g m b : Nat} {A : Option Addr} {c : Nat} {its : List It} {L : List Tm} (h : MindW V W g m b A c its) (hS : St w0 g W L) (zs : List (Int × Tm)) (Az : Option Addr) (cz : Nat) (hz : Ints W Az zs.length (zs.map Prod.fst)) (hx : ∀ z ∈ zs, i64 z.1 ∧ get L z.1 = some z.2) (n : Nat) (hl : zs.length ≤ 9223372036854775807) :
    Calls Tryz.prog 125 #[.pointer (some ⟨m, 0, none⟩), .slice Az zs.length cz, .int .i64 n] W fun r w' => r = .returned (.bool (allI its n zs)) ∧ Below W.heap.size W w' := by
  have cN := Lib.hid (fun W' (hb : Below W.heap.size W W') (z : Int × Tm) (hm : z ∈ zs) => mnonce_any (h.keep hb) (hS.keep hb) z.1 (hx z hm).1 z.2 (hx z hm).2 n)
  replace hz := Lib.hid hz
  clear h hS hx
  unfold allI
  go_enter Tryz.func125, Tryz.ntmps125
  go_upto_region 2 with fail
  go_loopw [11] (fun i wr => ∃ j : Nat, j ≤ zs.length ∧ i = .int .i64 j ∧ Hid (Below W.heap.size W wr) ∧ Hid ((zs.take j).all (fun z => hasM (itsT its) z.1 n || ncB z.2) = true)) (fun i _ => zs.length - (intOf i).toNat)
  case atStart => exact ⟨0, by omega, rfl, Lib.hid (Below.refl _ _), Lib.hid (by simp)⟩
  case round =>
    obtain ⟨j, hj, rfl, hb, hall⟩ := hrel
    by_cases hlt : j < zs.length
    · obtain ⟨bb, off, z, rfl, hbl, hz1, _, hr⟩ := hz.out.row hlt
      obtain ⟨zz, hzz⟩ : ∃ y, zs[j]? = some y := ⟨_, List.getElem?_eq_getElem hlt⟩
      rw [List.getElem?_map, List.getElem?_map, hzz] at hz1
      simp only [Option.map_some, Option.some.injEq] at hz1
      subst hz1
      have hc := hr 0 _ rfl
      rw [Nat.mul_one, Nat.add_zero] at hc
      have hc : wr.cell? ⟨bb, off + j, none⟩ = some (.int .i64 zz.1) := (hb.out.cell (p := ⟨bb, off + j, none⟩) hbl).trans hc
      have cC := Lib.hid (cN.out wr hb.out zz (List.mem_of_getElem? hzz))
      have htk : (zs.take (j + 1)).all (fun z => hasM (itsT its) z.1 n || ncB z.2) = (hasM (itsT its) zz.1 n || ncB zz.2) := by
        rw [List.take_add_one, hzz, List.all_append, hall.out]; simp
      clear hr
      obtain ⟨q, hq⟩ : ∃ q, (hasM (itsT its) zz.1 n || ncB zz.2) = q := ⟨_, rfl⟩
      rw [hq] at cC htk
      replace htk := Lib.hid htk
      cases q with
      | true =>
        clear hq
        go_wp2_with (go_at_call 135; refine cC.out.mono ?_; rintro r w3 ⟨rfl, hb3⟩; replace hb3 := Lib.hid (hb.out.trans (hb3.mono hb.out.size)))
        go_roundw
        case rel => exact ⟨j + 1, by omega, by go_num, hb3, htk⟩
        case measure => simp [intOf]; omega
      | false =>
        have hfal : zs.all (fun z => hasM (itsT its) z.1 n || ncB z.2) = false := by
          rw [List.all_eq_false]
          exact ⟨zz, List.mem_of_getElem? hzz, by rw [hq]; decide⟩
        replace hfal := Lib.hid hfal
        clear hq
        go_wp2_with (go_at_call 135; refine cC.out.mono ?_; rintro r w3 ⟨rfl, hb3⟩; replace hb3 := Lib.hid (hb.out.trans (hb3.mono hb.out.size)))
        go_ret
        exact ⟨by rw [hfal.out]; rfl, hb3.out⟩
    · have hall2 : zs.all (fun z => hasM (itsT its) z.1 n || ncB z.2) = true := by
        have := hall.out
        rwa [List.take_of_length_le (by omega)] at this
      replace hall2 := Lib.hid hall2
      go_wp2_with fail
      go_ret
      exact ⟨by rw [hall2.out]; rfl, hb.out⟩
end

section
open Go.RowKit Go.Maps

def restI : List Int → List Int → List Int × Bool
  | [], os => ([], os.isEmpty)
  | x :: l, [] => (x :: l, true)
  | x :: l, o :: os => if o = x then restI l os else (x :: (restI l (o :: os)).1, (restI l (o :: os)).2)
theorem restI_nil (l : List Int) : restI l [] = (l, true) := by cases l <;> rfl
theorem restI_len : ∀ (l os : List Int), (restI l os).1.length ≤ l.length
  | [], _ => by simp [restI]
  | x :: l, [] => by simp [restI]
  | x :: l, o :: os => by
    unfold restI
    split
    · have := restI_len l os; simp; omega
    · have := restI_len l (o :: os); simp; omega
theorem restI_step {l os : List Int} {j i : Nat} {x : Int} (h : l[j]? = some x) : restI (l.drop j) (os.drop i) = if os[i]? = some x then restI (l.drop (j + 1)) (os.drop (i + 1)) else (x :: (restI (l.drop (j + 1)) (os.drop i)).1, (restI (l.drop (j + 1)) (os.drop i)).2) := by
  have hd : l.drop j = x :: l.drop (j + 1) := by
    obtain ⟨hlt, hx⟩ := List.getElem?_eq_some_iff.1 h
    rw [List.drop_eq_getElem_cons hlt, hx]
  rw [hd]
  cases ho : os[i]? with
  | none =>
    have hn : os.drop i = [] := List.drop_eq_nil_iff.2 (List.getElem?_eq_none_iff.1 ho)
    rw [hn, if_neg (by simp), restI_nil, restI_nil]
  | some o =>
    have hd2 : os.drop i = o :: os.drop (i + 1) := by
      obtain ⟨hlt, hx⟩ := List.getElem?_eq_some_iff.1 ho
      rw [List.drop_eq_getElem_cons hlt, hx]
    rw [hd2]
    by_cases e : o = x
    · subst e; rw [restI, if_pos rfl, if_pos rfl]
    · rw [restI, if_neg e, if_neg (fun h => e (Option.some.inj h))]
set_option maxRecDepth 100000 in
set_option maxHeartbeats 4000000 in
theorem mrest_any (l os : List Int) (A B : Option Addr) (n c m d : Nat) (w : World) (hn : n ≤ 200000) (hm : m ≤ 200000) (hA : Ints w A n l) (hB : Ints w B m os) :
    Calls Tryz.prog 126 #[.slice A n c, .slice B m d] w fun r w' => ∃ v, r = .returned (.tuple #[v, .bool (restI l os).2]) ∧ OwnD w' w.heap.size v (restI l os).1 ∧ Below w.heap.size w w' := by
  have hll := hA.len
  have hol := hB.len
  obtain ⟨j0, hj0, hj1, hj2, hj3⟩ := info_parts id_info
  have hO0 : Hid (OwnD w w.heap.size (.slice none 0 0) []) := OwnR.nil_ w w.heap.size 1 33
  replace hA := Lib.hid hA
  replace hB := Lib.hid hB
  have hR0 := Lib.hid (show restI l os = ([] ++ (restI (l.drop 0) (os.drop 0)).1, (restI (l.drop 0) (os.drop 0)).2) by simp)
  have hb0 := Lib.hid (Below.refl w.heap.size w)
  go_enter Tryz.func126, Tryz.ntmps126
  go_upto_region 4 with fail
  go_loopw [6, 7, 12] (fun v iv jv wr => ∃ (out : List Int) (i j : Nat), i ≤ m ∧ j ≤ n ∧ iv = .int .i64 i ∧ jv = .int .i64 j ∧ out.length ≤ j ∧ Hid (OwnD wr w.heap.size v out) ∧ Hid (Below w.heap.size w wr) ∧ Hid (restI l os = (out ++ (restI (l.drop j) (os.drop i)).1, (restI (l.drop j) (os.drop i)).2))) (fun _ _ jv _ => n - (intOf jv).toNat)
  case atStart => exact ⟨[], 0, 0, by omega, by omega, rfl, rfl, by simp, hO0, hb0, hR0⟩
  case round =>
    clear hO0 hb0 hR0
    obtain ⟨out, i, j, hi, hj, rfl, rfl, hlo, hO, hb, hR⟩ := hrel
    by_cases hlt : j < n
    · obtain ⟨b1, o1, x, rfl, hbl, hx, hcell⟩ := hA.out.at_ hlt
      have hc := (hb.out.cell (p := ⟨b1, o1 + j, none⟩) hbl).trans hcell
      have hst := restI_step (os := os) (i := i) hx
      by_cases hil : i < m
      · obtain ⟨b2, o2, y, rfl, hbl2, hy, hcell2⟩ := hB.out.at_ hil
        have hc2 := (hb.out.cell (p := ⟨b2, o2 + i, none⟩) hbl2).trans hcell2
        rw [hy] at hst
        by_cases e : y = x
        · subst e
          rw [if_pos rfl] at hst
          have hR2 := hR.out
          rw [hst] at hR2
          replace hR2 := Lib.hid hR2
          clear hR hst hcell hcell2 hx hy
          go_wp2_with fail
          go_roundw
          case rel => exact ⟨out, i + 1, j + 1, by omega, by omega, by go_num, by go_num, by omega, hO, hb, hR2⟩
          case measure => simp [intOf]; omega
        · have ef : (y == x) = false := beq_eq_false_iff_ne.2 e
          rw [if_neg (fun h => e (Option.some.inj h))] at hst
          have hR2 : restI l os = ((out ++ [x]) ++ (restI (l.drop (j + 1)) (os.drop i)).1, (restI (l.drop (j + 1)) (os.drop i)).2) := by rw [hR.out, hst]; simp
          replace hR2 := Lib.hid hR2
          obtain ⟨Av, cv, zs, ev, hzl, hOn, hup⟩ := hO.out.next x
          subst ev
          have hzb : zs.length ≤ 200000 := by omega
          have hBn := Lib.hid (hb.out.trans ((below_new wr (.cells #[.int .i64 x] 33)).mono hb.out.size))
          have hrow := Lib.hid (rangeAt_list (heap_new wr (.cells [Value.int .i64 x].toArray 33)))
          replace hOn := Lib.hid hOn
          replace hup := Lib.hid hup
          have hlo1 : (out ++ [x]).length ≤ j + 1 := by simp; omega
          generalize hmv : out.length = mv at *
          clear hR hst hcell hcell2 hx hy hO hzl hmv
          go_upto_region 9 with (at_builtin; refine wpList_append_one rfl _ _ 28 rfl 33 j0 _ 1 8 Tryz.underlying28 hj0 hj1 hj2 hj3 rfl (by decide) w hBn.out _ zs rfl hOn.out wr.heap.size 1 [.int .i64 x] rfl hrow.out rfl (by simp; rfl) (by unfold maxLen; omega) (by omega) ?_; intro v2 w5 hO2 hB2 hg2)
          have hO5 := Lib.hid (hup.out _ _ hO2)
          replace hB2 := Lib.hid hB2
          clear hO2 hup hOn hBn hrow hg2 hc hc2
          go_wp2_with fail
          go_roundw
          case rel => exact ⟨out ++ [x], i, j + 1, by omega, by omega, rfl, by go_num, hlo1, hO5, hB2, hR2⟩
          case measure => simp [intOf]; omega
      · have hin : os[i]? = none := List.getElem?_eq_none_iff.2 (by omega)
        rw [hin, if_neg (by simp)] at hst
        have hR2 : restI l os = ((out ++ [x]) ++ (restI (l.drop (j + 1)) (os.drop i)).1, (restI (l.drop (j + 1)) (os.drop i)).2) := by rw [hR.out, hst]; simp
        replace hR2 := Lib.hid hR2
        obtain ⟨Av, cv, zs, ev, hzl, hOn, hup⟩ := hO.out.next x
        subst ev
        have hzb : zs.length ≤ 200000 := by omega
        have hBn := Lib.hid (hb.out.trans ((below_new wr (.cells #[.int .i64 x] 33)).mono hb.out.size))
        have hrow := Lib.hid (rangeAt_list (heap_new wr (.cells [Value.int .i64 x].toArray 33)))
        replace hOn := Lib.hid hOn
        replace hup := Lib.hid hup
        have hlo1 : (out ++ [x]).length ≤ j + 1 := by simp; omega
        generalize hmv : out.length = mv at *
        clear hR hst hcell hx hin hO hzl hmv
        go_upto_region 9 with (at_builtin; refine wpList_append_one rfl _ _ 28 rfl 33 j0 _ 1 8 Tryz.underlying28 hj0 hj1 hj2 hj3 rfl (by decide) w hBn.out _ zs rfl hOn.out wr.heap.size 1 [.int .i64 x] rfl hrow.out rfl (by simp; rfl) (by unfold maxLen; omega) (by omega) ?_; intro v2 w5 hO2 hB2 hg2)
        have hO5 := Lib.hid (hup.out _ _ hO2)
        replace hB2 := Lib.hid hB2
        clear hO2 hup hOn hBn hrow hg2 hc
        go_wp2_with fail
        go_roundw
        case rel => exact ⟨out ++ [x], i, j + 1, by omega, by omega, rfl, by go_num, hlo1, hO5, hB2, hR2⟩
        case measure => simp [intOf]; omega
    · have hR2 : restI l os = (out, decide (i = m)) := by
        have h1 := hR.out
        rw [List.drop_eq_nil_iff.2 (show l.length ≤ j by omega)] at h1
        rw [h1]
        simp only [restI, List.append_nil, Prod.mk.injEq, true_and]
        rw [Bool.eq_iff_iff, List.isEmpty_iff, List.drop_eq_nil_iff, decide_eq_true_eq]
        omega
      replace hR2 := Lib.hid hR2
      have hq : ((i : Int) == (m : Int)) = decide (i = m) := by rw [Bool.eq_iff_iff, beq_iff_eq, decide_eq_true_eq]; omega
      clear hR
      obtain ⟨q, hqq⟩ : ∃ q, decide (i = m) = q := ⟨_, rfl⟩
      rw [hqq] at hq
      replace hqq := Lib.hid hqq
      go_wp2_with fail
      go_ret2
      obtain ⟨e1, e2⟩ : (restI l os).1 = out ∧ (restI l os).2 = q := by rw [hR2.out]; exact ⟨rfl, hqq.out⟩
      rw [e1, e2]
      exact ⟨_, rfl, hO.out, hb.out⟩
end

section
open Go.RowKit Go.Maps

theorem St.vown3 {w0 : World} {g : Nat} {W : World} {L : List Tm} (h : St w0 g W L) (x : Int) (t : Tm) (hg : get L x = some t) :
    Calls Tryz.prog 23 #[.pointer (some ⟨g, 0, none⟩), .int .i64 x] W fun r w' => ∃ (Av : Option Addr) (c : Nat) (xs : List Nat), r = .returned (.tuple #[.agg (ndC t.kind t.a t.b t.s (.slice Av t.args.length c)).toArray, .bool true]) ∧ OwnR w' W.heap.size 1 33 (.slice Av t.args.length c) (xs.map idv) ∧ xs.map (fun i => L[i]?) = t.args.map some ∧ Below W.heap.size W w' := by
  obtain ⟨A, rfl, rfl, H, _⟩ := h
  exact Go.Proofs.YtphnakdgpilcmaaGreatDoor.view_own A _ W H x t hg
theorem get_inj {L : List Tm} (hL : L.Nodup) {x y : Int} {t : Tm} (hx : get L x = some t) (hy : get L y = some t) : x = y := (Nm.inj hL (Nm.of_get hx) (Nm.of_get hy)).2 rfl
/-- The items name these terms. -/
def Named (L : List Tm) (its : List It) (ls : List Tm) : Prop := its.map (fun i => get L i.t) = ls.map some
theorem Named.len {L : List Tm} {its : List It} {ls : List Tm} (h : Named L its ls) : its.length = ls.length := by
  have := congrArg List.length h
  simpa using this
theorem Named.at_ {L : List Tm} {its : List It} {ls : List Tm} (h : Named L its ls) {j : Nat} {i : It} (hi : its[j]? = some i) : ∃ t, ls[j]? = some t ∧ get L i.t = some t := by
  have h1 := congrArg (fun l => l[j]?) h
  simp only [List.getElem?_map, hi, Option.map_some] at h1
  cases h2 : ls[j]? with
  | none => rw [h2] at h1; cases h1
  | some t => rw [h2] at h1; exact ⟨t, rfl, Option.some.inj h1⟩
theorem Named.back {L : List Tm} {its : List It} {ls : List Tm} (h : Named L its ls) {j : Nat} {t : Tm} (ht : ls[j]? = some t) : ∃ i, its[j]? = some i ∧ get L i.t = some t := by
  have hlt : j < its.length := by rw [h.len]; exact (List.getElem?_eq_some_iff.1 ht).1
  have hi : its[j]? = some its[j] := List.getElem?_eq_getElem hlt
  obtain ⟨u, hu, hg⟩ := h.at_ hi
  rw [ht] at hu
  exact ⟨_, hi, by rw [hg, ← hu]⟩
theorem Named.has {L : List Tm} {its : List It} {ls : List Tm} (h : Named L its ls) (hL : L.Nodup) {x : Int} {t : Tm} (hx : get L x = some t) (n : Nat) : hasM (itsT its) x n = true ↔ t ∈ ls.take n := by
  rw [hasM_iff]
  constructor
  · intro hm
    obtain ⟨j, hj⟩ := List.getElem?_of_mem hm
    have hjn : j < n := by
      have := (List.getElem?_eq_some_iff.1 hj).1
      rw [List.length_take] at this; omega
    rw [List.getElem?_take_of_lt hjn] at hj
    unfold itsT at hj
    rw [List.getElem?_map] at hj
    cases hi : its[j]? with
    | none => rw [hi] at hj; cases hj
    | some i =>
      rw [hi] at hj
      have e : i.t = x := Option.some.inj hj
      obtain ⟨u, hu, hg⟩ := h.at_ hi
      rw [e, hx] at hg
      obtain rfl := Option.some.inj hg
      exact List.mem_of_getElem? (i := j) (by rw [List.getElem?_take_of_lt hjn]; exact hu)
  · intro hm
    obtain ⟨j, hj⟩ := List.getElem?_of_mem hm
    have hjn : j < n := by
      have := (List.getElem?_eq_some_iff.1 hj).1
      rw [List.length_take] at this; omega
    rw [List.getElem?_take_of_lt hjn] at hj
    obtain ⟨i, hi, hg⟩ := h.back hj
    have e := get_inj hL hg hx
    exact List.mem_of_getElem? (i := j) (by rw [List.getElem?_take_of_lt hjn]; unfold itsT; rw [List.getElem?_map, hi, ← e]; rfl)
end

section
open Go.RowKit Go.Maps

theorem ncB_iff {t : Tm} : ncB t = true ↔ t.kind = 2 ∧ t.a = 0 := by unfold ncB; simp
theorem allI_iff {L : List Tm} {its : List It} {ls : List Tm} (h : Named L its ls) (hL : L.Nodup) (n : Nat) {zs : List (Int × Tm)} (hz : ∀ z ∈ zs, get L z.1 = some z.2) :
    allI its n zs = true ↔ ∀ x ∈ zs.map Prod.snd, nder (ls.take n) x := by
  unfold allI
  rw [List.all_eq_true]
  constructor
  · intro ha x hx
    obtain ⟨z, hm, rfl⟩ := List.mem_map.1 hx
    have := ha z hm
    rw [Bool.or_eq_true, h.has hL (hz z hm), ncB_iff] at this
    exact this
  · intro ha z hm
    rw [Bool.or_eq_true, h.has hL (hz z hm), ncB_iff]
    exact ha z.2 (List.mem_map_of_mem hm)
/-- The two readings of what lacks. -/
theorem restI_L {L : List Tm} (hL : L.Nodup) : ∀ {zs os : List (Int × Tm)}, (∀ z ∈ zs, get L z.1 = some z.2) → (∀ z ∈ os, get L z.1 = some z.2) →
    ∃ ms : List (Int × Tm), (∀ z ∈ ms, z ∈ zs) ∧ restI (zs.map Prod.fst) (os.map Prod.fst) = (ms.map Prod.fst, (restL (zs.map Prod.snd) (os.map Prod.snd)).2) ∧ (restL (zs.map Prod.snd) (os.map Prod.snd)).1 = ms.map Prod.snd
  | [], os, _, _ => ⟨[], by simp, by cases os <;> simp [restI, restL], by simp [restL]⟩
  | x :: l, [], _, _ => ⟨x :: l, by simp, by simp [restI, restL], by simp [restL]⟩
  | x :: l, o :: os, h1, h2 => by
    have hx := h1 x (by simp)
    have ho := h2 o (by simp)
    by_cases e : o.2 = x.2
    · have e1 : o.1 = x.1 := get_inj hL ho (by rw [e]; exact hx)
      obtain ⟨ms, m1, m2, m3⟩ := restI_L hL (zs := l) (os := os) (fun z hz => h1 z (by simp [hz])) (fun z hz => h2 z (by simp [hz]))
      refine ⟨ms, fun z hz => by simp [m1 z hz], ?_, ?_⟩
      · simp only [List.map_cons, restI, restL, if_pos e, if_pos e1]; exact m2
      · simp only [List.map_cons, restL, if_pos e]; exact m3
    · have e1 : ¬ o.1 = x.1 := fun q => e (by rw [q, hx] at ho; exact (Option.some.inj ho).symm)
      obtain ⟨ms, m1, m2, m3⟩ := restI_L hL (zs := l) (os := o :: os) (fun z hz => h1 z (by simp [hz])) h2
      simp only [List.map_cons] at m2 m3
      refine ⟨x :: ms, fun z hz => by rcases List.mem_cons.1 hz with rfl | hz <;> simp_all, ?_, ?_⟩
      · simp only [List.map_cons, restI, restL, if_neg e, if_neg e1]; rw [m2]
      · simp only [List.map_cons, restL, if_neg e]; rw [m3]
end
end Go.Proofs.YtphnakdgpilcmaaGreatDoor
