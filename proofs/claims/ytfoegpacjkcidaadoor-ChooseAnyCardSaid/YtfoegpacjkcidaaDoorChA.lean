/- Choose: prefs.Lists hands back names in blocks of its own. -/
import Derived.Test.YtfoegpacjkcidaaDoorPfL
namespace Go.Proofs.YtfoegpacjkcidaaDoor
open Go.RowKit

theorem StrF.put {w : World} {base : Nat} {v : Value} {l : List ByteArray} (h : StrF w base v l) {g : Nat} (hg : g < base) (i : Nat) (x : Value) : StrF (w.setCell ⟨g, i, none⟩ x) base v l := by
  obtain ⟨A, n, c, h1, h2, h3, h4, h5⟩ := h
  refine ⟨A, n, c, h1, h2, h3, ⟨h4.1, h4.2.1, fun hn => ?_⟩, h5⟩
  obtain ⟨b, off, e, hlt, hc⟩ := h4.2.2 hn
  refine ⟨b, off, e, by rw [World.size_setCell]; exact hlt, fun j z hz k u hu => ?_⟩
  rw [World.cell?_setCell_far _ _ _ _ (fun e' : g = b => by have := h5 b off e hn; omega)]
  exact hc j z hz k u hu
/-- Eight slices from base on, and what names they have. -/
structure PfX (w : World) (base : Nat) (V : List Value) (L : List (List ByteArray)) : Prop where
  v8 : V.length = 8
  l8 : L.length = 8
  at_ : ∀ (i : Nat) v l, V[i]? = some v → L[i]? = some l → StrF w base v l
theorem PfX.keep {w w' : World} {base : Nat} {V : List Value} {L : List (List ByteArray)} (h : PfX w base V L) (hb : Below w.heap.size w w') : PfX w' base V L := ⟨h.v8, h.l8, fun i v l h1 h2 => (h.at_ i v l h1 h2).keep hb⟩
theorem PfX.mono {w : World} {base base' : Nat} {V : List Value} {L : List (List ByteArray)} (h : PfX w base V L) (hb : base' ≤ base) : PfX w base' V L := ⟨h.v8, h.l8, fun i v l h1 h2 => (h.at_ i v l h1 h2).mono hb⟩
theorem PfX.put {w : World} {base g : Nat} {V : List Value} {L : List (List ByteArray)} (h : PfX w base V L) (hg : g < base) (i : Nat) (x : Value) : PfX (w.setCell ⟨g, i, none⟩ x) base V L := ⟨h.v8, h.l8, fun j v l h1 h2 => (h.at_ j v l h1 h2).put hg i x⟩
theorem PfX.pf {w : World} {base : Nat} {V : List Value} {L : List (List ByteArray)} (h : PfX w base V L) : Pf w V L := ⟨h.v8, h.l8, fun i v l h1 h2 => (h.at_ i v l h1 h2).strV⟩
theorem Vls.put {w : World} {g n : Nat} {V : List Value} (h : Vls w (some ⟨g, 0, none⟩) n V) {o : Nat} (ho : o ≠ g) (i : Nat) (x : Value) : Vls (w.setCell ⟨o, i, none⟩ x) (some ⟨g, 0, none⟩) n V := by
  refine ⟨h.1, h.2.1, fun hn => ?_⟩
  obtain ⟨b, off, e, hlt, hc⟩ := h.2.2 hn
  refine ⟨b, off, e, by rw [World.size_setCell]; exact hlt, fun j z hz k u hu => ?_⟩
  injection e with e
  injection e with e1 e2
  rw [World.cell?_setCell_far _ _ _ _ (fun e' : o = b => ho (by rw [e', ← e1]))]
  exact hc j z hz k u hu
/-- What the rounds keep. -/
structure LsF (w W : World) (g : Nat) (U : List Value) (L : List (List ByteArray)) (k : Nat) : Prop where
  b : VB W g U
  u8 : U.length = 8
  at_ : ∀ (i : Nat) v l, U[i]? = some v → L[i]? = some l → StrN W g v l ∧ (i < k → StrF W (g + 1) v l)
  o : Below w.heap.size w W
theorem LsF.put {w W W' : World} {g : Nat} {U : List Value} {L : List (List ByteArray)} {k : Nat} (h : LsF w W g U L k) (hg : w.heap.size ≤ g) (_hk : k < 8) {l : List ByteArray} (hl : L[k]? = some l) {v : Value} (ho : OwnS W' W.heap.size v l) (hb : Below W.heap.size W W') :
    LsF w (W'.setCell ⟨g, k, none⟩ v) g (U.set k v) L (k + 1) := by
  have hgl := h.b.lt
  refine ⟨(h.b.keep hb).put k v, by rw [List.length_set]; exact h.u8, fun j x y hx hy => ?_, (h.o.trans (hb.mono h.o.size)).setCell hg _⟩
  rw [List.getElem?_set] at hx
  by_cases e : k = j
  · subst e
    rw [if_pos rfl] at hx
    split at hx
    · injection hx with hx
      subst hx
      rw [hl] at hy
      injection hy with hy
      subst hy
      exact ⟨(ho.far hgl).put k _, fun _ => (ho.strF.mono (by omega)).put (Nat.lt_succ_self _) k _⟩
    · cases hx
  · rw [if_neg e] at hx
    exact ⟨((h.at_ j x y hx hy).1.keep hb).put k v, fun hj => (((h.at_ j x y hx hy).2 (by omega)).keep hb).put (Nat.lt_succ_self _) k v⟩
theorem LsF.get {w W : World} {g : Nat} {U : List Value} {L : List (List ByteArray)} {k : Nat} (h : LsF w W g U L k) (hL : L.length = 8) {i : Nat} (hi : i < 8) :
    ∃ A n c l, U[i]? = some (.slice A n c) ∧ L[i]? = some l ∧ n ≤ c ∧ c ≤ 9223372036854775807 ∧ Strs W A n l := by
  obtain ⟨v, h1⟩ : ∃ v, U[i]? = some v := ⟨_, List.getElem?_eq_getElem (by rw [h.u8]; exact hi)⟩
  obtain ⟨l, h2⟩ : ∃ l, L[i]? = some l := ⟨_, List.getElem?_eq_getElem (by rw [hL]; exact hi)⟩
  obtain ⟨A, n, c, rfl, ha, hb, hc, _⟩ := (h.at_ i _ _ h1 h2).1
  exact ⟨A, n, c, l, h1, h2, ha, hb, hc⟩
theorem LsF.vls {w W : World} {g : Nat} {U : List Value} {L : List (List ByteArray)} {k : Nat} (h : LsF w W g U L k) : Vls W (some ⟨g, 0, none⟩) 8 U := by
  have := Vls.block h.b h.b.lt
  rwa [h.u8] at this
/-- What Lists hands back: eight slices with these names, all in blocks of its own. -/
def Lf8 (w : World) (L : List (List ByteArray)) (r : Ending) (w' : World) : Prop := ∃ g U, r = .returned (.slice (some ⟨g, 0, none⟩) 8 8) ∧ Vls w' (some ⟨g, 0, none⟩) 8 U ∧ PfX w' w.heap.size U L ∧ w.heap.size ≤ g ∧ Below w.heap.size w w'
set_option maxRecDepth 100000 in
set_option maxHeartbeats 4000000 in
theorem listsF_eq (A0 A1 A2 A3 A4 A5 A6 A7 : Option Addr) (n0 c0 n1 c1 n2 c2 n3 c3 n4 c4 n5 c5 n6 c6 n7 c7 : Nat) (L : List (List ByteArray)) (w : World) (hL : L.length = 8) (hs : ∀ l ∈ L, l.length ≤ 1000000)
    (hV : LsF w ((w.alloc (.cells #[.slice A0 n0 c0, .slice A1 n1 c1, .slice A2 n2 c2, .slice A3 n3 c3, .slice A4 n4 c4, .slice A5 n5 c5, .slice A6 n6 c6, .slice A7 n7 c7] 24)).alloc (.cells #[.slice A0 n0 c0, .slice A1 n1 c1, .slice A2 n2 c2, .slice A3 n3 c3, .slice A4 n4 c4, .slice A5 n5 c5, .slice A6 n6 c6, .slice A7 n7 c7] 22)) (w.heap.size + 1) [.slice A0 n0 c0, .slice A1 n1 c1, .slice A2 n2 c2, .slice A3 n3 c3, .slice A4 n4 c4, .slice A5 n5 c5, .slice A6 n6 c6, .slice A7 n7 c7] L 0) :
    Calls Tryd.prog 52 #[.agg #[.slice A0 n0 c0, .slice A1 n1 c1, .slice A2 n2 c2, .slice A3 n3 c3, .slice A4 n4 c4, .slice A5 n5 c5, .slice A6 n6 c6, .slice A7 n7 c7]] w fun r w' => ∃ U, r = .returned (.slice (some ⟨w.heap.size + 1, 0, none⟩) 8 8) ∧ LsF w w' (w.heap.size + 1) U L 8 := by
  have hL8 := Lib.hid hL
  have hS := Lib.hid hs
  have hK0 := Lib.hid hV
  clear hL hs hV
  go_enter Tryd.func52, Tryd.ntmps52
  go_wp2
  go_loopw [4, 24] (fun _ i wr => ∃ k : Nat, k ≤ 8 ∧ i = .int .i64 k ∧ ∃ U, Hid (LsF w wr (w.heap.size + 1) U L k)) (fun _ i _ => 8 - (intOf i).toNat)
  case atStart => exact ⟨0, by omega, rfl, _, hK0⟩
  case round =>
    obtain ⟨k, hk, rfl, U, hK⟩ := hrel
    by_cases hlt : k < 8
    · obtain ⟨A, n, c, l, hu, hl, hnc, hcm, hSt⟩ := hK.out.get hL8.out hlt
      obtain ⟨hc, hfz⟩ := hK.out.b.cell hu
      have hn : n ≤ 1000000 := by have h1 := hS.out l (List.mem_of_getElem? hl); have h2 := hSt.len; omega
      have cC := Lib.hid (cloneS_any l A n c wr hn hSt)
      have hkeep := Lib.hid (fun W (hb : Below wr.heap.size wr W) => (hK.out.b.keep hb).cell hu)
      have hnext := Lib.hid (fun W v (ho : OwnS W wr.heap.size v l) (hb : Below wr.heap.size wr W) => hK.out.put (by omega) hlt hl ho hb)
      have i1 : (0 : Int) ≤ (k : Int) := by omega
      have i2 : (k : Int) < 8 := by omega
      clear hu hl hSt
      go_wp2_with (go_at_call 38; refine cC.out.mono ?_; rintro r w4 ⟨v4, rfl, ho4, hb4⟩; obtain ⟨d0, d1⟩ := hkeep.out _ hb4; have hN := Lib.hid (hnext.out _ _ ho4 hb4); obtain ⟨A4, n4, c4, rfl⟩ := own_slice ho4; clear ho4 hb4)
      go_roundw
      case rel => exact ⟨k + 1, by omega, by go_num, _, hN⟩
      case measure => simp [intOf]; omega
    · go_wp2
      go_ret
      obtain rfl : k = 8 := by omega
      exact ⟨U, rfl, hK.out⟩
theorem listsF_any (V : List Value) (L : List (List ByteArray)) (w : World) (H : Pf w V L) (hs : ∀ l ∈ L, l.length ≤ 1000000) :
    Calls Tryd.prog 52 #[.agg V.toArray] w (Lf8 w L) := by
  have h8 := H.v8
  match V, h8, H with
  | [v0, v1, v2, v3, v4, v5, v6, v7], _, H =>
    obtain ⟨A0, n0, c0, l0, e0, _⟩ := H.get (i := 0) (by decide)
    simp only [List.getElem?_cons_zero, List.getElem?_cons_succ, Option.some.injEq] at e0
    subst e0
    obtain ⟨A1, n1, c1, l1, e1, _⟩ := H.get (i := 1) (by decide)
    simp only [List.getElem?_cons_zero, List.getElem?_cons_succ, Option.some.injEq] at e1
    subst e1
    obtain ⟨A2, n2, c2, l2, e2, _⟩ := H.get (i := 2) (by decide)
    simp only [List.getElem?_cons_zero, List.getElem?_cons_succ, Option.some.injEq] at e2
    subst e2
    obtain ⟨A3, n3, c3, l3, e3, _⟩ := H.get (i := 3) (by decide)
    simp only [List.getElem?_cons_zero, List.getElem?_cons_succ, Option.some.injEq] at e3
    subst e3
    obtain ⟨A4, n4, c4, l4, e4, _⟩ := H.get (i := 4) (by decide)
    simp only [List.getElem?_cons_zero, List.getElem?_cons_succ, Option.some.injEq] at e4
    subst e4
    obtain ⟨A5, n5, c5, l5, e5, _⟩ := H.get (i := 5) (by decide)
    simp only [List.getElem?_cons_zero, List.getElem?_cons_succ, Option.some.injEq] at e5
    subst e5
    obtain ⟨A6, n6, c6, l6, e6, _⟩ := H.get (i := 6) (by decide)
    simp only [List.getElem?_cons_zero, List.getElem?_cons_succ, Option.some.injEq] at e6
    subst e6
    obtain ⟨A7, n7, c7, l7, e7, _⟩ := H.get (i := 7) (by decide)
    simp only [List.getElem?_cons_zero, List.getElem?_cons_succ, Option.some.injEq] at e7
    subst e7
    have hb1 := below_got w (.cells #[.slice A0 n0 c0, .slice A1 n1 c1, .slice A2 n2 c2, .slice A3 n3 c3, .slice A4 n4 c4, .slice A5 n5 c5, .slice A6 n6 c6, .slice A7 n7 c7] 24)
    have hb2 := hb1.alloc hb1.size (.cells #[.slice A0 n0 c0, .slice A1 n1 c1, .slice A2 n2 c2, .slice A3 n3 c3, .slice A4 n4 c4, .slice A5 n5 c5, .slice A6 n6 c6, .slice A7 n7 c7] 22)
    have hg := heap_new (w.alloc (.cells #[.slice A0 n0 c0, .slice A1 n1 c1, .slice A2 n2 c2, .slice A3 n3 c3, .slice A4 n4 c4, .slice A5 n5 c5, .slice A6 n6 c6, .slice A7 n7 c7] 24)) (.cells #[.slice A0 n0 c0, .slice A1 n1 c1, .slice A2 n2 c2, .slice A3 n3 c3, .slice A4 n4 c4, .slice A5 n5 c5, .slice A6 n6 c6, .slice A7 n7 c7] 22)
    rw [World.size_alloc] at hg
    refine (listsF_eq A0 A1 A2 A3 A4 A5 A6 A7 n0 c0 n1 c1 n2 c2 n3 c3 n4 c4 n5 c5 n6 c6 n7 c7 L w H.l8 hs ⟨hg, rfl, fun i v l h1 h2 => ⟨((H.at_ i v l h1 h2).far (by omega)).keep hb2, fun h => absurd h (Nat.not_lt_zero _)⟩, hb2⟩).mono ?_
    rintro r w' ⟨U, rfl, hK⟩
    have hX : PfX w' (w.heap.size + 1 + 1) U L := ⟨hK.u8, H.l8, fun i v l h1 h2 => (hK.at_ i v l h1 h2).2 (by have := (List.getElem?_eq_some_iff.1 h1).1; rw [hK.u8] at this; exact this)⟩
    exact ⟨w.heap.size + 1, U, rfl, hK.vls, hX.mono (by omega), by omega, hK.o⟩
end Go.Proofs.YtfoegpacjkcidaaDoor
