/- Prefs: the walks of Lists and Of. -/
import Derived.Test.YtfoegpacjkcidaaDoorPfJ
import Derived.Laws.ResultCell
namespace Go.Proofs.YtfoegpacjkcidaaDoor
open Go.RowKit

theorem own_slice {w : World} {base : Nat} {v : Value} {l : List ByteArray} (h : OwnS w base v l) : ∃ A n c, v = .slice A n c := by
  obtain ⟨A, c, rfl, _⟩ := h.strs
  exact ⟨_, _, _, rfl⟩
set_option maxRecDepth 100000 in
set_option maxHeartbeats 4000000 in
theorem lists_eq (A0 A1 A2 A3 A4 A5 A6 A7 : Option Addr) (n0 c0 n1 c1 n2 c2 n3 c3 n4 c4 n5 c5 n6 c6 n7 c7 : Nat) (L : List (List ByteArray)) (w : World) (hL : L.length = 8) (hs : ∀ l ∈ L, l.length ≤ 1000000)
    (hV : LsK w ((w.alloc (.cells #[.slice A0 n0 c0, .slice A1 n1 c1, .slice A2 n2 c2, .slice A3 n3 c3, .slice A4 n4 c4, .slice A5 n5 c5, .slice A6 n6 c6, .slice A7 n7 c7] 24)).alloc (.cells #[.slice A0 n0 c0, .slice A1 n1 c1, .slice A2 n2 c2, .slice A3 n3 c3, .slice A4 n4 c4, .slice A5 n5 c5, .slice A6 n6 c6, .slice A7 n7 c7] 22)) (w.heap.size + 1) [.slice A0 n0 c0, .slice A1 n1 c1, .slice A2 n2 c2, .slice A3 n3 c3, .slice A4 n4 c4, .slice A5 n5 c5, .slice A6 n6 c6, .slice A7 n7 c7] L) :
    Calls Tryd.prog 52 #[.agg #[.slice A0 n0 c0, .slice A1 n1 c1, .slice A2 n2 c2, .slice A3 n3 c3, .slice A4 n4 c4, .slice A5 n5 c5, .slice A6 n6 c6, .slice A7 n7 c7]] w fun r w' => ∃ U, r = .returned (.slice (some ⟨w.heap.size + 1, 0, none⟩) 8 8) ∧ LsK w w' (w.heap.size + 1) U L := by
  have hL8 := Lib.hid hL
  have hS := Lib.hid hs
  have hK0 := Lib.hid hV
  clear hL hs hV
  go_enter Tryd.func52, Tryd.ntmps52
  go_wp2
  go_loopw [4, 24] (fun _ i wr => ∃ k : Nat, k ≤ 8 ∧ i = .int .i64 k ∧ ∃ U, Hid (LsK w wr (w.heap.size + 1) U L)) (fun _ i _ => 8 - (intOf i).toNat)
  case atStart => exact ⟨0, by omega, rfl, _, hK0⟩
  case round =>
    obtain ⟨k, hk, rfl, U, hK⟩ := hrel
    by_cases hlt : k < 8
    · obtain ⟨A, n, c, l, hu, hl, hnc, hcm, hSt⟩ := hK.out.get hL8.out hlt
      obtain ⟨hc, hfz⟩ := hK.out.b.cell hu
      have hn : n ≤ 1000000 := by have h1 := hS.out l (List.mem_of_getElem? hl); have h2 := hSt.len; omega
      have cC := Lib.hid (cloneS_any l A n c wr hn hSt)
      have hkeep := Lib.hid (fun W (hb : Below wr.heap.size wr W) => (hK.out.b.keep hb).cell hu)
      have hnext := Lib.hid (fun W v (ho : OwnS W wr.heap.size v l) (hb : Below wr.heap.size wr W) => hK.out.put (by omega) hl ho hb)
      have i1 : (0 : Int) ≤ (k : Int) := by omega
      have i2 : (k : Int) < 8 := by omega
      clear hu hl hSt
      go_wp2_with (go_at_call 38; refine cC.out.mono ?_; rintro r w4 ⟨v4, rfl, ho4, hb4⟩; obtain ⟨d0, d1⟩ := hkeep.out _ hb4; have hN := Lib.hid (hnext.out _ _ ho4 hb4); obtain ⟨A4, n4, c4, rfl⟩ := own_slice ho4; clear ho4 hb4)
      go_roundw
      case rel => exact ⟨k + 1, by omega, by go_num, _, hN⟩
      case measure => simp [intOf]; omega
    · go_wp2
      go_ret
      exact ⟨U, rfl, hK.out⟩
theorem lists_any (V : List Value) (L : List (List ByteArray)) (w : World) (H : Pf w V L) (hs : ∀ l ∈ L, l.length ≤ 1000000) :
    Calls Tryd.prog 52 #[.agg V.toArray] w (Ls8 w L) := by
  have h8 := H.v8
  match V, h8, H with
  | [v0, v1, v2, v3, v4, v5, v6, v7], _, H =>
    obtain ⟨A0, n0, c0, l0, e0, _⟩ := H.get (i := 0) (by decide)
    simp only [List.getElem?_cons_zero, List.getElem?_cons_succ, Option.some.injEq] at e0
    subst e0
    obtain ⟨A1, n1, c1, l1, e1, _⟩ := H.get (i := 1) (by decide)
    simp only [List.getElem?_cons_zero, List.getElem?_cons_succ, Option.some.injEq] at e1
    subst e1
    obtain ⟨A2, n2, c2, l2, e2, _⟩ := H.get (i := 2) (by decide)
    simp only [List.getElem?_cons_zero, List.getElem?_cons_succ, Option.some.injEq] at e2
    subst e2
    obtain ⟨A3, n3, c3, l3, e3, _⟩ := H.get (i := 3) (by decide)
    simp only [List.getElem?_cons_zero, List.getElem?_cons_succ, Option.some.injEq] at e3
    subst e3
    obtain ⟨A4, n4, c4, l4, e4, _⟩ := H.get (i := 4) (by decide)
    simp only [List.getElem?_cons_zero, List.getElem?_cons_succ, Option.some.injEq] at e4
    subst e4
    obtain ⟨A5, n5, c5, l5, e5, _⟩ := H.get (i := 5) (by decide)
    simp only [List.getElem?_cons_zero, List.getElem?_cons_succ, Option.some.injEq] at e5
    subst e5
    obtain ⟨A6, n6, c6, l6, e6, _⟩ := H.get (i := 6) (by decide)
    simp only [List.getElem?_cons_zero, List.getElem?_cons_succ, Option.some.injEq] at e6
    subst e6
    obtain ⟨A7, n7, c7, l7, e7, _⟩ := H.get (i := 7) (by decide)
    simp only [List.getElem?_cons_zero, List.getElem?_cons_succ, Option.some.injEq] at e7
    subst e7
    have hb1 := below_got w (.cells #[.slice A0 n0 c0, .slice A1 n1 c1, .slice A2 n2 c2, .slice A3 n3 c3, .slice A4 n4 c4, .slice A5 n5 c5, .slice A6 n6 c6, .slice A7 n7 c7] 24)
    have hb2 := hb1.alloc hb1.size (.cells #[.slice A0 n0 c0, .slice A1 n1 c1, .slice A2 n2 c2, .slice A3 n3 c3, .slice A4 n4 c4, .slice A5 n5 c5, .slice A6 n6 c6, .slice A7 n7 c7] 22)
    have hg := heap_new (w.alloc (.cells #[.slice A0 n0 c0, .slice A1 n1 c1, .slice A2 n2 c2, .slice A3 n3 c3, .slice A4 n4 c4, .slice A5 n5 c5, .slice A6 n6 c6, .slice A7 n7 c7] 24)) (.cells #[.slice A0 n0 c0, .slice A1 n1 c1, .slice A2 n2 c2, .slice A3 n3 c3, .slice A4 n4 c4, .slice A5 n5 c5, .slice A6 n6 c6, .slice A7 n7 c7] 22)
    rw [World.size_alloc] at hg
    refine (lists_eq A0 A1 A2 A3 A4 A5 A6 A7 n0 c0 n1 c1 n2 c2 n3 c3 n4 c4 n5 c5 n6 c6 n7 c7 L w H.l8 hs ⟨hg, rfl, fun i v l h1 h2 => ((H.at_ i v l h1 h2).far (by omega)).keep hb2, hb2⟩).mono ?_
    rintro r w' ⟨U, rfl, hK⟩
    exact ⟨w.heap.size + 1, U, rfl, hK.vls, hK.pf H.l8, by omega, hK.o⟩
end Go.Proofs.YtfoegpacjkcidaaDoor
