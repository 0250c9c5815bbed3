/- Recipes: a list's terms. -/
import Derived.Test.YtbeanjaenmpoeaaGreatDoorZb17
namespace Go.Proofs.YtbeanjaenmpoeaaGreatDoor
open Go.RowKit Go.Maps

theorem St.view_own2 {w : World} {g : Nat} {W : World} {L : List Tm} (h : St w g W L) (x : Int) (t : Tm) (hg : get L x = some t) : Calls Tryz.prog 34 #[.pointer (some ⟨g, 0, none⟩), .int .i64 x] W fun r w' => ∃ (Av : Option Addr) (c : Nat) (xs : List Nat), r = .returned (.tuple #[.agg (ndC t.kind t.a t.b t.s (.slice Av t.args.length c)).toArray, .bool true]) ∧ OwnR w' W.heap.size 1 33 (.slice Av t.args.length c) (xs.map idv) ∧ xs.map (fun i => L[i]?) = t.args.map some ∧ Below W.heap.size W w' := by
  obtain ⟨A, rfl, rfl, H, _⟩ := h
  exact view_own A _ W H x t hg
/-- A list's terms, in a slice of the call's own; or that it is none. -/
def LstR (L : List Tm) (W : World) (p : Option Tm) (r : Ending) (w' : World) : Prop := ∃ (A : Option Addr) (n c : Nat) (b : Bool), r = .returned (.tuple #[.slice A n c, .bool b]) ∧ Below W.heap.size W w' ∧ (kindO p = 10 ↔ b = true) ∧
  (b = true → ∃ (t : Tm) (xs : List Nat), p = some t ∧ t.kind = 10 ∧ n = t.args.length ∧ n ≤ 32 ∧ OwnR w' W.heap.size 1 33 (.slice A n c) (xs.map idv) ∧ xs.map (fun i => L[i]?) = t.args.map some)
set_option maxRecDepth 100000 in
set_option maxHeartbeats 4000000 in
theorem klist_any {w0 W : World} {g q : Nat} {L : List Tm} (hS : St w0 g W L) {k1 k2 k3 : Value} (hq : W.heap[q]? = some (.cells #[.pointer (some ⟨g, 0, none⟩), k1, k2, k3] 100 (0, 0))) (x : Int) (p : Option Tm) (hx : Nm L x p) :
    Calls Tryz.prog 103 #[.pointer (some ⟨q, 0, none⟩), .int .i64 x] W (LstR L W p) := by
  have c0 := cell_of_row W q 0 _ _ _ hq
  clear hq
  cases p with
  | none =>
    have cV := Lib.hid (hS.view_none x hx.1)
    clear hx hS
    unfold LstR
    go_enter Tryz.func103, Tryz.ntmps103
    go_upto_region 2 with (first
      | (go_at_call 34; refine cV.out.mono ?_; rintro r w2 ⟨rfl, hb2⟩
         obtain ⟨z, b3, hrow⟩ := nd_box2 w2 0 0 0 [] none 0 0
         have hz := Lib.hid z
         have hrowH := Lib.hid hrow
         have hb3H := Lib.hid (hb2.trans (b3.mono hb2.size))
         clear hb2 z b3 hrow)
      | (refine wpList_store_at 68 _ _ rfl rfl w2.heap.size zNd.toArray rfl rfl 68 zNd.toArray hz.out (by kernel_rfl) rfl zNd_one ?_))
    have hb3 : Below W.heap.size W ((w2.alloc (.cells #[.int .i64 0, .int .i64 0, .int .i64 0, .string ⟨#[]⟩, .slice none 0 0] 68)).setRow w2.heap.size zNd.toArray) := hb3H.out
    have hrow : ((w2.alloc (.cells #[.int .i64 0, .int .i64 0, .int .i64 0, .string ⟨#[]⟩, .slice none 0 0] 68)).setRow w2.heap.size zNd.toArray).heap[w2.heap.size]? = some (.cells zNd.toArray 68 (0, 0)) := hrowH.out
    clear hb3H hz hrowH
    generalize ((w2.alloc (.cells #[.int .i64 0, .int .i64 0, .int .i64 0, .string ⟨#[]⟩, .slice none 0 0] 68)).setRow w2.heap.size zNd.toArray) = w3 at *
    generalize w2.heap.size = p6 at *
    have d4 : w3.cell? ⟨p6, 4, none⟩ = some (.slice none 0 0) := cell_of_row w3 p6 4 _ _ _ hrow
    have hb3h := Lib.hid hb3
    clear hb3 hrow
    go_quiet (fail)
    have hb4 := Lib.hid (hb3h.out.trans (Below.mono (drewN_below nq) hb3h.out.size))
    go_wp2_with fail
    go_ret2
    exact ⟨_, _, _, _, rfl, hb4.out, by simp [kindO], fun h => by cases h⟩
  | some t =>
    obtain ⟨k, a, b, s, args⟩ := t
    have hok := ok_mk.1 (hS.good.ok _ (get_mem hx.1))
    have cV := hS.view_own2 x _ hx.1
    simp only [Tm.kind, Tm.a, Tm.b, Tm.s, Tm.args] at cV
    replace cV := Lib.hid cV
    have hm : k = 10 → args.length ≤ 32 := fun h => by have := hok.1; unfold okHd at this; omega
    replace hm := Lib.hid hm
    obtain ⟨bb, hbb⟩ : ∃ bb, bb = ((k : Int) == 10) := ⟨_, rfl⟩
    have hbb2 : k = 10 ↔ bb = true := by rw [hbb]; simp; omega
    replace hbb2 := Lib.hid hbb2
    have f1 : ((k : Int) == 10) = bb := hbb.symm
    clear hok hx hS hbb
    unfold LstR
    go_enter Tryz.func103, Tryz.ntmps103
    go_upto_region 2 with (first
      | (go_at_call 34; refine cV.out.mono ?_; rintro r w2 ⟨Av, cv, xs, rfl, hI2, hxs, hb2⟩
         obtain ⟨z, b3, hrow⟩ := nd_box2 w2 k a b s Av args.length cv
         have hI3H := Lib.hid (OwnR.keep hI2 b3)
         have hz := Lib.hid z
         have hrowH := Lib.hid hrow
         have hb3H := Lib.hid (hb2.trans (b3.mono hb2.size))
         have hxsh := Lib.hid hxs
         clear hI2 hb2 hrow b3 hxs z)
      | (refine wpList_store_at 68 _ _ rfl rfl w2.heap.size (ndC k a b s (.slice Av args.length cv)).toArray rfl rfl 68 zNd.toArray hz.out (by kernel_rfl) rfl nd_all ?_))
    replace hrowH := hrowH.out
    replace hb3H := hb3H.out
    replace hI3H := hI3H.out
    generalize ((w2.alloc (.cells #[.int .i64 0, .int .i64 0, .int .i64 0, .string ⟨#[]⟩, .slice none 0 0] 68)).setRow w2.heap.size (ndC k a b s (.slice Av args.length cv)).toArray) = w3 at *
    generalize w2.heap.size = p6 at *
    have d0 : w3.cell? ⟨p6, 0, none⟩ = some (.int .i64 k) := cell_of_row w3 p6 0 _ _ _ hrowH
    have d4 : w3.cell? ⟨p6, 4, none⟩ = some (.slice Av args.length cv) := cell_of_row w3 p6 4 _ _ _ hrowH
    have hb3h := Lib.hid hb3H
    have hI3 := Lib.hid hI3H
    clear hb3H hrowH hz hI3H
    go_quiet (fail)
    have hb4 := Lib.hid (hb3h.out.trans (Below.mono (drewN_below nq) hb3h.out.size))
    have hI4 := Lib.hid (OwnR.keep hI3.out (drewN_below nq))
    go_wp2_with fail
    go_ret2
    exact ⟨_, _, _, _, rfl, hb4.out, hbb2.out, fun h => ⟨_, xs, rfl, hbb2.out.2 h, rfl, hm.out (hbb2.out.2 h), hI4.out, hxsh.out⟩⟩
end Go.Proofs.YtbeanjaenmpoeaaGreatDoor
