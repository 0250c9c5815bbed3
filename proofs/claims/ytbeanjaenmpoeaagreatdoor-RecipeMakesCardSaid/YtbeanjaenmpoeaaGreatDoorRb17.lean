/- Texts joined: what each shows stands ahead of its theorems. -/
import Derived.Test.YtbeanjaenmpoeaaGreatDoorRb2
import Derived.Test.YtbeanjaenmpoeaaGreatDoorRb6
import Derived.WalkMore
import Derived.Test.YtbeanjaenmpoeaaGreatDoorRb10
import Derived.Test.YtbeanjaenmpoeaaGreatDoorRb4
namespace Go.Proofs.YtbeanjaenmpoeaaGreatDoor
section
open Go.RowKit Go.Maps

def freshT (s n : Int) : Option Tm := if 0 ≤ s ∧ s < 2147483647 then nonceT (s + 1) n else none
theorem fresh_any (A : Ar) (B : Nat) (w : World) (H : Arena w B A) (hB : B ≤ w.heap.size) (hN : A.N.length < 100) (s n : Int) :
    Calls Tryz.prog 24 #[.pointer (some ⟨A.g, 0, none⟩), .int .i64 s, .int .i64 n] w (PutR w B A (freshT s n)) := by
  by_cases h : 0 ≤ s ∧ s < 2147483647
  · have e : freshT s n = nonceT (s + 1) n := by unfold freshT; rw [if_pos h]
    rw [e]
    have cN := Lib.hid (nonce_any A B w H hB hN (s + 1) n)
    obtain ⟨h1, h2⟩ := h
    clear H e
    go_enter Tryz.func24, Tryz.ntmps24
    go_wp2_with (go_at_call 50; refine cN.out.mono ?_; rintro r w1 ⟨A', x, rfl, hG, hM⟩)
    go_ret
    exact ⟨A', x, rfl, hG, hM⟩
  · have e : freshT s n = none := by unfold freshT; rw [if_neg h]
    have hR := Lib.hid (PutR.none_ H (Below.refl _ _) e)
    by_cases h1 : s < 0
    · clear H e h
      go_enter Tryz.func24, Tryz.ntmps24
      go_wp2_with fail
      go_ret
      exact hR.out
    · have h2 : 2147483647 ≤ s := by omega
      clear H e h
      go_enter Tryz.func24, Tryz.ntmps24
      go_wp2_with fail
      go_ret
      exact hR.out
/-- May a share be? -/
def chkB (g : List UInt8) (o : Option Tm) : Bool := match o with
  | some t => t.kind == 5 && t.s == g && decide (1 ≤ t.args.length) && decide (t.args.length < 8)
  | none => false
def zN5 : Array Value := #[.int .i64 0, .int .i64 0, .int .i64 0, .string ⟨#[]⟩, .slice none 0 0]
/-- The world behind a struct's copy into a block of its own. -/
def cpW (w : World) (cs : Array Value) : World := (w.alloc (.cells #[.int .i64 0, .int .i64 0, .int .i64 0, .string ⟨#[]⟩, .slice none 0 0] 68)).setRow w.heap.size cs
theorem cpW_row (w : World) (cs : Array Value) : (cpW w cs).heap[w.heap.size]? = some (.cells cs 68 (0, 0)) := hsetRow _ _ _ _ _ _ (heap_new w _)
theorem cpW_below (w : World) (cs : Array Value) : Below w.heap.size w (cpW w cs) := below_setRow (below_new w _) (Nat.le_refl _) _
theorem bs_ext_ {x y : ByteArray} (h : x.toList = y.toList) : x = y := by
  rw [ByteArray.toList_eq, ByteArray.toList_eq] at h
  cases x; cases y
  simp only [ByteArray.mk.injEq]
  exact Array.toList_inj.1 h
set_option maxRecDepth 100000 in
set_option maxHeartbeats 2000000 in
theorem check_none (A : Ar) (B : Nat) (w : World) (H : Arena w B A) (g : List UInt8) (x : Int) (hg : get A.L x = none) :
    Calls Tryz.prog 20 #[.pointer (some ⟨A.g, 0, none⟩), .string (bs g), .int .i64 x] w fun r w' => r = .returned (.int .i64 5) ∧ Below w.heap.size w w' := by
  have cV := Lib.hid (view_none A B w H x hg)
  clear H hg
  go_enter Tryz.func20, Tryz.ntmps20
  go_upto_region 2 with (first
    | (go_at_call 34; refine cV.out.mono ?_; rintro r w1 ⟨rfl, hb⟩
       have hz1 := Lib.hid (heap_new w1 (.cells #[.int .i64 0, .int .i64 0, .int .i64 0, .string ⟨#[]⟩, .slice none 0 0] 68))
       have hB2 := Lib.hid (hb.trans ((cpW_below w1 zNd.toArray).mono hb.size))
       clear hb)
    | (refine wpList_store_at 68 _ _ rfl rfl w1.heap.size zNd.toArray rfl rfl 68 #[.int .i64 0, .int .i64 0, .int .i64 0, .string ⟨#[]⟩, .slice none 0 0] hz1.out (by kernel_rfl) rfl zNd_one ?_))
  have hB2 : Below w.heap.size w ((w1.alloc (.cells #[.int .i64 0, .int .i64 0, .int .i64 0, .string ⟨#[]⟩, .slice none 0 0] 68)).setRow w1.heap.size zNd.toArray) := hB2.out
  generalize (w1.alloc (.cells #[.int .i64 0, .int .i64 0, .int .i64 0, .string ⟨#[]⟩, .slice none 0 0] 68)).setRow w1.heap.size zNd.toArray = w2 at *
  have hB2 := Lib.hid hB2
  go_wp2_with fail
  go_ret
  exact ⟨rfl, hB2.out⟩
set_option maxRecDepth 100000 in
set_option maxHeartbeats 2000000 in
theorem check_some (A : Ar) (B : Nat) (w : World) (H : Arena w B A) (g : List UInt8) (x : Int) (t : Tm) (hg : get A.L x = some t) :
    Calls Tryz.prog 20 #[.pointer (some ⟨A.g, 0, none⟩), .string (bs g), .int .i64 x] w fun r w' => r = .returned (.int .i64 (if chkB g (some t) then 0 else 5)) ∧ Below w.heap.size w w' := by
  have cV := Lib.hid (view_some A B w H x t hg)
  have hal : t.args.length ≤ 1000000 := by
    have hok := H.good.ok t (get_mem hg)
    obtain ⟨k, a, b, s, args⟩ := t
    rw [ok_mk] at hok
    have := hok.1
    unfold okHd at this
    simp only [Tm.args]
    omega
  obtain ⟨k, a, b, s, args⟩ := t
  simp only [Tm.args] at hal
  have hchk : chkB g (some (.mk k a b s args)) = (k == 5 && s == g && decide (1 ≤ args.length) && decide (args.length < 8)) := rfl
  rw [hchk]
  clear hchk
  obtain ⟨e, he⟩ : ∃ e : Int, (if (k == 5 && s == g && decide (1 ≤ args.length) && decide (args.length < 8)) = true then (0 : Int) else 5) = e := ⟨_, rfl⟩
  rw [he]
  have he := Lib.hid he
  clear H hg
  go_enter Tryz.func20, Tryz.ntmps20
  go_upto_region 2 with (first
    | (go_at_call 34; refine cV.out.mono ?_; rintro r w1 ⟨Av, c, xs, rfl, _, _, hb⟩
       have hz1 := Lib.hid (heap_new w1 (.cells #[.int .i64 0, .int .i64 0, .int .i64 0, .string ⟨#[]⟩, .slice none 0 0] 68))
       have hB2 := Lib.hid (hb.trans ((cpW_below w1 (ndC k a b s (.slice Av args.length c)).toArray).mono hb.size))
       have hr2 := Lib.hid (cpW_row w1 (ndC k a b s (.slice Av args.length c)).toArray)
       clear hb)
    | (refine wpList_store_at 68 _ _ rfl rfl w1.heap.size (ndC k a b s (.slice Av args.length c)).toArray rfl rfl 68 #[.int .i64 0, .int .i64 0, .int .i64 0, .string ⟨#[]⟩, .slice none 0 0] hz1.out (by kernel_rfl) rfl nd_all ?_))
  have hr : ((w1.alloc (.cells #[.int .i64 0, .int .i64 0, .int .i64 0, .string ⟨#[]⟩, .slice none 0 0] 68)).setRow w1.heap.size (ndC k a b s (.slice Av args.length c)).toArray).heap[w1.heap.size]? = some (.cells (ndC k a b s (.slice Av args.length c)).toArray 68 (0, 0)) := hr2.out
  have hB3 : Below w.heap.size w ((w1.alloc (.cells #[.int .i64 0, .int .i64 0, .int .i64 0, .string ⟨#[]⟩, .slice none 0 0] 68)).setRow w1.heap.size (ndC k a b s (.slice Av args.length c)).toArray) := hB2.out
  clear hr2 hz1 cV
  generalize (w1.alloc (.cells #[.int .i64 0, .int .i64 0, .int .i64 0, .string ⟨#[]⟩, .slice none 0 0] 68)).setRow w1.heap.size (ndC k a b s (.slice Av args.length c)).toArray = w2 at *
  have d0 : w2.cell? ⟨w1.heap.size, 0, none⟩ = some (.int .i64 k) := cell_of_row w2 w1.heap.size 0 _ _ _ hr
  have d3 : w2.cell? ⟨w1.heap.size, 3, none⟩ = some (.string (bs s)) := cell_of_row w2 w1.heap.size 3 _ _ _ hr
  have d4 : w2.cell? ⟨w1.heap.size, 4, none⟩ = some (.slice Av args.length c) := cell_of_row w2 w1.heap.size 4 _ _ _ hr
  have hB3 := Lib.hid hB3
  clear hr hB2
  by_cases hk : k = 5
  · subst hk
    by_cases hs : s = g
    · subst hs
      by_cases h1 : 1 ≤ args.length
      · by_cases h8 : args.length < 8
        · have h1' : ¬ args.length < 1 := by omega
          have h8' : ¬ 8 ≤ args.length := by omega
          go_wp2_with fail
          go_ret
          exact ⟨by rw [← he.out]; simp [h1, h8], hB3.out⟩
        · have h8' : 8 ≤ args.length := by omega
          have h1' : ¬ args.length < 1 := by omega
          go_wp2_with fail
          go_ret
          exact ⟨by rw [← he.out]; simp [h8], hB3.out⟩
      · have h0 : args.length < 1 := by omega
        go_wp2_with fail
        go_ret
        exact ⟨by rw [← he.out]; simp [h1], hB3.out⟩
    · have hs' : ((bs s).toList == (bs g).toList) = false := beq_eq_false_iff_ne.2 (fun e => hs (bs_inj (bs_ext_ e)))
      go_wp2_with fail
      go_ret
      exact ⟨by rw [← he.out]; simp [hs], hB3.out⟩
  · have hk' : ¬ (k : Int) = 5 := by omega
    go_wp2_with fail
    go_ret
    exact ⟨by rw [← he.out]; simp [hk], hB3.out⟩
end

section
open Go.RowKit Go.Maps

/-- A list with at most so many terms more. -/
def Ext (L L' : List Tm) (k : Nat) : Prop := ∃ r, L' = L ++ r ∧ r.length ≤ k
theorem Ext.refl (L : List Tm) : Ext L L 0 := ⟨[], by simp, by simp⟩
theorem Ext.trans {a b c : List Tm} {j k : Nat} (h : Ext a b j) (h2 : Ext b c k) : Ext a c (j + k) := by
  obtain ⟨r, rfl, hr⟩ := h
  obtain ⟨s, rfl, hs⟩ := h2
  exact ⟨r ++ s, by simp, by simp; omega⟩
theorem Ext.mono {a b : List Tm} {j k : Nat} (h : Ext a b j) (hjk : j ≤ k) : Ext a b k := by
  obtain ⟨r, e, hr⟩ := h
  exact ⟨r, e, by omega⟩
theorem Ext.of_grow {L L' : List Tm} {o : Option Tm} (h : Grow L L' o) : Ext L L' 1 := by
  rcases h with ⟨rfl, _⟩ | ⟨t, _, _, rfl⟩
  · exact ⟨[], by simp, by simp⟩
  · exact ⟨[t], rfl, by simp⟩
theorem Ext.len {L L' : List Tm} {k : Nat} (h : Ext L L' k) : L'.length ≤ L.length + k := by
  obtain ⟨r, rfl, hr⟩ := h
  simp; omega
theorem Nm.ext {L L' : List Tm} {x : Int} {o : Option Tm} {k : Nat} (h : Nm L x o) (e : Ext L L' k) : Nm L' x o := by
  obtain ⟨r, rfl, _⟩ := e
  exact h.app
theorem Nm.of_get {L : List Tm} {x : Int} {t : Tm} (h : get L x = some t) : Nm L x (some t) := ⟨h, fun e => by cases e⟩
/-- A term more, in at most so many steps. -/
def SP (w : World) (g : Nat) (W : World) (L : List Tm) (k : Nat) (o : Option Tm) (r : Ending) (W' : World) : Prop := ∃ L' x, r = .returned (.int .i64 x) ∧ St w g W' L' ∧ Ext L L' k ∧ Nm L' x o ∧ Stay W W' ∧ W.heap.size ≤ W'.heap.size
theorem SP.of_sr {w : World} {g : Nat} {W : World} {L : List Tm} {o : Option Tm} {r : Ending} {W' : World} (h : SR w g W L o r W') : SP w g W L 1 o r W' := by
  obtain ⟨L', x, e, hS, hG, hM, hY, hZ, -⟩ := h
  exact ⟨L', x, e, hS, .of_grow hG, hM, hY, hZ⟩
def offerT (g : List UInt8) (x : Option Tm) : Option Tm := expT (baseT g) x
def secretT (g : List UInt8) (s x : Option Tm) : Option Tm := if chkB g s then expT s x else none
def errT (o : Option Tm) : Int := match o with | none => 5 | some _ => 0
section
variable {w : World} {g : Nat} {W : World} {L : List Tm} (h : St w g W L)
include h
theorem St.view_none (x : Int) (hg : get L x = none) : Calls Tryz.prog 34 #[.pointer (some ⟨g, 0, none⟩), .int .i64 x] W fun r w' => r = .returned (.tuple #[.agg zNd.toArray, .bool false]) ∧ Below W.heap.size W w' := by
  obtain ⟨A, rfl, rfl, H, _⟩ := h; exact Go.Proofs.YtbeanjaenmpoeaaGreatDoor.view_none A _ W H x hg
theorem St.view_some (x : Int) (t : Tm) (hg : get L x = some t) : Calls Tryz.prog 34 #[.pointer (some ⟨g, 0, none⟩), .int .i64 x] W fun r w' => ∃ (Av : Option Addr) (c : Nat) (xs : List Nat), r = .returned (.tuple #[.agg (ndC t.kind t.a t.b t.s (.slice Av t.args.length c)).toArray, .bool true]) ∧ Rws w' 1 Av t.args.length (xs.map idv) ∧ xs.map (fun i => L[i]?) = t.args.map some ∧ Below W.heap.size W w' := by
  obtain ⟨A, rfl, rfl, H, _⟩ := h; exact Go.Proofs.YtbeanjaenmpoeaaGreatDoor.view_some A _ W H x t hg
theorem St.check (gs : List UInt8) (x : Int) :
    Calls Tryz.prog 20 #[.pointer (some ⟨g, 0, none⟩), .string (bs gs), .int .i64 x] W fun r w' => r = .returned (.int .i64 (if chkB gs (get L x) then 0 else 5)) ∧ Below W.heap.size W w' := by
  obtain ⟨A, rfl, rfl, H, _⟩ := h
  cases e : get A.L x with
  | none => exact check_none A _ W H gs x e
  | some t => exact check_some A _ W H gs x t e
theorem St.fresh (hL : L.length < 100) (s n : Int) : Calls Tryz.prog 24 #[.pointer (some ⟨g, 0, none⟩), .int .i64 s, .int .i64 n] W (SR w g W L (freshT s n)) :=
  h.put hL fun A h1 _ H hB hN => by subst h1; exact fresh_any A _ W H hB hN s n
theorem St.offer (hL : L.length < 99) (gs : List UInt8) (hs : gs.length ≤ 4000000000) (x : Int) (o : Option Tm) (hx : Nm L x o) :
    Calls Tryz.prog 22 #[.pointer (some ⟨g, 0, none⟩), .string (bs gs), .int .i64 x] W (SP w g W L 2 (offerT gs o)) := by
  have cB := Lib.hid (h.base (by omega) gs hs)
  have hx := Lib.hid hx
  clear h
  go_enter Tryz.func22, Tryz.ntmps22
  go_wp2_with (first
    | (go_at_call 48; refine cB.out.mono ?_; rintro r w1 ⟨L1, b, rfl, hS1, hG1, hM1, hY1, hz1, -⟩
       have cE := hS1.exp (by have := hG1.len.2; omega) b x
       rw [hM1.1, (hx.out.grow hG1).1] at cE
       have cE := Lib.hid cE
       have hE1 := Lib.hid (Ext.of_grow hG1)
       have hY1 := Lib.hid hY1
       clear hS1 hG1 hM1 cB)
    | (go_at_call 44; refine cE.out.mono ?_; rintro r w2 ⟨L2, y, rfl, hS2, hG2, hM2, hY2, hz2, -⟩))
  go_ret
  exact ⟨L2, y, rfl, hS2, hE1.out.trans (.of_grow hG2), hM2, hY1.out.trans hY2, Nat.le_trans hz1 hz2⟩
theorem St.secret (hL : L.length < 100) (gs : List UInt8) (y x : Int) (so o : Option Tm) (hy : Nm L y so) (hx : Nm L x o) :
    Calls Tryz.prog 18 #[.pointer (some ⟨g, 0, none⟩), .string (bs gs), .int .i64 y, .int .i64 x] W fun r w' => ∃ L' z, r = .returned (.tuple #[.int .i64 z, .int .i64 (errT (secretT gs so o))]) ∧ St w g w' L' ∧ Ext L L' 1 ∧ Nm L' z (secretT gs so o) ∧ Stay W w' ∧ W.heap.size ≤ w'.heap.size := by
  have cC := h.check gs y
  rw [hy.1] at cC
  by_cases hc : chkB gs so = true
  · have e : secretT gs so o = expT so o := by unfold secretT; rw [if_pos hc]
    rw [e]
    rw [if_pos hc] at cC
    have cE := fun (w1 : World) (hb : Below W.heap.size W w1) => (h.keep hb).exp hL y x
    rw [hy.1, hx.1] at cE
    have cE := Lib.hid cE
    have cC := Lib.hid cC
    clear h hc e
    go_enter Tryz.func18, Tryz.ntmps18
    go_upto_region 5 with (first
      | (go_at_call 20; refine cC.out.mono ?_; rintro r w1 ⟨rfl, hb⟩
         have cE1 := Lib.hid (cE.out w1 hb)
         have hY1 := Lib.hid (Stay.of_below hb)
         have hz1 := hb.size
         clear hb cE)
      | (go_at_call 44; refine cE1.out.mono ?_; rintro r w2 ⟨L2, z, rfl, hS2, hG2, hM2, hY2, hz2, -⟩))
    have hE := Lib.hid (Ext.of_grow hG2)
    have hS2 := Lib.hid hS2
    have hY := Lib.hid (hY1.out.trans hY2)
    have hz := Nat.le_trans hz1 hz2
    have hM3 := hM2
    clear hG2 hY1 hY2 hz1 hz2 cE1 cC
    cases hq : expT so o with
    | none =>
      rw [hq] at hM2
      obtain rfl := hM2.2 rfl
      have hM2 := Lib.hid hM2
      have hqh := Lib.hid hq
      clear hM3 hq
      go_wp2_with fail
      go_ret2
      rw [hqh.out]
      exact ⟨L2, -1, rfl, hS2.out, hE.out, hM2.out, hY.out, hz⟩
    | some t =>
      rw [hq] at hM2
      have hzn : (z == -1) = false := by
        rw [beq_eq_false_iff_ne]
        obtain ⟨i, e, _⟩ := get_some hM2.1
        omega
      have hzn2 : ¬ z = -1 := beq_eq_false_iff_ne.1 hzn
      have hM2 := Lib.hid hM2
      have hqh := Lib.hid hq
      clear hM3 hq
      go_wp2_with fail
      go_ret2
      rw [hqh.out]
      exact ⟨L2, z, rfl, hS2.out, hE.out, hM2.out, hY.out, hz⟩
  · have e : secretT gs so o = none := by unfold secretT; rw [if_neg hc]
    rw [e]
    rw [if_neg hc] at cC
    have hk := Lib.hid (fun (w1 : World) (hb : Below W.heap.size W w1) => h.keep hb)
    have cC := Lib.hid cC
    clear h hc e
    go_enter Tryz.func18, Tryz.ntmps18
    go_wp2_with (go_at_call 20; refine cC.out.mono ?_; rintro r w1 ⟨rfl, hb⟩)
    go_ret2
    exact ⟨L, -1, rfl, hk.out w1 hb, (Ext.refl L).mono (by decide), Nm.none_ L, Stay.of_below hb, hb.size⟩
end
end
end Go.Proofs.YtbeanjaenmpoeaaGreatDoor
