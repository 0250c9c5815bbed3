/- Shares: Fresh, Check. -/
import Derived.Test.YtbeanjaenmpoeaaDoorTmV
import Derived.Test.YtbeanjaenmpoeaaDoorTmR
import Derived.WalkMore
namespace Go.Proofs.YtbeanjaenmpoeaaDoor
open Go.RowKit Go.Maps

def freshT (s n : Int) : Option Tm := if 0 ≤ s ∧ s < 2147483647 then nonceT (s + 1) n else none
theorem fresh_any (A : Ar) (B : Nat) (w : World) (H : Arena w B A) (hB : B ≤ w.heap.size) (hN : A.N.length < 100) (s n : Int) :
    Calls Tryd.prog 23 #[.pointer (some ⟨A.g, 0, none⟩), .int .i64 s, .int .i64 n] w (PutR w B A (freshT s n)) := by
  by_cases h : 0 ≤ s ∧ s < 2147483647
  · have e : freshT s n = nonceT (s + 1) n := by unfold freshT; rw [if_pos h]
    rw [e]
    have cN := Lib.hid (nonce_any A B w H hB hN (s + 1) n)
    obtain ⟨h1, h2⟩ := h
    clear H e
    go_enter Tryd.func23, Tryd.ntmps23
    go_wp2_with (go_at_call 18; refine cN.out.mono ?_; rintro r w1 ⟨A', x, rfl, hG, hM⟩)
    go_ret
    exact ⟨A', x, rfl, hG, hM⟩
  · have e : freshT s n = none := by unfold freshT; rw [if_neg h]
    have hR := Lib.hid (PutR.none_ H (Below.refl _ _) e)
    by_cases h1 : s < 0
    · clear H e h
      go_enter Tryd.func23, Tryd.ntmps23
      go_wp2_with fail
      go_ret
      exact hR.out
    · have h2 : 2147483647 ≤ s := by omega
      clear H e h
      go_enter Tryd.func23, Tryd.ntmps23
      go_wp2_with fail
      go_ret
      exact hR.out
/-- May a share be? -/
def chkB (g : List UInt8) (o : Option Tm) : Bool := match o with
  | some t => t.kind == 5 && t.s == g && decide (1 ≤ t.args.length) && decide (t.args.length < 8)
  | none => false
def zN5 : Array Value := #[.int .i64 0, .int .i64 0, .int .i64 0, .string ⟨#[]⟩, .slice none 0 0]
/-- The world behind a struct's copy into a block of its own. -/
def cpW (w : World) (cs : Array Value) : World := (w.alloc (.cells #[.int .i64 0, .int .i64 0, .int .i64 0, .string ⟨#[]⟩, .slice none 0 0] 59)).setRow w.heap.size cs
theorem cpW_row (w : World) (cs : Array Value) : (cpW w cs).heap[w.heap.size]? = some (.cells cs 59 (0, 0)) := hsetRow _ _ _ _ _ _ (heap_new w _)
theorem cpW_below (w : World) (cs : Array Value) : Below w.heap.size w (cpW w cs) := below_setRow (below_new w _) (Nat.le_refl _) _
theorem bs_ext_ {x y : ByteArray} (h : x.toList = y.toList) : x = y := by
  rw [ByteArray.toList_eq, ByteArray.toList_eq] at h
  cases x; cases y
  simp only [ByteArray.mk.injEq]
  exact Array.toList_inj.1 h
set_option maxRecDepth 100000 in
set_option maxHeartbeats 2000000 in
theorem check_none (A : Ar) (B : Nat) (w : World) (H : Arena w B A) (g : List UInt8) (x : Int) (hg : get A.L x = none) :
    Calls Tryd.prog 55 #[.pointer (some ⟨A.g, 0, none⟩), .string (bs g), .int .i64 x] w fun r w' => r = .returned (.int .i64 5) ∧ Below w.heap.size w w' := by
  have cV := Lib.hid (view_none A B w H x hg)
  clear H hg
  go_enter Tryd.func55, Tryd.ntmps55
  go_upto_region 2 with (first
    | (go_at_call 28; refine cV.out.mono ?_; rintro r w1 ⟨rfl, hb⟩
       have hz1 := Lib.hid (heap_new w1 (.cells #[.int .i64 0, .int .i64 0, .int .i64 0, .string ⟨#[]⟩, .slice none 0 0] 59))
       have hB2 := Lib.hid (hb.trans ((cpW_below w1 zNd.toArray).mono hb.size))
       clear hb)
    | (refine wpList_store_at 59 _ _ rfl rfl w1.heap.size zNd.toArray rfl rfl 59 #[.int .i64 0, .int .i64 0, .int .i64 0, .string ⟨#[]⟩, .slice none 0 0] hz1.out (by kernel_rfl) rfl zNd_one ?_))
  have hB2 : Below w.heap.size w ((w1.alloc (.cells #[.int .i64 0, .int .i64 0, .int .i64 0, .string ⟨#[]⟩, .slice none 0 0] 59)).setRow w1.heap.size zNd.toArray) := hB2.out
  generalize (w1.alloc (.cells #[.int .i64 0, .int .i64 0, .int .i64 0, .string ⟨#[]⟩, .slice none 0 0] 59)).setRow w1.heap.size zNd.toArray = w2 at *
  have hB2 := Lib.hid hB2
  go_wp2_with fail
  go_ret
  exact ⟨rfl, hB2.out⟩
set_option maxRecDepth 100000 in
set_option maxHeartbeats 2000000 in
theorem check_some (A : Ar) (B : Nat) (w : World) (H : Arena w B A) (g : List UInt8) (x : Int) (t : Tm) (hg : get A.L x = some t) :
    Calls Tryd.prog 55 #[.pointer (some ⟨A.g, 0, none⟩), .string (bs g), .int .i64 x] w fun r w' => r = .returned (.int .i64 (if chkB g (some t) then 0 else 5)) ∧ Below w.heap.size w w' := by
  have cV := Lib.hid (view_some A B w H x t hg)
  have hal : t.args.length ≤ 1000000 := by
    have hok := H.good.ok t (get_mem hg)
    obtain ⟨k, a, b, s, args⟩ := t
    rw [ok_mk] at hok
    have := hok.1
    unfold okHd at this
    simp only [Tm.args]
    omega
  obtain ⟨k, a, b, s, args⟩ := t
  simp only [Tm.args] at hal
  have hchk : chkB g (some (.mk k a b s args)) = (k == 5 && s == g && decide (1 ≤ args.length) && decide (args.length < 8)) := rfl
  rw [hchk]
  clear hchk
  obtain ⟨e, he⟩ : ∃ e : Int, (if (k == 5 && s == g && decide (1 ≤ args.length) && decide (args.length < 8)) = true then (0 : Int) else 5) = e := ⟨_, rfl⟩
  rw [he]
  have he := Lib.hid he
  clear H hg
  go_enter Tryd.func55, Tryd.ntmps55
  go_upto_region 2 with (first
    | (go_at_call 28; refine cV.out.mono ?_; rintro r w1 ⟨Av, c, xs, rfl, _, _, hb⟩
       have hz1 := Lib.hid (heap_new w1 (.cells #[.int .i64 0, .int .i64 0, .int .i64 0, .string ⟨#[]⟩, .slice none 0 0] 59))
       have hB2 := Lib.hid (hb.trans ((cpW_below w1 (ndC k a b s (.slice Av args.length c)).toArray).mono hb.size))
       have hr2 := Lib.hid (cpW_row w1 (ndC k a b s (.slice Av args.length c)).toArray)
       clear hb)
    | (refine wpList_store_at 59 _ _ rfl rfl w1.heap.size (ndC k a b s (.slice Av args.length c)).toArray rfl rfl 59 #[.int .i64 0, .int .i64 0, .int .i64 0, .string ⟨#[]⟩, .slice none 0 0] hz1.out (by kernel_rfl) rfl nd_all ?_))
  have hr : ((w1.alloc (.cells #[.int .i64 0, .int .i64 0, .int .i64 0, .string ⟨#[]⟩, .slice none 0 0] 59)).setRow w1.heap.size (ndC k a b s (.slice Av args.length c)).toArray).heap[w1.heap.size]? = some (.cells (ndC k a b s (.slice Av args.length c)).toArray 59 (0, 0)) := hr2.out
  have hB3 : Below w.heap.size w ((w1.alloc (.cells #[.int .i64 0, .int .i64 0, .int .i64 0, .string ⟨#[]⟩, .slice none 0 0] 59)).setRow w1.heap.size (ndC k a b s (.slice Av args.length c)).toArray) := hB2.out
  clear hr2 hz1 cV
  generalize (w1.alloc (.cells #[.int .i64 0, .int .i64 0, .int .i64 0, .string ⟨#[]⟩, .slice none 0 0] 59)).setRow w1.heap.size (ndC k a b s (.slice Av args.length c)).toArray = w2 at *
  have d0 : w2.cell? ⟨w1.heap.size, 0, none⟩ = some (.int .i64 k) := cell_of_row w2 w1.heap.size 0 _ _ _ hr
  have d3 : w2.cell? ⟨w1.heap.size, 3, none⟩ = some (.string (bs s)) := cell_of_row w2 w1.heap.size 3 _ _ _ hr
  have d4 : w2.cell? ⟨w1.heap.size, 4, none⟩ = some (.slice Av args.length c) := cell_of_row w2 w1.heap.size 4 _ _ _ hr
  have hB3 := Lib.hid hB3
  clear hr hB2
  by_cases hk : k = 5
  · subst hk
    by_cases hs : s = g
    · subst hs
      by_cases h1 : 1 ≤ args.length
      · by_cases h8 : args.length < 8
        · have h1' : ¬ args.length < 1 := by omega
          have h8' : ¬ 8 ≤ args.length := by omega
          go_wp2_with fail
          go_ret
          exact ⟨by rw [← he.out]; simp [h1, h8], hB3.out⟩
        · have h8' : 8 ≤ args.length := by omega
          have h1' : ¬ args.length < 1 := by omega
          go_wp2_with fail
          go_ret
          exact ⟨by rw [← he.out]; simp [h8], hB3.out⟩
      · have h0 : args.length < 1 := by omega
        go_wp2_with fail
        go_ret
        exact ⟨by rw [← he.out]; simp [h1], hB3.out⟩
    · have hs' : ((bs s).toList == (bs g).toList) = false := beq_eq_false_iff_ne.2 (fun e => hs (bs_inj (bs_ext_ e)))
      go_wp2_with fail
      go_ret
      exact ⟨by rw [← he.out]; simp [hs], hB3.out⟩
  · have hk' : ¬ (k : Int) = 5 := by omega
    go_wp2_with fail
    go_ret
    exact ⟨by rw [← he.out]; simp [hk], hB3.out⟩
end Go.Proofs.YtbeanjaenmpoeaaDoor
