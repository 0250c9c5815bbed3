/- Texts joined: what each shows stands ahead of its theorems. -/
import Derived.Test.YtmicohmbmgbnkaaGreatDoorWb35
import Derived.Test.YtmicohmbmgbnkaaGreatDoorWb28
namespace Go.Proofs.YtmicohmbmgbnkaaGreatDoor
section
open Go Go.RowKit Go.Shelf
open Go.Lib (itoa)

def wishO (vs : List PV) : Nat × Nat × Nat := match (vs[25]? : Option PV) with | some (PV.wish a b c) => (a, b, c) | _ => (0, 0, 0)
theorem wishO_ok {vs : List PV} (hok : OkVs keyT vs) : (wishO vs).1 < 4294967296 ∧ (wishO vs).2.1 < 4294967296 ∧ (wishO vs).2.2 < 4294967296 := by
  have hl := hok.len
  have hv : vs[25]? = some (vs[25]'(by rw [hl]; decide)) := List.getElem?_eq_getElem _
  have ho := hok.at (i := 25) rfl hv
  unfold wishO
  rw [hv]
  generalize vs[25]'(by rw [hl]; decide) = v at *
  cases v <;> first | exact absurd ho id | exact ho
theorem wishO_at {vs : List PV} (hok : OkVs keyT vs) : vs[25]? = some (.wish (wishO vs).1 (wishO vs).2.1 (wishO vs).2.2) := by
  have hl := hok.len
  have hv : vs[25]? = some (vs[25]'(by rw [hl]; decide)) := List.getElem?_eq_getElem _
  have ho := hok.at (i := 25) rfl hv
  unfold wishO
  rw [hv]
  generalize vs[25]'(by rw [hl]; decide) = v at *
  cases v <;> first | exact absurd ho id | rfl
theorem StC.put {W W' : World} {kd : Int} {vs : List PV} {cs z : List Value} {j off : Nat} {kg : List UInt8 × Tag} {pv : PV} (h : StC W kd vs cs) (hok : OkVs keyT vs) (hb : Below W.heap.size W W') (hk : keyT[j]? = some kg) (ho : offT[j]? = some off) (hz : PVal W' pv z) (hzl : z.length = widthT kg.2) (hz1 : ∀ x ∈ z, x.oneCell' = true) : StC W' kd (vs.set j pv) (setAt cs off z) := by
  obtain ⟨o1, o2, o3⟩ := off_at hk ho
  have hl := h.len
  refine ⟨by rw [setAt_len, hl], by rw [setAt_off _ _ _ _ (.inl (by omega))]; exact h.kind, fun i off' v h1 h2 => ?_, one_arr (setAt_one _ _ _ (one_list h.one) hz1)⟩
  by_cases e : j = i
  · subst e
    rw [ho] at h2
    injection h2 with h2
    subst h2
    have hi : j < vs.length := by have := (List.getElem?_eq_some_iff.1 h1).1; rwa [List.length_set] at this
    rw [List.getElem?_set_self hi] at h1
    injection h1 with h1
    subst h1
    exact ⟨z, hz, fun q x hx => setAt_at z cs off q x (by omega) hx⟩
  · rw [List.getElem?_set_ne e] at h1
    obtain ⟨z', hz', hc'⟩ := h.val i off' v h1 h2
    refine ⟨z', hz'.keep hb, fun q x hx => ?_⟩
    obtain ⟨kg', hkg'⟩ : ∃ kg', keyT[i]? = some kg' := ⟨_, List.getElem?_eq_getElem (by have := hok.len; have := (List.getElem?_eq_some_iff.1 h1).1; omega)⟩
    have hzl' := PValG.len (hok.at hkg' h1) hz'
    have hq := (List.getElem?_eq_some_iff.1 hx).1
    rw [setAt_off _ _ _ _ (by have := o3 i off' kg' hkg' h2 e; omega)]
    exact hc' q x hx
end

section
open Go Go.RowKit Go.Shelf

def erO : Array Value := #[.int .i64 6, .string ⟨#[111, 112, 115, 32]⟩]
theorem erO_one : erO.all (·.oneCell') = true := by decide +kernel
set_option maxRecDepth 100000 in
set_option maxHeartbeats 8000000 in
theorem rline_bad (cs : List Value) (k : Int) (vs : List PV) (w : World) (hS : StC w k vs cs) (hty : TyVs keyT vs) (hbad : ∃ o ∈ opsOf vs, ¬ okK o) (hk : 0 ≤ k ∧ k < 9) :
    Calls Tryz.prog 20 #[.agg cs.toArray] w fun r w' => r = .returned (.tuple #[.string ⟨#[]⟩, .agg erO]) ∧ Below w.heap.size w w' := by
  obtain ⟨l, hl3, hol, hty3⟩ := hty.ops
  obtain ⟨z, ⟨v, rfl, A, c, rfl, h1, h2, hr⟩, hz⟩ := hS.val 3 27 _ hl3 rfl
  rw [List.length_map] at hr h1 hz
  obtain ⟨n, hn⟩ : ∃ n, l.length = n := ⟨_, rfl⟩
  rw [hn] at hr h1 hz
  have h27 := hz 0 _ rfl
  have hB1 := below_new w (.cells cs.toArray 44)
  have hb : Blk (w.alloc (.cells cs.toArray 44)) w.heap.size cs := heap_new w _
  have hB2 := below_new (w.alloc (.cells cs.toArray 44)) (.cells erZ 53)
  have hg2 := heap_new (w.alloc (.cells cs.toArray 44)) (.cells erZ 53)
  simp only [World.size_alloc] at hg2
  obtain ⟨W2, hW2⟩ : ∃ x, (w.alloc (.cells cs.toArray 44)).alloc (.cells erZ 53) = x := ⟨_, rfl⟩
  have hB := hB1.trans (hB2.mono hB1.size)
  have hblk := (hB2.block w.heap.size (Array.getElem?_eq_some_iff.1 hb).1).trans hb
  rw [hW2] at hB hg2 hblk
  have hc0 : W2.cell? ⟨w.heap.size, 0, none⟩ = some (.int .i64 k) := Blk.cell hblk hS.kind
  have hlt1 := (Array.getElem?_eq_some_iff.1 hblk).1
  have hlt2 := (Array.getElem?_eq_some_iff.1 hg2).1
  have hc27 := Lib.hid (fun W' (h : Below W2.heap.size W2 W') => (h.cell (p := ⟨w.heap.size, 27, none⟩) hlt1).trans (Blk.cell hblk h27))
  have hrK := Lib.hid (hr.keep hB)
  have hnh := Lib.hid hn
  rw [hol] at hbad
  replace hbad := Lib.hid hbad
  have hz27 := hc27.out W2 (Below.refl _ _)
  clear hz hr h27 hb hB1 hB2 hn hol hty3
  have hk1 : ¬ k < 0 := by omega
  have hk2 : ¬ 8 < k := by omega
  replace hB := Lib.hid hB
  replace hg2 := Lib.hid hg2
  replace hblk := Lib.hid hblk
  go_enter Tryz.func20, Tryz.ntmps20
  go_upto_region 1 with (first
    | (refine wpList_box_row 44 _ rfl rfl cs.toArray rfl ?_)
    | (refine wpList_alloc_row 53 rfl rfl erZ er_zero ?_; try simp only [World.size_alloc]))
  rw [hW2]
  clear hW2
  go_wp2_with fail
  have h0' : Hid (∀ (j : Nat) o, j < 0 → l[j]? = some o → okK o) := Lib.hid (fun j o h => absurd h (Nat.not_lt_zero _))
  go_loopw [4] (fun jv wr => ∃ i : Nat, i ≤ n ∧ jv = .int .i64 i ∧ Hid (∀ (j : Nat) o, j < i → l[j]? = some o → okK o) ∧ Hid (wr = W2)) (fun jv _ => n - (intOf jv).toNat)
  case atStart => exact ⟨0, Nat.zero_le _, rfl, h0', Lib.hid rfl⟩
  case round =>
    clear h0'
    obtain ⟨i, hi, rfl, hN, hwr⟩ := hrel
    obtain rfl := hwr.out
    by_cases hlt : i < n
    · have hlt' : (i : Int) < (n : Int) := by omega
      obtain ⟨b2, off2, z2, rfl, hb2, hz2, _, hr2⟩ := Rws.row hrK.out hlt
      obtain ⟨o, ho, rfl⟩ := map_at hz2
      have hok1 : okK o → ∀ (j : Nat) o', j < i + 1 → l[j]? = some o' → okK o' := fun hk j o' hj h => by
        by_cases e : j = i
        · rw [e, ho] at h; injection h with h; rw [← h]; exact hk
        · exact hN.out j o' (by omega) h
      have hck : wr.cell? ⟨b2, off2 + i * 5, none⟩ = some (.int .i64 o.kind) := hr2 0 _ rfl
      unfold okK at hok1
      obtain ⟨kk, xa, xb, xc, us⟩ := o
      dsimp only at hck hok1
      have hbe := hg2.out
      clear hz2 ho hr2
      by_cases hk0 : kk < 0
      · clear hok1
        go_wp2_with (first
          | (refine wpList_build_as 53 _ rfl rfl erO (by kernel_rfl) ?_)
          | (refine wpList_store_at 53 _ _ rfl rfl (w.heap.size + 1) erO rfl rfl 53 erZ hbe (by kernel_rfl) rfl erO_one ?_))
        refine bodyPost_ret (results_tmp_cell rfl _ _ (w.heap.size + 1) 53 erO (0, 0) _ (.string ⟨#[]⟩) rfl (hsetRow _ _ _ _ _ _ hbe) Tryz.underlying53 rfl (by kernel_rfl) rfl) rfl ⟨rfl, below_setRow hB.out (Nat.le_succ _) _⟩
      · by_cases hk9 : 14 < kk
        · clear hok1
          go_wp2_with (first
            | (refine wpList_build_as 53 _ rfl rfl erO (by kernel_rfl) ?_)
            | (refine wpList_store_at 53 _ _ rfl rfl (w.heap.size + 1) erO rfl rfl 53 erZ hbe (by kernel_rfl) rfl erO_one ?_))
          refine bodyPost_ret (results_tmp_cell rfl _ _ (w.heap.size + 1) 53 erO (0, 0) _ (.string ⟨#[]⟩) rfl (hsetRow _ _ _ _ _ _ hbe) Tryz.underlying53 rfl (by kernel_rfl) rfl) rfl ⟨rfl, below_setRow hB.out (Nat.le_succ _) _⟩
        · replace hok1 := Lib.hid (hok1 ⟨by omega, by omega⟩)
          go_wp2_with fail
          go_roundw
          case rel => exact ⟨i + 1, by omega, by go_num, hok1, trivial⟩
          case measure => simp [intOf]; omega
    · obtain rfl : i = n := by omega
      obtain ⟨o, ho, hno⟩ := hbad.out
      obtain ⟨q, hq, he⟩ := List.getElem_of_mem ho
      exact absurd (hN.out q o (by have := hnh.out; omega) (by rw [List.getElem?_eq_getElem hq, he])) hno
end
end Go.Proofs.YtmicohmbmgbnkaaGreatDoor
