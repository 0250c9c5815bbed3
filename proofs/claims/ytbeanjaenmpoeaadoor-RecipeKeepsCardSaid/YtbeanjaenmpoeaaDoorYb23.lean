/- Texts joined: what each shows stands ahead of its theorems. -/
import Derived.Test.YtbeanjaenmpoeaaDoorYb22
import Derived.Test.YtbeanjaenmpoeaaDoorYb11
import Derived.Test.YtbeanjaenmpoeaaDoorYb15
namespace Go.Proofs.YtbeanjaenmpoeaaDoor
section
open Go.RowKit Go.Maps Go.ChangeShapes Go.WideShapes

def lastO (os : List (Option Tm)) : Option Tm := (os.getLast?).getD none
theorem lastO_snoc (os : List (Option Tm)) (o : Option Tm) : lastO (os ++ [o]) = o := by simp [lastO]
theorem lastO_at {os : List (Option Tm)} {m : Nat} (h : os.length = m + 1) : os[m]? = some (lastO os) := by
  unfold lastO
  rw [List.getLast?_eq_getElem?, h, Nat.add_sub_cancel]
  obtain ⟨o, ho⟩ : ∃ o, os[m]? = some o := ⟨os[m]'(by omega), List.getElem?_eq_getElem _⟩
  rw [ho]; rfl
/-- What Eval leaves. -/
def EvR (w0 W0 : World) (g : Nat) (L : List Tm) (known sent : List (Option Tm)) (ms : List Mk) (r : Ending) (W' : World) : Prop := ∃ x L', r = .returned (.int .i64 x) ∧ St w0 g W' L' ∧ (∃ e, L' = L ++ e) ∧ L'.length ≤ L.length + ms.length ∧ Nm L' x (lastO (recT known sent ms [])) ∧ Stay W0 W' ∧ W0.heap.size ≤ W'.heap.size
set_option maxRecDepth 100000 in
set_option maxHeartbeats 4000000 in
theorem eval_any {w0 W0 : World} {g : Nat} {L0 : List Tm} {kA sA A : Option Addr} {kn kc sn sc n c : Nat} {lk ls : List Int} {known sent : List (Option Tm)} (ms : List Mk) (hS : St w0 g W0 L0) (hL : L0.length + n ≤ 100) (hn : n ≤ 64) (hs : ∀ x ∈ ms, x.s.length ≤ 200) (hM : ∀ W, Below w0.heap.size w0 W → Stay W0 W → Rws W 5 A n (ms.map Mk.row))
    (hk : IdsT W0 kA kn lk) (hsn : IdsT W0 sA sn ls) (hkn : kn ≤ 1000) (hsn2 : sn ≤ 1000) (nk : NmL L0 lk known) (ns : NmL L0 ls sent) :
    Calls Tryd.prog 57 #[.pointer (some ⟨g, 0, none⟩), .slice kA kn kc, .slice sA sn sc, .slice A n c] W0 (EvR w0 W0 g L0 known sent ms) := by
  have hml : ms.length = n := by have := (hM W0 hS.below (Stay.refl _)).1; simpa using this
  have hrl : (recT known sent ms []).length = n := by rw [recT_len]; simpa using hml
  have cA := all_any (c := c) (kc := kc) (sc := sc) ms hS hL hn hs hM hk hsn hkn hsn2 nk ns
  unfold AllR at cA
  unfold EvR
  generalize recT known sent ms [] = os at *
  replace cA := Lib.hid cA
  have hrlh := Lib.hid hrl
  clear hS hL hs hM hk hsn hkn hsn2 nk ns hml hrl
  go_enter Tryd.func57, Tryd.ntmps57
  go_upto_region 2 with (go_at_call 41; refine cA.out.mono ?_; rintro r w1 ⟨vM, l, L', rfl, hS', hE, hl, hO, hN, hY, hz⟩
                         obtain ⟨A', c', rfl, hI⟩ := hO.ints
                         obtain ⟨m, hm⟩ : ∃ m, l.length = m := ⟨_, rfl⟩
                         rw [hm] at hI
                         rw [hm]
                         have hm2 := Lib.hid (hN.len.symm.trans hm)
                         have hI := Lib.hid hI
                         have hp := Lib.hid (And.intro hS' (And.intro hE (And.intro hl (And.intro hN (And.intro hY hz)))))
                         clear hS' hE hl hO hN hY hz hm)
  cases m with
  | zero =>
    go_wp2_with fail
    go_ret
    refine ⟨-1, L', rfl, hp.out.1, hp.out.2.1, hp.out.2.2.1, ?_, hp.out.2.2.2.2.1, hp.out.2.2.2.2.2⟩
    have h0 : os = [] := List.length_eq_zero_iff.1 hm2.out
    rw [h0]
    exact Nm.none_ _
  | succ m =>
    obtain ⟨b, off, x, rfl, hb, hx, hc⟩ := hI.out.at_ (show m < m + 1 by omega)
    have hxh := Lib.hid hx
    have hmn : m < 1000 := by have := hm2.out; have := hrlh.out; omega
    clear hI hx
    go_wp2_with fail
    go_ret
    refine ⟨x, L', rfl, hp.out.1, hp.out.2.1, hp.out.2.2.1, ?_, hp.out.2.2.2.2.1, hp.out.2.2.2.2.2⟩
    exact hp.out.2.2.2.1.nm m x _ hxh.out (lastO_at hm2.out)
theorem eval_long {kA sA : Option Addr} {kn kc sn sc g : Nat} {A : Option Addr} {n c : Nat} (w : World) (hn : n ≤ 9223372036854775807) (h : ¬ n ≤ 64) : Calls Tryd.prog 57 #[.pointer (some ⟨g, 0, none⟩), .slice kA kn kc, .slice sA sn sc, .slice A n c] w fun r w' => r = .returned (.int .i64 (-1)) ∧ w = w' := by
  have cA := Lib.hid (all_long (kA := kA) (sA := sA) (kn := kn) (kc := kc) (sn := sn) (sc := sc) (g := g) (A := A) (c := c) w hn h)
  clear h
  go_enter Tryd.func57, Tryd.ntmps57
  go_wp2_with (go_at_call 41; refine cA.out.mono ?_; rintro r w1 ⟨rfl, rfl⟩)
  go_ret
  exact ⟨rfl, rfl⟩
set_option maxRecDepth 100000 in
set_option maxHeartbeats 2000000 in
theorem few14_any (L : List Mk) (A : Option Addr) (n c : Nat) (w : World) (hn : n ≤ 9223372036854775807) (H : Rws w 5 A n (L.map Mk.row)) :
    Calls Tryd.prog 35 #[.slice A n c] w fun r w' => r = .returned (.bool (fewB L 70)) ∧ w = w' := by
  have hl : L.length = n := by have := H.1; simpa using this
  by_cases hm : (70 : Int) < (n : Int)
  · have e := Lib.hid (show fewB L 70 = false by
      rw [Bool.eq_false_iff]; intro h; have := (fewB_iff.1 h).1; omega)
    clear hl H
    go_enter Tryd.func35, Tryd.ntmps35
    go_wp2_with fail
    go_ret
    exact ⟨ret_bool e.out.symm, rfl⟩
  have h0 : Hid (∀ x ∈ L.take 0, x.s.length ≤ 200) := by intro x hx; simp at hx
  have hlh := Lib.hid hl
  have Hh := Lib.hid H
  clear hl H
  go_enter Tryd.func35, Tryd.ntmps35
  go_wp2_with fail
  go_loopw [3] (fun iv wr => ∃ j : Nat, j ≤ n ∧ iv = .int .i64 j ∧ Hid (∀ x ∈ L.take j, x.s.length ≤ 200) ∧ wr = w) (fun iv _ => n - (intOf iv).toNat)
  case atStart => exact ⟨0, by omega, rfl, h0, rfl⟩
  case round =>
    clear h0
    obtain ⟨j, hj, rfl, hp, rfl⟩ := hrel
    by_cases hlt : j < n
    · obtain ⟨b, off, z, rfl, hb, hz, _, hr⟩ := Hh.out.row hlt
      rw [List.getElem?_map] at hz
      obtain ⟨x, hx⟩ : ∃ x, L[j]? = some x := ⟨L[j]'(by have := hlh.out; omega), List.getElem?_eq_getElem (by have := hlh.out; omega)⟩
      rw [hx] at hz
      have hz : x.row = z := Option.some.inj hz
      subst hz
      have hc := hr 4 _ rfl
      have hzs := bs_size x.s
      have htk := take_succ_of hx
      have hmem := List.mem_of_getElem? hx
      generalize bs x.s = y at *
      by_cases h2 : 200 < x.s.length
      · have e := Lib.hid (show fewB L 70 = false by
          rw [Bool.eq_false_iff]; intro h; have := (fewB_iff.1 h).2 x hmem; omega)
        have hy : 200 < y.size := by omega
        clear hr hx htk hmem hzs
        go_wp2_with fail
        go_ret
        exact ⟨ret_bool e.out.symm, rfl⟩
      · have hy : ¬ 200 < y.size := by omega
        have hnext : Hid (∀ z ∈ L.take (j + 1), z.s.length ≤ 200) := by
          intro z hz
          rw [htk] at hz
          rcases List.mem_append.1 hz with hz | hz
          · exact hp.out z hz
          · obtain rfl := List.mem_singleton.1 hz; omega
        clear hr hx htk hmem hzs
        go_wp2_with fail
        go_roundw
        case rel => exact ⟨j + 1, by omega, by go_num, hnext, (by first | rfl | trivial)⟩
        case measure => simp [intOf]; omega
    · have e := Lib.hid (show fewB L 70 = true by
        rw [fewB_iff]
        refine ⟨by have := hlh.out; omega, ?_⟩
        have := hp.out
        rwa [List.take_of_length_le (by have := hlh.out; omega)] at this)
      clear hp
      go_wp2_with fail
      go_ret
      exact ⟨ret_bool e.out.symm, rfl⟩
def basedB (L : List Mk) : Bool := L.any fun x => x.k == 4
set_option maxRecDepth 100000 in
set_option maxHeartbeats 2000000 in
theorem based_any (L : List Mk) (A : Option Addr) (n c : Nat) (w : World) (hn : n ≤ 9223372036854775807) (H : Rws w 5 A n (L.map Mk.row)) :
    Calls Tryd.prog 42 #[.slice A n c] w fun r w' => r = .returned (.bool (basedB L)) ∧ w = w' := by
  have hl : L.length = n := by have := H.1; simpa using this
  have h0 : Hid (basedB (L.take 0) = false) := rfl
  have hlh := Lib.hid hl
  have Hh := Lib.hid H
  clear hl H
  go_enter Tryd.func42, Tryd.ntmps42
  go_wp2_with fail
  go_loopw [3] (fun iv wr => ∃ j : Nat, j ≤ n ∧ iv = .int .i64 j ∧ Hid (basedB (L.take j) = false) ∧ wr = w) (fun iv _ => n - (intOf iv).toNat)
  case atStart => exact ⟨0, by omega, rfl, h0, rfl⟩
  case round =>
    clear h0
    obtain ⟨j, hj, rfl, hp, rfl⟩ := hrel
    by_cases hlt : j < n
    · obtain ⟨b, off, z, rfl, hb, hz, _, hr⟩ := Hh.out.row hlt
      rw [List.getElem?_map] at hz
      obtain ⟨x, hx⟩ : ∃ x, L[j]? = some x := ⟨L[j]'(by have := hlh.out; omega), List.getElem?_eq_getElem (by have := hlh.out; omega)⟩
      rw [hx] at hz
      have hz : x.row = z := Option.some.inj hz
      subst hz
      have hc : wr.cell? ⟨b, off + j * 5, none⟩ = some (.int .i64 x.k) := hr 0 _ rfl
      have hany := any_take_succ (fun x : Mk => x.k == 4) hx
      have hmem := any_hit (fun x : Mk => x.k == 4) hx
      by_cases h2 : x.k = 4
      · have e := Lib.hid (show basedB L = true from hmem (by simpa using h2))
        have hxk : (x.k == 4) = true := by simpa using h2
        clear hr hx hany hmem h2
        go_wp2_with fail
        go_ret
        exact ⟨ret_bool e.out.symm, rfl⟩
      · have hxk : (x.k == 4) = false := by simpa using h2
        have hnext : Hid (basedB (L.take (j + 1)) = false) := by
          have := hp.out
          unfold basedB at this ⊢
          show (L.take (j + 1)).any _ = false
          rw [hany, this, hxk]
          rfl
        clear hr hx hany hmem h2
        go_wp2_with fail
        go_roundw
        case rel => exact ⟨j + 1, by omega, by go_num, hnext, (by first | rfl | trivial)⟩
        case measure => simp [intOf]; omega
    · have e := Lib.hid (show basedB L = false by
        have := hp.out
        rwa [List.take_of_length_le (by have := hlh.out; omega)] at this)
      clear hp
      go_wp2_with fail
      go_ret
      exact ⟨ret_bool e.out.symm, rfl⟩
theorem op_flat : flatDesc Tryd.prog 3 81 = some mkDs := by kernel_rfl
set_option maxRecDepth 100000 in
theorem open_ops {H : Type} {enc : TypeId × Value → H} {w : World} {base : Nat} {spare : Nat → Bool} {held : Bool} {r : Reach} {b0 : Nat} {v : Value} {d : DataW H} {ps : List MemPlace}
    (hv : Value.okWide Tryd.prog w r b0 74 v) (h : DataW.Trod enc Tryd.prog w base spare held 74 v d ps) :
    ∃ (A : Option Addr) (n c : Nat) (L : List Mk), v = .slice A n c ∧ n ≤ 9223372036854775807 ∧ Rws w 5 A n (L.map Mk.row) ∧ n ≤ c ∧ c ≤ 9223372036854775807 := by
  obtain ⟨a, len, cap, rfl⟩ := okWide_slice Tryd.underlying74 hv
  obtain ⟨fuel, hf⟩ := h
  obtain ⟨A, n, c, zs, hcs, hl, hm, hr, hok⟩ := open_rows Tryd.underlying74 op_flat (by kernel_rfl) (by decide) hf
  obtain ⟨L, rfl⟩ := mks_of_rows zs hok
  have : Value.slice a len cap = .slice A n c := by simpa [Value.cells] using hcs
  unfold maxLen at hm
  exact ⟨A, n, c, L, this, by omega, hr, hl, by omega⟩
end

section
open Go.RowKit Go.Maps

theorem ta_len : ta.len = 6 := by rw [ta, len_mk (.inl ⟨rfl, rfl, rfl, rfl, by decide⟩)]; simp [own, lens]
def th : Tm := .mk 7 0 0 [] [ta]
theorem th_eq : hashT (some ta) = some th := by
  have h := ta_len
  simp [hashT, mkO, alls, own, lens, th, h]
def opsA : List Mk := [⟨0, 0, 0, 0, [97]⟩, ⟨8, 0, 0, 0, []⟩]
theorem opsA_last : lastO (recT [] [] opsA []) = some th := by
  have e1 : stepT [] [] [] ⟨0, 0, 0, 0, [97]⟩ = some ta := by simp [stepT, sel, ta_eq]
  have e2 : stepT [] [] [some ta] ⟨8, 0, 0, 0, []⟩ = some th := by simp [stepT, sel, pkO, th_eq]
  simp [opsA, recT, e1, e2, lastO]
theorem op_info : (Tryd.prog.info? 81).map (fun i => (i.zero, i.size, i.bytes)) = some (some (.agg #[.int .i64 0, .int .i64 0, .int .i64 0, .int .i64 0, .string ⟨#[]⟩]), 5, 48) := by kernel_rfl
theorem opA_built : Tryd.prog.built 81 [(0, .int .i64 0), (4, .string ⟨#[97]⟩)] = some (Mk.row ⟨0, 0, 0, 0, [97]⟩).toArray := by kernel_rfl
theorem opB_built : Tryd.prog.built 81 [(0, .int .i64 8)] = some (Mk.row ⟨8, 0, 0, 0, []⟩).toArray := by kernel_rfl
theorem ev14 {w w1 : World} {g : Nat} (hS0 : St w g w1 []) : Calls Tryd.prog 57 #[.pointer (some ⟨g, 0, none⟩), .slice none 0 0, .slice none 0 0, .slice (some ⟨w1.heap.size, 0, none⟩) 2 2] (w1.alloc (.cells (opsA.map Mk.row).flatten.toArray 81)) fun r w' => ∃ (x : Int) (L' : List Tm), r = .returned (.int .i64 x) ∧ St w g w' L' ∧ L'.length ≤ 2 ∧ Nm L' x (some th) := by
  have hS1 := hS0.keep (below_new w1 (.cells (opsA.map Mk.row).flatten.toArray 81))
  have hM : ∀ W, Below w.heap.size w W → Stay (w1.alloc (.cells (opsA.map Mk.row).flatten.toArray 81)) W → Rws W 5 (some ⟨w1.heap.size, 0, none⟩) 2 (opsA.map Mk.row) := fun W _ hs => by
    have hc := hs _ _ _ _ (heap_new w1 (.cells (opsA.map Mk.row).flatten.toArray 81)) (by decide) (by decide) (by decide)
    exact Rws.block (k := 5) (zs := opsA.map Mk.row) (t := 81) (fr := (0, 0)) (fun z hz => by
      obtain ⟨x, _, rfl⟩ := List.mem_map.1 hz
      rfl) hc (Array.getElem?_eq_some_iff.1 hc).1
  have h := eval_any (c := 2) (kc := 0) (sc := 0) opsA hS1 (by decide) (by decide) (by simp [opsA]) hM (IdsT.nil_ (A := none)) (IdsT.nil_ (A := none)) (by decide) (by decide) (NmL.nil_ []) (NmL.nil_ [])
  unfold EvR at h
  rw [opsA_last] at h
  refine h.mono fun r w' ⟨x, L', h1, h2, _, h3, h4, _⟩ => ⟨x, L', h1, h2, ?_, h4⟩
  simpa [opsA] using h3
set_option maxRecDepth 100000 in
set_option maxHeartbeats 4000000 in
theorem awake14 (w : World) : Calls Tryd.prog 36 #[] w fun r w' => r = .returned (.bool true) ∧ Below w.heap.size w w' := by
  obtain ⟨j0, hj0, hj1, hj2, hj3⟩ := info_parts op_info
  have cN := Lib.hid (tnew_any w)
  go_enter Tryd.func36, Tryd.ntmps36
  go_upto_region 2 with (go_at_call 12; refine cN.out.mono ?_; rintro r w1 ⟨A, rfl, hN, hA, hb⟩
                         have hS0 := St.start hN hA hb
                         have cE := Lib.hid (ev14 hS0)
                         clear hN hA hb cN hS0
                         generalize A.g = g at *)
  go_upto_region 3 with (first
    | (refine wpList_build_as 81 _ rfl rfl (Mk.row ⟨0, 0, 0, 0, [97]⟩).toArray ?_ ?_; exact opA_built)
    | (refine wpList_build_as 81 _ rfl rfl (Mk.row ⟨8, 0, 0, 0, []⟩).toArray ?_ ?_; exact opB_built)
    | (refine wpList_buildSlice_as 74 81 2 _ rfl rfl j0 _ (opsA.map Mk.row).flatten.toArray Tryd.underlying74 hj0 hj1 (by rw [hj2]; decide) (by rw [hj2]; decide) (by rw [hj2]; kernel_rfl) ?_)
    | (go_at_call 57; refine cE.out.mono ?_; rintro r w2 ⟨x, L1, rfl, hS2, hl, hM2⟩
       obtain ⟨j, rfl, hj⟩ := get_some hM2.1
       have cD := Lib.hid (hS2.data (by omega) [97] (by decide))
       have hl2 := Lib.hid hl
       have hM2 := Lib.hid hM2
       have hq : ((j : Int) == -1) = false := by rw [beq_eq_false_iff_ne]; omega
       clear hS2 hl cE hj))
  go_wp2_with (first
    | (go_at_call 13; refine cD.out.mono ?_; rintro r w3 ⟨L2, z1, rfl, hS3, hG, hM3, -, -⟩
       have cH := hS3.hash (by have := hG.len; have := hl2.out; omega) z1
       rw [hM3.1, ta_eq, th_eq] at cH
       replace cH := Lib.hid cH
       have hM4 := Lib.hid (hM2.out.grow hG)
       have hl3 := Lib.hid (show L2.length ≤ 3 by have := hG.len; have := hl2.out; omega)
       clear hS3 hG hM3)
    | (go_at_call 27; refine cH.out.mono ?_; rintro r w4 ⟨L3, z2, rfl, hS4, hG, hM5, -, -⟩
       have hM6 := hM4.out.grow hG
       obtain rfl : z2 = (j : Int) := (Nm.inj hS4.good.once hM5 hM6).2 rfl
       have cK := hS4.kind (j : Int)
       rw [hM6.1] at cK
       replace cK := Lib.hid (show Calls Tryd.prog 29 #[.pointer (some ⟨g, 0, none⟩), .int .i64 j] w4 fun r w' => r = .returned (.int .i64 7) ∧ w4 = w' from cK)
       have hBz := Lib.hid hS4.below
       clear hS4 hG hM5 hM6 cH)
    | (go_at_call 29; refine cK.out.mono ?_; rintro r w5 ⟨rfl, rfl⟩))
  go_ret
  exact ⟨rfl, hBz.out⟩
end

section
/-- Known numbers, with what they name. -/
def Kn (L : List Tm) (ks : List (Int × Option Tm)) : Prop := ∀ k ∈ ks, Nm L k.1 k.2
theorem Kn.nil_ (L : List Tm) : Kn L [] := fun _ h => by cases h
theorem Kn.ext {L L' : List Tm} {ks : List (Int × Option Tm)} {k : Nat} (h : Kn L ks) (e : Ext L L' k) : Kn L' ks := fun x hx => (h x hx).ext e
theorem Kn.add {L : List Tm} {ks : List (Int × Option Tm)} (h : Kn L ks) {z : Int} {o : Option Tm} (hz : Nm L z o) : Kn L ((z, o) :: ks) := fun x hx => by
  rcases List.mem_cons.1 hx with rfl | hx
  · exact hz
  · exact h x hx
theorem Kn.beq {L : List Tm} {ks : List (Int × Option Tm)} (h : Kn L ks) (hn : L.Nodup) {x y : Int} {o p : Option Tm} (hx : (x, o) ∈ ks) (hy : (y, p) ∈ ks) {b : Prop} [Decidable b] (hb : o = p ↔ b) : (x == y) = decide b := by
  have := (Nm.inj hn (h _ hx) (h _ hy)).trans hb
  rw [Bool.eq_iff_iff]
  simpa using this
def nT (a b : Nat) : Tm := .mk 2 (a + 1) b [] []
theorem nT_inj {a b c d : Nat} : nT a b = nT c d ↔ a = c ∧ b = d := by
  unfold nT
  constructor
  · intro h; injection h with _ h1 h2; exact ⟨by omega, h2⟩
  · rintro ⟨rfl, rfl⟩; rfl
theorem freshT_eq {a b : Nat} (ha : a ≤ 65535) (hb : b ≤ 65535) : freshT a b = some (nT a b) := by
  unfold freshT
  rw [if_pos ⟨by omega, by omega⟩]
  unfold nonceT
  rw [if_pos ⟨by unfold numOk; omega, by unfold numOk; omega⟩]
  have h1 : ((a : Int) + 1).toNat = a + 1 := by omega
  rw [h1, Int.toNat_natCast]
  simp [mkO, alls, own, lens, nT]
theorem nT_ok {a b : Nat} (ha : a ≤ 65535) (hb : b ≤ 65535) : (nT a b).ok ∧ (nT a b).kind = 2 := by
  have h := freshT_eq ha hb
  unfold freshT at h
  rw [if_pos ⟨by omega, by omega⟩] at h
  exact nonceT_kind h
/-- A share of a group with these exponents. -/
def shT (g : List UInt8) (xs : List Tm) : Tm := .mk 5 0 0 g (insAll [] xs)
theorem shT_eq {g : List UInt8} (h1 : 1 ≤ g.length) (h2 : g.length ≤ 2100) {xs : List Tm} (hx : ∀ t ∈ xs, t.ok ∧ t.kind = 2) (hn : xs.length ≤ 8) : exps (baseT g) (xs.map some) = some (shT g xs) := by
  have hb : baseT g = some (.mk 5 0 0 g []) := by
    unfold baseT
    rw [if_pos ⟨h1, h2⟩]
    have : own 5 g.length = 9 + g.length := rfl
    simp [mkO, alls, lens, this]
    omega
  rw [hb, exps_some h2 xs [] hx (by simp) (by simpa using hn)]
  rfl
theorem offer_eq {g : List UInt8} (h1 : 1 ≤ g.length) (h2 : g.length ≤ 2100) {x : Tm} (hx : x.ok ∧ x.kind = 2) : offerT g (some x) = some (shT g [x]) := by
  have := shT_eq h1 h2 (xs := [x]) (by simpa using hx) (by simp)
  exact this
theorem secret_eq {g : List UInt8} (h1 : 1 ≤ g.length) (h2 : g.length ≤ 2100) {x y : Tm} (hx : x.ok ∧ x.kind = 2) (hy : y.ok ∧ y.kind = 2) : secretT g (some (shT g [x])) (some y) = some (shT g [x, y]) := by
  have hc : chkB g (some (shT g [x])) = true := by simp [chkB, shT, insAll, ins, Tm.kind, Tm.s, Tm.args]
  unfold secretT
  rw [if_pos hc]
  have h := shT_eq h1 h2 (xs := [x, y]) (by simpa using ⟨hx, hy⟩) (by simp)
  have e : exps (baseT g) ([x, y].map some) = expT (exps (baseT g) ([x].map some)) (some y) := rfl
  rw [e, shT_eq h1 h2 (xs := [x]) (by simpa using hx) (by simp)] at h
  exact h
theorem secret_other {g o : List UInt8} {x : Tm} {y : Option Tm} (h : o ≠ g) : secretT g (some (shT o [x])) y = none := by
  have hc : ¬ chkB g (some (shT o [x])) = true := by simp [chkB, shT, Tm.kind, Tm.s, Tm.args, h]
  unfold secretT
  rw [if_neg hc]
theorem shT_same {g o : List UInt8} {x y z : Tm} (hx : x.ok ∧ x.kind = 2) (hy : y.ok ∧ y.kind = 2) (hz : z.ok ∧ z.kind = 2) : shT g [x, y] = shT o [x, z] ↔ g = o ∧ y = z := by
  constructor
  · intro h
    unfold shT at h
    injection h with _ _ _ h1 h2
    have p1 := insAll_perm [x, y] []
    have p2 := insAll_perm [x, z] []
    rw [h2] at p1
    have p := p1.symm.trans p2
    simp only [List.cons_append, List.nil_append, List.append_nil] at p
    have := (List.perm_cons x).1 p
    exact ⟨h1, by simpa using this⟩
  · rintro ⟨rfl, rfl⟩; rfl
theorem shT_swap {g : List UInt8} {x y : Tm} (hx : x.ok ∧ x.kind = 2) (hy : y.ok ∧ y.kind = 2) : shT g [x, y] = shT g [y, x] := by
  unfold shT
  have p : (insAll [] [x, y]).Perm (insAll [] [y, x]) := by
    have p1 := insAll_perm [x, y] []
    have p2 := insAll_perm [y, x] []
    simp only [List.cons_append, List.nil_append] at p1 p2
    exact p1.trans ((List.Perm.swap y x []).trans p2.symm)
  have hm : ∀ (l : List Tm), (∀ t ∈ l, t.ok ∧ t.kind = 2) → ∀ t ∈ insAll [] l, t.ok ∧ t.kind = 2 := fun l hl t ht => by
    have := (insAll_perm l []).mem_iff.1 ht
    exact hl t (by simpa using this)
  rw [sorted_same (hm _ (by simpa using ⟨hx, hy⟩)) (hm _ (by simpa using ⟨hy, hx⟩)) (insAll_sorted _ List.Pairwise.nil) (insAll_sorted _ List.Pairwise.nil) p]
end
end Go.Proofs.YtbeanjaenmpoeaaDoor
