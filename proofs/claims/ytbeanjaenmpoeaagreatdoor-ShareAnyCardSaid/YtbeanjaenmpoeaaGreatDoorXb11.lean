/- Texts joined: what each shows stands ahead of its theorems. -/
import Derived.Test.YtbeanjaenmpoeaaGreatDoorXb7
import Derived.Test.YtbeanjaenmpoeaaGreatDoorXb10
import Derived.Test.YtbeanjaenmpoeaaGreatDoorXb9
import Derived.Deep.RegionHeld3
import Derived.Test.YtbeanjaenmpoeaaGreatDoorXb2
import Derived.Test.YtbeanjaenmpoeaaGreatDoorXb6
import Derived.Test.YtbeanjaenmpoeaaGreatDoorXb0
import Derived.OpenShut
import Derived.WideShapes
import Derived.Maps.AppendAt
namespace Go.Proofs.YtbeanjaenmpoeaaGreatDoor
section
open Go.RowKit Go.Maps

theorem base_small (g : List UInt8) : (encO (baseT g)).length ≤ 131072 := by
  by_cases h : txtOk g 2100
  · rw [encO_baseT h]
    unfold fitsL
    split
    · assumption
    · simp
  · have : baseT g = none := by unfold baseT; rw [if_neg h]
    rw [this]; simp [encO]
theorem rFresh_any (s n : Int) (w : World) : Calls Tryz.prog 25 #[.int .i64 s, .int .i64 n] w (TxR w (encO (freshT s n))) := by
  have hBr := Below.refl w.heap.size w
  by_cases h0 : s < 0
  · have e : freshT s n = none := by unfold freshT; rw [if_neg (by omega)]
    rw [e]
    clear e
    go_enter Tryz.func25, Tryz.ntmps25
    go_wp2_with fail
    go_ret
    exact ⟨rfl, hBr⟩
  by_cases h1 : 2147483647 ≤ s
  · have e : freshT s n = none := by unfold freshT; rw [if_neg (by omega)]
    rw [e]
    clear e
    go_enter Tryz.func25, Tryz.ntmps25
    go_wp2_with fail
    go_ret
    exact ⟨rfl, hBr⟩
  · have e : freshT s n = nonceT (s + 1) n := by unfold freshT; rw [if_pos (by omega)]
    rw [e]
    have cN := rNonce_any (s + 1) n w
    unfold TxR at cN ⊢
    replace cN := Lib.hid cN
    clear e hBr
    go_enter Tryz.func25, Tryz.ntmps25
    go_wp2_with (go_at_call 51; refine cN.out.mono ?_; rintro r w1 ⟨rfl, hb⟩)
    go_ret
    exact ⟨rfl, hb⟩
theorem rOffer_any (g : List UInt8) (o : Option Tm) (hg : g.length ≤ 4000000000) (ho : okO o) (hl : (encO o).length ≤ 131072) (w : World) :
    Calls Tryz.prog 23 #[.string (bs g), .string (bs (encO o))] w (TxR w (encO (offerT g o))) := by
  have cB := rBase_any g w hg
  have cE := fun W => rExp_any (baseT g) o (baseT_ok g) ho (base_small g) hl W
  unfold offerT
  unfold TxR at cB cE ⊢
  replace cB := Lib.hid cB
  replace cE := Lib.hid cE
  clear ho hl hg
  generalize bs g = yg at *
  generalize bs (encO o) = yo at *
  generalize bs (encO (baseT g)) = yb at *
  go_enter Tryz.func23, Tryz.ntmps23
  go_wp2_with (first
    | (go_at_call 49; refine cB.out.mono ?_; rintro r w1 ⟨rfl, hb1⟩)
    | (go_at_call 45; refine (cE.out _).mono ?_; rintro r w2 ⟨rfl, hb2⟩))
  go_ret
  exact ⟨rfl, hb1.trans (hb2.mono hb1.size)⟩
set_option maxRecDepth 100000 in
set_option maxHeartbeats 4000000 in
theorem rRight19_any (g : List UInt8) (o : Option Tm) (ho : okO o) (hl : (encO o).length ≤ 131072) (w : World) :
    Calls Tryz.prog 21 #[.string (bs g), .string (bs (encO o))] w fun r w' => r = .returned (.bool (chkB g o)) ∧ Below w.heap.size w w' := by
  have cK := rKind_any o ho (by omega) w
  have hBr := Below.refl w.heap.size w
  by_cases h5 : kindO o = 5
  · cases o with
    | none => cases h5
    | some t =>
      have h5' : t.kind = 5 := h5
      have cV := rView_any t (ho t rfl) (by show (encO (some t)).length ≤ _; omega) w
      rw [h5] at cK
      rw [h5'] at cV
      replace cK := Lib.hid cK
      replace cV := Lib.hid cV
      have hres : ∀ e1 e2 e3 : Bool, (e1 = true ↔ t.s = g) → (e2 = true ↔ 1 ≤ t.args.length) → (e3 = true ↔ t.args.length ≤ 7) → chkB g (some t) = (e1 && e2 && e3) := fun e1 e2 e3 h1 h2 h3 => by
        unfold chkB
        rw [Bool.eq_iff_iff]
        simp only [Bool.and_eq_true, beq_iff_eq, decide_eq_true_eq, h1, h2, h3, h5', true_and]
        constructor <;> (rintro ⟨⟨a, b⟩, c⟩; exact ⟨⟨a, b⟩, by omega⟩)
      obtain ⟨e1, q1, i1⟩ : ∃ e1 : Bool, ((bs t.s).toList == (bs g).toList) = e1 ∧ (e1 = true ↔ t.s = g) := ⟨_, rfl, by rw [bs_toList', bs_toList']; simp⟩
      obtain ⟨e2, q2, i2⟩ : ∃ e2 : Bool, decide ((1 : Int) ≤ (t.args.length : Int)) = e2 ∧ (e2 = true ↔ 1 ≤ t.args.length) := ⟨_, rfl, by rw [decide_eq_true_eq]; omega⟩
      obtain ⟨e3, q3, i3⟩ : ∃ e3 : Bool, decide ((t.args.length : Int) ≤ (7 : Int)) = e3 ∧ (e3 = true ↔ t.args.length ≤ 7) := ⟨_, rfl, by rw [decide_eq_true_eq]; omega⟩
      rw [hres e1 e2 e3 i1 i2 i3]
      change Calls Tryz.prog 21 #[.string (bs g), .string (bs t.enc)] w _
      replace cK : Hid (Calls Tryz.prog 46 #[.string (bs t.enc)] w fun r w' => r = .returned (.int .i64 5) ∧ w = w') := cK
      clear ho hl hBr h5 h5' hres i1 i2 i3
      generalize bs t.enc = yt at *
      generalize bs g = yg at *
      have hys : ∃ ys, bs t.s = ys := ⟨_, rfl⟩
      go_enter Tryz.func21, Tryz.ntmps21
      go_upto_region 4 with (first
        | (go_at_call 46; refine cK.out.mono ?_; rintro r w1 ⟨rfl, rfl⟩)
        | (go_at_call 47; refine cV.out.mono ?_; rintro r w2 ⟨A, c, rfl, -, hb⟩
           have z1 := Lib.hid (heap_new w2 (.cells rz 91))
           have hb2 := Lib.hid (hb.trans (Below.mono (below_setRow (below_new w2 (.cells rz 91)) (Nat.le_refl _) (rnC (5 : Nat) t.a t.b t.s (.slice A t.args.length c)).toArray) hb.size))
           clear hb)
        | (refine wpList_alloc_row 91 rfl rfl rz rn_zero ?_; try simp only [World.size_alloc])
        | (refine wpList_store_at 91 _ _ rfl rfl w2.heap.size (rnC (5 : Nat) t.a t.b t.s (.slice A t.args.length c)).toArray rfl rfl 91 rz z1.out (rn_info rfl) rfl rn_all ?_))
      have hr := hsetRow _ _ _ (rnC (5 : Nat) t.a t.b t.s (.slice A t.args.length c)).toArray _ _ z1.out
      have hb2 : Below w.heap.size w ((w2.alloc (.cells rz 91)).setRow w2.heap.size (rnC (5 : Nat) t.a t.b t.s (.slice A t.args.length c)).toArray) := hb2.out
      generalize ((w2.alloc (.cells rz 91)).setRow w2.heap.size (rnC (5 : Nat) t.a t.b t.s (.slice A t.args.length c)).toArray) = w3 at *
      generalize w2.heap.size = p2 at *
      have d3 : w3.cell? ⟨p2, 3, none⟩ = some (.string (bs t.s)) := cell_of_row w3 p2 3 _ _ _ hr
      have d4 : w3.cell? ⟨p2, 4, none⟩ = some (.slice A t.args.length c) := cell_of_row w3 p2 4 _ _ _ hr
      replace hb2 := Lib.hid hb2
      clear hr z1 hys
      generalize bs t.s = ys at *
      generalize t.args.length = la at *
      cases e1 <;> cases e2 <;> cases e3 <;> ( go_wp2_with fail ; go_ret ; exact ⟨rfl, hb2.out⟩ )
  · have e : chkB g o = false := by
      cases o with
      | none => rfl
      | some t =>
        have h5 : t.kind ≠ 5 := h5
        simp [chkB, h5]
    rw [e]
    have hk : ((kindO o : Int) == 5) = false := by rw [beq_eq_false_iff_ne]; omega
    replace cK := Lib.hid cK
    clear ho hl e h5
    generalize bs (encO o) = yo at *
    generalize kindO o = ko at *
    go_enter Tryz.func21, Tryz.ntmps21
    go_wp2_with (go_at_call 46; refine cK.out.mono ?_; rintro r w1 ⟨rfl, rfl⟩)
    go_ret
    exact ⟨rfl, hBr⟩
theorem rSecret_any (g : List UInt8) (so o : Option Tm) (hs : okO so) (hsl : (encO so).length ≤ 131072) (ho : okO o) (hl : (encO o).length ≤ 131072) (w : World) :
    Calls Tryz.prog 19 #[.string (bs g), .string (bs (encO so)), .string (bs (encO o))] w (TxR w (encO (secretT g so o))) := by
  have cR := rRight19_any g so hs hsl w
  have cE := fun W => rExp_any so o hs ho hsl hl W
  unfold secretT
  unfold TxR at cE ⊢
  cases hc : chkB g so with
  | false =>
    rw [hc] at cR
    rw [if_neg (by decide)]
    replace cR := Lib.hid cR
    clear hs hsl ho hl hc cE
    generalize bs (encO so) = ys at *
    generalize bs (encO o) = yo at *
    go_enter Tryz.func19, Tryz.ntmps19
    go_wp2_with (go_at_call 21; refine cR.out.mono ?_; rintro r w1 ⟨rfl, hb⟩)
    go_ret
    exact ⟨rfl, hb⟩
  | true =>
    rw [hc] at cR
    rw [if_pos rfl]
    replace cR := Lib.hid cR
    replace cE := Lib.hid cE
    clear hs hsl ho hl hc
    generalize bs (encO so) = ys at *
    generalize bs (encO o) = yo at *
    go_enter Tryz.func19, Tryz.ntmps19
    go_wp2_with (first
      | (go_at_call 21; refine cR.out.mono ?_; rintro r w1 ⟨rfl, hb⟩)
      | (go_at_call 45; refine (cE.out _).mono ?_; rintro r w2 ⟨rfl, hb2⟩))
    go_ret
    exact ⟨rfl, hb.trans (hb2.mono hb.size)⟩
end

section
/-- Known numbers, with what they name. -/
def Kn (L : List Tm) (ks : List (Int × Option Tm)) : Prop := ∀ k ∈ ks, Nm L k.1 k.2
theorem Kn.nil_ (L : List Tm) : Kn L [] := fun _ h => by cases h
theorem Kn.ext {L L' : List Tm} {ks : List (Int × Option Tm)} {k : Nat} (h : Kn L ks) (e : Ext L L' k) : Kn L' ks := fun x hx => (h x hx).ext e
theorem Kn.add {L : List Tm} {ks : List (Int × Option Tm)} (h : Kn L ks) {z : Int} {o : Option Tm} (hz : Nm L z o) : Kn L ((z, o) :: ks) := fun x hx => by
  rcases List.mem_cons.1 hx with rfl | hx
  · exact hz
  · exact h x hx
theorem Kn.beq {L : List Tm} {ks : List (Int × Option Tm)} (h : Kn L ks) (hn : L.Nodup) {x y : Int} {o p : Option Tm} (hx : (x, o) ∈ ks) (hy : (y, p) ∈ ks) {b : Prop} [Decidable b] (hb : o = p ↔ b) : (x == y) = decide b := by
  have := (Nm.inj hn (h _ hx) (h _ hy)).trans hb
  rw [Bool.eq_iff_iff]
  simpa using this
def nT (a b : Nat) : Tm := .mk 2 (a + 1) b [] []
theorem nT_inj {a b c d : Nat} : nT a b = nT c d ↔ a = c ∧ b = d := by
  unfold nT
  constructor
  · intro h; injection h with _ h1 h2; exact ⟨by omega, h2⟩
  · rintro ⟨rfl, rfl⟩; rfl
theorem freshT_eq {a b : Nat} (ha : a ≤ 65535) (hb : b ≤ 65535) : freshT a b = some (nT a b) := by
  unfold freshT
  rw [if_pos ⟨by omega, by omega⟩]
  unfold nonceT
  rw [if_pos ⟨by unfold numOk; omega, by unfold numOk; omega⟩]
  have h1 : ((a : Int) + 1).toNat = a + 1 := by omega
  rw [h1, Int.toNat_natCast]
  simp [mkO, alls, own, lens, nT]
theorem nT_ok {a b : Nat} (ha : a ≤ 65535) (hb : b ≤ 65535) : (nT a b).ok ∧ (nT a b).kind = 2 := by
  have h := freshT_eq ha hb
  unfold freshT at h
  rw [if_pos ⟨by omega, by omega⟩] at h
  exact nonceT_kind h
/-- A share of a group with these exponents. -/
def shT (g : List UInt8) (xs : List Tm) : Tm := .mk 5 0 0 g (insAll [] xs)
theorem shT_eq {g : List UInt8} (h1 : 1 ≤ g.length) (h2 : g.length ≤ 2100) {xs : List Tm} (hx : ∀ t ∈ xs, t.ok ∧ t.kind = 2) (hn : xs.length ≤ 8) : exps (baseT g) (xs.map some) = some (shT g xs) := by
  have hb : baseT g = some (.mk 5 0 0 g []) := by
    unfold baseT
    rw [if_pos ⟨h1, h2⟩]
    have : own 5 g.length = 9 + g.length := rfl
    simp [mkO, alls, lens, this]
    omega
  rw [hb, exps_some h2 xs [] hx (by simp) (by simpa using hn)]
  rfl
theorem offer_eq {g : List UInt8} (h1 : 1 ≤ g.length) (h2 : g.length ≤ 2100) {x : Tm} (hx : x.ok ∧ x.kind = 2) : offerT g (some x) = some (shT g [x]) := by
  have := shT_eq h1 h2 (xs := [x]) (by simpa using hx) (by simp)
  exact this
theorem secret_eq {g : List UInt8} (h1 : 1 ≤ g.length) (h2 : g.length ≤ 2100) {x y : Tm} (hx : x.ok ∧ x.kind = 2) (hy : y.ok ∧ y.kind = 2) : secretT g (some (shT g [x])) (some y) = some (shT g [x, y]) := by
  have hc : chkB g (some (shT g [x])) = true := by simp [chkB, shT, insAll, ins, Tm.kind, Tm.s, Tm.args]
  unfold secretT
  rw [if_pos hc]
  have h := shT_eq h1 h2 (xs := [x, y]) (by simpa using ⟨hx, hy⟩) (by simp)
  have e : exps (baseT g) ([x, y].map some) = expT (exps (baseT g) ([x].map some)) (some y) := rfl
  rw [e, shT_eq h1 h2 (xs := [x]) (by simpa using hx) (by simp)] at h
  exact h
theorem secret_other {g o : List UInt8} {x : Tm} {y : Option Tm} (h : o ≠ g) : secretT g (some (shT o [x])) y = none := by
  have hc : ¬ chkB g (some (shT o [x])) = true := by simp [chkB, shT, Tm.kind, Tm.s, Tm.args, h]
  unfold secretT
  rw [if_neg hc]
theorem shT_same {g o : List UInt8} {x y z : Tm} (hx : x.ok ∧ x.kind = 2) (hy : y.ok ∧ y.kind = 2) (hz : z.ok ∧ z.kind = 2) : shT g [x, y] = shT o [x, z] ↔ g = o ∧ y = z := by
  constructor
  · intro h
    unfold shT at h
    injection h with _ _ _ h1 h2
    have p1 := insAll_perm [x, y] []
    have p2 := insAll_perm [x, z] []
    rw [h2] at p1
    have p := p1.symm.trans p2
    simp only [List.cons_append, List.nil_append, List.append_nil] at p
    have := (List.perm_cons x).1 p
    exact ⟨h1, by simpa using this⟩
  · rintro ⟨rfl, rfl⟩; rfl
theorem shT_swap {g : List UInt8} {x y : Tm} (hx : x.ok ∧ x.kind = 2) (hy : y.ok ∧ y.kind = 2) : shT g [x, y] = shT g [y, x] := by
  unfold shT
  have p : (insAll [] [x, y]).Perm (insAll [] [y, x]) := by
    have p1 := insAll_perm [x, y] []
    have p2 := insAll_perm [y, x] []
    simp only [List.cons_append, List.nil_append] at p1 p2
    exact p1.trans ((List.Perm.swap y x []).trans p2.symm)
  have hm : ∀ (l : List Tm), (∀ t ∈ l, t.ok ∧ t.kind = 2) → ∀ t ∈ insAll [] l, t.ok ∧ t.kind = 2 := fun l hl t ht => by
    have := (insAll_perm l []).mem_iff.1 ht
    exact hl t (by simpa using this)
  rw [sorted_same (hm _ (by simpa using ⟨hx, hy⟩)) (hm _ (by simpa using ⟨hy, hx⟩)) (insAll_sorted _ List.Pairwise.nil) (insAll_sorted _ List.Pairwise.nil) p]
end

section
open Go.RowKit Go.Maps

def gL : List UInt8 := [103]
set_option maxRecDepth 100000 in
set_option maxHeartbeats 4000000 in
theorem awake19 (w : World) : Calls Tryz.prog 17 #[] w fun r w' => r = .returned (.bool true) ∧ Below w.heap.size w w' := by
  have cN := Lib.hid (tnew_any w)
  have h_nx := nT_ok (a := 0) (b := 0) (by decide) (by decide)
  have h_ny := nT_ok (a := 1) (b := 0) (by decide) (by decide)
  have efx : freshT 0 0 = some (nT 0 0) := freshT_eq (a := 0) (b := 0) (by decide) (by decide)
  have efy : freshT 1 0 = some (nT 1 0) := freshT_eq (a := 1) (b := 0) (by decide) (by decide)
  have hxy : nT 0 0 ≠ nT 1 0 := fun e => by simp [nT_inj] at e
  generalize nT 0 0 = nx at *
  generalize nT 1 0 = ny at *
  have hG1 : 1 ≤ gL.length := by decide
  have hG2 : gL.length ≤ 2100 := by decide
  have o1 := Lib.hid (offer_eq hG1 hG2 h_ny)
  have o2 := Lib.hid (offer_eq hG1 hG2 h_nx)
  have s1 := Lib.hid (secret_eq hG1 hG2 h_ny h_nx)
  have s2 := secret_eq hG1 hG2 h_nx h_ny
  rw [← shT_swap h_ny h_nx] at s2
  have s2 := Lib.hid s2
  have hxy := Lib.hid hxy
  have hk5 := Lib.hid (show kindO (some (shT gL [ny, nx])) = 5 from rfl)
  generalize hsh : shT gL [ny, nx] = sh at s1 s2 hk5
  have efx := Lib.hid efx
  have efy := Lib.hid efy
  clear h_nx h_ny hsh
  go_enter Tryz.func17, Tryz.ntmps17
  go_upto_region 3 with (first
    | (go_at_call 8; refine cN.out.mono ?_; rintro r w1 ⟨A, rfl, hN, hA, hb⟩
       have hS0 := St.start hN hA hb
       have cF1 := hS0.fresh (by decide) 0 0
       rw [efx.out] at cF1
       have cF1h := Lib.hid cF1
       clear hN hA hb cN hS0 cF1
       generalize A.g = g at *)
    | (go_at_call 24; (with_reducible refine cF1h.out.mono ?_); rintro r w2 ⟨L1, x, rfl, hS1, hG, hM, -, -⟩
       have hl1 := hG.len.2
       have cF2 := hS1.fresh (by simp at hl1; omega) 1 0
       rw [efy.out] at cF2
       have cF2h := Lib.hid cF2
       have hK1 := Lib.hid ((Kn.nil_ L1).add hM)
       have hl1 := Lib.hid (show L1.length ≤ 1 by simpa using hl1)
       clear hS1 hG hM cF2)
    | (go_at_call 24; (with_reducible refine cF2h.out.mono ?_); rintro r w3 ⟨L2, y, rfl, hS2, hG, hM, -, -⟩
       have hK := Lib.hid ((hK1.out.ext (.of_grow hG)).add hM)
       have hl := Lib.hid (show L2.length ≤ 2 by have := hG.len.2; have := hl1.out; omega)
       have hS := Lib.hid hS2
       clear hG hM hS2))
  clear hK1 hl1 cF1h cF2h efx efy
  have cO := hS.out.offer (by have := hl.out; omega) gL (by omega) y _ (hK.out (y, some ny) (by simp))
  rw [o1.out] at cO
  have cO := Lib.hid cO
  go_upto_region 4 with (first
    | (go_at_call 22; refine cO.out.mono ?_; rintro r wo ⟨Lo, zo, rfl, hSo, hEo, hMo, -, -⟩
       have hKo := Lib.hid (hK.out.ext hEo)
       have cS := hSo.secret (by have := hEo.len; have := hl.out; omega) gL zo x _ _ hMo (hKo.out (x, some nx) (by simp))
       rw [s1.out] at cS
       have cSh := Lib.hid cS
       have hlo := Lib.hid (show Lo.length ≤ 2 + 2 by have := hEo.len; have := hl.out; omega)
       clear hSo hEo hMo cS)
    | (go_at_call 18; refine cSh.out.mono ?_; rintro r wz ⟨Lz, z1, rfl, hSz, hEz, hMz, -, -⟩
       have hKz := Lib.hid ((hKo.out.ext hEz).add hMz)
       have hlz := Lib.hid (show Lz.length ≤ 2 + 3 by have := hEz.len; have := hlo.out; omega)
       have hSz := Lib.hid hSz
       clear hEz hMz))
  clear hK hl hS hlo hKo cO cSh
  have hK := hKz
  have hl := hlz
  have hS := hSz
  clear hKz hlz hSz
  have cO := hS.out.offer (by have := hl.out; omega) gL (by omega) x _ (hK.out (x, some nx) (by simp))
  rw [o2.out] at cO
  have cO := Lib.hid cO
  go_upto_region 5 with (first
    | (go_at_call 22; refine cO.out.mono ?_; rintro r wo ⟨Lo, zo, rfl, hSo, hEo, hMo, -, -⟩
       have hKo := Lib.hid (hK.out.ext hEo)
       have cS := hSo.secret (by have := hEo.len; have := hl.out; omega) gL zo y _ _ hMo (hKo.out (y, some ny) (by simp))
       rw [s2.out] at cS
       have cSh := Lib.hid cS
       have hlo := Lib.hid (show Lo.length ≤ 5 + 2 by have := hEo.len; have := hl.out; omega)
       clear hSo hEo hMo cS)
    | (go_at_call 18; refine cSh.out.mono ?_; rintro r wz ⟨Lz, z2, rfl, hSz, hEz, hMz, -, -⟩
       have hKz := Lib.hid ((hKo.out.ext hEz).add hMz)
       have hlz := Lib.hid (show Lz.length ≤ 5 + 3 by have := hEz.len; have := hlo.out; omega)
       have hSz := Lib.hid hSz
       clear hEz hMz))
  clear hK hl hS hlo hKo cO cSh
  have hK := hKz
  have hl := hlz
  have hS := hSz
  clear hKz hlz hSz
  have q1 : (z1 == z2) = true := (hK.out.beq hS.out.good.once (o := some sh) (p := some sh) (b := True) (by simp) (by simp) (by simp)).trans (by simp)
  have q2 : (x == y) = false := (hK.out.beq hS.out.good.once (o := some nx) (p := some ny) (b := False) (by simp) (by simp) (by simpa using hxy.out)).trans (by simp)
  have q3 : z1 = z2 := by simpa using q1
  have q4 : ¬ x = y := by simpa using q2
  have q5 : (x != y) = true := by simp [bne, q2]
  have cK := hS.out.kind z1
  rw [(hK.out (z1, some sh) (by simp)).1, hk5.out] at cK
  have cK := Lib.hid cK
  have hBf := Lib.hid hS.out.below
  subst q3
  clear hK hl hS q1
  go_wp2_with (go_at_call 43; refine cK.out.mono ?_; rintro r w9 ⟨rfl, rfl⟩)
  go_ret
  exact ⟨rfl, hBf.out⟩
end

section
open Go.RowKit

/-- Terms that were made: their numbers l, and the terms os. -/
def madeV (A B : Option Addr) (n c d : Nat) : List Value := [.slice A n c, .slice B n d]
structure MadeW (w : World) (A B : Option Addr) (n : Nat) (l : List Int) (os : List (Option Tm)) : Prop where
  ids : Ints w A n l
  txt : Strs w B n (os.map fun o => bs (encO o))
theorem MadeW.keep {w w' : World} {A B : Option Addr} {n : Nat} {l : List Int} {os : List (Option Tm)} (h : MadeW w A B n l os) (hb : Below w.heap.size w w') : MadeW w' A B n l os := ⟨h.ids.keep hb, h.txt.keep hb⟩
def pkI (l : List Int) (i : Int) : Int := if i < 0 then -1 else (l[i.toNat]?).getD (-1)
def pkO (os : List (Option Tm)) (i : Int) : Option Tm := if i < 0 then none else (os[i.toNat]?).getD none
set_option maxRecDepth 100000 in
set_option maxHeartbeats 2000000 in
theorem pick_any {A B : Option Addr} {n c d : Nat} {l : List Int} {os : List (Option Tm)} (i : Int) (w : World) (hn : n ≤ 1000) (h : MadeW w A B n l os) :
    Calls Tryz.prog 10 #[.agg (madeV A B n c d).toArray, .int .i64 i] w fun r w' => r = .returned (.tuple #[.int .i64 (pkI l i), .string (bs (encO (pkO os i)))]) ∧ Below w.heap.size w w' := by
  have hB := below_new w (.cells (madeV A B n c d).toArray 31)
  have hr := heap_new w (.cells (madeV A B n c d).toArray 31)
  have d0 := cell_of_row _ w.heap.size 0 _ _ _ hr
  have d1 := cell_of_row _ w.heap.size 1 _ _ _ hr
  have hll := h.ids.len
  have hol : os.length = n := by have := h.txt.len; simpa using this
  have h2 := Lib.hid (h.keep hB)
  have hBh := Lib.hid hB
  clear hB hr h
  unfold madeV at d0 d1 hBh h2 ⊢
  go_enter Tryz.func10, Tryz.ntmps10
  go_upto_region 1 with fail
  generalize (w.alloc (.cells [Value.slice A n c, .slice B n d].toArray 31)) = w1 at *
  by_cases h0 : i < 0
  · have e1 : pkI l i = -1 := if_pos h0
    have e2 : pkO os i = none := if_pos h0
    have e1h := Lib.hid e1
    have e2h := Lib.hid e2
    clear hll hol e1 e2
    go_wp2_with fail
    go_ret2
    exact ⟨by rw [e1h.out, e2h.out]; rfl, hBh.out⟩
  · obtain ⟨k, rfl⟩ := Int.eq_ofNat_of_zero_le (Int.not_lt.1 h0)
    by_cases hk : k < n
    · obtain ⟨b, off, x, rfl, hb, hx, hc⟩ := h2.out.ids.at_ hk
      obtain ⟨b', off', z, rfl, hb', hz, hc'⟩ := h2.out.txt.at_ hk
      obtain ⟨o, ho⟩ : ∃ o, os[k]? = some o := ⟨os[k]'(by omega), List.getElem?_eq_getElem (by omega)⟩
      rw [List.getElem?_map, ho] at hz
      have hz : bs (encO o) = z := Option.some.inj hz
      subst hz
      have e1 : pkI l k = x := by unfold pkI; rw [if_neg h0, Int.toNat_natCast, hx]; rfl
      have e2 : pkO os k = o := by unfold pkO; rw [if_neg h0, Int.toNat_natCast, ho]; rfl
      have e1h := Lib.hid e1
      have e2h := Lib.hid e2
      have hki : ¬ ((n : Int) ≤ (k : Int)) := by omega
      clear hll hol e1 e2 hx ho hz
      generalize hzz : bs (encO o) = zz at *
      have hzh := Lib.hid hzz
      clear hzz
      go_upto_region 3 with fail
      go_quiet (fail)
      go_wp2_with fail
      go_ret2
      exact ⟨by rw [e1h.out, e2h.out, hzh.out]; rfl, hBh.out.trans (Below.mono (drewN_below _) hBh.out.size)⟩
    · have e1 : pkI l k = -1 := by unfold pkI; rw [if_neg h0, Int.toNat_natCast, List.getElem?_eq_none (by omega)]; rfl
      have e2 : pkO os k = none := by unfold pkO; rw [if_neg h0, Int.toNat_natCast, List.getElem?_eq_none (by omega)]; rfl
      have e1h := Lib.hid e1
      have e2h := Lib.hid e2
      have hki : ((n : Int) ≤ (k : Int)) := by omega
      clear hll hol e1 e2
      go_wp2_with fail
      go_ret2
      exact ⟨by rw [e1h.out, e2h.out]; rfl, hBh.out⟩
/-- A text's first byte. -/
def ltr (s : List UInt8) : UInt8 := s.headD 0
set_option maxRecDepth 100000 in
theorem letter_any (s : List UInt8) (hs : s.length ≤ 4000000000) (w : World) :
    Calls Tryz.prog 62 #[.string (bs s)] w fun r w' => r = .returned (.int .u8 (ltr s).toNat) ∧ w = w' := by
  have hz := bs_size s
  cases s with
  | nil =>
    simp only [List.length_nil] at hz
    have e : ltr [] = 0 := rfl
    rw [e]
    go_enter Tryz.func62, Tryz.ntmps62
    go_wp2_with fail
    go_ret
    exact ⟨rfl, rfl⟩
  | cons x r =>
    have e : ltr (x :: r) = x := rfl
    rw [e]
    have hg : ∀ h, (bs (x :: r))[0]'h = x := fun _ => rfl
    have hp : 0 < (bs (x :: r)).size := by rw [hz]; simp
    have hp2 : (bs (x :: r)).size ≤ 4000000000 := by omega
    generalize bs (x :: r) = y at *
    have hgh := Lib.hid hg
    clear hz hg
    go_enter Tryz.func62, Tryz.ntmps62
    go_wp2_with fail
    go_ret
    exact ⟨by rw [← hgh.out hp]; rfl, rfl⟩
end

section
open Go.RowKit

theorem apart_mk {W : World} {B B' k k' : Nat} {E E' : TypeId} {v v' : Value} {xs ys : List (List Value)} (h : OwnR W B k E v xs) (h' : OwnR W B' k' E' v' ys) (hE : E ≠ E') : v.ownBlock = none ∨ v.ownBlock ≠ v'.ownBlock := by
  rcases h.1.2 with ⟨rfl, _⟩ | ⟨g, cap, cur, rfl, _, hc, _⟩
  · exact .inl rfl
  · right
    rcases h'.1.2 with ⟨rfl, _⟩ | ⟨g', cap', cur', rfl, _, hc', _⟩
    · intro e; cases e
    · intro e
      injection e with e
      simp only at e
      subst e
      rw [hc] at hc'
      injection hc' with hc'
      injection hc' with _ hc'
      exact hE hc'
theorem grow_mk {W W' : World} {B k : Nat} {E : TypeId} {v : Value} {xs : List (List Value)} {row : Option Nat} (h : OwnR W B k E v xs) (hg : W.grownBy W' row) (hne : v.ownBlock = none ∨ v.ownBlock ≠ row) : OwnR W' B k E v xs := ⟨h.1.kept hg hne, h.2⟩
/-- A slice of numbers of terms, of the call's own. -/
def OwnD (w : World) (base : Nat) (v : Value) (xs : List Int) : Prop := OwnR w base 1 33 v (xs.map iv)
theorem OwnD.ints {w : World} {base : Nat} {v : Value} {xs : List Int} (h : OwnD w base v xs) : ∃ A c, v = .slice A xs.length c ∧ Ints w A xs.length xs := by
  obtain ⟨A, c, hv, hr⟩ := OwnR.rws h
  rw [List.length_map] at hv hr
  exact ⟨A, c, hv, hr⟩
theorem OwnD.next {w : World} {base : Nat} {v : Value} {l : List Int} (h : OwnD w base v l) (x : Int) : ∃ A c zs, v = .slice A l.length c ∧ zs.length = l.length ∧ OwnR (w.alloc (.cells #[.int .i64 x] 33)) base 1 33 v zs ∧ ∀ W v', OwnR W base 1 33 v' (zs ++ [[.int .i64 x]]) → OwnD W base v' (l ++ [x]) := by
  obtain ⟨A, c, ev, _⟩ := h.ints
  refine ⟨A, c, l.map iv, ev, by simp, OwnR.keep h (below_new w (.cells #[.int .i64 x] 33)), fun W v' h' => ?_⟩
  unfold OwnD
  rw [List.map_append]
  exact h'
/-- How many terms are there from one on, of so many. -/
def runN (f m : Int) (n : Nat) : Nat := if f < 0 ∨ (n : Int) < f then 0 else min (min m.toNat 40) (n - f.toNat)
def runL {α : Type} (f m : Int) (l : List α) : List α := (l.drop f.toNat).take (runN f m l.length)
theorem runL_len {α : Type} (f m : Int) (l : List α) : (runL f m l).length = runN f m l.length := by
  unfold runL
  rw [List.length_take, List.length_drop]
  unfold runN
  split <;> omega
theorem runN_le (f m : Int) (n : Nat) : runN f m n ≤ 40 := by unfold runN; split <;> omega
def RunR (f m : Int) (l : List Int) (os : List (Option Tm)) (w : World) (r : Ending) (w' : World) : Prop := ∃ A c B d, r = .returned (.tuple #[.slice A (runN f m l.length) c, .slice B (runN f m l.length) d]) ∧ MadeW w' A B (runN f m l.length) (runL f m l) (runL f m os) ∧ Below w.heap.size w w'
set_option maxRecDepth 100000 in
set_option maxHeartbeats 4000000 in
theorem run_any {A B : Option Addr} {n c d : Nat} {l : List Int} {os : List (Option Tm)} (f m : Int) (w : World) (hn : n ≤ 1000) (h : MadeW w A B n l os) :
    Calls Tryz.prog 64 #[.agg (madeV A B n c d).toArray, .int .i64 f, .int .i64 m] w (RunR f m l os w) := by
  have hB := below_new w (.cells (madeV A B n c d).toArray 31)
  have hr := heap_new w (.cells (madeV A B n c d).toArray 31)
  have d0 := cell_of_row _ w.heap.size 0 _ _ _ hr
  have d1 := cell_of_row _ w.heap.size 1 _ _ _ hr
  have hll := h.ids.len
  have hol : os.length = n := by have := h.txt.len; simpa using this
  have h2 := Lib.hid (h.keep hB)
  have hBh := Lib.hid hB
  have hs1 : w.heap.size < (w.alloc (.cells (madeV A B n c d).toArray 31)).heap.size := by simp
  clear hB h
  unfold madeV at d0 d1 hBh h2 hr hs1 ⊢
  go_enter Tryz.func64, Tryz.ntmps64
  go_upto_region 1 with fail
  generalize (w.alloc (.cells [Value.slice A n c, .slice B n d].toArray 31)) = w1 at *
  have hnone : runN f m l.length = 0 → Hid (RunR f m l os w (.returned (.tuple #[.slice none 0 0, .slice none 0 0])) w1) := fun e1 => by
    have e3 : runN f m os.length = 0 := by rw [hol, ← hll]; exact e1
    refine ⟨none, 0, none, 0, by rw [e1], ⟨?_, ?_⟩, hBh.out⟩
    · unfold runL; rw [e1]; exact Rws.nil_
    · unfold runL; rw [e1, e3]; exact Rws.nil_
  by_cases h0 : f < 0
  · have e2 := hnone (if_pos (.inl h0))
    clear hll hol hnone
    go_wp2_with fail
    go_ret2
    exact e2.out
  obtain ⟨k, rfl⟩ := Int.eq_ofNat_of_zero_le (Int.not_lt.1 h0)
  by_cases hkn : n < k
  · have e2 := hnone (if_pos (.inr (by omega)))
    have hki : (n : Int) < (k : Int) := by omega
    clear hll hol hnone
    go_wp2_with fail
    go_ret2
    exact e2.out
  have hN : runN k m l.length = min (min m.toNat 40) (n - k) := by
    unfold runN
    rw [if_neg (by omega), hll]
    omega
  have hN2 : runN k m os.length = min (min m.toNat 40) (n - k) := by
    unfold runN
    rw [if_neg (by omega), hol]
    omega
  have hXl : (l.drop k).length = n - k := by rw [List.length_drop, hll]
  have hYl : (os.drop k).length = n - k := by rw [List.length_drop, hol]
  have hX : ∀ j, (l.drop k)[j]? = l[k + j]? := fun j => by rw [List.getElem?_drop]
  have hY : ∀ j, (os.drop k)[j]? = os[k + j]? := fun j => by rw [List.getElem?_drop]
  have hfin : ∀ (av tv : Value) (wr : World) (j : Nat), j = min (min m.toNat 40) (n - k) → OwnD wr w1.heap.size av ((l.drop k).take j) → OwnS wr w1.heap.size tv (((os.drop k).take j).map fun o => bs (encO o)) → Below w1.heap.size w1 wr → RunR k m l os w (.returned (.tuple #[av, tv])) wr := fun av tv wr j hj hO hT hB => by
    obtain ⟨A1, c1, ev, hA1⟩ := hO.ints
    obtain ⟨B1, d1', ev', hB1⟩ := hT.strs
    have q1 : ((l.drop k).take j).length = j := by rw [List.length_take, hXl]; omega
    have q2 : (((os.drop k).take j).map fun o => bs (encO o)).length = j := by rw [List.length_map, List.length_take, hYl]; omega
    rw [q1] at ev hA1
    rw [q2] at ev' hB1
    subst ev ev'
    refine ⟨A1, c1, B1, d1', by rw [hN, ← hj], ⟨?_, ?_⟩, hBh.out.trans (hB.mono hBh.out.size)⟩
    · unfold runL; rw [hN, ← hj, Int.toNat_natCast]; exact hA1
    · unfold runL; rw [hN, hN2, ← hj, Int.toNat_natCast]; exact hB1
  have hfin := Lib.hid hfin
  obtain ⟨i0, hi, hz0, hz1, hz2⟩ := info_parts str_info
  obtain ⟨j0, hj0, hj1, hj2, hj3⟩ := info_parts id_info
  have hO0 : Hid (OwnD w1 w1.heap.size (.slice none 0 0) []) := OwnR.nil_ w1 w1.heap.size 1 33
  have hT0 : Hid (OwnS w1 w1.heap.size (.slice none 0 0) []) := OwnR.nil_ w1 w1.heap.size 1 9
  have hB0 := Lib.hid (Below.refl w1.heap.size w1)
  have hki : ¬ (n : Int) < (k : Int) := by omega
  have hXlh := Lib.hid hXl
  have hXh := Lib.hid hX
  have hYh := Lib.hid hY
  have hd := Lib.hid (And.intro d0 d1)
  clear hnone hll hol hN hN2 hXl hYl hX hY hr
  generalize l.drop k = X at *
  generalize os.drop k = Y at *
  go_wp2_with fail
  clear d0 d1
  go_loopw [8, 9, 10] (fun av tv iv wr => ∃ (j : Nat), j ≤ min (min m.toNat 40) (n - k) ∧ iv = .int .i64 j ∧ Hid (OwnD wr w1.heap.size av (X.take j)) ∧ Hid (OwnS wr w1.heap.size tv ((Y.take j).map fun o => bs (encO o))) ∧ Hid (Below w1.heap.size w1 wr)) (fun _ _ iv _ => 40 - (intOf iv).toNat)
  case atStart => exact ⟨0, by omega, rfl, hO0, hT0, hB0⟩
  case round =>
    clear hO0 hT0 hB0
    obtain ⟨j, hj, rfl, hO, hT, hB⟩ := hrel
    have d0 := (hB.out.cell (p := ⟨w.heap.size, 0, none⟩) hs1).trans hd.out.1
    have d1 := (hB.out.cell (p := ⟨w.heap.size, 1, none⟩) hs1).trans hd.out.2
    by_cases hm : (j : Int) < m
    · by_cases h40 : j < 40
      · have h40i : (j : Int) < 40 := by omega
        by_cases hlt : j < n - k
        · have hli : ¬ ((n : Int) - (k : Int) ≤ (j : Int)) := by omega
          obtain ⟨b, off, x, rfl, hbl, hx, hcell⟩ := h2.out.ids.at_ (j := k + j) (by omega)
          obtain ⟨b', off', z, rfl, hbl', hz, hcell'⟩ := h2.out.txt.at_ (j := k + j) (by omega)
          obtain ⟨o, ho⟩ : ∃ o, os[k + j]? = some o := by
            cases ho : os[k + j]? with
            | none => rw [List.getElem?_map, ho] at hz; cases hz
            | some o => exact ⟨o, rfl⟩
          rw [List.getElem?_map, ho] at hz
          have hz : bs (encO o) = z := Option.some.inj hz
          subst hz
          have hc := (hB.out.cell (p := ⟨b, off + (k + j), none⟩) hbl).trans hcell
          have hc' := Lib.hid (fun W (h : Below w1.heap.size w1 W) => (h.cell (p := ⟨b', off' + (k + j), none⟩) hbl').trans hcell')
          have hx2 : X.take (j + 1) = X.take j ++ [x] := take_succ_of ((hXh.out j).trans hx)
          have hy2 : Y.take (j + 1) = Y.take j ++ [o] := take_succ_of ((hYh.out j).trans ho)
          have hl1 : (X.take j).length ≤ 40 := by rw [List.length_take]; omega
          have hl2 : ((Y.take j).map fun o => bs (encO o)).length ≤ 40 := by rw [List.length_map, List.length_take]; omega
          obtain ⟨Av, cv, zs, ev, hzl, hOn, hup⟩ := hO.out.next x
          subst ev
          have hzb : zs.length ≤ 40 := by omega
          have hap := apart_mk (OwnS.keep hT.out (below_new wr (.cells #[.int .i64 x] 33))) hOn (by decide)
          have hTk := Lib.hid (And.intro (OwnS.keep hT.out (below_new wr (.cells #[.int .i64 x] 33))) hap)
          have hOn := Lib.hid hOn
          have hup := Lib.hid hup
          have hBn := Lib.hid (hB.out.trans ((below_new wr (.cells #[.int .i64 x] 33)).mono hB.out.size))
          have hrow := Lib.hid (rangeAt_list (heap_new wr (.cells [Value.int .i64 x].toArray 33)))
          have hx2 := Lib.hid hx2
          have hy2 := Lib.hid hy2
          have hl2 := Lib.hid hl2
          generalize (X.take j).length = mv at *
          clear hap hcell hcell' hx ho hO hT hzl
          go_upto_region 11 with (at_builtin; refine wpList_append_one rfl _ _ 28 rfl 33 j0 _ 1 8 Tryz.underlying28 hj0 hj1 hj2 hj3 rfl (by decide) w1 hBn.out _ zs rfl hOn.out wr.heap.size 1 [.int .i64 x] rfl hrow.out rfl (by simp; rfl) (by unfold maxLen; omega) (by omega) ?_; intro v2 w5 hO2 hB2 hg2)
          have hT5 : OwnS w5 w1.heap.size _ _ := grow_mk hTk.out.1 hg2 hTk.out.2
          have hO5 := hup.out _ _ hO2
          have d0 := (hB2.cell (p := ⟨w.heap.size, 0, none⟩) hs1).trans hd.out.1
          have d1 := (hB2.cell (p := ⟨w.heap.size, 1, none⟩) hs1).trans hd.out.2
          have hc5 := hc'.out w5 hB2
          obtain ⟨Aw, cw, ys, ev, hyl, hPn, hup2⟩ := own_next hT5 (bs (encO o))
          subst ev
          have hyb : ys.length ≤ 40 := by have := hl2.out; omega
          have hap2 := apart_mk (OwnR.keep hO5 (below_new w5 (.cells #[.string (bs (encO o))] 9))) hPn (by decide)
          have hOk := Lib.hid (And.intro (OwnR.keep hO5 (below_new w5 (.cells #[.string (bs (encO o))] 9))) hap2)
          have hPn := Lib.hid hPn
          have hup2 := Lib.hid hup2
          have hBn2 := Lib.hid (hB2.trans ((below_new w5 (.cells #[.string (bs (encO o))] 9)).mono hB2.size))
          have hrow2 := Lib.hid (rangeAt_list (heap_new w5 (.cells [Value.string (bs (encO o))].toArray 9)))
          generalize ((Y.take j).map fun o => bs (encO o)).length = mw at *
          clear hap2 hO2 hO5 hT5 hyl hTk hup hOn hBn hrow hg2 hc hc' hd h2 hB hfin
          go_upto_region 7 with (at_builtin; refine wpList_append_one rfl _ _ 29 rfl 9 i0 _ 1 16 Tryz.underlying29 hi hz0 hz1 hz2 rfl (by decide) w1 hBn2.out _ ys rfl hPn.out w5.heap.size 1 [.string (bs (encO o))] rfl hrow2.out rfl (by simp; rfl) (by unfold maxLen; omega) (by omega) ?_; intro v3 w6 hO3 hB3 hg3)
          have hO6 : Hid (OwnD w6 w1.heap.size v2 (X.take (j + 1))) := by
            rw [hx2.out]
            exact grow_mk hOk.out.1 hg3 hOk.out.2
          have hT6 : Hid (OwnS w6 w1.heap.size v3 ((Y.take (j + 1)).map fun o => bs (encO o))) := by
            have := hup2.out _ _ hO3
            rw [hy2.out, List.map_append]
            exact this
          have hB3 := Lib.hid hB3
          clear hO3 hg3 hOk hup2 hPn hBn2 hrow2 hB2
          go_wp2_with fail
          go_roundw
          case rel => exact ⟨j + 1, by omega, by go_num, hO6, hT6, hB3⟩
          case measure => simp [intOf]; omega
        · have hli : (n : Int) - (k : Int) ≤ (j : Int) := by omega
          have e2 := Lib.hid (hfin.out _ _ wr j (by omega) hO.out hT.out hB.out)
          clear hfin
          go_wp2_with fail
          go_ret2
          exact e2.out
      · have h40i : ¬ (j : Int) < 40 := by omega
        have e2 := Lib.hid (hfin.out _ _ wr j (by omega) hO.out hT.out hB.out)
        clear hfin
        go_wp2_with fail
        go_ret2
        exact e2.out
    · have e2 := Lib.hid (hfin.out _ _ wr j (by omega) hO.out hT.out hB.out)
      clear hfin
      go_wp2_with fail
      go_ret2
      exact e2.out
end

section
open Go.RowKit

/-- How a term is made. -/
structure Mk where
  k : Int
  a : Int
  b : Int
  c : Int
  s : List UInt8
def mkRow (k a b c : Int) (s : List UInt8) : List Value := [.int .i64 k, .int .i64 a, .int .i64 b, .int .i64 c, .string (bs s)]
/-- The term that is made, of those before it. -/
def mkT (os : List (Option Tm)) (k a b c : Int) (s : List UInt8) : Option Tm :=
  if k = 1 then dataT s
  else if k = 2 then nonceT a b
  else if k = 3 then keyT a
  else if k = 4 then pubT (pkO os a)
  else if k = 5 then (if a < 0 then baseT s else expT (pkO os a) (pkO os b))
  else if k = 6 then signT s (pkO os a) (pkO os b)
  else if k = 7 then hashT (pkO os a)
  else if k = 8 then deriveT (ltr s).toNat (pkO os a) (pkO os b) (pkO os c)
  else if k = 9 then sealT (pkO os a) (c % 4294967296).toNat (pkO os b)
  else if k = 10 then listT (runL a b os)
  else none
theorem pkO_all {P : Option Tm → Prop} {os : List (Option Tm)} (i : Int) (h0 : P none) (h : ∀ o ∈ os, P o) : P (pkO os i) := by
  unfold pkO
  split
  · exact h0
  · cases ho : os[i.toNat]? with
    | none => exact h0
    | some o => exact h o (List.mem_of_getElem? ho)
/-- What the two boxes hold, from the world W1 on. -/
structure Bx (q : Nat) (A B : Option Addr) (n c d : Nat) (l : List Int) (os : List (Option Tm)) (k a b e : Int) (s : List UInt8) (W : World) : Prop where
  made : MadeW W A B n l os
  row : W.rangeAt q 0 (madeV A B n c d)
  c0 : W.cell? ⟨q + 1, 0, none⟩ = some (.int .i64 k)
  c1 : W.cell? ⟨q + 1, 1, none⟩ = some (.int .i64 a)
  c2 : W.cell? ⟨q + 1, 2, none⟩ = some (.int .i64 b)
  c3 : W.cell? ⟨q + 1, 3, none⟩ = some (.int .i64 e)
  c4 : W.cell? ⟨q + 1, 4, none⟩ = some (.string (bs s))
theorem Bx.keep {q : Nat} {A B : Option Addr} {n c d : Nat} {l : List Int} {os : List (Option Tm)} {k a b e : Int} {s : List UInt8} {W W' : World} (h : Bx q A B n c d l os k a b e s W) (hq : q + 1 < W.heap.size) (hb : Below W.heap.size W W') : Bx q A B n c d l os k a b e s W' where
  made := h.made.keep hb
  row := rangeAt_keep h.row hb (by omega)
  c0 := (hb.cell (p := ⟨q + 1, 0, none⟩) hq).trans h.c0
  c1 := (hb.cell (p := ⟨q + 1, 1, none⟩) hq).trans h.c1
  c2 := (hb.cell (p := ⟨q + 1, 2, none⟩) hq).trans h.c2
  c3 := (hb.cell (p := ⟨q + 1, 3, none⟩) hq).trans h.c3
  c4 := (hb.cell (p := ⟨q + 1, 4, none⟩) hq).trans h.c4
set_option maxRecDepth 100000 in
set_option maxHeartbeats 4000000 in
theorem text_mk {A B : Option Addr} {n c d : Nat} {l : List Int} {os : List (Option Tm)} (k a b e : Int) (s : List UInt8) (w : World) (hn : n ≤ 1000) (hs : s.length ≤ 4000000000) (h : MadeW w A B n l os)
    (hok : ∀ o ∈ os, okO o) (hsm : ∀ o ∈ os, (encO o).length ≤ 131072) :
    Calls Tryz.prog 36 #[.agg (madeV A B n c d).toArray, .agg (mkRow k a b e s).toArray] w (TxR w (encO (mkT os k a b e s))) := by
  have hB1 := below_new w (.cells (madeV A B n c d).toArray 31)
  have hB2 := below_new (w.alloc (.cells (madeV A B n c d).toArray 31)) (.cells (mkRow k a b e s).toArray 65)
  have hr1 := heap_new w (.cells (madeV A B n c d).toArray 31)
  have hr2 := heap_new (w.alloc (.cells (madeV A B n c d).toArray 31)) (.cells (mkRow k a b e s).toArray 65)
  have hr1' := (hB2.block w.heap.size (by simp)).trans hr1
  rw [World.size_alloc] at hr2
  have hX : Bx w.heap.size A B n c d l os k a b e s ((w.alloc (.cells (madeV A B n c d).toArray 31)).alloc (.cells (mkRow k a b e s).toArray 65)) := {
    made := (h.keep hB1).keep hB2
    row := rangeAt_list hr1'
    c0 := cell_of_row _ _ 0 _ _ _ hr2
    c1 := cell_of_row _ _ 1 _ _ _ hr2
    c2 := cell_of_row _ _ 2 _ _ _ hr2
    c3 := cell_of_row _ _ 3 _ _ _ hr2
    c4 := cell_of_row _ _ 4 _ _ _ hr2 }
  have hX := Lib.hid hX
  have hBw := Lib.hid (hB1.trans (hB2.mono hB1.size))
  have hs1 : w.heap.size + 1 < ((w.alloc (.cells (madeV A B n c d).toArray 31)).alloc (.cells (mkRow k a b e s).toArray 65)).heap.size := by simp
  clear hB1 hB2 hr1 hr2 hr1' h
  unfold madeV mkRow at hBw hX hs1 ⊢
  go_enter Tryz.func36, Tryz.ntmps36
  go_upto_region 1 with fail
  generalize ((w.alloc (.cells [Value.slice A n c, .slice B n d].toArray 31)).alloc (.cells [Value.int .i64 k, .int .i64 a, .int .i64 b, .int .i64 e, .string (bs s)].toArray 65)) = W1 at *
  have hT := Lib.hid (fun W (hb : Below W1.heap.size W1 W) => hX.out.keep hs1 hb)
  have cA := Lib.hid (pick_any (c := c) (d := d) a W1 hn hX.out.made)
  have hrow := Lib.hid hX.out.row
  have c1 := hX.out.c1
  unfold madeV at cA hrow
  go_upto_region 2 with (first
    | (refine wpList_load_at 31 _ rfl rfl w.heap.size 0 rfl [.slice A n c, .slice B n d] _ hrow.out Tryz.underlying31 rfl (by kernel_rfl) ?_)
    | (go_at_call 10; (with_reducible refine cA.out.mono ?_); rintro r w2 ⟨rfl, hb2⟩))
  clear c1 cA hrow hX
  have hb2 := hb2
  have hX3 := Lib.hid (hT.out w2 hb2)
  have c1 := hX3.out.c2
  have hrow := Lib.hid hX3.out.row
  have cA := Lib.hid (pick_any (c := c) (d := d) b w2 hn hX3.out.made)
  unfold madeV at cA hrow
  go_upto_region 3 with (first
    | (refine wpList_load_at 31 _ rfl rfl w.heap.size 0 rfl [.slice A n c, .slice B n d] _ hrow.out Tryz.underlying31 rfl (by kernel_rfl) ?_)
    | (go_at_call 10; (with_reducible refine cA.out.mono ?_); rintro r w3 ⟨rfl, hb3⟩))
  have hb3 := hb2.trans (hb3.mono hb2.size)
  clear c1 cA hrow hX3
  have hX4 := Lib.hid (hT.out w3 hb3)
  have c1 := hX4.out.c3
  have hrow := Lib.hid hX4.out.row
  have cA := Lib.hid (pick_any (c := c) (d := d) e w3 hn hX4.out.made)
  unfold madeV at cA hrow
  go_upto_region 4 with (first
    | (refine wpList_load_at 31 _ rfl rfl w.heap.size 0 rfl [.slice A n c, .slice B n d] _ hrow.out Tryz.underlying31 rfl (by kernel_rfl) ?_)
    | (go_at_call 10; (with_reducible refine cA.out.mono ?_); rintro r w4 ⟨rfl, hb4⟩))
  have hb4 := hb3.trans (hb4.mono hb3.size)
  have hXz := hT.out w4 hb4
  obtain ⟨hM, hrow, c0, c1, c2, c3, c4⟩ := hXz
  have hM := Lib.hid hM
  have hB := Lib.hid (hBw.out.trans (hb4.mono hBw.out.size))
  have hrow := Lib.hid hrow
  have hoks := Lib.hid hok
  have hsms := Lib.hid hsm
  have po : ∀ i, okO (pkO os i) := fun i => pkO_all (P := okO) i (by intro t ht; cases ht) hok
  have pl : ∀ i, (encO (pkO os i)).length ≤ 131072 := fun i => pkO_all (P := fun o => (encO o).length ≤ 131072) i (by decide) hsm
  have po := Lib.hid po
  have pl := Lib.hid pl
  clear cA hX4 hT hb2 hb3 hb4 hBw hok hsm
  by_cases k1 : k = 1
  · subst k1
    have cF := Lib.hid (rData_any s w4 hs)
    unfold TxR at cF
    clear hM hrow hoks hsms po pl
    go_wp2_with (go_at_call 65; (with_reducible refine cF.out.mono ?_); rintro r w5 ⟨rfl, hb5⟩)
    go_ret
    exact ⟨rfl, hB.out.trans (hb5.mono hB.out.size)⟩
  by_cases k2 : k = 2
  · subst k2
    have cF := Lib.hid (rNonce_any a b w4)
    unfold TxR at cF
    clear hM hrow hoks hsms po pl
    go_wp2_with (go_at_call 51; (with_reducible refine cF.out.mono ?_); rintro r w5 ⟨rfl, hb5⟩)
    go_ret
    exact ⟨rfl, hB.out.trans (hb5.mono hB.out.size)⟩
  by_cases k3 : k = 3
  · subst k3
    have cF := Lib.hid (rKey_any a w4)
    unfold TxR at cF
    clear hM hrow hoks hsms po pl
    go_wp2_with (go_at_call 66; (with_reducible refine cF.out.mono ?_); rintro r w5 ⟨rfl, hb5⟩)
    go_ret
    exact ⟨rfl, hB.out.trans (hb5.mono hB.out.size)⟩
  by_cases k4 : k = 4
  · subst k4
    have cF := Lib.hid (rPub_any (pkO os a) (po.out a) (Nat.le_trans (pl.out a) (by decide)) w4)
    unfold TxR at cF
    clear hM hrow hoks hsms po pl
    go_wp2_with (go_at_call 67; (with_reducible refine cF.out.mono ?_); rintro r w5 ⟨rfl, hb5⟩)
    go_ret
    exact ⟨rfl, hB.out.trans (hb5.mono hB.out.size)⟩
  by_cases k5 : k = 5
  · subst k5
    by_cases ha : a < 0
    · have e0 := Lib.hid (show mkT os 5 a b e s = baseT s by unfold mkT; simp [ha])
      have cF := Lib.hid (rBase_any s w4 hs)
      unfold TxR at cF
      clear hM hrow hoks hsms po pl
      go_wp2_with (go_at_call 49; (with_reducible refine cF.out.mono ?_); rintro r w5 ⟨rfl, hb5⟩)
      go_ret
      exact ⟨by rw [e0.out]; rfl, hB.out.trans (hb5.mono hB.out.size)⟩
    · have e0 := Lib.hid (show mkT os 5 a b e s = expT (pkO os a) (pkO os b) by unfold mkT; simp [ha])
      have cF := Lib.hid (rExp_any (pkO os a) (pkO os b) (po.out a) (po.out b) (pl.out a) (pl.out b) w4)
      unfold TxR at cF
      clear hM hrow hoks hsms po pl
      go_wp2_with (go_at_call 45; (with_reducible refine cF.out.mono ?_); rintro r w5 ⟨rfl, hb5⟩)
      go_ret
      exact ⟨by rw [e0.out]; rfl, hB.out.trans (hb5.mono hB.out.size)⟩
  by_cases k6 : k = 6
  · subst k6
    have cF := Lib.hid (rSign_any s (pkO os a) (pkO os b) hs (po.out a) (pl.out a) (pl.out b) w4)
    unfold TxR at cF
    clear hM hrow hoks hsms po pl
    go_wp2_with (go_at_call 68; (with_reducible refine cF.out.mono ?_); rintro r w5 ⟨rfl, hb5⟩)
    go_ret
    exact ⟨rfl, hB.out.trans (hb5.mono hB.out.size)⟩
  by_cases k7 : k = 7
  · subst k7
    have cF := Lib.hid (rHash_any (pkO os a) (pl.out a) w4)
    unfold TxR at cF
    clear hM hrow hoks hsms po pl
    go_wp2_with (go_at_call 69; (with_reducible refine cF.out.mono ?_); rintro r w5 ⟨rfl, hb5⟩)
    go_ret
    exact ⟨rfl, hB.out.trans (hb5.mono hB.out.size)⟩
  by_cases k8 : k = 8
  · subst k8
    have cL := Lib.hid (letter_any s hs w4)
    have cF := Lib.hid (rDerive_any (ltr s).toNat (pkO os a) (pkO os b) (pkO os e) (ltr s).toNat_lt (pl.out a) (pl.out b) (pl.out e) w4)
    unfold TxR at cF
    clear hM hrow hoks hsms po pl
    go_wp2_with (first
      | (go_at_call 62; (with_reducible refine cL.out.mono ?_); rintro r w5 ⟨rfl, rfl⟩)
      | (go_at_call 40; (with_reducible refine cF.out.mono ?_); rintro r w5 ⟨rfl, hb5⟩))
    go_ret
    exact ⟨rfl, hB.out.trans (hb5.mono hB.out.size)⟩
  by_cases k9 : k = 9
  · subst k9
    have hw : IntKind.u32.wrap e = ((e % 4294967296).toNat : Int) := by
      have : IntKind.u32.wrap e = e % 4294967296 := by rfl
      rw [this]; omega
    have hw2 : e % 4294967296 = ((e % 4294967296).toNat : Int) := by omega
    have cF := Lib.hid (rSeal_any (pkO os a) (pkO os b) (e % 4294967296).toNat (by omega) (pl.out a) (pl.out b) w4)
    unfold TxR at cF
    have e0 := Lib.hid (show mkT os 9 a b e s = sealT (pkO os a) (e % 4294967296).toNat (pkO os b) from rfl)
    generalize (e % 4294967296).toNat = q at *
    clear hM hrow hoks hsms po pl
    go_wp2_with (go_at_call 70; (with_reducible refine cF.out.mono ?_); rintro r w5 ⟨rfl, hb5⟩)
    go_ret
    exact ⟨by rw [e0.out]; rfl, hB.out.trans (hb5.mono hB.out.size)⟩
  by_cases k10 : k = 10
  · subst k10
    have cR := Lib.hid (run_any (c := c) (d := d) a b w4 hn hM.out)
    unfold madeV RunR at cR
    have hrl : ∀ o ∈ runL a b os, o ∈ os := fun o ho => List.mem_of_mem_drop (List.mem_of_mem_take ho)
    have hrn := runN_le a b l.length
    have hln : runN a b os.length = runN a b l.length := by rw [hM.out.ids.len, show os.length = n by have := hM.out.txt.len; simpa using this]
    have hrlen : (runL a b os).length = runN a b l.length := by rw [runL_len, hln]
    have cF := Lib.hid (fun (B : Option Addr) (d : Nat) (W : World) (hA : Strs W B (runN a b l.length) ((runL a b os).map fun o => bs (encO o))) => rList_any (runL a b os) B (runN a b l.length) d W hrlen (by omega) (fun o ho => hsms.out o (hrl o ho)) hA)
    unfold TxR at cF
    clear hM hoks hsms po pl hrl hrn hln hrlen
    go_wp2_with (first
      | (refine wpList_load_at 31 _ rfl rfl w.heap.size 0 rfl [.slice A n c, .slice B n d] _ hrow.out Tryz.underlying31 rfl (by kernel_rfl) ?_)
      | (go_at_call 64; refine cR.out.mono ?_; rintro r w5 ⟨A5, c5, B5, d5, rfl, hM5, hb5⟩)
      | (go_at_call 41; refine (cF.out B5 d5 w5 hM5.txt).mono ?_; rintro r w6 ⟨rfl, hb6⟩))
    go_ret
    have hB5 := hB.out.trans (hb5.mono hB.out.size)
    exact ⟨rfl, hB5.trans (hb6.mono hB5.size)⟩
  have e0 := Lib.hid (show mkT os k a b e s = none by unfold mkT; simp only [k1, k2, k3, k4, k5, k6, k7, k8, k9, k10, if_false])
  clear hM hrow hoks hsms po pl
  go_wp2_with fail
  go_ret
  exact ⟨by rw [e0.out]; rfl, hB.out⟩
end

section
open Go.RowKit Go.Maps

section
variable (A : Ar) (B : Nat) (w : World) (H : Arena w B A) (hB : B ≤ w.heap.size) (hN : A.N.length < 100)
include H hB hN
theorem derive_any (l : Nat) (hl : l < 256) (x y z : Int) :
    Calls Tryz.prog 37 #[.pointer (some ⟨A.g, 0, none⟩), .int .u8 l, .int .i64 x, .int .i64 y, .int .i64 z] w (PutR w B A (deriveT l (get A.L x) (get A.L y) (get A.L z))) := by
  have hok := deriveT_ok hl (H.good.okO x) (H.good.okO y) (H.good.okO z)
  unfold deriveT at hok ⊢
  have hb := below_new w (.cells #[.int .i64 x, .int .i64 y, .int .i64 z] 33)
  have cP : Calls Tryz.prog 57 #[.pointer (some ⟨A.g, 0, none⟩), .agg #[.int .i64 8, .int .i64 0, .int .i64 l, .string ⟨#[]⟩, .slice (some ⟨w.heap.size, 0, none⟩) 3 3]] (w.alloc (.cells #[.int .i64 x, .int .i64 y, .int .i64 z] 33)) (PutR (w.alloc (.cells #[.int .i64 x, .int .i64 y, .int .i64 z] 33)) B A (mkO 8 0 l [] [get A.L x, get A.L y, get A.L z])) := put_any A B 8 0 l [] [x, y, z] (some ⟨w.heap.size, 0, none⟩) 3 3 _ (H.keep hb) (Nat.le_trans hB hb.size) hN (by simp) (by omega) (ints_new w [x, y, z] _) hok
  have cP := Lib.hid cP
  have hb := Lib.hid hb
  clear H hok
  go_enter Tryz.func37, Tryz.ntmps37
  go_wp2_with (go_at_call 57; refine cP.out.mono ?_; rintro r w1 h1; obtain ⟨A', x', rfl, hG, hM⟩ := PutR.of_below hb.out h1)
  go_ret
  exact ⟨A', x', rfl, hG, hM⟩
theorem seal_any (l : Nat) (hl : l < 4294967296) (x y : Int) :
    Calls Tryz.prog 63 #[.pointer (some ⟨A.g, 0, none⟩), .int .i64 x, .int .u32 l, .int .i64 y] w (PutR w B A (sealT (get A.L x) l (get A.L y))) := by
  have hok := sealT_ok hl (H.good.okO x) (H.good.okO y)
  unfold sealT at hok ⊢
  have hb := below_new w (.cells #[.int .i64 x, .int .i64 y] 33)
  have cP : Calls Tryz.prog 57 #[.pointer (some ⟨A.g, 0, none⟩), .agg #[.int .i64 9, .int .i64 0, .int .i64 l, .string ⟨#[]⟩, .slice (some ⟨w.heap.size, 0, none⟩) 2 2]] (w.alloc (.cells #[.int .i64 x, .int .i64 y] 33)) (PutR (w.alloc (.cells #[.int .i64 x, .int .i64 y] 33)) B A (mkO 9 0 l [] [get A.L x, get A.L y])) := put_any A B 9 0 l [] [x, y] (some ⟨w.heap.size, 0, none⟩) 2 2 _ (H.keep hb) (Nat.le_trans hB hb.size) hN (by simp) (by omega) (ints_new w [x, y] _) hok
  have cP := Lib.hid cP
  have hb := Lib.hid hb
  clear H hok
  go_enter Tryz.func63, Tryz.ntmps63
  go_wp2_with (go_at_call 57; refine cP.out.mono ?_; rintro r w1 h1; obtain ⟨A', x', rfl, hG, hM⟩ := PutR.of_below hb.out h1)
  go_ret
  exact ⟨A', x', rfl, hG, hM⟩
theorem sign_any (s : List UInt8) (hs : s.length ≤ 4000000000) (x y : Int) :
    Calls Tryz.prog 61 #[.pointer (some ⟨A.g, 0, none⟩), .string (bs s), .int .i64 x, .int .i64 y] w (PutR w B A (signT s (get A.L x) (get A.L y))) := by
  have cT : Calls Tryz.prog 81 #[.string (bs s), .int .i64 64] w fun r w' => r = .returned (.bool (decide (txtOk s 64))) ∧ w = w' := text_any s 64 w hs
  have cI : Calls Tryz.prog 76 #[.pointer (some ⟨A.g, 0, none⟩), .int .i64 x, .int .i64 3] w fun r w' => r = .returned (.bool (isB A x 3)) ∧ w = w' := is_any A B x 3 w H
  rw [isB_eq (by decide)] at cI
  by_cases h : txtOk s 64 ∧ kindO (get A.L x) = 3
  · have e : signT s (get A.L x) (get A.L y) = mkO 6 0 0 s [get A.L x, get A.L y] := by unfold signT; rw [if_pos h]
    have hok := signT_ok (alg := s) (H.good.okO x) (H.good.okO y)
    rw [e] at hok ⊢
    have hb := below_new w (.cells #[.int .i64 x, .int .i64 y] 33)
    have cP : Calls Tryz.prog 57 #[.pointer (some ⟨A.g, 0, none⟩), .agg #[.int .i64 6, .int .i64 0, .int .i64 0, .string (bs s), .slice (some ⟨w.heap.size, 0, none⟩) 2 2]] (w.alloc (.cells #[.int .i64 x, .int .i64 y] 33)) (PutR (w.alloc (.cells #[.int .i64 x, .int .i64 y] 33)) B A (mkO 6 0 0 s [get A.L x, get A.L y])) := put_any A B 6 0 0 s [x, y] (some ⟨w.heap.size, 0, none⟩) 2 2 _ (H.keep hb) (Nat.le_trans hB hb.size) hN hs (by omega) (ints_new w [x, y] _) hok
    rw [show (kindO (get A.L x) == 3) = true by simp [h.2]] at cI
    rw [decide_eq_true h.1] at cT
    have cT := Lib.hid cT
    have cP := Lib.hid cP
    have cI := Lib.hid cI
    have hb := Lib.hid hb
    clear H hok e h
    go_enter Tryz.func61, Tryz.ntmps61
    go_wp2_with (first
      | (go_at_call 81; refine cT.out.mono ?_; rintro r w1 ⟨rfl, rfl⟩)
      | (go_at_call 76; refine cI.out.mono ?_; rintro r w1 ⟨rfl, rfl⟩)
      | (go_at_call 57; refine cP.out.mono ?_; rintro r w1 h1; obtain ⟨A', x', rfl, hG, hM⟩ := PutR.of_below hb.out h1))
    go_ret
    exact ⟨A', x', rfl, hG, hM⟩
  · have e : signT s (get A.L x) (get A.L y) = none := by unfold signT; rw [if_neg h]
    have hR := Lib.hid (PutR.none_ H (Below.refl _ _) e)
    by_cases h1 : txtOk s 64
    · have h2 : ¬ kindO (get A.L x) = 3 := fun h2 => h ⟨h1, h2⟩
      rw [show (kindO (get A.L x) == 3) = false by simp [h2]] at cI
      rw [decide_eq_true h1] at cT
      have cT := Lib.hid cT
      have cI := Lib.hid cI
      clear H e h h1 h2
      go_enter Tryz.func61, Tryz.ntmps61
      go_wp2_with (first
        | (go_at_call 81; refine cT.out.mono ?_; rintro r w1 ⟨rfl, rfl⟩)
        | (go_at_call 76; refine cI.out.mono ?_; rintro r w1 ⟨rfl, rfl⟩))
      go_ret
      exact hR.out
    · rw [decide_eq_false h1] at cT
      have cT := Lib.hid cT
      clear H e h h1 cI
      go_enter Tryz.func61, Tryz.ntmps61
      go_wp2_with (go_at_call 81; refine cT.out.mono ?_; rintro r w1 ⟨rfl, rfl⟩)
      go_ret
      exact hR.out
end
end

section
open Go.RowKit Go.Maps

section
variable {w : World} {g : Nat} {W : World} {L : List Tm} (h : St w g W L) (hL : L.length < 100)
include h hL
theorem St.sign2 (s : List UInt8) (hs : s.length ≤ 4000000000) (x y : Int) : Calls Tryz.prog 61 #[.pointer (some ⟨g, 0, none⟩), .string (bs s), .int .i64 x, .int .i64 y] W (SR w g W L (signT s (get L x) (get L y))) :=
  h.put hL fun A h1 h2 H hB hN => by subst h1; subst h2; first | exact sign_any A _ W H hB hN s hs x y | exact sign_any A _ W H hB hN s x y hs | exact sign_any A _ W H hB hN _ _ _ hs
theorem St.derive2 (b : Nat) (hb : b < 256) (x y z : Int) : Calls Tryz.prog 37 #[.pointer (some ⟨g, 0, none⟩), .int .u8 b, .int .i64 x, .int .i64 y, .int .i64 z] W (SR w g W L (deriveT b (get L x) (get L y) (get L z))) :=
  h.put hL fun A h1 h2 H hB hN => by subst h1; subst h2; first | exact derive_any A _ W H hB hN b hb x y z | exact derive_any A _ W H hB hN b x y z hb
theorem St.seal2 (n : Nat) (hn : n < 4294967296) (x y : Int) : Calls Tryz.prog 63 #[.pointer (some ⟨g, 0, none⟩), .int .i64 x, .int .u32 n, .int .i64 y] W (SR w g W L (sealT (get L x) n (get L y))) :=
  h.put hL fun A h1 h2 H hB hN => by subst h1; subst h2; first | exact seal_any A _ W H hB hN x n hn y | exact seal_any A _ W H hB hN n hn x y | exact seal_any A _ W H hB hN x n y hn | exact seal_any A _ W H hB hN n x y hn
end
theorem SR.from {w W W1 : World} {g : Nat} {L : List Tm} {o : Option Tm} {r : Ending} {W' : World} (hb : Below W.heap.size W W1) (h : SR w g W1 L o r W') : SR w g W L o r W' := by
  obtain ⟨L', x, h1, h2, h3, h4, h5, h6, h7⟩ := h
  exact ⟨L', x, h1, h2, h3, h4, (Stay.of_below hb).trans h5, Nat.le_trans hb.size h6, (Fresh.of_below hb).trans hb.size h7⟩
theorem SR.none_ {w W W1 : World} {g : Nat} {L : List Tm} (h : St w g W1 L) (hb : Below W.heap.size W W1) : SR w g W L none (.returned (.int .i64 (-1))) W1 :=
  ⟨L, -1, rfl, h, .inl ⟨rfl, fun _ h => by cases h⟩, ⟨rfl, fun _ => rfl⟩, Stay.of_below hb, hb.size, Fresh.of_below hb⟩
set_option maxRecDepth 100000 in
set_option maxHeartbeats 4000000 in
theorem id_mk {A B : Option Addr} {n c d : Nat} {l : List Int} {os : List (Option Tm)} (k a b e : Int) (s : List UInt8) (w : World) (hn : n ≤ 1000) (hs : s.length ≤ 4000000000) (h : MadeW w A B n l os)
    {w0 : World} {g : Nat} {L : List Tm} (hSt : St w0 g w L) (hL : L.length < 100) (hg : ∀ i, get L (pkI l i) = pkO os i) (hgl : (runL a b l).map (get L) = runL a b os) :
    Calls Tryz.prog 35 #[.agg (madeV A B n c d).toArray, .pointer (some ⟨g, 0, none⟩), .agg (mkRow k a b e s).toArray] w (SR w0 g w L (mkT os k a b e s)) := by
  have hB1 := below_new w (.cells (madeV A B n c d).toArray 31)
  have hB2 := below_new (w.alloc (.cells (madeV A B n c d).toArray 31)) (.cells (mkRow k a b e s).toArray 65)
  have hr1 := heap_new w (.cells (madeV A B n c d).toArray 31)
  have hr2 := heap_new (w.alloc (.cells (madeV A B n c d).toArray 31)) (.cells (mkRow k a b e s).toArray 65)
  have hr1' := (hB2.block w.heap.size (by simp)).trans hr1
  rw [World.size_alloc] at hr2
  have hX : Bx w.heap.size A B n c d l os k a b e s ((w.alloc (.cells (madeV A B n c d).toArray 31)).alloc (.cells (mkRow k a b e s).toArray 65)) := {
    made := (h.keep hB1).keep hB2
    row := rangeAt_list hr1'
    c0 := cell_of_row _ _ 0 _ _ _ hr2
    c1 := cell_of_row _ _ 1 _ _ _ hr2
    c2 := cell_of_row _ _ 2 _ _ _ hr2
    c3 := cell_of_row _ _ 3 _ _ _ hr2
    c4 := cell_of_row _ _ 4 _ _ _ hr2 }
  have hX := Lib.hid hX
  have hBw := Lib.hid (hB1.trans (hB2.mono hB1.size))
  have hs1 : w.heap.size + 1 < ((w.alloc (.cells (madeV A B n c d).toArray 31)).alloc (.cells (mkRow k a b e s).toArray 65)).heap.size := by simp
  clear hB1 hB2 hr1 hr2 hr1' h
  unfold madeV mkRow at hBw hX hs1 ⊢
  go_enter Tryz.func35, Tryz.ntmps35
  go_upto_region 1 with fail
  generalize ((w.alloc (.cells [Value.slice A n c, .slice B n d].toArray 31)).alloc (.cells [Value.int .i64 k, .int .i64 a, .int .i64 b, .int .i64 e, .string (bs s)].toArray 65)) = W1 at *
  have hT := Lib.hid (fun W (hb : Below W1.heap.size W1 W) => hX.out.keep hs1 hb)
  have cA := Lib.hid (pick_any (c := c) (d := d) a W1 hn hX.out.made)
  have hrow := Lib.hid hX.out.row
  have c1 := hX.out.c1
  unfold madeV at cA hrow
  go_upto_region 2 with (first
    | (refine wpList_load_at 31 _ rfl rfl w.heap.size 0 rfl [.slice A n c, .slice B n d] _ hrow.out Tryz.underlying31 rfl (by kernel_rfl) ?_)
    | (go_at_call 10; (with_reducible refine cA.out.mono ?_); rintro r w2 ⟨rfl, hb2⟩))
  clear c1 cA hrow hX
  have hb2 := hb2
  have hX3 := Lib.hid (hT.out w2 hb2)
  have c1 := hX3.out.c2
  have hrow := Lib.hid hX3.out.row
  have cA := Lib.hid (pick_any (c := c) (d := d) b w2 hn hX3.out.made)
  unfold madeV at cA hrow
  go_upto_region 3 with (first
    | (refine wpList_load_at 31 _ rfl rfl w.heap.size 0 rfl [.slice A n c, .slice B n d] _ hrow.out Tryz.underlying31 rfl (by kernel_rfl) ?_)
    | (go_at_call 10; (with_reducible refine cA.out.mono ?_); rintro r w3 ⟨rfl, hb3⟩))
  have hb3 := hb2.trans (hb3.mono hb2.size)
  clear c1 cA hrow hX3
  have hX4 := Lib.hid (hT.out w3 hb3)
  have c1 := hX4.out.c3
  have hrow := Lib.hid hX4.out.row
  have cA := Lib.hid (pick_any (c := c) (d := d) e w3 hn hX4.out.made)
  unfold madeV at cA hrow
  go_upto_region 4 with (first
    | (refine wpList_load_at 31 _ rfl rfl w.heap.size 0 rfl [.slice A n c, .slice B n d] _ hrow.out Tryz.underlying31 rfl (by kernel_rfl) ?_)
    | (go_at_call 10; (with_reducible refine cA.out.mono ?_); rintro r w4 ⟨rfl, hb4⟩))
  have hb4 := hb3.trans (hb4.mono hb3.size)
  have hXz := hT.out w4 hb4
  obtain ⟨hM, hrow, c0, c1, c2, c3, c4⟩ := hXz
  have hM := Lib.hid hM
  have hB := Lib.hid (hBw.out.trans (hb4.mono hBw.out.size))
  have hrow := Lib.hid hrow
  have hS := Lib.hid (hSt.keep hB.out)
  have hgh := Lib.hid hg
  have hglh := Lib.hid hgl
  clear cA hX4 hT hb2 hb3 hb4 hBw hSt hg hgl
  by_cases k1 : k = 1
  · subst k1
    have cF := Lib.hid (hS.out.data hL s hs)
    clear hM hrow hS hgh hglh
    go_wp2_with (go_at_call 53; refine cF.out.mono ?_; rintro r w5 ⟨L', x, rfl, hS5, hG5, hN5, hY5, hz5⟩)
    go_ret
    exact SR.from hB.out ⟨L', x, rfl, hS5, hG5, hN5, hY5, hz5⟩
  by_cases k2 : k = 2
  · subst k2
    have cF := Lib.hid (hS.out.nonce hL a b)
    clear hM hrow hS hgh hglh
    go_wp2_with (go_at_call 50; refine cF.out.mono ?_; rintro r w5 ⟨L', x, rfl, hS5, hG5, hN5, hY5, hz5⟩)
    go_ret
    exact SR.from hB.out ⟨L', x, rfl, hS5, hG5, hN5, hY5, hz5⟩
  by_cases k3 : k = 3
  · subst k3
    have cF := Lib.hid (hS.out.key hL a)
    clear hM hrow hS hgh hglh
    go_wp2_with (go_at_call 33; refine cF.out.mono ?_; rintro r w5 ⟨L', x, rfl, hS5, hG5, hN5, hY5, hz5⟩)
    go_ret
    exact SR.from hB.out ⟨L', x, rfl, hS5, hG5, hN5, hY5, hz5⟩
  by_cases k4 : k = 4
  · subst k4
    have cF := Lib.hid (by have := hS.out.pub hL (pkI l a); rw [hgh.out a] at this; exact this)
    clear hM hrow hS hgh hglh
    go_wp2_with (go_at_call 60; refine cF.out.mono ?_; rintro r w5 ⟨L', x, rfl, hS5, hG5, hN5, hY5, hz5⟩)
    go_ret
    exact SR.from hB.out ⟨L', x, rfl, hS5, hG5, hN5, hY5, hz5⟩
  by_cases k5 : k = 5
  · subst k5
    by_cases ha : a < 0
    · have e0 := Lib.hid (show mkT os 5 a b e s = baseT s by unfold mkT; simp [ha])
      have cF := Lib.hid (hS.out.base hL s hs)
      clear hM hrow hS hgh hglh
      go_wp2_with (go_at_call 48; refine cF.out.mono ?_; rintro r w5 ⟨L', x, rfl, hS5, hG5, hN5, hY5, hz5⟩)
      go_ret
      exact e0.out.symm ▸ SR.from hB.out ⟨L', x, rfl, hS5, hG5, hN5, hY5, hz5⟩
    · have e0 := Lib.hid (show mkT os 5 a b e s = expT (pkO os a) (pkO os b) by unfold mkT; simp [ha])
      have cF := Lib.hid (by have := hS.out.exp hL (pkI l a) (pkI l b); rw [hgh.out a, hgh.out b] at this; exact this)
      clear hM hrow hS hgh hglh
      go_wp2_with (go_at_call 44; refine cF.out.mono ?_; rintro r w5 ⟨L', x, rfl, hS5, hG5, hN5, hY5, hz5⟩)
      go_ret
      exact e0.out.symm ▸ SR.from hB.out ⟨L', x, rfl, hS5, hG5, hN5, hY5, hz5⟩
  by_cases k6 : k = 6
  · subst k6
    have cF := Lib.hid (by have := hS.out.sign2 hL s hs (pkI l a) (pkI l b); rw [hgh.out a, hgh.out b] at this; exact this)
    clear hM hrow hS hgh hglh
    go_wp2_with (go_at_call 61; refine cF.out.mono ?_; rintro r w5 ⟨L', x, rfl, hS5, hG5, hN5, hY5, hz5⟩)
    go_ret
    exact SR.from hB.out ⟨L', x, rfl, hS5, hG5, hN5, hY5, hz5⟩
  by_cases k7 : k = 7
  · subst k7
    have cF := Lib.hid (by have := hS.out.hash hL (pkI l a); rw [hgh.out a] at this; exact this)
    clear hM hrow hS hgh hglh
    go_wp2_with (go_at_call 52; refine cF.out.mono ?_; rintro r w5 ⟨L', x, rfl, hS5, hG5, hN5, hY5, hz5⟩)
    go_ret
    exact SR.from hB.out ⟨L', x, rfl, hS5, hG5, hN5, hY5, hz5⟩
  by_cases k8 : k = 8
  · subst k8
    have cL := Lib.hid (letter_any s hs w4)
    have cF := Lib.hid (by have := hS.out.derive2 hL (ltr s).toNat (ltr s).toNat_lt (pkI l a) (pkI l b) (pkI l e); rw [hgh.out a, hgh.out b, hgh.out e] at this; exact this)
    clear hM hrow hS hgh hglh
    go_wp2_with (first
      | (go_at_call 62; (with_reducible refine cL.out.mono ?_); rintro r w5 ⟨rfl, rfl⟩)
      | (go_at_call 37; refine cF.out.mono ?_; rintro r w5 ⟨L', x, rfl, hS5, hG5, hN5, hY5, hz5⟩))
    go_ret
    exact SR.from hB.out ⟨L', x, rfl, hS5, hG5, hN5, hY5, hz5⟩
  by_cases k9 : k = 9
  · subst k9
    have hw : IntKind.u32.wrap e = ((e % 4294967296).toNat : Int) := by
      have : IntKind.u32.wrap e = e % 4294967296 := by rfl
      rw [this]; omega
    have hw2 : e % 4294967296 = ((e % 4294967296).toNat : Int) := by omega
    have cF := Lib.hid (by have := hS.out.seal2 hL (e % 4294967296).toNat (by omega) (pkI l a) (pkI l b); rw [hgh.out a, hgh.out b] at this; exact this)
    have e0 := Lib.hid (show mkT os 9 a b e s = sealT (pkO os a) (e % 4294967296).toNat (pkO os b) from rfl)
    generalize (e % 4294967296).toNat = q at *
    clear hM hrow hS hgh hglh
    go_wp2_with (go_at_call 63; refine cF.out.mono ?_; rintro r w5 ⟨L', x, rfl, hS5, hG5, hN5, hY5, hz5⟩)
    go_ret
    exact e0.out.symm ▸ SR.from hB.out ⟨L', x, rfl, hS5, hG5, hN5, hY5, hz5⟩
  by_cases k10 : k = 10
  · subst k10
    have cR := Lib.hid (run_any (c := c) (d := d) a b w4 hn hM.out)
    unfold madeV RunR at cR
    have hrn := runN_le a b l.length
    have cF := Lib.hid (fun (A : Option Addr) (c : Nat) (W : World) (hb : Below w4.heap.size w4 W) (hA : Ints W A (runN a b l.length) (runL a b l)) => (by
      have := (hS.out.keep hb).list hL (runL a b l) A (runN a b l.length) c (by omega) hA
      rw [hglh.out] at this
      exact this : Calls Tryz.prog 42 #[.pointer (some ⟨g, 0, none⟩), .slice A (runN a b l.length) c] W (SR w0 g W L (listT (runL a b os)))))
    clear hM hS hgh hglh
    go_wp2_with (first
      | (refine wpList_load_at 31 _ rfl rfl w.heap.size 0 rfl [.slice A n c, .slice B n d] _ hrow.out Tryz.underlying31 rfl (by kernel_rfl) ?_)
      | (go_at_call 64; refine cR.out.mono ?_; rintro r w5 ⟨A5, c5, B5, d5, rfl, hM5, hb5⟩)
      | (go_at_call 42; refine (cF.out A5 c5 w5 hb5 hM5.ids).mono ?_; rintro r w6 ⟨L', x, rfl, hS5, hG5, hN5, hY5, hz5⟩))
    go_ret
    exact SR.from (hB.out.trans (hb5.mono hB.out.size)) ⟨L', x, rfl, hS5, hG5, hN5, hY5, hz5⟩
  have e0 := Lib.hid (show mkT os k a b e s = none by unfold mkT; simp only [k1, k2, k3, k4, k5, k6, k7, k8, k9, k10, if_false])
  have e9 := Lib.hid (SR.none_ hS.out hB.out)
  clear hM hrow hS hgh hglh
  go_wp2_with fail
  go_ret
  exact e0.out.symm ▸ e9.out
end

section
open Go.RowKit

/-- The numbers l name the terms os in L. -/
structure NmL (L : List Tm) (l : List Int) (os : List (Option Tm)) : Prop where
  len : l.length = os.length
  nm : ∀ (i : Nat) (x : Int) (o : Option Tm), l[i]? = some x → os[i]? = some o → Nm L x o
theorem NmL.nil_ (L : List Tm) : NmL L [] [] := ⟨rfl, fun i x o h => by simp at h⟩
theorem NmL.app {L r : List Tm} {l : List Int} {os : List (Option Tm)} (h : NmL L l os) : NmL (L ++ r) l os := ⟨h.len, fun i x o h1 h2 => (h.nm i x o h1 h2).app⟩
theorem NmL.grow {L L' : List Tm} {l : List Int} {os : List (Option Tm)} {o : Option Tm} (h : NmL L l os) (hg : Grow L L' o) : NmL L' l os := by
  obtain ⟨r, rfl⟩ := hg.pre
  exact h.app
theorem NmL.snoc {L : List Tm} {l : List Int} {os : List (Option Tm)} {x : Int} {o : Option Tm} (h : NmL L l os) (hx : Nm L x o) : NmL L (l ++ [x]) (os ++ [o]) := by
  refine ⟨by simp [h.len], fun i y p h1 h2 => ?_⟩
  by_cases hi : i < l.length
  · rw [List.getElem?_append_left hi] at h1
    rw [List.getElem?_append_left (by rw [← h.len]; exact hi)] at h2
    exact h.nm i y p h1 h2
  · rw [List.getElem?_append_right (by omega)] at h1
    rw [List.getElem?_append_right (by rw [← h.len]; omega), ← h.len] at h2
    have h0 : i - l.length = 0 := by
      have := (List.getElem?_eq_some_iff.1 h1).1
      simp at this
      omega
    rw [h0] at h1 h2
    obtain rfl : x = y := by simpa using h1
    obtain rfl : o = p := by simpa using h2
    exact hx
theorem NmL.pick {L : List Tm} {l : List Int} {os : List (Option Tm)} (h : NmL L l os) (i : Int) : get L (pkI l i) = pkO os i := by
  unfold pkI pkO
  split
  · exact get_neg (by decide)
  · cases hx : l[i.toNat]? with
    | none =>
      have hn : os[i.toNat]? = none := by
        rw [List.getElem?_eq_none_iff] at hx ⊢
        rw [← h.len]; exact hx
      rw [hn]
      exact get_neg (by decide)
    | some x =>
      have hl := (List.getElem?_eq_some_iff.1 hx).1
      obtain ⟨o, ho⟩ : ∃ o, os[i.toNat]? = some o := ⟨os[i.toNat]'(by rw [← h.len]; exact hl), List.getElem?_eq_getElem _⟩
      rw [ho]
      exact (h.nm _ x o hx ho).1
theorem NmL.map_ {L : List Tm} {l : List Int} {os : List (Option Tm)} (h : NmL L l os) : l.map (get L) = os := by
  refine List.ext_getElem? fun i => ?_
  rw [List.getElem?_map]
  cases hx : l[i]? with
  | none =>
    rw [List.getElem?_eq_none_iff] at hx
    rw [List.getElem?_eq_none (by rw [← h.len]; exact hx)]
    rfl
  | some x =>
    have hl := (List.getElem?_eq_some_iff.1 hx).1
    obtain ⟨o, ho⟩ : ∃ o, os[i]? = some o := ⟨os[i]'(by rw [← h.len]; exact hl), List.getElem?_eq_getElem _⟩
    rw [ho]
    exact congrArg some (h.nm i x o hx ho).1
theorem NmL.run {L : List Tm} {l : List Int} {os : List (Option Tm)} (h : NmL L l os) (a b : Int) : (runL a b l).map (get L) = runL a b os := by
  unfold runL
  rw [List.map_take, List.map_drop, h.map_, h.len]
theorem NmL.of {L : List Tm} {l : List Int} {os : List (Option Tm)} (h : NmL L l os) {o : Option Tm} (ho : o ∈ os) : ∃ x, Nm L x o := by
  obtain ⟨i, hi⟩ := List.getElem?_of_mem ho
  have hl := (List.getElem?_eq_some_iff.1 hi).1
  exact ⟨_, h.nm i _ o (List.getElem?_eq_getElem (by rw [h.len]; exact hl)) hi⟩
theorem NmL.ok {L : List Tm} {l : List Int} {os : List (Option Tm)} (h : NmL L l os) (hG : Good L) : ∀ o ∈ os, okO o := fun o ho => by
  obtain ⟨x, hx⟩ := h.of ho
  rw [← hx.1]
  exact hG.okO x
theorem NmL.small {L : List Tm} {l : List Int} {os : List (Option Tm)} (h : NmL L l os) (hG : Good L) : ∀ o ∈ os, (encO o).length ≤ 131072 := fun o ho => by
  obtain ⟨x, hx⟩ := h.of ho
  rw [← hx.1]
  cases hg : get L x with
  | none => decide
  | some t =>
    have hm := get_mem hg
    have := hG.size t hm
    exact this
end

section
open Go.RowKit

def maxI : List Int → Int → Int
  | [], m => m
  | x :: r, m => maxI r (if m < x then x else m)
theorem maxI_app (l : List Int) (x m : Int) : maxI (l ++ [x]) m = if maxI l m < x then x else maxI l m := by
  induction l generalizing m with
  | nil => rfl
  | cons y r ih => exact ih _
structure MadeL (L : List Tm) (l : List Int) (os : List (Option Tm)) : Prop extends NmL L l os where
  most : maxI l (-1) + 1 = L.length
  step : ∀ (i : Nat) (x : Int), l[i]? = some x → x ≤ maxI (l.take i) (-1) + 1
theorem MadeL.nil_ : MadeL [] [] [] := { NmL.nil_ [] with most := rfl, step := fun i x h => by simp at h }
theorem MadeL.snoc {L L' : List Tm} {l : List Int} {os : List (Option Tm)} {o : Option Tm} {x : Int} (h : MadeL L l os) (hG : Good L') (hg : Grow L L' o) (hx : Nm L' x o) : MadeL L' (l ++ [x]) (os ++ [o]) := by
  have hm := h.most
  have hlt := hx.lt
  have hle : x ≤ L.length := by
    have := hg.len
    omega
  refine { (h.toNmL.grow hg).snoc hx with most := ?_, step := fun i y hy => ?_ }
  · rw [maxI_app]
    rcases hg with ⟨rfl, _⟩ | ⟨t, rfl, hn, rfl⟩
    · rw [if_neg (by omega)]; exact hm
    · have hxt : x = L.length := by
        obtain ⟨j, rfl, hj⟩ := get_some hx.1
        have h2 : (L ++ [t])[L.length]? = some t := by simp
        rw [once_inj hG.once hj h2]
      rw [if_pos (by omega), hxt, List.length_append]
      simp
  · by_cases hi : i < l.length
    · rw [List.getElem?_append_left hi] at hy
      rw [List.take_append_of_le_length (by omega)]
      exact h.step i y hy
    · rw [List.getElem?_append_right (by omega)] at hy
      have h0 : i - l.length = 0 := by
        have := (List.getElem?_eq_some_iff.1 hy).1
        simp at this
        omega
      rw [h0] at hy
      obtain rfl : x = y := by simpa using hy
      rw [show i = l.length by omega, List.take_left]
      omega
end

section
open Go.RowKit

noncomputable def ldMd (a : Addr) : Sem Value := loadVar 31 a
theorem ldMd_eq (a : Addr) : loadVar 31 a = ldMd a := rfl
theorem ldMd_run {w : World} {b o : Nat} {A B : Option Addr} {n m c d : Nat} (h : w.rangeAt b o [.slice A n c, .slice B m d]) : (ldMd ⟨b, o, none⟩).run Tryz.prog w = .ok (.agg #[.slice A n c, .slice B m d]) w := by
  unfold ldMd
  exact run_loadVar_mid (P := Tryz.prog) w b o 31 [.slice A n c, .slice B m d] _ h Tryz.underlying31 rfl (by kernel_rfl)
noncomputable def ldMk (a : Addr) : Sem Value := loadVar 65 a
theorem ldMk_eq (a : Addr) : loadVar 65 a = ldMk a := rfl
theorem ldMk_run {w : World} {b o : Nat} {k a x y : Int} {s : List UInt8} (h : w.rangeAt b o (mkRow k a x y s)) : (ldMk ⟨b, o, none⟩).run Tryz.prog w = .ok (.agg (mkRow k a x y s).toArray) w := by
  unfold ldMk
  exact run_loadVar_mid (P := Tryz.prog) w b o 65 (mkRow k a x y s) _ h Tryz.underlying65 rfl (by kernel_rfl)
theorem OwnR.stay {w W : World} {base k : Nat} {E : TypeId} {v : Value} {zs : List (List Value)} (h : OwnR w base k E v zs) (hs : Stay w W) (h1 : E ≠ 75) (h2 : E ≠ 68) (h3 : E ≠ 3) : OwnR W base k E v zs := by
  refine ⟨⟨h.1.1, ?_⟩, h.2⟩
  rcases h.1.2 with hn | ⟨g, cap, cur, e, hg, hc, r⟩
  · exact .inl hn
  · exact .inr ⟨g, cap, cur, e, hg, hs g cur E _ hc h1 h2 h3, r⟩
theorem OwnD.stay {w W : World} {base : Nat} {v : Value} {l : List Int} (h : OwnD w base v l) (hs : Stay w W) : OwnD W base v l := OwnR.stay h hs (by decide) (by decide) (by decide)
theorem OwnS.stay {w W : World} {base : Nat} {v : Value} {l : List ByteArray} (h : OwnS w base v l) (hs : Stay w W) : OwnS W base v l := OwnR.stay h hs (by decide) (by decide) (by decide)
end

section
open Go.RowKit Go.ChangeShapes Go.WideShapes

def Mk.row (x : Mk) : List Value := mkRow x.k x.a x.b x.c x.s
def mkDs : List TypeDesc := [.int .i64, .int .i64, .int .i64, .int .i64, .string]
theorem mk_flat : flatDesc Tryz.prog 3 65 = some mkDs := by kernel_rfl
theorem bs_of (s : ByteArray) : s = bs s.data.toList := rfl
theorem mks_of_rows : ∀ (zs : List (List Value)), (∀ z ∈ zs, allOk mkDs z) → ∃ l : List Mk, zs = l.map Mk.row
  | [], _ => ⟨[], rfl⟩
  | z :: r, h => by
    obtain ⟨hl, hc⟩ := h z (by simp)
    match z, hl with
    | [c0, c1, c2, c3, c4], _ =>
      obtain ⟨x0, rfl, _⟩ := hc 0 _ _ rfl rfl
      obtain ⟨x1, rfl, _⟩ := hc 1 _ _ rfl rfl
      obtain ⟨x2, rfl, _⟩ := hc 2 _ _ rfl rfl
      obtain ⟨x3, rfl, _⟩ := hc 3 _ _ rfl rfl
      obtain ⟨x4, rfl, _⟩ := hc 4 _ _ rfl rfl
      obtain ⟨l, rfl⟩ := mks_of_rows r (fun y hy => h y (by simp [hy]))
      exact ⟨⟨x0, x1, x2, x3, x4.data.toList⟩ :: l, rfl⟩
set_option maxRecDepth 100000 in
theorem open_makes {H : Type} {enc : TypeId × Value → H} {w : World} {base : Nat} {spare : Nat → Bool} {held : Bool} {r : Reach} {b0 : Nat} {v : Value} {d : DataW H} {ps : List MemPlace}
    (hv : Value.okWide Tryz.prog w r b0 22 v) (h : DataW.Trod enc Tryz.prog w base spare held 22 v d ps) :
    ∃ (A : Option Addr) (n c : Nat) (L : List Mk), v = .slice A n c ∧ n ≤ 9223372036854775807 ∧ Rws w 5 A n (L.map Mk.row) := by
  obtain ⟨a, len, cap, rfl⟩ := okWide_slice Tryz.underlying22 hv
  obtain ⟨fuel, hf⟩ := h
  obtain ⟨A, n, c, zs, hcs, hl, hm, hr, hok⟩ := open_rows Tryz.underlying22 mk_flat (by kernel_rfl) (by decide) hf
  obtain ⟨L, rfl⟩ := mks_of_rows zs hok
  have : Value.slice a len cap = .slice A n c := by simpa [Value.cells] using hcs
  unfold maxLen at hm
  exact ⟨A, n, c, L, this, by omega, hr⟩
end

section
open Go.RowKit

def fewB (L : List Mk) (most : Int) : Bool := decide ((L.length : Int) ≤ most) && L.all fun x => decide (x.s.length ≤ 200)
theorem fewB_iff {L : List Mk} {most : Int} : fewB L most = true ↔ (L.length : Int) ≤ most ∧ ∀ x ∈ L, x.s.length ≤ 200 := by
  unfold fewB
  simp
set_option maxRecDepth 100000 in
set_option maxHeartbeats 2000000 in
theorem few_any (L : List Mk) (A : Option Addr) (n c : Nat) (most : Int) (w : World) (hn : n ≤ 9223372036854775807) (H : Rws w 5 A n (L.map Mk.row)) :
    Calls Tryz.prog 6 #[.slice A n c, .int .i64 most] w fun r w' => r = .returned (.bool (fewB L most)) ∧ w = w' := by
  have hl : L.length = n := by have := H.1; simpa using this
  by_cases hm : most < (n : Int)
  · have e := Lib.hid (show fewB L most = false by
      rw [Bool.eq_false_iff]; intro h; have := (fewB_iff.1 h).1; omega)
    clear hl H
    go_enter Tryz.func6, Tryz.ntmps6
    go_wp2_with fail
    go_ret
    exact ⟨ret_bool e.out.symm, rfl⟩
  have h0 : Hid (∀ x ∈ L.take 0, x.s.length ≤ 200) := by intro x hx; simp at hx
  have hlh := Lib.hid hl
  have Hh := Lib.hid H
  clear hl H
  go_enter Tryz.func6, Tryz.ntmps6
  go_wp2_with fail
  go_loopw [5] (fun iv wr => ∃ j : Nat, j ≤ n ∧ iv = .int .i64 j ∧ Hid (∀ x ∈ L.take j, x.s.length ≤ 200) ∧ wr = w) (fun iv _ => n - (intOf iv).toNat)
  case atStart => exact ⟨0, by omega, rfl, h0, rfl⟩
  case round =>
    clear h0
    obtain ⟨j, hj, rfl, hp, rfl⟩ := hrel
    by_cases hlt : j < n
    · obtain ⟨b, off, z, rfl, hb, hz, _, hr⟩ := Hh.out.row hlt
      rw [List.getElem?_map] at hz
      obtain ⟨x, hx⟩ : ∃ x, L[j]? = some x := ⟨L[j]'(by have := hlh.out; omega), List.getElem?_eq_getElem (by have := hlh.out; omega)⟩
      rw [hx] at hz
      have hz : x.row = z := Option.some.inj hz
      subst hz
      have hc := hr 4 _ rfl
      have hzs := bs_size x.s
      have htk := take_succ_of hx
      have hmem := List.mem_of_getElem? hx
      generalize bs x.s = y at *
      by_cases h2 : 200 < x.s.length
      · have e := Lib.hid (show fewB L most = false by
          rw [Bool.eq_false_iff]; intro h; have := (fewB_iff.1 h).2 x hmem; omega)
        have hy : 200 < y.size := by omega
        clear hr hx htk hmem hzs
        go_wp2_with fail
        go_ret
        exact ⟨ret_bool e.out.symm, rfl⟩
      · have hy : ¬ 200 < y.size := by omega
        have hnext : Hid (∀ z ∈ L.take (j + 1), z.s.length ≤ 200) := by
          intro z hz
          rw [htk] at hz
          rcases List.mem_append.1 hz with hz | hz
          · exact hp.out z hz
          · obtain rfl := List.mem_singleton.1 hz; omega
        clear hr hx htk hmem hzs
        go_wp2_with fail
        go_roundw
        case rel => exact ⟨j + 1, by omega, by go_num, hnext, (by first | rfl | trivial)⟩
        case measure => simp [intOf]; omega
    · have e := Lib.hid (show fewB L most = true by
        rw [fewB_iff]
        refine ⟨by have := hlh.out; omega, ?_⟩
        have := hp.out
        rwa [List.take_of_length_le (by have := hlh.out; omega)] at this)
      clear hp
      go_wp2_with fail
      go_ret
      exact ⟨ret_bool e.out.symm, rfl⟩
end

section
open Go.RowKit Go.Maps

section
variable {P : Program} {ops : Array Oper} {Q : Exit → Act → World → Prop} {a : Act} {w : World} {rest : List Oper} {o : Oper}
theorem wpList_append_one_at (hgd : o.guard = none) (s x : Operand) (t : TypeId)
    (ho : o.op = .call { callee := .builtin .append, args := #[s, x], argTypes := #[t, t] })
    (e : TypeId) (i : TypeInfo) (z : Value) (size bytes : Nat) (ht : P.underlying t = some (.slice e)) (hi : P.info? e = some i) (hz : i.zero = some z)
    (hsize : i.size = size) (hby : i.bytes = bytes) (hzs : z.cells.size = size) (hsz : 0 < size)
    (base : Nat) (hB : base ≤ w.heap.size) (v : Value) (zs : List (List Value)) (hs : a.eval s = v) (hown : OwnR w base size e v zs)
    (g c : Nat) (row : List Value) (hx : a.eval x = .slice (some ⟨g, 0, none⟩) 1 c) (hrow : w.rangeAt g 0 row) (hl : row.length = size) (h1 : ∀ u ∈ row, u.oneCell' = true)
    (h63 : zs.length + 1 ≤ maxLen) (hbytes : (zs.length + 1) * bytes ≤ 140737488355328)
    (h : ∀ v' w', OwnR w' base size e v' (zs ++ [row]) → w.grownBy w' v.ownBlock → (v'.ownBlock = v.ownBlock ∨ v'.ownBlock = some w.heap.size) → wpList P ops Q rest (a.put o.dst v') w') : wpList P ops Q (o :: rest) a w := by
  refine wpList_append_own_at w hgd s x t ho base e i z size bytes ht hi hz hsize hby hzs hsz v zs.length zs.flatten hs hown.1 ⟨g, 0, none⟩ 1 c row hx (by rw [hl, Nat.one_mul])
    (fun j u hu => by rw [Addr.add_mid]; exact hrow j u hu) h1 h63 hbytes hB ?_
  intro v' w' hown' hg _ hat
  refine h v' w' ⟨by simpa [List.length_append, List.flatten_append] using hown', fun z hz => ?_⟩ hg hat
  rcases List.mem_append.1 hz with hz | hz
  · exact hown.2 z hz
  · simp only [List.mem_singleton] at hz
    subst hz
    exact hl
end
/-- The blocks of a slice. -/
def inV (v : Value) : Nat → Prop := fun q => v.ownBlock = some q
theorem OwnD.typ {w : World} {base : Nat} {v : Value} {l : List Int} (h : OwnD w base v l) {q : Nat} (hq : inV v q) : Typ w q 33 := OwnR.typ h hq
theorem has_typ {w : World} {B : Nat} {A : Ar} (H : Arena w B A) {q : Nat} {t : TypeId} (h : A.has q) (hT : Typ w q t) : t = 75 ∨ t = 68 ∨ t = 3 := by
  by_cases h1 : t = 75
  · exact .inl h1
  by_cases h2 : t = 68
  · exact .inr (.inl h2)
  by_cases h3 : t = 3
  · exact .inr (.inr h3)
  exfalso
  rcases h with rfl | rfl | h | h
  · exact hT.ne ⟨_, _, H.blk⟩ h1 rfl
  · obtain ⟨D, ⟨es, cl, hb, _⟩, _⟩ := H.map
    exact hT.no_map hb rfl
  · exact hT.ne (H.nodes.typ h) h2 rfl
  · exact hT.ne (OwnR.typ H.sizes h) h3 rfl
theorem OffE.app {w0 : World} {g : Nat} {W W' : World} {L : List Tm} {v v' : Value} (h : St w0 g W L) (h' : St w0 g W' L) (hk : ∀ A, A.g = g → Arena W w0.heap.size A → Arena W' w0.heap.size A) (ho : OffE W g (inV v)) (hat : v'.ownBlock = v.ownBlock ∨ v'.ownBlock = some W.heap.size) : OffE W' g (inV v') := by
  obtain ⟨A, h1, h2, H, hB⟩ := h
  refine ⟨_, A, hk A h1 H, h1, fun x hx B n c hv hn q hq hf => ?_⟩
  rcases hat with e | e
  · exact ho.at_ H h1 x hx B n c hv hn q hq (by unfold inV at hf ⊢; rw [← e]; exact hf)
  · unfold inV at hf
    rw [e] at hf
    have := (H.ids x hx).lt hq (by
      obtain ⟨A', c', hv', _⟩ := H.ids x hx
      rw [hv] at hv'
      injection hv' with q1 q2 q3
      rw [← q2]; exact hn)
    have := Option.some.inj hf
    omega
/-- An append to a slice of numbers of terms in which no node's numbers lie. -/
theorem St.app {w0 : World} {g : Nat} {W W' : World} {L : List Tm} {base : Nat} {v v' : Value} {zs : List (List Value)} (h : St w0 g W L) (ho : OffE W g (inV v)) (hO : OwnR W base 1 33 v zs) (hb : w0.heap.size ≤ base)
    (hg : W.grownBy W' v.ownBlock) (hat : v'.ownBlock = v.ownBlock ∨ v'.ownBlock = some W.heap.size) : St w0 g W' L ∧ OffE W' g (inV v') := by
  have h0 := h
  obtain ⟨A, h1, h2, H, hB⟩ := h
  have hk : Keeps (inV v) W W' := Keeps.of_grown hg fun q hq => hq
  have hA : ∀ A, A.g = g → Arena W w0.heap.size A → Arena W' w0.heap.size A := fun A h1 H => H.keepO hk (fun q hq hf => by
    rcases has_typ H hq (OwnR.typ hO hf) with e | e | e <;> exact absurd e (by decide)) (ho.at_ H h1)
  have h9 : St w0 g W' L := ⟨A, h1, h2, hA A h1 H, hB.trans (hk.below (fun q hq => Nat.le_trans hb (hO.1.lt q hq).1) hB.size)⟩
  exact ⟨h9, OffE.app h0 h9 hA ho hat⟩
/-- An append to a slice of another type. -/
theorem St.app2 {w0 : World} {g : Nat} {W W' : World} {L : List Tm} {base k : Nat} {E : TypeId} {v u : Value} {zs : List (List Value)} (h : St w0 g W L) (ho : OffE W g (inV u)) (hO : OwnR W base k E v zs) (hb : w0.heap.size ≤ base)
    (hg : W.grownBy W' v.ownBlock) (h1 : E ≠ 75) (h2 : E ≠ 68) (h3 : E ≠ 3) (h4 : E ≠ 33) : St w0 g W' L ∧ OffE W' g (inV u) := by
  have hk : Keeps (inV v) W W' := Keeps.of_grown hg fun q hq => hq
  have hA : ∀ {B : Nat} {A : Ar}, Arena W B A → Arena W' B A := fun H => H.keepF hk (fun q hq hf => by
    rcases has_typ H hq (OwnR.typ hO hf) with e | e | e
    · exact h1 e
    · exact h2 e
    · exact h3 e) (fun q cur fr hq hf => (show Typ W q _ from ⟨_, _, hq⟩).ne (OwnR.typ hO hf) (Ne.symm h4) rfl)
  obtain ⟨A, e1, e2, H, hB⟩ := h
  obtain ⟨B, A2, H2, e3, ho2⟩ := ho
  exact ⟨⟨A, e1, e2, hA H, hB.trans (hk.below (fun q hq => Nat.le_trans hb (hO.1.lt q hq).1) hB.size)⟩, ⟨B, A2, hA H2, e3, ho2⟩⟩
end

section
open Go.RowKit Go.Maps

/-- What Makes has of its own: numbers l, texts ts, in the block b5; the block b4 of its result. -/
structure KB (W : World) (B b4 b5 g : Nat) (vI vT : Value) (l : List Int) (ts : List ByteArray) : Prop where
  ids : OwnD W B vI l
  txt : OwnS W B vT ts
  blk : W.heap[b5]? = some (.cells #[vI, vT] 31 (0, 0))
  ret : W.heap[b4]? = some (.cells #[.slice none 0 0, .slice none 0 0] 31 (0, 0))
  off : OffE W g (inV vI)
  hB : B ≤ b5
  ne : b4 ≠ b5
section
variable {W W' : World} {B b4 b5 g : Nat} {vI vT : Value} {l : List Int} {ts : List ByteArray}
theorem KB.step (h : KB W B b4 b5 g vI vT l ts) (hs : Stay W W') (hf : Fresh g W W') : KB W' B b4 b5 g vI vT l ts :=
  ⟨h.ids.stay hs, h.txt.stay hs, hs b5 _ _ _ h.blk (by decide) (by decide) (by decide), hs b4 _ _ _ h.ret (by decide) (by decide) (by decide), hf _ (fun q hq => (OwnR.typ h.ids hq).elim fun _ h => h.elim fun _ h => (Array.getElem?_eq_some_iff.1 h).1) h.off, h.hB, h.ne⟩
theorem KB.below (h : KB W B b4 b5 g vI vT l ts) (hb : Below W.heap.size W W') : KB W' B b4 b5 g vI vT l ts := h.step (Stay.of_below hb) (Fresh.of_below hb)
theorem KB.shape (h : KB W B b4 b5 g vI vT l ts) : ∃ A c B' d, vI = .slice A l.length c ∧ vT = .slice B' ts.length d ∧ Ints W A l.length l ∧ Strs W B' ts.length ts := by
  obtain ⟨A, c, e, hi⟩ := h.ids.ints
  obtain ⟨B', d, e', ht⟩ := h.txt.strs
  exact ⟨A, c, B', d, e, e', hi, ht⟩
theorem KB.made {n : Nat} {A B' : Option Addr} {c d : Nat} {os : List (Option Tm)} (h : KB W B b4 b5 g (.slice A n c) (.slice B' n d) l (os.map fun o => bs (encO o))) : MadeW W A B' n l os := by
  obtain ⟨A1, c1, B1, d1, e, e', hi, ht⟩ := h.shape
  injection e with e1 e2 e3
  injection e' with e4 e5 e6
  subst e1
  subst e4
  refine ⟨?_, ?_⟩
  · rw [e2]; exact hi
  · rw [e5]; exact ht
/-- A number more: the append, and its store. -/
theorem KB.app1 {w0 : World} {L : List Tm} {w5 : World} {v2 : Value} {x : Int} {zs : List (List Value)} (h : KB W B b4 b5 g vI vT l ts) (hS : St w0 g W L) (hw : w0.heap.size ≤ B)
    (hz : zs = l.map iv) (hO : OwnR w5 B 1 33 v2 (zs ++ [[.int .i64 x]])) (hg : (W.alloc (.cells #[.int .i64 x] 33)).grownBy w5 vI.ownBlock) (hat : v2.ownBlock = vI.ownBlock ∨ v2.ownBlock = some (W.alloc (.cells #[.int .i64 x] 33)).heap.size) :
    w5.heap[b5]? = some (.cells #[vI, vT] 31 (0, 0)) ∧ KB (w5.setCell ⟨b5, 0, none⟩ v2) B b4 b5 g v2 vT (l ++ [x]) ts ∧ St w0 g (w5.setCell ⟨b5, 0, none⟩ v2) L ∧ W.heap.size ≤ (w5.setCell ⟨b5, 0, none⟩ v2).heap.size := by
  subst hz
  have hb1 := below_new W (.cells #[.int .i64 x] 33)
  have h1 := h.below hb1
  have hS1 := hS.keep hb1
  have hrow : ∀ q, vI.ownBlock = some q → Typ (W.alloc (.cells #[.int .i64 x] 33)) q 33 := fun q hq => OwnR.typ h1.ids hq
  obtain ⟨hS5, ho5⟩ := hS1.app h1.off h1.ids hw hg hat
  have k5 := block_grown h1.blk hg hrow (by decide)
  have k4 := block_grown h1.ret hg hrow (by decide)
  have hT5 := OwnR.grown_ h1.txt hg hrow (by decide)
  have hst := grown_set w5 ⟨b5, 0, none⟩ v2
  have hty : ∀ q, some b5 = some q → Typ w5 q 31 := fun q hq => by injection hq with hq; subst hq; exact ⟨_, _, k5⟩
  have hOM : OwnR w5 b5 2 31 (.slice (some ⟨b5, 0, none⟩) 1 1) [[vI, vT]] := by
    refine ⟨⟨by simp, .inr ⟨b5, 1, #[vI, vT], rfl, Nat.le_refl _, k5, Nat.le_refl _, by unfold maxLen; omega, by simp, by simp⟩⟩, by simp⟩
  obtain ⟨hS6, ho6⟩ := hS5.app2 ho5 hOM (Nat.le_trans hw h.hB) hst (by decide) (by decide) (by decide) (by decide)
  refine ⟨k5, ⟨?_, OwnR.grown_ hT5 hst hty (by decide), ?_, ?_, ho6, h.hB, h.ne⟩, hS6, ?_⟩
  · have := OwnR.grown_ hO hst hty (by decide)
    unfold OwnD
    rw [List.map_append]
    exact this
  · rw [heap_setCell_same w5 b5 0 _ _ _ k5]; rfl
  · exact (heap_setCell_other w5 ⟨b5, 0, none⟩ b4 v2 h.ne).trans k4
  · have := hg.size
    have := hb1.size
    simp [World.setCell]
    omega
/-- A text more. -/
theorem KB.app2 {w0 : World} {L : List Tm} {w5 : World} {v2 : Value} {x : ByteArray} {zs : List (List Value)} (h : KB W B b4 b5 g vI vT l ts) (hS : St w0 g W L) (hw : w0.heap.size ≤ B)
    (hz : zs = ts.map sv) (hO : OwnR w5 B 1 9 v2 (zs ++ [[.string x]])) (hg : (W.alloc (.cells #[.string x] 9)).grownBy w5 vT.ownBlock) :
    w5.heap[b5]? = some (.cells #[vI, vT] 31 (0, 0)) ∧ KB (w5.setCell ⟨b5, 1, none⟩ v2) B b4 b5 g vI v2 l (ts ++ [x]) ∧ St w0 g (w5.setCell ⟨b5, 1, none⟩ v2) L ∧ W.heap.size ≤ (w5.setCell ⟨b5, 1, none⟩ v2).heap.size := by
  subst hz
  have hb1 := below_new W (.cells #[.string x] 9)
  have h1 := h.below hb1
  have hS1 := hS.keep hb1
  have hrow : ∀ q, vT.ownBlock = some q → Typ (W.alloc (.cells #[.string x] 9)) q 9 := fun q hq => OwnR.typ h1.txt hq
  obtain ⟨hS5, ho5⟩ := hS1.app2 h1.off h1.txt hw hg (by decide) (by decide) (by decide) (by decide)
  have k5 := block_grown h1.blk hg hrow (by decide)
  have k4 := block_grown h1.ret hg hrow (by decide)
  have hT5 := OwnR.grown_ h1.ids hg hrow (by decide)
  have hst := grown_set w5 ⟨b5, 1, none⟩ v2
  have hty : ∀ q, some b5 = some q → Typ w5 q 31 := fun q hq => by injection hq with hq; subst hq; exact ⟨_, _, k5⟩
  have hOM : OwnR w5 b5 2 31 (.slice (some ⟨b5, 0, none⟩) 1 1) [[vI, vT]] := by
    refine ⟨⟨by simp, .inr ⟨b5, 1, #[vI, vT], rfl, Nat.le_refl _, k5, Nat.le_refl _, by unfold maxLen; omega, by simp, by simp⟩⟩, by simp⟩
  obtain ⟨hS6, ho6⟩ := hS5.app2 ho5 hOM (Nat.le_trans hw h.hB) hst (by decide) (by decide) (by decide) (by decide)
  refine ⟨k5, ⟨OwnR.grown_ hT5 hst hty (by decide), ?_, ?_, ?_, ho6, h.hB, h.ne⟩, hS6, ?_⟩
  · have := OwnR.grown_ hO hst hty (by decide)
    unfold OwnS
    rw [List.map_append]
    exact this
  · rw [heap_setCell_same w5 b5 1 _ _ _ k5]; rfl
  · exact (heap_setCell_other w5 ⟨b5, 1, none⟩ b4 v2 h.ne).trans k4
  · have := hg.size
    have := hb1.size
    simp [World.setCell]
    omega
/-- The result, laid in its block. -/
theorem KB.fin {w0 : World} {L : List Tm} (h : KB W B b4 b5 g vI vT l ts) (hS : St w0 g W L) (hw : w0.heap.size ≤ b4) :
    (W.setRow b4 #[vI, vT]).heap[b4]? = some (.cells #[vI, vT] 31 (0, 0)) ∧ OwnD (W.setRow b4 #[vI, vT]) B vI l ∧ OwnS (W.setRow b4 #[vI, vT]) B vT ts ∧ St w0 g (W.setRow b4 #[vI, vT]) L ∧ OffE (W.setRow b4 #[vI, vT]) g (inV vI) ∧ W.heap.size ≤ (W.setRow b4 #[vI, vT]).heap.size := by
  have hg : W.grownBy (W.setRow b4 #[vI, vT]) (some b4) := ⟨rfl, rfl, rfl, by simp [World.setRow], fun k _ hk => hsetRow_off (fun e => hk (by rw [e])) _⟩
  have hty : ∀ q, some b4 = some q → Typ W q 31 := fun q hq => by injection hq with hq; subst hq; exact ⟨_, _, h.ret⟩
  have hOM : OwnR W b4 2 31 (.slice (some ⟨b4, 0, none⟩) 1 1) [[.slice none 0 0, .slice none 0 0]] := by
    refine ⟨⟨by simp, .inr ⟨b4, 1, #[.slice none 0 0, .slice none 0 0], rfl, Nat.le_refl _, h.ret, Nat.le_refl _, by unfold maxLen; omega, by simp, by simp⟩⟩, by simp⟩
  obtain ⟨hS6, ho6⟩ := hS.app2 h.off hOM hw hg (by decide) (by decide) (by decide) (by decide)
  exact ⟨hsetRow _ _ _ _ _ _ h.ret, OwnR.grown_ h.ids hg hty (by decide), OwnR.grown_ h.txt hg hty (by decide), hS6, ho6, hg.size⟩
theorem KB.one (h : KB W B b4 b5 g vI vT l ts) : (#[vI, vT] : Array Value).all (·.oneCell') = true := by
  obtain ⟨A, c, B', d, rfl, rfl, _, _⟩ := h.shape
  simp [Value.oneCell']
end
end
end Go.Proofs.YtbeanjaenmpoeaaGreatDoor
