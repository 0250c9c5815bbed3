/- ShareAgrees, plainly: whose secrets are alike. -/
import Derived.Test.YtbeanjaenmpoeaaDoorShB
namespace Go.Proofs.YtbeanjaenmpoeaaDoor

/-- Known numbers, with what they name. -/
def Kn (L : List Tm) (ks : List (Int × Option Tm)) : Prop := ∀ k ∈ ks, Nm L k.1 k.2
theorem Kn.nil_ (L : List Tm) : Kn L [] := fun _ h => by cases h
theorem Kn.ext {L L' : List Tm} {ks : List (Int × Option Tm)} {k : Nat} (h : Kn L ks) (e : Ext L L' k) : Kn L' ks := fun x hx => (h x hx).ext e
theorem Kn.add {L : List Tm} {ks : List (Int × Option Tm)} (h : Kn L ks) {z : Int} {o : Option Tm} (hz : Nm L z o) : Kn L ((z, o) :: ks) := fun x hx => by
  rcases List.mem_cons.1 hx with rfl | hx
  · exact hz
  · exact h x hx
theorem Kn.beq {L : List Tm} {ks : List (Int × Option Tm)} (h : Kn L ks) (hn : L.Nodup) {x y : Int} {o p : Option Tm} (hx : (x, o) ∈ ks) (hy : (y, p) ∈ ks) {b : Prop} [Decidable b] (hb : o = p ↔ b) : (x == y) = decide b := by
  have := (Nm.inj hn (h _ hx) (h _ hy)).trans hb
  rw [Bool.eq_iff_iff]
  simpa using this
def nT (a b : Nat) : Tm := .mk 2 (a + 1) b [] []
theorem nT_inj {a b c d : Nat} : nT a b = nT c d ↔ a = c ∧ b = d := by
  unfold nT
  constructor
  · intro h; injection h with _ h1 h2; exact ⟨by omega, h2⟩
  · rintro ⟨rfl, rfl⟩; rfl
theorem freshT_eq {a b : Nat} (ha : a ≤ 65535) (hb : b ≤ 65535) : freshT a b = some (nT a b) := by
  unfold freshT
  rw [if_pos ⟨by omega, by omega⟩]
  unfold nonceT
  rw [if_pos ⟨by unfold numOk; omega, by unfold numOk; omega⟩]
  have h1 : ((a : Int) + 1).toNat = a + 1 := by omega
  rw [h1, Int.toNat_natCast]
  simp [mkO, alls, own, lens, nT]
theorem nT_ok {a b : Nat} (ha : a ≤ 65535) (hb : b ≤ 65535) : (nT a b).ok ∧ (nT a b).kind = 2 := by
  have h := freshT_eq ha hb
  unfold freshT at h
  rw [if_pos ⟨by omega, by omega⟩] at h
  exact nonceT_kind h
/-- A share of a group with these exponents. -/
def shT (g : List UInt8) (xs : List Tm) : Tm := .mk 5 0 0 g (insAll [] xs)
theorem shT_eq {g : List UInt8} (h1 : 1 ≤ g.length) (h2 : g.length ≤ 2100) {xs : List Tm} (hx : ∀ t ∈ xs, t.ok ∧ t.kind = 2) (hn : xs.length ≤ 8) : exps (baseT g) (xs.map some) = some (shT g xs) := by
  have hb : baseT g = some (.mk 5 0 0 g []) := by
    unfold baseT
    rw [if_pos ⟨h1, h2⟩]
    have : own 5 g.length = 9 + g.length := rfl
    simp [mkO, alls, lens, this]
    omega
  rw [hb, exps_some h2 xs [] hx (by simp) (by simpa using hn)]
  rfl
theorem offer_eq {g : List UInt8} (h1 : 1 ≤ g.length) (h2 : g.length ≤ 2100) {x : Tm} (hx : x.ok ∧ x.kind = 2) : offerT g (some x) = some (shT g [x]) := by
  have := shT_eq h1 h2 (xs := [x]) (by simpa using hx) (by simp)
  exact this
theorem secret_eq {g : List UInt8} (h1 : 1 ≤ g.length) (h2 : g.length ≤ 2100) {x y : Tm} (hx : x.ok ∧ x.kind = 2) (hy : y.ok ∧ y.kind = 2) : secretT g (some (shT g [x])) (some y) = some (shT g [x, y]) := by
  have hc : chkB g (some (shT g [x])) = true := by simp [chkB, shT, insAll, ins, Tm.kind, Tm.s, Tm.args]
  unfold secretT
  rw [if_pos hc]
  have h := shT_eq h1 h2 (xs := [x, y]) (by simpa using ⟨hx, hy⟩) (by simp)
  have e : exps (baseT g) ([x, y].map some) = expT (exps (baseT g) ([x].map some)) (some y) := rfl
  rw [e, shT_eq h1 h2 (xs := [x]) (by simpa using hx) (by simp)] at h
  exact h
theorem secret_other {g o : List UInt8} {x : Tm} {y : Option Tm} (h : o ≠ g) : secretT g (some (shT o [x])) y = none := by
  have hc : ¬ chkB g (some (shT o [x])) = true := by simp [chkB, shT, Tm.kind, Tm.s, Tm.args, h]
  unfold secretT
  rw [if_neg hc]
theorem shT_same {g o : List UInt8} {x y z : Tm} (hx : x.ok ∧ x.kind = 2) (hy : y.ok ∧ y.kind = 2) (hz : z.ok ∧ z.kind = 2) : shT g [x, y] = shT o [x, z] ↔ g = o ∧ y = z := by
  constructor
  · intro h
    unfold shT at h
    injection h with _ _ _ h1 h2
    have p1 := insAll_perm [x, y] []
    have p2 := insAll_perm [x, z] []
    rw [h2] at p1
    have p := p1.symm.trans p2
    simp only [List.cons_append, List.nil_append, List.append_nil] at p
    have := (List.perm_cons x).1 p
    exact ⟨h1, by simpa using this⟩
  · rintro ⟨rfl, rfl⟩; rfl
theorem shT_swap {g : List UInt8} {x y : Tm} (hx : x.ok ∧ x.kind = 2) (hy : y.ok ∧ y.kind = 2) : shT g [x, y] = shT g [y, x] := by
  unfold shT
  have p : (insAll [] [x, y]).Perm (insAll [] [y, x]) := by
    have p1 := insAll_perm [x, y] []
    have p2 := insAll_perm [y, x] []
    simp only [List.cons_append, List.nil_append] at p1 p2
    exact p1.trans ((List.Perm.swap y x []).trans p2.symm)
  have hm : ∀ (l : List Tm), (∀ t ∈ l, t.ok ∧ t.kind = 2) → ∀ t ∈ insAll [] l, t.ok ∧ t.kind = 2 := fun l hl t ht => by
    have := (insAll_perm l []).mem_iff.1 ht
    exact hl t (by simpa using this)
  rw [sorted_same (hm _ (by simpa using ⟨hx, hy⟩)) (hm _ (by simpa using ⟨hy, hx⟩)) (insAll_sorted _ List.Pairwise.nil) (insAll_sorted _ List.Pairwise.nil) p]
end Go.Proofs.YtbeanjaenmpoeaaDoor
