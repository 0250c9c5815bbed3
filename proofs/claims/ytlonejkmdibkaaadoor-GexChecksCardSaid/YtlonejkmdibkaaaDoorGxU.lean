/- Gex: the table's groups pass the check; a group's load, '==' at it, behind names. -/
import Derived.Test.YtlonejkmdibkaaaDoorGxH
import Derived.Test.YtlonejkmdibkaaaDoorGxM
import Derived.Deep.RegionHeld3
namespace Go.Proofs.YtlonejkmdibkaaaDoor
open Go.RowKit

theorem two_short : shortB ⟨#[2]⟩ = true := by decide +kernel
theorem two_bits : bitsI ⟨#[2]⟩ = 2 := by decide +kernel
theorem two_list : (((⟨#[2]⟩ : ByteArray).toList == []) = false) ∧ (((⟨#[2]⟩ : ByteArray).toList == [1]) = false) := by rw [bsl]; exact ⟨rfl, rfl⟩
theorem last_odd (k : Nat) (h : k = 1 ∨ k = 2 ∨ k = 3 ∨ k = 4) : lastOdd (gxP k) = true := by
  rcases h with rfl | rfl | rfl | rfl
  · decide +kernel
  · decide +kernel
  · decide +kernel
  · decide +kernel
theorem check_grp {k : Nat} (h : k = 1 ∨ k = 2 ∨ k = 3 ∨ k = 4) {a c : Int} (ha : a ≤ 1024 * (k : Int)) (hc : 1024 * (k : Int) ≤ c) : checkB a c (gxP k) ⟨#[2]⟩ = true := by
  have hb := gxP_bits k (by omega) (by omega)
  have hs : shortB (gxP k) = true := (shortB_plain _).2 (gxP_plain k (by omega) (by omega))
  unfold checkB
  rw [hb, hs, two_short, last_odd k h, two_list.1, two_list.2, two_bits]
  have : q1B a c (1024 * (k : Int)) = false := by
    unfold q1B
    simp only [Bool.or_eq_false_iff, decide_eq_false_iff_not]
    omega
  rw [this]
  simp
  omega
theorem pick_between {a b c : Int} (h : pickK a b c ≠ 0) : a ≤ 1024 * (pickK a b c : Int) ∧ 1024 * (pickK a b c : Int) ≤ c := by
  unfold pickK at h ⊢
  cases hr : rightB a b c with
  | false => rw [hr] at h; exact absurd rfl h
  | true =>
    rw [hr] at h
    rw [if_pos rfl] at h ⊢
    unfold rightB at hr
    simp only [Bool.and_eq_true, decide_eq_true_eq] at hr
    by_cases hu : upK b c = 0
    · rw [if_pos hu] at h ⊢
      unfold dnK at h ⊢
      repeat' split
      all_goals first | omega | (exfalso; apply h; repeat' split; all_goals omega) | skip
      all_goals (simp_all; try omega)
    · rw [if_neg hu]
      unfold upK at hu ⊢
      repeat' split
      all_goals first | omega | (simp_all; try omega)
theorem ChkR.ok {w w' : World} {r : Ending} (h : ChkR w true r w') : r = .returned .nilIface ∧ Below w.heap.size w w' := h
theorem ChkR.bad {w w' : World} {r : Ending} (h : ChkR w false r w') : ∃ T u, r = .returned (.iface T u) ∧ isErr w' (some 5) [gexS] (.iface T u) ∧ Below w.heap.size w w' := h
/-- The load of a group, and '==' at it, behind names. -/
noncomputable def ldG (a : Addr) : Sem Value := loadVar 23 a
theorem ldG_eq (a : Addr) : loadVar 23 a = ldG a := rfl
theorem ldG_run {w : World} {b o : Nat} {p g : ByteArray} (h : w.rangeAt b o [.string p, .string g]) : (ldG ⟨b, o, none⟩).run Tryd.prog w = .ok (.agg #[.string p, .string g]) w := by
  unfold ldG
  exact run_loadVar_mid (P := Tryd.prog) w b o 23 [.string p, .string g] _ h Tryd.underlying23 rfl (by kernel_rfl)
noncomputable def eqG (x y : Value) : Sem Value := binOp .eql 23 x y
theorem eqG_eq (x y : Value) : binOp .eql 23 x y = eqG x y := rfl
noncomputable def egG (x y : Operand) (a b : Value) : Sem Unit := eqGuard .eql 23 x y a b
theorem egG_eq (x y : Operand) (a b : Value) : eqGuard .eql 23 x y a b = egG x y a b := rfl
theorem egG_run (x y : Operand) (xs ys : Array Value) (w : World) : (egG x y (.agg xs) (.agg ys)).run Tryd.prog w = .ok () w := run_eqGuard_agg (w := w) .eql _ x y xs ys grp_guard
theorem grp_range {w : World} {g : Nat} {p q : ByteArray} {t : TypeId} {fr : Nat × Nat} (h : w.heap[g]? = some (.cells #[.string p, .string q] t fr)) : w.rangeAt g 0 [.string p, .string q] := by
  intro j v hv
  rw [Nat.zero_add, cell_of_row w g j _ _ _ h]
  rw [← hv, ← List.getElem?_toArray]
theorem grp_range_keep {w w' : World} {g o : Nat} {cs : List Value} (h : w.rangeAt g o cs) (hb : Below w.heap.size w w') (hl : g < w.heap.size) : w'.rangeAt g o cs := rangeAt_keep h hb hl
end Go.Proofs.YtlonejkmdibkaaaDoor
