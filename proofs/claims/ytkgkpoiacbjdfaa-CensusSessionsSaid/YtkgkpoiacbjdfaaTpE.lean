/- What an exchange came to: its load, '==' and '!=' behind names. -/
import Derived.Test.YtkgkpoiacbjdfaaAgD
import Derived.Test.YtkgkpoiacbjdfaaNeq
namespace Go.Proofs.Ytkgkpoiacbjdfaa
open Go.RowKit Go.ChangeShapes Go.WideShapes Go.Deep

theorem neq_dn (a b : Dn) (ha : allOk dnDs a.cells) (hb : allOk dnDs b.cells) (w : World) :
    (binOp .neq 35 (.agg a.cells.toArray) (.agg b.cells.toArray)).run Try.prog w = .ok (.bool (!decide (a = b))) w :=
  neq_flat Try.underlying35 dn_cells dn_flat dn_noBlank dn_key (by decide) _ _ ha hb (decide (a = b)) (by rw [decide_eq_true_iff]; exact (dn_inj a b).symm) w
noncomputable def ldD (a : Addr) : Sem Value := loadVar 35 a
theorem ldD_eq (a : Addr) : loadVar 35 a = ldD a := rfl
theorem ldD_run {w : World} {b o : Nat} {d : Dn} (h : w.rangeAt b o d.cells) : (ldD ⟨b, o, none⟩).run Try.prog w = .ok (.agg d.cells.toArray) w := by
  unfold ldD
  exact run_loadVar_mid (P := Try.prog) w b o 35 d.cells _ h Try.underlying35 rfl (by kernel_rfl)
noncomputable def neD (x y : Value) : Sem Value := binOp .neq 35 x y
theorem neD_eq (x y : Value) : binOp .neq 35 x y = neD x y := rfl
noncomputable def egD (x y : Operand) (a b : Value) : Sem Unit := eqGuard .neq 35 x y a b
theorem egD_eq (x y : Operand) (a b : Value) : eqGuard .neq 35 x y a b = egD x y a b := rfl
theorem egD_run (x y : Operand) (xs ys : Array Value) (w : World) : (egD x y (.agg xs) (.agg ys)).run Try.prog w = .ok () w := run_eqGuard_agg (w := w) .neq _ x y xs ys dn_guard
noncomputable def eqD (x y : Value) : Sem Value := binOp .eql 35 x y
theorem eqD_eq (x y : Value) : binOp .eql 35 x y = eqD x y := rfl
theorem eqD_run (a b : Dn) (ha : allOk dnDs a.cells) (hb : allOk dnDs b.cells) (w : World) : (eqD (.agg a.cells.toArray) (.agg b.cells.toArray)).run Try.prog w = .ok (.bool (decide (a = b))) w := eql_dn a b ha hb w
theorem neD_run (a b : Dn) (ha : allOk dnDs a.cells) (hb : allOk dnDs b.cells) (w : World) : (neD (.agg a.cells.toArray) (.agg b.cells.toArray)).run Try.prog w = .ok (.bool (!decide (a = b))) w := neq_dn a b ha hb w
noncomputable def egE (x y : Operand) (a b : Value) : Sem Unit := eqGuard .eql 35 x y a b
theorem egE_eq (x y : Operand) (a b : Value) : eqGuard .eql 35 x y a b = egE x y a b := rfl
theorem egE_run (x y : Operand) (xs ys : Array Value) (w : World) : (egE x y (.agg xs) (.agg ys)).run Try.prog w = .ok () w := run_eqGuard_agg (w := w) .eql _ x y xs ys dn_guard
end Go.Proofs.Ytkgkpoiacbjdfaa
