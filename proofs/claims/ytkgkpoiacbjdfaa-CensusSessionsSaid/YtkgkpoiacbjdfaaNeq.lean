/- '!=' at a flat type. -/
import Derived.Test.YtkgkpoiacbjdfaaKeyEq
namespace Go.Proofs.Ytkgkpoiacbjdfaa
open Go.RowKit Go.ChangeShapes Go.WideShapes Go.Deep
section
variable {P : Program}
/-- '!=' at a flat struct. -/
theorem neq_flat {n m : Nat} {t : TypeId} {ds : List TypeDesc} {fs : Array Field} (hu : P.underlying t = some (.struct fs)) (hct : P.cellsOf t = ds.length) (hf : flatDesc P n t = some ds) (hb : noBlank P n t = true) (hk : P.keyTypeAt m t = true) (hm : m ≤ 10000)
    (xs ys : List Value) (hx : allOk ds xs) (hy : allOk ds ys) (q : Bool) (hq : (q = true ↔ xs = ys)) (w : World) :
    (binOp .neq t (.agg xs.toArray) (.agg ys.toArray)).run P w = .ok (.bool (!q)) w := by
  have h := eql_flat hu hct hf hb hk hm xs ys hx hy q hq w
  rw [run_eql_struct] at h
  rw [run_neq_struct]
  cases hr : (Op.equalIn 10000 t (.agg xs.toArray) (.agg ys.toArray)).run P w with
  | ok b w' =>
    rw [hr] at h
    simp only [Result.andThen_ok, Result.ok.injEq, Value.bool.injEq] at h
    simp only [Result.andThen_ok, h.1, h.2]
  | halt e w' =>
    rw [hr] at h
    simp [Result.andThen] at h
end
section
variable {P : Program} {ops : Array Oper} {Q : Exit → Act → World → Prop} {a : Act} {w : World} {rest : List Oper} {o : Oper}
theorem wpList_neq_at (t t' : TypeId) (x y : Operand) (ho : o.op = .binOp .neq t x y t') (hw : Region.wanted o (yielded ops a.tmps) = true) (xs ys : Array Value) (hx : a.eval x = .agg xs) (hy : a.eval y = .agg ys)
    (hm : P.eqGuardType P.depth t = false) (q : Bool) (hq : (binOp .neq t (.agg xs) (.agg ys)).run P w = .ok (.bool q) w) (h : wpList P ops Q rest (a.put o.dst (.bool q)) w) : wpList P ops Q (o :: rest) a w :=
  wpList_val hw (by
    unfold execOp
    simp only [ho, hx, hy, Sem.run_bind, run_eqGuard_agg w .neq t x y xs ys hm, Result.andThen_ok, hq, Sem.run_pure]) h
end
end Go.Proofs.Ytkgkpoiacbjdfaa
