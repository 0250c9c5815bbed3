/- One operation of a region that draws its order: an append to a slice of the call's own. -/
import Derived.Test.YtbeanjaenmpoeaaGreatDoorXb16
import Derived.Test.YtbeanjaenmpoeaaGreatDoorXb0
import Derived.Maps.AppendAt
namespace Go.Proofs.YtbeanjaenmpoeaaGreatDoor
open Go Go.RowKit

section
variable {P : Program} {ops : Array Oper} {Q : Exit → Act → World → Prop} {w : World} {o : Oper} {K : Act → World → Prop} {T : Array Value}
theorem st_append (hw : Region.wanted o (yielded ops T) = true) (s x : Operand) (t : TypeId)
    (ho : o.op = .call { callee := .builtin .append, args := #[s, x], argTypes := #[t, t] })
    (e : TypeId) (i : TypeInfo) (z : Value) (size bytes : Nat) (ht : P.underlying t = some (.slice e)) (hi : P.info? e = some i) (hz : i.zero = some z)
    (hsize : i.size = size) (hby : i.bytes = bytes) (hzs : z.cells.size = size) (hsz : 0 < size)
    (base : Nat) (hB : base ≤ w.heap.size) (v : Value) (zs : List (List Value)) (hs : (⟨T, []⟩ : Act).eval s = v) (hown : OwnR w base size e v zs)
    (g c : Nat) (row : List Value) (hx : (⟨T, []⟩ : Act).eval x = .slice (some ⟨g, 0, none⟩) 1 c) (hrow : w.rangeAt g 0 row) (hl : row.length = size) (h1 : ∀ u ∈ row, u.oneCell' = true)
    (h63 : zs.length + 1 ≤ maxLen) (hbytes : (zs.length + 1) * bytes ≤ 140737488355328)
    (h : ∀ v' w', OwnR w' base size e v' (zs ++ [row]) → w.grownBy w' v.ownBlock → (v'.ownBlock = v.ownBlock ∨ v'.ownBlock = some w.heap.size) → K ((⟨T, []⟩ : Act).put o.dst v') w') :
    if Region.wanted o (yielded ops T) = true then Oper.wp P o ⟨T, []⟩ w K Q else K ((⟨T, []⟩ : Act).put o.dst undef) w := by
  rw [if_pos hw]
  obtain ⟨v', w', hr, h2, h3, _, h5⟩ := run_append_own_at (P := P) (w := w) base t o.type e i z size bytes ht hi hz hsize hby hzs hsz v zs.length zs.flatten hown.1 ⟨g, 0, none⟩ 1 c row (by rw [hl, Nat.one_mul])
    (fun j u hu => by rw [Addr.add_mid]; exact hrow j u hu) h1 h63 hbytes hB
  unfold Oper.wp execOp
  simp only [ho, resolve, invoke, builtin, Sem.run_bind, Sem.run_pure, Result.andThen_ok, List.map_toArray, List.map_cons, List.map_nil, hs, hx, hr]
  refine h v' w' ⟨by simpa [List.length_append, List.flatten_append] using h2, fun z hz => ?_⟩ h3 h5
  rcases List.mem_append.1 hz with hz | hz
  · exact hown.2 z hz
  · simp only [List.mem_singleton] at hz
    subst hz
    exact hl
/-- 'var x T': a new block of zeros. -/
theorem run_alloc_ (ty : TypeId) (ho : o.op = .alloc ty) (cs : Array Value) (hz : (P.info? ty).bind (·.zero) = some (.agg cs)) : (execOp (⟨T, []⟩ : Act).eval o).run P w = .ok (.value (.pointer (some ⟨w.heap.size, 0, none⟩))) (w.alloc (.cells cs ty)) := by
  unfold execOp
  cases hq : P.info? ty with
  | none => simp [hq] at hz
  | some i =>
    have hzz : i.zero = some (.agg cs) := by simpa [hq] using hz
    simp [ho, Instr.alloc, zeroValue, typeInfo, hq, hzz, newVar, newRow, Value.cells]
/-- '*p = x', the block whole. -/
theorem run_store_ (ty : TypeId) (x y : Operand) (ho : o.op = .store ty x y) (g : Nat) (cells : Array Value) (hx : (⟨T, []⟩ : Act).eval x = .pointer (some ⟨g, 0, none⟩)) (hy : (⟨T, []⟩ : Act).eval y = .agg cells)
    (t : TypeId) (old : Array Value) (hg : w.heap[g]? = some (.cells old t (0, 0))) (hi : (P.info? ty).map (·.size) = some cells.size) (hold : old.size = cells.size) (h1 : cells.all (·.oneCell') = true) :
    (execOp (⟨T, []⟩ : Act).eval o).run P w = .ok .skip (w.setRow g cells) := by
  unfold execOp
  simp only [ho, hx, hy, Instr.storeAt, Instr.sureAddr, Sem.run_bind, Sem.run_pure, Result.andThen_ok, run_storeVar_row w g t ty old cells hg hi hold h1]
/-- 'x == y' at structs and arrays. -/
theorem run_eql_at_ (t t' : TypeId) (x y : Operand) (ho : o.op = .binOp .eql t x y t') (xs ys : Array Value) (hx : (⟨T, []⟩ : Act).eval x = .agg xs) (hy : (⟨T, []⟩ : Act).eval y = .agg ys)
    (hm : P.eqGuardType P.depth t = false) (q : Bool) (hq : (binOp .eql t (.agg xs) (.agg ys)).run P w = .ok (.bool q) w) : (execOp (⟨T, []⟩ : Act).eval o).run P w = .ok (.value (.bool q)) w := by
  unfold execOp
  simp only [ho, hx, hy, Sem.run_bind, run_eqGuard_agg w .eql t x y xs ys hm, Result.andThen_ok, hq, Sem.run_pure]
/-- 'x := *p', a struct or an array. -/
theorem run_load_ (ty : TypeId) (x : Operand) (ho : o.op = .load ty x) (b off : Nat) (hx : (⟨T, []⟩ : Act).eval x = .pointer (some ⟨b, off, none⟩)) (cs : List Value) (d : TypeDesc) (hc : w.rangeAt b off cs)
    (hu : P.underlying ty = some d) (hd : d.isRow = true) (hi : (P.info? ty).map (·.size) = some cs.length) : (execOp (⟨T, []⟩ : Act).eval o).run P w = .ok (.value (.agg cs.toArray)) w := by
  unfold execOp
  simp only [ho, hx, Instr.loadAt, Instr.sureAddr, Sem.run_bind, Sem.run_pure, Result.andThen_ok, run_loadVar_mid w b off ty cs d hc hu hd hi]
end
end Go.Proofs.YtbeanjaenmpoeaaGreatDoor
