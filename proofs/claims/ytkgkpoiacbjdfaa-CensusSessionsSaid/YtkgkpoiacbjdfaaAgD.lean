/- Agree: '==' at what an exchange came to, and at what an event tells about a user. -/
import Derived.Test.YtkgkpoiacbjdfaaKeyEq
import Derived.Test.YtkgkpoiacbjdfaaOpenEv
namespace Go.Proofs.Ytkgkpoiacbjdfaa
open Go.RowKit Go.ChangeShapes Go.WideShapes Go.Deep

def dnDs : List TypeDesc := [.string, .string, .string, .string, .string, .string, .string, .string, .string, .string, .string, .string, .int .i64, .int .u32, .int .u32, .int .u32,
  .string, .string, .int .i64, .int .i64, .int .i64, .int .i64, .int .i64, .int .i64, .int .i64, .int .i64]
theorem dn_flat : flatDesc Try.prog 6 35 = some dnDs := by kernel_rfl
theorem dn_noBlank : noBlank Try.prog 6 35 = true := by kernel_rfl
theorem dn_key : Try.prog.keyTypeAt 8 35 = true := by kernel_rfl
theorem dn_cells : Try.prog.cellsOf 35 = dnDs.length := by kernel_rfl
theorem dn_guard : Try.prog.eqGuardType Try.prog.depth 35 = false := by kernel_rfl
theorem dn_at (e : Ev) (i : Nat) (hi : i < 26) : e.cells[8 + i]? = e.dn.cells[i]? := by
  have : e.cells = [.int .i64 e.kind, .int .i64 e.ses, .int .i64 e.num, .int .i64 e.who, .string e.user, .string e.svc, .string e.alg, .int .i64 e.sid] ++ e.dn.cells := rfl
  rw [this, List.getElem?_append_right (by simp)]
  simp
theorem dnDs_at (i : Nat) (hi : i < 26) : evDs[8 + i]? = dnDs[i]? := by
  have : evDs = [.int .i64, .int .i64, .int .i64, .int .i64, .string, .string, .string, .int .i64] ++ dnDs := rfl
  rw [this, List.getElem?_append_right (by simp)]
  simp
theorem dn_ok {e : Ev} (h : allOk evDs e.cells) : allOk dnDs e.dn.cells := by
  refine ⟨rfl, fun i d v hd hv => ?_⟩
  have hi : i < 26 := (List.getElem?_eq_some_iff.1 hd).1
  exact h.2 (8 + i) d v ((dnDs_at i hi).trans hd) ((dn_at e i hi).trans hv)
theorem dn_inj (a b : Dn) : a.cells = b.cells ↔ a = b := by
  constructor
  · intro h
    obtain ⟨a0, a1, a2, a3, a4, a5, a6, a7, a8, a9, a10, a11, a12, a13, a14, a15, a16, a17, a18, a19, a20, a21, a22, a23, a24, a25⟩ := a
    obtain ⟨b0, b1, b2, b3, b4, b5, b6, b7, b8, b9, b10, b11, b12, b13, b14, b15, b16, b17, b18, b19, b20, b21, b22, b23, b24, b25⟩ := b
    simp only [Dn.cells, List.cons.injEq, Value.string.injEq, Value.int.injEq, true_and, and_true] at h
    simp only [Dn.mk.injEq]
    exact h
  · rintro rfl; rfl
theorem eql_dn (a b : Dn) (ha : allOk dnDs a.cells) (hb : allOk dnDs b.cells) (w : World) :
    (binOp .eql 35 (.agg a.cells.toArray) (.agg b.cells.toArray)).run Try.prog w = .ok (.bool (decide (a = b))) w :=
  eql_flat Try.underlying35 dn_cells dn_flat dn_noBlank dn_key (by decide) _ _ ha hb (decide (a = b)) (by rw [decide_eq_true_iff]; exact (dn_inj a b).symm) w
theorem Ev.fldD {w : World} {b o : Nat} {e : Ev} (h : w.rangeAt b o e.cells) : w.rangeAt b (o + 8) e.dn.cells := fun j v hv => by
  have hj : j < 26 := (List.getElem?_eq_some_iff.1 hv).1
  have := h (8 + j) v ((dn_at e j hj).trans hv)
  rw [show o + 8 + j = o + (8 + j) by omega]; exact this

set_option maxRecDepth 100000 in
theorem open_evs_c {H : Type} {enc : TypeId × Value → H} {w : World} {base : Nat} {spare : Nat → Bool} {held : Bool} {r : Reach} {b0 : Nat} {v : Value} {d : DataW H} {ps : List MemPlace}
    (hv : Value.okWide Try.prog w r b0 22 v) (h : DataW.Trod enc Try.prog w base spare held 22 v d ps) :
    ∃ A n c es, v = .slice A n c ∧ n ≤ c ∧ c ≤ 9223372036854775807 ∧ Evs w A n es ∧ ∀ e ∈ es, allOk evDs e.cells := by
  obtain ⟨a, len, cap, rfl⟩ := okWide_slice Try.underlying22 hv
  obtain ⟨fuel, hf⟩ := h
  obtain ⟨A, n, c, zs, hcs, hl, hm, hr, hok⟩ := open_rows Try.underlying22 ev_flat (by kernel_rfl) (by decide) hf
  obtain ⟨es, rfl, hes⟩ := evs_of_rows zs hok
  have : Value.slice a len cap = .slice A n c := by simpa [Value.cells] using hcs
  refine ⟨A, n, c, es, this, hl, ?_, hr, hes⟩
  unfold maxLen at hm
  omega

end Go.Proofs.Ytkgkpoiacbjdfaa
