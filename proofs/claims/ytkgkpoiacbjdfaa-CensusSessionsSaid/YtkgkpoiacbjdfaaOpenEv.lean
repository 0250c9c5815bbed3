/- A slice of events that came in, opened. -/
import Derived.Test.YtkgkpoiacbjdfaaOpenRows
import Derived.Test.YtkgkpoiacbjdfaaEv
namespace Go.Proofs.Ytkgkpoiacbjdfaa
open Go.RowKit Go.ChangeShapes Go.WideShapes Go.Deep

def evDs : List TypeDesc := [.int .i64, .int .i64, .int .i64, .int .i64, .string, .string, .string, .int .i64,
  .string, .string, .string, .string, .string, .string, .string, .string, .string, .string, .string, .string, .int .i64, .int .u32, .int .u32, .int .u32,
  .string, .string, .int .i64, .int .i64, .int .i64, .int .i64, .int .i64, .int .i64, .int .i64, .int .i64]
theorem ev_flat : flatDesc Try.prog 6 37 = some evDs := by kernel_rfl

theorem ev_of_cells {cs : List Value} (h : allOk evDs cs) : ∃ e : Ev, cs = e.cells := by
  obtain ⟨hl, hc⟩ := h
  match cs, hl with
  | c0 :: c1 :: c2 :: c3 :: c4 :: c5 :: c6 :: c7 :: c8 :: c9 :: c10 :: c11 :: c12 :: c13 :: c14 :: c15 :: c16 :: c17 :: c18 :: c19 :: c20 :: c21 :: c22 :: c23 :: c24 :: c25 :: c26 :: c27 :: c28 :: c29 :: c30 :: c31 :: c32 :: c33 :: [], _ =>
    obtain ⟨x0, rfl, _⟩ := hc 0 _ _ rfl rfl
    obtain ⟨x1, rfl, _⟩ := hc 1 _ _ rfl rfl
    obtain ⟨x2, rfl, _⟩ := hc 2 _ _ rfl rfl
    obtain ⟨x3, rfl, _⟩ := hc 3 _ _ rfl rfl
    obtain ⟨x4, rfl, _⟩ := hc 4 _ _ rfl rfl
    obtain ⟨x5, rfl, _⟩ := hc 5 _ _ rfl rfl
    obtain ⟨x6, rfl, _⟩ := hc 6 _ _ rfl rfl
    obtain ⟨x7, rfl, _⟩ := hc 7 _ _ rfl rfl
    obtain ⟨x8, rfl, _⟩ := hc 8 _ _ rfl rfl
    obtain ⟨x9, rfl, _⟩ := hc 9 _ _ rfl rfl
    obtain ⟨x10, rfl, _⟩ := hc 10 _ _ rfl rfl
    obtain ⟨x11, rfl, _⟩ := hc 11 _ _ rfl rfl
    obtain ⟨x12, rfl, _⟩ := hc 12 _ _ rfl rfl
    obtain ⟨x13, rfl, _⟩ := hc 13 _ _ rfl rfl
    obtain ⟨x14, rfl, _⟩ := hc 14 _ _ rfl rfl
    obtain ⟨x15, rfl, _⟩ := hc 15 _ _ rfl rfl
    obtain ⟨x16, rfl, _⟩ := hc 16 _ _ rfl rfl
    obtain ⟨x17, rfl, _⟩ := hc 17 _ _ rfl rfl
    obtain ⟨x18, rfl, _⟩ := hc 18 _ _ rfl rfl
    obtain ⟨x19, rfl, _⟩ := hc 19 _ _ rfl rfl
    obtain ⟨x20, rfl, _⟩ := hc 20 _ _ rfl rfl
    obtain ⟨x21, rfl, _⟩ := hc 21 _ _ rfl rfl
    obtain ⟨x22, rfl, _⟩ := hc 22 _ _ rfl rfl
    obtain ⟨x23, rfl, _⟩ := hc 23 _ _ rfl rfl
    obtain ⟨x24, rfl, _⟩ := hc 24 _ _ rfl rfl
    obtain ⟨x25, rfl, _⟩ := hc 25 _ _ rfl rfl
    obtain ⟨x26, rfl, _⟩ := hc 26 _ _ rfl rfl
    obtain ⟨x27, rfl, _⟩ := hc 27 _ _ rfl rfl
    obtain ⟨x28, rfl, _⟩ := hc 28 _ _ rfl rfl
    obtain ⟨x29, rfl, _⟩ := hc 29 _ _ rfl rfl
    obtain ⟨x30, rfl, _⟩ := hc 30 _ _ rfl rfl
    obtain ⟨x31, rfl, _⟩ := hc 31 _ _ rfl rfl
    obtain ⟨x32, rfl, _⟩ := hc 32 _ _ rfl rfl
    obtain ⟨x33, rfl, _⟩ := hc 33 _ _ rfl rfl
    exact ⟨⟨x0, x1, x2, x3, x4, x5, x6, x7, ⟨x8, x9, x10, x11, x12, x13, x14, x15, x16, x17, x18, x19, x20, x21, x22, x23, x24, x25, x26, x27, x28, x29, x30, x31, x32, x33⟩⟩, rfl⟩

theorem evs_of_rows : ∀ (zs : List (List Value)), (∀ z ∈ zs, allOk evDs z) → ∃ es : List Ev, zs = es.map Ev.cells ∧ ∀ e ∈ es, allOk evDs e.cells
  | [], _ => ⟨[], rfl, by simp⟩
  | z :: r, h => by
    obtain ⟨e, he⟩ := ev_of_cells (h z (by simp))
    obtain ⟨es, rfl, hes⟩ := evs_of_rows r (fun y hy => h y (by simp [hy]))
    refine ⟨e :: es, by rw [he]; rfl, fun x hx => ?_⟩
    rcases List.mem_cons.1 hx with rfl | hx
    · rw [← he]; exact h z (by simp)
    · exact hes x hx

set_option maxRecDepth 100000 in
theorem open_evs {H : Type} {enc : TypeId × Value → H} {w : World} {base : Nat} {spare : Nat → Bool} {held : Bool} {r : Reach} {b0 : Nat} {v : Value} {d : DataW H} {ps : List MemPlace}
    (hv : Value.okWide Try.prog w r b0 22 v) (h : DataW.Trod enc Try.prog w base spare held 22 v d ps) :
    ∃ A n c es, v = .slice A n c ∧ n ≤ 9223372036854775807 ∧ Evs w A n es ∧ ∀ e ∈ es, allOk evDs e.cells := by
  obtain ⟨a, len, cap, rfl⟩ := okWide_slice Try.underlying22 hv
  obtain ⟨fuel, hf⟩ := h
  obtain ⟨A, n, c, zs, hcs, hl, hm, hr, hok⟩ := open_rows Try.underlying22 ev_flat (by kernel_rfl) (by decide) hf
  obtain ⟨es, rfl, hes⟩ := evs_of_rows zs hok
  have : Value.slice a len cap = .slice A n c := by simpa [Value.cells] using hcs
  refine ⟨A, n, c, es, this, ?_, hr, hes⟩
  unfold maxLen at hm
  omega
theorem sized_mem {H : Type} {P : Program} {ts : List TypeId} {ds : List (DataW H)} (h : (DataW.weightsEach P ts ds).all (· ≤ reachBytes) = true) {j : Nat} {t : TypeId} {d : DataW H} {n : Nat} (ht : ts[j]? = some t) (hd : ds[j]? = some d) (hn : n ∈ d.weights P t) : n ≤ 140737488351232 := by
  have := List.all_eq_true.1 h _ (DataW.weights_mem_each ht hd n hn)
  exact of_decide_eq_true this
set_option maxRecDepth 100000 in
theorem open_evs_w {H : Type} {enc : TypeId × Value → H} {w : World} {base : Nat} {spare : Nat → Bool} {held : Bool} {r : Reach} {b0 : Nat} {v : Value} {d : DataW H} {ps : List MemPlace}
    (hv : Value.okWide Try.prog w r b0 22 v) (h : DataW.Trod enc Try.prog w base spare held 22 v d ps) :
    ∃ A n c es, v = .slice A n c ∧ n ≤ 9223372036854775807 ∧ Evs w A n es ∧ ∀ e ∈ es, ∀ (i : Nat) (s : ByteArray), e.cells[i]? = some (.string s) → s.size ∈ d.weights Try.prog 22 := by
  obtain ⟨a, len, cap, rfl⟩ := okWide_slice Try.underlying22 hv
  obtain ⟨fuel, hf⟩ := h
  obtain ⟨A, n, c, zs, hcs, hl, hm, hr, hok⟩ := open_rows_w Try.underlying22 ev_flat (by kernel_rfl) (by decide) hf
  obtain ⟨es, rfl, _⟩ := evs_of_rows zs (fun z hz => (hok z hz).1)
  have : Value.slice a len cap = .slice A n c := by simpa [Value.cells] using hcs
  refine ⟨A, n, c, es, this, ?_, hr, fun e he i s hs => (hok e.cells (List.mem_map_of_mem he)).2 i s hs⟩
  unfold maxLen at hm
  omega
end Go.Proofs.Ytkgkpoiacbjdfaa
