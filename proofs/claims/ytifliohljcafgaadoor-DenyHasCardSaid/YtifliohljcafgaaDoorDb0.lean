/- Texts joined: what each shows stands ahead of its theorems. -/
import Derived.WalkKit
import Derived.WalkSpells
import Derived.WalkLawsBesides
import Derived.Lib.Hide
import Derived.Deep.MidRow
import Derived.Deep.LoopGhost
import Derived.Deep.DeepMust
import Derived.Deep.Draws
import Derived.KernelRfl
import Derived.Test.YtifliohljcafgaaDoorRows
import Derived.ProofKit
import Derived.OpenShut
import Derived.Test.YtifliohljcafgaaDoorCards
import Derived.Test.YtifliohljcafgaaDoorTie
import Derived.Lay
import Derived.MakeChecks
import Derived.LaidLaws
import Derived.LaidHandle
import Derived.Deep.DeepHandedRow
import Derived.Deep.Slices
import Derived.ChangeSame
import Derived.SizedLaws
import Derived.OwnWalk
import Derived.Test.YtifliohljcafgaaDoorProg
import Derived.Test.YtifliohljcafgaaDoorShelf
import Derived.Lib.IndexAny
import Derived.RegionTactic
import Derived.BigQuiet
import Derived.Deep.QuietTactic
import Derived.Lib.SliceRun
import Derived.WideShapes
import Derived.Deep.DeepCutAuto
import Derived.DeepKeys
import Derived.Laws.StructEq
import Derived.Maps.OwnSet
import Derived.Lib.ItoaNum
import Derived.Shelf.Strings.Builder1
import Derived.Carry
import Derived.Orders
namespace Go.Proofs.YtifliohljcafgaaDoor
section
open Go.RowKit

/-- What a call has left: cells and marks below the heap's old end read as before. -/
theorem bcell {W w1 : World} (hb : Below W.heap.size W w1) : (∀ b o, b < W.heap.size → w1.cell? ⟨b, o, none⟩ = W.cell? ⟨b, o, none⟩) ∧ (∀ b o, b < W.heap.size → w1.frozen? ⟨b, o, none⟩ = W.frozen? ⟨b, o, none⟩) :=
  ⟨fun b o h => hb.cell (p := ⟨b, o, none⟩) h, fun b o h => hb.frozen (p := ⟨b, o, none⟩) h⟩

theorem Below.then_ {w w1 w2 : World} (h : Below w.heap.size w w1) (k : Below w1.heap.size w1 w2) : Below w.heap.size w w2 := h.trans (k.mono h.size)
theorem Below.new_ {B : Nat} {w w1 : World} (h : Below B w w1) (o : Obj) (hB : B ≤ w1.heap.size) : Below B w (w1.alloc o) := h.alloc hB o

/-- A slice of n rows of k cells each. -/
def Rws (w : World) (k : Nat) (A : Option Addr) (n : Nat) (zs : List (List Value)) : Prop :=
  zs.length = n ∧ (∀ z ∈ zs, z.length = k) ∧ (0 < n → ∃ b off, A = some ⟨b, off, none⟩ ∧ b < w.heap.size ∧ ∀ j z, zs[j]? = some z → w.rangeAt b (off + j * k) z)

theorem rangeAt_keep {w w' : World} {b o : Nat} {cs : List Value} (h : w.rangeAt b o cs) (hb : Below w.heap.size w w') (hlt : b < w.heap.size) : w'.rangeAt b o cs := fun j v hv => by
  rw [hb.cell (p := ⟨b, o + j, none⟩) hlt]; exact h j v hv
theorem Rws.keep {w w' : World} {k : Nat} {A : Option Addr} {n : Nat} {zs : List (List Value)} (h : Rws w k A n zs) (hb : Below w.heap.size w w') : Rws w' k A n zs :=
  ⟨h.1, h.2.1, fun hn => by
    obtain ⟨b, off, e, hlt, hc⟩ := h.2.2 hn
    exact ⟨b, off, e, Nat.lt_of_lt_of_le hlt hb.size, fun j z hz => rangeAt_keep (hc j z hz) hb hlt⟩⟩
theorem Rws.nil_ {w : World} {k : Nat} {A : Option Addr} : Rws w k A 0 [] := ⟨rfl, by simp, fun h => absurd h (by omega)⟩
theorem Rws.row {w : World} {k : Nat} {A : Option Addr} {n : Nat} {zs : List (List Value)} (h : Rws w k A n zs) {j : Nat} (hj : j < n) :
    ∃ b off z, A = some ⟨b, off, none⟩ ∧ b < w.heap.size ∧ zs[j]? = some z ∧ z.length = k ∧ w.rangeAt b (off + j * k) z := by
  obtain ⟨b, off, e, hlt, hc⟩ := h.2.2 (by omega)
  have hl : j < zs.length := by rw [h.1]; exact hj
  exact ⟨b, off, zs[j], e, hlt, List.getElem?_eq_getElem hl, h.2.1 _ (List.getElem_mem hl), hc j _ (List.getElem?_eq_getElem hl)⟩

theorem ret_bool {a b : Bool} (h : a = b) : Ending.returned (.bool a) = .returned (.bool b) := by rw [h]
theorem ret_int {k : IntKind} {a b : Int} (h : a = b) : Ending.returned (.int k a) = .returned (.int k b) := by rw [h]

/-! ### Laws at a region's operation: whole structs, by value; guarded or not ('hw': the guard lets the operation run; by rfl). -/
section
variable {P : Program} {ops : Array Oper} {Q : Exit → Act → World → Prop} {a : Act} {w w' : World} {rest : List Oper} {o : Oper}
theorem wpList_val {v : Value} (hw : Region.wanted o (yielded ops a.tmps) = true) (hrun : (execOp a.eval o).run P w = .ok (.value v) w') (h : wpList P ops Q rest (a.put o.dst v) w') : wpList P ops Q (o :: rest) a w := by
  refine wpList_step fun K hK => ?_
  rw [if_pos hw]
  unfold Oper.wp
  rw [hrun]
  exact hK _ _ h
theorem wpList_do (hw : Region.wanted o (yielded ops a.tmps) = true) (hrun : (execOp a.eval o).run P w = .ok .skip w') (h : wpList P ops Q rest (a.put o.dst undef) w') : wpList P ops Q (o :: rest) a w := by
  refine wpList_step fun K hK => ?_
  rw [if_pos hw]
  unfold Oper.wp
  rw [hrun]
  exact hK _ _ h
/-- 'x := l[i]', '*p': a struct out of the middle of a block. -/
theorem wpList_load_at (ty : TypeId) (x : Operand) (ho : o.op = .load ty x) (hw : Region.wanted o (yielded ops a.tmps) = true)
    (b off : Nat) (hx : a.eval x = .pointer (some ⟨b, off, none⟩)) (cs : List Value) (d : TypeDesc) (hc : w.rangeAt b off cs)
    (hu : P.underlying ty = some d) (hd : d.isRow = true) (hi : (P.info? ty).map (·.size) = some cs.length)
    (h : wpList P ops Q rest (a.put o.dst (.agg cs.toArray)) w) : wpList P ops Q (o :: rest) a w :=
  wpList_val hw (by
    unfold execOp
    simp only [ho, hx, Instr.loadAt, Instr.sureAddr, Sem.run_bind, Sem.run_pure, Result.andThen_ok, run_loadVar_mid w b off ty cs d hc hu hd hi]) h
/-- 'var x T': a new block of zeros. -/
theorem wpList_alloc_row (ty : TypeId) (ho : o.op = .alloc ty) (hw : Region.wanted o (yielded ops a.tmps) = true) (cs : Array Value) (hz : (P.info? ty).bind (·.zero) = some (.agg cs))
    (h : wpList P ops Q rest (a.put o.dst (.pointer (some ⟨w.heap.size, 0, none⟩))) (w.alloc (.cells cs ty))) : wpList P ops Q (o :: rest) a w :=
  wpList_val hw (by
    unfold execOp
    cases hq : P.info? ty with
    | none => simp [hq] at hz
    | some i =>
      have hzz : i.zero = some (.agg cs) := by simpa [hq] using hz
      simp [ho, Instr.alloc, zeroValue, typeInfo, hq, hzz, newVar, newRow, Value.cells]) h
/-- A struct parameter laid in a block of its own. -/
theorem wpList_box_row (ty : TypeId) (x : Operand) (ho : o.op = .box ty x) (hw : Region.wanted o (yielded ops a.tmps) = true) (cs : Array Value) (hx : a.eval x = .agg cs)
    (h : wpList P ops Q rest (a.put o.dst (.pointer (some ⟨w.heap.size, 0, none⟩))) (w.alloc (.cells cs ty))) : wpList P ops Q (o :: rest) a w :=
  wpList_val hw (by
    unfold execOp
    simp [ho, hx, Instr.box, newVar, newRow, Value.cells]) h
/-- '*p = x', the block whole. -/
theorem wpList_store_at (ty : TypeId) (x y : Operand) (ho : o.op = .store ty x y) (hw : Region.wanted o (yielded ops a.tmps) = true)
    (g : Nat) (cells : Array Value) (hx : a.eval x = .pointer (some ⟨g, 0, none⟩)) (hy : a.eval y = .agg cells)
    (t : TypeId) (old : Array Value) (hg : w.heap[g]? = some (.cells old t (0, 0))) (hi : (P.info? ty).map (·.size) = some cells.size)
    (hold : old.size = cells.size) (h1 : cells.all (·.oneCell') = true)
    (h : wpList P ops Q rest (a.put o.dst undef) (w.setRow g cells)) : wpList P ops Q (o :: rest) a w :=
  wpList_do hw (by
    unfold execOp
    simp only [ho, hx, hy, Instr.storeAt, Instr.sureAddr, Sem.run_bind, Sem.run_pure, Result.andThen_ok, run_storeVar_row w g t ty old cells hg hi hold h1]) h
/-- A struct literal. -/
theorem wpList_build_as (t : TypeId) (parts : Array (Nat × Operand)) (ho : o.op = .build t parts) (hw : Region.wanted o (yielded ops a.tmps) = true) (cells : Array Value)
    (hf : P.built t (parts.toList.map fun x => (x.1, a.eval x.2)) = some cells)
    (h : wpList P ops Q rest (a.put o.dst (.agg cells)) w) : wpList P ops Q (o :: rest) a w :=
  wpList_val hw (by
    unfold execOp
    have hr := run_build (P := P) w t (parts.map fun (i, x) => (i, a.eval x)) cells (by rw [← hf]; simp)
    simp only [ho, Sem.run_bind, hr, Result.andThen_ok, Sem.run_pure]) h
/-- A slice literal: its new block. -/
theorem wpList_buildSlice_as (t e : TypeId) (len : Nat) (parts : Array (Nat × Operand)) (ho : o.op = .buildSlice t len parts) (hw : Region.wanted o (yielded ops a.tmps) = true) (i : TypeInfo) (z : Value) (cells : Array Value)
    (ht : P.underlying t = some (.slice e)) (hi : P.info? e = some i) (hz : i.zero = some z) (hpos : len * i.size ≠ 0) (hsmall : len * i.size ≤ 16777216)
    (hf : Instr.fill (fun j => some (j * i.size, i.size)) ((Array.range (len * i.size)).map (z.cells[· % z.cells.size]!)) (parts.toList.map fun x => (x.1, a.eval x.2)) = some cells)
    (h : wpList P ops Q rest (a.put o.dst (.slice (some ⟨w.heap.size, 0, none⟩) len len)) (w.alloc (.cells cells e))) : wpList P ops Q (o :: rest) a w :=
  wpList_val hw (by
    have hf' : Instr.fill (fun j => some (j * i.size, i.size)) ((Array.range (len * i.size)).map (z.cells[· % z.cells.size]!)) (parts.map fun (j, x) => (j, a.eval x)).toList = some cells := by
      rw [← hf]; simp
    have htI : ∀ w, (typeInfo e).run P w = .ok i w := fun w => by simp [typeInfo, hi]
    have hsz : ∀ w, (sizeOf e).run P w = .ok i.size w := fun w => by unfold sizeOf; rw [Sem.run_bind, htI]; simp
    have hzv : ∀ w, (zeroValue e).run P w = .ok z w := fun w => by unfold zeroValue; rw [Sem.run_bind, htI]; simp [hz]
    have hb : (Instr.buildSlice t len (parts.map fun (j, x) => (j, a.eval x))).run P w = .ok (.slice (some ⟨w.heap.size, 0, none⟩) len len) (w.alloc (.cells cells e)) := by
      unfold Instr.buildSlice
      rw [Sem.run_bind, run_underlying ht w, Result.andThen_ok]
      simp only [Sem.run_bind, hsz, Result.andThen_ok, show (2 : Nat) ^ 24 = 16777216 from rfl, if_neg (show ¬ len * i.size > 16777216 by omega), if_neg hpos, hzv, Sem.run_pure, hf', newRow, run_newObj_alloc]
    unfold execOp
    simp only [ho, Sem.run_bind, hb, Result.andThen_ok, Sem.run_pure]) h
end
theorem heap_new (w : World) (o : Obj) : (w.alloc o).heap[w.heap.size]? = some o := heap_alloc_new w o
theorem heap_past {w : World} {k : Nat} {x : Obj} (h : w.heap[k]? = some x) (o : Obj) : (w.alloc o).heap[k]? = some x := by
  have hk : k < w.heap.size := by
    rcases Nat.lt_or_ge k w.heap.size with hlt | hge
    · exact hlt
    · rw [Array.getElem?_eq_none hge] at h; cases h
  exact (Below.heap_alloc w o k hk).trans h
theorem setRow_new (w : World) (old cs : Array Value) (t : TypeId) : (w.alloc (.cells old t)).setRow w.heap.size cs = w.alloc (.cells cs t) := by
  simp only [World.setRow, World.alloc]
  congr 1
  apply Array.ext
  · simp
  · intro i h1 h2
    simp only [Array.getElem_modify, Array.getElem_push]
    simp only [Array.size_modify, Array.size_push] at h1
    by_cases e : i < w.heap.size
    · simp [e, show w.heap.size ≠ i by omega]
    · have : i = w.heap.size := by omega
      subst this
      simp
theorem setRow_at (w : World) (old cs : Array Value) (t : TypeId) (n : Nat) (h : n = w.heap.size) : (w.alloc (.cells old t)).setRow n cs = w.alloc (.cells cs t) := by subst h; exact setRow_new w old cs t
theorem setRow_past (w : World) (o : Obj) (g : Nat) (cs : Array Value) (h : g < w.heap.size) : (w.alloc o).setRow g cs = (w.setRow g cs).alloc o := by
  simp only [World.setRow, World.alloc]
  congr 1
  apply Array.ext
  · simp
  · intro i h1 h2
    simp only [Array.getElem_modify, Array.getElem_push, Array.size_modify]
    simp only [Array.size_modify, Array.size_push] at h1
    by_cases e : i < w.heap.size
    · simp [e]
    · have : i = w.heap.size := by omega
      subst this
      simp [show g ≠ w.heap.size by omega]
theorem rangeAt_block {w : World} {g : Nat} {cs : Array Value} {t : TypeId} {fr : Nat × Nat} (h : w.heap[g]? = some (.cells cs t fr)) : w.rangeAt g 0 cs.toList := fun j v hv => by
  rw [cell_of_row w g (0 + j) cs t fr h]
  simpa using hv
theorem rangeAt_list {w : World} {g : Nat} {cs : List Value} {t : TypeId} {fr : Nat × Nat} (h : w.heap[g]? = some (.cells cs.toArray t fr)) : w.rangeAt g 0 cs := by
  have := rangeAt_block h
  simpa using this
/-- A block that holds rows one behind the other. -/
theorem Rws.block {w : World} {g : Nat} {zs : List (List Value)} {t : TypeId} {fr : Nat × Nat} {k : Nat} (hk : ∀ z ∈ zs, z.length = k) (h : w.heap[g]? = some (.cells zs.flatten.toArray t fr)) (hlt : g < w.heap.size) : Rws w k (some ⟨g, 0, none⟩) zs.length zs := by
  refine ⟨rfl, hk, fun hpos => ⟨g, 0, rfl, hlt, fun j z hz i v hv => ?_⟩⟩
  clear hpos
  rw [cell_of_row w g _ _ t fr h]
  rw [List.getElem?_toArray]
  clear h hlt
  revert j
  induction zs with
  | nil => intro j hz; simp at hz
  | cons y ys ih =>
    intro j hz
    have hy : y.length = k := hk y (by simp)
    cases j with
    | zero =>
      simp only [List.getElem?_cons_zero, Option.some.injEq] at hz
      subst hz
      have hi : i < y.length := (List.getElem?_eq_some_iff.1 hv).1
      rw [List.flatten_cons, List.getElem?_append_left (by omega)]
      simpa using hv
    | succ j =>
      rw [List.getElem?_cons_succ] at hz
      rw [List.flatten_cons, List.getElem?_append_right (by rw [hy, Nat.succ_mul]; omega)]
      have := ih (fun z hz => hk z (by simp [hz])) j hz
      rw [show 0 + (j + 1) * k + i - y.length = 0 + j * k + i by rw [hy, Nat.succ_mul]; omega]
      exact this
theorem drewN_below {w : World} (q : Nat) : Below w.heap.size w (w.drewN q) := ⟨rfl, rfl, rfl, Nat.le_refl _, fun _ _ => rfl⟩
end

section
open Go.RowKit Go.ChangeShapes Go.WideShapes

theorem Tryd.own : ownKnob Tryd.prog.godebug = none := by kernel_rfl
theorem Tryd.laidOut : laidOutB Tryd.prog = true := by kernel_rfl

section
variable {H : Type} {enc : TypeId × Value → H} {P : Program}
/-- All arguments read behind the call as they read before it. -/
theorem trodAll_below (hl : laidOutB P = true) {W W' : World} (hb : Below W.heap.size W W') : ∀ (ts : List TypeId) (vs : List Value) (ds : List (DataW H)) (ps : List MemPlace),
    ts.all (fun t => P.readableRec t && decide (t < P.types.size)) = true → DataW.TrodAll enc P W 0 (fun _ => true) true ts vs ds ps → (∀ x ∈ ps, x.block < W.heap.size) →
    DataW.TrodAll enc P W' 0 (fun b => decide (b < W.heap.size)) true ts vs ds ps
  | [], vs, ds, ps, _, h, _ => by
    obtain ⟨rfl, rfl, rfl⟩ := trodAll_nil h
    exact trodAll_mk0
  | t :: ts, vs, ds, ps, ht, h, hlt => by
    match vs, ds, h with
    | v :: vs, d :: ds, h =>
      obtain ⟨p, p', h1, h2, rfl⟩ := h
      simp only [List.all_cons, Bool.and_eq_true, decide_eq_true_eq] at ht
      exact ⟨p, p', Below.trod hl ht.1.1 ht.1.2 h1 hb (fun x hx => hlt x (by simp [hx])), trodAll_below hl hb ts vs ds p' ht.2 h2 (fun x hx => hlt x (by simp [hx])), rfl⟩

/-- A law's end: it returned true, and nothing that was there has turned. -/
theorem law_post {f : Func} {s : ChangeSpec} {fresh handsOn : Bool} {W W' : World} {args : Array Value} {ds : List (DataW H)} {before : List MemPlace} {tb : TypeId} (hl : laidOutB P = true)
    (hts : f.params.toList.all (fun t => P.readableRec t && decide (t < P.types.size)) = true) (htb : P.underlying tb = some .bool) (hrt : f.resultTypes = #[tb]) (hv : s.vars = [])
    (hW : DataW.Whole enc P f.params.toList s.vars false W args.toList ds [] before)
    (hfr : (s.fn H (ds ++ [])).results = [.lit (.bool true)]) (hfa : (s.fn H (ds ++ [])).args = ds) (hfv : (s.fn H (ds ++ [])).vars = [])
    (hb : Below W.heap.size W W') : s.post enc P f false fresh handsOn false W args (.bool true) W' := by
  have hlt : ∀ p ∈ before, p.block < W.heap.size := fun p hp => hW.lt p hp
  have hW' := hW
  obtain ⟨p, q, hA, hV, rfl, hz, hn⟩ := hW
  rw [hv] at hV
  obtain ⟨_, rfl⟩ := trodVars_none hV
  rw [List.append_nil] at hlt hW'
  refine ⟨ds, [], p, [], p, [], hW', ?_, ?_, ?_, hb.frame _, fun h => by cases h⟩
  · rw [hrt, hfr]
    exact trodAll_mk1 (shut_bool htb true)
  · rw [hfa]
    exact trodAll_below hl hb _ _ _ _ hts hA hlt
  · rw [hfv, hv]
    rfl
end
end

section
open Go.ChangeShapes Go.WideShapes Go.RowKit

def laidT : List (String × DataW Unit) := [("math/bits.deBruijn32tab", Rows.laid_math_bits_deBruijn32tab), ("math/bits.deBruijn64tab", Rows.laid_math_bits_deBruijn64tab), ("internal/strconv.uint64pow10", Rows.laid_internal_strconv_uint64pow10)]
noncomputable def laidWorldT (os : Os) : World := World.laidAll Tryd.prog os laidT
set_option maxRecDepth 100000 in
theorem laidT_met (os : Os) (args : Array Value) : laidMetH Tryd.prog laidT ((laidWorldT os).forCall (fun _ _ => 0) ⟨#[], args, []⟩).memory := by
  rw [MakeChecks.laidMetH_plain _ _ _ (by kernel_rfl)]
  exact laidMet_laidAll _ (by kernel_rfl) (by kernel_rfl)
end

section
open Go.RowKit Go.ChangeShapes Go.WideShapes Go.Deep

/-- The cells' kinds of a flat type; none: it is not flat. -/
def flatDesc (P : Program) : Nat → TypeId → Option (List TypeDesc)
  | 0, _ => none
  | n + 1, t => match P.underlying t with
    | some (.int k) => some [.int k]
    | some .bool => some [.bool]
    | some .string => some [.string]
    | some (.struct fs) => fs.toList.foldlM (fun (acc : List TypeDesc) f => if f.offset = acc.length then (flatDesc P n f.type).bind (fun l => if P.cellsOf f.type = l.length then some (acc ++ l) else none) else none) [] >>= (fun ds => if P.cellsOf t = ds.length then some ds else none)
    | some (.array m e) => (flatDesc P n e).bind (fun l => if P.cellsOf e = l.length ∧ P.cellsOf t = m * l.length then some (List.replicate m l).flatten else none)
    | _ => none

/-- A cell is of its kind. -/
def cellOk (d : TypeDesc) (v : Value) : Prop := match d with
  | .int k => ∃ n, v = .int k n ∧ k.min ≤ n ∧ n ≤ k.max
  | .bool => ∃ b, v = .bool b
  | .string => ∃ s, v = .string s ∧ s.size ≤ maxLen
  | _ => False

theorem replicate_flatten_get {α : Type} {l : List α} : ∀ (m i : Nat), (List.replicate m l).flatten[i]? = if i < m * l.length then l[i % l.length]? else none := by
  intro m
  induction m with
  | zero => intro i; simp
  | succ m ih =>
    intro i
    rw [List.replicate_succ, List.flatten_cons]
    by_cases h : i < l.length
    · rw [List.getElem?_append_left h, if_pos (by rw [Nat.succ_mul]; omega), Nat.mod_eq_of_lt h]
    · rw [List.getElem?_append_right (by omega), ih]
      by_cases h2 : i < (m + 1) * l.length
      · rw [Nat.succ_mul] at h2
        rw [if_pos (by omega), if_pos (by rw [Nat.succ_mul]; omega), ← Nat.mod_eq_sub_mod (by omega)]
      · rw [if_neg (by rw [Nat.succ_mul] at h2; omega), if_neg h2]

section
variable {H : Type} {enc : TypeId × Value → H} {P : Program} {w : World} {base : Nat} {spare : Nat → Bool} {held : Bool}

/-- All cells of its kinds. -/
def allOk (ds : List TypeDesc) (cs : List Value) : Prop := cs.length = ds.length ∧ ∀ (i : Nat) (d : TypeDesc) (v : Value), ds[i]? = some d → cs[i]? = some v → cellOk d v

theorem flat_trod : ∀ (n : Nat) (t : TypeId) (ds : List TypeDesc) (fuel : Nat) (cs : List Value) (x : DataW H × List MemPlace), flatDesc P n t = some ds → DataW.trod enc P w base spare held fuel t cs = some x → allOk ds cs := by
  intro n
  induction n with
  | zero => intro t ds fuel cs x h; simp [flatDesc] at h
  | succ n ih =>
    intro t ds fuel cs x h ht
    unfold flatDesc at h
    cases hu : P.underlying t with
    | none => simp [hu] at h
    | some d =>
      rw [hu] at h
      cases d with
      | int k =>
        simp only [Option.some.injEq] at h
        subst h
        obtain ⟨m, rfl, _, hw⟩ := DataW.trod_int hu ht
        simp only [Lit.wf, Bool.and_eq_true, decide_eq_true_eq] at hw
        refine ⟨rfl, fun i d v hd hv => ?_⟩
        match i with
        | 0 => simp only [List.getElem?_cons_zero, Option.some.injEq] at hd hv; subst hd; subst hv; exact ⟨m, rfl, hw.1, hw.2⟩
        | i + 1 => simp at hd
      | bool =>
        simp only [Option.some.injEq] at h
        subst h
        obtain ⟨m, rfl, _⟩ := DataW.trod_bool hu ht
        refine ⟨rfl, fun i d v hd hv => ?_⟩
        match i with
        | 0 => simp only [List.getElem?_cons_zero, Option.some.injEq] at hd hv; subst hd; subst hv; exact ⟨m, rfl⟩
        | i + 1 => simp at hd
      | string =>
        simp only [Option.some.injEq] at h
        subst h
        obtain ⟨m, rfl, _, hw⟩ := DataW.trod_string hu ht
        refine ⟨rfl, fun i d v hd hv => ?_⟩
        match i with
        | 0 => simp only [List.getElem?_cons_zero, Option.some.injEq] at hd hv; subst hd; subst hv; exact ⟨m, rfl, hw⟩
        | i + 1 => simp at hd
      | struct fs =>
        simp only [Option.bind_eq_bind, Option.bind_eq_some_iff] at h
        obtain ⟨ds0, h, hlast⟩ := h
        have hct : P.cellsOf t = ds0.length := by
          by_cases hc : P.cellsOf t = ds0.length
          · exact hc
          · rw [if_neg hc] at hlast; cases hlast
        rw [if_pos hct, Option.some.injEq] at hlast
        subst hlast
        obtain ⟨xs, m, _, _, hl, hxl, hf⟩ := DataW.trod_struct hu ht
        -- the pieces, one behind the other
        have key : ∀ (l : List Field) (acc ds : List TypeDesc), (∀ f ∈ l, ∃ y, DataW.trod enc P w base spare held m f.type ((cs.drop f.offset).take (P.cellsOf f.type)) = some y) →
            l.foldlM (fun (acc : List TypeDesc) f => if f.offset = acc.length then (flatDesc P n f.type).bind (fun l => if P.cellsOf f.type = l.length then some (acc ++ l) else none) else none) acc = some ds →
            (acc.length ≤ cs.length ∧ ∀ (i : Nat) (d : TypeDesc) (v : Value), acc[i]? = some d → cs[i]? = some v → cellOk d v) →
            ds.length ≤ cs.length ∧ ∀ (i : Nat) (d : TypeDesc) (v : Value), ds[i]? = some d → cs[i]? = some v → cellOk d v := by
          intro l
          induction l with
          | nil => intro acc ds _ h ha; simp at h; subst h; exact ha
          | cons f r ihl =>
            intro acc ds hall h ha
            rw [List.foldlM_cons] at h
            by_cases ho : f.offset = acc.length
            · rw [if_pos ho] at h
              cases hfd : flatDesc P n f.type with
              | none => simp [hfd] at h
              | some l0 =>
                rw [hfd] at h
                by_cases hc : P.cellsOf f.type = l0.length
                · simp only [Option.bind_some, if_pos hc, Option.bind_eq_bind] at h
                  obtain ⟨y, hy⟩ := hall f (by simp)
                  obtain ⟨pl, pc⟩ := ih _ _ _ _ _ hfd hy
                  rw [List.length_take, List.length_drop, hc, ho] at pl
                  refine ihl _ _ (fun g hg => hall g (by simp [hg])) h ⟨by rw [List.length_append]; omega, fun i d v hd hv => ?_⟩
                  by_cases hi : i < acc.length
                  · rw [List.getElem?_append_left hi] at hd
                    exact ha.2 i d v hd hv
                  · rw [List.getElem?_append_right (by omega)] at hd
                    have hil : i - acc.length < l0.length := (List.getElem?_eq_some_iff.1 hd).1
                    refine pc (i - acc.length) d v hd ?_
                    rw [List.getElem?_take, if_pos (by omega), List.getElem?_drop, ho, show acc.length + (i - acc.length) = i by omega]
                    exact hv
                · simp only [Option.bind_some, if_neg hc] at h
                  simp at h
            · rw [if_neg ho] at h; simp at h
        have hall : ∀ f ∈ fs.toList, ∃ y, DataW.trod enc P w base spare held m f.type ((cs.drop f.offset).take (P.cellsOf f.type)) = some y := by
          intro f hfm
          obtain ⟨j, hj, hjf⟩ := List.getElem_of_mem hfm
          have hj' : fs[j]? = some f := by
            rw [← Array.getElem?_toList, List.getElem?_eq_getElem hj, hjf]
          have := hf j f hj'
          have hjx : j < xs.length := by rw [hxl]; simpa using hj
          exact ⟨xs[j], by rw [this, List.getElem?_eq_getElem hjx]⟩
        have hk := key fs.toList [] ds0 hall h ⟨by simp, fun i d v hd => by simp at hd⟩
        exact ⟨by rw [hl, hct], hk.2⟩
      | array m e =>
        simp only at h
        cases hfd : flatDesc P n e with
        | none => simp [hfd] at h
        | some l0 =>
          rw [hfd] at h
          by_cases hc : P.cellsOf e = l0.length ∧ P.cellsOf t = m * l0.length
          · simp only [Option.bind_some, if_pos hc, Option.some.injEq] at h
            subst h
            obtain ⟨xs, k, _, _, hl, hxl, hf⟩ := DataW.trod_array hu ht
            have hfl : (List.replicate m l0).flatten.length = m * l0.length := by simp
            refine ⟨by rw [hl, hc.2, hfl], fun i d v hd hv => ?_⟩
            rw [replicate_flatten_get] at hd
            by_cases hi : i < m * l0.length
            · rw [if_pos hi] at hd
              have hpos : 0 < l0.length := by rcases Nat.eq_zero_or_pos l0.length with h0 | h0; · rw [h0] at hi; omega
                                              · exact h0
              have hq : i / l0.length < m := Nat.div_lt_of_lt_mul (by rw [Nat.mul_comm]; exact hi)
              have hp := hf (i / l0.length) hq
              have hx : i / l0.length < xs.length := by rw [hxl]; exact hq
              rw [List.getElem?_eq_getElem hx] at hp
              obtain ⟨pl, pc⟩ := ih _ _ _ _ _ hfd hp
              refine pc (i % l0.length) d v hd ?_
              rw [hc.1, List.getElem?_take, if_pos (Nat.mod_lt _ hpos), List.getElem?_drop, Nat.mul_comm, Nat.div_add_mod]
              exact hv
            · rw [if_neg hi] at hd; cases hd
          · simp only [Option.bind_some, if_neg hc] at h
            simp at h
      | _ => simp at h
end
end

section
open Go.RowKit Go.ChangeShapes Go.WideShapes Go.Deep

theorem weightsAll_mem {H : Type} {P : Program} {e : TypeId} : ∀ {ds : List (DataW H)} {j : Nat} {d : DataW H}, ds[j]? = some d → ∀ n ∈ d.weights P e, n ∈ DataW.weightsAll P e ds
  | d0 :: ds, 0, d, hd, n, hn => by
    simp only [List.getElem?_cons_zero, Option.some.injEq] at hd
    subst hd
    simp only [DataW.weightsAll, List.mem_append]
    exact Or.inl hn
  | d0 :: ds, j + 1, d, hd, n, hn => by
    simp only [List.getElem?_cons_succ] at hd
    simp only [DataW.weightsAll, List.mem_append]
    exact Or.inr (weightsAll_mem hd n hn)
  | [], _, _, hd, _, _ => by simp at hd

section
variable {H : Type} {enc : TypeId × Value → H} {P : Program} {w : World} {base : Nat} {spare : Nat → Bool} {held : Bool}
theorem flat_weights : ∀ (n : Nat) (t : TypeId) (ds : List TypeDesc) (fuel : Nat) (cs : List Value) (x : DataW H × List MemPlace), flatDesc P n t = some ds → DataW.trod enc P w base spare held fuel t cs = some x →
    ∀ (i : Nat) (s : ByteArray), cs[i]? = some (.string s) → s.size ∈ x.1.weights P t := by
  intro n
  induction n with
  | zero => intro t ds fuel cs x h; simp [flatDesc] at h
  | succ n ih =>
    intro t ds fuel cs x h ht i s hs
    have hall := flat_trod (n + 1) t ds fuel cs x h ht
    unfold flatDesc at h
    cases hu : P.underlying t with
    | none => simp [hu] at h
    | some d =>
      rw [hu] at h
      cases d with
      | int k =>
        obtain ⟨m, rfl, _, hw⟩ := DataW.trod_int hu ht
        match i with
        | 0 => simp at hs
        | i + 1 => simp at hs
      | bool =>
        obtain ⟨m, rfl, _⟩ := DataW.trod_bool hu ht
        match i with
        | 0 => simp at hs
        | i + 1 => simp at hs
      | string =>
        obtain ⟨m, rfl, hx, hw⟩ := DataW.trod_string hu ht
        match i with
        | 0 =>
          simp only [List.getElem?_cons_zero, Option.some.injEq, Value.string.injEq] at hs
          subst hs
          rw [hx]
          unfold DataW.weights
          rw [List.mem_singleton]
          exact Array.length_toList.symm
        | i + 1 => simp at hs
      | struct fs =>
        simp only [Option.bind_eq_bind, Option.bind_eq_some_iff] at h
        obtain ⟨ds0, h, hlast⟩ := h
        have hct : P.cellsOf t = ds0.length := by
          by_cases hc : P.cellsOf t = ds0.length
          · exact hc
          · rw [if_neg hc] at hlast; cases hlast
        obtain ⟨xs, m, _, hx, hl, hxl, hf⟩ := DataW.trod_struct hu ht
        have hW : x.1.weights P t = DataW.weightsEach P (fs.toList.map (·.type)) (xs.map (·.1)) := by rw [hx]; simp [DataW.weights, hu]
        rw [hW]
        have key : ∀ (l : List Field) (acc ds : List TypeDesc), (∀ f ∈ l, ∃ y, DataW.trod enc P w base spare held m f.type ((cs.drop f.offset).take (P.cellsOf f.type)) = some y ∧ ∀ q ∈ y.1.weights P f.type, q ∈ DataW.weightsEach P (fs.toList.map (·.type)) (xs.map (·.1))) →
            l.foldlM (fun (acc : List TypeDesc) f => if f.offset = acc.length then (flatDesc P n f.type).bind (fun l => if P.cellsOf f.type = l.length then some (acc ++ l) else none) else none) acc = some ds →
            (∀ (i : Nat) (s : ByteArray), i < acc.length → cs[i]? = some (.string s) → s.size ∈ DataW.weightsEach P (fs.toList.map (·.type)) (xs.map (·.1))) →
            ∀ (i : Nat) (s : ByteArray), i < ds.length → cs[i]? = some (.string s) → s.size ∈ DataW.weightsEach P (fs.toList.map (·.type)) (xs.map (·.1)) := by
          intro l
          induction l with
          | nil => intro acc ds _ h ha; simp at h; subst h; exact ha
          | cons f r ihl =>
            intro acc ds hall h ha
            rw [List.foldlM_cons] at h
            by_cases ho : f.offset = acc.length
            · rw [if_pos ho] at h
              cases hfd : flatDesc P n f.type with
              | none => simp [hfd] at h
              | some l0 =>
                rw [hfd] at h
                by_cases hc : P.cellsOf f.type = l0.length
                · simp only [Option.bind_some, if_pos hc, Option.bind_eq_bind] at h
                  obtain ⟨y, hy, hyw⟩ := hall f (by simp)
                  refine ihl _ _ (fun g hg => hall g (by simp [hg])) h (fun i s hi hv => ?_)
                  by_cases hia : i < acc.length
                  · exact ha i s hia hv
                  · rw [List.length_append] at hi
                    refine hyw _ (ih _ _ _ _ _ hfd hy (i - acc.length) s ?_)
                    rw [List.getElem?_take, if_pos (by omega), List.getElem?_drop, ho, show acc.length + (i - acc.length) = i by omega]
                    exact hv
                · simp only [Option.bind_some, if_neg hc] at h
                  simp at h
            · rw [if_neg ho] at h; simp at h
        have hall' : ∀ f ∈ fs.toList, ∃ y, DataW.trod enc P w base spare held m f.type ((cs.drop f.offset).take (P.cellsOf f.type)) = some y ∧ ∀ q ∈ y.1.weights P f.type, q ∈ DataW.weightsEach P (fs.toList.map (·.type)) (xs.map (·.1)) := by
          intro f hfm
          obtain ⟨j, hj, hjf⟩ := List.getElem_of_mem hfm
          have hj' : fs[j]? = some f := by
            rw [← Array.getElem?_toList, List.getElem?_eq_getElem hj, hjf]
          have := hf j f hj'
          have hjx : j < xs.length := by rw [hxl]; simpa using hj
          refine ⟨xs[j], by rw [this, List.getElem?_eq_getElem hjx], fun q hq => DataW.weights_mem_each (j := j) (t := f.type) (d := xs[j].1) ?_ ?_ q hq⟩
          · rw [List.getElem?_map, List.getElem?_eq_getElem hj, hjf]; rfl
          · rw [List.getElem?_map, List.getElem?_eq_getElem hjx]; rfl
        refine key fs.toList [] ds0 hall' h (fun i s hi => by simp at hi) i s ?_ hs
        have := (List.getElem?_eq_some_iff.1 hs).1
        omega
      | array m e =>
        simp only at h
        cases hfd : flatDesc P n e with
        | none => simp [hfd] at h
        | some l0 =>
          rw [hfd] at h
          by_cases hc : P.cellsOf e = l0.length ∧ P.cellsOf t = m * l0.length
          · obtain ⟨xs, k, _, hx, hl, hxl, hf⟩ := DataW.trod_array hu ht
            have hW : x.1.weights P t = DataW.weightsAll P e (xs.map (·.1)) := by rw [hx]; simp [DataW.weights, hu]
            rw [hW]
            have hi : i < m * l0.length := by have := (List.getElem?_eq_some_iff.1 hs).1; omega
            have hpos : 0 < l0.length := by rcases Nat.eq_zero_or_pos l0.length with h0 | h0; · rw [h0] at hi; omega
                                            · exact h0
            have hq : i / l0.length < m := Nat.div_lt_of_lt_mul (by rw [Nat.mul_comm]; exact hi)
            have hp := hf (i / l0.length) hq
            have hxx : i / l0.length < xs.length := by rw [hxl]; exact hq
            rw [List.getElem?_eq_getElem hxx] at hp
            refine weightsAll_mem (j := i / l0.length) (d := xs[i / l0.length].1) (by rw [List.getElem?_map, List.getElem?_eq_getElem hxx]; rfl) _ (ih _ _ _ _ _ hfd hp (i % l0.length) s ?_)
            rw [hc.1, List.getElem?_take, if_pos (Nat.mod_lt _ hpos), List.getElem?_drop, Nat.mul_comm, Nat.div_add_mod]
            exact hs
          · simp only [Option.bind_some, if_neg hc] at h
            simp at h
      | _ => simp at h
end
end

section
open Go.RowKit Go.ChangeShapes Go.WideShapes Go.Deep

section
variable {H : Type} {enc : TypeId × Value → H} {P : Program} {w : World} {base : Nat} {spare : Nat → Bool} {held : Bool}
theorem open_rows_w {t e : TypeId} {n : Nat} {ds : List TypeDesc} {fuel : Nat} {cs : List Value} {x : DataW H × List MemPlace} (ht : P.underlying t = some (.slice e)) (hfl : flatDesc P n e = some ds) (hcl : P.cellsOf e = ds.length) (hpos : 0 < ds.length)
    (h : DataW.trod enc P w base spare held fuel t cs = some x) :
    ∃ A len cap zs, cs = [.slice A len cap] ∧ len ≤ cap ∧ cap ≤ maxLen ∧ Rws w ds.length A len zs ∧ ∀ z ∈ zs, allOk ds z ∧ ∀ (i : Nat) (s : ByteArray), z[i]? = some (.string s) → s.size ∈ x.1.weights P t := by
  rcases open_slice ht h with ⟨h0, _⟩ | ⟨a, len, cap, m, k, D, Pl, hcs, hb, hl, hm, hmm, hx, hi⟩
  · exact ⟨none, 0, 0, [], h0, Nat.le_refl _, by decide, Rws.nil_, by simp⟩
  · have hrows : ∀ i, i < len → ∃ cs', w.cells? base (a.add (i * ds.length)) ds.length = some cs' ∧ (allOk ds cs' ∧ ∀ (i : Nat) (s : ByteArray), cs'[i]? = some (.string s) → s.size ∈ x.1.weights P t) := by
      intro i hil
      have him : i < m := by rw [hmm]; split <;> omega
      obtain ⟨cs', hc, htr⟩ := hi i him
      rw [hcl] at hc
      refine ⟨cs', hc, flat_trod n e ds _ _ _ hfl htr, fun q s hq => ?_⟩
      have hwt := flat_weights n e ds _ _ _ hfl htr q s hq
      rw [hx]
      simp only [DataW.weights, ht, List.mem_cons, List.mem_append]
      exact Or.inr (Or.inl (weightsAll_mem (j := i) (d := D i) (by rw [List.getElem?_map, List.getElem?_range hil]; rfl) _ hwt))
    rcases Nat.eq_zero_or_pos len with h0 | h0
    · subst h0
      exact ⟨some a, 0, cap, [], hcs, hl, hm, Rws.nil_, by simp⟩
    · -- the address is plain
      have hspot : a.spot = none := by
        obtain ⟨cs', hc, _⟩ := hrows 0 h0
        obtain ⟨_, hcl', hat⟩ := World.cells?_some hc
        have h1 := hat 0 hpos
        have h2 : ((a.add (0 * ds.length)).add 0) = a := by simp [Addr.add]
        rw [h2, List.getElem?_eq_getElem (by omega)] at h1
        unfold World.cell? at h1
        cases hs : a.spot with
        | none => rfl
        | some s =>
          simp only [hs, Option.isSome_some, if_true] at h1
          split at h1 <;> cases h1
      obtain ⟨b, off, sp⟩ := a
      subst hspot
      have hz : ∃ zs : List (List Value), zs.length = len ∧ ∀ j z, zs[j]? = some z → w.cells? base ((⟨b, off, none⟩ : Addr).add (j * ds.length)) ds.length = some z ∧ (allOk ds z ∧ ∀ (i : Nat) (s : ByteArray), z[i]? = some (.string s) → s.size ∈ x.1.weights P t) := by
        clear hcs hl hmm hi h0 h
        have : ∀ l, l ≤ len → ∃ zs : List (List Value), zs.length = l ∧ ∀ j z, zs[j]? = some z → w.cells? base ((⟨b, off, none⟩ : Addr).add (j * ds.length)) ds.length = some z ∧ (allOk ds z ∧ ∀ (i : Nat) (s : ByteArray), z[i]? = some (.string s) → s.size ∈ x.1.weights P t) := by
          intro l
          induction l with
          | zero => intro _; exact ⟨[], rfl, by simp⟩
          | succ l ih =>
            intro hl
            obtain ⟨zs, hlz, hzz⟩ := ih (by omega)
            obtain ⟨c, hc, hok⟩ := hrows l (by omega)
            refine ⟨zs ++ [c], by simp [hlz], fun j z hj => ?_⟩
            by_cases hjl : j < zs.length
            · rw [List.getElem?_append_left hjl] at hj
              exact hzz j z hj
            · rw [List.getElem?_append_right (by omega)] at hj
              have : j = l := by
                have := (List.getElem?_eq_some_iff.1 hj).1
                simp at this
                omega
              subst this
              rw [hlz, Nat.sub_self] at hj
              simp only [List.getElem?_cons_zero, Option.some.injEq] at hj
              subst hj
              exact ⟨hc, hok⟩
        exact this len (Nat.le_refl _)
      obtain ⟨zs, hzl, hzz⟩ := hz
      have hblt : b < w.heap.size := by
        obtain ⟨cs', hc, _⟩ := hrows 0 h0
        obtain ⟨_, hcl', hat⟩ := World.cells?_some hc
        have h1 := hat 0 hpos
        have h2 : (((⟨b, off, none⟩ : Addr).add (0 * ds.length)).add 0) = ⟨b, off, none⟩ := by simp [Addr.add]
        rw [h2, List.getElem?_eq_getElem (by omega)] at h1
        exact block_lt_of_cell h1
      refine ⟨some ⟨b, off, none⟩, len, cap, zs, hcs, hl, hm, ⟨hzl, fun z hz => ?_, fun _ => ⟨b, off, rfl, hblt, fun j z hj i v hv => ?_⟩⟩, fun z hz => ?_⟩
      · obtain ⟨j, hj, rfl⟩ := List.getElem_of_mem hz
        exact (hzz j _ (List.getElem?_eq_getElem hj)).2.1.1
      · obtain ⟨hc, hok⟩ := hzz j z hj
        obtain ⟨_, hcl', hat⟩ := World.cells?_some hc
        have hi' : i < ds.length := by have := (List.getElem?_eq_some_iff.1 hv).1; omega
        have := hat i hi'
        rw [Addr.add_mid, Addr.add_mid] at this
        rw [this, hv]
      · obtain ⟨j, hj, rfl⟩ := List.getElem_of_mem hz
        exact (hzz j _ (List.getElem?_eq_getElem hj)).2
theorem open_rows {t e : TypeId} {n : Nat} {ds : List TypeDesc} {fuel : Nat} {cs : List Value} {x : DataW H × List MemPlace} (ht : P.underlying t = some (.slice e)) (hfl : flatDesc P n e = some ds) (hcl : P.cellsOf e = ds.length) (hpos : 0 < ds.length)
    (h : DataW.trod enc P w base spare held fuel t cs = some x) :
    ∃ A len cap zs, cs = [.slice A len cap] ∧ len ≤ cap ∧ cap ≤ maxLen ∧ Rws w ds.length A len zs ∧ ∀ z ∈ zs, allOk ds z := by
  obtain ⟨A, len, cap, zs, h1, h2, h3, h4, h5⟩ := open_rows_w ht hfl hcl hpos h
  exact ⟨A, len, cap, zs, h1, h2, h3, h4, fun z hz => (h5 z hz).1⟩
end
end

section
open Go.RowKit

/-- The slice value v holds the rows zs, in a block of the call's own (from block 'base' on). -/
def OwnR (w : World) (base k : Nat) (E : TypeId) (v : Value) (zs : List (List Value)) : Prop := w.ownsRow base E k v zs.length zs.flatten ∧ ∀ z ∈ zs, z.length = k

theorem OwnR.nil_ (w : World) (base k : Nat) (E : TypeId) : OwnR w base k E (.slice none 0 0) [] := ⟨World.ownsRow_nil w base E k, by simp⟩
theorem OwnR.keep {w w' : World} {base k : Nat} {E : TypeId} {v : Value} {zs : List (List Value)} (h : OwnR w base k E v zs) (hb : Below w.heap.size w w') : OwnR w' base k E v zs := by
  obtain ⟨⟨hl, hh⟩, hz⟩ := h
  refine ⟨⟨hl, ?_⟩, hz⟩
  rcases hh with h0 | ⟨g, cap, cur, hv, hg, hc, r⟩
  · exact .inl h0
  · have hlt : g < w.heap.size := (Array.getElem?_eq_some_iff.1 hc).1
    exact .inr ⟨g, cap, cur, hv, hg, (hb.block g hlt).trans hc, r⟩
theorem flat_get {k : Nat} : ∀ {zs : List (List Value)}, (∀ z ∈ zs, z.length = k) → ∀ {j : Nat} {z : List Value}, zs[j]? = some z → ∀ {i : Nat} {v : Value}, z[i]? = some v → zs.flatten[j * k + i]? = some v := by
  intro zs
  induction zs with
  | nil => intro _ j z hz; simp at hz
  | cons y ys ih =>
    intro hk j z hz i v hv
    have hy : y.length = k := hk y (by simp)
    cases j with
    | zero =>
      simp only [List.getElem?_cons_zero, Option.some.injEq] at hz
      subst hz
      have hi : i < y.length := (List.getElem?_eq_some_iff.1 hv).1
      rw [List.flatten_cons, List.getElem?_append_left (by omega)]
      simpa using hv
    | succ j =>
      rw [List.getElem?_cons_succ] at hz
      rw [List.flatten_cons, List.getElem?_append_right (by rw [hy, Nat.succ_mul]; omega)]
      have := ih (fun z hz => hk z (by simp [hz])) hz hv
      rw [show (j + 1) * k + i - y.length = j * k + i by rw [hy, Nat.succ_mul]; omega]
      exact this
theorem OwnR.rws {w : World} {base k : Nat} {E : TypeId} {v : Value} {zs : List (List Value)} (h : OwnR w base k E v zs) : ∃ A c, v = .slice A zs.length c ∧ Rws w k A zs.length zs := by
  obtain ⟨hown, hz⟩ := h
  have hh := hown.2
  rcases hh with ⟨rfl, h0⟩ | ⟨g, cap, cur, rfl, hg, hc, _⟩
  · have : zs = [] := List.eq_nil_of_length_eq_zero h0
    subst this
    exact ⟨none, 0, rfl, Rws.nil_⟩
  · have hlt : g < w.heap.size := (Array.getElem?_eq_some_iff.1 hc).1
    refine ⟨_, _, rfl, rfl, hz, fun _ => ⟨g, 0, rfl, hlt, fun j z hj i v hv => ?_⟩⟩
    have := hown.cells (g := g) rfl _ v (flat_get hz hj hv)
    rw [Addr.add_mid] at this
    rw [show 0 + j * k + i = 0 + (j * k + i) by omega]
    exact this
theorem OwnR.lt {w : World} {base k : Nat} {E : TypeId} {v : Value} {zs : List (List Value)} (h : OwnR w base k E v zs) : ∀ g, v.ownBlock = some g → base ≤ g := fun g hg => (h.1.lt g hg).1

section
variable {P : Program} {ops : Array Oper} {Q : Exit → Act → World → Prop} {a : Act} {w : World} {rest : List Oper} {o : Oper}
/-- 'out = append(out, x)': x lies as one row in a block of its own. -/
theorem wpList_append_one (hgd : o.guard = none) (s x : Operand) (t : TypeId)
    (ho : o.op = .call { callee := .builtin .append, args := #[s, x], argTypes := #[t, t] })
    (e : TypeId) (i : TypeInfo) (z : Value) (size bytes : Nat) (ht : P.underlying t = some (.slice e)) (hi : P.info? e = some i) (hz : i.zero = some z)
    (hsize : i.size = size) (hby : i.bytes = bytes) (hzs : z.cells.size = size) (hsz : 0 < size)
    (w0 : World) (hB : Below w0.heap.size w0 w) (v : Value) (zs : List (List Value)) (hs : a.eval s = v) (hown : OwnR w w0.heap.size size e v zs)
    (g c : Nat) (row : List Value) (hx : a.eval x = .slice (some ⟨g, 0, none⟩) 1 c) (hrow : w.rangeAt g 0 row) (hl : row.length = size) (h1 : ∀ u ∈ row, u.oneCell' = true)
    (h63 : zs.length + 1 ≤ maxLen) (hbytes : (zs.length + 1) * bytes ≤ 140737488355328)
    (h : ∀ v' w', OwnR w' w0.heap.size size e v' (zs ++ [row]) → Below w0.heap.size w0 w' → w.grownBy w' v.ownBlock → wpList P ops Q rest (a.put o.dst v') w') : wpList P ops Q (o :: rest) a w := by
  refine wpList_append_own w hgd s x t ho w0.heap.size e i z size bytes ht hi hz hsize hby hzs hsz v zs.length zs.flatten hs hown.1 ⟨g, 0, none⟩ 1 c row hx (by rw [hl, Nat.one_mul])
    (fun j u hu => by rw [Addr.add_mid]; exact hrow j u hu) h1 h63 hbytes hB.size ?_
  intro v' w' hown' hg _
  refine h v' w' ⟨by simpa [List.length_append, List.flatten_append] using hown', fun z hz => ?_⟩ (hB.grown hg hB.size hown.lt) hg
  rcases List.mem_append.1 hz with hz | hz
  · exact hown.2 z hz
  · simp only [List.mem_singleton] at hz
    subst hz
    exact hl
end

/-- One part as large as the whole fills it. -/
theorem fill_one (n : Nat) (zs cs : Array Value) (h0 : zs.size = n) (h1 : cs.size = n) : Instr.fill (fun j => some (j * n, n)) zs [(0, .agg cs)] = some cs := by
  unfold Instr.fill
  simp only [Nat.zero_mul, Value.cells, h1, h0, Nat.zero_add, Nat.lt_irrefl, decide_false, ne_eq, not_true_eq_false, Bool.or_self, Bool.false_eq_true, if_false, gt_iff_lt, Bool.or_false]
  unfold Instr.fill
  congr 1
  obtain ⟨l⟩ := cs
  have key : ∀ (l : List Value) (off : Nat) (z : Array Value), off + l.length = z.size →
      (l.zipIdx off).foldl (fun cs (x : Value × Nat) => cs.setIfInBounds x.2 x.1) z = ((z.toList.take off) ++ l).toArray := by
    intro l
    induction l with
    | nil =>
      intro off z h
      simp only [List.length_nil, Nat.add_zero] at h
      rw [List.take_of_length_le (by simp; omega)]
      simp
    | cons y ys ih =>
      intro off z h
      simp only [List.length_cons] at h
      rw [List.zipIdx_cons, List.foldl_cons, ih (off + 1) _ (by simp; omega)]
      congr 1
      simp only [Array.toList_setIfInBounds]
      rw [List.take_add_one, List.take_set, List.set_eq_of_length_le (by simp; omega), List.getElem?_set_self (by simp; omega)]
      simp
  have := key l 0 zs (by simp at h1; omega)
  simp only [List.take_zero, List.nil_append] at this
  rw [← Array.foldl_toList, Array.toList_zipIdx]
  simpa using this
end

section
theorem take_succ_of {α : Type} {l : List α} {k : Nat} {x : α} (h : l[k]? = some x) : l.take (k + 1) = l.take k ++ [x] := by
  rw [List.take_add_one, h]; rfl
theorem any_take_succ {α : Type} {l : List α} {k : Nat} {x : α} (p : α → Bool) (h : l[k]? = some x) : (l.take (k + 1)).any p = ((l.take k).any p || p x) := by
  rw [take_succ_of h, List.any_append]; simp
theorem all_take_succ {α : Type} {l : List α} {k : Nat} {x : α} (p : α → Bool) (h : l[k]? = some x) : (l.take (k + 1)).all p = ((l.take k).all p && p x) := by
  rw [take_succ_of h, List.all_append]; simp
theorem any_take_hit {α : Type} {l : List α} {k n : Nat} {x : α} (p : α → Bool) (h : l[k]? = some x) (hk : k < n) (hp : p x = true) : (l.take n).any p = true := by
  rw [List.any_eq_true]
  refine ⟨x, ?_, hp⟩
  rw [List.mem_take_iff_getElem]
  have hl : k < l.length := (List.getElem?_eq_some_iff.1 h).1
  exact ⟨k, by omega, (List.getElem?_eq_some_iff.1 h).2⟩
theorem any_hit {α : Type} {l : List α} {k : Nat} {x : α} (p : α → Bool) (h : l[k]? = some x) (hp : p x = true) : l.any p = true := by
  rw [List.any_eq_true]
  exact ⟨x, List.mem_of_getElem? h, hp⟩
theorem any_whole {α : Type} {l : List α} {n : Nat} {p : α → Bool} {b : Bool} (h : l.length ≤ n) (hp : (l.take n).any p = b) : l.any p = b := by
  rwa [List.take_of_length_le h] at hp
theorem any_take_miss {α : Type} {l : List α} {k n : Nat} {p : α → Bool} (hn : n ≤ k) (hp : (l.take k).any p = false) : (l.take n).any p = false := by
  rw [List.any_eq_false] at hp ⊢
  intro x hx
  exact hp x ((List.take_subset_take_left l hn) hx)
theorem any_take_whole {α : Type} {l : List α} {k : Nat} {p : α → Bool} (n : Nat) (h : l.length ≤ k) (hp : (l.take k).any p = false) : (l.take n).any p = false := by
  rw [List.take_of_length_le h, List.any_eq_false] at hp
  rw [List.any_eq_false]
  intro x hx
  exact hp x (List.mem_of_mem_take hx)
/-- The first place at which p holds, from i on; -1: nowhere. -/
def idx {α : Type} (p : α → Bool) (l : List α) : Int := match l.findIdx? p with | some i => (i : Int) | none => -1
theorem idx_hit {α : Type} {p : α → Bool} {l : List α} {k : Nat} {x : α} (h : l[k]? = some x) (hp : p x = true) (hm : (l.take k).any p = false) : idx p l = k := by
  have hf : l.findIdx? p = some k := by
    rw [List.findIdx?_eq_some_iff_getElem]
    have hl : k < l.length := (List.getElem?_eq_some_iff.1 h).1
    refine ⟨hl, by rw [(List.getElem?_eq_some_iff.1 h).2]; exact hp, fun j hj => ?_⟩
    rw [List.any_eq_false] at hm
    have := hm (l[j]) (by rw [List.mem_take_iff_getElem]; exact ⟨j, by omega, rfl⟩)
    simpa using this
  unfold idx; rw [hf]
theorem idx_miss {α : Type} {p : α → Bool} {l : List α} (hm : l.any p = false) : idx p l = -1 := by
  have hf : l.findIdx? p = none := by
    rw [List.findIdx?_eq_none_iff]
    rw [List.any_eq_false] at hm
    intro x hx
    simpa using hm x hx
  unfold idx; rw [hf]
theorem idx_cases {α : Type} (p : α → Bool) (l : List α) : (idx p l = -1 ∧ l.any p = false) ∨ ∃ k x, idx p l = (k : Nat) ∧ l[k]? = some x ∧ p x = true ∧ (l.take k).any p = false := by
  cases h : l.findIdx? p with
  | none =>
    left
    rw [List.findIdx?_eq_none_iff] at h
    have : l.any p = false := by rw [List.any_eq_false]; intro x hx; simp [h x hx]
    exact ⟨idx_miss this, this⟩
  | some i =>
    right
    rw [List.findIdx?_eq_some_iff_getElem] at h
    obtain ⟨hl, hp, hm⟩ := h
    have ha : (l.take i).any p = false := by
      rw [List.any_eq_false]
      intro x hx
      rw [List.mem_take_iff_getElem] at hx
      obtain ⟨j, hj, rfl⟩ := hx
      have := hm j (by omega)
      simpa using this
    exact ⟨i, l[i], idx_hit (List.getElem?_eq_getElem hl) hp ha, List.getElem?_eq_getElem hl, hp, ha⟩
theorem idx_ge {α : Type} (p : α → Bool) (l : List α) : -1 ≤ idx p l ∧ idx p l < l.length ∨ (idx p l = -1) := by
  rcases idx_cases p l with ⟨h, _⟩ | ⟨k, x, h, hx, _, _⟩
  · exact .inr h
  · left
    have hl : k < l.length := (List.getElem?_eq_some_iff.1 hx).1
    rw [h]; omega
end

section
open Go.RowKit Go.ChangeShapes Go.WideShapes Go.Deep

def sv (s : ByteArray) : List Value := [.string s]
def Strs (w : World) (A : Option Addr) (n : Nat) (ss : List ByteArray) : Prop := Rws w 1 A n (ss.map sv)
theorem Strs.keep {w w' : World} {A : Option Addr} {n : Nat} {ss : List ByteArray} (h : Strs w A n ss) (hb : Below w.heap.size w w') : Strs w' A n ss := Rws.keep h hb
theorem Strs.len {w : World} {A : Option Addr} {n : Nat} {ss : List ByteArray} (h : Strs w A n ss) : ss.length = n := by simpa using h.1
theorem Strs.nil_ {w : World} {A : Option Addr} : Strs w A 0 [] := Rws.nil_
theorem Strs.at_ {w : World} {A : Option Addr} {n : Nat} {ss : List ByteArray} (h : Strs w A n ss) {j : Nat} (hj : j < n) :
    ∃ b off s, A = some ⟨b, off, none⟩ ∧ b < w.heap.size ∧ ss[j]? = some s ∧ w.cell? ⟨b, off + j, none⟩ = some (.string s) := by
  obtain ⟨b, off, z, e, hlt, hz, _, hr⟩ := Rws.row h hj
  rw [List.getElem?_map] at hz
  cases he : ss[j]? with
  | none => rw [he] at hz; cases hz
  | some x =>
    rw [he] at hz
    simp only [Option.map_some, Option.some.injEq] at hz
    subst hz
    have := hr 0 _ rfl
    rw [Nat.mul_one, Nat.add_zero] at this
    exact ⟨b, off, x, e, hlt, rfl, this⟩
/-- A beginning of a slice. -/
theorem Rws.take_ {w : World} {k n m : Nat} {A : Option Addr} {zs : List (List Value)} (h : Rws w k A n zs) (hm : m ≤ n) : Rws w k A m (zs.take m) :=
  ⟨by rw [List.length_take, h.1]; omega, fun z hz => h.2.1 z (List.mem_of_mem_take hz), fun hp => by
    obtain ⟨b, off, e, hlt, hc⟩ := h.2.2 (by omega)
    refine ⟨b, off, e, hlt, fun j z hz => ?_⟩
    rw [List.getElem?_take] at hz
    split at hz
    · exact hc j z hz
    · cases hz⟩
theorem Strs.take_ {w : World} {A : Option Addr} {n m : Nat} {ss : List ByteArray} (h : Strs w A n ss) (hm : m ≤ n) : Strs w A m (ss.take m) := by
  unfold Strs
  rw [List.map_take]
  exact Rws.take_ h hm

def strDs : List TypeDesc := [.string]
theorem str_flat : flatDesc Tryd.prog 2 9 = some strDs := by kernel_rfl
theorem strs_of_rows : ∀ (zs : List (List Value)), (∀ z ∈ zs, allOk strDs z) → ∃ ss : List ByteArray, zs = ss.map sv ∧ ∀ s ∈ ss, s.size ≤ maxLen
  | [], _ => ⟨[], rfl, by simp⟩
  | z :: r, h => by
    obtain ⟨hl, hc⟩ := h z (by simp)
    match z, hl with
    | [c0], _ =>
      obtain ⟨s, rfl, hs⟩ := hc 0 _ _ rfl rfl
      obtain ⟨ss, rfl, hss⟩ := strs_of_rows r (fun y hy => h y (by simp [hy]))
      refine ⟨s :: ss, rfl, fun x hx => ?_⟩
      rcases List.mem_cons.1 hx with rfl | hx
      · exact hs
      · exact hss x hx
set_option maxRecDepth 100000 in
theorem open_strs' {H : Type} {enc : TypeId × Value → H} {w : World} {base : Nat} {spare : Nat → Bool} {held : Bool} {r : Reach} {b0 : Nat} {v : Value} {d : DataW H} {ps : List MemPlace}
    (hv : Value.okWide Tryd.prog w r b0 32 v) (h : DataW.Trod enc Tryd.prog w base spare held 32 v d ps) :
    ∃ A n c ss, v = .slice A n c ∧ n ≤ c ∧ c ≤ 9223372036854775807 ∧ Strs w A n ss ∧ ∀ s ∈ ss, s.size ≤ 9223372036854775807 := by
  obtain ⟨a, len, cap, rfl⟩ := okWide_slice Tryd.underlying32 hv
  obtain ⟨fuel, hf⟩ := h
  obtain ⟨A, n, c, zs, hcs, hl, hm, hr, hok⟩ := open_rows Tryd.underlying32 str_flat (by kernel_rfl) (by decide) hf
  obtain ⟨ss, rfl, hss⟩ := strs_of_rows zs hok
  have : Value.slice a len cap = .slice A n c := by simpa [Value.cells] using hcs
  unfold maxLen at hm hss
  exact ⟨A, n, c, ss, this, hl, by omega, hr, fun s hs => by have := hss s hs; omega⟩

/-- A slice of strings of the call's own. -/
def OwnS (w : World) (base : Nat) (v : Value) (ss : List ByteArray) : Prop := OwnR w base 1 9 v (ss.map sv)
theorem OwnS.strs {w : World} {base : Nat} {v : Value} {ss : List ByteArray} (h : OwnS w base v ss) : ∃ A c, v = .slice A ss.length c ∧ Strs w A ss.length ss := by
  obtain ⟨A, c, hv, hr⟩ := OwnR.rws h
  rw [List.length_map] at hv hr
  exact ⟨A, c, hv, hr⟩
theorem OwnS.keep {w w' : World} {base : Nat} {v : Value} {ss : List ByteArray} (h : OwnS w base v ss) (hb : Below w.heap.size w w') : OwnS w' base v ss := OwnR.keep h hb
theorem str_info : (Tryd.prog.info? 9).map (fun i => (i.zero, i.size, i.bytes)) = some (some (.string ByteArray.empty), 1, 16) := by kernel_rfl

theorem Strs.block {w : World} {g : Nat} {ss : List ByteArray} {t : TypeId} {fr : Nat × Nat} (h : w.heap[g]? = some (.cells (ss.flatMap sv).toArray t fr)) (hlt : g < w.heap.size) : Strs w (some ⟨g, 0, none⟩) ss.length ss := by
  have := Rws.block (w := w) (zs := ss.map sv) (k := 1) (by intro z hz; obtain ⟨e, _, rfl⟩ := List.mem_map.1 hz; rfl) (by rw [← List.flatMap_def]; exact h) hlt
  simpa [Strs] using this

def has (ss : List ByteArray) (s : ByteArray) : Bool := ss.any (· == s)
def first (ss ts : List ByteArray) : Option ByteArray := ss.find? (has ts)
end

section
open Go.RowKit

theorem beqS (x s : ByteArray) : (x == s) = (x.toList == s.toList) := beq_toListBytes x s
theorem bs_ext {x y : ByteArray} (h : x.toList = y.toList) : x = y := by
  rw [ByteArray.toList_eq, ByteArray.toList_eq] at h
  cases x; cases y
  simp only [ByteArray.mk.injEq]
  exact Array.toList_inj.1 h
theorem bs_eq {x y : ByteArray} (h : (x.toList == y.toList) = true) : x = y := bs_ext (by simpa using h)
theorem bs_ne {x y : ByteArray} (h : (x.toList == y.toList) = false) : x ≠ y := by
  rintro rfl
  simp at h
theorem beqS_iff {x y : ByteArray} : (x == y) = true ↔ x = y := ⟨fun h => bs_eq ((beqS x y).symm.trans h), fun h => by subst h; rw [beqS]; simp⟩

set_option maxHeartbeats 400000 in
theorem refHas_any (ss : List ByteArray) (A : Option Addr) (n c : Nat) (s : ByteArray) (w : World) (hn : n ≤ 9223372036854775807) (H : Strs w A n ss) :
    Calls Tryd.prog 31 #[.slice A n c, .string s] w fun r w' => r = .returned (.bool (has ss s)) ∧ w = w' := by
  have hlen := Lib.hid H.len
  go_enter Tryd.func31, Tryd.ntmps31
  go_wp2
  go_loop [5] (fun i => ∃ k : Nat, k ≤ n ∧ i = .int .i64 k ∧ Hid (((ss.take k).any (· == s)) = false)) (fun i => n - (intOf i).toNat)
  case atStart => exact ⟨0, by omega, rfl, by simp [Hid]⟩
  case round =>
    obtain ⟨k, hk, rfl, hf⟩ := hrel
    by_cases hlt : k < n
    · obtain ⟨b, off, x, rfl, hb, hx, hc⟩ := H.at_ hlt
      have hx := Lib.hid hx
      cases he : (x.toList == s.toList) with
      | true =>
        have hq := Lib.hid (show (x == s) = true by rw [beqS, he])
        go_wp2
        go_ret
        exact ⟨ret_bool (any_hit _ hx.out hq.out).symm, rfl⟩
      | false =>
        have hq := Lib.hid (show (x == s) = false by rw [beqS, he])
        go_wp2
        go_round
        case rel => exact ⟨k + 1, by omega, by go_num, (by unfold Hid; rw [any_take_succ _ hx.out, hf.out, hq.out]; rfl)⟩
        case measure => simp [intOf]; omega
    · go_wp2
      go_ret
      exact ⟨ret_bool (any_whole (n := k) (by rw [hlen.out]; omega) hf.out).symm, rfl⟩

set_option maxHeartbeats 400000 in
theorem indexS_any (ss : List ByteArray) (A : Option Addr) (n c : Nat) (s : ByteArray) (w : World) (hn : n ≤ 9223372036854775807) (H : Strs w A n ss) :
    Calls Tryd.prog 57 #[.slice A n c, .string s] w fun r w' => r = .returned (.int .i64 (idx (· == s) ss)) ∧ w = w' := by
  have hlen := Lib.hid H.len
  go_enter Tryd.func57, Tryd.ntmps57
  go_wp2
  go_loop [5, 8] (fun _ i => ∃ k : Nat, k ≤ n ∧ i = .int .i64 k ∧ Hid (((ss.take k).any (· == s)) = false)) (fun _ i => n - (intOf i).toNat)
  case atStart => exact ⟨0, by omega, rfl, by simp [Hid]⟩
  case round =>
    obtain ⟨k, hk, rfl, hf⟩ := hrel
    by_cases hlt : k < n
    · obtain ⟨b, off, x, rfl, hb, hx, hc⟩ := H.at_ hlt
      have hx := Lib.hid hx
      cases he : (s.toList == x.toList) with
      | true =>
        have hq := Lib.hid (show (x == s) = true by rw [beqS, BEq.comm, he])
        go_wp2
        go_ret
        exact ⟨ret_int (idx_hit hx.out hq.out hf.out).symm, rfl⟩
      | false =>
        have hq := Lib.hid (show (x == s) = false by rw [beqS, BEq.comm, he])
        go_wp2
        go_round
        case rel => exact ⟨k + 1, by omega, by go_num, (by unfold Hid; rw [any_take_succ _ hx.out, hf.out, hq.out]; rfl)⟩
        case measure => simp [intOf]; omega
    · go_wp2
      go_ret
      exact ⟨ret_int (idx_miss (any_whole (n := k) (by rw [hlen.out]; omega) hf.out)).symm, rfl⟩

theorem idx_nonneg {α : Type} (p : α → Bool) (l : List α) : decide (0 ≤ idx p l) = l.any p := by
  rcases idx_cases p l with ⟨h, h2⟩ | ⟨k, x, h, hx, hp, _⟩
  · rw [h, h2]; rfl
  · rw [h, any_hit p hx hp]; simp
set_option maxHeartbeats 400000 in
theorem containsS_any (ss : List ByteArray) (A : Option Addr) (n c : Nat) (s : ByteArray) (w : World) (hn : n ≤ 9223372036854775807) (H : Strs w A n ss) :
    Calls Tryd.prog 43 #[.slice A n c, .string s] w fun r w' => r = .returned (.bool (has ss s)) ∧ w = w' := by
  have HH := Lib.hid H
  go_enter Tryd.func43, Tryd.ntmps43
  go_wp2_with (go_at_call 57; refine (indexS_any ss A n c s _ hn HH.out).mono ?_; rintro r w1 ⟨rfl, rfl⟩)
  go_ret
  exact ⟨ret_bool (idx_nonneg _ _), rfl⟩

set_option maxHeartbeats 400000 in
theorem nmHas_any (ss : List ByteArray) (A : Option Addr) (n c : Nat) (s : ByteArray) (w : World) (hn : n ≤ 9223372036854775807) (H : Strs w A n ss) :
    Calls Tryd.prog 27 #[.slice A n c, .string s] w fun r w' => r = .returned (.bool (has ss s)) ∧ w = w' := by
  have HH := Lib.hid H
  go_enter Tryd.func27, Tryd.ntmps27
  go_wp2_with (go_at_call 43; refine (containsS_any ss A n c s _ hn HH.out).mono ?_; rintro r w1 ⟨rfl, rfl⟩)
  go_ret
  exact ⟨rfl, rfl⟩

/-- The first of ss that is in ts, and whether there is one. -/
def firstV (ss ts : List ByteArray) : Value := match ss.find? (has ts) with | some s => .tuple #[.string s, .bool true] | none => .tuple #[.string ByteArray.empty, .bool false]
theorem find_hit {α : Type} {p : α → Bool} {l : List α} {k : Nat} {x : α} (h : l[k]? = some x) (hp : p x = true) (hm : (l.take k).any p = false) : l.find? p = some x := by
  rw [List.find?_eq_some_iff_append]
  have hk : k < l.length := (List.getElem?_eq_some_iff.1 h).1
  refine ⟨hp, l.take k, l.drop (k + 1), ?_, fun y hy => ?_⟩
  · have h0 := List.take_append_drop k l
    rw [List.drop_eq_getElem_cons hk, (List.getElem?_eq_some_iff.1 h).2] at h0
    exact h0.symm
  · rw [List.any_eq_false] at hm
    simpa using hm y hy
theorem find_miss {α : Type} {p : α → Bool} {l : List α} (hm : l.any p = false) : l.find? p = none := by
  rw [List.find?_eq_none]
  rw [List.any_eq_false] at hm
  intro x hx
  simpa using hm x hx
end

section
theorem bsl (s : ByteArray) : s.toList = s.data.toList := ByteArray.toList_eq s
theorem bsl_len (s : ByteArray) : s.toList.length = s.size := by rw [bsl]; exact Array.length_toList
theorem bsl_ext (s : ByteArray) (a b : Nat) : (s.extract a b).toList = (s.toList.take b).drop a := by
  rw [bsl, bsl, ByteArray.data_extract, Array.toList_extract]
  rw [List.extract_eq_take_drop, List.drop_take]
theorem bsl_tail (s : ByteArray) (a : Nat) : (s.extract a s.size).toList = s.toList.drop a := by
  rw [bsl_ext, List.take_of_length_le (by rw [bsl_len]; exact Nat.le_refl _)]
theorem bsl_head (s : ByteArray) (b : Nat) : (s.extract 0 b).toList = s.toList.take b := by
  rw [bsl_ext, List.drop_zero]
theorem bsl_get {s : ByteArray} {i : Nat} (h : i < s.size) : s.toList[i]? = some s[i] := by
  rw [bsl, Array.getElem?_toList]
  exact Array.getElem?_eq_getElem h
theorem bsl_app (s t : ByteArray) : (s ++ t).toList = s.toList ++ t.toList := by
  rw [bsl, bsl, bsl]; simp
theorem bsl_cons {s : ByteArray} {k : Nat} (h : k < s.size) : s.toList.drop k = s[k] :: s.toList.drop (k + 1) := by
  have hl : k < s.toList.length := by rw [bsl_len]; exact h
  rw [List.drop_eq_getElem_cons hl]
  congr 1
  have := bsl_get h
  rw [List.getElem?_eq_getElem hl] at this
  injection this
theorem bsl_end {s : ByteArray} {k : Nat} (h : s.size ≤ k) : s.toList.drop k = [] := List.drop_of_length_le (by rw [bsl_len]; exact h)
end

section
open Go.RowKit

def byteOk (b : UInt8) : Bool := decide (33 ≤ (b.toNat : Int)) && decide ((b.toNat : Int) ≤ 126)
def nameOk (b : UInt8) : Bool := byteOk b && !((b.toNat : Int) == 44)
def userB (s : ByteArray) : Bool := s.toList.all byteOk && decide (1 ≤ s.size) && decide (s.size ≤ 64)
def nmOkB (s : ByteArray) : Bool := s.toList.all nameOk && decide (1 ≤ s.size) && decide (s.size ≤ 64)
theorem bytes_miss {p : UInt8 → Bool} {s : ByteArray} {k : Nat} (h : k < s.size) (hp : p s[k] = false) : s.toList.all p = false := by
  rw [List.all_eq_false]
  exact ⟨s[k], List.mem_of_getElem? (bsl_get h), by rw [hp]; decide⟩
theorem bytes_step {p : UInt8 → Bool} {s : ByteArray} {k : Nat} (h : k < s.size) (hf : (s.toList.take k).all p = true) (hp : p s[k] = true) : (s.toList.take (k + 1)).all p = true := by
  rw [all_take_succ p (bsl_get h), hf, hp]; rfl
theorem bytes_all {p : UInt8 → Bool} {s : ByteArray} (hf : (s.toList.take s.size).all p = true) : s.toList.all p = true := by
  rwa [List.take_of_length_le (by rw [bsl_len]; exact Nat.le_refl _)] at hf
theorem right_comma (s : ByteArray) : s.toList.all nameOk = (s.toList.all byteOk && !(decide (0 ≤ Lib.indexByte s.data.toList 44))) := by
  rw [← Lib.contains_iff_indexByte, ← bsl]
  generalize s.toList = l
  induction l with
  | nil => rfl
  | cons b l ih =>
    rw [List.all_cons, List.all_cons, ih, List.contains_cons]
    have : ((b.toNat : Int) == 44) = ((44 : UInt8) == b) := by
      rw [Bool.eq_iff_iff, beq_iff_eq, beq_iff_eq]
      constructor
      · intro h; exact (UInt8.toNat.inj (by have : (44 : UInt8).toNat = 44 := rfl; omega))
      · rintro rfl; rfl
    unfold nameOk
    rw [this]
    cases byteOk b <;> cases ((44 : UInt8) == b) <;> cases l.all byteOk <;> cases l.contains 44 <;> rfl
set_option maxHeartbeats 1000000 in
theorem user_any (s : ByteArray) (w : World) (hs : s.size ≤ 9223372036854775807) :
    Calls Tryd.prog 50 #[.string s] w fun r w' => r = .returned (.bool (userB s)) ∧ w = w' := by
  go_enter Tryd.func50, Tryd.ntmps50
  go_wp2
  go_loop [3, 6] (fun _ i => ∃ k : Nat, k ≤ s.size ∧ i = .int .i64 k ∧ Hid ((s.toList.take k).all byteOk = true)) (fun _ i => s.size - (intOf i).toNat)
  case atStart => exact ⟨0, by omega, rfl, by simp [Hid]⟩
  case round =>
    obtain ⟨k, hk, rfl, hf⟩ := hrel
    by_cases hlt : k < s.size
    · have hst := Lib.hid (fun h => bytes_step hlt hf.out h)
      have hms := Lib.hid (fun (h : byteOk s[k] = false) => (show userB s = false by unfold userB; rw [bytes_miss hlt h]; rfl))
      have hl1 : (0 : Int) ≤ (k : Int) := by omega
      have hl2 : (k : Int) < (s.size : Int) := by omega
      by_cases h1 : (s[k].toNat : Int) < 33
      · have h1' : (s[k].toNat : Int) ≤ 32 := by omega
        have hr := Lib.hid (hms.out (by unfold byteOk; rw [decide_eq_false (by omega)]; rfl))
        go_wp2
        go_ret
        exact ⟨ret_bool hr.out.symm, rfl⟩
      · have h1' : ¬ (s[k].toNat : Int) ≤ 32 := by omega
        by_cases h2 : 126 < (s[k].toNat : Int)
        · have hr := Lib.hid (hms.out (by unfold byteOk; rw [decide_eq_false (p := (s[k].toNat : Int) ≤ 126) (by omega), Bool.and_false]))
          go_wp2
          go_ret
          exact ⟨ret_bool hr.out.symm, rfl⟩
        · have e1 : byteOk s[k] = true := by unfold byteOk; rw [decide_eq_true (by omega), decide_eq_true (by omega)]; rfl
          have hn := Lib.hid (hst.out e1)
          clear e1
          go_wp2
          go_round
          case rel => exact ⟨k + 1, by omega, by go_num, hn⟩
          case measure => simp [intOf]; omega
    · obtain rfl : k = s.size := by omega
      have ha := bytes_all hf.out
      by_cases h5 : 1 ≤ s.size
      · by_cases h6 : s.size ≤ 64
        · have hr := Lib.hid (show userB s = true by unfold userB; rw [ha, decide_eq_true h5, decide_eq_true h6]; rfl)
          have i5 : (1 : Int) ≤ (s.size : Int) := by omega
          have i5' : (0 : Int) < (s.size : Int) := by omega
          have i6 : (s.size : Int) ≤ 64 := by omega
          go_wp2
          go_ret
          exact ⟨(by rw [hr.out]; first | rfl | (simp; omega)), rfl⟩
        · have hr := Lib.hid (show userB s = false by unfold userB; rw [decide_eq_false h6, Bool.and_false])
          have i5 : (1 : Int) ≤ (s.size : Int) := by omega
          have i5' : (0 : Int) < (s.size : Int) := by omega
          have i6 : ¬ (s.size : Int) ≤ 64 := by omega
          go_wp2
          go_ret
          exact ⟨(by rw [hr.out]; first | rfl | (simp; omega)), rfl⟩
      · have hr := Lib.hid (show userB s = false by unfold userB; rw [decide_eq_false h5, Bool.and_false, Bool.false_and])
        have i5 : ¬ (1 : Int) ≤ (s.size : Int) := by omega
        have i5' : ¬ (0 : Int) < (s.size : Int) := by omega
        go_wp2
        go_ret
        exact ⟨(by rw [hr.out]; first | rfl | (simp; omega)), rfl⟩
set_option maxHeartbeats 1000000 in
theorem refUser_any (s : ByteArray) (w : World) (hs : s.size ≤ 9223372036854775807) :
    Calls Tryd.prog 28 #[.string s] w fun r w' => r = .returned (.bool (userB s)) ∧ w = w' := by
  go_enter Tryd.func28, Tryd.ntmps28
  go_wp2
  go_loop [3] (fun i => ∃ k : Nat, k ≤ s.size ∧ i = .int .i64 k ∧ Hid ((s.toList.take k).all byteOk = true)) (fun i => s.size - (intOf i).toNat)
  case atStart => exact ⟨0, by omega, rfl, by simp [Hid]⟩
  case round =>
    obtain ⟨k, hk, rfl, hf⟩ := hrel
    by_cases hlt : k < s.size
    · have hst := Lib.hid (fun h => bytes_step hlt hf.out h)
      have hms := Lib.hid (fun (h : byteOk s[k] = false) => (show userB s = false by unfold userB; rw [bytes_miss hlt h]; rfl))
      have hl1 : (0 : Int) ≤ (k : Int) := by omega
      have hl2 : (k : Int) < (s.size : Int) := by omega
      by_cases h1 : (s[k].toNat : Int) < 33
      · have h1' : (s[k].toNat : Int) ≤ 32 := by omega
        have hr := Lib.hid (hms.out (by unfold byteOk; rw [decide_eq_false (by omega)]; rfl))
        go_wp2
        go_ret
        exact ⟨ret_bool hr.out.symm, rfl⟩
      · have h1' : ¬ (s[k].toNat : Int) ≤ 32 := by omega
        by_cases h2 : 126 < (s[k].toNat : Int)
        · have hr := Lib.hid (hms.out (by unfold byteOk; rw [decide_eq_false (p := (s[k].toNat : Int) ≤ 126) (by omega), Bool.and_false]))
          go_wp2
          go_ret
          exact ⟨ret_bool hr.out.symm, rfl⟩
        · have e1 : byteOk s[k] = true := by unfold byteOk; rw [decide_eq_true (by omega), decide_eq_true (by omega)]; rfl
          have hn := Lib.hid (hst.out e1)
          clear e1
          go_wp2
          go_round
          case rel => exact ⟨k + 1, by omega, by go_num, hn⟩
          case measure => simp [intOf]; omega
    · obtain rfl : k = s.size := by omega
      have ha := bytes_all hf.out
      by_cases h5 : 1 ≤ s.size
      · by_cases h6 : s.size ≤ 64
        · have hr := Lib.hid (show userB s = true by unfold userB; rw [ha, decide_eq_true h5, decide_eq_true h6]; rfl)
          have i5 : (1 : Int) ≤ (s.size : Int) := by omega
          have i5' : (0 : Int) < (s.size : Int) := by omega
          have i6 : (s.size : Int) ≤ 64 := by omega
          go_wp2
          go_ret
          exact ⟨(by rw [hr.out]; first | rfl | (simp; omega)), rfl⟩
        · have hr := Lib.hid (show userB s = false by unfold userB; rw [decide_eq_false h6, Bool.and_false])
          have i5 : (1 : Int) ≤ (s.size : Int) := by omega
          have i5' : (0 : Int) < (s.size : Int) := by omega
          have i6 : ¬ (s.size : Int) ≤ 64 := by omega
          go_wp2
          go_ret
          exact ⟨(by rw [hr.out]; first | rfl | (simp; omega)), rfl⟩
      · have hr := Lib.hid (show userB s = false by unfold userB; rw [decide_eq_false h5, Bool.and_false, Bool.false_and])
        have i5 : ¬ (1 : Int) ≤ (s.size : Int) := by omega
        have i5' : ¬ (0 : Int) < (s.size : Int) := by omega
        go_wp2
        go_ret
        exact ⟨(by rw [hr.out]; first | rfl | (simp; omega)), rfl⟩
set_option maxHeartbeats 1000000 in
theorem refRight04_any (s : ByteArray) (w : World) (hs : s.size ≤ 9223372036854775807) :
    Calls Tryd.prog 44 #[.string s] w fun r w' => r = .returned (.bool (nmOkB s)) ∧ w = w' := by
  go_enter Tryd.func44, Tryd.ntmps44
  go_wp2
  go_loop [3] (fun i => ∃ k : Nat, k ≤ s.size ∧ i = .int .i64 k ∧ Hid ((s.toList.take k).all nameOk = true)) (fun i => s.size - (intOf i).toNat)
  case atStart => exact ⟨0, by omega, rfl, by simp [Hid]⟩
  case round =>
    obtain ⟨k, hk, rfl, hf⟩ := hrel
    by_cases hlt : k < s.size
    · have hst := Lib.hid (fun h => bytes_step hlt hf.out h)
      have hms := Lib.hid (fun (h : nameOk s[k] = false) => (show nmOkB s = false by unfold nmOkB; rw [bytes_miss hlt h]; rfl))
      have hl1 : (0 : Int) ≤ (k : Int) := by omega
      have hl2 : (k : Int) < (s.size : Int) := by omega
      by_cases h1 : (s[k].toNat : Int) < 33
      · have h1' : (s[k].toNat : Int) ≤ 32 := by omega
        have hr := Lib.hid (hms.out (by unfold nameOk byteOk; rw [decide_eq_false (by omega)]; rfl))
        go_wp2
        go_ret
        exact ⟨ret_bool hr.out.symm, rfl⟩
      · have h1' : ¬ (s[k].toNat : Int) ≤ 32 := by omega
        by_cases h2 : 126 < (s[k].toNat : Int)
        · have hr := Lib.hid (hms.out (by unfold nameOk byteOk; rw [decide_eq_false (p := (s[k].toNat : Int) ≤ 126) (by omega), Bool.and_false]; rfl))
          go_wp2
          go_ret
          exact ⟨ret_bool hr.out.symm, rfl⟩
        · have e1 : byteOk s[k] = true := by unfold byteOk; rw [decide_eq_true (by omega), decide_eq_true (by omega)]; rfl
          cases h3 : ((s[k].toNat : Int) == 44) with
          | true =>
            have hr := Lib.hid (hms.out (by unfold nameOk; rw [h3, e1]; rfl))
            clear e1
            go_wp2
            go_ret
            exact ⟨ret_bool hr.out.symm, rfl⟩
          | false =>
            have hn := Lib.hid (hst.out (by unfold nameOk; rw [h3, e1]; rfl))
            clear e1
            go_wp2
            go_round
            case rel => exact ⟨k + 1, by omega, by go_num, hn⟩
            case measure => simp [intOf]; omega
    · obtain rfl : k = s.size := by omega
      have ha := bytes_all hf.out
      by_cases h5 : 1 ≤ s.size
      · by_cases h6 : s.size ≤ 64
        · have hr := Lib.hid (show nmOkB s = true by unfold nmOkB; rw [ha, decide_eq_true h5, decide_eq_true h6]; rfl)
          have i5 : (1 : Int) ≤ (s.size : Int) := by omega
          have i5' : (0 : Int) < (s.size : Int) := by omega
          have i6 : (s.size : Int) ≤ 64 := by omega
          go_wp2
          go_ret
          exact ⟨(by rw [hr.out]; first | rfl | (simp; omega)), rfl⟩
        · have hr := Lib.hid (show nmOkB s = false by unfold nmOkB; rw [decide_eq_false h6, Bool.and_false])
          have i5 : (1 : Int) ≤ (s.size : Int) := by omega
          have i5' : (0 : Int) < (s.size : Int) := by omega
          have i6 : ¬ (s.size : Int) ≤ 64 := by omega
          go_wp2
          go_ret
          exact ⟨(by rw [hr.out]; first | rfl | (simp; omega)), rfl⟩
      · have hr := Lib.hid (show nmOkB s = false by unfold nmOkB; rw [decide_eq_false h5, Bool.and_false, Bool.false_and])
        have i5 : ¬ (1 : Int) ≤ (s.size : Int) := by omega
        have i5' : ¬ (0 : Int) < (s.size : Int) := by omega
        go_wp2
        go_ret
        exact ⟨(by rw [hr.out]; first | rfl | (simp; omega)), rfl⟩
set_option maxHeartbeats 1000000 in
theorem right_any (s : ByteArray) (w : World) (hs : s.size ≤ 9223372036854775807) :
    Calls Tryd.prog 66 #[.string s] w fun r w' => r = .returned (.bool (nmOkB s)) ∧ w = w' := by
  have cC := Lib.hid (fun W => Tryd.strings_Contains_one s 44 W)
  go_enter Tryd.func66, Tryd.ntmps66
  go_wp2
  go_loop [3, 6] (fun _ i => ∃ k : Nat, k ≤ s.size ∧ i = .int .i64 k ∧ Hid ((s.toList.take k).all byteOk = true)) (fun _ i => s.size - (intOf i).toNat)
  case atStart => exact ⟨0, by omega, rfl, by simp [Hid]⟩
  case round =>
    obtain ⟨k, hk, rfl, hf⟩ := hrel
    by_cases hlt : k < s.size
    · have hst := Lib.hid (fun h => bytes_step hlt hf.out h)
      have hms := Lib.hid (fun (h : byteOk s[k] = false) => (show nmOkB s = false by unfold nmOkB; rw [right_comma, bytes_miss hlt h]; rfl))
      have hl1 : (0 : Int) ≤ (k : Int) := by omega
      have hl2 : (k : Int) < (s.size : Int) := by omega
      by_cases h1 : (s[k].toNat : Int) < 33
      · have h1' : (s[k].toNat : Int) ≤ 32 := by omega
        have hr := Lib.hid (hms.out (by unfold byteOk; rw [decide_eq_false (by omega)]; rfl))
        go_wp2
        go_ret
        exact ⟨ret_bool hr.out.symm, rfl⟩
      · have h1' : ¬ (s[k].toNat : Int) ≤ 32 := by omega
        by_cases h2 : 126 < (s[k].toNat : Int)
        · have hr := Lib.hid (hms.out (by unfold byteOk; rw [decide_eq_false (p := (s[k].toNat : Int) ≤ 126) (by omega), Bool.and_false]))
          go_wp2
          go_ret
          exact ⟨ret_bool hr.out.symm, rfl⟩
        · have e1 : byteOk s[k] = true := by unfold byteOk; rw [decide_eq_true (by omega), decide_eq_true (by omega)]; rfl
          have hn := Lib.hid (hst.out e1)
          clear e1
          go_wp2
          go_round
          case rel => exact ⟨k + 1, by omega, by go_num, hn⟩
          case measure => simp [intOf]; omega
    · obtain rfl : k = s.size := by omega
      have ha := bytes_all hf.out
      have hrc := right_comma s
      rw [ha, Bool.true_and] at hrc
      by_cases h5 : 1 ≤ s.size
      · have hl : (s.toList == []) = false := by
          rw [beq_eq_false_iff_ne]
          intro e
          have := congrArg List.length e
          rw [bsl_len] at this
          have h0 : s.size = 0 := this
          omega
        have hl2 : s.toList.isEmpty = false := by
          cases hq : s.toList with
          | nil => rw [hq] at hl; cases hl
          | cons x r => rfl
        have hl3 : (!s.toList.isEmpty) = true := by rw [hl2]; rfl
        by_cases h6 : s.size ≤ 64
        · have hr := Lib.hid (show nmOkB s = !(decide (0 ≤ Lib.indexByte s.data.toList 44)) by unfold nmOkB; rw [hrc, decide_eq_true h5, decide_eq_true h6, Bool.and_true, Bool.and_true])
          have i6 : (s.size : Int) ≤ 64 := by omega
          clear hrc ha
          go_wp2_with (go_at_call 71; refine (cC.out _).mono ?_; rintro r w4 ⟨rfl, rfl⟩)
          go_ret
          exact ⟨ret_bool hr.out.symm, rfl⟩
        · have hr := Lib.hid (show nmOkB s = false by unfold nmOkB; rw [decide_eq_false h6, Bool.and_false])
          have i6 : ¬ (s.size : Int) ≤ 64 := by omega
          clear hrc ha
          go_wp2_with (go_at_call 71; refine (cC.out _).mono ?_; rintro r w4 ⟨rfl, rfl⟩)
          go_ret
          exact ⟨ret_bool hr.out.symm, rfl⟩
      · have hr := Lib.hid (show nmOkB s = false by unfold nmOkB; rw [decide_eq_false h5, Bool.and_false, Bool.false_and])
        have h0 : s.toList = [] := by rw [← List.length_eq_zero_iff, bsl_len]; omega
        have he : s = ⟨#[]⟩ := bs_ext (by rw [h0, bsl])
        clear hrc ha h5 h0
        subst he
        go_wp2
        go_ret
        exact ⟨ret_bool hr.out.symm, rfl⟩
end

section
open Go.RowKit

def checkN (ss : List ByteArray) : Int := if 16 < ss.length then 2 else if ss.all nmOkB then 0 else 3
def joinS (ss : List ByteArray) : ByteArray := ⟨(Lib.join (ss.map (·.data.toList)) [44]).toArray⟩
def joinV (ss : List ByteArray) : Value := if checkN ss = 0 then .tuple #[.string (joinS ss), .int .i64 0] else .tuple #[.string ⟨#[]⟩, .int .i64 (checkN ss)]
theorem strs_miss {p : ByteArray → Bool} {ss : List ByteArray} {k : Nat} {s : ByteArray} (h : ss[k]? = some s) (hp : p s = false) : ss.all p = false := by
  rw [List.all_eq_false]
  exact ⟨s, List.mem_of_getElem? h, by rw [hp]; decide⟩
set_option maxHeartbeats 1000000 in
theorem nmCheck_any (ss : List ByteArray) (A : Option Addr) (n c : Nat) (w : World) (hn : n ≤ 9223372036854775807) (H : Strs w A n ss) (hs : ∀ s ∈ ss, s.size ≤ 9223372036854775807) :
    Calls Tryd.prog 59 #[.slice A n c] w fun r w' => r = .returned (.int .i64 (checkN ss)) ∧ w = w' := by
  have hlen := H.len
  by_cases h16 : 16 < n
  · have hv := Lib.hid (show checkN ss = 2 by unfold checkN; rw [if_pos (by omega)])
    clear H hs hlen
    go_enter Tryd.func59, Tryd.ntmps59
    go_wp2
    go_ret
    exact ⟨ret_int hv.out.symm, rfl⟩
  · have hv0 := Lib.hid (show checkN ss = if ss.all nmOkB then 0 else 3 by unfold checkN; rw [if_neg (by omega)])
    have hS := Lib.hid hs
    have hL := Lib.hid hlen
    clear hs hlen
    have h16' : n ≤ 16 := by omega
    go_enter Tryd.func59, Tryd.ntmps59
    go_wp2
    go_loop [4, 10] (fun _ i => ∃ k : Nat, k ≤ n ∧ i = .int .i64 k ∧ Hid ((ss.take k).all nmOkB = true)) (fun _ i => n - (intOf i).toNat)
    case atStart => exact ⟨0, by omega, rfl, by simp [Hid]⟩
    case round =>
      obtain ⟨k, hk, rfl, hf⟩ := hrel
      by_cases hlt : k < n
      · obtain ⟨b, off, s, rfl, hb, he, hr⟩ := H.at_ hlt
        have cR := right_any s
        have hz := hS.out s (List.mem_of_getElem? he)
        have hst := all_take_succ nmOkB he
        have hms := fun h => strs_miss (p := nmOkB) he h
        generalize nmOkB s = q at cR hst hms
        have cR := Lib.hid (fun W => cR W hz)
        clear he
        cases q with
        | true =>
          have hst := Lib.hid (show (ss.take (k + 1)).all nmOkB = true by rw [hst, hf.out]; rfl)
          clear hms
          go_wp2_with (go_at_call 66; refine (cR.out _).mono ?_; rintro r w4 ⟨rfl, rfl⟩)
          go_round
          case rel => exact ⟨k + 1, by omega, by go_num, hst⟩
          case measure => simp [intOf]; omega
        | false =>
          have hv := Lib.hid (show checkN ss = 3 by rw [hv0.out, hms rfl]; rfl)
          clear hst hms
          go_wp2_with (go_at_call 66; refine (cR.out _).mono ?_; rintro r w4 ⟨rfl, rfl⟩)
          go_ret
          exact ⟨ret_int hv.out.symm, rfl⟩
      · have ht : ss.take k = ss := List.take_of_length_le (by rw [hL.out]; omega)
        have hv := Lib.hid (show checkN ss = 0 by rw [hv0.out]; have := hf.out; rw [ht] at this; rw [this]; rfl)
        clear ht
        go_wp2
        go_ret
        exact ⟨ret_int hv.out.symm, rfl⟩
theorem lens_le : ∀ (ss : List ByteArray), (∀ s ∈ ss, s.size ≤ 64) → Lib.lens (ss.map (·.data.toList)) ≤ 64 * ss.length
  | [], _ => by simp [Lib.lens]
  | s :: ss, h => by
    have h1 := lens_le ss (fun x hx => h x (by simp [hx]))
    have h2 := h s (by simp)
    have h3 : s.data.toList.length = s.size := Array.length_toList
    simp only [List.map_cons, Lib.lens, List.length_cons] at h1 ⊢
    simp at h1 ⊢
    omega
theorem right_size {s : ByteArray} (h : nmOkB s = true) : s.size ≤ 64 := by
  unfold nmOkB at h
  simp only [Bool.and_eq_true, decide_eq_true_eq] at h
  exact h.2
theorem join_bound {ss : List ByteArray} (h : checkN ss = 0) : (Lib.join (ss.map (·.data.toList)) [44]).length ≤ 2000 := by
  unfold checkN at h
  by_cases h1 : 16 < ss.length
  · rw [if_pos h1] at h; omega
  · rw [if_neg h1] at h
    have h2 : ss.all nmOkB = true := by
      cases hq : ss.all nmOkB with
      | true => rfl
      | false => rw [hq] at h; simp at h
    have h3 := lens_le ss (fun s hs => right_size (List.all_eq_true.1 h2 s hs))
    cases ss with
    | nil => simp [Lib.join_nil]
    | cons s r =>
      rw [List.map_cons, Lib.join_length]
      rw [List.map_cons] at h3
      simp only [List.length_cons, List.length_map, List.length_nil] at h1 h3 ⊢
      omega
set_option maxHeartbeats 1000000 in
theorem nmJoin_any (ss : List ByteArray) (A : Option Addr) (n c : Nat) (w : World) (hc : n ≤ c) (hn : c ≤ 9223372036854775807) (H : Strs w A n ss) (hs : ∀ s ∈ ss, s.size ≤ 9223372036854775807) :
    Calls Tryd.prog 52 #[.slice A n c] w fun r w' => r = .returned (joinV ss) ∧ Below w.heap.size w w' := by
  have hlen := H.len
  have cC := nmCheck_any ss A n c w (by omega) H hs
  by_cases h0 : checkN ss = 0
  · have hv := Lib.hid (show joinV ss = .tuple #[.string (joinS ss), .int .i64 0] by unfold joinV; rw [if_pos h0])
    have hb := join_bound h0
    have cJ : Calls Tryd.prog 60 #[.slice A n c, .string ⟨#[44]⟩] w fun r w' => r = .returned (.string (joinS ss)) ∧ Below w.heap.size w w' := by
      by_cases hn0 : 0 < n
      · obtain ⟨b, off, e, hlt, hcl⟩ := H.2.2 hn0
        subst e
        have := Tryd.strings_Join b off c ss ⟨#[44]⟩ w (fun j x hx => by
          have := hcl j (sv x) (by rw [List.getElem?_map, hx]; rfl) 0 _ rfl
          simpa using this) hlt (by have : ss.length ≤ 16 := by { unfold checkN at h0; by_cases h1 : 16 < ss.length; · rw [if_pos h1] at h0; omega
                                                                  · omega }
                                    omega) (by omega) (by exact Nat.le_trans hb (by decide))
        rw [hlen] at this
        exact this
      · have e0 : n = 0 := by omega
        subst e0
        have hs0 : ss = [] := List.eq_nil_of_length_eq_zero hlen
        subst hs0
        refine (Tryd.strings_Join_none A c ⟨#[44]⟩ w).mono ?_
        rintro r w' ⟨rfl, rfl⟩
        exact ⟨rfl, Below.refl _ _⟩
    rw [h0] at cC
    have cC := Lib.hid cC
    have cJ := Lib.hid cJ
    clear hb h0 hs H hlen
    go_enter Tryd.func52, Tryd.ntmps52
    go_wp2_with (first
      | (go_at_call 59; refine cC.out.mono ?_; rintro r w4 ⟨rfl, rfl⟩)
      | (go_at_call 60; refine cJ.out.mono ?_; rintro r w5 ⟨rfl, hb5⟩))
    go_ret2
    exact ⟨congrArg Ending.returned hv.out.symm, hb5⟩
  · have hv := Lib.hid (show joinV ss = .tuple #[.string ⟨#[]⟩, .int .i64 (checkN ss)] by unfold joinV; rw [if_neg h0])
    generalize checkN ss = e at cC h0 hv
    have he : (e != 0) = true := by unfold bne; rw [beq_eq_false_iff_ne.2 h0]; rfl
    have he2 : (e == 0) = false := beq_eq_false_iff_ne.2 h0
    have cC := Lib.hid cC
    clear h0 hs H hlen
    go_enter Tryd.func52, Tryd.ntmps52
    go_wp2_with (go_at_call 59; refine cC.out.mono ?_; rintro r w4 ⟨rfl, rfl⟩)
    go_ret2
    exact ⟨congrArg Ending.returned hv.out.symm, Below.refl _ _⟩
end

section
open Go.RowKit

/-- No name stands twice. -/
def once (ss : List ByteArray) : Bool := (List.range ss.length).all fun i => !has (ss.take i) (ss.getD i ByteArray.empty)
def onceTo (ss : List ByteArray) (k : Nat) : Bool := (List.range k).all fun i => !has (ss.take i) (ss.getD i ByteArray.empty)
theorem onceTo_succ (ss : List ByteArray) (k : Nat) : onceTo ss (k + 1) = (onceTo ss k && !has (ss.take k) (ss.getD k ByteArray.empty)) := by
  unfold onceTo; rw [List.range_succ, List.all_append]; simp
theorem once_bad {ss : List ByteArray} {k : Nat} (hk : k < ss.length) (h : has (ss.take k) (ss.getD k ByteArray.empty) = true) : once ss = false := by
  unfold once
  rw [List.all_eq_false]
  exact ⟨k, List.mem_range.2 hk, by rw [h]; decide⟩
set_option maxHeartbeats 400000 in
theorem nmOnce_any (ss : List ByteArray) (A : Option Addr) (n c : Nat) (w : World) (hc : n ≤ c) (hn : c ≤ 9223372036854775807) (H : Strs w A n ss) :
    Calls Tryd.prog 51 #[.slice A n c] w fun r w' => r = .returned (.bool (once ss)) ∧ w = w' := by
  have hlen := Lib.hid H.len
  have HH := Lib.hid H
  go_enter Tryd.func51, Tryd.ntmps51
  go_wp2
  go_loop [3, 4, 7] (fun _ _ i => ∃ k : Nat, k ≤ n ∧ i = .int .i64 k ∧ Hid (onceTo ss k = true)) (fun _ _ i => n - (intOf i).toNat)
  case atStart => exact ⟨0, by omega, rfl, by simp [Hid, onceTo]⟩
  case round =>
    obtain ⟨k, hk, rfl, hf⟩ := hrel
    by_cases hlt : k < n
    · obtain ⟨b, off, x, rfl, hb, hx, hcell⟩ := H.at_ hlt
      have hxd : ss.getD k ByteArray.empty = x := by rw [List.getD_eq_getElem?_getD, hx]; rfl
      have hcall := nmHas_any (ss.take k) (some ⟨b, off, none⟩) k c x w (by omega) (H.take_ hk)
      cases he : has (ss.take k) x with
      | true =>
        rw [he] at hcall
        have he := Lib.hid he
        have hxd := Lib.hid hxd
        have hcall := Lib.hid hcall
        have hx := Lib.hid hx
        go_wp2_with (go_at_call 27; refine hcall.out.mono ?_; rintro r w1 ⟨rfl, rfl⟩)
        go_ret
        exact ⟨ret_bool (once_bad (k := k) (by rw [hlen.out]; exact hlt) (by rw [hxd.out]; exact he.out)).symm, rfl⟩
      | false =>
        rw [he] at hcall
        have he := Lib.hid he
        have hxd := Lib.hid hxd
        have hcall := Lib.hid hcall
        have hx := Lib.hid hx
        go_wp2_with (go_at_call 27; refine hcall.out.mono ?_; rintro r w1 ⟨rfl, rfl⟩)
        go_round
        case rel => exact ⟨k + 1, by omega, by go_num, (by unfold Hid; rw [onceTo_succ, hf.out, hxd.out, he.out]; rfl)⟩
        case measure => simp [intOf]; omega
    · go_wp2
      go_ret
      exact ⟨ret_bool (by have : k = ss.length := by rw [hlen.out]; omega
                          rw [this] at hf; exact hf.out.symm), rfl⟩
end

section
open Go.RowKit

/-- What is wrong with a list: as a peer's lists and a gate's algorithms are asked. -/
def algsN (ss : List ByteArray) : Int := if ss.length = 0 then 6 else if 15 < ss.length then 2 else if once ss && ss.all nmOkB then 0 else 3
theorem algs_once {ss : List ByteArray} (h0 : ss.length ≠ 0) (h1 : ss.length ≤ 15) : algsN ss = if once ss then checkN ss else 3 := by
  have h2 : ¬ 15 < ss.length := by omega
  have h3 : ¬ 16 < ss.length := by omega
  unfold algsN checkN
  rw [if_neg h0, if_neg h2]
  cases once ss <;> cases ss.all nmOkB <;> simp [h3]
end

section
open Go.RowKit

theorem below_grow (w : World) (o : Obj) : Below w.heap.size w (w.alloc o) := (Below.refl _ _).alloc (Nat.le_refl _) o
abbrev Gr := ByteArray × Int
def grv (x : Gr) : List Value := [.string x.1, .int .i64 x.2]
def Grs (w : World) (A : Option Addr) (n : Nat) (gs : List Gr) : Prop := Rws w 2 A n (gs.map grv)
theorem Grs.keep {w w' : World} {A : Option Addr} {n : Nat} {gs : List Gr} (h : Grs w A n gs) (hb : Below w.heap.size w w') : Grs w' A n gs := Rws.keep h hb
theorem Grs.len {w : World} {A : Option Addr} {n : Nat} {gs : List Gr} (h : Grs w A n gs) : gs.length = n := by simpa using h.1
theorem Grs.at_ {w : World} {A : Option Addr} {n : Nat} {gs : List Gr} (h : Grs w A n gs) {j : Nat} (hj : j < n) :
    ∃ b off x, A = some ⟨b, off, none⟩ ∧ b < w.heap.size ∧ gs[j]? = some x ∧ w.cell? ⟨b, off + j * 2, none⟩ = some (.string x.1) ∧ w.cell? ⟨b, off + j * 2 + 1, none⟩ = some (.int .i64 x.2) := by
  obtain ⟨b, off, z, e, hlt, hz, _, hr⟩ := Rws.row h hj
  rw [List.getElem?_map] at hz
  cases he : gs[j]? with
  | none => rw [he] at hz; cases hz
  | some x =>
    rw [he] at hz
    simp only [Option.map_some, Option.some.injEq] at hz
    subst hz
    exact ⟨b, off, x, e, hlt, rfl, by simpa using hr 0 _ rfl, by simpa using hr 1 _ rfl⟩
def grOne (x : Gr) : Int := if userB x.1 then (if x.2 < 0 ∨ 15 < x.2 then 5 else 0) else 3
def grN : List Gr → Int
  | [] => 0
  | x :: r => if grOne x = 0 then grN r else grOne x
def grantsN (gs : List Gr) : Int := if 16 < gs.length then 2 else grN gs
theorem grN_step {gs : List Gr} {k : Nat} {x : Gr} (h : gs[k]? = some x) : grN (gs.drop k) = if grOne x = 0 then grN (gs.drop (k + 1)) else grOne x := by
  obtain ⟨hk, hx⟩ := List.getElem?_eq_some_iff.1 h
  rw [List.drop_eq_getElem_cons hk, hx]
  rfl
set_option maxHeartbeats 1000000 in
theorem grants_any (gs : List Gr) (A : Option Addr) (n c : Nat) (w : World) (hn : n ≤ 9223372036854775807) (H : Grs w A n gs) (hs : ∀ x ∈ gs, x.1.size ≤ 9223372036854775807) :
    Calls Tryd.prog 34 #[.slice A n c] w fun r w' => r = .returned (.int .i64 (grantsN gs)) ∧ Below w.heap.size w w' := by
  have hlen := H.len
  by_cases h16 : 16 < n
  · have hv := Lib.hid (show grantsN gs = 2 by unfold grantsN; rw [if_pos (by omega)])
    clear H hs hlen
    go_enter Tryd.func34, Tryd.ntmps34
    go_wp2
    go_ret
    exact ⟨ret_int hv.out.symm, Below.refl _ _⟩
  · have hv0 := Lib.hid (show grantsN gs = grN gs by unfold grantsN; rw [if_neg (by omega)])
    have hS := Lib.hid hs
    have hL := Lib.hid hlen
    have HH := Lib.hid H
    clear hs hlen H
    have h16' : n ≤ 16 := by omega
    go_enter Tryd.func34, Tryd.ntmps34
    go_wp2
    go_loopw [4, 10] (fun _ i wr => ∃ k : Nat, k ≤ n ∧ i = .int .i64 k ∧ Hid (grN (gs.drop k) = grN gs) ∧ Hid (Below w.heap.size w wr)) (fun _ i _ => n - (intOf i).toNat)
    case atStart => exact ⟨0, by omega, rfl, by simp [Hid], Below.refl _ _⟩
    case round =>
      obtain ⟨k, hk, rfl, hf, hB⟩ := hrel
      by_cases hlt : k < n
      · obtain ⟨b, off, ⟨u, x⟩, rfl, hb, he, c0, c1⟩ := (HH.out.keep hB.out).at_ hlt
        have hz := hS.out _ (List.mem_of_getElem? he)
        have cU := Lib.hid (fun W => user_any u W hz)
        have hst := grN_step he
        have hone : grOne (u, x) = if userB u then (if x < 0 ∨ 15 < x then 5 else 0) else 3 := rfl
        have hl0 : (0 : Int) ≤ (k : Int) := by omega
        have hl1 : (k : Int) < (n : Int) := by omega
        have hBn := Lib.hid (hB.out.trans ((below_grow wr (.cells #[.string u, .int .i64 x] 30)).mono hB.out.size))
        simp only at c0 c1
        clear he hz hb
        generalize userB u = q at cU hone
        cases q with
        | false =>
          have hv := Lib.hid (show grantsN gs = 3 by rw [hv0.out, ← hf.out, hst, hone]; rfl)
          clear hst hone
          go_wp2_with (go_at_call 50; refine (cU.out _).mono ?_; rintro r w4 ⟨rfl, rfl⟩)
          go_ret
          exact ⟨ret_int hv.out.symm, hBn.out⟩
        | true =>
          by_cases hx : x < 0 ∨ 15 < x
          · have hv := Lib.hid (show grantsN gs = 5 by rw [hv0.out, ← hf.out, hst, hone]; simp [hx])
            clear hst hone
            rcases hx with hx | hx
            · go_wp2_with (go_at_call 50; refine (cU.out _).mono ?_; rintro r w4 ⟨rfl, rfl⟩)
              go_ret
              exact ⟨ret_int hv.out.symm, hBn.out⟩
            · have hx0 : ¬ x < 0 := by omega
              have hx16 : 16 ≤ x := by omega
              go_wp2_with (go_at_call 50; refine (cU.out _).mono ?_; rintro r w4 ⟨rfl, rfl⟩)
              go_ret
              exact ⟨ret_int hv.out.symm, hBn.out⟩
          · have hn := Lib.hid (show grN (gs.drop (k + 1)) = grN gs by rw [← hf.out, hst, hone]; simp [hx])
            clear hst hone
            have hx0 : ¬ x < 0 := by omega
            have hx16 : ¬ 16 ≤ x := by omega
            clear hx
            go_wp2_with (go_at_call 50; refine (cU.out _).mono ?_; rintro r w4 ⟨rfl, rfl⟩)
            go_roundw
            case rel => exact ⟨k + 1, by omega, by go_num, hn, hBn⟩
            case measure => simp [intOf]; omega
      · have hd : gs.drop k = [] := List.drop_of_length_le (by rw [hL.out]; omega)
        have hv := Lib.hid (show grantsN gs = 0 by rw [hv0.out, ← hf.out, hd]; rfl)
        clear hd
        go_wp2
        go_ret
        exact ⟨ret_int hv.out.symm, hB.out⟩
end

section
open Go.RowKit

def goodAt (ss : List ByteArray) (i : Nat) : Bool := nmOkB (ss.getD i ByteArray.empty) && !has (ss.take i) (ss.getD i ByteArray.empty)
def goodTo (ss : List ByteArray) (k : Nat) : Bool := (List.range k).all (goodAt ss)
theorem goodTo_succ (ss : List ByteArray) (k : Nat) : goodTo ss (k + 1) = (goodTo ss k && goodAt ss k) := by
  unfold goodTo; rw [List.range_succ, List.all_append]; simp
theorem range_get : ∀ (ss : List ByteArray) (p : ByteArray → Bool), (List.range ss.length).all (fun i => p (ss.getD i ByteArray.empty)) = ss.all p := by
  intro ss p
  rw [Bool.eq_iff_iff, List.all_eq_true, List.all_eq_true]
  constructor
  · intro h s hs
    obtain ⟨i, hi, rfl⟩ := List.getElem_of_mem hs
    have := h i (List.mem_range.2 hi)
    rwa [List.getD_eq_getElem?_getD, List.getElem?_eq_getElem hi] at this
  · intro h i hi
    have hi := List.mem_range.1 hi
    rw [List.getD_eq_getElem?_getD, List.getElem?_eq_getElem hi]
    exact h _ (List.getElem_mem hi)
theorem good_all (ss : List ByteArray) : goodTo ss ss.length = (once ss && ss.all nmOkB) := by
  have h1 : once ss = (List.range ss.length).all fun i => !has (ss.take i) (ss.getD i ByteArray.empty) := rfl
  rw [← range_get ss nmOkB, h1]
  unfold goodTo
  generalize List.range ss.length = l
  induction l with
  | nil => rfl
  | cons i l ih =>
    rw [List.all_cons, List.all_cons, List.all_cons, ih]
    unfold goodAt
    cases nmOkB (ss.getD i ByteArray.empty) <;> cases has (ss.take i) (ss.getD i ByteArray.empty) <;> simp
theorem good_bad {ss : List ByteArray} {k : Nat} (hk : k < ss.length) (h : goodAt ss k = false) : (once ss && ss.all nmOkB) = false := by
  rw [← good_all]
  unfold goodTo
  rw [List.all_eq_false]
  exact ⟨k, List.mem_range.2 hk, by rw [h]; decide⟩
set_option maxHeartbeats 2000000 in
theorem refAlgs_any (ss : List ByteArray) (A : Option Addr) (n c : Nat) (w : World) (hc : n ≤ c) (hn : c ≤ 9223372036854775807) (H : Strs w A n ss) (hs : ∀ s ∈ ss, s.size ≤ 9223372036854775807) :
    Calls Tryd.prog 29 #[.slice A n c] w fun r w' => r = .returned (.int .i64 (algsN ss)) ∧ Below w.heap.size w w' := by
  have hlen := H.len
  by_cases h0 : n = 0
  · subst h0
    have hv := Lib.hid (show algsN ss = 6 by unfold algsN; rw [if_pos hlen])
    clear H hs hlen
    go_enter Tryd.func29, Tryd.ntmps29
    go_wp2
    go_ret
    exact ⟨ret_int hv.out.symm, Below.refl _ _⟩
  by_cases h15 : 15 < n
  · have hv := Lib.hid (show algsN ss = 2 by unfold algsN; rw [if_neg (by omega), if_pos (by omega)])
    have hne : ((n : Int) == 0) = false := beq_eq_false_iff_ne.2 (by omega)
    clear H hs hlen h0
    go_enter Tryd.func29, Tryd.ntmps29
    go_wp2
    go_ret
    exact ⟨ret_int hv.out.symm, Below.refl _ _⟩
  have hv0 := Lib.hid (show algsN ss = if once ss && ss.all nmOkB then 0 else 3 by unfold algsN; rw [if_neg (by omega), if_neg (by omega)])
  have hne : ((n : Int) == 0) = false := beq_eq_false_iff_ne.2 (by omega)
  have h15' : n ≤ 15 := by omega
  have hS := Lib.hid hs
  have hL := Lib.hid hlen
  have HH := Lib.hid H
  clear hs hlen H h0 h15
  go_enter Tryd.func29, Tryd.ntmps29
  go_wp2
  go_loopw [3] (fun i wr => ∃ k : Nat, k ≤ n ∧ i = .int .i64 k ∧ Hid (goodTo ss k = true) ∧ Hid (Below w.heap.size w wr)) (fun i _ => n - (intOf i).toNat)
  case atStart => exact ⟨0, by omega, rfl, rfl, Below.refl _ _⟩
  case round =>
    obtain ⟨k, hk, rfl, hf, hB⟩ := hrel
    by_cases hlt : k < n
    · obtain ⟨b, off, s, rfl, hb, he, hr⟩ := (HH.out.keep hB.out).at_ hlt
      have hz := hS.out s (List.mem_of_getElem? he)
      have hg : goodAt ss k = (nmOkB s && !has (ss.take k) s) := by unfold goodAt; rw [List.getD_eq_getElem?_getD, he]; rfl
      have cR := fun W => refRight04_any s W hz
      have cH := fun q => refHas_any (ss.take k) (some ⟨b, off, none⟩) k c s (wr.drewN q) (by omega) ((HH.out.keep (hB.out.trans (Below.mono (drewN_below q) hB.out.size))).take_ (by omega))
      have hst := goodTo_succ ss k
      have hbad := fun h => good_bad (ss := ss) (k := k) (by rw [hL.out]; exact hlt) h
      have i1 : (0 : Int) ≤ (k : Int) := by omega
      have i2 : (k : Int) < (n : Int) := by omega
      have i3 : (k : Int) ≤ (c : Int) := by omega
      rw [hg] at hst hbad
      clear he hz hg hb
      generalize nmOkB s = q1 at cR hst hbad
      generalize has (ss.take k) s = q2 at cH hst hbad
      have cR := Lib.hid cR
      have cH := Lib.hid cH
      cases q1 with
      | false =>
        have hv := Lib.hid (show algsN ss = 3 by rw [hv0.out, hbad rfl]; rfl)
        clear hst hbad
        go_wp2_with fail
        go_quiet ((first
          | (go_at_call 44; exact Calls.quiet_of_same ((cR.out _).mono (fun e w' h => ⟨h.1, h.2.symm⟩)))
          | (go_at_call 31; exact Calls.quiet_of_same ((cH.out _).mono (fun e w' h => ⟨h.1, h.2.symm⟩)))))
        go_wp2_with fail
        go_ret
        exact ⟨ret_int hv.out.symm, hB.out.trans (Below.mono (drewN_below _) hB.out.size)⟩
      | true =>
        cases q2 with
        | true =>
          have hv := Lib.hid (show algsN ss = 3 by rw [hv0.out, hbad rfl]; rfl)
          clear hst hbad
          go_wp2_with fail
          go_quiet ((first
            | (go_at_call 44; exact Calls.quiet_of_same ((cR.out _).mono (fun e w' h => ⟨h.1, h.2.symm⟩)))
            | (go_at_call 31; exact Calls.quiet_of_same ((cH.out _).mono (fun e w' h => ⟨h.1, h.2.symm⟩)))))
          go_wp2_with fail
          go_ret
          exact ⟨ret_int hv.out.symm, hB.out.trans (Below.mono (drewN_below _) hB.out.size)⟩
        | false =>
          have hn1 := Lib.hid (show goodTo ss (k + 1) = true by rw [hst, hf.out]; rfl)
          clear hst hbad
          go_wp2_with fail
          go_quiet ((first
            | (go_at_call 44; exact Calls.quiet_of_same ((cR.out _).mono (fun e w' h => ⟨h.1, h.2.symm⟩)))
            | (go_at_call 31; exact Calls.quiet_of_same ((cH.out _).mono (fun e w' h => ⟨h.1, h.2.symm⟩)))))
          go_wp2_with fail
          go_roundw
          case rel => exact ⟨k + 1, by omega, by go_num, hn1, hB.out.trans (Below.mono (drewN_below _) hB.out.size)⟩
          case measure => simp [intOf]; omega
    · have hk2 : k = ss.length := by rw [hL.out]; omega
      have hv := Lib.hid (show algsN ss = 0 by rw [hv0.out, ← good_all, ← hk2, hf.out]; rfl)
      clear hk2
      go_wp2
      go_ret
      exact ⟨ret_int hv.out.symm, hB.out⟩
set_option maxHeartbeats 1000000 in
theorem algs_any (ss : List ByteArray) (A : Option Addr) (n c : Nat) (w : World) (hc : n ≤ c) (hn : c ≤ 9223372036854775807) (H : Strs w A n ss) (hs : ∀ s ∈ ss, s.size ≤ 9223372036854775807) :
    Calls Tryd.prog 37 #[.slice A n c] w fun r w' => r = .returned (.int .i64 (algsN ss)) ∧ Below w.heap.size w w' := by
  have hlen := H.len
  by_cases h0 : n = 0
  · subst h0
    have hv := Lib.hid (show algsN ss = 6 by unfold algsN; rw [if_pos hlen])
    clear H hs hlen
    go_enter Tryd.func37, Tryd.ntmps37
    go_wp2
    go_ret
    exact ⟨ret_int hv.out.symm, Below.refl _ _⟩
  have hne : ((n : Int) == 0) = false := beq_eq_false_iff_ne.2 (by omega)
  by_cases h15 : 15 < n
  · have hv := Lib.hid (show algsN ss = 2 by unfold algsN; rw [if_neg (by omega), if_pos (by omega)])
    have i1 : (16 : Int) ≤ (n : Int) := by omega
    clear H hs hlen h0
    go_enter Tryd.func37, Tryd.ntmps37
    go_wp2
    go_ret
    exact ⟨ret_int hv.out.symm, Below.refl _ _⟩
  have i1 : ¬ (16 : Int) ≤ (n : Int) := by omega
  have hv := algs_once (ss := ss) (by omega) (by omega)
  have cO := nmOnce_any ss A n c w hc hn H
  have cJ := nmJoin_any ss A n c w hc hn H hs
  clear H hs hlen h0 h15
  generalize once ss = q at cO hv
  have cO := Lib.hid cO
  cases q with
  | false =>
    have hv := Lib.hid (show algsN ss = 3 by rw [hv]; rfl)
    go_enter Tryd.func37, Tryd.ntmps37
    go_wp2_with (go_at_call 51; refine cO.out.mono ?_; rintro r w4 ⟨rfl, rfl⟩)
    go_ret
    exact ⟨ret_int hv.out.symm, Below.refl _ _⟩
  | true =>
    rw [if_pos rfl] at hv
    by_cases hk : checkN ss = 0
    · have hj : joinV ss = .tuple #[.string (joinS ss), .int .i64 0] := by unfold joinV; rw [if_pos hk]
      rw [hj] at cJ
      have hv := Lib.hid (hv.trans hk)
      have cJ := Lib.hid cJ
      clear hk hj
      go_enter Tryd.func37, Tryd.ntmps37
      go_wp2_with (first
        | (go_at_call 51; refine cO.out.mono ?_; rintro r w4 ⟨rfl, rfl⟩)
        | (go_at_call 52; refine cJ.out.mono ?_; rintro r w5 ⟨rfl, hb5⟩))
      go_ret
      exact ⟨ret_int hv.out.symm, hb5⟩
    · have hj : joinV ss = .tuple #[.string ⟨#[]⟩, .int .i64 (checkN ss)] := by unfold joinV; rw [if_neg hk]
      rw [hj] at cJ
      have hv := Lib.hid hv
      have cJ := Lib.hid cJ
      clear hk hj
      go_enter Tryd.func37, Tryd.ntmps37
      go_wp2_with (first
        | (go_at_call 51; refine cO.out.mono ?_; rintro r w4 ⟨rfl, rfl⟩)
        | (go_at_call 52; refine cJ.out.mono ?_; rintro r w5 ⟨rfl, hb5⟩))
      go_ret
      exact ⟨ret_int hv.out.symm, hb5⟩
end

section
open Go.RowKit

def isErr (w : World) (o : Option Int) : List ByteArray → Value → Prop
  | [], v => (match o with | some n => v = .iface 45 (.int .i64 n) | none => v = .nilIface)
  | s :: p, v => ∃ b v', v = .iface 91 (.pointer (some ⟨b, 0, none⟩)) ∧ b < w.heap.size ∧ w.cell? ⟨b, 0, none⟩ = some (.string s) ∧ w.cell? ⟨b, 1, none⟩ = some v' ∧ isErr w o p v'
theorem isErr.keep {w w' : World} {o : Option Int} (hb : Below w.heap.size w w') : ∀ {p : List ByteArray} {v : Value}, isErr w o p v → isErr w' o p v
  | [], _, h => h
  | _ :: _, _, ⟨b, v', e, hlt, h1, h2, h3⟩ => ⟨b, v', e, Nat.lt_of_lt_of_le hlt hb.size, (hb.cell (p := ⟨b, 0, none⟩) hlt).trans h1, (hb.cell (p := ⟨b, 1, none⟩) hlt).trans h2, isErr.keep hb h3⟩

theorem isErr_some {w : World} {n : Int} : ∀ {p : List ByteArray} {v : Value}, isErr w (some n) p v → ∃ T u, v = .iface T u
  | [], _, h => ⟨_, _, h⟩
  | _ :: _, _, ⟨_, _, e, _⟩ => ⟨_, _, e⟩
theorem isErr_cons {w : World} {o : Option Int} {s : ByteArray} {p : List ByteArray} {v : Value} (h : isErr w o (s :: p) v) : ∃ T u, v = .iface T u := by
  obtain ⟨_, _, e, _⟩ := h
  exact ⟨_, _, e⟩

/-- A new error: its chain; all that was there is as it was. -/
def Mk (w : World) (o : Option Int) (p : List ByteArray) (r : Ending) (w' : World) : Prop := ∃ v, r = .returned v ∧ isErr w' o p v ∧ Below w.heap.size w w'
theorem isErr_new {w : World} {o : Option Int} {p : List ByteArray} {v : Value} (H : isErr w o p v) (s : ByteArray) (t : TypeId) :
    isErr (w.alloc (.cells #[.string s, v] t)) o (s :: p) (.iface 91 (.pointer (some ⟨w.heap.size, 0, none⟩))) :=
  ⟨w.heap.size, v, rfl, by simp, by simp, by simp, H.keep ((Below.refl _ _).alloc (Nat.le_refl _) _)⟩

theorem at_any (s : ByteArray) (o : Option Int) (p : List ByteArray) (T : TypeId) (u : Value) (w : World) (H : isErr w o p (.iface T u)) :
    Calls Tryd.prog 35 #[.string s, .iface T u] w (Mk w o (s :: p)) := by
  have H := Lib.hid H
  go_enter Tryd.func35, Tryd.ntmps35
  go_wp2
  go_ret
  exact ⟨_, rfl, isErr_new H.out s _, (Below.refl _ _).alloc (Nat.le_refl _) _⟩
theorem at_nil (s : ByteArray) (w : World) :
    Calls Tryd.prog 35 #[.string s, .nilIface] w fun r w' => r = .returned .nilIface ∧ w = w' := by
  go_enter Tryd.func35, Tryd.ntmps35
  go_wp2
  go_ret
  exact ⟨rfl, rfl⟩
theorem of_any (s : ByteArray) (n : Int) (w : World) (hn : n ≠ 0) :
    Calls Tryd.prog 36 #[.string s, .int .i64 n] w (Mk w (some n) [s]) := by
  have h0 : (n == 0) = false := beq_eq_false_iff_ne.2 hn
  clear hn
  go_enter Tryd.func36, Tryd.ntmps36
  go_wp2
  go_ret
  exact ⟨_, rfl, isErr_new (show isErr w (some n) [] (.iface 45 (.int .i64 n)) from rfl) s _, (Below.refl _ _).alloc (Nat.le_refl _) _⟩
theorem of_zero (s : ByteArray) (w : World) :
    Calls Tryd.prog 36 #[.string s, .int .i64 0] w fun r w' => r = .returned .nilIface ∧ w = w' := by
  go_enter Tryd.func36, Tryd.ntmps36
  go_wp2
  go_ret
  exact ⟨rfl, rfl⟩
end

section
open Go.RowKit

def denyS : ByteArray := ⟨#[100, 101, 110, 121]⟩
def grantsS : ByteArray := ⟨#[103, 114, 97, 110, 116, 115]⟩
def algsS : ByteArray := ⟨#[97, 108, 103, 115]⟩
def limitS : ByteArray := ⟨#[108, 105, 109, 105, 116]⟩
/-- What is wrong with a gate, and within what. -/
def denyE (gs : List Gr) (ss : List ByteArray) (l : Int) : Int := if grantsN gs ≠ 0 then grantsN gs else if algsN ss ≠ 0 then algsN ss else if l < 1 ∨ 20 < l then 5 else 0
def denyW (gs : List Gr) (ss : List ByteArray) (l : Int) : ByteArray := if grantsN gs ≠ 0 then grantsS else if algsN ss ≠ 0 then algsS else if l < 1 ∨ 20 < l then limitS else ⟨#[]⟩
def DnR (w : World) (e : Int) (s : ByteArray) (r : Ending) (w' : World) : Prop := if e = 0 then r = .returned .nilIface ∧ Below w.heap.size w w' else ∃ T u, r = .returned (.iface T u) ∧ isErr w' (some e) [denyS, s] (.iface T u) ∧ Below w.heap.size w w'
set_option maxHeartbeats 2000000 in
theorem dnCheck_any (gs : List Gr) (ss : List ByteArray) (l : Int) (A B : Option Addr) (n c m d : Nat) (w : World) (hc : n ≤ c) (hn : c ≤ 9223372036854775807) (hd : m ≤ d) (hm : d ≤ 9223372036854775807)
    (H : Grs w A n gs) (hg : ∀ x ∈ gs, x.1.size ≤ 9223372036854775807) (K : Strs w B m ss) (hs : ∀ s ∈ ss, s.size ≤ 9223372036854775807) :
    Calls Tryd.prog 20 #[.slice A n c, .slice B m d, .int .i64 l] w (DnR w (denyE gs ss l) (denyW gs ss l)) := by
  have cG := grants_any gs A n c w (by omega) H hg
  have cA := fun W (h : Below w.heap.size w W) => algs_any ss B m d W hd hm (K.keep h) hs
  have he : denyE gs ss l = if grantsN gs ≠ 0 then grantsN gs else if algsN ss ≠ 0 then algsN ss else if l < 1 ∨ 20 < l then 5 else 0 := rfl
  have hw : denyW gs ss l = if grantsN gs ≠ 0 then grantsS else if algsN ss ≠ 0 then algsS else if l < 1 ∨ 20 < l then limitS else ⟨#[]⟩ := rfl
  have cAt := Lib.hid (fun (o : Option Int) (p : List ByteArray) T u W (h : isErr W o p (.iface T u)) => at_any ⟨#[100, 101, 110, 121]⟩ o p T u W h)
  generalize grantsN gs = g at cG he hw
  generalize algsN ss = a at cA he hw
  generalize denyE gs ss l = e at he ⊢
  generalize denyW gs ss l = s at hw ⊢
  have cG := Lib.hid cG
  have cA := Lib.hid cA
  clear H K hg hs
  by_cases h1 : g = 0
  · subst h1
    rw [if_neg (by decide)] at he hw
    by_cases h2 : a = 0
    · subst h2
      rw [if_neg (by decide)] at he hw
      by_cases h3 : l < 1 ∨ 20 < l
      · rw [if_pos h3] at he hw
        subst he hw
        have cO := Lib.hid (fun W => of_any ⟨#[108, 105, 109, 105, 116]⟩ 5 W (by decide))
        have h3' : l < 1 ∨ (1 ≤ l ∧ 20 < l) := by omega
        clear h3
        rcases h3' with h3 | ⟨h3, h4⟩
        all_goals
          go_enter Tryd.func20, Tryd.ntmps20
          go_wp2_with (first
            | (go_at_call 34; (with_reducible refine cG.out.mono ?_); rintro r w4 ⟨rfl, hb4⟩; have hB4 := Lib.hid hb4; clear hb4)
            | (go_at_call 37; (with_reducible refine (cA.out _ hB4.out).mono ?_); rintro r w5 ⟨rfl, hb5⟩; have hB5 := Lib.hid (hB4.out.trans (hb5.mono hB4.out.size)); clear hb5)
            | (go_at_call 36; (with_reducible refine (cO.out _).mono ?_); rintro r w6 ⟨v6, rfl, hE6, hb6⟩; obtain ⟨T6, u6, rfl⟩ := isErr_some hE6; have hE6 := Lib.hid hE6; have hB6 := Lib.hid (hB5.out.trans (hb6.mono hB5.out.size)); clear hb6)
            | (go_at_call 35; (with_reducible refine (cAt.out _ _ _ _ _ hE6.out).mono ?_); rintro r w7 ⟨v7, rfl, hE7, hb7⟩; obtain ⟨T7, u7, rfl⟩ := isErr_some hE7; have hE7 := Lib.hid hE7; have hB7 := Lib.hid (hB6.out.trans (hb7.mono hB6.out.size)); clear hb7))
          go_ret
          unfold DnR
          rw [if_neg (by decide)]
          exact ⟨_, _, rfl, hE7.out, hB7.out⟩
      · rw [if_neg h3] at he hw
        subst he hw
        have i1 : ¬ l < 1 := by omega
        have i2 : ¬ 20 < l := by omega
        clear h3
        go_enter Tryd.func20, Tryd.ntmps20
        go_wp2_with (first
          | (go_at_call 34; (with_reducible refine cG.out.mono ?_); rintro r w4 ⟨rfl, hb4⟩; have hB4 := Lib.hid hb4; clear hb4)
          | (go_at_call 37; (with_reducible refine (cA.out _ hB4.out).mono ?_); rintro r w5 ⟨rfl, hb5⟩; have hB5 := Lib.hid (hB4.out.trans (hb5.mono hB4.out.size)); clear hb5))
        go_ret
        unfold DnR
        rw [if_pos rfl]
        exact ⟨rfl, hB5.out⟩
    · rw [if_pos h2] at he hw
      subst he hw
      have hne : (e != 0) = true := by unfold bne; rw [beq_eq_false_iff_ne.2 h2]; rfl
      have cO := Lib.hid (fun W => of_any ⟨#[97, 108, 103, 115]⟩ e W h2)
      have hN := Lib.hid h2
      clear h2
      go_enter Tryd.func20, Tryd.ntmps20
      go_wp2_with (first
        | (go_at_call 34; (with_reducible refine cG.out.mono ?_); rintro r w4 ⟨rfl, hb4⟩; have hB4 := Lib.hid hb4; clear hb4)
        | (go_at_call 37; (with_reducible refine (cA.out _ hB4.out).mono ?_); rintro r w5 ⟨rfl, hb5⟩; have hB5 := Lib.hid (hB4.out.trans (hb5.mono hB4.out.size)); clear hb5)
        | (go_at_call 36; (with_reducible refine (cO.out _).mono ?_); rintro r w6 ⟨v6, rfl, hE6, hb6⟩; obtain ⟨T6, u6, rfl⟩ := isErr_some hE6; have hE6 := Lib.hid hE6; have hB6 := Lib.hid (hB5.out.trans (hb6.mono hB5.out.size)); clear hb6)
        | (go_at_call 35; (with_reducible refine (cAt.out _ _ _ _ _ hE6.out).mono ?_); rintro r w7 ⟨v7, rfl, hE7, hb7⟩; obtain ⟨T7, u7, rfl⟩ := isErr_some hE7; have hE7 := Lib.hid hE7; have hB7 := Lib.hid (hB6.out.trans (hb7.mono hB6.out.size)); clear hb7))
      go_ret
      unfold DnR
      rw [if_neg hN.out]
      exact ⟨_, _, rfl, hE7.out, hB7.out⟩
  · rw [if_pos h1] at he hw
    subst he hw
    have hne : (e != 0) = true := by unfold bne; rw [beq_eq_false_iff_ne.2 h1]; rfl
    have cO := Lib.hid (fun W => of_any ⟨#[103, 114, 97, 110, 116, 115]⟩ e W h1)
    have hN := Lib.hid h1
    clear h1
    go_enter Tryd.func20, Tryd.ntmps20
    go_wp2_with (first
      | (go_at_call 34; (with_reducible refine cG.out.mono ?_); rintro r w4 ⟨rfl, hb4⟩; have hB4 := Lib.hid hb4; clear hb4)
      | (go_at_call 36; (with_reducible refine (cO.out _).mono ?_); rintro r w6 ⟨v6, rfl, hE6, hb6⟩; obtain ⟨T6, u6, rfl⟩ := isErr_some hE6; have hE6 := Lib.hid hE6; have hB6 := Lib.hid (hB4.out.trans (hb6.mono hB4.out.size)); clear hb6)
      | (go_at_call 35; (with_reducible refine (cAt.out _ _ _ _ _ hE6.out).mono ?_); rintro r w7 ⟨v7, rfl, hE7, hb7⟩; obtain ⟨T7, u7, rfl⟩ := isErr_some hE7; have hE7 := Lib.hid hE7; have hB7 := Lib.hid (hB6.out.trans (hb7.mono hB6.out.size)); clear hb7))
    go_ret
    unfold DnR
    rw [if_neg hN.out]
    exact ⟨_, _, rfl, hE7.out, hB7.out⟩
end

section
open Go.RowKit

set_option maxHeartbeats 2000000 in
theorem refDnCheck_any (gs : List Gr) (ss : List ByteArray) (l : Int) (A B : Option Addr) (n c m d : Nat) (w : World) (hc : n ≤ c) (hn : c ≤ 9223372036854775807) (hd : m ≤ d) (hm : d ≤ 9223372036854775807)
    (H : Grs w A n gs) (hg : ∀ x ∈ gs, x.1.size ≤ 9223372036854775807) (K : Strs w B m ss) (hs : ∀ s ∈ ss, s.size ≤ 9223372036854775807) :
    Calls Tryd.prog 15 #[.slice A n c, .slice B m d, .int .i64 l] w fun r w' => r = .returned (.tuple #[.int .i64 (denyE gs ss l), .string (denyW gs ss l)]) ∧ Below w.heap.size w w' := by
  have hlen := H.len
  have cA := refAlgs_any ss B m d w hd hm K hs
  have he : denyE gs ss l = if grantsN gs ≠ 0 then grantsN gs else if algsN ss ≠ 0 then algsN ss else if l < 1 ∨ 20 < l then 5 else 0 := rfl
  have hw : denyW gs ss l = if grantsN gs ≠ 0 then grantsS else if algsN ss ≠ 0 then algsS else if l < 1 ∨ 20 < l then limitS else ⟨#[]⟩ := rfl
  generalize algsN ss = a at cA he hw
  generalize denyE gs ss l = e at he ⊢
  generalize denyW gs ss l = s at hw ⊢
  have cA := Lib.hid cA
  clear K hs
  by_cases h16 : 16 < n
  · have hv : grantsN gs = 2 := by unfold grantsN; rw [if_pos (by omega)]
    rw [hv, if_pos (by decide)] at he hw
    subst he hw
    clear H hg hlen hv
    go_enter Tryd.func15, Tryd.ntmps15
    go_wp2
    go_ret2
    exact ⟨rfl, Below.refl _ _⟩
  have hv0 : grantsN gs = grN gs := by unfold grantsN; rw [if_neg (by omega)]
  rw [hv0] at he hw
  have he := Lib.hid he
  have hw := Lib.hid hw
  have hS := Lib.hid hg
  have hL := Lib.hid hlen
  have HH := Lib.hid H
  have h16' : n ≤ 16 := by omega
  clear hg hlen H hv0
  go_enter Tryd.func15, Tryd.ntmps15
  go_wp2
  go_loop [8] (fun i => ∃ k : Nat, k ≤ n ∧ i = .int .i64 k ∧ Hid (grN (gs.drop k) = grN gs)) (fun i => n - (intOf i).toNat)
  case atStart => exact ⟨0, by omega, rfl, by simp [Hid]⟩
  case round =>
    obtain ⟨k, hk, rfl, hf⟩ := hrel
    by_cases hlt : k < n
    · obtain ⟨b, off, ⟨u, x⟩, rfl, hb, hx, c0, c1⟩ := HH.out.at_ hlt
      have hz := hS.out _ (List.mem_of_getElem? hx)
      have cU := Lib.hid (fun W => refUser_any u W hz)
      have hst := grN_step hx
      have hone : grOne (u, x) = if userB u then (if x < 0 ∨ 15 < x then 5 else 0) else 3 := rfl
      have hl0 : (0 : Int) ≤ (k : Int) := by omega
      have hl1 : (k : Int) < (n : Int) := by omega
      simp only at c0 c1
      clear hx hz hb
      generalize userB u = q at cU hone
      cases q with
      | false =>
        have hg3 : grN gs = 3 := by rw [← hf.out, hst, hone]; rfl
        have hE := he.out
        have hW := hw.out
        rw [hg3, if_pos (by decide)] at hE hW
        have hE := Lib.hid hE
        have hW := Lib.hid hW
        clear hst hone hg3
        go_wp2_with (go_at_call 28; refine (cU.out _).mono ?_; rintro r w4 ⟨rfl, rfl⟩)
        go_ret2
        exact ⟨by rw [hE.out, hW.out]; rfl, Below.refl _ _⟩
      | true =>
        by_cases hx : x < 0 ∨ 15 < x
        · have hg5 : grN gs = 5 := by rw [← hf.out, hst, hone]; simp [hx]
          have hE := he.out
          have hW := hw.out
          rw [hg5, if_pos (by decide)] at hE hW
          have hE := Lib.hid hE
          have hW := Lib.hid hW
          clear hst hone hg5
          have hx2 : x < 0 ∨ (¬ x < 0 ∧ 15 < x) := by omega
          clear hx
          rcases hx2 with hx | ⟨hx0, hx⟩
          all_goals
            go_wp2_with (go_at_call 28; refine (cU.out _).mono ?_; rintro r w4 ⟨rfl, rfl⟩)
            go_ret2
            exact ⟨by rw [hE.out, hW.out]; rfl, Below.refl _ _⟩
        · have hn := Lib.hid (show grN (gs.drop (k + 1)) = grN gs by rw [← hf.out, hst, hone]; simp [hx])
          clear hst hone
          have hx0 : ¬ x < 0 := by omega
          have hx15 : ¬ 15 < x := by omega
          clear hx
          go_wp2_with (go_at_call 28; refine (cU.out _).mono ?_; rintro r w4 ⟨rfl, rfl⟩)
          go_round
          case rel => exact ⟨k + 1, by omega, by go_num, hn⟩
          case measure => simp [intOf]; omega
    · have hd : gs.drop k = [] := List.drop_of_length_le (by rw [hL.out]; omega)
      have hg0 : grN gs = 0 := by rw [← hf.out, hd]; rfl
      have hE := he.out
      have hW := hw.out
      rw [hg0, if_neg (by decide)] at hE hW
      clear hd hg0
      by_cases h2 : a = 0
      · subst h2
        rw [if_neg (by decide)] at hE hW
        by_cases h3 : l < 1 ∨ 20 < l
        · rw [if_pos h3] at hE hW
          have hE := Lib.hid hE
          have hW := Lib.hid hW
          have h3' : l < 1 ∨ (¬ l < 1 ∧ 20 < l) := by omega
          clear h3
          rcases h3' with h3 | ⟨h3, h4⟩
          all_goals
            go_wp2_with (go_at_call 29; refine cA.out.mono ?_; rintro r w4 ⟨rfl, hb4⟩)
            go_ret2
            exact ⟨by rw [hE.out, hW.out]; rfl, hb4⟩
        · rw [if_neg h3] at hE hW
          have hE := Lib.hid hE
          have hW := Lib.hid hW
          have i1 : ¬ l < 1 := by omega
          have i2 : ¬ 20 < l := by omega
          clear h3
          go_wp2_with (go_at_call 29; refine cA.out.mono ?_; rintro r w4 ⟨rfl, hb4⟩)
          go_ret2
          exact ⟨by rw [hE.out, hW.out]; rfl, hb4⟩
      · rw [if_pos h2] at hE hW
        have hE := Lib.hid hE
        have hW := Lib.hid hW
        have hne : (a != 0) = true := by unfold bne; rw [beq_eq_false_iff_ne.2 h2]; rfl
        clear h2
        go_wp2_with (go_at_call 29; refine cA.out.mono ?_; rintro r w4 ⟨rfl, hb4⟩)
        go_ret2
        exact ⟨by rw [hE.out, hW.out]; rfl, hb4⟩
end

section
open Go.RowKit

theorem flat_split {k : Nat} (hk : 0 < k) : ∀ {zs : List (List Value)}, (∀ z ∈ zs, z.length = k) → ∀ {j : Nat} {u : Value}, zs.flatten[j]? = some u → ∃ z, zs[j / k]? = some z ∧ z[j % k]? = some u := by
  intro zs
  induction zs with
  | nil => intro _ j u h; simp at h
  | cons y ys ih =>
    intro hz j u h
    have hy : y.length = k := hz y (by simp)
    rw [List.flatten_cons] at h
    by_cases hj : j < k
    · rw [List.getElem?_append_left (by omega)] at h
      rw [Nat.div_eq_of_lt hj, Nat.mod_eq_of_lt hj]
      exact ⟨y, rfl, h⟩
    · rw [List.getElem?_append_right (by omega), hy] at h
      obtain ⟨z, h1, h2⟩ := ih (fun z hz' => hz z (by simp [hz'])) h
      obtain ⟨i, rfl⟩ : ∃ i, j = i + k := ⟨j - k, by omega⟩
      rw [Nat.add_sub_cancel] at h1 h2
      rw [Nat.add_div_right _ hk, Nat.add_mod_right]
      exact ⟨z, by rw [List.getElem?_cons_succ]; exact h1, h2⟩
theorem Rws.flat {w : World} {k n : Nat} {A : Addr} {zs : List (List Value)} (hk : 0 < k) (h : Rws w k (some A) n zs) : ∀ j u, zs.flatten[j]? = some u → w.cell? (A.add j) = some u := by
  intro j u hj
  obtain ⟨z, h1, h2⟩ := flat_split hk h.2.1 hj
  have hn : 0 < n := by
    have := (List.getElem?_eq_some_iff.1 h1).1
    rw [h.1] at this
    exact Nat.lt_of_le_of_lt (Nat.zero_le _) this
  obtain ⟨b, off, e, _, hc⟩ := h.2.2 hn
  injection e with e
  subst e
  have := hc _ _ h1 _ _ h2
  rw [show off + j / k * k + j % k = off + j by rw [Nat.mul_comm, Nat.add_assoc, Nat.div_add_mod]] at this
  rwa [Addr.add_mid]
theorem gr_info : (Tryd.prog.info? 30).map (fun i => (i.zero, i.size, i.bytes)) = some (some (.agg #[.string ByteArray.empty, .int .i64 0]), 2, 24) := by kernel_rfl
set_option maxHeartbeats 2000000 in
set_option maxRecDepth 100000 in
theorem cloneG_any (gs : List Gr) (A : Option Addr) (n c : Nat) (w : World) (hn : n ≤ 1000000) (H : Grs w A n gs) :
    Calls Tryd.prog 21 #[.slice A n c] w fun r w' => ∃ v', r = .returned v' ∧ OwnR w' w.heap.size 2 30 v' (gs.map grv) ∧ Below w.heap.size w w' := by
  have hl := H.len
  have q := fun (w : World) (a : Option Addr) (n c n' c' : Nat) => Lib.run_eql_slice_nil (P := Tryd.prog) w 31 30 a n c n' c' Tryd.underlying31
  cases A with
  | none =>
    have h0 : n = 0 := by
      by_cases h : 0 < n
      · obtain ⟨b, off, e, _⟩ := H.2.2 h; cases e
      · omega
    subst h0
    have hs : gs = [] := List.eq_nil_of_length_eq_zero hl
    subst hs
    clear H hl
    go_enter Tryd.func21, Tryd.ntmps21
    go_wp2
    go_ret
    exact ⟨_, rfl, OwnR.nil_ _ _ _ _, Below.refl _ _⟩
  | some ad =>
    obtain ⟨i0, hi, hz0, hz1, hz2⟩ := info_parts gr_info
    have hB1 := Lib.hid (below_grow w (.cells #[] 30))
    have hc := Lib.hid ((H.keep hB1.out).flat (by decide))
    have hfl : (gs.map grv).flatten.length = n * 2 := by
      rw [← hl]
      clear hc hl H
      induction gs with
      | nil => rfl
      | cons x r ih => simp only [List.map_cons, List.flatten_cons, List.length_append, ih, List.length_cons]; show 2 + r.length * 2 = _; omega
    have hfl := Lib.hid hfl
    have hL := Lib.hid hl
    clear H hl
    go_enter Tryd.func21, Tryd.ntmps21
    go_wp2_with (at_builtin; refine wpList_append_own _ rfl _ _ 31 rfl w.heap.size 30 i0 (.agg #[.string ByteArray.empty, .int .i64 0]) 2 24 Tryd.underlying31 hi hz0 hz1 hz2 rfl (by decide) _ _ _ rfl (World.ownsRow_made w #[] 0 (Nat.le_refl _) (Nat.zero_le _) rfl) ad n c (gs.map grv).flatten rfl ?qc1 ?qc2 ?qc3 ?qc4 ?qc5 ?qc6 ?_)
    case qc1 => exact hfl.out
    case qc2 => exact hc.out
    case qc3 => intro u hu; obtain ⟨z, hz, hu⟩ := List.mem_flatten.1 hu; obtain ⟨x, _, rfl⟩ := List.mem_map.1 hz; simp [grv] at hu; rcases hu with rfl | rfl <;> rfl
    case qc4 => unfold maxLen; omega
    case qc5 => omega
    case qc6 => simp
    intro v' w1 hown hgrow hnil
    go_wp2
    go_ret
    refine ⟨v', rfl, ⟨by simpa [hL.out] using hown, fun z hz => by obtain ⟨x, _, rfl⟩ := List.mem_map.1 hz; rfl⟩, ?_⟩
    exact ((Below.refl _ w).alloc (Nat.le_refl _) _).grown hgrow (by simp) (by intro k hk; simp [Value.ownBlock] at hk; omega)
end

section
open Go.RowKit

theorem map_sv_flatten (ss : List ByteArray) : (ss.map sv).flatten = ss.map Value.string := by
  induction ss with
  | nil => rfl
  | cons s ss ih => simp only [List.map_cons, List.flatten_cons, ih]; rfl
theorem ownS_of {w : World} {base n : Nat} {v : Value} {ss : List ByteArray} (hn : n = ss.length) (h : w.ownsRow base 9 1 v n (ss.map Value.string)) : OwnS w base v ss := by
  subst hn
  refine ⟨?_, by intro z hz; obtain ⟨s, _, rfl⟩ := List.mem_map.1 hz; rfl⟩
  rw [List.length_map, map_sv_flatten]
  exact h
theorem cloneS_any (ss : List ByteArray) (A : Option Addr) (n c : Nat) (w : World) (hn : n ≤ 1000000) (H : Strs w A n ss) :
    Calls Tryd.prog 22 #[.slice A n c] w fun r w' => ∃ v', r = .returned v' ∧ OwnS w' w.heap.size v' ss ∧ Below w.heap.size w w' := by
  have hl := H.len
  cases A with
  | none =>
    have h0 : n = 0 := by
      by_cases h : 0 < n
      · obtain ⟨b, off, e, _⟩ := H.2.2 h; cases e
      · omega
    subst h0
    have hs : ss = [] := List.eq_nil_of_length_eq_zero hl
    subst hs
    refine (Tryd.slices_Clone_string_nil 0 c w).mono ?_
    rintro r w' ⟨rfl, rfl⟩
    exact ⟨_, rfl, OwnR.nil_ _ _ _ _, Below.refl _ _⟩
  | some a =>
    by_cases h : 0 < n
    · obtain ⟨b, off, e, hb, hc⟩ := H.2.2 h
      injection e with e
      subst e
      refine (Tryd.slices_Clone_string b off n c ss w (by omega) (by omega) (fun j hj => ?_)).mono ?_
      · have := hc j (sv (ss.getD j ByteArray.empty)) (by rw [List.getElem?_map, List.getD_eq_getElem?_getD, List.getElem?_eq_getElem hj]; rfl) 0 _ rfl
        simpa using this
      · rintro r w' ⟨v', rfl, h1, _, h2⟩
        rw [List.take_of_length_le (by omega)] at h1
        exact ⟨v', rfl, ownS_of hl.symm h1, h2⟩
    · have h0 : n = 0 := by omega
      subst h0
      have hs : ss = [] := List.eq_nil_of_length_eq_zero hl
      subst hs
      refine (Tryd.slices_Clone_string_zero a c w).mono ?_
      rintro r w' ⟨v', rfl, h1, _, h2⟩
      exact ⟨v', rfl, ownS_of rfl h1, h2⟩
end

section
open Go.RowKit

/-- Block g is a gate. -/
def GateB (w : World) (g : Nat) (A B : Option Addr) (n c m d : Nat) (l f : Int) : Prop := w.heap[g]? = some (.cells #[.slice A n c, .slice B m d, .int .i64 l, .int .i64 f] 56 (0, 0))
theorem GateB.lt {w : World} {g : Nat} {A B : Option Addr} {n c m d : Nat} {l f : Int} (h : GateB w g A B n c m d l f) : g < w.heap.size := (Array.getElem?_eq_some_iff.1 h).1
theorem GateB.keep {w w' : World} {g : Nat} {A B : Option Addr} {n c m d : Nat} {l f : Int} (h : GateB w g A B n c m d l f) (hb : Below w.heap.size w w') : GateB w' g A B n c m d l f := (hb.block g h.lt).trans h
theorem GateB.cells {w : World} {g : Nat} {A B : Option Addr} {n c m d : Nat} {l f : Int} (h : GateB w g A B n c m d l f) : w.cell? ⟨g, 1, none⟩ = some (.slice B m d) ∧ w.cell? ⟨g, 2, none⟩ = some (.int .i64 l) ∧ w.cell? ⟨g, 3, none⟩ = some (.int .i64 f) ∧ w.frozen? ⟨g, 3, none⟩ = false :=
  ⟨cell_of_row _ _ 1 _ _ _ h, cell_of_row _ _ 2 _ _ _ h, cell_of_row _ _ 3 _ _ _ h, frozen_of_row w g 3 _ _ h⟩
theorem GateB.put {w : World} {g : Nat} {A B : Option Addr} {n c m d : Nat} {l f : Int} (h : GateB w g A B n c m d l f) (f' : Int) : GateB (w.setCell ⟨g, 3, none⟩ (.int .i64 f')) g A B n c m d l f' := by
  unfold GateB
  rw [heap_setCell_same w g 3 _ _ _ h]
  rfl
theorem below_grow' (w : World) (o : Obj) : Below w.heap.size w (w.alloc o) := (Below.refl _ _).alloc (Nat.le_refl _) o
theorem failures_any (g : Nat) (A B : Option Addr) (n c m d : Nat) (l f : Int) (w : World) (H : GateB w g A B n c m d l f) :
    Calls Tryd.prog 12 #[.pointer (some ⟨g, 0, none⟩)] w fun r w' => r = .returned (.int .i64 f) ∧ w = w' := by
  obtain ⟨_, _, c3, _⟩ := H.cells
  clear H
  go_enter Tryd.func12, Tryd.ntmps12
  go_wp2
  go_ret
  exact ⟨rfl, rfl⟩
theorem full_any (g : Nat) (A B : Option Addr) (n c m d : Nat) (l f : Int) (w : World) (H : GateB w g A B n c m d l f) :
    Calls Tryd.prog 13 #[.pointer (some ⟨g, 0, none⟩)] w fun r w' => r = .returned (.bool (decide (l ≤ f))) ∧ ∃ q, w' = w.drewN q := by
  obtain ⟨_, c2, c3, _⟩ := H.cells
  clear H
  go_enter Tryd.func13, Tryd.ntmps13
  go_wp2_with fail
  go_quiet (fail)
  go_wp2_with fail
  go_ret
  exact ⟨rfl, _, rfl⟩
theorem fail_any (g : Nat) (A B : Option Addr) (n c m d : Nat) (l f : Int) (w : World) (H : GateB w g A B n c m d l f) (h0 : 0 ≤ f) (h1 : f ≤ 1000000) (hlf : f < l) :
    Calls Tryd.prog 10 #[.pointer (some ⟨g, 0, none⟩)] w fun r w' => r = .returned (.bool (decide (l ≤ f + 1))) ∧ ∃ q1 q2, w' = ((w.drewN q1).setCell ⟨g, 3, none⟩ (.int .i64 (f + 1))).drewN q2 := by
  have cF := full_any g A B n c m d l f w H
  rw [decide_eq_false (by omega)] at cF
  have cG := Lib.hid (fun q => full_any g A B n c m d l (f + 1) ((w.drewN q).setCell ⟨g, 3, none⟩ (.int .i64 (f + 1))) ((H.keep (drewN_below q)).put (f + 1)))
  obtain ⟨_, c2, c3, c4⟩ := H.cells
  have cF := Lib.hid cF
  clear H hlf
  go_enter Tryd.func10, Tryd.ntmps10
  go_wp2_with (first
    | (go_at_call 13; (with_reducible refine cF.out.mono ?_); rintro r w3 ⟨rfl, q3, rfl⟩)
    | (go_at_call 13; (with_reducible refine (cG.out _).mono ?_); rintro r w4 ⟨rfl, q4, rfl⟩))
  go_ret
  exact ⟨rfl, _, _, rfl⟩
theorem fail_gate {w : World} {g : Nat} {A B : Option Addr} {n c m d : Nat} {l f : Int} (H : GateB w g A B n c m d l f) (q1 q2 : Nat) : GateB (((w.drewN q1).setCell ⟨g, 3, none⟩ (.int .i64 (f + 1))).drewN q2) g A B n c m d l (f + 1) :=
  ((H.keep (drewN_below q1)).put (f + 1)).keep (drewN_below q2)
theorem fail_below {w0 w : World} {g : Nat} (hb : Below w0.heap.size w0 w) (hg : w0.heap.size ≤ g) (v : Value) (q1 q2 : Nat) : Below w0.heap.size w0 (((w.drewN q1).setCell ⟨g, 3, none⟩ v).drewN q2) := by
  have h1 : Below w0.heap.size w0 ((w.drewN q1).setCell ⟨g, 3, none⟩ v) := (hb.trans (Below.mono (drewN_below q1) hb.size)).setCell hg v
  exact h1.trans (Below.mono (drewN_below q2) h1.size)
theorem algsG_any (ss : List ByteArray) (g : Nat) (A B : Option Addr) (n c m d : Nat) (l f : Int) (w : World) (H : GateB w g A B n c m d l f) (K : Strs w B m ss) (hm : m ≤ 1000000) :
    Calls Tryd.prog 19 #[.pointer (some ⟨g, 0, none⟩)] w fun r w' => ∃ A' c', r = .returned (.slice A' m c') ∧ Strs w' A' m ss ∧ Below w.heap.size w w' := by
  obtain ⟨c1, _, _, _⟩ := H.cells
  have hl := K.len
  have cC := Lib.hid (cloneS_any ss B m d w hm K)
  have hl := Lib.hid hl
  clear H K
  go_enter Tryd.func19, Tryd.ntmps19
  go_wp2_with (go_at_call 22; refine cC.out.mono ?_; rintro r w4 ⟨v4, rfl, ho4, hb4⟩; obtain ⟨A4, c4, rfl, hS⟩ := ho4.strs; rw [hl.out] at hS ⊢; have hS := Lib.hid hS; have hB := Lib.hid hb4; clear ho4 hb4)
  go_ret
  exact ⟨_, _, rfl, hS.out, hB.out⟩
/-- What New hands back. -/
def NewR (w : World) (gs : List Gr) (ss : List ByteArray) (l : Int) (r : Ending) (w' : World) : Prop :=
  if denyE gs ss l = 0 then ∃ g A n c B m d, r = .returned (.tuple #[.pointer (some ⟨g, 0, none⟩), .nilIface]) ∧ GateB w' g A B n c m d l 0 ∧ Grs w' A n gs ∧ Strs w' B m ss ∧ w.heap.size ≤ g ∧ Below w.heap.size w w'
  else ∃ T u, r = .returned (.tuple #[.pointer none, .iface T u]) ∧ isErr w' (some (denyE gs ss l)) [denyS, denyW gs ss l] (.iface T u) ∧ Below w.heap.size w w'
set_option maxRecDepth 100000 in
set_option maxHeartbeats 2000000 in
theorem new_any (gs : List Gr) (ss : List ByteArray) (l : Int) (A B : Option Addr) (n c m d : Nat) (w : World) (hc : n ≤ c) (hn : c ≤ 9223372036854775807) (hd : m ≤ d) (hm : d ≤ 9223372036854775807) (hn1 : n ≤ 1000000) (hm1 : m ≤ 1000000)
    (H : Grs w A n gs) (hg : ∀ x ∈ gs, x.1.size ≤ 9223372036854775807) (K : Strs w B m ss) (hs : ∀ s ∈ ss, s.size ≤ 9223372036854775807) :
    Calls Tryd.prog 6 #[.slice A n c, .slice B m d, .int .i64 l] w (NewR w gs ss l) := by
  have cC := dnCheck_any gs ss l A B n c m d w hc hn hd hm H hg K hs
  by_cases h0 : denyE gs ss l = 0
  · have cC := Lib.hid (Calls.mono cC (fun r w' h => (show r = .returned .nilIface ∧ Below w.heap.size w w' by unfold DnR at h; rwa [if_pos h0] at h)))
    have cG := Lib.hid (fun W (h : Below w.heap.size w W) => cloneG_any gs A n c W hn1 (H.keep h))
    have cS := Lib.hid (fun W (h : Below w.heap.size w W) => cloneS_any ss B m d W hm1 (K.keep h))
    have h0 := Lib.hid h0
    clear H K hg hs
    go_enter Tryd.func6, Tryd.ntmps6
    go_wp2_with (first
      | (go_at_call 20; (with_reducible refine cC.out.mono ?_); rintro r w3 ⟨rfl, hb3⟩; have hB3 := Lib.hid hb3; clear hb3)
      | (go_at_call 21; (with_reducible refine (cG.out _ hB3.out).mono ?_); rintro r w4 ⟨v4, rfl, ho4, hb4⟩; obtain ⟨A4, c4, rfl, hG4⟩ := OwnR.rws ho4; generalize hn4 : (gs.map grv).length = n4 at hG4 ⊢; have hG4 := Lib.hid (show Grs w4 A4 n4 gs from hG4); have hB4 := Lib.hid (hB3.out.trans (hb4.mono hB3.out.size)); clear ho4 hb4 hn4)
      | (go_at_call 22; (with_reducible refine (cS.out _ hB4.out).mono ?_); rintro r w5 ⟨v5, rfl, ho5, hb5⟩; obtain ⟨A5, c5, rfl, hS5⟩ := ho5.strs; generalize hn5 : ss.length = n5 at hS5 ⊢; have hS5 := Lib.hid hS5; have hG5 := Lib.hid (hG4.out.keep hb5); have hB5 := Lib.hid (hB4.out.trans (hb5.mono hB4.out.size)); clear ho5 hb5 hn5)
      | (refine wpList_build_as 56 _ rfl rfl #[.slice A4 n4 c4, .slice A5 n5 c5, .int .i64 l, .int .i64 0] (by kernel_rfl) ?_)
      | (refine wpList_box_row 56 _ rfl rfl #[.slice A4 n4 c4, .slice A5 n5 c5, .int .i64 l, .int .i64 0] rfl ?_))
    go_ret2
    unfold NewR
    rw [if_pos h0.out]
    have hb6 := below_grow' w5 (.cells #[.slice A4 n4 c4, .slice A5 n5 c5, .int .i64 l, .int .i64 0] 56)
    exact ⟨w5.heap.size, _, _, _, _, _, _, rfl, heap_new _ _, hG5.out.keep hb6, hS5.out.keep hb6, hB5.out.size, hB5.out.trans (hb6.mono hB5.out.size)⟩
  · have cC := Lib.hid (Calls.mono cC (fun r w' h => (show ∃ T u, r = .returned (.iface T u) ∧ isErr w' (some (denyE gs ss l)) [denyS, denyW gs ss l] (.iface T u) ∧ Below w.heap.size w w' by unfold DnR at h; rwa [if_neg h0] at h)))
    have h0 := Lib.hid h0
    clear H K hg hs
    go_enter Tryd.func6, Tryd.ntmps6
    go_wp2_with (go_at_call 20; (with_reducible refine cC.out.mono ?_); rintro r w3 ⟨T3, u3, rfl, hE3, hb3⟩; have hE3 := Lib.hid hE3; have hB3 := Lib.hid hb3; clear hb3)
    go_ret2
    unfold NewR
    rw [if_neg h0.out]
    exact ⟨_, _, rfl, hE3.out, hB3.out⟩
end

section
open Go.RowKit Go.ChangeShapes Go.WideShapes

theorem fail_nice (g : Nat) (A B : Option Addr) (n c m d : Nat) (l f f' : Int) (q : Bool) (w : World) (H : GateB w g A B n c m d l f) (h0 : 0 ≤ f) (h1 : f ≤ 1000000) (hlf : f < l) (hf : f + 1 = f') (hq : decide (l ≤ f') = q) :
    Calls Tryd.prog 10 #[.pointer (some ⟨g, 0, none⟩)] w fun r w' => r = .returned (.bool q) ∧ GateB w' g A B n c m d l f' ∧ ∀ w0 : World, Below w0.heap.size w0 w → w0.heap.size ≤ g → Below w0.heap.size w0 w' := by
  subst hf hq
  refine (fail_any g A B n c m d l f w H h0 h1 hlf).mono ?_
  rintro r w' ⟨rfl, q1, q2, rfl⟩
  exact ⟨rfl, fail_gate H q1 q2, fun w0 hb hg => fail_below hb hg _ q1 q2⟩
theorem denyE_awake : denyE [] [⟨#[115, 115, 104, 45, 97]⟩] 2 = 0 := by decide +kernel
set_option maxRecDepth 100000 in
set_option maxHeartbeats 2000000 in
theorem awake24_any (w : World) :
    Calls Tryd.prog 5 #[] w fun r w' => r = .returned (.bool true) ∧ Below w.heap.size w w' := by
  have hb1 := below_grow' w (.cells #[.string ⟨#[115, 115, 104, 45, 97]⟩] 9)
  have hS1 : Strs (w.alloc (.cells #[.string ⟨#[115, 115, 104, 45, 97]⟩] 9)) (some ⟨w.heap.size, 0, none⟩) 1 [⟨#[115, 115, 104, 45, 97]⟩] :=
    Strs.block (ss := [⟨#[115, 115, 104, 45, 97]⟩]) (by exact heap_new w _) (Array.getElem?_eq_some_iff.1 (heap_new w _)).1
  have cN := Lib.hid (Calls.mono (new_any [] [⟨#[115, 115, 104, 45, 97]⟩] 2 none (some ⟨w.heap.size, 0, none⟩) 0 0 1 1 _ (by decide) (by decide) (by decide) (by decide) (by decide) (by decide) Rws.nil_ (by simp) hS1 (by decide +kernel))
    (fun r w' h => (show ∃ g A n c B m d, r = .returned (.tuple #[.pointer (some ⟨g, 0, none⟩), .nilIface]) ∧ GateB w' g A B n c m d 2 0 ∧ _ ∧ _ ∧ _ ≤ g ∧ Below _ _ w' by unfold NewR at h; rwa [if_pos denyE_awake] at h)))
  have cF := Lib.hid (fun W g A B n c m d (h : GateB W g A B n c m d 2 0) => full_any g A B n c m d 2 0 W h)
  have cA := Lib.hid (fun W g A B n c m d (h : GateB W g A B n c m d 2 0) => fail_nice g A B n c m d 2 0 1 false W h (by decide) (by decide) (by decide) rfl (by decide))
  have cB := Lib.hid (fun W g A B n c m d (h : GateB W g A B n c m d 2 1) => fail_nice g A B n c m d 2 1 2 true W h (by decide) (by decide) (by decide) rfl (by decide))
  have cC := Lib.hid (fun W g A B n c m d (h : GateB W g A B n c m d 2 2) => failures_any g A B n c m d 2 2 W h)
  have hB1 := Lib.hid hb1
  clear hb1 hS1
  go_enter Tryd.func5, Tryd.ntmps5
  go_wp2_with (first
    | (go_at_call 6; refine cN.out.mono ?_; rintro r w3 ⟨g, A, n, c, B, m, d, rfl, hG3, _, _, hge, hb3⟩; have hge3 := Lib.hid (show w.heap.size ≤ g from Nat.le_trans hB1.out.size hge); have hG3 := Lib.hid hG3; have hB3 := Lib.hid (hB1.out.trans (hb3.mono hB1.out.size)); clear hb3 hge)
    | (go_at_call 13; (with_reducible refine (cF.out _ _ _ _ _ _ _ _ hG3.out).mono ?_); rintro r w4 ⟨rfl, q4, rfl⟩; have hG4 := Lib.hid (hG3.out.keep (drewN_below q4)); have hB4 := Lib.hid (hB3.out.trans (Below.mono (drewN_below q4) hB3.out.size)))
    | (go_at_call 10; (with_reducible refine (cB.out _ _ _ _ _ _ _ _ hG5.out).mono ?_); rintro r w6 ⟨rfl, hG6, hb6⟩; have hG6 := Lib.hid hG6; have hB6 := Lib.hid (hb6 _ hB5.out hge3.out); clear hb6)
    | (go_at_call 10; (with_reducible refine (cA.out _ _ _ _ _ _ _ _ hG4.out).mono ?_); rintro r w5 ⟨rfl, hG5, hb5⟩; have hG5 := Lib.hid hG5; have hB5 := Lib.hid (hb5 _ hB4.out hge3.out); clear hb5)
    | (go_at_call 12; (with_reducible refine (cC.out _ _ _ _ _ _ _ _ hG6.out).mono ?_); rintro r w7 ⟨rfl, rfl⟩))
  go_ret
  exact ⟨rfl, hB6.out⟩
def fewB24 (gs : List Gr) (ss : List ByteArray) : Bool := decide (gs.length ≤ 20) && decide (ss.length ≤ 20) && gs.all (fun x => decide (x.1.size ≤ 100)) && ss.all (fun s => decide (s.size ≤ 100))
theorem gr_miss {p : Gr → Bool} {gs : List Gr} {k : Nat} {x : Gr} (h : gs[k]? = some x) (hp : p x = false) : gs.all p = false := by
  rw [List.all_eq_false]
  exact ⟨x, List.mem_of_getElem? h, by rw [hp]; decide⟩
set_option maxRecDepth 100000 in
set_option maxHeartbeats 2000000 in
theorem few24_any (gs : List Gr) (ss : List ByteArray) (l : Int) (A B : Option Addr) (n c m d : Nat) (w : World) (hn : n ≤ 9223372036854775807) (hm : m ≤ 9223372036854775807) (H : Grs w A n gs) (hg : ∀ x ∈ gs, x.1.size ≤ 9223372036854775807) (K : Strs w B m ss) (hs : ∀ s ∈ ss, s.size ≤ 9223372036854775807) :
    Calls Tryd.prog 14 #[.agg #[.slice A n c, .slice B m d, .int .i64 l]] w fun r w' => r = .returned (.bool (fewB24 gs ss)) ∧ Below w.heap.size w w' := by
  have hb1 := below_grow' w (.cells #[.slice A n c, .slice B m d, .int .i64 l] 42)
  have hc := heap_new w (.cells #[.slice A n c, .slice B m d, .int .i64 l] 42)
  have c0 : (w.alloc (.cells #[.slice A n c, .slice B m d, .int .i64 l] 42)).cell? ⟨w.heap.size, 0, none⟩ = some (.slice A n c) := cell_of_row _ _ 0 _ _ _ hc
  have c1 : (w.alloc (.cells #[.slice A n c, .slice B m d, .int .i64 l] 42)).cell? ⟨w.heap.size, 1, none⟩ = some (.slice B m d) := cell_of_row _ _ 1 _ _ _ hc
  have hgl := H.len
  have hsl := K.len
  have hfl : fewB24 gs ss = (decide (gs.length ≤ 20) && decide (ss.length ≤ 20) && gs.all (fun x => decide (x.1.size ≤ 100)) && ss.all (fun s => decide (s.size ≤ 100))) := rfl
  have HG := Lib.hid (H.keep hb1)
  have KS := Lib.hid (K.keep hb1)
  have hG := Lib.hid hg
  have hS := Lib.hid hs
  have hB1 := Lib.hid hb1
  clear H K hg hs hb1 hc
  by_cases h1 : 20 < n
  · have hv := Lib.hid (show fewB24 gs ss = false by rw [hfl, decide_eq_false (by omega)]; rfl)
    clear hfl hgl hsl
    go_enter Tryd.func14, Tryd.ntmps14
    go_wp2
    go_ret
    exact ⟨ret_bool hv.out.symm, hB1.out⟩
  have h1' : n ≤ 20 := by omega
  by_cases h2 : 20 < m
  · have hv := Lib.hid (show fewB24 gs ss = false by rw [hfl, decide_eq_false (p := ss.length ≤ 20) (by omega), Bool.and_false]; rfl)
    clear hfl hgl hsl h1
    go_enter Tryd.func14, Tryd.ntmps14
    go_wp2
    go_ret
    exact ⟨ret_bool hv.out.symm, hB1.out⟩
  have h2' : m ≤ 20 := by omega
  rw [decide_eq_true (by omega), decide_eq_true (by omega)] at hfl
  have hFL := Lib.hid hfl
  have hGL := Lib.hid hgl
  have hSL := Lib.hid hsl
  clear h1 h2 hfl hgl hsl
  go_enter Tryd.func14, Tryd.ntmps14
  go_upto_region 1 with fail
  generalize w.alloc (.cells #[.slice A n c, .slice B m d, .int .i64 l] 42) = w1 at c0 c1 HG KS hB1 ⊢
  go_wp2
  go_loop [3] (fun i => ∃ k : Nat, k ≤ n ∧ i = .int .i64 k ∧ Hid ((gs.take k).all (fun x => decide (x.1.size ≤ 100)) = true)) (fun i => n - (intOf i).toNat)
  case atStart => exact ⟨0, by omega, rfl, by simp [Hid]⟩
  case round =>
    obtain ⟨k, hk, rfl, hf⟩ := hrel
    by_cases hlt : k < n
    · obtain ⟨b, off, ⟨u, x⟩, rfl, hb, he, d0, d1⟩ := HG.out.at_ hlt
      have hz := hG.out _ (List.mem_of_getElem? he)
      have hst := all_take_succ (fun x : Gr => decide (x.1.size ≤ 100)) he
      have hms := fun h => gr_miss (p := fun x : Gr => decide (x.1.size ≤ 100)) he h
      have i1 : (0 : Int) ≤ (k : Int) := by omega
      have i2 : (k : Int) < (n : Int) := by omega
      simp only at d0 d1 hz
      clear he hb
      by_cases h100 : u.size ≤ 100
      · have hn1 := Lib.hid (show (gs.take (k + 1)).all (fun x => decide (x.1.size ≤ 100)) = true by rw [hst, hf.out, decide_eq_true h100]; rfl)
        clear hst hms
        go_wp2
        go_round
        case rel => exact ⟨k + 1, by omega, by go_num, hn1⟩
        case measure => simp [intOf]; omega
      · have hv := Lib.hid (show fewB24 gs ss = false by rw [hFL.out, hms (decide_eq_false h100)]; rfl)
        have h100' : ¬ (u.size : Int) ≤ 100 := by omega
        clear hst hms
        go_wp2
        go_ret
        exact ⟨ret_bool hv.out.symm, hB1.out⟩
    · have ht : gs.take k = gs := List.take_of_length_le (by rw [hGL.out]; omega)
      have hfl2 := Lib.hid (show fewB24 gs ss = ss.all (fun s => decide (s.size ≤ 100)) by rw [hFL.out]; have := hf.out; rw [ht] at this; rw [this]; rfl)
      clear ht
      go_wp2
      go_loop [4] (fun i => ∃ j : Nat, j ≤ m ∧ i = .int .i64 j ∧ Hid ((ss.take j).all (fun s => decide (s.size ≤ 100)) = true)) (fun i => m - (intOf i).toNat)
      case atStart => exact ⟨0, by omega, rfl, by simp [Hid]⟩
      case round =>
        obtain ⟨j, hj, rfl, hf2⟩ := hrel
        by_cases hltj : j < m
        · obtain ⟨b2, off2, s, rfl, hb2, he, hr⟩ := KS.out.at_ hltj
          have hz := hS.out s (List.mem_of_getElem? he)
          have hst := all_take_succ (fun s : ByteArray => decide (s.size ≤ 100)) he
          have hms := fun h => strs_miss (p := fun s : ByteArray => decide (s.size ≤ 100)) he h
          have i1 : (0 : Int) ≤ (j : Int) := by omega
          have i2 : (j : Int) < (m : Int) := by omega
          clear he hb2
          by_cases h100 : s.size ≤ 100
          · have hn1 := Lib.hid (show (ss.take (j + 1)).all (fun s => decide (s.size ≤ 100)) = true by rw [hst, hf2.out, decide_eq_true h100]; rfl)
            clear hst hms
            go_wp2
            go_round
            case rel => exact ⟨j + 1, by omega, by go_num, hn1⟩
            case measure => simp [intOf]; omega
          · have hv := Lib.hid (show fewB24 gs ss = false by rw [hfl2.out]; exact hms (decide_eq_false h100))
            have h100' : ¬ (s.size : Int) ≤ 100 := by omega
            clear hst hms
            go_wp2
            go_ret
            exact ⟨ret_bool hv.out.symm, hB1.out⟩
        · have ht : ss.take j = ss := List.take_of_length_le (by rw [hSL.out]; omega)
          have hv := Lib.hid (show fewB24 gs ss = true by rw [hfl2.out]; have := hf2.out; rw [ht] at this; exact this)
          clear ht
          go_wp2
          go_ret
          exact ⟨ret_bool hv.out.symm, hB1.out⟩
end

section
inductive Tm where
  | mk (kind a b : Nat) (s : List UInt8) (args : List Tm)

namespace Tm
def kind : Tm → Nat | mk k _ _ _ _ => k
def a : Tm → Nat | mk _ a _ _ _ => a
def b : Tm → Nat | mk _ _ b _ _ => b
def s : Tm → List UInt8 | mk _ _ _ s _ => s
def args : Tm → List Tm | mk _ _ _ _ l => l
theorem eta (t : Tm) : t = mk t.kind t.a t.b t.s t.args := by cases t; rfl
end Tm

/-- A number below 2^32 as four bytes. -/
def u32 (n : Nat) : List UInt8 := [UInt8.ofNat (n / 16777216 % 256), UInt8.ofNat (n / 65536 % 256), UInt8.ofNat (n / 256 % 256), UInt8.ofNat (n % 256)]
theorem u32_len (n : Nat) : (u32 n).length = 4 := rfl
theorem ofNat_inj {x y : Nat} (hx : x < 256) (hy : y < 256) (h : UInt8.ofNat x = UInt8.ofNat y) : x = y := by
  have := congrArg UInt8.toNat h
  simpa [Nat.mod_eq_of_lt hx, Nat.mod_eq_of_lt hy] using this
theorem u32_inj {x y : Nat} (hx : x < 4294967296) (hy : y < 4294967296) (h : u32 x = u32 y) : x = y := by
  unfold u32 at h
  simp only [List.cons.injEq, and_true] at h
  obtain ⟨h1, h2, h3, h4⟩ := h
  have h1 := ofNat_inj (by omega) (by omega) h1
  have h2 := ofNat_inj (by omega) (by omega) h2
  have h3 := ofNat_inj (by omega) (by omega) h3
  have h4 := ofNat_inj (by omega) (by omega) h4
  omega
theorem app4 {x y : Nat} {r r' : List UInt8} (h : u32 x ++ r = u32 y ++ r') : u32 x = u32 y ∧ r = r' := List.append_inj h rfl

/-- What stands ahead of the terms that a term is made of, behind its first byte. -/
def hd (k a b : Nat) (s : List UInt8) (m : Nat) : List UInt8 :=
  if k = 1 then u32 s.length ++ s
  else if k = 2 then u32 a ++ u32 b
  else if k = 3 then u32 a
  else if k = 5 then u32 s.length ++ s ++ u32 m
  else if k = 6 then u32 s.length ++ s
  else if k = 8 then [UInt8.ofNat b]
  else if k = 9 then u32 b
  else if k = 10 then u32 m
  else []

mutual
def Tm.enc : Tm → List UInt8
  | .mk k a b s args => UInt8.ofNat (240 + k) :: (hd k a b s args.length ++ encs args)
def encs : List Tm → List UInt8
  | [] => []
  | t :: r => t.enc ++ encs r
end
theorem encs_eq : ∀ l : List Tm, encs l = (l.map Tm.enc).flatten
  | [] => by simp [encs]
  | t :: r => by rw [encs, encs_eq r]; rfl
theorem encs_append (l m : List Tm) : encs (l ++ m) = encs l ++ encs m := by simp [encs_eq]
theorem enc_mk (k a b : Nat) (s : List UInt8) (args : List Tm) : (Tm.mk k a b s args).enc = UInt8.ofNat (240 + k) :: (hd k a b s args.length ++ encs args) := by rw [Tm.enc]

/-- By which of two nonces a share is raised first. -/
def nle (x y : Tm) : Prop := x.a < y.a ∨ x.a = y.a ∧ x.b ≤ y.b
instance (x y : Tm) : Decidable (nle x y) := by unfold nle; infer_instance
/-- What a term's own numbers and text may be. -/
def okHd (k a b : Nat) (s : List UInt8) (m : Nat) : Prop :=
  (k = 1 ∧ a = 0 ∧ b = 0 ∧ m = 0 ∧ s.length ≤ 131072) ∨
  (k = 2 ∧ a ≤ 2147483647 ∧ b ≤ 2147483647 ∧ s = [] ∧ m = 0) ∨
  (k = 3 ∧ a ≤ 2147483647 ∧ b = 0 ∧ s = [] ∧ m = 0) ∨
  (k = 4 ∧ a = 0 ∧ b = 0 ∧ s = [] ∧ m = 1) ∨
  (k = 5 ∧ a = 0 ∧ b = 0 ∧ 1 ≤ s.length ∧ s.length ≤ 2100 ∧ m ≤ 8) ∨
  (k = 6 ∧ a = 0 ∧ b = 0 ∧ 1 ≤ s.length ∧ s.length ≤ 64 ∧ m = 2) ∨
  (k = 7 ∧ a = 0 ∧ b = 0 ∧ s = [] ∧ m = 1) ∨
  (k = 8 ∧ a = 0 ∧ b < 256 ∧ s = [] ∧ m = 3) ∨
  (k = 9 ∧ a = 0 ∧ b < 4294967296 ∧ s = [] ∧ m = 2) ∨
  (k = 10 ∧ a = 0 ∧ b = 0 ∧ s = [] ∧ m ≤ 32)
/-- What the terms may be that a term is made of. -/
def okArgs (k : Nat) (args : List Tm) : Prop :=
  (k = 4 → ∀ t ∈ args, t.kind = 3) ∧ (k = 5 → (∀ t ∈ args, t.kind = 2) ∧ args.Pairwise nle) ∧ (k = 6 → ∀ t, args[0]? = some t → t.kind = 3)
mutual
def Tm.ok : Tm → Prop
  | .mk k a b s args => okHd k a b s args.length ∧ okArgs k args ∧ oks args
def oks : List Tm → Prop
  | [] => True
  | t :: r => t.ok ∧ oks r
end
theorem oks_iff : ∀ l : List Tm, oks l ↔ ∀ t ∈ l, t.ok
  | [] => by simp [oks]
  | t :: r => by rw [oks, oks_iff r]; simp
theorem ok_mk {k a b : Nat} {s : List UInt8} {args : List Tm} : (Tm.mk k a b s args).ok ↔ okHd k a b s args.length ∧ okArgs k args ∧ ∀ t ∈ args, t.ok := by rw [Tm.ok, oks_iff]

theorem hd_inj {k a b a' b' : Nat} {s s' : List UInt8} {m m' : Nat} (h : okHd k a b s m) (h' : okHd k a' b' s' m') {r r' : List UInt8}
    (he : hd k a b s m ++ r = hd k a' b' s' m' ++ r') : a = a' ∧ b = b' ∧ s = s' ∧ m = m' ∧ r = r' := by
  unfold okHd at h h'
  rcases h with h | h | h | h | h | h | h | h | h | h <;> obtain ⟨rfl, h⟩ := h
  · simp only [reduceCtorEq, false_and, or_false, false_or, true_and, Nat.reduceEqDiff] at h'
    obtain ⟨rfl, rfl, rfl, h5⟩ := h
    obtain ⟨rfl, rfl, rfl, h6⟩ := h'
    simp only [hd, if_true, List.append_assoc] at he
    obtain ⟨e1, e2⟩ := app4 he
    have := u32_inj (by omega) (by omega) e1
    obtain ⟨e3, e4⟩ := List.append_inj e2 this
    exact ⟨rfl, rfl, e3, rfl, e4⟩
  · simp only [reduceCtorEq, false_and, or_false, false_or, true_and, Nat.reduceEqDiff] at h'
    obtain ⟨h2, h3, rfl, rfl⟩ := h
    obtain ⟨h4, h5, rfl, rfl⟩ := h'
    simp only [hd, if_true, List.append_assoc, Nat.reduceEqDiff, if_false] at he
    obtain ⟨e1, e2⟩ := app4 he
    obtain ⟨e3, e4⟩ := app4 e2
    exact ⟨u32_inj (by omega) (by omega) e1, u32_inj (by omega) (by omega) e3, rfl, rfl, e4⟩
  · simp only [reduceCtorEq, false_and, or_false, false_or, true_and, Nat.reduceEqDiff] at h'
    obtain ⟨h2, rfl, rfl, rfl⟩ := h
    obtain ⟨h4, rfl, rfl, rfl⟩ := h'
    simp only [hd, if_true, List.append_assoc, Nat.reduceEqDiff, if_false] at he
    obtain ⟨e1, e2⟩ := app4 he
    exact ⟨u32_inj (by omega) (by omega) e1, rfl, rfl, rfl, e2⟩
  · simp only [reduceCtorEq, false_and, or_false, false_or, true_and, Nat.reduceEqDiff] at h'
    obtain ⟨rfl, rfl, rfl, rfl⟩ := h
    obtain ⟨rfl, rfl, rfl, rfl⟩ := h'
    simp only [hd, Nat.reduceEqDiff, if_false, List.nil_append] at he
    exact ⟨rfl, rfl, rfl, rfl, he⟩
  · simp only [reduceCtorEq, false_and, or_false, false_or, true_and, Nat.reduceEqDiff] at h'
    obtain ⟨rfl, rfl, h3, h4, h5⟩ := h
    obtain ⟨rfl, rfl, h6, h7, h8⟩ := h'
    simp only [hd, if_true, List.append_assoc, Nat.reduceEqDiff, if_false] at he
    obtain ⟨e1, e2⟩ := app4 he
    have := u32_inj (by omega) (by omega) e1
    obtain ⟨e3, e4⟩ := List.append_inj e2 this
    obtain ⟨e5, e6⟩ := app4 e4
    exact ⟨rfl, rfl, e3, u32_inj (by omega) (by omega) e5, e6⟩
  · simp only [reduceCtorEq, false_and, or_false, false_or, true_and, Nat.reduceEqDiff] at h'
    obtain ⟨rfl, rfl, h3, h4, rfl⟩ := h
    obtain ⟨rfl, rfl, h6, h7, rfl⟩ := h'
    simp only [hd, if_true, List.append_assoc, Nat.reduceEqDiff, if_false] at he
    obtain ⟨e1, e2⟩ := app4 he
    have := u32_inj (by omega) (by omega) e1
    obtain ⟨e3, e4⟩ := List.append_inj e2 this
    exact ⟨rfl, rfl, e3, rfl, e4⟩
  · simp only [reduceCtorEq, false_and, or_false, false_or, true_and, Nat.reduceEqDiff] at h'
    obtain ⟨rfl, rfl, rfl, rfl⟩ := h
    obtain ⟨rfl, rfl, rfl, rfl⟩ := h'
    simp only [hd, Nat.reduceEqDiff, if_false, List.nil_append] at he
    exact ⟨rfl, rfl, rfl, rfl, he⟩
  · simp only [reduceCtorEq, false_and, or_false, false_or, true_and, Nat.reduceEqDiff] at h'
    obtain ⟨rfl, h2, rfl, rfl⟩ := h
    obtain ⟨rfl, h4, rfl, rfl⟩ := h'
    simp only [hd, Nat.reduceEqDiff, if_false, if_true, List.cons_append, List.nil_append, List.cons.injEq] at he
    exact ⟨rfl, ofNat_inj h2 h4 he.1, rfl, rfl, he.2⟩
  · simp only [reduceCtorEq, false_and, or_false, false_or, true_and, Nat.reduceEqDiff] at h'
    obtain ⟨rfl, h2, rfl, rfl⟩ := h
    obtain ⟨rfl, h4, rfl, rfl⟩ := h'
    simp only [hd, Nat.reduceEqDiff, if_false, if_true] at he
    obtain ⟨e1, e2⟩ := app4 he
    exact ⟨rfl, u32_inj (by omega) (by omega) e1, rfl, rfl, e2⟩
  · simp only [reduceCtorEq, false_and, or_false, false_or, true_and, Nat.reduceEqDiff] at h'
    obtain ⟨rfl, rfl, rfl, h4⟩ := h
    obtain ⟨rfl, rfl, rfl, h8⟩ := h'
    simp only [hd, Nat.reduceEqDiff, if_false, if_true] at he
    obtain ⟨e1, e2⟩ := app4 he
    exact ⟨rfl, rfl, rfl, u32_inj (by omega) (by omega) e1, e2⟩
theorem okHd_kind {k a b : Nat} {s : List UInt8} {m : Nat} (h : okHd k a b s m) : 1 ≤ k ∧ k ≤ 10 := by unfold okHd at h; omega

mutual
theorem enc_inj : ∀ (t t' : Tm), t.ok → t'.ok → ∀ (r r' : List UInt8), t.enc ++ r = t'.enc ++ r' → t = t' ∧ r = r'
  | .mk k a b s args, .mk k' a' b' s' args', h, h', r, r', he => by
    rw [ok_mk] at h h'
    rw [enc_mk, enc_mk, List.cons_append, List.cons_append, List.cons.injEq] at he
    have hk := okHd_kind h.1
    have hk' := okHd_kind h'.1
    obtain ⟨e0, he⟩ := he
    have e0 := ofNat_inj (by omega) (by omega) e0
    obtain rfl : k = k' := by omega
    rw [List.append_assoc, List.append_assoc] at he
    obtain ⟨rfl, rfl, rfl, e4, e5⟩ := hd_inj h.1 h'.1 he
    obtain ⟨rfl, e6⟩ := encs_inj args args' e4 h.2.2 h'.2.2 r r' e5
    exact ⟨rfl, e6⟩
theorem encs_inj : ∀ (l l' : List Tm), l.length = l'.length → (∀ t ∈ l, t.ok) → (∀ t ∈ l', t.ok) → ∀ (r r' : List UInt8), encs l ++ r = encs l' ++ r' → l = l' ∧ r = r'
  | [], [], _, _, _, r, r', he => by simpa [encs] using he
  | [], _ :: _, h, _, _, _, _, _ => by simp at h
  | _ :: _, [], h, _, _, _, _, _ => by simp at h
  | t :: l, t' :: l', h, h1, h2, r, r', he => by
    rw [encs, encs, List.append_assoc, List.append_assoc] at he
    obtain ⟨e1, e⟩ := enc_inj t t' (h1 t (by simp)) (h2 t' (by simp)) _ _ he
    obtain ⟨e2, e⟩ := encs_inj l l' (by simpa using h) (fun x hx => h1 x (by simp [hx])) (fun x hx => h2 x (by simp [hx])) r r' e
    exact ⟨by rw [e1, e2], e⟩
end
theorem enc_eq {t t' : Tm} (h : t.ok) (h' : t'.ok) : t.enc = t'.enc ↔ t = t' :=
  ⟨fun e => (enc_inj t t' h h' [] [] (by simpa using e)).1, fun e => by rw [e]⟩
theorem enc_ne {t : Tm} : t.enc ≠ [] := by cases t; rw [enc_mk]; simp

/-- How many bytes of a term are its own. -/
def own (k : Nat) (n : Nat) : Nat := if k = 2 then 9 else if k = 1 ∨ k = 3 ∨ k = 6 ∨ k = 9 ∨ k = 10 then 5 + n else if k = 5 then 9 + n else if k = 8 then 2 else 1
def Tm.len (t : Tm) : Nat := t.enc.length
def lens (l : List Tm) : Nat := (l.map Tm.len).sum
theorem lens_encs : ∀ l : List Tm, (encs l).length = lens l
  | [] => by simp [encs, lens]
  | t :: r => by rw [encs, List.length_append, lens_encs r]; simp [lens, Tm.len]
theorem len_mk {k a b : Nat} {s : List UInt8} {args : List Tm} (h : okHd k a b s args.length) : (Tm.mk k a b s args).len = own k s.length + lens args := by
  unfold Tm.len
  rw [enc_mk, List.length_cons, List.length_append, lens_encs]
  unfold okHd at h
  rcases h with h | h | h | h | h | h | h | h | h | h <;> obtain ⟨rfl, h⟩ := h <;> simp [hd, own, u32_len] <;> (try (obtain ⟨_, _, h, _⟩ := h; try subst h)) <;> (try simp) <;> (try omega)
end

section
def alls : List (Option Tm) → Option (List Tm)
  | [] => some []
  | none :: _ => none
  | some t :: r => match alls r with | none => none | some l => some (t :: l)
theorem alls_some : ∀ {os : List (Option Tm)} {l : List Tm}, alls os = some l ↔ os = l.map some
  | [], l => by cases l <;> simp [alls]
  | none :: r, l => by cases l <;> simp [alls]
  | some t :: r, l => by
    rw [alls]
    cases h : alls r with
    | none =>
      simp only [reduceCtorEq, false_iff]
      intro e
      cases l with
      | nil => simp at e
      | cons u m =>
        simp only [List.map_cons, List.cons.injEq] at e
        rw [alls_some.2 e.2] at h
        cases h
    | some m =>
      have := (alls_some (os := r) (l := m)).1 h
      subst this
      cases l with
      | nil => simp
      | cons u n =>
        simp only [Option.some.injEq, List.cons.injEq, List.map_cons]
        constructor
        · rintro ⟨rfl, rfl⟩; exact ⟨rfl, rfl⟩
        · rintro ⟨rfl, h2⟩
          refine ⟨rfl, ?_⟩
          have := (alls_some (os := m.map some) (l := n)).2 h2
          rw [h] at this; exact Option.some.inj this
theorem alls_map (l : List Tm) : alls (l.map some) = some l := alls_some.2 rfl
theorem alls_none {os : List (Option Tm)} (h : none ∈ os) : alls os = none := by
  cases e : alls os with
  | none => rfl
  | some l =>
    rw [alls_some.1 e] at h
    simp at h
theorem alls_none_iff {os : List (Option Tm)} : alls os = none ↔ none ∈ os := by
  refine ⟨fun h => ?_, alls_none⟩
  induction os with
  | nil => simp [alls] at h
  | cons o r ih =>
    cases o with
    | none => simp
    | some t =>
      rw [alls] at h
      cases e : alls r with
      | none => simp [ih e]
      | some l => rw [e] at h; cases h

/-- The bytes of a term; none: no bytes. -/
def encO : Option Tm → List UInt8
  | none => []
  | some t => t.enc
theorem encO_nil {o : Option Tm} : encO o = [] ↔ o = none := by
  cases o with
  | none => simp [encO]
  | some t => simp [encO, enc_ne]
def kindO : Option Tm → Nat
  | none => 0
  | some t => t.kind
def okO (o : Option Tm) : Prop := ∀ t, o = some t → t.ok
theorem okO_none : okO none := fun _ h => by cases h
theorem encO_eq {o p : Option Tm} (h : okO o) (h' : okO p) : encO o = encO p ↔ o = p := by
  refine ⟨fun e => ?_, fun e => by rw [e]⟩
  cases o with
  | none =>
    cases p with
    | none => rfl
    | some t => exact absurd e.symm enc_ne
  | some t =>
    cases p with
    | none => exact absurd e enc_ne
    | some u => rw [(enc_eq (h t rfl) (h' u rfl)).1 e]

/-- A term of others, if all are there and it is not too long. -/
def mkO (k a b : Nat) (s : List UInt8) (os : List (Option Tm)) : Option Tm :=
  match alls os with
  | none => none
  | some l => if own k s.length + lens l ≤ 131072 then some (.mk k a b s l) else none
def dataT (s : List UInt8) : Option Tm := mkO 1 0 0 s []
def numOk (n : Int) : Prop := 0 ≤ n ∧ n ≤ 2147483647
instance (n : Int) : Decidable (numOk n) := by unfold numOk; infer_instance
def txtOk (s : List UInt8) (most : Nat) : Prop := 1 ≤ s.length ∧ s.length ≤ most
instance (s : List UInt8) (m : Nat) : Decidable (txtOk s m) := by unfold txtOk; infer_instance
def nonceT (w n : Int) : Option Tm := if numOk w ∧ numOk n then mkO 2 w.toNat n.toNat [] [] else none
def keyT (w : Int) : Option Tm := if numOk w then mkO 3 w.toNat 0 [] [] else none
def pubT (o : Option Tm) : Option Tm := if kindO o = 3 then mkO 4 0 0 [] [o] else none
def baseT (g : List UInt8) : Option Tm := if txtOk g 2100 then mkO 5 0 0 g [] else none
/-- A nonce among others, in its place. -/
def ins (x : Tm) : List Tm → List Tm
  | [] => [x]
  | y :: r => if nle y x then y :: ins x r else x :: y :: r
def expT (so xo : Option Tm) : Option Tm := match so, xo with
  | some s, some x => if s.kind = 5 ∧ x.kind = 2 ∧ s.args.length < 8 then mkO 5 0 0 s.s ((ins x s.args).map some) else none
  | _, _ => none
def signT (alg : List UInt8) (k t : Option Tm) : Option Tm := if txtOk alg 64 ∧ kindO k = 3 then mkO 6 0 0 alg [k, t] else none
def hashT (t : Option Tm) : Option Tm := mkO 7 0 0 [] [t]
def deriveT (b : Nat) (x y z : Option Tm) : Option Tm := mkO 8 0 b [] [x, y, z]
def sealT (k : Option Tm) (n : Nat) (t : Option Tm) : Option Tm := mkO 9 0 n [] [k, t]
def listT (l : List (Option Tm)) : Option Tm := if l.length ≤ 32 then mkO 10 0 0 [] l else none

theorem mkO_some {k a b : Nat} {s : List UInt8} {os : List (Option Tm)} {t : Tm} (h : mkO k a b s os = some t) : ∃ l, os = l.map some ∧ t = .mk k a b s l ∧ own k s.length + lens l ≤ 131072 := by
  unfold mkO at h
  split at h
  · cases h
  · rename_i l hl
    split at h
    · rename_i hs
      exact ⟨l, alls_some.1 hl, (Option.some.inj h).symm, hs⟩
    · cases h
theorem mkO_ok {k a b : Nat} {s : List UInt8} {os : List (Option Tm)} (hh : ∀ m : Nat, m = os.length → own k s.length ≤ 131072 → okHd k a b s m) (ha : ∀ l, os = l.map some → okArgs k l) (ho : ∀ o ∈ os, okO o) : okO (mkO k a b s os) := by
  intro t h
  obtain ⟨l, rfl, rfl, hl⟩ := mkO_some h
  rw [ok_mk]
  refine ⟨hh _ (by simp) (by omega), ha l rfl, fun u hu => ho (some u) (by simp [hu]) u rfl⟩
theorem okArgs_none {k : Nat} (h4 : k ≠ 4) (h5 : k ≠ 5) (h6 : k ≠ 6) (l : List Tm) : okArgs k l := ⟨fun h => absurd h h4, fun h => absurd h h5, fun h => absurd h h6⟩
theorem okArgs_nil (k : Nat) : okArgs k [] := ⟨fun _ => by simp, fun _ => by simp, fun _ => by simp⟩
theorem map_some_nil {l : List Tm} (h : ([] : List (Option Tm)) = l.map some) : l = [] := by cases l <;> simp at h <;> rfl
theorem dataT_ok (s : List UInt8) : okO (dataT s) :=
  mkO_ok (fun m hm hl => .inl ⟨rfl, rfl, rfl, hm, by simp [own] at hl; omega⟩) (fun l _ => okArgs_none (by decide) (by decide) (by decide) l) (by simp)
theorem nonceT_ok (w n : Int) : okO (nonceT w n) := by
  unfold nonceT
  split
  · rename_i h
    unfold numOk at h
    exact mkO_ok (fun m hm _ => .inr (.inl ⟨rfl, by omega, by omega, rfl, hm⟩)) (fun l _ => okArgs_none (by decide) (by decide) (by decide) l) (by simp)
  · exact okO_none
theorem keyT_ok (w : Int) : okO (keyT w) := by
  unfold keyT
  split
  · rename_i h
    unfold numOk at h
    exact mkO_ok (fun m hm _ => .inr (.inr (.inl ⟨rfl, by omega, rfl, rfl, hm⟩))) (fun l _ => okArgs_none (by decide) (by decide) (by decide) l) (by simp)
  · exact okO_none
theorem pubT_ok {o : Option Tm} (h : okO o) : okO (pubT o) := by
  unfold pubT
  split
  · rename_i hk
    refine mkO_ok (fun m hm _ => .inr (.inr (.inr (.inl ⟨rfl, rfl, rfl, rfl, hm⟩)))) (fun l hl => ⟨fun _ => ?_, fun h => (by cases h), fun h => (by cases h)⟩) (by simpa using h)
    cases l with
    | nil => simp at hl
    | cons t r =>
      simp only [List.map_cons, List.cons.injEq] at hl
      obtain ⟨rfl, hr⟩ := hl
      obtain rfl := map_some_nil hr
      have hk' : t.kind = 3 := hk
      simpa using hk'
  · exact okO_none
theorem baseT_ok (g : List UInt8) : okO (baseT g) := by
  unfold baseT
  split
  · rename_i h
    unfold txtOk at h
    refine mkO_ok (fun m hm _ => .inr (.inr (.inr (.inr (.inl ⟨rfl, rfl, rfl, h.1, h.2, by simp at hm; omega⟩))))) (fun l hl => ?_) (by simp)
    obtain rfl := map_some_nil hl
    exact okArgs_nil 5
  · exact okO_none
theorem ins_len (x : Tm) : ∀ l, (ins x l).length = l.length + 1
  | [] => rfl
  | y :: r => by
    rw [ins]
    split
    · simp [ins_len x r]
    · simp
theorem ins_mem {x y : Tm} : ∀ {l}, y ∈ ins x l ↔ y = x ∨ y ∈ l
  | [] => by simp [ins]
  | z :: r => by
    rw [ins]
    split
    · simp only [List.mem_cons, ins_mem (l := r)]
      constructor
      · rintro (h | h | h) <;> simp [h]
      · rintro (h | h | h) <;> simp [h]
    · simp
theorem nle_total (x y : Tm) : nle x y ∨ nle y x := by unfold nle; omega
theorem nle_trans {x y z : Tm} (h : nle x y) (k : nle y z) : nle x z := by unfold nle at *; omega
theorem ins_sorted (x : Tm) : ∀ {l : List Tm}, l.Pairwise nle → (ins x l).Pairwise nle
  | [], _ => by simp [ins]
  | y :: r, h => by
    obtain ⟨h1, h2⟩ := List.pairwise_cons.1 h
    rw [ins]
    split
    · rename_i hyx
      refine List.pairwise_cons.2 ⟨fun z hz => ?_, ins_sorted x h2⟩
      rcases ins_mem.1 hz with rfl | hz
      · exact hyx
      · exact h1 z hz
    · rename_i hyx
      have hxy : nle x y := (nle_total x y).resolve_right hyx
      refine List.pairwise_cons.2 ⟨fun z hz => ?_, h⟩
      rcases List.mem_cons.1 hz with rfl | hz
      · exact hxy
      · exact nle_trans hxy (h1 z hz)
theorem expT_ok {so xo : Option Tm} (hs : okO so) (hx : okO xo) : okO (expT so xo) := by
  unfold expT
  split
  · rename_i s x
    split
    · rename_i h
      obtain ⟨h1, h2, h3⟩ := h
      have ks := hs s rfl
      have kx := hx x rfl
      cases s with
      | mk k a b g args =>
        have h1' : k = 5 := h1
        subst h1'
        rw [ok_mk] at ks
        obtain ⟨ka, kb, kc⟩ := ks
        unfold okHd at ka
        simp only [reduceCtorEq, false_and, or_false, false_or, true_and, Nat.reduceEqDiff] at ka
        simp only [Tm.s, Tm.args] at h3 ⊢
        refine mkO_ok (fun m hm _ => .inr (.inr (.inr (.inr (.inl ⟨rfl, rfl, rfl, ka.2.2.1, ka.2.2.2.1, by rw [hm, List.length_map, ins_len]; omega⟩))))) (fun l hl => ?_) (fun o ho => ?_)
        · have : l = ins x args := by
            have := congrArg alls hl
            rw [alls_map, alls_map] at this
            exact (Option.some.inj this).symm
          subst this
          refine ⟨fun h => (by cases h), fun _ => ⟨fun t ht => ?_, ins_sorted x (kb.2.1 rfl).2⟩, fun h => (by cases h)⟩
          rcases ins_mem.1 ht with rfl | ht
          · exact h2
          · exact (kb.2.1 rfl).1 t ht
        · rw [List.mem_map] at ho
          obtain ⟨u, hu, rfl⟩ := ho
          intro t ht
          obtain rfl := Option.some.inj ht
          rcases ins_mem.1 hu with rfl | hu
          · exact kx
          · exact kc _ hu
    · exact okO_none
  · exact okO_none
theorem signT_ok {alg : List UInt8} {k t : Option Tm} (hk : okO k) (ht : okO t) : okO (signT alg k t) := by
  unfold signT
  split
  · rename_i h
    unfold txtOk at h
    refine mkO_ok (fun m hm _ => .inr (.inr (.inr (.inr (.inr (.inl ⟨rfl, rfl, rfl, h.1.1, h.1.2, hm⟩)))))) (fun l hl => ⟨fun h => (by cases h), fun h => (by cases h), fun _ u hu => ?_⟩) (by simpa using ⟨hk, ht⟩)
    cases l with
    | nil => simp at hl
    | cons v r =>
      simp only [List.map_cons, List.cons.injEq] at hl
      simp only [List.getElem?_cons_zero, Option.some.injEq] at hu
      subst hu
      rw [hl.1] at h
      exact h.2
  · exact okO_none
theorem hashT_ok {t : Option Tm} (ht : okO t) : okO (hashT t) :=
  mkO_ok (fun m hm _ => .inr (.inr (.inr (.inr (.inr (.inr (.inl ⟨rfl, rfl, rfl, rfl, hm⟩))))))) (fun l _ => okArgs_none (by decide) (by decide) (by decide) l) (by simpa using ht)
theorem deriveT_ok {b : Nat} {x y z : Option Tm} (hb : b < 256) (hx : okO x) (hy : okO y) (hz : okO z) : okO (deriveT b x y z) :=
  mkO_ok (fun m hm _ => .inr (.inr (.inr (.inr (.inr (.inr (.inr (.inl ⟨rfl, rfl, hb, rfl, hm⟩)))))))) (fun l _ => okArgs_none (by decide) (by decide) (by decide) l) (by simpa using ⟨hx, hy, hz⟩)
theorem sealT_ok {n : Nat} {k t : Option Tm} (hn : n < 4294967296) (hk : okO k) (ht : okO t) : okO (sealT k n t) :=
  mkO_ok (fun m hm _ => .inr (.inr (.inr (.inr (.inr (.inr (.inr (.inr (.inl ⟨rfl, rfl, hn, rfl, hm⟩))))))))) (fun l _ => okArgs_none (by decide) (by decide) (by decide) l) (by simpa using ⟨hk, ht⟩)
theorem listT_ok {l : List (Option Tm)} (hl : ∀ o ∈ l, okO o) : okO (listT l) := by
  unfold listT
  split
  · rename_i h
    exact mkO_ok (fun m hm _ => .inr (.inr (.inr (.inr (.inr (.inr (.inr (.inr (.inr ⟨rfl, rfl, rfl, rfl, by omega⟩))))))))) (fun l _ => okArgs_none (by decide) (by decide) (by decide) l) hl
  · exact okO_none

/-! Lists of terms, each once. -/
def get (L : List Tm) (x : Int) : Option Tm := if x < 0 then none else L[x.toNat]?
theorem get_nat (L : List Tm) (j : Nat) : get L j = L[j]? := by
  unfold get
  rw [if_neg (by omega), Int.toNat_natCast]
theorem get_neg {L : List Tm} {x : Int} (h : x < 0) : get L x = none := by unfold get; rw [if_pos h]
theorem get_some {L : List Tm} {x : Int} {t : Tm} (h : get L x = some t) : ∃ j : Nat, x = j ∧ L[j]? = some t := by
  unfold get at h
  split at h
  · cases h
  · exact ⟨x.toNat, by omega, h⟩
theorem get_none {L : List Tm} {x : Int} (h : get L x = none) : x < 0 ∨ L.length ≤ x := by
  unfold get at h
  split at h
  · exact .inl (by assumption)
  · have := List.getElem?_eq_none_iff.1 h
    exact .inr (by omega)
/-- What all terms of a list are: each is there once, is well made, and so are those that it is made of. -/
structure Good (L : List Tm) : Prop where
  once : L.Nodup
  ok : ∀ t ∈ L, t.ok
  size : ∀ t ∈ L, t.len ≤ 131072
  clos : ∀ t ∈ L, ∀ u ∈ t.args, u ∈ L
theorem Good.nil_ : Good [] := ⟨List.nodup_nil, by simp, by simp, by simp⟩
theorem get_mem {L : List Tm} {x : Int} {t : Tm} (h : get L x = some t) : t ∈ L := by
  obtain ⟨j, rfl, h⟩ := get_some h
  exact List.mem_of_getElem? h
theorem Good.okO {L : List Tm} (h : Good L) (x : Int) : okO (get L x) := fun t ht => h.ok t (get_mem ht)
theorem once_inj {L : List Tm} (h : L.Nodup) {i j : Nat} {t : Tm} (hi : L[i]? = some t) (hj : L[j]? = some t) : i = j := by
  have hl := (List.getElem?_eq_some_iff.1 hi).1
  exact (List.getElem?_inj hl h).1 (hi.trans hj.symm)
/-- A number that a call has handed back names o in L: -1 where there is none. -/
def Nm (L : List Tm) (x : Int) (o : Option Tm) : Prop := get L x = o ∧ (o = none → x = -1)
theorem Nm.none_ (L : List Tm) : Nm L (-1) none := ⟨get_neg (by decide), fun _ => rfl⟩
theorem Nm.inj {L : List Tm} (h : L.Nodup) {x y : Int} {o p : Option Tm} (hx : Nm L x o) (hy : Nm L y p) : x = y ↔ o = p := by
  constructor
  · rintro rfl; exact hx.1.symm.trans hy.1
  · rintro rfl
    cases o with
    | none => rw [hx.2 rfl, hy.2 rfl]
    | some t =>
      obtain ⟨i, rfl, hi⟩ := get_some hx.1
      obtain ⟨j, rfl, hj⟩ := get_some hy.1
      rw [once_inj h hi hj]
theorem Nm.lt {L : List Tm} {x : Int} {o : Option Tm} (h : Nm L x o) : -1 ≤ x ∧ x < L.length := by
  cases o with
  | none => rw [h.2 rfl]; exact ⟨by decide, by omega⟩
  | some t =>
    obtain ⟨j, rfl, hj⟩ := get_some h.1
    have := (List.getElem?_eq_some_iff.1 hj).1
    exact ⟨by omega, by omega⟩
/-- What a list becomes when a term is made. -/
def Grow (L L' : List Tm) (o : Option Tm) : Prop := L' = L ∧ (∀ t, o = some t → t ∈ L) ∨ ∃ t, o = some t ∧ t ∉ L ∧ L' = L ++ [t]
theorem Grow.pre {L L' : List Tm} {o : Option Tm} (h : Grow L L' o) : ∃ r, L' = L ++ r := by
  rcases h with ⟨h, _⟩ | ⟨t, _, _, h⟩
  · exact ⟨[], by simp [h]⟩
  · exact ⟨[t], h⟩
theorem Grow.len {L L' : List Tm} {o : Option Tm} (h : Grow L L' o) : L.length ≤ L'.length ∧ L'.length ≤ L.length + 1 := by
  rcases h with ⟨rfl, _⟩ | ⟨t, _, _, rfl⟩
  · omega
  · simp
theorem get_app {L r : List Tm} {x : Int} {t : Tm} (h : get L x = some t) : get (L ++ r) x = some t := by
  obtain ⟨j, rfl, hj⟩ := get_some h
  rw [get_nat, List.getElem?_append_left (List.getElem?_eq_some_iff.1 hj).1, hj]
theorem Nm.app {L r : List Tm} {x : Int} {o : Option Tm} (h : Nm L x o) : Nm (L ++ r) x o := by
  refine ⟨?_, h.2⟩
  cases o with
  | none => rw [h.2 rfl]; exact get_neg (by decide)
  | some t => exact get_app h.1
theorem Nm.grow {L L' : List Tm} {x : Int} {o p : Option Tm} (h : Nm L x o) (g : Grow L L' p) : Nm L' x o := by
  obtain ⟨r, rfl⟩ := g.pre
  exact h.app
end

section
open Go.RowKit

def iv (x : Int) : List Value := [.int .i64 x]
def Ints (w : World) (A : Option Addr) (n : Nat) (xs : List Int) : Prop := Rws w 1 A n (xs.map iv)
theorem Ints.keep {w w' : World} {A : Option Addr} {n : Nat} {xs : List Int} (h : Ints w A n xs) (hb : Below w.heap.size w w') : Ints w' A n xs := Rws.keep h hb
theorem Ints.len {w : World} {A : Option Addr} {n : Nat} {xs : List Int} (h : Ints w A n xs) : xs.length = n := by simpa using h.1
theorem Ints.at_ {w : World} {A : Option Addr} {n : Nat} {xs : List Int} (h : Ints w A n xs) {j : Nat} (hj : j < n) :
    ∃ b off x, A = some ⟨b, off, none⟩ ∧ b < w.heap.size ∧ xs[j]? = some x ∧ w.cell? ⟨b, off + j, none⟩ = some (.int .i64 x) := by
  obtain ⟨b, off, z, e, hlt, hz, _, hr⟩ := Rws.row h hj
  rw [List.getElem?_map] at hz
  cases he : xs[j]? with
  | none => rw [he] at hz; cases hz
  | some x =>
    rw [he] at hz
    simp only [Option.map_some, Option.some.injEq] at hz
    subst hz
    have := hr 0 _ rfl
    rw [Nat.mul_one, Nat.add_zero] at this
    exact ⟨b, off, x, e, hlt, rfl, this⟩
def OwnI (w : World) (base : Nat) (v : Value) (xs : List Int) : Prop := OwnR w base 1 3 v (xs.map iv)
theorem OwnI.ints {w : World} {base : Nat} {v : Value} {xs : List Int} (h : OwnI w base v xs) : ∃ A c, v = .slice A xs.length c ∧ Ints w A xs.length xs := by
  obtain ⟨A, c, hv, hr⟩ := OwnR.rws h
  rw [List.length_map] at hv hr
  exact ⟨A, c, hv, hr⟩
theorem OwnI.keep {w w' : World} {base : Nat} {v : Value} {xs : List Int} (h : OwnI w base v xs) (hb : Below w.heap.size w w') : OwnI w' base v xs := OwnR.keep h hb
theorem int_info : (Tryd.prog.info? 3).map (fun i => (i.zero, i.size, i.bytes)) = some (some (.int .i64 0), 1, 8) := by kernel_rfl

def hasI (xs : List Int) (x : Int) : Bool := xs.any (· == x)
def risesTo (xs : List Int) (k : Nat) : Bool := (List.range k).all fun i => decide (xs.getD i 0 < xs.getD (i + 1) 0)
def rises (xs : List Int) : Bool := risesTo xs (xs.length - 1)
theorem risesTo_succ (xs : List Int) (k : Nat) : risesTo xs (k + 1) = (risesTo xs k && decide (xs.getD k 0 < xs.getD (k + 1) 0)) := by
  unfold risesTo; rw [List.range_succ, List.all_append]; simp
theorem risesTo_le {xs : List Int} {m k : Nat} (h : m ≤ k) (hk : risesTo xs k = true) : risesTo xs m = true := by
  unfold risesTo at *
  rw [List.all_eq_true] at *
  intro i hi
  exact hk i (List.mem_range.2 (by have := List.mem_range.1 hi; omega))
theorem rises_bad {xs : List Int} {k : Nat} (hk : k + 1 < xs.length) (h : ¬ xs.getD k 0 < xs.getD (k + 1) 0) : rises xs = false := by
  unfold rises risesTo
  rw [List.all_eq_false]
  exact ⟨k, List.mem_range.2 (by omega), by rw [decide_eq_false h]; decide⟩
end

section
open Go.RowKit Go.ChangeShapes Go.WideShapes Go.Deep

def litOf : Value → Lit
  | .int k n => .int k n
  | .bool b => .bool b
  | .string s => .string s.data.toList
  | _ => .bool false
/-- No field of a flat type is blank. -/
def noBlank (P : Program) : Nat → TypeId → Bool
  | 0, _ => false
  | n + 1, t => match P.underlying t with
    | some (.struct fs) => fs.all (·.name != "_") && fs.toList.all (fun f => noBlank P n f.type)
    | some (.array _ e) => noBlank P n e
    | _ => true

section
variable {P : Program}
theorem mapM_range_pieces {f : Nat → Option (List Lit)} {g : Nat → List Lit} : ∀ (m : Nat), (∀ i, i < m → f i = some (g i)) → (List.range m).mapM f = some ((List.range m).map g) := by
  intro m
  induction m with
  | zero => intro _; simp
  | succ m ih =>
    intro h
    rw [List.range_succ, List.mapM_append, ih (fun i hi => h i (by omega)), List.map_append]
    simp [h m (by omega)]
theorem flatten_pieces {α : Type} (l : List α) (k : Nat) : ∀ (m : Nat), ((List.range m).map fun i => (l.drop (i * k)).take k).flatten = l.take (m * k) := by
  intro m
  induction m with
  | zero => simp
  | succ m ih =>
    rw [List.range_succ, List.map_append, List.flatten_append, ih, Nat.succ_mul, List.take_add]
    simp
theorem flat_keyLits : ∀ (n : Nat) (t : TypeId) (ds : List TypeDesc) (cs : List Value) (D : Nat), flatDesc P n t = some ds → noBlank P n t = true → allOk ds cs → n ≤ D → P.keyLits D t cs = some (cs.map litOf) := by
  intro n
  induction n with
  | zero => intro t ds cs D h; simp [flatDesc] at h
  | succ n ih =>
    intro t ds cs D h hb hc hD
    obtain ⟨d, rfl⟩ : ∃ d, D = d + 1 := ⟨D - 1, by omega⟩
    obtain ⟨hl, hok⟩ := hc
    unfold flatDesc at h
    unfold noBlank at hb
    cases hu : P.underlying t with
    | none => simp [hu] at h
    | some dd =>
      rw [hu] at h hb
      cases dd with
      | int k =>
        simp only [Option.some.injEq] at h
        subst h
        match cs, hl with
        | [v], _ =>
          obtain ⟨m, rfl, h1, h2⟩ := hok 0 _ _ rfl rfl
          have hwf : (Lit.int k m).wf = true := by simp only [Lit.wf, Bool.and_eq_true, decide_eq_true_eq]; exact ⟨h1, h2⟩
          unfold Program.keyLits
          rw [hu]
          simp [hwf, litOf]
      | bool =>
        simp only [Option.some.injEq] at h
        subst h
        match cs, hl with
        | [v], _ =>
          obtain ⟨m, rfl⟩ := hok 0 _ _ rfl rfl
          unfold Program.keyLits
          rw [hu]
          rfl
      | string =>
        simp only [Option.some.injEq] at h
        subst h
        match cs, hl with
        | [v], _ =>
          obtain ⟨m, rfl, h1⟩ := hok 0 _ _ rfl rfl
          unfold Program.keyLits
          rw [hu]
          simp [h1, litOf]
      | struct fs =>
        simp only [Option.bind_eq_bind, Option.bind_eq_some_iff] at h
        obtain ⟨ds0, h, hlast⟩ := h
        have hct : P.cellsOf t = ds0.length := by
          by_cases hc : P.cellsOf t = ds0.length
          · exact hc
          · rw [if_neg hc] at hlast; cases hlast
        rw [if_pos hct, Option.some.injEq] at hlast
        subst hlast
        simp only [Bool.and_eq_true] at hb
        have key : ∀ (l : List Field) (acc ds : List TypeDesc), l.all (fun f => noBlank P n f.type) = true →
            l.foldlM (fun (acc : List TypeDesc) f => if f.offset = acc.length then (flatDesc P n f.type).bind (fun l => if P.cellsOf f.type = l.length then some (acc ++ l) else none) else none) acc = some ds →
            ds.length ≤ cs.length → (∀ (i : Nat) (d : TypeDesc) (v : Value), ds[i]? = some d → cs[i]? = some v → cellOk d v) →
            acc.length ≤ ds.length ∧ (∃ pre, ds = acc ++ pre) ∧ ∃ pieces : List (List Lit), l.mapM (fun f => P.keyLits d f.type ((cs.drop f.offset).take (P.cellsOf f.type))) = some pieces ∧ pieces.flatten = ((cs.drop acc.length).take (ds.length - acc.length)).map litOf := by
          intro l
          induction l with
          | nil =>
            intro acc ds _ h _ _
            simp at h
            subst h
            exact ⟨Nat.le_refl _, ⟨[], by simp⟩, [], by simp, by simp⟩
          | cons f r ihl =>
            intro acc ds hnb h hlen hall
            rw [List.foldlM_cons] at h
            simp only [List.all_cons, Bool.and_eq_true] at hnb
            by_cases ho : f.offset = acc.length
            · rw [if_pos ho] at h
              cases hfd : flatDesc P n f.type with
              | none => simp [hfd] at h
              | some l0 =>
                rw [hfd] at h
                by_cases hc : P.cellsOf f.type = l0.length
                · simp only [Option.bind_some, if_pos hc, Option.bind_eq_bind] at h
                  obtain ⟨g1, ⟨pre, g2⟩, pieces, g3, g4⟩ := ihl (acc ++ l0) ds hnb.2 h hlen hall
                  rw [List.length_append] at g1
                  have hpc : allOk l0 ((cs.drop f.offset).take (P.cellsOf f.type)) := by
                    refine ⟨by rw [List.length_take, List.length_drop, hc, ho]; omega, fun i dd v hd hv => ?_⟩
                    have hil : i < l0.length := (List.getElem?_eq_some_iff.1 hd).1
                    rw [List.getElem?_take, if_pos (by omega), List.getElem?_drop, ho] at hv
                    refine hall (acc.length + i) dd v ?_ hv
                    rw [g2, List.append_assoc, List.getElem?_append_right (by omega), show acc.length + i - acc.length = i by omega, List.getElem?_append_left hil]
                    exact hd
                  have hk := ih f.type l0 _ d hfd hnb.1 hpc (by omega)
                  refine ⟨by omega, ⟨l0 ++ pre, by rw [g2, List.append_assoc]⟩, _ :: pieces, by rw [List.mapM_cons, hk, g3]; rfl, ?_⟩
                  rw [List.flatten_cons, g4, ho, hc, List.length_append, show ds.length - acc.length = l0.length + (ds.length - (acc.length + l0.length)) by omega, List.take_add, List.map_append, List.drop_drop]
                · simp only [Option.bind_some, if_neg hc] at h
                  simp at h
            · rw [if_neg ho] at h; simp at h
        obtain ⟨_, _, pieces, k3, k4⟩ := key fs.toList [] ds0 hb.2 h (by omega) hok
        unfold Program.keyLits
        rw [hu]
        simp only
        rw [if_pos ⟨by rw [hl, hct], hb.1⟩, k3, Option.map_some, k4]
        simp [← hl]
      | array m e =>
        simp only at h
        cases hfd : flatDesc P n e with
        | none => simp [hfd] at h
        | some l0 =>
          rw [hfd] at h
          by_cases hc : P.cellsOf e = l0.length ∧ P.cellsOf t = m * l0.length
          · simp only [Option.bind_some, if_pos hc, Option.some.injEq] at h
            subst h
            have hfl : (List.replicate m l0).flatten.length = m * l0.length := by simp
            rw [hfl] at hl
            unfold Program.keyLits
            rw [hu]
            simp only
            rw [if_pos (by rw [hl, hc.2])]
            rw [mapM_range_pieces (g := fun i => ((cs.drop (i * P.cellsOf e)).take (P.cellsOf e)).map litOf) m (fun i hi => ih e l0 _ d hfd hb ?_ (by omega))]
            · rw [Option.map_some, hc.1]
              have := flatten_pieces (cs.map litOf) l0.length m
              rw [List.take_of_length_le (by simp [hl])] at this
              rw [← this]
              simp only [List.map_drop, List.map_take]
            · refine ⟨by rw [List.length_take, List.length_drop, hc.1, hl]; have : i * l0.length + l0.length ≤ m * l0.length := by rw [← Nat.succ_mul]; exact Nat.mul_le_mul_right _ hi
                         omega, fun q dd v hd hv => ?_⟩
              have hq : q < l0.length := (List.getElem?_eq_some_iff.1 hd).1
              rw [hc.1, List.getElem?_take, if_pos hq, List.getElem?_drop] at hv
              refine hok (i * l0.length + q) dd v ?_ hv
              have hlt : i * l0.length + q < m * l0.length := by
                have : i * l0.length + l0.length ≤ m * l0.length := by rw [← Nat.succ_mul]; exact Nat.mul_le_mul_right _ hi
                omega
              rw [replicate_flatten_get, if_pos hlt, Nat.mul_comm, Nat.mul_add_mod, Nat.mod_eq_of_lt hq]
              exact hd
          · simp only [Option.bind_some, if_neg hc] at h
            simp at h
      | _ => simp at h
theorem litOf_inj {d : TypeDesc} {a b : Value} (ha : cellOk d a) (hb : cellOk d b) (h : litOf a = litOf b) : a = b := by
  cases d with
  | int k =>
    obtain ⟨m, rfl, _⟩ := ha
    obtain ⟨q, rfl, _⟩ := hb
    simp only [litOf, Lit.int.injEq] at h
    rw [h.2]
  | bool =>
    obtain ⟨m, rfl⟩ := ha
    obtain ⟨q, rfl⟩ := hb
    simp only [litOf, Lit.bool.injEq] at h
    rw [h]
  | string =>
    obtain ⟨m, rfl, _⟩ := ha
    obtain ⟨q, rfl, _⟩ := hb
    simp only [litOf, Lit.string.injEq] at h
    obtain ⟨m⟩ := m
    obtain ⟨q⟩ := q
    simp only at h
    rw [Array.toList_inj.1 h]
  | _ => exact absurd ha (by simp [cellOk])
theorem lits_eq {ds : List TypeDesc} {xs ys : List Value} (hx : allOk ds xs) (hy : allOk ds ys) : xs.map litOf = ys.map litOf ↔ xs = ys := by
  constructor
  · intro h
    apply List.ext_getElem?
    intro i
    by_cases hi : i < ds.length
    · have h1 : i < xs.length := by rw [hx.1]; exact hi
      have h2 : i < ys.length := by rw [hy.1]; exact hi
      rw [List.getElem?_eq_getElem h1, List.getElem?_eq_getElem h2]
      have h3 : (xs.map litOf)[i]? = (ys.map litOf)[i]? := by rw [h]
      rw [List.getElem?_map, List.getElem?_map, List.getElem?_eq_getElem h1, List.getElem?_eq_getElem h2] at h3
      simp only [Option.map_some, Option.some.injEq] at h3
      rw [litOf_inj (hx.2 i _ _ (List.getElem?_eq_getElem hi) (List.getElem?_eq_getElem h1)) (hy.2 i _ _ (List.getElem?_eq_getElem hi) (List.getElem?_eq_getElem h2)) h3]
    · rw [List.getElem?_eq_none (by rw [hx.1]; omega), List.getElem?_eq_none (by rw [hy.1]; omega)]
  · rintro rfl; rfl
/-- '==' at a flat struct. -/
theorem eql_flat {n m : Nat} {t : TypeId} {ds : List TypeDesc} {fs : Array Field} (hu : P.underlying t = some (.struct fs)) (hct : P.cellsOf t = ds.length) (hf : flatDesc P n t = some ds) (hb : noBlank P n t = true) (hk : P.keyTypeAt m t = true) (hm : m ≤ 10000)
    (xs ys : List Value) (hx : allOk ds xs) (hy : allOk ds ys) (q : Bool) (hq : (q = true ↔ xs = ys)) (w : World) :
    (binOp .eql t (.agg xs.toArray) (.agg ys.toArray)).run P w = .ok (.bool q) w := by
  have fx : (Value.agg xs.toArray).formed P t = true := by unfold Value.formed; rw [hu]; simp [hct, hx.1]
  have fy : (Value.agg ys.toArray).formed P t = true := by unfold Value.formed; rw [hu]; simp [hct, hy.1]
  have kx := flat_keyLits n t ds xs n hf hb hx (Nat.le_refl _)
  have ky := flat_keyLits n t ds ys n hf hb hy (Nat.le_refl _)
  obtain ⟨r, hr, hiff⟩ := run_equalIn_deep (10000 - m) m t hk w n n _ _ _ _ fx fy (by simpa [Value.cells] using kx) (by simpa [Value.cells] using ky)
  rw [run_eql_struct, show (10000 : Nat) = 10000 - m + m by omega, hr]
  have : r = q := by rw [Bool.eq_iff_iff, hiff, lits_eq hx hy, hq]
  rw [this]
  rfl
end
section
variable {P : Program} {ops : Array Oper} {Q : Exit → Act → World → Prop} {a : Act} {w : World} {rest : List Oper} {o : Oper}
/-- 'x == y' at structs, as one step of a region. -/
theorem wpList_eql_at (t t' : TypeId) (x y : Operand) (ho : o.op = .binOp .eql t x y t') (hw : Region.wanted o (yielded ops a.tmps) = true) (xs ys : Array Value) (hx : a.eval x = .agg xs) (hy : a.eval y = .agg ys)
    (hm : P.eqGuardType P.depth t = false) (q : Bool) (hq : (binOp .eql t (.agg xs) (.agg ys)).run P w = .ok (.bool q) w) (h : wpList P ops Q rest (a.put o.dst (.bool q)) w) : wpList P ops Q (o :: rest) a w :=
  wpList_val hw (by
    unfold execOp
    simp only [ho, hx, hy, Sem.run_bind, run_eqGuard_agg w .eql t x y xs ys hm, Result.andThen_ok, hq, Sem.run_pure]) h
end
end

section
open Go.RowKit Go.Maps

/-! ### What stays -/
/-- All blocks stay but those of F. -/
structure Keeps (F : Nat → Prop) (w w' : World) : Prop where
  os : w'.os = w.os
  tape : w'.tape = w.tape
  output : w'.output = w.output
  size : w.heap.size ≤ w'.heap.size
  block : ∀ k, k < w.heap.size → ¬ F k → w'.heap[k]? = w.heap[k]?
theorem Keeps.of_below {F : Nat → Prop} {w w' : World} (h : Below w.heap.size w w') : Keeps F w w' := ⟨h.os, h.tape, h.output, h.size, fun k hk _ => h.block k hk⟩
theorem Keeps.refl (F : Nat → Prop) (w : World) : Keeps F w w := ⟨rfl, rfl, rfl, Nat.le_refl _, fun _ _ _ => rfl⟩
theorem Keeps.trans {F : Nat → Prop} {a b c : World} (h : Keeps F a b) (k : Keeps F b c) : Keeps F a c :=
  ⟨k.os.trans h.os, k.tape.trans h.tape, k.output.trans h.output, Nat.le_trans h.size k.size, fun i hi hf => (k.block i (Nat.lt_of_lt_of_le hi h.size) hf).trans (h.block i hi hf)⟩
theorem Keeps.mono {F G : Nat → Prop} {w w' : World} (h : Keeps F w w') (hFG : ∀ k, k < w.heap.size → F k → G k) : Keeps G w w' := ⟨h.os, h.tape, h.output, h.size, fun k hk hg => h.block k hk (fun hf => hg (hFG k hk hf))⟩
theorem Keeps.below {F : Nat → Prop} {w w' : World} {B : Nat} (h : Keeps F w w') (hF : ∀ k, F k → B ≤ k) (hB : B ≤ w.heap.size) : Below B w w' :=
  ⟨h.os, h.tape, h.output, h.size, fun k hk => h.block k (by omega) (fun hf => by have := hF k hf; omega)⟩
theorem Keeps.of_grown {F : Nat → Prop} {w w' : World} {row : Option Nat} (h : w.grownBy w' row) (hF : ∀ q, row = some q → F q) : Keeps F w w' :=
  ⟨h.os, h.tape, h.output, h.size, fun k hk hf => h.block k hk (fun e => hf (hF k e.symm))⟩
theorem Keeps.cell {F : Nat → Prop} {w w' : World} (h : Keeps F w w') {a : Addr} (hlt : a.block < w.heap.size) (hf : ¬ F a.block) : w'.cell? a = w.cell? a := World.cell?_of_block (h.block a.block hlt hf)
/-- A slice's block is none of F. -/
def OffV (F : Nat → Prop) (v : Value) : Prop := ∀ q, v.ownBlock = some q → ¬ F q
theorem OwnR.keepF {w w' : World} {base k : Nat} {E : TypeId} {v : Value} {zs : List (List Value)} {F : Nat → Prop} (h : OwnR w base k E v zs) (hb : Keeps F w w') (ho : OffV F v) : OwnR w' base k E v zs := by
  obtain ⟨⟨hl, hh⟩, hz⟩ := h
  refine ⟨⟨hl, ?_⟩, hz⟩
  rcases hh with h0 | ⟨g, cap, cur, hv, hg, hc, r⟩
  · exact .inl h0
  · have hlt : g < w.heap.size := (Array.getElem?_eq_some_iff.1 hc).1
    refine .inr ⟨g, cap, cur, hv, hg, (hb.block g hlt (ho g ?_)).trans hc, r⟩
    rw [hv]; rfl
theorem Rws.keepF {w w' : World} {k n : Nat} {A : Option Addr} {zs : List (List Value)} {F : Nat → Prop} (h : Rws w k A n zs) (hb : Keeps F w w') (ho : ∀ b off, A = some ⟨b, off, none⟩ → 0 < n → ¬ F b) : Rws w' k A n zs :=
  ⟨h.1, h.2.1, fun hn => by
    obtain ⟨b, off, e, hlt, hc⟩ := h.2.2 hn
    refine ⟨b, off, e, Nat.lt_of_lt_of_le hlt hb.size, fun j z hz i v hv => ?_⟩
    rw [hb.cell (a := ⟨b, off + j * k + i, none⟩) hlt (ho b off e hn)]
    exact hc j z hz i v hv⟩
theorem ownBlock_lt {w : World} {base k : Nat} {E : TypeId} {v : Value} {zs : List (List Value)} (h : OwnR w base k E v zs) {q : Nat} (hq : v.ownBlock = some q) : q < w.heap.size := (h.1.lt q hq).2

/-! ### Nodes -/
def bs (l : List UInt8) : ByteArray := ⟨l.toArray⟩
theorem bs_size (l : List UInt8) : (bs l).size = l.length := by simp [bs, ByteArray.size]
theorem bs_inj {l m : List UInt8} (h : bs l = bs m) : l = m := by
  unfold bs at h
  injection h with h
  simpa using congrArg Array.toList h
/-- A term's node: the term, the slice of those that it is made of, and their numbers. -/
structure Nd where
  t : Tm
  v : Value
  xs : List Nat
def Nd.row (x : Nd) : List Value := [.int .i64 x.t.kind, .int .i64 x.t.a, .int .i64 x.t.b, .string (bs x.t.s), x.v]
def idv (x : Nat) : List Value := [.int .i64 x]
/-- A slice of numbers of terms, in a block of the arena's own. -/
def IdsV (w : World) (v : Value) (xs : List Nat) : Prop :=
  ∃ A c, v = .slice A xs.length c ∧ Rws w 1 A xs.length (xs.map idv) ∧ (0 < xs.length → ∃ b off cur fr, A = some ⟨b, off, none⟩ ∧ w.heap[b]? = some (.cells cur 35 fr))
/-- An arena: where its struct, its map, its slices lie; its nodes. -/
structure Ar where
  g : Nat
  bm : Nat
  vn : Value
  vs : Value
  N : List Nd
def Ar.L (A : Ar) : List Tm := A.N.map Nd.t
theorem Ar.L_len (A : Ar) : A.L.length = A.N.length := by simp [Ar.L]
theorem Ar.L_at {A : Ar} {j : Nat} {x : Nd} (h : A.N[j]? = some x) : A.L[j]? = some x.t := by unfold Ar.L; rw [List.getElem?_map, h]; rfl
theorem Ar.N_at {A : Ar} {j : Nat} {t : Tm} (h : A.L[j]? = some t) : ∃ x, A.N[j]? = some x ∧ x.t = t := by
  unfold Ar.L at h
  rw [List.getElem?_map] at h
  cases e : A.N[j]? with
  | none => rw [e] at h; cases h
  | some x => rw [e] at h; exact ⟨x, rfl, by simpa using h⟩
/-- The arena's own blocks that are written. -/
def Ar.has (A : Ar) (b : Nat) : Prop := b = A.g ∨ b = A.bm ∨ A.vn.ownBlock = some b ∨ A.vs.ownBlock = some b
/-- The numbers' text, by which a term's node is found. -/
def joinL : List Nat → List UInt8
  | [] => []
  | x :: r => Lib.decDigits x ++ 32 :: joinL r
def keyV (t : Tm) (xs : List Nat) : Value := .agg #[.int .i64 t.kind, .int .i64 t.a, .int .i64 t.b, .string (bs t.s), .string (bs (joinL xs))]
/-- What the map holds: each node's key with its number, and no other key. -/
def MapOk (D : DataW Unit) (N : List Nd) : Prop :=
  (∀ (j : Nat) (x : Nd) (kl : Lit), N[j]? = some x → keyOf Tryd.prog 82 (keyV x.t x.xs) = some kl → Maps.has D kl = true ∧ ∀ z, D.atKey kl z = .lit (.int .i64 j)) ∧
  (∀ kl, Maps.has D kl = true → ∃ (j : Nat) (x : Nd), N[j]? = some x ∧ keyOf Tryd.prog 82 (keyV x.t x.xs) = some kl)
/-- An arena in memory, from block B on. -/
structure Arena (w : World) (B : Nat) (A : Ar) : Prop where
  blk : w.heap[A.g]? = some (.cells #[A.vn, A.vs, .map (some A.bm)] 61 (0, 0))
  hg : B ≤ A.g
  hm : B ≤ A.bm
  nodes : OwnR w B 5 66 A.vn (A.N.map Nd.row)
  sizes : OwnI w B A.vs (A.N.map fun x => (x.t.len : Int))
  map : ∃ D : DataW Unit, w.ownsMap Tryd.prog 82 (plainElem Tryd.prog 35) A.bm A.N.length D ∧ MapOk D A.N
  ids : ∀ x ∈ A.N, IdsV w x.v x.xs
  args : ∀ x ∈ A.N, x.xs.map (fun i => A.L[i]?) = x.t.args.map some
  good : Good A.L
  few : A.N.length ≤ 100
theorem Arena.lt {w : World} {B : Nat} {A : Ar} (h : Arena w B A) : A.g < w.heap.size := (Array.getElem?_eq_some_iff.1 h.blk).1
theorem Arena.has_ge {w : World} {B : Nat} {A : Ar} (h : Arena w B A) {b : Nat} (hb : A.has b) : B ≤ b ∧ b < w.heap.size := by
  rcases hb with rfl | rfl | hb | hb
  · exact ⟨h.hg, h.lt⟩
  · obtain ⟨D, hD, _⟩ := h.map
    exact ⟨h.hm, hD.lt⟩
  · exact h.nodes.1.lt b hb
  · exact h.sizes.1.lt b hb
theorem IdsV.keep {w w' : World} {v : Value} {xs : List Nat} {F : Nat → Prop} (h : IdsV w v xs) (hb : Keeps F w w') (ho : ∀ b cur fr, w.heap[b]? = some (.cells cur 35 fr) → ¬ F b) : IdsV w' v xs := by
  obtain ⟨A, c, hv, hr, hi⟩ := h
  refine ⟨A, c, hv, hr.keepF hb (fun b off e hn => ?_), fun hn => ?_⟩
  · obtain ⟨b', off', cur, fr, e', hc⟩ := hi hn
    rw [e] at e'
    injection e' with e'
    injection e' with e1 e2 e3
    subst e1
    exact ho _ _ _ hc
  · obtain ⟨b, off, cur, fr, e, hc⟩ := hi hn
    exact ⟨b, off, cur, fr, e, (hb.block b (Array.getElem?_eq_some_iff.1 hc).1 (ho _ _ _ hc)).trans hc⟩
/-- An arena stays where its blocks, and all of numbers of terms, stay. -/
theorem Arena.keepF {w w' : World} {B : Nat} {A : Ar} {F : Nat → Prop} (h : Arena w B A) (hb : Keeps F w w') (ho : ∀ b, A.has b → ¬ F b) (hi : ∀ b cur fr, w.heap[b]? = some (.cells cur 35 fr) → ¬ F b) : Arena w' B A := by
  obtain ⟨D, hD, hDo⟩ := h.map
  refine ⟨(hb.block A.g h.lt (ho _ (.inl rfl))).trans h.blk, h.hg, h.hm, h.nodes.keepF hb (fun q hq => ho q (.inr (.inr (.inl hq)))), OwnR.keepF h.sizes hb (fun q hq => ho q (.inr (.inr (.inr hq)))), ⟨D, ?_, hDo⟩, fun x hx => (h.ids x hx).keep hb hi, h.args, h.good, h.few⟩
  obtain ⟨es, clock, hbm, r⟩ := hD
  exact ⟨es, clock, (hb.block A.bm (Array.getElem?_eq_some_iff.1 hbm).1 (ho _ (.inr (.inl rfl)))).trans hbm, r⟩
/-- A slice's block is none of F, where it has elements. -/
def OffS (F : Nat → Prop) (v : Value) : Prop := ∀ A n c, v = .slice A n c → 0 < n → OffV F v
theorem IdsV.keepO {w w' : World} {v : Value} {xs : List Nat} {F : Nat → Prop} (h : IdsV w v xs) (hb : Keeps F w w') (ho : OffS F v) : IdsV w' v xs := by
  obtain ⟨A, c, hv, hr, hi⟩ := h
  have hq : 0 < xs.length → ∀ b off, A = some ⟨b, off, none⟩ → ¬ F b := fun hn b off e => ho _ _ _ hv hn b (by rw [hv, e]; rfl)
  refine ⟨A, c, hv, hr.keepF hb (fun b off e hn => hq hn b off e), fun hn => ?_⟩
  obtain ⟨b, off, cur, fr, e, hc⟩ := hi hn
  exact ⟨b, off, cur, fr, e, (hb.block b (Array.getElem?_eq_some_iff.1 hc).1 (hq hn b off e)).trans hc⟩
theorem IdsV.lt {w : World} {v : Value} {xs : List Nat} (h : IdsV w v xs) {q : Nat} (hq : v.ownBlock = some q) (hx : 0 < xs.length) : q < w.heap.size := by
  obtain ⟨A, c, hv, hr, hi⟩ := h
  obtain ⟨b, off, cur, fr, e, hc⟩ := hi hx
  rw [hv, e] at hq
  injection hq with hq
  rw [← hq]
  exact (Array.getElem?_eq_some_iff.1 hc).1
/-- An arena stays where its blocks, and its nodes' numbers, stay. -/
theorem Arena.keepO {w w' : World} {B : Nat} {A : Ar} {F : Nat → Prop} (h : Arena w B A) (hb : Keeps F w w') (ho : ∀ b, A.has b → ¬ F b) (hi : ∀ x ∈ A.N, OffS F x.v) : Arena w' B A := by
  obtain ⟨D, hD, hDo⟩ := h.map
  refine ⟨(hb.block A.g h.lt (ho _ (.inl rfl))).trans h.blk, h.hg, h.hm, h.nodes.keepF hb (fun q hq => ho q (.inr (.inr (.inl hq)))), OwnR.keepF h.sizes hb (fun q hq => ho q (.inr (.inr (.inr hq)))), ⟨D, ?_, hDo⟩, fun x hx => (h.ids x hx).keepO hb (hi x hx), h.args, h.good, h.few⟩
  obtain ⟨es, clock, hbm, r⟩ := hD
  exact ⟨es, clock, (hb.block A.bm (Array.getElem?_eq_some_iff.1 hbm).1 (ho _ (.inr (.inl rfl)))).trans hbm, r⟩
theorem Arena.keep {w w' : World} {B : Nat} {A : Ar} (h : Arena w B A) (hb : Below w.heap.size w w') : Arena w' B A :=
  h.keepF (F := fun _ => False) (Keeps.of_below hb) (fun _ _ h => h) (fun _ _ _ _ h => h)
theorem Arena.mono {w : World} {B B' : Nat} {A : Ar} (h : Arena w B A) (hB : B' ≤ B) : Arena w B' A := by
  have hm : ∀ {base k : Nat} {E : TypeId} {v : Value} {zs : List (List Value)}, OwnR w base k E v zs → B' ≤ base → OwnR w B' k E v zs := by
    intro base k E v zs h hB
    obtain ⟨⟨hl, hh⟩, hz⟩ := h
    refine ⟨⟨hl, ?_⟩, hz⟩
    rcases hh with h0 | ⟨g, cap, cur, hv, hg, r⟩
    · exact .inl h0
    · exact .inr ⟨g, cap, cur, hv, by omega, r⟩
  exact ⟨h.blk, Nat.le_trans hB h.hg, Nat.le_trans hB h.hm, hm h.nodes hB, hm h.sizes hB, h.map, h.ids, h.args, h.good, h.few⟩
/-- What a call on an arena has left: it has grown by the term o; all blocks but its own stay. -/
structure Grew (w w' : World) (B : Nat) (A A' : Ar) (o : Option Tm) : Prop where
  arena : Arena w' B A'
  same : A'.g = A.g
  grow : Grow A.L A'.L o
  keeps : Keeps A.has w w'
  fresh : ∀ x ∈ A'.N, x ∈ A.N ∨ ∀ q, x.v.ownBlock = some q → w.heap.size ≤ q

/-! ### Keys -/
theorem split32 : ∀ (l m r r' : List UInt8), (32 : UInt8) ∉ l → (32 : UInt8) ∉ m → l ++ 32 :: r = m ++ 32 :: r' → l = m ∧ r = r'
  | [], [], r, r', _, _, h => by simpa using h
  | [], y :: m, r, r', _, h2, h => by
    simp only [List.nil_append, List.cons_append, List.cons.injEq] at h
    exact absurd (by rw [h.1]; simp) h2
  | x :: l, [], r, r', h1, _, h => by
    simp only [List.nil_append, List.cons_append, List.cons.injEq] at h
    exact absurd (by rw [← h.1]; simp) h1
  | x :: l, y :: m, r, r', h1, h2, h => by
    simp only [List.cons_append, List.cons.injEq] at h
    obtain ⟨e1, e2⟩ := split32 l m r r' (fun hh => h1 (by simp [hh])) (fun hh => h2 (by simp [hh])) h.2
    exact ⟨by rw [h.1, e1], e2⟩
theorem dig_ne {i : Nat} (h : i < 10) : UInt8.ofNat (48 + i) ≠ 32 := fun e => by
  have := ofNat_inj (x := 48 + i) (y := 32) (by omega) (by decide) e
  omega
theorem digits_no {x : Nat} (h : x < 100) : (32 : UInt8) ∉ Lib.decDigits x := by
  by_cases h1 : x < 10
  · rw [Lib.decDigits_one h1]
    simp only [List.mem_singleton]
    exact fun e => dig_ne h1 e.symm
  · rw [Lib.decDigits_two h1 h]
    simp only [List.mem_cons, List.not_mem_nil, or_false]
    rintro (e | e)
    · exact dig_ne (i := x / 10) (by omega) e.symm
    · exact dig_ne (i := x % 10) (by omega) e.symm
theorem digits_eq {x y : Nat} (hx : x < 100) (hy : y < 100) (h : Lib.decDigits x = Lib.decDigits y) : x = y := by
  by_cases h1 : x < 10 <;> by_cases h2 : y < 10
  · rw [Lib.decDigits_one h1, Lib.decDigits_one h2] at h
    simp only [List.cons.injEq, and_true] at h
    have := ofNat_inj (by omega) (by omega) h
    omega
  · rw [Lib.decDigits_one h1, Lib.decDigits_two h2 hy] at h
    simp at h
  · rw [Lib.decDigits_two h1 hx, Lib.decDigits_one h2] at h
    simp at h
  · rw [Lib.decDigits_two h1 hx, Lib.decDigits_two h2 hy] at h
    simp only [List.cons.injEq, and_true] at h
    have e1 := ofNat_inj (by omega) (by omega) h.1
    have e2 := ofNat_inj (by omega) (by omega) h.2
    omega
theorem joinL_inj : ∀ (l m : List Nat), (∀ x ∈ l, x < 100) → (∀ x ∈ m, x < 100) → joinL l = joinL m → l = m
  | [], [], _, _, _ => rfl
  | [], y :: m, _, _, h => by
    have := congrArg List.length h
    simp [joinL] at this
  | x :: l, [], _, _, h => by
    have := congrArg List.length h
    simp [joinL] at this
  | x :: l, y :: m, h1, h2, h => by
    rw [joinL, joinL] at h
    have hx := h1 x (by simp)
    have hy := h2 y (by simp)
    obtain ⟨e1, e2⟩ := split32 _ _ _ _ (digits_no hx) (digits_no hy) h
    rw [digits_eq hx hy e1, joinL_inj l m (fun z hz => h1 z (by simp [hz])) (fun z hz => h2 z (by simp [hz])) e2]
def shDs : List TypeDesc := [.int .i64, .int .i64, .int .i64, .string, .string]
theorem sh_flat : flatDesc Tryd.prog 4 82 = some shDs := by kernel_rfl
theorem sh_noBlank : noBlank Tryd.prog 4 82 = true := by kernel_rfl
theorem sh_key : Tryd.prog.keyType 82 = true := by kernel_rfl
theorem sh_cells : Tryd.prog.cellsOf 82 = 5 := by kernel_rfl
theorem sh_law : Keyed Tryd.prog 82 := Keyed.of_law (deep_law_laid (m := 8) (by kernel_rfl) (by decide) (by rw [show Tryd.prog.types.size = 152 by kernel_rfl]; decide) (by kernel_rfl) (by kernel_rfl))
theorem sh_keyOf {cs : List Value} (h : allOk shDs cs) : ∃ kl, keyOf Tryd.prog 82 (.agg cs.toArray) = some kl := by
  have fx : (Value.agg cs.toArray).formed Tryd.prog 82 = true := by
    unfold Value.formed
    rw [Tryd.underlying82]
    simp only [List.size_toArray, h.1, sh_cells]
    rfl
  have kx := flat_keyLits 4 _ _ _ (Tryd.prog.types.size + 1) sh_flat sh_noBlank h (by rw [show Tryd.prog.types.size = 152 by kernel_rfl]; decide)
  refine ⟨.string (keyBytes (cs.map litOf)), ?_⟩
  unfold keyOf
  rw [Tryd.underlying82]
  simp only [sh_key, fx, Bool.and_self, if_true, Value.cells, kx]
  rfl
end

section
open Go.Shelf Go.RowKit

def bldRen : Go.Shelf.Ren := ⟨fun | 166 => 54 | 169 => 56 | 240 => 61 | 276 => 68 | n => n, fun | 0 => 0 | 3 => 3 | 4 => 4 | 5 => 5 | 9 => 9 | 20 => 20 | 37 => 98 | 70 => 97 | 72 => 100 | 75 => 26 | 76 => 101 | 80 => 103 | 127 => 108 | 164 => 114 | n => n, fun | n => n⟩
theorem bld240 : Go.Proofs.Lays.n240 Tryd.prog bldRen := {
  mixed := by kernel_rfl
  f240 := Tryd.func61.trans (congrArg some (by kernel_rfl))
  f276 := Tryd.func68.trans (congrArg some (by kernel_rfl))
  t0 := by kernel_rfl
  a0 := Tryd.isAgg0
  z0 := Tryd.sizeOf0
  v0 := Tryd.zeroValue0
  t4 := by kernel_rfl
  a4 := Tryd.isAgg4
  z4 := Tryd.sizeOf4
  v4 := Tryd.zeroValue4
  t9 := by kernel_rfl
  a9 := Tryd.isAgg9
  z9 := Tryd.sizeOf9
  v9 := Tryd.zeroValue9
  t20 := by kernel_rfl
  a20 := Tryd.isAgg20
  z20 := Tryd.sizeOf20
  v20 := Tryd.zeroValue20
  t70 := by kernel_rfl
  a70 := Tryd.isAgg97
  z70 := Tryd.sizeOf97
  v70 := Tryd.zeroValue97
  t72 := by kernel_rfl
  a72 := Tryd.isAgg100
  z72 := Tryd.sizeOf100
  v72 := Tryd.zeroValue100
  t164 := by kernel_rfl
  a164 := Tryd.isAgg114
  z164 := Tryd.sizeOf114
  v164 := Tryd.zeroValue114 }
theorem bld166 : Go.Proofs.Lays.n166 Tryd.prog bldRen := {
  mixed := by kernel_rfl
  f166 := Tryd.func54.trans (congrArg some (by kernel_rfl))
  f240 := Tryd.func61.trans (congrArg some (by kernel_rfl))
  f276 := Tryd.func68.trans (congrArg some (by kernel_rfl))
  t0 := by kernel_rfl
  a0 := Tryd.isAgg0
  z0 := Tryd.sizeOf0
  v0 := Tryd.zeroValue0
  t3 := by kernel_rfl
  a3 := Tryd.isAgg3
  z3 := Tryd.sizeOf3
  v3 := Tryd.zeroValue3
  t4 := by kernel_rfl
  a4 := Tryd.isAgg4
  z4 := Tryd.sizeOf4
  v4 := Tryd.zeroValue4
  t9 := by kernel_rfl
  a9 := Tryd.isAgg9
  z9 := Tryd.sizeOf9
  v9 := Tryd.zeroValue9
  t20 := by kernel_rfl
  a20 := Tryd.isAgg20
  z20 := Tryd.sizeOf20
  v20 := Tryd.zeroValue20
  t37 := by kernel_rfl
  a37 := Tryd.isAgg98
  z37 := Tryd.sizeOf98
  v37 := Tryd.zeroValue98
  t70 := by kernel_rfl
  a70 := Tryd.isAgg97
  z70 := Tryd.sizeOf97
  v70 := Tryd.zeroValue97
  t72 := by kernel_rfl
  a72 := Tryd.isAgg100
  z72 := Tryd.sizeOf100
  v72 := Tryd.zeroValue100
  t75 := by kernel_rfl
  a75 := Tryd.isAgg26
  z75 := Tryd.sizeOf26
  v75 := Tryd.zeroValue26
  t164 := by kernel_rfl
  a164 := Tryd.isAgg114
  z164 := Tryd.sizeOf114
  v164 := Tryd.zeroValue114 }
theorem bld169 : Go.Proofs.Lays.n169 Tryd.prog bldRen := {
  mixed := by kernel_rfl
  f169 := Tryd.func56.trans (congrArg some (by kernel_rfl))
  t0 := by kernel_rfl
  a0 := Tryd.isAgg0
  z0 := Tryd.sizeOf0
  v0 := Tryd.zeroValue0
  t3 := by kernel_rfl
  a3 := Tryd.isAgg3
  z3 := Tryd.sizeOf3
  v3 := Tryd.zeroValue3
  t9 := by kernel_rfl
  a9 := Tryd.isAgg9
  z9 := Tryd.sizeOf9
  v9 := Tryd.zeroValue9
  t37 := by kernel_rfl
  a37 := Tryd.isAgg98
  z37 := Tryd.sizeOf98
  v37 := Tryd.zeroValue98
  t70 := by kernel_rfl
  a70 := Tryd.isAgg97
  z70 := Tryd.sizeOf97
  v70 := Tryd.zeroValue97
  t72 := by kernel_rfl
  a72 := Tryd.isAgg100
  z72 := Tryd.sizeOf100
  v72 := Tryd.zeroValue100
  t127 := by kernel_rfl
  a127 := Tryd.isAgg108
  z127 := Tryd.sizeOf108
  v127 := Tryd.zeroValue108 }
theorem bldX : Builder.Extra Tryd.prog bldRen := {
  sizeBuilder := by kernel_rfl
  liesBuilder := by kernel_rfl
  t5 := by kernel_rfl
  a5 := Tryd.isAgg5
  z5 := Tryd.sizeOf5
  v5 := Tryd.zeroValue5
  infoByte := by kernel_rfl
  cellsByte := by kernel_rfl
  sizeByte := by kernel_rfl
  neB5 := by decide }
theorem bldWrite (B b : Nat) (bs : List Value) (s : ByteArray) (w : World) (h : Lib.IsBuilder 100 5 B b bs w) (hlen : bs.length + s.size ≤ 140737488355328) (hBw : B ≤ w.heap.size) :
    Calls Tryd.prog 54 #[.pointer (some ⟨b, 0, none⟩), .string s] w fun e w' => e = .returned (.tuple #[.int .i64 s.size, .nilIface]) ∧ (Lib.BuilderAt 100 5 B b (.pointer (some ⟨b, 0, none⟩)) (bs ++ Lib.strCells s) w' ∧ Below B w w') :=
  Any.Builder_WriteString bld166 bldX B b bs s w h hlen hBw
theorem bldString (B b : Nat) (l : List UInt8) (w : World) (h : Lib.IsBuilder 100 5 B b (Lib.byteCells l) w) (hBw : B ≤ w.heap.size) :
    Calls Tryd.prog 56 #[.pointer (some ⟨b, 0, none⟩)] w fun e w' => e = .returned (.string ⟨l.toArray⟩) ∧ Below B w w' :=
  Any.Builder_String_any bld169 bldX B b l w h hBw
end

section
open Go.RowKit Go.Maps

theorem below_new (w : World) (o : Obj) : Below w.heap.size w (w.alloc o) := (Below.refl _ _).alloc (Nat.le_refl _) o
/-- What the arena's struct holds. -/
theorem Arena.open_ {w : World} {B : Nat} {A : Ar} (h : Arena w B A) : ∃ An cn As cs, A.vn = .slice An A.N.length cn ∧ A.vs = .slice As A.N.length cs ∧
    w.cell? ⟨A.g, 0, none⟩ = some (.slice An A.N.length cn) ∧ w.cell? ⟨A.g, 1, none⟩ = some (.slice As A.N.length cs) ∧ w.cell? ⟨A.g, 2, none⟩ = some (.map (some A.bm)) ∧
    Rws w 5 An A.N.length (A.N.map Nd.row) ∧ Ints w As A.N.length (A.N.map fun x => (x.t.len : Int)) := by
  obtain ⟨An, cn, e1, h1⟩ := h.nodes.rws
  obtain ⟨As, cs, e2, h2⟩ := OwnI.ints h.sizes
  rw [List.length_map] at e1 h1 e2 h2
  refine ⟨An, cn, As, cs, e1, e2, ?_, ?_, ?_, h1, h2⟩
  · rw [cell_of_row w A.g 0 _ _ _ h.blk, e1]; rfl
  · rw [cell_of_row w A.g 1 _ _ _ h.blk, e2]; rfl
  · rw [cell_of_row w A.g 2 _ _ _ h.blk]; rfl
theorem Nd.len (x : Nd) : x.row.length = 5 := rfl
/-- A node's cells. -/
theorem Arena.node {w : World} {B : Nat} {A : Ar} (h : Arena w B A) {j : Nat} {x : Nd} (hx : A.N[j]? = some x) : ∃ b off cn, A.vn = .slice (some ⟨b, off, none⟩) A.N.length cn ∧ b < w.heap.size ∧ w.rangeAt b (off + j * 5) x.row ∧ j < A.N.length := by
  have hj := (List.getElem?_eq_some_iff.1 hx).1
  obtain ⟨An, cn, As, cs, e1, e2, c0, c1, c2, h1, h2⟩ := h.open_
  obtain ⟨b, off, z, rfl, hb, hz, hl, hr⟩ := h1.row hj
  rw [List.getElem?_map, hx] at hz
  simp only [Option.map_some, Option.some.injEq] at hz
  subst hz
  exact ⟨b, off, cn, e1, hb, hr, hj⟩
theorem Nd.flds {w : World} {b o : Nat} {x : Nd} (h : w.rangeAt b o x.row) : w.cell? ⟨b, o, none⟩ = some (.int .i64 x.t.kind) ∧ w.cell? ⟨b, o + 1, none⟩ = some (.int .i64 x.t.a) ∧ w.cell? ⟨b, o + 2, none⟩ = some (.int .i64 x.t.b) ∧ w.cell? ⟨b, o + 3, none⟩ = some (.string (bs x.t.s)) ∧ w.cell? ⟨b, o + 4, none⟩ = some x.v :=
  ⟨h 0 _ rfl, h 1 _ rfl, h 2 _ rfl, h 3 _ rfl, h 4 _ rfl⟩

theorem len_any (A : Ar) (B : Nat) (w : World) (H : Arena w B A) :
    Calls Tryd.prog 53 #[.pointer (some ⟨A.g, 0, none⟩)] w fun r w' => r = .returned (.int .i64 A.N.length) ∧ w = w' := by
  obtain ⟨An, cn, As, cs, e1, e2, c0, c1, c2, h1, h2⟩ := H.open_
  clear H
  go_enter Tryd.func53, Tryd.ntmps53
  go_wp2
  go_ret
  exact ⟨rfl, rfl⟩
theorem len_nil (w : World) :
    Calls Tryd.prog 53 #[.pointer none] w fun r w' => r = .returned (.int .i64 0) ∧ w = w' := by
  go_enter Tryd.func53, Tryd.ntmps53
  go_wp2
  go_ret
  exact ⟨rfl, rfl⟩
def hasB (A : Ar) (x : Int) : Bool := (get A.L x).isSome
theorem hasB_neg {A : Ar} {x : Int} (h : x < 0) : hasB A x = false := by unfold hasB; rw [get_neg h]; rfl
theorem hasB_nat (A : Ar) (j : Nat) : hasB A j = decide (j < A.N.length) := by
  unfold hasB
  rw [get_nat, Bool.eq_iff_iff, decide_eq_true_eq, ← A.L_len]
  cases e : A.L[j]? with
  | none => simpa using List.getElem?_eq_none_iff.1 e
  | some t => simpa using (List.getElem?_eq_some_iff.1 e).1
theorem has_any (A : Ar) (B : Nat) (x : Int) (w : World) (H : Arena w B A) :
    Calls Tryd.prog 38 #[.pointer (some ⟨A.g, 0, none⟩), .int .i64 x] w fun r w' => r = .returned (.bool (hasB A x)) ∧ w = w' := by
  have cL := Lib.hid (len_any A B w H)
  by_cases h0 : x < 0
  · rw [hasB_neg h0]
    clear H
    go_enter Tryd.func38, Tryd.ntmps38
    go_wp2_with fail
    go_ret
    exact ⟨rfl, rfl⟩
  · obtain ⟨j, rfl⟩ := Int.eq_ofNat_of_zero_le (show 0 ≤ x by omega)
    rw [hasB_nat]
    clear H h0
    go_enter Tryd.func38, Tryd.ntmps38
    go_wp2_with (go_at_call 53; refine cL.out.mono ?_; rintro r w1 ⟨rfl, rfl⟩)
    go_ret
    exact ⟨ret_bool (by simp), rfl⟩
theorem has_nil (x : Int) (w : World) :
    Calls Tryd.prog 38 #[.pointer none, .int .i64 x] w fun r w' => r = .returned (.bool false) ∧ w = w' := by
  have cL := Lib.hid (len_nil w)
  by_cases h0 : x < 0
  · go_enter Tryd.func38, Tryd.ntmps38
    go_wp2_with fail
    go_ret
    exact ⟨rfl, rfl⟩
  · have h1 : 0 ≤ x := by omega
    clear h0
    go_enter Tryd.func38, Tryd.ntmps38
    go_wp2_with (go_at_call 53; refine cL.out.mono ?_; rintro r w1 ⟨rfl, rfl⟩)
    go_ret
    exact ⟨ret_bool (decide_eq_false (by omega)), rfl⟩
def isB (A : Ar) (x : Int) (k : Nat) : Bool := match get A.L x with | some t => t.kind == k | none => false
theorem isB_eq {A : Ar} {x : Int} {k : Nat} (hk : 0 < k) : isB A x k = (kindO (get A.L x) == k) := by
  unfold isB
  cases get A.L x with
  | none => simp [kindO]; omega
  | some t => rfl
theorem is_any (A : Ar) (B : Nat) (x : Int) (k : Nat) (w : World) (H : Arena w B A) :
    Calls Tryd.prog 23 #[.pointer (some ⟨A.g, 0, none⟩), .int .i64 x, .int .i64 k] w fun r w' => r = .returned (.bool (isB A x k)) ∧ w = w' := by
  have cH := has_any A B x w H
  cases hg : get A.L x with
  | none =>
    have e : isB A x k = false := by unfold isB; rw [hg]
    rw [show hasB A x = false by unfold hasB; rw [hg]; rfl] at cH
    rw [e]
    have cH := Lib.hid cH
    clear H hg e
    go_enter Tryd.func23, Tryd.ntmps23
    go_wp2_with (go_at_call 38; refine cH.out.mono ?_; rintro r w1 ⟨rfl, rfl⟩)
    go_ret
    exact ⟨rfl, rfl⟩
  | some t =>
    have e : isB A x k = (t.kind == k) := by unfold isB; rw [hg]
    rw [show hasB A x = true by unfold hasB; rw [hg]; rfl] at cH
    rw [e]
    have cH := Lib.hid cH
    obtain ⟨j, rfl, hj⟩ := get_some hg
    obtain ⟨y, hy, rfl⟩ := Ar.N_at hj
    obtain ⟨An, cn, As, cs, e1, e2, c0, c1, c2, h1, h2⟩ := H.open_
    obtain ⟨b, off, cn', e1', hb, hr, hjl⟩ := H.node hy
    rw [e1] at e1'
    injection e1' with e3 e4 e5
    subst e3
    obtain ⟨f0, _⟩ := Nd.flds hr
    have i1 : (0 : Int) ≤ (j : Int) := by omega
    have i2 : (j : Int) < (A.N.length : Int) := by omega
    have hq : ((y.t.kind : Int) == (k : Int)) = (y.t.kind == k) := by rw [Bool.eq_iff_iff]; simp; omega
    generalize (y.t.kind == k) = q at hq ⊢
    generalize A.N.length = n at *
    have hq2 := Lib.hid hq
    clear H hg e hr hj hy e1 e2 h1 h2 hjl hq e5
    go_enter Tryd.func23, Tryd.ntmps23
    go_wp2_with (go_at_call 38; refine cH.out.mono ?_; rintro r w1 ⟨rfl, rfl⟩)
    go_ret
    exact ⟨ret_bool hq2.out, rfl⟩
theorem own_any (k : Nat) (x1 x2 : Value) (s : List UInt8) (v : Value) (w : World) (hs : s.length ≤ 4000000000) (hv : v.oneCell' = true) (h1 : x1.oneCell' = true) (h2 : x2.oneCell' = true) :
    Calls Tryd.prog 39 #[.agg #[.int .i64 k, x1, x2, .string (bs s), v]] w fun r w' => r = .returned (.int .i64 (own k s.length)) ∧ Below w.heap.size w w' := by
  have hB := Lib.hid (below_new w (.cells #[.int .i64 k, x1, x2, .string (bs s), v] 66))
  have hz := bs_size s
  have hsz : (((bs s).size : Nat) : Int) = (s.length : Int) := by rw [hz]
  have hl1 : s.length ≤ 4000000000 := hs
  have hl2 : (bs s).size ≤ 4000000000 := by rw [hz]; exact hs
  clear hz
  by_cases k2 : k = 2
  · subst k2
    go_enter Tryd.func39, Tryd.ntmps39
    go_wp2
    go_ret
    exact ⟨rfl, hB.out⟩
  by_cases ka : k = 1 ∨ k = 3 ∨ k = 6 ∨ k = 9 ∨ k = 10
  · have e : own k s.length = 5 + s.length := by unfold own; rw [if_neg k2, if_pos ka]
    rw [e]
    clear k2 e
    rcases ka with rfl | rfl | rfl | rfl | rfl
    all_goals
      go_enter Tryd.func39, Tryd.ntmps39
      go_wp2
      go_ret
      exact ⟨ret_int (by omega), hB.out⟩
  by_cases k5 : k = 5
  · subst k5
    go_enter Tryd.func39, Tryd.ntmps39
    go_wp2
    go_ret
    exact ⟨ret_int (by have : own 5 s.length = 9 + s.length := rfl; omega), hB.out⟩
  by_cases k8 : k = 8
  · subst k8
    go_enter Tryd.func39, Tryd.ntmps39
    go_wp2
    go_ret
    exact ⟨rfl, hB.out⟩
  have e : own k s.length = 1 := by unfold own; rw [if_neg k2, if_neg ka, if_neg k5, if_neg k8]
  rw [e]
  have g1 : ((k : Int) == 1) = false := by rw [beq_eq_false_iff_ne]; omega
  have g2 : ((k : Int) == 2) = false := by rw [beq_eq_false_iff_ne]; omega
  have g3 : ((k : Int) == 3) = false := by rw [beq_eq_false_iff_ne]; omega
  have g5 : ((k : Int) == 5) = false := by rw [beq_eq_false_iff_ne]; omega
  have g6 : ((k : Int) == 6) = false := by rw [beq_eq_false_iff_ne]; omega
  have g8 : ((k : Int) == 8) = false := by rw [beq_eq_false_iff_ne]; omega
  have g9 : ((k : Int) == 9) = false := by rw [beq_eq_false_iff_ne]; omega
  have g10 : ((k : Int) == 10) = false := by rw [beq_eq_false_iff_ne]; omega
  clear k2 ka k5 k8 e
  go_enter Tryd.func39, Tryd.ntmps39
  go_wp2
  go_ret
  exact ⟨rfl, hB.out⟩

/-! ### The numbers' text -/
theorem byteCells_append (l m : List UInt8) : Lib.byteCells (l ++ m) = Lib.byteCells l ++ Lib.byteCells m := by simp [Lib.byteCells]
theorem strCells_bs (l : List UInt8) : Lib.strCells (bs l) = Lib.byteCells l := by simp [Lib.strCells, Lib.byteCells, bs]
theorem joinL_append (l m : List Nat) : joinL (l ++ m) = joinL l ++ joinL m := by
  induction l with
  | nil => rfl
  | cons x r ih => rw [List.cons_append, joinL, joinL, ih]; simp
theorem joinL_len : ∀ (l : List Nat), (∀ x ∈ l, x < 100) → (joinL l).length ≤ 3 * l.length
  | [], _ => by simp [joinL]
  | x :: r, h => by
    have ih := joinL_len r (fun y hy => h y (by simp [hy]))
    have hx := h x (by simp)
    have hd : (Lib.decDigits x).length ≤ 2 := by
      by_cases h1 : x < 10
      · rw [Lib.decDigits_one h1]; simp
      · rw [Lib.decDigits_two h1 hx]; simp
    rw [joinL]
    simp only [List.length_append, List.length_cons]
    omega
set_option maxHeartbeats 1000000 in
theorem join_any (xs : List Nat) (A : Option Addr) (m c : Nat) (w : World) (hm : m = xs.length) (hm2 : m ≤ 40) (hx : ∀ x ∈ xs, x < 100) (H : Rws w 1 A m (xs.map idv)) :
    Calls Tryd.prog 40 #[.slice A m c] w fun r w' => r = .returned (.string (bs (joinL xs))) ∧ Below w.heap.size w w' := by
  have hz : ∀ w : World, Lib.IsBuilder 100 5 w.heap.size w.heap.size (Lib.byteCells []) (w.alloc (.cells #[.pointer none, .slice none 0 0] 100)) := fun w =>
    .inl ⟨Nat.le_refl _, _, heap_new w _, World.ownsRow_nil _ _ _ _, by simp [Value.ownBlock]⟩
  have hx2 := Lib.hid hx
  have hm3 := Lib.hid hm
  clear hm
  have hz1 := Lib.hid (hz w)
  clear hz
  go_enter Tryd.func40, Tryd.ntmps40
  go_wp2
  have hB0 := Lib.hid (below_new w (.cells #[.pointer none, .slice none 0 0] 100))
  go_loopw [8] (fun i wr => ∃ k : Nat, k ≤ m ∧ i = .int .i64 k ∧ Hid (Lib.IsBuilder 100 5 w.heap.size w.heap.size (Lib.byteCells (joinL (xs.take k))) wr) ∧ Hid (Below w.heap.size w wr)) (fun i _ => m - (intOf i).toNat)
  case atStart => exact ⟨0, by omega, rfl, hz1, hB0⟩
  case round =>
    obtain ⟨k, hk, rfl, hb, hB⟩ := hrel
    by_cases hlt : k < m
    · obtain ⟨b, off, z, rfl, hbl, hz, _, hr⟩ := H.row hlt
      rw [List.getElem?_map] at hz
      cases hxk : xs[k]? with
      | none => rw [hxk] at hz; cases hz
      | some x =>
        rw [hxk] at hz
        simp only [Option.map_some, Option.some.injEq] at hz
        subst hz
        have hx100 := hx2.out x (List.mem_of_getElem? hxk)
        have hc : wr.cell? ⟨b, off + k, none⟩ = some (.int .i64 x) := (hB.out.cell (p := ⟨b, off + k, none⟩) hbl).trans (by have := hr 0 _ rfl; rwa [Nat.mul_one, Nat.add_zero] at this)
        have hst := Lib.hid (show joinL (xs.take (k + 1)) = joinL (xs.take k) ++ (Lib.decDigits x ++ [32]) by rw [take_succ_of hxk, joinL_append]; try rfl)
        have hl1 := joinL_len (xs.take k) (fun y hy => hx2.out y (List.mem_of_mem_take hy))
        have hl2 : (xs.take k).length ≤ k := List.length_take_le _ _
        have hd : (Lib.decDigits x).length ≤ 2 := by
          by_cases h1 : x < 10
          · rw [Lib.decDigits_one h1]; simp
          · rw [Lib.decDigits_two h1 hx100]; simp
        have cI := Lib.hid (Tryd.strconv_Itoa_small x hx100)
        have hcat : (⟨(Lib.decDigits x).toArray⟩ : ByteArray) ++ ⟨#[32]⟩ = bs (Lib.decDigits x ++ [32]) := by
          apply ByteArray.ext
          simp [bs]
        have cW := Lib.hid (bldWrite w.heap.size w.heap.size _ (bs (Lib.decDigits x ++ [32])) wr hb.out (by rw [bs_size]; simp [Lib.byteCells]; omega) hB.out.size)
        rw [strCells_bs, ← byteCells_append] at cW
        have hd2 : (⟨(Lib.decDigits x).toArray⟩ : ByteArray).size ≤ 2 := by simpa [ByteArray.size] using hd
        clear hr hx100 hxk hl1 hl2
        go_wp2_with (first
          | (go_at_call 55; refine (cI.out _).mono ?_; rintro r w1 ⟨rfl, rfl⟩)
          | (go_at_call 54; refine cW.out.mono ?_; rintro r w2 ⟨rfl, hb2, hB2⟩))
        skip
        go_roundw
        case rel => exact ⟨k + 1, by omega, by go_num, (by unfold Hid; rw [hst.out]; exact .inr hb2), hB.out.trans hB2⟩
        case measure => simp [intOf]; omega
    · have hkn : xs.take k = xs := List.take_of_length_le (by rw [← hm3.out]; omega)
      rw [hkn] at hb
      have cS := Lib.hid (bldString w.heap.size w.heap.size (joinL xs) wr hb.out hB.out.size)
      clear hkn
      go_wp2_with (go_at_call 56; refine cS.out.mono ?_; rintro r w2 ⟨rfl, hB2⟩)
      go_ret
      exact ⟨rfl, hB.out.trans hB2⟩
end

section
open Go.RowKit Go.Maps


theorem id_info : (Tryd.prog.info? 35).map (fun i => (i.zero, i.size, i.bytes)) = some (some (.int .i64 0), 1, 8) := by kernel_rfl
theorem idv_len (xs : List Nat) : ((xs.map idv).flatten).length = xs.length := by
  induction xs with
  | nil => rfl
  | cons x r ih => simp only [List.map_cons, List.flatten_cons, List.length_append, ih, List.length_cons]; show 1 + r.length = _; omega
theorem IdsV.of_own {w : World} {base : Nat} {v : Value} {xs : List Nat} (h : OwnR w base 1 35 v (xs.map idv)) : IdsV w v xs := by
  have h1 := h.1.2
  obtain ⟨A, c, rfl, hr⟩ := h.rws
  rw [List.length_map] at hr
  refine ⟨A, c, by rw [List.length_map], hr, fun hn => ?_⟩
  rcases h1 with ⟨_, h0⟩ | ⟨g, cap, cur, e, _, hg, _⟩
  · rw [List.length_map] at h0; omega
  · injection e with e1 e2 e3
    exact ⟨g, 0, cur, (0, 0), e1, hg⟩
set_option maxHeartbeats 2000000 in
set_option maxRecDepth 100000 in
theorem cloneI_any (xs : List Nat) (A : Option Addr) (n c : Nat) (w : World) (hl : xs.length = n) (hn : n ≤ 1000000) (H : Rws w 1 A n (xs.map idv)) :
    Calls Tryd.prog 41 #[.slice A n c] w fun r w' => ∃ v', r = .returned v' ∧ OwnR w' w.heap.size 1 35 v' (xs.map idv) ∧ Below w.heap.size w w' := by
  have q := fun (w : World) (a : Option Addr) (n c n' c' : Nat) => Lib.run_eql_slice_nil (P := Tryd.prog) w 64 35 a n c n' c' Tryd.underlying64
  cases A with
  | none =>
    have h0 : n = 0 := by
      by_cases h : 0 < n
      · obtain ⟨b, off, e, _⟩ := H.2.2 h; cases e
      · omega
    subst h0
    have hs : xs = [] := List.eq_nil_of_length_eq_zero hl
    subst hs
    clear H hl
    go_enter Tryd.func41, Tryd.ntmps41
    go_wp2
    go_ret
    exact ⟨_, rfl, OwnR.nil_ _ _ _ _, Below.refl _ _⟩
  | some ad =>
    obtain ⟨i0, hi, hz0, hz1, hz2⟩ := info_parts id_info
    have hB1 := Lib.hid (below_new w (.cells #[] 35))
    have hc := Lib.hid ((H.keep hB1.out).flat (by decide))
    have hfl := Lib.hid (show (xs.map idv).flatten.length = n * 1 by rw [idv_len, hl, Nat.mul_one])
    have hL := Lib.hid hl
    clear H hl
    go_enter Tryd.func41, Tryd.ntmps41
    go_wp2_with (at_builtin; refine wpList_append_own _ rfl _ _ 64 rfl w.heap.size 35 i0 (.int .i64 0) 1 8 Tryd.underlying64 hi hz0 hz1 hz2 rfl (by decide) _ _ _ rfl (World.ownsRow_made w #[] 0 (Nat.le_refl _) (Nat.zero_le _) rfl) ad n c (xs.map idv).flatten rfl ?qc1 ?qc2 ?qc3 ?qc4 ?qc5 ?qc6 ?_)
    case qc1 => exact hfl.out
    case qc2 => exact hc.out
    case qc3 => intro u hu; obtain ⟨z, hz, hu⟩ := List.mem_flatten.1 hu; obtain ⟨x, _, rfl⟩ := List.mem_map.1 hz; simp [idv] at hu; subst hu; rfl
    case qc4 => unfold maxLen; omega
    case qc5 => omega
    case qc6 => simp
    intro v' w1 hown hgrow hnil
    go_wp2
    go_ret
    refine ⟨v', rfl, ⟨by simpa [hL.out] using hown, fun z hz => by obtain ⟨x, _, rfl⟩ := List.mem_map.1 hz; rfl⟩, ?_⟩
    exact ((Below.refl _ w).alloc (Nat.le_refl _) _).grown hgrow (by simp) (by intro k hk; simp [Value.ownBlock] at hk; omega)

def Ar.empty (g bm : Nat) : Ar := ⟨g, bm, .slice none 0 0, .slice none 0 0, []⟩
theorem arena_new {w : World} {B g bm : Nat} (hg : w.heap[g]? = some (.cells #[.slice none 0 0, .slice none 0 0, .map (some bm)] 61 (0, 0))) (h1 : B ≤ g) (h2 : B ≤ bm) (hb : w.heap[bm]? = some (.map #[] 0)) : Arena w B (Ar.empty g bm) where
  blk := hg
  hg := h1
  hm := h2
  nodes := OwnR.nil_ _ _ _ _
  sizes := OwnR.nil_ _ _ _ _
  map := ⟨.map [], ⟨#[], 0, hb, ⟨by simp, MapKept.stamped_empty 0, by simp⟩, Nat.le_refl _, rfl⟩, fun j x kl h => by simp [Ar.empty] at h, fun kl h => by simp [Maps.has] at h⟩
  ids := by simp [Ar.empty]
  args := by simp [Ar.empty]
  good := Good.nil_
  few := by simp [Ar.empty]
theorem tnew_any (w : World) :
    Calls Tryd.prog 7 #[] w fun r w' => ∃ A, r = .returned (.pointer (some ⟨A.g, 0, none⟩)) ∧ A.N = [] ∧ Arena w' w.heap.size A ∧ Below w.heap.size w w' := by
  have hB := Lib.hid ((below_new w (.map #[] 0)).alloc (below_new w (.map #[] 0)).size (.cells #[.slice none 0 0, .slice none 0 0, .map (some w.heap.size)] 61))
  have h1 := heap_past (heap_new w (.map #[] 0)) (.cells #[.slice none 0 0, .slice none 0 0, .map (some w.heap.size)] 61)
  have h2 := heap_new (w.alloc (.map #[] 0)) (.cells #[.slice none 0 0, .slice none 0 0, .map (some w.heap.size)] 61)
  simp only [World.size_alloc] at h2
  have hA := Lib.hid (arena_new (B := w.heap.size) h2 (by omega) (Nat.le_refl _) h1)
  clear h1 h2
  have hmm := @run_makeMap Tryd.prog
  go_enter Tryd.func7, Tryd.ntmps7
  go_wp2_with (first
    | (refine wpList_build_as 61 _ rfl rfl #[.slice none 0 0, .slice none 0 0, .map (some w.heap.size)] ?_ ?_; kernel_rfl)
    | (refine wpList_box_row 61 _ rfl rfl #[.slice none 0 0, .slice none 0 0, .map (some w.heap.size)] rfl ?_))
  trace_state
  go_ret
  exact ⟨Ar.empty (w.heap.size + 1) w.heap.size, rfl, rfl, hA.out, hB.out⟩
end

section
open Go

theorem getD_put_same {l : Array Bool} {i : Nat} (h : i < l.size) : (l.setIfInBounds i true).getD i true = true := by
  simp [Array.getD, h]
theorem getD_put_other {l : Array Bool} {i j : Nat} (h : i ≠ j) : (l.setIfInBounds i true).getD j true = l.getD j true := by
  simp [Array.getD_eq_getD_getElem?, Array.getElem?_setIfInBounds, h]
def todo (l : Array Bool) : Nat := ((List.range l.size).filter (fun j => !(l.getD j true))).length
theorem todo_put {l : Array Bool} {i : Nat} (h : l.getD i true = false) : todo (l.setIfInBounds i true) + 1 ≤ todo l := by
  have hi : i < l.size := by
    rcases Nat.lt_or_ge i l.size with h1 | h1
    · exact h1
    · simp [Array.getD_eq_getD_getElem?, Array.getElem?_eq_none h1] at h
  unfold todo
  rw [Array.size_setIfInBounds]
  have hs : (List.range l.size).filter (fun j => !((l.setIfInBounds i true).getD j true)) = ((List.range l.size).filter (fun j => !(l.getD j true))).filter (fun j => j != i) := by
    rw [List.filter_filter]
    refine List.filter_congr fun j _ => ?_
    by_cases e : i = j
    · subst e
      rw [getD_put_same hi]; simp
    · rw [getD_put_other e]
      have : (j != i) = true := by simp [Ne.symm e]
      rw [this]; simp
  rw [hs]
  have hm : i ∈ (List.range l.size).filter (fun j => !(l.getD j true)) := List.mem_filter.2 ⟨List.mem_range.2 hi, by simp [h]⟩
  generalize (List.range l.size).filter (fun j => !(l.getD j true)) = L at hm
  induction L with
  | nil => cases hm
  | cons x r ih =>
    rcases List.mem_cons.1 hm with rfl | hm
    · rw [List.filter_cons_of_neg (by simp)]
      exact Nat.succ_le_succ (List.length_filter_le _ _)
    · by_cases e : x = i
      · subst e
        rw [List.filter_cons_of_neg (by simp)]
        exact Nat.succ_le_succ (List.length_filter_le _ _)
      · rw [List.filter_cons_of_pos (by simp [e])]
        exact Nat.succ_le_succ (ih hm)
theorem todo_zero {l : Array Bool} (h : todo l = 0) (j : Nat) : l.getD j true = true := by
  rcases Nat.lt_or_ge j l.size with h1 | h1
  · cases hq : l.getD j true with
    | true => rfl
    | false =>
      have : j ∈ (List.range l.size).filter (fun j => !(l.getD j true)) := List.mem_filter.2 ⟨List.mem_range.2 h1, by simp [hq]⟩
      unfold todo at h
      rw [List.eq_nil_of_length_eq_zero h] at this
      cases this
  · simp [Array.getD_eq_getD_getElem?, Array.getElem?_eq_none h1]
theorem getD_both {l : Array Bool} {j : Nat} (h : j < l.size) : l.getD j false = l.getD j true := by
  simp [Array.getD_eq_getD_getElem?, Array.getElem?_eq_getElem h]

section
variable {P : Program} {md : Region.Mode} {ops : Array Oper} {Q : Exit → Act → World → Prop} (I : (Nat → Bool) → Act → World → Prop)
  (hlt : ∀ (i : Nat) (o : Oper), ops[i]? = some o → ∀ e ∈ o.after, Region.binds md e = true → e.on < i)
  (hstep : ∀ (L : Nat → Bool) (a : Act) (w : World) (i : Nat) (o : Oper), I L a w → ops[i]? = some o → L i = false → (∀ e ∈ o.after, Region.binds md e = true → L e.on = true) →
    ∀ K : Act → World → Prop, (∀ a' w', I (fun j => j == i || L j) a' w' → K a' w') → if Region.wanted o (yielded ops a.tmps) = true then Oper.wp P o a w K Q else K (a.put o.dst undef) w)
  (hdone : ∀ L a w, I L a w → (∀ i, i < ops.size → L i = true) → Q .normal a w)
include hlt hstep hdone
theorem wpAny_inv : ∀ (fuel : Nat) (listed : Array Bool) (a : Act) (w : World), listed.size = ops.size → todo listed ≤ fuel → I (fun j => listed.getD j true) a w → wpAny P md ops Q fuel listed a w := by
  intro fuel
  induction fuel with
  | zero =>
    intro listed a w hs ht hI
    have h0 := todo_zero (Nat.le_zero.1 ht)
    refine ⟨List.eq_nil_iff_forall_not_mem.2 fun j hj => ?_, hdone _ _ _ hI (fun i _ => h0 i)⟩
    have := (mem_ready.1 hj).1
    rw [h0 j] at this
    cases this
  | succ fuel ih =>
    intro listed a w hs ht hI
    refine ⟨fun hr => ?_, fun i hi => ?_⟩
    · refine hdone _ _ _ hI fun i hi => ?_
      induction i using Nat.strongRecOn with
      | _ i ih2 =>
        cases hq : listed.getD i true with
        | true => rfl
        | false =>
          have ho : ops[i]? = some ops[i] := Array.getElem?_eq_getElem hi
          have : i ∈ Region.ready md ops listed := mem_ready.2 ⟨hq, _, ho, fun e he hb => by
            have h1 := hlt i _ ho e he hb
            rw [getD_both (by rw [hs]; omega)]
            exact ih2 e.on h1 (by omega)⟩
          rw [hr] at this
          cases this
    · obtain ⟨h0, o, ho, hall⟩ := mem_ready.1 hi
      have hio : i < ops.size := (Array.getElem?_eq_some_iff.1 ho).1
      refine wpOp_step ho (fun K' hK => hstep _ a w i o hI ho h0 (fun e he hb => ?_) K' (fun a' w' hI' => hK a' w' (ih _ a' w' (by rw [Array.size_setIfInBounds]; exact hs) (by have := todo_put h0; omega) ?_)))
      · have h1 := hall e he hb
        rw [getD_both (by rw [hs]; have := hlt i o ho e he hb; omega)] at h1
        exact h1
      · have hf : (fun j => (listed.setIfInBounds i true).getD j true) = (fun j => j == i || listed.getD j true) := by
          funext j
          by_cases e : i = j
          · subst e
            rw [getD_put_same (by rw [hs]; exact hio)]; simp
          · rw [getD_put_other e]
            have : (j == i) = false := by simp [Ne.symm e]
            rw [this]; rfl
        rw [hf]
        exact hI'
theorem region_inv {id : Nat} {a : Act} {w : World} (hmd : md = .any) (hm : P.follows .mixedOrders = true) (hI : I (fun j => (Array.replicate ops.size false).getD j true) a w.drew) : (Code.region id ops true).wp P Q a w := by
  subst hmd
  refine wp_region_any hm (wpAny_inv I hlt hstep hdone _ _ _ _ (by simp) ?_ hI)
  unfold todo
  rw [Array.size_replicate]
  exact Nat.le_trans (List.length_filter_le _ _) (by simp)
end
/-- An operation that an edge names has come up. -/
def hasDep (md : Region.Mode) (o : Oper) (n : Nat) : Bool := o.after.toList.any (fun e => Region.binds md e && e.on == n)
theorem dep_of {md : Region.Mode} {o : Oper} {L : Nat → Bool} (h : ∀ e ∈ o.after, Region.binds md e = true → L e.on = true) {n : Nat} (hn : hasDep md o n = true) : L n = true := by
  unfold hasDep at hn
  rw [List.any_eq_true] at hn
  obtain ⟨e, he, h1⟩ := hn
  rw [Bool.and_eq_true] at h1
  have h2 : e.on = n := by simpa using h1.2
  rw [← h2]
  exact h e (Array.mem_toList_iff.1 he) h1.1
end

section
open Go.RowKit Go.Maps

/-- Block q of w has cells of type t. -/
def Typ (w : World) (q : Nat) (t : TypeId) : Prop := ∃ cur fr, w.heap[q]? = some (.cells cur t fr)
theorem Typ.ne {w : World} {q q' : Nat} {t t' : TypeId} (h : Typ w q t) (h' : Typ w q' t') (hne : t ≠ t') : q ≠ q' := fun e => by
  subst e
  obtain ⟨c1, f1, e1⟩ := h
  obtain ⟨c2, f2, e2⟩ := h'
  rw [e1] at e2
  injection e2 with e2
  injection e2 with _ e2
  exact hne e2
theorem OwnR.typ {w : World} {base k : Nat} {E : TypeId} {v : Value} {zs : List (List Value)} (h : OwnR w base k E v zs) {q : Nat} (hq : v.ownBlock = some q) : Typ w q E := by
  rcases h.1.2 with ⟨rfl, _⟩ | ⟨g, cap, cur, rfl, _, hc, _⟩
  · simp [Value.ownBlock] at hq
  · simp [Value.ownBlock] at hq
    subst hq
    exact ⟨_, _, hc⟩
theorem OwnR.grown_ {w w' : World} {base k : Nat} {E E' : TypeId} {v : Value} {zs : List (List Value)} {row : Option Nat} (h : OwnR w base k E v zs) (hg : w.grownBy w' row) (hr : ∀ q, row = some q → Typ w q E') (hne : E ≠ E') : OwnR w' base k E v zs :=
  h.keepF (F := fun b => row = some b) (Keeps.of_grown hg (fun q hq => hq)) (fun q hq hf => (h.typ hq).ne (hr q hf) hne rfl)
theorem block_grown {w w' : World} {g : Nat} {cs : Array Value} {t E' : TypeId} {fr : Nat × Nat} {row : Option Nat} (h : w.heap[g]? = some (.cells cs t fr)) (hg : w.grownBy w' row) (hr : ∀ q, row = some q → Typ w q E') (hne : t ≠ E') : w'.heap[g]? = some (.cells cs t fr) :=
  (hg.block g (Array.getElem?_eq_some_iff.1 h).1 (fun e => (show Typ w g t from ⟨_, _, h⟩).ne (hr g e.symm) hne rfl)).trans h
theorem grown_set (w : World) (a : Addr) (v : Value) : w.grownBy (w.setCell a v) (some a.block) :=
  ⟨rfl, rfl, rfl, by simp [World.setCell], fun k _ hk => heap_setCell_other w a k v (fun e => hk (by rw [e]))⟩

def F19 (A : Ar) (b : Nat) : Prop := b = A.g ∨ A.vn.ownBlock = some b ∨ A.vs.ownBlock = some b
structure Q19 (B : Nat) (A : Ar) (S : Nat) (NC : List Value) (gN : Nat) (W6 : World) (l7 l8 l14 l15 l18 l21 : Bool) (x7 x8 x14 x15 : Value) (W : World) : Prop where
  m8 : l8 = true → l7 = true
  m15 : l15 = true → l14 = true ∧ l8 = true
  m18 : l18 = true → l15 = true
  m21 : l21 = true → l18 = true
  f7 : l7 = true → ∃ g7, x7 = .slice (some ⟨g7, 0, none⟩) 1 1 ∧ (l8 = false → W.heap[g7]? = some (.cells NC.toArray 66 (0, 0)))
  f14 : l14 = true → ∃ g14, x14 = .slice (some ⟨g14, 0, none⟩) 1 1 ∧ (l15 = false → W.heap[g14]? = some (.cells #[.int .i64 S] 3 (0, 0)))
  n0 : l8 = false → OwnR W B 5 66 A.vn (A.N.map Nd.row)
  n1 : l8 = true → OwnR W B 5 66 x8 (A.N.map Nd.row ++ [NC])
  s0 : l15 = false → OwnR W B 1 3 A.vs ((A.N.map fun x => (x.t.len : Int)).map iv)
  s1 : l15 = true → OwnR W B 1 3 x15 ((A.N.map fun x => (x.t.len : Int)).map iv ++ [iv S])
  blk : W.heap[A.g]? = some (.cells #[bif l18 then x8 else A.vn, bif l21 then x15 else A.vs, .map (some A.bm)] 61 (0, 0))
  nd : W.heap[gN]? = some (.cells NC.toArray 66 (0, 0))
  kp : Keeps (F19 A) W6 W
  hB : B ≤ W.heap.size
  vn : ∀ q, A.vn.ownBlock = some q → q ≠ gN
theorem Q19.start {B : Nat} {A : Ar} {S : Nat} {NC : List Value} {gN : Nat} {W6 W : World} {x7 x8 x14 x15 : Value} (H : Arena W6 B A) (hB : B ≤ W6.heap.size) (hn : W6.heap[gN]? = some (.cells NC.toArray 66 (0, 0))) (hv : ∀ q, A.vn.ownBlock = some q → q ≠ gN) (hb : Below W6.heap.size W6 W) :
    Q19 B A S NC gN W6 false false false false false false x7 x8 x14 x15 W := by
  have HW := H.keep hb
  exact ⟨fun h => (by cases h), fun h => (by cases h), fun h => (by cases h), fun h => (by cases h), fun h => (by cases h), fun h => (by cases h), fun _ => HW.nodes, fun h => (by cases h), fun _ => HW.sizes, fun h => (by cases h), HW.blk, (hb.block gN (Array.getElem?_eq_some_iff.1 hn).1).trans hn, Keeps.of_below hb, Nat.le_trans hB hb.size, hv⟩

section
variable {B : Nat} {A : Ar} {S : Nat} {NC : List Value} {gN : Nat} {W6 W : World} {l7 l8 l14 l15 l18 l21 : Bool} {x7 x8 x14 x15 : Value}
/-- A block more. -/
theorem Q19.alloc (h : Q19 B A S NC gN W6 l7 l8 l14 l15 l18 l21 x7 x8 x14 x15 W) (o : Obj) : Q19 B A S NC gN W6 l7 l8 l14 l15 l18 l21 x7 x8 x14 x15 (W.alloc o) := by
  have hb : Below W.heap.size W (W.alloc o) := (Below.refl _ _).alloc (Nat.le_refl _) o
  refine ⟨h.m8, h.m15, h.m18, h.m21, fun l => ?_, fun l => ?_, fun l => (h.n0 l).keep hb, fun l => (h.n1 l).keep hb, fun l => (h.s0 l).keep hb, fun l => (h.s1 l).keep hb, heap_past h.blk o, heap_past h.nd o, h.kp.trans (Keeps.of_below hb), Nat.le_trans h.hB hb.size, h.vn⟩
  · obtain ⟨g, e, hg⟩ := h.f7 l
    exact ⟨g, e, fun l8 => heap_past (hg l8) o⟩
  · obtain ⟨g, e, hg⟩ := h.f14 l
    exact ⟨g, e, fun l8 => heap_past (hg l8) o⟩
theorem Q19.step7 (h : Q19 B A S NC gN W6 false l8 l14 l15 l18 l21 x7 x8 x14 x15 W) : Q19 B A S NC gN W6 true l8 l14 l15 l18 l21 (.slice (some ⟨W.heap.size, 0, none⟩) 1 1) x8 x14 x15 (W.alloc (.cells NC.toArray 66)) := by
  have k := h.alloc (.cells NC.toArray 66)
  exact ⟨fun _ => rfl, k.m15, k.m18, k.m21, fun _ => ⟨_, rfl, fun _ => heap_new W _⟩, k.f14, k.n0, k.n1, k.s0, k.s1, k.blk, k.nd, k.kp, k.hB, k.vn⟩
theorem Q19.step14 (h : Q19 B A S NC gN W6 l7 l8 false l15 l18 l21 x7 x8 x14 x15 W) : Q19 B A S NC gN W6 l7 l8 true l15 l18 l21 x7 x8 (.slice (some ⟨W.heap.size, 0, none⟩) 1 1) x15 (W.alloc (.cells #[.int .i64 S] 3)) := by
  have k := h.alloc (.cells #[.int .i64 S] 3)
  exact ⟨k.m8, fun l => (by have := (h.m15 l).1; cases this), k.m18, k.m21, k.f7, fun _ => ⟨_, rfl, fun _ => heap_new W _⟩, k.n0, k.n1, k.s0, k.s1, k.blk, k.nd, k.kp, k.hB, k.vn⟩
theorem Q19.no15 (h : Q19 B A S NC gN W6 l7 false l14 l15 l18 l21 x7 x8 x14 x15 W) : l15 = false := by
  cases l15 with
  | false => rfl
  | true => have := (h.m15 rfl).2; cases this
theorem Q19.no18 (h : Q19 B A S NC gN W6 l7 l8 l14 false l18 l21 x7 x8 x14 x15 W) : l18 = false := by
  cases l18 with
  | false => rfl
  | true => have := h.m18 rfl; cases this
theorem Q19.no21 (h : Q19 B A S NC gN W6 l7 l8 l14 l15 false l21 x7 x8 x14 x15 W) : l21 = false := by
  cases l21 with
  | false => rfl
  | true => have := h.m21 rfl; cases this
theorem Q19.step8 {W' : World} {v' : Value} (h : Q19 B A S NC gN W6 true false l14 l15 l18 l21 x7 x8 x14 x15 W) (ho : OwnR W' B 5 66 v' (A.N.map Nd.row ++ [NC])) (hg : W.grownBy W' A.vn.ownBlock) : Q19 B A S NC gN W6 true true l14 l15 l18 l21 x7 v' x14 x15 W' := by
  obtain rfl := h.no15
  obtain rfl := h.no18
  obtain rfl := h.no21
  have ht := fun q hq => (h.n0 rfl).typ (q := q) hq
  refine ⟨fun _ => rfl, fun l => (by cases l), fun l => (by cases l), fun l => (by cases l), fun _ => ?_, fun l => ?_, fun l => (by cases l), fun _ => ho, fun l => (h.s0 l).grown_ hg ht (by decide), fun l => (by cases l), ?_, ?_, h.kp.trans (Keeps.of_grown hg fun q hq => .inr (.inl hq)), Nat.le_trans h.hB hg.size, h.vn⟩
  · obtain ⟨g, e, _⟩ := h.f7 rfl
    exact ⟨g, e, fun l => (by cases l)⟩
  · obtain ⟨g, e, hgg⟩ := h.f14 l
    exact ⟨g, e, fun l => block_grown (hgg l) hg ht (by decide)⟩
  · exact block_grown h.blk hg ht (by decide)
  · refine (hg.block gN (Array.getElem?_eq_some_iff.1 h.nd).1 (fun e => h.vn gN e.symm rfl)).trans h.nd
theorem Q19.step15 {W' : World} {v' : Value} (h : Q19 B A S NC gN W6 l7 true true false l18 l21 x7 x8 x14 x15 W) (ho : OwnR W' B 1 3 v' ((A.N.map fun x => (x.t.len : Int)).map iv ++ [iv S])) (hg : W.grownBy W' A.vs.ownBlock) : Q19 B A S NC gN W6 l7 true true true l18 l21 x7 x8 x14 v' W' := by
  obtain rfl := h.no18
  obtain rfl := h.no21
  have ht := fun q hq => (h.s0 rfl).typ (q := q) hq
  refine ⟨h.m8, fun _ => ⟨rfl, rfl⟩, fun l => (by cases l), fun l => (by cases l), fun l => ?_, fun _ => ?_, fun l => (by cases l), fun l => (h.n1 l).grown_ hg ht (by decide), fun l => (by cases l), fun _ => ho, block_grown h.blk hg ht (by decide), block_grown h.nd hg ht (by decide), h.kp.trans (Keeps.of_grown hg fun q hq => .inr (.inr hq)), Nat.le_trans h.hB hg.size, h.vn⟩
  · obtain ⟨g, e, _⟩ := h.f7 l
    exact ⟨g, e, fun l => (by cases l)⟩
  · obtain ⟨g, e, _⟩ := h.f14 rfl
    exact ⟨g, e, fun l => (by cases l)⟩
theorem Q19.step18 (h : Q19 B A S NC gN W6 l7 l8 l14 true false l21 x7 x8 x14 x15 W) : Q19 B A S NC gN W6 l7 l8 l14 true true l21 x7 x8 x14 x15 (W.setCell ⟨A.g, 0, none⟩ x8) := by
  obtain rfl := h.no21
  obtain ⟨rfl, rfl⟩ := h.m15 rfl
  have hg := grown_set W ⟨A.g, 0, none⟩ x8
  have ht : ∀ q, some A.g = some q → Typ W q 61 := fun q hq => by injection hq with hq; subst hq; exact ⟨_, _, h.blk⟩
  refine ⟨h.m8, h.m15, fun _ => rfl, fun l => (by cases l), fun l => ?_, fun l => ?_, fun l => (by cases l), fun l => (h.n1 l).grown_ hg ht (by decide), fun l => (by cases l), fun l => (h.s1 l).grown_ hg ht (by decide), ?_, block_grown h.nd hg ht (by decide), h.kp.trans (Keeps.of_grown hg fun q hq => .inl (by injection hq with hq; exact hq.symm)), Nat.le_trans h.hB hg.size, h.vn⟩
  · obtain ⟨g, e, _⟩ := h.f7 l
    exact ⟨g, e, fun l => (by cases l)⟩
  · obtain ⟨g, e, _⟩ := h.f14 l
    exact ⟨g, e, fun l => (by cases l)⟩
  · rw [heap_setCell_same W A.g 0 _ _ _ h.blk]; rfl
theorem Q19.step21 (h : Q19 B A S NC gN W6 l7 l8 l14 l15 true false x7 x8 x14 x15 W) : Q19 B A S NC gN W6 l7 l8 l14 l15 true true x7 x8 x14 x15 (W.setCell ⟨A.g, 1, none⟩ x15) := by
  obtain rfl := h.m18 rfl
  obtain ⟨rfl, rfl⟩ := h.m15 rfl
  have hg := grown_set W ⟨A.g, 1, none⟩ x15
  have ht : ∀ q, some A.g = some q → Typ W q 61 := fun q hq => by injection hq with hq; subst hq; exact ⟨_, _, h.blk⟩
  refine ⟨h.m8, h.m15, h.m18, fun _ => rfl, fun l => ?_, fun l => ?_, fun l => (by cases l), fun l => (h.n1 l).grown_ hg ht (by decide), fun l => (by cases l), fun l => (h.s1 l).grown_ hg ht (by decide), ?_, block_grown h.nd hg ht (by decide), h.kp.trans (Keeps.of_grown hg fun q hq => .inl (by injection hq with hq; exact hq.symm)), Nat.le_trans h.hB hg.size, h.vn⟩
  · obtain ⟨g, e, _⟩ := h.f7 l
    exact ⟨g, e, fun l => (by cases l)⟩
  · obtain ⟨g, e, _⟩ := h.f14 l
    exact ⟨g, e, fun l => (by cases l)⟩
  · rw [heap_setCell_same W A.g 1 _ _ _ h.blk]; rfl
end
end
end Go.Proofs.YtifliohljcafgaaDoor
