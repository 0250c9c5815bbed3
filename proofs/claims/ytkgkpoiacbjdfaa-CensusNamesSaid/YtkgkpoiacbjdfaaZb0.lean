/- Texts joined: what each shows stands ahead of its theorems. -/
import Derived.WalkKit
import Derived.WalkSpells
import Derived.WalkLawsBesides
import Derived.Lib.Hide
import Derived.Deep.MidRow
import Derived.Deep.LoopGhost
import Derived.Deep.DeepMust
import Derived.Deep.Draws
import Derived.KernelRfl
import Derived.Test.YtkgkpoiacbjdfaaRows
import Derived.ProofKit
import Derived.OpenShut
import Derived.Deep.Slices
import Derived.ChangeSame
import Derived.SizedLaws
import Derived.OwnWalk
import Derived.Test.YtkgkpoiacbjdfaaProg
import Derived.Sort.Walk0
import Derived.Maps.Own
import Derived.Maps.OwnSet
import Derived.Maps.OwnOps
import Derived.Maps.Keyed
import Derived.Maps.Views
import Derived.Maps.RangeWalk
import Derived.Sort.KeysCollected
import Derived.Test.YtkgkpoiacbjdfaaShelf
import Derived.Test.YtkgkpoiacbjdfaaShg
import Derived.Shelf.SlSortCmp.NoneTotal
namespace Go.Proofs.Ytkgkpoiacbjdfaa
section
open Go.RowKit

/-- What a call has left: cells and marks below the heap's old end read as before. -/
theorem bcell {W w1 : World} (hb : Below W.heap.size W w1) : (∀ b o, b < W.heap.size → w1.cell? ⟨b, o, none⟩ = W.cell? ⟨b, o, none⟩) ∧ (∀ b o, b < W.heap.size → w1.frozen? ⟨b, o, none⟩ = W.frozen? ⟨b, o, none⟩) :=
  ⟨fun b o h => hb.cell (p := ⟨b, o, none⟩) h, fun b o h => hb.frozen (p := ⟨b, o, none⟩) h⟩

theorem Below.then_ {w w1 w2 : World} (h : Below w.heap.size w w1) (k : Below w1.heap.size w1 w2) : Below w.heap.size w w2 := h.trans (k.mono h.size)
theorem Below.new_ {B : Nat} {w w1 : World} (h : Below B w w1) (o : Obj) (hB : B ≤ w1.heap.size) : Below B w (w1.alloc o) := h.alloc hB o

/-- A slice of n rows of k cells each. -/
def Rws (w : World) (k : Nat) (A : Option Addr) (n : Nat) (zs : List (List Value)) : Prop :=
  zs.length = n ∧ (∀ z ∈ zs, z.length = k) ∧ (0 < n → ∃ b off, A = some ⟨b, off, none⟩ ∧ b < w.heap.size ∧ ∀ j z, zs[j]? = some z → w.rangeAt b (off + j * k) z)

theorem rangeAt_keep {w w' : World} {b o : Nat} {cs : List Value} (h : w.rangeAt b o cs) (hb : Below w.heap.size w w') (hlt : b < w.heap.size) : w'.rangeAt b o cs := fun j v hv => by
  rw [hb.cell (p := ⟨b, o + j, none⟩) hlt]; exact h j v hv
theorem Rws.keep {w w' : World} {k : Nat} {A : Option Addr} {n : Nat} {zs : List (List Value)} (h : Rws w k A n zs) (hb : Below w.heap.size w w') : Rws w' k A n zs :=
  ⟨h.1, h.2.1, fun hn => by
    obtain ⟨b, off, e, hlt, hc⟩ := h.2.2 hn
    exact ⟨b, off, e, Nat.lt_of_lt_of_le hlt hb.size, fun j z hz => rangeAt_keep (hc j z hz) hb hlt⟩⟩
theorem Rws.nil_ {w : World} {k : Nat} {A : Option Addr} : Rws w k A 0 [] := ⟨rfl, by simp, fun h => absurd h (by omega)⟩
theorem Rws.row {w : World} {k : Nat} {A : Option Addr} {n : Nat} {zs : List (List Value)} (h : Rws w k A n zs) {j : Nat} (hj : j < n) :
    ∃ b off z, A = some ⟨b, off, none⟩ ∧ b < w.heap.size ∧ zs[j]? = some z ∧ z.length = k ∧ w.rangeAt b (off + j * k) z := by
  obtain ⟨b, off, e, hlt, hc⟩ := h.2.2 (by omega)
  have hl : j < zs.length := by rw [h.1]; exact hj
  exact ⟨b, off, zs[j], e, hlt, List.getElem?_eq_getElem hl, h.2.1 _ (List.getElem_mem hl), hc j _ (List.getElem?_eq_getElem hl)⟩

theorem ret_bool {a b : Bool} (h : a = b) : Ending.returned (.bool a) = .returned (.bool b) := by rw [h]
theorem ret_int {k : IntKind} {a b : Int} (h : a = b) : Ending.returned (.int k a) = .returned (.int k b) := by rw [h]

/-! ### Laws at a region's operation: whole structs, by value; guarded or not ('hw': the guard lets the operation run; by rfl). -/
section
variable {P : Program} {ops : Array Oper} {Q : Exit → Act → World → Prop} {a : Act} {w w' : World} {rest : List Oper} {o : Oper}
theorem wpList_val {v : Value} (hw : Region.wanted o (yielded ops a.tmps) = true) (hrun : (execOp a.eval o).run P w = .ok (.value v) w') (h : wpList P ops Q rest (a.put o.dst v) w') : wpList P ops Q (o :: rest) a w := by
  refine wpList_step fun K hK => ?_
  rw [if_pos hw]
  unfold Oper.wp
  rw [hrun]
  exact hK _ _ h
theorem wpList_do (hw : Region.wanted o (yielded ops a.tmps) = true) (hrun : (execOp a.eval o).run P w = .ok .skip w') (h : wpList P ops Q rest (a.put o.dst undef) w') : wpList P ops Q (o :: rest) a w := by
  refine wpList_step fun K hK => ?_
  rw [if_pos hw]
  unfold Oper.wp
  rw [hrun]
  exact hK _ _ h
/-- 'x := l[i]', '*p': a struct out of the middle of a block. -/
theorem wpList_load_at (ty : TypeId) (x : Operand) (ho : o.op = .load ty x) (hw : Region.wanted o (yielded ops a.tmps) = true)
    (b off : Nat) (hx : a.eval x = .pointer (some ⟨b, off, none⟩)) (cs : List Value) (d : TypeDesc) (hc : w.rangeAt b off cs)
    (hu : P.underlying ty = some d) (hd : d.isRow = true) (hi : (P.info? ty).map (·.size) = some cs.length)
    (h : wpList P ops Q rest (a.put o.dst (.agg cs.toArray)) w) : wpList P ops Q (o :: rest) a w :=
  wpList_val hw (by
    unfold execOp
    simp only [ho, hx, Instr.loadAt, Instr.sureAddr, Sem.run_bind, Sem.run_pure, Result.andThen_ok, run_loadVar_mid w b off ty cs d hc hu hd hi]) h
/-- 'var x T': a new block of zeros. -/
theorem wpList_alloc_row (ty : TypeId) (ho : o.op = .alloc ty) (hw : Region.wanted o (yielded ops a.tmps) = true) (cs : Array Value) (hz : (P.info? ty).bind (·.zero) = some (.agg cs))
    (h : wpList P ops Q rest (a.put o.dst (.pointer (some ⟨w.heap.size, 0, none⟩))) (w.alloc (.cells cs ty))) : wpList P ops Q (o :: rest) a w :=
  wpList_val hw (by
    unfold execOp
    cases hq : P.info? ty with
    | none => simp [hq] at hz
    | some i =>
      have hzz : i.zero = some (.agg cs) := by simpa [hq] using hz
      simp [ho, Instr.alloc, zeroValue, typeInfo, hq, hzz, newVar, newRow, Value.cells]) h
/-- A struct parameter laid in a block of its own. -/
theorem wpList_box_row (ty : TypeId) (x : Operand) (ho : o.op = .box ty x) (hw : Region.wanted o (yielded ops a.tmps) = true) (cs : Array Value) (hx : a.eval x = .agg cs)
    (h : wpList P ops Q rest (a.put o.dst (.pointer (some ⟨w.heap.size, 0, none⟩))) (w.alloc (.cells cs ty))) : wpList P ops Q (o :: rest) a w :=
  wpList_val hw (by
    unfold execOp
    simp [ho, hx, Instr.box, newVar, newRow, Value.cells]) h
/-- '*p = x', the block whole. -/
theorem wpList_store_at (ty : TypeId) (x y : Operand) (ho : o.op = .store ty x y) (hw : Region.wanted o (yielded ops a.tmps) = true)
    (g : Nat) (cells : Array Value) (hx : a.eval x = .pointer (some ⟨g, 0, none⟩)) (hy : a.eval y = .agg cells)
    (t : TypeId) (old : Array Value) (hg : w.heap[g]? = some (.cells old t (0, 0))) (hi : (P.info? ty).map (·.size) = some cells.size)
    (hold : old.size = cells.size) (h1 : cells.all (·.oneCell') = true)
    (h : wpList P ops Q rest (a.put o.dst undef) (w.setRow g cells)) : wpList P ops Q (o :: rest) a w :=
  wpList_do hw (by
    unfold execOp
    simp only [ho, hx, hy, Instr.storeAt, Instr.sureAddr, Sem.run_bind, Sem.run_pure, Result.andThen_ok, run_storeVar_row w g t ty old cells hg hi hold h1]) h
/-- A struct literal. -/
theorem wpList_build_as (t : TypeId) (parts : Array (Nat × Operand)) (ho : o.op = .build t parts) (hw : Region.wanted o (yielded ops a.tmps) = true) (cells : Array Value)
    (hf : P.built t (parts.toList.map fun x => (x.1, a.eval x.2)) = some cells)
    (h : wpList P ops Q rest (a.put o.dst (.agg cells)) w) : wpList P ops Q (o :: rest) a w :=
  wpList_val hw (by
    unfold execOp
    have hr := run_build (P := P) w t (parts.map fun (i, x) => (i, a.eval x)) cells (by rw [← hf]; simp)
    simp only [ho, Sem.run_bind, hr, Result.andThen_ok, Sem.run_pure]) h
/-- A slice literal: its new block. -/
theorem wpList_buildSlice_as (t e : TypeId) (len : Nat) (parts : Array (Nat × Operand)) (ho : o.op = .buildSlice t len parts) (hw : Region.wanted o (yielded ops a.tmps) = true) (i : TypeInfo) (z : Value) (cells : Array Value)
    (ht : P.underlying t = some (.slice e)) (hi : P.info? e = some i) (hz : i.zero = some z) (hpos : len * i.size ≠ 0) (hsmall : len * i.size ≤ 16777216)
    (hf : Instr.fill (fun j => some (j * i.size, i.size)) ((Array.range (len * i.size)).map (z.cells[· % z.cells.size]!)) (parts.toList.map fun x => (x.1, a.eval x.2)) = some cells)
    (h : wpList P ops Q rest (a.put o.dst (.slice (some ⟨w.heap.size, 0, none⟩) len len)) (w.alloc (.cells cells e))) : wpList P ops Q (o :: rest) a w :=
  wpList_val hw (by
    have hf' : Instr.fill (fun j => some (j * i.size, i.size)) ((Array.range (len * i.size)).map (z.cells[· % z.cells.size]!)) (parts.map fun (j, x) => (j, a.eval x)).toList = some cells := by
      rw [← hf]; simp
    have htI : ∀ w, (typeInfo e).run P w = .ok i w := fun w => by simp [typeInfo, hi]
    have hsz : ∀ w, (sizeOf e).run P w = .ok i.size w := fun w => by unfold sizeOf; rw [Sem.run_bind, htI]; simp
    have hzv : ∀ w, (zeroValue e).run P w = .ok z w := fun w => by unfold zeroValue; rw [Sem.run_bind, htI]; simp [hz]
    have hb : (Instr.buildSlice t len (parts.map fun (j, x) => (j, a.eval x))).run P w = .ok (.slice (some ⟨w.heap.size, 0, none⟩) len len) (w.alloc (.cells cells e)) := by
      unfold Instr.buildSlice
      rw [Sem.run_bind, run_underlying ht w, Result.andThen_ok]
      simp only [Sem.run_bind, hsz, Result.andThen_ok, show (2 : Nat) ^ 24 = 16777216 from rfl, if_neg (show ¬ len * i.size > 16777216 by omega), if_neg hpos, hzv, Sem.run_pure, hf', newRow, run_newObj_alloc]
    unfold execOp
    simp only [ho, Sem.run_bind, hb, Result.andThen_ok, Sem.run_pure]) h
end
theorem heap_new (w : World) (o : Obj) : (w.alloc o).heap[w.heap.size]? = some o := heap_alloc_new w o
theorem heap_past {w : World} {k : Nat} {x : Obj} (h : w.heap[k]? = some x) (o : Obj) : (w.alloc o).heap[k]? = some x := by
  have hk : k < w.heap.size := by
    rcases Nat.lt_or_ge k w.heap.size with hlt | hge
    · exact hlt
    · rw [Array.getElem?_eq_none hge] at h; cases h
  exact (Below.heap_alloc w o k hk).trans h
theorem setRow_new (w : World) (old cs : Array Value) (t : TypeId) : (w.alloc (.cells old t)).setRow w.heap.size cs = w.alloc (.cells cs t) := by
  simp only [World.setRow, World.alloc]
  congr 1
  apply Array.ext
  · simp
  · intro i h1 h2
    simp only [Array.getElem_modify, Array.getElem_push]
    simp only [Array.size_modify, Array.size_push] at h1
    by_cases e : i < w.heap.size
    · simp [e, show w.heap.size ≠ i by omega]
    · have : i = w.heap.size := by omega
      subst this
      simp
theorem setRow_at (w : World) (old cs : Array Value) (t : TypeId) (n : Nat) (h : n = w.heap.size) : (w.alloc (.cells old t)).setRow n cs = w.alloc (.cells cs t) := by subst h; exact setRow_new w old cs t
theorem setRow_past (w : World) (o : Obj) (g : Nat) (cs : Array Value) (h : g < w.heap.size) : (w.alloc o).setRow g cs = (w.setRow g cs).alloc o := by
  simp only [World.setRow, World.alloc]
  congr 1
  apply Array.ext
  · simp
  · intro i h1 h2
    simp only [Array.getElem_modify, Array.getElem_push, Array.size_modify]
    simp only [Array.size_modify, Array.size_push] at h1
    by_cases e : i < w.heap.size
    · simp [e]
    · have : i = w.heap.size := by omega
      subst this
      simp [show g ≠ w.heap.size by omega]
theorem rangeAt_block {w : World} {g : Nat} {cs : Array Value} {t : TypeId} {fr : Nat × Nat} (h : w.heap[g]? = some (.cells cs t fr)) : w.rangeAt g 0 cs.toList := fun j v hv => by
  rw [cell_of_row w g (0 + j) cs t fr h]
  simpa using hv
theorem rangeAt_list {w : World} {g : Nat} {cs : List Value} {t : TypeId} {fr : Nat × Nat} (h : w.heap[g]? = some (.cells cs.toArray t fr)) : w.rangeAt g 0 cs := by
  have := rangeAt_block h
  simpa using this
/-- A block that holds rows one behind the other. -/
theorem Rws.block {w : World} {g : Nat} {zs : List (List Value)} {t : TypeId} {fr : Nat × Nat} {k : Nat} (hk : ∀ z ∈ zs, z.length = k) (h : w.heap[g]? = some (.cells zs.flatten.toArray t fr)) (hlt : g < w.heap.size) : Rws w k (some ⟨g, 0, none⟩) zs.length zs := by
  refine ⟨rfl, hk, fun hpos => ⟨g, 0, rfl, hlt, fun j z hz i v hv => ?_⟩⟩
  clear hpos
  rw [cell_of_row w g _ _ t fr h]
  rw [List.getElem?_toArray]
  clear h hlt
  revert j
  induction zs with
  | nil => intro j hz; simp at hz
  | cons y ys ih =>
    intro j hz
    have hy : y.length = k := hk y (by simp)
    cases j with
    | zero =>
      simp only [List.getElem?_cons_zero, Option.some.injEq] at hz
      subst hz
      have hi : i < y.length := (List.getElem?_eq_some_iff.1 hv).1
      rw [List.flatten_cons, List.getElem?_append_left (by omega)]
      simpa using hv
    | succ j =>
      rw [List.getElem?_cons_succ] at hz
      rw [List.flatten_cons, List.getElem?_append_right (by rw [hy, Nat.succ_mul]; omega)]
      have := ih (fun z hz => hk z (by simp [hz])) j hz
      rw [show 0 + (j + 1) * k + i - y.length = 0 + j * k + i by rw [hy, Nat.succ_mul]; omega]
      exact this
theorem drewN_below {w : World} (q : Nat) : Below w.heap.size w (w.drewN q) := ⟨rfl, rfl, rfl, Nat.le_refl _, fun _ _ => rfl⟩
end

section
open Go.RowKit Go.ChangeShapes Go.WideShapes

theorem Try.own : ownKnob Try.prog.godebug = none := by kernel_rfl
theorem Try.laidOut : laidOutB Try.prog = true := by kernel_rfl

section
variable {H : Type} {enc : TypeId × Value → H} {P : Program}
/-- All arguments read behind the call as they read before it. -/
theorem trodAll_below (hl : laidOutB P = true) {W W' : World} (hb : Below W.heap.size W W') : ∀ (ts : List TypeId) (vs : List Value) (ds : List (DataW H)) (ps : List MemPlace),
    ts.all (fun t => P.readableRec t && decide (t < P.types.size)) = true → DataW.TrodAll enc P W 0 (fun _ => true) true ts vs ds ps → (∀ x ∈ ps, x.block < W.heap.size) →
    DataW.TrodAll enc P W' 0 (fun b => decide (b < W.heap.size)) true ts vs ds ps
  | [], vs, ds, ps, _, h, _ => by
    obtain ⟨rfl, rfl, rfl⟩ := trodAll_nil h
    exact trodAll_mk0
  | t :: ts, vs, ds, ps, ht, h, hlt => by
    match vs, ds, h with
    | v :: vs, d :: ds, h =>
      obtain ⟨p, p', h1, h2, rfl⟩ := h
      simp only [List.all_cons, Bool.and_eq_true, decide_eq_true_eq] at ht
      exact ⟨p, p', Below.trod hl ht.1.1 ht.1.2 h1 hb (fun x hx => hlt x (by simp [hx])), trodAll_below hl hb ts vs ds p' ht.2 h2 (fun x hx => hlt x (by simp [hx])), rfl⟩

/-- A law's end: it returned true, and nothing that was there has turned. -/
theorem law_post {f : Func} {s : ChangeSpec} {fresh handsOn : Bool} {W W' : World} {args : Array Value} {ds : List (DataW H)} {before : List MemPlace} {tb : TypeId} (hl : laidOutB P = true)
    (hts : f.params.toList.all (fun t => P.readableRec t && decide (t < P.types.size)) = true) (htb : P.underlying tb = some .bool) (hrt : f.resultTypes = #[tb]) (hv : s.vars = [])
    (hW : DataW.Whole enc P f.params.toList s.vars false W args.toList ds [] before)
    (hfr : (s.fn H (ds ++ [])).results = [.lit (.bool true)]) (hfa : (s.fn H (ds ++ [])).args = ds) (hfv : (s.fn H (ds ++ [])).vars = [])
    (hb : Below W.heap.size W W') : s.post enc P f false fresh handsOn false W args (.bool true) W' := by
  have hlt : ∀ p ∈ before, p.block < W.heap.size := fun p hp => hW.lt p hp
  have hW' := hW
  obtain ⟨p, q, hA, hV, rfl, hz, hn⟩ := hW
  rw [hv] at hV
  obtain ⟨_, rfl⟩ := trodVars_none hV
  rw [List.append_nil] at hlt hW'
  refine ⟨ds, [], p, [], p, [], hW', ?_, ?_, ?_, hb.frame _, fun h => by cases h⟩
  · rw [hrt, hfr]
    exact trodAll_mk1 (shut_bool htb true)
  · rw [hfa]
    exact trodAll_below hl hb _ _ _ _ hts hA hlt
  · rw [hfv, hv]
    rfl
end
end

section
open Go.RowKit Go.ChangeShapes Go.WideShapes Go.Deep

/-- The cells' kinds of a flat type; none: it is not flat. -/
def flatDesc (P : Program) : Nat → TypeId → Option (List TypeDesc)
  | 0, _ => none
  | n + 1, t => match P.underlying t with
    | some (.int k) => some [.int k]
    | some .bool => some [.bool]
    | some .string => some [.string]
    | some (.struct fs) => fs.toList.foldlM (fun (acc : List TypeDesc) f => if f.offset = acc.length then (flatDesc P n f.type).bind (fun l => if P.cellsOf f.type = l.length then some (acc ++ l) else none) else none) [] >>= (fun ds => if P.cellsOf t = ds.length then some ds else none)
    | some (.array m e) => (flatDesc P n e).bind (fun l => if P.cellsOf e = l.length ∧ P.cellsOf t = m * l.length then some (List.replicate m l).flatten else none)
    | _ => none

/-- A cell is of its kind. -/
def cellOk (d : TypeDesc) (v : Value) : Prop := match d with
  | .int k => ∃ n, v = .int k n ∧ k.min ≤ n ∧ n ≤ k.max
  | .bool => ∃ b, v = .bool b
  | .string => ∃ s, v = .string s ∧ s.size ≤ maxLen
  | _ => False

theorem replicate_flatten_get {α : Type} {l : List α} : ∀ (m i : Nat), (List.replicate m l).flatten[i]? = if i < m * l.length then l[i % l.length]? else none := by
  intro m
  induction m with
  | zero => intro i; simp
  | succ m ih =>
    intro i
    rw [List.replicate_succ, List.flatten_cons]
    by_cases h : i < l.length
    · rw [List.getElem?_append_left h, if_pos (by rw [Nat.succ_mul]; omega), Nat.mod_eq_of_lt h]
    · rw [List.getElem?_append_right (by omega), ih]
      by_cases h2 : i < (m + 1) * l.length
      · rw [Nat.succ_mul] at h2
        rw [if_pos (by omega), if_pos (by rw [Nat.succ_mul]; omega), ← Nat.mod_eq_sub_mod (by omega)]
      · rw [if_neg (by rw [Nat.succ_mul] at h2; omega), if_neg h2]

section
variable {H : Type} {enc : TypeId × Value → H} {P : Program} {w : World} {base : Nat} {spare : Nat → Bool} {held : Bool}

/-- All cells of its kinds. -/
def allOk (ds : List TypeDesc) (cs : List Value) : Prop := cs.length = ds.length ∧ ∀ (i : Nat) (d : TypeDesc) (v : Value), ds[i]? = some d → cs[i]? = some v → cellOk d v

theorem flat_trod : ∀ (n : Nat) (t : TypeId) (ds : List TypeDesc) (fuel : Nat) (cs : List Value) (x : DataW H × List MemPlace), flatDesc P n t = some ds → DataW.trod enc P w base spare held fuel t cs = some x → allOk ds cs := by
  intro n
  induction n with
  | zero => intro t ds fuel cs x h; simp [flatDesc] at h
  | succ n ih =>
    intro t ds fuel cs x h ht
    unfold flatDesc at h
    cases hu : P.underlying t with
    | none => simp [hu] at h
    | some d =>
      rw [hu] at h
      cases d with
      | int k =>
        simp only [Option.some.injEq] at h
        subst h
        obtain ⟨m, rfl, _, hw⟩ := DataW.trod_int hu ht
        simp only [Lit.wf, Bool.and_eq_true, decide_eq_true_eq] at hw
        refine ⟨rfl, fun i d v hd hv => ?_⟩
        match i with
        | 0 => simp only [List.getElem?_cons_zero, Option.some.injEq] at hd hv; subst hd; subst hv; exact ⟨m, rfl, hw.1, hw.2⟩
        | i + 1 => simp at hd
      | bool =>
        simp only [Option.some.injEq] at h
        subst h
        obtain ⟨m, rfl, _⟩ := DataW.trod_bool hu ht
        refine ⟨rfl, fun i d v hd hv => ?_⟩
        match i with
        | 0 => simp only [List.getElem?_cons_zero, Option.some.injEq] at hd hv; subst hd; subst hv; exact ⟨m, rfl⟩
        | i + 1 => simp at hd
      | string =>
        simp only [Option.some.injEq] at h
        subst h
        obtain ⟨m, rfl, _, hw⟩ := DataW.trod_string hu ht
        refine ⟨rfl, fun i d v hd hv => ?_⟩
        match i with
        | 0 => simp only [List.getElem?_cons_zero, Option.some.injEq] at hd hv; subst hd; subst hv; exact ⟨m, rfl, hw⟩
        | i + 1 => simp at hd
      | struct fs =>
        simp only [Option.bind_eq_bind, Option.bind_eq_some_iff] at h
        obtain ⟨ds0, h, hlast⟩ := h
        have hct : P.cellsOf t = ds0.length := by
          by_cases hc : P.cellsOf t = ds0.length
          · exact hc
          · rw [if_neg hc] at hlast; cases hlast
        rw [if_pos hct, Option.some.injEq] at hlast
        subst hlast
        obtain ⟨xs, m, _, _, hl, hxl, hf⟩ := DataW.trod_struct hu ht
        -- the pieces, one behind the other
        have key : ∀ (l : List Field) (acc ds : List TypeDesc), (∀ f ∈ l, ∃ y, DataW.trod enc P w base spare held m f.type ((cs.drop f.offset).take (P.cellsOf f.type)) = some y) →
            l.foldlM (fun (acc : List TypeDesc) f => if f.offset = acc.length then (flatDesc P n f.type).bind (fun l => if P.cellsOf f.type = l.length then some (acc ++ l) else none) else none) acc = some ds →
            (acc.length ≤ cs.length ∧ ∀ (i : Nat) (d : TypeDesc) (v : Value), acc[i]? = some d → cs[i]? = some v → cellOk d v) →
            ds.length ≤ cs.length ∧ ∀ (i : Nat) (d : TypeDesc) (v : Value), ds[i]? = some d → cs[i]? = some v → cellOk d v := by
          intro l
          induction l with
          | nil => intro acc ds _ h ha; simp at h; subst h; exact ha
          | cons f r ihl =>
            intro acc ds hall h ha
            rw [List.foldlM_cons] at h
            by_cases ho : f.offset = acc.length
            · rw [if_pos ho] at h
              cases hfd : flatDesc P n f.type with
              | none => simp [hfd] at h
              | some l0 =>
                rw [hfd] at h
                by_cases hc : P.cellsOf f.type = l0.length
                · simp only [Option.bind_some, if_pos hc, Option.bind_eq_bind] at h
                  obtain ⟨y, hy⟩ := hall f (by simp)
                  obtain ⟨pl, pc⟩ := ih _ _ _ _ _ hfd hy
                  rw [List.length_take, List.length_drop, hc, ho] at pl
                  refine ihl _ _ (fun g hg => hall g (by simp [hg])) h ⟨by rw [List.length_append]; omega, fun i d v hd hv => ?_⟩
                  by_cases hi : i < acc.length
                  · rw [List.getElem?_append_left hi] at hd
                    exact ha.2 i d v hd hv
                  · rw [List.getElem?_append_right (by omega)] at hd
                    have hil : i - acc.length < l0.length := (List.getElem?_eq_some_iff.1 hd).1
                    refine pc (i - acc.length) d v hd ?_
                    rw [List.getElem?_take, if_pos (by omega), List.getElem?_drop, ho, show acc.length + (i - acc.length) = i by omega]
                    exact hv
                · simp only [Option.bind_some, if_neg hc] at h
                  simp at h
            · rw [if_neg ho] at h; simp at h
        have hall : ∀ f ∈ fs.toList, ∃ y, DataW.trod enc P w base spare held m f.type ((cs.drop f.offset).take (P.cellsOf f.type)) = some y := by
          intro f hfm
          obtain ⟨j, hj, hjf⟩ := List.getElem_of_mem hfm
          have hj' : fs[j]? = some f := by
            rw [← Array.getElem?_toList, List.getElem?_eq_getElem hj, hjf]
          have := hf j f hj'
          have hjx : j < xs.length := by rw [hxl]; simpa using hj
          exact ⟨xs[j], by rw [this, List.getElem?_eq_getElem hjx]⟩
        have hk := key fs.toList [] ds0 hall h ⟨by simp, fun i d v hd => by simp at hd⟩
        exact ⟨by rw [hl, hct], hk.2⟩
      | array m e =>
        simp only at h
        cases hfd : flatDesc P n e with
        | none => simp [hfd] at h
        | some l0 =>
          rw [hfd] at h
          by_cases hc : P.cellsOf e = l0.length ∧ P.cellsOf t = m * l0.length
          · simp only [Option.bind_some, if_pos hc, Option.some.injEq] at h
            subst h
            obtain ⟨xs, k, _, _, hl, hxl, hf⟩ := DataW.trod_array hu ht
            have hfl : (List.replicate m l0).flatten.length = m * l0.length := by simp
            refine ⟨by rw [hl, hc.2, hfl], fun i d v hd hv => ?_⟩
            rw [replicate_flatten_get] at hd
            by_cases hi : i < m * l0.length
            · rw [if_pos hi] at hd
              have hpos : 0 < l0.length := by rcases Nat.eq_zero_or_pos l0.length with h0 | h0; · rw [h0] at hi; omega
                                              · exact h0
              have hq : i / l0.length < m := Nat.div_lt_of_lt_mul (by rw [Nat.mul_comm]; exact hi)
              have hp := hf (i / l0.length) hq
              have hx : i / l0.length < xs.length := by rw [hxl]; exact hq
              rw [List.getElem?_eq_getElem hx] at hp
              obtain ⟨pl, pc⟩ := ih _ _ _ _ _ hfd hp
              refine pc (i % l0.length) d v hd ?_
              rw [hc.1, List.getElem?_take, if_pos (Nat.mod_lt _ hpos), List.getElem?_drop, Nat.mul_comm, Nat.div_add_mod]
              exact hv
            · rw [if_neg hi] at hd; cases hd
          · simp only [Option.bind_some, if_neg hc] at h
            simp at h
      | _ => simp at h
end
end

section
open Go.RowKit Go.ChangeShapes Go.WideShapes Go.Deep

theorem weightsAll_mem {H : Type} {P : Program} {e : TypeId} : ∀ {ds : List (DataW H)} {j : Nat} {d : DataW H}, ds[j]? = some d → ∀ n ∈ d.weights P e, n ∈ DataW.weightsAll P e ds
  | d0 :: ds, 0, d, hd, n, hn => by
    simp only [List.getElem?_cons_zero, Option.some.injEq] at hd
    subst hd
    simp only [DataW.weightsAll, List.mem_append]
    exact Or.inl hn
  | d0 :: ds, j + 1, d, hd, n, hn => by
    simp only [List.getElem?_cons_succ] at hd
    simp only [DataW.weightsAll, List.mem_append]
    exact Or.inr (weightsAll_mem hd n hn)
  | [], _, _, hd, _, _ => by simp at hd

section
variable {H : Type} {enc : TypeId × Value → H} {P : Program} {w : World} {base : Nat} {spare : Nat → Bool} {held : Bool}
theorem flat_weights : ∀ (n : Nat) (t : TypeId) (ds : List TypeDesc) (fuel : Nat) (cs : List Value) (x : DataW H × List MemPlace), flatDesc P n t = some ds → DataW.trod enc P w base spare held fuel t cs = some x →
    ∀ (i : Nat) (s : ByteArray), cs[i]? = some (.string s) → s.size ∈ x.1.weights P t := by
  intro n
  induction n with
  | zero => intro t ds fuel cs x h; simp [flatDesc] at h
  | succ n ih =>
    intro t ds fuel cs x h ht i s hs
    have hall := flat_trod (n + 1) t ds fuel cs x h ht
    unfold flatDesc at h
    cases hu : P.underlying t with
    | none => simp [hu] at h
    | some d =>
      rw [hu] at h
      cases d with
      | int k =>
        obtain ⟨m, rfl, _, hw⟩ := DataW.trod_int hu ht
        match i with
        | 0 => simp at hs
        | i + 1 => simp at hs
      | bool =>
        obtain ⟨m, rfl, _⟩ := DataW.trod_bool hu ht
        match i with
        | 0 => simp at hs
        | i + 1 => simp at hs
      | string =>
        obtain ⟨m, rfl, hx, hw⟩ := DataW.trod_string hu ht
        match i with
        | 0 =>
          simp only [List.getElem?_cons_zero, Option.some.injEq, Value.string.injEq] at hs
          subst hs
          rw [hx]
          unfold DataW.weights
          rw [List.mem_singleton]
          exact Array.length_toList.symm
        | i + 1 => simp at hs
      | struct fs =>
        simp only [Option.bind_eq_bind, Option.bind_eq_some_iff] at h
        obtain ⟨ds0, h, hlast⟩ := h
        have hct : P.cellsOf t = ds0.length := by
          by_cases hc : P.cellsOf t = ds0.length
          · exact hc
          · rw [if_neg hc] at hlast; cases hlast
        obtain ⟨xs, m, _, hx, hl, hxl, hf⟩ := DataW.trod_struct hu ht
        have hW : x.1.weights P t = DataW.weightsEach P (fs.toList.map (·.type)) (xs.map (·.1)) := by rw [hx]; simp [DataW.weights, hu]
        rw [hW]
        have key : ∀ (l : List Field) (acc ds : List TypeDesc), (∀ f ∈ l, ∃ y, DataW.trod enc P w base spare held m f.type ((cs.drop f.offset).take (P.cellsOf f.type)) = some y ∧ ∀ q ∈ y.1.weights P f.type, q ∈ DataW.weightsEach P (fs.toList.map (·.type)) (xs.map (·.1))) →
            l.foldlM (fun (acc : List TypeDesc) f => if f.offset = acc.length then (flatDesc P n f.type).bind (fun l => if P.cellsOf f.type = l.length then some (acc ++ l) else none) else none) acc = some ds →
            (∀ (i : Nat) (s : ByteArray), i < acc.length → cs[i]? = some (.string s) → s.size ∈ DataW.weightsEach P (fs.toList.map (·.type)) (xs.map (·.1))) →
            ∀ (i : Nat) (s : ByteArray), i < ds.length → cs[i]? = some (.string s) → s.size ∈ DataW.weightsEach P (fs.toList.map (·.type)) (xs.map (·.1)) := by
          intro l
          induction l with
          | nil => intro acc ds _ h ha; simp at h; subst h; exact ha
          | cons f r ihl =>
            intro acc ds hall h ha
            rw [List.foldlM_cons] at h
            by_cases ho : f.offset = acc.length
            · rw [if_pos ho] at h
              cases hfd : flatDesc P n f.type with
              | none => simp [hfd] at h
              | some l0 =>
                rw [hfd] at h
                by_cases hc : P.cellsOf f.type = l0.length
                · simp only [Option.bind_some, if_pos hc, Option.bind_eq_bind] at h
                  obtain ⟨y, hy, hyw⟩ := hall f (by simp)
                  refine ihl _ _ (fun g hg => hall g (by simp [hg])) h (fun i s hi hv => ?_)
                  by_cases hia : i < acc.length
                  · exact ha i s hia hv
                  · rw [List.length_append] at hi
                    refine hyw _ (ih _ _ _ _ _ hfd hy (i - acc.length) s ?_)
                    rw [List.getElem?_take, if_pos (by omega), List.getElem?_drop, ho, show acc.length + (i - acc.length) = i by omega]
                    exact hv
                · simp only [Option.bind_some, if_neg hc] at h
                  simp at h
            · rw [if_neg ho] at h; simp at h
        have hall' : ∀ f ∈ fs.toList, ∃ y, DataW.trod enc P w base spare held m f.type ((cs.drop f.offset).take (P.cellsOf f.type)) = some y ∧ ∀ q ∈ y.1.weights P f.type, q ∈ DataW.weightsEach P (fs.toList.map (·.type)) (xs.map (·.1)) := by
          intro f hfm
          obtain ⟨j, hj, hjf⟩ := List.getElem_of_mem hfm
          have hj' : fs[j]? = some f := by
            rw [← Array.getElem?_toList, List.getElem?_eq_getElem hj, hjf]
          have := hf j f hj'
          have hjx : j < xs.length := by rw [hxl]; simpa using hj
          refine ⟨xs[j], by rw [this, List.getElem?_eq_getElem hjx], fun q hq => DataW.weights_mem_each (j := j) (t := f.type) (d := xs[j].1) ?_ ?_ q hq⟩
          · rw [List.getElem?_map, List.getElem?_eq_getElem hj, hjf]; rfl
          · rw [List.getElem?_map, List.getElem?_eq_getElem hjx]; rfl
        refine key fs.toList [] ds0 hall' h (fun i s hi => by simp at hi) i s ?_ hs
        have := (List.getElem?_eq_some_iff.1 hs).1
        omega
      | array m e =>
        simp only at h
        cases hfd : flatDesc P n e with
        | none => simp [hfd] at h
        | some l0 =>
          rw [hfd] at h
          by_cases hc : P.cellsOf e = l0.length ∧ P.cellsOf t = m * l0.length
          · obtain ⟨xs, k, _, hx, hl, hxl, hf⟩ := DataW.trod_array hu ht
            have hW : x.1.weights P t = DataW.weightsAll P e (xs.map (·.1)) := by rw [hx]; simp [DataW.weights, hu]
            rw [hW]
            have hi : i < m * l0.length := by have := (List.getElem?_eq_some_iff.1 hs).1; omega
            have hpos : 0 < l0.length := by rcases Nat.eq_zero_or_pos l0.length with h0 | h0; · rw [h0] at hi; omega
                                            · exact h0
            have hq : i / l0.length < m := Nat.div_lt_of_lt_mul (by rw [Nat.mul_comm]; exact hi)
            have hp := hf (i / l0.length) hq
            have hxx : i / l0.length < xs.length := by rw [hxl]; exact hq
            rw [List.getElem?_eq_getElem hxx] at hp
            refine weightsAll_mem (j := i / l0.length) (d := xs[i / l0.length].1) (by rw [List.getElem?_map, List.getElem?_eq_getElem hxx]; rfl) _ (ih _ _ _ _ _ hfd hp (i % l0.length) s ?_)
            rw [hc.1, List.getElem?_take, if_pos (Nat.mod_lt _ hpos), List.getElem?_drop, Nat.mul_comm, Nat.div_add_mod]
            exact hs
          · simp only [Option.bind_some, if_neg hc] at h
            simp at h
      | _ => simp at h
end
end

section
open Go.RowKit Go.ChangeShapes Go.WideShapes Go.Deep

section
variable {H : Type} {enc : TypeId × Value → H} {P : Program} {w : World} {base : Nat} {spare : Nat → Bool} {held : Bool}
theorem open_rows_w {t e : TypeId} {n : Nat} {ds : List TypeDesc} {fuel : Nat} {cs : List Value} {x : DataW H × List MemPlace} (ht : P.underlying t = some (.slice e)) (hfl : flatDesc P n e = some ds) (hcl : P.cellsOf e = ds.length) (hpos : 0 < ds.length)
    (h : DataW.trod enc P w base spare held fuel t cs = some x) :
    ∃ A len cap zs, cs = [.slice A len cap] ∧ len ≤ cap ∧ cap ≤ maxLen ∧ Rws w ds.length A len zs ∧ ∀ z ∈ zs, allOk ds z ∧ ∀ (i : Nat) (s : ByteArray), z[i]? = some (.string s) → s.size ∈ x.1.weights P t := by
  rcases open_slice ht h with ⟨h0, _⟩ | ⟨a, len, cap, m, k, D, Pl, hcs, hb, hl, hm, hmm, hx, hi⟩
  · exact ⟨none, 0, 0, [], h0, Nat.le_refl _, by decide, Rws.nil_, by simp⟩
  · have hrows : ∀ i, i < len → ∃ cs', w.cells? base (a.add (i * ds.length)) ds.length = some cs' ∧ (allOk ds cs' ∧ ∀ (i : Nat) (s : ByteArray), cs'[i]? = some (.string s) → s.size ∈ x.1.weights P t) := by
      intro i hil
      have him : i < m := by rw [hmm]; split <;> omega
      obtain ⟨cs', hc, htr⟩ := hi i him
      rw [hcl] at hc
      refine ⟨cs', hc, flat_trod n e ds _ _ _ hfl htr, fun q s hq => ?_⟩
      have hwt := flat_weights n e ds _ _ _ hfl htr q s hq
      rw [hx]
      simp only [DataW.weights, ht, List.mem_cons, List.mem_append]
      exact Or.inr (Or.inl (weightsAll_mem (j := i) (d := D i) (by rw [List.getElem?_map, List.getElem?_range hil]; rfl) _ hwt))
    rcases Nat.eq_zero_or_pos len with h0 | h0
    · subst h0
      exact ⟨some a, 0, cap, [], hcs, hl, hm, Rws.nil_, by simp⟩
    · -- the address is plain
      have hspot : a.spot = none := by
        obtain ⟨cs', hc, _⟩ := hrows 0 h0
        obtain ⟨_, hcl', hat⟩ := World.cells?_some hc
        have h1 := hat 0 hpos
        have h2 : ((a.add (0 * ds.length)).add 0) = a := by simp [Addr.add]
        rw [h2, List.getElem?_eq_getElem (by omega)] at h1
        unfold World.cell? at h1
        cases hs : a.spot with
        | none => rfl
        | some s =>
          simp only [hs, Option.isSome_some, if_true] at h1
          split at h1 <;> cases h1
      obtain ⟨b, off, sp⟩ := a
      subst hspot
      have hz : ∃ zs : List (List Value), zs.length = len ∧ ∀ j z, zs[j]? = some z → w.cells? base ((⟨b, off, none⟩ : Addr).add (j * ds.length)) ds.length = some z ∧ (allOk ds z ∧ ∀ (i : Nat) (s : ByteArray), z[i]? = some (.string s) → s.size ∈ x.1.weights P t) := by
        clear hcs hl hmm hi h0 h
        have : ∀ l, l ≤ len → ∃ zs : List (List Value), zs.length = l ∧ ∀ j z, zs[j]? = some z → w.cells? base ((⟨b, off, none⟩ : Addr).add (j * ds.length)) ds.length = some z ∧ (allOk ds z ∧ ∀ (i : Nat) (s : ByteArray), z[i]? = some (.string s) → s.size ∈ x.1.weights P t) := by
          intro l
          induction l with
          | zero => intro _; exact ⟨[], rfl, by simp⟩
          | succ l ih =>
            intro hl
            obtain ⟨zs, hlz, hzz⟩ := ih (by omega)
            obtain ⟨c, hc, hok⟩ := hrows l (by omega)
            refine ⟨zs ++ [c], by simp [hlz], fun j z hj => ?_⟩
            by_cases hjl : j < zs.length
            · rw [List.getElem?_append_left hjl] at hj
              exact hzz j z hj
            · rw [List.getElem?_append_right (by omega)] at hj
              have : j = l := by
                have := (List.getElem?_eq_some_iff.1 hj).1
                simp at this
                omega
              subst this
              rw [hlz, Nat.sub_self] at hj
              simp only [List.getElem?_cons_zero, Option.some.injEq] at hj
              subst hj
              exact ⟨hc, hok⟩
        exact this len (Nat.le_refl _)
      obtain ⟨zs, hzl, hzz⟩ := hz
      have hblt : b < w.heap.size := by
        obtain ⟨cs', hc, _⟩ := hrows 0 h0
        obtain ⟨_, hcl', hat⟩ := World.cells?_some hc
        have h1 := hat 0 hpos
        have h2 : (((⟨b, off, none⟩ : Addr).add (0 * ds.length)).add 0) = ⟨b, off, none⟩ := by simp [Addr.add]
        rw [h2, List.getElem?_eq_getElem (by omega)] at h1
        exact block_lt_of_cell h1
      refine ⟨some ⟨b, off, none⟩, len, cap, zs, hcs, hl, hm, ⟨hzl, fun z hz => ?_, fun _ => ⟨b, off, rfl, hblt, fun j z hj i v hv => ?_⟩⟩, fun z hz => ?_⟩
      · obtain ⟨j, hj, rfl⟩ := List.getElem_of_mem hz
        exact (hzz j _ (List.getElem?_eq_getElem hj)).2.1.1
      · obtain ⟨hc, hok⟩ := hzz j z hj
        obtain ⟨_, hcl', hat⟩ := World.cells?_some hc
        have hi' : i < ds.length := by have := (List.getElem?_eq_some_iff.1 hv).1; omega
        have := hat i hi'
        rw [Addr.add_mid, Addr.add_mid] at this
        rw [this, hv]
      · obtain ⟨j, hj, rfl⟩ := List.getElem_of_mem hz
        exact (hzz j _ (List.getElem?_eq_getElem hj)).2
theorem open_rows {t e : TypeId} {n : Nat} {ds : List TypeDesc} {fuel : Nat} {cs : List Value} {x : DataW H × List MemPlace} (ht : P.underlying t = some (.slice e)) (hfl : flatDesc P n e = some ds) (hcl : P.cellsOf e = ds.length) (hpos : 0 < ds.length)
    (h : DataW.trod enc P w base spare held fuel t cs = some x) :
    ∃ A len cap zs, cs = [.slice A len cap] ∧ len ≤ cap ∧ cap ≤ maxLen ∧ Rws w ds.length A len zs ∧ ∀ z ∈ zs, allOk ds z := by
  obtain ⟨A, len, cap, zs, h1, h2, h3, h4, h5⟩ := open_rows_w ht hfl hcl hpos h
  exact ⟨A, len, cap, zs, h1, h2, h3, h4, fun z hz => (h5 z hz).1⟩
end
end

section
open Go.RowKit

/-- The slice value v holds the rows zs, in a block of the call's own (from block 'base' on). -/
def OwnR (w : World) (base k : Nat) (E : TypeId) (v : Value) (zs : List (List Value)) : Prop := w.ownsRow base E k v zs.length zs.flatten ∧ ∀ z ∈ zs, z.length = k

theorem OwnR.nil_ (w : World) (base k : Nat) (E : TypeId) : OwnR w base k E (.slice none 0 0) [] := ⟨World.ownsRow_nil w base E k, by simp⟩
theorem OwnR.keep {w w' : World} {base k : Nat} {E : TypeId} {v : Value} {zs : List (List Value)} (h : OwnR w base k E v zs) (hb : Below w.heap.size w w') : OwnR w' base k E v zs := by
  obtain ⟨⟨hl, hh⟩, hz⟩ := h
  refine ⟨⟨hl, ?_⟩, hz⟩
  rcases hh with h0 | ⟨g, cap, cur, hv, hg, hc, r⟩
  · exact .inl h0
  · have hlt : g < w.heap.size := (Array.getElem?_eq_some_iff.1 hc).1
    exact .inr ⟨g, cap, cur, hv, hg, (hb.block g hlt).trans hc, r⟩
theorem flat_get {k : Nat} : ∀ {zs : List (List Value)}, (∀ z ∈ zs, z.length = k) → ∀ {j : Nat} {z : List Value}, zs[j]? = some z → ∀ {i : Nat} {v : Value}, z[i]? = some v → zs.flatten[j * k + i]? = some v := by
  intro zs
  induction zs with
  | nil => intro _ j z hz; simp at hz
  | cons y ys ih =>
    intro hk j z hz i v hv
    have hy : y.length = k := hk y (by simp)
    cases j with
    | zero =>
      simp only [List.getElem?_cons_zero, Option.some.injEq] at hz
      subst hz
      have hi : i < y.length := (List.getElem?_eq_some_iff.1 hv).1
      rw [List.flatten_cons, List.getElem?_append_left (by omega)]
      simpa using hv
    | succ j =>
      rw [List.getElem?_cons_succ] at hz
      rw [List.flatten_cons, List.getElem?_append_right (by rw [hy, Nat.succ_mul]; omega)]
      have := ih (fun z hz => hk z (by simp [hz])) hz hv
      rw [show (j + 1) * k + i - y.length = j * k + i by rw [hy, Nat.succ_mul]; omega]
      exact this
theorem OwnR.rws {w : World} {base k : Nat} {E : TypeId} {v : Value} {zs : List (List Value)} (h : OwnR w base k E v zs) : ∃ A c, v = .slice A zs.length c ∧ Rws w k A zs.length zs := by
  obtain ⟨hown, hz⟩ := h
  have hh := hown.2
  rcases hh with ⟨rfl, h0⟩ | ⟨g, cap, cur, rfl, hg, hc, _⟩
  · have : zs = [] := List.eq_nil_of_length_eq_zero h0
    subst this
    exact ⟨none, 0, rfl, Rws.nil_⟩
  · have hlt : g < w.heap.size := (Array.getElem?_eq_some_iff.1 hc).1
    refine ⟨_, _, rfl, rfl, hz, fun _ => ⟨g, 0, rfl, hlt, fun j z hj i v hv => ?_⟩⟩
    have := hown.cells (g := g) rfl _ v (flat_get hz hj hv)
    rw [Addr.add_mid] at this
    rw [show 0 + j * k + i = 0 + (j * k + i) by omega]
    exact this
theorem OwnR.lt {w : World} {base k : Nat} {E : TypeId} {v : Value} {zs : List (List Value)} (h : OwnR w base k E v zs) : ∀ g, v.ownBlock = some g → base ≤ g := fun g hg => (h.1.lt g hg).1

section
variable {P : Program} {ops : Array Oper} {Q : Exit → Act → World → Prop} {a : Act} {w : World} {rest : List Oper} {o : Oper}
/-- 'out = append(out, x)': x lies as one row in a block of its own. -/
theorem wpList_append_one (hgd : o.guard = none) (s x : Operand) (t : TypeId)
    (ho : o.op = .call { callee := .builtin .append, args := #[s, x], argTypes := #[t, t] })
    (e : TypeId) (i : TypeInfo) (z : Value) (size bytes : Nat) (ht : P.underlying t = some (.slice e)) (hi : P.info? e = some i) (hz : i.zero = some z)
    (hsize : i.size = size) (hby : i.bytes = bytes) (hzs : z.cells.size = size) (hsz : 0 < size)
    (w0 : World) (hB : Below w0.heap.size w0 w) (v : Value) (zs : List (List Value)) (hs : a.eval s = v) (hown : OwnR w w0.heap.size size e v zs)
    (g c : Nat) (row : List Value) (hx : a.eval x = .slice (some ⟨g, 0, none⟩) 1 c) (hrow : w.rangeAt g 0 row) (hl : row.length = size) (h1 : ∀ u ∈ row, u.oneCell' = true)
    (h63 : zs.length + 1 ≤ maxLen) (hbytes : (zs.length + 1) * bytes ≤ 140737488355328)
    (h : ∀ v' w', OwnR w' w0.heap.size size e v' (zs ++ [row]) → Below w0.heap.size w0 w' → w.grownBy w' v.ownBlock → wpList P ops Q rest (a.put o.dst v') w') : wpList P ops Q (o :: rest) a w := by
  refine wpList_append_own w hgd s x t ho w0.heap.size e i z size bytes ht hi hz hsize hby hzs hsz v zs.length zs.flatten hs hown.1 ⟨g, 0, none⟩ 1 c row hx (by rw [hl, Nat.one_mul])
    (fun j u hu => by rw [Addr.add_mid]; exact hrow j u hu) h1 h63 hbytes hB.size ?_
  intro v' w' hown' hg _
  refine h v' w' ⟨by simpa [List.length_append, List.flatten_append] using hown', fun z hz => ?_⟩ (hB.grown hg hB.size hown.lt) hg
  rcases List.mem_append.1 hz with hz | hz
  · exact hown.2 z hz
  · simp only [List.mem_singleton] at hz
    subst hz
    exact hl
end

/-- One part as large as the whole fills it. -/
theorem fill_one (n : Nat) (zs cs : Array Value) (h0 : zs.size = n) (h1 : cs.size = n) : Instr.fill (fun j => some (j * n, n)) zs [(0, .agg cs)] = some cs := by
  unfold Instr.fill
  simp only [Nat.zero_mul, Value.cells, h1, h0, Nat.zero_add, Nat.lt_irrefl, decide_false, ne_eq, not_true_eq_false, Bool.or_self, Bool.false_eq_true, if_false, gt_iff_lt, Bool.or_false]
  unfold Instr.fill
  congr 1
  obtain ⟨l⟩ := cs
  have key : ∀ (l : List Value) (off : Nat) (z : Array Value), off + l.length = z.size →
      (l.zipIdx off).foldl (fun cs (x : Value × Nat) => cs.setIfInBounds x.2 x.1) z = ((z.toList.take off) ++ l).toArray := by
    intro l
    induction l with
    | nil =>
      intro off z h
      simp only [List.length_nil, Nat.add_zero] at h
      rw [List.take_of_length_le (by simp; omega)]
      simp
    | cons y ys ih =>
      intro off z h
      simp only [List.length_cons] at h
      rw [List.zipIdx_cons, List.foldl_cons, ih (off + 1) _ (by simp; omega)]
      congr 1
      simp only [Array.toList_setIfInBounds]
      rw [List.take_add_one, List.take_set, List.set_eq_of_length_le (by simp; omega), List.getElem?_set_self (by simp; omega)]
      simp
  have := key l 0 zs (by simp at h1; omega)
  simp only [List.take_zero, List.nil_append] at this
  rw [← Array.foldl_toList, Array.toList_zipIdx]
  simpa using this
end

section
theorem take_succ_of {α : Type} {l : List α} {k : Nat} {x : α} (h : l[k]? = some x) : l.take (k + 1) = l.take k ++ [x] := by
  rw [List.take_add_one, h]; rfl
theorem any_take_succ {α : Type} {l : List α} {k : Nat} {x : α} (p : α → Bool) (h : l[k]? = some x) : (l.take (k + 1)).any p = ((l.take k).any p || p x) := by
  rw [take_succ_of h, List.any_append]; simp
theorem all_take_succ {α : Type} {l : List α} {k : Nat} {x : α} (p : α → Bool) (h : l[k]? = some x) : (l.take (k + 1)).all p = ((l.take k).all p && p x) := by
  rw [take_succ_of h, List.all_append]; simp
theorem any_take_hit {α : Type} {l : List α} {k n : Nat} {x : α} (p : α → Bool) (h : l[k]? = some x) (hk : k < n) (hp : p x = true) : (l.take n).any p = true := by
  rw [List.any_eq_true]
  refine ⟨x, ?_, hp⟩
  rw [List.mem_take_iff_getElem]
  have hl : k < l.length := (List.getElem?_eq_some_iff.1 h).1
  exact ⟨k, by omega, (List.getElem?_eq_some_iff.1 h).2⟩
theorem any_hit {α : Type} {l : List α} {k : Nat} {x : α} (p : α → Bool) (h : l[k]? = some x) (hp : p x = true) : l.any p = true := by
  rw [List.any_eq_true]
  exact ⟨x, List.mem_of_getElem? h, hp⟩
theorem any_whole {α : Type} {l : List α} {n : Nat} {p : α → Bool} {b : Bool} (h : l.length ≤ n) (hp : (l.take n).any p = b) : l.any p = b := by
  rwa [List.take_of_length_le h] at hp
theorem any_take_miss {α : Type} {l : List α} {k n : Nat} {p : α → Bool} (hn : n ≤ k) (hp : (l.take k).any p = false) : (l.take n).any p = false := by
  rw [List.any_eq_false] at hp ⊢
  intro x hx
  exact hp x ((List.take_subset_take_left l hn) hx)
theorem any_take_whole {α : Type} {l : List α} {k : Nat} {p : α → Bool} (n : Nat) (h : l.length ≤ k) (hp : (l.take k).any p = false) : (l.take n).any p = false := by
  rw [List.take_of_length_le h, List.any_eq_false] at hp
  rw [List.any_eq_false]
  intro x hx
  exact hp x (List.mem_of_mem_take hx)
/-- The first place at which p holds, from i on; -1: nowhere. -/
def idx {α : Type} (p : α → Bool) (l : List α) : Int := match l.findIdx? p with | some i => (i : Int) | none => -1
theorem idx_hit {α : Type} {p : α → Bool} {l : List α} {k : Nat} {x : α} (h : l[k]? = some x) (hp : p x = true) (hm : (l.take k).any p = false) : idx p l = k := by
  have hf : l.findIdx? p = some k := by
    rw [List.findIdx?_eq_some_iff_getElem]
    have hl : k < l.length := (List.getElem?_eq_some_iff.1 h).1
    refine ⟨hl, by rw [(List.getElem?_eq_some_iff.1 h).2]; exact hp, fun j hj => ?_⟩
    rw [List.any_eq_false] at hm
    have := hm (l[j]) (by rw [List.mem_take_iff_getElem]; exact ⟨j, by omega, rfl⟩)
    simpa using this
  unfold idx; rw [hf]
theorem idx_miss {α : Type} {p : α → Bool} {l : List α} (hm : l.any p = false) : idx p l = -1 := by
  have hf : l.findIdx? p = none := by
    rw [List.findIdx?_eq_none_iff]
    rw [List.any_eq_false] at hm
    intro x hx
    simpa using hm x hx
  unfold idx; rw [hf]
theorem idx_cases {α : Type} (p : α → Bool) (l : List α) : (idx p l = -1 ∧ l.any p = false) ∨ ∃ k x, idx p l = (k : Nat) ∧ l[k]? = some x ∧ p x = true ∧ (l.take k).any p = false := by
  cases h : l.findIdx? p with
  | none =>
    left
    rw [List.findIdx?_eq_none_iff] at h
    have : l.any p = false := by rw [List.any_eq_false]; intro x hx; simp [h x hx]
    exact ⟨idx_miss this, this⟩
  | some i =>
    right
    rw [List.findIdx?_eq_some_iff_getElem] at h
    obtain ⟨hl, hp, hm⟩ := h
    have ha : (l.take i).any p = false := by
      rw [List.any_eq_false]
      intro x hx
      rw [List.mem_take_iff_getElem] at hx
      obtain ⟨j, hj, rfl⟩ := hx
      have := hm j (by omega)
      simpa using this
    exact ⟨i, l[i], idx_hit (List.getElem?_eq_getElem hl) hp ha, List.getElem?_eq_getElem hl, hp, ha⟩
theorem idx_ge {α : Type} (p : α → Bool) (l : List α) : -1 ≤ idx p l ∧ idx p l < l.length ∨ (idx p l = -1) := by
  rcases idx_cases p l with ⟨h, _⟩ | ⟨k, x, h, hx, _, _⟩
  · exact .inr h
  · left
    have hl : k < l.length := (List.getElem?_eq_some_iff.1 hx).1
    rw [h]; omega
end

section
open Go.RowKit Go.ChangeShapes Go.WideShapes Go.Deep

def sv (s : ByteArray) : List Value := [.string s]
def Strs (w : World) (A : Option Addr) (n : Nat) (ss : List ByteArray) : Prop := Rws w 1 A n (ss.map sv)
theorem Strs.keep {w w' : World} {A : Option Addr} {n : Nat} {ss : List ByteArray} (h : Strs w A n ss) (hb : Below w.heap.size w w') : Strs w' A n ss := Rws.keep h hb
theorem Strs.len {w : World} {A : Option Addr} {n : Nat} {ss : List ByteArray} (h : Strs w A n ss) : ss.length = n := by simpa using h.1
theorem Strs.nil_ {w : World} {A : Option Addr} : Strs w A 0 [] := Rws.nil_
theorem Strs.at_ {w : World} {A : Option Addr} {n : Nat} {ss : List ByteArray} (h : Strs w A n ss) {j : Nat} (hj : j < n) :
    ∃ b off s, A = some ⟨b, off, none⟩ ∧ b < w.heap.size ∧ ss[j]? = some s ∧ w.cell? ⟨b, off + j, none⟩ = some (.string s) := by
  obtain ⟨b, off, z, e, hlt, hz, _, hr⟩ := Rws.row h hj
  rw [List.getElem?_map] at hz
  cases he : ss[j]? with
  | none => rw [he] at hz; cases hz
  | some x =>
    rw [he] at hz
    simp only [Option.map_some, Option.some.injEq] at hz
    subst hz
    have := hr 0 _ rfl
    rw [Nat.mul_one, Nat.add_zero] at this
    exact ⟨b, off, x, e, hlt, rfl, this⟩
/-- A beginning of a slice. -/
theorem Rws.take_ {w : World} {k n m : Nat} {A : Option Addr} {zs : List (List Value)} (h : Rws w k A n zs) (hm : m ≤ n) : Rws w k A m (zs.take m) :=
  ⟨by rw [List.length_take, h.1]; omega, fun z hz => h.2.1 z (List.mem_of_mem_take hz), fun hp => by
    obtain ⟨b, off, e, hlt, hc⟩ := h.2.2 (by omega)
    refine ⟨b, off, e, hlt, fun j z hz => ?_⟩
    rw [List.getElem?_take] at hz
    split at hz
    · exact hc j z hz
    · cases hz⟩
theorem Strs.take_ {w : World} {A : Option Addr} {n m : Nat} {ss : List ByteArray} (h : Strs w A n ss) (hm : m ≤ n) : Strs w A m (ss.take m) := by
  unfold Strs
  rw [List.map_take]
  exact Rws.take_ h hm

def strDs : List TypeDesc := [.string]
theorem str_flat : flatDesc Try.prog 2 9 = some strDs := by kernel_rfl
theorem strs_of_rows : ∀ (zs : List (List Value)), (∀ z ∈ zs, allOk strDs z) → ∃ ss : List ByteArray, zs = ss.map sv ∧ ∀ s ∈ ss, s.size ≤ maxLen
  | [], _ => ⟨[], rfl, by simp⟩
  | z :: r, h => by
    obtain ⟨hl, hc⟩ := h z (by simp)
    match z, hl with
    | [c0], _ =>
      obtain ⟨s, rfl, hs⟩ := hc 0 _ _ rfl rfl
      obtain ⟨ss, rfl, hss⟩ := strs_of_rows r (fun y hy => h y (by simp [hy]))
      refine ⟨s :: ss, rfl, fun x hx => ?_⟩
      rcases List.mem_cons.1 hx with rfl | hx
      · exact hs
      · exact hss x hx
set_option maxRecDepth 100000 in
theorem open_strs' {H : Type} {enc : TypeId × Value → H} {w : World} {base : Nat} {spare : Nat → Bool} {held : Bool} {r : Reach} {b0 : Nat} {v : Value} {d : DataW H} {ps : List MemPlace}
    (hv : Value.okWide Try.prog w r b0 50 v) (h : DataW.Trod enc Try.prog w base spare held 50 v d ps) :
    ∃ A n c ss, v = .slice A n c ∧ n ≤ c ∧ c ≤ 9223372036854775807 ∧ Strs w A n ss ∧ ∀ s ∈ ss, s.size ≤ 9223372036854775807 := by
  obtain ⟨a, len, cap, rfl⟩ := okWide_slice Try.underlying50 hv
  obtain ⟨fuel, hf⟩ := h
  obtain ⟨A, n, c, zs, hcs, hl, hm, hr, hok⟩ := open_rows Try.underlying50 str_flat (by kernel_rfl) (by decide) hf
  obtain ⟨ss, rfl, hss⟩ := strs_of_rows zs hok
  have : Value.slice a len cap = .slice A n c := by simpa [Value.cells] using hcs
  unfold maxLen at hm hss
  exact ⟨A, n, c, ss, this, hl, by omega, hr, fun s hs => by have := hss s hs; omega⟩

/-- A slice of strings of the call's own. -/
def OwnS (w : World) (base : Nat) (v : Value) (ss : List ByteArray) : Prop := OwnR w base 1 9 v (ss.map sv)
theorem OwnS.strs {w : World} {base : Nat} {v : Value} {ss : List ByteArray} (h : OwnS w base v ss) : ∃ A c, v = .slice A ss.length c ∧ Strs w A ss.length ss := by
  obtain ⟨A, c, hv, hr⟩ := OwnR.rws h
  rw [List.length_map] at hv hr
  exact ⟨A, c, hv, hr⟩
theorem OwnS.keep {w w' : World} {base : Nat} {v : Value} {ss : List ByteArray} (h : OwnS w base v ss) (hb : Below w.heap.size w w') : OwnS w' base v ss := OwnR.keep h hb
theorem str_info : (Try.prog.info? 9).map (fun i => (i.zero, i.size, i.bytes)) = some (some (.string ByteArray.empty), 1, 16) := by kernel_rfl

theorem Strs.block {w : World} {g : Nat} {ss : List ByteArray} {t : TypeId} {fr : Nat × Nat} (h : w.heap[g]? = some (.cells (ss.flatMap sv).toArray t fr)) (hlt : g < w.heap.size) : Strs w (some ⟨g, 0, none⟩) ss.length ss := by
  have := Rws.block (w := w) (zs := ss.map sv) (k := 1) (by intro z hz; obtain ⟨e, _, rfl⟩ := List.mem_map.1 hz; rfl) (by rw [← List.flatMap_def]; exact h) hlt
  simpa [Strs] using this

def has (ss : List ByteArray) (s : ByteArray) : Bool := ss.any (· == s)
def first (ss ts : List ByteArray) : Option ByteArray := ss.find? (has ts)
end

section
open Go

theorem bsT_ext {x y : ByteArray} (h : x.toList = y.toList) : x = y := by
  rw [ByteArray.toList_eq, ByteArray.toList_eq] at h
  cases x; cases y
  simp only [ByteArray.mk.injEq]
  exact Array.toList_inj.1 h
theorem beqT_iff {x y : ByteArray} : (x == y) = true ↔ x = y := ⟨fun h => bsT_ext (by rw [beq_toListBytes] at h; simpa using h), fun h => by subst h; rw [beq_toListBytes]; simp⟩
abbrev Tly := ByteArray × Int
/-- Which of two tallies stands first. -/
def tlt (x y : Tly) : Bool := decide (y.2 < x.2) || (decide (x.2 = y.2) && Op.bytesLess x.1.toList y.1.toList)
theorem bl_irr (x : List UInt8) : Op.bytesLess x x = false := by rw [bytesLess_eq, decide_eq_false_iff_not]; exact List.lt_irrefl _
theorem bl_trans {x y z : List UInt8} (h : Op.bytesLess x y = true) (k : Op.bytesLess y z = true) : Op.bytesLess x z = true := by
  rw [bytesLess_eq, decide_eq_true_eq] at *
  exact List.lt_trans h k
theorem bl_tot {x y : List UInt8} (h : Op.bytesLess x y = false) (k : Op.bytesLess y x = false) : x = y := by
  rw [bytesLess_eq, decide_eq_false_iff_not] at *
  exact List.le_antisymm (List.not_lt.1 k) (List.not_lt.1 h)
theorem tlt_iff {x y : Tly} : tlt x y = true ↔ y.2 < x.2 ∨ (x.2 = y.2 ∧ Op.bytesLess x.1.toList y.1.toList = true) := by unfold tlt; simp
theorem tlt_irr (x : Tly) : tlt x x = false := by
  rw [← Bool.not_eq_true, tlt_iff, bl_irr]
  simp
theorem tlt_trans {x y z : Tly} (h : tlt x y = true) (k : tlt y z = true) : tlt x z = true := by
  rw [tlt_iff] at *
  rcases h with h | ⟨h, h'⟩
  · rcases k with k | ⟨k, _⟩
    · exact .inl (by omega)
    · exact .inl (by omega)
  · rcases k with k | ⟨k, k'⟩
    · exact .inl (by omega)
    · exact .inr ⟨by omega, bl_trans h' k'⟩
theorem tlt_tot {x y : Tly} (h : tlt x y = false) (k : tlt y x = false) : x = y := by
  rw [← Bool.not_eq_true, tlt_iff] at h k
  obtain ⟨a, n⟩ := x
  obtain ⟨b, m⟩ := y
  simp only [not_or, not_and, Bool.not_eq_true] at h k
  have e : n = m := by omega
  have e1 := h.2 e
  have e2 := k.2 e.symm
  rw [bsT_ext (bl_tot e1 e2), e]
theorem tlt_asym {x y : Tly} (h : tlt x y = true) : tlt y x = false := by
  cases k : tlt y x with
  | false => rfl
  | true => have := tlt_trans h k; rw [tlt_irr] at this; cases this
/-- Sorted lists of the same tallies are the same. -/
theorem tal_uniq : ∀ {l m : List Tly}, l.Pairwise (fun x y => tlt x y = true) → m.Pairwise (fun x y => tlt x y = true) → (∀ p, p ∈ l ↔ p ∈ m) → l = m
  | [], [], _, _, _ => rfl
  | [], y :: m, _, _, h => absurd ((h y).2 (by simp)) (by simp)
  | x :: l, [], _, _, h => absurd ((h x).1 (by simp)) (by simp)
  | x :: l, y :: m, hl, hm, h => by
    obtain ⟨h1, h2⟩ := List.pairwise_cons.1 hl
    obtain ⟨k1, k2⟩ := List.pairwise_cons.1 hm
    have e : x = y := by
      rcases List.mem_cons.1 ((h x).1 (by simp)) with e | hx
      · exact e
      · rcases List.mem_cons.1 ((h y).2 (by simp)) with e | hy
        · exact e.symm
        · have := tlt_trans (h1 y hy) (k1 x hx)
          rw [tlt_irr] at this; cases this
    subst e
    have nl : x ∉ l := fun hx => by have := h1 x hx; rw [tlt_irr] at this; cases this
    have nm : x ∉ m := fun hx => by have := k1 x hx; rw [tlt_irr] at this; cases this
    rw [tal_uniq h2 k2 fun p => ⟨fun hp => by
      rcases List.mem_cons.1 ((h p).1 (List.mem_cons_of_mem _ hp)) with e | q
      · rw [e] at hp; exact absurd hp nl
      · exact q, fun hp => by
      rcases List.mem_cons.1 ((h p).2 (List.mem_cons_of_mem _ hp)) with e | q
      · rw [e] at hp; exact absurd hp nm
      · exact q⟩]
/-- How often a text is in a list. -/
def cntB (l : List ByteArray) (x : ByteArray) : Int := (l.countP fun y => decide (y = x) : Nat)
theorem cntB_nil (x : ByteArray) : cntB [] x = 0 := rfl
theorem cntB_snoc (l : List ByteArray) (y x : ByteArray) : cntB (l ++ [y]) x = cntB l x + if y = x then 1 else 0 := by
  unfold cntB
  rw [List.countP_append, List.countP_cons, List.countP_nil]
  by_cases e : y = x
  · rw [if_pos e]; simp [e]
  · rw [if_neg e]; simp [e]
theorem cntB_pos {l : List ByteArray} {x : ByteArray} : 0 < cntB l x ↔ x ∈ l := by
  unfold cntB
  rw [Int.natCast_pos, List.countP_pos_iff]
  simp
theorem cntB_le (l : List ByteArray) (x : ByteArray) : 0 ≤ cntB l x ∧ cntB l x ≤ l.length := by
  unfold cntB
  have := List.countP_le_length (p := fun y => decide (y = x)) (l := l)
  omega
/-- The tallies of a list. -/
structure TalOf (xs : List ByteArray) (ts : List Tly) : Prop where
  sort : ts.Pairwise (fun x y => tlt x y = true)
  mem : ∀ p, p ∈ ts ↔ p.1 ∈ xs ∧ p.2 = cntB xs p.1
theorem TalOf.uniq {xs : List ByteArray} {ts us : List Tly} (h : TalOf xs ts) (k : TalOf xs us) : ts = us := tal_uniq h.sort k.sort fun p => (h.mem p).trans (k.mem p).symm
theorem TalOf.nil_ : TalOf [] [] := ⟨List.Pairwise.nil, fun p => by simp⟩
/-- A tally, put in its place. -/
def insT (t : Tly) : List Tly → List Tly
  | [] => [t]
  | x :: l => if tlt t x = true then t :: x :: l else x :: insT t l
theorem insT_mem {t p : Tly} : ∀ {l : List Tly}, p ∈ insT t l ↔ p = t ∨ p ∈ l
  | [] => by simp [insT]
  | x :: l => by
    rw [insT]
    split
    · simp
    · rw [List.mem_cons, insT_mem, List.mem_cons]
      constructor
      · rintro (h | h | h)
        · exact .inr (.inl h)
        · exact .inl h
        · exact .inr (.inr h)
      · rintro (h | h | h)
        · exact .inr (.inl h)
        · exact .inl h
        · exact .inr (.inr h)
theorem insT_sort {t : Tly} : ∀ {l : List Tly}, l.Pairwise (fun x y => tlt x y = true) → t ∉ l → (insT t l).Pairwise (fun x y => tlt x y = true)
  | [], _, _ => by simp [insT]
  | x :: l, h, hn => by
    obtain ⟨h1, h2⟩ := List.pairwise_cons.1 h
    rw [insT]
    by_cases e : tlt t x = true
    · rw [if_pos e]
      refine List.pairwise_cons.2 ⟨fun y hy => ?_, h⟩
      rcases List.mem_cons.1 hy with rfl | hy
      · exact e
      · exact tlt_trans e (h1 y hy)
    · rw [if_neg e]
      refine List.pairwise_cons.2 ⟨fun y hy => ?_, insT_sort h2 fun hm => hn (List.mem_cons_of_mem _ hm)⟩
      rcases insT_mem.1 hy with rfl | hy
      · cases k : tlt x y with
        | true => rfl
        | false => exact absurd (tlt_tot (by simpa using e) k) fun e' => hn (by rw [e']; simp)
      · exact h1 y hy
/-- How many a name has so far. -/
def sumT (nm : ByteArray) : List Tly → Int
  | [] => 0
  | x :: l => (if x.1 = nm then x.2 else 0) + sumT nm l
theorem sumT_snoc (nm : ByteArray) (l : List Tly) (x : Tly) : sumT nm (l ++ [x]) = sumT nm l + if x.1 = nm then x.2 else 0 := by
  induction l with
  | nil => simp [sumT]
  | cons y l ih => rw [List.cons_append, sumT, sumT, ih]; omega
theorem sumT_none {nm : ByteArray} : ∀ {l : List Tly}, (∀ p ∈ l, p.1 ≠ nm) → sumT nm l = 0
  | [], _ => rfl
  | x :: l, h => by rw [sumT, if_neg (h x (by simp)), sumT_none fun p hp => h p (by simp [hp])]; rfl
theorem sumT_one {nm : ByteArray} {n : Int} : ∀ {l : List Tly}, l.Nodup → (∀ p ∈ l, p.1 = nm → p.2 = n) → (nm, n) ∈ l → sumT nm l = n
  | [], _, _, h => absurd h (by simp)
  | x :: l, hd, h, hm => by
    obtain ⟨h1, h2⟩ := List.nodup_cons.1 hd
    rw [sumT]
    by_cases e : x.1 = nm
    · have ex : x = (nm, n) := Prod.ext e (h x (by simp) e)
      rw [if_pos e, sumT_none (l := l) fun p hp ep => h1 (by
        have : p = (nm, n) := Prod.ext ep (h p (by simp [hp]) ep)
        rw [ex, ← this]; exact hp), h x (by simp) e]
      omega
    · rw [if_neg e, sumT_one h2 (fun p hp => h p (by simp [hp])) ((List.mem_cons.1 hm).resolve_left fun e' => e (by rw [← e']))]
      omega
def restT (nm : ByteArray) (l : List Tly) : List Tly := l.filter fun x => decide (x.1 ≠ nm)
def putT (l : List Tly) (nm : ByteArray) : List Tly := insT (nm, 1 + sumT nm l) (restT nm l)
theorem sort_nodup {l : List Tly} (h : l.Pairwise (fun x y => tlt x y = true)) : l.Nodup := h.imp fun {a b} hab e => by rw [e, tlt_irr] at hab; cases hab
theorem TalOf.sum {xs : List ByteArray} {ts : List Tly} (h : TalOf xs ts) (nm : ByteArray) : sumT nm ts = cntB xs nm := by
  by_cases hx : nm ∈ xs
  · exact sumT_one (sort_nodup h.sort) (fun p hp e => by rw [← e]; exact ((h.mem p).1 hp).2) ((h.mem _).2 ⟨hx, rfl⟩)
  · rw [sumT_none fun p hp e => hx (by rw [← e]; exact ((h.mem p).1 hp).1)]
    have := cntB_pos (l := xs) (x := nm)
    have := cntB_le xs nm
    have : ¬ 0 < cntB xs nm := fun h => hx (cntB_pos.1 h)
    omega
theorem TalOf.put {xs : List ByteArray} {ts : List Tly} (h : TalOf xs ts) (nm : ByteArray) : TalOf (xs ++ [nm]) (putT ts nm) := by
  unfold putT restT
  refine ⟨insT_sort (h.sort.filter _) fun hm => ?_, fun p => ?_⟩
  · have := (List.mem_filter.1 hm).2
    simp at this
  · rw [insT_mem, List.mem_filter, h.mem p, h.sum nm, cntB_snoc]
    by_cases e : p.1 = nm
    · subst e
      rw [if_pos rfl]
      constructor
      · rintro (e | ⟨_, h⟩)
        · refine ⟨by simp, ?_⟩
          rw [e]; dsimp only; omega
        · simp at h
      · rintro ⟨_, h⟩
        exact .inl (Prod.ext rfl (by rw [h]; dsimp only; omega))
    · rw [if_neg fun h => e h.symm]
      constructor
      · rintro (e' | ⟨⟨h1, h2⟩, _⟩)
        · rw [e'] at e; exact absurd rfl e
        · exact ⟨by simp [h1], by omega⟩
      · rintro ⟨h1, h2⟩
        refine .inr ⟨⟨?_, by omega⟩, by simpa using e⟩
        rcases List.mem_append.1 h1 with h1 | h1
        · exact h1
        · exact absurd (List.mem_singleton.1 h1) e
/-- What a sort leaves of tallies, each once, is what the law asks. -/
theorem TalOf.of_sorted {xs : List ByteArray} {ts us : List Tly} (hm : ∀ p, p ∈ ts ↔ p.1 ∈ xs ∧ p.2 = cntB xs p.1) (hd : ts.Nodup) (hp : us.Perm ts) (hs : ∀ (i j : Nat) (x y : Tly), us[i]? = some x → us[j]? = some y → i < j → tlt y x = false) : TalOf xs us := by
  have hdu : us.Nodup := hp.nodup_iff.2 hd
  refine ⟨?_, fun p => (hp.mem_iff).trans (hm p)⟩
  rw [List.pairwise_iff_getElem]
  intro i j hi hj hij
  have h1 := hs i j us[i] us[j] (List.getElem?_eq_getElem hi) (List.getElem?_eq_getElem hj) hij
  cases k : tlt us[i] us[j] with
  | true => rfl
  | false =>
    have e := tlt_tot k h1
    have := (List.getElem?_inj hi hdu).1 (show us[i]? = us[j]? by rw [List.getElem?_eq_getElem hi, List.getElem?_eq_getElem hj, e])
    omega
end

section
open Go Go.RowKit Go.Maps

def bsL (x : List UInt8) : ByteArray := ⟨x.toArray⟩
theorem bsL_data (s : ByteArray) : bsL s.data.toList = s := rfl
theorem bsL_list (x : List UInt8) : (bsL x).data.toList = x := rfl
theorem bsL_inj {x y : List UInt8} (h : bsL x = bsL y) : x = y := by
  have := congrArg (fun s : ByteArray => s.data.toList) h
  exact this
/-- The map of how often each text is in a list. -/
def CMap (w : World) (b n : Nat) (D : DataW Unit) (xs : List ByteArray) : Prop :=
  w.ownsMap Try.prog 9 (plainElem Try.prog 3) b n D ∧ ∀ x : List UInt8, Maps.has D (.string x) = decide (0 < cntB xs (bsL x)) ∧ ∀ z, D.atKey (.string x) (.lit (.int .i64 z)) = .lit (.int .i64 (if 0 < cntB xs (bsL x) then cntB xs (bsL x) else z))
theorem str_keyed : Keyed Try.prog 9 := string_keyed Try.underlying9
theorem str_keyOf {s : ByteArray} (h : s.size ≤ maxLen) : keyOf Try.prog 9 (.string s) = some (.string s.data.toList) := WideMaps.keyOf_string_mk (P := Try.prog) Try.underlying9 h
theorem int_zero1 (w : World) : (zeroValue 3).run Try.prog w = .ok (.int .i64 0) w := by rw [Try.zeroValue3]
theorem CMap.made (w : World) : CMap (w.alloc (.map #[] 0)) w.heap.size 0 (.map []) [] :=
  ⟨World.ownsMap_made w _ _ _, fun x => ⟨by simp [Maps.has, DataW.atKey, cntB_nil], fun z => by simp [DataW.atKey, cntB_nil]⟩⟩
theorem CMap.kept {w w' : World} {row : Option Nat} {b n : Nat} {D : DataW Unit} {xs : List ByteArray} (h : CMap w b n D xs) (hg : w.grownBy w' row) (hne : some b ≠ row) : CMap w' b n D xs := ⟨h.1.kept hg hne, h.2⟩
theorem CMap.keep {w w' : World} {b n : Nat} {D : DataW Unit} {xs : List ByteArray} (h : CMap w b n D xs) (hb : Below w.heap.size w w') : CMap w' b n D xs := by
  obtain ⟨⟨es, clock, hblk, F, hs, hD⟩, h2⟩ := h
  exact ⟨⟨es, clock, (hb.block b (Array.getElem?_eq_some_iff.1 hblk).1).trans hblk, F, hs, hD⟩, h2⟩
theorem cnt_wf {xs : List ByteArray} (h : xs.length ≤ 1000000) (x : ByteArray) (d : Int) (hd : 0 ≤ d ∧ d ≤ 1) : (Lit.int .i64 (cntB xs x + d)).wf = true := by
  have := cntB_le xs x
  simp only [Lit.wf, Bool.and_eq_true, decide_eq_true_eq, show IntKind.i64.min = -9223372036854775808 by decide, show IntKind.i64.max = 9223372036854775807 by decide]
  omega
theorem if_cnt (xs : List ByteArray) (x : ByteArray) : (if 0 < cntB xs x then cntB xs x else 0) = cntB xs x := by
  have := cntB_le xs x
  split <;> omega
/-- 'm[k]'. -/
theorem CMap.look {w : World} {b n : Nat} {D : DataW Unit} {xs : List ByteArray} (h : CMap w b n D xs) {s : ByteArray} (hs : s.size ≤ maxLen) :
    (Instr.lookup 88 (.map (some b)) (.string s) false).run Try.prog w = .ok (.int .i64 (cntB xs s)) w := by
  obtain ⟨hD, h2⟩ := h
  obtain ⟨c, hrun, hc, _⟩ := hD.lookup_int str_keyed Try.underlying88 Try.underlying3 (int_zero1 _) (str_keyOf hs)
  have h3 := (h2 s.data.toList).2 0
  rw [hc, bsL_data, if_cnt] at h3
  have hcc : c = cntB xs s := (Lit.int.inj (DataW.lit.inj h3)).2
  rw [← hcc]
  exact hrun
/-- 'm[k] = m[k] + 1'. -/
theorem CMap.more {w : World} {b n : Nat} {D : DataW Unit} {xs : List ByteArray} (h : CMap w b n D xs) (hl : xs.length ≤ 1000000) (hn : n ≤ 1000000) {s : ByteArray} (hs : s.size ≤ maxLen) :
    ∃ w' D', (Instr.mapUpdate 88 (.map (some b)) (.string s) (.int .i64 (cntB xs s + 1))).run Try.prog w = .ok () w' ∧ CMap w' b (n + 1) D' (xs ++ [s]) ∧ w.grownBy w' (some b) := by
  obtain ⟨hD, h2⟩ := h
  obtain ⟨w', hrun, hD', hg⟩ := hD.update str_keyed Try.underlying88 (by unfold maxLen; omega) (str_keyOf hs) (plainElem_int (a := cntB xs s + 1) Try.underlying3 (cnt_wf hl s 1 (by decide)))
  refine ⟨w', _, hrun, ⟨hD', fun y => ?_⟩, hg⟩
  by_cases e : bsL y = s
  · have ey : y = s.data.toList := by rw [← e]; rfl
    subst ey
    have h0 := cntB_le xs s
    refine ⟨?_, fun z => ?_⟩
    · rw [has_put_same hD.isMap (by trivial) _, bsL_data, cntB_snoc, if_pos rfl, eq_comm, decide_eq_true_eq]; omega
    · rw [atKey_put_same hD.isMap (by trivial) _ _, bsL_data, cntB_snoc, if_pos rfl, if_pos (by omega)]
  · have hne : (Lit.string y) ≠ .string s.data.toList := fun h => e (by rw [Lit.string.inj h]; rfl)
    refine ⟨?_, fun z => ?_⟩
    · rw [has_put_other hne, (h2 y).1, cntB_snoc, if_neg (show ¬ s = bsL y from fun h => e h.symm), Int.add_zero]
    · rw [atKey_put_other hne, (h2 y).2 z, cntB_snoc, if_neg (show ¬ s = bsL y from fun h => e h.symm), Int.add_zero]
theorem CMap.mono {w : World} {b n m : Nat} {D : DataW Unit} {xs : List ByteArray} (h : CMap w b n D xs) (hm : n ≤ m) : CMap w b m D xs := ⟨h.1.mono hm, h.2⟩
/-- What was met so far: each name once, with its number. -/
def Met (D : DataW Unit) (left : Lit → Bool) (xs : List ByteArray) (ts : List Tly) : Prop :=
  ts.Nodup ∧ ∀ p, p ∈ ts ↔ p.1 ∈ xs ∧ p.2 = cntB xs p.1 ∧ left (.string p.1.data.toList) = false
theorem Met.start {w : World} {b n : Nat} {D : DataW Unit} {xs : List ByteArray} (h : CMap w b n D xs) : Met D (Maps.has D) xs [] :=
  ⟨List.nodup_nil, fun p => by
    rw [(h.2 p.1.data.toList).1, bsL_data]
    simp only [List.not_mem_nil, decide_eq_false_iff_not, false_iff, not_and, Classical.not_not, cntB_pos]
    exact fun h _ => h⟩
theorem Met.step {w : World} {b n : Nat} {D : DataW Unit} {left : Lit → Bool} {xs : List ByteArray} {ts : List Tly} (hm : Met D left xs ts) (h : CMap w b n D xs) {x : List UInt8} {c : Int} (hlk : left (.string x) = true) (hat : ∀ zd, D.atKey (.string x) zd = .lit (.int .i64 c)) :
    c = cntB xs (bsL x) ∧ bsL x ∈ xs ∧ Met D (fun z => left z && !z.sameKey (.string x)) xs (ts ++ [(bsL x, c)]) := by
  have h1 := (h.2 x).1
  rw [has_true_of_atKey hat] at h1
  have hc0 : 0 < cntB xs (bsL x) := by simpa using h1.symm
  have hx : bsL x ∈ xs := cntB_pos.1 hc0
  have h2 := (h.2 x).2 0
  rw [hat, if_pos hc0] at h2
  have hc : c = cntB xs (bsL x) := (Lit.int.inj (DataW.lit.inj h2)).2
  refine ⟨hc, hx, List.nodup_append.2 ⟨hm.1, by simp, fun a ha p hp => ?_⟩, fun p => ?_⟩
  · simp at hp
    subst hp
    rintro rfl
    have := ((hm.2 _).1 ha).2.2
    rw [bsL_list, hlk] at this
    cases this
  · rw [List.mem_append, List.mem_singleton, hm.2 p]
    by_cases e : p.1 = bsL x
    · obtain ⟨a, m⟩ := p
      have e : a = bsL x := e
      subst e
      simp only [bsL_list, hlk, Prod.mk.injEq, true_and, Lit.sameKey]
      simp [hx, hc]
    · have e2 : p.1.data.toList ≠ x := fun h => e (by rw [← h]; rfl)
      have e3 : p ≠ (bsL x, c) := fun h => e (by rw [h])
      simp only [e3, or_false, Lit.sameKey]
      simp [e2]
theorem Met.done {D : DataW Unit} {left : Lit → Bool} {xs : List ByteArray} {ts : List Tly} (hm : Met D left xs ts) (hl : ∀ kl, left kl = false) : ts.Nodup ∧ ∀ p, p ∈ ts ↔ p.1 ∈ xs ∧ p.2 = cntB xs p.1 :=
  ⟨hm.1, fun p => by rw [hm.2 p, hl]; simp⟩
end

section
open Go Go.RowKit

theorem below_new2 (w : World) (o : Obj) : Below w.heap.size w (w.alloc o) := (Below.refl _ _).alloc (Nat.le_refl _) o
/-- The words, by number. -/
def words : List (Int × ByteArray) := [(1, ⟨#[100, 105, 115, 99, 111, 110, 110, 101, 99, 116]⟩), (2, ⟨#[105, 103, 110, 111, 114, 101]⟩), (3, ⟨#[117, 110, 105, 109, 112, 108, 101, 109, 101, 110, 116, 101, 100]⟩), (4, ⟨#[100, 101, 98, 117, 103]⟩), (5, ⟨#[115, 101, 114, 118, 105, 99, 101, 45, 114, 101, 113, 117, 101, 115, 116]⟩), (6, ⟨#[115, 101, 114, 118, 105, 99, 101, 45, 97, 99, 99, 101, 112, 116]⟩), (7, ⟨#[101, 120, 116, 45, 105, 110, 102, 111]⟩), (20, ⟨#[107, 101, 120, 105, 110, 105, 116]⟩), (21, ⟨#[110, 101, 119, 107, 101, 121, 115]⟩), (30, ⟨#[101, 99, 100, 104, 45, 105, 110, 105, 116]⟩), (31, ⟨#[114, 101, 112, 108, 121, 45, 111, 114, 45, 103, 114, 111, 117, 112]⟩), (32, ⟨#[103, 101, 120, 45, 105, 110, 105, 116]⟩), (33, ⟨#[103, 101, 120, 45, 114, 101, 112, 108, 121]⟩), (34, ⟨#[103, 101, 120, 45, 114, 101, 113, 117, 101, 115, 116]⟩), (50, ⟨#[117, 115, 101, 114, 97, 117, 116, 104, 45, 114, 101, 113, 117, 101, 115, 116]⟩), (51, ⟨#[117, 115, 101, 114, 97, 117, 116, 104, 45, 102, 97, 105, 108, 117, 114, 101]⟩), (52, ⟨#[117, 115, 101, 114, 97, 117, 116, 104, 45, 115, 117, 99, 99, 101, 115, 115]⟩), (53, ⟨#[117, 115, 101, 114, 97, 117, 116, 104, 45, 98, 97, 110, 110, 101, 114]⟩), (60, ⟨#[117, 115, 101, 114, 97, 117, 116, 104, 45, 112, 107, 45, 111, 107]⟩)]
def wordIn (num : Int) : List (Int × ByteArray) → ByteArray
  | [] => ⟨#[]⟩
  | p :: l => if p.1 = num then p.2 else wordIn num l
def wordT (num : Int) : ByteArray := wordIn num words
theorem wordIn_size (num : Int) : ∀ {l : List (Int × ByteArray)}, (∀ p ∈ l, p.2.size ≤ 100) → (wordIn num l).size ≤ 100
  | [], _ => (by rw [wordIn]; decide)
  | p :: l, h => by
    rw [wordIn]
    split
    · exact h p (by simp)
    · exact wordIn_size num fun q hq => h q (by simp [hq])
theorem wordT_size (num : Int) : (wordT num).size ≤ 100 := wordIn_size num (by decide)
set_option maxRecDepth 100000 in
set_option maxHeartbeats 2000000 in
theorem let_any (x : Int) (w : World) (hx : x ≠ 1 ∧ x ≠ 2 ∧ x ≠ 3 ∧ x ≠ 4 ∧ x ≠ 5 ∧ x ≠ 6 ∧ x ≠ 7 ∧ x ≠ 20 ∧ x ≠ 21 ∧ x ≠ 30 ∧ x ≠ 31 ∧ x ≠ 32 ∧ x ≠ 33 ∧ x ≠ 34) :
    Calls Try.prog 75 #[.int .i64 x] w fun r w' => r = .returned (.string (wordT x)) ∧ w = w' := by
  by_cases h50 : x = 50
  · subst h50
    go_enter Try.func75, Try.ntmps75
    go_wp2
    go_ret
    exact ⟨rfl, rfl⟩
  by_cases h51 : x = 51
  · subst h51
    go_enter Try.func75, Try.ntmps75
    go_wp2
    go_ret
    exact ⟨rfl, rfl⟩
  by_cases h52 : x = 52
  · subst h52
    go_enter Try.func75, Try.ntmps75
    go_wp2
    go_ret
    exact ⟨rfl, rfl⟩
  by_cases h53 : x = 53
  · subst h53
    go_enter Try.func75, Try.ntmps75
    go_wp2
    go_ret
    exact ⟨rfl, rfl⟩
  by_cases h60 : x = 60
  · subst h60
    go_enter Try.func75, Try.ntmps75
    go_wp2
    go_ret
    exact ⟨rfl, rfl⟩
  have b50 : (x == 50) = false := by rw [beq_eq_false_iff_ne]; exact h50
  have b51 : (x == 51) = false := by rw [beq_eq_false_iff_ne]; exact h51
  have b52 : (x == 52) = false := by rw [beq_eq_false_iff_ne]; exact h52
  have b53 : (x == 53) = false := by rw [beq_eq_false_iff_ne]; exact h53
  have b60 : (x == 60) = false := by rw [beq_eq_false_iff_ne]; exact h60
  have hw : wordT x = ⟨#[]⟩ := by
    obtain ⟨a1, a2, a3, a4, a5, a6, a7, a20, a21, a30, a31, a32, a33, a34⟩ := hx
    unfold wordT words
    simp only [wordIn]
    rw [if_neg (fun h => a1 h.symm)]
    rw [if_neg (fun h => a2 h.symm)]
    rw [if_neg (fun h => a3 h.symm)]
    rw [if_neg (fun h => a4 h.symm)]
    rw [if_neg (fun h => a5 h.symm)]
    rw [if_neg (fun h => a6 h.symm)]
    rw [if_neg (fun h => a7 h.symm)]
    rw [if_neg (fun h => a20 h.symm)]
    rw [if_neg (fun h => a21 h.symm)]
    rw [if_neg (fun h => a30 h.symm)]
    rw [if_neg (fun h => a31 h.symm)]
    rw [if_neg (fun h => a32 h.symm)]
    rw [if_neg (fun h => a33 h.symm)]
    rw [if_neg (fun h => a34 h.symm)]
    rw [if_neg (fun h => h50 h.symm)]
    rw [if_neg (fun h => h51 h.symm)]
    rw [if_neg (fun h => h52 h.symm)]
    rw [if_neg (fun h => h53 h.symm)]
    rw [if_neg (fun h => h60 h.symm)]
  rw [hw]
  clear hw hx
  clear h50 h51 h52 h53 h60
  go_enter Try.func75, Try.ntmps75
  go_wp2_with fail
  go_ret
  exact ⟨rfl, rfl⟩
set_option maxRecDepth 100000 in
set_option maxHeartbeats 2000000 in
theorem word_any (x : Int) (w : World) :
    Calls Try.prog 58 #[.int .i64 x] w fun r w' => r = .returned (.string (wordT x)) ∧ w = w' := by
  by_cases h1 : x = 1
  · subst h1
    go_enter Try.func58, Try.ntmps58
    go_wp2
    go_ret
    exact ⟨rfl, rfl⟩
  by_cases h2 : x = 2
  · subst h2
    go_enter Try.func58, Try.ntmps58
    go_wp2
    go_ret
    exact ⟨rfl, rfl⟩
  by_cases h3 : x = 3
  · subst h3
    go_enter Try.func58, Try.ntmps58
    go_wp2
    go_ret
    exact ⟨rfl, rfl⟩
  by_cases h4 : x = 4
  · subst h4
    go_enter Try.func58, Try.ntmps58
    go_wp2
    go_ret
    exact ⟨rfl, rfl⟩
  by_cases h5 : x = 5
  · subst h5
    go_enter Try.func58, Try.ntmps58
    go_wp2
    go_ret
    exact ⟨rfl, rfl⟩
  by_cases h6 : x = 6
  · subst h6
    go_enter Try.func58, Try.ntmps58
    go_wp2
    go_ret
    exact ⟨rfl, rfl⟩
  by_cases h7 : x = 7
  · subst h7
    go_enter Try.func58, Try.ntmps58
    go_wp2
    go_ret
    exact ⟨rfl, rfl⟩
  by_cases h20 : x = 20
  · subst h20
    go_enter Try.func58, Try.ntmps58
    go_wp2
    go_ret
    exact ⟨rfl, rfl⟩
  by_cases h21 : x = 21
  · subst h21
    go_enter Try.func58, Try.ntmps58
    go_wp2
    go_ret
    exact ⟨rfl, rfl⟩
  by_cases h30 : x = 30
  · subst h30
    go_enter Try.func58, Try.ntmps58
    go_wp2
    go_ret
    exact ⟨rfl, rfl⟩
  by_cases h31 : x = 31
  · subst h31
    go_enter Try.func58, Try.ntmps58
    go_wp2
    go_ret
    exact ⟨rfl, rfl⟩
  by_cases h32 : x = 32
  · subst h32
    go_enter Try.func58, Try.ntmps58
    go_wp2
    go_ret
    exact ⟨rfl, rfl⟩
  by_cases h33 : x = 33
  · subst h33
    go_enter Try.func58, Try.ntmps58
    go_wp2
    go_ret
    exact ⟨rfl, rfl⟩
  by_cases h34 : x = 34
  · subst h34
    go_enter Try.func58, Try.ntmps58
    go_wp2
    go_ret
    exact ⟨rfl, rfl⟩
  have b1 : (x == 1) = false := by rw [beq_eq_false_iff_ne]; exact h1
  have b2 : (x == 2) = false := by rw [beq_eq_false_iff_ne]; exact h2
  have b3 : (x == 3) = false := by rw [beq_eq_false_iff_ne]; exact h3
  have b4 : (x == 4) = false := by rw [beq_eq_false_iff_ne]; exact h4
  have b5 : (x == 5) = false := by rw [beq_eq_false_iff_ne]; exact h5
  have b6 : (x == 6) = false := by rw [beq_eq_false_iff_ne]; exact h6
  have b7 : (x == 7) = false := by rw [beq_eq_false_iff_ne]; exact h7
  have b20 : (x == 20) = false := by rw [beq_eq_false_iff_ne]; exact h20
  have b21 : (x == 21) = false := by rw [beq_eq_false_iff_ne]; exact h21
  have b30 : (x == 30) = false := by rw [beq_eq_false_iff_ne]; exact h30
  have b31 : (x == 31) = false := by rw [beq_eq_false_iff_ne]; exact h31
  have b32 : (x == 32) = false := by rw [beq_eq_false_iff_ne]; exact h32
  have b33 : (x == 33) = false := by rw [beq_eq_false_iff_ne]; exact h33
  have b34 : (x == 34) = false := by rw [beq_eq_false_iff_ne]; exact h34
  have cL := Lib.hid (let_any x w ⟨h1, h2, h3, h4, h5, h6, h7, h20, h21, h30, h31, h32, h33, h34⟩)
  generalize wordT x = y at *
  clear h1 h2 h3 h4 h5 h6 h7 h20 h21 h30 h31 h32 h33 h34
  go_enter Try.func58, Try.ntmps58
  go_wp2_with (go_at_call 75; (with_reducible refine cL.out.mono ?_); rintro r w2 ⟨rfl, rfl⟩)
  go_ret
  exact ⟨rfl, rfl⟩
def emptyW : ByteArray := ⟨#[101, 109, 112, 116, 121]⟩
def unknownW : ByteArray := ⟨#[117, 110, 107, 110, 111, 119, 110]⟩
/-- The word of a payload. -/
def numT (s : ByteArray) : ByteArray := match s.data.toList with
  | [] => emptyW
  | c :: _ => if (wordT c.toNat).toList.isEmpty = true then unknownW else wordT c.toNat
theorem numT_size (s : ByteArray) : (numT s).size ≤ 100 := by
  unfold numT
  split
  · decide
  · split
    · decide
    · exact wordT_size _
set_option maxRecDepth 100000 in
set_option maxHeartbeats 2000000 in
theorem num_any (s : ByteArray) (w : World) (hs : s.size ≤ 9223372036854775807) : Calls Try.prog 40 #[.string s] w fun r w' => r = .returned (.string (numT s)) ∧ w = w' := by
  unfold numT
  cases hl : s.data.toList with
  | nil =>
    have e0 : s.toList.isEmpty = true := by rw [ByteArray.toList_eq, hl]; rfl
    clear hl
    go_enter Try.func40, Try.ntmps40
    go_wp2_with fail
    go_ret
    exact ⟨rfl, rfl⟩
  | cons c l =>
    have e0 : s.toList.isEmpty = false := by rw [ByteArray.toList_eq, hl]; rfl
    have hz : 0 < s.size := by
      have : s.data.toList.length = s.size := by rw [Array.length_toList]; rfl
      rw [hl] at this
      simp at this
      omega
    have hz2 : (0 : Int) < (s.size : Int) := by omega
    have hc : c = s[0]'hz := by
      have h0 : s.data[0]? = some c := by rw [← Array.getElem?_toList, hl]; rfl
      obtain ⟨_, e⟩ := Array.getElem?_eq_some_iff.1 h0
      exact e.symm
    subst hc
    have h256 : ((s[0]'hz).toNat : Int) ≤ 255 := by have := (s[0]'hz).toNat_lt; omega
    have h00 : (0 : Int) ≤ ((s[0]'hz).toNat : Int) := Int.natCast_nonneg _
    have cW := Lib.hid (word_any ((s[0]'hz).toNat : Int) w)
    dsimp only
    clear hl
    generalize wordT ((s[0]'hz).toNat : Int) = y at *
    cases he : y.toList.isEmpty with
    | true =>
      rw [if_pos rfl]
      go_enter Try.func40, Try.ntmps40
      go_wp2_with (go_at_call 58; (with_reducible refine cW.out.mono ?_); rintro r w2 ⟨rfl, rfl⟩)
      go_ret
      exact ⟨rfl, rfl⟩
    | false =>
      rw [if_neg (by decide)]
      go_enter Try.func40, Try.ntmps40
      go_wp2_with (go_at_call 58; (with_reducible refine cW.out.mono ?_); rintro r w2 ⟨rfl, rfl⟩)
      go_ret
      exact ⟨rfl, rfl⟩
def ch8 (a0 a1 a2 a3 a4 a5 a6 a7 : ByteArray) : List Value := [.string a0, .string a1, .string a2, .string a3, .string a4, .string a5, .string a6, .string a7]
set_option maxRecDepth 100000 in
set_option maxHeartbeats 2000000 in
theorem lists_any (a0 a1 a2 a3 a4 a5 a6 a7 : ByteArray) (w : World) :
    Calls Try.prog 37 #[.agg (ch8 a0 a1 a2 a3 a4 a5 a6 a7).toArray] w fun r w' => ∃ b, r = .returned (.slice (some ⟨b, 0, none⟩) 8 8) ∧ Strs w' (some ⟨b, 0, none⟩) 8 [a0, a1, a2, a3, a4, a5, a6, a7] ∧ Below w.heap.size w w' := by
  have hb1 := below_new2 w (.cells (ch8 a0 a1 a2 a3 a4 a5 a6 a7).toArray 29)
  have hr1 := heap_new w (.cells (ch8 a0 a1 a2 a3 a4 a5 a6 a7).toArray 29)
  unfold ch8 at *
  have hb2 := below_new2 (w.alloc (.cells [Value.string a0, .string a1, .string a2, .string a3, .string a4, .string a5, .string a6, .string a7].toArray 29)) (.cells #[.string a0, .string a1, .string a2, .string a3, .string a4, .string a5, .string a6, .string a7] 9)
  have hr2 := heap_new (w.alloc (.cells [Value.string a0, .string a1, .string a2, .string a3, .string a4, .string a5, .string a6, .string a7].toArray 29)) (.cells #[.string a0, .string a1, .string a2, .string a3, .string a4, .string a5, .string a6, .string a7] 9)
  have hs : (w.alloc (.cells [Value.string a0, .string a1, .string a2, .string a3, .string a4, .string a5, .string a6, .string a7].toArray 29)).heap.size = w.heap.size + 1 := by simp
  have hS := Lib.hid (Strs.block (ss := [a0, a1, a2, a3, a4, a5, a6, a7]) hr2 (by simp))
  have hB := Lib.hid (hb1.trans (hb2.mono hb1.size))
  rw [hs] at hS
  clear hb1 hb2 hr1 hr2 hs
  go_enter Try.func37, Try.ntmps37
  go_wp2_with fail
  go_ret
  exact ⟨_, rfl, hS.out, hB.out⟩
/-- Which of two texts comes first. -/
def cmpS (x y : ByteArray) : Int := if Op.bytesLess x.toList y.toList = true then -1 else if Op.bytesLess y.toList x.toList = true then 1 else 0
set_option maxRecDepth 100000 in
theorem nanS_any (x : ByteArray) (w : World) : Calls Try.prog 74 #[.string x] w fun r w' => r = .returned (.bool false) ∧ w = w' := by
  go_enter Try.func74, Try.ntmps74
  go_wp2
  go_ret
  exact ⟨by simp, rfl⟩
set_option maxRecDepth 100000 in
set_option maxHeartbeats 2000000 in
theorem cmpS_any (x y : ByteArray) (w : World) : Calls Try.prog 56 #[.string x, .string y] w fun r w' => r = .returned (.int .i64 (cmpS x y)) ∧ w = w' := by
  have cN := Lib.hid (fun x => nanS_any x w)
  unfold cmpS
  cases h1 : Op.bytesLess x.toList y.toList with
  | true =>
    rw [if_pos rfl]
    go_enter Try.func56, Try.ntmps56
    go_wp2_with (go_at_call 74; refine (cN.out _).mono ?_; rintro r w2 ⟨rfl, rfl⟩)
    go_ret
    exact ⟨rfl, rfl⟩
  | false =>
    rw [if_neg (by decide)]
    cases h2 : (x.toList == y.toList) with
    | true =>
      have e : x.toList = y.toList := by simpa using h2
      rw [if_neg (by rw [← e, bl_irr]; decide)]
      clear e
      go_enter Try.func56, Try.ntmps56
      go_wp2_with (go_at_call 74; refine (cN.out _).mono ?_; rintro r w2 ⟨rfl, rfl⟩)
      go_ret
      exact ⟨rfl, rfl⟩
    | false =>
      have e : Op.bytesLess y.toList x.toList = true := by
        cases h3 : Op.bytesLess y.toList x.toList with
        | true => rfl
        | false => rw [bl_tot h1 h3] at h2; simp at h2
      rw [if_pos e]
      clear e
      go_enter Try.func56, Try.ntmps56
      go_wp2_with (go_at_call 74; refine (cN.out _).mono ?_; rintro r w2 ⟨rfl, rfl⟩)
      go_ret
      exact ⟨rfl, rfl⟩
end

section
open Go Go.RowKit Go.Sort Go.Lib

def encT (x : Tly) : List Value := [.string x.1, .int .i64 x.2]
/-- What the comparison says. -/
def cfT (x y : Tly) : Int := if x.2 = y.2 then cmpS x.1 y.1 else compareInt y.2 x.2
theorem ltOf_cfT (x y : Tly) : ltOf cfT x y = tlt x y := by
  unfold ltOf cfT tlt
  by_cases e : x.2 = y.2
  · rw [if_pos e]
    have : ¬ y.2 < x.2 := by omega
    simp only [e, this, decide_false, decide_true, Bool.true_and, Bool.false_or, show ¬ y.2 < y.2 from Int.lt_irrefl _]
    unfold cmpS
    cases h1 : Op.bytesLess x.1.toList y.1.toList with
    | true => simp
    | false =>
      cases h2 : Op.bytesLess y.1.toList x.1.toList <;> simp
  · rw [if_neg e]
    unfold compareInt
    by_cases h1 : y.2 < x.2
    · simp [h1]
    · have h2 : y.2 > x.2 := by omega
      simp [h1, h2, e]
theorem swoT : SWO (ltOf cfT) where
  irrefl x := by rw [ltOf_cfT]; exact tlt_irr x
  trans x y z h1 h2 := by rw [ltOf_cfT] at *; exact tlt_trans h1 h2
  ntrans x y z h1 h2 := by
    rw [ltOf_cfT] at *
    cases h : tlt x z with
    | false => rfl
    | true =>
      cases k : tlt y x with
      | true => rw [tlt_trans k h] at h2; cases h2
      | false => rw [tlt_tot h1 k, h2] at h; cases h
set_option maxRecDepth 100000 in
set_option maxHeartbeats 2000000 in
/-- The comparison that tallies gives: two blocks are laid. -/
theorem closT (x y : Tly) (W : World) : Calls Try.prog 54 #[.agg #[.string x.1, .int .i64 x.2], .agg #[.string y.1, .int .i64 y.2]] W fun e w' => e = .returned (.int .i64 (cfT x y)) ∧ ∃ q os', w' = grow (W.drewN q) os' := by
  obtain ⟨a, n⟩ := x
  obtain ⟨b, m⟩ := y
  unfold cfT
  dsimp only
  by_cases e : n = m
  · subst e
    have cS := Lib.hid (fun W' => cmpS_any a b W')
    rw [if_pos rfl]
    generalize cmpS a b = z at *
    go_enter Try.func54, Try.ntmps54
    go_wp2_with (go_at_call 56; refine (cS.out _).mono ?_; rintro r w2 ⟨rfl, rfl⟩)
    go_ret
    exact ⟨rfl, 0, _, by rw [alloc_eq_grow, alloc_eq_grow, grow_grow]; rfl⟩
  · have hne : (n == m) = false := by rw [beq_eq_false_iff_ne]; exact e
    have cI := Lib.hid (fun W' => Try.cmp_Compare_int m n W')
    rw [if_neg e]
    generalize compareInt m n = z at *
    go_enter Try.func54, Try.ntmps54
    go_wp2_with (go_at_call 55; refine (cI.out _).mono ?_; rintro r w2 ⟨rfl, rfl⟩)
    go_ret
    exact ⟨rfl, 0, _, by rw [alloc_eq_grow, alloc_eq_grow, grow_grow]; rfl⟩
theorem grownBy_sortK {enc : Tly → List Value} {k : Nat} {w : World} {g off n : Nat} {os : Array Obj} (d : Array Tly) : w.grownBy (sortWorldK enc k w g off n d os) (some g) := by
  unfold sortWorldK putRowK
  refine ⟨rfl, rfl, rfl, by simp [putRow, mapBlock, Sort.ahead], fun j hj hne => ?_⟩
  rw [heap_grow_old _ _ (by simpa [putRow, mapBlock, Sort.ahead] using hj)]
  have : g ≠ j := fun e => hne (by rw [e])
  simp [putRow, mapBlock, Sort.ahead, Array.getElem?_modify, this]
theorem encT_get (x : Tly) : (encT x)[0]! = .string x.1 ∧ (encT x)[1]! = .int .i64 x.2 := ⟨rfl, rfl⟩
theorem holdsT {w : World} {base g cap : Nat} {cur : Array Value} {ts : List Tly} (hb : w.heap[g]? = some (.cells cur 71 (0, 0))) (h4 : cur.toList.take (ts.length * 2) = (ts.map encT).flatten) : HoldsK encT 2 w g 0 ts.toArray := by
  intro t ht
  rw [size_flatK] at ht
  have ht' : t < ts.length * 2 := by simpa using ht
  refine ⟨?_, by simp [World.frozen?, hb]⟩
  have h1 : (cur.toList.take (ts.length * 2))[t]? = ((ts.map encT).flatten)[t]? := by rw [h4]
  rw [List.getElem?_take_of_lt ht'] at h1
  simp only [World.cell?, hb, Nat.zero_add]
  simp only [Option.isSome_none, Bool.false_eq_true, if_false]
  rw [← Array.getElem?_toList, h1, get_flatK _ _ _ _ (by simpa using ht')]
  obtain ⟨x, hx⟩ : ∃ x, ts[t / 2]? = some x := ⟨ts[t / 2]'(by omega), List.getElem?_eq_getElem _⟩
  have hm : (ts.map encT)[t / 2]? = some (encT x) := by rw [List.getElem?_map, hx]; rfl
  have hlen : ∀ z ∈ ts.map encT, z.length = 2 := by
    intro z hz
    obtain ⟨y, _, rfl⟩ := List.mem_map.1 hz
    rfl
  have hx2 : ts.toArray[t / 2]! = x := by rw [getElem!_pos ts.toArray (t / 2) (by simp; omega)]; simpa using (List.getElem?_eq_some_iff.1 hx).2
  rw [hx2]
  have hr : t = t / 2 * 2 + t % 2 := by omega
  rcases (show t % 2 = 0 ∨ t % 2 = 1 by omega) with e | e
  · rw [e]
    have := flat_get hlen hm (i := 0) (v := .string x.1) rfl
    rw [show t / 2 * 2 + 0 = t by omega] at this
    exact this
  · rw [e]
    have := flat_get hlen hm (i := 1) (v := .int .i64 x.2) rfl
    rw [show t / 2 * 2 + 1 = t by omega] at this
    exact this
theorem sortT_any (ts : List Tly) (base : Nat) (v : Value) (w : World) (H : OwnR w base 2 71 v (ts.map encT)) (hl : ts.length ≤ 1000000) :
    Calls Try.prog 53 #[v, .func (.func 54) #[] #[]] w fun r w' => r = .returned (.tuple #[]) ∧
      ∃ (us : List Tly) (A : Option Addr) (c : Nat), us.Perm ts ∧ (∀ (i j : Nat) (x y : Tly), us[i]? = some x → us[j]? = some y → i < j → tlt y x = false) ∧ v = .slice A us.length c ∧ Rws w' 2 A us.length (us.map encT) ∧ w.grownBy w' v.ownBlock := by
  have hml : (ts.map encT).length = ts.length := List.length_map ..
  have h00 := H.1
  rw [hml] at h00
  rcases h00.2 with ⟨rfl, h0⟩ | ⟨g, cap, cur, rfl, hbase, hb, h1, h2, h3, h4⟩
  · have h0 : ts = [] := List.eq_nil_of_length_eq_zero h0
    subst h0
    have hcon := AnyF.slices_SortFunc_none Try.sortTly none 0 (.func (.func 54) #[] #[]) w
    change Calls Try.prog 53 _ _ _ at hcon
    refine hcon.mono ?_
    rintro r w' ⟨rfl, rfl⟩
    exact ⟨rfl, [], none, 0, List.Perm.refl _, fun i j x y h => by simp at h, rfl, Rws.nil_, ⟨rfl, rfl, rfl, Nat.le_refl _, fun _ _ _ => rfl⟩⟩
  · have hH : HoldsK encT 2 w g 0 ts.toArray := holdsT (base := base) (cap := cap) hb h4
    have eg : ∀ args w, (callFunc 54 args).run Try.prog w = .ok (.enter 54 args) w := enters_of Try.func54 (by kernel_rfl) rfl
    have hblk := (Array.getElem?_eq_some_iff.1 hb).1
    have hcon := AnyQ.slices_SortFunc Try.sortTly 2 Try.isAgg71 Try.sizeOf71 encT (fun _ => rfl) (fun x v hv => by simp [encT] at hv; rcases hv with rfl | rfl <;> rfl) cfT swoT 54 #[] g 0 cap ts.toArray w eg (fun _ _ _ _ x y => closT x y _) hH hblk (by simp; omega)
    change Calls Try.prog 53 _ _ _ at hcon
    rw [show ts.toArray.size = ts.length by simp] at hcon
    refine hcon.mono ?_
    rintro r w' ⟨rfl, d', n, os, hp, hs, rfl⟩
    have hsz : d'.size = ts.length := by rw [hp.1]; simp
    have hperm : d'.toList.Perm ts := by
      have h := hp.2.2
      rw [show d'.extract 0 ts.length = d' by rw [← hsz]; exact Array.extract_size .., show ts.toArray.extract 0 ts.length = ts.toArray by rw [show ts.length = ts.toArray.size by simp]; exact Array.extract_size ..] at h
      simpa using h
    have hH' := holdsK_sortWorldK_c encT 2 w g 0 ts.toArray d' n os hH hblk hp.1
    have hlen : d'.toList.length = ts.length := by simp [hsz]
    refine ⟨rfl, d'.toList, some ⟨g, 0, none⟩, cap, hperm, fun i j x y hi hj hij => ?_, by rw [hlen], ⟨by simp, fun z hz => ?_, fun _ => ⟨g, 0, rfl, ?_, fun j z hz => ?_⟩⟩, grownBy_sortK d'⟩
    · have hjl : j < d'.size := by have := (List.getElem?_eq_some_iff.1 hj).1; simpa using this
      have h := hs i j (Nat.zero_le _) hij (by omega)
      rw [ltOf_cfT, getElem!_pos d' j hjl, getElem!_pos d' i (by omega)] at h
      have e1 := (List.getElem?_eq_some_iff.1 hi).2
      have e2 := (List.getElem?_eq_some_iff.1 hj).2
      simp only [Array.getElem_toList] at e1 e2
      rw [e1, e2] at h
      exact h
    · obtain ⟨y, _, rfl⟩ := List.mem_map.1 hz
      rfl
    · exact Nat.lt_of_lt_of_le hblk (size_sortWorldK_c encT 2 w g 0 n d' os)
    · rw [List.getElem?_map] at hz
      obtain ⟨x, hx, rfl⟩ := Option.map_eq_some_iff.1 hz
      have hjl : j < d'.size := by have := (List.getElem?_eq_some_iff.1 hx).1; simpa using this
      have hxd : d'[j]! = x := by
        rw [getElem!_pos d' j hjl]
        have e1 := (List.getElem?_eq_some_iff.1 hx).2
        simpa using e1
      intro i u hu
      match i, hu with
      | 0, hu =>
        obtain rfl := Option.some.inj hu
        have h := (hH'.cell hjl (c := 0) (by decide)).1
        rw [hxd] at h
        exact h
      | 1, hu =>
        obtain rfl := Option.some.inj hu
        have h := (hH'.cell hjl (c := 1) (by decide)).1
        rw [hxd] at h
        exact h
end

section
open Go Go.RowKit Go.Maps Go.Sort

theorem tly_info : (Try.prog.info? 71).map (fun i => (i.zero, i.size, i.bytes)) = some (some (.agg #[.string ByteArray.empty, .int .i64 0]), 2, 24) := by kernel_rfl
theorem OwnR.blkC {w : World} {base k : Nat} {E : TypeId} {v : Value} {zs : List (List Value)} (h : OwnR w base k E v zs) {g : Nat} (hg : v.ownBlock = some g) : ∃ cur, w.heap[g]? = some (.cells cur E (0, 0)) := by
  rcases h.1.2 with ⟨rfl, _⟩ | ⟨g', cap, cur, rfl, _, hc, _⟩
  · cases hg
  · have e : g' = g := Option.some.inj hg
    rw [← e]
    exact ⟨cur, hc⟩
theorem OwnR.keptG {w w' : World} {row : Option Nat} {base k : Nat} {E : TypeId} {v : Value} {zs : List (List Value)} (h : OwnR w base k E v zs) (hg : w.grownBy w' row) (hr : ∀ g, v.ownBlock = some g → row ≠ some g) : OwnR w' base k E v zs := by
  refine ⟨⟨h.1.1, ?_⟩, h.2⟩
  rcases h.1.2 with hn | ⟨g, cap, cur, rfl, hb, hc, r⟩
  · exact .inl hn
  · exact .inr ⟨g, cap, cur, rfl, hb, (hg.block g (Array.getElem?_eq_some_iff.1 hc).1 fun e => hr g rfl e.symm).trans hc, r⟩
theorem ranges_blks {w : World} {b r n : Nat} {D : DataW Unit} {left : Lit → Bool} {cnt : Nat} (h : w.ranges Try.prog 9 (plainElem Try.prog 3) b r n D left cnt) : (∃ es c, w.heap[b]? = some (.map es c)) ∧ ∃ x1 x2 x3 x4, w.heap[r]? = some (.mapIter x1 x2 x3 x4) := by
  obtain ⟨es, clock, since, seen, c0, hb, _, _, _, hr, _⟩ := h
  exact ⟨⟨es, clock, hb⟩, _, _, _, _, hr⟩
/-- An own slice's block is no map, and no map's iterator. -/
theorem off_own {w : World} {b r n : Nat} {D : DataW Unit} {left : Lit → Bool} {cnt : Nat} (h : w.ranges Try.prog 9 (plainElem Try.prog 3) b r n D left cnt) {base k : Nat} {E : TypeId} {v : Value} {zs : List (List Value)} (ho : OwnR w base k E v zs) : some b ≠ v.ownBlock ∧ some r ≠ v.ownBlock := by
  obtain ⟨⟨es, c, hb⟩, x1, x2, x3, x4, hr⟩ := ranges_blks h
  constructor
  · intro e
    obtain ⟨cur, hc⟩ := ho.blkC e.symm
    rw [hb] at hc
    cases hc
  · intro e
    obtain ⟨cur, hc⟩ := ho.blkC e.symm
    rw [hr] at hc
    cases hc
/-- What tallies answers. -/
def TalR (xs : List ByteArray) (w : World) (r : Ending) (w' : World) : Prop := ∃ (us : List Tly) (A : Option Addr) (c : Nat), r = .returned (.slice A us.length c) ∧ TalOf xs us ∧ Rws w' 2 A us.length (us.map encT) ∧ Below w.heap.size w w'
theorem encT_one (x : Tly) : ∀ u ∈ encT x, u.oneCell' = true := by
  intro u hu
  simp only [encT, List.mem_cons, List.not_mem_nil, or_false] at hu
  rcases hu with rfl | rfl <;> rfl
set_option maxRecDepth 100000 in
set_option maxHeartbeats 4000000 in
theorem tallies_any (xs : List ByteArray) (A : Option Addr) (n c : Nat) (w : World) (hn : n ≤ 1000) (H : Strs w A n xs) (hs : ∀ x ∈ xs, x.size ≤ maxLen) :
    Calls Try.prog 38 #[.slice A n c] w (TalR xs w) := by
  have hmm := @run_makeMap Try.prog
  obtain ⟨i0, hi, hz0, hz1, hz2⟩ := info_parts tly_info
  have hml := Lib.hid H.len
  have h0 := Lib.hid (CMap.made w)
  have hB0 := Lib.hid (below_new2 w (.map #[] 0))
  have hHh := Lib.hid H
  have hsh := Lib.hid hs
  clear H hs
  unfold TalR
  go_enter Try.func38, Try.ntmps38
  go_wp2_with fail
  go_loopw [12] (fun iv wr => ∃ (k : Nat) (D : DataW Unit), k ≤ n ∧ iv = .int .i64 k ∧ Hid (CMap wr w.heap.size k D (xs.take k)) ∧ Hid (Below w.heap.size w wr)) (fun iv _ => n - (intOf iv).toNat)
  case atStart => exact ⟨0, .map [], Nat.zero_le _, rfl, h0, hB0⟩
  case round =>
    clear h0 hB0
    obtain ⟨k, D, hk, rfl, hC, hB⟩ := hrel
    by_cases hlt : k < n
    · have hlt' : (k : Int) < (n : Int) := by omega
      obtain ⟨b1, o1, x, rfl, hlt0, hx, hc⟩ := (hHh.out.keep hB.out).at_ hlt
      have hxs := hsh.out x (List.mem_of_getElem? hx)
      have hlook := hC.out.look hxs
      have hlen : (xs.take k).length ≤ 1000 := by rw [List.length_take]; have := hml.out; omega
      obtain ⟨w3, D3, hrun, hC3, hg3⟩ := hC.out.more (by omega) (by omega) hxs
      have hle := cntB_le (xs.take k) x
      have hle0 := hle.1
      have hle1 : cntB (xs.take k) x ≤ 1000 := by omega
      rw [← take_succ_of hx] at hC3
      have hB3 := Lib.hid (hB.out.grown hg3 hB.out.size (fun j hj => by cases hj; exact Nat.le_refl _))
      replace hC3 := Lib.hid hC3
      clear hle hlen hg3 hx hxs hlt0 hC hB
      generalize cntB (xs.take k) x = qn at *
      go_wp2_with fail
      go_roundw
      case rel => exact ⟨k + 1, D3, by omega, by go_num, hC3, hB3⟩
      case measure => simp [intOf]; omega
    · have hkn : k = n := by omega
      subst hkn
      have hfull : xs.take k = xs := List.take_of_length_le (by rw [hml.out]; exact Nat.le_refl _)
      rw [hfull] at hC
      clear hfull
      go_upto_region 8 with fail
      have hown := hC.out.1
      have hsz := hown.size_le
      go_wp2_with (first
        | (at_range; refine wpList_range_own _ rfl _ 88 rfl 9 3 str_keyed Try.underlying88 _ w.heap.size k _ rfl hown ?_; intro w4 hrg0 hg0 hs0)
        | fail)
      go_frame
      have hB4 := Lib.hid (hB.out.grown hg0 hB.out.size (fun j hj => by cases hj))
      have hC4 := Lib.hid (hC.out.kept hg0 (by simp))
      clear hown hs0
      have hM0 := Lib.hid (Met.start hC4.out)
      have hO0 : Hid (OwnR w4 w.heap.size 2 71 (.slice none 0 0) (([] : List Tly).map encT)) := Lib.hid (OwnR.nil_ _ _ _ _)
      have hrg0 := Lib.hid hrg0
      have hkh := Lib.hid hsz
      have hD : Hid (CMap wr w.heap.size k D xs) := Lib.hid hC.out
      have hrm2 := Lib.hid hB.out.size
      clear hC hC4 hB hsz hHh hg0
      obtain ⟨rm, hrm⟩ : ∃ rm, wr.heap.size = rm := ⟨_, rfl⟩
      rw [hrm] at hrg0 hrm2 ⊢
      clear hrm
      go_loopw [6] (fun vv wz => ∃ (left : Lit → Bool) (cnt : Nat) (ts : List Tly) (v : Value), vv = v ∧ Hid (wz.ranges Try.prog 9 (plainElem Try.prog 3) w.heap.size rm k D left cnt) ∧ Hid (Met D left xs ts) ∧ Hid (OwnR wz w.heap.size 2 71 v (ts.map encT)) ∧ ts.length + cnt ≤ k ∧ Hid (Below w.heap.size w wz)) (fun _ wz => wz.rangeLeft w.heap.size rm)
      case atStart => exact ⟨_, _, [], _, rfl, hrg0, hM0, hO0, by simpa using hkh.out, hB4⟩
      case round =>
        clear hrg0 hM0 hO0 hB4
        obtain ⟨left, cnt, ts, vv, hvv, hrg, hM, hO, hcnt, hB⟩ := hrel
        obtain ⟨Av, cv, ev, _⟩ := hO.out.rws
        rw [List.length_map] at ev
        subst ev
        subst hvv
        have hrgo := hrg.out
        go_wp2_with (first
          | (at_next; refine wpList_next_ranges _ rfl _ rfl 9 str_keyed (plainElem Try.prog 3) encStr (Value.int .i64) (fun key kl hk => by obtain ⟨x, hx, _⟩ := Maps.keyOf_str Try.underlying9 hk; exact ⟨x, hx⟩) (fun v y hv => by obtain ⟨c, rfl, _⟩ := plainElem_int_inv Try.underlying3 hv; exact ⟨c, rfl⟩) w.heap.size rm k _ _ _ rfl hrgo ?_ ?_)
          | fail)
        · intro hc0 hl0
          have hfin := hM.out.done hl0
          have cS := Lib.hid (sortT_any ts w.heap.size (.slice Av ts.length cv) wr hO.out (by omega))
          have hfinh := Lib.hid hfin
          have hOw := Lib.hid hO.out.lt
          clear hrgo hrg hM hfin hl0 hc0
          have hBh := hB
          clear hO hcnt hB hkh hD
          go_wp2_with (go_at_call 53; (with_reducible refine cS.out.mono ?_); rintro r w6 ⟨rfl, us, As, cs, hp, hso, ev, hR, hg6⟩
                       replace hp := Lib.hid hp
                       replace hso := Lib.hid hso
                       replace ev := Lib.hid ev
                       replace hR := Lib.hid hR
                       replace hg6 := Lib.hid hg6)
          go_ret
          have ev := ev.out
          injection ev with e1 e2 e3
          subst e1
          refine ⟨us, Av, cv, (show Ending.returned (Value.slice Av ts.length cv) = Ending.returned (Value.slice Av us.length cv) by rw [e2]), TalOf.of_sorted hfinh.out.2 hfinh.out.1 hp.out hso.out, hR.out, hBh.out.grown hg6.out hBh.out.size fun q hq => ?_⟩
          exact hOw.out q hq
        · intro x c' kl yd yp w5 cnt5 hkey hlk hv hat hrg5 hlt5 hg5 hs5 hen
          obtain ⟨x', ex, rfl, hxl⟩ := Maps.keyOf_str Try.underlying9 hkey
          obtain rfl : x = x' := encStr_inj ex
          obtain ⟨c2, ec, hyd, _⟩ := plainElem_int_inv Try.underlying3 hv
          cases ec
          have hat' : ∀ zd, D.atKey (.string x) zd = .lit (.int .i64 c') := fun zd => by
            rw [hat zd]
            exact (Prod.mk.inj hyd).1
          obtain ⟨hcx, hxx, hM2⟩ := hM.out.step hD.out hlk hat'
          obtain ⟨sx, hsx⟩ : ∃ sx, bsL x = sx := ⟨_, rfl⟩
          have hes : encStr x = Value.string sx := by rw [← hsx]; rfl
          rw [hes] at hen ⊢
          rw [hsx] at hM2
          have hO5 : OwnR w5 w.heap.size 2 71 (.slice Av ts.length cv) (ts.map encT) := hO.out.keptG hg5 fun g hg e => (off_own hrgo hO.out).2 (e.trans hg.symm)
          have hB5 := hB.out.grown hg5 hB.out.size fun q hq => by cases hq; exact hrm2.out
          have hrg6 := hrg5.alloc (.cells #[.string sx, .int .i64 c'] 71)
          have hO6 := hO5.keep (below_new2 w5 (.cells #[.string sx, .int .i64 c'] 71))
          have hoff := off_own hrg6 hO6
          have hBn := Lib.hid (hB5.trans ((below_new2 w5 (.cells #[.string sx, .int .i64 c'] 71)).mono hB5.size))
          have hrw := Lib.hid (rangeAt_list (heap_new w5 (.cells (encT (sx, c')).toArray 71)))
          have hOn := Lib.hid hO6
          have hrg6 := Lib.hid hrg6
          have hoff := Lib.hid hoff
          have hM2 := Lib.hid hM2
          have hmeas := Lib.hid (And.intro hrg.out.left_eq hlt5)
          have hl2 : ts.length ≤ 1000 := by omega
          have hcnt2 : ts.length + 1 + cnt5 ≤ k := by omega
          clear hkey hv hat hlk hyd hat' hcx hxx hsx hes hO5 hB5 hO6 hrg5 hs5 hg5 hrg hM hO hB hrgo hxl hcnt hlt5
          go_wp2_with (at_builtin; refine wpList_append_one rfl _ _ 52 rfl 71 i0 _ 2 24 Try.underlying52 hi hz0 hz1 hz2 rfl (by decide) w hBn.out _ (ts.map encT) rfl hOn.out w5.heap.size 1 (encT (sx, c')) rfl hrw.out rfl (encT_one _) (by rw [List.length_map]; unfold maxLen; omega) (by rw [List.length_map]; omega) ?_
                       intro v2 w7 hO2 hB2 hg2
                       have hrg7 := Lib.hid (hrg6.out.kept hg2 hoff.out.1 hoff.out.2)
                       replace hO2 := Lib.hid hO2
                       replace hB2 := Lib.hid hB2
                       clear hg2)
          go_roundw
          case rel => exact ⟨_, cnt5, ts ++ [(sx, c')], v2, rfl, hrg7, hM2, Lib.hid (by rw [List.map_append]; exact hO2.out), by rw [List.length_append]; exact hcnt2, hB2⟩
          case measure => rw [hrg7.out.left_eq, hmeas.out.1]; exact hmeas.out.2
end
end Go.Proofs.Ytkgkpoiacbjdfaa
