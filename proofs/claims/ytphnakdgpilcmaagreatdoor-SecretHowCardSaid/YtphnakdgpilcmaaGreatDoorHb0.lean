/- Texts joined: what each shows stands ahead of its theorems. -/
import Derived.WalkKit
import Derived.WalkSpells
import Derived.WalkLawsBesides
import Derived.Lib.Hide
import Derived.Deep.MidRow
import Derived.Deep.LoopGhost
import Derived.Deep.DeepMust
import Derived.Deep.Draws
import Derived.KernelRfl
import Derived.Test.YtphnakdgpilcmaaGreatDoorRows
import Derived.ProofKit
import Derived.OpenShut
import Derived.Test.YtphnakdgpilcmaaGreatDoorCards
import Derived.Test.YtphnakdgpilcmaaGreatDoorTie
import Derived.Lay
import Derived.MakeChecks
import Derived.LaidLaws
import Derived.LaidHandle
import Derived.Deep.DeepHandedRow
import Derived.OwnWalk
import Derived.Deep.Slices
import Derived.ChangeSame
import Derived.SizedLaws
import Derived.Test.YtphnakdgpilcmaaGreatDoorProg
import Derived.BigQuiet
import Derived.Deep.QuietTactic
import Derived.DeepKeys
import Derived.Laws.StructEq
import Derived.Maps.OwnSet
import Derived.Lib.ItoaNum
import Derived.Shelf.Strings.Builder1
import Derived.Test.YtphnakdgpilcmaaGreatDoorShelf
import Derived.Lib.SliceRun
import Derived.Carry
import Derived.Orders
import Derived.RegionTactic
import Derived.Maps.Views
namespace Go.Proofs.YtphnakdgpilcmaaGreatDoor
section
open Go.RowKit

/-- What a call has left: cells and marks below the heap's old end read as before. -/
theorem bcell {W w1 : World} (hb : Below W.heap.size W w1) : (∀ b o, b < W.heap.size → w1.cell? ⟨b, o, none⟩ = W.cell? ⟨b, o, none⟩) ∧ (∀ b o, b < W.heap.size → w1.frozen? ⟨b, o, none⟩ = W.frozen? ⟨b, o, none⟩) :=
  ⟨fun b o h => hb.cell (p := ⟨b, o, none⟩) h, fun b o h => hb.frozen (p := ⟨b, o, none⟩) h⟩

theorem Below.then_ {w w1 w2 : World} (h : Below w.heap.size w w1) (k : Below w1.heap.size w1 w2) : Below w.heap.size w w2 := h.trans (k.mono h.size)
theorem Below.new_ {B : Nat} {w w1 : World} (h : Below B w w1) (o : Obj) (hB : B ≤ w1.heap.size) : Below B w (w1.alloc o) := h.alloc hB o

/-- A slice of n rows of k cells each. -/
def Rws (w : World) (k : Nat) (A : Option Addr) (n : Nat) (zs : List (List Value)) : Prop :=
  zs.length = n ∧ (∀ z ∈ zs, z.length = k) ∧ (0 < n → ∃ b off, A = some ⟨b, off, none⟩ ∧ b < w.heap.size ∧ ∀ j z, zs[j]? = some z → w.rangeAt b (off + j * k) z)

theorem rangeAt_keep {w w' : World} {b o : Nat} {cs : List Value} (h : w.rangeAt b o cs) (hb : Below w.heap.size w w') (hlt : b < w.heap.size) : w'.rangeAt b o cs := fun j v hv => by
  rw [hb.cell (p := ⟨b, o + j, none⟩) hlt]; exact h j v hv
theorem Rws.keep {w w' : World} {k : Nat} {A : Option Addr} {n : Nat} {zs : List (List Value)} (h : Rws w k A n zs) (hb : Below w.heap.size w w') : Rws w' k A n zs :=
  ⟨h.1, h.2.1, fun hn => by
    obtain ⟨b, off, e, hlt, hc⟩ := h.2.2 hn
    exact ⟨b, off, e, Nat.lt_of_lt_of_le hlt hb.size, fun j z hz => rangeAt_keep (hc j z hz) hb hlt⟩⟩
theorem Rws.nil_ {w : World} {k : Nat} {A : Option Addr} : Rws w k A 0 [] := ⟨rfl, by simp, fun h => absurd h (by omega)⟩
theorem Rws.row {w : World} {k : Nat} {A : Option Addr} {n : Nat} {zs : List (List Value)} (h : Rws w k A n zs) {j : Nat} (hj : j < n) :
    ∃ b off z, A = some ⟨b, off, none⟩ ∧ b < w.heap.size ∧ zs[j]? = some z ∧ z.length = k ∧ w.rangeAt b (off + j * k) z := by
  obtain ⟨b, off, e, hlt, hc⟩ := h.2.2 (by omega)
  have hl : j < zs.length := by rw [h.1]; exact hj
  exact ⟨b, off, zs[j], e, hlt, List.getElem?_eq_getElem hl, h.2.1 _ (List.getElem_mem hl), hc j _ (List.getElem?_eq_getElem hl)⟩

theorem ret_bool {a b : Bool} (h : a = b) : Ending.returned (.bool a) = .returned (.bool b) := by rw [h]
theorem ret_int {k : IntKind} {a b : Int} (h : a = b) : Ending.returned (.int k a) = .returned (.int k b) := by rw [h]

/-! ### Laws at a region's operation: whole structs, by value; guarded or not ('hw': the guard lets the operation run; by rfl). -/
section
variable {P : Program} {ops : Array Oper} {Q : Exit → Act → World → Prop} {a : Act} {w w' : World} {rest : List Oper} {o : Oper}
theorem wpList_val {v : Value} (hw : Region.wanted o (yielded ops a.tmps) = true) (hrun : (execOp a.eval o).run P w = .ok (.value v) w') (h : wpList P ops Q rest (a.put o.dst v) w') : wpList P ops Q (o :: rest) a w := by
  refine wpList_step fun K hK => ?_
  rw [if_pos hw]
  unfold Oper.wp
  rw [hrun]
  exact hK _ _ h
theorem wpList_do (hw : Region.wanted o (yielded ops a.tmps) = true) (hrun : (execOp a.eval o).run P w = .ok .skip w') (h : wpList P ops Q rest (a.put o.dst undef) w') : wpList P ops Q (o :: rest) a w := by
  refine wpList_step fun K hK => ?_
  rw [if_pos hw]
  unfold Oper.wp
  rw [hrun]
  exact hK _ _ h
/-- 'x := l[i]', '*p': a struct out of the middle of a block. -/
theorem wpList_load_at (ty : TypeId) (x : Operand) (ho : o.op = .load ty x) (hw : Region.wanted o (yielded ops a.tmps) = true)
    (b off : Nat) (hx : a.eval x = .pointer (some ⟨b, off, none⟩)) (cs : List Value) (d : TypeDesc) (hc : w.rangeAt b off cs)
    (hu : P.underlying ty = some d) (hd : d.isRow = true) (hi : (P.info? ty).map (·.size) = some cs.length)
    (h : wpList P ops Q rest (a.put o.dst (.agg cs.toArray)) w) : wpList P ops Q (o :: rest) a w :=
  wpList_val hw (by
    unfold execOp
    simp only [ho, hx, Instr.loadAt, Instr.sureAddr, Sem.run_bind, Sem.run_pure, Result.andThen_ok, run_loadVar_mid w b off ty cs d hc hu hd hi]) h
/-- 'var x T': a new block of zeros. -/
theorem wpList_alloc_row (ty : TypeId) (ho : o.op = .alloc ty) (hw : Region.wanted o (yielded ops a.tmps) = true) (cs : Array Value) (hz : (P.info? ty).bind (·.zero) = some (.agg cs))
    (h : wpList P ops Q rest (a.put o.dst (.pointer (some ⟨w.heap.size, 0, none⟩))) (w.alloc (.cells cs ty))) : wpList P ops Q (o :: rest) a w :=
  wpList_val hw (by
    unfold execOp
    cases hq : P.info? ty with
    | none => simp [hq] at hz
    | some i =>
      have hzz : i.zero = some (.agg cs) := by simpa [hq] using hz
      simp [ho, Instr.alloc, zeroValue, typeInfo, hq, hzz, newVar, newRow, Value.cells]) h
/-- A struct parameter laid in a block of its own. -/
theorem wpList_box_row (ty : TypeId) (x : Operand) (ho : o.op = .box ty x) (hw : Region.wanted o (yielded ops a.tmps) = true) (cs : Array Value) (hx : a.eval x = .agg cs)
    (h : wpList P ops Q rest (a.put o.dst (.pointer (some ⟨w.heap.size, 0, none⟩))) (w.alloc (.cells cs ty))) : wpList P ops Q (o :: rest) a w :=
  wpList_val hw (by
    unfold execOp
    simp [ho, hx, Instr.box, newVar, newRow, Value.cells]) h
/-- '*p = x', the block whole. -/
theorem wpList_store_at (ty : TypeId) (x y : Operand) (ho : o.op = .store ty x y) (hw : Region.wanted o (yielded ops a.tmps) = true)
    (g : Nat) (cells : Array Value) (hx : a.eval x = .pointer (some ⟨g, 0, none⟩)) (hy : a.eval y = .agg cells)
    (t : TypeId) (old : Array Value) (hg : w.heap[g]? = some (.cells old t (0, 0))) (hi : (P.info? ty).map (·.size) = some cells.size)
    (hold : old.size = cells.size) (h1 : cells.all (·.oneCell') = true)
    (h : wpList P ops Q rest (a.put o.dst undef) (w.setRow g cells)) : wpList P ops Q (o :: rest) a w :=
  wpList_do hw (by
    unfold execOp
    simp only [ho, hx, hy, Instr.storeAt, Instr.sureAddr, Sem.run_bind, Sem.run_pure, Result.andThen_ok, run_storeVar_row w g t ty old cells hg hi hold h1]) h
/-- A struct literal. -/
theorem wpList_build_as (t : TypeId) (parts : Array (Nat × Operand)) (ho : o.op = .build t parts) (hw : Region.wanted o (yielded ops a.tmps) = true) (cells : Array Value)
    (hf : P.built t (parts.toList.map fun x => (x.1, a.eval x.2)) = some cells)
    (h : wpList P ops Q rest (a.put o.dst (.agg cells)) w) : wpList P ops Q (o :: rest) a w :=
  wpList_val hw (by
    unfold execOp
    have hr := run_build (P := P) w t (parts.map fun (i, x) => (i, a.eval x)) cells (by rw [← hf]; simp)
    simp only [ho, Sem.run_bind, hr, Result.andThen_ok, Sem.run_pure]) h
/-- A slice literal: its new block. -/
theorem wpList_buildSlice_as (t e : TypeId) (len : Nat) (parts : Array (Nat × Operand)) (ho : o.op = .buildSlice t len parts) (hw : Region.wanted o (yielded ops a.tmps) = true) (i : TypeInfo) (z : Value) (cells : Array Value)
    (ht : P.underlying t = some (.slice e)) (hi : P.info? e = some i) (hz : i.zero = some z) (hpos : len * i.size ≠ 0) (hsmall : len * i.size ≤ 16777216)
    (hf : Instr.fill (fun j => some (j * i.size, i.size)) ((Array.range (len * i.size)).map (z.cells[· % z.cells.size]!)) (parts.toList.map fun x => (x.1, a.eval x.2)) = some cells)
    (h : wpList P ops Q rest (a.put o.dst (.slice (some ⟨w.heap.size, 0, none⟩) len len)) (w.alloc (.cells cells e))) : wpList P ops Q (o :: rest) a w :=
  wpList_val hw (by
    have hf' : Instr.fill (fun j => some (j * i.size, i.size)) ((Array.range (len * i.size)).map (z.cells[· % z.cells.size]!)) (parts.map fun (j, x) => (j, a.eval x)).toList = some cells := by
      rw [← hf]; simp
    have htI : ∀ w, (typeInfo e).run P w = .ok i w := fun w => by simp [typeInfo, hi]
    have hsz : ∀ w, (sizeOf e).run P w = .ok i.size w := fun w => by unfold sizeOf; rw [Sem.run_bind, htI]; simp
    have hzv : ∀ w, (zeroValue e).run P w = .ok z w := fun w => by unfold zeroValue; rw [Sem.run_bind, htI]; simp [hz]
    have hb : (Instr.buildSlice t len (parts.map fun (j, x) => (j, a.eval x))).run P w = .ok (.slice (some ⟨w.heap.size, 0, none⟩) len len) (w.alloc (.cells cells e)) := by
      unfold Instr.buildSlice
      rw [Sem.run_bind, run_underlying ht w, Result.andThen_ok]
      simp only [Sem.run_bind, hsz, Result.andThen_ok, show (2 : Nat) ^ 24 = 16777216 from rfl, if_neg (show ¬ len * i.size > 16777216 by omega), if_neg hpos, hzv, Sem.run_pure, hf', newRow, run_newObj_alloc]
    unfold execOp
    simp only [ho, Sem.run_bind, hb, Result.andThen_ok, Sem.run_pure]) h
end
theorem heap_new (w : World) (o : Obj) : (w.alloc o).heap[w.heap.size]? = some o := heap_alloc_new w o
theorem heap_past {w : World} {k : Nat} {x : Obj} (h : w.heap[k]? = some x) (o : Obj) : (w.alloc o).heap[k]? = some x := by
  have hk : k < w.heap.size := by
    rcases Nat.lt_or_ge k w.heap.size with hlt | hge
    · exact hlt
    · rw [Array.getElem?_eq_none hge] at h; cases h
  exact (Below.heap_alloc w o k hk).trans h
theorem setRow_new (w : World) (old cs : Array Value) (t : TypeId) : (w.alloc (.cells old t)).setRow w.heap.size cs = w.alloc (.cells cs t) := by
  simp only [World.setRow, World.alloc]
  congr 1
  apply Array.ext
  · simp
  · intro i h1 h2
    simp only [Array.getElem_modify, Array.getElem_push]
    simp only [Array.size_modify, Array.size_push] at h1
    by_cases e : i < w.heap.size
    · simp [e, show w.heap.size ≠ i by omega]
    · have : i = w.heap.size := by omega
      subst this
      simp
theorem setRow_at (w : World) (old cs : Array Value) (t : TypeId) (n : Nat) (h : n = w.heap.size) : (w.alloc (.cells old t)).setRow n cs = w.alloc (.cells cs t) := by subst h; exact setRow_new w old cs t
theorem setRow_past (w : World) (o : Obj) (g : Nat) (cs : Array Value) (h : g < w.heap.size) : (w.alloc o).setRow g cs = (w.setRow g cs).alloc o := by
  simp only [World.setRow, World.alloc]
  congr 1
  apply Array.ext
  · simp
  · intro i h1 h2
    simp only [Array.getElem_modify, Array.getElem_push, Array.size_modify]
    simp only [Array.size_modify, Array.size_push] at h1
    by_cases e : i < w.heap.size
    · simp [e]
    · have : i = w.heap.size := by omega
      subst this
      simp [show g ≠ w.heap.size by omega]
theorem rangeAt_block {w : World} {g : Nat} {cs : Array Value} {t : TypeId} {fr : Nat × Nat} (h : w.heap[g]? = some (.cells cs t fr)) : w.rangeAt g 0 cs.toList := fun j v hv => by
  rw [cell_of_row w g (0 + j) cs t fr h]
  simpa using hv
theorem rangeAt_list {w : World} {g : Nat} {cs : List Value} {t : TypeId} {fr : Nat × Nat} (h : w.heap[g]? = some (.cells cs.toArray t fr)) : w.rangeAt g 0 cs := by
  have := rangeAt_block h
  simpa using this
/-- A block that holds rows one behind the other. -/
theorem Rws.block {w : World} {g : Nat} {zs : List (List Value)} {t : TypeId} {fr : Nat × Nat} {k : Nat} (hk : ∀ z ∈ zs, z.length = k) (h : w.heap[g]? = some (.cells zs.flatten.toArray t fr)) (hlt : g < w.heap.size) : Rws w k (some ⟨g, 0, none⟩) zs.length zs := by
  refine ⟨rfl, hk, fun hpos => ⟨g, 0, rfl, hlt, fun j z hz i v hv => ?_⟩⟩
  clear hpos
  rw [cell_of_row w g _ _ t fr h]
  rw [List.getElem?_toArray]
  clear h hlt
  revert j
  induction zs with
  | nil => intro j hz; simp at hz
  | cons y ys ih =>
    intro j hz
    have hy : y.length = k := hk y (by simp)
    cases j with
    | zero =>
      simp only [List.getElem?_cons_zero, Option.some.injEq] at hz
      subst hz
      have hi : i < y.length := (List.getElem?_eq_some_iff.1 hv).1
      rw [List.flatten_cons, List.getElem?_append_left (by omega)]
      simpa using hv
    | succ j =>
      rw [List.getElem?_cons_succ] at hz
      rw [List.flatten_cons, List.getElem?_append_right (by rw [hy, Nat.succ_mul]; omega)]
      have := ih (fun z hz => hk z (by simp [hz])) j hz
      rw [show 0 + (j + 1) * k + i - y.length = 0 + j * k + i by rw [hy, Nat.succ_mul]; omega]
      exact this
theorem drewN_below {w : World} (q : Nat) : Below w.heap.size w (w.drewN q) := ⟨rfl, rfl, rfl, Nat.le_refl _, fun _ _ => rfl⟩
end

section
open Go.RowKit Go.ChangeShapes Go.WideShapes

theorem Tryz.own : ownKnob Tryz.prog.godebug = none := by kernel_rfl
theorem Tryz.laidOut : laidOutB Tryz.prog = true := by kernel_rfl

section
variable {H : Type} {enc : TypeId × Value → H} {P : Program}
/-- All arguments read behind the call as they read before it. -/
theorem trodAll_below (hl : laidOutB P = true) {W W' : World} (hb : Below W.heap.size W W') : ∀ (ts : List TypeId) (vs : List Value) (ds : List (DataW H)) (ps : List MemPlace),
    ts.all (fun t => P.readableRec t && decide (t < P.types.size)) = true → DataW.TrodAll enc P W 0 (fun _ => true) true ts vs ds ps → (∀ x ∈ ps, x.block < W.heap.size) →
    DataW.TrodAll enc P W' 0 (fun b => decide (b < W.heap.size)) true ts vs ds ps
  | [], vs, ds, ps, _, h, _ => by
    obtain ⟨rfl, rfl, rfl⟩ := trodAll_nil h
    exact trodAll_mk0
  | t :: ts, vs, ds, ps, ht, h, hlt => by
    match vs, ds, h with
    | v :: vs, d :: ds, h =>
      obtain ⟨p, p', h1, h2, rfl⟩ := h
      simp only [List.all_cons, Bool.and_eq_true, decide_eq_true_eq] at ht
      exact ⟨p, p', Below.trod hl ht.1.1 ht.1.2 h1 hb (fun x hx => hlt x (by simp [hx])), trodAll_below hl hb ts vs ds p' ht.2 h2 (fun x hx => hlt x (by simp [hx])), rfl⟩

/-- A law's end: it returned true, and nothing that was there has turned. -/
theorem law_post {f : Func} {s : ChangeSpec} {fresh handsOn : Bool} {W W' : World} {args : Array Value} {ds : List (DataW H)} {before : List MemPlace} {tb : TypeId} (hl : laidOutB P = true)
    (hts : f.params.toList.all (fun t => P.readableRec t && decide (t < P.types.size)) = true) (htb : P.underlying tb = some .bool) (hrt : f.resultTypes = #[tb]) (hv : s.vars = [])
    (hW : DataW.Whole enc P f.params.toList s.vars false W args.toList ds [] before)
    (hfr : (s.fn H (ds ++ [])).results = [.lit (.bool true)]) (hfa : (s.fn H (ds ++ [])).args = ds) (hfv : (s.fn H (ds ++ [])).vars = [])
    (hb : Below W.heap.size W W') : s.post enc P f false fresh handsOn false W args (.bool true) W' := by
  have hlt : ∀ p ∈ before, p.block < W.heap.size := fun p hp => hW.lt p hp
  have hW' := hW
  obtain ⟨p, q, hA, hV, rfl, hz, hn⟩ := hW
  rw [hv] at hV
  obtain ⟨_, rfl⟩ := trodVars_none hV
  rw [List.append_nil] at hlt hW'
  refine ⟨ds, [], p, [], p, [], hW', ?_, ?_, ?_, hb.frame _, fun h => by cases h⟩
  · rw [hrt, hfr]
    exact trodAll_mk1 (shut_bool htb true)
  · rw [hfa]
    exact trodAll_below hl hb _ _ _ _ hts hA hlt
  · rw [hfv, hv]
    rfl
end
end

section
open Go.ChangeShapes Go.WideShapes Go.RowKit

def laidT : List (String × DataW Unit) := [("math/bits.deBruijn32tab", Rows.laid_math_bits_deBruijn32tab), ("math/bits.deBruijn64tab", Rows.laid_math_bits_deBruijn64tab), ("internal/strconv.uint64pow10", Rows.laid_internal_strconv_uint64pow10)]
noncomputable def laidWorldT (os : Os) : World := World.laidAll Tryz.prog os laidT
set_option maxRecDepth 100000 in
theorem laidT_met (os : Os) (args : Array Value) : laidMetH Tryz.prog laidT ((laidWorldT os).forCall (fun _ _ => 0) ⟨#[], args, []⟩).memory := by
  rw [MakeChecks.laidMetH_plain _ _ _ (by kernel_rfl)]
  exact laidMet_laidAll _ (by kernel_rfl) (by kernel_rfl)
end

section
inductive Tm where
  | mk (kind a b : Nat) (s : List UInt8) (args : List Tm)

namespace Tm
def kind : Tm → Nat | mk k _ _ _ _ => k
def a : Tm → Nat | mk _ a _ _ _ => a
def b : Tm → Nat | mk _ _ b _ _ => b
def s : Tm → List UInt8 | mk _ _ _ s _ => s
def args : Tm → List Tm | mk _ _ _ _ l => l
theorem eta (t : Tm) : t = mk t.kind t.a t.b t.s t.args := by cases t; rfl
end Tm

/-- A number below 2^32 as four bytes. -/
def u32 (n : Nat) : List UInt8 := [UInt8.ofNat (n / 16777216 % 256), UInt8.ofNat (n / 65536 % 256), UInt8.ofNat (n / 256 % 256), UInt8.ofNat (n % 256)]
theorem u32_len (n : Nat) : (u32 n).length = 4 := rfl
theorem ofNat_inj {x y : Nat} (hx : x < 256) (hy : y < 256) (h : UInt8.ofNat x = UInt8.ofNat y) : x = y := by
  have := congrArg UInt8.toNat h
  simpa [Nat.mod_eq_of_lt hx, Nat.mod_eq_of_lt hy] using this
theorem u32_inj {x y : Nat} (hx : x < 4294967296) (hy : y < 4294967296) (h : u32 x = u32 y) : x = y := by
  unfold u32 at h
  simp only [List.cons.injEq, and_true] at h
  obtain ⟨h1, h2, h3, h4⟩ := h
  have h1 := ofNat_inj (by omega) (by omega) h1
  have h2 := ofNat_inj (by omega) (by omega) h2
  have h3 := ofNat_inj (by omega) (by omega) h3
  have h4 := ofNat_inj (by omega) (by omega) h4
  omega
theorem app4 {x y : Nat} {r r' : List UInt8} (h : u32 x ++ r = u32 y ++ r') : u32 x = u32 y ∧ r = r' := List.append_inj h rfl

/-- What stands ahead of the terms that a term is made of, behind its first byte. -/
def hd (k a b : Nat) (s : List UInt8) (m : Nat) : List UInt8 :=
  if k = 1 then u32 s.length ++ s
  else if k = 2 then u32 a ++ u32 b
  else if k = 3 then u32 a
  else if k = 5 then u32 s.length ++ s ++ u32 m
  else if k = 6 then u32 s.length ++ s
  else if k = 8 then [UInt8.ofNat b]
  else if k = 9 then u32 b
  else if k = 10 then u32 m
  else []

mutual
def Tm.enc : Tm → List UInt8
  | .mk k a b s args => UInt8.ofNat (240 + k) :: (hd k a b s args.length ++ encs args)
def encs : List Tm → List UInt8
  | [] => []
  | t :: r => t.enc ++ encs r
end
theorem encs_eq : ∀ l : List Tm, encs l = (l.map Tm.enc).flatten
  | [] => by simp [encs]
  | t :: r => by rw [encs, encs_eq r]; rfl
theorem encs_append (l m : List Tm) : encs (l ++ m) = encs l ++ encs m := by simp [encs_eq]
theorem enc_mk (k a b : Nat) (s : List UInt8) (args : List Tm) : (Tm.mk k a b s args).enc = UInt8.ofNat (240 + k) :: (hd k a b s args.length ++ encs args) := by rw [Tm.enc]

/-- By which of two nonces a share is raised first. -/
def nle (x y : Tm) : Prop := x.a < y.a ∨ x.a = y.a ∧ x.b ≤ y.b
instance (x y : Tm) : Decidable (nle x y) := by unfold nle; infer_instance
/-- What a term's own numbers and text may be. -/
def okHd (k a b : Nat) (s : List UInt8) (m : Nat) : Prop :=
  (k = 1 ∧ a = 0 ∧ b = 0 ∧ m = 0 ∧ s.length ≤ 131072) ∨
  (k = 2 ∧ a ≤ 2147483647 ∧ b ≤ 2147483647 ∧ s = [] ∧ m = 0) ∨
  (k = 3 ∧ a ≤ 2147483647 ∧ b = 0 ∧ s = [] ∧ m = 0) ∨
  (k = 4 ∧ a = 0 ∧ b = 0 ∧ s = [] ∧ m = 1) ∨
  (k = 5 ∧ a = 0 ∧ b = 0 ∧ 1 ≤ s.length ∧ s.length ≤ 2100 ∧ m ≤ 8) ∨
  (k = 6 ∧ a = 0 ∧ b = 0 ∧ 1 ≤ s.length ∧ s.length ≤ 64 ∧ m = 2) ∨
  (k = 7 ∧ a = 0 ∧ b = 0 ∧ s = [] ∧ m = 1) ∨
  (k = 8 ∧ a = 0 ∧ b < 256 ∧ s = [] ∧ m = 3) ∨
  (k = 9 ∧ a = 0 ∧ b < 4294967296 ∧ s = [] ∧ m = 2) ∨
  (k = 10 ∧ a = 0 ∧ b = 0 ∧ s = [] ∧ m ≤ 32)
/-- What the terms may be that a term is made of. -/
def okArgs (k : Nat) (args : List Tm) : Prop :=
  (k = 4 → ∀ t ∈ args, t.kind = 3) ∧ (k = 5 → (∀ t ∈ args, t.kind = 2) ∧ args.Pairwise nle) ∧ (k = 6 → ∀ t, args[0]? = some t → t.kind = 3)
mutual
def Tm.ok : Tm → Prop
  | .mk k a b s args => okHd k a b s args.length ∧ okArgs k args ∧ oks args
def oks : List Tm → Prop
  | [] => True
  | t :: r => t.ok ∧ oks r
end
theorem oks_iff : ∀ l : List Tm, oks l ↔ ∀ t ∈ l, t.ok
  | [] => by simp [oks]
  | t :: r => by rw [oks, oks_iff r]; simp
theorem ok_mk {k a b : Nat} {s : List UInt8} {args : List Tm} : (Tm.mk k a b s args).ok ↔ okHd k a b s args.length ∧ okArgs k args ∧ ∀ t ∈ args, t.ok := by rw [Tm.ok, oks_iff]

theorem hd_inj {k a b a' b' : Nat} {s s' : List UInt8} {m m' : Nat} (h : okHd k a b s m) (h' : okHd k a' b' s' m') {r r' : List UInt8}
    (he : hd k a b s m ++ r = hd k a' b' s' m' ++ r') : a = a' ∧ b = b' ∧ s = s' ∧ m = m' ∧ r = r' := by
  unfold okHd at h h'
  rcases h with h | h | h | h | h | h | h | h | h | h <;> obtain ⟨rfl, h⟩ := h
  · simp only [reduceCtorEq, false_and, or_false, false_or, true_and, Nat.reduceEqDiff] at h'
    obtain ⟨rfl, rfl, rfl, h5⟩ := h
    obtain ⟨rfl, rfl, rfl, h6⟩ := h'
    simp only [hd, if_true, List.append_assoc] at he
    obtain ⟨e1, e2⟩ := app4 he
    have := u32_inj (by omega) (by omega) e1
    obtain ⟨e3, e4⟩ := List.append_inj e2 this
    exact ⟨rfl, rfl, e3, rfl, e4⟩
  · simp only [reduceCtorEq, false_and, or_false, false_or, true_and, Nat.reduceEqDiff] at h'
    obtain ⟨h2, h3, rfl, rfl⟩ := h
    obtain ⟨h4, h5, rfl, rfl⟩ := h'
    simp only [hd, if_true, List.append_assoc, Nat.reduceEqDiff, if_false] at he
    obtain ⟨e1, e2⟩ := app4 he
    obtain ⟨e3, e4⟩ := app4 e2
    exact ⟨u32_inj (by omega) (by omega) e1, u32_inj (by omega) (by omega) e3, rfl, rfl, e4⟩
  · simp only [reduceCtorEq, false_and, or_false, false_or, true_and, Nat.reduceEqDiff] at h'
    obtain ⟨h2, rfl, rfl, rfl⟩ := h
    obtain ⟨h4, rfl, rfl, rfl⟩ := h'
    simp only [hd, if_true, List.append_assoc, Nat.reduceEqDiff, if_false] at he
    obtain ⟨e1, e2⟩ := app4 he
    exact ⟨u32_inj (by omega) (by omega) e1, rfl, rfl, rfl, e2⟩
  · simp only [reduceCtorEq, false_and, or_false, false_or, true_and, Nat.reduceEqDiff] at h'
    obtain ⟨rfl, rfl, rfl, rfl⟩ := h
    obtain ⟨rfl, rfl, rfl, rfl⟩ := h'
    simp only [hd, Nat.reduceEqDiff, if_false, List.nil_append] at he
    exact ⟨rfl, rfl, rfl, rfl, he⟩
  · simp only [reduceCtorEq, false_and, or_false, false_or, true_and, Nat.reduceEqDiff] at h'
    obtain ⟨rfl, rfl, h3, h4, h5⟩ := h
    obtain ⟨rfl, rfl, h6, h7, h8⟩ := h'
    simp only [hd, if_true, List.append_assoc, Nat.reduceEqDiff, if_false] at he
    obtain ⟨e1, e2⟩ := app4 he
    have := u32_inj (by omega) (by omega) e1
    obtain ⟨e3, e4⟩ := List.append_inj e2 this
    obtain ⟨e5, e6⟩ := app4 e4
    exact ⟨rfl, rfl, e3, u32_inj (by omega) (by omega) e5, e6⟩
  · simp only [reduceCtorEq, false_and, or_false, false_or, true_and, Nat.reduceEqDiff] at h'
    obtain ⟨rfl, rfl, h3, h4, rfl⟩ := h
    obtain ⟨rfl, rfl, h6, h7, rfl⟩ := h'
    simp only [hd, if_true, List.append_assoc, Nat.reduceEqDiff, if_false] at he
    obtain ⟨e1, e2⟩ := app4 he
    have := u32_inj (by omega) (by omega) e1
    obtain ⟨e3, e4⟩ := List.append_inj e2 this
    exact ⟨rfl, rfl, e3, rfl, e4⟩
  · simp only [reduceCtorEq, false_and, or_false, false_or, true_and, Nat.reduceEqDiff] at h'
    obtain ⟨rfl, rfl, rfl, rfl⟩ := h
    obtain ⟨rfl, rfl, rfl, rfl⟩ := h'
    simp only [hd, Nat.reduceEqDiff, if_false, List.nil_append] at he
    exact ⟨rfl, rfl, rfl, rfl, he⟩
  · simp only [reduceCtorEq, false_and, or_false, false_or, true_and, Nat.reduceEqDiff] at h'
    obtain ⟨rfl, h2, rfl, rfl⟩ := h
    obtain ⟨rfl, h4, rfl, rfl⟩ := h'
    simp only [hd, Nat.reduceEqDiff, if_false, if_true, List.cons_append, List.nil_append, List.cons.injEq] at he
    exact ⟨rfl, ofNat_inj h2 h4 he.1, rfl, rfl, he.2⟩
  · simp only [reduceCtorEq, false_and, or_false, false_or, true_and, Nat.reduceEqDiff] at h'
    obtain ⟨rfl, h2, rfl, rfl⟩ := h
    obtain ⟨rfl, h4, rfl, rfl⟩ := h'
    simp only [hd, Nat.reduceEqDiff, if_false, if_true] at he
    obtain ⟨e1, e2⟩ := app4 he
    exact ⟨rfl, u32_inj (by omega) (by omega) e1, rfl, rfl, e2⟩
  · simp only [reduceCtorEq, false_and, or_false, false_or, true_and, Nat.reduceEqDiff] at h'
    obtain ⟨rfl, rfl, rfl, h4⟩ := h
    obtain ⟨rfl, rfl, rfl, h8⟩ := h'
    simp only [hd, Nat.reduceEqDiff, if_false, if_true] at he
    obtain ⟨e1, e2⟩ := app4 he
    exact ⟨rfl, rfl, rfl, u32_inj (by omega) (by omega) e1, e2⟩
theorem okHd_kind {k a b : Nat} {s : List UInt8} {m : Nat} (h : okHd k a b s m) : 1 ≤ k ∧ k ≤ 10 := by unfold okHd at h; omega

mutual
theorem enc_inj : ∀ (t t' : Tm), t.ok → t'.ok → ∀ (r r' : List UInt8), t.enc ++ r = t'.enc ++ r' → t = t' ∧ r = r'
  | .mk k a b s args, .mk k' a' b' s' args', h, h', r, r', he => by
    rw [ok_mk] at h h'
    rw [enc_mk, enc_mk, List.cons_append, List.cons_append, List.cons.injEq] at he
    have hk := okHd_kind h.1
    have hk' := okHd_kind h'.1
    obtain ⟨e0, he⟩ := he
    have e0 := ofNat_inj (by omega) (by omega) e0
    obtain rfl : k = k' := by omega
    rw [List.append_assoc, List.append_assoc] at he
    obtain ⟨rfl, rfl, rfl, e4, e5⟩ := hd_inj h.1 h'.1 he
    obtain ⟨rfl, e6⟩ := encs_inj args args' e4 h.2.2 h'.2.2 r r' e5
    exact ⟨rfl, e6⟩
theorem encs_inj : ∀ (l l' : List Tm), l.length = l'.length → (∀ t ∈ l, t.ok) → (∀ t ∈ l', t.ok) → ∀ (r r' : List UInt8), encs l ++ r = encs l' ++ r' → l = l' ∧ r = r'
  | [], [], _, _, _, r, r', he => by simpa [encs] using he
  | [], _ :: _, h, _, _, _, _, _ => by simp at h
  | _ :: _, [], h, _, _, _, _, _ => by simp at h
  | t :: l, t' :: l', h, h1, h2, r, r', he => by
    rw [encs, encs, List.append_assoc, List.append_assoc] at he
    obtain ⟨e1, e⟩ := enc_inj t t' (h1 t (by simp)) (h2 t' (by simp)) _ _ he
    obtain ⟨e2, e⟩ := encs_inj l l' (by simpa using h) (fun x hx => h1 x (by simp [hx])) (fun x hx => h2 x (by simp [hx])) r r' e
    exact ⟨by rw [e1, e2], e⟩
end
theorem enc_eq {t t' : Tm} (h : t.ok) (h' : t'.ok) : t.enc = t'.enc ↔ t = t' :=
  ⟨fun e => (enc_inj t t' h h' [] [] (by simpa using e)).1, fun e => by rw [e]⟩
theorem enc_ne {t : Tm} : t.enc ≠ [] := by cases t; rw [enc_mk]; simp

/-- How many bytes of a term are its own. -/
def own (k : Nat) (n : Nat) : Nat := if k = 2 then 9 else if k = 1 ∨ k = 3 ∨ k = 6 ∨ k = 9 ∨ k = 10 then 5 + n else if k = 5 then 9 + n else if k = 8 then 2 else 1
def Tm.len (t : Tm) : Nat := t.enc.length
def lens (l : List Tm) : Nat := (l.map Tm.len).sum
theorem lens_encs : ∀ l : List Tm, (encs l).length = lens l
  | [] => by simp [encs, lens]
  | t :: r => by rw [encs, List.length_append, lens_encs r]; simp [lens, Tm.len]
theorem len_mk {k a b : Nat} {s : List UInt8} {args : List Tm} (h : okHd k a b s args.length) : (Tm.mk k a b s args).len = own k s.length + lens args := by
  unfold Tm.len
  rw [enc_mk, List.length_cons, List.length_append, lens_encs]
  unfold okHd at h
  rcases h with h | h | h | h | h | h | h | h | h | h <;> obtain ⟨rfl, h⟩ := h <;> simp [hd, own, u32_len] <;> (try (obtain ⟨_, _, h, _⟩ := h; try subst h)) <;> (try simp) <;> (try omega)
end

section
def alls : List (Option Tm) → Option (List Tm)
  | [] => some []
  | none :: _ => none
  | some t :: r => match alls r with | none => none | some l => some (t :: l)
theorem alls_some : ∀ {os : List (Option Tm)} {l : List Tm}, alls os = some l ↔ os = l.map some
  | [], l => by cases l <;> simp [alls]
  | none :: r, l => by cases l <;> simp [alls]
  | some t :: r, l => by
    rw [alls]
    cases h : alls r with
    | none =>
      simp only [reduceCtorEq, false_iff]
      intro e
      cases l with
      | nil => simp at e
      | cons u m =>
        simp only [List.map_cons, List.cons.injEq] at e
        rw [alls_some.2 e.2] at h
        cases h
    | some m =>
      have := (alls_some (os := r) (l := m)).1 h
      subst this
      cases l with
      | nil => simp
      | cons u n =>
        simp only [Option.some.injEq, List.cons.injEq, List.map_cons]
        constructor
        · rintro ⟨rfl, rfl⟩; exact ⟨rfl, rfl⟩
        · rintro ⟨rfl, h2⟩
          refine ⟨rfl, ?_⟩
          have := (alls_some (os := m.map some) (l := n)).2 h2
          rw [h] at this; exact Option.some.inj this
theorem alls_map (l : List Tm) : alls (l.map some) = some l := alls_some.2 rfl
theorem alls_none {os : List (Option Tm)} (h : none ∈ os) : alls os = none := by
  cases e : alls os with
  | none => rfl
  | some l =>
    rw [alls_some.1 e] at h
    simp at h
theorem alls_none_iff {os : List (Option Tm)} : alls os = none ↔ none ∈ os := by
  refine ⟨fun h => ?_, alls_none⟩
  induction os with
  | nil => simp [alls] at h
  | cons o r ih =>
    cases o with
    | none => simp
    | some t =>
      rw [alls] at h
      cases e : alls r with
      | none => simp [ih e]
      | some l => rw [e] at h; cases h

/-- The bytes of a term; none: no bytes. -/
def encO : Option Tm → List UInt8
  | none => []
  | some t => t.enc
theorem encO_nil {o : Option Tm} : encO o = [] ↔ o = none := by
  cases o with
  | none => simp [encO]
  | some t => simp [encO, enc_ne]
def kindO : Option Tm → Nat
  | none => 0
  | some t => t.kind
def okO (o : Option Tm) : Prop := ∀ t, o = some t → t.ok
theorem okO_none : okO none := fun _ h => by cases h
theorem encO_eq {o p : Option Tm} (h : okO o) (h' : okO p) : encO o = encO p ↔ o = p := by
  refine ⟨fun e => ?_, fun e => by rw [e]⟩
  cases o with
  | none =>
    cases p with
    | none => rfl
    | some t => exact absurd e.symm enc_ne
  | some t =>
    cases p with
    | none => exact absurd e enc_ne
    | some u => rw [(enc_eq (h t rfl) (h' u rfl)).1 e]

/-- A term of others, if all are there and it is not too long. -/
def mkO (k a b : Nat) (s : List UInt8) (os : List (Option Tm)) : Option Tm :=
  match alls os with
  | none => none
  | some l => if own k s.length + lens l ≤ 131072 then some (.mk k a b s l) else none
def dataT (s : List UInt8) : Option Tm := mkO 1 0 0 s []
def numOk (n : Int) : Prop := 0 ≤ n ∧ n ≤ 2147483647
instance (n : Int) : Decidable (numOk n) := by unfold numOk; infer_instance
def txtOk (s : List UInt8) (most : Nat) : Prop := 1 ≤ s.length ∧ s.length ≤ most
instance (s : List UInt8) (m : Nat) : Decidable (txtOk s m) := by unfold txtOk; infer_instance
def nonceT (w n : Int) : Option Tm := if numOk w ∧ numOk n then mkO 2 w.toNat n.toNat [] [] else none
def keyT (w : Int) : Option Tm := if numOk w then mkO 3 w.toNat 0 [] [] else none
def pubT (o : Option Tm) : Option Tm := if kindO o = 3 then mkO 4 0 0 [] [o] else none
def baseT (g : List UInt8) : Option Tm := if txtOk g 2100 then mkO 5 0 0 g [] else none
/-- A nonce among others, in its place. -/
def ins (x : Tm) : List Tm → List Tm
  | [] => [x]
  | y :: r => if nle y x then y :: ins x r else x :: y :: r
def expT (so xo : Option Tm) : Option Tm := match so, xo with
  | some s, some x => if s.kind = 5 ∧ x.kind = 2 ∧ s.args.length < 8 then mkO 5 0 0 s.s ((ins x s.args).map some) else none
  | _, _ => none
def signT (alg : List UInt8) (k t : Option Tm) : Option Tm := if txtOk alg 64 ∧ kindO k = 3 then mkO 6 0 0 alg [k, t] else none
def hashT (t : Option Tm) : Option Tm := mkO 7 0 0 [] [t]
def deriveT (b : Nat) (x y z : Option Tm) : Option Tm := mkO 8 0 b [] [x, y, z]
def sealT (k : Option Tm) (n : Nat) (t : Option Tm) : Option Tm := mkO 9 0 n [] [k, t]
def listT (l : List (Option Tm)) : Option Tm := if l.length ≤ 32 then mkO 10 0 0 [] l else none

theorem mkO_some {k a b : Nat} {s : List UInt8} {os : List (Option Tm)} {t : Tm} (h : mkO k a b s os = some t) : ∃ l, os = l.map some ∧ t = .mk k a b s l ∧ own k s.length + lens l ≤ 131072 := by
  unfold mkO at h
  split at h
  · cases h
  · rename_i l hl
    split at h
    · rename_i hs
      exact ⟨l, alls_some.1 hl, (Option.some.inj h).symm, hs⟩
    · cases h
theorem mkO_ok {k a b : Nat} {s : List UInt8} {os : List (Option Tm)} (hh : ∀ m : Nat, m = os.length → own k s.length ≤ 131072 → okHd k a b s m) (ha : ∀ l, os = l.map some → okArgs k l) (ho : ∀ o ∈ os, okO o) : okO (mkO k a b s os) := by
  intro t h
  obtain ⟨l, rfl, rfl, hl⟩ := mkO_some h
  rw [ok_mk]
  refine ⟨hh _ (by simp) (by omega), ha l rfl, fun u hu => ho (some u) (by simp [hu]) u rfl⟩
theorem okArgs_none {k : Nat} (h4 : k ≠ 4) (h5 : k ≠ 5) (h6 : k ≠ 6) (l : List Tm) : okArgs k l := ⟨fun h => absurd h h4, fun h => absurd h h5, fun h => absurd h h6⟩
theorem okArgs_nil (k : Nat) : okArgs k [] := ⟨fun _ => by simp, fun _ => by simp, fun _ => by simp⟩
theorem map_some_nil {l : List Tm} (h : ([] : List (Option Tm)) = l.map some) : l = [] := by cases l <;> simp at h <;> rfl
theorem dataT_ok (s : List UInt8) : okO (dataT s) :=
  mkO_ok (fun m hm hl => .inl ⟨rfl, rfl, rfl, hm, by simp [own] at hl; omega⟩) (fun l _ => okArgs_none (by decide) (by decide) (by decide) l) (by simp)
theorem nonceT_ok (w n : Int) : okO (nonceT w n) := by
  unfold nonceT
  split
  · rename_i h
    unfold numOk at h
    exact mkO_ok (fun m hm _ => .inr (.inl ⟨rfl, by omega, by omega, rfl, hm⟩)) (fun l _ => okArgs_none (by decide) (by decide) (by decide) l) (by simp)
  · exact okO_none
theorem keyT_ok (w : Int) : okO (keyT w) := by
  unfold keyT
  split
  · rename_i h
    unfold numOk at h
    exact mkO_ok (fun m hm _ => .inr (.inr (.inl ⟨rfl, by omega, rfl, rfl, hm⟩))) (fun l _ => okArgs_none (by decide) (by decide) (by decide) l) (by simp)
  · exact okO_none
theorem pubT_ok {o : Option Tm} (h : okO o) : okO (pubT o) := by
  unfold pubT
  split
  · rename_i hk
    refine mkO_ok (fun m hm _ => .inr (.inr (.inr (.inl ⟨rfl, rfl, rfl, rfl, hm⟩)))) (fun l hl => ⟨fun _ => ?_, fun h => (by cases h), fun h => (by cases h)⟩) (by simpa using h)
    cases l with
    | nil => simp at hl
    | cons t r =>
      simp only [List.map_cons, List.cons.injEq] at hl
      obtain ⟨rfl, hr⟩ := hl
      obtain rfl := map_some_nil hr
      have hk' : t.kind = 3 := hk
      simpa using hk'
  · exact okO_none
theorem baseT_ok (g : List UInt8) : okO (baseT g) := by
  unfold baseT
  split
  · rename_i h
    unfold txtOk at h
    refine mkO_ok (fun m hm _ => .inr (.inr (.inr (.inr (.inl ⟨rfl, rfl, rfl, h.1, h.2, by simp at hm; omega⟩))))) (fun l hl => ?_) (by simp)
    obtain rfl := map_some_nil hl
    exact okArgs_nil 5
  · exact okO_none
theorem ins_len (x : Tm) : ∀ l, (ins x l).length = l.length + 1
  | [] => rfl
  | y :: r => by
    rw [ins]
    split
    · simp [ins_len x r]
    · simp
theorem ins_mem {x y : Tm} : ∀ {l}, y ∈ ins x l ↔ y = x ∨ y ∈ l
  | [] => by simp [ins]
  | z :: r => by
    rw [ins]
    split
    · simp only [List.mem_cons, ins_mem (l := r)]
      constructor
      · rintro (h | h | h) <;> simp [h]
      · rintro (h | h | h) <;> simp [h]
    · simp
theorem nle_total (x y : Tm) : nle x y ∨ nle y x := by unfold nle; omega
theorem nle_trans {x y z : Tm} (h : nle x y) (k : nle y z) : nle x z := by unfold nle at *; omega
theorem ins_sorted (x : Tm) : ∀ {l : List Tm}, l.Pairwise nle → (ins x l).Pairwise nle
  | [], _ => by simp [ins]
  | y :: r, h => by
    obtain ⟨h1, h2⟩ := List.pairwise_cons.1 h
    rw [ins]
    split
    · rename_i hyx
      refine List.pairwise_cons.2 ⟨fun z hz => ?_, ins_sorted x h2⟩
      rcases ins_mem.1 hz with rfl | hz
      · exact hyx
      · exact h1 z hz
    · rename_i hyx
      have hxy : nle x y := (nle_total x y).resolve_right hyx
      refine List.pairwise_cons.2 ⟨fun z hz => ?_, h⟩
      rcases List.mem_cons.1 hz with rfl | hz
      · exact hxy
      · exact nle_trans hxy (h1 z hz)
theorem expT_ok {so xo : Option Tm} (hs : okO so) (hx : okO xo) : okO (expT so xo) := by
  unfold expT
  split
  · rename_i s x
    split
    · rename_i h
      obtain ⟨h1, h2, h3⟩ := h
      have ks := hs s rfl
      have kx := hx x rfl
      cases s with
      | mk k a b g args =>
        have h1' : k = 5 := h1
        subst h1'
        rw [ok_mk] at ks
        obtain ⟨ka, kb, kc⟩ := ks
        unfold okHd at ka
        simp only [reduceCtorEq, false_and, or_false, false_or, true_and, Nat.reduceEqDiff] at ka
        simp only [Tm.s, Tm.args] at h3 ⊢
        refine mkO_ok (fun m hm _ => .inr (.inr (.inr (.inr (.inl ⟨rfl, rfl, rfl, ka.2.2.1, ka.2.2.2.1, by rw [hm, List.length_map, ins_len]; omega⟩))))) (fun l hl => ?_) (fun o ho => ?_)
        · have : l = ins x args := by
            have := congrArg alls hl
            rw [alls_map, alls_map] at this
            exact (Option.some.inj this).symm
          subst this
          refine ⟨fun h => (by cases h), fun _ => ⟨fun t ht => ?_, ins_sorted x (kb.2.1 rfl).2⟩, fun h => (by cases h)⟩
          rcases ins_mem.1 ht with rfl | ht
          · exact h2
          · exact (kb.2.1 rfl).1 t ht
        · rw [List.mem_map] at ho
          obtain ⟨u, hu, rfl⟩ := ho
          intro t ht
          obtain rfl := Option.some.inj ht
          rcases ins_mem.1 hu with rfl | hu
          · exact kx
          · exact kc _ hu
    · exact okO_none
  · exact okO_none
theorem signT_ok {alg : List UInt8} {k t : Option Tm} (hk : okO k) (ht : okO t) : okO (signT alg k t) := by
  unfold signT
  split
  · rename_i h
    unfold txtOk at h
    refine mkO_ok (fun m hm _ => .inr (.inr (.inr (.inr (.inr (.inl ⟨rfl, rfl, rfl, h.1.1, h.1.2, hm⟩)))))) (fun l hl => ⟨fun h => (by cases h), fun h => (by cases h), fun _ u hu => ?_⟩) (by simpa using ⟨hk, ht⟩)
    cases l with
    | nil => simp at hl
    | cons v r =>
      simp only [List.map_cons, List.cons.injEq] at hl
      simp only [List.getElem?_cons_zero, Option.some.injEq] at hu
      subst hu
      rw [hl.1] at h
      exact h.2
  · exact okO_none
theorem hashT_ok {t : Option Tm} (ht : okO t) : okO (hashT t) :=
  mkO_ok (fun m hm _ => .inr (.inr (.inr (.inr (.inr (.inr (.inl ⟨rfl, rfl, rfl, rfl, hm⟩))))))) (fun l _ => okArgs_none (by decide) (by decide) (by decide) l) (by simpa using ht)
theorem deriveT_ok {b : Nat} {x y z : Option Tm} (hb : b < 256) (hx : okO x) (hy : okO y) (hz : okO z) : okO (deriveT b x y z) :=
  mkO_ok (fun m hm _ => .inr (.inr (.inr (.inr (.inr (.inr (.inr (.inl ⟨rfl, rfl, hb, rfl, hm⟩)))))))) (fun l _ => okArgs_none (by decide) (by decide) (by decide) l) (by simpa using ⟨hx, hy, hz⟩)
theorem sealT_ok {n : Nat} {k t : Option Tm} (hn : n < 4294967296) (hk : okO k) (ht : okO t) : okO (sealT k n t) :=
  mkO_ok (fun m hm _ => .inr (.inr (.inr (.inr (.inr (.inr (.inr (.inr (.inl ⟨rfl, rfl, hn, rfl, hm⟩))))))))) (fun l _ => okArgs_none (by decide) (by decide) (by decide) l) (by simpa using ⟨hk, ht⟩)
theorem listT_ok {l : List (Option Tm)} (hl : ∀ o ∈ l, okO o) : okO (listT l) := by
  unfold listT
  split
  · rename_i h
    exact mkO_ok (fun m hm _ => .inr (.inr (.inr (.inr (.inr (.inr (.inr (.inr (.inr ⟨rfl, rfl, rfl, rfl, by omega⟩))))))))) (fun l _ => okArgs_none (by decide) (by decide) (by decide) l) hl
  · exact okO_none

/-! Lists of terms, each once. -/
def get (L : List Tm) (x : Int) : Option Tm := if x < 0 then none else L[x.toNat]?
theorem get_nat (L : List Tm) (j : Nat) : get L j = L[j]? := by
  unfold get
  rw [if_neg (by omega), Int.toNat_natCast]
theorem get_neg {L : List Tm} {x : Int} (h : x < 0) : get L x = none := by unfold get; rw [if_pos h]
theorem get_some {L : List Tm} {x : Int} {t : Tm} (h : get L x = some t) : ∃ j : Nat, x = j ∧ L[j]? = some t := by
  unfold get at h
  split at h
  · cases h
  · exact ⟨x.toNat, by omega, h⟩
theorem get_none {L : List Tm} {x : Int} (h : get L x = none) : x < 0 ∨ L.length ≤ x := by
  unfold get at h
  split at h
  · exact .inl (by assumption)
  · have := List.getElem?_eq_none_iff.1 h
    exact .inr (by omega)
/-- What all terms of a list are: each is there once, is well made, and so are those that it is made of. -/
structure Good (L : List Tm) : Prop where
  once : L.Nodup
  ok : ∀ t ∈ L, t.ok
  size : ∀ t ∈ L, t.len ≤ 131072
  clos : ∀ t ∈ L, ∀ u ∈ t.args, u ∈ L
theorem Good.nil_ : Good [] := ⟨List.nodup_nil, by simp, by simp, by simp⟩
theorem get_mem {L : List Tm} {x : Int} {t : Tm} (h : get L x = some t) : t ∈ L := by
  obtain ⟨j, rfl, h⟩ := get_some h
  exact List.mem_of_getElem? h
theorem Good.okO {L : List Tm} (h : Good L) (x : Int) : okO (get L x) := fun t ht => h.ok t (get_mem ht)
theorem once_inj {L : List Tm} (h : L.Nodup) {i j : Nat} {t : Tm} (hi : L[i]? = some t) (hj : L[j]? = some t) : i = j := by
  have hl := (List.getElem?_eq_some_iff.1 hi).1
  exact (List.getElem?_inj hl h).1 (hi.trans hj.symm)
/-- A number that a call has handed back names o in L: -1 where there is none. -/
def Nm (L : List Tm) (x : Int) (o : Option Tm) : Prop := get L x = o ∧ (o = none → x = -1)
theorem Nm.none_ (L : List Tm) : Nm L (-1) none := ⟨get_neg (by decide), fun _ => rfl⟩
theorem Nm.inj {L : List Tm} (h : L.Nodup) {x y : Int} {o p : Option Tm} (hx : Nm L x o) (hy : Nm L y p) : x = y ↔ o = p := by
  constructor
  · rintro rfl; exact hx.1.symm.trans hy.1
  · rintro rfl
    cases o with
    | none => rw [hx.2 rfl, hy.2 rfl]
    | some t =>
      obtain ⟨i, rfl, hi⟩ := get_some hx.1
      obtain ⟨j, rfl, hj⟩ := get_some hy.1
      rw [once_inj h hi hj]
theorem Nm.lt {L : List Tm} {x : Int} {o : Option Tm} (h : Nm L x o) : -1 ≤ x ∧ x < L.length := by
  cases o with
  | none => rw [h.2 rfl]; exact ⟨by decide, by omega⟩
  | some t =>
    obtain ⟨j, rfl, hj⟩ := get_some h.1
    have := (List.getElem?_eq_some_iff.1 hj).1
    exact ⟨by omega, by omega⟩
/-- What a list becomes when a term is made. -/
def Grow (L L' : List Tm) (o : Option Tm) : Prop := L' = L ∧ (∀ t, o = some t → t ∈ L) ∨ ∃ t, o = some t ∧ t ∉ L ∧ L' = L ++ [t]
theorem Grow.pre {L L' : List Tm} {o : Option Tm} (h : Grow L L' o) : ∃ r, L' = L ++ r := by
  rcases h with ⟨h, _⟩ | ⟨t, _, _, h⟩
  · exact ⟨[], by simp [h]⟩
  · exact ⟨[t], h⟩
theorem Grow.len {L L' : List Tm} {o : Option Tm} (h : Grow L L' o) : L.length ≤ L'.length ∧ L'.length ≤ L.length + 1 := by
  rcases h with ⟨rfl, _⟩ | ⟨t, _, _, rfl⟩
  · omega
  · simp
theorem get_app {L r : List Tm} {x : Int} {t : Tm} (h : get L x = some t) : get (L ++ r) x = some t := by
  obtain ⟨j, rfl, hj⟩ := get_some h
  rw [get_nat, List.getElem?_append_left (List.getElem?_eq_some_iff.1 hj).1, hj]
theorem Nm.app {L r : List Tm} {x : Int} {o : Option Tm} (h : Nm L x o) : Nm (L ++ r) x o := by
  refine ⟨?_, h.2⟩
  cases o with
  | none => rw [h.2 rfl]; exact get_neg (by decide)
  | some t => exact get_app h.1
theorem Nm.grow {L L' : List Tm} {x : Int} {o p : Option Tm} (h : Nm L x o) (g : Grow L L' p) : Nm L' x o := by
  obtain ⟨r, rfl⟩ := g.pre
  exact h.app
end

section
open Go.RowKit

/-- The slice value v holds the rows zs, in a block of the call's own (from block 'base' on). -/
def OwnR (w : World) (base k : Nat) (E : TypeId) (v : Value) (zs : List (List Value)) : Prop := w.ownsRow base E k v zs.length zs.flatten ∧ ∀ z ∈ zs, z.length = k

theorem OwnR.nil_ (w : World) (base k : Nat) (E : TypeId) : OwnR w base k E (.slice none 0 0) [] := ⟨World.ownsRow_nil w base E k, by simp⟩
theorem OwnR.keep {w w' : World} {base k : Nat} {E : TypeId} {v : Value} {zs : List (List Value)} (h : OwnR w base k E v zs) (hb : Below w.heap.size w w') : OwnR w' base k E v zs := by
  obtain ⟨⟨hl, hh⟩, hz⟩ := h
  refine ⟨⟨hl, ?_⟩, hz⟩
  rcases hh with h0 | ⟨g, cap, cur, hv, hg, hc, r⟩
  · exact .inl h0
  · have hlt : g < w.heap.size := (Array.getElem?_eq_some_iff.1 hc).1
    exact .inr ⟨g, cap, cur, hv, hg, (hb.block g hlt).trans hc, r⟩
theorem flat_get {k : Nat} : ∀ {zs : List (List Value)}, (∀ z ∈ zs, z.length = k) → ∀ {j : Nat} {z : List Value}, zs[j]? = some z → ∀ {i : Nat} {v : Value}, z[i]? = some v → zs.flatten[j * k + i]? = some v := by
  intro zs
  induction zs with
  | nil => intro _ j z hz; simp at hz
  | cons y ys ih =>
    intro hk j z hz i v hv
    have hy : y.length = k := hk y (by simp)
    cases j with
    | zero =>
      simp only [List.getElem?_cons_zero, Option.some.injEq] at hz
      subst hz
      have hi : i < y.length := (List.getElem?_eq_some_iff.1 hv).1
      rw [List.flatten_cons, List.getElem?_append_left (by omega)]
      simpa using hv
    | succ j =>
      rw [List.getElem?_cons_succ] at hz
      rw [List.flatten_cons, List.getElem?_append_right (by rw [hy, Nat.succ_mul]; omega)]
      have := ih (fun z hz => hk z (by simp [hz])) hz hv
      rw [show (j + 1) * k + i - y.length = j * k + i by rw [hy, Nat.succ_mul]; omega]
      exact this
theorem OwnR.rws {w : World} {base k : Nat} {E : TypeId} {v : Value} {zs : List (List Value)} (h : OwnR w base k E v zs) : ∃ A c, v = .slice A zs.length c ∧ Rws w k A zs.length zs := by
  obtain ⟨hown, hz⟩ := h
  have hh := hown.2
  rcases hh with ⟨rfl, h0⟩ | ⟨g, cap, cur, rfl, hg, hc, _⟩
  · have : zs = [] := List.eq_nil_of_length_eq_zero h0
    subst this
    exact ⟨none, 0, rfl, Rws.nil_⟩
  · have hlt : g < w.heap.size := (Array.getElem?_eq_some_iff.1 hc).1
    refine ⟨_, _, rfl, rfl, hz, fun _ => ⟨g, 0, rfl, hlt, fun j z hj i v hv => ?_⟩⟩
    have := hown.cells (g := g) rfl _ v (flat_get hz hj hv)
    rw [Addr.add_mid] at this
    rw [show 0 + j * k + i = 0 + (j * k + i) by omega]
    exact this
theorem OwnR.lt {w : World} {base k : Nat} {E : TypeId} {v : Value} {zs : List (List Value)} (h : OwnR w base k E v zs) : ∀ g, v.ownBlock = some g → base ≤ g := fun g hg => (h.1.lt g hg).1

section
variable {P : Program} {ops : Array Oper} {Q : Exit → Act → World → Prop} {a : Act} {w : World} {rest : List Oper} {o : Oper}
/-- 'out = append(out, x)': x lies as one row in a block of its own. -/
theorem wpList_append_one (hgd : o.guard = none) (s x : Operand) (t : TypeId)
    (ho : o.op = .call { callee := .builtin .append, args := #[s, x], argTypes := #[t, t] })
    (e : TypeId) (i : TypeInfo) (z : Value) (size bytes : Nat) (ht : P.underlying t = some (.slice e)) (hi : P.info? e = some i) (hz : i.zero = some z)
    (hsize : i.size = size) (hby : i.bytes = bytes) (hzs : z.cells.size = size) (hsz : 0 < size)
    (w0 : World) (hB : Below w0.heap.size w0 w) (v : Value) (zs : List (List Value)) (hs : a.eval s = v) (hown : OwnR w w0.heap.size size e v zs)
    (g c : Nat) (row : List Value) (hx : a.eval x = .slice (some ⟨g, 0, none⟩) 1 c) (hrow : w.rangeAt g 0 row) (hl : row.length = size) (h1 : ∀ u ∈ row, u.oneCell' = true)
    (h63 : zs.length + 1 ≤ maxLen) (hbytes : (zs.length + 1) * bytes ≤ 140737488355328)
    (h : ∀ v' w', OwnR w' w0.heap.size size e v' (zs ++ [row]) → Below w0.heap.size w0 w' → w.grownBy w' v.ownBlock → wpList P ops Q rest (a.put o.dst v') w') : wpList P ops Q (o :: rest) a w := by
  refine wpList_append_own w hgd s x t ho w0.heap.size e i z size bytes ht hi hz hsize hby hzs hsz v zs.length zs.flatten hs hown.1 ⟨g, 0, none⟩ 1 c row hx (by rw [hl, Nat.one_mul])
    (fun j u hu => by rw [Addr.add_mid]; exact hrow j u hu) h1 h63 hbytes hB.size ?_
  intro v' w' hown' hg _
  refine h v' w' ⟨by simpa [List.length_append, List.flatten_append] using hown', fun z hz => ?_⟩ (hB.grown hg hB.size hown.lt) hg
  rcases List.mem_append.1 hz with hz | hz
  · exact hown.2 z hz
  · simp only [List.mem_singleton] at hz
    subst hz
    exact hl
end

/-- One part as large as the whole fills it. -/
theorem fill_one (n : Nat) (zs cs : Array Value) (h0 : zs.size = n) (h1 : cs.size = n) : Instr.fill (fun j => some (j * n, n)) zs [(0, .agg cs)] = some cs := by
  unfold Instr.fill
  simp only [Nat.zero_mul, Value.cells, h1, h0, Nat.zero_add, Nat.lt_irrefl, decide_false, ne_eq, not_true_eq_false, Bool.or_self, Bool.false_eq_true, if_false, gt_iff_lt, Bool.or_false]
  unfold Instr.fill
  congr 1
  obtain ⟨l⟩ := cs
  have key : ∀ (l : List Value) (off : Nat) (z : Array Value), off + l.length = z.size →
      (l.zipIdx off).foldl (fun cs (x : Value × Nat) => cs.setIfInBounds x.2 x.1) z = ((z.toList.take off) ++ l).toArray := by
    intro l
    induction l with
    | nil =>
      intro off z h
      simp only [List.length_nil, Nat.add_zero] at h
      rw [List.take_of_length_le (by simp; omega)]
      simp
    | cons y ys ih =>
      intro off z h
      simp only [List.length_cons] at h
      rw [List.zipIdx_cons, List.foldl_cons, ih (off + 1) _ (by simp; omega)]
      congr 1
      simp only [Array.toList_setIfInBounds]
      rw [List.take_add_one, List.take_set, List.set_eq_of_length_le (by simp; omega), List.getElem?_set_self (by simp; omega)]
      simp
  have := key l 0 zs (by simp at h1; omega)
  simp only [List.take_zero, List.nil_append] at this
  rw [← Array.foldl_toList, Array.toList_zipIdx]
  simpa using this
end

section
open Go.RowKit Go.ChangeShapes Go.WideShapes Go.Deep

/-- The cells' kinds of a flat type; none: it is not flat. -/
def flatDesc (P : Program) : Nat → TypeId → Option (List TypeDesc)
  | 0, _ => none
  | n + 1, t => match P.underlying t with
    | some (.int k) => some [.int k]
    | some .bool => some [.bool]
    | some .string => some [.string]
    | some (.struct fs) => fs.toList.foldlM (fun (acc : List TypeDesc) f => if f.offset = acc.length then (flatDesc P n f.type).bind (fun l => if P.cellsOf f.type = l.length then some (acc ++ l) else none) else none) [] >>= (fun ds => if P.cellsOf t = ds.length then some ds else none)
    | some (.array m e) => (flatDesc P n e).bind (fun l => if P.cellsOf e = l.length ∧ P.cellsOf t = m * l.length then some (List.replicate m l).flatten else none)
    | _ => none

/-- A cell is of its kind. -/
def cellOk (d : TypeDesc) (v : Value) : Prop := match d with
  | .int k => ∃ n, v = .int k n ∧ k.min ≤ n ∧ n ≤ k.max
  | .bool => ∃ b, v = .bool b
  | .string => ∃ s, v = .string s ∧ s.size ≤ maxLen
  | _ => False

theorem replicate_flatten_get {α : Type} {l : List α} : ∀ (m i : Nat), (List.replicate m l).flatten[i]? = if i < m * l.length then l[i % l.length]? else none := by
  intro m
  induction m with
  | zero => intro i; simp
  | succ m ih =>
    intro i
    rw [List.replicate_succ, List.flatten_cons]
    by_cases h : i < l.length
    · rw [List.getElem?_append_left h, if_pos (by rw [Nat.succ_mul]; omega), Nat.mod_eq_of_lt h]
    · rw [List.getElem?_append_right (by omega), ih]
      by_cases h2 : i < (m + 1) * l.length
      · rw [Nat.succ_mul] at h2
        rw [if_pos (by omega), if_pos (by rw [Nat.succ_mul]; omega), ← Nat.mod_eq_sub_mod (by omega)]
      · rw [if_neg (by rw [Nat.succ_mul] at h2; omega), if_neg h2]

section
variable {H : Type} {enc : TypeId × Value → H} {P : Program} {w : World} {base : Nat} {spare : Nat → Bool} {held : Bool}

/-- All cells of its kinds. -/
def allOk (ds : List TypeDesc) (cs : List Value) : Prop := cs.length = ds.length ∧ ∀ (i : Nat) (d : TypeDesc) (v : Value), ds[i]? = some d → cs[i]? = some v → cellOk d v

theorem flat_trod : ∀ (n : Nat) (t : TypeId) (ds : List TypeDesc) (fuel : Nat) (cs : List Value) (x : DataW H × List MemPlace), flatDesc P n t = some ds → DataW.trod enc P w base spare held fuel t cs = some x → allOk ds cs := by
  intro n
  induction n with
  | zero => intro t ds fuel cs x h; simp [flatDesc] at h
  | succ n ih =>
    intro t ds fuel cs x h ht
    unfold flatDesc at h
    cases hu : P.underlying t with
    | none => simp [hu] at h
    | some d =>
      rw [hu] at h
      cases d with
      | int k =>
        simp only [Option.some.injEq] at h
        subst h
        obtain ⟨m, rfl, _, hw⟩ := DataW.trod_int hu ht
        simp only [Lit.wf, Bool.and_eq_true, decide_eq_true_eq] at hw
        refine ⟨rfl, fun i d v hd hv => ?_⟩
        match i with
        | 0 => simp only [List.getElem?_cons_zero, Option.some.injEq] at hd hv; subst hd; subst hv; exact ⟨m, rfl, hw.1, hw.2⟩
        | i + 1 => simp at hd
      | bool =>
        simp only [Option.some.injEq] at h
        subst h
        obtain ⟨m, rfl, _⟩ := DataW.trod_bool hu ht
        refine ⟨rfl, fun i d v hd hv => ?_⟩
        match i with
        | 0 => simp only [List.getElem?_cons_zero, Option.some.injEq] at hd hv; subst hd; subst hv; exact ⟨m, rfl⟩
        | i + 1 => simp at hd
      | string =>
        simp only [Option.some.injEq] at h
        subst h
        obtain ⟨m, rfl, _, hw⟩ := DataW.trod_string hu ht
        refine ⟨rfl, fun i d v hd hv => ?_⟩
        match i with
        | 0 => simp only [List.getElem?_cons_zero, Option.some.injEq] at hd hv; subst hd; subst hv; exact ⟨m, rfl, hw⟩
        | i + 1 => simp at hd
      | struct fs =>
        simp only [Option.bind_eq_bind, Option.bind_eq_some_iff] at h
        obtain ⟨ds0, h, hlast⟩ := h
        have hct : P.cellsOf t = ds0.length := by
          by_cases hc : P.cellsOf t = ds0.length
          · exact hc
          · rw [if_neg hc] at hlast; cases hlast
        rw [if_pos hct, Option.some.injEq] at hlast
        subst hlast
        obtain ⟨xs, m, _, _, hl, hxl, hf⟩ := DataW.trod_struct hu ht
        -- the pieces, one behind the other
        have key : ∀ (l : List Field) (acc ds : List TypeDesc), (∀ f ∈ l, ∃ y, DataW.trod enc P w base spare held m f.type ((cs.drop f.offset).take (P.cellsOf f.type)) = some y) →
            l.foldlM (fun (acc : List TypeDesc) f => if f.offset = acc.length then (flatDesc P n f.type).bind (fun l => if P.cellsOf f.type = l.length then some (acc ++ l) else none) else none) acc = some ds →
            (acc.length ≤ cs.length ∧ ∀ (i : Nat) (d : TypeDesc) (v : Value), acc[i]? = some d → cs[i]? = some v → cellOk d v) →
            ds.length ≤ cs.length ∧ ∀ (i : Nat) (d : TypeDesc) (v : Value), ds[i]? = some d → cs[i]? = some v → cellOk d v := by
          intro l
          induction l with
          | nil => intro acc ds _ h ha; simp at h; subst h; exact ha
          | cons f r ihl =>
            intro acc ds hall h ha
            rw [List.foldlM_cons] at h
            by_cases ho : f.offset = acc.length
            · rw [if_pos ho] at h
              cases hfd : flatDesc P n f.type with
              | none => simp [hfd] at h
              | some l0 =>
                rw [hfd] at h
                by_cases hc : P.cellsOf f.type = l0.length
                · simp only [Option.bind_some, if_pos hc, Option.bind_eq_bind] at h
                  obtain ⟨y, hy⟩ := hall f (by simp)
                  obtain ⟨pl, pc⟩ := ih _ _ _ _ _ hfd hy
                  rw [List.length_take, List.length_drop, hc, ho] at pl
                  refine ihl _ _ (fun g hg => hall g (by simp [hg])) h ⟨by rw [List.length_append]; omega, fun i d v hd hv => ?_⟩
                  by_cases hi : i < acc.length
                  · rw [List.getElem?_append_left hi] at hd
                    exact ha.2 i d v hd hv
                  · rw [List.getElem?_append_right (by omega)] at hd
                    have hil : i - acc.length < l0.length := (List.getElem?_eq_some_iff.1 hd).1
                    refine pc (i - acc.length) d v hd ?_
                    rw [List.getElem?_take, if_pos (by omega), List.getElem?_drop, ho, show acc.length + (i - acc.length) = i by omega]
                    exact hv
                · simp only [Option.bind_some, if_neg hc] at h
                  simp at h
            · rw [if_neg ho] at h; simp at h
        have hall : ∀ f ∈ fs.toList, ∃ y, DataW.trod enc P w base spare held m f.type ((cs.drop f.offset).take (P.cellsOf f.type)) = some y := by
          intro f hfm
          obtain ⟨j, hj, hjf⟩ := List.getElem_of_mem hfm
          have hj' : fs[j]? = some f := by
            rw [← Array.getElem?_toList, List.getElem?_eq_getElem hj, hjf]
          have := hf j f hj'
          have hjx : j < xs.length := by rw [hxl]; simpa using hj
          exact ⟨xs[j], by rw [this, List.getElem?_eq_getElem hjx]⟩
        have hk := key fs.toList [] ds0 hall h ⟨by simp, fun i d v hd => by simp at hd⟩
        exact ⟨by rw [hl, hct], hk.2⟩
      | array m e =>
        simp only at h
        cases hfd : flatDesc P n e with
        | none => simp [hfd] at h
        | some l0 =>
          rw [hfd] at h
          by_cases hc : P.cellsOf e = l0.length ∧ P.cellsOf t = m * l0.length
          · simp only [Option.bind_some, if_pos hc, Option.some.injEq] at h
            subst h
            obtain ⟨xs, k, _, _, hl, hxl, hf⟩ := DataW.trod_array hu ht
            have hfl : (List.replicate m l0).flatten.length = m * l0.length := by simp
            refine ⟨by rw [hl, hc.2, hfl], fun i d v hd hv => ?_⟩
            rw [replicate_flatten_get] at hd
            by_cases hi : i < m * l0.length
            · rw [if_pos hi] at hd
              have hpos : 0 < l0.length := by rcases Nat.eq_zero_or_pos l0.length with h0 | h0; · rw [h0] at hi; omega
                                              · exact h0
              have hq : i / l0.length < m := Nat.div_lt_of_lt_mul (by rw [Nat.mul_comm]; exact hi)
              have hp := hf (i / l0.length) hq
              have hx : i / l0.length < xs.length := by rw [hxl]; exact hq
              rw [List.getElem?_eq_getElem hx] at hp
              obtain ⟨pl, pc⟩ := ih _ _ _ _ _ hfd hp
              refine pc (i % l0.length) d v hd ?_
              rw [hc.1, List.getElem?_take, if_pos (Nat.mod_lt _ hpos), List.getElem?_drop, Nat.mul_comm, Nat.div_add_mod]
              exact hv
            · rw [if_neg hi] at hd; cases hd
          · simp only [Option.bind_some, if_neg hc] at h
            simp at h
      | _ => simp at h
end
end

section
open Go.RowKit Go.ChangeShapes Go.WideShapes Go.Deep

theorem weightsAll_mem {H : Type} {P : Program} {e : TypeId} : ∀ {ds : List (DataW H)} {j : Nat} {d : DataW H}, ds[j]? = some d → ∀ n ∈ d.weights P e, n ∈ DataW.weightsAll P e ds
  | d0 :: ds, 0, d, hd, n, hn => by
    simp only [List.getElem?_cons_zero, Option.some.injEq] at hd
    subst hd
    simp only [DataW.weightsAll, List.mem_append]
    exact Or.inl hn
  | d0 :: ds, j + 1, d, hd, n, hn => by
    simp only [List.getElem?_cons_succ] at hd
    simp only [DataW.weightsAll, List.mem_append]
    exact Or.inr (weightsAll_mem hd n hn)
  | [], _, _, hd, _, _ => by simp at hd

section
variable {H : Type} {enc : TypeId × Value → H} {P : Program} {w : World} {base : Nat} {spare : Nat → Bool} {held : Bool}
theorem flat_weights : ∀ (n : Nat) (t : TypeId) (ds : List TypeDesc) (fuel : Nat) (cs : List Value) (x : DataW H × List MemPlace), flatDesc P n t = some ds → DataW.trod enc P w base spare held fuel t cs = some x →
    ∀ (i : Nat) (s : ByteArray), cs[i]? = some (.string s) → s.size ∈ x.1.weights P t := by
  intro n
  induction n with
  | zero => intro t ds fuel cs x h; simp [flatDesc] at h
  | succ n ih =>
    intro t ds fuel cs x h ht i s hs
    have hall := flat_trod (n + 1) t ds fuel cs x h ht
    unfold flatDesc at h
    cases hu : P.underlying t with
    | none => simp [hu] at h
    | some d =>
      rw [hu] at h
      cases d with
      | int k =>
        obtain ⟨m, rfl, _, hw⟩ := DataW.trod_int hu ht
        match i with
        | 0 => simp at hs
        | i + 1 => simp at hs
      | bool =>
        obtain ⟨m, rfl, _⟩ := DataW.trod_bool hu ht
        match i with
        | 0 => simp at hs
        | i + 1 => simp at hs
      | string =>
        obtain ⟨m, rfl, hx, hw⟩ := DataW.trod_string hu ht
        match i with
        | 0 =>
          simp only [List.getElem?_cons_zero, Option.some.injEq, Value.string.injEq] at hs
          subst hs
          rw [hx]
          unfold DataW.weights
          rw [List.mem_singleton]
          exact Array.length_toList.symm
        | i + 1 => simp at hs
      | struct fs =>
        simp only [Option.bind_eq_bind, Option.bind_eq_some_iff] at h
        obtain ⟨ds0, h, hlast⟩ := h
        have hct : P.cellsOf t = ds0.length := by
          by_cases hc : P.cellsOf t = ds0.length
          · exact hc
          · rw [if_neg hc] at hlast; cases hlast
        obtain ⟨xs, m, _, hx, hl, hxl, hf⟩ := DataW.trod_struct hu ht
        have hW : x.1.weights P t = DataW.weightsEach P (fs.toList.map (·.type)) (xs.map (·.1)) := by rw [hx]; simp [DataW.weights, hu]
        rw [hW]
        have key : ∀ (l : List Field) (acc ds : List TypeDesc), (∀ f ∈ l, ∃ y, DataW.trod enc P w base spare held m f.type ((cs.drop f.offset).take (P.cellsOf f.type)) = some y ∧ ∀ q ∈ y.1.weights P f.type, q ∈ DataW.weightsEach P (fs.toList.map (·.type)) (xs.map (·.1))) →
            l.foldlM (fun (acc : List TypeDesc) f => if f.offset = acc.length then (flatDesc P n f.type).bind (fun l => if P.cellsOf f.type = l.length then some (acc ++ l) else none) else none) acc = some ds →
            (∀ (i : Nat) (s : ByteArray), i < acc.length → cs[i]? = some (.string s) → s.size ∈ DataW.weightsEach P (fs.toList.map (·.type)) (xs.map (·.1))) →
            ∀ (i : Nat) (s : ByteArray), i < ds.length → cs[i]? = some (.string s) → s.size ∈ DataW.weightsEach P (fs.toList.map (·.type)) (xs.map (·.1)) := by
          intro l
          induction l with
          | nil => intro acc ds _ h ha; simp at h; subst h; exact ha
          | cons f r ihl =>
            intro acc ds hall h ha
            rw [List.foldlM_cons] at h
            by_cases ho : f.offset = acc.length
            · rw [if_pos ho] at h
              cases hfd : flatDesc P n f.type with
              | none => simp [hfd] at h
              | some l0 =>
                rw [hfd] at h
                by_cases hc : P.cellsOf f.type = l0.length
                · simp only [Option.bind_some, if_pos hc, Option.bind_eq_bind] at h
                  obtain ⟨y, hy, hyw⟩ := hall f (by simp)
                  refine ihl _ _ (fun g hg => hall g (by simp [hg])) h (fun i s hi hv => ?_)
                  by_cases hia : i < acc.length
                  · exact ha i s hia hv
                  · rw [List.length_append] at hi
                    refine hyw _ (ih _ _ _ _ _ hfd hy (i - acc.length) s ?_)
                    rw [List.getElem?_take, if_pos (by omega), List.getElem?_drop, ho, show acc.length + (i - acc.length) = i by omega]
                    exact hv
                · simp only [Option.bind_some, if_neg hc] at h
                  simp at h
            · rw [if_neg ho] at h; simp at h
        have hall' : ∀ f ∈ fs.toList, ∃ y, DataW.trod enc P w base spare held m f.type ((cs.drop f.offset).take (P.cellsOf f.type)) = some y ∧ ∀ q ∈ y.1.weights P f.type, q ∈ DataW.weightsEach P (fs.toList.map (·.type)) (xs.map (·.1)) := by
          intro f hfm
          obtain ⟨j, hj, hjf⟩ := List.getElem_of_mem hfm
          have hj' : fs[j]? = some f := by
            rw [← Array.getElem?_toList, List.getElem?_eq_getElem hj, hjf]
          have := hf j f hj'
          have hjx : j < xs.length := by rw [hxl]; simpa using hj
          refine ⟨xs[j], by rw [this, List.getElem?_eq_getElem hjx], fun q hq => DataW.weights_mem_each (j := j) (t := f.type) (d := xs[j].1) ?_ ?_ q hq⟩
          · rw [List.getElem?_map, List.getElem?_eq_getElem hj, hjf]; rfl
          · rw [List.getElem?_map, List.getElem?_eq_getElem hjx]; rfl
        refine key fs.toList [] ds0 hall' h (fun i s hi => by simp at hi) i s ?_ hs
        have := (List.getElem?_eq_some_iff.1 hs).1
        omega
      | array m e =>
        simp only at h
        cases hfd : flatDesc P n e with
        | none => simp [hfd] at h
        | some l0 =>
          rw [hfd] at h
          by_cases hc : P.cellsOf e = l0.length ∧ P.cellsOf t = m * l0.length
          · obtain ⟨xs, k, _, hx, hl, hxl, hf⟩ := DataW.trod_array hu ht
            have hW : x.1.weights P t = DataW.weightsAll P e (xs.map (·.1)) := by rw [hx]; simp [DataW.weights, hu]
            rw [hW]
            have hi : i < m * l0.length := by have := (List.getElem?_eq_some_iff.1 hs).1; omega
            have hpos : 0 < l0.length := by rcases Nat.eq_zero_or_pos l0.length with h0 | h0; · rw [h0] at hi; omega
                                            · exact h0
            have hq : i / l0.length < m := Nat.div_lt_of_lt_mul (by rw [Nat.mul_comm]; exact hi)
            have hp := hf (i / l0.length) hq
            have hxx : i / l0.length < xs.length := by rw [hxl]; exact hq
            rw [List.getElem?_eq_getElem hxx] at hp
            refine weightsAll_mem (j := i / l0.length) (d := xs[i / l0.length].1) (by rw [List.getElem?_map, List.getElem?_eq_getElem hxx]; rfl) _ (ih _ _ _ _ _ hfd hp (i % l0.length) s ?_)
            rw [hc.1, List.getElem?_take, if_pos (Nat.mod_lt _ hpos), List.getElem?_drop, Nat.mul_comm, Nat.div_add_mod]
            exact hs
          · simp only [Option.bind_some, if_neg hc] at h
            simp at h
      | _ => simp at h
end
end

section
open Go.RowKit Go.ChangeShapes Go.WideShapes Go.Deep

section
variable {H : Type} {enc : TypeId × Value → H} {P : Program} {w : World} {base : Nat} {spare : Nat → Bool} {held : Bool}
theorem open_rows_w {t e : TypeId} {n : Nat} {ds : List TypeDesc} {fuel : Nat} {cs : List Value} {x : DataW H × List MemPlace} (ht : P.underlying t = some (.slice e)) (hfl : flatDesc P n e = some ds) (hcl : P.cellsOf e = ds.length) (hpos : 0 < ds.length)
    (h : DataW.trod enc P w base spare held fuel t cs = some x) :
    ∃ A len cap zs, cs = [.slice A len cap] ∧ len ≤ cap ∧ cap ≤ maxLen ∧ Rws w ds.length A len zs ∧ ∀ z ∈ zs, allOk ds z ∧ ∀ (i : Nat) (s : ByteArray), z[i]? = some (.string s) → s.size ∈ x.1.weights P t := by
  rcases open_slice ht h with ⟨h0, _⟩ | ⟨a, len, cap, m, k, D, Pl, hcs, hb, hl, hm, hmm, hx, hi⟩
  · exact ⟨none, 0, 0, [], h0, Nat.le_refl _, by decide, Rws.nil_, by simp⟩
  · have hrows : ∀ i, i < len → ∃ cs', w.cells? base (a.add (i * ds.length)) ds.length = some cs' ∧ (allOk ds cs' ∧ ∀ (i : Nat) (s : ByteArray), cs'[i]? = some (.string s) → s.size ∈ x.1.weights P t) := by
      intro i hil
      have him : i < m := by rw [hmm]; split <;> omega
      obtain ⟨cs', hc, htr⟩ := hi i him
      rw [hcl] at hc
      refine ⟨cs', hc, flat_trod n e ds _ _ _ hfl htr, fun q s hq => ?_⟩
      have hwt := flat_weights n e ds _ _ _ hfl htr q s hq
      rw [hx]
      simp only [DataW.weights, ht, List.mem_cons, List.mem_append]
      exact Or.inr (Or.inl (weightsAll_mem (j := i) (d := D i) (by rw [List.getElem?_map, List.getElem?_range hil]; rfl) _ hwt))
    rcases Nat.eq_zero_or_pos len with h0 | h0
    · subst h0
      exact ⟨some a, 0, cap, [], hcs, hl, hm, Rws.nil_, by simp⟩
    · -- the address is plain
      have hspot : a.spot = none := by
        obtain ⟨cs', hc, _⟩ := hrows 0 h0
        obtain ⟨_, hcl', hat⟩ := World.cells?_some hc
        have h1 := hat 0 hpos
        have h2 : ((a.add (0 * ds.length)).add 0) = a := by simp [Addr.add]
        rw [h2, List.getElem?_eq_getElem (by omega)] at h1
        unfold World.cell? at h1
        cases hs : a.spot with
        | none => rfl
        | some s =>
          simp only [hs, Option.isSome_some, if_true] at h1
          split at h1 <;> cases h1
      obtain ⟨b, off, sp⟩ := a
      subst hspot
      have hz : ∃ zs : List (List Value), zs.length = len ∧ ∀ j z, zs[j]? = some z → w.cells? base ((⟨b, off, none⟩ : Addr).add (j * ds.length)) ds.length = some z ∧ (allOk ds z ∧ ∀ (i : Nat) (s : ByteArray), z[i]? = some (.string s) → s.size ∈ x.1.weights P t) := by
        clear hcs hl hmm hi h0 h
        have : ∀ l, l ≤ len → ∃ zs : List (List Value), zs.length = l ∧ ∀ j z, zs[j]? = some z → w.cells? base ((⟨b, off, none⟩ : Addr).add (j * ds.length)) ds.length = some z ∧ (allOk ds z ∧ ∀ (i : Nat) (s : ByteArray), z[i]? = some (.string s) → s.size ∈ x.1.weights P t) := by
          intro l
          induction l with
          | zero => intro _; exact ⟨[], rfl, by simp⟩
          | succ l ih =>
            intro hl
            obtain ⟨zs, hlz, hzz⟩ := ih (by omega)
            obtain ⟨c, hc, hok⟩ := hrows l (by omega)
            refine ⟨zs ++ [c], by simp [hlz], fun j z hj => ?_⟩
            by_cases hjl : j < zs.length
            · rw [List.getElem?_append_left hjl] at hj
              exact hzz j z hj
            · rw [List.getElem?_append_right (by omega)] at hj
              have : j = l := by
                have := (List.getElem?_eq_some_iff.1 hj).1
                simp at this
                omega
              subst this
              rw [hlz, Nat.sub_self] at hj
              simp only [List.getElem?_cons_zero, Option.some.injEq] at hj
              subst hj
              exact ⟨hc, hok⟩
        exact this len (Nat.le_refl _)
      obtain ⟨zs, hzl, hzz⟩ := hz
      have hblt : b < w.heap.size := by
        obtain ⟨cs', hc, _⟩ := hrows 0 h0
        obtain ⟨_, hcl', hat⟩ := World.cells?_some hc
        have h1 := hat 0 hpos
        have h2 : (((⟨b, off, none⟩ : Addr).add (0 * ds.length)).add 0) = ⟨b, off, none⟩ := by simp [Addr.add]
        rw [h2, List.getElem?_eq_getElem (by omega)] at h1
        exact block_lt_of_cell h1
      refine ⟨some ⟨b, off, none⟩, len, cap, zs, hcs, hl, hm, ⟨hzl, fun z hz => ?_, fun _ => ⟨b, off, rfl, hblt, fun j z hj i v hv => ?_⟩⟩, fun z hz => ?_⟩
      · obtain ⟨j, hj, rfl⟩ := List.getElem_of_mem hz
        exact (hzz j _ (List.getElem?_eq_getElem hj)).2.1.1
      · obtain ⟨hc, hok⟩ := hzz j z hj
        obtain ⟨_, hcl', hat⟩ := World.cells?_some hc
        have hi' : i < ds.length := by have := (List.getElem?_eq_some_iff.1 hv).1; omega
        have := hat i hi'
        rw [Addr.add_mid, Addr.add_mid] at this
        rw [this, hv]
      · obtain ⟨j, hj, rfl⟩ := List.getElem_of_mem hz
        exact (hzz j _ (List.getElem?_eq_getElem hj)).2
theorem open_rows {t e : TypeId} {n : Nat} {ds : List TypeDesc} {fuel : Nat} {cs : List Value} {x : DataW H × List MemPlace} (ht : P.underlying t = some (.slice e)) (hfl : flatDesc P n e = some ds) (hcl : P.cellsOf e = ds.length) (hpos : 0 < ds.length)
    (h : DataW.trod enc P w base spare held fuel t cs = some x) :
    ∃ A len cap zs, cs = [.slice A len cap] ∧ len ≤ cap ∧ cap ≤ maxLen ∧ Rws w ds.length A len zs ∧ ∀ z ∈ zs, allOk ds z := by
  obtain ⟨A, len, cap, zs, h1, h2, h3, h4, h5⟩ := open_rows_w ht hfl hcl hpos h
  exact ⟨A, len, cap, zs, h1, h2, h3, h4, fun z hz => (h5 z hz).1⟩
end
end

section
theorem take_succ_of {α : Type} {l : List α} {k : Nat} {x : α} (h : l[k]? = some x) : l.take (k + 1) = l.take k ++ [x] := by
  rw [List.take_add_one, h]; rfl
theorem any_take_succ {α : Type} {l : List α} {k : Nat} {x : α} (p : α → Bool) (h : l[k]? = some x) : (l.take (k + 1)).any p = ((l.take k).any p || p x) := by
  rw [take_succ_of h, List.any_append]; simp
theorem all_take_succ {α : Type} {l : List α} {k : Nat} {x : α} (p : α → Bool) (h : l[k]? = some x) : (l.take (k + 1)).all p = ((l.take k).all p && p x) := by
  rw [take_succ_of h, List.all_append]; simp
theorem any_take_hit {α : Type} {l : List α} {k n : Nat} {x : α} (p : α → Bool) (h : l[k]? = some x) (hk : k < n) (hp : p x = true) : (l.take n).any p = true := by
  rw [List.any_eq_true]
  refine ⟨x, ?_, hp⟩
  rw [List.mem_take_iff_getElem]
  have hl : k < l.length := (List.getElem?_eq_some_iff.1 h).1
  exact ⟨k, by omega, (List.getElem?_eq_some_iff.1 h).2⟩
theorem any_hit {α : Type} {l : List α} {k : Nat} {x : α} (p : α → Bool) (h : l[k]? = some x) (hp : p x = true) : l.any p = true := by
  rw [List.any_eq_true]
  exact ⟨x, List.mem_of_getElem? h, hp⟩
theorem any_whole {α : Type} {l : List α} {n : Nat} {p : α → Bool} {b : Bool} (h : l.length ≤ n) (hp : (l.take n).any p = b) : l.any p = b := by
  rwa [List.take_of_length_le h] at hp
theorem any_take_miss {α : Type} {l : List α} {k n : Nat} {p : α → Bool} (hn : n ≤ k) (hp : (l.take k).any p = false) : (l.take n).any p = false := by
  rw [List.any_eq_false] at hp ⊢
  intro x hx
  exact hp x ((List.take_subset_take_left l hn) hx)
theorem any_take_whole {α : Type} {l : List α} {k : Nat} {p : α → Bool} (n : Nat) (h : l.length ≤ k) (hp : (l.take k).any p = false) : (l.take n).any p = false := by
  rw [List.take_of_length_le h, List.any_eq_false] at hp
  rw [List.any_eq_false]
  intro x hx
  exact hp x (List.mem_of_mem_take hx)
/-- The first place at which p holds, from i on; -1: nowhere. -/
def idx {α : Type} (p : α → Bool) (l : List α) : Int := match l.findIdx? p with | some i => (i : Int) | none => -1
theorem idx_hit {α : Type} {p : α → Bool} {l : List α} {k : Nat} {x : α} (h : l[k]? = some x) (hp : p x = true) (hm : (l.take k).any p = false) : idx p l = k := by
  have hf : l.findIdx? p = some k := by
    rw [List.findIdx?_eq_some_iff_getElem]
    have hl : k < l.length := (List.getElem?_eq_some_iff.1 h).1
    refine ⟨hl, by rw [(List.getElem?_eq_some_iff.1 h).2]; exact hp, fun j hj => ?_⟩
    rw [List.any_eq_false] at hm
    have := hm (l[j]) (by rw [List.mem_take_iff_getElem]; exact ⟨j, by omega, rfl⟩)
    simpa using this
  unfold idx; rw [hf]
theorem idx_miss {α : Type} {p : α → Bool} {l : List α} (hm : l.any p = false) : idx p l = -1 := by
  have hf : l.findIdx? p = none := by
    rw [List.findIdx?_eq_none_iff]
    rw [List.any_eq_false] at hm
    intro x hx
    simpa using hm x hx
  unfold idx; rw [hf]
theorem idx_cases {α : Type} (p : α → Bool) (l : List α) : (idx p l = -1 ∧ l.any p = false) ∨ ∃ k x, idx p l = (k : Nat) ∧ l[k]? = some x ∧ p x = true ∧ (l.take k).any p = false := by
  cases h : l.findIdx? p with
  | none =>
    left
    rw [List.findIdx?_eq_none_iff] at h
    have : l.any p = false := by rw [List.any_eq_false]; intro x hx; simp [h x hx]
    exact ⟨idx_miss this, this⟩
  | some i =>
    right
    rw [List.findIdx?_eq_some_iff_getElem] at h
    obtain ⟨hl, hp, hm⟩ := h
    have ha : (l.take i).any p = false := by
      rw [List.any_eq_false]
      intro x hx
      rw [List.mem_take_iff_getElem] at hx
      obtain ⟨j, hj, rfl⟩ := hx
      have := hm j (by omega)
      simpa using this
    exact ⟨i, l[i], idx_hit (List.getElem?_eq_getElem hl) hp ha, List.getElem?_eq_getElem hl, hp, ha⟩
theorem idx_ge {α : Type} (p : α → Bool) (l : List α) : -1 ≤ idx p l ∧ idx p l < l.length ∨ (idx p l = -1) := by
  rcases idx_cases p l with ⟨h, _⟩ | ⟨k, x, h, hx, _, _⟩
  · exact .inr h
  · left
    have hl : k < l.length := (List.getElem?_eq_some_iff.1 hx).1
    rw [h]; omega
end

section
open Go.RowKit

def iv (x : Int) : List Value := [.int .i64 x]
def Ints (w : World) (A : Option Addr) (n : Nat) (xs : List Int) : Prop := Rws w 1 A n (xs.map iv)
theorem Ints.keep {w w' : World} {A : Option Addr} {n : Nat} {xs : List Int} (h : Ints w A n xs) (hb : Below w.heap.size w w') : Ints w' A n xs := Rws.keep h hb
theorem Ints.len {w : World} {A : Option Addr} {n : Nat} {xs : List Int} (h : Ints w A n xs) : xs.length = n := by simpa using h.1
theorem Ints.at_ {w : World} {A : Option Addr} {n : Nat} {xs : List Int} (h : Ints w A n xs) {j : Nat} (hj : j < n) :
    ∃ b off x, A = some ⟨b, off, none⟩ ∧ b < w.heap.size ∧ xs[j]? = some x ∧ w.cell? ⟨b, off + j, none⟩ = some (.int .i64 x) := by
  obtain ⟨b, off, z, e, hlt, hz, _, hr⟩ := Rws.row h hj
  rw [List.getElem?_map] at hz
  cases he : xs[j]? with
  | none => rw [he] at hz; cases hz
  | some x =>
    rw [he] at hz
    simp only [Option.map_some, Option.some.injEq] at hz
    subst hz
    have := hr 0 _ rfl
    rw [Nat.mul_one, Nat.add_zero] at this
    exact ⟨b, off, x, e, hlt, rfl, this⟩
def OwnI (w : World) (base : Nat) (v : Value) (xs : List Int) : Prop := OwnR w base 1 3 v (xs.map iv)
theorem OwnI.ints {w : World} {base : Nat} {v : Value} {xs : List Int} (h : OwnI w base v xs) : ∃ A c, v = .slice A xs.length c ∧ Ints w A xs.length xs := by
  obtain ⟨A, c, hv, hr⟩ := OwnR.rws h
  rw [List.length_map] at hv hr
  exact ⟨A, c, hv, hr⟩
theorem OwnI.keep {w w' : World} {base : Nat} {v : Value} {xs : List Int} (h : OwnI w base v xs) (hb : Below w.heap.size w w') : OwnI w' base v xs := OwnR.keep h hb
theorem int_info : (Tryz.prog.info? 3).map (fun i => (i.zero, i.size, i.bytes)) = some (some (.int .i64 0), 1, 8) := by kernel_rfl

def hasI (xs : List Int) (x : Int) : Bool := xs.any (· == x)
def risesTo (xs : List Int) (k : Nat) : Bool := (List.range k).all fun i => decide (xs.getD i 0 < xs.getD (i + 1) 0)
def rises (xs : List Int) : Bool := risesTo xs (xs.length - 1)
theorem risesTo_succ (xs : List Int) (k : Nat) : risesTo xs (k + 1) = (risesTo xs k && decide (xs.getD k 0 < xs.getD (k + 1) 0)) := by
  unfold risesTo; rw [List.range_succ, List.all_append]; simp
theorem risesTo_le {xs : List Int} {m k : Nat} (h : m ≤ k) (hk : risesTo xs k = true) : risesTo xs m = true := by
  unfold risesTo at *
  rw [List.all_eq_true] at *
  intro i hi
  exact hk i (List.mem_range.2 (by have := List.mem_range.1 hi; omega))
theorem rises_bad {xs : List Int} {k : Nat} (hk : k + 1 < xs.length) (h : ¬ xs.getD k 0 < xs.getD (k + 1) 0) : rises xs = false := by
  unfold rises risesTo
  rw [List.all_eq_false]
  exact ⟨k, List.mem_range.2 (by omega), by rw [decide_eq_false h]; decide⟩
end

section
open Go.RowKit Go.ChangeShapes Go.WideShapes Go.Deep

def sv (s : ByteArray) : List Value := [.string s]
def Strs (w : World) (A : Option Addr) (n : Nat) (ss : List ByteArray) : Prop := Rws w 1 A n (ss.map sv)
theorem Strs.keep {w w' : World} {A : Option Addr} {n : Nat} {ss : List ByteArray} (h : Strs w A n ss) (hb : Below w.heap.size w w') : Strs w' A n ss := Rws.keep h hb
theorem Strs.len {w : World} {A : Option Addr} {n : Nat} {ss : List ByteArray} (h : Strs w A n ss) : ss.length = n := by simpa using h.1
theorem Strs.nil_ {w : World} {A : Option Addr} : Strs w A 0 [] := Rws.nil_
theorem Strs.at_ {w : World} {A : Option Addr} {n : Nat} {ss : List ByteArray} (h : Strs w A n ss) {j : Nat} (hj : j < n) :
    ∃ b off s, A = some ⟨b, off, none⟩ ∧ b < w.heap.size ∧ ss[j]? = some s ∧ w.cell? ⟨b, off + j, none⟩ = some (.string s) := by
  obtain ⟨b, off, z, e, hlt, hz, _, hr⟩ := Rws.row h hj
  rw [List.getElem?_map] at hz
  cases he : ss[j]? with
  | none => rw [he] at hz; cases hz
  | some x =>
    rw [he] at hz
    simp only [Option.map_some, Option.some.injEq] at hz
    subst hz
    have := hr 0 _ rfl
    rw [Nat.mul_one, Nat.add_zero] at this
    exact ⟨b, off, x, e, hlt, rfl, this⟩
/-- A beginning of a slice. -/
theorem Rws.take_ {w : World} {k n m : Nat} {A : Option Addr} {zs : List (List Value)} (h : Rws w k A n zs) (hm : m ≤ n) : Rws w k A m (zs.take m) :=
  ⟨by rw [List.length_take, h.1]; omega, fun z hz => h.2.1 z (List.mem_of_mem_take hz), fun hp => by
    obtain ⟨b, off, e, hlt, hc⟩ := h.2.2 (by omega)
    refine ⟨b, off, e, hlt, fun j z hz => ?_⟩
    rw [List.getElem?_take] at hz
    split at hz
    · exact hc j z hz
    · cases hz⟩
theorem Strs.take_ {w : World} {A : Option Addr} {n m : Nat} {ss : List ByteArray} (h : Strs w A n ss) (hm : m ≤ n) : Strs w A m (ss.take m) := by
  unfold Strs
  rw [List.map_take]
  exact Rws.take_ h hm

def strDs : List TypeDesc := [.string]
theorem str_flat : flatDesc Tryz.prog 2 9 = some strDs := by kernel_rfl
theorem strs_of_rows : ∀ (zs : List (List Value)), (∀ z ∈ zs, allOk strDs z) → ∃ ss : List ByteArray, zs = ss.map sv ∧ ∀ s ∈ ss, s.size ≤ maxLen
  | [], _ => ⟨[], rfl, by simp⟩
  | z :: r, h => by
    obtain ⟨hl, hc⟩ := h z (by simp)
    match z, hl with
    | [c0], _ =>
      obtain ⟨s, rfl, hs⟩ := hc 0 _ _ rfl rfl
      obtain ⟨ss, rfl, hss⟩ := strs_of_rows r (fun y hy => h y (by simp [hy]))
      refine ⟨s :: ss, rfl, fun x hx => ?_⟩
      rcases List.mem_cons.1 hx with rfl | hx
      · exact hs
      · exact hss x hx
set_option maxRecDepth 100000 in
theorem open_strs' {H : Type} {enc : TypeId × Value → H} {w : World} {base : Nat} {spare : Nat → Bool} {held : Bool} {r : Reach} {b0 : Nat} {v : Value} {d : DataW H} {ps : List MemPlace}
    (hv : Value.okWide Tryz.prog w r b0 29 v) (h : DataW.Trod enc Tryz.prog w base spare held 29 v d ps) :
    ∃ A n c ss, v = .slice A n c ∧ n ≤ c ∧ c ≤ 9223372036854775807 ∧ Strs w A n ss ∧ ∀ s ∈ ss, s.size ≤ 9223372036854775807 := by
  obtain ⟨a, len, cap, rfl⟩ := okWide_slice Tryz.underlying29 hv
  obtain ⟨fuel, hf⟩ := h
  obtain ⟨A, n, c, zs, hcs, hl, hm, hr, hok⟩ := open_rows Tryz.underlying29 str_flat (by kernel_rfl) (by decide) hf
  obtain ⟨ss, rfl, hss⟩ := strs_of_rows zs hok
  have : Value.slice a len cap = .slice A n c := by simpa [Value.cells] using hcs
  unfold maxLen at hm hss
  exact ⟨A, n, c, ss, this, hl, by omega, hr, fun s hs => by have := hss s hs; omega⟩

/-- A slice of strings of the call's own. -/
def OwnS (w : World) (base : Nat) (v : Value) (ss : List ByteArray) : Prop := OwnR w base 1 9 v (ss.map sv)
theorem OwnS.strs {w : World} {base : Nat} {v : Value} {ss : List ByteArray} (h : OwnS w base v ss) : ∃ A c, v = .slice A ss.length c ∧ Strs w A ss.length ss := by
  obtain ⟨A, c, hv, hr⟩ := OwnR.rws h
  rw [List.length_map] at hv hr
  exact ⟨A, c, hv, hr⟩
theorem OwnS.keep {w w' : World} {base : Nat} {v : Value} {ss : List ByteArray} (h : OwnS w base v ss) (hb : Below w.heap.size w w') : OwnS w' base v ss := OwnR.keep h hb
theorem str_info : (Tryz.prog.info? 9).map (fun i => (i.zero, i.size, i.bytes)) = some (some (.string ByteArray.empty), 1, 16) := by kernel_rfl

theorem Strs.block {w : World} {g : Nat} {ss : List ByteArray} {t : TypeId} {fr : Nat × Nat} (h : w.heap[g]? = some (.cells (ss.flatMap sv).toArray t fr)) (hlt : g < w.heap.size) : Strs w (some ⟨g, 0, none⟩) ss.length ss := by
  have := Rws.block (w := w) (zs := ss.map sv) (k := 1) (by intro z hz; obtain ⟨e, _, rfl⟩ := List.mem_map.1 hz; rfl) (by rw [← List.flatMap_def]; exact h) hlt
  simpa [Strs] using this

def has (ss : List ByteArray) (s : ByteArray) : Bool := ss.any (· == s)
def first (ss ts : List ByteArray) : Option ByteArray := ss.find? (has ts)
end

section
open Go.RowKit Go.ChangeShapes Go.WideShapes Go.Deep

def litOf : Value → Lit
  | .int k n => .int k n
  | .bool b => .bool b
  | .string s => .string s.data.toList
  | _ => .bool false
/-- No field of a flat type is blank. -/
def noBlank (P : Program) : Nat → TypeId → Bool
  | 0, _ => false
  | n + 1, t => match P.underlying t with
    | some (.struct fs) => fs.all (·.name != "_") && fs.toList.all (fun f => noBlank P n f.type)
    | some (.array _ e) => noBlank P n e
    | _ => true

section
variable {P : Program}
theorem mapM_range_pieces {f : Nat → Option (List Lit)} {g : Nat → List Lit} : ∀ (m : Nat), (∀ i, i < m → f i = some (g i)) → (List.range m).mapM f = some ((List.range m).map g) := by
  intro m
  induction m with
  | zero => intro _; simp
  | succ m ih =>
    intro h
    rw [List.range_succ, List.mapM_append, ih (fun i hi => h i (by omega)), List.map_append]
    simp [h m (by omega)]
theorem flatten_pieces {α : Type} (l : List α) (k : Nat) : ∀ (m : Nat), ((List.range m).map fun i => (l.drop (i * k)).take k).flatten = l.take (m * k) := by
  intro m
  induction m with
  | zero => simp
  | succ m ih =>
    rw [List.range_succ, List.map_append, List.flatten_append, ih, Nat.succ_mul, List.take_add]
    simp
theorem flat_keyLits : ∀ (n : Nat) (t : TypeId) (ds : List TypeDesc) (cs : List Value) (D : Nat), flatDesc P n t = some ds → noBlank P n t = true → allOk ds cs → n ≤ D → P.keyLits D t cs = some (cs.map litOf) := by
  intro n
  induction n with
  | zero => intro t ds cs D h; simp [flatDesc] at h
  | succ n ih =>
    intro t ds cs D h hb hc hD
    obtain ⟨d, rfl⟩ : ∃ d, D = d + 1 := ⟨D - 1, by omega⟩
    obtain ⟨hl, hok⟩ := hc
    unfold flatDesc at h
    unfold noBlank at hb
    cases hu : P.underlying t with
    | none => simp [hu] at h
    | some dd =>
      rw [hu] at h hb
      cases dd with
      | int k =>
        simp only [Option.some.injEq] at h
        subst h
        match cs, hl with
        | [v], _ =>
          obtain ⟨m, rfl, h1, h2⟩ := hok 0 _ _ rfl rfl
          have hwf : (Lit.int k m).wf = true := by simp only [Lit.wf, Bool.and_eq_true, decide_eq_true_eq]; exact ⟨h1, h2⟩
          unfold Program.keyLits
          rw [hu]
          simp [hwf, litOf]
      | bool =>
        simp only [Option.some.injEq] at h
        subst h
        match cs, hl with
        | [v], _ =>
          obtain ⟨m, rfl⟩ := hok 0 _ _ rfl rfl
          unfold Program.keyLits
          rw [hu]
          rfl
      | string =>
        simp only [Option.some.injEq] at h
        subst h
        match cs, hl with
        | [v], _ =>
          obtain ⟨m, rfl, h1⟩ := hok 0 _ _ rfl rfl
          unfold Program.keyLits
          rw [hu]
          simp [h1, litOf]
      | struct fs =>
        simp only [Option.bind_eq_bind, Option.bind_eq_some_iff] at h
        obtain ⟨ds0, h, hlast⟩ := h
        have hct : P.cellsOf t = ds0.length := by
          by_cases hc : P.cellsOf t = ds0.length
          · exact hc
          · rw [if_neg hc] at hlast; cases hlast
        rw [if_pos hct, Option.some.injEq] at hlast
        subst hlast
        simp only [Bool.and_eq_true] at hb
        have key : ∀ (l : List Field) (acc ds : List TypeDesc), l.all (fun f => noBlank P n f.type) = true →
            l.foldlM (fun (acc : List TypeDesc) f => if f.offset = acc.length then (flatDesc P n f.type).bind (fun l => if P.cellsOf f.type = l.length then some (acc ++ l) else none) else none) acc = some ds →
            ds.length ≤ cs.length → (∀ (i : Nat) (d : TypeDesc) (v : Value), ds[i]? = some d → cs[i]? = some v → cellOk d v) →
            acc.length ≤ ds.length ∧ (∃ pre, ds = acc ++ pre) ∧ ∃ pieces : List (List Lit), l.mapM (fun f => P.keyLits d f.type ((cs.drop f.offset).take (P.cellsOf f.type))) = some pieces ∧ pieces.flatten = ((cs.drop acc.length).take (ds.length - acc.length)).map litOf := by
          intro l
          induction l with
          | nil =>
            intro acc ds _ h _ _
            simp at h
            subst h
            exact ⟨Nat.le_refl _, ⟨[], by simp⟩, [], by simp, by simp⟩
          | cons f r ihl =>
            intro acc ds hnb h hlen hall
            rw [List.foldlM_cons] at h
            simp only [List.all_cons, Bool.and_eq_true] at hnb
            by_cases ho : f.offset = acc.length
            · rw [if_pos ho] at h
              cases hfd : flatDesc P n f.type with
              | none => simp [hfd] at h
              | some l0 =>
                rw [hfd] at h
                by_cases hc : P.cellsOf f.type = l0.length
                · simp only [Option.bind_some, if_pos hc, Option.bind_eq_bind] at h
                  obtain ⟨g1, ⟨pre, g2⟩, pieces, g3, g4⟩ := ihl (acc ++ l0) ds hnb.2 h hlen hall
                  rw [List.length_append] at g1
                  have hpc : allOk l0 ((cs.drop f.offset).take (P.cellsOf f.type)) := by
                    refine ⟨by rw [List.length_take, List.length_drop, hc, ho]; omega, fun i dd v hd hv => ?_⟩
                    have hil : i < l0.length := (List.getElem?_eq_some_iff.1 hd).1
                    rw [List.getElem?_take, if_pos (by omega), List.getElem?_drop, ho] at hv
                    refine hall (acc.length + i) dd v ?_ hv
                    rw [g2, List.append_assoc, List.getElem?_append_right (by omega), show acc.length + i - acc.length = i by omega, List.getElem?_append_left hil]
                    exact hd
                  have hk := ih f.type l0 _ d hfd hnb.1 hpc (by omega)
                  refine ⟨by omega, ⟨l0 ++ pre, by rw [g2, List.append_assoc]⟩, _ :: pieces, by rw [List.mapM_cons, hk, g3]; rfl, ?_⟩
                  rw [List.flatten_cons, g4, ho, hc, List.length_append, show ds.length - acc.length = l0.length + (ds.length - (acc.length + l0.length)) by omega, List.take_add, List.map_append, List.drop_drop]
                · simp only [Option.bind_some, if_neg hc] at h
                  simp at h
            · rw [if_neg ho] at h; simp at h
        obtain ⟨_, _, pieces, k3, k4⟩ := key fs.toList [] ds0 hb.2 h (by omega) hok
        unfold Program.keyLits
        rw [hu]
        simp only
        rw [if_pos ⟨by rw [hl, hct], hb.1⟩, k3, Option.map_some, k4]
        simp [← hl]
      | array m e =>
        simp only at h
        cases hfd : flatDesc P n e with
        | none => simp [hfd] at h
        | some l0 =>
          rw [hfd] at h
          by_cases hc : P.cellsOf e = l0.length ∧ P.cellsOf t = m * l0.length
          · simp only [Option.bind_some, if_pos hc, Option.some.injEq] at h
            subst h
            have hfl : (List.replicate m l0).flatten.length = m * l0.length := by simp
            rw [hfl] at hl
            unfold Program.keyLits
            rw [hu]
            simp only
            rw [if_pos (by rw [hl, hc.2])]
            rw [mapM_range_pieces (g := fun i => ((cs.drop (i * P.cellsOf e)).take (P.cellsOf e)).map litOf) m (fun i hi => ih e l0 _ d hfd hb ?_ (by omega))]
            · rw [Option.map_some, hc.1]
              have := flatten_pieces (cs.map litOf) l0.length m
              rw [List.take_of_length_le (by simp [hl])] at this
              rw [← this]
              simp only [List.map_drop, List.map_take]
            · refine ⟨by rw [List.length_take, List.length_drop, hc.1, hl]; have : i * l0.length + l0.length ≤ m * l0.length := by rw [← Nat.succ_mul]; exact Nat.mul_le_mul_right _ hi
                         omega, fun q dd v hd hv => ?_⟩
              have hq : q < l0.length := (List.getElem?_eq_some_iff.1 hd).1
              rw [hc.1, List.getElem?_take, if_pos hq, List.getElem?_drop] at hv
              refine hok (i * l0.length + q) dd v ?_ hv
              have hlt : i * l0.length + q < m * l0.length := by
                have : i * l0.length + l0.length ≤ m * l0.length := by rw [← Nat.succ_mul]; exact Nat.mul_le_mul_right _ hi
                omega
              rw [replicate_flatten_get, if_pos hlt, Nat.mul_comm, Nat.mul_add_mod, Nat.mod_eq_of_lt hq]
              exact hd
          · simp only [Option.bind_some, if_neg hc] at h
            simp at h
      | _ => simp at h
theorem litOf_inj {d : TypeDesc} {a b : Value} (ha : cellOk d a) (hb : cellOk d b) (h : litOf a = litOf b) : a = b := by
  cases d with
  | int k =>
    obtain ⟨m, rfl, _⟩ := ha
    obtain ⟨q, rfl, _⟩ := hb
    simp only [litOf, Lit.int.injEq] at h
    rw [h.2]
  | bool =>
    obtain ⟨m, rfl⟩ := ha
    obtain ⟨q, rfl⟩ := hb
    simp only [litOf, Lit.bool.injEq] at h
    rw [h]
  | string =>
    obtain ⟨m, rfl, _⟩ := ha
    obtain ⟨q, rfl, _⟩ := hb
    simp only [litOf, Lit.string.injEq] at h
    obtain ⟨m⟩ := m
    obtain ⟨q⟩ := q
    simp only at h
    rw [Array.toList_inj.1 h]
  | _ => exact absurd ha (by simp [cellOk])
theorem lits_eq {ds : List TypeDesc} {xs ys : List Value} (hx : allOk ds xs) (hy : allOk ds ys) : xs.map litOf = ys.map litOf ↔ xs = ys := by
  constructor
  · intro h
    apply List.ext_getElem?
    intro i
    by_cases hi : i < ds.length
    · have h1 : i < xs.length := by rw [hx.1]; exact hi
      have h2 : i < ys.length := by rw [hy.1]; exact hi
      rw [List.getElem?_eq_getElem h1, List.getElem?_eq_getElem h2]
      have h3 : (xs.map litOf)[i]? = (ys.map litOf)[i]? := by rw [h]
      rw [List.getElem?_map, List.getElem?_map, List.getElem?_eq_getElem h1, List.getElem?_eq_getElem h2] at h3
      simp only [Option.map_some, Option.some.injEq] at h3
      rw [litOf_inj (hx.2 i _ _ (List.getElem?_eq_getElem hi) (List.getElem?_eq_getElem h1)) (hy.2 i _ _ (List.getElem?_eq_getElem hi) (List.getElem?_eq_getElem h2)) h3]
    · rw [List.getElem?_eq_none (by rw [hx.1]; omega), List.getElem?_eq_none (by rw [hy.1]; omega)]
  · rintro rfl; rfl
/-- '==' at a flat struct. -/
theorem eql_flat {n m : Nat} {t : TypeId} {ds : List TypeDesc} {fs : Array Field} (hu : P.underlying t = some (.struct fs)) (hct : P.cellsOf t = ds.length) (hf : flatDesc P n t = some ds) (hb : noBlank P n t = true) (hk : P.keyTypeAt m t = true) (hm : m ≤ 10000)
    (xs ys : List Value) (hx : allOk ds xs) (hy : allOk ds ys) (q : Bool) (hq : (q = true ↔ xs = ys)) (w : World) :
    (binOp .eql t (.agg xs.toArray) (.agg ys.toArray)).run P w = .ok (.bool q) w := by
  have fx : (Value.agg xs.toArray).formed P t = true := by unfold Value.formed; rw [hu]; simp [hct, hx.1]
  have fy : (Value.agg ys.toArray).formed P t = true := by unfold Value.formed; rw [hu]; simp [hct, hy.1]
  have kx := flat_keyLits n t ds xs n hf hb hx (Nat.le_refl _)
  have ky := flat_keyLits n t ds ys n hf hb hy (Nat.le_refl _)
  obtain ⟨r, hr, hiff⟩ := run_equalIn_deep (10000 - m) m t hk w n n _ _ _ _ fx fy (by simpa [Value.cells] using kx) (by simpa [Value.cells] using ky)
  rw [run_eql_struct, show (10000 : Nat) = 10000 - m + m by omega, hr]
  have : r = q := by rw [Bool.eq_iff_iff, hiff, lits_eq hx hy, hq]
  rw [this]
  rfl
end
section
variable {P : Program} {ops : Array Oper} {Q : Exit → Act → World → Prop} {a : Act} {w : World} {rest : List Oper} {o : Oper}
/-- 'x == y' at structs, as one step of a region. -/
theorem wpList_eql_at (t t' : TypeId) (x y : Operand) (ho : o.op = .binOp .eql t x y t') (hw : Region.wanted o (yielded ops a.tmps) = true) (xs ys : Array Value) (hx : a.eval x = .agg xs) (hy : a.eval y = .agg ys)
    (hm : P.eqGuardType P.depth t = false) (q : Bool) (hq : (binOp .eql t (.agg xs) (.agg ys)).run P w = .ok (.bool q) w) (h : wpList P ops Q rest (a.put o.dst (.bool q)) w) : wpList P ops Q (o :: rest) a w :=
  wpList_val hw (by
    unfold execOp
    simp only [ho, hx, hy, Sem.run_bind, run_eqGuard_agg w .eql t x y xs ys hm, Result.andThen_ok, hq, Sem.run_pure]) h
end
end

section
open Go.RowKit Go.Maps

/-! ### What stays -/
/-- All blocks stay but those of F. -/
structure Keeps (F : Nat → Prop) (w w' : World) : Prop where
  os : w'.os = w.os
  tape : w'.tape = w.tape
  output : w'.output = w.output
  size : w.heap.size ≤ w'.heap.size
  block : ∀ k, k < w.heap.size → ¬ F k → w'.heap[k]? = w.heap[k]?
theorem Keeps.of_below {F : Nat → Prop} {w w' : World} (h : Below w.heap.size w w') : Keeps F w w' := ⟨h.os, h.tape, h.output, h.size, fun k hk _ => h.block k hk⟩
theorem Keeps.refl (F : Nat → Prop) (w : World) : Keeps F w w := ⟨rfl, rfl, rfl, Nat.le_refl _, fun _ _ _ => rfl⟩
theorem Keeps.trans {F : Nat → Prop} {a b c : World} (h : Keeps F a b) (k : Keeps F b c) : Keeps F a c :=
  ⟨k.os.trans h.os, k.tape.trans h.tape, k.output.trans h.output, Nat.le_trans h.size k.size, fun i hi hf => (k.block i (Nat.lt_of_lt_of_le hi h.size) hf).trans (h.block i hi hf)⟩
theorem Keeps.mono {F G : Nat → Prop} {w w' : World} (h : Keeps F w w') (hFG : ∀ k, k < w.heap.size → F k → G k) : Keeps G w w' := ⟨h.os, h.tape, h.output, h.size, fun k hk hg => h.block k hk (fun hf => hg (hFG k hk hf))⟩
theorem Keeps.below {F : Nat → Prop} {w w' : World} {B : Nat} (h : Keeps F w w') (hF : ∀ k, F k → B ≤ k) (hB : B ≤ w.heap.size) : Below B w w' :=
  ⟨h.os, h.tape, h.output, h.size, fun k hk => h.block k (by omega) (fun hf => by have := hF k hf; omega)⟩
theorem Keeps.of_grown {F : Nat → Prop} {w w' : World} {row : Option Nat} (h : w.grownBy w' row) (hF : ∀ q, row = some q → F q) : Keeps F w w' :=
  ⟨h.os, h.tape, h.output, h.size, fun k hk hf => h.block k hk (fun e => hf (hF k e.symm))⟩
theorem Keeps.cell {F : Nat → Prop} {w w' : World} (h : Keeps F w w') {a : Addr} (hlt : a.block < w.heap.size) (hf : ¬ F a.block) : w'.cell? a = w.cell? a := World.cell?_of_block (h.block a.block hlt hf)
/-- A slice's block is none of F. -/
def OffV (F : Nat → Prop) (v : Value) : Prop := ∀ q, v.ownBlock = some q → ¬ F q
theorem OwnR.keepF {w w' : World} {base k : Nat} {E : TypeId} {v : Value} {zs : List (List Value)} {F : Nat → Prop} (h : OwnR w base k E v zs) (hb : Keeps F w w') (ho : OffV F v) : OwnR w' base k E v zs := by
  obtain ⟨⟨hl, hh⟩, hz⟩ := h
  refine ⟨⟨hl, ?_⟩, hz⟩
  rcases hh with h0 | ⟨g, cap, cur, hv, hg, hc, r⟩
  · exact .inl h0
  · have hlt : g < w.heap.size := (Array.getElem?_eq_some_iff.1 hc).1
    refine .inr ⟨g, cap, cur, hv, hg, (hb.block g hlt (ho g ?_)).trans hc, r⟩
    rw [hv]; rfl
theorem Rws.keepF {w w' : World} {k n : Nat} {A : Option Addr} {zs : List (List Value)} {F : Nat → Prop} (h : Rws w k A n zs) (hb : Keeps F w w') (ho : ∀ b off, A = some ⟨b, off, none⟩ → 0 < n → ¬ F b) : Rws w' k A n zs :=
  ⟨h.1, h.2.1, fun hn => by
    obtain ⟨b, off, e, hlt, hc⟩ := h.2.2 hn
    refine ⟨b, off, e, Nat.lt_of_lt_of_le hlt hb.size, fun j z hz i v hv => ?_⟩
    rw [hb.cell (a := ⟨b, off + j * k + i, none⟩) hlt (ho b off e hn)]
    exact hc j z hz i v hv⟩
theorem ownBlock_lt {w : World} {base k : Nat} {E : TypeId} {v : Value} {zs : List (List Value)} (h : OwnR w base k E v zs) {q : Nat} (hq : v.ownBlock = some q) : q < w.heap.size := (h.1.lt q hq).2

/-! ### Nodes -/
def bs (l : List UInt8) : ByteArray := ⟨l.toArray⟩
theorem bs_size (l : List UInt8) : (bs l).size = l.length := by simp [bs, ByteArray.size]
theorem bs_inj {l m : List UInt8} (h : bs l = bs m) : l = m := by
  unfold bs at h
  injection h with h
  simpa using congrArg Array.toList h
/-- A term's node: the term, the slice of those that it is made of, and their numbers. -/
structure Nd where
  t : Tm
  v : Value
  xs : List Nat
def Nd.row (x : Nd) : List Value := [.int .i64 x.t.kind, .int .i64 x.t.a, .int .i64 x.t.b, .string (bs x.t.s), x.v]
def idv (x : Nat) : List Value := [.int .i64 x]
/-- A slice of numbers of terms, in a block of the arena's own. -/
def IdsV (w : World) (v : Value) (xs : List Nat) : Prop :=
  ∃ A c, v = .slice A xs.length c ∧ Rws w 1 A xs.length (xs.map idv) ∧ (0 < xs.length → ∃ b off cur fr, A = some ⟨b, off, none⟩ ∧ w.heap[b]? = some (.cells cur 33 fr))
/-- An arena: where its struct, its map, its slices lie; its nodes. -/
structure Ar where
  g : Nat
  bm : Nat
  vn : Value
  vs : Value
  N : List Nd
def Ar.L (A : Ar) : List Tm := A.N.map Nd.t
theorem Ar.L_len (A : Ar) : A.L.length = A.N.length := by simp [Ar.L]
theorem Ar.L_at {A : Ar} {j : Nat} {x : Nd} (h : A.N[j]? = some x) : A.L[j]? = some x.t := by unfold Ar.L; rw [List.getElem?_map, h]; rfl
theorem Ar.N_at {A : Ar} {j : Nat} {t : Tm} (h : A.L[j]? = some t) : ∃ x, A.N[j]? = some x ∧ x.t = t := by
  unfold Ar.L at h
  rw [List.getElem?_map] at h
  cases e : A.N[j]? with
  | none => rw [e] at h; cases h
  | some x => rw [e] at h; exact ⟨x, rfl, by simpa using h⟩
/-- The arena's own blocks that are written. -/
def Ar.has (A : Ar) (b : Nat) : Prop := b = A.g ∨ b = A.bm ∨ A.vn.ownBlock = some b ∨ A.vs.ownBlock = some b
/-- The numbers' text, by which a term's node is found. -/
def joinL : List Nat → List UInt8
  | [] => []
  | x :: r => Lib.decDigits x ++ 32 :: joinL r
def keyV (t : Tm) (xs : List Nat) : Value := .agg #[.int .i64 t.kind, .int .i64 t.a, .int .i64 t.b, .string (bs t.s), .string (bs (joinL xs))]
/-- What the map holds: each node's key with its number, and no other key. -/
def MapOk (D : DataW Unit) (N : List Nd) : Prop :=
  (∀ (j : Nat) (x : Nd) (kl : Lit), N[j]? = some x → keyOf Tryz.prog 142 (keyV x.t x.xs) = some kl → Maps.has D kl = true ∧ ∀ z, D.atKey kl z = .lit (.int .i64 j)) ∧
  (∀ kl, Maps.has D kl = true → ∃ (j : Nat) (x : Nd), N[j]? = some x ∧ keyOf Tryz.prog 142 (keyV x.t x.xs) = some kl)
/-- An arena in memory, from block B on. -/
structure Arena (w : World) (B : Nat) (A : Ar) : Prop where
  blk : w.heap[A.g]? = some (.cells #[A.vn, A.vs, .map (some A.bm)] 64 (0, 0))
  hg : B ≤ A.g
  hm : B ≤ A.bm
  nodes : OwnR w B 5 52 A.vn (A.N.map Nd.row)
  sizes : OwnI w B A.vs (A.N.map fun x => (x.t.len : Int))
  map : ∃ D : DataW Unit, w.ownsMap Tryz.prog 142 (plainElem Tryz.prog 33) A.bm A.N.length D ∧ MapOk D A.N
  ids : ∀ x ∈ A.N, IdsV w x.v x.xs
  args : ∀ x ∈ A.N, x.xs.map (fun i => A.L[i]?) = x.t.args.map some
  good : Good A.L
  few : A.N.length ≤ 100
theorem Arena.lt {w : World} {B : Nat} {A : Ar} (h : Arena w B A) : A.g < w.heap.size := (Array.getElem?_eq_some_iff.1 h.blk).1
theorem Arena.has_ge {w : World} {B : Nat} {A : Ar} (h : Arena w B A) {b : Nat} (hb : A.has b) : B ≤ b ∧ b < w.heap.size := by
  rcases hb with rfl | rfl | hb | hb
  · exact ⟨h.hg, h.lt⟩
  · obtain ⟨D, hD, _⟩ := h.map
    exact ⟨h.hm, hD.lt⟩
  · exact h.nodes.1.lt b hb
  · exact h.sizes.1.lt b hb
theorem IdsV.keep {w w' : World} {v : Value} {xs : List Nat} {F : Nat → Prop} (h : IdsV w v xs) (hb : Keeps F w w') (ho : ∀ b cur fr, w.heap[b]? = some (.cells cur 33 fr) → ¬ F b) : IdsV w' v xs := by
  obtain ⟨A, c, hv, hr, hi⟩ := h
  refine ⟨A, c, hv, hr.keepF hb (fun b off e hn => ?_), fun hn => ?_⟩
  · obtain ⟨b', off', cur, fr, e', hc⟩ := hi hn
    rw [e] at e'
    injection e' with e'
    injection e' with e1 e2 e3
    subst e1
    exact ho _ _ _ hc
  · obtain ⟨b, off, cur, fr, e, hc⟩ := hi hn
    exact ⟨b, off, cur, fr, e, (hb.block b (Array.getElem?_eq_some_iff.1 hc).1 (ho _ _ _ hc)).trans hc⟩
/-- An arena stays where its blocks, and all of numbers of terms, stay. -/
theorem Arena.keepF {w w' : World} {B : Nat} {A : Ar} {F : Nat → Prop} (h : Arena w B A) (hb : Keeps F w w') (ho : ∀ b, A.has b → ¬ F b) (hi : ∀ b cur fr, w.heap[b]? = some (.cells cur 33 fr) → ¬ F b) : Arena w' B A := by
  obtain ⟨D, hD, hDo⟩ := h.map
  refine ⟨(hb.block A.g h.lt (ho _ (.inl rfl))).trans h.blk, h.hg, h.hm, h.nodes.keepF hb (fun q hq => ho q (.inr (.inr (.inl hq)))), OwnR.keepF h.sizes hb (fun q hq => ho q (.inr (.inr (.inr hq)))), ⟨D, ?_, hDo⟩, fun x hx => (h.ids x hx).keep hb hi, h.args, h.good, h.few⟩
  obtain ⟨es, clock, hbm, r⟩ := hD
  exact ⟨es, clock, (hb.block A.bm (Array.getElem?_eq_some_iff.1 hbm).1 (ho _ (.inr (.inl rfl)))).trans hbm, r⟩
/-- A slice's block is none of F, where it has elements. -/
def OffS (F : Nat → Prop) (v : Value) : Prop := ∀ A n c, v = .slice A n c → 0 < n → OffV F v
theorem IdsV.keepO {w w' : World} {v : Value} {xs : List Nat} {F : Nat → Prop} (h : IdsV w v xs) (hb : Keeps F w w') (ho : OffS F v) : IdsV w' v xs := by
  obtain ⟨A, c, hv, hr, hi⟩ := h
  have hq : 0 < xs.length → ∀ b off, A = some ⟨b, off, none⟩ → ¬ F b := fun hn b off e => ho _ _ _ hv hn b (by rw [hv, e]; rfl)
  refine ⟨A, c, hv, hr.keepF hb (fun b off e hn => hq hn b off e), fun hn => ?_⟩
  obtain ⟨b, off, cur, fr, e, hc⟩ := hi hn
  exact ⟨b, off, cur, fr, e, (hb.block b (Array.getElem?_eq_some_iff.1 hc).1 (hq hn b off e)).trans hc⟩
theorem IdsV.lt {w : World} {v : Value} {xs : List Nat} (h : IdsV w v xs) {q : Nat} (hq : v.ownBlock = some q) (hx : 0 < xs.length) : q < w.heap.size := by
  obtain ⟨A, c, hv, hr, hi⟩ := h
  obtain ⟨b, off, cur, fr, e, hc⟩ := hi hx
  rw [hv, e] at hq
  injection hq with hq
  rw [← hq]
  exact (Array.getElem?_eq_some_iff.1 hc).1
/-- An arena stays where its blocks, and its nodes' numbers, stay. -/
theorem Arena.keepO {w w' : World} {B : Nat} {A : Ar} {F : Nat → Prop} (h : Arena w B A) (hb : Keeps F w w') (ho : ∀ b, A.has b → ¬ F b) (hi : ∀ x ∈ A.N, OffS F x.v) : Arena w' B A := by
  obtain ⟨D, hD, hDo⟩ := h.map
  refine ⟨(hb.block A.g h.lt (ho _ (.inl rfl))).trans h.blk, h.hg, h.hm, h.nodes.keepF hb (fun q hq => ho q (.inr (.inr (.inl hq)))), OwnR.keepF h.sizes hb (fun q hq => ho q (.inr (.inr (.inr hq)))), ⟨D, ?_, hDo⟩, fun x hx => (h.ids x hx).keepO hb (hi x hx), h.args, h.good, h.few⟩
  obtain ⟨es, clock, hbm, r⟩ := hD
  exact ⟨es, clock, (hb.block A.bm (Array.getElem?_eq_some_iff.1 hbm).1 (ho _ (.inr (.inl rfl)))).trans hbm, r⟩
theorem Arena.keep {w w' : World} {B : Nat} {A : Ar} (h : Arena w B A) (hb : Below w.heap.size w w') : Arena w' B A :=
  h.keepF (F := fun _ => False) (Keeps.of_below hb) (fun _ _ h => h) (fun _ _ _ _ h => h)
theorem Arena.mono {w : World} {B B' : Nat} {A : Ar} (h : Arena w B A) (hB : B' ≤ B) : Arena w B' A := by
  have hm : ∀ {base k : Nat} {E : TypeId} {v : Value} {zs : List (List Value)}, OwnR w base k E v zs → B' ≤ base → OwnR w B' k E v zs := by
    intro base k E v zs h hB
    obtain ⟨⟨hl, hh⟩, hz⟩ := h
    refine ⟨⟨hl, ?_⟩, hz⟩
    rcases hh with h0 | ⟨g, cap, cur, hv, hg, r⟩
    · exact .inl h0
    · exact .inr ⟨g, cap, cur, hv, by omega, r⟩
  exact ⟨h.blk, Nat.le_trans hB h.hg, Nat.le_trans hB h.hm, hm h.nodes hB, hm h.sizes hB, h.map, h.ids, h.args, h.good, h.few⟩
/-- What a call on an arena has left: it has grown by the term o; all blocks but its own stay. -/
structure Grew (w w' : World) (B : Nat) (A A' : Ar) (o : Option Tm) : Prop where
  arena : Arena w' B A'
  same : A'.g = A.g
  grow : Grow A.L A'.L o
  keeps : Keeps A.has w w'
  fresh : ∀ x ∈ A'.N, x ∈ A.N ∨ ∀ q, x.v.ownBlock = some q → w.heap.size ≤ q
  bm : A'.bm = A.bm

/-! ### Keys -/
theorem split32 : ∀ (l m r r' : List UInt8), (32 : UInt8) ∉ l → (32 : UInt8) ∉ m → l ++ 32 :: r = m ++ 32 :: r' → l = m ∧ r = r'
  | [], [], r, r', _, _, h => by simpa using h
  | [], y :: m, r, r', _, h2, h => by
    simp only [List.nil_append, List.cons_append, List.cons.injEq] at h
    exact absurd (by rw [h.1]; simp) h2
  | x :: l, [], r, r', h1, _, h => by
    simp only [List.nil_append, List.cons_append, List.cons.injEq] at h
    exact absurd (by rw [← h.1]; simp) h1
  | x :: l, y :: m, r, r', h1, h2, h => by
    simp only [List.cons_append, List.cons.injEq] at h
    obtain ⟨e1, e2⟩ := split32 l m r r' (fun hh => h1 (by simp [hh])) (fun hh => h2 (by simp [hh])) h.2
    exact ⟨by rw [h.1, e1], e2⟩
theorem dig_ne {i : Nat} (h : i < 10) : UInt8.ofNat (48 + i) ≠ 32 := fun e => by
  have := ofNat_inj (x := 48 + i) (y := 32) (by omega) (by decide) e
  omega
theorem digits_no {x : Nat} (h : x < 100) : (32 : UInt8) ∉ Lib.decDigits x := by
  by_cases h1 : x < 10
  · rw [Lib.decDigits_one h1]
    simp only [List.mem_singleton]
    exact fun e => dig_ne h1 e.symm
  · rw [Lib.decDigits_two h1 h]
    simp only [List.mem_cons, List.not_mem_nil, or_false]
    rintro (e | e)
    · exact dig_ne (i := x / 10) (by omega) e.symm
    · exact dig_ne (i := x % 10) (by omega) e.symm
theorem digits_eq {x y : Nat} (hx : x < 100) (hy : y < 100) (h : Lib.decDigits x = Lib.decDigits y) : x = y := by
  by_cases h1 : x < 10 <;> by_cases h2 : y < 10
  · rw [Lib.decDigits_one h1, Lib.decDigits_one h2] at h
    simp only [List.cons.injEq, and_true] at h
    have := ofNat_inj (by omega) (by omega) h
    omega
  · rw [Lib.decDigits_one h1, Lib.decDigits_two h2 hy] at h
    simp at h
  · rw [Lib.decDigits_two h1 hx, Lib.decDigits_one h2] at h
    simp at h
  · rw [Lib.decDigits_two h1 hx, Lib.decDigits_two h2 hy] at h
    simp only [List.cons.injEq, and_true] at h
    have e1 := ofNat_inj (by omega) (by omega) h.1
    have e2 := ofNat_inj (by omega) (by omega) h.2
    omega
theorem joinL_inj : ∀ (l m : List Nat), (∀ x ∈ l, x < 100) → (∀ x ∈ m, x < 100) → joinL l = joinL m → l = m
  | [], [], _, _, _ => rfl
  | [], y :: m, _, _, h => by
    have := congrArg List.length h
    simp [joinL] at this
  | x :: l, [], _, _, h => by
    have := congrArg List.length h
    simp [joinL] at this
  | x :: l, y :: m, h1, h2, h => by
    rw [joinL, joinL] at h
    have hx := h1 x (by simp)
    have hy := h2 y (by simp)
    obtain ⟨e1, e2⟩ := split32 _ _ _ _ (digits_no hx) (digits_no hy) h
    rw [digits_eq hx hy e1, joinL_inj l m (fun z hz => h1 z (by simp [hz])) (fun z hz => h2 z (by simp [hz])) e2]
def shDs : List TypeDesc := [.int .i64, .int .i64, .int .i64, .string, .string]
theorem sh_flat : flatDesc Tryz.prog 4 142 = some shDs := by kernel_rfl
theorem sh_noBlank : noBlank Tryz.prog 4 142 = true := by kernel_rfl
theorem sh_key : Tryz.prog.keyType 142 = true := by kernel_rfl
theorem sh_cells : Tryz.prog.cellsOf 142 = 5 := by kernel_rfl
theorem sh_law : Keyed Tryz.prog 142 := Keyed.of_law (deep_law_laid (m := 8) (by kernel_rfl) (by decide) (by rw [show Tryz.prog.types.size = 207 by kernel_rfl]; decide) (by kernel_rfl) (by kernel_rfl))
theorem sh_keyOf {cs : List Value} (h : allOk shDs cs) : ∃ kl, keyOf Tryz.prog 142 (.agg cs.toArray) = some kl := by
  have fx : (Value.agg cs.toArray).formed Tryz.prog 142 = true := by
    unfold Value.formed
    rw [Tryz.underlying142]
    simp only [List.size_toArray, h.1, sh_cells]
    rfl
  have kx := flat_keyLits 4 _ _ _ (Tryz.prog.types.size + 1) sh_flat sh_noBlank h (by rw [show Tryz.prog.types.size = 207 by kernel_rfl]; decide)
  refine ⟨.string (keyBytes (cs.map litOf)), ?_⟩
  unfold keyOf
  rw [Tryz.underlying142]
  simp only [sh_key, fx, Bool.and_self, if_true, Value.cells, kx]
  rfl
end

section
open Go.Shelf Go.RowKit

def bldRen : Go.Shelf.Ren := ⟨fun | 166 => 89 | 169 => 46 | 240 => 111 | 276 => 127 | n => n, fun | 0 => 0 | 3 => 3 | 4 => 4 | 5 => 5 | 9 => 9 | 20 => 20 | 37 => 96 | 70 => 95 | 72 => 98 | 75 => 134 | 76 => 135 | 80 => 100 | 127 => 138 | 164 => 173 | n => n, fun | n => n⟩
theorem bld240 : Go.Proofs.Lays.n240 Tryz.prog bldRen := {
  mixed := by kernel_rfl
  f240 := Tryz.func111.trans (congrArg some (by kernel_rfl))
  f276 := Tryz.func127.trans (congrArg some (by kernel_rfl))
  t0 := by kernel_rfl
  a0 := Tryz.isAgg0
  z0 := Tryz.sizeOf0
  v0 := Tryz.zeroValue0
  t4 := by kernel_rfl
  a4 := Tryz.isAgg4
  z4 := Tryz.sizeOf4
  v4 := Tryz.zeroValue4
  t9 := by kernel_rfl
  a9 := Tryz.isAgg9
  z9 := Tryz.sizeOf9
  v9 := Tryz.zeroValue9
  t20 := by kernel_rfl
  a20 := Tryz.isAgg20
  z20 := Tryz.sizeOf20
  v20 := Tryz.zeroValue20
  t70 := by kernel_rfl
  a70 := Tryz.isAgg95
  z70 := Tryz.sizeOf95
  v70 := Tryz.zeroValue95
  t72 := by kernel_rfl
  a72 := Tryz.isAgg98
  z72 := Tryz.sizeOf98
  v72 := Tryz.zeroValue98
  t164 := by kernel_rfl
  a164 := Tryz.isAgg173
  z164 := Tryz.sizeOf173
  v164 := Tryz.zeroValue173 }
theorem bld166 : Go.Proofs.Lays.n166 Tryz.prog bldRen := {
  mixed := by kernel_rfl
  f166 := Tryz.func89.trans (congrArg some (by kernel_rfl))
  f240 := Tryz.func111.trans (congrArg some (by kernel_rfl))
  f276 := Tryz.func127.trans (congrArg some (by kernel_rfl))
  t0 := by kernel_rfl
  a0 := Tryz.isAgg0
  z0 := Tryz.sizeOf0
  v0 := Tryz.zeroValue0
  t3 := by kernel_rfl
  a3 := Tryz.isAgg3
  z3 := Tryz.sizeOf3
  v3 := Tryz.zeroValue3
  t4 := by kernel_rfl
  a4 := Tryz.isAgg4
  z4 := Tryz.sizeOf4
  v4 := Tryz.zeroValue4
  t9 := by kernel_rfl
  a9 := Tryz.isAgg9
  z9 := Tryz.sizeOf9
  v9 := Tryz.zeroValue9
  t20 := by kernel_rfl
  a20 := Tryz.isAgg20
  z20 := Tryz.sizeOf20
  v20 := Tryz.zeroValue20
  t37 := by kernel_rfl
  a37 := Tryz.isAgg96
  z37 := Tryz.sizeOf96
  v37 := Tryz.zeroValue96
  t70 := by kernel_rfl
  a70 := Tryz.isAgg95
  z70 := Tryz.sizeOf95
  v70 := Tryz.zeroValue95
  t72 := by kernel_rfl
  a72 := Tryz.isAgg98
  z72 := Tryz.sizeOf98
  v72 := Tryz.zeroValue98
  t75 := by kernel_rfl
  a75 := Tryz.isAgg134
  z75 := Tryz.sizeOf134
  v75 := Tryz.zeroValue134
  t164 := by kernel_rfl
  a164 := Tryz.isAgg173
  z164 := Tryz.sizeOf173
  v164 := Tryz.zeroValue173 }
theorem bld169 : Go.Proofs.Lays.n169 Tryz.prog bldRen := {
  mixed := by kernel_rfl
  f169 := Tryz.func46.trans (congrArg some (by kernel_rfl))
  t0 := by kernel_rfl
  a0 := Tryz.isAgg0
  z0 := Tryz.sizeOf0
  v0 := Tryz.zeroValue0
  t3 := by kernel_rfl
  a3 := Tryz.isAgg3
  z3 := Tryz.sizeOf3
  v3 := Tryz.zeroValue3
  t9 := by kernel_rfl
  a9 := Tryz.isAgg9
  z9 := Tryz.sizeOf9
  v9 := Tryz.zeroValue9
  t37 := by kernel_rfl
  a37 := Tryz.isAgg96
  z37 := Tryz.sizeOf96
  v37 := Tryz.zeroValue96
  t70 := by kernel_rfl
  a70 := Tryz.isAgg95
  z70 := Tryz.sizeOf95
  v70 := Tryz.zeroValue95
  t72 := by kernel_rfl
  a72 := Tryz.isAgg98
  z72 := Tryz.sizeOf98
  v72 := Tryz.zeroValue98
  t127 := by kernel_rfl
  a127 := Tryz.isAgg138
  z127 := Tryz.sizeOf138
  v127 := Tryz.zeroValue138 }
theorem bldX : Builder.Extra Tryz.prog bldRen := {
  sizeBuilder := by kernel_rfl
  liesBuilder := by kernel_rfl
  t5 := by kernel_rfl
  a5 := Tryz.isAgg5
  z5 := Tryz.sizeOf5
  v5 := Tryz.zeroValue5
  infoByte := by kernel_rfl
  cellsByte := by kernel_rfl
  sizeByte := by kernel_rfl
  neB5 := by decide }
theorem bldWrite (B b : Nat) (bs : List Value) (s : ByteArray) (w : World) (h : Lib.IsBuilder 98 5 B b bs w) (hlen : bs.length + s.size ≤ 140737488355328) (hBw : B ≤ w.heap.size) :
    Calls Tryz.prog 89 #[.pointer (some ⟨b, 0, none⟩), .string s] w fun e w' => e = .returned (.tuple #[.int .i64 s.size, .nilIface]) ∧ (Lib.BuilderAt 98 5 B b (.pointer (some ⟨b, 0, none⟩)) (bs ++ Lib.strCells s) w' ∧ Below B w w') :=
  Any.Builder_WriteString bld166 bldX B b bs s w h hlen hBw
theorem bldString (B b : Nat) (l : List UInt8) (w : World) (h : Lib.IsBuilder 98 5 B b (Lib.byteCells l) w) (hBw : B ≤ w.heap.size) :
    Calls Tryz.prog 46 #[.pointer (some ⟨b, 0, none⟩)] w fun e w' => e = .returned (.string ⟨l.toArray⟩) ∧ Below B w w' :=
  Any.Builder_String_any bld169 bldX B b l w h hBw
end

section
open Go.RowKit Go.Maps

theorem below_new (w : World) (o : Obj) : Below w.heap.size w (w.alloc o) := (Below.refl _ _).alloc (Nat.le_refl _) o
/-- What the arena's struct holds. -/
theorem Arena.open_ {w : World} {B : Nat} {A : Ar} (h : Arena w B A) : ∃ An cn As cs, A.vn = .slice An A.N.length cn ∧ A.vs = .slice As A.N.length cs ∧
    w.cell? ⟨A.g, 0, none⟩ = some (.slice An A.N.length cn) ∧ w.cell? ⟨A.g, 1, none⟩ = some (.slice As A.N.length cs) ∧ w.cell? ⟨A.g, 2, none⟩ = some (.map (some A.bm)) ∧
    Rws w 5 An A.N.length (A.N.map Nd.row) ∧ Ints w As A.N.length (A.N.map fun x => (x.t.len : Int)) := by
  obtain ⟨An, cn, e1, h1⟩ := h.nodes.rws
  obtain ⟨As, cs, e2, h2⟩ := OwnI.ints h.sizes
  rw [List.length_map] at e1 h1 e2 h2
  refine ⟨An, cn, As, cs, e1, e2, ?_, ?_, ?_, h1, h2⟩
  · rw [cell_of_row w A.g 0 _ _ _ h.blk, e1]; rfl
  · rw [cell_of_row w A.g 1 _ _ _ h.blk, e2]; rfl
  · rw [cell_of_row w A.g 2 _ _ _ h.blk]; rfl
theorem Nd.len (x : Nd) : x.row.length = 5 := rfl
/-- A node's cells. -/
theorem Arena.node {w : World} {B : Nat} {A : Ar} (h : Arena w B A) {j : Nat} {x : Nd} (hx : A.N[j]? = some x) : ∃ b off cn, A.vn = .slice (some ⟨b, off, none⟩) A.N.length cn ∧ b < w.heap.size ∧ w.rangeAt b (off + j * 5) x.row ∧ j < A.N.length := by
  have hj := (List.getElem?_eq_some_iff.1 hx).1
  obtain ⟨An, cn, As, cs, e1, e2, c0, c1, c2, h1, h2⟩ := h.open_
  obtain ⟨b, off, z, rfl, hb, hz, hl, hr⟩ := h1.row hj
  rw [List.getElem?_map, hx] at hz
  simp only [Option.map_some, Option.some.injEq] at hz
  subst hz
  exact ⟨b, off, cn, e1, hb, hr, hj⟩
theorem Nd.flds {w : World} {b o : Nat} {x : Nd} (h : w.rangeAt b o x.row) : w.cell? ⟨b, o, none⟩ = some (.int .i64 x.t.kind) ∧ w.cell? ⟨b, o + 1, none⟩ = some (.int .i64 x.t.a) ∧ w.cell? ⟨b, o + 2, none⟩ = some (.int .i64 x.t.b) ∧ w.cell? ⟨b, o + 3, none⟩ = some (.string (bs x.t.s)) ∧ w.cell? ⟨b, o + 4, none⟩ = some x.v :=
  ⟨h 0 _ rfl, h 1 _ rfl, h 2 _ rfl, h 3 _ rfl, h 4 _ rfl⟩

theorem len_any (A : Ar) (B : Nat) (w : World) (H : Arena w B A) :
    Calls Tryz.prog 88 #[.pointer (some ⟨A.g, 0, none⟩)] w fun r w' => r = .returned (.int .i64 A.N.length) ∧ w = w' := by
  obtain ⟨An, cn, As, cs, e1, e2, c0, c1, c2, h1, h2⟩ := H.open_
  clear H
  go_enter Tryz.func88, Tryz.ntmps88
  go_wp2
  go_ret
  exact ⟨rfl, rfl⟩
theorem len_nil (w : World) :
    Calls Tryz.prog 88 #[.pointer none] w fun r w' => r = .returned (.int .i64 0) ∧ w = w' := by
  go_enter Tryz.func88, Tryz.ntmps88
  go_wp2
  go_ret
  exact ⟨rfl, rfl⟩
def hasB (A : Ar) (x : Int) : Bool := (get A.L x).isSome
theorem hasB_neg {A : Ar} {x : Int} (h : x < 0) : hasB A x = false := by unfold hasB; rw [get_neg h]; rfl
theorem hasB_nat (A : Ar) (j : Nat) : hasB A j = decide (j < A.N.length) := by
  unfold hasB
  rw [get_nat, Bool.eq_iff_iff, decide_eq_true_eq, ← A.L_len]
  cases e : A.L[j]? with
  | none => simpa using List.getElem?_eq_none_iff.1 e
  | some t => simpa using (List.getElem?_eq_some_iff.1 e).1
theorem has_any (A : Ar) (B : Nat) (x : Int) (w : World) (H : Arena w B A) :
    Calls Tryz.prog 43 #[.pointer (some ⟨A.g, 0, none⟩), .int .i64 x] w fun r w' => r = .returned (.bool (hasB A x)) ∧ w = w' := by
  have cL := Lib.hid (len_any A B w H)
  by_cases h0 : x < 0
  · rw [hasB_neg h0]
    clear H
    go_enter Tryz.func43, Tryz.ntmps43
    go_wp2_with fail
    go_ret
    exact ⟨rfl, rfl⟩
  · obtain ⟨j, rfl⟩ := Int.eq_ofNat_of_zero_le (show 0 ≤ x by omega)
    rw [hasB_nat]
    clear H h0
    go_enter Tryz.func43, Tryz.ntmps43
    go_wp2_with (go_at_call 88; refine cL.out.mono ?_; rintro r w1 ⟨rfl, rfl⟩)
    go_ret
    exact ⟨ret_bool (by simp), rfl⟩
theorem has_nil (x : Int) (w : World) :
    Calls Tryz.prog 43 #[.pointer none, .int .i64 x] w fun r w' => r = .returned (.bool false) ∧ w = w' := by
  have cL := Lib.hid (len_nil w)
  by_cases h0 : x < 0
  · go_enter Tryz.func43, Tryz.ntmps43
    go_wp2_with fail
    go_ret
    exact ⟨rfl, rfl⟩
  · have h1 : 0 ≤ x := by omega
    clear h0
    go_enter Tryz.func43, Tryz.ntmps43
    go_wp2_with (go_at_call 88; refine cL.out.mono ?_; rintro r w1 ⟨rfl, rfl⟩)
    go_ret
    exact ⟨ret_bool (decide_eq_false (by omega)), rfl⟩
def isB (A : Ar) (x : Int) (k : Nat) : Bool := match get A.L x with | some t => t.kind == k | none => false
theorem isB_eq {A : Ar} {x : Int} {k : Nat} (hk : 0 < k) : isB A x k = (kindO (get A.L x) == k) := by
  unfold isB
  cases get A.L x with
  | none => simp [kindO]; omega
  | some t => rfl
theorem is_any (A : Ar) (B : Nat) (x : Int) (k : Nat) (w : World) (H : Arena w B A) :
    Calls Tryz.prog 49 #[.pointer (some ⟨A.g, 0, none⟩), .int .i64 x, .int .i64 k] w fun r w' => r = .returned (.bool (isB A x k)) ∧ w = w' := by
  have cH := has_any A B x w H
  cases hg : get A.L x with
  | none =>
    have e : isB A x k = false := by unfold isB; rw [hg]
    rw [show hasB A x = false by unfold hasB; rw [hg]; rfl] at cH
    rw [e]
    have cH := Lib.hid cH
    clear H hg e
    go_enter Tryz.func49, Tryz.ntmps49
    go_wp2_with (go_at_call 43; refine cH.out.mono ?_; rintro r w1 ⟨rfl, rfl⟩)
    go_ret
    exact ⟨rfl, rfl⟩
  | some t =>
    have e : isB A x k = (t.kind == k) := by unfold isB; rw [hg]
    rw [show hasB A x = true by unfold hasB; rw [hg]; rfl] at cH
    rw [e]
    have cH := Lib.hid cH
    obtain ⟨j, rfl, hj⟩ := get_some hg
    obtain ⟨y, hy, rfl⟩ := Ar.N_at hj
    obtain ⟨An, cn, As, cs, e1, e2, c0, c1, c2, h1, h2⟩ := H.open_
    obtain ⟨b, off, cn', e1', hb, hr, hjl⟩ := H.node hy
    rw [e1] at e1'
    injection e1' with e3 e4 e5
    subst e3
    obtain ⟨f0, _⟩ := Nd.flds hr
    have i1 : (0 : Int) ≤ (j : Int) := by omega
    have i2 : (j : Int) < (A.N.length : Int) := by omega
    have hq : ((y.t.kind : Int) == (k : Int)) = (y.t.kind == k) := by rw [Bool.eq_iff_iff]; simp; omega
    generalize (y.t.kind == k) = q at hq ⊢
    generalize A.N.length = n at *
    have hq2 := Lib.hid hq
    clear H hg e hr hj hy e1 e2 h1 h2 hjl hq e5
    go_enter Tryz.func49, Tryz.ntmps49
    go_wp2_with (go_at_call 43; refine cH.out.mono ?_; rintro r w1 ⟨rfl, rfl⟩)
    go_ret
    exact ⟨ret_bool hq2.out, rfl⟩
theorem own_any (k : Nat) (x1 x2 : Value) (s : List UInt8) (v : Value) (w : World) (hs : s.length ≤ 4000000000) (hv : v.oneCell' = true) (h1 : x1.oneCell' = true) (h2 : x2.oneCell' = true) :
    Calls Tryz.prog 91 #[.agg #[.int .i64 k, x1, x2, .string (bs s), v]] w fun r w' => r = .returned (.int .i64 (own k s.length)) ∧ Below w.heap.size w w' := by
  have hB := Lib.hid (below_new w (.cells #[.int .i64 k, x1, x2, .string (bs s), v] 52))
  have hz := bs_size s
  have hsz : (((bs s).size : Nat) : Int) = (s.length : Int) := by rw [hz]
  have hl1 : s.length ≤ 4000000000 := hs
  have hl2 : (bs s).size ≤ 4000000000 := by rw [hz]; exact hs
  clear hz
  by_cases k2 : k = 2
  · subst k2
    go_enter Tryz.func91, Tryz.ntmps91
    go_wp2
    go_ret
    exact ⟨rfl, hB.out⟩
  by_cases ka : k = 1 ∨ k = 3 ∨ k = 6 ∨ k = 9 ∨ k = 10
  · have e : own k s.length = 5 + s.length := by unfold own; rw [if_neg k2, if_pos ka]
    rw [e]
    clear k2 e
    rcases ka with rfl | rfl | rfl | rfl | rfl
    all_goals
      go_enter Tryz.func91, Tryz.ntmps91
      go_wp2
      go_ret
      exact ⟨ret_int (by omega), hB.out⟩
  by_cases k5 : k = 5
  · subst k5
    go_enter Tryz.func91, Tryz.ntmps91
    go_wp2
    go_ret
    exact ⟨ret_int (by have : own 5 s.length = 9 + s.length := rfl; omega), hB.out⟩
  by_cases k8 : k = 8
  · subst k8
    go_enter Tryz.func91, Tryz.ntmps91
    go_wp2
    go_ret
    exact ⟨rfl, hB.out⟩
  have e : own k s.length = 1 := by unfold own; rw [if_neg k2, if_neg ka, if_neg k5, if_neg k8]
  rw [e]
  have g1 : ((k : Int) == 1) = false := by rw [beq_eq_false_iff_ne]; omega
  have g2 : ((k : Int) == 2) = false := by rw [beq_eq_false_iff_ne]; omega
  have g3 : ((k : Int) == 3) = false := by rw [beq_eq_false_iff_ne]; omega
  have g5 : ((k : Int) == 5) = false := by rw [beq_eq_false_iff_ne]; omega
  have g6 : ((k : Int) == 6) = false := by rw [beq_eq_false_iff_ne]; omega
  have g8 : ((k : Int) == 8) = false := by rw [beq_eq_false_iff_ne]; omega
  have g9 : ((k : Int) == 9) = false := by rw [beq_eq_false_iff_ne]; omega
  have g10 : ((k : Int) == 10) = false := by rw [beq_eq_false_iff_ne]; omega
  clear k2 ka k5 k8 e
  go_enter Tryz.func91, Tryz.ntmps91
  go_wp2
  go_ret
  exact ⟨rfl, hB.out⟩

/-! ### The numbers' text -/
theorem byteCells_append (l m : List UInt8) : Lib.byteCells (l ++ m) = Lib.byteCells l ++ Lib.byteCells m := by simp [Lib.byteCells]
theorem strCells_bs (l : List UInt8) : Lib.strCells (bs l) = Lib.byteCells l := by simp [Lib.strCells, Lib.byteCells, bs]
theorem joinL_append (l m : List Nat) : joinL (l ++ m) = joinL l ++ joinL m := by
  induction l with
  | nil => rfl
  | cons x r ih => rw [List.cons_append, joinL, joinL, ih]; simp
theorem joinL_len : ∀ (l : List Nat), (∀ x ∈ l, x < 100) → (joinL l).length ≤ 3 * l.length
  | [], _ => by simp [joinL]
  | x :: r, h => by
    have ih := joinL_len r (fun y hy => h y (by simp [hy]))
    have hx := h x (by simp)
    have hd : (Lib.decDigits x).length ≤ 2 := by
      by_cases h1 : x < 10
      · rw [Lib.decDigits_one h1]; simp
      · rw [Lib.decDigits_two h1 hx]; simp
    rw [joinL]
    simp only [List.length_append, List.length_cons]
    omega
set_option maxHeartbeats 1000000 in
theorem join_any (xs : List Nat) (A : Option Addr) (m c : Nat) (w : World) (hm : m = xs.length) (hm2 : m ≤ 40) (hx : ∀ x ∈ xs, x < 100) (H : Rws w 1 A m (xs.map idv)) :
    Calls Tryz.prog 92 #[.slice A m c] w fun r w' => r = .returned (.string (bs (joinL xs))) ∧ Below w.heap.size w w' := by
  have hz : ∀ w : World, Lib.IsBuilder 98 5 w.heap.size w.heap.size (Lib.byteCells []) (w.alloc (.cells #[.pointer none, .slice none 0 0] 98)) := fun w =>
    .inl ⟨Nat.le_refl _, _, heap_new w _, World.ownsRow_nil _ _ _ _, by simp [Value.ownBlock]⟩
  have hx2 := Lib.hid hx
  have hm3 := Lib.hid hm
  clear hm
  have hz1 := Lib.hid (hz w)
  clear hz
  go_enter Tryz.func92, Tryz.ntmps92
  go_wp2
  have hB0 := Lib.hid (below_new w (.cells #[.pointer none, .slice none 0 0] 98))
  go_loopw [8] (fun i wr => ∃ k : Nat, k ≤ m ∧ i = .int .i64 k ∧ Hid (Lib.IsBuilder 98 5 w.heap.size w.heap.size (Lib.byteCells (joinL (xs.take k))) wr) ∧ Hid (Below w.heap.size w wr)) (fun i _ => m - (intOf i).toNat)
  case atStart => exact ⟨0, by omega, rfl, hz1, hB0⟩
  case round =>
    obtain ⟨k, hk, rfl, hb, hB⟩ := hrel
    by_cases hlt : k < m
    · obtain ⟨b, off, z, rfl, hbl, hz, _, hr⟩ := H.row hlt
      rw [List.getElem?_map] at hz
      cases hxk : xs[k]? with
      | none => rw [hxk] at hz; cases hz
      | some x =>
        rw [hxk] at hz
        simp only [Option.map_some, Option.some.injEq] at hz
        subst hz
        have hx100 := hx2.out x (List.mem_of_getElem? hxk)
        have hc : wr.cell? ⟨b, off + k, none⟩ = some (.int .i64 x) := (hB.out.cell (p := ⟨b, off + k, none⟩) hbl).trans (by have := hr 0 _ rfl; rwa [Nat.mul_one, Nat.add_zero] at this)
        have hst := Lib.hid (show joinL (xs.take (k + 1)) = joinL (xs.take k) ++ (Lib.decDigits x ++ [32]) by rw [take_succ_of hxk, joinL_append]; try rfl)
        have hl1 := joinL_len (xs.take k) (fun y hy => hx2.out y (List.mem_of_mem_take hy))
        have hl2 : (xs.take k).length ≤ k := List.length_take_le _ _
        have hd : (Lib.decDigits x).length ≤ 2 := by
          by_cases h1 : x < 10
          · rw [Lib.decDigits_one h1]; simp
          · rw [Lib.decDigits_two h1 hx100]; simp
        have cI := Lib.hid (Tryz.strconv_Itoa_small x hx100)
        have hcat : (⟨(Lib.decDigits x).toArray⟩ : ByteArray) ++ ⟨#[32]⟩ = bs (Lib.decDigits x ++ [32]) := by
          apply ByteArray.ext
          simp [bs]
        have cW := Lib.hid (bldWrite w.heap.size w.heap.size _ (bs (Lib.decDigits x ++ [32])) wr hb.out (by rw [bs_size]; simp [Lib.byteCells]; omega) hB.out.size)
        rw [strCells_bs, ← byteCells_append] at cW
        have hd2 : (⟨(Lib.decDigits x).toArray⟩ : ByteArray).size ≤ 2 := by simpa [ByteArray.size] using hd
        clear hr hx100 hxk hl1 hl2
        go_wp2_with (first
          | (go_at_call 114; refine (cI.out _).mono ?_; rintro r w1 ⟨rfl, rfl⟩)
          | (go_at_call 89; refine cW.out.mono ?_; rintro r w2 ⟨rfl, hb2, hB2⟩))
        skip
        go_roundw
        case rel => exact ⟨k + 1, by omega, by go_num, (by unfold Hid; rw [hst.out]; exact .inr hb2), hB.out.trans hB2⟩
        case measure => simp [intOf]; omega
    · have hkn : xs.take k = xs := List.take_of_length_le (by rw [← hm3.out]; omega)
      rw [hkn] at hb
      have cS := Lib.hid (bldString w.heap.size w.heap.size (joinL xs) wr hb.out hB.out.size)
      clear hkn
      go_wp2_with (go_at_call 46; refine cS.out.mono ?_; rintro r w2 ⟨rfl, hB2⟩)
      go_ret
      exact ⟨rfl, hB.out.trans hB2⟩
end

section
open Go.RowKit Go.Maps

theorem flat_split {k : Nat} (hk : 0 < k) : ∀ {zs : List (List Value)}, (∀ z ∈ zs, z.length = k) → ∀ {j : Nat} {u : Value}, zs.flatten[j]? = some u → ∃ z, zs[j / k]? = some z ∧ z[j % k]? = some u := by
  intro zs
  induction zs with
  | nil => intro _ j u h; simp at h
  | cons y ys ih =>
    intro hz j u h
    have hy : y.length = k := hz y (by simp)
    rw [List.flatten_cons] at h
    by_cases hj : j < k
    · rw [List.getElem?_append_left (by omega)] at h
      rw [Nat.div_eq_of_lt hj, Nat.mod_eq_of_lt hj]
      exact ⟨y, rfl, h⟩
    · rw [List.getElem?_append_right (by omega), hy] at h
      obtain ⟨z, h1, h2⟩ := ih (fun z hz' => hz z (by simp [hz'])) h
      obtain ⟨i, rfl⟩ : ∃ i, j = i + k := ⟨j - k, by omega⟩
      rw [Nat.add_sub_cancel] at h1 h2
      rw [Nat.add_div_right _ hk, Nat.add_mod_right]
      exact ⟨z, by rw [List.getElem?_cons_succ]; exact h1, h2⟩
theorem Rws.flat {w : World} {k n : Nat} {A : Addr} {zs : List (List Value)} (hk : 0 < k) (h : Rws w k (some A) n zs) : ∀ j u, zs.flatten[j]? = some u → w.cell? (A.add j) = some u := by
  intro j u hj
  obtain ⟨z, h1, h2⟩ := flat_split hk h.2.1 hj
  have hn : 0 < n := by
    have := (List.getElem?_eq_some_iff.1 h1).1
    rw [h.1] at this
    exact Nat.lt_of_le_of_lt (Nat.zero_le _) this
  obtain ⟨b, off, e, _, hc⟩ := h.2.2 hn
  injection e with e
  subst e
  have := hc _ _ h1 _ _ h2
  rw [show off + j / k * k + j % k = off + j by rw [Nat.mul_comm, Nat.add_assoc, Nat.div_add_mod]] at this
  rwa [Addr.add_mid]

theorem id_info : (Tryz.prog.info? 33).map (fun i => (i.zero, i.size, i.bytes)) = some (some (.int .i64 0), 1, 8) := by kernel_rfl
theorem idv_len (xs : List Nat) : ((xs.map idv).flatten).length = xs.length := by
  induction xs with
  | nil => rfl
  | cons x r ih => simp only [List.map_cons, List.flatten_cons, List.length_append, ih, List.length_cons]; show 1 + r.length = _; omega
theorem IdsV.of_own {w : World} {base : Nat} {v : Value} {xs : List Nat} (h : OwnR w base 1 33 v (xs.map idv)) : IdsV w v xs := by
  have h1 := h.1.2
  obtain ⟨A, c, rfl, hr⟩ := h.rws
  rw [List.length_map] at hr
  refine ⟨A, c, by rw [List.length_map], hr, fun hn => ?_⟩
  rcases h1 with ⟨_, h0⟩ | ⟨g, cap, cur, e, _, hg, _⟩
  · rw [List.length_map] at h0; omega
  · injection e with e1 e2 e3
    exact ⟨g, 0, cur, (0, 0), e1, hg⟩
set_option maxHeartbeats 2000000 in
set_option maxRecDepth 100000 in
theorem cloneI_any (xs : List Nat) (A : Option Addr) (n c : Nat) (w : World) (hl : xs.length = n) (hn : n ≤ 1000000) (H : Rws w 1 A n (xs.map idv)) :
    Calls Tryz.prog 44 #[.slice A n c] w fun r w' => ∃ v', r = .returned v' ∧ OwnR w' w.heap.size 1 33 v' (xs.map idv) ∧ Below w.heap.size w w' := by
  have q := fun (w : World) (a : Option Addr) (n c n' c' : Nat) => Lib.run_eql_slice_nil (P := Tryz.prog) w 28 33 a n c n' c' Tryz.underlying28
  cases A with
  | none =>
    have h0 : n = 0 := by
      by_cases h : 0 < n
      · obtain ⟨b, off, e, _⟩ := H.2.2 h; cases e
      · omega
    subst h0
    have hs : xs = [] := List.eq_nil_of_length_eq_zero hl
    subst hs
    clear H hl
    go_enter Tryz.func44, Tryz.ntmps44
    go_wp2
    go_ret
    exact ⟨_, rfl, OwnR.nil_ _ _ _ _, Below.refl _ _⟩
  | some ad =>
    obtain ⟨i0, hi, hz0, hz1, hz2⟩ := info_parts id_info
    have hB1 := Lib.hid (below_new w (.cells #[] 33))
    have hc := Lib.hid ((H.keep hB1.out).flat (by decide))
    have hfl := Lib.hid (show (xs.map idv).flatten.length = n * 1 by rw [idv_len, hl, Nat.mul_one])
    have hL := Lib.hid hl
    clear H hl
    go_enter Tryz.func44, Tryz.ntmps44
    go_wp2_with (at_builtin; refine wpList_append_own _ rfl _ _ 28 rfl w.heap.size 33 i0 (.int .i64 0) 1 8 Tryz.underlying28 hi hz0 hz1 hz2 rfl (by decide) _ _ _ rfl (World.ownsRow_made w #[] 0 (Nat.le_refl _) (Nat.zero_le _) rfl) ad n c (xs.map idv).flatten rfl ?qc1 ?qc2 ?qc3 ?qc4 ?qc5 ?qc6 ?_)
    case qc1 => exact hfl.out
    case qc2 => exact hc.out
    case qc3 => intro u hu; obtain ⟨z, hz, hu⟩ := List.mem_flatten.1 hu; obtain ⟨x, _, rfl⟩ := List.mem_map.1 hz; simp [idv] at hu; subst hu; rfl
    case qc4 => unfold maxLen; omega
    case qc5 => omega
    case qc6 => simp
    intro v' w1 hown hgrow hnil
    go_wp2
    go_ret
    refine ⟨v', rfl, ⟨by simpa [hL.out] using hown, fun z hz => by obtain ⟨x, _, rfl⟩ := List.mem_map.1 hz; rfl⟩, ?_⟩
    exact ((Below.refl _ w).alloc (Nat.le_refl _) _).grown hgrow (by simp) (by intro k hk; simp [Value.ownBlock] at hk; omega)

def Ar.empty (g bm : Nat) : Ar := ⟨g, bm, .slice none 0 0, .slice none 0 0, []⟩
theorem arena_new {w : World} {B g bm : Nat} (hg : w.heap[g]? = some (.cells #[.slice none 0 0, .slice none 0 0, .map (some bm)] 64 (0, 0))) (h1 : B ≤ g) (h2 : B ≤ bm) (hb : w.heap[bm]? = some (.map #[] 0)) : Arena w B (Ar.empty g bm) where
  blk := hg
  hg := h1
  hm := h2
  nodes := OwnR.nil_ _ _ _ _
  sizes := OwnR.nil_ _ _ _ _
  map := ⟨.map [], ⟨#[], 0, hb, ⟨by simp, MapKept.stamped_empty 0, by simp⟩, Nat.le_refl _, rfl⟩, fun j x kl h => by simp [Ar.empty] at h, fun kl h => by simp [Maps.has] at h⟩
  ids := by simp [Ar.empty]
  args := by simp [Ar.empty]
  good := Good.nil_
  few := by simp [Ar.empty]
theorem tnew_any (w : World) :
    Calls Tryz.prog 9 #[] w fun r w' => ∃ A, r = .returned (.pointer (some ⟨A.g, 0, none⟩)) ∧ A.N = [] ∧ Arena w' w.heap.size A ∧ Below w.heap.size w w' := by
  have hB := Lib.hid ((below_new w (.map #[] 0)).alloc (below_new w (.map #[] 0)).size (.cells #[.slice none 0 0, .slice none 0 0, .map (some w.heap.size)] 64))
  have h1 := heap_past (heap_new w (.map #[] 0)) (.cells #[.slice none 0 0, .slice none 0 0, .map (some w.heap.size)] 64)
  have h2 := heap_new (w.alloc (.map #[] 0)) (.cells #[.slice none 0 0, .slice none 0 0, .map (some w.heap.size)] 64)
  simp only [World.size_alloc] at h2
  have hA := Lib.hid (arena_new (B := w.heap.size) h2 (by omega) (Nat.le_refl _) h1)
  clear h1 h2
  have hmm := @run_makeMap Tryz.prog
  go_enter Tryz.func9, Tryz.ntmps9
  go_wp2_with (first
    | (refine wpList_build_as 64 _ rfl rfl #[.slice none 0 0, .slice none 0 0, .map (some w.heap.size)] ?_ ?_; kernel_rfl)
    | (refine wpList_box_row 64 _ rfl rfl #[.slice none 0 0, .slice none 0 0, .map (some w.heap.size)] rfl ?_))
  go_ret
  exact ⟨Ar.empty (w.heap.size + 1) w.heap.size, rfl, rfl, hA.out, hB.out⟩
end

section
open Go

theorem getD_put_same {l : Array Bool} {i : Nat} (h : i < l.size) : (l.setIfInBounds i true).getD i true = true := by
  simp [Array.getD, h]
theorem getD_put_other {l : Array Bool} {i j : Nat} (h : i ≠ j) : (l.setIfInBounds i true).getD j true = l.getD j true := by
  simp [Array.getD_eq_getD_getElem?, Array.getElem?_setIfInBounds, h]
def todo (l : Array Bool) : Nat := ((List.range l.size).filter (fun j => !(l.getD j true))).length
theorem todo_put {l : Array Bool} {i : Nat} (h : l.getD i true = false) : todo (l.setIfInBounds i true) + 1 ≤ todo l := by
  have hi : i < l.size := by
    rcases Nat.lt_or_ge i l.size with h1 | h1
    · exact h1
    · simp [Array.getD_eq_getD_getElem?, Array.getElem?_eq_none h1] at h
  unfold todo
  rw [Array.size_setIfInBounds]
  have hs : (List.range l.size).filter (fun j => !((l.setIfInBounds i true).getD j true)) = ((List.range l.size).filter (fun j => !(l.getD j true))).filter (fun j => j != i) := by
    rw [List.filter_filter]
    refine List.filter_congr fun j _ => ?_
    by_cases e : i = j
    · subst e
      rw [getD_put_same hi]; simp
    · rw [getD_put_other e]
      have : (j != i) = true := by simp [Ne.symm e]
      rw [this]; simp
  rw [hs]
  have hm : i ∈ (List.range l.size).filter (fun j => !(l.getD j true)) := List.mem_filter.2 ⟨List.mem_range.2 hi, by simp [h]⟩
  generalize (List.range l.size).filter (fun j => !(l.getD j true)) = L at hm
  induction L with
  | nil => cases hm
  | cons x r ih =>
    rcases List.mem_cons.1 hm with rfl | hm
    · rw [List.filter_cons_of_neg (by simp)]
      exact Nat.succ_le_succ (List.length_filter_le _ _)
    · by_cases e : x = i
      · subst e
        rw [List.filter_cons_of_neg (by simp)]
        exact Nat.succ_le_succ (List.length_filter_le _ _)
      · rw [List.filter_cons_of_pos (by simp [e])]
        exact Nat.succ_le_succ (ih hm)
theorem todo_zero {l : Array Bool} (h : todo l = 0) (j : Nat) : l.getD j true = true := by
  rcases Nat.lt_or_ge j l.size with h1 | h1
  · cases hq : l.getD j true with
    | true => rfl
    | false =>
      have : j ∈ (List.range l.size).filter (fun j => !(l.getD j true)) := List.mem_filter.2 ⟨List.mem_range.2 h1, by simp [hq]⟩
      unfold todo at h
      rw [List.eq_nil_of_length_eq_zero h] at this
      cases this
  · simp [Array.getD_eq_getD_getElem?, Array.getElem?_eq_none h1]
theorem getD_both {l : Array Bool} {j : Nat} (h : j < l.size) : l.getD j false = l.getD j true := by
  simp [Array.getD_eq_getD_getElem?, Array.getElem?_eq_getElem h]

section
variable {P : Program} {md : Region.Mode} {ops : Array Oper} {Q : Exit → Act → World → Prop} (I : (Nat → Bool) → Act → World → Prop)
  (hlt : ∀ (i : Nat) (o : Oper), ops[i]? = some o → ∀ e ∈ o.after, Region.binds md e = true → e.on < i)
  (hstep : ∀ (L : Nat → Bool) (a : Act) (w : World) (i : Nat) (o : Oper), I L a w → ops[i]? = some o → L i = false → (∀ e ∈ o.after, Region.binds md e = true → L e.on = true) →
    ∀ K : Act → World → Prop, (∀ a' w', I (fun j => j == i || L j) a' w' → K a' w') → if Region.wanted o (yielded ops a.tmps) = true then Oper.wp P o a w K Q else K (a.put o.dst undef) w)
  (hdone : ∀ L a w, I L a w → (∀ i, i < ops.size → L i = true) → Q .normal a w)
include hlt hstep hdone
theorem wpAny_inv : ∀ (fuel : Nat) (listed : Array Bool) (a : Act) (w : World), listed.size = ops.size → todo listed ≤ fuel → I (fun j => listed.getD j true) a w → wpAny P md ops Q fuel listed a w := by
  intro fuel
  induction fuel with
  | zero =>
    intro listed a w hs ht hI
    have h0 := todo_zero (Nat.le_zero.1 ht)
    refine ⟨List.eq_nil_iff_forall_not_mem.2 fun j hj => ?_, hdone _ _ _ hI (fun i _ => h0 i)⟩
    have := (mem_ready.1 hj).1
    rw [h0 j] at this
    cases this
  | succ fuel ih =>
    intro listed a w hs ht hI
    refine ⟨fun hr => ?_, fun i hi => ?_⟩
    · refine hdone _ _ _ hI fun i hi => ?_
      induction i using Nat.strongRecOn with
      | _ i ih2 =>
        cases hq : listed.getD i true with
        | true => rfl
        | false =>
          have ho : ops[i]? = some ops[i] := Array.getElem?_eq_getElem hi
          have : i ∈ Region.ready md ops listed := mem_ready.2 ⟨hq, _, ho, fun e he hb => by
            have h1 := hlt i _ ho e he hb
            rw [getD_both (by rw [hs]; omega)]
            exact ih2 e.on h1 (by omega)⟩
          rw [hr] at this
          cases this
    · obtain ⟨h0, o, ho, hall⟩ := mem_ready.1 hi
      have hio : i < ops.size := (Array.getElem?_eq_some_iff.1 ho).1
      refine wpOp_step ho (fun K' hK => hstep _ a w i o hI ho h0 (fun e he hb => ?_) K' (fun a' w' hI' => hK a' w' (ih _ a' w' (by rw [Array.size_setIfInBounds]; exact hs) (by have := todo_put h0; omega) ?_)))
      · have h1 := hall e he hb
        rw [getD_both (by rw [hs]; have := hlt i o ho e he hb; omega)] at h1
        exact h1
      · have hf : (fun j => (listed.setIfInBounds i true).getD j true) = (fun j => j == i || listed.getD j true) := by
          funext j
          by_cases e : i = j
          · subst e
            rw [getD_put_same (by rw [hs]; exact hio)]; simp
          · rw [getD_put_other e]
            have : (j == i) = false := by simp [Ne.symm e]
            rw [this]; rfl
        rw [hf]
        exact hI'
theorem region_inv {id : Nat} {a : Act} {w : World} (hmd : md = .any) (hm : P.follows .mixedOrders = true) (hI : I (fun j => (Array.replicate ops.size false).getD j true) a w.drew) : (Code.region id ops true).wp P Q a w := by
  subst hmd
  refine wp_region_any hm (wpAny_inv I hlt hstep hdone _ _ _ _ (by simp) ?_ hI)
  unfold todo
  rw [Array.size_replicate]
  exact Nat.le_trans (List.length_filter_le _ _) (by simp)
end
/-- An operation that an edge names has come up. -/
def hasDep (md : Region.Mode) (o : Oper) (n : Nat) : Bool := o.after.toList.any (fun e => Region.binds md e && e.on == n)
theorem dep_of {md : Region.Mode} {o : Oper} {L : Nat → Bool} (h : ∀ e ∈ o.after, Region.binds md e = true → L e.on = true) {n : Nat} (hn : hasDep md o n = true) : L n = true := by
  unfold hasDep at hn
  rw [List.any_eq_true] at hn
  obtain ⟨e, he, h1⟩ := hn
  rw [Bool.and_eq_true] at h1
  have h2 : e.on = n := by simpa using h1.2
  rw [← h2]
  exact h e (Array.mem_toList_iff.1 he) h1.1
end

section
open Go.RowKit Go.Maps

/-- Block q of w has cells of type t. -/
def Typ (w : World) (q : Nat) (t : TypeId) : Prop := ∃ cur fr, w.heap[q]? = some (.cells cur t fr)
theorem Typ.ne {w : World} {q q' : Nat} {t t' : TypeId} (h : Typ w q t) (h' : Typ w q' t') (hne : t ≠ t') : q ≠ q' := fun e => by
  subst e
  obtain ⟨c1, f1, e1⟩ := h
  obtain ⟨c2, f2, e2⟩ := h'
  rw [e1] at e2
  injection e2 with e2
  injection e2 with _ e2
  exact hne e2
theorem OwnR.typ {w : World} {base k : Nat} {E : TypeId} {v : Value} {zs : List (List Value)} (h : OwnR w base k E v zs) {q : Nat} (hq : v.ownBlock = some q) : Typ w q E := by
  rcases h.1.2 with ⟨rfl, _⟩ | ⟨g, cap, cur, rfl, _, hc, _⟩
  · simp [Value.ownBlock] at hq
  · simp [Value.ownBlock] at hq
    subst hq
    exact ⟨_, _, hc⟩
theorem OwnR.grown_ {w w' : World} {base k : Nat} {E E' : TypeId} {v : Value} {zs : List (List Value)} {row : Option Nat} (h : OwnR w base k E v zs) (hg : w.grownBy w' row) (hr : ∀ q, row = some q → Typ w q E') (hne : E ≠ E') : OwnR w' base k E v zs :=
  h.keepF (F := fun b => row = some b) (Keeps.of_grown hg (fun q hq => hq)) (fun q hq hf => (h.typ hq).ne (hr q hf) hne rfl)
theorem block_grown {w w' : World} {g : Nat} {cs : Array Value} {t E' : TypeId} {fr : Nat × Nat} {row : Option Nat} (h : w.heap[g]? = some (.cells cs t fr)) (hg : w.grownBy w' row) (hr : ∀ q, row = some q → Typ w q E') (hne : t ≠ E') : w'.heap[g]? = some (.cells cs t fr) :=
  (hg.block g (Array.getElem?_eq_some_iff.1 h).1 (fun e => (show Typ w g t from ⟨_, _, h⟩).ne (hr g e.symm) hne rfl)).trans h
theorem grown_set (w : World) (a : Addr) (v : Value) : w.grownBy (w.setCell a v) (some a.block) :=
  ⟨rfl, rfl, rfl, by simp [World.setCell], fun k _ hk => heap_setCell_other w a k v (fun e => hk (by rw [e]))⟩

def F19 (A : Ar) (b : Nat) : Prop := b = A.g ∨ A.vn.ownBlock = some b ∨ A.vs.ownBlock = some b
structure Q19 (B : Nat) (A : Ar) (S : Nat) (NC : List Value) (gN : Nat) (W6 : World) (l7 l8 l14 l15 l18 l21 : Bool) (x7 x8 x14 x15 : Value) (W : World) : Prop where
  m8 : l8 = true → l7 = true
  m15 : l15 = true → l14 = true ∧ l8 = true
  m18 : l18 = true → l15 = true
  m21 : l21 = true → l18 = true
  f7 : l7 = true → ∃ g7, x7 = .slice (some ⟨g7, 0, none⟩) 1 1 ∧ (l8 = false → W.heap[g7]? = some (.cells NC.toArray 52 (0, 0)))
  f14 : l14 = true → ∃ g14, x14 = .slice (some ⟨g14, 0, none⟩) 1 1 ∧ (l15 = false → W.heap[g14]? = some (.cells #[.int .i64 S] 3 (0, 0)))
  n0 : l8 = false → OwnR W B 5 52 A.vn (A.N.map Nd.row)
  n1 : l8 = true → OwnR W B 5 52 x8 (A.N.map Nd.row ++ [NC])
  s0 : l15 = false → OwnR W B 1 3 A.vs ((A.N.map fun x => (x.t.len : Int)).map iv)
  s1 : l15 = true → OwnR W B 1 3 x15 ((A.N.map fun x => (x.t.len : Int)).map iv ++ [iv S])
  blk : W.heap[A.g]? = some (.cells #[bif l18 then x8 else A.vn, bif l21 then x15 else A.vs, .map (some A.bm)] 64 (0, 0))
  nd : W.heap[gN]? = some (.cells NC.toArray 52 (0, 0))
  kp : Keeps (F19 A) W6 W
  hB : B ≤ W.heap.size
  vn : ∀ q, A.vn.ownBlock = some q → q ≠ gN
theorem Q19.start {B : Nat} {A : Ar} {S : Nat} {NC : List Value} {gN : Nat} {W6 W : World} {x7 x8 x14 x15 : Value} (H : Arena W6 B A) (hB : B ≤ W6.heap.size) (hn : W6.heap[gN]? = some (.cells NC.toArray 52 (0, 0))) (hv : ∀ q, A.vn.ownBlock = some q → q ≠ gN) (hb : Below W6.heap.size W6 W) :
    Q19 B A S NC gN W6 false false false false false false x7 x8 x14 x15 W := by
  have HW := H.keep hb
  exact ⟨fun h => (by cases h), fun h => (by cases h), fun h => (by cases h), fun h => (by cases h), fun h => (by cases h), fun h => (by cases h), fun _ => HW.nodes, fun h => (by cases h), fun _ => HW.sizes, fun h => (by cases h), HW.blk, (hb.block gN (Array.getElem?_eq_some_iff.1 hn).1).trans hn, Keeps.of_below hb, Nat.le_trans hB hb.size, hv⟩

section
variable {B : Nat} {A : Ar} {S : Nat} {NC : List Value} {gN : Nat} {W6 W : World} {l7 l8 l14 l15 l18 l21 : Bool} {x7 x8 x14 x15 : Value}
/-- A block more. -/
theorem Q19.alloc (h : Q19 B A S NC gN W6 l7 l8 l14 l15 l18 l21 x7 x8 x14 x15 W) (o : Obj) : Q19 B A S NC gN W6 l7 l8 l14 l15 l18 l21 x7 x8 x14 x15 (W.alloc o) := by
  have hb : Below W.heap.size W (W.alloc o) := (Below.refl _ _).alloc (Nat.le_refl _) o
  refine ⟨h.m8, h.m15, h.m18, h.m21, fun l => ?_, fun l => ?_, fun l => (h.n0 l).keep hb, fun l => (h.n1 l).keep hb, fun l => (h.s0 l).keep hb, fun l => (h.s1 l).keep hb, heap_past h.blk o, heap_past h.nd o, h.kp.trans (Keeps.of_below hb), Nat.le_trans h.hB hb.size, h.vn⟩
  · obtain ⟨g, e, hg⟩ := h.f7 l
    exact ⟨g, e, fun l8 => heap_past (hg l8) o⟩
  · obtain ⟨g, e, hg⟩ := h.f14 l
    exact ⟨g, e, fun l8 => heap_past (hg l8) o⟩
theorem Q19.step7 (h : Q19 B A S NC gN W6 false l8 l14 l15 l18 l21 x7 x8 x14 x15 W) : Q19 B A S NC gN W6 true l8 l14 l15 l18 l21 (.slice (some ⟨W.heap.size, 0, none⟩) 1 1) x8 x14 x15 (W.alloc (.cells NC.toArray 52)) := by
  have k := h.alloc (.cells NC.toArray 52)
  exact ⟨fun _ => rfl, k.m15, k.m18, k.m21, fun _ => ⟨_, rfl, fun _ => heap_new W _⟩, k.f14, k.n0, k.n1, k.s0, k.s1, k.blk, k.nd, k.kp, k.hB, k.vn⟩
theorem Q19.step14 (h : Q19 B A S NC gN W6 l7 l8 false l15 l18 l21 x7 x8 x14 x15 W) : Q19 B A S NC gN W6 l7 l8 true l15 l18 l21 x7 x8 (.slice (some ⟨W.heap.size, 0, none⟩) 1 1) x15 (W.alloc (.cells #[.int .i64 S] 3)) := by
  have k := h.alloc (.cells #[.int .i64 S] 3)
  exact ⟨k.m8, fun l => (by have := (h.m15 l).1; cases this), k.m18, k.m21, k.f7, fun _ => ⟨_, rfl, fun _ => heap_new W _⟩, k.n0, k.n1, k.s0, k.s1, k.blk, k.nd, k.kp, k.hB, k.vn⟩
theorem Q19.no15 (h : Q19 B A S NC gN W6 l7 false l14 l15 l18 l21 x7 x8 x14 x15 W) : l15 = false := by
  cases l15 with
  | false => rfl
  | true => have := (h.m15 rfl).2; cases this
theorem Q19.no18 (h : Q19 B A S NC gN W6 l7 l8 l14 false l18 l21 x7 x8 x14 x15 W) : l18 = false := by
  cases l18 with
  | false => rfl
  | true => have := h.m18 rfl; cases this
theorem Q19.no21 (h : Q19 B A S NC gN W6 l7 l8 l14 l15 false l21 x7 x8 x14 x15 W) : l21 = false := by
  cases l21 with
  | false => rfl
  | true => have := h.m21 rfl; cases this
theorem Q19.step8 {W' : World} {v' : Value} (h : Q19 B A S NC gN W6 true false l14 l15 l18 l21 x7 x8 x14 x15 W) (ho : OwnR W' B 5 52 v' (A.N.map Nd.row ++ [NC])) (hg : W.grownBy W' A.vn.ownBlock) : Q19 B A S NC gN W6 true true l14 l15 l18 l21 x7 v' x14 x15 W' := by
  obtain rfl := h.no15
  obtain rfl := h.no18
  obtain rfl := h.no21
  have ht := fun q hq => (h.n0 rfl).typ (q := q) hq
  refine ⟨fun _ => rfl, fun l => (by cases l), fun l => (by cases l), fun l => (by cases l), fun _ => ?_, fun l => ?_, fun l => (by cases l), fun _ => ho, fun l => (h.s0 l).grown_ hg ht (by decide), fun l => (by cases l), ?_, ?_, h.kp.trans (Keeps.of_grown hg fun q hq => .inr (.inl hq)), Nat.le_trans h.hB hg.size, h.vn⟩
  · obtain ⟨g, e, _⟩ := h.f7 rfl
    exact ⟨g, e, fun l => (by cases l)⟩
  · obtain ⟨g, e, hgg⟩ := h.f14 l
    exact ⟨g, e, fun l => block_grown (hgg l) hg ht (by decide)⟩
  · exact block_grown h.blk hg ht (by decide)
  · refine (hg.block gN (Array.getElem?_eq_some_iff.1 h.nd).1 (fun e => h.vn gN e.symm rfl)).trans h.nd
theorem Q19.step15 {W' : World} {v' : Value} (h : Q19 B A S NC gN W6 l7 true true false l18 l21 x7 x8 x14 x15 W) (ho : OwnR W' B 1 3 v' ((A.N.map fun x => (x.t.len : Int)).map iv ++ [iv S])) (hg : W.grownBy W' A.vs.ownBlock) : Q19 B A S NC gN W6 l7 true true true l18 l21 x7 x8 x14 v' W' := by
  obtain rfl := h.no18
  obtain rfl := h.no21
  have ht := fun q hq => (h.s0 rfl).typ (q := q) hq
  refine ⟨h.m8, fun _ => ⟨rfl, rfl⟩, fun l => (by cases l), fun l => (by cases l), fun l => ?_, fun _ => ?_, fun l => (by cases l), fun l => (h.n1 l).grown_ hg ht (by decide), fun l => (by cases l), fun _ => ho, block_grown h.blk hg ht (by decide), block_grown h.nd hg ht (by decide), h.kp.trans (Keeps.of_grown hg fun q hq => .inr (.inr hq)), Nat.le_trans h.hB hg.size, h.vn⟩
  · obtain ⟨g, e, _⟩ := h.f7 l
    exact ⟨g, e, fun l => (by cases l)⟩
  · obtain ⟨g, e, _⟩ := h.f14 rfl
    exact ⟨g, e, fun l => (by cases l)⟩
theorem Q19.step18 (h : Q19 B A S NC gN W6 l7 l8 l14 true false l21 x7 x8 x14 x15 W) : Q19 B A S NC gN W6 l7 l8 l14 true true l21 x7 x8 x14 x15 (W.setCell ⟨A.g, 0, none⟩ x8) := by
  obtain rfl := h.no21
  obtain ⟨rfl, rfl⟩ := h.m15 rfl
  have hg := grown_set W ⟨A.g, 0, none⟩ x8
  have ht : ∀ q, some A.g = some q → Typ W q 64 := fun q hq => by injection hq with hq; subst hq; exact ⟨_, _, h.blk⟩
  refine ⟨h.m8, h.m15, fun _ => rfl, fun l => (by cases l), fun l => ?_, fun l => ?_, fun l => (by cases l), fun l => (h.n1 l).grown_ hg ht (by decide), fun l => (by cases l), fun l => (h.s1 l).grown_ hg ht (by decide), ?_, block_grown h.nd hg ht (by decide), h.kp.trans (Keeps.of_grown hg fun q hq => .inl (by injection hq with hq; exact hq.symm)), Nat.le_trans h.hB hg.size, h.vn⟩
  · obtain ⟨g, e, _⟩ := h.f7 l
    exact ⟨g, e, fun l => (by cases l)⟩
  · obtain ⟨g, e, _⟩ := h.f14 l
    exact ⟨g, e, fun l => (by cases l)⟩
  · rw [heap_setCell_same W A.g 0 _ _ _ h.blk]; rfl
theorem Q19.step21 (h : Q19 B A S NC gN W6 l7 l8 l14 l15 true false x7 x8 x14 x15 W) : Q19 B A S NC gN W6 l7 l8 l14 l15 true true x7 x8 x14 x15 (W.setCell ⟨A.g, 1, none⟩ x15) := by
  obtain rfl := h.m18 rfl
  obtain ⟨rfl, rfl⟩ := h.m15 rfl
  have hg := grown_set W ⟨A.g, 1, none⟩ x15
  have ht : ∀ q, some A.g = some q → Typ W q 64 := fun q hq => by injection hq with hq; subst hq; exact ⟨_, _, h.blk⟩
  refine ⟨h.m8, h.m15, h.m18, fun _ => rfl, fun l => ?_, fun l => ?_, fun l => (by cases l), fun l => (h.n1 l).grown_ hg ht (by decide), fun l => (by cases l), fun l => (h.s1 l).grown_ hg ht (by decide), ?_, block_grown h.nd hg ht (by decide), h.kp.trans (Keeps.of_grown hg fun q hq => .inl (by injection hq with hq; exact hq.symm)), Nat.le_trans h.hB hg.size, h.vn⟩
  · obtain ⟨g, e, _⟩ := h.f7 l
    exact ⟨g, e, fun l => (by cases l)⟩
  · obtain ⟨g, e, _⟩ := h.f14 l
    exact ⟨g, e, fun l => (by cases l)⟩
  · rw [heap_setCell_same W A.g 1 _ _ _ h.blk]; rfl
end
end

section
open Go.RowKit Go.Maps

theorem Typ.no_map {w : World} {q b : Nat} {t : TypeId} {es : Array MapEntry} {cl : Nat} (h : Typ w q t) (hm : w.heap[b]? = some (.map es cl)) : q ≠ b := fun e => by
  subst e
  obtain ⟨c1, f1, e1⟩ := h
  rw [e1] at hm
  cases hm
theorem ids_app {L r : List Tm} : ∀ {xs : List Nat} {ts : List Tm}, xs.map (fun i => L[i]?) = ts.map some → xs.map (fun i => (L ++ r)[i]?) = ts.map some
  | [], _, h => by simpa using h
  | x :: xs, [], h => by simp at h
  | x :: xs, t :: ts, h => by
    simp only [List.map_cons, List.cons.injEq] at h ⊢
    exact ⟨by rw [List.getElem?_append_left (List.getElem?_eq_some_iff.1 h.1).1]; exact h.1, ids_app h.2⟩
theorem F19_typ {w : World} {B : Nat} {A : Ar} (H : Arena w B A) {b : Nat} (h : F19 A b) : Typ w b 64 ∨ Typ w b 52 ∨ Typ w b 3 := by
  rcases h with rfl | h | h
  · exact .inl ⟨_, _, H.blk⟩
  · exact .inr (.inl (H.nodes.typ h))
  · exact .inr (.inr (OwnR.typ H.sizes h))
theorem mapOk_put {D : DataW Unit} {N : List Nd} {x : Nd} {kl : Lit} (hD : IsMap D) (h : MapOk D N) (hkl : keyOf Tryz.prog 142 (keyV x.t x.xs) = some kl) (hf : ∀ (j : Nat) (y : Nd), N[j]? = some y → keyOf Tryz.prog 142 (keyV y.t y.xs) ≠ some kl) :
    MapOk (D.put kl (.lit (.int .i64 N.length))) (N ++ [x]) := by
  have hk : WideAt.IsKeyLit kl := sh_law.key hkl
  refine ⟨fun j y kl' hy hkl' => ?_, fun kl' hh => ?_⟩
  · rcases Nat.lt_or_ge j N.length with hlt | hge
    · rw [List.getElem?_append_left hlt] at hy
      have hne : kl' ≠ kl := fun e => hf j y hy (by rw [hkl', e])
      obtain ⟨h1, h2⟩ := h.1 j y kl' hy hkl'
      exact ⟨by rw [has_put_other hne]; exact h1, fun z => by rw [atKey_put_other hne]; exact h2 z⟩
    · rw [List.getElem?_append_right hge] at hy
      have hj : j = N.length := by
        have := (List.getElem?_eq_some_iff.1 hy).1
        simp at this
        omega
      subst hj
      simp at hy
      subst hy
      rw [hkl] at hkl'
      obtain rfl := Option.some.inj hkl'
      exact ⟨has_put_same hD hk _, fun z => atKey_put_same hD hk _ z⟩
  · by_cases e : kl' = kl
    · subst e
      exact ⟨N.length, x, by simp, hkl⟩
    · rw [has_put_other e] at hh
      obtain ⟨j, y, hy, hky⟩ := h.2 kl' hh
      exact ⟨j, y, by rw [List.getElem?_append_left (List.getElem?_eq_some_iff.1 hy).1]; exact hy, hky⟩
/-- The map stays through the appends. -/
theorem Q19.map7 {B : Nat} {A : Ar} {S : Nat} {NC : List Value} {gN : Nat} {W6 W : World} {x7 x8 x14 x15 : Value} (hQ : Q19 B A S NC gN W6 true true true true true true x7 x8 x14 x15 W) (H6 : Arena W6 B A) {D : DataW Unit}
    (hD : W6.ownsMap Tryz.prog 142 (plainElem Tryz.prog 33) A.bm A.N.length D) : W.ownsMap Tryz.prog 142 (plainElem Tryz.prog 33) A.bm A.N.length D := by
  obtain ⟨es, cl, hb, r⟩ := hD
  refine ⟨es, cl, (hQ.kp.block A.bm (Array.getElem?_eq_some_iff.1 hb).1 fun hf => ?_).trans hb, r⟩
  rcases F19_typ H6 hf with h | h | h <;> exact h.no_map hb rfl
theorem put_end {w W6 W7 W8 : World} {B : Nat} {A : Ar} {k a b S : Nat} {s : List UInt8} {ts : List Tm} {xs : List Nat} {v : Value} {gN : Nat} {x7 x8 x14 x15 : Value} {kl : Lit} {D : DataW Unit}
    (H : Arena w B A) (hB6 : Below w.heap.size w W6) (H6 : Arena W6 B A)
    (hQ : Q19 B A S [.int .i64 k, .int .i64 a, .int .i64 b, .string (bs s), v] gN W6 true true true true true true x7 x8 x14 x15 W7) (hI : IdsV W6 v xs) (hv : ∀ q, v.ownBlock = some q → w.heap.size ≤ q)
    (hD : W7.ownsMap Tryz.prog 142 (plainElem Tryz.prog 33) A.bm A.N.length D) (hDo : MapOk D A.N)
    (hown : W8.ownsMap Tryz.prog 142 (plainElem Tryz.prog 33) A.bm (A.N.length + 1) (D.put kl (.lit (.int .i64 A.N.length)))) (hk8 : Keeps (fun q => some A.bm = some q) W7 W8)
    (hkl : keyOf Tryz.prog 142 (keyV (.mk k a b s ts) xs) = some kl) (hf : ∀ (j : Nat) (y : Nd), A.N[j]? = some y → keyOf Tryz.prog 142 (keyV y.t y.xs) ≠ some kl)
    (hnew : Tm.mk k a b s ts ∉ A.L) (hok : (Tm.mk k a b s ts).ok) (hS : own k s.length + lens ts = S) (hS2 : S ≤ 131072) (hin : ∀ t ∈ ts, t ∈ A.L) (hxs : xs.map (fun i => A.L[i]?) = ts.map some) (hN : A.N.length < 100) :
    ∃ A', Grew w W8 B A A' (some (.mk k a b s ts)) ∧ Nm A'.L A.N.length (some (.mk k a b s ts)) := by
  have hlen : (Tm.mk k a b s ts).len = S := by rw [len_mk (ok_mk.1 hok).1, hS]
  obtain ⟨es, cl, hbm, hDr⟩ := hD
  have hD : W7.ownsMap Tryz.prog 142 (plainElem Tryz.prog 33) A.bm A.N.length D := ⟨es, cl, hbm, hDr⟩
  have hoff : ∀ {q : Nat} {t : TypeId}, Typ W7 q t → ¬ (some A.bm = some q) := fun ht e => ht.no_map hbm (Option.some.inj e).symm
  have hid6 : ∀ q cur fr, W6.heap[q]? = some (.cells cur 33 fr) → ¬ F19 A q := fun q cur fr hq hf => by
    have hT : Typ W6 q _ := ⟨_, _, hq⟩
    rcases F19_typ H6 hf with h | h | h
    · exact hT.ne h (by decide) rfl
    · exact hT.ne h (by decide) rfl
    · exact hT.ne h (by decide) rfl
  have hids : ∀ {v xs}, IdsV W6 v xs → IdsV W8 v xs := fun h => (h.keep hQ.kp hid6).keep hk8 (fun q cur fr hq => hoff ⟨_, _, hq⟩)
  have hLen : A.L.length = A.N.length := A.L_len
  let nd : Nd := ⟨.mk k a b s ts, v, xs⟩
  let A' : Ar := ⟨A.g, A.bm, x8, x15, A.N ++ [nd]⟩
  have hL : A'.L = A.L ++ [.mk k a b s ts] := by simp [A', nd, Ar.L]
  have hAt : A'.L[A.N.length]? = some (.mk k a b s ts) := by rw [hL, ← hLen]; simp
  have h8 : ∀ {E : TypeId} {j : Nat} {u : Value} {zs : List (List Value)}, OwnR W7 B j E u zs → OwnR W8 B j E u zs := fun h => h.keepF hk8 (fun q hq => hoff (h.typ hq))
  have hn1 := h8 (hQ.n1 rfl)
  have hs1 := h8 (hQ.s1 rfl)
  refine ⟨A', ⟨⟨?_, H.hg, H.hm, ?_, ?_, ⟨D.put kl (.lit (.int .i64 A.N.length)), ?_, ?_⟩, ?_, ?_, ?_, ?_⟩, rfl, .inr ⟨_, rfl, hnew, hL⟩, ?_, ?_, rfl⟩, ⟨by rw [get_nat]; exact hAt, fun h => by cases h⟩⟩
  · have hb := hQ.blk
    exact (hk8.block A.g (Array.getElem?_eq_some_iff.1 hb).1 (hoff ⟨_, _, hb⟩)).trans hb
  · show OwnR W8 B 5 _ x8 ((A.N ++ [nd]).map Nd.row)
    rw [List.map_append]
    exact hn1
  · show OwnR W8 B 1 _ x15 (((A.N ++ [nd]).map fun x => (x.t.len : Int)).map iv)
    rw [List.map_append, List.map_append]
    simp only [List.map_cons, List.map_nil, nd, hlen]
    exact hs1
  · show W8.ownsMap _ _ _ A.bm (A.N ++ [nd]).length _
    rw [List.length_append]
    exact hown
  · exact mapOk_put (hD.isMap) hDo hkl hf
  · intro x hx
    rcases List.mem_append.1 hx with hx | hx
    · exact hids (H6.ids x hx)
    · simp only [List.mem_singleton] at hx
      subst hx
      exact hids hI
  · intro x hx
    rw [hL]
    rcases List.mem_append.1 hx with hx | hx
    · exact ids_app (H.args x hx)
    · simp only [List.mem_singleton] at hx
      subst hx
      exact ids_app hxs
  · rw [hL]
    refine ⟨?_, ?_, ?_, ?_⟩
    · rw [List.nodup_append]
      exact ⟨H.good.once, (by simp), fun x hx y hy e => by simp only [List.mem_singleton] at hy; subst hy; subst e; exact hnew hx⟩
    · intro t ht
      rcases List.mem_append.1 ht with ht | ht
      · exact H.good.ok t ht
      · simp only [List.mem_singleton] at ht; subst ht; exact hok
    · intro t ht
      rcases List.mem_append.1 ht with ht | ht
      · exact H.good.size t ht
      · simp only [List.mem_singleton] at ht; subst ht; rw [hlen]; exact hS2
    · intro t ht u hu
      rcases List.mem_append.1 ht with ht | ht
      · exact List.mem_append.2 (.inl (H.good.clos t ht u hu))
      · simp only [List.mem_singleton] at ht; subst ht; exact List.mem_append.2 (.inl (hin u hu))
  · show (A.N ++ [nd]).length ≤ 100
    simp; omega
  · refine ((Keeps.of_below hB6).trans ((hQ.kp.mono (G := A.has) fun q _ hq => ?_).trans (hk8.mono (G := A.has) fun q _ hq => .inr (.inl (Option.some.inj hq).symm))))
    rcases hq with h | h | h
    · exact .inl h
    · exact .inr (.inr (.inl h))
    · exact .inr (.inr (.inr h))
  · intro x hx
    rcases List.mem_append.1 hx with hx | hx
    · exact .inl hx
    · simp only [List.mem_singleton] at hx
      subst hx
      exact .inr hv
end
end Go.Proofs.YtphnakdgpilcmaaGreatDoor
