/- Arenas: the region of put that appends the node and its size: what all its orders keep, step by step. -/
import Derived.Test.YtbeanjaenmpoeaaDoorTmE
import Derived.Test.YtbeanjaenmpoeaaDoorOrd
namespace Go.Proofs.YtbeanjaenmpoeaaDoor
open Go.RowKit Go.Maps

/-- Block q of w has cells of type t. -/
def Typ (w : World) (q : Nat) (t : TypeId) : Prop := ∃ cur fr, w.heap[q]? = some (.cells cur t fr)
theorem Typ.ne {w : World} {q q' : Nat} {t t' : TypeId} (h : Typ w q t) (h' : Typ w q' t') (hne : t ≠ t') : q ≠ q' := fun e => by
  subst e
  obtain ⟨c1, f1, e1⟩ := h
  obtain ⟨c2, f2, e2⟩ := h'
  rw [e1] at e2
  injection e2 with e2
  injection e2 with _ e2
  exact hne e2
theorem OwnR.typ {w : World} {base k : Nat} {E : TypeId} {v : Value} {zs : List (List Value)} (h : OwnR w base k E v zs) {q : Nat} (hq : v.ownBlock = some q) : Typ w q E := by
  rcases h.1.2 with ⟨rfl, _⟩ | ⟨g, cap, cur, rfl, _, hc, _⟩
  · simp [Value.ownBlock] at hq
  · simp [Value.ownBlock] at hq
    subst hq
    exact ⟨_, _, hc⟩
theorem OwnR.grown_ {w w' : World} {base k : Nat} {E E' : TypeId} {v : Value} {zs : List (List Value)} {row : Option Nat} (h : OwnR w base k E v zs) (hg : w.grownBy w' row) (hr : ∀ q, row = some q → Typ w q E') (hne : E ≠ E') : OwnR w' base k E v zs :=
  h.keepF (F := fun b => row = some b) (Keeps.of_grown hg (fun q hq => hq)) (fun q hq hf => (h.typ hq).ne (hr q hf) hne rfl)
theorem block_grown {w w' : World} {g : Nat} {cs : Array Value} {t E' : TypeId} {fr : Nat × Nat} {row : Option Nat} (h : w.heap[g]? = some (.cells cs t fr)) (hg : w.grownBy w' row) (hr : ∀ q, row = some q → Typ w q E') (hne : t ≠ E') : w'.heap[g]? = some (.cells cs t fr) :=
  (hg.block g (Array.getElem?_eq_some_iff.1 h).1 (fun e => (show Typ w g t from ⟨_, _, h⟩).ne (hr g e.symm) hne rfl)).trans h
theorem grown_set (w : World) (a : Addr) (v : Value) : w.grownBy (w.setCell a v) (some a.block) :=
  ⟨rfl, rfl, rfl, by simp [World.setCell], fun k _ hk => heap_setCell_other w a k v (fun e => hk (by rw [e]))⟩

def F19 (A : Ar) (b : Nat) : Prop := b = A.g ∨ A.vn.ownBlock = some b ∨ A.vs.ownBlock = some b
structure Q19 (B : Nat) (A : Ar) (S : Nat) (NC : List Value) (gN : Nat) (W6 : World) (l7 l8 l14 l15 l18 l21 : Bool) (x7 x8 x14 x15 : Value) (W : World) : Prop where
  m8 : l8 = true → l7 = true
  m15 : l15 = true → l14 = true ∧ l8 = true
  m18 : l18 = true → l15 = true
  m21 : l21 = true → l18 = true
  f7 : l7 = true → ∃ g7, x7 = .slice (some ⟨g7, 0, none⟩) 1 1 ∧ (l8 = false → W.heap[g7]? = some (.cells NC.toArray 59 (0, 0)))
  f14 : l14 = true → ∃ g14, x14 = .slice (some ⟨g14, 0, none⟩) 1 1 ∧ (l15 = false → W.heap[g14]? = some (.cells #[.int .i64 S] 3 (0, 0)))
  n0 : l8 = false → OwnR W B 5 59 A.vn (A.N.map Nd.row)
  n1 : l8 = true → OwnR W B 5 59 x8 (A.N.map Nd.row ++ [NC])
  s0 : l15 = false → OwnR W B 1 3 A.vs ((A.N.map fun x => (x.t.len : Int)).map iv)
  s1 : l15 = true → OwnR W B 1 3 x15 ((A.N.map fun x => (x.t.len : Int)).map iv ++ [iv S])
  blk : W.heap[A.g]? = some (.cells #[bif l18 then x8 else A.vn, bif l21 then x15 else A.vs, .map (some A.bm)] 90 (0, 0))
  nd : W.heap[gN]? = some (.cells NC.toArray 59 (0, 0))
  kp : Keeps (F19 A) W6 W
  hB : B ≤ W.heap.size
  vn : ∀ q, A.vn.ownBlock = some q → q ≠ gN
theorem Q19.start {B : Nat} {A : Ar} {S : Nat} {NC : List Value} {gN : Nat} {W6 W : World} {x7 x8 x14 x15 : Value} (H : Arena W6 B A) (hB : B ≤ W6.heap.size) (hn : W6.heap[gN]? = some (.cells NC.toArray 59 (0, 0))) (hv : ∀ q, A.vn.ownBlock = some q → q ≠ gN) (hb : Below W6.heap.size W6 W) :
    Q19 B A S NC gN W6 false false false false false false x7 x8 x14 x15 W := by
  have HW := H.keep hb
  exact ⟨fun h => (by cases h), fun h => (by cases h), fun h => (by cases h), fun h => (by cases h), fun h => (by cases h), fun h => (by cases h), fun _ => HW.nodes, fun h => (by cases h), fun _ => HW.sizes, fun h => (by cases h), HW.blk, (hb.block gN (Array.getElem?_eq_some_iff.1 hn).1).trans hn, Keeps.of_below hb, Nat.le_trans hB hb.size, hv⟩

section
variable {B : Nat} {A : Ar} {S : Nat} {NC : List Value} {gN : Nat} {W6 W : World} {l7 l8 l14 l15 l18 l21 : Bool} {x7 x8 x14 x15 : Value}
/-- A block more. -/
theorem Q19.alloc (h : Q19 B A S NC gN W6 l7 l8 l14 l15 l18 l21 x7 x8 x14 x15 W) (o : Obj) : Q19 B A S NC gN W6 l7 l8 l14 l15 l18 l21 x7 x8 x14 x15 (W.alloc o) := by
  have hb : Below W.heap.size W (W.alloc o) := (Below.refl _ _).alloc (Nat.le_refl _) o
  refine ⟨h.m8, h.m15, h.m18, h.m21, fun l => ?_, fun l => ?_, fun l => (h.n0 l).keep hb, fun l => (h.n1 l).keep hb, fun l => (h.s0 l).keep hb, fun l => (h.s1 l).keep hb, heap_past h.blk o, heap_past h.nd o, h.kp.trans (Keeps.of_below hb), Nat.le_trans h.hB hb.size, h.vn⟩
  · obtain ⟨g, e, hg⟩ := h.f7 l
    exact ⟨g, e, fun l8 => heap_past (hg l8) o⟩
  · obtain ⟨g, e, hg⟩ := h.f14 l
    exact ⟨g, e, fun l8 => heap_past (hg l8) o⟩
theorem Q19.step7 (h : Q19 B A S NC gN W6 false l8 l14 l15 l18 l21 x7 x8 x14 x15 W) : Q19 B A S NC gN W6 true l8 l14 l15 l18 l21 (.slice (some ⟨W.heap.size, 0, none⟩) 1 1) x8 x14 x15 (W.alloc (.cells NC.toArray 59)) := by
  have k := h.alloc (.cells NC.toArray 59)
  exact ⟨fun _ => rfl, k.m15, k.m18, k.m21, fun _ => ⟨_, rfl, fun _ => heap_new W _⟩, k.f14, k.n0, k.n1, k.s0, k.s1, k.blk, k.nd, k.kp, k.hB, k.vn⟩
theorem Q19.step14 (h : Q19 B A S NC gN W6 l7 l8 false l15 l18 l21 x7 x8 x14 x15 W) : Q19 B A S NC gN W6 l7 l8 true l15 l18 l21 x7 x8 (.slice (some ⟨W.heap.size, 0, none⟩) 1 1) x15 (W.alloc (.cells #[.int .i64 S] 3)) := by
  have k := h.alloc (.cells #[.int .i64 S] 3)
  exact ⟨k.m8, fun l => (by have := (h.m15 l).1; cases this), k.m18, k.m21, k.f7, fun _ => ⟨_, rfl, fun _ => heap_new W _⟩, k.n0, k.n1, k.s0, k.s1, k.blk, k.nd, k.kp, k.hB, k.vn⟩
theorem Q19.no15 (h : Q19 B A S NC gN W6 l7 false l14 l15 l18 l21 x7 x8 x14 x15 W) : l15 = false := by
  cases l15 with
  | false => rfl
  | true => have := (h.m15 rfl).2; cases this
theorem Q19.no18 (h : Q19 B A S NC gN W6 l7 l8 l14 false l18 l21 x7 x8 x14 x15 W) : l18 = false := by
  cases l18 with
  | false => rfl
  | true => have := h.m18 rfl; cases this
theorem Q19.no21 (h : Q19 B A S NC gN W6 l7 l8 l14 l15 false l21 x7 x8 x14 x15 W) : l21 = false := by
  cases l21 with
  | false => rfl
  | true => have := h.m21 rfl; cases this
theorem Q19.step8 {W' : World} {v' : Value} (h : Q19 B A S NC gN W6 true false l14 l15 l18 l21 x7 x8 x14 x15 W) (ho : OwnR W' B 5 59 v' (A.N.map Nd.row ++ [NC])) (hg : W.grownBy W' A.vn.ownBlock) : Q19 B A S NC gN W6 true true l14 l15 l18 l21 x7 v' x14 x15 W' := by
  obtain rfl := h.no15
  obtain rfl := h.no18
  obtain rfl := h.no21
  have ht := fun q hq => (h.n0 rfl).typ (q := q) hq
  refine ⟨fun _ => rfl, fun l => (by cases l), fun l => (by cases l), fun l => (by cases l), fun _ => ?_, fun l => ?_, fun l => (by cases l), fun _ => ho, fun l => (h.s0 l).grown_ hg ht (by decide), fun l => (by cases l), ?_, ?_, h.kp.trans (Keeps.of_grown hg fun q hq => .inr (.inl hq)), Nat.le_trans h.hB hg.size, h.vn⟩
  · obtain ⟨g, e, _⟩ := h.f7 rfl
    exact ⟨g, e, fun l => (by cases l)⟩
  · obtain ⟨g, e, hgg⟩ := h.f14 l
    exact ⟨g, e, fun l => block_grown (hgg l) hg ht (by decide)⟩
  · exact block_grown h.blk hg ht (by decide)
  · refine (hg.block gN (Array.getElem?_eq_some_iff.1 h.nd).1 (fun e => h.vn gN e.symm rfl)).trans h.nd
theorem Q19.step15 {W' : World} {v' : Value} (h : Q19 B A S NC gN W6 l7 true true false l18 l21 x7 x8 x14 x15 W) (ho : OwnR W' B 1 3 v' ((A.N.map fun x => (x.t.len : Int)).map iv ++ [iv S])) (hg : W.grownBy W' A.vs.ownBlock) : Q19 B A S NC gN W6 l7 true true true l18 l21 x7 x8 x14 v' W' := by
  obtain rfl := h.no18
  obtain rfl := h.no21
  have ht := fun q hq => (h.s0 rfl).typ (q := q) hq
  refine ⟨h.m8, fun _ => ⟨rfl, rfl⟩, fun l => (by cases l), fun l => (by cases l), fun l => ?_, fun _ => ?_, fun l => (by cases l), fun l => (h.n1 l).grown_ hg ht (by decide), fun l => (by cases l), fun _ => ho, block_grown h.blk hg ht (by decide), block_grown h.nd hg ht (by decide), h.kp.trans (Keeps.of_grown hg fun q hq => .inr (.inr hq)), Nat.le_trans h.hB hg.size, h.vn⟩
  · obtain ⟨g, e, _⟩ := h.f7 l
    exact ⟨g, e, fun l => (by cases l)⟩
  · obtain ⟨g, e, _⟩ := h.f14 rfl
    exact ⟨g, e, fun l => (by cases l)⟩
theorem Q19.step18 (h : Q19 B A S NC gN W6 l7 l8 l14 true false l21 x7 x8 x14 x15 W) : Q19 B A S NC gN W6 l7 l8 l14 true true l21 x7 x8 x14 x15 (W.setCell ⟨A.g, 0, none⟩ x8) := by
  obtain rfl := h.no21
  obtain ⟨rfl, rfl⟩ := h.m15 rfl
  have hg := grown_set W ⟨A.g, 0, none⟩ x8
  have ht : ∀ q, some A.g = some q → Typ W q 90 := fun q hq => by injection hq with hq; subst hq; exact ⟨_, _, h.blk⟩
  refine ⟨h.m8, h.m15, fun _ => rfl, fun l => (by cases l), fun l => ?_, fun l => ?_, fun l => (by cases l), fun l => (h.n1 l).grown_ hg ht (by decide), fun l => (by cases l), fun l => (h.s1 l).grown_ hg ht (by decide), ?_, block_grown h.nd hg ht (by decide), h.kp.trans (Keeps.of_grown hg fun q hq => .inl (by injection hq with hq; exact hq.symm)), Nat.le_trans h.hB hg.size, h.vn⟩
  · obtain ⟨g, e, _⟩ := h.f7 l
    exact ⟨g, e, fun l => (by cases l)⟩
  · obtain ⟨g, e, _⟩ := h.f14 l
    exact ⟨g, e, fun l => (by cases l)⟩
  · rw [heap_setCell_same W A.g 0 _ _ _ h.blk]; rfl
theorem Q19.step21 (h : Q19 B A S NC gN W6 l7 l8 l14 l15 true false x7 x8 x14 x15 W) : Q19 B A S NC gN W6 l7 l8 l14 l15 true true x7 x8 x14 x15 (W.setCell ⟨A.g, 1, none⟩ x15) := by
  obtain rfl := h.m18 rfl
  obtain ⟨rfl, rfl⟩ := h.m15 rfl
  have hg := grown_set W ⟨A.g, 1, none⟩ x15
  have ht : ∀ q, some A.g = some q → Typ W q 90 := fun q hq => by injection hq with hq; subst hq; exact ⟨_, _, h.blk⟩
  refine ⟨h.m8, h.m15, h.m18, fun _ => rfl, fun l => ?_, fun l => ?_, fun l => (by cases l), fun l => (h.n1 l).grown_ hg ht (by decide), fun l => (by cases l), fun l => (h.s1 l).grown_ hg ht (by decide), ?_, block_grown h.nd hg ht (by decide), h.kp.trans (Keeps.of_grown hg fun q hq => .inl (by injection hq with hq; exact hq.symm)), Nat.le_trans h.hB hg.size, h.vn⟩
  · obtain ⟨g, e, _⟩ := h.f7 l
    exact ⟨g, e, fun l => (by cases l)⟩
  · obtain ⟨g, e, _⟩ := h.f14 l
    exact ⟨g, e, fun l => (by cases l)⟩
  · rw [heap_setCell_same W A.g 1 _ _ _ h.blk]; rfl
end
end Go.Proofs.YtbeanjaenmpoeaaDoor
