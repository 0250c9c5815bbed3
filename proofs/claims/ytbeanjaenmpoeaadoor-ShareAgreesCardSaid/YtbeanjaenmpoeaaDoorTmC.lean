/- Arenas in memory: what they are made of, and what stays of the world when they change. -/
import Derived.Test.YtbeanjaenmpoeaaDoorTmB
import Derived.Test.YtbeanjaenmpoeaaDoorOwn
import Derived.Test.YtbeanjaenmpoeaaDoorInt
import Derived.Test.YtbeanjaenmpoeaaDoorStr
import Derived.Test.YtbeanjaenmpoeaaDoorKeyEq
import Derived.Maps.OwnSet
import Derived.Lib.ItoaNum
namespace Go.Proofs.YtbeanjaenmpoeaaDoor
open Go.RowKit Go.Maps

/-! ### What stays -/
/-- All blocks stay but those of F. -/
structure Keeps (F : Nat → Prop) (w w' : World) : Prop where
  os : w'.os = w.os
  tape : w'.tape = w.tape
  output : w'.output = w.output
  size : w.heap.size ≤ w'.heap.size
  block : ∀ k, k < w.heap.size → ¬ F k → w'.heap[k]? = w.heap[k]?
theorem Keeps.of_below {F : Nat → Prop} {w w' : World} (h : Below w.heap.size w w') : Keeps F w w' := ⟨h.os, h.tape, h.output, h.size, fun k hk _ => h.block k hk⟩
theorem Keeps.refl (F : Nat → Prop) (w : World) : Keeps F w w := ⟨rfl, rfl, rfl, Nat.le_refl _, fun _ _ _ => rfl⟩
theorem Keeps.trans {F : Nat → Prop} {a b c : World} (h : Keeps F a b) (k : Keeps F b c) : Keeps F a c :=
  ⟨k.os.trans h.os, k.tape.trans h.tape, k.output.trans h.output, Nat.le_trans h.size k.size, fun i hi hf => (k.block i (Nat.lt_of_lt_of_le hi h.size) hf).trans (h.block i hi hf)⟩
theorem Keeps.mono {F G : Nat → Prop} {w w' : World} (h : Keeps F w w') (hFG : ∀ k, k < w.heap.size → F k → G k) : Keeps G w w' := ⟨h.os, h.tape, h.output, h.size, fun k hk hg => h.block k hk (fun hf => hg (hFG k hk hf))⟩
theorem Keeps.below {F : Nat → Prop} {w w' : World} {B : Nat} (h : Keeps F w w') (hF : ∀ k, F k → B ≤ k) (hB : B ≤ w.heap.size) : Below B w w' :=
  ⟨h.os, h.tape, h.output, h.size, fun k hk => h.block k (by omega) (fun hf => by have := hF k hf; omega)⟩
theorem Keeps.of_grown {F : Nat → Prop} {w w' : World} {row : Option Nat} (h : w.grownBy w' row) (hF : ∀ q, row = some q → F q) : Keeps F w w' :=
  ⟨h.os, h.tape, h.output, h.size, fun k hk hf => h.block k hk (fun e => hf (hF k e.symm))⟩
theorem Keeps.cell {F : Nat → Prop} {w w' : World} (h : Keeps F w w') {a : Addr} (hlt : a.block < w.heap.size) (hf : ¬ F a.block) : w'.cell? a = w.cell? a := World.cell?_of_block (h.block a.block hlt hf)
/-- A slice's block is none of F. -/
def OffV (F : Nat → Prop) (v : Value) : Prop := ∀ q, v.ownBlock = some q → ¬ F q
theorem OwnR.keepF {w w' : World} {base k : Nat} {E : TypeId} {v : Value} {zs : List (List Value)} {F : Nat → Prop} (h : OwnR w base k E v zs) (hb : Keeps F w w') (ho : OffV F v) : OwnR w' base k E v zs := by
  obtain ⟨⟨hl, hh⟩, hz⟩ := h
  refine ⟨⟨hl, ?_⟩, hz⟩
  rcases hh with h0 | ⟨g, cap, cur, hv, hg, hc, r⟩
  · exact .inl h0
  · have hlt : g < w.heap.size := (Array.getElem?_eq_some_iff.1 hc).1
    refine .inr ⟨g, cap, cur, hv, hg, (hb.block g hlt (ho g ?_)).trans hc, r⟩
    rw [hv]; rfl
theorem Rws.keepF {w w' : World} {k n : Nat} {A : Option Addr} {zs : List (List Value)} {F : Nat → Prop} (h : Rws w k A n zs) (hb : Keeps F w w') (ho : ∀ b off, A = some ⟨b, off, none⟩ → 0 < n → ¬ F b) : Rws w' k A n zs :=
  ⟨h.1, h.2.1, fun hn => by
    obtain ⟨b, off, e, hlt, hc⟩ := h.2.2 hn
    refine ⟨b, off, e, Nat.lt_of_lt_of_le hlt hb.size, fun j z hz i v hv => ?_⟩
    rw [hb.cell (a := ⟨b, off + j * k + i, none⟩) hlt (ho b off e hn)]
    exact hc j z hz i v hv⟩
theorem ownBlock_lt {w : World} {base k : Nat} {E : TypeId} {v : Value} {zs : List (List Value)} (h : OwnR w base k E v zs) {q : Nat} (hq : v.ownBlock = some q) : q < w.heap.size := (h.1.lt q hq).2

/-! ### Nodes -/
def bs (l : List UInt8) : ByteArray := ⟨l.toArray⟩
theorem bs_size (l : List UInt8) : (bs l).size = l.length := by simp [bs, ByteArray.size]
theorem bs_inj {l m : List UInt8} (h : bs l = bs m) : l = m := by
  unfold bs at h
  injection h with h
  simpa using congrArg Array.toList h
/-- A term's node: the term, the slice of those that it is made of, and their numbers. -/
structure Nd where
  t : Tm
  v : Value
  xs : List Nat
def Nd.row (x : Nd) : List Value := [.int .i64 x.t.kind, .int .i64 x.t.a, .int .i64 x.t.b, .string (bs x.t.s), x.v]
def idv (x : Nat) : List Value := [.int .i64 x]
/-- A slice of numbers of terms, in a block of the arena's own. -/
def IdsV (w : World) (v : Value) (xs : List Nat) : Prop :=
  ∃ A c, v = .slice A xs.length c ∧ Rws w 1 A xs.length (xs.map idv) ∧ (0 < xs.length → ∃ b off cur fr, A = some ⟨b, off, none⟩ ∧ w.heap[b]? = some (.cells cur 26 fr))
/-- An arena: where its struct, its map, its slices lie; its nodes. -/
structure Ar where
  g : Nat
  bm : Nat
  vn : Value
  vs : Value
  N : List Nd
def Ar.L (A : Ar) : List Tm := A.N.map Nd.t
theorem Ar.L_len (A : Ar) : A.L.length = A.N.length := by simp [Ar.L]
theorem Ar.L_at {A : Ar} {j : Nat} {x : Nd} (h : A.N[j]? = some x) : A.L[j]? = some x.t := by unfold Ar.L; rw [List.getElem?_map, h]; rfl
theorem Ar.N_at {A : Ar} {j : Nat} {t : Tm} (h : A.L[j]? = some t) : ∃ x, A.N[j]? = some x ∧ x.t = t := by
  unfold Ar.L at h
  rw [List.getElem?_map] at h
  cases e : A.N[j]? with
  | none => rw [e] at h; cases h
  | some x => rw [e] at h; exact ⟨x, rfl, by simpa using h⟩
/-- The arena's own blocks that are written. -/
def Ar.has (A : Ar) (b : Nat) : Prop := b = A.g ∨ b = A.bm ∨ A.vn.ownBlock = some b ∨ A.vs.ownBlock = some b
/-- The numbers' text, by which a term's node is found. -/
def joinL : List Nat → List UInt8
  | [] => []
  | x :: r => Lib.decDigits x ++ 32 :: joinL r
def keyV (t : Tm) (xs : List Nat) : Value := .agg #[.int .i64 t.kind, .int .i64 t.a, .int .i64 t.b, .string (bs t.s), .string (bs (joinL xs))]
/-- What the map holds: each node's key with its number, and no other key. -/
def MapOk (D : DataW Unit) (N : List Nd) : Prop :=
  (∀ (j : Nat) (x : Nd) (kl : Lit), N[j]? = some x → keyOf Tryd.prog 118 (keyV x.t x.xs) = some kl → Maps.has D kl = true ∧ ∀ z, D.atKey kl z = .lit (.int .i64 j)) ∧
  (∀ kl, Maps.has D kl = true → ∃ (j : Nat) (x : Nd), N[j]? = some x ∧ keyOf Tryd.prog 118 (keyV x.t x.xs) = some kl)
/-- An arena in memory, from block B on. -/
structure Arena (w : World) (B : Nat) (A : Ar) : Prop where
  blk : w.heap[A.g]? = some (.cells #[A.vn, A.vs, .map (some A.bm)] 90 (0, 0))
  hg : B ≤ A.g
  hm : B ≤ A.bm
  nodes : OwnR w B 5 59 A.vn (A.N.map Nd.row)
  sizes : OwnI w B A.vs (A.N.map fun x => (x.t.len : Int))
  map : ∃ D : DataW Unit, w.ownsMap Tryd.prog 118 (plainElem Tryd.prog 26) A.bm A.N.length D ∧ MapOk D A.N
  ids : ∀ x ∈ A.N, IdsV w x.v x.xs
  args : ∀ x ∈ A.N, x.xs.map (fun i => A.L[i]?) = x.t.args.map some
  good : Good A.L
  few : A.N.length ≤ 100
theorem Arena.lt {w : World} {B : Nat} {A : Ar} (h : Arena w B A) : A.g < w.heap.size := (Array.getElem?_eq_some_iff.1 h.blk).1
theorem Arena.has_ge {w : World} {B : Nat} {A : Ar} (h : Arena w B A) {b : Nat} (hb : A.has b) : B ≤ b ∧ b < w.heap.size := by
  rcases hb with rfl | rfl | hb | hb
  · exact ⟨h.hg, h.lt⟩
  · obtain ⟨D, hD, _⟩ := h.map
    exact ⟨h.hm, hD.lt⟩
  · exact h.nodes.1.lt b hb
  · exact h.sizes.1.lt b hb
theorem IdsV.keep {w w' : World} {v : Value} {xs : List Nat} {F : Nat → Prop} (h : IdsV w v xs) (hb : Keeps F w w') (ho : ∀ b cur fr, w.heap[b]? = some (.cells cur 26 fr) → ¬ F b) : IdsV w' v xs := by
  obtain ⟨A, c, hv, hr, hi⟩ := h
  refine ⟨A, c, hv, hr.keepF hb (fun b off e hn => ?_), fun hn => ?_⟩
  · obtain ⟨b', off', cur, fr, e', hc⟩ := hi hn
    rw [e] at e'
    injection e' with e'
    injection e' with e1 e2 e3
    subst e1
    exact ho _ _ _ hc
  · obtain ⟨b, off, cur, fr, e, hc⟩ := hi hn
    exact ⟨b, off, cur, fr, e, (hb.block b (Array.getElem?_eq_some_iff.1 hc).1 (ho _ _ _ hc)).trans hc⟩
/-- An arena stays where its blocks, and all of numbers of terms, stay. -/
theorem Arena.keepF {w w' : World} {B : Nat} {A : Ar} {F : Nat → Prop} (h : Arena w B A) (hb : Keeps F w w') (ho : ∀ b, A.has b → ¬ F b) (hi : ∀ b cur fr, w.heap[b]? = some (.cells cur 26 fr) → ¬ F b) : Arena w' B A := by
  obtain ⟨D, hD, hDo⟩ := h.map
  refine ⟨(hb.block A.g h.lt (ho _ (.inl rfl))).trans h.blk, h.hg, h.hm, h.nodes.keepF hb (fun q hq => ho q (.inr (.inr (.inl hq)))), OwnR.keepF h.sizes hb (fun q hq => ho q (.inr (.inr (.inr hq)))), ⟨D, ?_, hDo⟩, fun x hx => (h.ids x hx).keep hb hi, h.args, h.good, h.few⟩
  obtain ⟨es, clock, hbm, r⟩ := hD
  exact ⟨es, clock, (hb.block A.bm (Array.getElem?_eq_some_iff.1 hbm).1 (ho _ (.inr (.inl rfl)))).trans hbm, r⟩
theorem Arena.keep {w w' : World} {B : Nat} {A : Ar} (h : Arena w B A) (hb : Below w.heap.size w w') : Arena w' B A :=
  h.keepF (F := fun _ => False) (Keeps.of_below hb) (fun _ _ h => h) (fun _ _ _ _ h => h)
theorem Arena.mono {w : World} {B B' : Nat} {A : Ar} (h : Arena w B A) (hB : B' ≤ B) : Arena w B' A := by
  have hm : ∀ {base k : Nat} {E : TypeId} {v : Value} {zs : List (List Value)}, OwnR w base k E v zs → B' ≤ base → OwnR w B' k E v zs := by
    intro base k E v zs h hB
    obtain ⟨⟨hl, hh⟩, hz⟩ := h
    refine ⟨⟨hl, ?_⟩, hz⟩
    rcases hh with h0 | ⟨g, cap, cur, hv, hg, r⟩
    · exact .inl h0
    · exact .inr ⟨g, cap, cur, hv, by omega, r⟩
  exact ⟨h.blk, Nat.le_trans hB h.hg, Nat.le_trans hB h.hm, hm h.nodes hB, hm h.sizes hB, h.map, h.ids, h.args, h.good, h.few⟩
/-- What a call on an arena has left: it has grown by the term o; all blocks but its own stay. -/
structure Grew (w w' : World) (B : Nat) (A A' : Ar) (o : Option Tm) : Prop where
  arena : Arena w' B A'
  same : A'.g = A.g
  grow : Grow A.L A'.L o
  keeps : Keeps A.has w w'

/-! ### Keys -/
theorem split32 : ∀ (l m r r' : List UInt8), (32 : UInt8) ∉ l → (32 : UInt8) ∉ m → l ++ 32 :: r = m ++ 32 :: r' → l = m ∧ r = r'
  | [], [], r, r', _, _, h => by simpa using h
  | [], y :: m, r, r', _, h2, h => by
    simp only [List.nil_append, List.cons_append, List.cons.injEq] at h
    exact absurd (by rw [h.1]; simp) h2
  | x :: l, [], r, r', h1, _, h => by
    simp only [List.nil_append, List.cons_append, List.cons.injEq] at h
    exact absurd (by rw [← h.1]; simp) h1
  | x :: l, y :: m, r, r', h1, h2, h => by
    simp only [List.cons_append, List.cons.injEq] at h
    obtain ⟨e1, e2⟩ := split32 l m r r' (fun hh => h1 (by simp [hh])) (fun hh => h2 (by simp [hh])) h.2
    exact ⟨by rw [h.1, e1], e2⟩
theorem dig_ne {i : Nat} (h : i < 10) : UInt8.ofNat (48 + i) ≠ 32 := fun e => by
  have := ofNat_inj (x := 48 + i) (y := 32) (by omega) (by decide) e
  omega
theorem digits_no {x : Nat} (h : x < 100) : (32 : UInt8) ∉ Lib.decDigits x := by
  by_cases h1 : x < 10
  · rw [Lib.decDigits_one h1]
    simp only [List.mem_singleton]
    exact fun e => dig_ne h1 e.symm
  · rw [Lib.decDigits_two h1 h]
    simp only [List.mem_cons, List.not_mem_nil, or_false]
    rintro (e | e)
    · exact dig_ne (i := x / 10) (by omega) e.symm
    · exact dig_ne (i := x % 10) (by omega) e.symm
theorem digits_eq {x y : Nat} (hx : x < 100) (hy : y < 100) (h : Lib.decDigits x = Lib.decDigits y) : x = y := by
  by_cases h1 : x < 10 <;> by_cases h2 : y < 10
  · rw [Lib.decDigits_one h1, Lib.decDigits_one h2] at h
    simp only [List.cons.injEq, and_true] at h
    have := ofNat_inj (by omega) (by omega) h
    omega
  · rw [Lib.decDigits_one h1, Lib.decDigits_two h2 hy] at h
    simp at h
  · rw [Lib.decDigits_two h1 hx, Lib.decDigits_one h2] at h
    simp at h
  · rw [Lib.decDigits_two h1 hx, Lib.decDigits_two h2 hy] at h
    simp only [List.cons.injEq, and_true] at h
    have e1 := ofNat_inj (by omega) (by omega) h.1
    have e2 := ofNat_inj (by omega) (by omega) h.2
    omega
theorem joinL_inj : ∀ (l m : List Nat), (∀ x ∈ l, x < 100) → (∀ x ∈ m, x < 100) → joinL l = joinL m → l = m
  | [], [], _, _, _ => rfl
  | [], y :: m, _, _, h => by
    have := congrArg List.length h
    simp [joinL] at this
  | x :: l, [], _, _, h => by
    have := congrArg List.length h
    simp [joinL] at this
  | x :: l, y :: m, h1, h2, h => by
    rw [joinL, joinL] at h
    have hx := h1 x (by simp)
    have hy := h2 y (by simp)
    obtain ⟨e1, e2⟩ := split32 _ _ _ _ (digits_no hx) (digits_no hy) h
    rw [digits_eq hx hy e1, joinL_inj l m (fun z hz => h1 z (by simp [hz])) (fun z hz => h2 z (by simp [hz])) e2]
def shDs : List TypeDesc := [.int .i64, .int .i64, .int .i64, .string, .string]
theorem sh_flat : flatDesc Tryd.prog 4 118 = some shDs := by kernel_rfl
theorem sh_noBlank : noBlank Tryd.prog 4 118 = true := by kernel_rfl
theorem sh_key : Tryd.prog.keyType 118 = true := by kernel_rfl
theorem sh_cells : Tryd.prog.cellsOf 118 = 5 := by kernel_rfl
theorem sh_law : Keyed Tryd.prog 118 := Keyed.of_law (deep_law_laid (m := 8) (by kernel_rfl) (by decide) (by rw [show Tryd.prog.types.size = 194 by kernel_rfl]; decide) (by kernel_rfl) (by kernel_rfl))
theorem sh_keyOf {cs : List Value} (h : allOk shDs cs) : ∃ kl, keyOf Tryd.prog 118 (.agg cs.toArray) = some kl := by
  have fx : (Value.agg cs.toArray).formed Tryd.prog 118 = true := by
    unfold Value.formed
    rw [Tryd.underlying118]
    simp only [List.size_toArray, h.1, sh_cells]
    rfl
  have kx := flat_keyLits 4 _ _ _ (Tryd.prog.types.size + 1) sh_flat sh_noBlank h (by rw [show Tryd.prog.types.size = 194 by kernel_rfl]; decide)
  refine ⟨.string (keyBytes (cs.map litOf)), ?_⟩
  unfold keyOf
  rw [Tryd.underlying118]
  simp only [sh_key, fx, Bool.and_self, if_true, Value.cells, kx]
  rfl
end Go.Proofs.YtbeanjaenmpoeaaDoor
