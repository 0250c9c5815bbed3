/- An event of the program as a Lean structure, and its 34 cells. -/
import Derived.Test.YtkgkpoiacbjdfaaProg
import Derived.Test.YtkgkpoiacbjdfaaBase
import Derived.Test.YtkgkpoiacbjdfaaOwn
namespace Go.Proofs.Ytkgkpoiacbjdfaa
open Go.RowKit

structure Dn where
  vc : ByteArray
  vs : ByteArray
  ic : ByteArray
  is : ByteArray
  c0 : ByteArray
  c1 : ByteArray
  c2 : ByteArray
  c3 : ByteArray
  c4 : ByteArray
  c5 : ByteArray
  c6 : ByteArray
  c7 : ByteArray
  method : Int
  w0 : Int
  w1 : Int
  w2 : Int
  p : ByteArray
  g : ByteArray
  key : Int
  e : Int
  f : Int
  k : Int
  hash : Int
  session : Int
  up : Int
  down : Int
  deriving DecidableEq

structure Ev where
  kind : Int
  ses : Int
  num : Int
  who : Int
  user : ByteArray
  svc : ByteArray
  alg : ByteArray
  sid : Int
  dn : Dn
  deriving DecidableEq

def Dn.cells (d : Dn) : List Value :=
  [.string d.vc, .string d.vs, .string d.ic, .string d.is, .string d.c0, .string d.c1, .string d.c2, .string d.c3, .string d.c4, .string d.c5, .string d.c6, .string d.c7, .int .i64 d.method, .int .u32 d.w0, .int .u32 d.w1, .int .u32 d.w2,
   .string d.p, .string d.g, .int .i64 d.key, .int .i64 d.e, .int .i64 d.f, .int .i64 d.k, .int .i64 d.hash, .int .i64 d.session, .int .i64 d.up, .int .i64 d.down]
def Ev.cells (e : Ev) : List Value :=
  [.int .i64 e.kind, .int .i64 e.ses, .int .i64 e.num, .int .i64 e.who, .string e.user, .string e.svc, .string e.alg, .int .i64 e.sid,
   .string e.dn.vc, .string e.dn.vs, .string e.dn.ic, .string e.dn.is, .string e.dn.c0, .string e.dn.c1, .string e.dn.c2, .string e.dn.c3, .string e.dn.c4, .string e.dn.c5, .string e.dn.c6, .string e.dn.c7, .int .i64 e.dn.method, .int .u32 e.dn.w0, .int .u32 e.dn.w1, .int .u32 e.dn.w2,
   .string e.dn.p, .string e.dn.g, .int .i64 e.dn.key, .int .i64 e.dn.e, .int .i64 e.dn.f, .int .i64 e.dn.k, .int .i64 e.dn.hash, .int .i64 e.dn.session, .int .i64 e.dn.up, .int .i64 e.dn.down]

theorem Ev.len (e : Ev) : e.cells.length = 34 := rfl
theorem Ev.at0 (e : Ev) : e.cells[0]? = some (.int .i64 e.kind) := rfl
theorem Ev.at1 (e : Ev) : e.cells[1]? = some (.int .i64 e.ses) := rfl
theorem Ev.at2 (e : Ev) : e.cells[2]? = some (.int .i64 e.num) := rfl
theorem Ev.at3 (e : Ev) : e.cells[3]? = some (.int .i64 e.who) := rfl

def Evs (w : World) (A : Option Addr) (n : Nat) (es : List Ev) : Prop := Rws w 34 A n (es.map Ev.cells)
theorem Evs.keep {w w' : World} {A : Option Addr} {n : Nat} {es : List Ev} (h : Evs w A n es) (hb : Below w.heap.size w w') : Evs w' A n es := Rws.keep h hb
theorem Evs.len {w : World} {A : Option Addr} {n : Nat} {es : List Ev} (h : Evs w A n es) : es.length = n := by simpa using h.1
theorem Evs.row {w : World} {A : Option Addr} {n : Nat} {es : List Ev} (h : Evs w A n es) {j : Nat} (hj : j < n) :
    ∃ b off e, A = some ⟨b, off, none⟩ ∧ b < w.heap.size ∧ es[j]? = some e ∧ w.rangeAt b (off + j * 34) e.cells := by
  obtain ⟨b, off, z, e, hlt, hz, _, hr⟩ := Rws.row h hj
  rw [List.getElem?_map] at hz
  cases he : es[j]? with
  | none => rw [he] at hz; cases hz
  | some x =>
    rw [he] at hz
    simp only [Option.map_some, Option.some.injEq] at hz
    subst hz
    exact ⟨b, off, x, e, hlt, rfl, hr⟩
theorem Ev.flds {w : World} {b o : Nat} {e : Ev} (h : w.rangeAt b o e.cells) : w.cell? ⟨b, o, none⟩ = some (.int .i64 e.kind) ∧ w.cell? ⟨b, o + 1, none⟩ = some (.int .i64 e.ses) ∧ w.cell? ⟨b, o + 2, none⟩ = some (.int .i64 e.num) ∧ w.cell? ⟨b, o + 3, none⟩ = some (.int .i64 e.who) :=
  ⟨h 0 _ rfl, h 1 _ rfl, h 2 _ rfl, h 3 _ rfl⟩
theorem Ev.one (e : Ev) : e.cells.toArray.all (·.oneCell') = true := by simp [Ev.cells, Value.oneCell']
def Ev.zero : Ev := ⟨0, 0, 0, 0, ByteArray.empty, ByteArray.empty, ByteArray.empty, 0, ⟨ByteArray.empty, ByteArray.empty, ByteArray.empty, ByteArray.empty, ByteArray.empty, ByteArray.empty, ByteArray.empty, ByteArray.empty, ByteArray.empty, ByteArray.empty, ByteArray.empty, ByteArray.empty, 0, 0, 0, 0, ByteArray.empty, ByteArray.empty, 0, 0, 0, 0, 0, 0, 0, 0⟩⟩
theorem ev_zero : (Try.prog.info? 37).bind (·.zero) = some (.agg Ev.zero.cells.toArray) := by kernel_rfl
theorem ev_size : (Try.prog.info? 37).map (·.size) = some 34 := by kernel_rfl
theorem Evs.block {w : World} {g : Nat} {es : List Ev} {t : TypeId} {fr : Nat × Nat} (h : w.heap[g]? = some (.cells (es.flatMap Ev.cells).toArray t fr)) (hlt : g < w.heap.size) : Evs w (some ⟨g, 0, none⟩) es.length es := by
  have := Rws.block (w := w) (zs := es.map Ev.cells) (k := 34) (by intro z hz; obtain ⟨e, _, rfl⟩ := List.mem_map.1 hz; rfl) (by rw [← List.flatMap_def]; exact h) hlt
  simpa [Evs] using this
/-- A slice of events of the call's own. -/
theorem Ev.fldM {w : World} {b o : Nat} {e : Ev} (h : w.rangeAt b o e.cells) : w.cell? ⟨b, o + 8 + 12, none⟩ = some (.int .i64 e.dn.method) := by
  have := h 20 _ rfl
  rw [show o + 8 + 12 = o + 20 by omega]; exact this
/-- the names that were agreed upon. -/
def Ev.chc (e : Ev) : List Value := [.string e.dn.c0, .string e.dn.c1, .string e.dn.c2, .string e.dn.c3, .string e.dn.c4, .string e.dn.c5, .string e.dn.c6, .string e.dn.c7]
theorem Ev.fldN {w : World} {b o : Nat} {e : Ev} (h : w.rangeAt b o e.cells) : w.rangeAt b (o + 8 + 4) e.chc := fun j v hv => by
  have hj : j < 8 := (List.getElem?_eq_some_iff.1 hv).1
  have : e.cells[12 + j]? = some v := by
    rw [← hv]
    match j, hj with
    | 0, _ => rfl
    | 1, _ => rfl
    | 2, _ => rfl
    | 3, _ => rfl
    | 4, _ => rfl
    | 5, _ => rfl
    | 6, _ => rfl
    | 7, _ => rfl
  have := h (12 + j) v this
  rw [show o + 8 + 4 + j = o + (12 + j) by omega]; exact this
def OwnE (w : World) (base : Nat) (v : Value) (es : List Ev) : Prop := OwnR w base 34 37 v (es.map Ev.cells)
theorem OwnE.evs {w : World} {base : Nat} {v : Value} {es : List Ev} (h : OwnE w base v es) : ∃ A c, v = .slice A es.length c ∧ Evs w A es.length es := by
  obtain ⟨A, c, hv, hr⟩ := OwnR.rws h
  rw [List.length_map] at hv hr
  exact ⟨A, c, hv, hr⟩
theorem OwnE.evs_ {w : World} {base : Nat} {v : Value} {es : List Ev} (h : OwnE w base v es) : ∃ A n c, v = .slice A n c ∧ Hid (n = es.length) ∧ Evs w A n es := by
  obtain ⟨A, c, hv, hr⟩ := h.evs
  exact ⟨A, _, c, hv, rfl, hr⟩
theorem OwnE.keep {w w' : World} {base : Nat} {v : Value} {es : List Ev} (h : OwnE w base v es) (hb : Below w.heap.size w w') : OwnE w' base v es := OwnR.keep h hb
theorem ev_info : (Try.prog.info? 37).map (fun i => (i.zero, i.size, i.bytes)) = some (some (.agg Ev.zero.cells.toArray), 34, 400) := by kernel_rfl
theorem Ev.one_ (e : Ev) : ∀ u ∈ e.cells, u.oneCell' = true := by
  intro u hu
  have := e.one
  rw [Array.all_eq_true_iff_forall_mem] at this
  exact this u (by simpa using hu)
end Go.Proofs.Ytkgkpoiacbjdfaa
