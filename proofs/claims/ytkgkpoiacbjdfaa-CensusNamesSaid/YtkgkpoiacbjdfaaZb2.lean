/- Texts joined: what each shows stands ahead of its theorems. -/
import Derived.Test.YtkgkpoiacbjdfaaProg
import Derived.Test.YtkgkpoiacbjdfaaZb0
import Derived.BigQuiet
import Derived.Deep.QuietTactic
import Derived.Deep.DeepCutAuto
import Derived.Test.YtkgkpoiacbjdfaaZb1
import Derived.DeepKeys
import Derived.Laws.StructEq
import Derived.Laws.CopyOwn
namespace Go.Proofs.Ytkgkpoiacbjdfaa
section
open Go.RowKit

structure Dn where
  vc : ByteArray
  vs : ByteArray
  ic : ByteArray
  is : ByteArray
  c0 : ByteArray
  c1 : ByteArray
  c2 : ByteArray
  c3 : ByteArray
  c4 : ByteArray
  c5 : ByteArray
  c6 : ByteArray
  c7 : ByteArray
  method : Int
  w0 : Int
  w1 : Int
  w2 : Int
  p : ByteArray
  g : ByteArray
  key : Int
  e : Int
  f : Int
  k : Int
  hash : Int
  session : Int
  up : Int
  down : Int
  deriving DecidableEq

structure Ev where
  kind : Int
  ses : Int
  num : Int
  who : Int
  user : ByteArray
  svc : ByteArray
  alg : ByteArray
  sid : Int
  dn : Dn
  deriving DecidableEq

def Dn.cells (d : Dn) : List Value :=
  [.string d.vc, .string d.vs, .string d.ic, .string d.is, .string d.c0, .string d.c1, .string d.c2, .string d.c3, .string d.c4, .string d.c5, .string d.c6, .string d.c7, .int .i64 d.method, .int .u32 d.w0, .int .u32 d.w1, .int .u32 d.w2,
   .string d.p, .string d.g, .int .i64 d.key, .int .i64 d.e, .int .i64 d.f, .int .i64 d.k, .int .i64 d.hash, .int .i64 d.session, .int .i64 d.up, .int .i64 d.down]
def Ev.cells (e : Ev) : List Value :=
  [.int .i64 e.kind, .int .i64 e.ses, .int .i64 e.num, .int .i64 e.who, .string e.user, .string e.svc, .string e.alg, .int .i64 e.sid,
   .string e.dn.vc, .string e.dn.vs, .string e.dn.ic, .string e.dn.is, .string e.dn.c0, .string e.dn.c1, .string e.dn.c2, .string e.dn.c3, .string e.dn.c4, .string e.dn.c5, .string e.dn.c6, .string e.dn.c7, .int .i64 e.dn.method, .int .u32 e.dn.w0, .int .u32 e.dn.w1, .int .u32 e.dn.w2,
   .string e.dn.p, .string e.dn.g, .int .i64 e.dn.key, .int .i64 e.dn.e, .int .i64 e.dn.f, .int .i64 e.dn.k, .int .i64 e.dn.hash, .int .i64 e.dn.session, .int .i64 e.dn.up, .int .i64 e.dn.down]

theorem Ev.len (e : Ev) : e.cells.length = 34 := rfl
theorem Ev.at0 (e : Ev) : e.cells[0]? = some (.int .i64 e.kind) := rfl
theorem Ev.at1 (e : Ev) : e.cells[1]? = some (.int .i64 e.ses) := rfl
theorem Ev.at2 (e : Ev) : e.cells[2]? = some (.int .i64 e.num) := rfl
theorem Ev.at3 (e : Ev) : e.cells[3]? = some (.int .i64 e.who) := rfl

def Evs (w : World) (A : Option Addr) (n : Nat) (es : List Ev) : Prop := Rws w 34 A n (es.map Ev.cells)
theorem Evs.keep {w w' : World} {A : Option Addr} {n : Nat} {es : List Ev} (h : Evs w A n es) (hb : Below w.heap.size w w') : Evs w' A n es := Rws.keep h hb
theorem Evs.len {w : World} {A : Option Addr} {n : Nat} {es : List Ev} (h : Evs w A n es) : es.length = n := by simpa using h.1
theorem Evs.row {w : World} {A : Option Addr} {n : Nat} {es : List Ev} (h : Evs w A n es) {j : Nat} (hj : j < n) :
    ∃ b off e, A = some ⟨b, off, none⟩ ∧ b < w.heap.size ∧ es[j]? = some e ∧ w.rangeAt b (off + j * 34) e.cells := by
  obtain ⟨b, off, z, e, hlt, hz, _, hr⟩ := Rws.row h hj
  rw [List.getElem?_map] at hz
  cases he : es[j]? with
  | none => rw [he] at hz; cases hz
  | some x =>
    rw [he] at hz
    simp only [Option.map_some, Option.some.injEq] at hz
    subst hz
    exact ⟨b, off, x, e, hlt, rfl, hr⟩
theorem Ev.flds {w : World} {b o : Nat} {e : Ev} (h : w.rangeAt b o e.cells) : w.cell? ⟨b, o, none⟩ = some (.int .i64 e.kind) ∧ w.cell? ⟨b, o + 1, none⟩ = some (.int .i64 e.ses) ∧ w.cell? ⟨b, o + 2, none⟩ = some (.int .i64 e.num) ∧ w.cell? ⟨b, o + 3, none⟩ = some (.int .i64 e.who) :=
  ⟨h 0 _ rfl, h 1 _ rfl, h 2 _ rfl, h 3 _ rfl⟩
theorem Ev.one (e : Ev) : e.cells.toArray.all (·.oneCell') = true := by simp [Ev.cells, Value.oneCell']
def Ev.zero : Ev := ⟨0, 0, 0, 0, ByteArray.empty, ByteArray.empty, ByteArray.empty, 0, ⟨ByteArray.empty, ByteArray.empty, ByteArray.empty, ByteArray.empty, ByteArray.empty, ByteArray.empty, ByteArray.empty, ByteArray.empty, ByteArray.empty, ByteArray.empty, ByteArray.empty, ByteArray.empty, 0, 0, 0, 0, ByteArray.empty, ByteArray.empty, 0, 0, 0, 0, 0, 0, 0, 0⟩⟩
theorem ev_zero : (Try.prog.info? 37).bind (·.zero) = some (.agg Ev.zero.cells.toArray) := by kernel_rfl
theorem ev_size : (Try.prog.info? 37).map (·.size) = some 34 := by kernel_rfl
theorem Evs.block {w : World} {g : Nat} {es : List Ev} {t : TypeId} {fr : Nat × Nat} (h : w.heap[g]? = some (.cells (es.flatMap Ev.cells).toArray t fr)) (hlt : g < w.heap.size) : Evs w (some ⟨g, 0, none⟩) es.length es := by
  have := Rws.block (w := w) (zs := es.map Ev.cells) (k := 34) (by intro z hz; obtain ⟨e, _, rfl⟩ := List.mem_map.1 hz; rfl) (by rw [← List.flatMap_def]; exact h) hlt
  simpa [Evs] using this
/-- A slice of events of the call's own. -/
theorem Ev.fldM {w : World} {b o : Nat} {e : Ev} (h : w.rangeAt b o e.cells) : w.cell? ⟨b, o + 8 + 12, none⟩ = some (.int .i64 e.dn.method) := by
  have := h 20 _ rfl
  rw [show o + 8 + 12 = o + 20 by omega]; exact this
/-- the names that were agreed upon. -/
def Ev.chc (e : Ev) : List Value := [.string e.dn.c0, .string e.dn.c1, .string e.dn.c2, .string e.dn.c3, .string e.dn.c4, .string e.dn.c5, .string e.dn.c6, .string e.dn.c7]
theorem Ev.fldN {w : World} {b o : Nat} {e : Ev} (h : w.rangeAt b o e.cells) : w.rangeAt b (o + 8 + 4) e.chc := fun j v hv => by
  have hj : j < 8 := (List.getElem?_eq_some_iff.1 hv).1
  have : e.cells[12 + j]? = some v := by
    rw [← hv]
    match j, hj with
    | 0, _ => rfl
    | 1, _ => rfl
    | 2, _ => rfl
    | 3, _ => rfl
    | 4, _ => rfl
    | 5, _ => rfl
    | 6, _ => rfl
    | 7, _ => rfl
  have := h (12 + j) v this
  rw [show o + 8 + 4 + j = o + (12 + j) by omega]; exact this
def OwnE (w : World) (base : Nat) (v : Value) (es : List Ev) : Prop := OwnR w base 34 37 v (es.map Ev.cells)
theorem OwnE.evs {w : World} {base : Nat} {v : Value} {es : List Ev} (h : OwnE w base v es) : ∃ A c, v = .slice A es.length c ∧ Evs w A es.length es := by
  obtain ⟨A, c, hv, hr⟩ := OwnR.rws h
  rw [List.length_map] at hv hr
  exact ⟨A, c, hv, hr⟩
theorem OwnE.evs_ {w : World} {base : Nat} {v : Value} {es : List Ev} (h : OwnE w base v es) : ∃ A n c, v = .slice A n c ∧ Hid (n = es.length) ∧ Evs w A n es := by
  obtain ⟨A, c, hv, hr⟩ := h.evs
  exact ⟨A, _, c, hv, rfl, hr⟩
theorem OwnE.keep {w w' : World} {base : Nat} {v : Value} {es : List Ev} (h : OwnE w base v es) (hb : Below w.heap.size w w') : OwnE w' base v es := OwnR.keep h hb
theorem ev_info : (Try.prog.info? 37).map (fun i => (i.zero, i.size, i.bytes)) = some (some (.agg Ev.zero.cells.toArray), 34, 400) := by kernel_rfl
theorem Ev.one_ (e : Ev) : ∀ u ∈ e.cells, u.oneCell' = true := by
  intro u hu
  have := e.one
  rw [Array.all_eq_true_iff_forall_mem] at this
  exact this u (by simpa using hu)
end

section
open Go.RowKit
set_option maxHeartbeats 400000 in
theorem taken_fn (e : Ev) (who : Int) (w : World) (bw : Nat) (hlt : bw < w.heap.size)
  (hb : w.cell? ⟨bw, 0, none⟩ = some (.int .i64 who)) :
    Calls Try.prog 44 #[.agg e.cells.toArray, .pointer (some ⟨bw, 0, none⟩)] w fun r w' => r = .returned (.bool (e.kind == 7 && e.who == who)) ∧ Below w.heap.size w w' := by
  have h0 := e.at0
  have h3 := e.at3
  by_cases hk : (e.kind == 7) = true
  · go_enter Try.func44, Try.ntmps44
    go_wp2
    go_ret
    exact ⟨ret_bool (by rw [hk]; rfl), (Below.refl _ _).alloc (Nat.le_refl _) _⟩
  · rw [Bool.not_eq_true] at hk
    go_enter Try.func44, Try.ntmps44
    go_wp2
    go_ret
    exact ⟨ret_bool (by rw [hk]; rfl), (Below.refl _ _).alloc (Nat.le_refl _) _⟩

def isTaken (who : Int) (e : Ev) : Bool := e.kind == 7 && e.who == who
def ahead (es : List Ev) (who at_ : Int) : Bool := (es.take at_.toNat).any (isTaken who)

set_option maxHeartbeats 400000 in
theorem indexFunc_any (p : Ev → Bool) (g : Nat) (lb : Array Value) (eg : ∀ args w, (callFunc g args).run Try.prog w = .ok (.enter g args) w)
    (es : List Ev) (A : Option Addr) (n c : Nat) (w : World) (hn : n ≤ 9223372036854775807) (H : Evs w A n es)
    (hp : ∀ (W : World) (e : Ev), Below w.heap.size w W → Calls Try.prog g (#[.agg e.cells.toArray] ++ lb) W fun r w' => r = .returned (.bool (p e)) ∧ Below W.heap.size W w') :
    Calls Try.prog 60 #[.slice A n c, .func (.func g) #[] lb] w fun r w' => r = .returned (.int .i64 (idx p es)) ∧ Below w.heap.size w w' := by
  have hlen := Lib.hid H.len
  have hP := Lib.hid hp
  clear hp
  go_enter Try.func60, Try.ntmps60
  go_wp2
  go_loopw [5, 8] (fun _ i wr => ∃ k : Nat, k ≤ n ∧ i = .int .i64 k ∧ Hid (((es.take k).any p) = false) ∧ Hid (Below w.heap.size w wr)) (fun _ i _ => n - (intOf i).toNat)
  case atStart => exact ⟨0, by omega, rfl, by simp [Hid], Below.refl _ _⟩
  case round =>
    obtain ⟨k, hk, rfl, hf, hB⟩ := hrel
    by_cases hlt : k < n
    · obtain ⟨b, off, e, rfl, hb, he, hr⟩ := H.row hlt
      have he := Lib.hid he
      have hr' := rangeAt_keep hr hB.out hb
      clear hr
      go_wp2_with (first | (refine wpList_load_mid rfl 37 _ rfl b (off + k * 34) rfl e.cells _ hr' Try.underlying37 rfl (by kernel_rfl) ?_))
      have hc := hP.out wr e hB.out
      cases hq : p e with
      | true =>
        rw [hq] at hc
        have hq := Lib.hid hq
        refine hc.mono ?_
        rintro r w1 ⟨rfl, hb1⟩
        go_wp2
        go_ret
        exact ⟨ret_int (idx_hit he.out hq.out hf.out).symm, hB.out.trans (hb1.mono hB.out.size)⟩
      | false =>
        rw [hq] at hc
        have hq := Lib.hid hq
        refine hc.mono ?_
        rintro r w1 ⟨rfl, hb1⟩
        go_wp2
        go_roundw
        case rel => exact ⟨k + 1, by omega, by go_num, (by unfold Hid; rw [any_take_succ _ he.out, hf.out, hq.out]; rfl), hB.out.trans (hb1.mono hB.out.size)⟩
        case measure => simp [intOf]; omega
    · go_wp2
      go_ret
      exact ⟨ret_int (idx_miss (any_whole (n := k) (by rw [hlen.out]; omega) hf.out)).symm, hB.out⟩
end

section
open Go.RowKit


set_option maxHeartbeats 400000 in
theorem find_any (p : Ev → Bool) (g : Nat) (lb : Array Value) (eg : ∀ args w, (callFunc g args).run Try.prog w = .ok (.enter g args) w)
    (es : List Ev) (A : Option Addr) (n c : Nat) (w : World) (hn : n ≤ 9223372036854775807) (H : Evs w A n es)
    (hp : ∀ (W : World) (e : Ev), Below w.heap.size w W → Calls Try.prog g (#[.agg e.cells.toArray] ++ lb) W fun r w' => r = .returned (.bool (p e)) ∧ Below W.heap.size W w') :
    Calls Try.prog 43 #[.slice A n c, .func (.func g) #[] lb] w fun r w' => r = .returned (.int .i64 (idx p es)) ∧ Below w.heap.size w w' := by
  have hP := Lib.hid hp
  clear hp
  have HH := Lib.hid H
  go_enter Try.func43, Try.ntmps43
  go_wp2_with (go_at_call 60; refine (indexFunc_any p g lb eg es A n c _ hn HH.out hP.out).mono ?_; rintro r w1 ⟨rfl, hb1⟩)
  go_ret
  exact ⟨rfl, hb1⟩

set_option maxHeartbeats 400000 in
theorem takenAt_any (es : List Ev) (A : Option Addr) (n c : Nat) (who : Int) (w : World) (hn : n ≤ 9223372036854775807) (H : Evs w A n es) :
    Calls Try.prog 29 #[.slice A n c, .int .i64 who] w fun r w' => r = .returned (.int .i64 (idx (isTaken who) es)) ∧ Below w.heap.size w w' := by
  have HH := Lib.hid H
  go_enter Try.func29, Try.ntmps29
  go_wp2_with fail
  have b0 : Below w.heap.size w (w.alloc (.cells #[.int .i64 who] 3)) := (Below.refl _ _).alloc (Nat.le_refl _) _
  refine (find_any (isTaken who) 44 _ (by intro args w; kernel_rfl) es A n c _ hn (HH.out.keep b0) ?_).mono ?_
  · intro W e hW
    exact taken_fn e who W w.heap.size (Nat.lt_of_lt_of_le (by simp) hW.size) ((hW.cell (p := ⟨w.heap.size, 0, none⟩) (by simp)).trans (by simp))
  rintro r w1 ⟨rfl, hb1⟩
  go_wp2
  go_ret
  exact ⟨rfl, b0.trans (hb1.mono b0.size)⟩

def kept (es : List Ev) (who at_ : Int) : Bool := decide (idx (isTaken who) es < 0) || decide (at_ ≤ idx (isTaken who) es)
set_option maxHeartbeats 400000 in
theorem kept_any (es : List Ev) (A : Option Addr) (n c : Nat) (who at_ : Int) (w : World) (hn : n ≤ 9223372036854775807) (H : Evs w A n es) :
    Calls Try.prog 42 #[.slice A n c, .int .i64 who, .int .i64 at_] w fun r w' => r = .returned (.bool (kept es who at_)) ∧ Below w.heap.size w w' := by
  have HH := Lib.hid H
  go_enter Try.func42, Try.ntmps42
  go_wp2_with (go_at_call 29; refine (takenAt_any es A n c who _ hn HH.out).mono ?_; rintro r w1 ⟨rfl, hb1⟩)
  all_goals
    go_ret
    exact ⟨ret_bool (by simp [kept, *]), hb1⟩
end

section
open Go.RowKit

def safe (es : List Ev) (at_ : Int) : Bool := if at_ < 0 then false else match es[at_.toNat]? with | none => false | some e => (e.kind == 2 || e.kind == 4) && kept es e.who at_

set_option maxHeartbeats 400000 in
theorem safe_any (es : List Ev) (A : Option Addr) (n c : Nat) (at_ : Int) (w : World) (hn : n ≤ 9223372036854775807) (H : Evs w A n es) :
    Calls Try.prog 28 #[.slice A n c, .int .i64 at_] w fun r w' => r = .returned (.bool (safe es at_)) ∧ Below w.heap.size w w' := by
  have HH := Lib.hid H
  have hlen := Lib.hid H.len
  by_cases h0 : at_ < 0
  · have hs := Lib.hid (show safe es at_ = false by simp [safe, h0])
    go_enter Try.func28, Try.ntmps28
    go_wp2_with fail
    go_ret
    exact ⟨ret_bool hs.out.symm, Below.refl _ _⟩
  obtain ⟨k, rfl⟩ := Int.eq_ofNat_of_zero_le (show 0 ≤ at_ by omega)
  by_cases hlt : k < n
  · obtain ⟨b, off, e, rfl, hb, he, hr⟩ := H.row hlt
    have hs := Lib.hid (show safe es k = ((e.kind == 2 || e.kind == 4) && kept es e.who k) by simp [safe, h0, he])
    have he := Lib.hid he
    have hg1 := heap_new w (.cells Ev.zero.cells.toArray 37)
    have e0 := e.at0
    have e3 := e.at3
    clear h0
    go_enter Try.func28, Try.ntmps28
    go_wp2_with (first
      | (refine wpList_load_at 37 _ rfl rfl b (off + k * 34) rfl e.cells _ hr Try.underlying37 rfl (by kernel_rfl) ?_)
      | (refine wpList_alloc_row 37 rfl rfl Ev.zero.cells.toArray ev_zero ?_; try simp only [World.size_alloc])
      | (refine wpList_store_at 37 _ _ rfl rfl w.heap.size e.cells.toArray rfl rfl 37 Ev.zero.cells.toArray hg1 (by kernel_rfl) rfl e.one ?_
         rw [setRow_new])
      | (go_at_call 42
         refine (kept_any es _ n c e.who k _ hn (HH.out.keep ((Below.refl _ _).alloc (Nat.le_refl _) _))).mono ?_
         rintro r w1 ⟨rfl, hb1⟩
         have hb2 : Below w.heap.size w w1 := ((Below.refl _ _).alloc (Nat.le_refl _) _).trans (hb1.mono (by simp))))
    all_goals
      go_ret
      refine ⟨ret_bool ?_, ?_⟩
      · rw [hs.out]; simp [*]
      · first | exact hb2 | exact (Below.refl _ _).alloc (Nat.le_refl _) _
  · have hs := Lib.hid (show safe es k = false by simp [safe, show es[k]? = none from List.getElem?_eq_none (by rw [hlen.out]; omega)])
    clear h0
    go_enter Try.func28, Try.ntmps28
    go_wp2_with fail
    go_ret
    exact ⟨ret_bool hs.out.symm, Below.refl _ _⟩

def evC : Ev := { Ev.zero with kind := 2, who := 3 }
def evT : Ev := { Ev.zero with kind := 7, who := 3 }
theorem builtC : Try.prog.built 37 [(0, .int .i64 2), (3, .int .i64 3)] = some evC.cells.toArray := by kernel_rfl
theorem builtT : Try.prog.built 37 [(0, .int .i64 7), (3, .int .i64 3)] = some evT.cells.toArray := by kernel_rfl

theorem fill2 : Instr.fill (fun j => some (j * 34, 34)) ((Array.range (2 * 34)).map ((Value.agg Ev.zero.cells.toArray).cells[· % (Value.agg Ev.zero.cells.toArray).cells.size]!)) [(0, .agg evC.cells.toArray), (1, .agg evT.cells.toArray)] = some ([evC, evT].flatMap Ev.cells).toArray := by kernel_rfl
theorem fill2' : Instr.fill (fun j => some (j * 34, 34)) ((Array.range (2 * 34)).map ((Value.agg Ev.zero.cells.toArray).cells[· % (Value.agg Ev.zero.cells.toArray).cells.size]!)) [(0, .agg evT.cells.toArray), (1, .agg evC.cells.toArray)] = some ([evT, evC].flatMap Ev.cells).toArray := by kernel_rfl
theorem safeCT : safe [evC, evT] 0 = true := by decide +kernel
theorem safeTC : safe [evT, evC] 1 = false := by decide +kernel
theorem takenCT : idx (isTaken 3) [evC, evT] = 1 := by decide +kernel

set_option maxRecDepth 100000 in
set_option maxHeartbeats 400000 in
theorem awake_any (w : World) :
    Calls Try.prog 6 #[] w fun r w' => r = .returned (.bool true) ∧ Below w.heap.size w w' := by
  obtain ⟨i0, hi0, hz0, hz1, hz2⟩ := info_parts ev_info
  have hg1 := heap_past (heap_new w (.cells Ev.zero.cells.toArray 37)) (.cells Ev.zero.cells.toArray 37)
  have hg2 := heap_new (w.alloc (.cells evC.cells.toArray 37)) (.cells Ev.zero.cells.toArray 37)
  simp only [World.size_alloc] at hg2
  have hC := rangeAt_list (heap_past (heap_new w (.cells evC.cells.toArray 37)) (.cells evT.cells.toArray 37))
  have hT := rangeAt_list (heap_new (w.alloc (.cells evC.cells.toArray 37)) (.cells evT.cells.toArray 37))
  simp only [World.size_alloc] at hT
  go_enter Try.func6, Try.ntmps6
  go_wp2_with (first
      | (refine wpList_build_as 37 _ rfl rfl evC.cells.toArray ?_ ?_; exact builtC)
      | (refine wpList_build_as 37 _ rfl rfl evT.cells.toArray ?_ ?_; exact builtT)
      | (refine wpList_alloc_row 37 rfl rfl Ev.zero.cells.toArray ev_zero ?_; try simp only [World.size_alloc])
      | (refine wpList_store_at 37 _ _ rfl rfl w.heap.size evC.cells.toArray rfl rfl 37 Ev.zero.cells.toArray hg1 (by kernel_rfl) rfl evC.one ?_
         rw [setRow_past _ _ _ _ (by simp), setRow_new])
      | (refine wpList_store_at 37 _ _ rfl rfl (w.heap.size + 1) evT.cells.toArray rfl rfl 37 Ev.zero.cells.toArray hg2 (by kernel_rfl) rfl evT.one ?_
         rw [setRow_at _ _ _ _ _ (by simp)])
      | (refine wpList_load_at 37 (.tmp 1) rfl rfl w.heap.size 0 rfl evC.cells _ hC Try.underlying37 rfl (by kernel_rfl) ?_)
      | (refine wpList_load_at 37 (.tmp 2) rfl rfl (w.heap.size + 1) 0 rfl evT.cells _ hT Try.underlying37 rfl (by kernel_rfl) ?_)
      | (refine wpList_buildSlice_as 22 37 2 _ rfl rfl i0 (.agg Ev.zero.cells.toArray) ([evC, evT].flatMap Ev.cells).toArray Try.underlying22 hi0 hz0 (by rw [hz1]; decide) (by rw [hz1]; decide) (by rw [hz1]; exact fill2) ?_))
  have bA : Below w.heap.size w ((w.alloc (.cells evC.cells.toArray 37)).alloc (.cells evT.cells.toArray 37)) := ((Below.refl _ _).alloc (Nat.le_refl _) _).alloc (by simp) _
  have hE := Evs.block (es := [evC, evT]) (heap_new ((w.alloc (.cells evC.cells.toArray 37)).alloc (.cells evT.cells.toArray 37)) (.cells ([evC, evT].flatMap Ev.cells).toArray 37)) (by simp)
  have bB : Below ((w.alloc (.cells evC.cells.toArray 37)).alloc (.cells evT.cells.toArray 37)).heap.size ((w.alloc (.cells evC.cells.toArray 37)).alloc (.cells evT.cells.toArray 37)) (((w.alloc (.cells evC.cells.toArray 37)).alloc (.cells evT.cells.toArray 37)).alloc (.cells ([evC, evT].flatMap Ev.cells).toArray 37)) := (Below.refl _ _).alloc (Nat.le_refl _) _
  have hE' := Lib.hid hE
  refine (safe_any [evC, evT] (some ⟨w.heap.size + 1 + 1, 0, none⟩) 2 2 0 _ (by decide) (by simpa using hE'.out)).mono ?_
  rintro r w1 ⟨rfl, hb1⟩
  rw [safeCT]
  have b1 := bB.trans (hb1.mono (by simp))
  have hC1 := rangeAt_keep hC b1 (by simp only [World.size_alloc]; omega)
  have hT1 := rangeAt_keep hT b1 (by simp only [World.size_alloc]; omega)
  have z1 : w.heap.size + 1 + 1 < w1.heap.size := by have := hb1.size; simp at this; omega
  have bW1 := Lib.hid (bA.trans (b1.mono (by simp only [World.size_alloc]; omega)))
  clear b1 bB hE hE' hb1 bA hC hT hg1 hg2
  go_wp2_with (first
      | (refine wpList_load_at 37 (.tmp 1) rfl rfl w.heap.size 0 rfl evC.cells _ hC1 Try.underlying37 rfl (by kernel_rfl) ?_)
      | (refine wpList_load_at 37 (.tmp 2) rfl rfl (w.heap.size + 1) 0 rfl evT.cells _ hT1 Try.underlying37 rfl (by kernel_rfl) ?_)
      | (refine wpList_buildSlice_as 22 37 2 _ rfl rfl i0 (.agg Ev.zero.cells.toArray) ([evT, evC].flatMap Ev.cells).toArray Try.underlying22 hi0 hz0 (by rw [hz1]; decide) (by rw [hz1]; decide) (by rw [hz1]; exact fill2') ?_))
  have hE2 := Lib.hid (Evs.block (es := [evT, evC]) (heap_new w1 (.cells ([evT, evC].flatMap Ev.cells).toArray 37)) (by simp))
  refine (safe_any [evT, evC] (some ⟨w1.heap.size, 0, none⟩) 2 2 1 _ (by decide) hE2.out).mono ?_
  rintro r w2 ⟨rfl, hb2⟩
  rw [safeTC]
  have b2 : Below w1.heap.size w1 w2 := ((Below.refl _ _).alloc (Nat.le_refl _) _).trans (hb2.mono (by simp))
  have hC2 := rangeAt_keep hC1 b2 (by omega)
  have hT2 := rangeAt_keep hT1 b2 (by omega)
  have bW2 := Lib.hid (bW1.out.trans (b2.mono bW1.out.size))
  clear b2 hE2 hb2 hC1 hT1
  go_wp2_with (first
      | (refine wpList_load_at 37 (.tmp 1) rfl rfl w.heap.size 0 rfl evC.cells _ hC2 Try.underlying37 rfl (by kernel_rfl) ?_)
      | (refine wpList_load_at 37 (.tmp 2) rfl rfl (w.heap.size + 1) 0 rfl evT.cells _ hT2 Try.underlying37 rfl (by kernel_rfl) ?_)
      | (refine wpList_buildSlice_as 22 37 2 _ rfl rfl i0 (.agg Ev.zero.cells.toArray) ([evC, evT].flatMap Ev.cells).toArray Try.underlying22 hi0 hz0 (by rw [hz1]; decide) (by rw [hz1]; decide) (by rw [hz1]; exact fill2) ?_))
  have hE3 := Lib.hid (Evs.block (es := [evC, evT]) (heap_new w2 (.cells ([evC, evT].flatMap Ev.cells).toArray 37)) (by simp))
  refine (takenAt_any [evC, evT] (some ⟨w2.heap.size, 0, none⟩) 2 2 3 _ (by decide) hE3.out).mono ?_
  rintro r w3 ⟨rfl, hb3⟩
  rw [takenCT]
  go_wp2
  go_ret
  exact ⟨rfl, bW2.out.trans ((((Below.refl _ _).alloc (Nat.le_refl _) _).trans (hb3.mono (by simp))).mono bW2.out.size)⟩
end

section
open Go.RowKit

theorem ahead_none {es : List Ev} {who : Int} (h : es.any (isTaken who) = false) (at_ : Int) : ahead es who at_ = false := by
  unfold ahead
  rw [List.any_eq_false] at h ⊢
  intro x hx
  exact h x (List.mem_of_mem_take hx)
theorem kept_none {es : List Ev} {who : Int} (h : idx (isTaken who) es = -1) (at_ : Int) : kept es who at_ = true := by
  simp [kept, h]
end

section
open Go.RowKit

def iv (x : Int) : List Value := [.int .i64 x]
def Ints (w : World) (A : Option Addr) (n : Nat) (xs : List Int) : Prop := Rws w 1 A n (xs.map iv)
theorem Ints.keep {w w' : World} {A : Option Addr} {n : Nat} {xs : List Int} (h : Ints w A n xs) (hb : Below w.heap.size w w') : Ints w' A n xs := Rws.keep h hb
theorem Ints.len {w : World} {A : Option Addr} {n : Nat} {xs : List Int} (h : Ints w A n xs) : xs.length = n := by simpa using h.1
theorem Ints.at_ {w : World} {A : Option Addr} {n : Nat} {xs : List Int} (h : Ints w A n xs) {j : Nat} (hj : j < n) :
    ∃ b off x, A = some ⟨b, off, none⟩ ∧ b < w.heap.size ∧ xs[j]? = some x ∧ w.cell? ⟨b, off + j, none⟩ = some (.int .i64 x) := by
  obtain ⟨b, off, z, e, hlt, hz, _, hr⟩ := Rws.row h hj
  rw [List.getElem?_map] at hz
  cases he : xs[j]? with
  | none => rw [he] at hz; cases hz
  | some x =>
    rw [he] at hz
    simp only [Option.map_some, Option.some.injEq] at hz
    subst hz
    have := hr 0 _ rfl
    rw [Nat.mul_one, Nat.add_zero] at this
    exact ⟨b, off, x, e, hlt, rfl, this⟩
def OwnI (w : World) (base : Nat) (v : Value) (xs : List Int) : Prop := OwnR w base 1 3 v (xs.map iv)
theorem OwnI.ints {w : World} {base : Nat} {v : Value} {xs : List Int} (h : OwnI w base v xs) : ∃ A c, v = .slice A xs.length c ∧ Ints w A xs.length xs := by
  obtain ⟨A, c, hv, hr⟩ := OwnR.rws h
  rw [List.length_map] at hv hr
  exact ⟨A, c, hv, hr⟩
theorem OwnI.keep {w w' : World} {base : Nat} {v : Value} {xs : List Int} (h : OwnI w base v xs) (hb : Below w.heap.size w w') : OwnI w' base v xs := OwnR.keep h hb
theorem int_info : (Try.prog.info? 3).map (fun i => (i.zero, i.size, i.bytes)) = some (some (.int .i64 0), 1, 8) := by kernel_rfl

def hasI (xs : List Int) (x : Int) : Bool := xs.any (· == x)
def risesTo (xs : List Int) (k : Nat) : Bool := (List.range k).all fun i => decide (xs.getD i 0 < xs.getD (i + 1) 0)
def rises (xs : List Int) : Bool := risesTo xs (xs.length - 1)
theorem risesTo_succ (xs : List Int) (k : Nat) : risesTo xs (k + 1) = (risesTo xs k && decide (xs.getD k 0 < xs.getD (k + 1) 0)) := by
  unfold risesTo; rw [List.range_succ, List.all_append]; simp
theorem risesTo_le {xs : List Int} {m k : Nat} (h : m ≤ k) (hk : risesTo xs k = true) : risesTo xs m = true := by
  unfold risesTo at *
  rw [List.all_eq_true] at *
  intro i hi
  exact hk i (List.mem_range.2 (by have := List.mem_range.1 hi; omega))
theorem rises_bad {xs : List Int} {k : Nat} (hk : k + 1 < xs.length) (h : ¬ xs.getD k 0 < xs.getD (k + 1) 0) : rises xs = false := by
  unfold rises risesTo
  rw [List.all_eq_false]
  exact ⟨k, List.mem_range.2 (by omega), by rw [decide_eq_false h]; decide⟩

set_option maxHeartbeats 400000 in
theorem hasI_any (xs : List Int) (A : Option Addr) (n c : Nat) (s : Int) (w : World) (hn : n ≤ 9223372036854775807) (H : Ints w A n xs) :
    Calls Try.prog 9 #[.slice A n c, .int .i64 s] w fun r w' => r = .returned (.bool (hasI xs s)) ∧ w = w' := by
  have hlen := Lib.hid H.len
  go_enter Try.func9, Try.ntmps9
  go_wp2
  go_loop [5] (fun i => ∃ k : Nat, k ≤ n ∧ i = .int .i64 k ∧ Hid (((xs.take k).any (· == s)) = false)) (fun i => n - (intOf i).toNat)
  case atStart => exact ⟨0, by omega, rfl, by simp [Hid]⟩
  case round =>
    obtain ⟨k, hk, rfl, hf⟩ := hrel
    by_cases hlt : k < n
    · obtain ⟨b, off, x, rfl, hb, hx, hc⟩ := H.at_ hlt
      have hx := Lib.hid hx
      cases he : (x == s) with
      | true =>
        have hq := Lib.hid he
        go_wp2
        go_ret
        exact ⟨ret_bool (any_hit _ hx.out hq.out).symm, rfl⟩
      | false =>
        have hq := Lib.hid he
        go_wp2
        go_round
        case rel => exact ⟨k + 1, by omega, by go_num, (by unfold Hid; rw [any_take_succ _ hx.out, hf.out, hq.out]; rfl)⟩
        case measure => simp [intOf]; omega
    · go_wp2
      go_ret
      exact ⟨ret_bool (any_whole (n := k) (by rw [hlen.out]; omega) hf.out).symm, rfl⟩

set_option maxHeartbeats 400000 in
theorem rises_any (xs : List Int) (A : Option Addr) (n c : Nat) (w : World) (hn : n ≤ 9223372036854775807) (H : Ints w A n xs) :
    Calls Try.prog 8 #[.slice A n c] w fun r w' => r = .returned (.bool (rises xs)) ∧ Below w.heap.size w w' := by
  have hlen := Lib.hid H.len
  go_enter Try.func8, Try.ntmps8
  go_wp2
  go_loopw [3] (fun i wr => ∃ k : Nat, k + 1 ≤ n + 1 ∧ i = .int .i64 (k + 1 : Nat) ∧ Hid (risesTo xs k = true) ∧ Hid (Below w.heap.size w wr)) (fun i _ => n + 1 - (intOf i).toNat)
  case atStart => exact ⟨0, by omega, rfl, by simp [Hid, risesTo], Below.refl _ _⟩
  case round =>
    obtain ⟨k, hk, rfl, hf, hD⟩ := hrel
    by_cases hlt : k + 1 < n
    · obtain ⟨b, off, x, rfl, hb, hx, hc0⟩ := H.at_ hlt
      obtain ⟨b', off', y, e, hb', hy, hd0⟩ := H.at_ (show k < n by omega)
      simp only [Option.some.injEq, Addr.mk.injEq] at e
      obtain ⟨rfl, rfl, _⟩ := e
      have hc := (hD.out.cell (p := ⟨b, off + (k + 1), none⟩) hb).trans hc0
      have hd := (hD.out.cell (p := ⟨b, off + k, none⟩) hb).trans hd0
      have hgx : xs.getD (k + 1) 0 = x := by rw [List.getD_eq_getElem?_getD, hx]; rfl
      have hgy : xs.getD k 0 = y := by rw [List.getD_eq_getElem?_getD, hy]; rfl
      have hstep := risesTo_succ xs k
      rw [hgx, hgy] at hstep
      have hbad := Lib.hid (fun h : ¬ y < x => rises_bad (xs := xs) (k := k) (by rw [hlen.out]; exact hlt) (by rw [hgx, hgy]; exact h))
      have hstep := Lib.hid hstep
      have e1 : ((k + 1 : Nat) : Int) = (k : Int) + 1 := by omega
      have e2 : IntKind.i64.wrap ((k : Int) + 1 - 1) = (k : Int) := by rw [show (k : Int) + 1 - 1 = k by omega]; exact IntWalk.i64_in _ (by omega)
      have hl0 : (0 : Int) ≤ (k : Int) + 1 := by omega
      have hl1 : (k : Int) + 1 < (n : Int) := by omega
      have hl2 : (k : Int) < (n : Int) := by omega
      have hl3 : (0 : Int) ≤ (k : Int) := by omega
      clear hgx hgy hx hy hc0 hd0
      rw [e1]
      clear e1
      by_cases hxy : x ≤ y
      · have hq : decide (x ≤ y) = true := decide_eq_true hxy
        go_wp2
        go_quiet (fail)
        go_wp2
        go_ret
        exact ⟨ret_bool (hbad.out (by omega)).symm, hD.out.trans (Below.mono (drewN_below _) hD.out.size)⟩
      · have hq : decide (x ≤ y) = false := decide_eq_false hxy
        go_wp2
        go_quiet (fail)
        go_wp2
        go_roundw
        case rel => exact ⟨k + 1, by omega, by go_num, (by unfold Hid; rw [hstep.out, hf.out]; simp; omega), hD.out.trans (Below.mono (drewN_below _) hD.out.size)⟩
        case measure => simp [intOf]; omega
    · go_wp2
      go_ret
      refine ⟨ret_bool ?_, hD.out⟩
      unfold rises
      rw [hlen.out]
      exact (risesTo_le (by omega) hf.out).symm
end

section
open Go.RowKit

/-- A key was kept until a place: it was not taken ahead of it. -/
theorem kept_eq (es : List Ev) (who at_ : Int) : kept es who at_ = !ahead es who at_ := by
  unfold kept ahead
  rcases idx_cases (isTaken who) es with ⟨hi, hm⟩ | ⟨k, e, hi, he, hp, hm⟩
  · rw [hi]
    have : (es.take at_.toNat).any (isTaken who) = false := ahead_none hm at_
    rw [this]; rfl
  · rw [hi]
    by_cases h : at_ ≤ k
    · rw [any_take_miss (by omega) hm, decide_eq_true h]; simp
    · rw [any_take_hit (isTaken who) he (by omega) hp, decide_eq_false (by omega), decide_eq_false (by omega)]; rfl
def refSafe (es : List Ev) (k : Nat) : Bool := match es[k]? with | none => false | some e => (e.kind == 2 || e.kind == 4) && !ahead es e.who k
theorem refSafe_eq (es : List Ev) (k : Nat) : refSafe es k = safe es k := by
  unfold refSafe safe
  rw [if_neg (by omega), Int.toNat_natCast]
  cases es[k]? with
  | none => rfl
  | some e => simp only [kept_eq]


def sesOf (es : List Ev) (i : Nat) : Int := match es[i]? with | some e => e.ses | none => 0
def goodTo (es : List Ev) (ses : Int) (k : Nat) : Bool := (List.range k).any fun i => safe es i && sesOf es i == ses
def good (es : List Ev) (ses : Int) : Bool := goodTo es ses es.length
theorem goodTo_succ (es : List Ev) (ses : Int) (k : Nat) : goodTo es ses (k + 1) = (goodTo es ses k || (safe es k && sesOf es k == ses)) := by
  unfold goodTo; rw [List.range_succ, List.any_append]; simp
theorem good_hit {es : List Ev} {ses : Int} {k : Nat} (hk : k < es.length) (h : safe es k = true) (hs : (sesOf es k == ses) = true) : good es ses = true := by
  unfold good goodTo
  rw [List.any_eq_true]
  exact ⟨k, List.mem_range.2 hk, by rw [h, hs]; rfl⟩

def safesTo (es : List Ev) (k : Nat) : List Int := ((List.range k).filter fun (i : Nat) => safe es i).map fun (i : Nat) => (i : Int)
def safes (es : List Ev) : List Int := safesTo es es.length
theorem safesTo_succ (es : List Ev) (k : Nat) : safesTo es (k + 1) = safesTo es k ++ (if safe es k then [(k : Int)] else []) := by
  unfold safesTo
  rw [List.range_succ, List.filter_append, List.map_append]
  congr 1
  by_cases h : safe es k = true <;> simp [h]
theorem safesTo_len (es : List Ev) (k : Nat) : (safesTo es k).length ≤ k := by
  unfold safesTo
  rw [List.length_map]
  exact Nat.le_trans (List.length_filter_le _ _) (by simp)
end

section
open Go.RowKit

/-- few answers some truth; where it is yes, there are at most 60 events. -/
def SomeFew (n : Nat) (w : World) (r : Ending) (w' : World) : Prop := ∃ f : Bool, (f = true → n ≤ 60) ∧ r = .returned (.bool f) ∧ Below w.heap.size w w'
theorem Ev.chc_one (e : Ev) : e.chc.toArray.all (·.oneCell') = true := by simp [Ev.chc, Value.oneCell']
def chcZ : Array Value := #[.string ⟨#[]⟩, .string ⟨#[]⟩, .string ⟨#[]⟩, .string ⟨#[]⟩, .string ⟨#[]⟩, .string ⟨#[]⟩, .string ⟨#[]⟩, .string ⟨#[]⟩]
theorem chc_zero : (Try.prog.info? 29).bind (·.zero) = some (.agg chcZ) := by kernel_rfl
set_option maxRecDepth 10000000 in
set_option maxHeartbeats 1000000 in
theorem few_any (es : List Ev) (A : Option Addr) (n c : Nat) (w : World) (hn : n ≤ 9223372036854775807) (H : Evs w A n es) (hst : ∀ e ∈ es, ∀ (i : Nat) (s : ByteArray), e.cells[i]? = some (.string s) → s.size ≤ 140737488351232) :
    Calls Try.prog 14 #[.slice A n c] w (SomeFew n w) := by
  by_cases h60 : 60 < n
  · go_enter Try.func14, Try.ntmps14
    go_wp2_with fail
    go_ret
    exact ⟨false, by simp, rfl, Below.refl _ _⟩
  have hst := Lib.hid hst
  go_enter Try.func14, Try.ntmps14
  go_wp2_with fail
  go_loopw [3, 4] (fun i _ wr => ∃ k : Nat, k ≤ n ∧ i = .int .i64 k ∧ Hid (Below w.heap.size w wr)) (fun i _ _ => n - (intOf i).toNat)
  case atStart => exact ⟨0, by omega, rfl, Below.refl _ _⟩
  case round =>
    obtain ⟨k, hk, rfl, hB⟩ := hrel
    by_cases hlt : k < n
    · obtain ⟨b, off, e, rfl, hb, he, hr⟩ := H.row hlt
      have hr' := Ev.fldN (rangeAt_keep hr hB.out hb)
      have hg1 := heap_new wr (.cells chcZ 29)
      have f0 : e.chc[0]? = some (.string e.dn.c0) := rfl
      have f1 : e.chc[1]? = some (.string e.dn.c1) := rfl
      have f2 : e.chc[2]? = some (.string e.dn.c2) := rfl
      have f3 : e.chc[3]? = some (.string e.dn.c3) := rfl
      have f4 : e.chc[4]? = some (.string e.dn.c4) := rfl
      have f5 : e.chc[5]? = some (.string e.dn.c5) := rfl
      have f6 : e.chc[6]? = some (.string e.dn.c6) := rfl
      have f7 : e.chc[7]? = some (.string e.dn.c7) := rfl
      have bA := Lib.hid (hB.out.alloc hB.out.size (.cells e.chc.toArray 29))
      have hst' := hst.out e (List.mem_of_getElem? he)
      have g0 := hst' 12 _ rfl
      have g1 := hst' 13 _ rfl
      have g2 := hst' 14 _ rfl
      have g3 := hst' 15 _ rfl
      have g4 := hst' 16 _ rfl
      have g5 := hst' 17 _ rfl
      have g6 := hst' 18 _ rfl
      have g7 := hst' 19 _ rfl
      clear hr he hst'
      go_upto_region 7 with (first
        | (refine wpList_load_at 29 (.tmp 18) rfl rfl b (off + k * 34 + 8 + 4) rfl e.chc _ hr' Try.underlying29 rfl (by kernel_rfl) ?_)
        | (refine wpList_alloc_row 29 rfl rfl chcZ ?_ ?_; exact chc_zero)
        | (refine wpList_store_at 29 (.tmp 4) (.tmp 19) rfl rfl wr.heap.size e.chc.toArray rfl rfl 29 chcZ hg1 (by kernel_rfl) rfl e.chc_one ?_
           rw [setRow_new]))
      clear hr' hg1
      go_wp2_with fail
      all_goals
        first
          | (go_ret
             exact ⟨false, by simp, rfl, bA.out⟩)
          | (go_roundw
             case rel => exact ⟨k + 1, by omega, by go_num, bA⟩
             case measure => simp [intOf]; omega)
    · go_wp2_with fail
      go_ret
      exact ⟨true, fun _ => by omega, rfl, hB.out⟩
end

section
open Go Go.RowKit Go.Maps

def nmL (e : Ev) : List ByteArray := [e.dn.c0, e.dn.c1, e.dn.c2, e.dn.c3, e.dn.c4, e.dn.c5, e.dn.c6, e.dn.c7]
def nmP (list : Int) (e : Ev) : Bool := decide (e.kind = 2) && decide (0 ≤ list) && decide (list < 8)
/-- The names of a list that was agreed upon. -/
def xsN (es : List Ev) (list : Int) : List ByteArray := (es.filter (nmP list)).map fun e => (nmL e).getD list.toNat ⟨#[]⟩
theorem xsN_snoc (es : List Ev) (list : Int) (e : Ev) : xsN (es ++ [e]) list = xsN es list ++ if nmP list e = true then [(nmL e).getD list.toNat ⟨#[]⟩] else [] := by
  unfold xsN
  rw [List.filter_append, List.map_append]
  congr 1
  by_cases h : nmP list e = true
  · rw [if_pos h, List.filter_cons_of_pos h]; rfl
  · rw [if_neg h, List.filter_cons_of_neg h]; rfl
theorem xsN_len (es : List Ev) (list : Int) : (xsN es list).length ≤ es.length := by
  unfold xsN
  rw [List.length_map]
  exact List.length_filter_le _ _
theorem xsN_size (es : List Ev) (list : Int) (hst : ∀ e ∈ es, ∀ (i : Nat) (s : ByteArray), e.cells[i]? = some (.string s) → s.size ≤ 140737488351232) : ∀ x ∈ xsN es list, x.size ≤ maxLen := by
  intro x hx
  unfold xsN at hx
  obtain ⟨e, he, rfl⟩ := List.mem_map.1 hx
  have h := hst e (List.mem_filter.1 he).1
  have key : ∀ y ∈ nmL e, y.size ≤ maxLen := by
    intro y hy
    unfold maxLen
    simp only [nmL, List.mem_cons, List.not_mem_nil, or_false] at hy
    rcases hy with rfl | rfl | rfl | rfl | rfl | rfl | rfl | rfl
    · exact Nat.le_trans (h 12 _ rfl) (by decide)
    · exact Nat.le_trans (h 13 _ rfl) (by decide)
    · exact Nat.le_trans (h 14 _ rfl) (by decide)
    · exact Nat.le_trans (h 15 _ rfl) (by decide)
    · exact Nat.le_trans (h 16 _ rfl) (by decide)
    · exact Nat.le_trans (h 17 _ rfl) (by decide)
    · exact Nat.le_trans (h 18 _ rfl) (by decide)
    · exact Nat.le_trans (h 19 _ rfl) (by decide)
  rw [List.getD_eq_getElem?_getD]
  cases hg : (nmL e)[list.toNat]? with
  | none => exact Nat.zero_le _
  | some y => exact key y (List.mem_of_getElem? hg)
set_option maxRecDepth 100000 in
set_option maxHeartbeats 4000000 in
theorem names_any (es : List Ev) (A : Option Addr) (n c : Nat) (list : Int) (w : World) (hn : n ≤ 1000) (H : Evs w A n es) (hst : ∀ e ∈ es, ∀ (i : Nat) (s : ByteArray), e.cells[i]? = some (.string s) → s.size ≤ 140737488351232) :
    Calls Try.prog 24 #[.slice A n c, .int .i64 list] w (TalR (xsN es list) w) := by
  obtain ⟨i0, hi, hz0, hz1, hz2⟩ := info_parts str_info
  have hml := Lib.hid H.len
  have hsz := Lib.hid (xsN_size es list hst)
  have hHh := Lib.hid H
  have hO0 : Hid (OwnS w w.heap.size (.slice none 0 0) (xsN (es.take 0) list)) := Lib.hid (OwnR.nil_ _ _ _ _)
  have hB0 := Lib.hid (Below.refl w.heap.size w)
  clear H hst
  go_enter Try.func24, Try.ntmps24
  go_wp2_with fail
  go_loopw [5, 11] (fun vv iv wr => ∃ (k : Nat) (v : Value), k ≤ n ∧ vv = v ∧ iv = .int .i64 k ∧ Hid (OwnS wr w.heap.size v (xsN (es.take k) list)) ∧ Hid (Below w.heap.size w wr)) (fun _ iv _ => n - (intOf iv).toNat)
  case atStart => exact ⟨0, _, Nat.zero_le _, rfl, rfl, hO0, hB0⟩
  case round =>
    clear hO0 hB0
    obtain ⟨k, v, hk, rfl, rfl, hO, hB⟩ := hrel
    have hxl := xsN_len (es.take k) list
    rw [List.length_take] at hxl
    have hxl2 : (xsN (es.take k) list).length ≤ 1000 := by have := hml.out; omega
    obtain ⟨Av, cv, ev, hSv⟩ := hO.out.strs
    subst ev
    by_cases hlt : k < n
    · have hlt' : (k : Int) < (n : Int) := by omega
      obtain ⟨b, off, e, rfl, hb, he, hr⟩ := (hHh.out.keep hB.out).row hlt
      have htk : es.take (k + 1) = es.take k ++ [e] := take_succ_of he
      have hsn := xsN_snoc (es.take k) list e
      rw [← htk] at hsn
      have hr' := hr
      have hg1 := heap_new wr (.cells Ev.zero.cells.toArray 37)
      have hE := rangeAt_list (heap_new wr (.cells e.cells.toArray 37))
      have hBW := Lib.hid (below_new2 wr (.cells e.cells.toArray 37))
      have hBA := Lib.hid (hB.out.trans (hBW.out.mono hB.out.size))
      have hO1 := Lib.hid (OwnS.keep hO.out hBW.out)
      clear he htk hb hO hSv hxl
      have f0 := hE 0 _ rfl
      rw [Nat.add_zero] at f0
      have hrC : (wr.alloc (.cells e.cells.toArray 37)).rangeAt wr.heap.size 12 e.chc := Ev.fldN hE
      have cL := Lib.hid (fun W => (show Calls Try.prog 37 #[.agg e.chc.toArray] W (fun r w' => ∃ b, r = .returned (.slice (some ⟨b, 0, none⟩) 8 8) ∧ Strs w' (some ⟨b, 0, none⟩) 8 (nmL e) ∧ Below W.heap.size W w') from lists_any e.dn.c0 e.dn.c1 e.dn.c2 e.dn.c3 e.dn.c4 e.dn.c5 e.dn.c6 e.dn.c7 W))
      clear hE hr
      go_upto_region 6 with (first
        | (refine wpList_load_at 37 (.tmp 13) rfl rfl b (off + k * 34) rfl e.cells _ hr' Try.underlying37 rfl (by kernel_rfl) ?_)
        | (refine wpList_alloc_row 37 rfl rfl Ev.zero.cells.toArray ev_zero ?_; try simp only [World.size_alloc])
        | (refine wpList_store_at 37 _ _ rfl rfl wr.heap.size e.cells.toArray rfl rfl 37 Ev.zero.cells.toArray hg1 (by kernel_rfl) rfl e.one ?_
           rw [setRow_new])
        | (refine wpList_load_at 29 (.tmp 16) rfl rfl wr.heap.size 12 rfl e.chc _ hrC Try.underlying29 rfl (by kernel_rfl) ?_)
        | (go_at_call 37; (with_reducible refine (cL.out _).mono ?_); rintro r w5 ⟨bL, rfl, hS5, hb5⟩
           have hS5 := Lib.hid hS5
           replace f0 := (hb5.cell (lt_of_cell2 f0)).trans f0
           have hO5 := Lib.hid (OwnS.keep hO1.out hb5)
           have hB5 := Lib.hid (hBA.out.trans (hb5.mono hBA.out.size))
           clear hb5))
      clear hr' hg1 hrC cL hO1 hBA hBW
      by_cases h2 : e.kind = 2
      · have b2 : (e.kind == 2) = true := by rw [h2]; rfl
        by_cases h0 : 0 ≤ list
        · by_cases h8 : list < 8
          · obtain ⟨m, rfl⟩ : ∃ m : Nat, list = m := ⟨list.toNat, by omega⟩
            have hm8 : m < 8 := by omega
            obtain ⟨b', o', y, eL, _, hy, hcy⟩ := hS5.out.at_ hm8
            injection eL with eL
            injection eL with e1 e2 _
            subst e1
            subst e2
            rw [Nat.zero_add] at hcy
            have hP : nmP (m : Int) e = true := by unfold nmP; rw [h2, decide_eq_true h0, decide_eq_true h8]; rfl
            have hg : (nmL e).getD (m : Int).toNat ⟨#[]⟩ = y := by rw [Int.toNat_natCast, List.getD_eq_getElem?_getD, hy]; rfl
            rw [if_pos hP, hg] at hsn
            have hnx := Lib.hid (show ∀ (v2 : Value) (w7 : World), OwnR w7 w.heap.size 1 9 v2 ((xsN (es.take k) (m : Int)).map sv ++ [[.string y]]) → OwnS w7 w.heap.size v2 (xsN (es.take (k + 1)) (m : Int)) from fun v2 w7 h => by
              unfold OwnS
              rw [hsn, List.map_append]
              exact h)
            have hbn := below_new2 w5 (.cells #[.string y] 9)
            obtain ⟨nx, hnxl⟩ : ∃ nx, (xsN (es.take k) (m : Int)).length = nx := ⟨_, rfl⟩
            have hOn := Lib.hid (show OwnR (w5.alloc (.cells #[.string y] 9)) w.heap.size 1 9 (.slice Av nx cv) ((xsN (es.take k) (m : Int)).map sv) from by rw [← hnxl]; exact OwnS.keep hO5.out hbn)
            rw [hnxl] at hxl2 ⊢
            replace hnxl := Lib.hid hnxl
            have hBn := Lib.hid (hB5.out.trans (hbn.mono hB5.out.size))
            have hrw := Lib.hid (rangeAt_list (heap_new w5 (.cells [Value.string y].toArray 9)))
            clear hP hg hsn hy hbn
            go_wp2_with (at_builtin; refine wpList_append_one rfl _ _ 50 rfl 9 i0 _ 1 16 Try.underlying50 hi hz0 hz1 hz2 rfl (by decide) w hBn.out _ ((xsN (es.take k) (m : Int)).map sv) rfl hOn.out w5.heap.size 1 [.string y] rfl hrw.out rfl (by simp; rfl) (by rw [List.length_map, hnxl.out]; unfold maxLen; omega) (by rw [List.length_map, hnxl.out]; omega) ?_
                         intro v2 w7 hO2 hB2 hg2
                         replace hO2 := Lib.hid (hnx.out v2 w7 hO2)
                         replace hB2 := Lib.hid hB2
                         clear hg2)
            go_roundw
            case rel => exact ⟨k + 1, v2, by omega, rfl, by go_num, hO2, hB2⟩
            case measure => simp [intOf]; omega
          · have hP : nmP list e = false := by unfold nmP; simp [h8]
            rw [if_neg (by rw [hP]; decide), List.append_nil] at hsn
            have hO6 := Lib.hid (show OwnS w5 w.heap.size (.slice Av (xsN (es.take k) list).length cv) (xsN (es.take (k + 1)) list) by rw [hsn]; exact hO5.out)
            clear hP hsn
            go_wp2_with fail
            go_roundw
            case rel => exact ⟨k + 1, _, by omega, rfl, by go_num, hO6, hB5⟩
            case measure => simp [intOf]; omega
        · have hP : nmP list e = false := by unfold nmP; simp [h0]
          rw [if_neg (by rw [hP]; decide), List.append_nil] at hsn
          have hO6 := Lib.hid (show OwnS w5 w.heap.size (.slice Av (xsN (es.take k) list).length cv) (xsN (es.take (k + 1)) list) by rw [hsn]; exact hO5.out)
          clear hP hsn
          go_wp2_with fail
          go_roundw
          case rel => exact ⟨k + 1, _, by omega, rfl, by go_num, hO6, hB5⟩
          case measure => simp [intOf]; omega
      · have b2 : (e.kind == 2) = false := by rw [beq_eq_false_iff_ne]; exact h2
        have hP : nmP list e = false := by unfold nmP; simp [h2]
        rw [if_neg (by rw [hP]; decide), List.append_nil] at hsn
        have hO6 := Lib.hid (show OwnS w5 w.heap.size (.slice Av (xsN (es.take k) list).length cv) (xsN (es.take (k + 1)) list) by rw [hsn]; exact hO5.out)
        clear hP hsn
        go_wp2_with fail
        go_roundw
        case rel => exact ⟨k + 1, _, by omega, rfl, by go_num, hO6, hB5⟩
        case measure => simp [intOf]; omega
    · have hkn : k = n := by omega
      subst hkn
      rw [List.take_of_length_le (by rw [hml.out]; exact Nat.le_refl _)] at hO hxl2 hSv ⊢
      have cT := Lib.hid (tallies_any (xsN es list) Av (xsN es list).length cv wr hxl2 hSv hsz.out)
      clear hO hSv
      go_wp2_with (go_at_call 38; (with_reducible refine cT.out.mono ?_); rintro r w8 ⟨us, A8, c8, rfl, hT8, hR8, hb8⟩)
      go_ret
      exact ⟨us, A8, c8, rfl, hT8, hR8, hB.out.trans (hb8.mono hB.out.size)⟩
end

section
open Go.RowKit Go.ChangeShapes Go.WideShapes Go.Deep

def litOf : Value → Lit
  | .int k n => .int k n
  | .bool b => .bool b
  | .string s => .string s.data.toList
  | _ => .bool false
/-- No field of a flat type is blank. -/
def noBlank (P : Program) : Nat → TypeId → Bool
  | 0, _ => false
  | n + 1, t => match P.underlying t with
    | some (.struct fs) => fs.all (·.name != "_") && fs.toList.all (fun f => noBlank P n f.type)
    | some (.array _ e) => noBlank P n e
    | _ => true

section
variable {P : Program}
theorem mapM_range_pieces {f : Nat → Option (List Lit)} {g : Nat → List Lit} : ∀ (m : Nat), (∀ i, i < m → f i = some (g i)) → (List.range m).mapM f = some ((List.range m).map g) := by
  intro m
  induction m with
  | zero => intro _; simp
  | succ m ih =>
    intro h
    rw [List.range_succ, List.mapM_append, ih (fun i hi => h i (by omega)), List.map_append]
    simp [h m (by omega)]
theorem flatten_pieces {α : Type} (l : List α) (k : Nat) : ∀ (m : Nat), ((List.range m).map fun i => (l.drop (i * k)).take k).flatten = l.take (m * k) := by
  intro m
  induction m with
  | zero => simp
  | succ m ih =>
    rw [List.range_succ, List.map_append, List.flatten_append, ih, Nat.succ_mul, List.take_add]
    simp
theorem flat_keyLits : ∀ (n : Nat) (t : TypeId) (ds : List TypeDesc) (cs : List Value) (D : Nat), flatDesc P n t = some ds → noBlank P n t = true → allOk ds cs → n ≤ D → P.keyLits D t cs = some (cs.map litOf) := by
  intro n
  induction n with
  | zero => intro t ds cs D h; simp [flatDesc] at h
  | succ n ih =>
    intro t ds cs D h hb hc hD
    obtain ⟨d, rfl⟩ : ∃ d, D = d + 1 := ⟨D - 1, by omega⟩
    obtain ⟨hl, hok⟩ := hc
    unfold flatDesc at h
    unfold noBlank at hb
    cases hu : P.underlying t with
    | none => simp [hu] at h
    | some dd =>
      rw [hu] at h hb
      cases dd with
      | int k =>
        simp only [Option.some.injEq] at h
        subst h
        match cs, hl with
        | [v], _ =>
          obtain ⟨m, rfl, h1, h2⟩ := hok 0 _ _ rfl rfl
          have hwf : (Lit.int k m).wf = true := by simp only [Lit.wf, Bool.and_eq_true, decide_eq_true_eq]; exact ⟨h1, h2⟩
          unfold Program.keyLits
          rw [hu]
          simp [hwf, litOf]
      | bool =>
        simp only [Option.some.injEq] at h
        subst h
        match cs, hl with
        | [v], _ =>
          obtain ⟨m, rfl⟩ := hok 0 _ _ rfl rfl
          unfold Program.keyLits
          rw [hu]
          rfl
      | string =>
        simp only [Option.some.injEq] at h
        subst h
        match cs, hl with
        | [v], _ =>
          obtain ⟨m, rfl, h1⟩ := hok 0 _ _ rfl rfl
          unfold Program.keyLits
          rw [hu]
          simp [h1, litOf]
      | struct fs =>
        simp only [Option.bind_eq_bind, Option.bind_eq_some_iff] at h
        obtain ⟨ds0, h, hlast⟩ := h
        have hct : P.cellsOf t = ds0.length := by
          by_cases hc : P.cellsOf t = ds0.length
          · exact hc
          · rw [if_neg hc] at hlast; cases hlast
        rw [if_pos hct, Option.some.injEq] at hlast
        subst hlast
        simp only [Bool.and_eq_true] at hb
        have key : ∀ (l : List Field) (acc ds : List TypeDesc), l.all (fun f => noBlank P n f.type) = true →
            l.foldlM (fun (acc : List TypeDesc) f => if f.offset = acc.length then (flatDesc P n f.type).bind (fun l => if P.cellsOf f.type = l.length then some (acc ++ l) else none) else none) acc = some ds →
            ds.length ≤ cs.length → (∀ (i : Nat) (d : TypeDesc) (v : Value), ds[i]? = some d → cs[i]? = some v → cellOk d v) →
            acc.length ≤ ds.length ∧ (∃ pre, ds = acc ++ pre) ∧ ∃ pieces : List (List Lit), l.mapM (fun f => P.keyLits d f.type ((cs.drop f.offset).take (P.cellsOf f.type))) = some pieces ∧ pieces.flatten = ((cs.drop acc.length).take (ds.length - acc.length)).map litOf := by
          intro l
          induction l with
          | nil =>
            intro acc ds _ h _ _
            simp at h
            subst h
            exact ⟨Nat.le_refl _, ⟨[], by simp⟩, [], by simp, by simp⟩
          | cons f r ihl =>
            intro acc ds hnb h hlen hall
            rw [List.foldlM_cons] at h
            simp only [List.all_cons, Bool.and_eq_true] at hnb
            by_cases ho : f.offset = acc.length
            · rw [if_pos ho] at h
              cases hfd : flatDesc P n f.type with
              | none => simp [hfd] at h
              | some l0 =>
                rw [hfd] at h
                by_cases hc : P.cellsOf f.type = l0.length
                · simp only [Option.bind_some, if_pos hc, Option.bind_eq_bind] at h
                  obtain ⟨g1, ⟨pre, g2⟩, pieces, g3, g4⟩ := ihl (acc ++ l0) ds hnb.2 h hlen hall
                  rw [List.length_append] at g1
                  have hpc : allOk l0 ((cs.drop f.offset).take (P.cellsOf f.type)) := by
                    refine ⟨by rw [List.length_take, List.length_drop, hc, ho]; omega, fun i dd v hd hv => ?_⟩
                    have hil : i < l0.length := (List.getElem?_eq_some_iff.1 hd).1
                    rw [List.getElem?_take, if_pos (by omega), List.getElem?_drop, ho] at hv
                    refine hall (acc.length + i) dd v ?_ hv
                    rw [g2, List.append_assoc, List.getElem?_append_right (by omega), show acc.length + i - acc.length = i by omega, List.getElem?_append_left hil]
                    exact hd
                  have hk := ih f.type l0 _ d hfd hnb.1 hpc (by omega)
                  refine ⟨by omega, ⟨l0 ++ pre, by rw [g2, List.append_assoc]⟩, _ :: pieces, by rw [List.mapM_cons, hk, g3]; rfl, ?_⟩
                  rw [List.flatten_cons, g4, ho, hc, List.length_append, show ds.length - acc.length = l0.length + (ds.length - (acc.length + l0.length)) by omega, List.take_add, List.map_append, List.drop_drop]
                · simp only [Option.bind_some, if_neg hc] at h
                  simp at h
            · rw [if_neg ho] at h; simp at h
        obtain ⟨_, _, pieces, k3, k4⟩ := key fs.toList [] ds0 hb.2 h (by omega) hok
        unfold Program.keyLits
        rw [hu]
        simp only
        rw [if_pos ⟨by rw [hl, hct], hb.1⟩, k3, Option.map_some, k4]
        simp [← hl]
      | array m e =>
        simp only at h
        cases hfd : flatDesc P n e with
        | none => simp [hfd] at h
        | some l0 =>
          rw [hfd] at h
          by_cases hc : P.cellsOf e = l0.length ∧ P.cellsOf t = m * l0.length
          · simp only [Option.bind_some, if_pos hc, Option.some.injEq] at h
            subst h
            have hfl : (List.replicate m l0).flatten.length = m * l0.length := by simp
            rw [hfl] at hl
            unfold Program.keyLits
            rw [hu]
            simp only
            rw [if_pos (by rw [hl, hc.2])]
            rw [mapM_range_pieces (g := fun i => ((cs.drop (i * P.cellsOf e)).take (P.cellsOf e)).map litOf) m (fun i hi => ih e l0 _ d hfd hb ?_ (by omega))]
            · rw [Option.map_some, hc.1]
              have := flatten_pieces (cs.map litOf) l0.length m
              rw [List.take_of_length_le (by simp [hl])] at this
              rw [← this]
              simp only [List.map_drop, List.map_take]
            · refine ⟨by rw [List.length_take, List.length_drop, hc.1, hl]; have : i * l0.length + l0.length ≤ m * l0.length := by rw [← Nat.succ_mul]; exact Nat.mul_le_mul_right _ hi
                         omega, fun q dd v hd hv => ?_⟩
              have hq : q < l0.length := (List.getElem?_eq_some_iff.1 hd).1
              rw [hc.1, List.getElem?_take, if_pos hq, List.getElem?_drop] at hv
              refine hok (i * l0.length + q) dd v ?_ hv
              have hlt : i * l0.length + q < m * l0.length := by
                have : i * l0.length + l0.length ≤ m * l0.length := by rw [← Nat.succ_mul]; exact Nat.mul_le_mul_right _ hi
                omega
              rw [replicate_flatten_get, if_pos hlt, Nat.mul_comm, Nat.mul_add_mod, Nat.mod_eq_of_lt hq]
              exact hd
          · simp only [Option.bind_some, if_neg hc] at h
            simp at h
      | _ => simp at h
theorem litOf_inj {d : TypeDesc} {a b : Value} (ha : cellOk d a) (hb : cellOk d b) (h : litOf a = litOf b) : a = b := by
  cases d with
  | int k =>
    obtain ⟨m, rfl, _⟩ := ha
    obtain ⟨q, rfl, _⟩ := hb
    simp only [litOf, Lit.int.injEq] at h
    rw [h.2]
  | bool =>
    obtain ⟨m, rfl⟩ := ha
    obtain ⟨q, rfl⟩ := hb
    simp only [litOf, Lit.bool.injEq] at h
    rw [h]
  | string =>
    obtain ⟨m, rfl, _⟩ := ha
    obtain ⟨q, rfl, _⟩ := hb
    simp only [litOf, Lit.string.injEq] at h
    obtain ⟨m⟩ := m
    obtain ⟨q⟩ := q
    simp only at h
    rw [Array.toList_inj.1 h]
  | _ => exact absurd ha (by simp [cellOk])
theorem lits_eq {ds : List TypeDesc} {xs ys : List Value} (hx : allOk ds xs) (hy : allOk ds ys) : xs.map litOf = ys.map litOf ↔ xs = ys := by
  constructor
  · intro h
    apply List.ext_getElem?
    intro i
    by_cases hi : i < ds.length
    · have h1 : i < xs.length := by rw [hx.1]; exact hi
      have h2 : i < ys.length := by rw [hy.1]; exact hi
      rw [List.getElem?_eq_getElem h1, List.getElem?_eq_getElem h2]
      have h3 : (xs.map litOf)[i]? = (ys.map litOf)[i]? := by rw [h]
      rw [List.getElem?_map, List.getElem?_map, List.getElem?_eq_getElem h1, List.getElem?_eq_getElem h2] at h3
      simp only [Option.map_some, Option.some.injEq] at h3
      rw [litOf_inj (hx.2 i _ _ (List.getElem?_eq_getElem hi) (List.getElem?_eq_getElem h1)) (hy.2 i _ _ (List.getElem?_eq_getElem hi) (List.getElem?_eq_getElem h2)) h3]
    · rw [List.getElem?_eq_none (by rw [hx.1]; omega), List.getElem?_eq_none (by rw [hy.1]; omega)]
  · rintro rfl; rfl
/-- '==' at a flat struct. -/
theorem eql_flat {n m : Nat} {t : TypeId} {ds : List TypeDesc} {fs : Array Field} (hu : P.underlying t = some (.struct fs)) (hct : P.cellsOf t = ds.length) (hf : flatDesc P n t = some ds) (hb : noBlank P n t = true) (hk : P.keyTypeAt m t = true) (hm : m ≤ 10000)
    (xs ys : List Value) (hx : allOk ds xs) (hy : allOk ds ys) (q : Bool) (hq : (q = true ↔ xs = ys)) (w : World) :
    (binOp .eql t (.agg xs.toArray) (.agg ys.toArray)).run P w = .ok (.bool q) w := by
  have fx : (Value.agg xs.toArray).formed P t = true := by unfold Value.formed; rw [hu]; simp [hct, hx.1]
  have fy : (Value.agg ys.toArray).formed P t = true := by unfold Value.formed; rw [hu]; simp [hct, hy.1]
  have kx := flat_keyLits n t ds xs n hf hb hx (Nat.le_refl _)
  have ky := flat_keyLits n t ds ys n hf hb hy (Nat.le_refl _)
  obtain ⟨r, hr, hiff⟩ := run_equalIn_deep (10000 - m) m t hk w n n _ _ _ _ fx fy (by simpa [Value.cells] using kx) (by simpa [Value.cells] using ky)
  rw [run_eql_struct, show (10000 : Nat) = 10000 - m + m by omega, hr]
  have : r = q := by rw [Bool.eq_iff_iff, hiff, lits_eq hx hy, hq]
  rw [this]
  rfl
end
section
variable {P : Program} {ops : Array Oper} {Q : Exit → Act → World → Prop} {a : Act} {w : World} {rest : List Oper} {o : Oper}
/-- 'x == y' at structs, as one step of a region. -/
theorem wpList_eql_at (t t' : TypeId) (x y : Operand) (ho : o.op = .binOp .eql t x y t') (hw : Region.wanted o (yielded ops a.tmps) = true) (xs ys : Array Value) (hx : a.eval x = .agg xs) (hy : a.eval y = .agg ys)
    (hm : P.eqGuardType P.depth t = false) (q : Bool) (hq : (binOp .eql t (.agg xs) (.agg ys)).run P w = .ok (.bool q) w) (h : wpList P ops Q rest (a.put o.dst (.bool q)) w) : wpList P ops Q (o :: rest) a w :=
  wpList_val hw (by
    unfold execOp
    simp only [ho, hx, hy, Sem.run_bind, run_eqGuard_agg w .eql t x y xs ys hm, Result.andThen_ok, hq, Sem.run_pure]) h
end
end

section
open Go.RowKit Go.ChangeShapes Go.WideShapes Go.Deep
section
variable {P : Program}
/-- '!=' at a flat struct. -/
theorem neq_flat {n m : Nat} {t : TypeId} {ds : List TypeDesc} {fs : Array Field} (hu : P.underlying t = some (.struct fs)) (hct : P.cellsOf t = ds.length) (hf : flatDesc P n t = some ds) (hb : noBlank P n t = true) (hk : P.keyTypeAt m t = true) (hm : m ≤ 10000)
    (xs ys : List Value) (hx : allOk ds xs) (hy : allOk ds ys) (q : Bool) (hq : (q = true ↔ xs = ys)) (w : World) :
    (binOp .neq t (.agg xs.toArray) (.agg ys.toArray)).run P w = .ok (.bool (!q)) w := by
  have h := eql_flat hu hct hf hb hk hm xs ys hx hy q hq w
  rw [run_eql_struct] at h
  rw [run_neq_struct]
  cases hr : (Op.equalIn 10000 t (.agg xs.toArray) (.agg ys.toArray)).run P w with
  | ok b w' =>
    rw [hr] at h
    simp only [Result.andThen_ok, Result.ok.injEq, Value.bool.injEq] at h
    simp only [Result.andThen_ok, h.1, h.2]
  | halt e w' =>
    rw [hr] at h
    simp [Result.andThen] at h
end
section
variable {P : Program} {ops : Array Oper} {Q : Exit → Act → World → Prop} {a : Act} {w : World} {rest : List Oper} {o : Oper}
theorem wpList_neq_at (t t' : TypeId) (x y : Operand) (ho : o.op = .binOp .neq t x y t') (hw : Region.wanted o (yielded ops a.tmps) = true) (xs ys : Array Value) (hx : a.eval x = .agg xs) (hy : a.eval y = .agg ys)
    (hm : P.eqGuardType P.depth t = false) (q : Bool) (hq : (binOp .neq t (.agg xs) (.agg ys)).run P w = .ok (.bool q) w) (h : wpList P ops Q rest (a.put o.dst (.bool q)) w) : wpList P ops Q (o :: rest) a w :=
  wpList_val hw (by
    unfold execOp
    simp only [ho, hx, hy, Sem.run_bind, run_eqGuard_agg w .neq t x y xs ys hm, Result.andThen_ok, hq, Sem.run_pure]) h
end
end

section
open Go Go.RowKit Go.Maps Go.ChangeShapes Go.WideShapes Go.Deep

theorem putT_len (ts : List Tly) (nm : ByteArray) : (putT ts nm).length ≤ ts.length + 1 := by
  unfold putT
  rw [insT_len]
  have := restT_len nm ts
  omega
theorem TalOf.bd {xs : List ByteArray} {ts : List Tly} (h : TalOf xs ts) (hl : xs.length ≤ 1000) : ∀ p ∈ ts, 0 ≤ p.2 ∧ p.2 ≤ 1000 := fun p hp => by
  have h1 := ((h.mem p).1 hp).2
  have h2 := cntB_le xs p.1
  omega
set_option maxRecDepth 100000 in
set_option maxHeartbeats 4000000 in
theorem rtallies_any (xs : List ByteArray) (A : Option Addr) (n c : Nat) (w : World) (hn : n ≤ 1000) (H : Strs w A n xs) :
    Calls Try.prog 39 #[.slice A n c] w (TalR xs w) := by
  have hml := Lib.hid H.len
  have hHh := Lib.hid H
  have h0 : Hid (∃ ts : List Tly, TalOf (xs.take 0) ts ∧ ts.length ≤ 0 ∧ ∃ (A2 : Option Addr) (c2 : Nat), Value.slice none 0 0 = .slice A2 ts.length c2 ∧ Rws w 2 A2 ts.length (ts.map encT)) := Lib.hid ⟨[], TalOf.nil_, Nat.le_refl _, none, 0, rfl, Rws.nil_⟩
  have hB0 := Lib.hid (Below.refl w.heap.size w)
  clear H
  unfold TalR
  go_enter Try.func39, Try.ntmps39
  go_wp2_with fail
  go_loopw [3, 4] (fun vv iv wr => ∃ (k : Nat) (v : Value), k ≤ n ∧ vv = v ∧ iv = .int .i64 k ∧ Hid (∃ ts : List Tly, TalOf (xs.take k) ts ∧ ts.length ≤ k ∧ ∃ (A2 : Option Addr) (c2 : Nat), v = .slice A2 ts.length c2 ∧ Rws wr 2 A2 ts.length (ts.map encT)) ∧ Hid (Below w.heap.size w wr)) (fun _ iv _ => n - (intOf iv).toNat)
  case atStart => exact ⟨0, _, Nat.zero_le _, rfl, rfl, h0, hB0⟩
  case round =>
    clear h0 hB0
    obtain ⟨k, v, hk, hvv, rfl, hT, hB⟩ := hrel
    obtain ⟨ts, hts, htl, A2, c2, hv, hR⟩ := hT.out
    subst hv
    subst hvv
    by_cases hlt : k < n
    · have hlt' : (k : Int) < (n : Int) := by omega
      obtain ⟨b1, o1, x, rfl, hlt0, hx, hc⟩ := (hHh.out.keep hB.out).at_ hlt
      have htk : xs.take (k + 1) = xs.take k ++ [x] := take_succ_of hx
      have cP := rput_any ts A2 ts.length c2 x wr (by omega) hR (hts.bd (by rw [List.length_take]; omega))
      have hT2 := hts.put x
      rw [← htk] at hT2
      have hl2 := putT_len ts x
      have cP := Lib.hid (Calls.mono cP fun (r : Ending) (W' : World) ⟨v2, h1, h2, h3⟩ => (show ∃ v2, r = Ending.returned v2 ∧ (∃ ts : List Tly, TalOf (xs.take (k + 1)) ts ∧ ts.length ≤ k + 1 ∧ ∃ (A2 : Option Addr) (c2 : Nat), v2 = Value.slice A2 ts.length c2 ∧ Rws W' 2 A2 ts.length (ts.map encT)) ∧ Below w.heap.size w W' by
        obtain ⟨A3, c3, e3, h4⟩ := h2.rws
        rw [List.length_map] at e3 h4
        exact ⟨v2, h1, ⟨_, hT2, by omega, A3, c3, e3, h4⟩, hB.out.trans (h3.mono hB.out.size)⟩))
      clear hT hts hR hx htk hT2 hl2 hlt0
      go_wp2_with (go_at_call 57; (with_reducible refine cP.out.mono ?_); rintro r w3 ⟨v2, rfl, hT3, hB3⟩; replace hT3 := Lib.hid hT3; replace hB3 := Lib.hid hB3)
      go_roundw
      case rel => exact ⟨k + 1, v2, by omega, rfl, by go_num, hT3, hB3⟩
      case measure => simp [intOf]; omega
    · have hkn : k = n := by omega
      subst hkn
      rw [List.take_of_length_le (by rw [hml.out]; exact Nat.le_refl _)] at hts
      have hfin := Lib.hid (And.intro hts hR)
      clear hT hts hR htl
      go_wp2_with fail
      go_ret
      exact ⟨ts, A2, c2, rfl, hfin.out.1, hfin.out.2, hB.out⟩
theorem tly_flat : flatDesc Try.prog 3 71 = some [.string, .int .i64] := by kernel_rfl
theorem tly_ok (x : Tly) (h1 : x.1.size ≤ maxLen) (h2 : 0 ≤ x.2) (h3 : x.2 ≤ 1000) : allOk [.string, .int .i64] (encT x) := by
  refine ⟨rfl, fun i d v hd hv => ?_⟩
  match i, hd, hv with
  | 0, hd, hv =>
    obtain rfl := Option.some.inj hd
    obtain rfl := Option.some.inj hv
    exact ⟨_, rfl, h1⟩
  | 1, hd, hv =>
    obtain rfl := Option.some.inj hd
    obtain rfl := Option.some.inj hv
    refine ⟨_, rfl, ?_, ?_⟩
    · rw [show IntKind.i64.min = -9223372036854775808 by decide]; omega
    · rw [show IntKind.i64.max = 9223372036854775807 by decide]; omega
noncomputable def ldT (a : Addr) : Sem Value := loadVar 71 a
theorem ldT_eq (a : Addr) : loadVar 71 a = ldT a := rfl
theorem ldT_run {w : World} {b o : Nat} {x : Tly} (h : w.rangeAt b o (encT x)) : (ldT ⟨b, o, none⟩).run Try.prog w = .ok (.agg (encT x).toArray) w := by
  unfold ldT
  exact run_loadVar_mid (P := Try.prog) w b o 71 (encT x) _ h Try.underlying71 rfl (by kernel_rfl)
noncomputable def neT (x y : Value) : Sem Value := binOp .neq 71 x y
theorem neT_eq (x y : Value) : binOp .neq 71 x y = neT x y := rfl
noncomputable def egT (x y : Operand) (a b : Value) : Sem Unit := eqGuard .neq 71 x y a b
theorem egT_eq (x y : Operand) (a b : Value) : eqGuard .neq 71 x y a b = egT x y a b := rfl
theorem egT_run (x y : Operand) (xs ys : Array Value) (w : World) : (egT x y (.agg xs) (.agg ys)).run Try.prog w = .ok () w := run_eqGuard_agg (w := w) .neq _ x y xs ys (by kernel_rfl)
attribute [local go_sem ↓] ldT_eq neT_eq egT_eq
attribute [local go_sem] egT_run
set_option maxRecDepth 100000 in
set_option maxHeartbeats 4000000 in
theorem sameT_any (ts : List Tly) (A B : Option Addr) (n m c d : Nat) (w : World) (hn : n ≤ 1000) (hnm : n = m) (H : Rws w 2 A n (ts.map encT)) (K : Rws w 2 B m (ts.map encT)) (hb : ∀ p ∈ ts, (0 ≤ p.2 ∧ p.2 ≤ 1000) ∧ p.1.size ≤ maxLen) :
    Calls Try.prog 23 #[.slice A n c, .slice B m d] w fun r w' => r = .returned (.bool true) ∧ Below w.heap.size w w' := by
  subst hnm
  have hHh := Lib.hid (And.intro H K)
  have hB0 := Lib.hid (Below.refl w.heap.size w)
  clear H K
  go_enter Try.func23, Try.ntmps23
  go_wp2_with fail
  go_loopw [5] (fun iv wr => ∃ (k : Nat), k ≤ n ∧ iv = .int .i64 k ∧ Hid (Below w.heap.size w wr)) (fun iv _ => n - (intOf iv).toNat)
  case atStart => exact ⟨0, Nat.zero_le _, rfl, hB0⟩
  case round =>
    clear hB0
    obtain ⟨k, hk, rfl, hB⟩ := hrel
    by_cases hlt : k < n
    · have hlt' : (k : Int) < (n : Int) := by omega
      obtain ⟨b1, o1, z1, rfl, hb1, hz1, _, hr1⟩ := (hHh.out.1.keep hB.out).row hlt
      obtain ⟨b2, o2, z2, rfl, hb2, hz2, _, hr2⟩ := (hHh.out.2.keep hB.out).row hlt
      rw [hz1] at hz2
      obtain rfl := Option.some.inj hz2
      rw [List.getElem?_map] at hz1
      obtain ⟨x, hx, rfl⟩ := Option.map_eq_some_iff.1 hz1
      have hbx := hb x (List.mem_of_getElem? hx)
      have hok : allOk [.string, .int .i64] (encT x) := tly_ok x hbx.2 (by omega) (by omega)
      have hN : ∀ W, (neT (.agg (encT x).toArray) (.agg (encT x).toArray)).run Try.prog W = .ok (.bool false) W := fun W => neq_flat Try.underlying71 (by kernel_rfl) tly_flat (by kernel_rfl) (m := 3) (by kernel_rfl) (by decide) _ _ hok hok true (by simp) W
      have hl1 : ∀ q, (ldT ⟨b1, o1 + k * 2, none⟩).run Try.prog (wr.drewN q) = .ok (.agg (encT x).toArray) (wr.drewN q) := fun q => ldT_run (rangeAt_keep hr1 (drewN_below2 q) hb1)
      have hl2 : ∀ q, (ldT ⟨b2, o2 + k * 2, none⟩).run Try.prog (wr.drewN q) = .ok (.agg (encT x).toArray) (wr.drewN q) := fun q => ldT_run (rangeAt_keep hr2 (drewN_below2 q) hb2)
      clear hz1 hx hr1 hr2 hb1 hb2 hbx hok
      generalize (encT x).toArray = cs at *
      go_upto_region 6 with fail
      go_quiet (fail)
      have hB3 := Lib.hid (hB.out.trans ((drewN_below2 nq : Below wr.heap.size wr (wr.drewN nq)).mono hB.out.size))
      clear hl1 hl2 hN
      generalize wr.drewN nq = W3 at *
      go_wp2_with fail
      go_roundw
      case rel => exact ⟨k + 1, by omega, by go_num, hB3⟩
      case measure => simp [intOf]; omega
    · go_wp2_with fail
      go_ret
      exact ⟨rfl, hB.out⟩
end

section
open Go.RowKit

def win (x most : Int) : Int := if x < 0 ∨ most < x then 0 else x
theorem within_any (x most : Int) (w : World) :
    Calls Try.prog 49 #[.int .i64 x, .int .i64 most] w fun r w' => r = .returned (.int .i64 (win x most)) ∧ w = w' := by
  have hw : win x most = if x < 0 ∨ most < x then 0 else x := rfl
  by_cases h1 : x < 0
  · rw [if_pos (.inl h1)] at hw
    have hW := Lib.hid hw
    clear hw
    go_enter Try.func49, Try.ntmps49
    go_wp2_with fail
    go_ret
    exact ⟨ret_int hW.out.symm, rfl⟩
  by_cases h2 : most < x
  · rw [if_pos (.inr h2)] at hw
    have hW := Lib.hid hw
    clear hw
    go_enter Try.func49, Try.ntmps49
    go_wp2_with fail
    go_ret
    exact ⟨ret_int hW.out.symm, rfl⟩
  · rw [if_neg (by omega)] at hw
    have hW := Lib.hid hw
    clear hw
    go_enter Try.func49, Try.ntmps49
    go_wp2_with fail
    go_ret
    exact ⟨ret_int hW.out.symm, rfl⟩

theorem countP_take_succ {α : Type} (p : α → Bool) {l : List α} {k : Nat} {x : α} (h : l[k]? = some x) : (l.take (k + 1)).countP p = (l.take k).countP p + (if p x then 1 else 0) := by
  rw [take_succ_of h, List.countP_append]
  simp [List.countP_cons]
theorem countP_take_le {α : Type} (p : α → Bool) (l : List α) (k : Nat) : (l.take k).countP p ≤ k := Nat.le_trans List.countP_le_length (List.length_take_le _ _)

def kHit (place : Int) (e : Ev) : Bool := win e.kind 7 == place
def rHit (place : Int) (e : Ev) : Bool := e.kind == 6 && win e.num 15 == place
def mHit (place : Int) (e : Ev) : Bool := e.kind == 2 && win e.dn.method 3 == place
end

section
/-- The places of the census that an event counts at. -/
def hits (es : List Ev) (k : Nat) (e : Ev) : List Nat :=
  [(win e.kind 7).toNat] ++ (if e.kind = 6 then [8 + (win e.num 15).toNat] else []) ++ (if e.kind = 2 then [24 + (win e.dn.method 3).toNat] else []) ++
  (if (e.kind = 2 ∨ e.kind = 1) ∧ e.num ≠ 0 then [28] else []) ++ (if safe es k then [29] else [])
def hitAt (es : List Ev) (i k : Nat) : Bool := match es[k]? with | some e => (hits es k e).contains i | none => false
/-- How many of the first k events count at the place i. -/
def cnt (es : List Ev) (k i : Nat) : Nat := ((List.range k).filter (hitAt es i)).length
def cens (es : List Ev) (k : Nat) : List Int := (List.range 30).map fun i => (cnt es k i : Int)
theorem cnt_succ (es : List Ev) (k i : Nat) : cnt es (k + 1) i = cnt es k i + (if hitAt es i k then 1 else 0) := by
  unfold cnt
  rw [List.range_succ, List.filter_append, List.length_append]
  by_cases h : hitAt es i k = true <;> simp [h]
theorem cnt_le (es : List Ev) (k i : Nat) : cnt es k i ≤ k := by
  unfold cnt
  exact Nat.le_trans (List.length_filter_le _ _) (by simp)
theorem cens_len (es : List Ev) (k : Nat) : (cens es k).length = 30 := by simp [cens]
theorem cens_get {es : List Ev} {k i : Nat} (h : i < 30) : (cens es k)[i]? = some (cnt es k i : Int) := by
  unfold cens
  rw [List.getElem?_map, List.getElem?_range h]
  rfl
/-- One more at a place. -/
def bump (C : List Int) (i : Nat) : List Int := C.set i (C.getD i 0 + 1)
theorem bump_len (C : List Int) (i : Nat) : (bump C i).length = C.length := by simp [bump]
theorem bump_get (C : List Int) (i j : Nat) (h : j < C.length) : (bump C i)[j]? = some (C.getD j 0 + (if i = j then 1 else 0)) := by
  unfold bump
  rw [List.getElem?_set]
  by_cases e : i = j
  · subst e; simp [h]
  · simp [e, List.getElem?_eq_getElem h]
theorem bumps_get : ∀ (L : List Nat) (C : List Int) (j : Nat), L.Nodup → j < C.length → (L.foldl bump C)[j]? = some (C.getD j 0 + (if L.contains j then 1 else 0))
  | [], C, j, _, h => by simp [List.getElem?_eq_getElem h]
  | i :: L, C, j, hn, h => by
    rw [List.foldl_cons, bumps_get L (bump C i) j (List.nodup_cons.1 hn).2 (by rw [bump_len]; exact h)]
    have hg : (bump C i).getD j 0 = C.getD j 0 + (if i = j then 1 else 0) := by
      rw [List.getD_eq_getElem?_getD, bump_get C i j h]; rfl
    rw [hg]
    have hni := (List.nodup_cons.1 hn).1
    by_cases e : i = j
    · subst e
      have : L.contains i = false := by simpa using hni
      rw [this]
      simp
    · have : ((i :: L).contains j) = L.contains j := by simp [Ne.symm e]
      rw [this, if_neg e]
      simp
theorem win_range {x m : Int} (hm : 0 ≤ m) : 0 ≤ win x m ∧ win x m ≤ m := by unfold win; split <;> omega
theorem nd5 (a b c : Nat) (p q r s : Prop) [Decidable p] [Decidable q] [Decidable r] [Decidable s] (ha : a ≤ 7) (hb : b ≤ 15) (hc : c ≤ 3) :
    ([a] ++ (if p then [8 + b] else []) ++ (if q then [24 + c] else []) ++ (if r then [28] else []) ++ (if s then [29] else [])).Nodup := by
  by_cases hp : p <;> by_cases hq : q <;> by_cases hr : r <;> by_cases hs : s <;> simp only [hp, hq, hr, hs, if_true, if_false, List.append_nil, List.cons_append, List.nil_append, List.nodup_cons, List.mem_cons, List.not_mem_nil, List.nodup_nil, or_false, not_false_eq_true, and_true] <;> omega
theorem hits_nodup (es : List Ev) (k : Nat) (e : Ev) : (hits es k e).Nodup := by
  have h1 := win_range (x := e.kind) (m := 7) (by decide)
  have h2 := win_range (x := e.num) (m := 15) (by decide)
  have h3 := win_range (x := e.dn.method) (m := 3) (by decide)
  unfold hits
  exact nd5 _ _ _ _ _ _ _ (by omega) (by omega) (by omega)
theorem cens_step {es : List Ev} {k : Nat} {e : Ev} (he : es[k]? = some e) : cens es (k + 1) = (hits es k e).foldl bump (cens es k) := by
  apply List.ext_getElem?
  intro j
  by_cases h : j < 30
  · rw [bumps_get _ _ _ (hits_nodup es k e) (by rw [cens_len]; exact h), cens_get h, cnt_succ]
    have : hitAt es j k = (hits es k e).contains j := by unfold hitAt; rw [he]
    rw [this, List.getD_eq_getElem?_getD, cens_get h]
    generalize (hits es k e).contains j = q
    cases q <;> simp
  · have hl : ∀ (L : List Nat) (C : List Int), (L.foldl bump C).length = C.length := by
      intro L
      induction L with
      | nil => intro C; rfl
      | cons i L ih => intro C; rw [List.foldl_cons, ih, bump_len]
    rw [List.getElem?_eq_none (by rw [cens_len]; omega), List.getElem?_eq_none (by rw [hl, cens_len]; omega)]
end

section
open Go.RowKit

theorem hits_lo (es : List Ev) (k : Nat) (e : Ev) {i : Nat} (hi : i < 8) : (hits es k e).contains i = ((win e.kind 7).toNat == i) := by
  have h1 := win_range (x := e.kind) (m := 7) (by decide)
  have h2 := win_range (x := e.num) (m := 15) (by decide)
  have h3 := win_range (x := e.dn.method) (m := 3) (by decide)
  rw [Bool.eq_iff_iff]
  unfold hits
  simp only [List.contains_iff_mem, List.mem_append, beq_iff_eq]
  constructor
  · rintro ((((h | h) | h) | h) | h)
    · simp at h; omega
    all_goals (split at h <;> simp at h <;> omega)
  · intro h
    left; left; left; left
    simp; omega
theorem hits_mid (es : List Ev) (k : Nat) (e : Ev) {i : Nat} (hi : i < 16) : (hits es k e).contains (8 + i) = (e.kind == 6 && (win e.num 15).toNat == i) := by
  have h1 := win_range (x := e.kind) (m := 7) (by decide)
  have h2 := win_range (x := e.num) (m := 15) (by decide)
  have h3 := win_range (x := e.dn.method) (m := 3) (by decide)
  rw [Bool.eq_iff_iff]
  unfold hits
  simp only [List.contains_iff_mem, List.mem_append, beq_iff_eq, Bool.and_eq_true]
  constructor
  · rintro ((((h | h) | h) | h) | h)
    · simp at h; omega
    · split at h
      · rename_i h6; simp at h; exact ⟨h6, by omega⟩
      · simp at h
    all_goals (split at h <;> simp at h <;> omega)
  · rintro ⟨h6, h⟩
    left; left; left; right
    rw [if_pos h6]
    simp; omega
theorem hits_hi (es : List Ev) (k : Nat) (e : Ev) {i : Nat} (hi : i < 4) : (hits es k e).contains (24 + i) = (e.kind == 2 && (win e.dn.method 3).toNat == i) := by
  have h1 := win_range (x := e.kind) (m := 7) (by decide)
  have h2 := win_range (x := e.num) (m := 15) (by decide)
  have h3 := win_range (x := e.dn.method) (m := 3) (by decide)
  rw [Bool.eq_iff_iff]
  unfold hits
  simp only [List.contains_iff_mem, List.mem_append, beq_iff_eq, Bool.and_eq_true]
  constructor
  · rintro ((((h | h) | h) | h) | h)
    · simp at h; omega
    · split at h <;> simp at h; omega
    · split at h
      · rename_i h6; simp at h; exact ⟨h6, by omega⟩
      · simp at h
    all_goals (split at h <;> simp at h <;> omega)
  · rintro ⟨h6, h⟩
    left; left; right
    rw [if_pos h6]
    simp; omega
def laterB (e : Ev) : Bool := (e.kind == 1 || e.kind == 2) && e.num != 0
theorem hits_28 (es : List Ev) (k : Nat) (e : Ev) : (hits es k e).contains 28 = laterB e := by
  have h1 := win_range (x := e.kind) (m := 7) (by decide)
  have h2 := win_range (x := e.num) (m := 15) (by decide)
  have h3 := win_range (x := e.dn.method) (m := 3) (by decide)
  rw [Bool.eq_iff_iff]
  unfold hits laterB
  simp only [List.contains_iff_mem, List.mem_append, beq_iff_eq, Bool.and_eq_true, Bool.or_eq_true, bne_iff_ne]
  constructor
  · rintro ((((h | h) | h) | h) | h)
    · simp at h; omega
    · split at h <;> simp at h; omega
    · split at h <;> simp at h; omega
    · split at h
      · rename_i h6; exact ⟨by omega, h6.2⟩
      · simp at h
    · split at h <;> simp at h
  · rintro ⟨h6, h⟩
    left; right
    rw [if_pos ⟨by omega, h⟩]
    simp
theorem hits_29 (es : List Ev) (k : Nat) (e : Ev) : (hits es k e).contains 29 = safe es k := by
  have h1 := win_range (x := e.kind) (m := 7) (by decide)
  have h2 := win_range (x := e.num) (m := 15) (by decide)
  have h3 := win_range (x := e.dn.method) (m := 3) (by decide)
  rw [Bool.eq_iff_iff]
  unfold hits
  simp only [List.contains_iff_mem, List.mem_append]
  constructor
  · rintro ((((h | h) | h) | h) | h)
    · simp at h; omega
    · split at h <;> simp at h; omega
    · split at h <;> simp at h; omega
    · split at h <;> simp at h
    · split at h
      · rename_i h6; exact h6
      · simp at h
  · intro h
    right
    rw [if_pos h]
    simp
theorem hitAt_of {es : List Ev} {k i : Nat} {e : Ev} (he : es[k]? = some e) : hitAt es i k = (hits es k e).contains i := by unfold hitAt; rw [he]
theorem cnt_countP (es : List Ev) (i : Nat) (p : Ev → Bool) (h : ∀ k e, es[k]? = some e → hitAt es i k = p e) : ∀ k, k ≤ es.length → cnt es k i = (es.take k).countP p := by
  intro k
  induction k with
  | zero => intro _; simp [cnt]
  | succ k ih =>
    intro hk
    have he : es[k]? = some es[k] := List.getElem?_eq_getElem (by omega)
    rw [cnt_succ, countP_take_succ p he, ih (by omega), h k _ he]
theorem cnt_k (es : List Ev) {i : Nat} (hi : i < 8) : (cnt es es.length i : Nat) = es.countP (kHit i) := by
  have := cnt_countP es i (kHit i) (fun k e he => by
    rw [hitAt_of he, hits_lo es k e hi]
    have h1 := win_range (x := e.kind) (m := 7) (by decide)
    unfold kHit
    rw [Bool.eq_iff_iff, beq_iff_eq, beq_iff_eq]; omega) es.length (Nat.le_refl _)
  rw [this, List.take_length]
theorem cnt_r (es : List Ev) {i : Nat} (hi : i < 16) : (cnt es es.length (8 + i) : Nat) = es.countP (rHit i) := by
  have := cnt_countP es (8 + i) (rHit i) (fun k e he => by
    rw [hitAt_of he, hits_mid es k e hi]
    have h1 := win_range (x := e.num) (m := 15) (by decide)
    unfold rHit
    rw [Bool.eq_iff_iff, Bool.and_eq_true, Bool.and_eq_true, beq_iff_eq, beq_iff_eq, beq_iff_eq]; omega) es.length (Nat.le_refl _)
  rw [this, List.take_length]
theorem cnt_m (es : List Ev) {i : Nat} (hi : i < 4) : (cnt es es.length (24 + i) : Nat) = es.countP (mHit i) := by
  have := cnt_countP es (24 + i) (mHit i) (fun k e he => by
    rw [hitAt_of he, hits_hi es k e hi]
    have h1 := win_range (x := e.dn.method) (m := 3) (by decide)
    unfold mHit
    rw [Bool.eq_iff_iff, Bool.and_eq_true, Bool.and_eq_true, beq_iff_eq, beq_iff_eq, beq_iff_eq]; omega) es.length (Nat.le_refl _)
  rw [this, List.take_length]
/-! ### What Check asks -/
theorem sum_map_add (f g : Nat → Nat) : ∀ (I : List Nat), (I.map fun i => f i + g i).sum = (I.map f).sum + (I.map g).sum
  | [] => rfl
  | i :: I => by simp only [List.map_cons, List.sum_cons, sum_map_add f g I]; omega
theorem cnt_sum {es : List Ev} {I : List Nat} {j : Nat} (h : ∀ k e, es[k]? = some e → (I.map fun i => if hitAt es i k then 1 else 0).sum = if hitAt es j k then 1 else 0) : ∀ k, k ≤ es.length → (I.map fun i => cnt es k i).sum = cnt es k j := by
  intro k
  induction k with
  | zero =>
    intro _
    simp only [cnt, List.range_zero, List.filter_nil, List.length_nil]
    clear h
    induction I with
    | nil => rfl
    | cons i I ih => simpa using ih
  | succ k ih =>
    intro hk
    have he : es[k]? = some es[k] := List.getElem?_eq_getElem (by omega)
    have h1 := ih (by omega)
    have h2 := h k _ he
    rw [cnt_succ, ← h1, ← h2, ← sum_map_add]
    congr 1
    exact List.map_congr_left (fun i _ => cnt_succ es k i)
theorem one_of {n a : Nat} (p : Bool) (ha : a < n) (o : Nat) : ∀ m, ((List.range m).map fun i => if (p && a == i) then 1 else 0).sum = if (p && decide (a < m)) then 1 else 0 := by
  intro m
  induction m with
  | zero => simp
  | succ m ih =>
    rw [List.range_succ, List.map_append, List.sum_append, ih]
    cases p with
    | false => simp
    | true =>
      by_cases h : a = m
      · subst h; simp
      · by_cases h2 : a < m
        · simp [h, h2, show a < m + 1 by omega]
        · simp [h, h2, show ¬ a < m + 1 by omega]
theorem cnt_reasons (es : List Ev) : ((List.range 16).map fun i => cnt es es.length (8 + i)).sum = cnt es es.length 6 := by
  have := cnt_sum (es := es) (I := (List.range 16).map (8 + ·)) (j := 6) (fun k e he => by
    have h2 := win_range (x := e.num) (m := 15) (by decide)
    have h1 := win_range (x := e.kind) (m := 7) (by decide)
    have hj : hitAt es 6 k = (e.kind == 6) := by
      rw [hitAt_of he, hits_lo es k e (by decide), Bool.eq_iff_iff, beq_iff_eq, beq_iff_eq]
      unfold win at h1 ⊢
      split <;> omega
    rw [hj, List.map_map]
    have : ((List.range 16).map ((fun i => if hitAt es i k = true then 1 else 0) ∘ (8 + ·))) = (List.range 16).map fun i => if (e.kind == 6 && (win e.num 15).toNat == i) then 1 else 0 := by
      apply List.map_congr_left
      intro i hi
      simp only [Function.comp]
      rw [hitAt_of he, hits_mid es k e (List.mem_range.1 hi)]
    rw [this, one_of (n := 16) (e.kind == 6) (by omega) 0 16, decide_eq_true (by omega), Bool.and_true]) es.length (Nat.le_refl _)
  rw [List.map_map] at this
  exact this
theorem cnt_methods (es : List Ev) : ((List.range 4).map fun i => cnt es es.length (24 + i)).sum = cnt es es.length 2 := by
  have := cnt_sum (es := es) (I := (List.range 4).map (24 + ·)) (j := 2) (fun k e he => by
    have h2 := win_range (x := e.dn.method) (m := 3) (by decide)
    have h1 := win_range (x := e.kind) (m := 7) (by decide)
    have hj : hitAt es 2 k = (e.kind == 2) := by
      rw [hitAt_of he, hits_lo es k e (by decide), Bool.eq_iff_iff, beq_iff_eq, beq_iff_eq]
      unfold win at h1 ⊢
      split <;> omega
    rw [hj, List.map_map]
    have : ((List.range 4).map ((fun i => if hitAt es i k = true then 1 else 0) ∘ (24 + ·))) = (List.range 4).map fun i => if (e.kind == 2 && (win e.dn.method 3).toNat == i) then 1 else 0 := by
      apply List.map_congr_left
      intro i hi
      simp only [Function.comp]
      rw [hitAt_of he, hits_hi es k e (List.mem_range.1 hi)]
    rw [this, one_of (n := 4) (e.kind == 2) (by omega) 0 4, decide_eq_true (by omega), Bool.and_true]) es.length (Nat.le_refl _)
  rw [List.map_map] at this
  exact this
theorem cnt_le_two {es : List Ev} {a b c : Nat} (h : ∀ k e, es[k]? = some e → (if hitAt es a k then 1 else 0) ≤ (if hitAt es b k then 1 else 0) + (if hitAt es c k then 1 else 0)) : ∀ k, k ≤ es.length → cnt es k a ≤ cnt es k b + cnt es k c := by
  intro k
  induction k with
  | zero => intro _; simp [cnt]
  | succ k ih =>
    intro hk
    have h1 := ih (by omega)
    have h2 := h k _ (List.getElem?_eq_getElem (by omega))
    rw [cnt_succ, cnt_succ, cnt_succ]
    omega
theorem hitAt_kind {es : List Ev} {k : Nat} {e : Ev} (he : es[k]? = some e) (j : Nat) (h0 : 0 < j) (h7 : j < 8) : hitAt es j k = (e.kind == (j : Int)) := by
  have h1 := win_range (x := e.kind) (m := 7) (by decide)
  rw [hitAt_of he, hits_lo es k e (by omega), Bool.eq_iff_iff, beq_iff_eq, beq_iff_eq]
  unfold win at h1 ⊢
  split <;> omega
theorem cnt_later (es : List Ev) : cnt es es.length 28 ≤ cnt es es.length 1 + cnt es es.length 2 :=
  cnt_le_two (fun k e he => by
    rw [hitAt_of (i := 28) he, hits_28, hitAt_kind he 1 (by decide) (by decide), hitAt_kind he 2 (by decide) (by decide)]
    unfold laterB
    simp only [Bool.and_eq_true, Bool.or_eq_true, beq_iff_eq, bne_iff_ne]
    split
    · rename_i h
      rcases h.1 with h | h
      · rw [if_pos (by omega)]; omega
      · rw [if_pos (c := e.kind = ((2 : Nat) : Int)) (by omega)]; omega
    · omega) es.length (Nat.le_refl _)
theorem safe_kind {es : List Ev} {k : Nat} {e : Ev} (he : es[k]? = some e) (h : safe es k = true) : e.kind = 2 ∨ e.kind = 4 := by
  rw [← refSafe_eq] at h
  unfold refSafe at h
  rw [he] at h
  simp only [Bool.and_eq_true, Bool.or_eq_true, beq_iff_eq] at h
  exact h.1
theorem cnt_safe (es : List Ev) : cnt es es.length 29 ≤ cnt es es.length 2 + cnt es es.length 4 :=
  cnt_le_two (fun k e he => by
    rw [hitAt_of (i := 29) he, hits_29, hitAt_kind he 2 (by decide) (by decide), hitAt_kind he 4 (by decide) (by decide)]
    simp only [beq_iff_eq]
    split
    · rename_i h
      rcases safe_kind he h with h | h
      · rw [if_pos (by omega)]; omega
      · rw [if_pos (c := e.kind = ((4 : Nat) : Int)) (by omega)]; omega
    · omega) es.length (Nat.le_refl _)
end

section
open Go.RowKit

/-- The cells of a census. -/
def ci (C : List Int) : Array Value := (C.map (Value.int .i64)).toArray
theorem ci_one (C : List Int) : (ci C).all (·.oneCell') = true := by
  unfold ci
  rw [Array.all_eq_true_iff_forall_mem]
  intro v hv
  simp only [List.mem_toArray, List.mem_map] at hv
  obtain ⟨x, _, rfl⟩ := hv
  rfl
/-- Block g is a census. -/
def CB (w : World) (g : Nat) (C : List Int) : Prop := w.heap[g]? = some (.cells (ci C) 64 (0, 0)) ∧ C.length = 30
theorem CB.lt {w : World} {g : Nat} {C : List Int} (h : CB w g C) : g < w.heap.size := (Array.getElem?_eq_some_iff.1 h.1).1
theorem CB.cell {w : World} {g : Nat} {C : List Int} (h : CB w g C) {i : Nat} (hi : i < 30) : w.cell? ⟨g, i, none⟩ = some (.int .i64 (C.getD i 0)) ∧ w.frozen? ⟨g, i, none⟩ = false := by
  refine ⟨?_, frozen_of_row w g i _ _ h.1⟩
  rw [cell_of_row w g i _ _ _ h.1]
  unfold ci
  rw [List.getElem?_toArray, List.getElem?_map, List.getD_eq_getElem?_getD, List.getElem?_eq_getElem (by rw [h.2]; exact hi)]
  rfl
theorem CB.below {w w' : World} {g : Nat} {C : List Int} (h : CB w g C) (hb : Below w.heap.size w w') : CB w' g C := ⟨(hb.block g h.lt).trans h.1, h.2⟩
theorem CB.alloc {w : World} {g : Nat} {C : List Int} (h : CB w g C) (o : Obj) : CB (w.alloc o) g C := h.below ((Below.refl _ _).alloc (Nat.le_refl _) o)
theorem CB.ints {w : World} {g : Nat} {C : List Int} (h : CB w g C) {o n : Nat} (hn : o + n ≤ 30) : Ints w (some ⟨g, o, none⟩) n ((C.drop o).take n) := by
  refine ⟨?_, ?_, fun _ => ⟨g, o, rfl, h.lt, fun j z hz i v hv => ?_⟩⟩
  · rw [List.length_map, List.length_take, List.length_drop, h.2]; omega
  · intro z hz
    obtain ⟨x, _, rfl⟩ := List.mem_map.1 hz
    rfl
  · rw [List.getElem?_map, List.getElem?_take] at hz
    split at hz
    · rename_i hj
      rw [List.getElem?_drop, List.getElem?_eq_getElem (by rw [h.2]; omega)] at hz
      simp only [Option.map_some, Option.some.injEq] at hz
      subst hz
      match i with
      | 0 =>
        simp only [iv, List.getElem?_cons_zero, Option.some.injEq] at hv
        subst hv
        have := (h.cell (i := o + j) (by omega)).1
        rw [List.getD_eq_getElem?_getD, List.getElem?_eq_getElem (by rw [h.2]; omega)] at this
        rw [show o + j * 1 + 0 = o + j by omega]
        exact this
      | i + 1 => simp [iv] at hv
    · cases hz

set_option maxHeartbeats 1000000 in
theorem total_any (xs : List Int) (A : Option Addr) (n c : Nat) (w : World) (hn : n ≤ 1000) (H : Ints w A n xs) (hx : ∀ x ∈ xs, 0 ≤ x ∧ x ≤ 1000000) :
    Calls Try.prog 50 #[.slice A n c] w fun r w' => r = .returned (.tuple #[.int .i64 xs.sum, .bool true]) ∧ w = w' := by
  have hlen := Lib.hid H.len
  have hX := Lib.hid hx
  clear hx
  go_enter Try.func50, Try.ntmps50
  go_wp2
  go_loop [4, 5, 10] (fun m b i => ∃ k : Nat, ∃ q : Int, k ≤ n ∧ 0 ≤ q ∧ q ≤ 1000000 * k ∧ i = .int .i64 k ∧ m = .int .i64 q ∧ b = .bool true ∧ Hid (q = (xs.take k).sum)) (fun _ _ i => n - (intOf i).toNat)
  case atStart => exact ⟨0, 0, by omega, by omega, by omega, rfl, rfl, rfl, by simp [Hid]⟩
  case round =>
    obtain ⟨k, q, hk, hq0, hq1, rfl, rfl, rfl, hq⟩ := hrel
    by_cases hlt : k < n
    · obtain ⟨b, off, x, rfl, hb, hx, hc⟩ := H.at_ hlt
      obtain ⟨hx0, hx1⟩ := hX.out x (List.mem_of_getElem? hx)
      have hs := Lib.hid (show q + x = (xs.take (k + 1)).sum by rw [take_succ_of hx, List.sum_append, hq.out]; simp)
      clear hx
      go_wp2
      go_round
      case rel => exact ⟨k + 1, q + x, by omega, by omega, by omega, by go_num, rfl, rfl, hs⟩
      case measure => simp [intOf]; omega
    · go_wp2
      go_ret2
      exact ⟨by rw [hq.out, List.take_of_length_le (by rw [hlen.out]; omega)]; rfl, rfl⟩
/-- What Check asks of a census. -/
structure Good (C : List Int) : Prop where
  len : C.length = 30
  pos : ∀ x ∈ C, 0 ≤ x ∧ x ≤ 1000000
  reasons : ((C.drop 8).take 16).sum = C.getD 6 0
  methods : ((C.drop 24).take 4).sum = C.getD 2 0
  later : C.getD 28 0 - C.getD 1 0 ≤ C.getD 2 0
  safe : C.getD 29 0 - C.getD 2 0 ≤ C.getD 4 0
theorem Good.at_ {C : List Int} (h : Good C) {i : Nat} (hi : i < 30) : 0 ≤ C.getD i 0 ∧ C.getD i 0 ≤ 1000000 := by
  rw [List.getD_eq_getElem?_getD, List.getElem?_eq_getElem (by rw [h.len]; exact hi)]
  exact h.pos _ (List.getElem_mem _)
theorem Good.sub {C : List Int} (h : Good C) (o n : Nat) : ∀ x ∈ (C.drop o).take n, 0 ≤ x ∧ x ≤ 1000000 := fun x hx => h.pos x (List.mem_of_mem_drop (List.mem_of_mem_take hx))
set_option maxRecDepth 100000 in
set_option maxHeartbeats 4000000 in
theorem check_good (C : List Int) (w : World) (h : Good C) :
    Calls Try.prog 35 #[.agg (ci C)] w fun r w' => r = .returned .nilIface ∧ Below w.heap.size w w' := by
  have hCB : CB (w.alloc (.cells (ci C) 64)) w.heap.size C := ⟨heap_new w _, h.len⟩
  have t0 := Lib.hid (total_any _ (some ⟨w.heap.size, 0, none⟩) 8 8 _ (by decide) (hCB.ints (o := 0) (n := 8) (by decide)) (h.sub 0 8))
  have t1 := Lib.hid (total_any _ (some ⟨w.heap.size, 8, none⟩) 16 16 _ (by decide) (hCB.ints (o := 8) (n := 16) (by decide)) (h.sub 8 16))
  have t2 := Lib.hid (total_any _ (some ⟨w.heap.size, 8 + 16, none⟩) 4 4 _ (by decide) (hCB.ints (o := 24) (n := 4) (by decide)) (h.sub 24 4))
  obtain ⟨c6, _⟩ := hCB.cell (i := 6) (by decide)
  obtain ⟨c2, _⟩ := hCB.cell (i := 2) (by decide)
  obtain ⟨c1, _⟩ := hCB.cell (i := 1) (by decide)
  obtain ⟨c4, _⟩ := hCB.cell (i := 4) (by decide)
  obtain ⟨c28, _⟩ := hCB.cell (i := 28) (by decide)
  obtain ⟨c29, _⟩ := hCB.cell (i := 29) (by decide)
  have p1 := h.at_ (i := 1) (by decide)
  have p2 := h.at_ (i := 2) (by decide)
  have p4 := h.at_ (i := 4) (by decide)
  have p6 := h.at_ (i := 6) (by decide)
  have p28 := h.at_ (i := 28) (by decide)
  have p29 := h.at_ (i := 29) (by decide)
  have hl := h.later
  have hs := h.safe
  rw [h.reasons] at t1
  rw [h.methods] at t2
  generalize ((C.drop 0).take 8).sum = s0 at t0
  generalize C.getD 1 0 = x1 at *
  generalize C.getD 2 0 = x2 at *
  generalize C.getD 4 0 = x4 at *
  generalize C.getD 6 0 = x6 at *
  generalize C.getD 28 0 = x28 at *
  generalize C.getD 29 0 = x29 at *
  obtain ⟨p10, p11⟩ := p1
  obtain ⟨p20, p21⟩ := p2
  obtain ⟨p40, p41⟩ := p4
  obtain ⟨p60, p61⟩ := p6
  obtain ⟨p280, p281⟩ := p28
  obtain ⟨p290, p291⟩ := p29
  have hB := Lib.hid ((Below.refl w.heap.size w).alloc (Nat.le_refl _) (.cells (ci C) 64))
  have q6 : (x6 != x6) = false := by simp
  have q2 : (x2 != x2) = false := by simp
  clear hCB h
  go_enter Try.func35, Try.ntmps35
  go_wp2_with (refine wpList_box_row 64 _ rfl rfl (ci C) rfl ?_)
  refine t0.out.mono ?_
  rintro r w1 ⟨rfl, rfl⟩
  go_wp2_with fail
  refine t1.out.mono ?_
  rintro r w1 ⟨rfl, rfl⟩
  go_wp2_with fail
  refine t2.out.mono ?_
  rintro r w1 ⟨rfl, rfl⟩
  go_wp2_with fail
  go_ret
  exact ⟨rfl, hB.out⟩
end
end Go.Proofs.Ytkgkpoiacbjdfaa
