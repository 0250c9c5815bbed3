/- errors.as and errors.As, over a chain. -/
import Derived.Test.YtfoegpacjkcidaaDoorFlA
namespace Go.Proofs.YtfoegpacjkcidaaDoor
open Go.RowKit Go.Extern.Stop Go.Stop Go.Extern

/-- A cell of the caller's is set; all else that was there is as it was. -/
def SetIn (w : World) (t : Addr) (x : Value) (w' : World) : Prop := ∃ W, Below w.heap.size w W ∧ w' = W.setCell t x
theorem SetIn.cell {w w' : World} {b o : Nat} {x old : Value} (h : SetIn w ⟨b, o, none⟩ x w') (ht : w.cell? ⟨b, o, none⟩ = some old) : w'.cell? ⟨b, o, none⟩ = some x := by
  obtain ⟨W, hb, rfl⟩ := h
  have hlt : b < w.heap.size := block_lt_of_cell ht
  have hW : W.cell? ⟨b, o, none⟩ = some old := (hb.cell (p := ⟨b, o, none⟩) hlt).trans ht
  exact World.cell?_setCell_same _ _ _ hW
theorem SetIn.size {w w' : World} {t : Addr} {x : Value} (h : SetIn w t x w') : w.heap.size ≤ w'.heap.size := by
  obtain ⟨W, hb, rfl⟩ := h
  rw [World.size_setCell]
  exact hb.size
theorem SetIn.below {w w0 w' : World} {t : Addr} {x : Value} {B : Nat} (h : SetIn w t x w') (hb : Below B w0 w) (hw : B ≤ w.heap.size) (hB : B ≤ t.block) : Below B w0 w' := by
  obtain ⟨W, hb2, rfl⟩ := h
  exact (hb.trans (hb2.mono hw)).setCell hB _
theorem SetIn.from_ {w w2 w' : World} {t : Addr} {x : Value} (hb : Below w.heap.size w w2) (h : SetIn w2 t x w') : SetIn w t x w' := by
  obtain ⟨W, hb2, rfl⟩ := h
  exact ⟨W, hb.trans (hb2.mono hb.size), rfl⟩

theorem isErr_iface {w : World} {n : Int} : ∀ {p : List ByteArray} {v : Value}, isErr w (some n) p v → ∃ T u, v = .iface T u
  | [], _, h => ⟨_, _, h⟩
  | _ :: _, _, ⟨_, _, e, _⟩ => ⟨_, _, e⟩

theorem methodComparable (v : Value) (w : World) : (Go.method 263 107 v "Comparable").run Tryd.prog w = .ok (112, v) w := by kernel_rfl
theorem comparableN (w : World) : ((ReflectliteType.method fun t => (fun a => Value.bool a.comparable) <$> typeInfo t) #[.agg #[.pointer (some ⟨6, 43, none⟩)]]).run Tryd.prog w = .ok (.bool true) w := by kernel_rfl

set_option maxHeartbeats 1000000 in
theorem asN_hit (n : Int) (p : List ByteArray) (v tgt : Value) (a t : Addr) (old : Value) (w : World) (H : isErr w (some n) p v) (ha : w.cell? a = some (.pointer (some t))) (ht : w.cell? t = some old) (hf : w.frozen? t = false) :
    Calls Tryd.prog 63 #[v, tgt, .agg #[.pointer (some ⟨6, 81, none⟩), .pointer (some a), .int .u64 150], .iface 107 (.agg #[.pointer (some ⟨6, 43, none⟩)])] w fun r w' => r = .returned (.bool true) ∧ SetIn w t (.int .i64 n) w' := by
  have hal := block_lt_of_cell ha
  have htl := block_lt_of_cell ht
  have h62 := @run_callFunc_extern Tryd.prog 60 _ (fun args => ReflectliteValue.unpack (args.getD 0 (.tuple #[]))) Tryd.func60 (by kernel_rfl) (by kernel_rfl) (by kernel_rfl) (by kernel_rfl)
  have h66 := @run_callFunc_extern Tryd.prog 70 _ ReflectliteType.typeOf Tryd.func70 (by kernel_rfl) (by kernel_rfl) (by kernel_rfl) (by kernel_rfl)
  have h109 := @run_callFunc_extern Tryd.prog 111 _ (ReflectliteType.relation "AssignableTo" ReflectliteType.assignableTo) Tryd.func111 (by kernel_rfl) (by kernel_rfl) (by kernel_rfl) (by kernel_rfl)
  have h75 := @run_callFunc_extern Tryd.prog 71 _ (ReflectliteValue.method (ReflectliteValue.valueError "reflectlite.Value.Elem" 0) ReflectliteValue.elem) Tryd.func71 (by kernel_rfl) (by kernel_rfl) (by kernel_rfl) (by kernel_rfl)
  have h76 := @run_callFunc_extern Tryd.prog 72 _ ReflectliteValue.set Tryd.func72 (by kernel_rfl) (by kernel_rfl) (by kernel_rfl) (by kernel_rfl)
  have tN := typeOfEN
  have tF := typeOfEF
  have mA := methodAssignableTo
  have aN := assEN
  have aF := assFN
  have nF := noAsF
  have nN := noAsN
  have uF := hasUnwrapF
  have uN := noUnwrapN
  have usN := noUnwrapsN
  have mU := methodUnwrap
  have vE := valueOfEN n
  have el := elemVN a t (w.alloc (.cells #[.pointer (some ⟨6, 81, none⟩), .pointer (some a), .int .u64 150] 95)) (by rw [World.cell?_alloc_lt _ _ a hal]; exact ha)
  have st := setEN t ⟨w.heap.size + 1, 0, none⟩ n old ((w.alloc (.cells #[.pointer (some ⟨6, 81, none⟩), .pointer (some a), .int .u64 150] 95)).alloc (.cells #[.int .i64 n] 43))
    (by rw [World.cell?_alloc_at _ _ _ _ (by simp)]; rfl)
    (by rw [World.cell?_alloc_lt _ _ t (by simp <;> omega), World.cell?_alloc_lt _ _ t htl]; exact ht)
    (by rw [World.frozen?_alloc_old _ _ t (by simp <;> omega), World.frozen?_alloc_old _ _ t (Nat.ne_of_lt htl)]; exact hf)
  have hB := Lib.hid ((Below.refl w.heap.size w).alloc (Nat.le_refl _) (.cells #[.pointer (some ⟨6, 81, none⟩), .pointer (some a), .int .u64 150] 95))
  have H := Lib.hid H
  go_enter Tryd.func63, Tryd.ntmps63
  go_wp2
  go_loopg [0] p.length (fun k x wr => ∃ q : List ByteArray, Hid (q.length = k) ∧ wr = w.alloc (.cells #[.pointer (some ⟨6, 81, none⟩), .pointer (some a), .int .u64 150] 95) ∧ Hid (isErr wr (some n) q x))
  case atStart => exact ⟨p, rfl, rfl, H.out.keep hB.out⟩
  case round =>
    obtain ⟨q, hq, rfl, hE⟩ := hrel
    cases q with
    | nil =>
      have e := hE.out
      simp only [isErr] at e
      subst e
      clear hE
      go_wp2
      go_ret
      exact ⟨rfl, _, hB.out.alloc (by simp) _, rfl⟩
    | cons s q =>
      obtain ⟨b, v', rfl, hlt, c0, c1, hE'⟩ := hE.out
      obtain ⟨T, u, rfl⟩ := isErr_iface hE'
      have hE' := Lib.hid hE'
      clear hE c0
      go_wp2
      go_roundg q.length
      case measure => have := hq.out; simp at this; omega
      case rel => exact ⟨q, rfl, rfl, hE'⟩

set_option maxHeartbeats 1000000 in
theorem asN_miss (s : ByteArray) (p : List ByteArray) (v tgt : Value) (a t : Addr) (old : Value) (w : World) (H : isErr w none (s :: p) v) (ha : w.cell? a = some (.pointer (some t))) (ht : w.cell? t = some old) (hf : w.frozen? t = false) :
    Calls Tryd.prog 63 #[v, tgt, .agg #[.pointer (some ⟨6, 81, none⟩), .pointer (some a), .int .u64 150], .iface 107 (.agg #[.pointer (some ⟨6, 43, none⟩)])] w fun r w' => r = .returned (.bool false) ∧ Below w.heap.size w w' := by
  have hal := block_lt_of_cell ha
  have htl := block_lt_of_cell ht
  have h62 := @run_callFunc_extern Tryd.prog 60 _ (fun args => ReflectliteValue.unpack (args.getD 0 (.tuple #[]))) Tryd.func60 (by kernel_rfl) (by kernel_rfl) (by kernel_rfl) (by kernel_rfl)
  have h66 := @run_callFunc_extern Tryd.prog 70 _ ReflectliteType.typeOf Tryd.func70 (by kernel_rfl) (by kernel_rfl) (by kernel_rfl) (by kernel_rfl)
  have h109 := @run_callFunc_extern Tryd.prog 111 _ (ReflectliteType.relation "AssignableTo" ReflectliteType.assignableTo) Tryd.func111 (by kernel_rfl) (by kernel_rfl) (by kernel_rfl) (by kernel_rfl)
  have h75 := @run_callFunc_extern Tryd.prog 71 _ (ReflectliteValue.method (ReflectliteValue.valueError "reflectlite.Value.Elem" 0) ReflectliteValue.elem) Tryd.func71 (by kernel_rfl) (by kernel_rfl) (by kernel_rfl) (by kernel_rfl)
  have h76 := @run_callFunc_extern Tryd.prog 72 _ ReflectliteValue.set Tryd.func72 (by kernel_rfl) (by kernel_rfl) (by kernel_rfl) (by kernel_rfl)
  have tN := typeOfEN
  have tF := typeOfEF
  have mA := methodAssignableTo
  have aN := assEN
  have aF := assFN
  have nF := noAsF
  have nN := noAsN
  have uF := hasUnwrapF
  have uN := noUnwrapN
  have usN := noUnwrapsN
  have mU := methodUnwrap
  have hB := Lib.hid ((Below.refl w.heap.size w).alloc (Nat.le_refl _) (.cells #[.pointer (some ⟨6, 81, none⟩), .pointer (some a), .int .u64 150] 95))
  have H := Lib.hid H
  go_enter Tryd.func63, Tryd.ntmps63
  go_wp2
  go_loopg [0] (s :: p).length (fun k x wr => ∃ q : List ByteArray, Hid (q.length = k) ∧ Hid (q ≠ []) ∧ wr = w.alloc (.cells #[.pointer (some ⟨6, 81, none⟩), .pointer (some a), .int .u64 150] 95) ∧ Hid (isErr wr none q x))
  case atStart => exact ⟨s :: p, rfl, (by simp [Hid]), rfl, H.out.keep hB.out⟩
  case round =>
    obtain ⟨q, hq, hn, rfl, hE⟩ := hrel
    cases q with
    | nil => exact absurd rfl hn.out
    | cons s q =>
      obtain ⟨b, v', rfl, hlt, c0, c1, hE'⟩ := hE.out
      cases q with
      | nil =>
        simp only [isErr] at hE'
        subst hE'
        clear hE c0
        go_wp2
        go_ret
        exact ⟨rfl, hB.out⟩
      | cons s2 q =>
        have hE2 := Lib.hid hE'
        obtain ⟨b2, v2, rfl, _, _, _, _⟩ := hE'
        clear hE c0
        go_wp2
        go_roundg (s2 :: q).length
        case measure => have := hq.out; simp at this; simp; omega
        case rel => exact ⟨s2 :: q, rfl, (by simp [Hid]), rfl, hE2⟩

set_option maxHeartbeats 1000000 in
theorem asF_hit (n : Addr) (tgt : Value) (a t : Addr) (old : Value) (w : World)  (ha : w.cell? a = some (.pointer (some t))) (ht : w.cell? t = some old) (hf : w.frozen? t = false) :
    Calls Tryd.prog 63 #[.iface 76 (.pointer (some n)), tgt, .agg #[.pointer (some ⟨6, 80, none⟩), .pointer (some a), .int .u64 150], .iface 107 (.agg #[.pointer (some ⟨6, 76, none⟩)])] w fun r w' => r = .returned (.bool true) ∧ SetIn w t (.pointer (some n)) w' := by
  have hal := block_lt_of_cell ha
  have htl := block_lt_of_cell ht
  have h62 := @run_callFunc_extern Tryd.prog 60 _ (fun args => ReflectliteValue.unpack (args.getD 0 (.tuple #[]))) Tryd.func60 (by kernel_rfl) (by kernel_rfl) (by kernel_rfl) (by kernel_rfl)
  have h66 := @run_callFunc_extern Tryd.prog 70 _ ReflectliteType.typeOf Tryd.func70 (by kernel_rfl) (by kernel_rfl) (by kernel_rfl) (by kernel_rfl)
  have h109 := @run_callFunc_extern Tryd.prog 111 _ (ReflectliteType.relation "AssignableTo" ReflectliteType.assignableTo) Tryd.func111 (by kernel_rfl) (by kernel_rfl) (by kernel_rfl) (by kernel_rfl)
  have h75 := @run_callFunc_extern Tryd.prog 71 _ (ReflectliteValue.method (ReflectliteValue.valueError "reflectlite.Value.Elem" 0) ReflectliteValue.elem) Tryd.func71 (by kernel_rfl) (by kernel_rfl) (by kernel_rfl) (by kernel_rfl)
  have h76 := @run_callFunc_extern Tryd.prog 72 _ ReflectliteValue.set Tryd.func72 (by kernel_rfl) (by kernel_rfl) (by kernel_rfl) (by kernel_rfl)
  have tN := typeOfEN
  have tF := typeOfEF
  have mA := methodAssignableTo
  have aN := assEF
  have aF := assFF
  have nF := noAsF
  have nN := noAsN
  have uF := hasUnwrapF
  have uN := noUnwrapN
  have usN := noUnwrapsN
  have mU := methodUnwrap
  have vE := valueOfEF n
  have el := elemVF a t (w.alloc (.cells #[.pointer (some ⟨6, 80, none⟩), .pointer (some a), .int .u64 150] 95)) (by rw [World.cell?_alloc_lt _ _ a hal]; exact ha)
  have st := setEF t ⟨w.heap.size + 1, 0, none⟩ n old ((w.alloc (.cells #[.pointer (some ⟨6, 80, none⟩), .pointer (some a), .int .u64 150] 95)).alloc (.cells #[.pointer (some n)] 76))
    (by rw [World.cell?_alloc_at _ _ _ _ (by simp)]; rfl)
    (by rw [World.cell?_alloc_lt _ _ t (by simp <;> omega), World.cell?_alloc_lt _ _ t htl]; exact ht)
    (by rw [World.frozen?_alloc_old _ _ t (by simp <;> omega), World.frozen?_alloc_old _ _ t (Nat.ne_of_lt htl)]; exact hf)
  have hB := Lib.hid ((Below.refl w.heap.size w).alloc (Nat.le_refl _) (.cells #[.pointer (some ⟨6, 80, none⟩), .pointer (some a), .int .u64 150] 95))
  go_enter Tryd.func63, Tryd.ntmps63
  go_wp2
  refine wp_loop_rounds 1 ?_
  rw [rounds_succ]
  go_wp2
  go_ret
  exact ⟨rfl, _, hB.out.alloc (by simp) _, rfl⟩

set_option maxHeartbeats 1000000 in
theorem asF_miss (m : Int) (tgt : Value) (a t : Addr) (old : Value) (w : World)  (ha : w.cell? a = some (.pointer (some t))) (ht : w.cell? t = some old) (hf : w.frozen? t = false) :
    Calls Tryd.prog 63 #[.iface 43 (.int .i64 m), tgt, .agg #[.pointer (some ⟨6, 80, none⟩), .pointer (some a), .int .u64 150], .iface 107 (.agg #[.pointer (some ⟨6, 76, none⟩)])] w fun r w' => r = .returned (.bool false) ∧ Below w.heap.size w w' := by
  have hal := block_lt_of_cell ha
  have htl := block_lt_of_cell ht
  have h62 := @run_callFunc_extern Tryd.prog 60 _ (fun args => ReflectliteValue.unpack (args.getD 0 (.tuple #[]))) Tryd.func60 (by kernel_rfl) (by kernel_rfl) (by kernel_rfl) (by kernel_rfl)
  have h66 := @run_callFunc_extern Tryd.prog 70 _ ReflectliteType.typeOf Tryd.func70 (by kernel_rfl) (by kernel_rfl) (by kernel_rfl) (by kernel_rfl)
  have h109 := @run_callFunc_extern Tryd.prog 111 _ (ReflectliteType.relation "AssignableTo" ReflectliteType.assignableTo) Tryd.func111 (by kernel_rfl) (by kernel_rfl) (by kernel_rfl) (by kernel_rfl)
  have h75 := @run_callFunc_extern Tryd.prog 71 _ (ReflectliteValue.method (ReflectliteValue.valueError "reflectlite.Value.Elem" 0) ReflectliteValue.elem) Tryd.func71 (by kernel_rfl) (by kernel_rfl) (by kernel_rfl) (by kernel_rfl)
  have h76 := @run_callFunc_extern Tryd.prog 72 _ ReflectliteValue.set Tryd.func72 (by kernel_rfl) (by kernel_rfl) (by kernel_rfl) (by kernel_rfl)
  have tN := typeOfEN
  have tF := typeOfEF
  have mA := methodAssignableTo
  have aN := assEF
  have aF := assFF
  have nF := noAsF
  have nN := noAsN
  have uF := hasUnwrapF
  have uN := noUnwrapN
  have usN := noUnwrapsN
  have mU := methodUnwrap
  have hB := Lib.hid ((Below.refl w.heap.size w).alloc (Nat.le_refl _) (.cells #[.pointer (some ⟨6, 80, none⟩), .pointer (some a), .int .u64 150] 95))
  go_enter Tryd.func63, Tryd.ntmps63
  go_wp2
  refine wp_loop_rounds 1 ?_
  rw [rounds_succ]
  go_wp2
  go_ret
  exact ⟨rfl, hB.out⟩
end Go.Proofs.YtfoegpacjkcidaaDoor
