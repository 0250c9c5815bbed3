/- errors.is and errors.Is, over a chain, at a number. -/
import Derived.Test.YtjiepgldgcghlaaDoorFlA
namespace Go.Proofs.YtjiepgldgcghlaaDoor
open Go.RowKit Go.Extern.Stop Go.Stop Go.Extern

section
variable {P : Program} (w : World)
theorem run_equalIn_iface_int (d : Nat) {ti tn : TypeId} {ms : Array (String × TypeId)} {i : TypeInfo} {k : IntKind} (a b : Int)
    (hi : P.underlying ti = some (.interface ms)) (hn : P.underlying tn = some (.int k)) (hinfo : P.info? tn = some i) (hcomp : i.comparable = true) :
    (Op.equalIn (d + 2) ti (.iface tn (.int k a)) (.iface tn (.int k b))).run P w = .ok (a == b) w := by
  simp [Op.equalIn, run_underlying hi, run_underlying hn, typeInfo, hinfo, hcomp]
theorem run_eql_iface_int {ti tn : TypeId} {ms : Array (String × TypeId)} {i : TypeInfo} {k : IntKind} (a b : Int)
    (hi : P.underlying ti = some (.interface ms)) (hn : P.underlying tn = some (.int k)) (hinfo : P.info? tn = some i) (hcomp : i.comparable = true) :
    (binOp .eql ti (.iface tn (.int k a)) (.iface tn (.int k b))).run P w = .ok (.bool (a == b)) w := by
  simp only [binOp]
  simp [Op.equal, Op.maxDepth, run_equalIn_iface_int w 9998 a b hi hn hinfo hcomp]
end

theorem isErr_some {w : World} {n : Int} : ∀ {p : List ByteArray} {v : Value}, isErr w (some n) p v → ∃ T u, v = .iface T u
  | [], _, h => ⟨_, _, h⟩
  | _ :: _, _, ⟨_, _, e, _⟩ => ⟨_, _, e⟩
theorem isErr_cons {w : World} {o : Option Int} {s : ByteArray} {p : List ByteArray} {v : Value} (h : isErr w o (s :: p) v) : ∃ T u, v = .iface T u := by
  obtain ⟨_, _, e, _⟩ := h
  exact ⟨_, _, e⟩
theorem noIsN (v : Value) (xT : TypeId) (w : World) : (Instr.typeAssert (.iface 27 v) xT 117 true).run Tryd.prog w = .ok (.tuple #[.nilIface, .bool false]) w := run_typeAssert_lacksB Tryd.underlying117 (by kernel_rfl) (by kernel_rfl) v xT w
theorem noIsF (v : Value) (xT : TypeId) (w : World) : (Instr.typeAssert (.iface 44 v) xT 117 true).run Tryd.prog w = .ok (.tuple #[.nilIface, .bool false]) w := run_typeAssert_lacksB Tryd.underlying117 (by kernel_rfl) (by kernel_rfl) v xT w
theorem compN : (Tryd.prog.info? 27).map (·.comparable) = some true := by kernel_rfl
theorem methodComparable2 (v : Value) (w : World) : (Go.method 260 106 v "Comparable").run Tryd.prog w = .ok (110, v) w := by kernel_rfl
def cmpX : Array Value → Sem Value := ReflectliteType.method fun t => do Rtype.noPackHeld "Comparable" t; pure (.bool (← typeInfo t).comparable)
theorem comparableN2 (w : World) : (cmpX #[.agg #[.pointer (some ⟨4, 27, none⟩)]]).run Tryd.prog w = .ok (.bool true) w := by kernel_rfl

set_option maxHeartbeats 1000000 in
theorem is_some (n e : Int) (p : List ByteArray) (v : Value) (w : World) (H : isErr w (some n) p v) :
    Calls Tryd.prog 67 #[v, .iface 27 (.int .i64 e), .bool true] w fun r w' => r = .returned (.bool (n == e)) ∧ w = w' := by
  obtain ⟨i, hi, hcmp⟩ := Option.map_eq_some_iff.1 compN
  have heq := run_eql_iface_int (P := Tryd.prog) w n e Tryd.underlying33 Tryd.underlying27 hi hcmp
  have hne := fun u => run_eql_iface_types (P := Tryd.prog) 44 27 u (.int .i64 e) Tryd.underlying33 (by decide) w
  have nF := noIsF
  have nN := noIsN
  have uF := hasUnwrapF
  have uN := noUnwrapN
  have usN := noUnwrapsN
  have mU := methodUnwrap
  clear hi hcmp
  cases hb : (n == e)
  all_goals
    rw [hb] at heq
    clear hb
    have HH := Lib.hid H
    go_enter Tryd.func67, Tryd.ntmps67
    go_wp2
    go_loopg [0] p.length (fun k x wr => ∃ q : List ByteArray, Hid (q.length = k) ∧ wr = w ∧ Hid (isErr w (some n) q x))
    case atStart => exact ⟨p, rfl, rfl, HH⟩
    case round =>
      obtain ⟨q, hq, rfl, hE⟩ := hrel
      cases q with
      | nil =>
        have e := hE.out
        simp only [isErr] at e
        subst e
        clear hE
        go_wp2
        go_ret
        exact ⟨rfl, rfl⟩
      | cons s q =>
        obtain ⟨b, v', rfl, hlt, c0, c1, hE'⟩ := hE.out
        obtain ⟨T, u, rfl⟩ := isErr_some hE'
        have hE' := Lib.hid hE'
        clear hE c0
        go_wp2
        go_roundg q.length
        case measure => have := hq.out; simp at this; omega
        case rel => exact ⟨q, rfl, rfl, hE'⟩

set_option maxHeartbeats 1000000 in
theorem is_none (s : ByteArray) (e : Int) (p : List ByteArray) (v : Value) (w : World) (H : isErr w none (s :: p) v) :
    Calls Tryd.prog 67 #[v, .iface 27 (.int .i64 e), .bool true] w fun r w' => r = .returned (.bool false) ∧ w = w' := by
  have hne := fun u => run_eql_iface_types (P := Tryd.prog) 44 27 u (.int .i64 e) Tryd.underlying33 (by decide) w
  have nF := noIsF
  have uF := hasUnwrapF
  have mU := methodUnwrap
  have HH := Lib.hid H
  go_enter Tryd.func67, Tryd.ntmps67
  go_wp2
  go_loopg [0] (s :: p).length (fun k x wr => ∃ q : List ByteArray, Hid (q.length = k) ∧ Hid (q ≠ []) ∧ wr = w ∧ Hid (isErr w none q x))
  case atStart => exact ⟨s :: p, rfl, (by simp [Hid]), rfl, HH⟩
  case round =>
    obtain ⟨q, hq, hn, rfl, hE⟩ := hrel
    cases q with
    | nil => exact absurd rfl hn.out
    | cons s q =>
      obtain ⟨b, v', rfl, hlt, c0, c1, hE'⟩ := hE.out
      cases q with
      | nil =>
        simp only [isErr] at hE'
        subst hE'
        clear hE c0
        go_wp2
        go_ret
        exact ⟨rfl, rfl⟩
      | cons s2 q =>
        have hE2 := Lib.hid hE'
        obtain ⟨b2, v2, rfl, _, _, _, _⟩ := hE'
        clear hE c0
        go_wp2
        go_roundg (s2 :: q).length
        case measure => have := hq.out; simp at this; simp; omega
        case rel => exact ⟨s2 :: q, rfl, (by simp [Hid]), rfl, hE2⟩

set_option maxHeartbeats 1000000 in
theorem Is_iface (e : Int) (T : TypeId) (u : Value) (b : Bool) (w : World)
    (c : Calls Tryd.prog 67 #[.iface T u, .iface 27 (.int .i64 e), .bool true] w fun r w' => r = .returned (.bool b) ∧ w = w') :
    Calls Tryd.prog 52 #[.iface T u, .iface 27 (.int .i64 e)] w fun r w' => r = .returned (.bool b) ∧ w = w' := by
  have h66 := @run_callFunc_extern Tryd.prog 66 _ ReflectliteType.typeOf Tryd.func66 (by kernel_rfl) (by kernel_rfl) (by kernel_rfl) (by kernel_rfl)
  have h110 := @run_callFunc_extern Tryd.prog 110 _ cmpX Tryd.func110 (by kernel_rfl) (by kernel_rfl) (by kernel_rfl) (by kernel_rfl)
  have tN := typeOfEN
  have mC := methodComparable2
  have cN := comparableN2
  have c := Lib.hid c
  go_enter Tryd.func52, Tryd.ntmps52
  go_wp2_with (go_at_call 67; refine c.out.mono ?_; rintro r w1 ⟨rfl, rfl⟩)
  go_ret
  exact ⟨rfl, rfl⟩
theorem Is_nil (e : Int) (w : World) :
    Calls Tryd.prog 52 #[.nilIface, .iface 27 (.int .i64 e)] w fun r w' => r = .returned (.bool false) ∧ w = w' := by
  have hn := run_eql_iface_nil_left (P := Tryd.prog) w 27 (.int .i64 e) Tryd.underlying33
  go_enter Tryd.func52, Tryd.ntmps52
  go_wp2
  go_ret
  exact ⟨rfl, rfl⟩

/-! ### fault.Is -/
theorem fIs_zero (T : TypeId) (u : Value) (w : World) :
    Calls Tryd.prog 20 #[.iface T u, .int .i64 0] w fun r w' => r = .returned (.bool false) ∧ w = w' := by
  go_enter Tryd.func20, Tryd.ntmps20
  go_wp2
  go_ret
  exact ⟨rfl, rfl⟩
theorem fIs_nil0 (w : World) :
    Calls Tryd.prog 20 #[.nilIface, .int .i64 0] w fun r w' => r = .returned (.bool true) ∧ w = w' := by
  go_enter Tryd.func20, Tryd.ntmps20
  go_wp2
  go_ret
  exact ⟨rfl, rfl⟩
theorem fIs_nil (e : Int) (w : World) (he : e ≠ 0) :
    Calls Tryd.prog 20 #[.nilIface, .int .i64 e] w fun r w' => r = .returned (.bool false) ∧ w = w' := by
  have h0 : (e == 0) = false := beq_eq_false_iff_ne.2 he
  go_enter Tryd.func20, Tryd.ntmps20
  go_wp2_with (go_at_call 52; refine (Is_nil _ _).mono ?_; rintro r w1 ⟨rfl, rfl⟩)
  go_ret
  exact ⟨rfl, rfl⟩
theorem fIs_num (n e : Int) (p : List ByteArray) (v : Value) (w : World) (H : isErr w (some n) p v) (he : e ≠ 0) :
    Calls Tryd.prog 20 #[v, .int .i64 e] w fun r w' => r = .returned (.bool (n == e)) ∧ w = w' := by
  have h0 : (e == 0) = false := beq_eq_false_iff_ne.2 he
  obtain ⟨T, u, rfl⟩ := isErr_some H
  have c := Lib.hid (Is_iface e T u _ w (is_some n e p _ w H))
  clear he
  go_enter Tryd.func20, Tryd.ntmps20
  go_wp2_with (go_at_call 52; refine c.out.mono ?_; rintro r w1 ⟨rfl, rfl⟩)
  go_ret
  exact ⟨rfl, rfl⟩
theorem fIs_none (s : ByteArray) (e : Int) (p : List ByteArray) (v : Value) (w : World) (H : isErr w none (s :: p) v) (he : e ≠ 0) :
    Calls Tryd.prog 20 #[v, .int .i64 e] w fun r w' => r = .returned (.bool false) ∧ w = w' := by
  have h0 : (e == 0) = false := beq_eq_false_iff_ne.2 he
  obtain ⟨T, u, rfl⟩ := isErr_cons H
  have c := Lib.hid (Is_iface e T u _ w (is_none s e p _ w H))
  clear he
  go_enter Tryd.func20, Tryd.ntmps20
  go_wp2_with (go_at_call 52; refine c.out.mono ?_; rintro r w1 ⟨rfl, rfl⟩)
  go_ret
  exact ⟨rfl, rfl⟩
end Go.Proofs.YtjiepgldgcghlaaDoor
