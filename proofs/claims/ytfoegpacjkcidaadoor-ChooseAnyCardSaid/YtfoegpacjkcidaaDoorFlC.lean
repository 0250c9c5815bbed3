/- errors.As at the two targets, over a chain. -/
import Derived.Test.YtfoegpacjkcidaaDoorFlB
namespace Go.Proofs.YtfoegpacjkcidaaDoor
open Go.RowKit Go.Extern.Stop Go.Stop Go.Extern

set_option maxHeartbeats 1000000 in
theorem AsN_hit (n : Int) (p : List ByteArray) (v : Value) (t : Addr) (old : Value) (w : World) (H : isErr w (some n) p v) (G : ETy w) (ht : w.cell? t = some old) (hf : w.frozen? t = false) :
    Calls Tryd.prog 53 #[v, .iface 81 (.pointer (some t))] w fun r w' => r = .returned (.bool true) ∧ SetIn w t (.int .i64 n) w' := by
  obtain ⟨T, u, rfl⟩ := isErr_iface H
  have H := Lib.hid H
  have htl := block_lt_of_cell ht
  obtain ⟨_, hg0, hgl⟩ := G
  have h62 := @run_callFunc_extern Tryd.prog 60 _ (fun args => ReflectliteValue.unpack (args.getD 0 (.tuple #[]))) Tryd.func60 (by kernel_rfl) (by kernel_rfl) (by kernel_rfl) (by kernel_rfl)
  have h63 := @run_callFunc_extern Tryd.prog 61 _ (ReflectliteValue.methodAny (ReflectliteValue.valueError "reflectlite.Value.Type" 0) (fun t _ _ _ => ReflectliteType.toType t)) Tryd.func61 (by kernel_rfl) (by kernel_rfl) (by kernel_rfl) (by kernel_rfl)
  have h64 := @run_callFunc_extern Tryd.prog 62 _ (ReflectliteValue.method (ReflectliteValue.valueError "reflectlite.Value.IsNil" 0) ReflectliteValue.isNil) Tryd.func62 (by kernel_rfl) (by kernel_rfl) (by kernel_rfl) (by kernel_rfl)
  have h102 := @run_callFunc_extern Tryd.prog 100 _ (ReflectliteType.abiMethod fun t => do pure (.int .u8 (← Rtype.kind t))) Tryd.func100 (by kernel_rfl) (by kernel_rfl) (by kernel_rfl) (by kernel_rfl)
  have h111 := @run_callFunc_extern Tryd.prog 113 _ (ReflectliteType.method ReflectliteType.elem) Tryd.func113 (by kernel_rfl) (by kernel_rfl) (by kernel_rfl) (by kernel_rfl)
  have h112 := @run_callFunc_extern Tryd.prog 114 _ (ReflectliteType.relation "Implements" ReflectliteType.implements_) Tryd.func114 (by kernel_rfl) (by kernel_rfl) (by kernel_rfl) (by kernel_rfl)
  have mK := methodKind
  have mE := methodElem
  have mI := methodImplements
  have vT := valueOfTN t
  have tT := typeTN
  have kT := kindTN
  have kE := kindEN
  have eT := elemTN
  have iE := implEN
  have n8 := isNilTN ⟨w.heap.size, 0, none⟩ t ((w.alloc (.cells #[.pointer (some t)] 81)).alloc (.cells #[.pointer (some ⟨6, 81, none⟩), .pointer (some ⟨w.heap.size, 0, none⟩), .int .u64 150] 95)) (by simp)
  have hg2 : ((w.alloc (.cells #[.pointer (some t)] 81)).alloc (.cells #[.pointer (some ⟨6, 81, none⟩), .pointer (some ⟨w.heap.size, 0, none⟩), .int .u64 150] 95)).cell? ⟨2, 0, none⟩ = some (.iface 107 (.agg #[.pointer (some ⟨6, 30, none⟩)])) := by
    rw [World.cell?_alloc_lt _ _ ⟨2, 0, none⟩ (by simp <;> omega), World.cell?_alloc_lt _ _ ⟨2, 0, none⟩ hgl]; exact hg0
  have hB := Lib.hid (((Below.refl w.heap.size w).alloc (Nat.le_refl _) (.cells #[.pointer (some t)] 81)).alloc (by simp) (.cells #[.pointer (some ⟨6, 81, none⟩), .pointer (some ⟨w.heap.size, 0, none⟩), .int .u64 150] 95))
  have cA := Lib.hid (asN_hit n p _ (.iface 81 (.pointer (some t))) ⟨w.heap.size, 0, none⟩ t old _ (H.out.keep hB.out) (show ((w.alloc (.cells #[.pointer (some t)] 81)).alloc (.cells #[.pointer (some ⟨6, 81, none⟩), .pointer (some ⟨w.heap.size, 0, none⟩), .int .u64 150] 95)).cell? ⟨w.heap.size, 0, none⟩ = _ by simp)
    (by rw [World.cell?_alloc_lt _ _ t (by simp <;> omega), World.cell?_alloc_lt _ _ t htl]; exact ht)
    (by rw [World.frozen?_alloc_old _ _ t (by simp <;> omega), World.frozen?_alloc_old _ _ t (Nat.ne_of_lt htl)]; exact hf))
  clear ht hf hg0
  go_enter Tryd.func53, Tryd.ntmps53
  go_wp2_with (go_at_call 63; refine cA.out.mono ?_; rintro r w1 ⟨rfl, hq⟩)
  go_ret
  exact ⟨rfl, SetIn.from_ hB.out hq⟩

set_option maxHeartbeats 1000000 in
theorem AsN_miss (s : ByteArray) (p : List ByteArray) (v : Value) (t : Addr) (old : Value) (w : World) (H : isErr w none (s :: p) v) (G : ETy w) (ht : w.cell? t = some old) (hf : w.frozen? t = false) :
    Calls Tryd.prog 53 #[v, .iface 81 (.pointer (some t))] w fun r w' => r = .returned (.bool false) ∧ Below w.heap.size w w' := by
  obtain ⟨T, u, rfl⟩ : ∃ T u, v = .iface T u := by obtain ⟨b, v', e, _⟩ := H; exact ⟨_, _, e⟩
  have H := Lib.hid H
  have htl := block_lt_of_cell ht
  obtain ⟨_, hg0, hgl⟩ := G
  have h62 := @run_callFunc_extern Tryd.prog 60 _ (fun args => ReflectliteValue.unpack (args.getD 0 (.tuple #[]))) Tryd.func60 (by kernel_rfl) (by kernel_rfl) (by kernel_rfl) (by kernel_rfl)
  have h63 := @run_callFunc_extern Tryd.prog 61 _ (ReflectliteValue.methodAny (ReflectliteValue.valueError "reflectlite.Value.Type" 0) (fun t _ _ _ => ReflectliteType.toType t)) Tryd.func61 (by kernel_rfl) (by kernel_rfl) (by kernel_rfl) (by kernel_rfl)
  have h64 := @run_callFunc_extern Tryd.prog 62 _ (ReflectliteValue.method (ReflectliteValue.valueError "reflectlite.Value.IsNil" 0) ReflectliteValue.isNil) Tryd.func62 (by kernel_rfl) (by kernel_rfl) (by kernel_rfl) (by kernel_rfl)
  have h102 := @run_callFunc_extern Tryd.prog 100 _ (ReflectliteType.abiMethod fun t => do pure (.int .u8 (← Rtype.kind t))) Tryd.func100 (by kernel_rfl) (by kernel_rfl) (by kernel_rfl) (by kernel_rfl)
  have h111 := @run_callFunc_extern Tryd.prog 113 _ (ReflectliteType.method ReflectliteType.elem) Tryd.func113 (by kernel_rfl) (by kernel_rfl) (by kernel_rfl) (by kernel_rfl)
  have h112 := @run_callFunc_extern Tryd.prog 114 _ (ReflectliteType.relation "Implements" ReflectliteType.implements_) Tryd.func114 (by kernel_rfl) (by kernel_rfl) (by kernel_rfl) (by kernel_rfl)
  have mK := methodKind
  have mE := methodElem
  have mI := methodImplements
  have vT := valueOfTN t
  have tT := typeTN
  have kT := kindTN
  have kE := kindEN
  have eT := elemTN
  have iE := implEN
  have n8 := isNilTN ⟨w.heap.size, 0, none⟩ t ((w.alloc (.cells #[.pointer (some t)] 81)).alloc (.cells #[.pointer (some ⟨6, 81, none⟩), .pointer (some ⟨w.heap.size, 0, none⟩), .int .u64 150] 95)) (by simp)
  have hg2 : ((w.alloc (.cells #[.pointer (some t)] 81)).alloc (.cells #[.pointer (some ⟨6, 81, none⟩), .pointer (some ⟨w.heap.size, 0, none⟩), .int .u64 150] 95)).cell? ⟨2, 0, none⟩ = some (.iface 107 (.agg #[.pointer (some ⟨6, 30, none⟩)])) := by
    rw [World.cell?_alloc_lt _ _ ⟨2, 0, none⟩ (by simp <;> omega), World.cell?_alloc_lt _ _ ⟨2, 0, none⟩ hgl]; exact hg0
  have hB := Lib.hid (((Below.refl w.heap.size w).alloc (Nat.le_refl _) (.cells #[.pointer (some t)] 81)).alloc (by simp) (.cells #[.pointer (some ⟨6, 81, none⟩), .pointer (some ⟨w.heap.size, 0, none⟩), .int .u64 150] 95))
  have cA := Lib.hid (asN_miss s p _ (.iface 81 (.pointer (some t))) ⟨w.heap.size, 0, none⟩ t old _ (H.out.keep hB.out) (show ((w.alloc (.cells #[.pointer (some t)] 81)).alloc (.cells #[.pointer (some ⟨6, 81, none⟩), .pointer (some ⟨w.heap.size, 0, none⟩), .int .u64 150] 95)).cell? ⟨w.heap.size, 0, none⟩ = _ by simp)
    (by rw [World.cell?_alloc_lt _ _ t (by simp <;> omega), World.cell?_alloc_lt _ _ t htl]; exact ht)
    (by rw [World.frozen?_alloc_old _ _ t (by simp <;> omega), World.frozen?_alloc_old _ _ t (Nat.ne_of_lt htl)]; exact hf))
  clear ht hf hg0
  go_enter Tryd.func53, Tryd.ntmps53
  go_wp2_with (go_at_call 63; refine cA.out.mono ?_; rintro r w1 ⟨rfl, hq⟩)
  go_ret
  exact ⟨rfl, hB.out.trans (hq.mono hB.out.size)⟩

set_option maxHeartbeats 1000000 in
theorem AsF_hit (n : Addr) (t : Addr) (old : Value) (w : World)  (G : ETy w) (ht : w.cell? t = some old) (hf : w.frozen? t = false) :
    Calls Tryd.prog 53 #[.iface 76 (.pointer (some n)), .iface 80 (.pointer (some t))] w fun r w' => r = .returned (.bool true) ∧ SetIn w t (.pointer (some n)) w' := by
  have htl := block_lt_of_cell ht
  obtain ⟨_, hg0, hgl⟩ := G
  have h62 := @run_callFunc_extern Tryd.prog 60 _ (fun args => ReflectliteValue.unpack (args.getD 0 (.tuple #[]))) Tryd.func60 (by kernel_rfl) (by kernel_rfl) (by kernel_rfl) (by kernel_rfl)
  have h63 := @run_callFunc_extern Tryd.prog 61 _ (ReflectliteValue.methodAny (ReflectliteValue.valueError "reflectlite.Value.Type" 0) (fun t _ _ _ => ReflectliteType.toType t)) Tryd.func61 (by kernel_rfl) (by kernel_rfl) (by kernel_rfl) (by kernel_rfl)
  have h64 := @run_callFunc_extern Tryd.prog 62 _ (ReflectliteValue.method (ReflectliteValue.valueError "reflectlite.Value.IsNil" 0) ReflectliteValue.isNil) Tryd.func62 (by kernel_rfl) (by kernel_rfl) (by kernel_rfl) (by kernel_rfl)
  have h102 := @run_callFunc_extern Tryd.prog 100 _ (ReflectliteType.abiMethod fun t => do pure (.int .u8 (← Rtype.kind t))) Tryd.func100 (by kernel_rfl) (by kernel_rfl) (by kernel_rfl) (by kernel_rfl)
  have h111 := @run_callFunc_extern Tryd.prog 113 _ (ReflectliteType.method ReflectliteType.elem) Tryd.func113 (by kernel_rfl) (by kernel_rfl) (by kernel_rfl) (by kernel_rfl)
  have h112 := @run_callFunc_extern Tryd.prog 114 _ (ReflectliteType.relation "Implements" ReflectliteType.implements_) Tryd.func114 (by kernel_rfl) (by kernel_rfl) (by kernel_rfl) (by kernel_rfl)
  have mK := methodKind
  have mE := methodElem
  have mI := methodImplements
  have vT := valueOfTF t
  have tT := typeTF
  have kT := kindTF
  have kE := kindEF
  have eT := elemTF
  have iE := implEF
  have n8 := isNilTF ⟨w.heap.size, 0, none⟩ t ((w.alloc (.cells #[.pointer (some t)] 80)).alloc (.cells #[.pointer (some ⟨6, 80, none⟩), .pointer (some ⟨w.heap.size, 0, none⟩), .int .u64 150] 95)) (by simp)
  have hg2 : ((w.alloc (.cells #[.pointer (some t)] 80)).alloc (.cells #[.pointer (some ⟨6, 80, none⟩), .pointer (some ⟨w.heap.size, 0, none⟩), .int .u64 150] 95)).cell? ⟨2, 0, none⟩ = some (.iface 107 (.agg #[.pointer (some ⟨6, 30, none⟩)])) := by
    rw [World.cell?_alloc_lt _ _ ⟨2, 0, none⟩ (by simp <;> omega), World.cell?_alloc_lt _ _ ⟨2, 0, none⟩ hgl]; exact hg0
  have hB := Lib.hid (((Below.refl w.heap.size w).alloc (Nat.le_refl _) (.cells #[.pointer (some t)] 80)).alloc (by simp) (.cells #[.pointer (some ⟨6, 80, none⟩), .pointer (some ⟨w.heap.size, 0, none⟩), .int .u64 150] 95))
  have cA := Lib.hid (asF_hit n (.iface 80 (.pointer (some t))) ⟨w.heap.size, 0, none⟩ t old _ (show ((w.alloc (.cells #[.pointer (some t)] 80)).alloc (.cells #[.pointer (some ⟨6, 80, none⟩), .pointer (some ⟨w.heap.size, 0, none⟩), .int .u64 150] 95)).cell? ⟨w.heap.size, 0, none⟩ = _ by simp)
    (by rw [World.cell?_alloc_lt _ _ t (by simp <;> omega), World.cell?_alloc_lt _ _ t htl]; exact ht)
    (by rw [World.frozen?_alloc_old _ _ t (by simp <;> omega), World.frozen?_alloc_old _ _ t (Nat.ne_of_lt htl)]; exact hf))
  clear ht hf hg0
  go_enter Tryd.func53, Tryd.ntmps53
  go_wp2_with (go_at_call 63; refine cA.out.mono ?_; rintro r w1 ⟨rfl, hq⟩)
  go_ret
  exact ⟨rfl, SetIn.from_ hB.out hq⟩

set_option maxHeartbeats 1000000 in
theorem AsF_miss (m : Int) (t : Addr) (old : Value) (w : World)  (G : ETy w) (ht : w.cell? t = some old) (hf : w.frozen? t = false) :
    Calls Tryd.prog 53 #[.iface 43 (.int .i64 m), .iface 80 (.pointer (some t))] w fun r w' => r = .returned (.bool false) ∧ Below w.heap.size w w' := by
  have htl := block_lt_of_cell ht
  obtain ⟨_, hg0, hgl⟩ := G
  have h62 := @run_callFunc_extern Tryd.prog 60 _ (fun args => ReflectliteValue.unpack (args.getD 0 (.tuple #[]))) Tryd.func60 (by kernel_rfl) (by kernel_rfl) (by kernel_rfl) (by kernel_rfl)
  have h63 := @run_callFunc_extern Tryd.prog 61 _ (ReflectliteValue.methodAny (ReflectliteValue.valueError "reflectlite.Value.Type" 0) (fun t _ _ _ => ReflectliteType.toType t)) Tryd.func61 (by kernel_rfl) (by kernel_rfl) (by kernel_rfl) (by kernel_rfl)
  have h64 := @run_callFunc_extern Tryd.prog 62 _ (ReflectliteValue.method (ReflectliteValue.valueError "reflectlite.Value.IsNil" 0) ReflectliteValue.isNil) Tryd.func62 (by kernel_rfl) (by kernel_rfl) (by kernel_rfl) (by kernel_rfl)
  have h102 := @run_callFunc_extern Tryd.prog 100 _ (ReflectliteType.abiMethod fun t => do pure (.int .u8 (← Rtype.kind t))) Tryd.func100 (by kernel_rfl) (by kernel_rfl) (by kernel_rfl) (by kernel_rfl)
  have h111 := @run_callFunc_extern Tryd.prog 113 _ (ReflectliteType.method ReflectliteType.elem) Tryd.func113 (by kernel_rfl) (by kernel_rfl) (by kernel_rfl) (by kernel_rfl)
  have h112 := @run_callFunc_extern Tryd.prog 114 _ (ReflectliteType.relation "Implements" ReflectliteType.implements_) Tryd.func114 (by kernel_rfl) (by kernel_rfl) (by kernel_rfl) (by kernel_rfl)
  have mK := methodKind
  have mE := methodElem
  have mI := methodImplements
  have vT := valueOfTF t
  have tT := typeTF
  have kT := kindTF
  have kE := kindEF
  have eT := elemTF
  have iE := implEF
  have n8 := isNilTF ⟨w.heap.size, 0, none⟩ t ((w.alloc (.cells #[.pointer (some t)] 80)).alloc (.cells #[.pointer (some ⟨6, 80, none⟩), .pointer (some ⟨w.heap.size, 0, none⟩), .int .u64 150] 95)) (by simp)
  have hg2 : ((w.alloc (.cells #[.pointer (some t)] 80)).alloc (.cells #[.pointer (some ⟨6, 80, none⟩), .pointer (some ⟨w.heap.size, 0, none⟩), .int .u64 150] 95)).cell? ⟨2, 0, none⟩ = some (.iface 107 (.agg #[.pointer (some ⟨6, 30, none⟩)])) := by
    rw [World.cell?_alloc_lt _ _ ⟨2, 0, none⟩ (by simp <;> omega), World.cell?_alloc_lt _ _ ⟨2, 0, none⟩ hgl]; exact hg0
  have hB := Lib.hid (((Below.refl w.heap.size w).alloc (Nat.le_refl _) (.cells #[.pointer (some t)] 80)).alloc (by simp) (.cells #[.pointer (some ⟨6, 80, none⟩), .pointer (some ⟨w.heap.size, 0, none⟩), .int .u64 150] 95))
  have cA := Lib.hid (asF_miss m (.iface 80 (.pointer (some t))) ⟨w.heap.size, 0, none⟩ t old _ (show ((w.alloc (.cells #[.pointer (some t)] 80)).alloc (.cells #[.pointer (some ⟨6, 80, none⟩), .pointer (some ⟨w.heap.size, 0, none⟩), .int .u64 150] 95)).cell? ⟨w.heap.size, 0, none⟩ = _ by simp)
    (by rw [World.cell?_alloc_lt _ _ t (by simp <;> omega), World.cell?_alloc_lt _ _ t htl]; exact ht)
    (by rw [World.frozen?_alloc_old _ _ t (by simp <;> omega), World.frozen?_alloc_old _ _ t (Nat.ne_of_lt htl)]; exact hf))
  clear ht hf hg0
  go_enter Tryd.func53, Tryd.ntmps53
  go_wp2_with (go_at_call 63; refine cA.out.mono ?_; rintro r w1 ⟨rfl, hq⟩)
  go_ret
  exact ⟨rfl, hB.out.trans (hq.mono hB.out.size)⟩
end Go.Proofs.YtfoegpacjkcidaaDoor
