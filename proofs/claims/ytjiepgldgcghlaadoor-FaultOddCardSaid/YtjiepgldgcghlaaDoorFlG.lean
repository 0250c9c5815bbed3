/- What an error tells. -/
import Derived.Test.YtjiepgldgcghlaaDoorFlG0
namespace Go.Proofs.YtjiepgldgcghlaaDoor
open Go.RowKit

def sepS : ByteArray := ⟨#[58, 32]⟩
def preS (p : List ByteArray) : ByteArray := p.foldl (fun a s => a ++ s ++ sepS) ⟨#[]⟩
theorem preS_snoc (p : List ByteArray) (s : ByteArray) : preS (p ++ [s]) = preS p ++ s ++ sepS := by unfold preS; rw [List.foldl_append]; rfl
theorem preS_le (p q : List ByteArray) : (preS p).size ≤ (preS (p ++ q)).size := by
  induction q generalizing p with
  | nil => rw [List.append_nil]; exact Nat.le_refl _
  | cons s q ih =>
    have h := ih (p ++ [s])
    rw [List.append_assoc, preS_snoc] at h
    refine Nat.le_trans ?_ h
    simp only [ByteArray.size_append]; omega
theorem preS_room {p pre q : List ByteArray} {s : ByteArray} (h : p = pre ++ s :: q) : (preS pre).size + s.size + 2 ≤ (preS p).size := by
  have h1 := preS_le (pre ++ [s]) q
  rw [preS_snoc, List.append_assoc] at h1
  rw [h]
  have h2 : (preS pre ++ s ++ sepS).size = (preS pre).size + s.size + 2 := by simp only [ByteArray.size_append]; rfl
  rw [h2] at h1
  exact h1
/-- What a fault tells. -/
def tellS (p : List ByteArray) (o : Option Int) : ByteArray := match o with | some n => preS p ++ nameOf n | none => preS p.dropLast ++ p.getLastD ⟨#[]⟩

theorem taFF (v : Value) (w : World) : (Instr.typeAssert (.iface 44 v) 33 44 true).run Tryd.prog w = .ok (.tuple #[v, .bool true]) w := by kernel_rfl
theorem taNF (v : Value) (w : World) : (Instr.typeAssert (.iface 27 v) 33 44 true).run Tryd.prog w = .ok (.tuple #[.pointer none, .bool false]) w := by kernel_rfl
theorem taNN (v : Value) (w : World) : (Instr.typeAssert (.iface 27 v) 33 27 true).run Tryd.prog w = .ok (.tuple #[v, .bool true]) w := by kernel_rfl
theorem ta0F (w : World) : (Instr.typeAssert .nilIface 33 44 true).run Tryd.prog w = .ok (.tuple #[.pointer none, .bool false]) w := by kernel_rfl
theorem ta0N (w : World) : (Instr.typeAssert .nilIface 33 27 true).run Tryd.prog w = .ok (.tuple #[.int .i64 0, .bool false]) w := by kernel_rfl
theorem tell_nil (w : World) :
    Calls Tryd.prog 53 #[.pointer none] w fun r w' => r = .returned (.string ⟨#[]⟩) ∧ w = w' := by
  go_enter Tryd.func53, Tryd.ntmps53
  go_wp2
  refine wp_loop_rounds 1 ?_
  rw [rounds_succ]
  go_wp2
  go_ret
  exact ⟨rfl, rfl⟩
set_option maxRecDepth 100000 in
set_option maxHeartbeats 2000000 in
theorem tell_any (o : Option Int) (s : ByteArray) (p : List ByteArray) (b : Nat) (w : World) (hp : (preS (s :: p)).size ≤ 1000000) (H : isErr w o (s :: p) (.iface 44 (.pointer (some ⟨b, 0, none⟩)))) :
    Calls Tryd.prog 53 #[.pointer (some ⟨b, 0, none⟩)] w fun r w' => r = .returned (.string (tellS (s :: p) o)) ∧ Below w.heap.size w w' := by
  have H := Lib.hid H
  have hp := Lib.hid hp
  have tFF := taFF
  have tNF := taNF
  have tNN := taNN
  have t0F := ta0F
  have t0N := ta0N
  go_enter Tryd.func53, Tryd.ntmps53
  go_wp2
  go_loopg [0, 3] (s :: p).length (fun k x out wr => ∃ q pre : List ByteArray, ∃ u : ByteArray, ∃ c : Nat, wr = w ∧ x = .pointer (some ⟨c, 0, none⟩) ∧ out = .string u ∧ Hid (u = preS pre) ∧ Hid (s :: p = pre ++ q) ∧ Hid (q.length = k) ∧ Hid (q ≠ []) ∧ Hid (isErr w o q (.iface 44 (.pointer (some ⟨c, 0, none⟩)))))
  case atStart => exact ⟨s :: p, [], _, _, rfl, rfl, rfl, rfl, rfl, rfl, (by simp [Hid]), H⟩
  case round =>
    obtain ⟨q, pre, u, c, rfl, rfl, rfl, hu, hpq, hq, hne, hE⟩ := hrel
    cases q with
    | nil => exact absurd rfl hne.out
    | cons s2 q =>
      obtain ⟨b2, v', e, hlt, c0, c1, hE'⟩ := hE.out
      simp only [Value.iface.injEq, Value.pointer.injEq, Option.some.injEq, Addr.mk.injEq, true_and, and_true] at e
      subst e
      have hroom := preS_room hpq.out
      rw [← hu.out] at hroom
      have hroom : u.size + s2.size + 2 ≤ 1000000 := Nat.le_trans hroom hp.out
      cases q with
      | nil =>
        cases o with
        | none =>
          simp only [isErr] at hE'
          subst hE'
          have hfin := Lib.hid (show tellS (s :: p) none = u ++ s2 by rw [hpq.out, hu.out]; unfold tellS; simp)
          clear hE
          go_wp2
          go_ret
          exact ⟨by rw [hfin.out]; rfl, Below.refl _ _⟩
        | some n =>
          simp only [isErr] at hE'
          subst hE'
          have hfin := Lib.hid (show tellS (s :: p) (some n) = u ++ s2 ++ sepS ++ nameOf n by rw [hpq.out, hu.out]; unfold tellS; rw [preS_snoc])
          have hnm := nameOf_size n
          have cE := errnoError_any n
          generalize nameOf n = nm at hfin hnm cE
          have cE := Lib.hid cE
          clear hE
          go_wp2_with (go_at_call 68; refine (cE.out _).mono ?_; rintro r w1 ⟨rfl, hb⟩)
          go_ret
          exact ⟨by rw [hfin.out]; rfl, hb⟩
      | cons s3 q =>
        have hE2 := hE'
        obtain ⟨b3, v3, rfl, _, _, _, _⟩ := hE'
        have hE2 := Lib.hid hE2
        clear hE
        go_wp2
        go_roundg (s3 :: q).length
        case measure => have := hq.out; simp at this; simp; omega
        case rel => exact ⟨s3 :: q, pre ++ [s2], u ++ s2 ++ sepS, b3, rfl, rfl, rfl, (by unfold Hid; rw [preS_snoc, hu.out]), (by unfold Hid; rw [hpq.out]; simp), rfl, (by simp [Hid]), hE2⟩
theorem error_any (o : Option Int) (s : ByteArray) (p : List ByteArray) (b : Nat) (w : World) (hp : (preS (s :: p)).size ≤ 1000000) (H : isErr w o (s :: p) (.iface 44 (.pointer (some ⟨b, 0, none⟩)))) :
    Calls Tryd.prog 28 #[.pointer (some ⟨b, 0, none⟩)] w fun r w' => r = .returned (.string (tellS (s :: p) o)) ∧ Below w.heap.size w w' := by
  have c := Lib.hid (tell_any o s p b w hp H)
  clear H
  go_enter Tryd.func28, Tryd.ntmps28
  go_wp2_with (go_at_call 53; refine c.out.mono ?_; rintro r w1 ⟨rfl, hb⟩)
  go_ret
  exact ⟨rfl, hb⟩
theorem error_nil (w : World) :
    Calls Tryd.prog 28 #[.pointer none] w fun r w' => r = .returned (.string ⟨#[]⟩) ∧ w = w' := by
  go_enter Tryd.func28, Tryd.ntmps28
  go_wp2_with (go_at_call 53; refine (tell_nil _).mono ?_; rintro r w1 ⟨rfl, rfl⟩)
  go_ret
  exact ⟨rfl, rfl⟩
set_option maxRecDepth 100000 in
theorem text_any (o : Option Int) (s : ByteArray) (p : List ByteArray) (v : Value) (w : World) (hp : (preS (s :: p)).size ≤ 1000000) (H : isErr w o (s :: p) v) :
    Calls Tryd.prog 24 #[v] w fun r w' => r = .returned (.string (tellS (s :: p) o)) ∧ Below w.heap.size w w' := by
  have H' := H
  obtain ⟨b, v', rfl, _, _, _, _⟩ := H
  have c := Lib.hid (error_any o s p b w hp H')
  clear H'
  have tFF := taFF
  have tNF := taNF
  have tNN := taNN
  have t0F := ta0F
  have t0N := ta0N
  go_enter Tryd.func24, Tryd.ntmps24
  go_wp2_with (go_at_call 28; refine c.out.mono ?_; rintro r w1 ⟨rfl, hb⟩)
  go_ret
  exact ⟨rfl, hb⟩
end Go.Proofs.YtjiepgldgcghlaaDoor
