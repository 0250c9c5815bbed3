/- Whatever the two lists: NamesWithout returns true, and its arguments read as before. No condition. -/
import Derived.Test.YtfoegpacjkcidaaFrame
import Derived.Test.YtfoegpacjkcidaaNmE
namespace Go.Proofs.Ytfoegpacjkcidaa
open Go.ChangeShapes Go.WideShapes Go.ChangeAt Go.RowKit

set_option maxRecDepth 100000 in
theorem namesWithout_lifted (os : Os) (started : os.Started) (H : Type) (enc : TypeId × Value → H) :
    ReturnsInHanded {} Try.checked os 5 .any (Rows.namesWithoutSpec.pre6 enc Try.prog Try.f5 Rows.namesWithoutRow.domain false) (Rows.namesWithoutSpec.post enc Try.prog Try.f5 false true false false) := by
  refine returnsInHanded_of_change (C := Try.checked) Try.own started (by kernel_rfl) Try.func5
    (ChangeSpec.witness6 (enc := enc) (C := Try.checked) false ⟨#[], #[.slice none 0 0, .slice none 0 0], []⟩ 8 (by kernel_rfl) (by kernel_rfl) (by kernel_rfl) (by kernel_rfl)) ?_
  intro W base args ds gs before hval0 hW hcnd _
  have hval : ∀ (j : Nat) t v, Try.f5.params[j]? = some t → args[j]? = some v → Value.okWide Try.prog W .any base t v := hval0
  have hW' := hW
  obtain ⟨p, q, hA0, hV, rfl, hfz, hnd⟩ := hW
  have hA : DataW.TrodAll enc Try.prog W 0 (fun _ => true) true Try.f5.params.toList args.toList ds p := hA0
  rw [Try.params5] at hA hval
  obtain ⟨v0, v1, d0, d1, p0, p1, rfl, rfl, rfl, h0, h1⟩ := trodAll_two hA
  obtain ⟨rfl, rfl⟩ := trodVars_none hV
  obtain ⟨A0, n0, c0, ss0, rfl, hn0, hc0, hS0, hs0⟩ := open_strs' (hval 0 38 v0 rfl rfl) h0
  obtain ⟨A1, n1, c1, ss1, rfl, hn1, hc1, hS1, hs1⟩ := open_strs' (hval 1 38 v1 rfl rfl) h1
  refine (law_namesWithout ss0 ss1 A0 A1 n0 c0 n1 c1 W (by omega) (by omega) hS0 hS1 hs0 hs1).mono fun e W' ⟨he, hb⟩ => ?_
  subst he
  exact ⟨_, rfl, law_post Try.laidOut (by kernel_rfl) Try.underlying4 rfl rfl hW' rfl rfl rfl hb⟩

theorem namesWithout_holds : Rows.NamesWithoutSaid :=
  OpenClaim.holds_of_wide 5 Try.f5 rfl rfl rfl rfl rfl rfl rfl ⟨rfl, rfl, rfl, rfl, rfl⟩ rfl rfl rfl rfl rfl (by kernel_rfl) Try.func5 (by kernel_rfl)
    (of_decide_eq_true (by kernel_rfl)) (by unfold Func.isWrapper; first | (rw [if_pos (by decide +kernel)]; kernel_rfl) | (rw [if_neg (by decide +kernel)]; exact ⟨rfl, rfl⟩))
    (fun os started H enc _ => namesWithout_lifted os started H enc)
end Go.Proofs.Ytfoegpacjkcidaa
