/- Whatever the events, the list and the payloads: CensusNames returns true, and its arguments read as before. No condition. -/
import Derived.Test.YtkgkpoiacbjdfaaZb0
import Derived.SizedLaws
import Derived.Test.YtkgkpoiacbjdfaaZb4
import Derived.Test.YtkgkpoiacbjdfaaZb2
namespace Go.Proofs.Ytkgkpoiacbjdfaa
open Go.ChangeShapes Go.WideShapes Go.ChangeAt Go.RowKit

set_option maxRecDepth 100000 in
theorem censusNames_lifted (os : Os) (started : os.Started) (H : Type) (enc : TypeId × Value → H) :
    ReturnsInHanded {} Try.checked os 5 .any (Rows.censusNamesSpec.pre6 enc Try.prog Try.f5 Rows.censusNamesRow.domain false) (Rows.censusNamesSpec.post enc Try.prog Try.f5 false true false false) := by
  refine returnsInHanded_of_change_sized (C := Try.checked) Try.own started (by kernel_rfl) Try.func5
    (ChangeSpec.witness6 (enc := enc) (C := Try.checked) false ⟨#[], #[.slice none 0 0, .int .i64 0, .slice none 0 0], []⟩ 8 (by kernel_rfl) (by kernel_rfl) (by kernel_rfl) (by kernel_rfl)) ?_
  intro W base args ds gs before hval0 hW hcnd hsz _
  have hval : ∀ (j : Nat) t v, Try.f5.params[j]? = some t → args[j]? = some v → Value.okWide Try.prog W .any base t v := hval0
  have hW' := hW
  obtain ⟨p, q, hA0, hV, rfl, hfz, hnd⟩ := hW
  have hA : DataW.TrodAll enc Try.prog W 0 (fun _ => true) true Try.f5.params.toList args.toList ds p := hA0
  rw [Try.params5] at hA hval
  obtain ⟨v0, v1, v2, d0, d1, d2, p0, p1, p2, rfl, rfl, rfl, h0, h1, h2⟩ := trodAll_three hA
  obtain ⟨rfl, rfl⟩ := trodVars_none hV
  obtain ⟨A0, n0, c0, es0, rfl, hn0, hE0, hz0⟩ := open_evs_w (hval 0 22 v0 rfl rfl) h0
  have hst0 : ∀ e ∈ es0, ∀ (i : Nat) (s : ByteArray), e.cells[i]? = some (.string s) → s.size ≤ 140737488351232 := fun e he i s hs => sized_mem hsz (j := 0) (by rw [Try.params5]; rfl) rfl (hz0 e he i s hs)
  obtain ⟨x1, rfl, rfl, rfl, wx1⟩ := open_int Try.underlying3 (hval 1 3 v1 rfl rfl) h1
  obtain ⟨A2, n2, c2, ss2, rfl, hn2, hc2, hS2, hs2⟩ := open_strs' (hval 2 50 v2 rfl rfl) h2
  refine (law_censusNames es0 A0 n0 c0 x1 ss2 A2 n2 c2 W hn0 hE0 hst0 (Nat.le_trans hn2 hc2) hS2 hs2).mono fun e W' ⟨he, hb⟩ => ?_
  subst he
  exact ⟨_, rfl, law_post Try.laidOut (by kernel_rfl) Try.underlying4 rfl rfl hW' rfl rfl rfl hb⟩

theorem censusNames_holds : Rows.CensusNamesSaid :=
  OpenClaim.holds_of_wide 5 Try.f5 rfl rfl rfl rfl rfl rfl rfl ⟨rfl, rfl, rfl, rfl, rfl⟩ rfl rfl rfl rfl rfl (by kernel_rfl) Try.func5 (by kernel_rfl)
    (of_decide_eq_true (by kernel_rfl)) (by unfold Func.isWrapper; first | (rw [if_pos (by decide +kernel)]; kernel_rfl) | (rw [if_neg (by decide +kernel)]; exact ⟨rfl, rfl⟩))
    (fun os started H enc _ => censusNames_lifted os started H enc)
end Go.Proofs.Ytkgkpoiacbjdfaa
