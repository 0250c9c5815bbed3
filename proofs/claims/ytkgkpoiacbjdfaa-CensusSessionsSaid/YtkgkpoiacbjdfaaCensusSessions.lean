/- Whatever the events: CensusSessions returns true, and its argument reads as before. No condition. -/
import Derived.Test.YtkgkpoiacbjdfaaFrame
import Derived.SizedLaws
import Derived.Test.YtkgkpoiacbjdfaaCsC
import Derived.Test.YtkgkpoiacbjdfaaOpenEv
namespace Go.Proofs.Ytkgkpoiacbjdfaa
open Go.ChangeShapes Go.WideShapes Go.ChangeAt Go.RowKit

set_option maxRecDepth 100000 in
theorem censusSessions_lifted (os : Os) (started : os.Started) (H : Type) (enc : TypeId × Value → H) :
    ReturnsInHanded {} Try.checked os 4 .any (Rows.censusSessionsSpec.pre6 enc Try.prog Try.f4 Rows.censusSessionsRow.domain false) (Rows.censusSessionsSpec.post enc Try.prog Try.f4 false true false false) := by
  refine returnsInHanded_of_change_sized (C := Try.checked) Try.own started (by kernel_rfl) Try.func4
    (ChangeSpec.witness6 (enc := enc) (C := Try.checked) false ⟨#[], #[.slice none 0 0], []⟩ 8 (by kernel_rfl) (by kernel_rfl) (by kernel_rfl) (by kernel_rfl)) ?_
  intro W base args ds gs before hval0 hW hcnd hsz _
  have hval : ∀ (j : Nat) t v, Try.f4.params[j]? = some t → args[j]? = some v → Value.okWide Try.prog W .any base t v := hval0
  have hW' := hW
  obtain ⟨p, q, hA0, hV, rfl, hfz, hnd⟩ := hW
  have hA : DataW.TrodAll enc Try.prog W 0 (fun _ => true) true Try.f4.params.toList args.toList ds p := hA0
  rw [Try.params4] at hA hval
  obtain ⟨v0, d0, rfl, rfl, h0⟩ := trodAll_one hA
  obtain ⟨rfl, rfl⟩ := trodVars_none hV
  obtain ⟨A0, n0, c0, es0, rfl, hn0, hc0, hE0, hz0⟩ := open_evs_wc (hval 0 22 v0 rfl rfl) h0
  have hst0 : ∀ e ∈ es0, ∀ (i : Nat) (s : ByteArray), e.cells[i]? = some (.string s) → s.size ≤ 140737488351232 := fun e he i s hs => sized_mem hsz (j := 0) (by rw [Try.params4]; rfl) rfl (hz0 e he i s hs)
  refine (law_censusSessions es0 A0 n0 c0 W hn0 hc0 hE0 hst0).mono fun e W' ⟨he, hb⟩ => ?_
  subst he
  exact ⟨_, rfl, law_post Try.laidOut (by kernel_rfl) Try.underlying4 rfl rfl hW' rfl rfl rfl hb⟩

theorem censusSessions_holds : Rows.CensusSessionsSaid :=
  OpenClaim.holds_of_wide 4 Try.f4 rfl rfl rfl rfl rfl rfl rfl ⟨rfl, rfl, rfl, rfl, rfl⟩ rfl rfl rfl rfl rfl (by kernel_rfl) Try.func4 (by kernel_rfl)
    (of_decide_eq_true (by kernel_rfl)) (by unfold Func.isWrapper; first | (rw [if_pos (by decide +kernel)]; kernel_rfl) | (rw [if_neg (by decide +kernel)]; exact ⟨rfl, rfl⟩))
    (fun os started H enc _ => censusSessions_lifted os started H enc)
end Go.Proofs.Ytkgkpoiacbjdfaa
