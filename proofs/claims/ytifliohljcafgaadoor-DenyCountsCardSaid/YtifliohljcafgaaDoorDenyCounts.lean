/- Whatever the limit and the failures: DenyCounts returns true, and its arguments read as before. -/
import Derived.Test.YtifliohljcafgaaDoorDoorS
import Derived.Test.YtifliohljcafgaaDoorDnM
namespace Go.Proofs.YtifliohljcafgaaDoor
open Go.ChangeShapes Go.WideShapes Go.ChangeAt Go.RowKit

set_option maxRecDepth 100000 in
theorem denyCounts_contract (H : Type) (enc : TypeId × Value → H) (W : World) (base : Nat) (args : Array Value) (ds gs : List (DataW H)) (before : List MemPlace)
    (hval : ∀ (j : Nat) t v, Tryd.f3.params[j]? = some t → args[j]? = some v → Value.okWide Tryd.prog W .any base t v)
    (hW : DataW.Whole enc Tryd.prog Tryd.f3.params.toList Rows.denyCountsSpec.vars false W args.toList ds gs before) (_hL : laidMetH Tryd.prog Rows.denyCountsRow.laid W)
    (hsz : (DataW.weightsEach Tryd.prog (Tryd.f3.params.toList ++ []) (ds ++ gs)).all (· ≤ reachBytes) = true) :
    Calls Tryd.prog 3 args W fun e W' => ∃ v, e = .returned v ∧ Rows.denyCountsSpec.post enc Tryd.prog Tryd.f3 false true false false W args v W' := by
  have hW' := hW
  obtain ⟨p, q, hA0, hV, rfl, hfz, hnd⟩ := hW
  have hA : DataW.TrodAll enc Tryd.prog W 0 (fun _ => true) true Tryd.f3.params.toList args.toList ds p := hA0
  rw [Tryd.params3] at hA hval
  obtain ⟨v0, v1, d0, d1, p0, p1, rfl, rfl, rfl, h0, h1⟩ := trodAll_two hA
  obtain ⟨rfl, rfl⟩ := trodVars_none hV
  obtain ⟨x0, rfl, rfl, rfl, wx0⟩ := open_int Tryd.underlying5 (hval 0 5 v0 rfl rfl) h0
  obtain ⟨A1, n1, c1, L1, rfl, hn1, hL1⟩ := open_bools (hval 1 22 v1 rfl rfl) h1
  refine (denyCounts_int x0 L1 A1 n1 c1 W wx0 hn1 hL1).mono fun e W' ⟨he, hb⟩ => ?_
  subst he
  exact ⟨_, rfl, law_post Tryd.laidOut (by kernel_rfl) Tryd.underlying4 rfl rfl hW' rfl rfl rfl hb⟩

theorem denyCounts_reads (os : Os) {H : Type} (enc : TypeId × Value → H) : ∃ places, DataW.whole enc Tryd.prog ((laidWorldT os).forCall (fun _ _ => 0) ⟨#[], #[.int .u8 0, .slice none 0 0], []⟩).memory Tryd.f3.params.toList Rows.denyCountsSpec.vars false (#[.int .u8 0, .slice none 0 0] : Array Value).toList 8 = some ([.lit (.int .u8 0), .nil], [], places) :=
  ⟨[], by kernel_rfl⟩

set_option maxRecDepth 100000 in
theorem denyCounts_lifted (os : Os) (started : os.Started) (H : Type) (enc : TypeId × Value → H) (F : Stop.Interp) :
    ReturnsInHanded {} Tryd.checked os 3 .any ((OpenSpec.ofChange Rows.denyCountsSpec).preRow enc Tryd.prog Tryd.f3 Rows.denyCountsRow.domain false Rows.denyCountsRow.laid) (((OpenSpec.ofChange Rows.denyCountsSpec).at F).post enc Tryd.prog Tryd.f3 false true false false) := by
  obtain ⟨places, hx⟩ := denyCounts_reads os enc
  refine returnsInHanded_of_row (C := Tryd.checked) (s := OpenSpec.ofChange Rows.denyCountsSpec) Tryd.own started (by kernel_rfl) Tryd.func3
    (witness_row_at (enc := enc) (C := Tryd.checked) false (laidWorldT os) #[.int .u8 0, .slice none 0 0] (World.laidAll_os _ _ _) (by kernel_rfl) (by kernel_rfl) (by kernel_rfl)
      (OpenSpec.preRow_of_cond 8 hx (by kernel_rfl) (fun k hk => by cases hk) (by kernel_rfl) (laidT_met os _))) ?_
  intro W base args ds gs before hval hW _ _ hsz hL _ _
  exact denyCounts_contract H enc W base args ds gs before hval hW hL hsz

theorem denyCounts_said : Rows.DenyCountsSaid :=
  OpenClaim.holds_of_cond 3 Tryd.f3 rfl rfl rfl rfl rfl rfl rfl ⟨rfl, rfl, rfl, rfl, rfl⟩ rfl rfl rfl rfl rfl (by kernel_rfl) Tryd.func3 (by kernel_rfl)
    (of_decide_eq_true (by kernel_rfl)) (by unfold Func.isWrapper; first | (rw [if_pos (by decide +kernel)]; kernel_rfl) | (rw [if_neg (by decide +kernel)]; exact ⟨rfl, rfl⟩))
    (fun os started H enc _ F => by rw [OpenClaim.pre_eq_preRow]; exact denyCounts_lifted os started H enc F)

/-- What the card asks besides. -/
theorem denyCounts_plain (f : FuncId) (fn : Func) (hf : Tryd.pinned.checked.prog.funcNamed "shibboleth/shibbolethlaw24.DenyCounts" = some f) (hfn : Tryd.pinned.checked.prog.funcs[f]? = some fn) :
    Rows.denyCountsCard.stood.looks = Tryd.pinned.checked.prog.looks [] ∧ ∀ (j : Nat) t, fn.params[j]? = some t → Tryd.pinned.checked.prog.wantsStandIn t = false := by
  obtain rfl : f = 3 := Option.some.inj ((show Tryd.prog.funcNamed "shibboleth/shibbolethlaw24.DenyCounts" = some 3 by kernel_rfl).symm.trans hf) |>.symm
  obtain rfl : fn = Tryd.f3 := (Option.some.inj (Tryd.func3.symm.trans hfn)).symm
  refine ⟨by kernel_rfl, fun j t ht => ?_⟩
  rw [Tryd.params3] at ht
  have hm := Array.mem_of_getElem? ht
  have hall : (Tryd.f3.params.toList.all fun t => Tryd.prog.wantsStandIn t = false) = true := by kernel_rfl
  rw [Tryd.params3] at hall
  have := List.all_eq_true.1 hall t (by simpa using hm)
  exact of_decide_eq_true this

theorem denyCounts_holds : Rows.DenyCountsCardSaid :=
  Claim7.holds_tied_plain_at .later [] _ _ _ _ denyCounts_said (fun _ h => by cases h) (by kernel_rfl) (fun _ h => by cases h) denyCounts_row_tie rfl ⟨rfl, rfl⟩ (by kernel_rfl) rfl denyCounts_plain (by kernel_rfl)
end Go.Proofs.YtifliohljcafgaaDoor
