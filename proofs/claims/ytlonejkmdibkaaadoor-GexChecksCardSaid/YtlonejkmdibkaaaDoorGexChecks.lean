/- Whatever the wish and the group: GexChecks returns true, and its arguments read as before; the two tables of unicode/utf8 and errors.errorType are as their own initialisers lay them. -/
import Derived.Test.YtlonejkmdibkaaaDoorDoorM
import Derived.Test.YtlonejkmdibkaaaDoorGxW
namespace Go.Proofs.YtlonejkmdibkaaaDoor
open Go.ChangeShapes Go.WideShapes Go.ChangeAt Go.RowKit

set_option maxRecDepth 100000 in
theorem gexChecks_contract (H : Type) (enc : TypeId × Value → H) (W : World) (base : Nat) (args : Array Value) (ds gs : List (DataW H)) (before : List MemPlace)
    (hval : ∀ (j : Nat) t v, Tryd.f8.params[j]? = some t → args[j]? = some v → Value.okWide Tryd.prog W .any base t v)
    (hW : DataW.Whole enc Tryd.prog Tryd.f8.params.toList Rows.gexChecksSpec.vars false W args.toList ds gs before) (hL : laidMetH Tryd.prog Rows.gexChecksRow.laid W)
    (hsz : (DataW.weightsEach Tryd.prog (Tryd.f8.params.toList ++ []) (ds ++ gs)).all (· ≤ reachBytes) = true) :
    Calls Tryd.prog 8 args W fun e W' => ∃ v, e = .returned v ∧ Rows.gexChecksSpec.post enc Tryd.prog Tryd.f8 false true false false W args v W' := by
  have G := ety_of_laid hL
  have hW' := hW
  obtain ⟨p, q, hA0, hV, rfl, hfz, hnd⟩ := hW
  have hA : DataW.TrodAll enc Tryd.prog W 0 (fun _ => true) true Tryd.f8.params.toList args.toList ds p := hA0
  rw [Tryd.params8] at hA hval
  obtain ⟨v0, v1, v2, d0, d1, d2, p0, p1, p2, rfl, rfl, rfl, h0, h1, h2⟩ := trodAll_three hA
  obtain ⟨rfl, rfl⟩ := trodVars_none hV
  obtain ⟨x0, rfl, rfl, rfl, wx0⟩ := open_int Tryd.underlying37 (hval 0 37 v0 rfl rfl) h0
  obtain ⟨x1, rfl, rfl, rfl, wx1⟩ := open_int Tryd.underlying37 (hval 1 37 v1 rfl rfl) h1
  obtain ⟨p2, g2, rfl, hp2, hg2⟩ := open_grp (hval 2 23 v2 rfl rfl) h2
  refine (law_gexChecks x0 x1 p2 g2 W (bounds_u32 wx0).1 (bounds_u32 wx0).2 (bounds_u32 wx1).1 (bounds_u32 wx1).2 hp2 hg2 G).mono fun e W' ⟨he, hb⟩ => ?_
  subst he
  exact ⟨_, rfl, law_post Tryd.laidOut (by kernel_rfl) Tryd.underlying4 rfl rfl hW' rfl rfl rfl hb⟩

theorem gexChecks_reads (os : Os) {H : Type} (enc : TypeId × Value → H) : ∃ places, DataW.whole enc Tryd.prog ((laidWorld os).forCall (fun _ _ => 0) ⟨#[], #[.int .u32 0, .int .u32 0, .agg #[.string ⟨#[]⟩, .string ⟨#[]⟩]], []⟩).memory Tryd.f8.params.toList Rows.gexChecksSpec.vars false (#[.int .u32 0, .int .u32 0, .agg #[.string ⟨#[]⟩, .string ⟨#[]⟩]] : Array Value).toList 8 = some ([.lit (.int .u32 0), .lit (.int .u32 0), .agg [.lit (.string []), .lit (.string [])]], [], places) :=
  ⟨[], by kernel_rfl⟩

set_option maxRecDepth 100000 in
theorem gexChecks_lifted (os : Os) (started : os.Started) (H : Type) (enc : TypeId × Value → H) (F : Stop.Interp) :
    ReturnsInHanded {} Tryd.checked os 8 .any ((OpenSpec.ofChange Rows.gexChecksSpec).preRow enc Tryd.prog Tryd.f8 Rows.gexChecksRow.domain false Rows.gexChecksRow.laid) (((OpenSpec.ofChange Rows.gexChecksSpec).at F).post enc Tryd.prog Tryd.f8 false true false false) := by
  obtain ⟨places, hx⟩ := gexChecks_reads os enc
  refine returnsInHanded_of_row (C := Tryd.checked) (s := OpenSpec.ofChange Rows.gexChecksSpec) Tryd.own started (by kernel_rfl) Tryd.func8
    (witness_row_at (enc := enc) (C := Tryd.checked) false (laidWorld os) #[.int .u32 0, .int .u32 0, .agg #[.string ⟨#[]⟩, .string ⟨#[]⟩]] rfl (by kernel_rfl) (by kernel_rfl) (by kernel_rfl)
      (OpenSpec.preRow_of_cond 8 hx (by kernel_rfl) (fun k hk => by cases hk) (by kernel_rfl) (laid_met os _))) ?_
  intro W base args ds gs before hval hW _ _ hsz hL _ _
  exact gexChecks_contract H enc W base args ds gs before hval hW hL hsz

theorem gexChecks_said : Rows.GexChecksSaid :=
  OpenClaim.holds_of_cond 8 Tryd.f8 rfl rfl rfl rfl rfl rfl rfl ⟨rfl, rfl, rfl, rfl, rfl⟩ rfl rfl rfl rfl rfl (by kernel_rfl) Tryd.func8 (by kernel_rfl)
    (of_decide_eq_true (by kernel_rfl)) (by unfold Func.isWrapper; first | (rw [if_pos (by decide +kernel)]; kernel_rfl) | (rw [if_neg (by decide +kernel)]; exact ⟨rfl, rfl⟩))
    (fun os started H enc _ F => by rw [OpenClaim.pre_eq_preRow]; exact gexChecks_lifted os started H enc F)

/-- What the card asks besides. -/
theorem gexChecks_plain (f : FuncId) (fn : Func) (hf : Tryd.pinned.checked.prog.funcNamed "shibboleth/shibbolethlaw18.GexChecks" = some f) (hfn : Tryd.pinned.checked.prog.funcs[f]? = some fn) :
    Rows.gexChecksCard.stood.looks = Tryd.pinned.checked.prog.looks [] ∧ ∀ (j : Nat) t, fn.params[j]? = some t → Tryd.pinned.checked.prog.wantsStandIn t = false := by
  obtain rfl : f = 8 := Option.some.inj ((show Tryd.prog.funcNamed "shibboleth/shibbolethlaw18.GexChecks" = some 8 by kernel_rfl).symm.trans hf) |>.symm
  obtain rfl : fn = Tryd.f8 := (Option.some.inj (Tryd.func8.symm.trans hfn)).symm
  refine ⟨by kernel_rfl, fun j t ht => ?_⟩
  rw [Tryd.params8] at ht
  have hm := Array.mem_of_getElem? ht
  have hall : (Tryd.f8.params.toList.all fun t => Tryd.prog.wantsStandIn t = false) = true := by kernel_rfl
  rw [Tryd.params8] at hall
  have := List.all_eq_true.1 hall t (by simpa using hm)
  exact of_decide_eq_true this

theorem gexChecks_holds : Rows.GexChecksCardSaid :=
  Claim7.holds_tied_plain_at .later [] _ _ _ _ gexChecks_said (fun _ h => by cases h) (by kernel_rfl) (fun _ h => by cases h) gexChecks_row_tie rfl ⟨rfl, rfl⟩ (by kernel_rfl) rfl gexChecks_plain (by kernel_rfl)
end Go.Proofs.YtlonejkmdibkaaaDoor
