/- Whatever the book, the names and the number: DenyHas returns true, and its arguments read as before. -/
import Derived.Test.YtifliohljcafgaaDoorDb0
import Derived.Test.YtifliohljcafgaaDoorDb6
import Derived.Test.YtifliohljcafgaaDoorDb5
import Derived.Test.YtifliohljcafgaaDoorDb7
namespace Go.Proofs.YtifliohljcafgaaDoor
open Go.ChangeShapes Go.WideShapes Go.ChangeAt Go.RowKit

set_option maxRecDepth 100000 in
theorem denyHas_contract (H : Type) (enc : TypeId × Value → H) (W : World) (base : Nat) (args : Array Value) (ds gs : List (DataW H)) (before : List MemPlace)
    (hval : ∀ (j : Nat) t v, Tryd.f4.params[j]? = some t → args[j]? = some v → Value.okWide Tryd.prog W .any base t v)
    (hW : DataW.Whole enc Tryd.prog Tryd.f4.params.toList Rows.denyHasSpec.vars false W args.toList ds gs before) (_hL : laidMetH Tryd.prog Rows.denyHasRow.laid W)
    (hsz : (DataW.weightsEach Tryd.prog (Tryd.f4.params.toList ++ []) (ds ++ gs)).all (· ≤ reachBytes) = true) :
    Calls Tryd.prog 4 args W fun e W' => ∃ v, e = .returned v ∧ Rows.denyHasSpec.post enc Tryd.prog Tryd.f4 false true false false W args v W' := by
  have hW' := hW
  obtain ⟨p, q, hA0, hV, rfl, hfz, hnd⟩ := hW
  have hA : DataW.TrodAll enc Tryd.prog W 0 (fun _ => true) true Tryd.f4.params.toList args.toList ds p := hA0
  rw [Tryd.params4] at hA hval
  obtain ⟨v0, v1, v2, d0, d1, d2, p0, p1, p2, rfl, rfl, rfl, h0, h1, h2⟩ := trodAll_three hA
  obtain ⟨rfl, rfl⟩ := trodVars_none hV
  obtain ⟨A, n, c, B, m, e, l, gs, ss, rfl, hc1, hc2, hd1, hd2, Hg, hg1, Hs, hs2⟩ := open_book (hval 0 42 v0 rfl rfl) h0
  obtain ⟨u, s, rfl, _, _⟩ := open_two_str (hval 1 43 v1 rfl rfl) h1
  obtain ⟨x2, rfl, rfl, rfl, wx2⟩ := open_int Tryd.underlying3 (hval 2 3 v2 rfl rfl) h2
  refine (denyHas_any gs ss l x2 u s A B n c m e W hc1 hc2 hd1 hd2 Hg hg1 Hs hs2).mono fun e W' ⟨he, hb⟩ => ?_
  subst he
  exact ⟨_, rfl, law_post Tryd.laidOut (by kernel_rfl) Tryd.underlying4 rfl rfl hW' rfl rfl rfl hb⟩

theorem denyHas_reads (os : Os) {H : Type} (enc : TypeId × Value → H) : ∃ places, DataW.whole enc Tryd.prog ((laidWorldT os).forCall (fun _ _ => 0) ⟨#[], #[.agg #[.slice none 0 0, .slice none 0 0, .int .i64 0], .agg #[.string ByteArray.empty, .string ByteArray.empty], .int .i64 0], []⟩).memory Tryd.f4.params.toList Rows.denyHasSpec.vars false (#[.agg #[.slice none 0 0, .slice none 0 0, .int .i64 0], .agg #[.string ByteArray.empty, .string ByteArray.empty], .int .i64 0] : Array Value).toList 8 = some ([.agg [.nil, .nil, .lit (.int .i64 0)], .agg [.lit (.string []), .lit (.string [])], .lit (.int .i64 0)], [], places) :=
  ⟨[], by kernel_rfl⟩

set_option maxRecDepth 100000 in
theorem denyHas_lifted (os : Os) (started : os.Started) (H : Type) (enc : TypeId × Value → H) (F : Stop.Interp) :
    ReturnsInHanded {} Tryd.checked os 4 .any ((OpenSpec.ofChange Rows.denyHasSpec).preRow enc Tryd.prog Tryd.f4 Rows.denyHasRow.domain false Rows.denyHasRow.laid) (((OpenSpec.ofChange Rows.denyHasSpec).at F).post enc Tryd.prog Tryd.f4 false true false false) := by
  obtain ⟨places, hx⟩ := denyHas_reads os enc
  refine returnsInHanded_of_row (C := Tryd.checked) (s := OpenSpec.ofChange Rows.denyHasSpec) Tryd.own started (by kernel_rfl) Tryd.func4
    (witness_row_at (enc := enc) (C := Tryd.checked) false (laidWorldT os) #[.agg #[.slice none 0 0, .slice none 0 0, .int .i64 0], .agg #[.string ByteArray.empty, .string ByteArray.empty], .int .i64 0] (World.laidAll_os _ _ _) (by kernel_rfl) (by kernel_rfl) (by kernel_rfl)
      (OpenSpec.preRow_of_cond 8 hx (by kernel_rfl) (fun k hk => by cases hk) (by kernel_rfl) (laidT_met os _))) ?_
  intro W base args ds gs before hval hW _ _ hsz hL _ _
  exact denyHas_contract H enc W base args ds gs before hval hW hL hsz

theorem denyHas_said : Rows.DenyHasSaid :=
  OpenClaim.holds_of_cond 4 Tryd.f4 rfl rfl rfl rfl rfl rfl rfl ⟨rfl, rfl, rfl, rfl, rfl⟩ rfl rfl rfl rfl rfl (by kernel_rfl) Tryd.func4 (by kernel_rfl)
    (of_decide_eq_true (by kernel_rfl)) (by unfold Func.isWrapper; first | (rw [if_pos (by decide +kernel)]; kernel_rfl) | (rw [if_neg (by decide +kernel)]; exact ⟨rfl, rfl⟩))
    (fun os started H enc _ F => by rw [OpenClaim.pre_eq_preRow]; exact denyHas_lifted os started H enc F)

/-- What the card asks besides. -/
theorem denyHas_plain (f : FuncId) (fn : Func) (hf : Tryd.pinned.checked.prog.funcNamed "shibboleth/shibbolethlaw24.DenyHas" = some f) (hfn : Tryd.pinned.checked.prog.funcs[f]? = some fn) :
    Rows.denyHasCard.stood.looks = Tryd.pinned.checked.prog.looks [] ∧ ∀ (j : Nat) t, fn.params[j]? = some t → Tryd.pinned.checked.prog.wantsStandIn t = false := by
  obtain rfl : f = 4 := Option.some.inj ((show Tryd.prog.funcNamed "shibboleth/shibbolethlaw24.DenyHas" = some 4 by kernel_rfl).symm.trans hf) |>.symm
  obtain rfl : fn = Tryd.f4 := (Option.some.inj (Tryd.func4.symm.trans hfn)).symm
  refine ⟨by kernel_rfl, fun j t ht => ?_⟩
  rw [Tryd.params4] at ht
  have hm := Array.mem_of_getElem? ht
  have hall : (Tryd.f4.params.toList.all fun t => Tryd.prog.wantsStandIn t = false) = true := by kernel_rfl
  rw [Tryd.params4] at hall
  have := List.all_eq_true.1 hall t (by simpa using hm)
  exact of_decide_eq_true this

theorem denyHas_holds : Rows.DenyHasCardSaid :=
  Claim7.holds_tied_plain_at .later [] _ _ _ _ denyHas_said (fun _ h => by cases h) (by kernel_rfl) (fun _ h => by cases h) denyHas_row_tie rfl ⟨rfl, rfl⟩ (by kernel_rfl) rfl denyHas_plain (by kernel_rfl)
end Go.Proofs.YtifliohljcafgaaDoor
