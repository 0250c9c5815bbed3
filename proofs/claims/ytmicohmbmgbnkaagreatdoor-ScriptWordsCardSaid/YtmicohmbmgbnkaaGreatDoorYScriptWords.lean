/- Whatever the number and the word: ScriptWords returns true, and its arguments read as before; the tables of script, strconv, math/bits and unicode/utf8 and the two errors of strconv are as their own initialisers lay them. -/
import Derived.Test.YtmicohmbmgbnkaaGreatDoorYb3
import Derived.Test.YtmicohmbmgbnkaaGreatDoorYb22
namespace Go.Proofs.YtmicohmbmgbnkaaGreatDoor
open Go.ChangeShapes Go.WideShapes Go.ChangeAt Go.RowKit

set_option maxRecDepth 100000 in
theorem scriptWords_contract (H : Type) (enc : TypeId × Value → H) (W : World) (base : Nat) (args : Array Value) (ds gs : List (DataW H)) (before : List MemPlace)
    (hval : ∀ (j : Nat) t v, Tryz.f4.params[j]? = some t → args[j]? = some v → Value.okWide Tryz.prog W .any base t v)
    (hW : DataW.Whole enc Tryz.prog Tryz.f4.params.toList Rows.scriptWordsSpec.vars false W args.toList ds gs before) (hL : laidMetH Tryz.prog Rows.scriptWordsRow.laid W)
    (hsz : (DataW.weightsEach Tryz.prog (Tryz.f4.params.toList ++ []) (ds ++ gs)).all (· ≤ reachBytes) = true) (hSh : W.ShapedOpen Tryz.prog) :
    Calls Tryz.prog 4 args W fun e W' => ∃ v, e = .returned v ∧ Rows.scriptWordsSpec.post enc Tryz.prog Tryz.f4 false true false false W args v W' := by
  have E := env_of_laidT hL hSh
  have hW' := hW
  obtain ⟨p, q, hA0, hV, rfl, hfz, hnd⟩ := hW
  have hA : DataW.TrodAll enc Tryz.prog W 0 (fun _ => true) true Tryz.f4.params.toList args.toList ds p := hA0
  rw [Tryz.params4] at hA hval
  obtain ⟨v0, v1, d0, d1, p0, p1, rfl, rfl, rfl, h0, h1⟩ := trodAll_two hA
  obtain ⟨rfl, rfl⟩ := trodVars_none hV
  obtain ⟨x0, rfl, rfl, rfl, wx0⟩ := open_int Tryz.underlying3 (hval 0 3 v0 rfl rfl) h0
  obtain ⟨s1, rfl, rfl, rfl, hs1⟩ := Go.ChangeMaps.open_string Tryz.underlying9 (hval 1 9 v1 rfl rfl) h1
  unfold maxLen at hs1
  refine (law_scriptWords x0 s1 W E (by omega)).mono fun e W' ⟨he, hb⟩ => ?_
  subst he
  exact ⟨_, rfl, law_post Tryz.laidOut (by kernel_rfl) Tryz.underlying4 rfl rfl hW' rfl rfl rfl hb⟩

theorem scriptWords_reads (os : Os) {H : Type} (enc : TypeId × Value → H) : ∃ places, DataW.whole enc Tryz.prog ((laidWorldT os).forCall (fun _ _ => 0) ⟨#[], #[.int .i64 0, .string ByteArray.empty], []⟩).memory Tryz.f4.params.toList Rows.scriptWordsSpec.vars false (#[.int .i64 0, .string ByteArray.empty] : Array Value).toList 8 = some ([.lit (.int .i64 0), .lit (.string [])], [], places) :=
  ⟨[], by kernel_rfl⟩

set_option maxRecDepth 100000 in
theorem scriptWords_lifted (os : Os) (started : os.Started) (H : Type) (enc : TypeId × Value → H) (F : Stop.Interp) :
    ReturnsInHanded {} Tryz.checked os 4 .any ((OpenSpec.ofChange Rows.scriptWordsSpec).preRow enc Tryz.prog Tryz.f4 Rows.scriptWordsRow.domain false Rows.scriptWordsRow.laid) (((OpenSpec.ofChange Rows.scriptWordsSpec).at F).post enc Tryz.prog Tryz.f4 false true false false) := by
  obtain ⟨places, hx⟩ := scriptWords_reads os enc
  refine returnsInHanded_of_row (C := Tryz.checked) (s := OpenSpec.ofChange Rows.scriptWordsSpec) Tryz.own started (by kernel_rfl) Tryz.func4
    (witness_row_at (enc := enc) (C := Tryz.checked) false (laidWorldT os) #[.int .i64 0, .string ByteArray.empty] (World.laidAll_os _ _ _) (by kernel_rfl) (by kernel_rfl) (by kernel_rfl)
      (OpenSpec.preRow_of_cond 8 hx (by kernel_rfl) (fun k hk => by cases hk) (by kernel_rfl) (laidT_met os _))) ?_
  intro W base args ds gs before hval hW _ _ hsz hL hSh _
  exact scriptWords_contract H enc W base args ds gs before hval hW hL hsz hSh

theorem scriptWords_said : Rows.ScriptWordsSaid :=
  OpenClaim.holds_of_cond 4 Tryz.f4 rfl rfl rfl rfl rfl rfl rfl ⟨rfl, rfl, rfl, rfl, rfl⟩ rfl rfl rfl rfl rfl (by kernel_rfl) Tryz.func4 (by kernel_rfl)
    (of_decide_eq_true (by kernel_rfl)) (by unfold Func.isWrapper; first | (rw [if_pos (by decide +kernel)]; kernel_rfl) | (rw [if_neg (by decide +kernel)]; exact ⟨rfl, rfl⟩))
    (fun os started H enc _ F => by rw [OpenClaim.pre_eq_preRow]; exact scriptWords_lifted os started H enc F)

/-- What the card asks besides. -/
theorem scriptWords_plain (f : FuncId) (fn : Func) (hf : Tryz.pinned.checked.prog.funcNamed "shibboleth/shibbolethlaw35.ScriptWords" = some f) (hfn : Tryz.pinned.checked.prog.funcs[f]? = some fn) :
    Rows.scriptWordsCard.stood.looks = Tryz.pinned.checked.prog.looks [] ∧ ∀ (j : Nat) t, fn.params[j]? = some t → Tryz.pinned.checked.prog.wantsStandIn t = false := by
  obtain rfl : f = 4 := Option.some.inj ((show Tryz.prog.funcNamed "shibboleth/shibbolethlaw35.ScriptWords" = some 4 by kernel_rfl).symm.trans hf) |>.symm
  obtain rfl : fn = Tryz.f4 := (Option.some.inj (Tryz.func4.symm.trans hfn)).symm
  refine ⟨by kernel_rfl, fun j t ht => ?_⟩
  rw [Tryz.params4] at ht
  have hm := Array.mem_of_getElem? ht
  have hall : (Tryz.f4.params.toList.all fun t => Tryz.prog.wantsStandIn t = false) = true := by kernel_rfl
  rw [Tryz.params4] at hall
  have := List.all_eq_true.1 hall t (by simpa using hm)
  exact of_decide_eq_true this

theorem scriptWords_holds : Rows.ScriptWordsCardSaid :=
  Claim7.holds_tied_plain_at .later [] _ _ _ _ scriptWords_said (fun _ h => by cases h) (by kernel_rfl) (fun _ h => by cases h) scriptWords_row_tie rfl ⟨rfl, rfl⟩ (by kernel_rfl) rfl scriptWords_plain (by kernel_rfl)
end Go.Proofs.YtmicohmbmgbnkaaGreatDoor
