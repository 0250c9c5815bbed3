/- Whatever the text: ScriptParses returns true, and its argument reads as before; the tables of script, strconv, math/bits and unicode/utf8, the two errors of strconv and errors.errorType are as their own initialisers lay them. -/
import Derived.Test.YtmicohmbmgbnkaaGreatDoorVb3
import Derived.Test.YtmicohmbmgbnkaaGreatDoorVb47
namespace Go.Proofs.YtmicohmbmgbnkaaGreatDoor
open Go.ChangeShapes Go.WideShapes Go.ChangeAt Go.RowKit
set_option maxRecDepth 100000 in
theorem scriptParses_contract (H : Type) (enc : TypeId × Value→H) (W : World) (base : Nat) (args : Array Value) (ds gs : List (DataW H)) (before : List MemPlace)
 (hval : ∀(j : Nat) t v,Tryz.f8.params[j]? =some t→args[j]? =some v→Value.okWide Tryz.prog W .any base t v)
 (hW : DataW.Whole enc Tryz.prog Tryz.f8.params.toList Rows.scriptParsesSpec.vars false W args.toList ds gs before) (hL : laidMetH Tryz.prog Rows.scriptParsesRow.laid W)
 (hsz : (DataW.weightsEach Tryz.prog (Tryz.f8.params.toList ++ []) (ds ++ gs)).all (· ≤reachBytes)=true) (hSh : W.ShapedOpen Tryz.prog) :
 Calls Tryz.prog 8 args W fun e W'=> ∃v,e= .returned v∧Rows.scriptParsesSpec.post enc Tryz.prog Tryz.f8 false true false false W args v W':=by
 have G:=ety_of_laid hL
 have E:=env_of_laidM hL hSh
 have hW':=hW
 obtain ⟨p,q,hA0,hV,rfl,hfz,hnd⟩:=hW
 have hA : DataW.TrodAll enc Tryz.prog W 0 (fun _=>true) true Tryz.f8.params.toList args.toList ds p:=hA0
 rw [Tryz.params8] at hA hval
 obtain ⟨v0,d0,rfl,rfl,h0⟩:=trodAll_one hA
 obtain ⟨rfl,rfl⟩:=trodVars_none hV
 obtain ⟨s0,rfl,rfl,rfl,hs0⟩:=Go.ChangeMaps.open_string Tryz.underlying9 (hval 0 9 v0 rfl rfl) h0
 unfold maxLen at hs0
 refine (law_scriptParses s0 W E G (by omega)).mono fun e W' ⟨he,hb⟩=> ?_
 subst he
 exact ⟨_,rfl,law_post Tryz.laidOut (by kernel_rfl) Tryz.underlying4 rfl rfl hW' rfl rfl rfl hb⟩
theorem scriptParses_reads (os : Os) {H : Type} (enc : TypeId × Value→H) : ∃places,DataW.whole enc Tryz.prog ((laidWorld os).forCall (fun _ _=>0) ⟨#[],#[.string ByteArray.empty],[]⟩).memory Tryz.f8.params.toList Rows.scriptParsesSpec.vars false (#[.string ByteArray.empty] : Array Value).toList 8=some ([.lit (.string [])],[],places):=
 ⟨[],by kernel_rfl⟩
set_option maxRecDepth 100000 in
theorem scriptParses_lifted (os : Os) (started : os.Started) (H : Type) (enc : TypeId × Value→H) (F : Stop.Interp) :
 ReturnsInHanded {} Tryz.checked os 8 .any ((OpenSpec.ofChange Rows.scriptParsesSpec).preRow enc Tryz.prog Tryz.f8 Rows.scriptParsesRow.domain false Rows.scriptParsesRow.laid) (((OpenSpec.ofChange Rows.scriptParsesSpec).at F).post enc Tryz.prog Tryz.f8 false true false false):=by
 obtain ⟨places,hx⟩:=scriptParses_reads os enc
 refine returnsInHanded_of_row (C:=Tryz.checked) (s:=OpenSpec.ofChange Rows.scriptParsesSpec) Tryz.own started (by kernel_rfl) Tryz.func8
  (witness_row_at (enc:=enc) (C:=Tryz.checked) false (laidWorld os) #[.string ByteArray.empty] rfl (by kernel_rfl) (by kernel_rfl) (by kernel_rfl)
    (OpenSpec.preRow_of_cond 8 hx (by kernel_rfl) (fun k hk=>by cases hk) (by kernel_rfl) (laid_met os _))) ?_
 intro W base args ds gs before hval hW _ _ hsz hL hSh _
 exact scriptParses_contract H enc W base args ds gs before hval hW hL hsz hSh
theorem scriptParses_said : Rows.ScriptParsesSaid:=
 OpenClaim.holds_of_cond 8 Tryz.f8 rfl rfl rfl rfl rfl rfl rfl ⟨rfl,rfl,rfl,rfl,rfl⟩ rfl rfl rfl rfl rfl (by kernel_rfl) Tryz.func8 (by kernel_rfl)
  (of_decide_eq_true (by kernel_rfl)) (by unfold Func.isWrapper;first | (rw [if_pos (by decide +kernel)];kernel_rfl) | (rw [if_neg (by decide +kernel)];exact ⟨rfl,rfl⟩))
  (fun os started H enc _ F=>by rw [OpenClaim.pre_eq_preRow];exact scriptParses_lifted os started H enc F)
/-- What the card asks besides. -/
theorem scriptParses_plain (f : FuncId) (fn : Func) (hf : Tryz.pinned.checked.prog.funcNamed "shibboleth/shibbolethlaw35.ScriptParses" =some f) (hfn : Tryz.pinned.checked.prog.funcs[f]? =some fn) :
 Rows.scriptParsesCard.stood.looks=Tryz.pinned.checked.prog.looks []∧∀(j : Nat) t,fn.params[j]? =some t→Tryz.pinned.checked.prog.wantsStandIn t=false:=by
 obtain rfl : f=8:=Option.some.inj ((show Tryz.prog.funcNamed "shibboleth/shibbolethlaw35.ScriptParses" =some 8 by kernel_rfl).symm.trans hf) |>.symm
 obtain rfl : fn=Tryz.f8:=(Option.some.inj (Tryz.func8.symm.trans hfn)).symm
 refine ⟨by kernel_rfl,fun j t ht=> ?_⟩
 rw [Tryz.params8] at ht
 have hm:=Array.mem_of_getElem? ht
 have hall : (Tryz.f8.params.toList.all fun t=>Tryz.prog.wantsStandIn t=false)=true:=by kernel_rfl
 rw [Tryz.params8] at hall
 have:=List.all_eq_true.1 hall t (by simpa using hm)
 exact of_decide_eq_true this
theorem scriptParses_holds : Rows.ScriptParsesCardSaid:=
 Claim7.holds_tied_plain_at .later [] _ _ _ _ scriptParses_said (fun _ h=>by cases h) (by kernel_rfl) (fun _ h=>by cases h) scriptParses_row_tie rfl ⟨rfl,rfl⟩ (by kernel_rfl) rfl scriptParses_plain (by kernel_rfl)
end Go.Proofs.YtmicohmbmgbnkaaGreatDoor
