/-
  NARROWER THAN 'FOR EVERY INPUT', by the rows' own cells (each row's printed sentence says how): ChooseBest: laid · ChooseSelf: laid · ChooseAny: laid · NamesSplit: laid · NamesJoin: laid.
  DERIVED. THE GIVEN ROWS OF THIS SEAT. 5 by the template 'for every input the law returns true; each argument reads behind the call as it read before'; 0 by the template 'total and deterministic' (their statements: YtfoegpacjkcidaaDoorTotals.lean).
  GIVEN WITH THE SEED: the statements are not yours to turn. If you find one false, say at which input.
  Laid BY PROGRAM, IN A SANDBOX (cutbox-rows.mjs): the forced cells as the released guide's own fill.sh prints them over the translation 0fef21482e946f61… (all of the seat's roots in one cut). By AI agents, Wed Nov 11 2026. No macro, syntax, notation, axiom, sorry.
-/
import Derived.Test.YtfoegpacjkcidaaDoorChecked
import GoSem.PinnedTables
import GoSem.Claim
import GoSem.ClaimJoined
import GoSem.ClaimMapViews
import Derived.JoinedTies
import Derived.KernelRfl
namespace Go.Proofs.YtfoegpacjkcidaaDoor
/- THE CELL 'sum', in the pinned program and in every row, IS THE sha256 OF THE DUMP (.gsa) THAT YtfoegpacjkcidaaDoorProg.lean LOADS. Nothing in Lean hashes anything: it is a label: what it is worth is what the hold of that sum in a sandbox is worth. -/
noncomputable def Tryd.pinned : Pinned := { name := "ytfoegpacjkcidaadoor", sum := "0fef21482e946f61d8b281ee7bd9b14c9cf1465fb179ec8cb2155b4dcee96dd9", checked := Tryd.checked }
namespace Rows
def none {H : Type} : Left H := { results := [], args := [] }

/- WHAT THE LISTED PACKAGE-LEVEL VARIABLES READ AS WHEN THE CALL BEGINS. Each datum BY PROGRAM (the guide's laid-datum.mjs) off the statement by which the dump's own 'gosem.cut.vars' lays the variable. In a bare row this is a premise. The card (YtfoegpacjkcidaaDoorCards.lean) ties it to the program's text. -/
def laid_shibboleth_prefs_methods {H : Type} : DataW H := .agg [.lit (.string []), .lit (.string [99, 117, 114, 118, 101, 50, 53, 53, 49, 57, 45, 115, 104, 97, 50, 53, 54]), .lit (.string [101, 99, 100, 104, 45, 115, 104, 97, 50, 45, 110, 105, 115, 116, 112, 50, 53, 54]), .lit (.string [100, 105, 102, 102, 105, 101, 45, 104, 101, 108, 108, 109, 97, 110, 45, 103, 114, 111, 117, 112, 45, 101, 120, 99, 104, 97, 110, 103, 101, 45, 115, 104, 97, 50, 53, 54])]
def laid_shibboleth_prefs_words {H : Type} : DataW H := .agg [.lit (.string [107, 101, 120]), .lit (.string [104, 111, 115, 116]), .lit (.string [101, 110, 99, 45, 99]), .lit (.string [101, 110, 99, 45, 115]), .lit (.string [109, 97, 99, 45, 99]), .lit (.string [109, 97, 99, 45, 115]), .lit (.string [99, 111, 109, 112, 45, 99]), .lit (.string [99, 111, 109, 112, 45, 115])]
def laid_errors_errorType {H : Type} : DataW H := .iface "internal/reflectlite.rtype" (.agg [.ptr (.lit (.string [101, 114, 114, 111, 114]))])
def laid_unicode_utf8_acceptRanges {H : Type} : DataW H := .agg [.agg [.lit (.int .u8 128), .lit (.int .u8 191)], .agg [.lit (.int .u8 160), .lit (.int .u8 191)], .agg [.lit (.int .u8 128), .lit (.int .u8 159)], .agg [.lit (.int .u8 144), .lit (.int .u8 191)], .agg [.lit (.int .u8 128), .lit (.int .u8 143)], .agg [.lit (.int .u8 0), .lit (.int .u8 0)], .agg [.lit (.int .u8 0), .lit (.int .u8 0)], .agg [.lit (.int .u8 0), .lit (.int .u8 0)], .agg [.lit (.int .u8 0), .lit (.int .u8 0)], .agg [.lit (.int .u8 0), .lit (.int .u8 0)], .agg [.lit (.int .u8 0), .lit (.int .u8 0)], .agg [.lit (.int .u8 0), .lit (.int .u8 0)], .agg [.lit (.int .u8 0), .lit (.int .u8 0)], .agg [.lit (.int .u8 0), .lit (.int .u8 0)], .agg [.lit (.int .u8 0), .lit (.int .u8 0)], .agg [.lit (.int .u8 0), .lit (.int .u8 0)]]
/-- One of Go's own tables, pinned by name: the form's constant. -/
def laid_unicode_utf8_first : DataW Unit := Go.Pinned.utf8First

/-- 'shibbolethlaw17.ChooseBest': WHATEVER THE INPUT: true; the input reads as it did. -/
def chooseBestSpec : ChangeSpec := { name := "chooseBest", fn := fun _ => fun
  | [d1, d2] => { results := [.lit (.bool true)], args := [d1, d2] }
  | _ => none }
def chooseBestRow : OpenClaim := { program := "ytfoegpacjkcidaadoor", sum := "0fef21482e946f61d8b281ee7bd9b14c9cf1465fb179ec8cb2155b4dcee96dd9", func := "shibboleth/shibbolethlaw17.ChooseBest", spec := "chooseBest", unfollowed := true, recurses := true, named := ["shibboleth/prefs.methods", "shibboleth/prefs.words"], apart := false, laid := [("shibboleth/prefs.methods", laid_shibboleth_prefs_methods), ("shibboleth/prefs.words", laid_shibboleth_prefs_words)] }
def ChooseBestSaid : Prop := chooseBestRow.holds Tryd.pinned (OpenSpec.ofChange chooseBestSpec)

/-- ITS FALSE NEIGHBOUR: 'it returns false'. Refute it at one input. -/
def chooseBestWrong : ChangeSpec := { name := "chooseBest", fn := fun _ => fun
  | [d1, d2] => { results := [.lit (.bool false)], args := [d1, d2] }
  | _ => none }
def ChooseBestWrongFalsely : Prop := chooseBestRow.holds Tryd.pinned (OpenSpec.ofChange chooseBestWrong)

/-- 'shibbolethlaw17.ChooseSelf': WHATEVER THE INPUT: true; the input reads as it did. -/
def chooseSelfSpec : ChangeSpec := { name := "chooseSelf", fn := fun _ => fun
  | [d] => { results := [.lit (.bool true)], args := [d] }
  | _ => none }
def chooseSelfRow : OpenClaim := { program := "ytfoegpacjkcidaadoor", sum := "0fef21482e946f61d8b281ee7bd9b14c9cf1465fb179ec8cb2155b4dcee96dd9", func := "shibboleth/shibbolethlaw17.ChooseSelf", spec := "chooseSelf", unfollowed := true, recurses := true, named := ["shibboleth/prefs.methods", "shibboleth/prefs.words"], apart := false, laid := [("shibboleth/prefs.methods", laid_shibboleth_prefs_methods), ("shibboleth/prefs.words", laid_shibboleth_prefs_words)] }
def ChooseSelfSaid : Prop := chooseSelfRow.holds Tryd.pinned (OpenSpec.ofChange chooseSelfSpec)

/-- ITS FALSE NEIGHBOUR: 'it returns false'. Refute it at one input. -/
def chooseSelfWrong : ChangeSpec := { name := "chooseSelf", fn := fun _ => fun
  | [d] => { results := [.lit (.bool false)], args := [d] }
  | _ => none }
def ChooseSelfWrongFalsely : Prop := chooseSelfRow.holds Tryd.pinned (OpenSpec.ofChange chooseSelfWrong)

/-- 'shibbolethlaw17.ChooseAny': WHATEVER THE INPUT: true; the input reads as it did. -/
def chooseAnySpec : ChangeSpec := { name := "chooseAny", fn := fun _ => fun
  | [d1, d2] => { results := [.lit (.bool true)], args := [d1, d2] }
  | _ => none }
def chooseAnyRow : OpenClaim := { program := "ytfoegpacjkcidaadoor", sum := "0fef21482e946f61d8b281ee7bd9b14c9cf1465fb179ec8cb2155b4dcee96dd9", func := "shibboleth/shibbolethlaw17.ChooseAny", spec := "chooseAny", inPlace := ["internal/reflectlite.ValueOf", "(internal/reflectlite.Value).Type", "(internal/reflectlite.Value).IsNil", "internal/reflectlite.TypeOf", "(internal/reflectlite.Value).Elem", "(internal/reflectlite.Value).Set"], unfollowed := true, recurses := true, named := ["shibboleth/prefs.methods", "shibboleth/prefs.words", "errors.errorType"], apart := false, laid := [("errors.errorType", laid_errors_errorType), ("shibboleth/prefs.methods", laid_shibboleth_prefs_methods), ("shibboleth/prefs.words", laid_shibboleth_prefs_words)] }
def ChooseAnySaid : Prop := chooseAnyRow.holds Tryd.pinned (OpenSpec.ofChange chooseAnySpec)

/-- ITS FALSE NEIGHBOUR: 'it returns false'. Refute it at one input. -/
def chooseAnyWrong : ChangeSpec := { name := "chooseAny", fn := fun _ => fun
  | [d1, d2] => { results := [.lit (.bool false)], args := [d1, d2] }
  | _ => none }
def ChooseAnyWrongFalsely : Prop := chooseAnyRow.holds Tryd.pinned (OpenSpec.ofChange chooseAnyWrong)

/-- 'shibbolethlaw04.NamesSplit': WHATEVER THE INPUT: true; the input reads as it did. -/
def namesSplitSpec : ChangeSpec := { name := "namesSplit", fn := fun _ => fun
  | [d] => { results := [.lit (.bool true)], args := [d] }
  | _ => none }
def namesSplitRow : OpenClaim := { program := "ytfoegpacjkcidaadoor", sum := "0fef21482e946f61d8b281ee7bd9b14c9cf1465fb179ec8cb2155b4dcee96dd9", func := "shibboleth/shibbolethlaw04.NamesSplit", spec := "namesSplit", inPlace := ["internal/bytealg.CountString", "internal/bytealg.IndexByteString", "internal/bytealg.IndexString", "internal/abi.NoEscape", "internal/bytealg.MakeNoZero"], named := ["unicode/utf8.first", "unicode/utf8.acceptRanges", "internal/bytealg.MaxLen"], apart := false, laid := [("unicode/utf8.acceptRanges", laid_unicode_utf8_acceptRanges), ("unicode/utf8.first", laid_unicode_utf8_first)] }
def NamesSplitSaid : Prop := namesSplitRow.holds Tryd.pinned (OpenSpec.ofChange namesSplitSpec)

/-- ITS FALSE NEIGHBOUR: 'it returns false'. Refute it at one input. -/
def namesSplitWrong : ChangeSpec := { name := "namesSplit", fn := fun _ => fun
  | [d] => { results := [.lit (.bool false)], args := [d] }
  | _ => none }
def NamesSplitWrongFalsely : Prop := namesSplitRow.holds Tryd.pinned (OpenSpec.ofChange namesSplitWrong)

/-- 'shibbolethlaw04.NamesJoin': WHATEVER THE INPUT: true; the input reads as it did. -/
def namesJoinSpec : ChangeSpec := { name := "namesJoin", fn := fun _ => fun
  | [d] => { results := [.lit (.bool true)], args := [d] }
  | _ => none }
def namesJoinRow : OpenClaim := { program := "ytfoegpacjkcidaadoor", sum := "0fef21482e946f61d8b281ee7bd9b14c9cf1465fb179ec8cb2155b4dcee96dd9", func := "shibboleth/shibbolethlaw04.NamesJoin", spec := "namesJoin", inPlace := ["internal/bytealg.IndexByteString", "internal/bytealg.IndexString", "internal/abi.NoEscape", "internal/bytealg.MakeNoZero", "internal/bytealg.CountString"], named := ["internal/bytealg.MaxLen", "unicode/utf8.first", "unicode/utf8.acceptRanges"], apart := false, laid := [("unicode/utf8.acceptRanges", laid_unicode_utf8_acceptRanges), ("unicode/utf8.first", laid_unicode_utf8_first)] }
def NamesJoinSaid : Prop := namesJoinRow.holds Tryd.pinned (OpenSpec.ofChange namesJoinSpec)

/-- ITS FALSE NEIGHBOUR: 'it returns false'. Refute it at one input. -/
def namesJoinWrong : ChangeSpec := { name := "namesJoin", fn := fun _ => fun
  | [d] => { results := [.lit (.bool false)], args := [d] }
  | _ => none }
def NamesJoinWrongFalsely : Prop := namesJoinRow.holds Tryd.pinned (OpenSpec.ofChange namesJoinWrong)

/- THE SECOND FORM. 'bulk': how many values and letters a reading holds, each counted each time it is reached (what is shared counts as often as it is met; a slice's spare places count too). A statement '..UptoSaid' is the law's where the arguments, and the package variables that the reading takes, are together of bulk at most 1048576: NARROWER than '..Said'. Prove '..Said' where nothing that the law and all that it calls make is longer than what came in: it says more and counts as full. Else prove '..UptoSaid'. A law counts once. -/
mutual
def uptoBulk {H : Type} : DataW H → Nat
  | .lit (.string bytes) => bytes.length + 1
  | .lit _ => 1
  | .nil => 1
  | .ptr d => uptoBulk d + 1
  | .slice elems spare => uptoBulkAll elems + uptoBulkAll spare + 1
  | .agg parts => uptoBulkAll parts + 1
  | .iface _ d => uptoBulk d + 1
  | .map entries => uptoBulkEntries entries + 1
  | .held _ => 1
def uptoBulkAll {H : Type} : List (DataW H) → Nat
  | [] => 0
  | d :: r => uptoBulk d + uptoBulkAll r
def uptoBulkEntries {H : Type} : List (Lit × DataW H) → Nat
  | [] => 0
  | x :: r => uptoBulkEntry x + uptoBulkEntries r
def uptoBulkEntry {H : Type} : Lit × DataW H → Nat
  | (.string bytes, d) => bytes.length + uptoBulk d + 1
  | (_, d) => uptoBulk d + 1
 end
def uptoSmall : (H : Type) → List (DataW H) → Bool := fun _ ds => decide (uptoBulkAll ds ≤ 1048576)
def OpenSpec.upto (s : _root_.Go.ChangeSpec) : _root_.Go.OpenSpec := { _root_.Go.OpenSpec.ofChange s with cond := some uptoSmall }

/-- 'shibbolethlaw17.ChooseBest', WHERE WHAT IT READS IS OF BULK AT MOST 1048576: true; the input reads as it did. -/
def chooseBestUptoRow : OpenClaim := { program := "ytfoegpacjkcidaadoor", sum := "0fef21482e946f61d8b281ee7bd9b14c9cf1465fb179ec8cb2155b4dcee96dd9", func := "shibboleth/shibbolethlaw17.ChooseBest", spec := "chooseBest", unfollowed := true, recurses := true, named := ["shibboleth/prefs.methods", "shibboleth/prefs.words"], apart := false, laid := [("shibboleth/prefs.methods", laid_shibboleth_prefs_methods), ("shibboleth/prefs.words", laid_shibboleth_prefs_words)], narrowed := true }
def ChooseBestUptoSaid : Prop := chooseBestUptoRow.holds Tryd.pinned (OpenSpec.upto chooseBestSpec)

/-- 'shibbolethlaw17.ChooseSelf', WHERE WHAT IT READS IS OF BULK AT MOST 1048576: true; the input reads as it did. -/
def chooseSelfUptoRow : OpenClaim := { program := "ytfoegpacjkcidaadoor", sum := "0fef21482e946f61d8b281ee7bd9b14c9cf1465fb179ec8cb2155b4dcee96dd9", func := "shibboleth/shibbolethlaw17.ChooseSelf", spec := "chooseSelf", unfollowed := true, recurses := true, named := ["shibboleth/prefs.methods", "shibboleth/prefs.words"], apart := false, laid := [("shibboleth/prefs.methods", laid_shibboleth_prefs_methods), ("shibboleth/prefs.words", laid_shibboleth_prefs_words)], narrowed := true }
def ChooseSelfUptoSaid : Prop := chooseSelfUptoRow.holds Tryd.pinned (OpenSpec.upto chooseSelfSpec)

/-- 'shibbolethlaw17.ChooseAny', WHERE WHAT IT READS IS OF BULK AT MOST 1048576: true; the input reads as it did. -/
def chooseAnyUptoRow : OpenClaim := { program := "ytfoegpacjkcidaadoor", sum := "0fef21482e946f61d8b281ee7bd9b14c9cf1465fb179ec8cb2155b4dcee96dd9", func := "shibboleth/shibbolethlaw17.ChooseAny", spec := "chooseAny", inPlace := ["internal/reflectlite.ValueOf", "(internal/reflectlite.Value).Type", "(internal/reflectlite.Value).IsNil", "internal/reflectlite.TypeOf", "(internal/reflectlite.Value).Elem", "(internal/reflectlite.Value).Set"], unfollowed := true, recurses := true, named := ["shibboleth/prefs.methods", "shibboleth/prefs.words", "errors.errorType"], apart := false, laid := [("errors.errorType", laid_errors_errorType), ("shibboleth/prefs.methods", laid_shibboleth_prefs_methods), ("shibboleth/prefs.words", laid_shibboleth_prefs_words)], narrowed := true }
def ChooseAnyUptoSaid : Prop := chooseAnyUptoRow.holds Tryd.pinned (OpenSpec.upto chooseAnySpec)

/-- 'shibbolethlaw04.NamesSplit', WHERE WHAT IT READS IS OF BULK AT MOST 1048576: true; the input reads as it did. -/
def namesSplitUptoRow : OpenClaim := { program := "ytfoegpacjkcidaadoor", sum := "0fef21482e946f61d8b281ee7bd9b14c9cf1465fb179ec8cb2155b4dcee96dd9", func := "shibboleth/shibbolethlaw04.NamesSplit", spec := "namesSplit", inPlace := ["internal/bytealg.CountString", "internal/bytealg.IndexByteString", "internal/bytealg.IndexString", "internal/abi.NoEscape", "internal/bytealg.MakeNoZero"], named := ["unicode/utf8.first", "unicode/utf8.acceptRanges", "internal/bytealg.MaxLen"], apart := false, laid := [("unicode/utf8.acceptRanges", laid_unicode_utf8_acceptRanges), ("unicode/utf8.first", laid_unicode_utf8_first)], narrowed := true }
def NamesSplitUptoSaid : Prop := namesSplitUptoRow.holds Tryd.pinned (OpenSpec.upto namesSplitSpec)

/-- 'shibbolethlaw04.NamesJoin', WHERE WHAT IT READS IS OF BULK AT MOST 1048576: true; the input reads as it did. -/
def namesJoinUptoRow : OpenClaim := { program := "ytfoegpacjkcidaadoor", sum := "0fef21482e946f61d8b281ee7bd9b14c9cf1465fb179ec8cb2155b4dcee96dd9", func := "shibboleth/shibbolethlaw04.NamesJoin", spec := "namesJoin", inPlace := ["internal/bytealg.IndexByteString", "internal/bytealg.IndexString", "internal/abi.NoEscape", "internal/bytealg.MakeNoZero", "internal/bytealg.CountString"], named := ["internal/bytealg.MaxLen", "unicode/utf8.first", "unicode/utf8.acceptRanges"], apart := false, laid := [("unicode/utf8.acceptRanges", laid_unicode_utf8_acceptRanges), ("unicode/utf8.first", laid_unicode_utf8_first)], narrowed := true }
def NamesJoinUptoSaid : Prop := namesJoinUptoRow.holds Tryd.pinned (OpenSpec.upto namesJoinSpec)

end Rows
end Go.Proofs.YtfoegpacjkcidaaDoor
