/-
  NARROWER THAN 'FOR EVERY INPUT', by the rows' own cells (each row's printed sentence says how): GexNames: laid · GexTable: laid · PrefsMethods: laid · PrefsLists: laid · GexPicks: laid · GexChecks: laid · PrefsCheck: laid · DenyChecks: laid · DenyCounts: laid · DenyHas: laid.
  DERIVED. THE GIVEN ROWS OF THIS SEAT. 10 by the template 'for every input the law returns true; each argument reads behind the call as it read before'; 0 by the template 'total and deterministic' (their statements: YtlonejkmdibkaaaDoorTotals.lean).
  GIVEN WITH THE SEED: the statements are not yours to turn. If you find one false, say at which input.
  Laid BY PROGRAM, IN A SANDBOX (cutbox-rows.mjs): the forced cells as the released guide's own fill.sh prints them over the translation b20c43313a098ffd… (all of the seat's roots in one cut). By AI agents, Wed Nov 11 2026. No macro, syntax, notation, axiom, sorry.
-/
import Derived.Test.YtlonejkmdibkaaaDoorChecked
import GoSem.PinnedTables
import GoSem.Claim
import GoSem.ClaimJoined
import GoSem.ClaimMapViews
import Derived.JoinedTies
import Derived.KernelRfl
namespace Go.Proofs.YtlonejkmdibkaaaDoor
/- THE CELL 'sum', in the pinned program and in every row, IS THE sha256 OF THE DUMP (.gsa) THAT YtlonejkmdibkaaaDoorProg.lean LOADS. Nothing in Lean hashes anything: it is a label: what it is worth is what the hold of that sum in a sandbox is worth. -/
noncomputable def Tryd.pinned : Pinned := { name := "ytlonejkmdibkaaadoor", sum := "b20c43313a098ffdce8ee330740bea223b20a9f5e6125625dda2d63239bcd7a3", checked := Tryd.checked }
namespace Rows
def none {H : Type} : Left H := { results := [], args := [] }

/- WHAT THE LISTED PACKAGE-LEVEL VARIABLES READ AS WHEN THE CALL BEGINS. Each datum BY PROGRAM (the guide's laid-datum.mjs) off the statement by which the dump's own 'gosem.cut.vars' lays the variable. In a bare row this is a premise. The card (YtlonejkmdibkaaaDoorCards.lean) ties it to the program's text. -/
def laid_unicode_utf8_acceptRanges {H : Type} : DataW H := .agg [.agg [.lit (.int .u8 128), .lit (.int .u8 191)], .agg [.lit (.int .u8 160), .lit (.int .u8 191)], .agg [.lit (.int .u8 128), .lit (.int .u8 159)], .agg [.lit (.int .u8 144), .lit (.int .u8 191)], .agg [.lit (.int .u8 128), .lit (.int .u8 143)], .agg [.lit (.int .u8 0), .lit (.int .u8 0)], .agg [.lit (.int .u8 0), .lit (.int .u8 0)], .agg [.lit (.int .u8 0), .lit (.int .u8 0)], .agg [.lit (.int .u8 0), .lit (.int .u8 0)], .agg [.lit (.int .u8 0), .lit (.int .u8 0)], .agg [.lit (.int .u8 0), .lit (.int .u8 0)], .agg [.lit (.int .u8 0), .lit (.int .u8 0)], .agg [.lit (.int .u8 0), .lit (.int .u8 0)], .agg [.lit (.int .u8 0), .lit (.int .u8 0)], .agg [.lit (.int .u8 0), .lit (.int .u8 0)], .agg [.lit (.int .u8 0), .lit (.int .u8 0)]]
/-- One of Go's own tables, pinned by name: the form's constant. -/
def laid_unicode_utf8_first : DataW Unit := Go.Pinned.utf8First
def laid_shibboleth_prefs_methods {H : Type} : DataW H := .agg [.lit (.string []), .lit (.string [99, 117, 114, 118, 101, 50, 53, 53, 49, 57, 45, 115, 104, 97, 50, 53, 54]), .lit (.string [101, 99, 100, 104, 45, 115, 104, 97, 50, 45, 110, 105, 115, 116, 112, 50, 53, 54]), .lit (.string [100, 105, 102, 102, 105, 101, 45, 104, 101, 108, 108, 109, 97, 110, 45, 103, 114, 111, 117, 112, 45, 101, 120, 99, 104, 97, 110, 103, 101, 45, 115, 104, 97, 50, 53, 54])]
def laid_shibboleth_prefs_words {H : Type} : DataW H := .agg [.lit (.string [107, 101, 120]), .lit (.string [104, 111, 115, 116]), .lit (.string [101, 110, 99, 45, 99]), .lit (.string [101, 110, 99, 45, 115]), .lit (.string [109, 97, 99, 45, 99]), .lit (.string [109, 97, 99, 45, 115]), .lit (.string [99, 111, 109, 112, 45, 99]), .lit (.string [99, 111, 109, 112, 45, 115])]
def laid_errors_errorType {H : Type} : DataW H := .iface "internal/reflectlite.rtype" (.agg [.ptr (.lit (.string [101, 114, 114, 111, 114]))])
def laid_math_bits_deBruijn32tab {H : Type} : DataW H := .agg [.lit (.int .u8 0), .lit (.int .u8 1), .lit (.int .u8 28), .lit (.int .u8 2), .lit (.int .u8 29), .lit (.int .u8 14), .lit (.int .u8 24), .lit (.int .u8 3), .lit (.int .u8 30), .lit (.int .u8 22), .lit (.int .u8 20), .lit (.int .u8 15), .lit (.int .u8 25), .lit (.int .u8 17), .lit (.int .u8 4), .lit (.int .u8 8), .lit (.int .u8 31), .lit (.int .u8 27), .lit (.int .u8 13), .lit (.int .u8 23), .lit (.int .u8 21), .lit (.int .u8 19), .lit (.int .u8 16), .lit (.int .u8 7), .lit (.int .u8 26), .lit (.int .u8 12), .lit (.int .u8 18), .lit (.int .u8 6), .lit (.int .u8 11), .lit (.int .u8 5), .lit (.int .u8 10), .lit (.int .u8 9)]
def laid_math_bits_deBruijn64tab {H : Type} : DataW H := .agg [.lit (.int .u8 0), .lit (.int .u8 1), .lit (.int .u8 56), .lit (.int .u8 2), .lit (.int .u8 57), .lit (.int .u8 49), .lit (.int .u8 28), .lit (.int .u8 3), .lit (.int .u8 61), .lit (.int .u8 58), .lit (.int .u8 42), .lit (.int .u8 50), .lit (.int .u8 38), .lit (.int .u8 29), .lit (.int .u8 17), .lit (.int .u8 4), .lit (.int .u8 62), .lit (.int .u8 47), .lit (.int .u8 59), .lit (.int .u8 36), .lit (.int .u8 45), .lit (.int .u8 43), .lit (.int .u8 51), .lit (.int .u8 22), .lit (.int .u8 53), .lit (.int .u8 39), .lit (.int .u8 33), .lit (.int .u8 30), .lit (.int .u8 24), .lit (.int .u8 18), .lit (.int .u8 12), .lit (.int .u8 5), .lit (.int .u8 63), .lit (.int .u8 55), .lit (.int .u8 48), .lit (.int .u8 27), .lit (.int .u8 60), .lit (.int .u8 41), .lit (.int .u8 37), .lit (.int .u8 16), .lit (.int .u8 46), .lit (.int .u8 35), .lit (.int .u8 44), .lit (.int .u8 21), .lit (.int .u8 52), .lit (.int .u8 32), .lit (.int .u8 23), .lit (.int .u8 11), .lit (.int .u8 54), .lit (.int .u8 26), .lit (.int .u8 40), .lit (.int .u8 15), .lit (.int .u8 34), .lit (.int .u8 20), .lit (.int .u8 31), .lit (.int .u8 10), .lit (.int .u8 25), .lit (.int .u8 14), .lit (.int .u8 19), .lit (.int .u8 9), .lit (.int .u8 13), .lit (.int .u8 8), .lit (.int .u8 7), .lit (.int .u8 6)]
def laid_internal_strconv_uint64pow10 {H : Type} : DataW H := .agg [.lit (.int .u64 1), .lit (.int .u64 10), .lit (.int .u64 100), .lit (.int .u64 1000), .lit (.int .u64 10000), .lit (.int .u64 100000), .lit (.int .u64 1000000), .lit (.int .u64 10000000), .lit (.int .u64 100000000), .lit (.int .u64 1000000000), .lit (.int .u64 10000000000), .lit (.int .u64 100000000000), .lit (.int .u64 1000000000000), .lit (.int .u64 10000000000000), .lit (.int .u64 100000000000000), .lit (.int .u64 1000000000000000), .lit (.int .u64 10000000000000000), .lit (.int .u64 100000000000000000), .lit (.int .u64 1000000000000000000), .lit (.int .u64 10000000000000000000)]

/-- 'shibbolethlaw18.GexNames': WHATEVER THE INPUT: true; the input reads as it did. -/
def gexNamesSpec : ChangeSpec := { name := "gexNames", fn := fun _ => fun
  | [d1, d2] => { results := [.lit (.bool true)], args := [d1, d2] }
  | _ => none }
def gexNamesRow : OpenClaim := { program := "ytlonejkmdibkaaadoor", sum := "b20c43313a098ffdce8ee330740bea223b20a9f5e6125625dda2d63239bcd7a3", func := "shibboleth/shibbolethlaw18.GexNames", spec := "gexNames", inPlace := ["internal/bytealg.IndexByteString", "internal/bytealg.IndexString"], unfollowed := true, recurses := true, named := ["unicode/utf8.first", "unicode/utf8.acceptRanges", "internal/bytealg.MaxLen"], plainKeys := false, apart := false, laid := [("unicode/utf8.acceptRanges", laid_unicode_utf8_acceptRanges), ("unicode/utf8.first", laid_unicode_utf8_first)] }
def GexNamesSaid : Prop := gexNamesRow.holds Tryd.pinned (OpenSpec.ofChange gexNamesSpec)

/-- ITS FALSE NEIGHBOUR: 'it returns false'. Refute it at one input. -/
def gexNamesWrong : ChangeSpec := { name := "gexNames", fn := fun _ => fun
  | [d1, d2] => { results := [.lit (.bool false)], args := [d1, d2] }
  | _ => none }
def GexNamesWrongFalsely : Prop := gexNamesRow.holds Tryd.pinned (OpenSpec.ofChange gexNamesWrong)

/-- 'shibbolethlaw18.GexTable': WHATEVER THE INPUT: true; the input reads as it did. -/
def gexTableSpec : ChangeSpec := { name := "gexTable", fn := fun _ => fun
  | [d1, d2] => { results := [.lit (.bool true)], args := [d1, d2] }
  | _ => none }
def gexTableRow : OpenClaim := { program := "ytlonejkmdibkaaadoor", sum := "b20c43313a098ffdce8ee330740bea223b20a9f5e6125625dda2d63239bcd7a3", func := "shibboleth/shibbolethlaw18.GexTable", spec := "gexTable", inPlace := ["internal/bytealg.IndexByteString", "internal/bytealg.IndexString"], unfollowed := true, recurses := true, named := ["unicode/utf8.first", "unicode/utf8.acceptRanges", "internal/bytealg.MaxLen"], plainKeys := false, apart := false, laid := [("unicode/utf8.acceptRanges", laid_unicode_utf8_acceptRanges), ("unicode/utf8.first", laid_unicode_utf8_first)] }
def GexTableSaid : Prop := gexTableRow.holds Tryd.pinned (OpenSpec.ofChange gexTableSpec)

/-- ITS FALSE NEIGHBOUR: 'it returns false'. Refute it at one input. -/
def gexTableWrong : ChangeSpec := { name := "gexTable", fn := fun _ => fun
  | [d1, d2] => { results := [.lit (.bool false)], args := [d1, d2] }
  | _ => none }
def GexTableWrongFalsely : Prop := gexTableRow.holds Tryd.pinned (OpenSpec.ofChange gexTableWrong)

/-- 'shibbolethlaw15.PrefsMethods': WHATEVER THE INPUT: true; the input reads as it did. -/
def prefsMethodsSpec : ChangeSpec := { name := "prefsMethods", fn := fun _ => fun
  | [d1, d2, d3] => { results := [.lit (.bool true)], args := [d1, d2, d3] }
  | _ => none }
def prefsMethodsRow : OpenClaim := { program := "ytlonejkmdibkaaadoor", sum := "b20c43313a098ffdce8ee330740bea223b20a9f5e6125625dda2d63239bcd7a3", func := "shibboleth/shibbolethlaw15.PrefsMethods", spec := "prefsMethods", inPlace := ["internal/bytealg.IndexByteString", "internal/bytealg.IndexString", "internal/abi.NoEscape", "internal/bytealg.MakeNoZero"], unfollowed := true, recurses := true, named := ["shibboleth/prefs.methods", "shibboleth/prefs.words", "internal/bytealg.MaxLen"], plainKeys := false, apart := false, laid := [("shibboleth/prefs.methods", laid_shibboleth_prefs_methods), ("shibboleth/prefs.words", laid_shibboleth_prefs_words)] }
def PrefsMethodsSaid : Prop := prefsMethodsRow.holds Tryd.pinned (OpenSpec.ofChange prefsMethodsSpec)

/-- ITS FALSE NEIGHBOUR: 'it returns false'. Refute it at one input. -/
def prefsMethodsWrong : ChangeSpec := { name := "prefsMethods", fn := fun _ => fun
  | [d1, d2, d3] => { results := [.lit (.bool false)], args := [d1, d2, d3] }
  | _ => none }
def PrefsMethodsWrongFalsely : Prop := prefsMethodsRow.holds Tryd.pinned (OpenSpec.ofChange prefsMethodsWrong)

/-- 'shibbolethlaw15.PrefsLists': WHATEVER THE INPUT: true; the input reads as it did. -/
def prefsListsSpec : ChangeSpec := { name := "prefsLists", fn := fun _ => fun
  | [d1, d2, d3] => { results := [.lit (.bool true)], args := [d1, d2, d3] }
  | _ => none }
def prefsListsRow : OpenClaim := { program := "ytlonejkmdibkaaadoor", sum := "b20c43313a098ffdce8ee330740bea223b20a9f5e6125625dda2d63239bcd7a3", func := "shibboleth/shibbolethlaw15.PrefsLists", spec := "prefsLists", inPlace := ["internal/bytealg.IndexByteString", "internal/bytealg.IndexString", "internal/abi.NoEscape", "internal/bytealg.MakeNoZero"], unfollowed := true, recurses := true, named := ["shibboleth/prefs.methods", "shibboleth/prefs.words", "internal/bytealg.MaxLen"], plainKeys := false, apart := false, laid := [("shibboleth/prefs.methods", laid_shibboleth_prefs_methods), ("shibboleth/prefs.words", laid_shibboleth_prefs_words)] }
def PrefsListsSaid : Prop := prefsListsRow.holds Tryd.pinned (OpenSpec.ofChange prefsListsSpec)

/-- ITS FALSE NEIGHBOUR: 'it returns false'. Refute it at one input. -/
def prefsListsWrong : ChangeSpec := { name := "prefsLists", fn := fun _ => fun
  | [d1, d2, d3] => { results := [.lit (.bool false)], args := [d1, d2, d3] }
  | _ => none }
def PrefsListsWrongFalsely : Prop := prefsListsRow.holds Tryd.pinned (OpenSpec.ofChange prefsListsWrong)

/-- 'shibbolethlaw18.GexPicks': WHATEVER THE INPUT: true; the input reads as it did. -/
def gexPicksSpec : ChangeSpec := { name := "gexPicks", fn := fun _ => fun
  | [d1, d2, d3] => { results := [.lit (.bool true)], args := [d1, d2, d3] }
  | _ => none }
def gexPicksRow : OpenClaim := { program := "ytlonejkmdibkaaadoor", sum := "b20c43313a098ffdce8ee330740bea223b20a9f5e6125625dda2d63239bcd7a3", func := "shibboleth/shibbolethlaw18.GexPicks", spec := "gexPicks", inPlace := ["internal/bytealg.IndexByteString", "internal/bytealg.IndexString", "internal/reflectlite.ValueOf", "(internal/reflectlite.Value).Type", "(internal/reflectlite.Value).IsNil", "internal/reflectlite.TypeOf", "(internal/reflectlite.Value).Elem", "(internal/reflectlite.Value).Set"], unfollowed := true, recurses := true, named := ["unicode/utf8.first", "unicode/utf8.acceptRanges", "errors.errorType", "internal/bytealg.MaxLen"], plainKeys := false, apart := false, laid := [("unicode/utf8.acceptRanges", laid_unicode_utf8_acceptRanges), ("errors.errorType", laid_errors_errorType), ("unicode/utf8.first", laid_unicode_utf8_first)] }
def GexPicksSaid : Prop := gexPicksRow.holds Tryd.pinned (OpenSpec.ofChange gexPicksSpec)

/-- ITS FALSE NEIGHBOUR: 'it returns false'. Refute it at one input. -/
def gexPicksWrong : ChangeSpec := { name := "gexPicks", fn := fun _ => fun
  | [d1, d2, d3] => { results := [.lit (.bool false)], args := [d1, d2, d3] }
  | _ => none }
def GexPicksWrongFalsely : Prop := gexPicksRow.holds Tryd.pinned (OpenSpec.ofChange gexPicksWrong)

/-- 'shibbolethlaw18.GexChecks': WHATEVER THE INPUT: true; the input reads as it did. -/
def gexChecksSpec : ChangeSpec := { name := "gexChecks", fn := fun _ => fun
  | [d1, d2, d3] => { results := [.lit (.bool true)], args := [d1, d2, d3] }
  | _ => none }
def gexChecksRow : OpenClaim := { program := "ytlonejkmdibkaaadoor", sum := "b20c43313a098ffdce8ee330740bea223b20a9f5e6125625dda2d63239bcd7a3", func := "shibboleth/shibbolethlaw18.GexChecks", spec := "gexChecks", inPlace := ["internal/bytealg.IndexByteString", "internal/bytealg.IndexString", "internal/reflectlite.ValueOf", "(internal/reflectlite.Value).Type", "(internal/reflectlite.Value).IsNil", "internal/reflectlite.TypeOf", "(internal/reflectlite.Value).Elem", "(internal/reflectlite.Value).Set"], unfollowed := true, recurses := true, named := ["unicode/utf8.first", "unicode/utf8.acceptRanges", "errors.errorType", "internal/bytealg.MaxLen"], plainKeys := false, apart := false, laid := [("unicode/utf8.acceptRanges", laid_unicode_utf8_acceptRanges), ("errors.errorType", laid_errors_errorType), ("unicode/utf8.first", laid_unicode_utf8_first)] }
def GexChecksSaid : Prop := gexChecksRow.holds Tryd.pinned (OpenSpec.ofChange gexChecksSpec)

/-- ITS FALSE NEIGHBOUR: 'it returns false'. Refute it at one input. -/
def gexChecksWrong : ChangeSpec := { name := "gexChecks", fn := fun _ => fun
  | [d1, d2, d3] => { results := [.lit (.bool false)], args := [d1, d2, d3] }
  | _ => none }
def GexChecksWrongFalsely : Prop := gexChecksRow.holds Tryd.pinned (OpenSpec.ofChange gexChecksWrong)

/-- 'shibbolethlaw15.PrefsCheck': WHATEVER THE INPUT: true; the input reads as it did. -/
def prefsCheckSpec : ChangeSpec := { name := "prefsCheck", fn := fun _ => fun
  | [d] => { results := [.lit (.bool true)], args := [d] }
  | _ => none }
def prefsCheckRow : OpenClaim := { program := "ytlonejkmdibkaaadoor", sum := "b20c43313a098ffdce8ee330740bea223b20a9f5e6125625dda2d63239bcd7a3", func := "shibboleth/shibbolethlaw15.PrefsCheck", spec := "prefsCheck", inPlace := ["internal/bytealg.IndexByteString", "internal/bytealg.IndexString", "internal/abi.NoEscape", "internal/bytealg.MakeNoZero", "internal/reflectlite.ValueOf", "(internal/reflectlite.Value).Type", "(internal/reflectlite.Value).IsNil", "internal/reflectlite.TypeOf", "(internal/reflectlite.Value).Elem", "(internal/reflectlite.Value).Set"], unfollowed := true, recurses := true, named := ["shibboleth/prefs.methods", "shibboleth/prefs.words", "internal/bytealg.MaxLen", "errors.errorType"], plainKeys := false, apart := false, laid := [("errors.errorType", laid_errors_errorType), ("shibboleth/prefs.methods", laid_shibboleth_prefs_methods), ("shibboleth/prefs.words", laid_shibboleth_prefs_words)] }
def PrefsCheckSaid : Prop := prefsCheckRow.holds Tryd.pinned (OpenSpec.ofChange prefsCheckSpec)

/-- ITS FALSE NEIGHBOUR: 'it returns false'. Refute it at one input. -/
def prefsCheckWrong : ChangeSpec := { name := "prefsCheck", fn := fun _ => fun
  | [d] => { results := [.lit (.bool false)], args := [d] }
  | _ => none }
def PrefsCheckWrongFalsely : Prop := prefsCheckRow.holds Tryd.pinned (OpenSpec.ofChange prefsCheckWrong)

/-- 'shibbolethlaw24.DenyChecks': WHATEVER THE INPUT: true; the input reads as it did. -/
def denyChecksSpec : ChangeSpec := { name := "denyChecks", fn := fun _ => fun
  | [d1, d2] => { results := [.lit (.bool true)], args := [d1, d2] }
  | _ => none }
def denyChecksRow : OpenClaim := { program := "ytlonejkmdibkaaadoor", sum := "b20c43313a098ffdce8ee330740bea223b20a9f5e6125625dda2d63239bcd7a3", func := "shibboleth/shibbolethlaw24.DenyChecks", spec := "denyChecks", inPlace := ["internal/bytealg.IndexByteString", "internal/bytealg.IndexString", "internal/abi.NoEscape", "internal/bytealg.MakeNoZero", "internal/reflectlite.ValueOf", "(internal/reflectlite.Value).Type", "(internal/reflectlite.Value).IsNil", "internal/reflectlite.TypeOf", "(internal/reflectlite.Value).Elem", "(internal/reflectlite.Value).Set"], unfollowed := true, recurses := true, named := ["internal/bytealg.MaxLen", "errors.errorType"], plainKeys := false, apart := false, laid := [("errors.errorType", laid_errors_errorType)] }
def DenyChecksSaid : Prop := denyChecksRow.holds Tryd.pinned (OpenSpec.ofChange denyChecksSpec)

/-- ITS FALSE NEIGHBOUR: 'it returns false'. Refute it at one input. -/
def denyChecksWrong : ChangeSpec := { name := "denyChecks", fn := fun _ => fun
  | [d1, d2] => { results := [.lit (.bool false)], args := [d1, d2] }
  | _ => none }
def DenyChecksWrongFalsely : Prop := denyChecksRow.holds Tryd.pinned (OpenSpec.ofChange denyChecksWrong)

/-- 'shibbolethlaw24.DenyCounts': WHATEVER THE INPUT: true; the input reads as it did. -/
def denyCountsSpec : ChangeSpec := { name := "denyCounts", fn := fun _ => fun
  | [d1, d2] => { results := [.lit (.bool true)], args := [d1, d2] }
  | _ => none }
def denyCountsRow : OpenClaim := { program := "ytlonejkmdibkaaadoor", sum := "b20c43313a098ffdce8ee330740bea223b20a9f5e6125625dda2d63239bcd7a3", func := "shibboleth/shibbolethlaw24.DenyCounts", spec := "denyCounts", inPlace := ["internal/bytealg.IndexByteString", "internal/bytealg.IndexString", "internal/abi.NoEscape", "internal/bytealg.MakeNoZero"], named := ["internal/bytealg.MaxLen", "internal/strconv.uint64pow10", "math/bits.deBruijn32tab", "math/bits.deBruijn64tab"], plainKeys := false, apart := false, laid := [("math/bits.deBruijn32tab", laid_math_bits_deBruijn32tab), ("math/bits.deBruijn64tab", laid_math_bits_deBruijn64tab), ("internal/strconv.uint64pow10", laid_internal_strconv_uint64pow10)] }
def DenyCountsSaid : Prop := denyCountsRow.holds Tryd.pinned (OpenSpec.ofChange denyCountsSpec)

/-- ITS FALSE NEIGHBOUR: 'it returns false'. Refute it at one input. -/
def denyCountsWrong : ChangeSpec := { name := "denyCounts", fn := fun _ => fun
  | [d1, d2] => { results := [.lit (.bool false)], args := [d1, d2] }
  | _ => none }
def DenyCountsWrongFalsely : Prop := denyCountsRow.holds Tryd.pinned (OpenSpec.ofChange denyCountsWrong)

/-- 'shibbolethlaw24.DenyHas': WHATEVER THE INPUT: true; the input reads as it did. -/
def denyHasSpec : ChangeSpec := { name := "denyHas", fn := fun _ => fun
  | [d1, d2, d3] => { results := [.lit (.bool true)], args := [d1, d2, d3] }
  | _ => none }
def denyHasRow : OpenClaim := { program := "ytlonejkmdibkaaadoor", sum := "b20c43313a098ffdce8ee330740bea223b20a9f5e6125625dda2d63239bcd7a3", func := "shibboleth/shibbolethlaw24.DenyHas", spec := "denyHas", inPlace := ["internal/bytealg.IndexByteString", "internal/bytealg.IndexString", "internal/abi.NoEscape", "internal/bytealg.MakeNoZero"], recurses := true, named := ["internal/bytealg.MaxLen", "internal/strconv.uint64pow10", "math/bits.deBruijn32tab", "math/bits.deBruijn64tab"], plainKeys := false, apart := false, laid := [("math/bits.deBruijn32tab", laid_math_bits_deBruijn32tab), ("math/bits.deBruijn64tab", laid_math_bits_deBruijn64tab), ("internal/strconv.uint64pow10", laid_internal_strconv_uint64pow10)] }
def DenyHasSaid : Prop := denyHasRow.holds Tryd.pinned (OpenSpec.ofChange denyHasSpec)

/-- ITS FALSE NEIGHBOUR: 'it returns false'. Refute it at one input. -/
def denyHasWrong : ChangeSpec := { name := "denyHas", fn := fun _ => fun
  | [d1, d2, d3] => { results := [.lit (.bool false)], args := [d1, d2, d3] }
  | _ => none }
def DenyHasWrongFalsely : Prop := denyHasRow.holds Tryd.pinned (OpenSpec.ofChange denyHasWrong)

/- THE SECOND FORM. 'bulk': how many values and letters a reading holds, each counted each time it is reached (what is shared counts as often as it is met; a slice's spare places count too). A statement '..UptoSaid' is the law's where the arguments, and the package variables that the reading takes, are together of bulk at most 1048576: NARROWER than '..Said'. Prove '..Said' where nothing that the law and all that it calls make is longer than what came in: it says more and counts as full. Else prove '..UptoSaid'. A law counts once. -/
mutual
def uptoBulk {H : Type} : DataW H → Nat
  | .lit (.string bytes) => bytes.length + 1
  | .lit _ => 1
  | .nil => 1
  | .ptr d => uptoBulk d + 1
  | .slice elems spare => uptoBulkAll elems + uptoBulkAll spare + 1
  | .agg parts => uptoBulkAll parts + 1
  | .iface _ d => uptoBulk d + 1
  | .map entries => uptoBulkEntries entries + 1
  | .held _ => 1
def uptoBulkAll {H : Type} : List (DataW H) → Nat
  | [] => 0
  | d :: r => uptoBulk d + uptoBulkAll r
def uptoBulkEntries {H : Type} : List (Lit × DataW H) → Nat
  | [] => 0
  | x :: r => uptoBulkEntry x + uptoBulkEntries r
def uptoBulkEntry {H : Type} : Lit × DataW H → Nat
  | (.string bytes, d) => bytes.length + uptoBulk d + 1
  | (_, d) => uptoBulk d + 1
 end
def uptoSmall : (H : Type) → List (DataW H) → Bool := fun _ ds => decide (uptoBulkAll ds ≤ 1048576)
def OpenSpec.upto (s : _root_.Go.ChangeSpec) : _root_.Go.OpenSpec := { _root_.Go.OpenSpec.ofChange s with cond := some uptoSmall }

/-- 'shibbolethlaw18.GexNames', WHERE WHAT IT READS IS OF BULK AT MOST 1048576: true; the input reads as it did. -/
def gexNamesUptoRow : OpenClaim := { program := "ytlonejkmdibkaaadoor", sum := "b20c43313a098ffdce8ee330740bea223b20a9f5e6125625dda2d63239bcd7a3", func := "shibboleth/shibbolethlaw18.GexNames", spec := "gexNames", inPlace := ["internal/bytealg.IndexByteString", "internal/bytealg.IndexString"], unfollowed := true, recurses := true, named := ["unicode/utf8.first", "unicode/utf8.acceptRanges", "internal/bytealg.MaxLen"], plainKeys := false, apart := false, laid := [("unicode/utf8.acceptRanges", laid_unicode_utf8_acceptRanges), ("unicode/utf8.first", laid_unicode_utf8_first)], narrowed := true }
def GexNamesUptoSaid : Prop := gexNamesUptoRow.holds Tryd.pinned (OpenSpec.upto gexNamesSpec)

/-- 'shibbolethlaw18.GexTable', WHERE WHAT IT READS IS OF BULK AT MOST 1048576: true; the input reads as it did. -/
def gexTableUptoRow : OpenClaim := { program := "ytlonejkmdibkaaadoor", sum := "b20c43313a098ffdce8ee330740bea223b20a9f5e6125625dda2d63239bcd7a3", func := "shibboleth/shibbolethlaw18.GexTable", spec := "gexTable", inPlace := ["internal/bytealg.IndexByteString", "internal/bytealg.IndexString"], unfollowed := true, recurses := true, named := ["unicode/utf8.first", "unicode/utf8.acceptRanges", "internal/bytealg.MaxLen"], plainKeys := false, apart := false, laid := [("unicode/utf8.acceptRanges", laid_unicode_utf8_acceptRanges), ("unicode/utf8.first", laid_unicode_utf8_first)], narrowed := true }
def GexTableUptoSaid : Prop := gexTableUptoRow.holds Tryd.pinned (OpenSpec.upto gexTableSpec)

/-- 'shibbolethlaw15.PrefsMethods', WHERE WHAT IT READS IS OF BULK AT MOST 1048576: true; the input reads as it did. -/
def prefsMethodsUptoRow : OpenClaim := { program := "ytlonejkmdibkaaadoor", sum := "b20c43313a098ffdce8ee330740bea223b20a9f5e6125625dda2d63239bcd7a3", func := "shibboleth/shibbolethlaw15.PrefsMethods", spec := "prefsMethods", inPlace := ["internal/bytealg.IndexByteString", "internal/bytealg.IndexString", "internal/abi.NoEscape", "internal/bytealg.MakeNoZero"], unfollowed := true, recurses := true, named := ["shibboleth/prefs.methods", "shibboleth/prefs.words", "internal/bytealg.MaxLen"], plainKeys := false, apart := false, laid := [("shibboleth/prefs.methods", laid_shibboleth_prefs_methods), ("shibboleth/prefs.words", laid_shibboleth_prefs_words)], narrowed := true }
def PrefsMethodsUptoSaid : Prop := prefsMethodsUptoRow.holds Tryd.pinned (OpenSpec.upto prefsMethodsSpec)

/-- 'shibbolethlaw15.PrefsLists', WHERE WHAT IT READS IS OF BULK AT MOST 1048576: true; the input reads as it did. -/
def prefsListsUptoRow : OpenClaim := { program := "ytlonejkmdibkaaadoor", sum := "b20c43313a098ffdce8ee330740bea223b20a9f5e6125625dda2d63239bcd7a3", func := "shibboleth/shibbolethlaw15.PrefsLists", spec := "prefsLists", inPlace := ["internal/bytealg.IndexByteString", "internal/bytealg.IndexString", "internal/abi.NoEscape", "internal/bytealg.MakeNoZero"], unfollowed := true, recurses := true, named := ["shibboleth/prefs.methods", "shibboleth/prefs.words", "internal/bytealg.MaxLen"], plainKeys := false, apart := false, laid := [("shibboleth/prefs.methods", laid_shibboleth_prefs_methods), ("shibboleth/prefs.words", laid_shibboleth_prefs_words)], narrowed := true }
def PrefsListsUptoSaid : Prop := prefsListsUptoRow.holds Tryd.pinned (OpenSpec.upto prefsListsSpec)

/-- 'shibbolethlaw18.GexPicks', WHERE WHAT IT READS IS OF BULK AT MOST 1048576: true; the input reads as it did. -/
def gexPicksUptoRow : OpenClaim := { program := "ytlonejkmdibkaaadoor", sum := "b20c43313a098ffdce8ee330740bea223b20a9f5e6125625dda2d63239bcd7a3", func := "shibboleth/shibbolethlaw18.GexPicks", spec := "gexPicks", inPlace := ["internal/bytealg.IndexByteString", "internal/bytealg.IndexString", "internal/reflectlite.ValueOf", "(internal/reflectlite.Value).Type", "(internal/reflectlite.Value).IsNil", "internal/reflectlite.TypeOf", "(internal/reflectlite.Value).Elem", "(internal/reflectlite.Value).Set"], unfollowed := true, recurses := true, named := ["unicode/utf8.first", "unicode/utf8.acceptRanges", "errors.errorType", "internal/bytealg.MaxLen"], plainKeys := false, apart := false, laid := [("unicode/utf8.acceptRanges", laid_unicode_utf8_acceptRanges), ("errors.errorType", laid_errors_errorType), ("unicode/utf8.first", laid_unicode_utf8_first)], narrowed := true }
def GexPicksUptoSaid : Prop := gexPicksUptoRow.holds Tryd.pinned (OpenSpec.upto gexPicksSpec)

/-- 'shibbolethlaw18.GexChecks', WHERE WHAT IT READS IS OF BULK AT MOST 1048576: true; the input reads as it did. -/
def gexChecksUptoRow : OpenClaim := { program := "ytlonejkmdibkaaadoor", sum := "b20c43313a098ffdce8ee330740bea223b20a9f5e6125625dda2d63239bcd7a3", func := "shibboleth/shibbolethlaw18.GexChecks", spec := "gexChecks", inPlace := ["internal/bytealg.IndexByteString", "internal/bytealg.IndexString", "internal/reflectlite.ValueOf", "(internal/reflectlite.Value).Type", "(internal/reflectlite.Value).IsNil", "internal/reflectlite.TypeOf", "(internal/reflectlite.Value).Elem", "(internal/reflectlite.Value).Set"], unfollowed := true, recurses := true, named := ["unicode/utf8.first", "unicode/utf8.acceptRanges", "errors.errorType", "internal/bytealg.MaxLen"], plainKeys := false, apart := false, laid := [("unicode/utf8.acceptRanges", laid_unicode_utf8_acceptRanges), ("errors.errorType", laid_errors_errorType), ("unicode/utf8.first", laid_unicode_utf8_first)], narrowed := true }
def GexChecksUptoSaid : Prop := gexChecksUptoRow.holds Tryd.pinned (OpenSpec.upto gexChecksSpec)

/-- 'shibbolethlaw15.PrefsCheck', WHERE WHAT IT READS IS OF BULK AT MOST 1048576: true; the input reads as it did. -/
def prefsCheckUptoRow : OpenClaim := { program := "ytlonejkmdibkaaadoor", sum := "b20c43313a098ffdce8ee330740bea223b20a9f5e6125625dda2d63239bcd7a3", func := "shibboleth/shibbolethlaw15.PrefsCheck", spec := "prefsCheck", inPlace := ["internal/bytealg.IndexByteString", "internal/bytealg.IndexString", "internal/abi.NoEscape", "internal/bytealg.MakeNoZero", "internal/reflectlite.ValueOf", "(internal/reflectlite.Value).Type", "(internal/reflectlite.Value).IsNil", "internal/reflectlite.TypeOf", "(internal/reflectlite.Value).Elem", "(internal/reflectlite.Value).Set"], unfollowed := true, recurses := true, named := ["shibboleth/prefs.methods", "shibboleth/prefs.words", "internal/bytealg.MaxLen", "errors.errorType"], plainKeys := false, apart := false, laid := [("errors.errorType", laid_errors_errorType), ("shibboleth/prefs.methods", laid_shibboleth_prefs_methods), ("shibboleth/prefs.words", laid_shibboleth_prefs_words)], narrowed := true }
def PrefsCheckUptoSaid : Prop := prefsCheckUptoRow.holds Tryd.pinned (OpenSpec.upto prefsCheckSpec)

/-- 'shibbolethlaw24.DenyChecks', WHERE WHAT IT READS IS OF BULK AT MOST 1048576: true; the input reads as it did. -/
def denyChecksUptoRow : OpenClaim := { program := "ytlonejkmdibkaaadoor", sum := "b20c43313a098ffdce8ee330740bea223b20a9f5e6125625dda2d63239bcd7a3", func := "shibboleth/shibbolethlaw24.DenyChecks", spec := "denyChecks", inPlace := ["internal/bytealg.IndexByteString", "internal/bytealg.IndexString", "internal/abi.NoEscape", "internal/bytealg.MakeNoZero", "internal/reflectlite.ValueOf", "(internal/reflectlite.Value).Type", "(internal/reflectlite.Value).IsNil", "internal/reflectlite.TypeOf", "(internal/reflectlite.Value).Elem", "(internal/reflectlite.Value).Set"], unfollowed := true, recurses := true, named := ["internal/bytealg.MaxLen", "errors.errorType"], plainKeys := false, apart := false, laid := [("errors.errorType", laid_errors_errorType)], narrowed := true }
def DenyChecksUptoSaid : Prop := denyChecksUptoRow.holds Tryd.pinned (OpenSpec.upto denyChecksSpec)

/-- 'shibbolethlaw24.DenyCounts', WHERE WHAT IT READS IS OF BULK AT MOST 1048576: true; the input reads as it did. -/
def denyCountsUptoRow : OpenClaim := { program := "ytlonejkmdibkaaadoor", sum := "b20c43313a098ffdce8ee330740bea223b20a9f5e6125625dda2d63239bcd7a3", func := "shibboleth/shibbolethlaw24.DenyCounts", spec := "denyCounts", inPlace := ["internal/bytealg.IndexByteString", "internal/bytealg.IndexString", "internal/abi.NoEscape", "internal/bytealg.MakeNoZero"], named := ["internal/bytealg.MaxLen", "internal/strconv.uint64pow10", "math/bits.deBruijn32tab", "math/bits.deBruijn64tab"], plainKeys := false, apart := false, laid := [("math/bits.deBruijn32tab", laid_math_bits_deBruijn32tab), ("math/bits.deBruijn64tab", laid_math_bits_deBruijn64tab), ("internal/strconv.uint64pow10", laid_internal_strconv_uint64pow10)], narrowed := true }
def DenyCountsUptoSaid : Prop := denyCountsUptoRow.holds Tryd.pinned (OpenSpec.upto denyCountsSpec)

/-- 'shibbolethlaw24.DenyHas', WHERE WHAT IT READS IS OF BULK AT MOST 1048576: true; the input reads as it did. -/
def denyHasUptoRow : OpenClaim := { program := "ytlonejkmdibkaaadoor", sum := "b20c43313a098ffdce8ee330740bea223b20a9f5e6125625dda2d63239bcd7a3", func := "shibboleth/shibbolethlaw24.DenyHas", spec := "denyHas", inPlace := ["internal/bytealg.IndexByteString", "internal/bytealg.IndexString", "internal/abi.NoEscape", "internal/bytealg.MakeNoZero"], recurses := true, named := ["internal/bytealg.MaxLen", "internal/strconv.uint64pow10", "math/bits.deBruijn32tab", "math/bits.deBruijn64tab"], plainKeys := false, apart := false, laid := [("math/bits.deBruijn32tab", laid_math_bits_deBruijn32tab), ("math/bits.deBruijn64tab", laid_math_bits_deBruijn64tab), ("internal/strconv.uint64pow10", laid_internal_strconv_uint64pow10)], narrowed := true }
def DenyHasUptoSaid : Prop := denyHasUptoRow.holds Tryd.pinned (OpenSpec.upto denyHasSpec)

end Rows
end Go.Proofs.YtlonejkmdibkaaaDoor
