/-
  No cell of these rows narrows 'for every input' (looked for: loops, veiled, ifaces, maps, wideKeys, modest, calm, conditions, laid).
  DERIVED. THE GIVEN ROWS OF THIS SEAT. 3 by the template 'for every input the law returns true; each argument reads behind the call as it read before'; 0 by the template 'total and deterministic' (their statements: YtkgkpoiacbjdfaaTotals.lean).
  GIVEN WITH THE SEED: the statements are not yours to turn. If you find one false, say at which input.
  Laid BY PROGRAM, IN A SANDBOX (cutbox-rows.mjs): the forced cells as the released guide's own fill.sh prints them over the translation 60733cc6d9bf8ba4… (all of the seat's roots in one cut). By AI agents, Wed Nov 11 2026. No macro, syntax, notation, axiom, sorry.
-/
import Derived.Test.YtkgkpoiacbjdfaaChecked
import GoSem.Claim
import GoSem.ClaimJoined
import GoSem.ClaimMapViews
import Derived.JoinedTies
import Derived.KernelRfl
namespace Go.Proofs.Ytkgkpoiacbjdfaa
/- THE CELL 'sum', in the pinned program and in every row, IS THE sha256 OF THE DUMP (.gsa) THAT YtkgkpoiacbjdfaaProg.lean LOADS. Nothing in Lean hashes anything: it is a label: what it is worth is what the hold of that sum in a sandbox is worth. -/
noncomputable def Try.pinned : Pinned := { name := "ytkgkpoiacbjdfaa", sum := "60733cc6d9bf8ba4f5654b38634780ff6c8e7bb82de5c0fdfe4d66736aecbb73", checked := Try.checked }
namespace Rows
def none {H : Type} : Left H := { results := [], args := [] }

/-- 'shibbolethlaw31.TrustPartners': WHATEVER THE INPUT: true; the input reads as it did. -/
def trustPartnersSpec : ChangeSpec := { name := "trustPartners", fn := fun _ => fun
  | [d1, d2] => { results := [.lit (.bool true)], args := [d1, d2] }
  | _ => none }
def trustPartnersRow : OpenClaim := { program := "ytkgkpoiacbjdfaa", sum := "60733cc6d9bf8ba4f5654b38634780ff6c8e7bb82de5c0fdfe4d66736aecbb73", func := "shibboleth/shibbolethlaw31.TrustPartners", spec := "trustPartners", unfollowed := true, recurses := true, apart := false }
def TrustPartnersSaid : Prop := trustPartnersRow.holds Try.pinned (OpenSpec.ofChange trustPartnersSpec)

/-- ITS FALSE NEIGHBOUR: 'it returns false'. Refute it at one input. -/
def trustPartnersWrong : ChangeSpec := { name := "trustPartners", fn := fun _ => fun
  | [d1, d2] => { results := [.lit (.bool false)], args := [d1, d2] }
  | _ => none }
def TrustPartnersWrongFalsely : Prop := trustPartnersRow.holds Try.pinned (OpenSpec.ofChange trustPartnersWrong)

/-- 'shibbolethlaw37.CensusSessions': WHATEVER THE INPUT: true; the input reads as it did. -/
def censusSessionsSpec : ChangeSpec := { name := "censusSessions", fn := fun _ => fun
  | [d] => { results := [.lit (.bool true)], args := [d] }
  | _ => none }
def censusSessionsRow : OpenClaim := { program := "ytkgkpoiacbjdfaa", sum := "60733cc6d9bf8ba4f5654b38634780ff6c8e7bb82de5c0fdfe4d66736aecbb73", func := "shibboleth/shibbolethlaw37.CensusSessions", spec := "censusSessions", unfollowed := true, recurses := true, apart := false }
def CensusSessionsSaid : Prop := censusSessionsRow.holds Try.pinned (OpenSpec.ofChange censusSessionsSpec)

/-- ITS FALSE NEIGHBOUR: 'it returns false'. Refute it at one input. -/
def censusSessionsWrong : ChangeSpec := { name := "censusSessions", fn := fun _ => fun
  | [d] => { results := [.lit (.bool false)], args := [d] }
  | _ => none }
def CensusSessionsWrongFalsely : Prop := censusSessionsRow.holds Try.pinned (OpenSpec.ofChange censusSessionsWrong)

/-- 'shibbolethlaw37.CensusNames': WHATEVER THE INPUT: true; the input reads as it did. -/
def censusNamesSpec : ChangeSpec := { name := "censusNames", fn := fun _ => fun
  | [d1, d2, d3] => { results := [.lit (.bool true)], args := [d1, d2, d3] }
  | _ => none }
def censusNamesRow : OpenClaim := { program := "ytkgkpoiacbjdfaa", sum := "60733cc6d9bf8ba4f5654b38634780ff6c8e7bb82de5c0fdfe4d66736aecbb73", func := "shibboleth/shibbolethlaw37.CensusNames", spec := "censusNames", unfollowed := true, recurses := true, apart := false }
def CensusNamesSaid : Prop := censusNamesRow.holds Try.pinned (OpenSpec.ofChange censusNamesSpec)

/-- ITS FALSE NEIGHBOUR: 'it returns false'. Refute it at one input. -/
def censusNamesWrong : ChangeSpec := { name := "censusNames", fn := fun _ => fun
  | [d1, d2, d3] => { results := [.lit (.bool false)], args := [d1, d2, d3] }
  | _ => none }
def CensusNamesWrongFalsely : Prop := censusNamesRow.holds Try.pinned (OpenSpec.ofChange censusNamesWrong)

/- THE SECOND FORM. 'bulk': how many values and letters a reading holds, each counted each time it is reached (what is shared counts as often as it is met; a slice's spare places count too). A statement '..UptoSaid' is the law's where the arguments, and the package variables that the reading takes, are together of bulk at most 1048576: NARROWER than '..Said'. Prove '..Said' where nothing that the law and all that it calls make is longer than what came in: it says more and counts as full. Else prove '..UptoSaid'. A law counts once. -/
mutual
def uptoBulk {H : Type} : DataW H → Nat
  | .lit (.string bytes) => bytes.length + 1
  | .lit _ => 1
  | .nil => 1
  | .ptr d => uptoBulk d + 1
  | .slice elems spare => uptoBulkAll elems + uptoBulkAll spare + 1
  | .agg parts => uptoBulkAll parts + 1
  | .iface _ d => uptoBulk d + 1
  | .map entries => uptoBulkEntries entries + 1
  | .held _ => 1
def uptoBulkAll {H : Type} : List (DataW H) → Nat
  | [] => 0
  | d :: r => uptoBulk d + uptoBulkAll r
def uptoBulkEntries {H : Type} : List (Lit × DataW H) → Nat
  | [] => 0
  | x :: r => uptoBulkEntry x + uptoBulkEntries r
def uptoBulkEntry {H : Type} : Lit × DataW H → Nat
  | (.string bytes, d) => bytes.length + uptoBulk d + 1
  | (_, d) => uptoBulk d + 1
 end
def uptoSmall : (H : Type) → List (DataW H) → Bool := fun _ ds => decide (uptoBulkAll ds ≤ 1048576)
def OpenSpec.upto (s : _root_.Go.ChangeSpec) : _root_.Go.OpenSpec := { _root_.Go.OpenSpec.ofChange s with cond := some uptoSmall }

/-- 'shibbolethlaw31.TrustPartners', WHERE WHAT IT READS IS OF BULK AT MOST 1048576: true; the input reads as it did. -/
def trustPartnersUptoRow : OpenClaim := { program := "ytkgkpoiacbjdfaa", sum := "60733cc6d9bf8ba4f5654b38634780ff6c8e7bb82de5c0fdfe4d66736aecbb73", func := "shibboleth/shibbolethlaw31.TrustPartners", spec := "trustPartners", unfollowed := true, recurses := true, apart := false, narrowed := true }
def TrustPartnersUptoSaid : Prop := trustPartnersUptoRow.holds Try.pinned (OpenSpec.upto trustPartnersSpec)

/-- 'shibbolethlaw37.CensusSessions', WHERE WHAT IT READS IS OF BULK AT MOST 1048576: true; the input reads as it did. -/
def censusSessionsUptoRow : OpenClaim := { program := "ytkgkpoiacbjdfaa", sum := "60733cc6d9bf8ba4f5654b38634780ff6c8e7bb82de5c0fdfe4d66736aecbb73", func := "shibboleth/shibbolethlaw37.CensusSessions", spec := "censusSessions", unfollowed := true, recurses := true, apart := false, narrowed := true }
def CensusSessionsUptoSaid : Prop := censusSessionsUptoRow.holds Try.pinned (OpenSpec.upto censusSessionsSpec)

/-- 'shibbolethlaw37.CensusNames', WHERE WHAT IT READS IS OF BULK AT MOST 1048576: true; the input reads as it did. -/
def censusNamesUptoRow : OpenClaim := { program := "ytkgkpoiacbjdfaa", sum := "60733cc6d9bf8ba4f5654b38634780ff6c8e7bb82de5c0fdfe4d66736aecbb73", func := "shibboleth/shibbolethlaw37.CensusNames", spec := "censusNames", unfollowed := true, recurses := true, apart := false, narrowed := true }
def CensusNamesUptoSaid : Prop := censusNamesUptoRow.holds Try.pinned (OpenSpec.upto censusNamesSpec)

end Rows
end Go.Proofs.Ytkgkpoiacbjdfaa
