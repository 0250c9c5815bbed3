/-
  DERIVED. GIVEN WITH THE SEED: THE CARDS: each row of YtjiepgldgcghlaaDoorRows.lean that lists a variable, with what it lists TIED to the program's text (the seventh form; the later family's looks); each row that meets fmt, with fmt's text TOLD by the authors' own Lean function (tested against real Go, not proved from fmt's source: count such statements apart). THE CARD IS WHAT COUNTS. Prove the row's statement (the work); the ties are given (YtjiepgldgcghlaaDoorTie.lean); close each card by the builder's one call (the guide's Derived/Test/ToyasCard.lean, 'card_holds'). Laid BY PROGRAM, IN A SANDBOX (cutbox-door.mjs). By AI agents, Wed Nov 11 2026. No macro, syntax, notation, axiom, sorry.
-/
import Derived.Test.YtjiepgldgcghlaaDoorRows
import GoSem.ClaimSeven
namespace Go.Proofs.YtjiepgldgcghlaaDoor
namespace Rows

/-- THE TIED CARD OF 'shibbolethlaw03.WireWhole'. -/
def wireWholeCard : Claim7 := { stood := { row := wireWholeRow, standIns := [], harness := (true, "5078646e0c9c5a5c4e4711de050f2aae56e49f8fdb42ec2f353fa3530557163a"), looks := true }, kinds := [], alts := [], laidByText := true, laidKinds := [.data, .pinned], laidTests := true, laidLooks := .later }
def WireWholeCardSaid : Prop := Claim7.holds Tryd.pinned (.plain (OpenSpec.ofChange wireWholeSpec)) wireWholeCard

/-- THE TIED CARD OF 'shibbolethlaw05.FaultWraps'. -/
def faultWrapsCard : Claim7 := { stood := { row := faultWrapsRow, standIns := [], harness := (true, "5078646e0c9c5a5c4e4711de050f2aae56e49f8fdb42ec2f353fa3530557163a"), looks := true }, kinds := [], alts := [], laidByText := true, laidKinds := [.handle], laidTests := true, laidLooks := .later }
def FaultWrapsCardSaid : Prop := Claim7.holds Tryd.pinned (.plain (OpenSpec.ofChange faultWrapsSpec)) faultWrapsCard

/-- THE TIED CARD OF 'shibbolethlaw05.FaultPlain'. -/
def faultPlainCard : Claim7 := { stood := { row := faultPlainRow, standIns := [], harness := (true, "5078646e0c9c5a5c4e4711de050f2aae56e49f8fdb42ec2f353fa3530557163a"), looks := true }, kinds := [], alts := [], laidByText := true, laidKinds := [.handle], laidTests := true, laidLooks := .later }
def FaultPlainCardSaid : Prop := Claim7.holds Tryd.pinned (.plain (OpenSpec.ofChange faultPlainSpec)) faultPlainCard

/-- THE TIED CARD OF 'shibbolethlaw05.FaultOdd'. -/
def faultOddCard : Claim7 := { stood := { row := faultOddRow, standIns := [], harness := (true, "5078646e0c9c5a5c4e4711de050f2aae56e49f8fdb42ec2f353fa3530557163a"), looks := true }, kinds := [], alts := [], laidByText := true, laidKinds := [.handle], laidTests := true, laidLooks := .later }
def FaultOddCardSaid : Prop := Claim7.holds Tryd.pinned (.plain (OpenSpec.ofChange faultOddSpec)) faultOddCard

/-- THE TIED CARD OF 'shibbolethlaw03.WireReads'. -/
def wireReadsCard : Claim7 := { stood := { row := wireReadsRow, standIns := [], harness := (true, "5078646e0c9c5a5c4e4711de050f2aae56e49f8fdb42ec2f353fa3530557163a"), looks := true }, kinds := [], alts := [], laidByText := true, laidKinds := [.data, .pinned], laidTests := true, laidLooks := .later }
def WireReadsCardSaid : Prop := Claim7.holds Tryd.pinned (.plain (OpenSpec.ofChange wireReadsSpec)) wireReadsCard

/-- THE TIED CARD OF 'shibbolethlaw03.WireBack'. -/
def wireBackCard : Claim7 := { stood := { row := wireBackRow, standIns := [], harness := (true, "5078646e0c9c5a5c4e4711de050f2aae56e49f8fdb42ec2f353fa3530557163a"), looks := true }, kinds := [], alts := [], laidByText := true, laidKinds := [.data, .pinned], laidTests := true, laidLooks := .later }
def WireBackCardSaid : Prop := Claim7.holds Tryd.pinned (.plain (OpenSpec.ofChange wireBackSpec)) wireBackCard

/-- THE SECOND FORM's CARD OF 'shibbolethlaw03.WireWhole'. -/
def wireWholeUptoCard : Claim7 := { stood := { row := wireWholeUptoRow, standIns := [], harness := (true, "5078646e0c9c5a5c4e4711de050f2aae56e49f8fdb42ec2f353fa3530557163a"), looks := true }, kinds := [], alts := [], laidByText := true, laidKinds := [.data, .pinned], laidTests := true, laidLooks := .later }
def WireWholeUptoCardSaid : Prop := Claim7.holds Tryd.pinned (.plain (OpenSpec.upto wireWholeSpec)) wireWholeUptoCard

/-- THE SECOND FORM's CARD OF 'shibbolethlaw05.FaultWraps'. -/
def faultWrapsUptoCard : Claim7 := { stood := { row := faultWrapsUptoRow, standIns := [], harness := (true, "5078646e0c9c5a5c4e4711de050f2aae56e49f8fdb42ec2f353fa3530557163a"), looks := true }, kinds := [], alts := [], laidByText := true, laidKinds := [.handle], laidTests := true, laidLooks := .later }
def FaultWrapsUptoCardSaid : Prop := Claim7.holds Tryd.pinned (.plain (OpenSpec.upto faultWrapsSpec)) faultWrapsUptoCard

/-- THE SECOND FORM's CARD OF 'shibbolethlaw05.FaultPlain'. -/
def faultPlainUptoCard : Claim7 := { stood := { row := faultPlainUptoRow, standIns := [], harness := (true, "5078646e0c9c5a5c4e4711de050f2aae56e49f8fdb42ec2f353fa3530557163a"), looks := true }, kinds := [], alts := [], laidByText := true, laidKinds := [.handle], laidTests := true, laidLooks := .later }
def FaultPlainUptoCardSaid : Prop := Claim7.holds Tryd.pinned (.plain (OpenSpec.upto faultPlainSpec)) faultPlainUptoCard

/-- THE SECOND FORM's CARD OF 'shibbolethlaw05.FaultOdd'. -/
def faultOddUptoCard : Claim7 := { stood := { row := faultOddUptoRow, standIns := [], harness := (true, "5078646e0c9c5a5c4e4711de050f2aae56e49f8fdb42ec2f353fa3530557163a"), looks := true }, kinds := [], alts := [], laidByText := true, laidKinds := [.handle], laidTests := true, laidLooks := .later }
def FaultOddUptoCardSaid : Prop := Claim7.holds Tryd.pinned (.plain (OpenSpec.upto faultOddSpec)) faultOddUptoCard

/-- THE SECOND FORM's CARD OF 'shibbolethlaw03.WireReads'. -/
def wireReadsUptoCard : Claim7 := { stood := { row := wireReadsUptoRow, standIns := [], harness := (true, "5078646e0c9c5a5c4e4711de050f2aae56e49f8fdb42ec2f353fa3530557163a"), looks := true }, kinds := [], alts := [], laidByText := true, laidKinds := [.data, .pinned], laidTests := true, laidLooks := .later }
def WireReadsUptoCardSaid : Prop := Claim7.holds Tryd.pinned (.plain (OpenSpec.upto wireReadsSpec)) wireReadsUptoCard

/-- THE SECOND FORM's CARD OF 'shibbolethlaw03.WireBack'. -/
def wireBackUptoCard : Claim7 := { stood := { row := wireBackUptoRow, standIns := [], harness := (true, "5078646e0c9c5a5c4e4711de050f2aae56e49f8fdb42ec2f353fa3530557163a"), looks := true }, kinds := [], alts := [], laidByText := true, laidKinds := [.data, .pinned], laidTests := true, laidLooks := .later }
def WireBackUptoCardSaid : Prop := Claim7.holds Tryd.pinned (.plain (OpenSpec.upto wireBackSpec)) wireBackUptoCard
end Rows
end Go.Proofs.YtjiepgldgcghlaaDoor
