/-
  DERIVED. GIVEN WITH THE SEED: THE CARDS: each row of YtifliohljcafgaaDoorRows.lean that lists a variable, with what it lists TIED to the program's text (the seventh form; the later family's looks); each row that meets fmt, with fmt's text TOLD by the authors' own Lean function (tested against real Go, not proved from fmt's source: count such statements apart). THE CARD IS WHAT COUNTS. Prove the row's statement (the work); the ties are given (YtifliohljcafgaaDoorTie.lean); close each card by the builder's one call (the guide's Derived/Test/ToyasCard.lean, 'card_holds'). Laid BY PROGRAM, IN A SANDBOX (cutbox-door.mjs). By AI agents, Wed Nov 11 2026. No macro, syntax, notation, axiom, sorry.
-/
import Derived.Test.YtifliohljcafgaaDoorRows
import GoSem.ClaimSeven
namespace Go.Proofs.YtifliohljcafgaaDoor
namespace Rows

/-- THE TIED CARD OF 'shibbolethlaw24.DenyCounts'. -/
def denyCountsCard : Claim7 := { stood := { row := denyCountsRow, standIns := [], harness := (true, "cb6a1aa2317c18e636bbfe0f93db53529af56c46e54be40f93ba6d6a50441d22"), looks := false }, kinds := [], alts := [], laidByText := true, laidKinds := [.data, .data, .data], laidTests := true, laidLooks := .later }
def DenyCountsCardSaid : Prop := Claim7.holds Tryd.pinned (.plain (OpenSpec.ofChange denyCountsSpec)) denyCountsCard

/-- THE TIED CARD OF 'shibbolethlaw24.DenyHas'. -/
def denyHasCard : Claim7 := { stood := { row := denyHasRow, standIns := [], harness := (true, "cb6a1aa2317c18e636bbfe0f93db53529af56c46e54be40f93ba6d6a50441d22"), looks := false }, kinds := [], alts := [], laidByText := true, laidKinds := [.data, .data, .data], laidTests := true, laidLooks := .later }
def DenyHasCardSaid : Prop := Claim7.holds Tryd.pinned (.plain (OpenSpec.ofChange denyHasSpec)) denyHasCard

/-- THE SECOND FORM's CARD OF 'shibbolethlaw24.DenyCounts'. -/
def denyCountsUptoCard : Claim7 := { stood := { row := denyCountsUptoRow, standIns := [], harness := (true, "cb6a1aa2317c18e636bbfe0f93db53529af56c46e54be40f93ba6d6a50441d22"), looks := false }, kinds := [], alts := [], laidByText := true, laidKinds := [.data, .data, .data], laidTests := true, laidLooks := .later }
def DenyCountsUptoCardSaid : Prop := Claim7.holds Tryd.pinned (.plain (OpenSpec.upto denyCountsSpec)) denyCountsUptoCard

/-- THE SECOND FORM's CARD OF 'shibbolethlaw24.DenyHas'. -/
def denyHasUptoCard : Claim7 := { stood := { row := denyHasUptoRow, standIns := [], harness := (true, "cb6a1aa2317c18e636bbfe0f93db53529af56c46e54be40f93ba6d6a50441d22"), looks := false }, kinds := [], alts := [], laidByText := true, laidKinds := [.data, .data, .data], laidTests := true, laidLooks := .later }
def DenyHasUptoCardSaid : Prop := Claim7.holds Tryd.pinned (.plain (OpenSpec.upto denyHasSpec)) denyHasUptoCard
end Rows
end Go.Proofs.YtifliohljcafgaaDoor
