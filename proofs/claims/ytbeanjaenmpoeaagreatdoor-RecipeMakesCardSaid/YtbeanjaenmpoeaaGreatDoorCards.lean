/-
  DERIVED. GIVEN WITH THE SEED: THE CARDS: each row of YtbeanjaenmpoeaaGreatDoorRows.lean that lists a variable, with what it lists TIED to the program's text (the seventh form; the later family's looks); each row that meets fmt, with fmt's text TOLD by the authors' own Lean function (tested against real Go, not proved from fmt's source: count such statements apart). THE CARD IS WHAT COUNTS. Prove the row's statement (the work); the ties are given (YtbeanjaenmpoeaaGreatDoorTie.lean); close each card by the builder's one call (the guide's Derived/Test/ToyasCard.lean, 'card_holds'). Laid BY PROGRAM, IN A SANDBOX (cutbox-door.mjs). By AI agents, Wed Nov 11 2026. No macro, syntax, notation, axiom, sorry.
-/
import Derived.Test.YtbeanjaenmpoeaaGreatDoorRows
import GoSem.ClaimSeven
namespace Go.Proofs.YtbeanjaenmpoeaaGreatDoor
namespace Rows

/-- THE TIED CARD OF 'shibbolethlaw21.KeysSix'. -/
def keysSixCard : Claim7 := { stood := { row := keysSixRow, standIns := [], harness := (true, "97c8b89eabb6652cd47f1be06d18d8141b4fc5ec8c6ba1acdc5e692c05937449"), looks := false }, kinds := [], alts := [], laidByText := true, laidKinds := [.data, .data, .data], laidTests := true, laidLooks := .later }
def KeysSixCardSaid : Prop := Claim7.holds Tryz.pinned (.plain (OpenSpec.ofChange keysSixSpec)) keysSixCard

/-- THE TIED CARD OF 'shibbolethlaw19.ShareAny'. -/
def shareAnyCard : Claim7 := { stood := { row := shareAnyRow, standIns := [], harness := (true, "97c8b89eabb6652cd47f1be06d18d8141b4fc5ec8c6ba1acdc5e692c05937449"), looks := false }, kinds := [], alts := [], laidByText := true, laidKinds := [.data, .data, .data], laidTests := true, laidLooks := .later }
def ShareAnyCardSaid : Prop := Claim7.holds Tryz.pinned (.plain (OpenSpec.ofChange shareAnySpec)) shareAnyCard

/-- THE TIED CARD OF 'shibbolethlaw14.RecipeMakes'. -/
def recipeMakesCard : Claim7 := { stood := { row := recipeMakesRow, standIns := [], harness := (true, "97c8b89eabb6652cd47f1be06d18d8141b4fc5ec8c6ba1acdc5e692c05937449"), looks := false }, kinds := [], alts := [], laidByText := true, laidKinds := [.data, .data, .data], laidTests := true, laidLooks := .later }
def RecipeMakesCardSaid : Prop := Claim7.holds Tryz.pinned (.plain (OpenSpec.ofChange recipeMakesSpec)) recipeMakesCard

/-- THE SECOND FORM's CARD OF 'shibbolethlaw21.KeysSix'. -/
def keysSixUptoCard : Claim7 := { stood := { row := keysSixUptoRow, standIns := [], harness := (true, "97c8b89eabb6652cd47f1be06d18d8141b4fc5ec8c6ba1acdc5e692c05937449"), looks := false }, kinds := [], alts := [], laidByText := true, laidKinds := [.data, .data, .data], laidTests := true, laidLooks := .later }
def KeysSixUptoCardSaid : Prop := Claim7.holds Tryz.pinned (.plain (OpenSpec.upto keysSixSpec)) keysSixUptoCard

/-- THE SECOND FORM's CARD OF 'shibbolethlaw19.ShareAny'. -/
def shareAnyUptoCard : Claim7 := { stood := { row := shareAnyUptoRow, standIns := [], harness := (true, "97c8b89eabb6652cd47f1be06d18d8141b4fc5ec8c6ba1acdc5e692c05937449"), looks := false }, kinds := [], alts := [], laidByText := true, laidKinds := [.data, .data, .data], laidTests := true, laidLooks := .later }
def ShareAnyUptoCardSaid : Prop := Claim7.holds Tryz.pinned (.plain (OpenSpec.upto shareAnySpec)) shareAnyUptoCard

/-- THE SECOND FORM's CARD OF 'shibbolethlaw14.RecipeMakes'. -/
def recipeMakesUptoCard : Claim7 := { stood := { row := recipeMakesUptoRow, standIns := [], harness := (true, "97c8b89eabb6652cd47f1be06d18d8141b4fc5ec8c6ba1acdc5e692c05937449"), looks := false }, kinds := [], alts := [], laidByText := true, laidKinds := [.data, .data, .data], laidTests := true, laidLooks := .later }
def RecipeMakesUptoCardSaid : Prop := Claim7.holds Tryz.pinned (.plain (OpenSpec.upto recipeMakesSpec)) recipeMakesUptoCard
end Rows
end Go.Proofs.YtbeanjaenmpoeaaGreatDoor
