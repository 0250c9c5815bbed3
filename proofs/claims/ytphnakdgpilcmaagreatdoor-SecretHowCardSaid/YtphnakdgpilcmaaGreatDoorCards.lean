/-
  DERIVED. GIVEN WITH THE SEED: THE CARDS: each row of YtphnakdgpilcmaaGreatDoorRows.lean that lists a variable, with what it lists TIED to the program's text (the seventh form; the later family's looks); each row that meets fmt, with fmt's text TOLD by the authors' own Lean function (tested against real Go, not proved from fmt's source: count such statements apart). THE CARD IS WHAT COUNTS. Prove the row's statement (the work); the ties are given (YtphnakdgpilcmaaGreatDoorTie.lean); close each card by the builder's one call (the guide's Derived/Test/ToyasCard.lean, 'card_holds'). Laid BY PROGRAM, IN A SANDBOX (cutbox-door.mjs). By AI agents, Wed Nov 11 2026. No macro, syntax, notation, axiom, sorry.
-/
import Derived.Test.YtphnakdgpilcmaaGreatDoorRows
import GoSem.ClaimSeven
namespace Go.Proofs.YtphnakdgpilcmaaGreatDoor
namespace Rows

/-- THE TIED CARD OF 'shibbolethlaw33.SecretMore'. -/
def secretMoreCard : Claim7 := { stood := { row := secretMoreRow, standIns := [], harness := (true, "f4c9d3239c4376cb04ea80325b68b397f3999212c5c0127f657e49cb64c98e92"), looks := false }, kinds := [], alts := [], laidByText := true, laidKinds := [.data, .data, .data], laidTests := true, laidLooks := .later }
def SecretMoreCardSaid : Prop := Claim7.holds Tryz.pinned (.plain (OpenSpec.ofChange secretMoreSpec)) secretMoreCard

/-- THE TIED CARD OF 'shibbolethlaw33.SecretRecipes'. -/
def secretRecipesCard : Claim7 := { stood := { row := secretRecipesRow, standIns := [], harness := (true, "f4c9d3239c4376cb04ea80325b68b397f3999212c5c0127f657e49cb64c98e92"), looks := false }, kinds := [], alts := [], laidByText := true, laidKinds := [.data, .data, .data], laidTests := true, laidLooks := .later }
def SecretRecipesCardSaid : Prop := Claim7.holds Tryz.pinned (.plain (OpenSpec.ofChange secretRecipesSpec)) secretRecipesCard

/-- THE TIED CARD OF 'shibbolethlaw33.SecretHow'. -/
def secretHowCard : Claim7 := { stood := { row := secretHowRow, standIns := [], harness := (true, "f4c9d3239c4376cb04ea80325b68b397f3999212c5c0127f657e49cb64c98e92"), looks := false }, kinds := [], alts := [], laidByText := true, laidKinds := [.data, .data, .data], laidTests := true, laidLooks := .later }
def SecretHowCardSaid : Prop := Claim7.holds Tryz.pinned (.plain (OpenSpec.ofChange secretHowSpec)) secretHowCard

/-- THE TIED CARD OF 'shibbolethlaw33.SecretCan'. -/
def secretCanCard : Claim7 := { stood := { row := secretCanRow, standIns := [], harness := (true, "f4c9d3239c4376cb04ea80325b68b397f3999212c5c0127f657e49cb64c98e92"), looks := false }, kinds := [], alts := [], laidByText := true, laidKinds := [.data, .data, .data], laidTests := true, laidLooks := .later }
def SecretCanCardSaid : Prop := Claim7.holds Tryz.pinned (.plain (OpenSpec.ofChange secretCanSpec)) secretCanCard

/-- THE SECOND FORM's CARD OF 'shibbolethlaw33.SecretMore'. -/
def secretMoreUptoCard : Claim7 := { stood := { row := secretMoreUptoRow, standIns := [], harness := (true, "f4c9d3239c4376cb04ea80325b68b397f3999212c5c0127f657e49cb64c98e92"), looks := false }, kinds := [], alts := [], laidByText := true, laidKinds := [.data, .data, .data], laidTests := true, laidLooks := .later }
def SecretMoreUptoCardSaid : Prop := Claim7.holds Tryz.pinned (.plain (OpenSpec.upto secretMoreSpec)) secretMoreUptoCard

/-- THE SECOND FORM's CARD OF 'shibbolethlaw33.SecretRecipes'. -/
def secretRecipesUptoCard : Claim7 := { stood := { row := secretRecipesUptoRow, standIns := [], harness := (true, "f4c9d3239c4376cb04ea80325b68b397f3999212c5c0127f657e49cb64c98e92"), looks := false }, kinds := [], alts := [], laidByText := true, laidKinds := [.data, .data, .data], laidTests := true, laidLooks := .later }
def SecretRecipesUptoCardSaid : Prop := Claim7.holds Tryz.pinned (.plain (OpenSpec.upto secretRecipesSpec)) secretRecipesUptoCard

/-- THE SECOND FORM's CARD OF 'shibbolethlaw33.SecretHow'. -/
def secretHowUptoCard : Claim7 := { stood := { row := secretHowUptoRow, standIns := [], harness := (true, "f4c9d3239c4376cb04ea80325b68b397f3999212c5c0127f657e49cb64c98e92"), looks := false }, kinds := [], alts := [], laidByText := true, laidKinds := [.data, .data, .data], laidTests := true, laidLooks := .later }
def SecretHowUptoCardSaid : Prop := Claim7.holds Tryz.pinned (.plain (OpenSpec.upto secretHowSpec)) secretHowUptoCard

/-- THE SECOND FORM's CARD OF 'shibbolethlaw33.SecretCan'. -/
def secretCanUptoCard : Claim7 := { stood := { row := secretCanUptoRow, standIns := [], harness := (true, "f4c9d3239c4376cb04ea80325b68b397f3999212c5c0127f657e49cb64c98e92"), looks := false }, kinds := [], alts := [], laidByText := true, laidKinds := [.data, .data, .data], laidTests := true, laidLooks := .later }
def SecretCanUptoCardSaid : Prop := Claim7.holds Tryz.pinned (.plain (OpenSpec.upto secretCanSpec)) secretCanUptoCard
end Rows
end Go.Proofs.YtphnakdgpilcmaaGreatDoor
