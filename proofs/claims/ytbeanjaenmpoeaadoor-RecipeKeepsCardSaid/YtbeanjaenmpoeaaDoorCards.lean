/-
  DERIVED. GIVEN WITH THE SEED: THE CARDS: each row of YtbeanjaenmpoeaaDoorRows.lean that lists a variable, with what it lists TIED to the program's text (the seventh form; the later family's looks); each row that meets fmt, with fmt's text TOLD by the authors' own Lean function (tested against real Go, not proved from fmt's source: count such statements apart). THE CARD IS WHAT COUNTS. Prove the row's statement (the work); the ties are given (YtbeanjaenmpoeaaDoorTie.lean); close each card by the builder's one call (the guide's Derived/Test/ToyasCard.lean, 'card_holds'). Laid BY PROGRAM, IN A SANDBOX (cutbox-door.mjs). By AI agents, Wed Nov 11 2026. No macro, syntax, notation, axiom, sorry.
-/
import Derived.Test.YtbeanjaenmpoeaaDoorRows
import GoSem.ClaimSeven
namespace Go.Proofs.YtbeanjaenmpoeaaDoor
namespace Rows

/-- THE TIED CARD OF 'shibbolethlaw01.TermLong'. -/
def termLongCard : Claim7 := { stood := { row := termLongRow, standIns := [], harness := (true, "bec673d2bf60518ce1a042471ccb46386d6288a0dd99382e01a0a4b642ceafeb"), looks := false }, kinds := [], alts := [], laidByText := true, laidKinds := [.data, .data, .data], laidTests := true, laidLooks := .later }
def TermLongCardSaid : Prop := Claim7.holds Tryd.pinned (.plain (OpenSpec.ofChange termLongSpec)) termLongCard

/-- THE TIED CARD OF 'shibbolethlaw01.TermShares'. -/
def termSharesCard : Claim7 := { stood := { row := termSharesRow, standIns := [], harness := (true, "bec673d2bf60518ce1a042471ccb46386d6288a0dd99382e01a0a4b642ceafeb"), looks := false }, kinds := [], alts := [], laidByText := true, laidKinds := [.data, .data, .data], laidTests := true, laidLooks := .later }
def TermSharesCardSaid : Prop := Claim7.holds Tryd.pinned (.plain (OpenSpec.ofChange termSharesSpec)) termSharesCard

/-- THE TIED CARD OF 'shibbolethlaw01.TermMakes'. -/
def termMakesCard : Claim7 := { stood := { row := termMakesRow, standIns := [], harness := (true, "bec673d2bf60518ce1a042471ccb46386d6288a0dd99382e01a0a4b642ceafeb"), looks := false }, kinds := [], alts := [], laidByText := true, laidKinds := [.data, .data, .data], laidTests := true, laidLooks := .later }
def TermMakesCardSaid : Prop := Claim7.holds Tryd.pinned (.plain (OpenSpec.ofChange termMakesSpec)) termMakesCard

/-- THE TIED CARD OF 'shibbolethlaw19.ShareAgrees'. -/
def shareAgreesCard : Claim7 := { stood := { row := shareAgreesRow, standIns := [], harness := (true, "bec673d2bf60518ce1a042471ccb46386d6288a0dd99382e01a0a4b642ceafeb"), looks := false }, kinds := [], alts := [], laidByText := true, laidKinds := [.data, .data, .data], laidTests := true, laidLooks := .later }
def ShareAgreesCardSaid : Prop := Claim7.holds Tryd.pinned (.plain (OpenSpec.ofChange shareAgreesSpec)) shareAgreesCard

/-- THE TIED CARD OF 'shibbolethlaw19.ShareKeeps'. -/
def shareKeepsCard : Claim7 := { stood := { row := shareKeepsRow, standIns := [], harness := (true, "bec673d2bf60518ce1a042471ccb46386d6288a0dd99382e01a0a4b642ceafeb"), looks := false }, kinds := [], alts := [], laidByText := true, laidKinds := [.data, .data, .data], laidTests := true, laidLooks := .later }
def ShareKeepsCardSaid : Prop := Claim7.holds Tryd.pinned (.plain (OpenSpec.ofChange shareKeepsSpec)) shareKeepsCard

/-- THE TIED CARD OF 'shibbolethlaw01.TermViews'. -/
def termViewsCard : Claim7 := { stood := { row := termViewsRow, standIns := [], harness := (true, "bec673d2bf60518ce1a042471ccb46386d6288a0dd99382e01a0a4b642ceafeb"), looks := false }, kinds := [], alts := [], laidByText := true, laidKinds := [.data, .data, .data], laidTests := true, laidLooks := .later }
def TermViewsCardSaid : Prop := Claim7.holds Tryd.pinned (.plain (OpenSpec.ofChange termViewsSpec)) termViewsCard

/-- THE TIED CARD OF 'shibbolethlaw21.KeysApart'. -/
def keysApartCard : Claim7 := { stood := { row := keysApartRow, standIns := [], harness := (true, "bec673d2bf60518ce1a042471ccb46386d6288a0dd99382e01a0a4b642ceafeb"), looks := false }, kinds := [], alts := [], laidByText := true, laidKinds := [.data, .data, .data], laidTests := true, laidLooks := .later }
def KeysApartCardSaid : Prop := Claim7.holds Tryd.pinned (.plain (OpenSpec.ofChange keysApartSpec)) keysApartCard

/-- THE TIED CARD OF 'shibbolethlaw14.RecipeKeeps'. -/
def recipeKeepsCard : Claim7 := { stood := { row := recipeKeepsRow, standIns := [], harness := (true, "bec673d2bf60518ce1a042471ccb46386d6288a0dd99382e01a0a4b642ceafeb"), looks := false }, kinds := [], alts := [], laidByText := true, laidKinds := [.data, .data, .data], laidTests := true, laidLooks := .later }
def RecipeKeepsCardSaid : Prop := Claim7.holds Tryd.pinned (.plain (OpenSpec.ofChange recipeKeepsSpec)) recipeKeepsCard

/-- THE SECOND FORM's CARD OF 'shibbolethlaw01.TermLong'. -/
def termLongUptoCard : Claim7 := { stood := { row := termLongUptoRow, standIns := [], harness := (true, "bec673d2bf60518ce1a042471ccb46386d6288a0dd99382e01a0a4b642ceafeb"), looks := false }, kinds := [], alts := [], laidByText := true, laidKinds := [.data, .data, .data], laidTests := true, laidLooks := .later }
def TermLongUptoCardSaid : Prop := Claim7.holds Tryd.pinned (.plain (OpenSpec.upto termLongSpec)) termLongUptoCard

/-- THE SECOND FORM's CARD OF 'shibbolethlaw01.TermShares'. -/
def termSharesUptoCard : Claim7 := { stood := { row := termSharesUptoRow, standIns := [], harness := (true, "bec673d2bf60518ce1a042471ccb46386d6288a0dd99382e01a0a4b642ceafeb"), looks := false }, kinds := [], alts := [], laidByText := true, laidKinds := [.data, .data, .data], laidTests := true, laidLooks := .later }
def TermSharesUptoCardSaid : Prop := Claim7.holds Tryd.pinned (.plain (OpenSpec.upto termSharesSpec)) termSharesUptoCard

/-- THE SECOND FORM's CARD OF 'shibbolethlaw01.TermMakes'. -/
def termMakesUptoCard : Claim7 := { stood := { row := termMakesUptoRow, standIns := [], harness := (true, "bec673d2bf60518ce1a042471ccb46386d6288a0dd99382e01a0a4b642ceafeb"), looks := false }, kinds := [], alts := [], laidByText := true, laidKinds := [.data, .data, .data], laidTests := true, laidLooks := .later }
def TermMakesUptoCardSaid : Prop := Claim7.holds Tryd.pinned (.plain (OpenSpec.upto termMakesSpec)) termMakesUptoCard

/-- THE SECOND FORM's CARD OF 'shibbolethlaw19.ShareAgrees'. -/
def shareAgreesUptoCard : Claim7 := { stood := { row := shareAgreesUptoRow, standIns := [], harness := (true, "bec673d2bf60518ce1a042471ccb46386d6288a0dd99382e01a0a4b642ceafeb"), looks := false }, kinds := [], alts := [], laidByText := true, laidKinds := [.data, .data, .data], laidTests := true, laidLooks := .later }
def ShareAgreesUptoCardSaid : Prop := Claim7.holds Tryd.pinned (.plain (OpenSpec.upto shareAgreesSpec)) shareAgreesUptoCard

/-- THE SECOND FORM's CARD OF 'shibbolethlaw19.ShareKeeps'. -/
def shareKeepsUptoCard : Claim7 := { stood := { row := shareKeepsUptoRow, standIns := [], harness := (true, "bec673d2bf60518ce1a042471ccb46386d6288a0dd99382e01a0a4b642ceafeb"), looks := false }, kinds := [], alts := [], laidByText := true, laidKinds := [.data, .data, .data], laidTests := true, laidLooks := .later }
def ShareKeepsUptoCardSaid : Prop := Claim7.holds Tryd.pinned (.plain (OpenSpec.upto shareKeepsSpec)) shareKeepsUptoCard

/-- THE SECOND FORM's CARD OF 'shibbolethlaw01.TermViews'. -/
def termViewsUptoCard : Claim7 := { stood := { row := termViewsUptoRow, standIns := [], harness := (true, "bec673d2bf60518ce1a042471ccb46386d6288a0dd99382e01a0a4b642ceafeb"), looks := false }, kinds := [], alts := [], laidByText := true, laidKinds := [.data, .data, .data], laidTests := true, laidLooks := .later }
def TermViewsUptoCardSaid : Prop := Claim7.holds Tryd.pinned (.plain (OpenSpec.upto termViewsSpec)) termViewsUptoCard

/-- THE SECOND FORM's CARD OF 'shibbolethlaw21.KeysApart'. -/
def keysApartUptoCard : Claim7 := { stood := { row := keysApartUptoRow, standIns := [], harness := (true, "bec673d2bf60518ce1a042471ccb46386d6288a0dd99382e01a0a4b642ceafeb"), looks := false }, kinds := [], alts := [], laidByText := true, laidKinds := [.data, .data, .data], laidTests := true, laidLooks := .later }
def KeysApartUptoCardSaid : Prop := Claim7.holds Tryd.pinned (.plain (OpenSpec.upto keysApartSpec)) keysApartUptoCard

/-- THE SECOND FORM's CARD OF 'shibbolethlaw14.RecipeKeeps'. -/
def recipeKeepsUptoCard : Claim7 := { stood := { row := recipeKeepsUptoRow, standIns := [], harness := (true, "bec673d2bf60518ce1a042471ccb46386d6288a0dd99382e01a0a4b642ceafeb"), looks := false }, kinds := [], alts := [], laidByText := true, laidKinds := [.data, .data, .data], laidTests := true, laidLooks := .later }
def RecipeKeepsUptoCardSaid : Prop := Claim7.holds Tryd.pinned (.plain (OpenSpec.upto recipeKeepsSpec)) recipeKeepsUptoCard
end Rows
end Go.Proofs.YtbeanjaenmpoeaaDoor
