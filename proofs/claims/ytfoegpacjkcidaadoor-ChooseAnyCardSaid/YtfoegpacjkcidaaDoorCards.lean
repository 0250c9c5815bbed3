/-
  DERIVED. GIVEN WITH THE SEED: THE CARDS: each row of YtfoegpacjkcidaaDoorRows.lean that lists a variable, with what it lists TIED to the program's text (the seventh form; the later family's looks); each row that meets fmt, with fmt's text TOLD by the authors' own Lean function (tested against real Go, not proved from fmt's source: count such statements apart). THE CARD IS WHAT COUNTS. Prove the row's statement (the work); the ties are given (YtfoegpacjkcidaaDoorTie.lean); close each card by the builder's one call (the guide's Derived/Test/ToyasCard.lean, 'card_holds'). Laid BY PROGRAM, IN A SANDBOX (cutbox-door.mjs). By AI agents, Wed Nov 11 2026. No macro, syntax, notation, axiom, sorry.
-/
import Derived.Test.YtfoegpacjkcidaaDoorRows
import GoSem.ClaimSeven
namespace Go.Proofs.YtfoegpacjkcidaaDoor
namespace Rows

/-- THE TIED CARD OF 'shibbolethlaw17.ChooseBest'. -/
def chooseBestCard : Claim7 := { stood := { row := chooseBestRow, standIns := [], harness := (true, "ad172329bb5f6814f3925eb11c9129ca68338e5b7b7b7fdc16387e2a7a04cbfb"), looks := true }, kinds := [], alts := [], laidByText := true, laidKinds := [.data, .data], laidTests := true, laidLooks := .later }
def ChooseBestCardSaid : Prop := Claim7.holds Tryd.pinned (.plain (OpenSpec.ofChange chooseBestSpec)) chooseBestCard

/-- THE TIED CARD OF 'shibbolethlaw17.ChooseSelf'. -/
def chooseSelfCard : Claim7 := { stood := { row := chooseSelfRow, standIns := [], harness := (true, "ad172329bb5f6814f3925eb11c9129ca68338e5b7b7b7fdc16387e2a7a04cbfb"), looks := true }, kinds := [], alts := [], laidByText := true, laidKinds := [.data, .data], laidTests := true, laidLooks := .later }
def ChooseSelfCardSaid : Prop := Claim7.holds Tryd.pinned (.plain (OpenSpec.ofChange chooseSelfSpec)) chooseSelfCard

/-- THE TIED CARD OF 'shibbolethlaw17.ChooseAny'. -/
def chooseAnyCard : Claim7 := { stood := { row := chooseAnyRow, standIns := [], harness := (true, "ad172329bb5f6814f3925eb11c9129ca68338e5b7b7b7fdc16387e2a7a04cbfb"), looks := true }, kinds := [], alts := [], laidByText := true, laidKinds := [.handle, .data, .data], laidTests := true, laidLooks := .later }
def ChooseAnyCardSaid : Prop := Claim7.holds Tryd.pinned (.plain (OpenSpec.ofChange chooseAnySpec)) chooseAnyCard

/-- THE TIED CARD OF 'shibbolethlaw04.NamesSplit'. -/
def namesSplitCard : Claim7 := { stood := { row := namesSplitRow, standIns := [], harness := (true, "ad172329bb5f6814f3925eb11c9129ca68338e5b7b7b7fdc16387e2a7a04cbfb"), looks := true }, kinds := [], alts := [], laidByText := true, laidKinds := [.data, .pinned], laidTests := true, laidLooks := .later }
def NamesSplitCardSaid : Prop := Claim7.holds Tryd.pinned (.plain (OpenSpec.ofChange namesSplitSpec)) namesSplitCard

/-- THE TIED CARD OF 'shibbolethlaw04.NamesJoin'. -/
def namesJoinCard : Claim7 := { stood := { row := namesJoinRow, standIns := [], harness := (true, "ad172329bb5f6814f3925eb11c9129ca68338e5b7b7b7fdc16387e2a7a04cbfb"), looks := true }, kinds := [], alts := [], laidByText := true, laidKinds := [.data, .pinned], laidTests := true, laidLooks := .later }
def NamesJoinCardSaid : Prop := Claim7.holds Tryd.pinned (.plain (OpenSpec.ofChange namesJoinSpec)) namesJoinCard

/-- THE SECOND FORM's CARD OF 'shibbolethlaw17.ChooseBest'. -/
def chooseBestUptoCard : Claim7 := { stood := { row := chooseBestUptoRow, standIns := [], harness := (true, "ad172329bb5f6814f3925eb11c9129ca68338e5b7b7b7fdc16387e2a7a04cbfb"), looks := true }, kinds := [], alts := [], laidByText := true, laidKinds := [.data, .data], laidTests := true, laidLooks := .later }
def ChooseBestUptoCardSaid : Prop := Claim7.holds Tryd.pinned (.plain (OpenSpec.upto chooseBestSpec)) chooseBestUptoCard

/-- THE SECOND FORM's CARD OF 'shibbolethlaw17.ChooseSelf'. -/
def chooseSelfUptoCard : Claim7 := { stood := { row := chooseSelfUptoRow, standIns := [], harness := (true, "ad172329bb5f6814f3925eb11c9129ca68338e5b7b7b7fdc16387e2a7a04cbfb"), looks := true }, kinds := [], alts := [], laidByText := true, laidKinds := [.data, .data], laidTests := true, laidLooks := .later }
def ChooseSelfUptoCardSaid : Prop := Claim7.holds Tryd.pinned (.plain (OpenSpec.upto chooseSelfSpec)) chooseSelfUptoCard

/-- THE SECOND FORM's CARD OF 'shibbolethlaw17.ChooseAny'. -/
def chooseAnyUptoCard : Claim7 := { stood := { row := chooseAnyUptoRow, standIns := [], harness := (true, "ad172329bb5f6814f3925eb11c9129ca68338e5b7b7b7fdc16387e2a7a04cbfb"), looks := true }, kinds := [], alts := [], laidByText := true, laidKinds := [.handle, .data, .data], laidTests := true, laidLooks := .later }
def ChooseAnyUptoCardSaid : Prop := Claim7.holds Tryd.pinned (.plain (OpenSpec.upto chooseAnySpec)) chooseAnyUptoCard

/-- THE SECOND FORM's CARD OF 'shibbolethlaw04.NamesSplit'. -/
def namesSplitUptoCard : Claim7 := { stood := { row := namesSplitUptoRow, standIns := [], harness := (true, "ad172329bb5f6814f3925eb11c9129ca68338e5b7b7b7fdc16387e2a7a04cbfb"), looks := true }, kinds := [], alts := [], laidByText := true, laidKinds := [.data, .pinned], laidTests := true, laidLooks := .later }
def NamesSplitUptoCardSaid : Prop := Claim7.holds Tryd.pinned (.plain (OpenSpec.upto namesSplitSpec)) namesSplitUptoCard

/-- THE SECOND FORM's CARD OF 'shibbolethlaw04.NamesJoin'. -/
def namesJoinUptoCard : Claim7 := { stood := { row := namesJoinUptoRow, standIns := [], harness := (true, "ad172329bb5f6814f3925eb11c9129ca68338e5b7b7b7fdc16387e2a7a04cbfb"), looks := true }, kinds := [], alts := [], laidByText := true, laidKinds := [.data, .pinned], laidTests := true, laidLooks := .later }
def NamesJoinUptoCardSaid : Prop := Claim7.holds Tryd.pinned (.plain (OpenSpec.upto namesJoinSpec)) namesJoinUptoCard
end Rows
end Go.Proofs.YtfoegpacjkcidaaDoor
