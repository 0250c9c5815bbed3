/-
  DERIVED. GIVEN WITH THE SEED: THE CARDS: each row of YtlonejkmdibkaaaDoorRows.lean that lists a variable, with what it lists TIED to the program's text (the seventh form; the later family's looks); each row that meets fmt, with fmt's text TOLD by the authors' own Lean function (tested against real Go, not proved from fmt's source: count such statements apart). THE CARD IS WHAT COUNTS. Prove the row's statement (the work); the ties are given (YtlonejkmdibkaaaDoorTie.lean); close each card by the builder's one call (the guide's Derived/Test/ToyasCard.lean, 'card_holds'). Laid BY PROGRAM, IN A SANDBOX (cutbox-door.mjs). By AI agents, Wed Nov 11 2026. No macro, syntax, notation, axiom, sorry.
-/
import Derived.Test.YtlonejkmdibkaaaDoorRows
import GoSem.ClaimSeven
namespace Go.Proofs.YtlonejkmdibkaaaDoor
namespace Rows

/-- THE TIED CARD OF 'shibbolethlaw18.GexNames'. -/
def gexNamesCard : Claim7 := { stood := { row := gexNamesRow, standIns := [], harness := (true, "0bb358427d37cce88c8a4207748b0515c6f2c7a9e26af4ef1c8a0d0cd7316e3b"), looks := true }, kinds := [], alts := [], laidByText := true, laidKinds := [.data, .pinned], laidTests := true, laidLooks := .later }
def GexNamesCardSaid : Prop := Claim7.holds Tryd.pinned (.plain (OpenSpec.ofChange gexNamesSpec)) gexNamesCard

/-- THE TIED CARD OF 'shibbolethlaw18.GexTable'. -/
def gexTableCard : Claim7 := { stood := { row := gexTableRow, standIns := [], harness := (true, "0bb358427d37cce88c8a4207748b0515c6f2c7a9e26af4ef1c8a0d0cd7316e3b"), looks := true }, kinds := [], alts := [], laidByText := true, laidKinds := [.data, .pinned], laidTests := true, laidLooks := .later }
def GexTableCardSaid : Prop := Claim7.holds Tryd.pinned (.plain (OpenSpec.ofChange gexTableSpec)) gexTableCard

/-- THE TIED CARD OF 'shibbolethlaw15.PrefsMethods'. -/
def prefsMethodsCard : Claim7 := { stood := { row := prefsMethodsRow, standIns := [], harness := (true, "0bb358427d37cce88c8a4207748b0515c6f2c7a9e26af4ef1c8a0d0cd7316e3b"), looks := true }, kinds := [], alts := [], laidByText := true, laidKinds := [.data, .data], laidTests := true, laidLooks := .later }
def PrefsMethodsCardSaid : Prop := Claim7.holds Tryd.pinned (.plain (OpenSpec.ofChange prefsMethodsSpec)) prefsMethodsCard

/-- THE TIED CARD OF 'shibbolethlaw15.PrefsLists'. -/
def prefsListsCard : Claim7 := { stood := { row := prefsListsRow, standIns := [], harness := (true, "0bb358427d37cce88c8a4207748b0515c6f2c7a9e26af4ef1c8a0d0cd7316e3b"), looks := true }, kinds := [], alts := [], laidByText := true, laidKinds := [.data, .data], laidTests := true, laidLooks := .later }
def PrefsListsCardSaid : Prop := Claim7.holds Tryd.pinned (.plain (OpenSpec.ofChange prefsListsSpec)) prefsListsCard

/-- THE TIED CARD OF 'shibbolethlaw18.GexPicks'. -/
def gexPicksCard : Claim7 := { stood := { row := gexPicksRow, standIns := [], harness := (true, "0bb358427d37cce88c8a4207748b0515c6f2c7a9e26af4ef1c8a0d0cd7316e3b"), looks := true }, kinds := [], alts := [], laidByText := true, laidKinds := [.data, .handle, .pinned], laidTests := true, laidLooks := .later }
def GexPicksCardSaid : Prop := Claim7.holds Tryd.pinned (.plain (OpenSpec.ofChange gexPicksSpec)) gexPicksCard

/-- THE TIED CARD OF 'shibbolethlaw18.GexChecks'. -/
def gexChecksCard : Claim7 := { stood := { row := gexChecksRow, standIns := [], harness := (true, "0bb358427d37cce88c8a4207748b0515c6f2c7a9e26af4ef1c8a0d0cd7316e3b"), looks := true }, kinds := [], alts := [], laidByText := true, laidKinds := [.data, .handle, .pinned], laidTests := true, laidLooks := .later }
def GexChecksCardSaid : Prop := Claim7.holds Tryd.pinned (.plain (OpenSpec.ofChange gexChecksSpec)) gexChecksCard

/-- THE TIED CARD OF 'shibbolethlaw15.PrefsCheck'. -/
def prefsCheckCard : Claim7 := { stood := { row := prefsCheckRow, standIns := [], harness := (true, "0bb358427d37cce88c8a4207748b0515c6f2c7a9e26af4ef1c8a0d0cd7316e3b"), looks := true }, kinds := [], alts := [], laidByText := true, laidKinds := [.handle, .data, .data], laidTests := true, laidLooks := .later }
def PrefsCheckCardSaid : Prop := Claim7.holds Tryd.pinned (.plain (OpenSpec.ofChange prefsCheckSpec)) prefsCheckCard

/-- THE TIED CARD OF 'shibbolethlaw24.DenyChecks'. -/
def denyChecksCard : Claim7 := { stood := { row := denyChecksRow, standIns := [], harness := (true, "0bb358427d37cce88c8a4207748b0515c6f2c7a9e26af4ef1c8a0d0cd7316e3b"), looks := true }, kinds := [], alts := [], laidByText := true, laidKinds := [.handle], laidTests := true, laidLooks := .later }
def DenyChecksCardSaid : Prop := Claim7.holds Tryd.pinned (.plain (OpenSpec.ofChange denyChecksSpec)) denyChecksCard

/-- THE TIED CARD OF 'shibbolethlaw24.DenyCounts'. -/
def denyCountsCard : Claim7 := { stood := { row := denyCountsRow, standIns := [], harness := (true, "0bb358427d37cce88c8a4207748b0515c6f2c7a9e26af4ef1c8a0d0cd7316e3b"), looks := true }, kinds := [], alts := [], laidByText := true, laidKinds := [.data, .data, .data], laidTests := true, laidLooks := .later }
def DenyCountsCardSaid : Prop := Claim7.holds Tryd.pinned (.plain (OpenSpec.ofChange denyCountsSpec)) denyCountsCard

/-- THE TIED CARD OF 'shibbolethlaw24.DenyHas'. -/
def denyHasCard : Claim7 := { stood := { row := denyHasRow, standIns := [], harness := (true, "0bb358427d37cce88c8a4207748b0515c6f2c7a9e26af4ef1c8a0d0cd7316e3b"), looks := true }, kinds := [], alts := [], laidByText := true, laidKinds := [.data, .data, .data], laidTests := true, laidLooks := .later }
def DenyHasCardSaid : Prop := Claim7.holds Tryd.pinned (.plain (OpenSpec.ofChange denyHasSpec)) denyHasCard

/-- THE SECOND FORM's CARD OF 'shibbolethlaw18.GexNames'. -/
def gexNamesUptoCard : Claim7 := { stood := { row := gexNamesUptoRow, standIns := [], harness := (true, "0bb358427d37cce88c8a4207748b0515c6f2c7a9e26af4ef1c8a0d0cd7316e3b"), looks := true }, kinds := [], alts := [], laidByText := true, laidKinds := [.data, .pinned], laidTests := true, laidLooks := .later }
def GexNamesUptoCardSaid : Prop := Claim7.holds Tryd.pinned (.plain (OpenSpec.upto gexNamesSpec)) gexNamesUptoCard

/-- THE SECOND FORM's CARD OF 'shibbolethlaw18.GexTable'. -/
def gexTableUptoCard : Claim7 := { stood := { row := gexTableUptoRow, standIns := [], harness := (true, "0bb358427d37cce88c8a4207748b0515c6f2c7a9e26af4ef1c8a0d0cd7316e3b"), looks := true }, kinds := [], alts := [], laidByText := true, laidKinds := [.data, .pinned], laidTests := true, laidLooks := .later }
def GexTableUptoCardSaid : Prop := Claim7.holds Tryd.pinned (.plain (OpenSpec.upto gexTableSpec)) gexTableUptoCard

/-- THE SECOND FORM's CARD OF 'shibbolethlaw15.PrefsMethods'. -/
def prefsMethodsUptoCard : Claim7 := { stood := { row := prefsMethodsUptoRow, standIns := [], harness := (true, "0bb358427d37cce88c8a4207748b0515c6f2c7a9e26af4ef1c8a0d0cd7316e3b"), looks := true }, kinds := [], alts := [], laidByText := true, laidKinds := [.data, .data], laidTests := true, laidLooks := .later }
def PrefsMethodsUptoCardSaid : Prop := Claim7.holds Tryd.pinned (.plain (OpenSpec.upto prefsMethodsSpec)) prefsMethodsUptoCard

/-- THE SECOND FORM's CARD OF 'shibbolethlaw15.PrefsLists'. -/
def prefsListsUptoCard : Claim7 := { stood := { row := prefsListsUptoRow, standIns := [], harness := (true, "0bb358427d37cce88c8a4207748b0515c6f2c7a9e26af4ef1c8a0d0cd7316e3b"), looks := true }, kinds := [], alts := [], laidByText := true, laidKinds := [.data, .data], laidTests := true, laidLooks := .later }
def PrefsListsUptoCardSaid : Prop := Claim7.holds Tryd.pinned (.plain (OpenSpec.upto prefsListsSpec)) prefsListsUptoCard

/-- THE SECOND FORM's CARD OF 'shibbolethlaw18.GexPicks'. -/
def gexPicksUptoCard : Claim7 := { stood := { row := gexPicksUptoRow, standIns := [], harness := (true, "0bb358427d37cce88c8a4207748b0515c6f2c7a9e26af4ef1c8a0d0cd7316e3b"), looks := true }, kinds := [], alts := [], laidByText := true, laidKinds := [.data, .handle, .pinned], laidTests := true, laidLooks := .later }
def GexPicksUptoCardSaid : Prop := Claim7.holds Tryd.pinned (.plain (OpenSpec.upto gexPicksSpec)) gexPicksUptoCard

/-- THE SECOND FORM's CARD OF 'shibbolethlaw18.GexChecks'. -/
def gexChecksUptoCard : Claim7 := { stood := { row := gexChecksUptoRow, standIns := [], harness := (true, "0bb358427d37cce88c8a4207748b0515c6f2c7a9e26af4ef1c8a0d0cd7316e3b"), looks := true }, kinds := [], alts := [], laidByText := true, laidKinds := [.data, .handle, .pinned], laidTests := true, laidLooks := .later }
def GexChecksUptoCardSaid : Prop := Claim7.holds Tryd.pinned (.plain (OpenSpec.upto gexChecksSpec)) gexChecksUptoCard

/-- THE SECOND FORM's CARD OF 'shibbolethlaw15.PrefsCheck'. -/
def prefsCheckUptoCard : Claim7 := { stood := { row := prefsCheckUptoRow, standIns := [], harness := (true, "0bb358427d37cce88c8a4207748b0515c6f2c7a9e26af4ef1c8a0d0cd7316e3b"), looks := true }, kinds := [], alts := [], laidByText := true, laidKinds := [.handle, .data, .data], laidTests := true, laidLooks := .later }
def PrefsCheckUptoCardSaid : Prop := Claim7.holds Tryd.pinned (.plain (OpenSpec.upto prefsCheckSpec)) prefsCheckUptoCard

/-- THE SECOND FORM's CARD OF 'shibbolethlaw24.DenyChecks'. -/
def denyChecksUptoCard : Claim7 := { stood := { row := denyChecksUptoRow, standIns := [], harness := (true, "0bb358427d37cce88c8a4207748b0515c6f2c7a9e26af4ef1c8a0d0cd7316e3b"), looks := true }, kinds := [], alts := [], laidByText := true, laidKinds := [.handle], laidTests := true, laidLooks := .later }
def DenyChecksUptoCardSaid : Prop := Claim7.holds Tryd.pinned (.plain (OpenSpec.upto denyChecksSpec)) denyChecksUptoCard

/-- THE SECOND FORM's CARD OF 'shibbolethlaw24.DenyCounts'. -/
def denyCountsUptoCard : Claim7 := { stood := { row := denyCountsUptoRow, standIns := [], harness := (true, "0bb358427d37cce88c8a4207748b0515c6f2c7a9e26af4ef1c8a0d0cd7316e3b"), looks := true }, kinds := [], alts := [], laidByText := true, laidKinds := [.data, .data, .data], laidTests := true, laidLooks := .later }
def DenyCountsUptoCardSaid : Prop := Claim7.holds Tryd.pinned (.plain (OpenSpec.upto denyCountsSpec)) denyCountsUptoCard

/-- THE SECOND FORM's CARD OF 'shibbolethlaw24.DenyHas'. -/
def denyHasUptoCard : Claim7 := { stood := { row := denyHasUptoRow, standIns := [], harness := (true, "0bb358427d37cce88c8a4207748b0515c6f2c7a9e26af4ef1c8a0d0cd7316e3b"), looks := true }, kinds := [], alts := [], laidByText := true, laidKinds := [.data, .data, .data], laidTests := true, laidLooks := .later }
def DenyHasUptoCardSaid : Prop := Claim7.holds Tryd.pinned (.plain (OpenSpec.upto denyHasSpec)) denyHasUptoCard
end Rows
end Go.Proofs.YtlonejkmdibkaaaDoor
