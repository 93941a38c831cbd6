/-
  DERIVED. GIVEN WITH THE SEED: THE CARDS: each row of YtcdeikhfmllkdaaGreatDoorRows.lean that lists a variable, with what it lists TIED to the program's text (the seventh form; the later family's looks); each row that meets fmt, with fmt's text TOLD by the authors' own Lean function (tested against real Go, not proved from fmt's source: count such statements apart). THE CARD IS WHAT COUNTS. Prove the row's statement (the work); the ties are given (YtcdeikhfmllkdaaGreatDoorTie.lean); close each card by the builder's one call (the guide's Derived/Test/ToyasCard.lean, 'card_holds'). Laid BY PROGRAM, IN A SANDBOX (cutbox-door.mjs). By AI agents, Wed Nov 11 2026. No macro, syntax, notation, axiom, sorry.
-/
import Derived.Test.YtcdeikhfmllkdaaGreatDoorRows
import GoSem.ClaimSeven
namespace Go.Proofs.YtcdeikhfmllkdaaGreatDoor
namespace Rows

/-- THE TIED CARD OF 'watchfirelaw32.RequestParses'. -/
def requestParsesCard : Claim7 := { stood := { row := requestParsesRow, standIns := [], harness := (true, "91b09115f43d6ad44919e8c0c992e06127ec8372870d903840e1235ef9d044cb"), looks := true }, kinds := [], alts := [], laidByText := true, laidKinds := [.data, .data, .data, .data, .sentinel, .sentinel, .pinned], laidTests := true, laidLooks := .later }
def RequestParsesCardSaid : Prop := Claim7.holds Tryz.pinned (.plain (OpenSpec.ofChange requestParsesSpec)) requestParsesCard

/-- THE TIED CARD OF 'watchfirelaw32.RequestPrints'. -/
def requestPrintsCard : Claim7 := { stood := { row := requestPrintsRow, standIns := [], harness := (true, "91b09115f43d6ad44919e8c0c992e06127ec8372870d903840e1235ef9d044cb"), looks := true }, kinds := [], alts := [], laidByText := true, laidKinds := [.data, .data, .data, .data, .sentinel, .sentinel, .pinned], laidTests := true, laidLooks := .later }
def RequestPrintsCardSaid : Prop := Claim7.holds Tryz.pinned (.plain (OpenSpec.ofChange requestPrintsSpec)) requestPrintsCard

/-- THE TIED CARD OF 'watchfirelaw32.RequestPercents'. -/
def requestPercentsCard : Claim7 := { stood := { row := requestPercentsRow, standIns := [], harness := (true, "91b09115f43d6ad44919e8c0c992e06127ec8372870d903840e1235ef9d044cb"), looks := true }, kinds := [], alts := [], laidByText := true, laidKinds := [.data, .data, .data, .data, .sentinel, .sentinel, .pinned], laidTests := true, laidLooks := .later }
def RequestPercentsCardSaid : Prop := Claim7.holds Tryz.pinned (.plain (OpenSpec.ofChange requestPercentsSpec)) requestPercentsCard

/-- THE TIED CARD OF 'watchfirelaw32.RequestBack'. -/
def requestBackCard : Claim7 := { stood := { row := requestBackRow, standIns := [], harness := (true, "91b09115f43d6ad44919e8c0c992e06127ec8372870d903840e1235ef9d044cb"), looks := true }, kinds := [], alts := [], laidByText := true, laidKinds := [.data, .data, .data, .data, .sentinel, .sentinel, .pinned], laidTests := true, laidLooks := .later }
def RequestBackCardSaid : Prop := Claim7.holds Tryz.pinned (.plain (OpenSpec.ofChange requestBackSpec)) requestBackCard

/-- THE TIED CARD OF 'watchfirelaw32.RequestEscapes'. -/
def requestEscapesCard : Claim7 := { stood := { row := requestEscapesRow, standIns := [], harness := (true, "91b09115f43d6ad44919e8c0c992e06127ec8372870d903840e1235ef9d044cb"), looks := true }, kinds := [], alts := [], laidByText := true, laidKinds := [.data, .data, .data, .data, .sentinel, .sentinel, .pinned], laidTests := true, laidLooks := .later }
def RequestEscapesCardSaid : Prop := Claim7.holds Tryz.pinned (.plain (OpenSpec.ofChange requestEscapesSpec)) requestEscapesCard

/-- THE TIED CARD OF 'watchfirelaw32.RequestPuts'. -/
def requestPutsCard : Claim7 := { stood := { row := requestPutsRow, standIns := [], harness := (true, "91b09115f43d6ad44919e8c0c992e06127ec8372870d903840e1235ef9d044cb"), looks := true }, kinds := [], alts := [], laidByText := true, laidKinds := [.data, .data, .data, .data, .sentinel, .sentinel, .pinned], laidTests := true, laidLooks := .later }
def RequestPutsCardSaid : Prop := Claim7.holds Tryz.pinned (.plain (OpenSpec.ofChange requestPutsSpec)) requestPutsCard

/-- THE TIED CARD OF 'watchfirelaw32.RequestSelects'. -/
def requestSelectsCard : Claim7 := { stood := { row := requestSelectsRow, standIns := [], harness := (true, "91b09115f43d6ad44919e8c0c992e06127ec8372870d903840e1235ef9d044cb"), looks := true }, kinds := [], alts := [], laidByText := true, laidKinds := [.data, .data, .data, .data, .sentinel, .sentinel, .pinned], laidTests := true, laidLooks := .later }
def RequestSelectsCardSaid : Prop := Claim7.holds Tryz.pinned (.plain (OpenSpec.ofChange requestSelectsSpec)) requestSelectsCard

/-- THE TIED CARD OF 'watchfirelaw32.RequestValues'. -/
def requestValuesCard : Claim7 := { stood := { row := requestValuesRow, standIns := [], harness := (true, "91b09115f43d6ad44919e8c0c992e06127ec8372870d903840e1235ef9d044cb"), looks := true }, kinds := [], alts := [], laidByText := true, laidKinds := [.data, .data, .data, .data, .sentinel, .sentinel, .pinned], laidTests := true, laidLooks := .later }
def RequestValuesCardSaid : Prop := Claim7.holds Tryz.pinned (.plain (OpenSpec.ofChange requestValuesSpec)) requestValuesCard

/-- THE SECOND FORM's CARD OF 'watchfirelaw32.RequestParses'. -/
def requestParsesUptoCard : Claim7 := { stood := { row := requestParsesUptoRow, standIns := [], harness := (true, "91b09115f43d6ad44919e8c0c992e06127ec8372870d903840e1235ef9d044cb"), looks := true }, kinds := [], alts := [], laidByText := true, laidKinds := [.data, .data, .data, .data, .sentinel, .sentinel, .pinned], laidTests := true, laidLooks := .later }
def RequestParsesUptoCardSaid : Prop := Claim7.holds Tryz.pinned (.plain (OpenSpec.upto requestParsesSpec)) requestParsesUptoCard

/-- THE SECOND FORM's CARD OF 'watchfirelaw32.RequestPrints'. -/
def requestPrintsUptoCard : Claim7 := { stood := { row := requestPrintsUptoRow, standIns := [], harness := (true, "91b09115f43d6ad44919e8c0c992e06127ec8372870d903840e1235ef9d044cb"), looks := true }, kinds := [], alts := [], laidByText := true, laidKinds := [.data, .data, .data, .data, .sentinel, .sentinel, .pinned], laidTests := true, laidLooks := .later }
def RequestPrintsUptoCardSaid : Prop := Claim7.holds Tryz.pinned (.plain (OpenSpec.upto requestPrintsSpec)) requestPrintsUptoCard

/-- THE SECOND FORM's CARD OF 'watchfirelaw32.RequestPercents'. -/
def requestPercentsUptoCard : Claim7 := { stood := { row := requestPercentsUptoRow, standIns := [], harness := (true, "91b09115f43d6ad44919e8c0c992e06127ec8372870d903840e1235ef9d044cb"), looks := true }, kinds := [], alts := [], laidByText := true, laidKinds := [.data, .data, .data, .data, .sentinel, .sentinel, .pinned], laidTests := true, laidLooks := .later }
def RequestPercentsUptoCardSaid : Prop := Claim7.holds Tryz.pinned (.plain (OpenSpec.upto requestPercentsSpec)) requestPercentsUptoCard

/-- THE SECOND FORM's CARD OF 'watchfirelaw32.RequestBack'. -/
def requestBackUptoCard : Claim7 := { stood := { row := requestBackUptoRow, standIns := [], harness := (true, "91b09115f43d6ad44919e8c0c992e06127ec8372870d903840e1235ef9d044cb"), looks := true }, kinds := [], alts := [], laidByText := true, laidKinds := [.data, .data, .data, .data, .sentinel, .sentinel, .pinned], laidTests := true, laidLooks := .later }
def RequestBackUptoCardSaid : Prop := Claim7.holds Tryz.pinned (.plain (OpenSpec.upto requestBackSpec)) requestBackUptoCard

/-- THE SECOND FORM's CARD OF 'watchfirelaw32.RequestEscapes'. -/
def requestEscapesUptoCard : Claim7 := { stood := { row := requestEscapesUptoRow, standIns := [], harness := (true, "91b09115f43d6ad44919e8c0c992e06127ec8372870d903840e1235ef9d044cb"), looks := true }, kinds := [], alts := [], laidByText := true, laidKinds := [.data, .data, .data, .data, .sentinel, .sentinel, .pinned], laidTests := true, laidLooks := .later }
def RequestEscapesUptoCardSaid : Prop := Claim7.holds Tryz.pinned (.plain (OpenSpec.upto requestEscapesSpec)) requestEscapesUptoCard

/-- THE SECOND FORM's CARD OF 'watchfirelaw32.RequestPuts'. -/
def requestPutsUptoCard : Claim7 := { stood := { row := requestPutsUptoRow, standIns := [], harness := (true, "91b09115f43d6ad44919e8c0c992e06127ec8372870d903840e1235ef9d044cb"), looks := true }, kinds := [], alts := [], laidByText := true, laidKinds := [.data, .data, .data, .data, .sentinel, .sentinel, .pinned], laidTests := true, laidLooks := .later }
def RequestPutsUptoCardSaid : Prop := Claim7.holds Tryz.pinned (.plain (OpenSpec.upto requestPutsSpec)) requestPutsUptoCard

/-- THE SECOND FORM's CARD OF 'watchfirelaw32.RequestSelects'. -/
def requestSelectsUptoCard : Claim7 := { stood := { row := requestSelectsUptoRow, standIns := [], harness := (true, "91b09115f43d6ad44919e8c0c992e06127ec8372870d903840e1235ef9d044cb"), looks := true }, kinds := [], alts := [], laidByText := true, laidKinds := [.data, .data, .data, .data, .sentinel, .sentinel, .pinned], laidTests := true, laidLooks := .later }
def RequestSelectsUptoCardSaid : Prop := Claim7.holds Tryz.pinned (.plain (OpenSpec.upto requestSelectsSpec)) requestSelectsUptoCard

/-- THE SECOND FORM's CARD OF 'watchfirelaw32.RequestValues'. -/
def requestValuesUptoCard : Claim7 := { stood := { row := requestValuesUptoRow, standIns := [], harness := (true, "91b09115f43d6ad44919e8c0c992e06127ec8372870d903840e1235ef9d044cb"), looks := true }, kinds := [], alts := [], laidByText := true, laidKinds := [.data, .data, .data, .data, .sentinel, .sentinel, .pinned], laidTests := true, laidLooks := .later }
def RequestValuesUptoCardSaid : Prop := Claim7.holds Tryz.pinned (.plain (OpenSpec.upto requestValuesSpec)) requestValuesUptoCard
end Rows
end Go.Proofs.YtcdeikhfmllkdaaGreatDoor
