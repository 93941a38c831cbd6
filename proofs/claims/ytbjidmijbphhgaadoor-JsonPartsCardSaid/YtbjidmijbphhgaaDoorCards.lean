/-
  DERIVED. GIVEN WITH THE SEED: THE CARDS: each row of YtbjidmijbphhgaaDoorRows.lean that lists a variable, with what it lists TIED to the program's text (the seventh form; the later family's looks); each row that meets fmt, with fmt's text TOLD by the authors' own Lean function (tested against real Go, not proved from fmt's source: count such statements apart). THE CARD IS WHAT COUNTS. Prove the row's statement (the work); the ties are given (YtbjidmijbphhgaaDoorTie.lean); close each card by the builder's one call (the guide's Derived/Test/ToyasCard.lean, 'card_holds'). Laid BY PROGRAM, IN A SANDBOX (cutbox-door.mjs). By AI agents, Wed Nov 11 2026. No macro, syntax, notation, axiom, sorry.
-/
import Derived.Test.YtbjidmijbphhgaaDoorRows
import GoSem.ClaimSeven
namespace Go.Proofs.YtbjidmijbphhgaaDoor
namespace Rows

/-- THE TIED CARD OF 'watchfirelaw24.JsonPuts'. -/
def jsonPutsCard : Claim7 := { stood := { row := jsonPutsRow, standIns := [], harness := (true, "51bd48336e2d27c9b2ca222c82ffc1b55ae1dff30045055ac25f982137028468"), looks := true }, kinds := [], alts := [], laidByText := true, laidKinds := [.data, .pinned], laidTests := true, laidLooks := .later }
def JsonPutsCardSaid : Prop := Claim7.holds Tryd.pinned (.plain (OpenSpec.ofChange jsonPutsSpec)) jsonPutsCard

/-- THE TIED CARD OF 'watchfirelaw24.JsonParts'. -/
def jsonPartsCard : Claim7 := { stood := { row := jsonPartsRow, standIns := [], harness := (true, "51bd48336e2d27c9b2ca222c82ffc1b55ae1dff30045055ac25f982137028468"), looks := true }, kinds := [], alts := [], laidByText := true, laidKinds := [.data, .pinned], laidTests := true, laidLooks := .later }
def JsonPartsCardSaid : Prop := Claim7.holds Tryd.pinned (.plain (OpenSpec.ofChange jsonPartsSpec)) jsonPartsCard

/-- THE TIED CARD OF 'watchfirelaw24.JsonQuotes'. -/
def jsonQuotesCard : Claim7 := { stood := { row := jsonQuotesRow, standIns := [], harness := (true, "51bd48336e2d27c9b2ca222c82ffc1b55ae1dff30045055ac25f982137028468"), looks := true }, kinds := [], alts := [], laidByText := true, laidKinds := [.data, .pinned], laidTests := true, laidLooks := .later }
def JsonQuotesCardSaid : Prop := Claim7.holds Tryd.pinned (.plain (OpenSpec.ofChange jsonQuotesSpec)) jsonQuotesCard

/-- THE TIED CARD OF 'watchfirelaw24.JsonBack'. -/
def jsonBackCard : Claim7 := { stood := { row := jsonBackRow, standIns := [], harness := (true, "51bd48336e2d27c9b2ca222c82ffc1b55ae1dff30045055ac25f982137028468"), looks := true }, kinds := [], alts := [], laidByText := true, laidKinds := [.data, .pinned], laidTests := true, laidLooks := .later }
def JsonBackCardSaid : Prop := Claim7.holds Tryd.pinned (.plain (OpenSpec.ofChange jsonBackSpec)) jsonBackCard

/-- THE TIED CARD OF 'watchfirelaw24.JsonBlanks'. -/
def jsonBlanksCard : Claim7 := { stood := { row := jsonBlanksRow, standIns := [], harness := (true, "51bd48336e2d27c9b2ca222c82ffc1b55ae1dff30045055ac25f982137028468"), looks := true }, kinds := [], alts := [], laidByText := true, laidKinds := [.data, .pinned], laidTests := true, laidLooks := .later }
def JsonBlanksCardSaid : Prop := Claim7.holds Tryd.pinned (.plain (OpenSpec.ofChange jsonBlanksSpec)) jsonBlanksCard

/-- THE TIED CARD OF 'watchfirelaw24.JsonKids'. -/
def jsonKidsCard : Claim7 := { stood := { row := jsonKidsRow, standIns := [], harness := (true, "51bd48336e2d27c9b2ca222c82ffc1b55ae1dff30045055ac25f982137028468"), looks := true }, kinds := [], alts := [], laidByText := true, laidKinds := [.data, .pinned], laidTests := true, laidLooks := .later }
def JsonKidsCardSaid : Prop := Claim7.holds Tryd.pinned (.plain (OpenSpec.ofChange jsonKidsSpec)) jsonKidsCard

/-- THE SECOND FORM's CARD OF 'watchfirelaw24.JsonPuts'. -/
def jsonPutsUptoCard : Claim7 := { stood := { row := jsonPutsUptoRow, standIns := [], harness := (true, "51bd48336e2d27c9b2ca222c82ffc1b55ae1dff30045055ac25f982137028468"), looks := true }, kinds := [], alts := [], laidByText := true, laidKinds := [.data, .pinned], laidTests := true, laidLooks := .later }
def JsonPutsUptoCardSaid : Prop := Claim7.holds Tryd.pinned (.plain (OpenSpec.upto jsonPutsSpec)) jsonPutsUptoCard

/-- THE SECOND FORM's CARD OF 'watchfirelaw24.JsonParts'. -/
def jsonPartsUptoCard : Claim7 := { stood := { row := jsonPartsUptoRow, standIns := [], harness := (true, "51bd48336e2d27c9b2ca222c82ffc1b55ae1dff30045055ac25f982137028468"), looks := true }, kinds := [], alts := [], laidByText := true, laidKinds := [.data, .pinned], laidTests := true, laidLooks := .later }
def JsonPartsUptoCardSaid : Prop := Claim7.holds Tryd.pinned (.plain (OpenSpec.upto jsonPartsSpec)) jsonPartsUptoCard

/-- THE SECOND FORM's CARD OF 'watchfirelaw24.JsonQuotes'. -/
def jsonQuotesUptoCard : Claim7 := { stood := { row := jsonQuotesUptoRow, standIns := [], harness := (true, "51bd48336e2d27c9b2ca222c82ffc1b55ae1dff30045055ac25f982137028468"), looks := true }, kinds := [], alts := [], laidByText := true, laidKinds := [.data, .pinned], laidTests := true, laidLooks := .later }
def JsonQuotesUptoCardSaid : Prop := Claim7.holds Tryd.pinned (.plain (OpenSpec.upto jsonQuotesSpec)) jsonQuotesUptoCard

/-- THE SECOND FORM's CARD OF 'watchfirelaw24.JsonBack'. -/
def jsonBackUptoCard : Claim7 := { stood := { row := jsonBackUptoRow, standIns := [], harness := (true, "51bd48336e2d27c9b2ca222c82ffc1b55ae1dff30045055ac25f982137028468"), looks := true }, kinds := [], alts := [], laidByText := true, laidKinds := [.data, .pinned], laidTests := true, laidLooks := .later }
def JsonBackUptoCardSaid : Prop := Claim7.holds Tryd.pinned (.plain (OpenSpec.upto jsonBackSpec)) jsonBackUptoCard

/-- THE SECOND FORM's CARD OF 'watchfirelaw24.JsonBlanks'. -/
def jsonBlanksUptoCard : Claim7 := { stood := { row := jsonBlanksUptoRow, standIns := [], harness := (true, "51bd48336e2d27c9b2ca222c82ffc1b55ae1dff30045055ac25f982137028468"), looks := true }, kinds := [], alts := [], laidByText := true, laidKinds := [.data, .pinned], laidTests := true, laidLooks := .later }
def JsonBlanksUptoCardSaid : Prop := Claim7.holds Tryd.pinned (.plain (OpenSpec.upto jsonBlanksSpec)) jsonBlanksUptoCard

/-- THE SECOND FORM's CARD OF 'watchfirelaw24.JsonKids'. -/
def jsonKidsUptoCard : Claim7 := { stood := { row := jsonKidsUptoRow, standIns := [], harness := (true, "51bd48336e2d27c9b2ca222c82ffc1b55ae1dff30045055ac25f982137028468"), looks := true }, kinds := [], alts := [], laidByText := true, laidKinds := [.data, .pinned], laidTests := true, laidLooks := .later }
def JsonKidsUptoCardSaid : Prop := Claim7.holds Tryd.pinned (.plain (OpenSpec.upto jsonKidsSpec)) jsonKidsUptoCard
end Rows
end Go.Proofs.YtbjidmijbphhgaaDoor
