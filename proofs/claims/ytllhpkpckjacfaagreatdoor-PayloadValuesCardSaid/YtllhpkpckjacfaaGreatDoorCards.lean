/-
  DERIVED. GIVEN WITH THE SEED: THE CARDS: each row of YtllhpkpckjacfaaGreatDoorRows.lean that lists a variable, with what it lists TIED to the program's text (the seventh form; the later family's looks); each row that meets fmt, with fmt's text TOLD by the authors' own Lean function (tested against real Go, not proved from fmt's source: count such statements apart). THE CARD IS WHAT COUNTS. Prove the row's statement (the work); the ties are given (YtllhpkpckjacfaaGreatDoorTie.lean); close each card by the builder's one call (the guide's Derived/Test/ToyasCard.lean, 'card_holds'). Laid BY PROGRAM, IN A SANDBOX (cutbox-door.mjs). By AI agents, Wed Nov 11 2026. No macro, syntax, notation, axiom, sorry.
-/
import Derived.Test.YtllhpkpckjacfaaGreatDoorRows
import GoSem.ClaimSeven
namespace Go.Proofs.YtllhpkpckjacfaaGreatDoor
namespace Rows

/-- THE TIED CARD OF 'watchfirelaw28.TemplateFilters'. -/
def templateFiltersCard : Claim7 := { stood := { row := templateFiltersRow, standIns := [], harness := (true, "78ea03f1f394b8d4c213fd03a2c5acab100c77577f77e0d70711858aa8f9e007"), looks := true }, kinds := [], alts := [], laidByText := true, laidKinds := [.data, .data, .data, .data, .sentinel, .sentinel, .pinned], laidTests := true, laidLooks := .later }
def TemplateFiltersCardSaid : Prop := Claim7.holds Tryz.pinned (.plain (OpenSpec.ofChange templateFiltersSpec)) templateFiltersCard

/-- THE TIED CARD OF 'watchfirelaw28.TemplatePlain'. -/
def templatePlainCard : Claim7 := { stood := { row := templatePlainRow, standIns := [], harness := (true, "78ea03f1f394b8d4c213fd03a2c5acab100c77577f77e0d70711858aa8f9e007"), looks := true }, kinds := [], alts := [], laidByText := true, laidKinds := [.data, .data, .data, .data, .sentinel, .sentinel, .pinned], laidTests := true, laidLooks := .later }
def TemplatePlainCardSaid : Prop := Claim7.holds Tryz.pinned (.plain (OpenSpec.ofChange templatePlainSpec)) templatePlainCard

/-- THE TIED CARD OF 'watchfirelaw28.TemplateRange'. -/
def templateRangeCard : Claim7 := { stood := { row := templateRangeRow, standIns := [], harness := (true, "78ea03f1f394b8d4c213fd03a2c5acab100c77577f77e0d70711858aa8f9e007"), looks := true }, kinds := [], alts := [], laidByText := true, laidKinds := [.data, .data, .data, .data, .sentinel, .sentinel, .pinned], laidTests := true, laidLooks := .later }
def TemplateRangeCardSaid : Prop := Claim7.holds Tryz.pinned (.plain (OpenSpec.ofChange templateRangeSpec)) templateRangeCard

/-- THE TIED CARD OF 'watchfirelaw28.TemplateChoice'. -/
def templateChoiceCard : Claim7 := { stood := { row := templateChoiceRow, standIns := [], harness := (true, "78ea03f1f394b8d4c213fd03a2c5acab100c77577f77e0d70711858aa8f9e007"), looks := true }, kinds := [], alts := [], laidByText := true, laidKinds := [.data, .data, .data, .data, .sentinel, .sentinel, .pinned], laidTests := true, laidLooks := .later }
def TemplateChoiceCardSaid : Prop := Claim7.holds Tryz.pinned (.plain (OpenSpec.ofChange templateChoiceSpec)) templateChoiceCard

/-- THE TIED CARD OF 'watchfirelaw28.TemplateTwice'. -/
def templateTwiceCard : Claim7 := { stood := { row := templateTwiceRow, standIns := [], harness := (true, "78ea03f1f394b8d4c213fd03a2c5acab100c77577f77e0d70711858aa8f9e007"), looks := true }, kinds := [], alts := [], laidByText := true, laidKinds := [.data, .data, .data, .data, .sentinel, .sentinel, .pinned], laidTests := true, laidLooks := .later }
def TemplateTwiceCardSaid : Prop := Claim7.holds Tryz.pinned (.plain (OpenSpec.ofChange templateTwiceSpec)) templateTwiceCard

/-- THE TIED CARD OF 'watchfirelaw29.PayloadValues'. -/
def payloadValuesCard : Claim7 := { stood := { row := payloadValuesRow, standIns := [], harness := (true, "78ea03f1f394b8d4c213fd03a2c5acab100c77577f77e0d70711858aa8f9e007"), looks := true }, kinds := [], alts := [], laidByText := true, laidKinds := [.data, .data, .data, .data, .sentinel, .sentinel, .pinned], laidTests := true, laidLooks := .later }
def PayloadValuesCardSaid : Prop := Claim7.holds Tryz.pinned (.plain (OpenSpec.ofChange payloadValuesSpec)) payloadValuesCard

/-- THE TIED CARD OF 'watchfirelaw29.PayloadTexts'. -/
def payloadTextsCard : Claim7 := { stood := { row := payloadTextsRow, standIns := [], harness := (true, "78ea03f1f394b8d4c213fd03a2c5acab100c77577f77e0d70711858aa8f9e007"), looks := true }, kinds := [], alts := [], laidByText := true, laidKinds := [.data, .data, .data, .data, .sentinel, .sentinel, .pinned], laidTests := true, laidLooks := .later }
def PayloadTextsCardSaid : Prop := Claim7.holds Tryz.pinned (.plain (OpenSpec.ofChange payloadTextsSpec)) payloadTextsCard

/-- THE TIED CARD OF 'watchfirelaw29.PayloadCuts'. -/
def payloadCutsCard : Claim7 := { stood := { row := payloadCutsRow, standIns := [], harness := (true, "78ea03f1f394b8d4c213fd03a2c5acab100c77577f77e0d70711858aa8f9e007"), looks := true }, kinds := [], alts := [], laidByText := true, laidKinds := [.data, .data, .data, .data, .sentinel, .sentinel, .pinned], laidTests := true, laidLooks := .later }
def PayloadCutsCardSaid : Prop := Claim7.holds Tryz.pinned (.plain (OpenSpec.ofChange payloadCutsSpec)) payloadCutsCard

/-- THE TIED CARD OF 'watchfirelaw29.PayloadQuotes'. -/
def payloadQuotesCard : Claim7 := { stood := { row := payloadQuotesRow, standIns := [], harness := (true, "78ea03f1f394b8d4c213fd03a2c5acab100c77577f77e0d70711858aa8f9e007"), looks := true }, kinds := [], alts := [], laidByText := true, laidKinds := [.data, .data, .data, .data, .sentinel, .sentinel, .pinned], laidTests := true, laidLooks := .later }
def PayloadQuotesCardSaid : Prop := Claim7.holds Tryz.pinned (.plain (OpenSpec.ofChange payloadQuotesSpec)) payloadQuotesCard

/-- THE TIED CARD OF 'watchfirelaw29.PayloadBack'. -/
def payloadBackCard : Claim7 := { stood := { row := payloadBackRow, standIns := [], harness := (true, "78ea03f1f394b8d4c213fd03a2c5acab100c77577f77e0d70711858aa8f9e007"), looks := true }, kinds := [], alts := [], laidByText := true, laidKinds := [.data, .data, .data, .data, .sentinel, .sentinel, .pinned], laidTests := true, laidLooks := .later }
def PayloadBackCardSaid : Prop := Claim7.holds Tryz.pinned (.plain (OpenSpec.ofChange payloadBackSpec)) payloadBackCard

/-- THE SECOND FORM's CARD OF 'watchfirelaw28.TemplateFilters'. -/
def templateFiltersUptoCard : Claim7 := { stood := { row := templateFiltersUptoRow, standIns := [], harness := (true, "78ea03f1f394b8d4c213fd03a2c5acab100c77577f77e0d70711858aa8f9e007"), looks := true }, kinds := [], alts := [], laidByText := true, laidKinds := [.data, .data, .data, .data, .sentinel, .sentinel, .pinned], laidTests := true, laidLooks := .later }
def TemplateFiltersUptoCardSaid : Prop := Claim7.holds Tryz.pinned (.plain (OpenSpec.upto templateFiltersSpec)) templateFiltersUptoCard

/-- THE SECOND FORM's CARD OF 'watchfirelaw28.TemplatePlain'. -/
def templatePlainUptoCard : Claim7 := { stood := { row := templatePlainUptoRow, standIns := [], harness := (true, "78ea03f1f394b8d4c213fd03a2c5acab100c77577f77e0d70711858aa8f9e007"), looks := true }, kinds := [], alts := [], laidByText := true, laidKinds := [.data, .data, .data, .data, .sentinel, .sentinel, .pinned], laidTests := true, laidLooks := .later }
def TemplatePlainUptoCardSaid : Prop := Claim7.holds Tryz.pinned (.plain (OpenSpec.upto templatePlainSpec)) templatePlainUptoCard

/-- THE SECOND FORM's CARD OF 'watchfirelaw28.TemplateRange'. -/
def templateRangeUptoCard : Claim7 := { stood := { row := templateRangeUptoRow, standIns := [], harness := (true, "78ea03f1f394b8d4c213fd03a2c5acab100c77577f77e0d70711858aa8f9e007"), looks := true }, kinds := [], alts := [], laidByText := true, laidKinds := [.data, .data, .data, .data, .sentinel, .sentinel, .pinned], laidTests := true, laidLooks := .later }
def TemplateRangeUptoCardSaid : Prop := Claim7.holds Tryz.pinned (.plain (OpenSpec.upto templateRangeSpec)) templateRangeUptoCard

/-- THE SECOND FORM's CARD OF 'watchfirelaw28.TemplateChoice'. -/
def templateChoiceUptoCard : Claim7 := { stood := { row := templateChoiceUptoRow, standIns := [], harness := (true, "78ea03f1f394b8d4c213fd03a2c5acab100c77577f77e0d70711858aa8f9e007"), looks := true }, kinds := [], alts := [], laidByText := true, laidKinds := [.data, .data, .data, .data, .sentinel, .sentinel, .pinned], laidTests := true, laidLooks := .later }
def TemplateChoiceUptoCardSaid : Prop := Claim7.holds Tryz.pinned (.plain (OpenSpec.upto templateChoiceSpec)) templateChoiceUptoCard

/-- THE SECOND FORM's CARD OF 'watchfirelaw28.TemplateTwice'. -/
def templateTwiceUptoCard : Claim7 := { stood := { row := templateTwiceUptoRow, standIns := [], harness := (true, "78ea03f1f394b8d4c213fd03a2c5acab100c77577f77e0d70711858aa8f9e007"), looks := true }, kinds := [], alts := [], laidByText := true, laidKinds := [.data, .data, .data, .data, .sentinel, .sentinel, .pinned], laidTests := true, laidLooks := .later }
def TemplateTwiceUptoCardSaid : Prop := Claim7.holds Tryz.pinned (.plain (OpenSpec.upto templateTwiceSpec)) templateTwiceUptoCard

/-- THE SECOND FORM's CARD OF 'watchfirelaw29.PayloadValues'. -/
def payloadValuesUptoCard : Claim7 := { stood := { row := payloadValuesUptoRow, standIns := [], harness := (true, "78ea03f1f394b8d4c213fd03a2c5acab100c77577f77e0d70711858aa8f9e007"), looks := true }, kinds := [], alts := [], laidByText := true, laidKinds := [.data, .data, .data, .data, .sentinel, .sentinel, .pinned], laidTests := true, laidLooks := .later }
def PayloadValuesUptoCardSaid : Prop := Claim7.holds Tryz.pinned (.plain (OpenSpec.upto payloadValuesSpec)) payloadValuesUptoCard

/-- THE SECOND FORM's CARD OF 'watchfirelaw29.PayloadTexts'. -/
def payloadTextsUptoCard : Claim7 := { stood := { row := payloadTextsUptoRow, standIns := [], harness := (true, "78ea03f1f394b8d4c213fd03a2c5acab100c77577f77e0d70711858aa8f9e007"), looks := true }, kinds := [], alts := [], laidByText := true, laidKinds := [.data, .data, .data, .data, .sentinel, .sentinel, .pinned], laidTests := true, laidLooks := .later }
def PayloadTextsUptoCardSaid : Prop := Claim7.holds Tryz.pinned (.plain (OpenSpec.upto payloadTextsSpec)) payloadTextsUptoCard

/-- THE SECOND FORM's CARD OF 'watchfirelaw29.PayloadCuts'. -/
def payloadCutsUptoCard : Claim7 := { stood := { row := payloadCutsUptoRow, standIns := [], harness := (true, "78ea03f1f394b8d4c213fd03a2c5acab100c77577f77e0d70711858aa8f9e007"), looks := true }, kinds := [], alts := [], laidByText := true, laidKinds := [.data, .data, .data, .data, .sentinel, .sentinel, .pinned], laidTests := true, laidLooks := .later }
def PayloadCutsUptoCardSaid : Prop := Claim7.holds Tryz.pinned (.plain (OpenSpec.upto payloadCutsSpec)) payloadCutsUptoCard

/-- THE SECOND FORM's CARD OF 'watchfirelaw29.PayloadQuotes'. -/
def payloadQuotesUptoCard : Claim7 := { stood := { row := payloadQuotesUptoRow, standIns := [], harness := (true, "78ea03f1f394b8d4c213fd03a2c5acab100c77577f77e0d70711858aa8f9e007"), looks := true }, kinds := [], alts := [], laidByText := true, laidKinds := [.data, .data, .data, .data, .sentinel, .sentinel, .pinned], laidTests := true, laidLooks := .later }
def PayloadQuotesUptoCardSaid : Prop := Claim7.holds Tryz.pinned (.plain (OpenSpec.upto payloadQuotesSpec)) payloadQuotesUptoCard

/-- THE SECOND FORM's CARD OF 'watchfirelaw29.PayloadBack'. -/
def payloadBackUptoCard : Claim7 := { stood := { row := payloadBackUptoRow, standIns := [], harness := (true, "78ea03f1f394b8d4c213fd03a2c5acab100c77577f77e0d70711858aa8f9e007"), looks := true }, kinds := [], alts := [], laidByText := true, laidKinds := [.data, .data, .data, .data, .sentinel, .sentinel, .pinned], laidTests := true, laidLooks := .later }
def PayloadBackUptoCardSaid : Prop := Claim7.holds Tryz.pinned (.plain (OpenSpec.upto payloadBackSpec)) payloadBackUptoCard
end Rows
end Go.Proofs.YtllhpkpckjacfaaGreatDoor
