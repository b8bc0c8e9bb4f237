/-
  DERIVED. GIVEN WITH THE SEED: THE CARDS: each row of YtdioaclegmalpaaDoorRows.lean that lists a variable, with what it lists TIED to the program's text (the seventh form; the later family's looks); each row that meets fmt, with fmt's text TOLD by the authors' own Lean function (tested against real Go, not proved from fmt's source: count such statements apart). THE CARD IS WHAT COUNTS. Prove the row's statement (the work); the ties are given (YtdioaclegmalpaaDoorTie.lean); close each card by the builder's one call (the guide's Derived/Test/ToyasCard.lean, 'card_holds'). Laid BY PROGRAM, IN A SANDBOX (cutbox-door.mjs). By AI agents, Wed Nov 11 2026. No macro, syntax, notation, axiom, sorry.
-/
import Derived.Test.YtdioaclegmalpaaDoorRows
import GoSem.ClaimSeven
namespace Go.Proofs.YtdioaclegmalpaaDoor
namespace Rows

/-- THE TIED CARD OF 'fareboxlaw05.MoneyScales'. -/
def moneyScalesCard : Claim7 := { stood := { row := moneyScalesRow, standIns := [], harness := (true, "8b329121132456dd0bc318a55d7221dcce3cc31eecc6fbeb5e3328d8b6056d9d"), looks := true }, kinds := [], alts := [], laidByText := true, laidKinds := [.data, .data, .data, .sentinel, .sentinel], laidTests := true, laidLooks := .later }
def MoneyScalesCardSaid : Prop := Claim7.holds Tryd.pinned (.plain (OpenSpec.ofChange moneyScalesSpec)) moneyScalesCard

/-- THE TIED CARD OF 'fareboxlaw05.MoneyRates'. -/
def moneyRatesCard : Claim7 := { stood := { row := moneyRatesRow, standIns := [], harness := (true, "8b329121132456dd0bc318a55d7221dcce3cc31eecc6fbeb5e3328d8b6056d9d"), looks := true }, kinds := [], alts := [], laidByText := true, laidKinds := [.data, .data, .data, .sentinel, .sentinel], laidTests := true, laidLooks := .later }
def MoneyRatesCardSaid : Prop := Claim7.holds Tryd.pinned (.plain (OpenSpec.ofChange moneyRatesSpec)) moneyRatesCard

/-- THE TIED CARD OF 'fareboxlaw05.MoneyParts'. -/
def moneyPartsCard : Claim7 := { stood := { row := moneyPartsRow, standIns := [], harness := (true, "8b329121132456dd0bc318a55d7221dcce3cc31eecc6fbeb5e3328d8b6056d9d"), looks := true }, kinds := [], alts := [], laidByText := true, laidKinds := [.data, .data, .data, .sentinel, .sentinel], laidTests := true, laidLooks := .later }
def MoneyPartsCardSaid : Prop := Claim7.holds Tryd.pinned (.plain (OpenSpec.ofChange moneyPartsSpec)) moneyPartsCard

/-- THE TIED CARD OF 'fareboxlaw05.MoneyTexts'. -/
def moneyTextsCard : Claim7 := { stood := { row := moneyTextsRow, standIns := [], harness := (true, "8b329121132456dd0bc318a55d7221dcce3cc31eecc6fbeb5e3328d8b6056d9d"), looks := true }, kinds := [], alts := [], laidByText := true, laidKinds := [.data, .data, .data, .sentinel, .sentinel], laidTests := true, laidLooks := .later }
def MoneyTextsCardSaid : Prop := Claim7.holds Tryd.pinned (.plain (OpenSpec.ofChange moneyTextsSpec)) moneyTextsCard

/-- THE TIED CARD OF 'fareboxlaw05.MoneyBack'. -/
def moneyBackCard : Claim7 := { stood := { row := moneyBackRow, standIns := [], harness := (true, "8b329121132456dd0bc318a55d7221dcce3cc31eecc6fbeb5e3328d8b6056d9d"), looks := true }, kinds := [], alts := [], laidByText := true, laidKinds := [.data, .data, .data, .sentinel, .sentinel], laidTests := true, laidLooks := .later }
def MoneyBackCardSaid : Prop := Claim7.holds Tryd.pinned (.plain (OpenSpec.ofChange moneyBackSpec)) moneyBackCard

/-- THE TIED CARD OF 'fareboxlaw05.MoneyBits'. -/
def moneyBitsCard : Claim7 := { stood := { row := moneyBitsRow, standIns := [], harness := (true, "8b329121132456dd0bc318a55d7221dcce3cc31eecc6fbeb5e3328d8b6056d9d"), looks := true }, kinds := [], alts := [], laidByText := true, laidKinds := [.data, .data, .data, .sentinel, .sentinel], laidTests := true, laidLooks := .later }
def MoneyBitsCardSaid : Prop := Claim7.holds Tryd.pinned (.plain (OpenSpec.ofChange moneyBitsSpec)) moneyBitsCard

/-- THE TIED CARD OF 'fareboxlaw05.MoneySums'. -/
def moneySumsCard : Claim7 := { stood := { row := moneySumsRow, standIns := [], harness := (true, "8b329121132456dd0bc318a55d7221dcce3cc31eecc6fbeb5e3328d8b6056d9d"), looks := true }, kinds := [], alts := [], laidByText := true, laidKinds := [.data, .data, .data, .sentinel, .sentinel], laidTests := true, laidLooks := .later }
def MoneySumsCardSaid : Prop := Claim7.holds Tryd.pinned (.plain (OpenSpec.ofChange moneySumsSpec)) moneySumsCard

/-- THE TIED CARD OF 'fareboxlaw05.MoneyTurns'. -/
def moneyTurnsCard : Claim7 := { stood := { row := moneyTurnsRow, standIns := [], harness := (true, "8b329121132456dd0bc318a55d7221dcce3cc31eecc6fbeb5e3328d8b6056d9d"), looks := true }, kinds := [], alts := [], laidByText := true, laidKinds := [.data, .data, .data, .sentinel, .sentinel], laidTests := true, laidLooks := .later }
def MoneyTurnsCardSaid : Prop := Claim7.holds Tryd.pinned (.plain (OpenSpec.ofChange moneyTurnsSpec)) moneyTurnsCard

/-- THE TIED CARD OF 'fareboxlaw05.MoneyOrder'. -/
def moneyOrderCard : Claim7 := { stood := { row := moneyOrderRow, standIns := [], harness := (true, "8b329121132456dd0bc318a55d7221dcce3cc31eecc6fbeb5e3328d8b6056d9d"), looks := true }, kinds := [], alts := [], laidByText := true, laidKinds := [.data, .data, .data, .sentinel, .sentinel], laidTests := true, laidLooks := .later }
def MoneyOrderCardSaid : Prop := Claim7.holds Tryd.pinned (.plain (OpenSpec.ofChange moneyOrderSpec)) moneyOrderCard

/-- THE SECOND FORM's CARD OF 'fareboxlaw05.MoneyScales'. -/
def moneyScalesUptoCard : Claim7 := { stood := { row := moneyScalesUptoRow, standIns := [], harness := (true, "8b329121132456dd0bc318a55d7221dcce3cc31eecc6fbeb5e3328d8b6056d9d"), looks := true }, kinds := [], alts := [], laidByText := true, laidKinds := [.data, .data, .data, .sentinel, .sentinel], laidTests := true, laidLooks := .later }
def MoneyScalesUptoCardSaid : Prop := Claim7.holds Tryd.pinned (.plain (OpenSpec.upto moneyScalesSpec)) moneyScalesUptoCard

/-- THE SECOND FORM's CARD OF 'fareboxlaw05.MoneyRates'. -/
def moneyRatesUptoCard : Claim7 := { stood := { row := moneyRatesUptoRow, standIns := [], harness := (true, "8b329121132456dd0bc318a55d7221dcce3cc31eecc6fbeb5e3328d8b6056d9d"), looks := true }, kinds := [], alts := [], laidByText := true, laidKinds := [.data, .data, .data, .sentinel, .sentinel], laidTests := true, laidLooks := .later }
def MoneyRatesUptoCardSaid : Prop := Claim7.holds Tryd.pinned (.plain (OpenSpec.upto moneyRatesSpec)) moneyRatesUptoCard

/-- THE SECOND FORM's CARD OF 'fareboxlaw05.MoneyParts'. -/
def moneyPartsUptoCard : Claim7 := { stood := { row := moneyPartsUptoRow, standIns := [], harness := (true, "8b329121132456dd0bc318a55d7221dcce3cc31eecc6fbeb5e3328d8b6056d9d"), looks := true }, kinds := [], alts := [], laidByText := true, laidKinds := [.data, .data, .data, .sentinel, .sentinel], laidTests := true, laidLooks := .later }
def MoneyPartsUptoCardSaid : Prop := Claim7.holds Tryd.pinned (.plain (OpenSpec.upto moneyPartsSpec)) moneyPartsUptoCard

/-- THE SECOND FORM's CARD OF 'fareboxlaw05.MoneyTexts'. -/
def moneyTextsUptoCard : Claim7 := { stood := { row := moneyTextsUptoRow, standIns := [], harness := (true, "8b329121132456dd0bc318a55d7221dcce3cc31eecc6fbeb5e3328d8b6056d9d"), looks := true }, kinds := [], alts := [], laidByText := true, laidKinds := [.data, .data, .data, .sentinel, .sentinel], laidTests := true, laidLooks := .later }
def MoneyTextsUptoCardSaid : Prop := Claim7.holds Tryd.pinned (.plain (OpenSpec.upto moneyTextsSpec)) moneyTextsUptoCard

/-- THE SECOND FORM's CARD OF 'fareboxlaw05.MoneyBack'. -/
def moneyBackUptoCard : Claim7 := { stood := { row := moneyBackUptoRow, standIns := [], harness := (true, "8b329121132456dd0bc318a55d7221dcce3cc31eecc6fbeb5e3328d8b6056d9d"), looks := true }, kinds := [], alts := [], laidByText := true, laidKinds := [.data, .data, .data, .sentinel, .sentinel], laidTests := true, laidLooks := .later }
def MoneyBackUptoCardSaid : Prop := Claim7.holds Tryd.pinned (.plain (OpenSpec.upto moneyBackSpec)) moneyBackUptoCard

/-- THE SECOND FORM's CARD OF 'fareboxlaw05.MoneyBits'. -/
def moneyBitsUptoCard : Claim7 := { stood := { row := moneyBitsUptoRow, standIns := [], harness := (true, "8b329121132456dd0bc318a55d7221dcce3cc31eecc6fbeb5e3328d8b6056d9d"), looks := true }, kinds := [], alts := [], laidByText := true, laidKinds := [.data, .data, .data, .sentinel, .sentinel], laidTests := true, laidLooks := .later }
def MoneyBitsUptoCardSaid : Prop := Claim7.holds Tryd.pinned (.plain (OpenSpec.upto moneyBitsSpec)) moneyBitsUptoCard

/-- THE SECOND FORM's CARD OF 'fareboxlaw05.MoneySums'. -/
def moneySumsUptoCard : Claim7 := { stood := { row := moneySumsUptoRow, standIns := [], harness := (true, "8b329121132456dd0bc318a55d7221dcce3cc31eecc6fbeb5e3328d8b6056d9d"), looks := true }, kinds := [], alts := [], laidByText := true, laidKinds := [.data, .data, .data, .sentinel, .sentinel], laidTests := true, laidLooks := .later }
def MoneySumsUptoCardSaid : Prop := Claim7.holds Tryd.pinned (.plain (OpenSpec.upto moneySumsSpec)) moneySumsUptoCard

/-- THE SECOND FORM's CARD OF 'fareboxlaw05.MoneyTurns'. -/
def moneyTurnsUptoCard : Claim7 := { stood := { row := moneyTurnsUptoRow, standIns := [], harness := (true, "8b329121132456dd0bc318a55d7221dcce3cc31eecc6fbeb5e3328d8b6056d9d"), looks := true }, kinds := [], alts := [], laidByText := true, laidKinds := [.data, .data, .data, .sentinel, .sentinel], laidTests := true, laidLooks := .later }
def MoneyTurnsUptoCardSaid : Prop := Claim7.holds Tryd.pinned (.plain (OpenSpec.upto moneyTurnsSpec)) moneyTurnsUptoCard

/-- THE SECOND FORM's CARD OF 'fareboxlaw05.MoneyOrder'. -/
def moneyOrderUptoCard : Claim7 := { stood := { row := moneyOrderUptoRow, standIns := [], harness := (true, "8b329121132456dd0bc318a55d7221dcce3cc31eecc6fbeb5e3328d8b6056d9d"), looks := true }, kinds := [], alts := [], laidByText := true, laidKinds := [.data, .data, .data, .sentinel, .sentinel], laidTests := true, laidLooks := .later }
def MoneyOrderUptoCardSaid : Prop := Claim7.holds Tryd.pinned (.plain (OpenSpec.upto moneyOrderSpec)) moneyOrderUptoCard
end Rows
end Go.Proofs.YtdioaclegmalpaaDoor
