/-
  DERIVED. GIVEN WITH THE SEED: THE CARDS: each row of YtgcdldbfikodaaaDoorRows.lean that lists a variable, with what it lists TIED to the program's text (the seventh form; the later family's looks); each row that meets fmt, with fmt's text TOLD by the authors' own Lean function (tested against real Go, not proved from fmt's source: count such statements apart). THE CARD IS WHAT COUNTS. Prove the row's statement (the work); the ties are given (YtgcdldbfikodaaaDoorTie.lean); close each card by the builder's one call (the guide's Derived/Test/ToyasCard.lean, 'card_holds'). Laid BY PROGRAM, IN A SANDBOX (cutbox-door.mjs). By AI agents, Wed Nov 11 2026. No macro, syntax, notation, axiom, sorry.
-/
import Derived.Test.YtgcdldbfikodaaaDoorRows
import GoSem.ClaimSeven
namespace Go.Proofs.YtgcdldbfikodaaaDoor
namespace Rows

/-- THE TIED CARD OF 'fareboxlaw06.ClockTexts'. -/
def clockTextsCard : Claim7 := { stood := { row := clockTextsRow, standIns := [], harness := (true, "ed559f77a2116334c4aa972593f422a7259fdc9b302d6f8e1ea04c815566a1d7"), looks := true }, kinds := [], alts := [], laidByText := true, laidKinds := [.data, .data, .data, .sentinel, .sentinel], laidTests := true, laidLooks := .later }
def ClockTextsCardSaid : Prop := Claim7.holds Tryd.pinned (.plain (OpenSpec.ofChange clockTextsSpec)) clockTextsCard

/-- THE TIED CARD OF 'fareboxlaw06.ClockTells'. -/
def clockTellsCard : Claim7 := { stood := { row := clockTellsRow, standIns := [], harness := (true, "ed559f77a2116334c4aa972593f422a7259fdc9b302d6f8e1ea04c815566a1d7"), looks := true }, kinds := [], alts := [], laidByText := true, laidKinds := [.data, .data, .data, .sentinel, .sentinel], laidTests := true, laidLooks := .later }
def ClockTellsCardSaid : Prop := Claim7.holds Tryd.pinned (.plain (OpenSpec.ofChange clockTellsSpec)) clockTellsCard

/-- THE TIED CARD OF 'fareboxlaw06.ClockBack'. -/
def clockBackCard : Claim7 := { stood := { row := clockBackRow, standIns := [], harness := (true, "ed559f77a2116334c4aa972593f422a7259fdc9b302d6f8e1ea04c815566a1d7"), looks := true }, kinds := [], alts := [], laidByText := true, laidKinds := [.data, .data, .data, .sentinel, .sentinel], laidTests := true, laidLooks := .later }
def ClockBackCardSaid : Prop := Claim7.holds Tryd.pinned (.plain (OpenSpec.ofChange clockBackSpec)) clockBackCard

/-- THE TIED CARD OF 'fareboxlaw06.ClockOrder'. -/
def clockOrderCard : Claim7 := { stood := { row := clockOrderRow, standIns := [], harness := (true, "ed559f77a2116334c4aa972593f422a7259fdc9b302d6f8e1ea04c815566a1d7"), looks := true }, kinds := [], alts := [], laidByText := true, laidKinds := [.data, .data, .data, .sentinel, .sentinel], laidTests := true, laidLooks := .later }
def ClockOrderCardSaid : Prop := Claim7.holds Tryd.pinned (.plain (OpenSpec.ofChange clockOrderSpec)) clockOrderCard

/-- THE TIED CARD OF 'fareboxlaw06.ClockWeeks'. -/
def clockWeeksCard : Claim7 := { stood := { row := clockWeeksRow, standIns := [], harness := (true, "ed559f77a2116334c4aa972593f422a7259fdc9b302d6f8e1ea04c815566a1d7"), looks := true }, kinds := [], alts := [], laidByText := true, laidKinds := [.data, .data, .data, .sentinel, .sentinel], laidTests := true, laidLooks := .later }
def ClockWeeksCardSaid : Prop := Claim7.holds Tryd.pinned (.plain (OpenSpec.ofChange clockWeeksSpec)) clockWeeksCard

/-- THE TIED CARD OF 'fareboxlaw06.ClockPeaks'. -/
def clockPeaksCard : Claim7 := { stood := { row := clockPeaksRow, standIns := [], harness := (true, "ed559f77a2116334c4aa972593f422a7259fdc9b302d6f8e1ea04c815566a1d7"), looks := true }, kinds := [], alts := [], laidByText := true, laidKinds := [.data, .data, .data, .sentinel, .sentinel], laidTests := true, laidLooks := .later }
def ClockPeaksCardSaid : Prop := Claim7.holds Tryd.pinned (.plain (OpenSpec.ofChange clockPeaksSpec)) clockPeaksCard

/-- THE SECOND FORM's CARD OF 'fareboxlaw06.ClockTexts'. -/
def clockTextsUptoCard : Claim7 := { stood := { row := clockTextsUptoRow, standIns := [], harness := (true, "ed559f77a2116334c4aa972593f422a7259fdc9b302d6f8e1ea04c815566a1d7"), looks := true }, kinds := [], alts := [], laidByText := true, laidKinds := [.data, .data, .data, .sentinel, .sentinel], laidTests := true, laidLooks := .later }
def ClockTextsUptoCardSaid : Prop := Claim7.holds Tryd.pinned (.plain (OpenSpec.upto clockTextsSpec)) clockTextsUptoCard

/-- THE SECOND FORM's CARD OF 'fareboxlaw06.ClockTells'. -/
def clockTellsUptoCard : Claim7 := { stood := { row := clockTellsUptoRow, standIns := [], harness := (true, "ed559f77a2116334c4aa972593f422a7259fdc9b302d6f8e1ea04c815566a1d7"), looks := true }, kinds := [], alts := [], laidByText := true, laidKinds := [.data, .data, .data, .sentinel, .sentinel], laidTests := true, laidLooks := .later }
def ClockTellsUptoCardSaid : Prop := Claim7.holds Tryd.pinned (.plain (OpenSpec.upto clockTellsSpec)) clockTellsUptoCard

/-- THE SECOND FORM's CARD OF 'fareboxlaw06.ClockBack'. -/
def clockBackUptoCard : Claim7 := { stood := { row := clockBackUptoRow, standIns := [], harness := (true, "ed559f77a2116334c4aa972593f422a7259fdc9b302d6f8e1ea04c815566a1d7"), looks := true }, kinds := [], alts := [], laidByText := true, laidKinds := [.data, .data, .data, .sentinel, .sentinel], laidTests := true, laidLooks := .later }
def ClockBackUptoCardSaid : Prop := Claim7.holds Tryd.pinned (.plain (OpenSpec.upto clockBackSpec)) clockBackUptoCard

/-- THE SECOND FORM's CARD OF 'fareboxlaw06.ClockOrder'. -/
def clockOrderUptoCard : Claim7 := { stood := { row := clockOrderUptoRow, standIns := [], harness := (true, "ed559f77a2116334c4aa972593f422a7259fdc9b302d6f8e1ea04c815566a1d7"), looks := true }, kinds := [], alts := [], laidByText := true, laidKinds := [.data, .data, .data, .sentinel, .sentinel], laidTests := true, laidLooks := .later }
def ClockOrderUptoCardSaid : Prop := Claim7.holds Tryd.pinned (.plain (OpenSpec.upto clockOrderSpec)) clockOrderUptoCard

/-- THE SECOND FORM's CARD OF 'fareboxlaw06.ClockWeeks'. -/
def clockWeeksUptoCard : Claim7 := { stood := { row := clockWeeksUptoRow, standIns := [], harness := (true, "ed559f77a2116334c4aa972593f422a7259fdc9b302d6f8e1ea04c815566a1d7"), looks := true }, kinds := [], alts := [], laidByText := true, laidKinds := [.data, .data, .data, .sentinel, .sentinel], laidTests := true, laidLooks := .later }
def ClockWeeksUptoCardSaid : Prop := Claim7.holds Tryd.pinned (.plain (OpenSpec.upto clockWeeksSpec)) clockWeeksUptoCard

/-- THE SECOND FORM's CARD OF 'fareboxlaw06.ClockPeaks'. -/
def clockPeaksUptoCard : Claim7 := { stood := { row := clockPeaksUptoRow, standIns := [], harness := (true, "ed559f77a2116334c4aa972593f422a7259fdc9b302d6f8e1ea04c815566a1d7"), looks := true }, kinds := [], alts := [], laidByText := true, laidKinds := [.data, .data, .data, .sentinel, .sentinel], laidTests := true, laidLooks := .later }
def ClockPeaksUptoCardSaid : Prop := Claim7.holds Tryd.pinned (.plain (OpenSpec.upto clockPeaksSpec)) clockPeaksUptoCard
end Rows
end Go.Proofs.YtgcdldbfikodaaaDoor
