/-
  DERIVED. GIVEN WITH THE SEED: THE CARDS: each row of YtheoklhmlnfgjaaGreatDoorRows.lean that lists a variable, with what it lists TIED to the program's text (the seventh form; the later family's looks); each row that meets fmt, with fmt's text TOLD by the authors' own Lean function (tested against real Go, not proved from fmt's source: count such statements apart). THE CARD IS WHAT COUNTS. Prove the row's statement (the work); the ties are given (YtheoklhmlnfgjaaGreatDoorTie.lean); close each card by the builder's one call (the guide's Derived/Test/ToyasCard.lean, 'card_holds'). Laid BY PROGRAM, IN A SANDBOX (cutbox-door.mjs). By AI agents, Wed Nov 11 2026. No macro, syntax, notation, axiom, sorry.
-/
import Derived.Test.YtheoklhmlnfgjaaGreatDoorRows
import GoSem.ClaimSeven
namespace Go.Proofs.YtheoklhmlnfgjaaGreatDoor
namespace Rows

/-- THE TIED CARD OF 'conduitlaw11.SwaplogReplays'. -/
def swaplogReplaysCard : Claim7 := { stood := { row := swaplogReplaysRow, standIns := [], harness := (true, "e8bc8ec81f8e4c59e6bf85e4781a038b5538ee25d612fcfcad9892eb1a6d3772"), looks := true }, kinds := [], alts := [], laidByText := true, laidKinds := [.data, .pinned], laidTests := true, laidLooks := .later }
def SwaplogReplaysCardSaid : Prop := Claim7.holds Tryz.pinned (.plain (OpenSpec.ofChange swaplogReplaysSpec)) swaplogReplaysCard

/-- THE TIED CARD OF 'conduitlaw11.SwaplogSound'. -/
def swaplogSoundCard : Claim7 := { stood := { row := swaplogSoundRow, standIns := [], harness := (true, "e8bc8ec81f8e4c59e6bf85e4781a038b5538ee25d612fcfcad9892eb1a6d3772"), looks := true }, kinds := [], alts := [], laidByText := true, laidKinds := [.data, .pinned], laidTests := true, laidLooks := .later }
def SwaplogSoundCardSaid : Prop := Claim7.holds Tryz.pinned (.plain (OpenSpec.ofChange swaplogSoundSpec)) swaplogSoundCard

/-- THE TIED CARD OF 'conduitlaw11.SwaplogSteps'. -/
def swaplogStepsCard : Claim7 := { stood := { row := swaplogStepsRow, standIns := [], harness := (true, "e8bc8ec81f8e4c59e6bf85e4781a038b5538ee25d612fcfcad9892eb1a6d3772"), looks := true }, kinds := [], alts := [], laidByText := true, laidKinds := [.data, .pinned], laidTests := true, laidLooks := .later }
def SwaplogStepsCardSaid : Prop := Claim7.holds Tryz.pinned (.plain (OpenSpec.ofChange swaplogStepsSpec)) swaplogStepsCard

/-- THE TIED CARD OF 'conduitlaw11.SwaplogSurvives'. -/
def swaplogSurvivesCard : Claim7 := { stood := { row := swaplogSurvivesRow, standIns := [], harness := (true, "e8bc8ec81f8e4c59e6bf85e4781a038b5538ee25d612fcfcad9892eb1a6d3772"), looks := true }, kinds := [], alts := [], laidByText := true, laidKinds := [.data, .pinned], laidTests := true, laidLooks := .later }
def SwaplogSurvivesCardSaid : Prop := Claim7.holds Tryz.pinned (.plain (OpenSpec.ofChange swaplogSurvivesSpec)) swaplogSurvivesCard

/-- THE TIED CARD OF 'conduitlaw11.SwaplogTurns'. -/
def swaplogTurnsCard : Claim7 := { stood := { row := swaplogTurnsRow, standIns := [], harness := (true, "e8bc8ec81f8e4c59e6bf85e4781a038b5538ee25d612fcfcad9892eb1a6d3772"), looks := true }, kinds := [], alts := [], laidByText := true, laidKinds := [.data, .pinned], laidTests := true, laidLooks := .later }
def SwaplogTurnsCardSaid : Prop := Claim7.holds Tryz.pinned (.plain (OpenSpec.ofChange swaplogTurnsSpec)) swaplogTurnsCard

/-- THE SECOND FORM's CARD OF 'conduitlaw11.SwaplogReplays'. -/
def swaplogReplaysUptoCard : Claim7 := { stood := { row := swaplogReplaysUptoRow, standIns := [], harness := (true, "e8bc8ec81f8e4c59e6bf85e4781a038b5538ee25d612fcfcad9892eb1a6d3772"), looks := true }, kinds := [], alts := [], laidByText := true, laidKinds := [.data, .pinned], laidTests := true, laidLooks := .later }
def SwaplogReplaysUptoCardSaid : Prop := Claim7.holds Tryz.pinned (.plain (OpenSpec.upto swaplogReplaysSpec)) swaplogReplaysUptoCard

/-- THE SECOND FORM's CARD OF 'conduitlaw11.SwaplogSound'. -/
def swaplogSoundUptoCard : Claim7 := { stood := { row := swaplogSoundUptoRow, standIns := [], harness := (true, "e8bc8ec81f8e4c59e6bf85e4781a038b5538ee25d612fcfcad9892eb1a6d3772"), looks := true }, kinds := [], alts := [], laidByText := true, laidKinds := [.data, .pinned], laidTests := true, laidLooks := .later }
def SwaplogSoundUptoCardSaid : Prop := Claim7.holds Tryz.pinned (.plain (OpenSpec.upto swaplogSoundSpec)) swaplogSoundUptoCard

/-- THE SECOND FORM's CARD OF 'conduitlaw11.SwaplogSteps'. -/
def swaplogStepsUptoCard : Claim7 := { stood := { row := swaplogStepsUptoRow, standIns := [], harness := (true, "e8bc8ec81f8e4c59e6bf85e4781a038b5538ee25d612fcfcad9892eb1a6d3772"), looks := true }, kinds := [], alts := [], laidByText := true, laidKinds := [.data, .pinned], laidTests := true, laidLooks := .later }
def SwaplogStepsUptoCardSaid : Prop := Claim7.holds Tryz.pinned (.plain (OpenSpec.upto swaplogStepsSpec)) swaplogStepsUptoCard

/-- THE SECOND FORM's CARD OF 'conduitlaw11.SwaplogSurvives'. -/
def swaplogSurvivesUptoCard : Claim7 := { stood := { row := swaplogSurvivesUptoRow, standIns := [], harness := (true, "e8bc8ec81f8e4c59e6bf85e4781a038b5538ee25d612fcfcad9892eb1a6d3772"), looks := true }, kinds := [], alts := [], laidByText := true, laidKinds := [.data, .pinned], laidTests := true, laidLooks := .later }
def SwaplogSurvivesUptoCardSaid : Prop := Claim7.holds Tryz.pinned (.plain (OpenSpec.upto swaplogSurvivesSpec)) swaplogSurvivesUptoCard

/-- THE SECOND FORM's CARD OF 'conduitlaw11.SwaplogTurns'. -/
def swaplogTurnsUptoCard : Claim7 := { stood := { row := swaplogTurnsUptoRow, standIns := [], harness := (true, "e8bc8ec81f8e4c59e6bf85e4781a038b5538ee25d612fcfcad9892eb1a6d3772"), looks := true }, kinds := [], alts := [], laidByText := true, laidKinds := [.data, .pinned], laidTests := true, laidLooks := .later }
def SwaplogTurnsUptoCardSaid : Prop := Claim7.holds Tryz.pinned (.plain (OpenSpec.upto swaplogTurnsSpec)) swaplogTurnsUptoCard
end Rows
end Go.Proofs.YtheoklhmlnfgjaaGreatDoor
