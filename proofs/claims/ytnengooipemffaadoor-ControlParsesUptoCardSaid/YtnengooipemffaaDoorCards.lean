/-
  DERIVED. GIVEN WITH THE SEED: THE CARDS: each row of YtnengooipemffaaDoorRows.lean that lists a variable, with what it lists TIED to the program's text (the seventh form; the later family's looks); each row that meets fmt, with fmt's text TOLD by the authors' own Lean function (tested against real Go, not proved from fmt's source: count such statements apart). THE CARD IS WHAT COUNTS. Prove the row's statement (the work); the ties are given (YtnengooipemffaaDoorTie.lean); close each card by the builder's one call (the guide's Derived/Test/ToyasCard.lean, 'card_holds'). Laid BY PROGRAM, IN A SANDBOX (cutbox-door.mjs). By AI agents, Wed Nov 11 2026. No macro, syntax, notation, axiom, sorry.
-/
import Derived.Test.YtnengooipemffaaDoorRows
import GoSem.ClaimSeven
namespace Go.Proofs.YtnengooipemffaaDoor
namespace Rows

/-- THE TIED CARD OF 'conduitlaw15.ControlSeconds'. -/
def controlSecondsCard : Claim7 := { stood := { row := controlSecondsRow, standIns := [], harness := (true, "db837f01eda45936fdfbbf0ceecb99c60eda4911df9c5b316ade5ab21cd65bc6"), looks := false }, kinds := [], alts := [], laidByText := true, laidKinds := [.data, .pinned], laidTests := true, laidLooks := .later }
def ControlSecondsCardSaid : Prop := Claim7.holds Tryd.pinned (.plain (OpenSpec.ofChange controlSecondsSpec)) controlSecondsCard

/-- THE TIED CARD OF 'conduitlaw15.ControlParses'. -/
def controlParsesCard : Claim7 := { stood := { row := controlParsesRow, standIns := [], harness := (true, "db837f01eda45936fdfbbf0ceecb99c60eda4911df9c5b316ade5ab21cd65bc6"), looks := false }, kinds := [], alts := [], laidByText := true, laidKinds := [.data, .pinned], laidTests := true, laidLooks := .later }
def ControlParsesCardSaid : Prop := Claim7.holds Tryd.pinned (.plain (OpenSpec.ofChange controlParsesSpec)) controlParsesCard

/-- THE TIED CARD OF 'conduitlaw15.ControlBounds'. -/
def controlBoundsCard : Claim7 := { stood := { row := controlBoundsRow, standIns := [], harness := (true, "db837f01eda45936fdfbbf0ceecb99c60eda4911df9c5b316ade5ab21cd65bc6"), looks := false }, kinds := [], alts := [], laidByText := true, laidKinds := [.data, .pinned], laidTests := true, laidLooks := .later }
def ControlBoundsCardSaid : Prop := Claim7.holds Tryd.pinned (.plain (OpenSpec.ofChange controlBoundsSpec)) controlBoundsCard

/-- THE TIED CARD OF 'conduitlaw15.ControlCase'. -/
def controlCaseCard : Claim7 := { stood := { row := controlCaseRow, standIns := [], harness := (true, "db837f01eda45936fdfbbf0ceecb99c60eda4911df9c5b316ade5ab21cd65bc6"), looks := false }, kinds := [], alts := [], laidByText := true, laidKinds := [.data, .pinned], laidTests := true, laidLooks := .later }
def ControlCaseCardSaid : Prop := Claim7.holds Tryd.pinned (.plain (OpenSpec.ofChange controlCaseSpec)) controlCaseCard

/-- THE TIED CARD OF 'conduitlaw15.ControlParts'. -/
def controlPartsCard : Claim7 := { stood := { row := controlPartsRow, standIns := [], harness := (true, "db837f01eda45936fdfbbf0ceecb99c60eda4911df9c5b316ade5ab21cd65bc6"), looks := false }, kinds := [], alts := [], laidByText := true, laidKinds := [.data, .pinned], laidTests := true, laidLooks := .later }
def ControlPartsCardSaid : Prop := Claim7.holds Tryd.pinned (.plain (OpenSpec.ofChange controlPartsSpec)) controlPartsCard

/-- THE TIED CARD OF 'conduitlaw15.ControlFirst'. -/
def controlFirstCard : Claim7 := { stood := { row := controlFirstRow, standIns := [], harness := (true, "db837f01eda45936fdfbbf0ceecb99c60eda4911df9c5b316ade5ab21cd65bc6"), looks := false }, kinds := [], alts := [], laidByText := true, laidKinds := [.data, .pinned], laidTests := true, laidLooks := .later }
def ControlFirstCardSaid : Prop := Claim7.holds Tryd.pinned (.plain (OpenSpec.ofChange controlFirstSpec)) controlFirstCard

/-- THE SECOND FORM's CARD OF 'conduitlaw15.ControlSeconds'. -/
def controlSecondsUptoCard : Claim7 := { stood := { row := controlSecondsUptoRow, standIns := [], harness := (true, "db837f01eda45936fdfbbf0ceecb99c60eda4911df9c5b316ade5ab21cd65bc6"), looks := false }, kinds := [], alts := [], laidByText := true, laidKinds := [.data, .pinned], laidTests := true, laidLooks := .later }
def ControlSecondsUptoCardSaid : Prop := Claim7.holds Tryd.pinned (.plain (OpenSpec.upto controlSecondsSpec)) controlSecondsUptoCard

/-- THE SECOND FORM's CARD OF 'conduitlaw15.ControlParses'. -/
def controlParsesUptoCard : Claim7 := { stood := { row := controlParsesUptoRow, standIns := [], harness := (true, "db837f01eda45936fdfbbf0ceecb99c60eda4911df9c5b316ade5ab21cd65bc6"), looks := false }, kinds := [], alts := [], laidByText := true, laidKinds := [.data, .pinned], laidTests := true, laidLooks := .later }
def ControlParsesUptoCardSaid : Prop := Claim7.holds Tryd.pinned (.plain (OpenSpec.upto controlParsesSpec)) controlParsesUptoCard

/-- THE SECOND FORM's CARD OF 'conduitlaw15.ControlBounds'. -/
def controlBoundsUptoCard : Claim7 := { stood := { row := controlBoundsUptoRow, standIns := [], harness := (true, "db837f01eda45936fdfbbf0ceecb99c60eda4911df9c5b316ade5ab21cd65bc6"), looks := false }, kinds := [], alts := [], laidByText := true, laidKinds := [.data, .pinned], laidTests := true, laidLooks := .later }
def ControlBoundsUptoCardSaid : Prop := Claim7.holds Tryd.pinned (.plain (OpenSpec.upto controlBoundsSpec)) controlBoundsUptoCard

/-- THE SECOND FORM's CARD OF 'conduitlaw15.ControlCase'. -/
def controlCaseUptoCard : Claim7 := { stood := { row := controlCaseUptoRow, standIns := [], harness := (true, "db837f01eda45936fdfbbf0ceecb99c60eda4911df9c5b316ade5ab21cd65bc6"), looks := false }, kinds := [], alts := [], laidByText := true, laidKinds := [.data, .pinned], laidTests := true, laidLooks := .later }
def ControlCaseUptoCardSaid : Prop := Claim7.holds Tryd.pinned (.plain (OpenSpec.upto controlCaseSpec)) controlCaseUptoCard

/-- THE SECOND FORM's CARD OF 'conduitlaw15.ControlParts'. -/
def controlPartsUptoCard : Claim7 := { stood := { row := controlPartsUptoRow, standIns := [], harness := (true, "db837f01eda45936fdfbbf0ceecb99c60eda4911df9c5b316ade5ab21cd65bc6"), looks := false }, kinds := [], alts := [], laidByText := true, laidKinds := [.data, .pinned], laidTests := true, laidLooks := .later }
def ControlPartsUptoCardSaid : Prop := Claim7.holds Tryd.pinned (.plain (OpenSpec.upto controlPartsSpec)) controlPartsUptoCard

/-- THE SECOND FORM's CARD OF 'conduitlaw15.ControlFirst'. -/
def controlFirstUptoCard : Claim7 := { stood := { row := controlFirstUptoRow, standIns := [], harness := (true, "db837f01eda45936fdfbbf0ceecb99c60eda4911df9c5b316ade5ab21cd65bc6"), looks := false }, kinds := [], alts := [], laidByText := true, laidKinds := [.data, .pinned], laidTests := true, laidLooks := .later }
def ControlFirstUptoCardSaid : Prop := Claim7.holds Tryd.pinned (.plain (OpenSpec.upto controlFirstSpec)) controlFirstUptoCard
end Rows
end Go.Proofs.YtnengooipemffaaDoor
