/-
  DERIVED. GIVEN WITH THE SEED: THE CARDS: each row of YtpgjlepjhbjhfaaDoorRows.lean that lists a variable, with what it lists TIED to the program's text (the seventh form; the later family's looks); each row that meets fmt, with fmt's text TOLD by the authors' own Lean function (tested against real Go, not proved from fmt's source: count such statements apart). THE CARD IS WHAT COUNTS. Prove the row's statement (the work); the ties are given (YtpgjlepjhbjhfaaDoorTie.lean); close each card by the builder's one call (the guide's Derived/Test/ToyasCard.lean, 'card_holds'). Laid BY PROGRAM, IN A SANDBOX (cutbox-door.mjs). By AI agents, Wed Nov 11 2026. No macro, syntax, notation, axiom, sorry.
-/
import Derived.Test.YtpgjlepjhbjhfaaDoorRows
import GoSem.ClaimSeven
namespace Go.Proofs.YtpgjlepjhbjhfaaDoor
namespace Rows

/-- THE TIED CARD OF 'conduitlaw04.FieldsFinds'. -/
def fieldsFindsCard : Claim7 := { stood := { row := fieldsFindsRow, standIns := [], harness := (true, "c67b795ac1fda75a467443b29b7e3b9eab227bc6ad24ca2d505ad2aedaf5225a"), looks := false }, kinds := [], alts := [], laidByText := true, laidKinds := [.data, .pinned], laidTests := true, laidLooks := .later }
def FieldsFindsCardSaid : Prop := Claim7.holds Tryd.pinned (.plain (OpenSpec.ofChange fieldsFindsSpec)) fieldsFindsCard

/-- THE TIED CARD OF 'conduitlaw04.FieldsParses'. -/
def fieldsParsesCard : Claim7 := { stood := { row := fieldsParsesRow, standIns := [], harness := (true, "c67b795ac1fda75a467443b29b7e3b9eab227bc6ad24ca2d505ad2aedaf5225a"), looks := false }, kinds := [], alts := [], laidByText := true, laidKinds := [.data, .pinned], laidTests := true, laidLooks := .later }
def FieldsParsesCardSaid : Prop := Claim7.holds Tryd.pinned (.plain (OpenSpec.ofChange fieldsParsesSpec)) fieldsParsesCard

/-- THE TIED CARD OF 'conduitlaw04.FieldsJoins'. -/
def fieldsJoinsCard : Claim7 := { stood := { row := fieldsJoinsRow, standIns := [], harness := (true, "c67b795ac1fda75a467443b29b7e3b9eab227bc6ad24ca2d505ad2aedaf5225a"), looks := false }, kinds := [], alts := [], laidByText := true, laidKinds := [.data, .pinned], laidTests := true, laidLooks := .later }
def FieldsJoinsCardSaid : Prop := Claim7.holds Tryd.pinned (.plain (OpenSpec.ofChange fieldsJoinsSpec)) fieldsJoinsCard

/-- THE TIED CARD OF 'conduitlaw04.FieldsPuts'. -/
def fieldsPutsCard : Claim7 := { stood := { row := fieldsPutsRow, standIns := [], harness := (true, "c67b795ac1fda75a467443b29b7e3b9eab227bc6ad24ca2d505ad2aedaf5225a"), looks := false }, kinds := [], alts := [], laidByText := true, laidKinds := [.data, .pinned], laidTests := true, laidLooks := .later }
def FieldsPutsCardSaid : Prop := Claim7.holds Tryd.pinned (.plain (OpenSpec.ofChange fieldsPutsSpec)) fieldsPutsCard

/-- THE TIED CARD OF 'conduitlaw04.FieldsPrints'. -/
def fieldsPrintsCard : Claim7 := { stood := { row := fieldsPrintsRow, standIns := [], harness := (true, "c67b795ac1fda75a467443b29b7e3b9eab227bc6ad24ca2d505ad2aedaf5225a"), looks := false }, kinds := [], alts := [], laidByText := true, laidKinds := [.data, .sentinel, .pinned], laidTests := true, laidLooks := .later }
def FieldsPrintsCardSaid : Prop := Claim7.holds Tryd.pinned (.plain (OpenSpec.ofChange fieldsPrintsSpec)) fieldsPrintsCard

/-- THE TIED CARD OF 'conduitlaw04.FieldsRound'. -/
def fieldsRoundCard : Claim7 := { stood := { row := fieldsRoundRow, standIns := [], harness := (true, "c67b795ac1fda75a467443b29b7e3b9eab227bc6ad24ca2d505ad2aedaf5225a"), looks := false }, kinds := [], alts := [], laidByText := true, laidKinds := [.data, .sentinel, .pinned], laidTests := true, laidLooks := .later }
def FieldsRoundCardSaid : Prop := Claim7.holds Tryd.pinned (.plain (OpenSpec.ofChange fieldsRoundSpec)) fieldsRoundCard

/-- THE TIED CARD OF 'conduitlaw04.FieldsMemory'. -/
def fieldsMemoryCard : Claim7 := { stood := { row := fieldsMemoryRow, standIns := [], harness := (true, "c67b795ac1fda75a467443b29b7e3b9eab227bc6ad24ca2d505ad2aedaf5225a"), looks := false }, kinds := [], alts := [], laidByText := true, laidKinds := [.data, .sentinel, .pinned], laidTests := true, laidLooks := .later }
def FieldsMemoryCardSaid : Prop := Claim7.holds Tryd.pinned (.plain (OpenSpec.ofChange fieldsMemorySpec)) fieldsMemoryCard

/-- THE SECOND FORM's CARD OF 'conduitlaw04.FieldsFinds'. -/
def fieldsFindsUptoCard : Claim7 := { stood := { row := fieldsFindsUptoRow, standIns := [], harness := (true, "c67b795ac1fda75a467443b29b7e3b9eab227bc6ad24ca2d505ad2aedaf5225a"), looks := false }, kinds := [], alts := [], laidByText := true, laidKinds := [.data, .pinned], laidTests := true, laidLooks := .later }
def FieldsFindsUptoCardSaid : Prop := Claim7.holds Tryd.pinned (.plain (OpenSpec.upto fieldsFindsSpec)) fieldsFindsUptoCard

/-- THE SECOND FORM's CARD OF 'conduitlaw04.FieldsParses'. -/
def fieldsParsesUptoCard : Claim7 := { stood := { row := fieldsParsesUptoRow, standIns := [], harness := (true, "c67b795ac1fda75a467443b29b7e3b9eab227bc6ad24ca2d505ad2aedaf5225a"), looks := false }, kinds := [], alts := [], laidByText := true, laidKinds := [.data, .pinned], laidTests := true, laidLooks := .later }
def FieldsParsesUptoCardSaid : Prop := Claim7.holds Tryd.pinned (.plain (OpenSpec.upto fieldsParsesSpec)) fieldsParsesUptoCard

/-- THE SECOND FORM's CARD OF 'conduitlaw04.FieldsJoins'. -/
def fieldsJoinsUptoCard : Claim7 := { stood := { row := fieldsJoinsUptoRow, standIns := [], harness := (true, "c67b795ac1fda75a467443b29b7e3b9eab227bc6ad24ca2d505ad2aedaf5225a"), looks := false }, kinds := [], alts := [], laidByText := true, laidKinds := [.data, .pinned], laidTests := true, laidLooks := .later }
def FieldsJoinsUptoCardSaid : Prop := Claim7.holds Tryd.pinned (.plain (OpenSpec.upto fieldsJoinsSpec)) fieldsJoinsUptoCard

/-- THE SECOND FORM's CARD OF 'conduitlaw04.FieldsPuts'. -/
def fieldsPutsUptoCard : Claim7 := { stood := { row := fieldsPutsUptoRow, standIns := [], harness := (true, "c67b795ac1fda75a467443b29b7e3b9eab227bc6ad24ca2d505ad2aedaf5225a"), looks := false }, kinds := [], alts := [], laidByText := true, laidKinds := [.data, .pinned], laidTests := true, laidLooks := .later }
def FieldsPutsUptoCardSaid : Prop := Claim7.holds Tryd.pinned (.plain (OpenSpec.upto fieldsPutsSpec)) fieldsPutsUptoCard

/-- THE SECOND FORM's CARD OF 'conduitlaw04.FieldsPrints'. -/
def fieldsPrintsUptoCard : Claim7 := { stood := { row := fieldsPrintsUptoRow, standIns := [], harness := (true, "c67b795ac1fda75a467443b29b7e3b9eab227bc6ad24ca2d505ad2aedaf5225a"), looks := false }, kinds := [], alts := [], laidByText := true, laidKinds := [.data, .sentinel, .pinned], laidTests := true, laidLooks := .later }
def FieldsPrintsUptoCardSaid : Prop := Claim7.holds Tryd.pinned (.plain (OpenSpec.upto fieldsPrintsSpec)) fieldsPrintsUptoCard

/-- THE SECOND FORM's CARD OF 'conduitlaw04.FieldsRound'. -/
def fieldsRoundUptoCard : Claim7 := { stood := { row := fieldsRoundUptoRow, standIns := [], harness := (true, "c67b795ac1fda75a467443b29b7e3b9eab227bc6ad24ca2d505ad2aedaf5225a"), looks := false }, kinds := [], alts := [], laidByText := true, laidKinds := [.data, .sentinel, .pinned], laidTests := true, laidLooks := .later }
def FieldsRoundUptoCardSaid : Prop := Claim7.holds Tryd.pinned (.plain (OpenSpec.upto fieldsRoundSpec)) fieldsRoundUptoCard

/-- THE SECOND FORM's CARD OF 'conduitlaw04.FieldsMemory'. -/
def fieldsMemoryUptoCard : Claim7 := { stood := { row := fieldsMemoryUptoRow, standIns := [], harness := (true, "c67b795ac1fda75a467443b29b7e3b9eab227bc6ad24ca2d505ad2aedaf5225a"), looks := false }, kinds := [], alts := [], laidByText := true, laidKinds := [.data, .sentinel, .pinned], laidTests := true, laidLooks := .later }
def FieldsMemoryUptoCardSaid : Prop := Claim7.holds Tryd.pinned (.plain (OpenSpec.upto fieldsMemorySpec)) fieldsMemoryUptoCard
end Rows
end Go.Proofs.YtpgjlepjhbjhfaaDoor
