/-
  DERIVED. GIVEN WITH THE SEED: THE CARDS: each row of YtnibecboimgljaaDoorRows.lean that lists a variable, with what it lists TIED to the program's text (the seventh form; the later family's looks); each row that meets fmt, with fmt's text TOLD by the authors' own Lean function (tested against real Go, not proved from fmt's source: count such statements apart). THE CARD IS WHAT COUNTS. Prove the row's statement (the work); the ties are given (YtnibecboimgljaaDoorTie.lean); close each card by the builder's one call (the guide's Derived/Test/ToyasCard.lean, 'card_holds'). Laid BY PROGRAM, IN A SANDBOX (cutbox-door.mjs). By AI agents, Wed Nov 11 2026. No macro, syntax, notation, axiom, sorry.
-/
import Derived.Test.YtnibecboimgljaaDoorRows
import GoSem.ClaimSeven
namespace Go.Proofs.YtnibecboimgljaaDoor
namespace Rows

/-- THE TIED CARD OF 'conduitlaw17.VaryNames'. -/
def varyNamesCard : Claim7 := { stood := { row := varyNamesRow, standIns := [], harness := (true, "328fa275def41fa24a30837ddcf2300730eca1a76539b2a1cfed45b6ce81b7bf"), looks := false }, kinds := [], alts := [], laidByText := true, laidKinds := [.data, .pinned], laidTests := true, laidLooks := .later }
def VaryNamesCardSaid : Prop := Claim7.holds Tryd.pinned (.plain (OpenSpec.ofChange varyNamesSpec)) varyNamesCard

/-- THE TIED CARD OF 'conduitlaw17.VaryKeys'. -/
def varyKeysCard : Claim7 := { stood := { row := varyKeysRow, standIns := [], harness := (true, "328fa275def41fa24a30837ddcf2300730eca1a76539b2a1cfed45b6ce81b7bf"), looks := false }, kinds := [], alts := [], laidByText := true, laidKinds := [.data, .pinned], laidTests := true, laidLooks := .later }
def VaryKeysCardSaid : Prop := Claim7.holds Tryd.pinned (.plain (OpenSpec.ofChange varyKeysSpec)) varyKeysCard

/-- THE TIED CARD OF 'conduitlaw17.VarySorted'. -/
def varySortedCard : Claim7 := { stood := { row := varySortedRow, standIns := [], harness := (true, "328fa275def41fa24a30837ddcf2300730eca1a76539b2a1cfed45b6ce81b7bf"), looks := false }, kinds := [], alts := [], laidByText := true, laidKinds := [.data, .pinned], laidTests := true, laidLooks := .later }
def VarySortedCardSaid : Prop := Claim7.holds Tryd.pinned (.plain (OpenSpec.ofChange varySortedSpec)) varySortedCard

/-- THE TIED CARD OF 'conduitlaw17.VaryMemory'. -/
def varyMemoryCard : Claim7 := { stood := { row := varyMemoryRow, standIns := [], harness := (true, "328fa275def41fa24a30837ddcf2300730eca1a76539b2a1cfed45b6ce81b7bf"), looks := false }, kinds := [], alts := [], laidByText := true, laidKinds := [.data, .pinned], laidTests := true, laidLooks := .later }
def VaryMemoryCardSaid : Prop := Claim7.holds Tryd.pinned (.plain (OpenSpec.ofChange varyMemorySpec)) varyMemoryCard

/-- THE TIED CARD OF 'conduitlaw17.VaryMatches'. -/
def varyMatchesCard : Claim7 := { stood := { row := varyMatchesRow, standIns := [], harness := (true, "328fa275def41fa24a30837ddcf2300730eca1a76539b2a1cfed45b6ce81b7bf"), looks := false }, kinds := [], alts := [], laidByText := true, laidKinds := [.data, .pinned], laidTests := true, laidLooks := .later }
def VaryMatchesCardSaid : Prop := Claim7.holds Tryd.pinned (.plain (OpenSpec.ofChange varyMatchesSpec)) varyMatchesCard

/-- THE TIED CARD OF 'conduitlaw17.VaryFits'. -/
def varyFitsCard : Claim7 := { stood := { row := varyFitsRow, standIns := [], harness := (true, "328fa275def41fa24a30837ddcf2300730eca1a76539b2a1cfed45b6ce81b7bf"), looks := false }, kinds := [], alts := [], laidByText := true, laidKinds := [.data, .pinned], laidTests := true, laidLooks := .later }
def VaryFitsCardSaid : Prop := Claim7.holds Tryd.pinned (.plain (OpenSpec.ofChange varyFitsSpec)) varyFitsCard

/-- THE TIED CARD OF 'conduitlaw17.VaryOthers'. -/
def varyOthersCard : Claim7 := { stood := { row := varyOthersRow, standIns := [], harness := (true, "328fa275def41fa24a30837ddcf2300730eca1a76539b2a1cfed45b6ce81b7bf"), looks := false }, kinds := [], alts := [], laidByText := true, laidKinds := [.data, .pinned], laidTests := true, laidLooks := .later }
def VaryOthersCardSaid : Prop := Claim7.holds Tryd.pinned (.plain (OpenSpec.ofChange varyOthersSpec)) varyOthersCard

/-- THE SECOND FORM's CARD OF 'conduitlaw17.VaryNames'. -/
def varyNamesUptoCard : Claim7 := { stood := { row := varyNamesUptoRow, standIns := [], harness := (true, "328fa275def41fa24a30837ddcf2300730eca1a76539b2a1cfed45b6ce81b7bf"), looks := false }, kinds := [], alts := [], laidByText := true, laidKinds := [.data, .pinned], laidTests := true, laidLooks := .later }
def VaryNamesUptoCardSaid : Prop := Claim7.holds Tryd.pinned (.plain (OpenSpec.upto varyNamesSpec)) varyNamesUptoCard

/-- THE SECOND FORM's CARD OF 'conduitlaw17.VaryKeys'. -/
def varyKeysUptoCard : Claim7 := { stood := { row := varyKeysUptoRow, standIns := [], harness := (true, "328fa275def41fa24a30837ddcf2300730eca1a76539b2a1cfed45b6ce81b7bf"), looks := false }, kinds := [], alts := [], laidByText := true, laidKinds := [.data, .pinned], laidTests := true, laidLooks := .later }
def VaryKeysUptoCardSaid : Prop := Claim7.holds Tryd.pinned (.plain (OpenSpec.upto varyKeysSpec)) varyKeysUptoCard

/-- THE SECOND FORM's CARD OF 'conduitlaw17.VarySorted'. -/
def varySortedUptoCard : Claim7 := { stood := { row := varySortedUptoRow, standIns := [], harness := (true, "328fa275def41fa24a30837ddcf2300730eca1a76539b2a1cfed45b6ce81b7bf"), looks := false }, kinds := [], alts := [], laidByText := true, laidKinds := [.data, .pinned], laidTests := true, laidLooks := .later }
def VarySortedUptoCardSaid : Prop := Claim7.holds Tryd.pinned (.plain (OpenSpec.upto varySortedSpec)) varySortedUptoCard

/-- THE SECOND FORM's CARD OF 'conduitlaw17.VaryMemory'. -/
def varyMemoryUptoCard : Claim7 := { stood := { row := varyMemoryUptoRow, standIns := [], harness := (true, "328fa275def41fa24a30837ddcf2300730eca1a76539b2a1cfed45b6ce81b7bf"), looks := false }, kinds := [], alts := [], laidByText := true, laidKinds := [.data, .pinned], laidTests := true, laidLooks := .later }
def VaryMemoryUptoCardSaid : Prop := Claim7.holds Tryd.pinned (.plain (OpenSpec.upto varyMemorySpec)) varyMemoryUptoCard

/-- THE SECOND FORM's CARD OF 'conduitlaw17.VaryMatches'. -/
def varyMatchesUptoCard : Claim7 := { stood := { row := varyMatchesUptoRow, standIns := [], harness := (true, "328fa275def41fa24a30837ddcf2300730eca1a76539b2a1cfed45b6ce81b7bf"), looks := false }, kinds := [], alts := [], laidByText := true, laidKinds := [.data, .pinned], laidTests := true, laidLooks := .later }
def VaryMatchesUptoCardSaid : Prop := Claim7.holds Tryd.pinned (.plain (OpenSpec.upto varyMatchesSpec)) varyMatchesUptoCard

/-- THE SECOND FORM's CARD OF 'conduitlaw17.VaryFits'. -/
def varyFitsUptoCard : Claim7 := { stood := { row := varyFitsUptoRow, standIns := [], harness := (true, "328fa275def41fa24a30837ddcf2300730eca1a76539b2a1cfed45b6ce81b7bf"), looks := false }, kinds := [], alts := [], laidByText := true, laidKinds := [.data, .pinned], laidTests := true, laidLooks := .later }
def VaryFitsUptoCardSaid : Prop := Claim7.holds Tryd.pinned (.plain (OpenSpec.upto varyFitsSpec)) varyFitsUptoCard

/-- THE SECOND FORM's CARD OF 'conduitlaw17.VaryOthers'. -/
def varyOthersUptoCard : Claim7 := { stood := { row := varyOthersUptoRow, standIns := [], harness := (true, "328fa275def41fa24a30837ddcf2300730eca1a76539b2a1cfed45b6ce81b7bf"), looks := false }, kinds := [], alts := [], laidByText := true, laidKinds := [.data, .pinned], laidTests := true, laidLooks := .later }
def VaryOthersUptoCardSaid : Prop := Claim7.holds Tryd.pinned (.plain (OpenSpec.upto varyOthersSpec)) varyOthersUptoCard
end Rows
end Go.Proofs.YtnibecboimgljaaDoor
