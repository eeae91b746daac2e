/-
  DERIVED. GIVEN WITH THE SEED: THE CARDS: each row of YtpchpfhnimgdaaaDoorRows.lean that lists a variable, with what it lists TIED to the program's text (the seventh form; the later family's looks); each row that meets fmt, with fmt's text TOLD by the authors' own Lean function (tested against real Go, not proved from fmt's source: count such statements apart). THE CARD IS WHAT COUNTS. Prove the row's statement (the work); the ties are given (YtpchpfhnimgdaaaDoorTie.lean); close each card by the builder's one call (the guide's Derived/Test/ToyasCard.lean, 'card_holds'). Laid BY PROGRAM, IN A SANDBOX (cutbox-door.mjs). By AI agents, Wed Nov 11 2026. No macro, syntax, notation, axiom, sorry.
-/
import Derived.Test.YtpchpfhnimgdaaaDoorRows
import GoSem.ClaimSeven
namespace Go.Proofs.YtpchpfhnimgdaaaDoor
namespace Rows

/-- THE TIED CARD OF 'conduitlaw01.TokTokens'. -/
def tokTokensCard : Claim7 := { stood := { row := tokTokensRow, standIns := [], harness := (true, "bd1dfb86ab400c7e1d573c10b46986390858dfe1aa1e72ad38486cbfeea40be1"), looks := false }, kinds := [], alts := [], laidByText := true, laidKinds := [.data, .pinned], laidTests := true, laidLooks := .later }
def TokTokensCardSaid : Prop := Claim7.holds Tryd.pinned (.plain (OpenSpec.ofChange tokTokensSpec)) tokTokensCard

/-- THE TIED CARD OF 'conduitlaw01.TokLists'. -/
def tokListsCard : Claim7 := { stood := { row := tokListsRow, standIns := [], harness := (true, "bd1dfb86ab400c7e1d573c10b46986390858dfe1aa1e72ad38486cbfeea40be1"), looks := false }, kinds := [], alts := [], laidByText := true, laidKinds := [.data, .pinned], laidTests := true, laidLooks := .later }
def TokListsCardSaid : Prop := Claim7.holds Tryd.pinned (.plain (OpenSpec.ofChange tokListsSpec)) tokListsCard

/-- THE TIED CARD OF 'conduitlaw01.TokTidy'. -/
def tokTidyCard : Claim7 := { stood := { row := tokTidyRow, standIns := [], harness := (true, "bd1dfb86ab400c7e1d573c10b46986390858dfe1aa1e72ad38486cbfeea40be1"), looks := false }, kinds := [], alts := [], laidByText := true, laidKinds := [.data, .pinned], laidTests := true, laidLooks := .later }
def TokTidyCardSaid : Prop := Claim7.holds Tryd.pinned (.plain (OpenSpec.ofChange tokTidySpec)) tokTidyCard

/-- THE TIED CARD OF 'conduitlaw01.TokMemory'. -/
def tokMemoryCard : Claim7 := { stood := { row := tokMemoryRow, standIns := [], harness := (true, "bd1dfb86ab400c7e1d573c10b46986390858dfe1aa1e72ad38486cbfeea40be1"), looks := false }, kinds := [], alts := [], laidByText := true, laidKinds := [.data, .pinned], laidTests := true, laidLooks := .later }
def TokMemoryCardSaid : Prop := Claim7.holds Tryd.pinned (.plain (OpenSpec.ofChange tokMemorySpec)) tokMemoryCard

/-- THE TIED CARD OF 'conduitlaw01.TokJoins'. -/
def tokJoinsCard : Claim7 := { stood := { row := tokJoinsRow, standIns := [], harness := (true, "bd1dfb86ab400c7e1d573c10b46986390858dfe1aa1e72ad38486cbfeea40be1"), looks := false }, kinds := [], alts := [], laidByText := true, laidKinds := [.data, .pinned], laidTests := true, laidLooks := .later }
def TokJoinsCardSaid : Prop := Claim7.holds Tryd.pinned (.plain (OpenSpec.ofChange tokJoinsSpec)) tokJoinsCard

/-- THE TIED CARD OF 'conduitlaw01.TokRound'. -/
def tokRoundCard : Claim7 := { stood := { row := tokRoundRow, standIns := [], harness := (true, "bd1dfb86ab400c7e1d573c10b46986390858dfe1aa1e72ad38486cbfeea40be1"), looks := false }, kinds := [], alts := [], laidByText := true, laidKinds := [.data, .pinned], laidTests := true, laidLooks := .later }
def TokRoundCardSaid : Prop := Claim7.holds Tryd.pinned (.plain (OpenSpec.ofChange tokRoundSpec)) tokRoundCard

/-- THE TIED CARD OF 'conduitlaw01.TokParams'. -/
def tokParamsCard : Claim7 := { stood := { row := tokParamsRow, standIns := [], harness := (true, "bd1dfb86ab400c7e1d573c10b46986390858dfe1aa1e72ad38486cbfeea40be1"), looks := false }, kinds := [], alts := [], laidByText := true, laidKinds := [.data, .pinned], laidTests := true, laidLooks := .later }
def TokParamsCardSaid : Prop := Claim7.holds Tryd.pinned (.plain (OpenSpec.ofChange tokParamsSpec)) tokParamsCard

/-- THE SECOND FORM's CARD OF 'conduitlaw01.TokTokens'. -/
def tokTokensUptoCard : Claim7 := { stood := { row := tokTokensUptoRow, standIns := [], harness := (true, "bd1dfb86ab400c7e1d573c10b46986390858dfe1aa1e72ad38486cbfeea40be1"), looks := false }, kinds := [], alts := [], laidByText := true, laidKinds := [.data, .pinned], laidTests := true, laidLooks := .later }
def TokTokensUptoCardSaid : Prop := Claim7.holds Tryd.pinned (.plain (OpenSpec.upto tokTokensSpec)) tokTokensUptoCard

/-- THE SECOND FORM's CARD OF 'conduitlaw01.TokLists'. -/
def tokListsUptoCard : Claim7 := { stood := { row := tokListsUptoRow, standIns := [], harness := (true, "bd1dfb86ab400c7e1d573c10b46986390858dfe1aa1e72ad38486cbfeea40be1"), looks := false }, kinds := [], alts := [], laidByText := true, laidKinds := [.data, .pinned], laidTests := true, laidLooks := .later }
def TokListsUptoCardSaid : Prop := Claim7.holds Tryd.pinned (.plain (OpenSpec.upto tokListsSpec)) tokListsUptoCard

/-- THE SECOND FORM's CARD OF 'conduitlaw01.TokTidy'. -/
def tokTidyUptoCard : Claim7 := { stood := { row := tokTidyUptoRow, standIns := [], harness := (true, "bd1dfb86ab400c7e1d573c10b46986390858dfe1aa1e72ad38486cbfeea40be1"), looks := false }, kinds := [], alts := [], laidByText := true, laidKinds := [.data, .pinned], laidTests := true, laidLooks := .later }
def TokTidyUptoCardSaid : Prop := Claim7.holds Tryd.pinned (.plain (OpenSpec.upto tokTidySpec)) tokTidyUptoCard

/-- THE SECOND FORM's CARD OF 'conduitlaw01.TokMemory'. -/
def tokMemoryUptoCard : Claim7 := { stood := { row := tokMemoryUptoRow, standIns := [], harness := (true, "bd1dfb86ab400c7e1d573c10b46986390858dfe1aa1e72ad38486cbfeea40be1"), looks := false }, kinds := [], alts := [], laidByText := true, laidKinds := [.data, .pinned], laidTests := true, laidLooks := .later }
def TokMemoryUptoCardSaid : Prop := Claim7.holds Tryd.pinned (.plain (OpenSpec.upto tokMemorySpec)) tokMemoryUptoCard

/-- THE SECOND FORM's CARD OF 'conduitlaw01.TokJoins'. -/
def tokJoinsUptoCard : Claim7 := { stood := { row := tokJoinsUptoRow, standIns := [], harness := (true, "bd1dfb86ab400c7e1d573c10b46986390858dfe1aa1e72ad38486cbfeea40be1"), looks := false }, kinds := [], alts := [], laidByText := true, laidKinds := [.data, .pinned], laidTests := true, laidLooks := .later }
def TokJoinsUptoCardSaid : Prop := Claim7.holds Tryd.pinned (.plain (OpenSpec.upto tokJoinsSpec)) tokJoinsUptoCard

/-- THE SECOND FORM's CARD OF 'conduitlaw01.TokRound'. -/
def tokRoundUptoCard : Claim7 := { stood := { row := tokRoundUptoRow, standIns := [], harness := (true, "bd1dfb86ab400c7e1d573c10b46986390858dfe1aa1e72ad38486cbfeea40be1"), looks := false }, kinds := [], alts := [], laidByText := true, laidKinds := [.data, .pinned], laidTests := true, laidLooks := .later }
def TokRoundUptoCardSaid : Prop := Claim7.holds Tryd.pinned (.plain (OpenSpec.upto tokRoundSpec)) tokRoundUptoCard

/-- THE SECOND FORM's CARD OF 'conduitlaw01.TokParams'. -/
def tokParamsUptoCard : Claim7 := { stood := { row := tokParamsUptoRow, standIns := [], harness := (true, "bd1dfb86ab400c7e1d573c10b46986390858dfe1aa1e72ad38486cbfeea40be1"), looks := false }, kinds := [], alts := [], laidByText := true, laidKinds := [.data, .pinned], laidTests := true, laidLooks := .later }
def TokParamsUptoCardSaid : Prop := Claim7.holds Tryd.pinned (.plain (OpenSpec.upto tokParamsSpec)) tokParamsUptoCard
end Rows
end Go.Proofs.YtpchpfhnimgdaaaDoor
