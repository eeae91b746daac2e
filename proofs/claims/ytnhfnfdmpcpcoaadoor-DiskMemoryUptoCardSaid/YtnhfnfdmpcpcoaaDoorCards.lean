/-
  DERIVED. GIVEN WITH THE SEED: THE CARDS: each row of YtnhfnfdmpcpcoaaDoorRows.lean that lists a variable, with what it lists TIED to the program's text (the seventh form; the later family's looks); each row that meets fmt, with fmt's text TOLD by the authors' own Lean function (tested against real Go, not proved from fmt's source: count such statements apart). THE CARD IS WHAT COUNTS. Prove the row's statement (the work); the ties are given (YtnhfnfdmpcpcoaaDoorTie.lean); close each card by the builder's one call (the guide's Derived/Test/ToyasCard.lean, 'card_holds'). Laid BY PROGRAM, IN A SANDBOX (cutbox-door.mjs). By AI agents, Wed Nov 11 2026. No macro, syntax, notation, axiom, sorry.
-/
import Derived.Test.YtnhfnfdmpcpcoaaDoorRows
import GoSem.ClaimSeven
namespace Go.Proofs.YtnhfnfdmpcpcoaaDoor
namespace Rows

/-- THE TIED CARD OF 'conduitlaw09.DiskSafe'. -/
def diskSafeCard : Claim7 := { stood := { row := diskSafeRow, standIns := [], harness := (true, "45af67af0fc326d186aaa66fca62d84c0d741e125abf37c3afdeb069cc9d57ae"), looks := true }, kinds := [], alts := [], laidByText := true, laidKinds := [.data, .pinned], laidTests := true, laidLooks := .later }
def DiskSafeCardSaid : Prop := Claim7.holds Tryd.pinned (.plain (OpenSpec.ofChange diskSafeSpec)) diskSafeCard

/-- THE TIED CARD OF 'conduitlaw09.DiskLefts'. -/
def diskLeftsCard : Claim7 := { stood := { row := diskLeftsRow, standIns := [], harness := (true, "45af67af0fc326d186aaa66fca62d84c0d741e125abf37c3afdeb069cc9d57ae"), looks := true }, kinds := [], alts := [], laidByText := true, laidKinds := [.data, .pinned], laidTests := true, laidLooks := .later }
def DiskLeftsCardSaid : Prop := Claim7.holds Tryd.pinned (.plain (OpenSpec.ofChange diskLeftsSpec)) diskLeftsCard

/-- THE TIED CARD OF 'conduitlaw09.DiskRoom'. -/
def diskRoomCard : Claim7 := { stood := { row := diskRoomRow, standIns := [], harness := (true, "45af67af0fc326d186aaa66fca62d84c0d741e125abf37c3afdeb069cc9d57ae"), looks := true }, kinds := [], alts := [], laidByText := true, laidKinds := [.data, .pinned], laidTests := true, laidLooks := .later }
def DiskRoomCardSaid : Prop := Claim7.holds Tryd.pinned (.plain (OpenSpec.ofChange diskRoomSpec)) diskRoomCard

/-- THE TIED CARD OF 'conduitlaw09.DiskAgain'. -/
def diskAgainCard : Claim7 := { stood := { row := diskAgainRow, standIns := [], harness := (true, "45af67af0fc326d186aaa66fca62d84c0d741e125abf37c3afdeb069cc9d57ae"), looks := true }, kinds := [], alts := [], laidByText := true, laidKinds := [.data, .pinned], laidTests := true, laidLooks := .later }
def DiskAgainCardSaid : Prop := Claim7.holds Tryd.pinned (.plain (OpenSpec.ofChange diskAgainSpec)) diskAgainCard

/-- THE TIED CARD OF 'conduitlaw09.DiskBeginnings'. -/
def diskBeginningsCard : Claim7 := { stood := { row := diskBeginningsRow, standIns := [], harness := (true, "45af67af0fc326d186aaa66fca62d84c0d741e125abf37c3afdeb069cc9d57ae"), looks := true }, kinds := [], alts := [], laidByText := true, laidKinds := [.data, .pinned], laidTests := true, laidLooks := .later }
def DiskBeginningsCardSaid : Prop := Claim7.holds Tryd.pinned (.plain (OpenSpec.ofChange diskBeginningsSpec)) diskBeginningsCard

/-- THE TIED CARD OF 'conduitlaw09.DiskMemory'. -/
def diskMemoryCard : Claim7 := { stood := { row := diskMemoryRow, standIns := [], harness := (true, "45af67af0fc326d186aaa66fca62d84c0d741e125abf37c3afdeb069cc9d57ae"), looks := true }, kinds := [], alts := [], laidByText := true, laidKinds := [.data, .pinned], laidTests := true, laidLooks := .later }
def DiskMemoryCardSaid : Prop := Claim7.holds Tryd.pinned (.plain (OpenSpec.ofChange diskMemorySpec)) diskMemoryCard

/-- THE TIED CARD OF 'conduitlaw09.DiskSteps'. -/
def diskStepsCard : Claim7 := { stood := { row := diskStepsRow, standIns := [], harness := (true, "45af67af0fc326d186aaa66fca62d84c0d741e125abf37c3afdeb069cc9d57ae"), looks := true }, kinds := [], alts := [], laidByText := true, laidKinds := [.data, .pinned], laidTests := true, laidLooks := .later }
def DiskStepsCardSaid : Prop := Claim7.holds Tryd.pinned (.plain (OpenSpec.ofChange diskStepsSpec)) diskStepsCard

/-- THE SECOND FORM's CARD OF 'conduitlaw09.DiskSafe'. -/
def diskSafeUptoCard : Claim7 := { stood := { row := diskSafeUptoRow, standIns := [], harness := (true, "45af67af0fc326d186aaa66fca62d84c0d741e125abf37c3afdeb069cc9d57ae"), looks := true }, kinds := [], alts := [], laidByText := true, laidKinds := [.data, .pinned], laidTests := true, laidLooks := .later }
def DiskSafeUptoCardSaid : Prop := Claim7.holds Tryd.pinned (.plain (OpenSpec.upto diskSafeSpec)) diskSafeUptoCard

/-- THE SECOND FORM's CARD OF 'conduitlaw09.DiskLefts'. -/
def diskLeftsUptoCard : Claim7 := { stood := { row := diskLeftsUptoRow, standIns := [], harness := (true, "45af67af0fc326d186aaa66fca62d84c0d741e125abf37c3afdeb069cc9d57ae"), looks := true }, kinds := [], alts := [], laidByText := true, laidKinds := [.data, .pinned], laidTests := true, laidLooks := .later }
def DiskLeftsUptoCardSaid : Prop := Claim7.holds Tryd.pinned (.plain (OpenSpec.upto diskLeftsSpec)) diskLeftsUptoCard

/-- THE SECOND FORM's CARD OF 'conduitlaw09.DiskRoom'. -/
def diskRoomUptoCard : Claim7 := { stood := { row := diskRoomUptoRow, standIns := [], harness := (true, "45af67af0fc326d186aaa66fca62d84c0d741e125abf37c3afdeb069cc9d57ae"), looks := true }, kinds := [], alts := [], laidByText := true, laidKinds := [.data, .pinned], laidTests := true, laidLooks := .later }
def DiskRoomUptoCardSaid : Prop := Claim7.holds Tryd.pinned (.plain (OpenSpec.upto diskRoomSpec)) diskRoomUptoCard

/-- THE SECOND FORM's CARD OF 'conduitlaw09.DiskAgain'. -/
def diskAgainUptoCard : Claim7 := { stood := { row := diskAgainUptoRow, standIns := [], harness := (true, "45af67af0fc326d186aaa66fca62d84c0d741e125abf37c3afdeb069cc9d57ae"), looks := true }, kinds := [], alts := [], laidByText := true, laidKinds := [.data, .pinned], laidTests := true, laidLooks := .later }
def DiskAgainUptoCardSaid : Prop := Claim7.holds Tryd.pinned (.plain (OpenSpec.upto diskAgainSpec)) diskAgainUptoCard

/-- THE SECOND FORM's CARD OF 'conduitlaw09.DiskBeginnings'. -/
def diskBeginningsUptoCard : Claim7 := { stood := { row := diskBeginningsUptoRow, standIns := [], harness := (true, "45af67af0fc326d186aaa66fca62d84c0d741e125abf37c3afdeb069cc9d57ae"), looks := true }, kinds := [], alts := [], laidByText := true, laidKinds := [.data, .pinned], laidTests := true, laidLooks := .later }
def DiskBeginningsUptoCardSaid : Prop := Claim7.holds Tryd.pinned (.plain (OpenSpec.upto diskBeginningsSpec)) diskBeginningsUptoCard

/-- THE SECOND FORM's CARD OF 'conduitlaw09.DiskMemory'. -/
def diskMemoryUptoCard : Claim7 := { stood := { row := diskMemoryUptoRow, standIns := [], harness := (true, "45af67af0fc326d186aaa66fca62d84c0d741e125abf37c3afdeb069cc9d57ae"), looks := true }, kinds := [], alts := [], laidByText := true, laidKinds := [.data, .pinned], laidTests := true, laidLooks := .later }
def DiskMemoryUptoCardSaid : Prop := Claim7.holds Tryd.pinned (.plain (OpenSpec.upto diskMemorySpec)) diskMemoryUptoCard

/-- THE SECOND FORM's CARD OF 'conduitlaw09.DiskSteps'. -/
def diskStepsUptoCard : Claim7 := { stood := { row := diskStepsUptoRow, standIns := [], harness := (true, "45af67af0fc326d186aaa66fca62d84c0d741e125abf37c3afdeb069cc9d57ae"), looks := true }, kinds := [], alts := [], laidByText := true, laidKinds := [.data, .pinned], laidTests := true, laidLooks := .later }
def DiskStepsUptoCardSaid : Prop := Claim7.holds Tryd.pinned (.plain (OpenSpec.upto diskStepsSpec)) diskStepsUptoCard
end Rows
end Go.Proofs.YtnhfnfdmpcpcoaaDoor
