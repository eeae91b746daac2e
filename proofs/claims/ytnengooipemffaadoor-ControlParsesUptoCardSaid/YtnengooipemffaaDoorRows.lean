/-
  NARROWER THAN 'FOR EVERY INPUT', by the rows' own cells (each row's printed sentence says how): ControlSeconds: laid · ControlParses: laid · ControlBounds: laid · ControlCase: laid · ControlParts: laid · ControlFirst: laid.
  DERIVED. THE GIVEN ROWS OF THIS SEAT. 6 by the template 'for every input the law returns true; each argument reads behind the call as it read before'; 0 by the template 'total and deterministic' (their statements: YtnengooipemffaaDoorTotals.lean).
  GIVEN WITH THE SEED: the statements are not yours to turn. If you find one false, say at which input.
  Laid BY PROGRAM, IN A SANDBOX (cutbox-rows.mjs): the forced cells as the released guide's own fill.sh prints them over the translation 166c101e2fee2972… (all of the seat's roots in one cut). By AI agents, Wed Nov 11 2026. No macro, syntax, notation, axiom, sorry.
-/
import Derived.Test.YtnengooipemffaaDoorChecked
import GoSem.PinnedTables
import GoSem.Claim
import GoSem.ClaimJoined
import GoSem.ClaimMapViews
import Derived.JoinedTies
import Derived.KernelRfl
namespace Go.Proofs.YtnengooipemffaaDoor
/- THE CELL 'sum', in the pinned program and in every row, IS THE sha256 OF THE DUMP (.gsa) THAT YtnengooipemffaaDoorProg.lean LOADS. Nothing in Lean hashes anything: it is a label: what it is worth is what the hold of that sum in a sandbox is worth. -/
noncomputable def Tryd.pinned : Pinned := { name := "ytnengooipemffaadoor", sum := "166c101e2fee29727b03644973923a3d314c26ed116f2a59c34f3e93ff5736c9", checked := Tryd.checked }
namespace Rows
def none {H : Type} : Left H := { results := [], args := [] }

/- WHAT THE LISTED PACKAGE-LEVEL VARIABLES READ AS WHEN THE CALL BEGINS. Each datum BY PROGRAM (the guide's laid-datum.mjs) off the statement by which the dump's own 'gosem.cut.vars' lays the variable. In a bare row this is a premise. The card (YtnengooipemffaaDoorCards.lean) ties it to the program's text. -/
def laid_unicode_utf8_acceptRanges {H : Type} : DataW H := .agg [.agg [.lit (.int .u8 128), .lit (.int .u8 191)], .agg [.lit (.int .u8 160), .lit (.int .u8 191)], .agg [.lit (.int .u8 128), .lit (.int .u8 159)], .agg [.lit (.int .u8 144), .lit (.int .u8 191)], .agg [.lit (.int .u8 128), .lit (.int .u8 143)], .agg [.lit (.int .u8 0), .lit (.int .u8 0)], .agg [.lit (.int .u8 0), .lit (.int .u8 0)], .agg [.lit (.int .u8 0), .lit (.int .u8 0)], .agg [.lit (.int .u8 0), .lit (.int .u8 0)], .agg [.lit (.int .u8 0), .lit (.int .u8 0)], .agg [.lit (.int .u8 0), .lit (.int .u8 0)], .agg [.lit (.int .u8 0), .lit (.int .u8 0)], .agg [.lit (.int .u8 0), .lit (.int .u8 0)], .agg [.lit (.int .u8 0), .lit (.int .u8 0)], .agg [.lit (.int .u8 0), .lit (.int .u8 0)], .agg [.lit (.int .u8 0), .lit (.int .u8 0)]]
/-- One of Go's own tables, pinned by name: the form's constant. -/
def laid_unicode_utf8_first : DataW Unit := Go.Pinned.utf8First

/-- 'conduitlaw15.ControlSeconds': WHATEVER THE INPUT: true; the input reads as it did. -/
def controlSecondsSpec : ChangeSpec := { name := "controlSeconds", fn := fun _ => fun
  | [d] => { results := [.lit (.bool true)], args := [d] }
  | _ => none }
def controlSecondsRow : OpenClaim := { program := "ytnengooipemffaadoor", sum := "166c101e2fee29727b03644973923a3d314c26ed116f2a59c34f3e93ff5736c9", func := "conduit/conduitlaw15.ControlSeconds", spec := "controlSeconds", inPlace := ["internal/bytealg.IndexByteString", "internal/bytealg.IndexString"], named := ["unicode/utf8.first", "unicode/utf8.acceptRanges", "internal/bytealg.MaxLen"], apart := false, laid := [("unicode/utf8.acceptRanges", laid_unicode_utf8_acceptRanges), ("unicode/utf8.first", laid_unicode_utf8_first)] }
def ControlSecondsSaid : Prop := controlSecondsRow.holds Tryd.pinned (OpenSpec.ofChange controlSecondsSpec)

/-- ITS FALSE NEIGHBOUR: 'it returns false'. Refute it at one input. -/
def controlSecondsWrong : ChangeSpec := { name := "controlSeconds", fn := fun _ => fun
  | [d] => { results := [.lit (.bool false)], args := [d] }
  | _ => none }
def ControlSecondsWrongFalsely : Prop := controlSecondsRow.holds Tryd.pinned (OpenSpec.ofChange controlSecondsWrong)

/-- 'conduitlaw15.ControlParses': WHATEVER THE INPUT: true; the input reads as it did. -/
def controlParsesSpec : ChangeSpec := { name := "controlParses", fn := fun _ => fun
  | [d] => { results := [.lit (.bool true)], args := [d] }
  | _ => none }
def controlParsesRow : OpenClaim := { program := "ytnengooipemffaadoor", sum := "166c101e2fee29727b03644973923a3d314c26ed116f2a59c34f3e93ff5736c9", func := "conduit/conduitlaw15.ControlParses", spec := "controlParses", inPlace := ["internal/bytealg.IndexByteString", "internal/bytealg.IndexString", "internal/abi.NoEscape"], unfollowed := true, recurses := true, named := ["unicode/utf8.first", "unicode/utf8.acceptRanges", "internal/bytealg.MaxLen"], apart := false, laid := [("unicode/utf8.acceptRanges", laid_unicode_utf8_acceptRanges), ("unicode/utf8.first", laid_unicode_utf8_first)] }
def ControlParsesSaid : Prop := controlParsesRow.holds Tryd.pinned (OpenSpec.ofChange controlParsesSpec)

/-- ITS FALSE NEIGHBOUR: 'it returns false'. Refute it at one input. -/
def controlParsesWrong : ChangeSpec := { name := "controlParses", fn := fun _ => fun
  | [d] => { results := [.lit (.bool false)], args := [d] }
  | _ => none }
def ControlParsesWrongFalsely : Prop := controlParsesRow.holds Tryd.pinned (OpenSpec.ofChange controlParsesWrong)

/-- 'conduitlaw15.ControlBounds': WHATEVER THE INPUT: true; the input reads as it did. -/
def controlBoundsSpec : ChangeSpec := { name := "controlBounds", fn := fun _ => fun
  | [d] => { results := [.lit (.bool true)], args := [d] }
  | _ => none }
def controlBoundsRow : OpenClaim := { program := "ytnengooipemffaadoor", sum := "166c101e2fee29727b03644973923a3d314c26ed116f2a59c34f3e93ff5736c9", func := "conduit/conduitlaw15.ControlBounds", spec := "controlBounds", inPlace := ["internal/bytealg.IndexByteString", "internal/bytealg.IndexString", "internal/abi.NoEscape"], unfollowed := true, recurses := true, named := ["unicode/utf8.first", "unicode/utf8.acceptRanges", "internal/bytealg.MaxLen"], apart := false, laid := [("unicode/utf8.acceptRanges", laid_unicode_utf8_acceptRanges), ("unicode/utf8.first", laid_unicode_utf8_first)] }
def ControlBoundsSaid : Prop := controlBoundsRow.holds Tryd.pinned (OpenSpec.ofChange controlBoundsSpec)

/-- ITS FALSE NEIGHBOUR: 'it returns false'. Refute it at one input. -/
def controlBoundsWrong : ChangeSpec := { name := "controlBounds", fn := fun _ => fun
  | [d] => { results := [.lit (.bool false)], args := [d] }
  | _ => none }
def ControlBoundsWrongFalsely : Prop := controlBoundsRow.holds Tryd.pinned (OpenSpec.ofChange controlBoundsWrong)

/-- 'conduitlaw15.ControlCase': WHATEVER THE INPUT: true; the input reads as it did. -/
def controlCaseSpec : ChangeSpec := { name := "controlCase", fn := fun _ => fun
  | [d1, d2] => { results := [.lit (.bool true)], args := [d1, d2] }
  | _ => none }
def controlCaseRow : OpenClaim := { program := "ytnengooipemffaadoor", sum := "166c101e2fee29727b03644973923a3d314c26ed116f2a59c34f3e93ff5736c9", func := "conduit/conduitlaw15.ControlCase", spec := "controlCase", inPlace := ["internal/bytealg.IndexByteString", "internal/bytealg.IndexString", "internal/abi.NoEscape"], unfollowed := true, recurses := true, named := ["unicode/utf8.first", "unicode/utf8.acceptRanges", "internal/bytealg.MaxLen"], apart := false, laid := [("unicode/utf8.acceptRanges", laid_unicode_utf8_acceptRanges), ("unicode/utf8.first", laid_unicode_utf8_first)] }
def ControlCaseSaid : Prop := controlCaseRow.holds Tryd.pinned (OpenSpec.ofChange controlCaseSpec)

/-- ITS FALSE NEIGHBOUR: 'it returns false'. Refute it at one input. -/
def controlCaseWrong : ChangeSpec := { name := "controlCase", fn := fun _ => fun
  | [d1, d2] => { results := [.lit (.bool false)], args := [d1, d2] }
  | _ => none }
def ControlCaseWrongFalsely : Prop := controlCaseRow.holds Tryd.pinned (OpenSpec.ofChange controlCaseWrong)

/-- 'conduitlaw15.ControlParts': WHATEVER THE INPUT: true; the input reads as it did. -/
def controlPartsSpec : ChangeSpec := { name := "controlParts", fn := fun _ => fun
  | [d1, d2] => { results := [.lit (.bool true)], args := [d1, d2] }
  | _ => none }
def controlPartsRow : OpenClaim := { program := "ytnengooipemffaadoor", sum := "166c101e2fee29727b03644973923a3d314c26ed116f2a59c34f3e93ff5736c9", func := "conduit/conduitlaw15.ControlParts", spec := "controlParts", inPlace := ["internal/bytealg.IndexByteString", "internal/bytealg.IndexString", "internal/abi.NoEscape"], unfollowed := true, recurses := true, named := ["unicode/utf8.first", "unicode/utf8.acceptRanges", "internal/bytealg.MaxLen"], apart := false, laid := [("unicode/utf8.acceptRanges", laid_unicode_utf8_acceptRanges), ("unicode/utf8.first", laid_unicode_utf8_first)] }
def ControlPartsSaid : Prop := controlPartsRow.holds Tryd.pinned (OpenSpec.ofChange controlPartsSpec)

/-- ITS FALSE NEIGHBOUR: 'it returns false'. Refute it at one input. -/
def controlPartsWrong : ChangeSpec := { name := "controlParts", fn := fun _ => fun
  | [d1, d2] => { results := [.lit (.bool false)], args := [d1, d2] }
  | _ => none }
def ControlPartsWrongFalsely : Prop := controlPartsRow.holds Tryd.pinned (OpenSpec.ofChange controlPartsWrong)

/-- 'conduitlaw15.ControlFirst': WHATEVER THE INPUT: true; the input reads as it did. -/
def controlFirstSpec : ChangeSpec := { name := "controlFirst", fn := fun _ => fun
  | [d1, d2] => { results := [.lit (.bool true)], args := [d1, d2] }
  | _ => none }
def controlFirstRow : OpenClaim := { program := "ytnengooipemffaadoor", sum := "166c101e2fee29727b03644973923a3d314c26ed116f2a59c34f3e93ff5736c9", func := "conduit/conduitlaw15.ControlFirst", spec := "controlFirst", inPlace := ["internal/bytealg.IndexByteString", "internal/bytealg.IndexString", "internal/abi.NoEscape"], unfollowed := true, recurses := true, named := ["unicode/utf8.first", "unicode/utf8.acceptRanges", "internal/bytealg.MaxLen"], apart := false, laid := [("unicode/utf8.acceptRanges", laid_unicode_utf8_acceptRanges), ("unicode/utf8.first", laid_unicode_utf8_first)] }
def ControlFirstSaid : Prop := controlFirstRow.holds Tryd.pinned (OpenSpec.ofChange controlFirstSpec)

/-- ITS FALSE NEIGHBOUR: 'it returns false'. Refute it at one input. -/
def controlFirstWrong : ChangeSpec := { name := "controlFirst", fn := fun _ => fun
  | [d1, d2] => { results := [.lit (.bool false)], args := [d1, d2] }
  | _ => none }
def ControlFirstWrongFalsely : Prop := controlFirstRow.holds Tryd.pinned (OpenSpec.ofChange controlFirstWrong)

/- THE SECOND FORM. 'bulk': how many values and letters a reading holds, each counted each time it is reached (what is shared counts as often as it is met; a slice's spare places count too). A statement '..UptoSaid' is the law's where the arguments, and the package variables that the reading takes, are together of bulk at most 1048576: NARROWER than '..Said'. Prove '..Said' where nothing that the law and all that it calls make is longer than what came in: it says more and counts as full. Else prove '..UptoSaid'. A law counts once. -/
mutual
def uptoBulk {H : Type} : DataW H → Nat
  | .lit (.string bytes) => bytes.length + 1
  | .lit _ => 1
  | .nil => 1
  | .ptr d => uptoBulk d + 1
  | .slice elems spare => uptoBulkAll elems + uptoBulkAll spare + 1
  | .agg parts => uptoBulkAll parts + 1
  | .iface _ d => uptoBulk d + 1
  | .map entries => uptoBulkEntries entries + 1
  | .held _ => 1
def uptoBulkAll {H : Type} : List (DataW H) → Nat
  | [] => 0
  | d :: r => uptoBulk d + uptoBulkAll r
def uptoBulkEntries {H : Type} : List (Lit × DataW H) → Nat
  | [] => 0
  | x :: r => uptoBulkEntry x + uptoBulkEntries r
def uptoBulkEntry {H : Type} : Lit × DataW H → Nat
  | (.string bytes, d) => bytes.length + uptoBulk d + 1
  | (_, d) => uptoBulk d + 1
 end
def uptoSmall : (H : Type) → List (DataW H) → Bool := fun _ ds => decide (uptoBulkAll ds ≤ 1048576)
def OpenSpec.upto (s : _root_.Go.ChangeSpec) : _root_.Go.OpenSpec := { _root_.Go.OpenSpec.ofChange s with cond := some uptoSmall }

/-- 'conduitlaw15.ControlSeconds', WHERE WHAT IT READS IS OF BULK AT MOST 1048576: true; the input reads as it did. -/
def controlSecondsUptoRow : OpenClaim := { program := "ytnengooipemffaadoor", sum := "166c101e2fee29727b03644973923a3d314c26ed116f2a59c34f3e93ff5736c9", func := "conduit/conduitlaw15.ControlSeconds", spec := "controlSeconds", inPlace := ["internal/bytealg.IndexByteString", "internal/bytealg.IndexString"], named := ["unicode/utf8.first", "unicode/utf8.acceptRanges", "internal/bytealg.MaxLen"], apart := false, laid := [("unicode/utf8.acceptRanges", laid_unicode_utf8_acceptRanges), ("unicode/utf8.first", laid_unicode_utf8_first)], narrowed := true }
def ControlSecondsUptoSaid : Prop := controlSecondsUptoRow.holds Tryd.pinned (OpenSpec.upto controlSecondsSpec)

/-- 'conduitlaw15.ControlParses', WHERE WHAT IT READS IS OF BULK AT MOST 1048576: true; the input reads as it did. -/
def controlParsesUptoRow : OpenClaim := { program := "ytnengooipemffaadoor", sum := "166c101e2fee29727b03644973923a3d314c26ed116f2a59c34f3e93ff5736c9", func := "conduit/conduitlaw15.ControlParses", spec := "controlParses", inPlace := ["internal/bytealg.IndexByteString", "internal/bytealg.IndexString", "internal/abi.NoEscape"], unfollowed := true, recurses := true, named := ["unicode/utf8.first", "unicode/utf8.acceptRanges", "internal/bytealg.MaxLen"], apart := false, laid := [("unicode/utf8.acceptRanges", laid_unicode_utf8_acceptRanges), ("unicode/utf8.first", laid_unicode_utf8_first)], narrowed := true }
def ControlParsesUptoSaid : Prop := controlParsesUptoRow.holds Tryd.pinned (OpenSpec.upto controlParsesSpec)

/-- 'conduitlaw15.ControlBounds', WHERE WHAT IT READS IS OF BULK AT MOST 1048576: true; the input reads as it did. -/
def controlBoundsUptoRow : OpenClaim := { program := "ytnengooipemffaadoor", sum := "166c101e2fee29727b03644973923a3d314c26ed116f2a59c34f3e93ff5736c9", func := "conduit/conduitlaw15.ControlBounds", spec := "controlBounds", inPlace := ["internal/bytealg.IndexByteString", "internal/bytealg.IndexString", "internal/abi.NoEscape"], unfollowed := true, recurses := true, named := ["unicode/utf8.first", "unicode/utf8.acceptRanges", "internal/bytealg.MaxLen"], apart := false, laid := [("unicode/utf8.acceptRanges", laid_unicode_utf8_acceptRanges), ("unicode/utf8.first", laid_unicode_utf8_first)], narrowed := true }
def ControlBoundsUptoSaid : Prop := controlBoundsUptoRow.holds Tryd.pinned (OpenSpec.upto controlBoundsSpec)

/-- 'conduitlaw15.ControlCase', WHERE WHAT IT READS IS OF BULK AT MOST 1048576: true; the input reads as it did. -/
def controlCaseUptoRow : OpenClaim := { program := "ytnengooipemffaadoor", sum := "166c101e2fee29727b03644973923a3d314c26ed116f2a59c34f3e93ff5736c9", func := "conduit/conduitlaw15.ControlCase", spec := "controlCase", inPlace := ["internal/bytealg.IndexByteString", "internal/bytealg.IndexString", "internal/abi.NoEscape"], unfollowed := true, recurses := true, named := ["unicode/utf8.first", "unicode/utf8.acceptRanges", "internal/bytealg.MaxLen"], apart := false, laid := [("unicode/utf8.acceptRanges", laid_unicode_utf8_acceptRanges), ("unicode/utf8.first", laid_unicode_utf8_first)], narrowed := true }
def ControlCaseUptoSaid : Prop := controlCaseUptoRow.holds Tryd.pinned (OpenSpec.upto controlCaseSpec)

/-- 'conduitlaw15.ControlParts', WHERE WHAT IT READS IS OF BULK AT MOST 1048576: true; the input reads as it did. -/
def controlPartsUptoRow : OpenClaim := { program := "ytnengooipemffaadoor", sum := "166c101e2fee29727b03644973923a3d314c26ed116f2a59c34f3e93ff5736c9", func := "conduit/conduitlaw15.ControlParts", spec := "controlParts", inPlace := ["internal/bytealg.IndexByteString", "internal/bytealg.IndexString", "internal/abi.NoEscape"], unfollowed := true, recurses := true, named := ["unicode/utf8.first", "unicode/utf8.acceptRanges", "internal/bytealg.MaxLen"], apart := false, laid := [("unicode/utf8.acceptRanges", laid_unicode_utf8_acceptRanges), ("unicode/utf8.first", laid_unicode_utf8_first)], narrowed := true }
def ControlPartsUptoSaid : Prop := controlPartsUptoRow.holds Tryd.pinned (OpenSpec.upto controlPartsSpec)

/-- 'conduitlaw15.ControlFirst', WHERE WHAT IT READS IS OF BULK AT MOST 1048576: true; the input reads as it did. -/
def controlFirstUptoRow : OpenClaim := { program := "ytnengooipemffaadoor", sum := "166c101e2fee29727b03644973923a3d314c26ed116f2a59c34f3e93ff5736c9", func := "conduit/conduitlaw15.ControlFirst", spec := "controlFirst", inPlace := ["internal/bytealg.IndexByteString", "internal/bytealg.IndexString", "internal/abi.NoEscape"], unfollowed := true, recurses := true, named := ["unicode/utf8.first", "unicode/utf8.acceptRanges", "internal/bytealg.MaxLen"], apart := false, laid := [("unicode/utf8.acceptRanges", laid_unicode_utf8_acceptRanges), ("unicode/utf8.first", laid_unicode_utf8_first)], narrowed := true }
def ControlFirstUptoSaid : Prop := controlFirstUptoRow.holds Tryd.pinned (OpenSpec.upto controlFirstSpec)

end Rows
end Go.Proofs.YtnengooipemffaaDoor
