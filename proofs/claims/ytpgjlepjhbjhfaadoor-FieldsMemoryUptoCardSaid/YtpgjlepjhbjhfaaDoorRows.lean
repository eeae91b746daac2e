/-
  NARROWER THAN 'FOR EVERY INPUT', by the rows' own cells (each row's printed sentence says how): FieldsFinds: laid · FieldsParses: laid · FieldsJoins: laid · FieldsPuts: laid · FieldsPrints: laid · FieldsRound: laid · FieldsMemory: laid.
  DERIVED. THE GIVEN ROWS OF THIS SEAT. 7 by the template 'for every input the law returns true; each argument reads behind the call as it read before'; 0 by the template 'total and deterministic' (their statements: YtpgjlepjhbjhfaaDoorTotals.lean).
  GIVEN WITH THE SEED: the statements are not yours to turn. If you find one false, say at which input.
  Laid BY PROGRAM, IN A SANDBOX (cutbox-rows.mjs): the forced cells as the released guide's own fill.sh prints them over the translation 62e94dd98d72cbd1… (all of the seat's roots in one cut). By AI agents, Wed Nov 11 2026. No macro, syntax, notation, axiom, sorry.
-/
import Derived.Test.YtpgjlepjhbjhfaaDoorChecked
import GoSem.PinnedTables
import GoSem.Claim
import GoSem.ClaimJoined
import GoSem.ClaimMapViews
import Derived.JoinedTies
import Derived.KernelRfl
namespace Go.Proofs.YtpgjlepjhbjhfaaDoor
/- THE CELL 'sum', in the pinned program and in every row, IS THE sha256 OF THE DUMP (.gsa) THAT YtpgjlepjhbjhfaaDoorProg.lean LOADS. Nothing in Lean hashes anything: it is a label: what it is worth is what the hold of that sum in a sandbox is worth. -/
noncomputable def Tryd.pinned : Pinned := { name := "ytpgjlepjhbjhfaadoor", sum := "62e94dd98d72cbd14732adf4b4fa0cc859c49cc4abff63e4b82f01d7f7ab1a07", checked := Tryd.checked }
namespace Rows
def none {H : Type} : Left H := { results := [], args := [] }

/- WHAT THE LISTED PACKAGE-LEVEL VARIABLES READ AS WHEN THE CALL BEGINS. Each datum BY PROGRAM (the guide's laid-datum.mjs) off the statement by which the dump's own 'gosem.cut.vars' lays the variable. In a bare row this is a premise. The card (YtpgjlepjhbjhfaaDoorCards.lean) ties it to the program's text. -/
def laid_unicode_utf8_acceptRanges {H : Type} : DataW H := .agg [.agg [.lit (.int .u8 128), .lit (.int .u8 191)], .agg [.lit (.int .u8 160), .lit (.int .u8 191)], .agg [.lit (.int .u8 128), .lit (.int .u8 159)], .agg [.lit (.int .u8 144), .lit (.int .u8 191)], .agg [.lit (.int .u8 128), .lit (.int .u8 143)], .agg [.lit (.int .u8 0), .lit (.int .u8 0)], .agg [.lit (.int .u8 0), .lit (.int .u8 0)], .agg [.lit (.int .u8 0), .lit (.int .u8 0)], .agg [.lit (.int .u8 0), .lit (.int .u8 0)], .agg [.lit (.int .u8 0), .lit (.int .u8 0)], .agg [.lit (.int .u8 0), .lit (.int .u8 0)], .agg [.lit (.int .u8 0), .lit (.int .u8 0)], .agg [.lit (.int .u8 0), .lit (.int .u8 0)], .agg [.lit (.int .u8 0), .lit (.int .u8 0)], .agg [.lit (.int .u8 0), .lit (.int .u8 0)], .agg [.lit (.int .u8 0), .lit (.int .u8 0)]]
/-- One of Go's own tables, pinned by name: the form's constant. -/
def laid_unicode_utf8_first : DataW Unit := Go.Pinned.utf8First
def laid_bytes_ErrTooLarge {H : Type} : DataW H := .iface "*errors.errorString" (.ptr (.agg [.lit (.string [98, 121, 116, 101, 115, 46, 66, 117, 102, 102, 101, 114, 58, 32, 116, 111, 111, 32, 108, 97, 114, 103, 101])]))

/-- 'conduitlaw04.FieldsFinds': WHATEVER THE INPUT: true; the input reads as it did. -/
def fieldsFindsSpec : ChangeSpec := { name := "fieldsFinds", fn := fun _ => fun
  | [d1, d2] => { results := [.lit (.bool true)], args := [d1, d2] }
  | _ => none }
def fieldsFindsRow : OpenClaim := { program := "ytpgjlepjhbjhfaadoor", sum := "62e94dd98d72cbd14732adf4b4fa0cc859c49cc4abff63e4b82f01d7f7ab1a07", func := "conduit/conduitlaw04.FieldsFinds", spec := "fieldsFinds", inPlace := ["internal/abi.NoEscape", "internal/bytealg.MakeNoZero", "internal/bytealg.IndexByteString", "internal/bytealg.IndexString"], named := ["unicode/utf8.first", "unicode/utf8.acceptRanges", "internal/bytealg.MaxLen"], apart := false, laid := [("unicode/utf8.acceptRanges", laid_unicode_utf8_acceptRanges), ("unicode/utf8.first", laid_unicode_utf8_first)] }
def FieldsFindsSaid : Prop := fieldsFindsRow.holds Tryd.pinned (OpenSpec.ofChange fieldsFindsSpec)

/-- ITS FALSE NEIGHBOUR: 'it returns false'. Refute it at one input. -/
def fieldsFindsWrong : ChangeSpec := { name := "fieldsFinds", fn := fun _ => fun
  | [d1, d2] => { results := [.lit (.bool false)], args := [d1, d2] }
  | _ => none }
def FieldsFindsWrongFalsely : Prop := fieldsFindsRow.holds Tryd.pinned (OpenSpec.ofChange fieldsFindsWrong)

/-- 'conduitlaw04.FieldsParses': WHATEVER THE INPUT: true; the input reads as it did. -/
def fieldsParsesSpec : ChangeSpec := { name := "fieldsParses", fn := fun _ => fun
  | [d] => { results := [.lit (.bool true)], args := [d] }
  | _ => none }
def fieldsParsesRow : OpenClaim := { program := "ytpgjlepjhbjhfaadoor", sum := "62e94dd98d72cbd14732adf4b4fa0cc859c49cc4abff63e4b82f01d7f7ab1a07", func := "conduit/conduitlaw04.FieldsParses", spec := "fieldsParses", inPlace := ["internal/bytealg.IndexByteString", "internal/bytealg.IndexByte", "internal/bytealg.Index", "internal/bytealg.IndexString"], named := ["internal/bytealg.MaxLen", "unicode/utf8.first", "unicode/utf8.acceptRanges"], apart := false, laid := [("unicode/utf8.acceptRanges", laid_unicode_utf8_acceptRanges), ("unicode/utf8.first", laid_unicode_utf8_first)] }
def FieldsParsesSaid : Prop := fieldsParsesRow.holds Tryd.pinned (OpenSpec.ofChange fieldsParsesSpec)

/-- ITS FALSE NEIGHBOUR: 'it returns false'. Refute it at one input. -/
def fieldsParsesWrong : ChangeSpec := { name := "fieldsParses", fn := fun _ => fun
  | [d] => { results := [.lit (.bool false)], args := [d] }
  | _ => none }
def FieldsParsesWrongFalsely : Prop := fieldsParsesRow.holds Tryd.pinned (OpenSpec.ofChange fieldsParsesWrong)

/-- 'conduitlaw04.FieldsJoins': WHATEVER THE INPUT: true; the input reads as it did. -/
def fieldsJoinsSpec : ChangeSpec := { name := "fieldsJoins", fn := fun _ => fun
  | [d1, d2] => { results := [.lit (.bool true)], args := [d1, d2] }
  | _ => none }
def fieldsJoinsRow : OpenClaim := { program := "ytpgjlepjhbjhfaadoor", sum := "62e94dd98d72cbd14732adf4b4fa0cc859c49cc4abff63e4b82f01d7f7ab1a07", func := "conduit/conduitlaw04.FieldsJoins", spec := "fieldsJoins", inPlace := ["internal/bytealg.IndexByteString", "internal/bytealg.IndexByte", "internal/bytealg.Index", "internal/bytealg.IndexString"], named := ["internal/bytealg.MaxLen", "unicode/utf8.first", "unicode/utf8.acceptRanges"], apart := false, laid := [("unicode/utf8.acceptRanges", laid_unicode_utf8_acceptRanges), ("unicode/utf8.first", laid_unicode_utf8_first)] }
def FieldsJoinsSaid : Prop := fieldsJoinsRow.holds Tryd.pinned (OpenSpec.ofChange fieldsJoinsSpec)

/-- ITS FALSE NEIGHBOUR: 'it returns false'. Refute it at one input. -/
def fieldsJoinsWrong : ChangeSpec := { name := "fieldsJoins", fn := fun _ => fun
  | [d1, d2] => { results := [.lit (.bool false)], args := [d1, d2] }
  | _ => none }
def FieldsJoinsWrongFalsely : Prop := fieldsJoinsRow.holds Tryd.pinned (OpenSpec.ofChange fieldsJoinsWrong)

/-- 'conduitlaw04.FieldsPuts': WHATEVER THE INPUT: true; the input reads as it did. -/
def fieldsPutsSpec : ChangeSpec := { name := "fieldsPuts", fn := fun _ => fun
  | [d1, d2, d3, d4] => { results := [.lit (.bool true)], args := [d1, d2, d3, d4] }
  | _ => none }
def fieldsPutsRow : OpenClaim := { program := "ytpgjlepjhbjhfaadoor", sum := "62e94dd98d72cbd14732adf4b4fa0cc859c49cc4abff63e4b82f01d7f7ab1a07", func := "conduit/conduitlaw04.FieldsPuts", spec := "fieldsPuts", inPlace := ["internal/bytealg.IndexByteString", "internal/bytealg.IndexByte", "internal/bytealg.Index", "internal/bytealg.IndexString"], unfollowed := true, recurses := true, named := ["internal/bytealg.MaxLen", "unicode/utf8.first", "unicode/utf8.acceptRanges"], apart := false, laid := [("unicode/utf8.acceptRanges", laid_unicode_utf8_acceptRanges), ("unicode/utf8.first", laid_unicode_utf8_first)] }
def FieldsPutsSaid : Prop := fieldsPutsRow.holds Tryd.pinned (OpenSpec.ofChange fieldsPutsSpec)

/-- ITS FALSE NEIGHBOUR: 'it returns false'. Refute it at one input. -/
def fieldsPutsWrong : ChangeSpec := { name := "fieldsPuts", fn := fun _ => fun
  | [d1, d2, d3, d4] => { results := [.lit (.bool false)], args := [d1, d2, d3, d4] }
  | _ => none }
def FieldsPutsWrongFalsely : Prop := fieldsPutsRow.holds Tryd.pinned (OpenSpec.ofChange fieldsPutsWrong)

/-- 'conduitlaw04.FieldsPrints': WHATEVER THE INPUT: true; the input reads as it did. -/
def fieldsPrintsSpec : ChangeSpec := { name := "fieldsPrints", fn := fun _ => fun
  | [d] => { results := [.lit (.bool true)], args := [d] }
  | _ => none }
def fieldsPrintsRow : OpenClaim := { program := "ytpgjlepjhbjhfaadoor", sum := "62e94dd98d72cbd14732adf4b4fa0cc859c49cc4abff63e4b82f01d7f7ab1a07", func := "conduit/conduitlaw04.FieldsPrints", spec := "fieldsPrints", inPlace := ["internal/bytealg.IndexByteString", "internal/bytealg.IndexByte", "internal/bytealg.Index", "internal/bytealg.IndexString"], named := ["internal/bytealg.MaxLen", "unicode/utf8.first", "unicode/utf8.acceptRanges", "bytes.ErrTooLarge"], apart := false, laid := [("unicode/utf8.acceptRanges", laid_unicode_utf8_acceptRanges), ("bytes.ErrTooLarge", laid_bytes_ErrTooLarge), ("unicode/utf8.first", laid_unicode_utf8_first)] }
def FieldsPrintsSaid : Prop := fieldsPrintsRow.holds Tryd.pinned (OpenSpec.ofChange fieldsPrintsSpec)

/-- ITS FALSE NEIGHBOUR: 'it returns false'. Refute it at one input. -/
def fieldsPrintsWrong : ChangeSpec := { name := "fieldsPrints", fn := fun _ => fun
  | [d] => { results := [.lit (.bool false)], args := [d] }
  | _ => none }
def FieldsPrintsWrongFalsely : Prop := fieldsPrintsRow.holds Tryd.pinned (OpenSpec.ofChange fieldsPrintsWrong)

/-- 'conduitlaw04.FieldsRound': WHATEVER THE INPUT: true; the input reads as it did. -/
def fieldsRoundSpec : ChangeSpec := { name := "fieldsRound", fn := fun _ => fun
  | [d1, d2] => { results := [.lit (.bool true)], args := [d1, d2] }
  | _ => none }
def fieldsRoundRow : OpenClaim := { program := "ytpgjlepjhbjhfaadoor", sum := "62e94dd98d72cbd14732adf4b4fa0cc859c49cc4abff63e4b82f01d7f7ab1a07", func := "conduit/conduitlaw04.FieldsRound", spec := "fieldsRound", inPlace := ["internal/bytealg.IndexByteString", "internal/bytealg.IndexByte", "internal/bytealg.Index", "internal/bytealg.IndexString"], named := ["internal/bytealg.MaxLen", "unicode/utf8.first", "unicode/utf8.acceptRanges", "bytes.ErrTooLarge"], apart := false, laid := [("unicode/utf8.acceptRanges", laid_unicode_utf8_acceptRanges), ("bytes.ErrTooLarge", laid_bytes_ErrTooLarge), ("unicode/utf8.first", laid_unicode_utf8_first)] }
def FieldsRoundSaid : Prop := fieldsRoundRow.holds Tryd.pinned (OpenSpec.ofChange fieldsRoundSpec)

/-- ITS FALSE NEIGHBOUR: 'it returns false'. Refute it at one input. -/
def fieldsRoundWrong : ChangeSpec := { name := "fieldsRound", fn := fun _ => fun
  | [d1, d2] => { results := [.lit (.bool false)], args := [d1, d2] }
  | _ => none }
def FieldsRoundWrongFalsely : Prop := fieldsRoundRow.holds Tryd.pinned (OpenSpec.ofChange fieldsRoundWrong)

/-- 'conduitlaw04.FieldsMemory': WHATEVER THE INPUT: true; the input reads as it did. -/
def fieldsMemorySpec : ChangeSpec := { name := "fieldsMemory", fn := fun _ => fun
  | [d1, d2, d3] => { results := [.lit (.bool true)], args := [d1, d2, d3] }
  | _ => none }
def fieldsMemoryRow : OpenClaim := { program := "ytpgjlepjhbjhfaadoor", sum := "62e94dd98d72cbd14732adf4b4fa0cc859c49cc4abff63e4b82f01d7f7ab1a07", func := "conduit/conduitlaw04.FieldsMemory", spec := "fieldsMemory", inPlace := ["internal/bytealg.IndexByteString", "internal/bytealg.IndexByte", "internal/bytealg.Index", "internal/bytealg.IndexString"], unfollowed := true, recurses := true, named := ["internal/bytealg.MaxLen", "unicode/utf8.first", "unicode/utf8.acceptRanges", "bytes.ErrTooLarge"], apart := false, laid := [("unicode/utf8.acceptRanges", laid_unicode_utf8_acceptRanges), ("bytes.ErrTooLarge", laid_bytes_ErrTooLarge), ("unicode/utf8.first", laid_unicode_utf8_first)] }
def FieldsMemorySaid : Prop := fieldsMemoryRow.holds Tryd.pinned (OpenSpec.ofChange fieldsMemorySpec)

/-- ITS FALSE NEIGHBOUR: 'it returns false'. Refute it at one input. -/
def fieldsMemoryWrong : ChangeSpec := { name := "fieldsMemory", fn := fun _ => fun
  | [d1, d2, d3] => { results := [.lit (.bool false)], args := [d1, d2, d3] }
  | _ => none }
def FieldsMemoryWrongFalsely : Prop := fieldsMemoryRow.holds Tryd.pinned (OpenSpec.ofChange fieldsMemoryWrong)

/- THE SECOND FORM. 'bulk': how many values and letters a reading holds, each counted each time it is reached (what is shared counts as often as it is met; a slice's spare places count too). A statement '..UptoSaid' is the law's where the arguments, and the package variables that the reading takes, are together of bulk at most 1048576: NARROWER than '..Said'. Prove '..Said' where nothing that the law and all that it calls make is longer than what came in: it says more and counts as full. Else prove '..UptoSaid'. A law counts once. -/
mutual
def uptoBulk {H : Type} : DataW H → Nat
  | .lit (.string bytes) => bytes.length + 1
  | .lit _ => 1
  | .nil => 1
  | .ptr d => uptoBulk d + 1
  | .slice elems spare => uptoBulkAll elems + uptoBulkAll spare + 1
  | .agg parts => uptoBulkAll parts + 1
  | .iface _ d => uptoBulk d + 1
  | .map entries => uptoBulkEntries entries + 1
  | .held _ => 1
def uptoBulkAll {H : Type} : List (DataW H) → Nat
  | [] => 0
  | d :: r => uptoBulk d + uptoBulkAll r
def uptoBulkEntries {H : Type} : List (Lit × DataW H) → Nat
  | [] => 0
  | x :: r => uptoBulkEntry x + uptoBulkEntries r
def uptoBulkEntry {H : Type} : Lit × DataW H → Nat
  | (.string bytes, d) => bytes.length + uptoBulk d + 1
  | (_, d) => uptoBulk d + 1
 end
def uptoSmall : (H : Type) → List (DataW H) → Bool := fun _ ds => decide (uptoBulkAll ds ≤ 1048576)
def OpenSpec.upto (s : _root_.Go.ChangeSpec) : _root_.Go.OpenSpec := { _root_.Go.OpenSpec.ofChange s with cond := some uptoSmall }

/-- 'conduitlaw04.FieldsFinds', WHERE WHAT IT READS IS OF BULK AT MOST 1048576: true; the input reads as it did. -/
def fieldsFindsUptoRow : OpenClaim := { program := "ytpgjlepjhbjhfaadoor", sum := "62e94dd98d72cbd14732adf4b4fa0cc859c49cc4abff63e4b82f01d7f7ab1a07", func := "conduit/conduitlaw04.FieldsFinds", spec := "fieldsFinds", inPlace := ["internal/abi.NoEscape", "internal/bytealg.MakeNoZero", "internal/bytealg.IndexByteString", "internal/bytealg.IndexString"], named := ["unicode/utf8.first", "unicode/utf8.acceptRanges", "internal/bytealg.MaxLen"], apart := false, laid := [("unicode/utf8.acceptRanges", laid_unicode_utf8_acceptRanges), ("unicode/utf8.first", laid_unicode_utf8_first)], narrowed := true }
def FieldsFindsUptoSaid : Prop := fieldsFindsUptoRow.holds Tryd.pinned (OpenSpec.upto fieldsFindsSpec)

/-- 'conduitlaw04.FieldsParses', WHERE WHAT IT READS IS OF BULK AT MOST 1048576: true; the input reads as it did. -/
def fieldsParsesUptoRow : OpenClaim := { program := "ytpgjlepjhbjhfaadoor", sum := "62e94dd98d72cbd14732adf4b4fa0cc859c49cc4abff63e4b82f01d7f7ab1a07", func := "conduit/conduitlaw04.FieldsParses", spec := "fieldsParses", inPlace := ["internal/bytealg.IndexByteString", "internal/bytealg.IndexByte", "internal/bytealg.Index", "internal/bytealg.IndexString"], named := ["internal/bytealg.MaxLen", "unicode/utf8.first", "unicode/utf8.acceptRanges"], apart := false, laid := [("unicode/utf8.acceptRanges", laid_unicode_utf8_acceptRanges), ("unicode/utf8.first", laid_unicode_utf8_first)], narrowed := true }
def FieldsParsesUptoSaid : Prop := fieldsParsesUptoRow.holds Tryd.pinned (OpenSpec.upto fieldsParsesSpec)

/-- 'conduitlaw04.FieldsJoins', WHERE WHAT IT READS IS OF BULK AT MOST 1048576: true; the input reads as it did. -/
def fieldsJoinsUptoRow : OpenClaim := { program := "ytpgjlepjhbjhfaadoor", sum := "62e94dd98d72cbd14732adf4b4fa0cc859c49cc4abff63e4b82f01d7f7ab1a07", func := "conduit/conduitlaw04.FieldsJoins", spec := "fieldsJoins", inPlace := ["internal/bytealg.IndexByteString", "internal/bytealg.IndexByte", "internal/bytealg.Index", "internal/bytealg.IndexString"], named := ["internal/bytealg.MaxLen", "unicode/utf8.first", "unicode/utf8.acceptRanges"], apart := false, laid := [("unicode/utf8.acceptRanges", laid_unicode_utf8_acceptRanges), ("unicode/utf8.first", laid_unicode_utf8_first)], narrowed := true }
def FieldsJoinsUptoSaid : Prop := fieldsJoinsUptoRow.holds Tryd.pinned (OpenSpec.upto fieldsJoinsSpec)

/-- 'conduitlaw04.FieldsPuts', WHERE WHAT IT READS IS OF BULK AT MOST 1048576: true; the input reads as it did. -/
def fieldsPutsUptoRow : OpenClaim := { program := "ytpgjlepjhbjhfaadoor", sum := "62e94dd98d72cbd14732adf4b4fa0cc859c49cc4abff63e4b82f01d7f7ab1a07", func := "conduit/conduitlaw04.FieldsPuts", spec := "fieldsPuts", inPlace := ["internal/bytealg.IndexByteString", "internal/bytealg.IndexByte", "internal/bytealg.Index", "internal/bytealg.IndexString"], unfollowed := true, recurses := true, named := ["internal/bytealg.MaxLen", "unicode/utf8.first", "unicode/utf8.acceptRanges"], apart := false, laid := [("unicode/utf8.acceptRanges", laid_unicode_utf8_acceptRanges), ("unicode/utf8.first", laid_unicode_utf8_first)], narrowed := true }
def FieldsPutsUptoSaid : Prop := fieldsPutsUptoRow.holds Tryd.pinned (OpenSpec.upto fieldsPutsSpec)

/-- 'conduitlaw04.FieldsPrints', WHERE WHAT IT READS IS OF BULK AT MOST 1048576: true; the input reads as it did. -/
def fieldsPrintsUptoRow : OpenClaim := { program := "ytpgjlepjhbjhfaadoor", sum := "62e94dd98d72cbd14732adf4b4fa0cc859c49cc4abff63e4b82f01d7f7ab1a07", func := "conduit/conduitlaw04.FieldsPrints", spec := "fieldsPrints", inPlace := ["internal/bytealg.IndexByteString", "internal/bytealg.IndexByte", "internal/bytealg.Index", "internal/bytealg.IndexString"], named := ["internal/bytealg.MaxLen", "unicode/utf8.first", "unicode/utf8.acceptRanges", "bytes.ErrTooLarge"], apart := false, laid := [("unicode/utf8.acceptRanges", laid_unicode_utf8_acceptRanges), ("bytes.ErrTooLarge", laid_bytes_ErrTooLarge), ("unicode/utf8.first", laid_unicode_utf8_first)], narrowed := true }
def FieldsPrintsUptoSaid : Prop := fieldsPrintsUptoRow.holds Tryd.pinned (OpenSpec.upto fieldsPrintsSpec)

/-- 'conduitlaw04.FieldsRound', WHERE WHAT IT READS IS OF BULK AT MOST 1048576: true; the input reads as it did. -/
def fieldsRoundUptoRow : OpenClaim := { program := "ytpgjlepjhbjhfaadoor", sum := "62e94dd98d72cbd14732adf4b4fa0cc859c49cc4abff63e4b82f01d7f7ab1a07", func := "conduit/conduitlaw04.FieldsRound", spec := "fieldsRound", inPlace := ["internal/bytealg.IndexByteString", "internal/bytealg.IndexByte", "internal/bytealg.Index", "internal/bytealg.IndexString"], named := ["internal/bytealg.MaxLen", "unicode/utf8.first", "unicode/utf8.acceptRanges", "bytes.ErrTooLarge"], apart := false, laid := [("unicode/utf8.acceptRanges", laid_unicode_utf8_acceptRanges), ("bytes.ErrTooLarge", laid_bytes_ErrTooLarge), ("unicode/utf8.first", laid_unicode_utf8_first)], narrowed := true }
def FieldsRoundUptoSaid : Prop := fieldsRoundUptoRow.holds Tryd.pinned (OpenSpec.upto fieldsRoundSpec)

/-- 'conduitlaw04.FieldsMemory', WHERE WHAT IT READS IS OF BULK AT MOST 1048576: true; the input reads as it did. -/
def fieldsMemoryUptoRow : OpenClaim := { program := "ytpgjlepjhbjhfaadoor", sum := "62e94dd98d72cbd14732adf4b4fa0cc859c49cc4abff63e4b82f01d7f7ab1a07", func := "conduit/conduitlaw04.FieldsMemory", spec := "fieldsMemory", inPlace := ["internal/bytealg.IndexByteString", "internal/bytealg.IndexByte", "internal/bytealg.Index", "internal/bytealg.IndexString"], unfollowed := true, recurses := true, named := ["internal/bytealg.MaxLen", "unicode/utf8.first", "unicode/utf8.acceptRanges", "bytes.ErrTooLarge"], apart := false, laid := [("unicode/utf8.acceptRanges", laid_unicode_utf8_acceptRanges), ("bytes.ErrTooLarge", laid_bytes_ErrTooLarge), ("unicode/utf8.first", laid_unicode_utf8_first)], narrowed := true }
def FieldsMemoryUptoSaid : Prop := fieldsMemoryUptoRow.holds Tryd.pinned (OpenSpec.upto fieldsMemorySpec)

end Rows
end Go.Proofs.YtpgjlepjhbjhfaaDoor
