/-
  NARROWER THAN 'FOR EVERY INPUT', by the rows' own cells (each row's printed sentence says how): VaryNames: laid · VaryKeys: laid · VarySorted: laid · VaryMemory: laid · VaryMatches: laid · VaryFits: laid · VaryOthers: laid.
  DERIVED. THE GIVEN ROWS OF THIS SEAT. 7 by the template 'for every input the law returns true; each argument reads behind the call as it read before'; 0 by the template 'total and deterministic' (their statements: YtnibecboimgljaaDoorTotals.lean).
  GIVEN WITH THE SEED: the statements are not yours to turn. If you find one false, say at which input.
  Laid BY PROGRAM, IN A SANDBOX (cutbox-rows.mjs): the forced cells as the released guide's own fill.sh prints them over the translation 7ffe80ef8894a19b… (all of the seat's roots in one cut). By AI agents, Wed Nov 11 2026. No macro, syntax, notation, axiom, sorry.
-/
import Derived.Test.YtnibecboimgljaaDoorChecked
import GoSem.PinnedTables
import GoSem.Claim
import GoSem.ClaimJoined
import GoSem.ClaimMapViews
import Derived.JoinedTies
import Derived.KernelRfl
namespace Go.Proofs.YtnibecboimgljaaDoor
/- THE CELL 'sum', in the pinned program and in every row, IS THE sha256 OF THE DUMP (.gsa) THAT YtnibecboimgljaaDoorProg.lean LOADS. Nothing in Lean hashes anything: it is a label: what it is worth is what the hold of that sum in a sandbox is worth. -/
noncomputable def Tryd.pinned : Pinned := { name := "ytnibecboimgljaadoor", sum := "7ffe80ef8894a19bba94bbb701555ab0872892366b1d5577185544e8acceff5b", checked := Tryd.checked }
namespace Rows
def none {H : Type} : Left H := { results := [], args := [] }

/- WHAT THE LISTED PACKAGE-LEVEL VARIABLES READ AS WHEN THE CALL BEGINS. Each datum BY PROGRAM (the guide's laid-datum.mjs) off the statement by which the dump's own 'gosem.cut.vars' lays the variable. In a bare row this is a premise. The card (YtnibecboimgljaaDoorCards.lean) ties it to the program's text. -/
def laid_unicode_utf8_acceptRanges {H : Type} : DataW H := .agg [.agg [.lit (.int .u8 128), .lit (.int .u8 191)], .agg [.lit (.int .u8 160), .lit (.int .u8 191)], .agg [.lit (.int .u8 128), .lit (.int .u8 159)], .agg [.lit (.int .u8 144), .lit (.int .u8 191)], .agg [.lit (.int .u8 128), .lit (.int .u8 143)], .agg [.lit (.int .u8 0), .lit (.int .u8 0)], .agg [.lit (.int .u8 0), .lit (.int .u8 0)], .agg [.lit (.int .u8 0), .lit (.int .u8 0)], .agg [.lit (.int .u8 0), .lit (.int .u8 0)], .agg [.lit (.int .u8 0), .lit (.int .u8 0)], .agg [.lit (.int .u8 0), .lit (.int .u8 0)], .agg [.lit (.int .u8 0), .lit (.int .u8 0)], .agg [.lit (.int .u8 0), .lit (.int .u8 0)], .agg [.lit (.int .u8 0), .lit (.int .u8 0)], .agg [.lit (.int .u8 0), .lit (.int .u8 0)], .agg [.lit (.int .u8 0), .lit (.int .u8 0)]]
/-- One of Go's own tables, pinned by name: the form's constant. -/
def laid_unicode_utf8_first : DataW Unit := Go.Pinned.utf8First

/-- 'conduitlaw17.VaryNames': WHATEVER THE INPUT: true; the input reads as it did. -/
def varyNamesSpec : ChangeSpec := { name := "varyNames", fn := fun _ => fun
  | [d] => { results := [.lit (.bool true)], args := [d] }
  | _ => none }
def varyNamesRow : OpenClaim := { program := "ytnibecboimgljaadoor", sum := "7ffe80ef8894a19bba94bbb701555ab0872892366b1d5577185544e8acceff5b", func := "conduit/conduitlaw17.VaryNames", spec := "varyNames", inPlace := ["internal/bytealg.IndexByteString", "internal/bytealg.IndexString", "internal/abi.NoEscape", "internal/bytealg.MakeNoZero"], recurses := true, named := ["unicode/utf8.first", "unicode/utf8.acceptRanges", "internal/bytealg.MaxLen"], apart := false, laid := [("unicode/utf8.acceptRanges", laid_unicode_utf8_acceptRanges), ("unicode/utf8.first", laid_unicode_utf8_first)] }
def VaryNamesSaid : Prop := varyNamesRow.holds Tryd.pinned (OpenSpec.ofChange varyNamesSpec)

/-- ITS FALSE NEIGHBOUR: 'it returns false'. Refute it at one input. -/
def varyNamesWrong : ChangeSpec := { name := "varyNames", fn := fun _ => fun
  | [d] => { results := [.lit (.bool false)], args := [d] }
  | _ => none }
def VaryNamesWrongFalsely : Prop := varyNamesRow.holds Tryd.pinned (OpenSpec.ofChange varyNamesWrong)

/-- 'conduitlaw17.VaryKeys': WHATEVER THE INPUT: true; the input reads as it did. -/
def varyKeysSpec : ChangeSpec := { name := "varyKeys", fn := fun _ => fun
  | [d1, d2] => { results := [.lit (.bool true)], args := [d1, d2] }
  | _ => none }
def varyKeysRow : OpenClaim := { program := "ytnibecboimgljaadoor", sum := "7ffe80ef8894a19bba94bbb701555ab0872892366b1d5577185544e8acceff5b", func := "conduit/conduitlaw17.VaryKeys", spec := "varyKeys", inPlace := ["internal/bytealg.IndexByteString", "internal/bytealg.IndexString", "internal/abi.NoEscape", "internal/bytealg.MakeNoZero"], recurses := true, named := ["unicode/utf8.first", "unicode/utf8.acceptRanges", "internal/bytealg.MaxLen"], apart := false, laid := [("unicode/utf8.acceptRanges", laid_unicode_utf8_acceptRanges), ("unicode/utf8.first", laid_unicode_utf8_first)] }
def VaryKeysSaid : Prop := varyKeysRow.holds Tryd.pinned (OpenSpec.ofChange varyKeysSpec)

/-- ITS FALSE NEIGHBOUR: 'it returns false'. Refute it at one input. -/
def varyKeysWrong : ChangeSpec := { name := "varyKeys", fn := fun _ => fun
  | [d1, d2] => { results := [.lit (.bool false)], args := [d1, d2] }
  | _ => none }
def VaryKeysWrongFalsely : Prop := varyKeysRow.holds Tryd.pinned (OpenSpec.ofChange varyKeysWrong)

/-- 'conduitlaw17.VarySorted': WHATEVER THE INPUT: true; the input reads as it did. -/
def varySortedSpec : ChangeSpec := { name := "varySorted", fn := fun _ => fun
  | [d1, d2] => { results := [.lit (.bool true)], args := [d1, d2] }
  | _ => none }
def varySortedRow : OpenClaim := { program := "ytnibecboimgljaadoor", sum := "7ffe80ef8894a19bba94bbb701555ab0872892366b1d5577185544e8acceff5b", func := "conduit/conduitlaw17.VarySorted", spec := "varySorted", inPlace := ["internal/bytealg.IndexByteString", "internal/bytealg.IndexString", "internal/abi.NoEscape", "internal/bytealg.MakeNoZero"], recurses := true, named := ["unicode/utf8.first", "unicode/utf8.acceptRanges", "internal/bytealg.MaxLen"], apart := false, laid := [("unicode/utf8.acceptRanges", laid_unicode_utf8_acceptRanges), ("unicode/utf8.first", laid_unicode_utf8_first)] }
def VarySortedSaid : Prop := varySortedRow.holds Tryd.pinned (OpenSpec.ofChange varySortedSpec)

/-- ITS FALSE NEIGHBOUR: 'it returns false'. Refute it at one input. -/
def varySortedWrong : ChangeSpec := { name := "varySorted", fn := fun _ => fun
  | [d1, d2] => { results := [.lit (.bool false)], args := [d1, d2] }
  | _ => none }
def VarySortedWrongFalsely : Prop := varySortedRow.holds Tryd.pinned (OpenSpec.ofChange varySortedWrong)

/-- 'conduitlaw17.VaryMemory': WHATEVER THE INPUT: true; the input reads as it did. -/
def varyMemorySpec : ChangeSpec := { name := "varyMemory", fn := fun _ => fun
  | [d] => { results := [.lit (.bool true)], args := [d] }
  | _ => none }
def varyMemoryRow : OpenClaim := { program := "ytnibecboimgljaadoor", sum := "7ffe80ef8894a19bba94bbb701555ab0872892366b1d5577185544e8acceff5b", func := "conduit/conduitlaw17.VaryMemory", spec := "varyMemory", inPlace := ["internal/bytealg.IndexByteString", "internal/bytealg.IndexString", "internal/abi.NoEscape", "internal/bytealg.MakeNoZero"], recurses := true, named := ["unicode/utf8.first", "unicode/utf8.acceptRanges", "internal/bytealg.MaxLen"], apart := false, laid := [("unicode/utf8.acceptRanges", laid_unicode_utf8_acceptRanges), ("unicode/utf8.first", laid_unicode_utf8_first)] }
def VaryMemorySaid : Prop := varyMemoryRow.holds Tryd.pinned (OpenSpec.ofChange varyMemorySpec)

/-- ITS FALSE NEIGHBOUR: 'it returns false'. Refute it at one input. -/
def varyMemoryWrong : ChangeSpec := { name := "varyMemory", fn := fun _ => fun
  | [d] => { results := [.lit (.bool false)], args := [d] }
  | _ => none }
def VaryMemoryWrongFalsely : Prop := varyMemoryRow.holds Tryd.pinned (OpenSpec.ofChange varyMemoryWrong)

/-- 'conduitlaw17.VaryMatches': WHATEVER THE INPUT: true; the input reads as it did. -/
def varyMatchesSpec : ChangeSpec := { name := "varyMatches", fn := fun _ => fun
  | [d1, d2] => { results := [.lit (.bool true)], args := [d1, d2] }
  | _ => none }
def varyMatchesRow : OpenClaim := { program := "ytnibecboimgljaadoor", sum := "7ffe80ef8894a19bba94bbb701555ab0872892366b1d5577185544e8acceff5b", func := "conduit/conduitlaw17.VaryMatches", spec := "varyMatches", inPlace := ["internal/bytealg.IndexByteString", "internal/bytealg.IndexString", "internal/abi.NoEscape", "internal/bytealg.MakeNoZero"], recurses := true, named := ["unicode/utf8.first", "unicode/utf8.acceptRanges", "internal/bytealg.MaxLen"], apart := false, laid := [("unicode/utf8.acceptRanges", laid_unicode_utf8_acceptRanges), ("unicode/utf8.first", laid_unicode_utf8_first)] }
def VaryMatchesSaid : Prop := varyMatchesRow.holds Tryd.pinned (OpenSpec.ofChange varyMatchesSpec)

/-- ITS FALSE NEIGHBOUR: 'it returns false'. Refute it at one input. -/
def varyMatchesWrong : ChangeSpec := { name := "varyMatches", fn := fun _ => fun
  | [d1, d2] => { results := [.lit (.bool false)], args := [d1, d2] }
  | _ => none }
def VaryMatchesWrongFalsely : Prop := varyMatchesRow.holds Tryd.pinned (OpenSpec.ofChange varyMatchesWrong)

/-- 'conduitlaw17.VaryFits': WHATEVER THE INPUT: true; the input reads as it did. -/
def varyFitsSpec : ChangeSpec := { name := "varyFits", fn := fun _ => fun
  | [d1, d2] => { results := [.lit (.bool true)], args := [d1, d2] }
  | _ => none }
def varyFitsRow : OpenClaim := { program := "ytnibecboimgljaadoor", sum := "7ffe80ef8894a19bba94bbb701555ab0872892366b1d5577185544e8acceff5b", func := "conduit/conduitlaw17.VaryFits", spec := "varyFits", inPlace := ["internal/bytealg.IndexByteString", "internal/bytealg.IndexString", "internal/abi.NoEscape", "internal/bytealg.MakeNoZero"], recurses := true, named := ["unicode/utf8.first", "unicode/utf8.acceptRanges", "internal/bytealg.MaxLen"], apart := false, laid := [("unicode/utf8.acceptRanges", laid_unicode_utf8_acceptRanges), ("unicode/utf8.first", laid_unicode_utf8_first)] }
def VaryFitsSaid : Prop := varyFitsRow.holds Tryd.pinned (OpenSpec.ofChange varyFitsSpec)

/-- ITS FALSE NEIGHBOUR: 'it returns false'. Refute it at one input. -/
def varyFitsWrong : ChangeSpec := { name := "varyFits", fn := fun _ => fun
  | [d1, d2] => { results := [.lit (.bool false)], args := [d1, d2] }
  | _ => none }
def VaryFitsWrongFalsely : Prop := varyFitsRow.holds Tryd.pinned (OpenSpec.ofChange varyFitsWrong)

/-- 'conduitlaw17.VaryOthers': WHATEVER THE INPUT: true; the input reads as it did. -/
def varyOthersSpec : ChangeSpec := { name := "varyOthers", fn := fun _ => fun
  | [d1, d2, d3, d4] => { results := [.lit (.bool true)], args := [d1, d2, d3, d4] }
  | _ => none }
def varyOthersRow : OpenClaim := { program := "ytnibecboimgljaadoor", sum := "7ffe80ef8894a19bba94bbb701555ab0872892366b1d5577185544e8acceff5b", func := "conduit/conduitlaw17.VaryOthers", spec := "varyOthers", inPlace := ["internal/bytealg.IndexByteString", "internal/bytealg.IndexString", "internal/abi.NoEscape", "internal/bytealg.MakeNoZero"], recurses := true, named := ["unicode/utf8.first", "unicode/utf8.acceptRanges", "internal/bytealg.MaxLen"], apart := false, laid := [("unicode/utf8.acceptRanges", laid_unicode_utf8_acceptRanges), ("unicode/utf8.first", laid_unicode_utf8_first)] }
def VaryOthersSaid : Prop := varyOthersRow.holds Tryd.pinned (OpenSpec.ofChange varyOthersSpec)

/-- ITS FALSE NEIGHBOUR: 'it returns false'. Refute it at one input. -/
def varyOthersWrong : ChangeSpec := { name := "varyOthers", fn := fun _ => fun
  | [d1, d2, d3, d4] => { results := [.lit (.bool false)], args := [d1, d2, d3, d4] }
  | _ => none }
def VaryOthersWrongFalsely : Prop := varyOthersRow.holds Tryd.pinned (OpenSpec.ofChange varyOthersWrong)

/- THE SECOND FORM. 'bulk': how many values and letters a reading holds, each counted each time it is reached (what is shared counts as often as it is met; a slice's spare places count too). A statement '..UptoSaid' is the law's where the arguments, and the package variables that the reading takes, are together of bulk at most 1048576: NARROWER than '..Said'. Prove '..Said' where nothing that the law and all that it calls make is longer than what came in: it says more and counts as full. Else prove '..UptoSaid'. A law counts once. -/
mutual
def uptoBulk {H : Type} : DataW H → Nat
  | .lit (.string bytes) => bytes.length + 1
  | .lit _ => 1
  | .nil => 1
  | .ptr d => uptoBulk d + 1
  | .slice elems spare => uptoBulkAll elems + uptoBulkAll spare + 1
  | .agg parts => uptoBulkAll parts + 1
  | .iface _ d => uptoBulk d + 1
  | .map entries => uptoBulkEntries entries + 1
  | .held _ => 1
def uptoBulkAll {H : Type} : List (DataW H) → Nat
  | [] => 0
  | d :: r => uptoBulk d + uptoBulkAll r
def uptoBulkEntries {H : Type} : List (Lit × DataW H) → Nat
  | [] => 0
  | x :: r => uptoBulkEntry x + uptoBulkEntries r
def uptoBulkEntry {H : Type} : Lit × DataW H → Nat
  | (.string bytes, d) => bytes.length + uptoBulk d + 1
  | (_, d) => uptoBulk d + 1
 end
def uptoSmall : (H : Type) → List (DataW H) → Bool := fun _ ds => decide (uptoBulkAll ds ≤ 1048576)
def OpenSpec.upto (s : _root_.Go.ChangeSpec) : _root_.Go.OpenSpec := { _root_.Go.OpenSpec.ofChange s with cond := some uptoSmall }

/-- 'conduitlaw17.VaryNames', WHERE WHAT IT READS IS OF BULK AT MOST 1048576: true; the input reads as it did. -/
def varyNamesUptoRow : OpenClaim := { program := "ytnibecboimgljaadoor", sum := "7ffe80ef8894a19bba94bbb701555ab0872892366b1d5577185544e8acceff5b", func := "conduit/conduitlaw17.VaryNames", spec := "varyNames", inPlace := ["internal/bytealg.IndexByteString", "internal/bytealg.IndexString", "internal/abi.NoEscape", "internal/bytealg.MakeNoZero"], recurses := true, named := ["unicode/utf8.first", "unicode/utf8.acceptRanges", "internal/bytealg.MaxLen"], apart := false, laid := [("unicode/utf8.acceptRanges", laid_unicode_utf8_acceptRanges), ("unicode/utf8.first", laid_unicode_utf8_first)], narrowed := true }
def VaryNamesUptoSaid : Prop := varyNamesUptoRow.holds Tryd.pinned (OpenSpec.upto varyNamesSpec)

/-- 'conduitlaw17.VaryKeys', WHERE WHAT IT READS IS OF BULK AT MOST 1048576: true; the input reads as it did. -/
def varyKeysUptoRow : OpenClaim := { program := "ytnibecboimgljaadoor", sum := "7ffe80ef8894a19bba94bbb701555ab0872892366b1d5577185544e8acceff5b", func := "conduit/conduitlaw17.VaryKeys", spec := "varyKeys", inPlace := ["internal/bytealg.IndexByteString", "internal/bytealg.IndexString", "internal/abi.NoEscape", "internal/bytealg.MakeNoZero"], recurses := true, named := ["unicode/utf8.first", "unicode/utf8.acceptRanges", "internal/bytealg.MaxLen"], apart := false, laid := [("unicode/utf8.acceptRanges", laid_unicode_utf8_acceptRanges), ("unicode/utf8.first", laid_unicode_utf8_first)], narrowed := true }
def VaryKeysUptoSaid : Prop := varyKeysUptoRow.holds Tryd.pinned (OpenSpec.upto varyKeysSpec)

/-- 'conduitlaw17.VarySorted', WHERE WHAT IT READS IS OF BULK AT MOST 1048576: true; the input reads as it did. -/
def varySortedUptoRow : OpenClaim := { program := "ytnibecboimgljaadoor", sum := "7ffe80ef8894a19bba94bbb701555ab0872892366b1d5577185544e8acceff5b", func := "conduit/conduitlaw17.VarySorted", spec := "varySorted", inPlace := ["internal/bytealg.IndexByteString", "internal/bytealg.IndexString", "internal/abi.NoEscape", "internal/bytealg.MakeNoZero"], recurses := true, named := ["unicode/utf8.first", "unicode/utf8.acceptRanges", "internal/bytealg.MaxLen"], apart := false, laid := [("unicode/utf8.acceptRanges", laid_unicode_utf8_acceptRanges), ("unicode/utf8.first", laid_unicode_utf8_first)], narrowed := true }
def VarySortedUptoSaid : Prop := varySortedUptoRow.holds Tryd.pinned (OpenSpec.upto varySortedSpec)

/-- 'conduitlaw17.VaryMemory', WHERE WHAT IT READS IS OF BULK AT MOST 1048576: true; the input reads as it did. -/
def varyMemoryUptoRow : OpenClaim := { program := "ytnibecboimgljaadoor", sum := "7ffe80ef8894a19bba94bbb701555ab0872892366b1d5577185544e8acceff5b", func := "conduit/conduitlaw17.VaryMemory", spec := "varyMemory", inPlace := ["internal/bytealg.IndexByteString", "internal/bytealg.IndexString", "internal/abi.NoEscape", "internal/bytealg.MakeNoZero"], recurses := true, named := ["unicode/utf8.first", "unicode/utf8.acceptRanges", "internal/bytealg.MaxLen"], apart := false, laid := [("unicode/utf8.acceptRanges", laid_unicode_utf8_acceptRanges), ("unicode/utf8.first", laid_unicode_utf8_first)], narrowed := true }
def VaryMemoryUptoSaid : Prop := varyMemoryUptoRow.holds Tryd.pinned (OpenSpec.upto varyMemorySpec)

/-- 'conduitlaw17.VaryMatches', WHERE WHAT IT READS IS OF BULK AT MOST 1048576: true; the input reads as it did. -/
def varyMatchesUptoRow : OpenClaim := { program := "ytnibecboimgljaadoor", sum := "7ffe80ef8894a19bba94bbb701555ab0872892366b1d5577185544e8acceff5b", func := "conduit/conduitlaw17.VaryMatches", spec := "varyMatches", inPlace := ["internal/bytealg.IndexByteString", "internal/bytealg.IndexString", "internal/abi.NoEscape", "internal/bytealg.MakeNoZero"], recurses := true, named := ["unicode/utf8.first", "unicode/utf8.acceptRanges", "internal/bytealg.MaxLen"], apart := false, laid := [("unicode/utf8.acceptRanges", laid_unicode_utf8_acceptRanges), ("unicode/utf8.first", laid_unicode_utf8_first)], narrowed := true }
def VaryMatchesUptoSaid : Prop := varyMatchesUptoRow.holds Tryd.pinned (OpenSpec.upto varyMatchesSpec)

/-- 'conduitlaw17.VaryFits', WHERE WHAT IT READS IS OF BULK AT MOST 1048576: true; the input reads as it did. -/
def varyFitsUptoRow : OpenClaim := { program := "ytnibecboimgljaadoor", sum := "7ffe80ef8894a19bba94bbb701555ab0872892366b1d5577185544e8acceff5b", func := "conduit/conduitlaw17.VaryFits", spec := "varyFits", inPlace := ["internal/bytealg.IndexByteString", "internal/bytealg.IndexString", "internal/abi.NoEscape", "internal/bytealg.MakeNoZero"], recurses := true, named := ["unicode/utf8.first", "unicode/utf8.acceptRanges", "internal/bytealg.MaxLen"], apart := false, laid := [("unicode/utf8.acceptRanges", laid_unicode_utf8_acceptRanges), ("unicode/utf8.first", laid_unicode_utf8_first)], narrowed := true }
def VaryFitsUptoSaid : Prop := varyFitsUptoRow.holds Tryd.pinned (OpenSpec.upto varyFitsSpec)

/-- 'conduitlaw17.VaryOthers', WHERE WHAT IT READS IS OF BULK AT MOST 1048576: true; the input reads as it did. -/
def varyOthersUptoRow : OpenClaim := { program := "ytnibecboimgljaadoor", sum := "7ffe80ef8894a19bba94bbb701555ab0872892366b1d5577185544e8acceff5b", func := "conduit/conduitlaw17.VaryOthers", spec := "varyOthers", inPlace := ["internal/bytealg.IndexByteString", "internal/bytealg.IndexString", "internal/abi.NoEscape", "internal/bytealg.MakeNoZero"], recurses := true, named := ["unicode/utf8.first", "unicode/utf8.acceptRanges", "internal/bytealg.MaxLen"], apart := false, laid := [("unicode/utf8.acceptRanges", laid_unicode_utf8_acceptRanges), ("unicode/utf8.first", laid_unicode_utf8_first)], narrowed := true }
def VaryOthersUptoSaid : Prop := varyOthersUptoRow.holds Tryd.pinned (OpenSpec.upto varyOthersSpec)

end Rows
end Go.Proofs.YtnibecboimgljaaDoor
