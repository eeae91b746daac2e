/-
  NARROWER THAN 'FOR EVERY INPUT', by the rows' own cells (each row's printed sentence says how): TokTokens: laid · TokLists: laid · TokTidy: laid · TokMemory: laid · TokJoins: laid · TokRound: laid · TokParams: laid.
  DERIVED. THE GIVEN ROWS OF THIS SEAT. 7 by the template 'for every input the law returns true; each argument reads behind the call as it read before'; 0 by the template 'total and deterministic' (their statements: YtpchpfhnimgdaaaDoorTotals.lean).
  GIVEN WITH THE SEED: the statements are not yours to turn. If you find one false, say at which input.
  Laid BY PROGRAM, IN A SANDBOX (cutbox-rows.mjs): the forced cells as the released guide's own fill.sh prints them over the translation 5b1fad3bdd212aa0… (all of the seat's roots in one cut). By AI agents, Wed Nov 11 2026. No macro, syntax, notation, axiom, sorry.
-/
import Derived.Test.YtpchpfhnimgdaaaDoorChecked
import GoSem.PinnedTables
import GoSem.Claim
import GoSem.ClaimJoined
import GoSem.ClaimMapViews
import Derived.JoinedTies
import Derived.KernelRfl
namespace Go.Proofs.YtpchpfhnimgdaaaDoor
/- THE CELL 'sum', in the pinned program and in every row, IS THE sha256 OF THE DUMP (.gsa) THAT YtpchpfhnimgdaaaDoorProg.lean LOADS. Nothing in Lean hashes anything: it is a label: what it is worth is what the hold of that sum in a sandbox is worth. -/
noncomputable def Tryd.pinned : Pinned := { name := "ytpchpfhnimgdaaadoor", sum := "5b1fad3bdd212aa04b4e0d61db8f72393beb917054075b55858b1082c8c21b6d", checked := Tryd.checked }
namespace Rows
def none {H : Type} : Left H := { results := [], args := [] }

/- WHAT THE LISTED PACKAGE-LEVEL VARIABLES READ AS WHEN THE CALL BEGINS. Each datum BY PROGRAM (the guide's laid-datum.mjs) off the statement by which the dump's own 'gosem.cut.vars' lays the variable. In a bare row this is a premise. The card (YtpchpfhnimgdaaaDoorCards.lean) ties it to the program's text. -/
def laid_unicode_utf8_acceptRanges {H : Type} : DataW H := .agg [.agg [.lit (.int .u8 128), .lit (.int .u8 191)], .agg [.lit (.int .u8 160), .lit (.int .u8 191)], .agg [.lit (.int .u8 128), .lit (.int .u8 159)], .agg [.lit (.int .u8 144), .lit (.int .u8 191)], .agg [.lit (.int .u8 128), .lit (.int .u8 143)], .agg [.lit (.int .u8 0), .lit (.int .u8 0)], .agg [.lit (.int .u8 0), .lit (.int .u8 0)], .agg [.lit (.int .u8 0), .lit (.int .u8 0)], .agg [.lit (.int .u8 0), .lit (.int .u8 0)], .agg [.lit (.int .u8 0), .lit (.int .u8 0)], .agg [.lit (.int .u8 0), .lit (.int .u8 0)], .agg [.lit (.int .u8 0), .lit (.int .u8 0)], .agg [.lit (.int .u8 0), .lit (.int .u8 0)], .agg [.lit (.int .u8 0), .lit (.int .u8 0)], .agg [.lit (.int .u8 0), .lit (.int .u8 0)], .agg [.lit (.int .u8 0), .lit (.int .u8 0)]]
/-- One of Go's own tables, pinned by name: the form's constant. -/
def laid_unicode_utf8_first : DataW Unit := Go.Pinned.utf8First

/-- 'conduitlaw01.TokTokens': WHATEVER THE INPUT: true; the input reads as it did. -/
def tokTokensSpec : ChangeSpec := { name := "tokTokens", fn := fun _ => fun
  | [d] => { results := [.lit (.bool true)], args := [d] }
  | _ => none }
def tokTokensRow : OpenClaim := { program := "ytpchpfhnimgdaaadoor", sum := "5b1fad3bdd212aa04b4e0d61db8f72393beb917054075b55858b1082c8c21b6d", func := "conduit/conduitlaw01.TokTokens", spec := "tokTokens", inPlace := ["internal/bytealg.IndexByteString", "internal/bytealg.IndexString"], named := ["unicode/utf8.first", "unicode/utf8.acceptRanges", "internal/bytealg.MaxLen"], apart := false, laid := [("unicode/utf8.acceptRanges", laid_unicode_utf8_acceptRanges), ("unicode/utf8.first", laid_unicode_utf8_first)] }
def TokTokensSaid : Prop := tokTokensRow.holds Tryd.pinned (OpenSpec.ofChange tokTokensSpec)

/-- ITS FALSE NEIGHBOUR: 'it returns false'. Refute it at one input. -/
def tokTokensWrong : ChangeSpec := { name := "tokTokens", fn := fun _ => fun
  | [d] => { results := [.lit (.bool false)], args := [d] }
  | _ => none }
def TokTokensWrongFalsely : Prop := tokTokensRow.holds Tryd.pinned (OpenSpec.ofChange tokTokensWrong)

/-- 'conduitlaw01.TokLists': WHATEVER THE INPUT: true; the input reads as it did. -/
def tokListsSpec : ChangeSpec := { name := "tokLists", fn := fun _ => fun
  | [d] => { results := [.lit (.bool true)], args := [d] }
  | _ => none }
def tokListsRow : OpenClaim := { program := "ytpchpfhnimgdaaadoor", sum := "5b1fad3bdd212aa04b4e0d61db8f72393beb917054075b55858b1082c8c21b6d", func := "conduit/conduitlaw01.TokLists", spec := "tokLists", inPlace := ["internal/bytealg.IndexByteString", "internal/bytealg.IndexString"], named := ["unicode/utf8.first", "unicode/utf8.acceptRanges", "internal/bytealg.MaxLen"], apart := false, laid := [("unicode/utf8.acceptRanges", laid_unicode_utf8_acceptRanges), ("unicode/utf8.first", laid_unicode_utf8_first)] }
def TokListsSaid : Prop := tokListsRow.holds Tryd.pinned (OpenSpec.ofChange tokListsSpec)

/-- ITS FALSE NEIGHBOUR: 'it returns false'. Refute it at one input. -/
def tokListsWrong : ChangeSpec := { name := "tokLists", fn := fun _ => fun
  | [d] => { results := [.lit (.bool false)], args := [d] }
  | _ => none }
def TokListsWrongFalsely : Prop := tokListsRow.holds Tryd.pinned (OpenSpec.ofChange tokListsWrong)

/-- 'conduitlaw01.TokTidy': WHATEVER THE INPUT: true; the input reads as it did. -/
def tokTidySpec : ChangeSpec := { name := "tokTidy", fn := fun _ => fun
  | [d] => { results := [.lit (.bool true)], args := [d] }
  | _ => none }
def tokTidyRow : OpenClaim := { program := "ytpchpfhnimgdaaadoor", sum := "5b1fad3bdd212aa04b4e0d61db8f72393beb917054075b55858b1082c8c21b6d", func := "conduit/conduitlaw01.TokTidy", spec := "tokTidy", inPlace := ["internal/bytealg.IndexByteString", "internal/bytealg.IndexString"], named := ["unicode/utf8.first", "unicode/utf8.acceptRanges", "internal/bytealg.MaxLen"], apart := false, laid := [("unicode/utf8.acceptRanges", laid_unicode_utf8_acceptRanges), ("unicode/utf8.first", laid_unicode_utf8_first)] }
def TokTidySaid : Prop := tokTidyRow.holds Tryd.pinned (OpenSpec.ofChange tokTidySpec)

/-- ITS FALSE NEIGHBOUR: 'it returns false'. Refute it at one input. -/
def tokTidyWrong : ChangeSpec := { name := "tokTidy", fn := fun _ => fun
  | [d] => { results := [.lit (.bool false)], args := [d] }
  | _ => none }
def TokTidyWrongFalsely : Prop := tokTidyRow.holds Tryd.pinned (OpenSpec.ofChange tokTidyWrong)

/-- 'conduitlaw01.TokMemory': WHATEVER THE INPUT: true; the input reads as it did. -/
def tokMemorySpec : ChangeSpec := { name := "tokMemory", fn := fun _ => fun
  | [d] => { results := [.lit (.bool true)], args := [d] }
  | _ => none }
def tokMemoryRow : OpenClaim := { program := "ytpchpfhnimgdaaadoor", sum := "5b1fad3bdd212aa04b4e0d61db8f72393beb917054075b55858b1082c8c21b6d", func := "conduit/conduitlaw01.TokMemory", spec := "tokMemory", inPlace := ["internal/bytealg.IndexByteString", "internal/bytealg.IndexString"], named := ["unicode/utf8.first", "unicode/utf8.acceptRanges", "internal/bytealg.MaxLen"], apart := false, laid := [("unicode/utf8.acceptRanges", laid_unicode_utf8_acceptRanges), ("unicode/utf8.first", laid_unicode_utf8_first)] }
def TokMemorySaid : Prop := tokMemoryRow.holds Tryd.pinned (OpenSpec.ofChange tokMemorySpec)

/-- ITS FALSE NEIGHBOUR: 'it returns false'. Refute it at one input. -/
def tokMemoryWrong : ChangeSpec := { name := "tokMemory", fn := fun _ => fun
  | [d] => { results := [.lit (.bool false)], args := [d] }
  | _ => none }
def TokMemoryWrongFalsely : Prop := tokMemoryRow.holds Tryd.pinned (OpenSpec.ofChange tokMemoryWrong)

/-- 'conduitlaw01.TokJoins': WHATEVER THE INPUT: true; the input reads as it did. -/
def tokJoinsSpec : ChangeSpec := { name := "tokJoins", fn := fun _ => fun
  | [d] => { results := [.lit (.bool true)], args := [d] }
  | _ => none }
def tokJoinsRow : OpenClaim := { program := "ytpchpfhnimgdaaadoor", sum := "5b1fad3bdd212aa04b4e0d61db8f72393beb917054075b55858b1082c8c21b6d", func := "conduit/conduitlaw01.TokJoins", spec := "tokJoins", inPlace := ["internal/bytealg.IndexByteString", "internal/bytealg.IndexString"], named := ["unicode/utf8.first", "unicode/utf8.acceptRanges", "internal/bytealg.MaxLen"], apart := false, laid := [("unicode/utf8.acceptRanges", laid_unicode_utf8_acceptRanges), ("unicode/utf8.first", laid_unicode_utf8_first)] }
def TokJoinsSaid : Prop := tokJoinsRow.holds Tryd.pinned (OpenSpec.ofChange tokJoinsSpec)

/-- ITS FALSE NEIGHBOUR: 'it returns false'. Refute it at one input. -/
def tokJoinsWrong : ChangeSpec := { name := "tokJoins", fn := fun _ => fun
  | [d] => { results := [.lit (.bool false)], args := [d] }
  | _ => none }
def TokJoinsWrongFalsely : Prop := tokJoinsRow.holds Tryd.pinned (OpenSpec.ofChange tokJoinsWrong)

/-- 'conduitlaw01.TokRound': WHATEVER THE INPUT: true; the input reads as it did. -/
def tokRoundSpec : ChangeSpec := { name := "tokRound", fn := fun _ => fun
  | [d] => { results := [.lit (.bool true)], args := [d] }
  | _ => none }
def tokRoundRow : OpenClaim := { program := "ytpchpfhnimgdaaadoor", sum := "5b1fad3bdd212aa04b4e0d61db8f72393beb917054075b55858b1082c8c21b6d", func := "conduit/conduitlaw01.TokRound", spec := "tokRound", inPlace := ["internal/bytealg.IndexByteString", "internal/bytealg.IndexString", "internal/abi.NoEscape"], named := ["unicode/utf8.first", "unicode/utf8.acceptRanges", "internal/bytealg.MaxLen"], apart := false, laid := [("unicode/utf8.acceptRanges", laid_unicode_utf8_acceptRanges), ("unicode/utf8.first", laid_unicode_utf8_first)] }
def TokRoundSaid : Prop := tokRoundRow.holds Tryd.pinned (OpenSpec.ofChange tokRoundSpec)

/-- ITS FALSE NEIGHBOUR: 'it returns false'. Refute it at one input. -/
def tokRoundWrong : ChangeSpec := { name := "tokRound", fn := fun _ => fun
  | [d] => { results := [.lit (.bool false)], args := [d] }
  | _ => none }
def TokRoundWrongFalsely : Prop := tokRoundRow.holds Tryd.pinned (OpenSpec.ofChange tokRoundWrong)

/-- 'conduitlaw01.TokParams': WHATEVER THE INPUT: true; the input reads as it did. -/
def tokParamsSpec : ChangeSpec := { name := "tokParams", fn := fun _ => fun
  | [d] => { results := [.lit (.bool true)], args := [d] }
  | _ => none }
def tokParamsRow : OpenClaim := { program := "ytpchpfhnimgdaaadoor", sum := "5b1fad3bdd212aa04b4e0d61db8f72393beb917054075b55858b1082c8c21b6d", func := "conduit/conduitlaw01.TokParams", spec := "tokParams", inPlace := ["internal/bytealg.IndexByteString", "internal/bytealg.IndexString", "internal/abi.NoEscape"], named := ["unicode/utf8.first", "unicode/utf8.acceptRanges", "internal/bytealg.MaxLen"], apart := false, laid := [("unicode/utf8.acceptRanges", laid_unicode_utf8_acceptRanges), ("unicode/utf8.first", laid_unicode_utf8_first)] }
def TokParamsSaid : Prop := tokParamsRow.holds Tryd.pinned (OpenSpec.ofChange tokParamsSpec)

/-- ITS FALSE NEIGHBOUR: 'it returns false'. Refute it at one input. -/
def tokParamsWrong : ChangeSpec := { name := "tokParams", fn := fun _ => fun
  | [d] => { results := [.lit (.bool false)], args := [d] }
  | _ => none }
def TokParamsWrongFalsely : Prop := tokParamsRow.holds Tryd.pinned (OpenSpec.ofChange tokParamsWrong)

/- THE SECOND FORM. 'bulk': how many values and letters a reading holds, each counted each time it is reached (what is shared counts as often as it is met; a slice's spare places count too). A statement '..UptoSaid' is the law's where the arguments, and the package variables that the reading takes, are together of bulk at most 1048576: NARROWER than '..Said'. Prove '..Said' where nothing that the law and all that it calls make is longer than what came in: it says more and counts as full. Else prove '..UptoSaid'. A law counts once. -/
mutual
def uptoBulk {H : Type} : DataW H → Nat
  | .lit (.string bytes) => bytes.length + 1
  | .lit _ => 1
  | .nil => 1
  | .ptr d => uptoBulk d + 1
  | .slice elems spare => uptoBulkAll elems + uptoBulkAll spare + 1
  | .agg parts => uptoBulkAll parts + 1
  | .iface _ d => uptoBulk d + 1
  | .map entries => uptoBulkEntries entries + 1
  | .held _ => 1
def uptoBulkAll {H : Type} : List (DataW H) → Nat
  | [] => 0
  | d :: r => uptoBulk d + uptoBulkAll r
def uptoBulkEntries {H : Type} : List (Lit × DataW H) → Nat
  | [] => 0
  | x :: r => uptoBulkEntry x + uptoBulkEntries r
def uptoBulkEntry {H : Type} : Lit × DataW H → Nat
  | (.string bytes, d) => bytes.length + uptoBulk d + 1
  | (_, d) => uptoBulk d + 1
 end
def uptoSmall : (H : Type) → List (DataW H) → Bool := fun _ ds => decide (uptoBulkAll ds ≤ 1048576)
def OpenSpec.upto (s : _root_.Go.ChangeSpec) : _root_.Go.OpenSpec := { _root_.Go.OpenSpec.ofChange s with cond := some uptoSmall }

/-- 'conduitlaw01.TokTokens', WHERE WHAT IT READS IS OF BULK AT MOST 1048576: true; the input reads as it did. -/
def tokTokensUptoRow : OpenClaim := { program := "ytpchpfhnimgdaaadoor", sum := "5b1fad3bdd212aa04b4e0d61db8f72393beb917054075b55858b1082c8c21b6d", func := "conduit/conduitlaw01.TokTokens", spec := "tokTokens", inPlace := ["internal/bytealg.IndexByteString", "internal/bytealg.IndexString"], named := ["unicode/utf8.first", "unicode/utf8.acceptRanges", "internal/bytealg.MaxLen"], apart := false, laid := [("unicode/utf8.acceptRanges", laid_unicode_utf8_acceptRanges), ("unicode/utf8.first", laid_unicode_utf8_first)], narrowed := true }
def TokTokensUptoSaid : Prop := tokTokensUptoRow.holds Tryd.pinned (OpenSpec.upto tokTokensSpec)

/-- 'conduitlaw01.TokLists', WHERE WHAT IT READS IS OF BULK AT MOST 1048576: true; the input reads as it did. -/
def tokListsUptoRow : OpenClaim := { program := "ytpchpfhnimgdaaadoor", sum := "5b1fad3bdd212aa04b4e0d61db8f72393beb917054075b55858b1082c8c21b6d", func := "conduit/conduitlaw01.TokLists", spec := "tokLists", inPlace := ["internal/bytealg.IndexByteString", "internal/bytealg.IndexString"], named := ["unicode/utf8.first", "unicode/utf8.acceptRanges", "internal/bytealg.MaxLen"], apart := false, laid := [("unicode/utf8.acceptRanges", laid_unicode_utf8_acceptRanges), ("unicode/utf8.first", laid_unicode_utf8_first)], narrowed := true }
def TokListsUptoSaid : Prop := tokListsUptoRow.holds Tryd.pinned (OpenSpec.upto tokListsSpec)

/-- 'conduitlaw01.TokTidy', WHERE WHAT IT READS IS OF BULK AT MOST 1048576: true; the input reads as it did. -/
def tokTidyUptoRow : OpenClaim := { program := "ytpchpfhnimgdaaadoor", sum := "5b1fad3bdd212aa04b4e0d61db8f72393beb917054075b55858b1082c8c21b6d", func := "conduit/conduitlaw01.TokTidy", spec := "tokTidy", inPlace := ["internal/bytealg.IndexByteString", "internal/bytealg.IndexString"], named := ["unicode/utf8.first", "unicode/utf8.acceptRanges", "internal/bytealg.MaxLen"], apart := false, laid := [("unicode/utf8.acceptRanges", laid_unicode_utf8_acceptRanges), ("unicode/utf8.first", laid_unicode_utf8_first)], narrowed := true }
def TokTidyUptoSaid : Prop := tokTidyUptoRow.holds Tryd.pinned (OpenSpec.upto tokTidySpec)

/-- 'conduitlaw01.TokMemory', WHERE WHAT IT READS IS OF BULK AT MOST 1048576: true; the input reads as it did. -/
def tokMemoryUptoRow : OpenClaim := { program := "ytpchpfhnimgdaaadoor", sum := "5b1fad3bdd212aa04b4e0d61db8f72393beb917054075b55858b1082c8c21b6d", func := "conduit/conduitlaw01.TokMemory", spec := "tokMemory", inPlace := ["internal/bytealg.IndexByteString", "internal/bytealg.IndexString"], named := ["unicode/utf8.first", "unicode/utf8.acceptRanges", "internal/bytealg.MaxLen"], apart := false, laid := [("unicode/utf8.acceptRanges", laid_unicode_utf8_acceptRanges), ("unicode/utf8.first", laid_unicode_utf8_first)], narrowed := true }
def TokMemoryUptoSaid : Prop := tokMemoryUptoRow.holds Tryd.pinned (OpenSpec.upto tokMemorySpec)

/-- 'conduitlaw01.TokJoins', WHERE WHAT IT READS IS OF BULK AT MOST 1048576: true; the input reads as it did. -/
def tokJoinsUptoRow : OpenClaim := { program := "ytpchpfhnimgdaaadoor", sum := "5b1fad3bdd212aa04b4e0d61db8f72393beb917054075b55858b1082c8c21b6d", func := "conduit/conduitlaw01.TokJoins", spec := "tokJoins", inPlace := ["internal/bytealg.IndexByteString", "internal/bytealg.IndexString"], named := ["unicode/utf8.first", "unicode/utf8.acceptRanges", "internal/bytealg.MaxLen"], apart := false, laid := [("unicode/utf8.acceptRanges", laid_unicode_utf8_acceptRanges), ("unicode/utf8.first", laid_unicode_utf8_first)], narrowed := true }
def TokJoinsUptoSaid : Prop := tokJoinsUptoRow.holds Tryd.pinned (OpenSpec.upto tokJoinsSpec)

/-- 'conduitlaw01.TokRound', WHERE WHAT IT READS IS OF BULK AT MOST 1048576: true; the input reads as it did. -/
def tokRoundUptoRow : OpenClaim := { program := "ytpchpfhnimgdaaadoor", sum := "5b1fad3bdd212aa04b4e0d61db8f72393beb917054075b55858b1082c8c21b6d", func := "conduit/conduitlaw01.TokRound", spec := "tokRound", inPlace := ["internal/bytealg.IndexByteString", "internal/bytealg.IndexString", "internal/abi.NoEscape"], named := ["unicode/utf8.first", "unicode/utf8.acceptRanges", "internal/bytealg.MaxLen"], apart := false, laid := [("unicode/utf8.acceptRanges", laid_unicode_utf8_acceptRanges), ("unicode/utf8.first", laid_unicode_utf8_first)], narrowed := true }
def TokRoundUptoSaid : Prop := tokRoundUptoRow.holds Tryd.pinned (OpenSpec.upto tokRoundSpec)

/-- 'conduitlaw01.TokParams', WHERE WHAT IT READS IS OF BULK AT MOST 1048576: true; the input reads as it did. -/
def tokParamsUptoRow : OpenClaim := { program := "ytpchpfhnimgdaaadoor", sum := "5b1fad3bdd212aa04b4e0d61db8f72393beb917054075b55858b1082c8c21b6d", func := "conduit/conduitlaw01.TokParams", spec := "tokParams", inPlace := ["internal/bytealg.IndexByteString", "internal/bytealg.IndexString", "internal/abi.NoEscape"], named := ["unicode/utf8.first", "unicode/utf8.acceptRanges", "internal/bytealg.MaxLen"], apart := false, laid := [("unicode/utf8.acceptRanges", laid_unicode_utf8_acceptRanges), ("unicode/utf8.first", laid_unicode_utf8_first)], narrowed := true }
def TokParamsUptoSaid : Prop := tokParamsUptoRow.holds Tryd.pinned (OpenSpec.upto tokParamsSpec)

end Rows
end Go.Proofs.YtpchpfhnimgdaaaDoor
