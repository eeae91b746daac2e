/-
  NARROWER THAN 'FOR EVERY INPUT', by the rows' own cells (each row's printed sentence says how): SwaplogReplays: laid · SwaplogSound: laid · SwaplogSteps: laid · SwaplogSurvives: laid · SwaplogTurns: laid.
  DERIVED. THE GIVEN ROWS OF THIS SEAT. 5 by the template 'for every input the law returns true; each argument reads behind the call as it read before'; 0 by the template 'total and deterministic' (their statements: YtheoklhmlnfgjaaGreatDoorTotals.lean).
  GIVEN WITH THE SEED: the statements are not yours to turn. If you find one false, say at which input.
  Laid BY PROGRAM, IN A SANDBOX (cutbox-rows.mjs): the forced cells as the released guide's own fill.sh prints them over the translation 0a5a7924bdc531ff… (all of the seat's roots in one cut). By AI agents, Wed Nov 11 2026. No macro, syntax, notation, axiom, sorry.
-/
import Derived.Test.YtheoklhmlnfgjaaGreatDoorChecked
import GoSem.PinnedTables
import GoSem.Claim
import GoSem.ClaimJoined
import GoSem.ClaimMapViews
import Derived.JoinedTies
import Derived.KernelRfl
namespace Go.Proofs.YtheoklhmlnfgjaaGreatDoor
/- THE CELL 'sum', in the pinned program and in every row, IS THE sha256 OF THE DUMP (.gsa) THAT YtheoklhmlnfgjaaGreatDoorProg.lean LOADS. Nothing in Lean hashes anything: it is a label: what it is worth is what the hold of that sum in a sandbox is worth. -/
noncomputable def Tryz.pinned : Pinned := { name := "ytheoklhmlnfgjaagreatdoor", sum := "0a5a7924bdc531ff680c752e0c49def9d08dc7887f152d5be3a0d9ed6f75e831", checked := Tryz.checked }
namespace Rows
def none {H : Type} : Left H := { results := [], args := [] }

/- WHAT THE LISTED PACKAGE-LEVEL VARIABLES READ AS WHEN THE CALL BEGINS. Each datum BY PROGRAM (the guide's laid-datum.mjs) off the statement by which the dump's own 'gosem.cut.vars' lays the variable. In a bare row this is a premise. The card (YtheoklhmlnfgjaaGreatDoorCards.lean) ties it to the program's text. -/
def laid_unicode_utf8_acceptRanges {H : Type} : DataW H := .agg [.agg [.lit (.int .u8 128), .lit (.int .u8 191)], .agg [.lit (.int .u8 160), .lit (.int .u8 191)], .agg [.lit (.int .u8 128), .lit (.int .u8 159)], .agg [.lit (.int .u8 144), .lit (.int .u8 191)], .agg [.lit (.int .u8 128), .lit (.int .u8 143)], .agg [.lit (.int .u8 0), .lit (.int .u8 0)], .agg [.lit (.int .u8 0), .lit (.int .u8 0)], .agg [.lit (.int .u8 0), .lit (.int .u8 0)], .agg [.lit (.int .u8 0), .lit (.int .u8 0)], .agg [.lit (.int .u8 0), .lit (.int .u8 0)], .agg [.lit (.int .u8 0), .lit (.int .u8 0)], .agg [.lit (.int .u8 0), .lit (.int .u8 0)], .agg [.lit (.int .u8 0), .lit (.int .u8 0)], .agg [.lit (.int .u8 0), .lit (.int .u8 0)], .agg [.lit (.int .u8 0), .lit (.int .u8 0)], .agg [.lit (.int .u8 0), .lit (.int .u8 0)]]
/-- One of Go's own tables, pinned by name: the form's constant. -/
def laid_unicode_utf8_first : DataW Unit := Go.Pinned.utf8First

/-- 'conduitlaw11.SwaplogReplays': WHATEVER THE INPUT: true; the input reads as it did. -/
def swaplogReplaysSpec : ChangeSpec := { name := "swaplogReplays", fn := fun _ => fun
  | [d] => { results := [.lit (.bool true)], args := [d] }
  | _ => none }
def swaplogReplaysRow : OpenClaim := { program := "ytheoklhmlnfgjaagreatdoor", sum := "0a5a7924bdc531ff680c752e0c49def9d08dc7887f152d5be3a0d9ed6f75e831", func := "conduit/conduitlaw11.SwaplogReplays", spec := "swaplogReplays", inPlace := ["internal/bytealg.IndexByteString", "internal/bytealg.IndexString", "maps.clone"], unfollowed := true, recurses := true, named := ["unicode/utf8.first", "unicode/utf8.acceptRanges", "internal/bytealg.MaxLen"], apart := false, laid := [("unicode/utf8.acceptRanges", laid_unicode_utf8_acceptRanges), ("unicode/utf8.first", laid_unicode_utf8_first)] }
def SwaplogReplaysSaid : Prop := swaplogReplaysRow.holds Tryz.pinned (OpenSpec.ofChange swaplogReplaysSpec)

/-- ITS FALSE NEIGHBOUR: 'it returns false'. Refute it at one input. -/
def swaplogReplaysWrong : ChangeSpec := { name := "swaplogReplays", fn := fun _ => fun
  | [d] => { results := [.lit (.bool false)], args := [d] }
  | _ => none }
def SwaplogReplaysWrongFalsely : Prop := swaplogReplaysRow.holds Tryz.pinned (OpenSpec.ofChange swaplogReplaysWrong)

/-- 'conduitlaw11.SwaplogSound': WHATEVER THE INPUT: true; the input reads as it did. -/
def swaplogSoundSpec : ChangeSpec := { name := "swaplogSound", fn := fun _ => fun
  | [d1, d2, d3, d4] => { results := [.lit (.bool true)], args := [d1, d2, d3, d4] }
  | _ => none }
def swaplogSoundRow : OpenClaim := { program := "ytheoklhmlnfgjaagreatdoor", sum := "0a5a7924bdc531ff680c752e0c49def9d08dc7887f152d5be3a0d9ed6f75e831", func := "conduit/conduitlaw11.SwaplogSound", spec := "swaplogSound", inPlace := ["internal/bytealg.IndexByteString", "internal/bytealg.IndexString", "maps.clone"], unfollowed := true, recurses := true, named := ["unicode/utf8.first", "unicode/utf8.acceptRanges", "internal/bytealg.MaxLen"], apart := false, laid := [("unicode/utf8.acceptRanges", laid_unicode_utf8_acceptRanges), ("unicode/utf8.first", laid_unicode_utf8_first)] }
def SwaplogSoundSaid : Prop := swaplogSoundRow.holds Tryz.pinned (OpenSpec.ofChange swaplogSoundSpec)

/-- ITS FALSE NEIGHBOUR: 'it returns false'. Refute it at one input. -/
def swaplogSoundWrong : ChangeSpec := { name := "swaplogSound", fn := fun _ => fun
  | [d1, d2, d3, d4] => { results := [.lit (.bool false)], args := [d1, d2, d3, d4] }
  | _ => none }
def SwaplogSoundWrongFalsely : Prop := swaplogSoundRow.holds Tryz.pinned (OpenSpec.ofChange swaplogSoundWrong)

/-- 'conduitlaw11.SwaplogSteps': WHATEVER THE INPUT: true; the input reads as it did. -/
def swaplogStepsSpec : ChangeSpec := { name := "swaplogSteps", fn := fun _ => fun
  | [d1, d2, d3] => { results := [.lit (.bool true)], args := [d1, d2, d3] }
  | _ => none }
def swaplogStepsRow : OpenClaim := { program := "ytheoklhmlnfgjaagreatdoor", sum := "0a5a7924bdc531ff680c752e0c49def9d08dc7887f152d5be3a0d9ed6f75e831", func := "conduit/conduitlaw11.SwaplogSteps", spec := "swaplogSteps", inPlace := ["internal/bytealg.IndexByteString", "internal/bytealg.IndexString", "maps.clone"], unfollowed := true, recurses := true, named := ["unicode/utf8.first", "unicode/utf8.acceptRanges", "internal/bytealg.MaxLen"], apart := false, laid := [("unicode/utf8.acceptRanges", laid_unicode_utf8_acceptRanges), ("unicode/utf8.first", laid_unicode_utf8_first)] }
def SwaplogStepsSaid : Prop := swaplogStepsRow.holds Tryz.pinned (OpenSpec.ofChange swaplogStepsSpec)

/-- ITS FALSE NEIGHBOUR: 'it returns false'. Refute it at one input. -/
def swaplogStepsWrong : ChangeSpec := { name := "swaplogSteps", fn := fun _ => fun
  | [d1, d2, d3] => { results := [.lit (.bool false)], args := [d1, d2, d3] }
  | _ => none }
def SwaplogStepsWrongFalsely : Prop := swaplogStepsRow.holds Tryz.pinned (OpenSpec.ofChange swaplogStepsWrong)

/-- 'conduitlaw11.SwaplogSurvives': WHATEVER THE INPUT: true; the input reads as it did. -/
def swaplogSurvivesSpec : ChangeSpec := { name := "swaplogSurvives", fn := fun _ => fun
  | [d1, d2, d3] => { results := [.lit (.bool true)], args := [d1, d2, d3] }
  | _ => none }
def swaplogSurvivesRow : OpenClaim := { program := "ytheoklhmlnfgjaagreatdoor", sum := "0a5a7924bdc531ff680c752e0c49def9d08dc7887f152d5be3a0d9ed6f75e831", func := "conduit/conduitlaw11.SwaplogSurvives", spec := "swaplogSurvives", inPlace := ["internal/bytealg.IndexByteString", "internal/bytealg.IndexString", "maps.clone"], unfollowed := true, recurses := true, named := ["unicode/utf8.first", "unicode/utf8.acceptRanges", "internal/bytealg.MaxLen"], apart := false, laid := [("unicode/utf8.acceptRanges", laid_unicode_utf8_acceptRanges), ("unicode/utf8.first", laid_unicode_utf8_first)] }
def SwaplogSurvivesSaid : Prop := swaplogSurvivesRow.holds Tryz.pinned (OpenSpec.ofChange swaplogSurvivesSpec)

/-- ITS FALSE NEIGHBOUR: 'it returns false'. Refute it at one input. -/
def swaplogSurvivesWrong : ChangeSpec := { name := "swaplogSurvives", fn := fun _ => fun
  | [d1, d2, d3] => { results := [.lit (.bool false)], args := [d1, d2, d3] }
  | _ => none }
def SwaplogSurvivesWrongFalsely : Prop := swaplogSurvivesRow.holds Tryz.pinned (OpenSpec.ofChange swaplogSurvivesWrong)

/-- 'conduitlaw11.SwaplogTurns': WHATEVER THE INPUT: true; the input reads as it did. -/
def swaplogTurnsSpec : ChangeSpec := { name := "swaplogTurns", fn := fun _ => fun
  | [d1, d2, d3, d4] => { results := [.lit (.bool true)], args := [d1, d2, d3, d4] }
  | _ => none }
def swaplogTurnsRow : OpenClaim := { program := "ytheoklhmlnfgjaagreatdoor", sum := "0a5a7924bdc531ff680c752e0c49def9d08dc7887f152d5be3a0d9ed6f75e831", func := "conduit/conduitlaw11.SwaplogTurns", spec := "swaplogTurns", inPlace := ["internal/bytealg.IndexByteString", "internal/bytealg.IndexString", "maps.clone"], unfollowed := true, recurses := true, named := ["unicode/utf8.first", "unicode/utf8.acceptRanges", "internal/bytealg.MaxLen"], apart := false, laid := [("unicode/utf8.acceptRanges", laid_unicode_utf8_acceptRanges), ("unicode/utf8.first", laid_unicode_utf8_first)] }
def SwaplogTurnsSaid : Prop := swaplogTurnsRow.holds Tryz.pinned (OpenSpec.ofChange swaplogTurnsSpec)

/-- ITS FALSE NEIGHBOUR: 'it returns false'. Refute it at one input. -/
def swaplogTurnsWrong : ChangeSpec := { name := "swaplogTurns", fn := fun _ => fun
  | [d1, d2, d3, d4] => { results := [.lit (.bool false)], args := [d1, d2, d3, d4] }
  | _ => none }
def SwaplogTurnsWrongFalsely : Prop := swaplogTurnsRow.holds Tryz.pinned (OpenSpec.ofChange swaplogTurnsWrong)

/- THE SECOND FORM. 'bulk': how many values and letters a reading holds, each counted each time it is reached (what is shared counts as often as it is met; a slice's spare places count too). A statement '..UptoSaid' is the law's where the arguments, and the package variables that the reading takes, are together of bulk at most 1048576: NARROWER than '..Said'. Prove '..Said' where nothing that the law and all that it calls make is longer than what came in: it says more and counts as full. Else prove '..UptoSaid'. A law counts once. -/
mutual
def uptoBulk {H : Type} : DataW H → Nat
  | .lit (.string bytes) => bytes.length + 1
  | .lit _ => 1
  | .nil => 1
  | .ptr d => uptoBulk d + 1
  | .slice elems spare => uptoBulkAll elems + uptoBulkAll spare + 1
  | .agg parts => uptoBulkAll parts + 1
  | .iface _ d => uptoBulk d + 1
  | .map entries => uptoBulkEntries entries + 1
  | .held _ => 1
def uptoBulkAll {H : Type} : List (DataW H) → Nat
  | [] => 0
  | d :: r => uptoBulk d + uptoBulkAll r
def uptoBulkEntries {H : Type} : List (Lit × DataW H) → Nat
  | [] => 0
  | x :: r => uptoBulkEntry x + uptoBulkEntries r
def uptoBulkEntry {H : Type} : Lit × DataW H → Nat
  | (.string bytes, d) => bytes.length + uptoBulk d + 1
  | (_, d) => uptoBulk d + 1
 end
def uptoSmall : (H : Type) → List (DataW H) → Bool := fun _ ds => decide (uptoBulkAll ds ≤ 1048576)
def OpenSpec.upto (s : _root_.Go.ChangeSpec) : _root_.Go.OpenSpec := { _root_.Go.OpenSpec.ofChange s with cond := some uptoSmall }

/-- 'conduitlaw11.SwaplogReplays', WHERE WHAT IT READS IS OF BULK AT MOST 1048576: true; the input reads as it did. -/
def swaplogReplaysUptoRow : OpenClaim := { program := "ytheoklhmlnfgjaagreatdoor", sum := "0a5a7924bdc531ff680c752e0c49def9d08dc7887f152d5be3a0d9ed6f75e831", func := "conduit/conduitlaw11.SwaplogReplays", spec := "swaplogReplays", inPlace := ["internal/bytealg.IndexByteString", "internal/bytealg.IndexString", "maps.clone"], unfollowed := true, recurses := true, named := ["unicode/utf8.first", "unicode/utf8.acceptRanges", "internal/bytealg.MaxLen"], apart := false, laid := [("unicode/utf8.acceptRanges", laid_unicode_utf8_acceptRanges), ("unicode/utf8.first", laid_unicode_utf8_first)], narrowed := true }
def SwaplogReplaysUptoSaid : Prop := swaplogReplaysUptoRow.holds Tryz.pinned (OpenSpec.upto swaplogReplaysSpec)

/-- 'conduitlaw11.SwaplogSound', WHERE WHAT IT READS IS OF BULK AT MOST 1048576: true; the input reads as it did. -/
def swaplogSoundUptoRow : OpenClaim := { program := "ytheoklhmlnfgjaagreatdoor", sum := "0a5a7924bdc531ff680c752e0c49def9d08dc7887f152d5be3a0d9ed6f75e831", func := "conduit/conduitlaw11.SwaplogSound", spec := "swaplogSound", inPlace := ["internal/bytealg.IndexByteString", "internal/bytealg.IndexString", "maps.clone"], unfollowed := true, recurses := true, named := ["unicode/utf8.first", "unicode/utf8.acceptRanges", "internal/bytealg.MaxLen"], apart := false, laid := [("unicode/utf8.acceptRanges", laid_unicode_utf8_acceptRanges), ("unicode/utf8.first", laid_unicode_utf8_first)], narrowed := true }
def SwaplogSoundUptoSaid : Prop := swaplogSoundUptoRow.holds Tryz.pinned (OpenSpec.upto swaplogSoundSpec)

/-- 'conduitlaw11.SwaplogSteps', WHERE WHAT IT READS IS OF BULK AT MOST 1048576: true; the input reads as it did. -/
def swaplogStepsUptoRow : OpenClaim := { program := "ytheoklhmlnfgjaagreatdoor", sum := "0a5a7924bdc531ff680c752e0c49def9d08dc7887f152d5be3a0d9ed6f75e831", func := "conduit/conduitlaw11.SwaplogSteps", spec := "swaplogSteps", inPlace := ["internal/bytealg.IndexByteString", "internal/bytealg.IndexString", "maps.clone"], unfollowed := true, recurses := true, named := ["unicode/utf8.first", "unicode/utf8.acceptRanges", "internal/bytealg.MaxLen"], apart := false, laid := [("unicode/utf8.acceptRanges", laid_unicode_utf8_acceptRanges), ("unicode/utf8.first", laid_unicode_utf8_first)], narrowed := true }
def SwaplogStepsUptoSaid : Prop := swaplogStepsUptoRow.holds Tryz.pinned (OpenSpec.upto swaplogStepsSpec)

/-- 'conduitlaw11.SwaplogSurvives', WHERE WHAT IT READS IS OF BULK AT MOST 1048576: true; the input reads as it did. -/
def swaplogSurvivesUptoRow : OpenClaim := { program := "ytheoklhmlnfgjaagreatdoor", sum := "0a5a7924bdc531ff680c752e0c49def9d08dc7887f152d5be3a0d9ed6f75e831", func := "conduit/conduitlaw11.SwaplogSurvives", spec := "swaplogSurvives", inPlace := ["internal/bytealg.IndexByteString", "internal/bytealg.IndexString", "maps.clone"], unfollowed := true, recurses := true, named := ["unicode/utf8.first", "unicode/utf8.acceptRanges", "internal/bytealg.MaxLen"], apart := false, laid := [("unicode/utf8.acceptRanges", laid_unicode_utf8_acceptRanges), ("unicode/utf8.first", laid_unicode_utf8_first)], narrowed := true }
def SwaplogSurvivesUptoSaid : Prop := swaplogSurvivesUptoRow.holds Tryz.pinned (OpenSpec.upto swaplogSurvivesSpec)

/-- 'conduitlaw11.SwaplogTurns', WHERE WHAT IT READS IS OF BULK AT MOST 1048576: true; the input reads as it did. -/
def swaplogTurnsUptoRow : OpenClaim := { program := "ytheoklhmlnfgjaagreatdoor", sum := "0a5a7924bdc531ff680c752e0c49def9d08dc7887f152d5be3a0d9ed6f75e831", func := "conduit/conduitlaw11.SwaplogTurns", spec := "swaplogTurns", inPlace := ["internal/bytealg.IndexByteString", "internal/bytealg.IndexString", "maps.clone"], unfollowed := true, recurses := true, named := ["unicode/utf8.first", "unicode/utf8.acceptRanges", "internal/bytealg.MaxLen"], apart := false, laid := [("unicode/utf8.acceptRanges", laid_unicode_utf8_acceptRanges), ("unicode/utf8.first", laid_unicode_utf8_first)], narrowed := true }
def SwaplogTurnsUptoSaid : Prop := swaplogTurnsUptoRow.holds Tryz.pinned (OpenSpec.upto swaplogTurnsSpec)

end Rows
end Go.Proofs.YtheoklhmlnfgjaaGreatDoor
