/-
  No cell of these rows narrows 'for every input' (looked for: loops, veiled, ifaces, maps, wideKeys, modest, calm, conditions, laid).
  DERIVED. THE GIVEN ROWS OF THIS SEAT. 7 by the template 'for every input the law returns true; each argument reads behind the call as it read before'; 0 by the template 'total and deterministic' (their statements: YtfcdnjbahghllaaTotals.lean).
  GIVEN WITH THE SEED: the statements are not yours to turn. If you find one false, say at which input.
  Laid BY PROGRAM, IN A SANDBOX (cutbox-rows.mjs): the forced cells as the released guide's own fill.sh prints them over the translation b8378e3a0c161fe9… (all of the seat's roots in one cut). By AI agents, Wed Nov 11 2026. No macro, syntax, notation, axiom, sorry.
-/
import Derived.Test.YtfcdnjbahghllaaChecked
import GoSem.Claim
import GoSem.ClaimJoined
import GoSem.ClaimMapViews
import Derived.JoinedTies
import Derived.KernelRfl
namespace Go.Proofs.Ytfcdnjbahghllaa
/- THE CELL 'sum', in the pinned program and in every row, IS THE sha256 OF THE DUMP (.gsa) THAT YtfcdnjbahghllaaProg.lean LOADS. Nothing in Lean hashes anything: it is a label: what it is worth is what the hold of that sum in a sandbox is worth. -/
noncomputable def Try.pinned : Pinned := { name := "ytfcdnjbahghllaa", sum := "b8378e3a0c161fe98189bd8a84aab5812a426a288121e0bff9d7480353cef3c1", checked := Try.checked }
namespace Rows
def none {H : Type} : Left H := { results := [], args := [] }

/-- 'conduitlaw10.RecSums': WHATEVER THE INPUT: true; the input reads as it did. -/
def recSumsSpec : ChangeSpec := { name := "recSums", fn := fun _ => fun
  | [d] => { results := [.lit (.bool true)], args := [d] }
  | _ => none }
def recSumsRow : OpenClaim := { program := "ytfcdnjbahghllaa", sum := "b8378e3a0c161fe98189bd8a84aab5812a426a288121e0bff9d7480353cef3c1", func := "conduit/conduitlaw10.RecSums", spec := "recSums", apart := false }
def RecSumsSaid : Prop := recSumsRow.holds Try.pinned (OpenSpec.ofChange recSumsSpec)

/-- ITS FALSE NEIGHBOUR: 'it returns false'. Refute it at one input. -/
def recSumsWrong : ChangeSpec := { name := "recSums", fn := fun _ => fun
  | [d] => { results := [.lit (.bool false)], args := [d] }
  | _ => none }
def RecSumsWrongFalsely : Prop := recSumsRow.holds Try.pinned (OpenSpec.ofChange recSumsWrong)

/-- 'conduitlaw10.RecEncodes': WHATEVER THE INPUT: true; the input reads as it did. -/
def recEncodesSpec : ChangeSpec := { name := "recEncodes", fn := fun _ => fun
  | [d] => { results := [.lit (.bool true)], args := [d] }
  | _ => none }
def recEncodesRow : OpenClaim := { program := "ytfcdnjbahghllaa", sum := "b8378e3a0c161fe98189bd8a84aab5812a426a288121e0bff9d7480353cef3c1", func := "conduit/conduitlaw10.RecEncodes", spec := "recEncodes", apart := false }
def RecEncodesSaid : Prop := recEncodesRow.holds Try.pinned (OpenSpec.ofChange recEncodesSpec)

/-- ITS FALSE NEIGHBOUR: 'it returns false'. Refute it at one input. -/
def recEncodesWrong : ChangeSpec := { name := "recEncodes", fn := fun _ => fun
  | [d] => { results := [.lit (.bool false)], args := [d] }
  | _ => none }
def RecEncodesWrongFalsely : Prop := recEncodesRow.holds Try.pinned (OpenSpec.ofChange recEncodesWrong)

/-- 'conduitlaw10.RecMemory': WHATEVER THE INPUT: true; the input reads as it did. -/
def recMemorySpec : ChangeSpec := { name := "recMemory", fn := fun _ => fun
  | [d] => { results := [.lit (.bool true)], args := [d] }
  | _ => none }
def recMemoryRow : OpenClaim := { program := "ytfcdnjbahghllaa", sum := "b8378e3a0c161fe98189bd8a84aab5812a426a288121e0bff9d7480353cef3c1", func := "conduit/conduitlaw10.RecMemory", spec := "recMemory", apart := false }
def RecMemorySaid : Prop := recMemoryRow.holds Try.pinned (OpenSpec.ofChange recMemorySpec)

/-- ITS FALSE NEIGHBOUR: 'it returns false'. Refute it at one input. -/
def recMemoryWrong : ChangeSpec := { name := "recMemory", fn := fun _ => fun
  | [d] => { results := [.lit (.bool false)], args := [d] }
  | _ => none }
def RecMemoryWrongFalsely : Prop := recMemoryRow.holds Try.pinned (OpenSpec.ofChange recMemoryWrong)

/-- 'conduitlaw10.RecDecodes': WHATEVER THE INPUT: true; the input reads as it did. -/
def recDecodesSpec : ChangeSpec := { name := "recDecodes", fn := fun _ => fun
  | [d] => { results := [.lit (.bool true)], args := [d] }
  | _ => none }
def recDecodesRow : OpenClaim := { program := "ytfcdnjbahghllaa", sum := "b8378e3a0c161fe98189bd8a84aab5812a426a288121e0bff9d7480353cef3c1", func := "conduit/conduitlaw10.RecDecodes", spec := "recDecodes", apart := false }
def RecDecodesSaid : Prop := recDecodesRow.holds Try.pinned (OpenSpec.ofChange recDecodesSpec)

/-- ITS FALSE NEIGHBOUR: 'it returns false'. Refute it at one input. -/
def recDecodesWrong : ChangeSpec := { name := "recDecodes", fn := fun _ => fun
  | [d] => { results := [.lit (.bool false)], args := [d] }
  | _ => none }
def RecDecodesWrongFalsely : Prop := recDecodesRow.holds Try.pinned (OpenSpec.ofChange recDecodesWrong)

/-- 'conduitlaw10.RecRound': WHATEVER THE INPUT: true; the input reads as it did. -/
def recRoundSpec : ChangeSpec := { name := "recRound", fn := fun _ => fun
  | [d1, d2, d3] => { results := [.lit (.bool true)], args := [d1, d2, d3] }
  | _ => none }
def recRoundRow : OpenClaim := { program := "ytfcdnjbahghllaa", sum := "b8378e3a0c161fe98189bd8a84aab5812a426a288121e0bff9d7480353cef3c1", func := "conduit/conduitlaw10.RecRound", spec := "recRound", apart := false }
def RecRoundSaid : Prop := recRoundRow.holds Try.pinned (OpenSpec.ofChange recRoundSpec)

/-- ITS FALSE NEIGHBOUR: 'it returns false'. Refute it at one input. -/
def recRoundWrong : ChangeSpec := { name := "recRound", fn := fun _ => fun
  | [d1, d2, d3] => { results := [.lit (.bool false)], args := [d1, d2, d3] }
  | _ => none }
def RecRoundWrongFalsely : Prop := recRoundRow.holds Try.pinned (OpenSpec.ofChange recRoundWrong)

/-- 'conduitlaw10.RecTells': WHATEVER THE INPUT: true; the input reads as it did. -/
def recTellsSpec : ChangeSpec := { name := "recTells", fn := fun _ => fun
  | [d1, d2, d3] => { results := [.lit (.bool true)], args := [d1, d2, d3] }
  | _ => none }
def recTellsRow : OpenClaim := { program := "ytfcdnjbahghllaa", sum := "b8378e3a0c161fe98189bd8a84aab5812a426a288121e0bff9d7480353cef3c1", func := "conduit/conduitlaw10.RecTells", spec := "recTells", apart := false }
def RecTellsSaid : Prop := recTellsRow.holds Try.pinned (OpenSpec.ofChange recTellsSpec)

/-- ITS FALSE NEIGHBOUR: 'it returns false'. Refute it at one input. -/
def recTellsWrong : ChangeSpec := { name := "recTells", fn := fun _ => fun
  | [d1, d2, d3] => { results := [.lit (.bool false)], args := [d1, d2, d3] }
  | _ => none }
def RecTellsWrongFalsely : Prop := recTellsRow.holds Try.pinned (OpenSpec.ofChange recTellsWrong)

/-- 'conduitlaw10.RecPlain': WHATEVER THE INPUT: true; the input reads as it did. -/
def recPlainSpec : ChangeSpec := { name := "recPlain", fn := fun _ => fun
  | [d] => { results := [.lit (.bool true)], args := [d] }
  | _ => none }
def recPlainRow : OpenClaim := { program := "ytfcdnjbahghllaa", sum := "b8378e3a0c161fe98189bd8a84aab5812a426a288121e0bff9d7480353cef3c1", func := "conduit/conduitlaw10.RecPlain", spec := "recPlain", apart := false }
def RecPlainSaid : Prop := recPlainRow.holds Try.pinned (OpenSpec.ofChange recPlainSpec)

/-- ITS FALSE NEIGHBOUR: 'it returns false'. Refute it at one input. -/
def recPlainWrong : ChangeSpec := { name := "recPlain", fn := fun _ => fun
  | [d] => { results := [.lit (.bool false)], args := [d] }
  | _ => none }
def RecPlainWrongFalsely : Prop := recPlainRow.holds Try.pinned (OpenSpec.ofChange recPlainWrong)

/- THE SECOND FORM. 'bulk': how many values and letters a reading holds, each counted each time it is reached (what is shared counts as often as it is met; a slice's spare places count too). A statement '..UptoSaid' is the law's where the arguments, and the package variables that the reading takes, are together of bulk at most 1048576: NARROWER than '..Said'. Prove '..Said' where nothing that the law and all that it calls make is longer than what came in: it says more and counts as full. Else prove '..UptoSaid'. A law counts once. -/
mutual
def uptoBulk {H : Type} : DataW H → Nat
  | .lit (.string bytes) => bytes.length + 1
  | .lit _ => 1
  | .nil => 1
  | .ptr d => uptoBulk d + 1
  | .slice elems spare => uptoBulkAll elems + uptoBulkAll spare + 1
  | .agg parts => uptoBulkAll parts + 1
  | .iface _ d => uptoBulk d + 1
  | .map entries => uptoBulkEntries entries + 1
  | .held _ => 1
def uptoBulkAll {H : Type} : List (DataW H) → Nat
  | [] => 0
  | d :: r => uptoBulk d + uptoBulkAll r
def uptoBulkEntries {H : Type} : List (Lit × DataW H) → Nat
  | [] => 0
  | x :: r => uptoBulkEntry x + uptoBulkEntries r
def uptoBulkEntry {H : Type} : Lit × DataW H → Nat
  | (.string bytes, d) => bytes.length + uptoBulk d + 1
  | (_, d) => uptoBulk d + 1
 end
def uptoSmall : (H : Type) → List (DataW H) → Bool := fun _ ds => decide (uptoBulkAll ds ≤ 1048576)
def OpenSpec.upto (s : _root_.Go.ChangeSpec) : _root_.Go.OpenSpec := { _root_.Go.OpenSpec.ofChange s with cond := some uptoSmall }

/-- 'conduitlaw10.RecSums', WHERE WHAT IT READS IS OF BULK AT MOST 1048576: true; the input reads as it did. -/
def recSumsUptoRow : OpenClaim := { program := "ytfcdnjbahghllaa", sum := "b8378e3a0c161fe98189bd8a84aab5812a426a288121e0bff9d7480353cef3c1", func := "conduit/conduitlaw10.RecSums", spec := "recSums", apart := false, narrowed := true }
def RecSumsUptoSaid : Prop := recSumsUptoRow.holds Try.pinned (OpenSpec.upto recSumsSpec)

/-- 'conduitlaw10.RecEncodes', WHERE WHAT IT READS IS OF BULK AT MOST 1048576: true; the input reads as it did. -/
def recEncodesUptoRow : OpenClaim := { program := "ytfcdnjbahghllaa", sum := "b8378e3a0c161fe98189bd8a84aab5812a426a288121e0bff9d7480353cef3c1", func := "conduit/conduitlaw10.RecEncodes", spec := "recEncodes", apart := false, narrowed := true }
def RecEncodesUptoSaid : Prop := recEncodesUptoRow.holds Try.pinned (OpenSpec.upto recEncodesSpec)

/-- 'conduitlaw10.RecMemory', WHERE WHAT IT READS IS OF BULK AT MOST 1048576: true; the input reads as it did. -/
def recMemoryUptoRow : OpenClaim := { program := "ytfcdnjbahghllaa", sum := "b8378e3a0c161fe98189bd8a84aab5812a426a288121e0bff9d7480353cef3c1", func := "conduit/conduitlaw10.RecMemory", spec := "recMemory", apart := false, narrowed := true }
def RecMemoryUptoSaid : Prop := recMemoryUptoRow.holds Try.pinned (OpenSpec.upto recMemorySpec)

/-- 'conduitlaw10.RecDecodes', WHERE WHAT IT READS IS OF BULK AT MOST 1048576: true; the input reads as it did. -/
def recDecodesUptoRow : OpenClaim := { program := "ytfcdnjbahghllaa", sum := "b8378e3a0c161fe98189bd8a84aab5812a426a288121e0bff9d7480353cef3c1", func := "conduit/conduitlaw10.RecDecodes", spec := "recDecodes", apart := false, narrowed := true }
def RecDecodesUptoSaid : Prop := recDecodesUptoRow.holds Try.pinned (OpenSpec.upto recDecodesSpec)

/-- 'conduitlaw10.RecRound', WHERE WHAT IT READS IS OF BULK AT MOST 1048576: true; the input reads as it did. -/
def recRoundUptoRow : OpenClaim := { program := "ytfcdnjbahghllaa", sum := "b8378e3a0c161fe98189bd8a84aab5812a426a288121e0bff9d7480353cef3c1", func := "conduit/conduitlaw10.RecRound", spec := "recRound", apart := false, narrowed := true }
def RecRoundUptoSaid : Prop := recRoundUptoRow.holds Try.pinned (OpenSpec.upto recRoundSpec)

/-- 'conduitlaw10.RecTells', WHERE WHAT IT READS IS OF BULK AT MOST 1048576: true; the input reads as it did. -/
def recTellsUptoRow : OpenClaim := { program := "ytfcdnjbahghllaa", sum := "b8378e3a0c161fe98189bd8a84aab5812a426a288121e0bff9d7480353cef3c1", func := "conduit/conduitlaw10.RecTells", spec := "recTells", apart := false, narrowed := true }
def RecTellsUptoSaid : Prop := recTellsUptoRow.holds Try.pinned (OpenSpec.upto recTellsSpec)

/-- 'conduitlaw10.RecPlain', WHERE WHAT IT READS IS OF BULK AT MOST 1048576: true; the input reads as it did. -/
def recPlainUptoRow : OpenClaim := { program := "ytfcdnjbahghllaa", sum := "b8378e3a0c161fe98189bd8a84aab5812a426a288121e0bff9d7480353cef3c1", func := "conduit/conduitlaw10.RecPlain", spec := "recPlain", apart := false, narrowed := true }
def RecPlainUptoSaid : Prop := recPlainUptoRow.holds Try.pinned (OpenSpec.upto recPlainSpec)

end Rows
end Go.Proofs.Ytfcdnjbahghllaa
