/-
  No cell of these rows narrows 'for every input' (looked for: loops, veiled, ifaces, maps, wideKeys, modest, calm, conditions, laid).
  DERIVED. THE GIVEN ROWS OF THIS SEAT. 6 by the template 'for every input the law returns true; each argument reads behind the call as it read before'; 0 by the template 'total and deterministic' (their statements: YtmllcfkgkkbkpaaTotals.lean).
  GIVEN WITH THE SEED: the statements are not yours to turn. If you find one false, say at which input.
  Laid BY PROGRAM, IN A SANDBOX (cutbox-rows.mjs): the forced cells as the released guide's own fill.sh prints them over the translation 2c7c755b444a710f… (all of the seat's roots in one cut). By AI agents, Wed Nov 11 2026. No macro, syntax, notation, axiom, sorry.
-/
import Derived.Test.YtmllcfkgkkbkpaaChecked
import GoSem.Claim
import GoSem.ClaimJoined
import GoSem.ClaimMapViews
import Derived.JoinedTies
import Derived.KernelRfl
namespace Go.Proofs.Ytmllcfkgkkbkpaa
/- THE CELL 'sum', in the pinned program and in every row, IS THE sha256 OF THE DUMP (.gsa) THAT YtmllcfkgkkbkpaaProg.lean LOADS. Nothing in Lean hashes anything: it is a label: what it is worth is what the hold of that sum in a sandbox is worth. -/
noncomputable def Try.pinned : Pinned := { name := "ytmllcfkgkkbkpaa", sum := "2c7c755b444a710f3945684ae567e680d69f8a00119f82139de68b1b8caaf918", checked := Try.checked }
namespace Rows
def none {H : Type} : Left H := { results := [], args := [] }

/-- 'conduitlaw25.MuxNumbers': WHATEVER THE INPUT: true; the input reads as it did. -/
def muxNumbersSpec : ChangeSpec := { name := "muxNumbers", fn := fun _ => fun
  | [d1, d2] => { results := [.lit (.bool true)], args := [d1, d2] }
  | _ => none }
def muxNumbersRow : OpenClaim := { program := "ytmllcfkgkkbkpaa", sum := "2c7c755b444a710f3945684ae567e680d69f8a00119f82139de68b1b8caaf918", func := "conduit/conduitlaw25.MuxNumbers", spec := "muxNumbers", inPlace := ["(*sync.WaitGroup).Wait", "internal/race.Disable", "sync/atomic.LoadUint64", "internal/race.Enable", "internal/race.Acquire", "internal/synctest.IsAssociated[sync.WaitGroup]", "sync/atomic.CompareAndSwapUint64", "internal/synctest.Disassociate[sync.WaitGroup]", "internal/race.Write", "internal/synctest.IsInBubble", "sync.runtime_SemacquireWaitGroup", "(*sync.WaitGroup).Add", "internal/race.ReleaseMerge", "internal/synctest.Associate[sync.WaitGroup]", "sync.fatal", "sync/atomic.OrUint64", "sync/atomic.AddUint64", "internal/race.Read", "sync/atomic.StoreUint64", "sync.runtime_Semrelease", "(*sync.WaitGroup).Done"], unfollowed := true, recurses := true, leaving := true, apart := false }
def MuxNumbersSaid : Prop := muxNumbersRow.holds Try.pinned (OpenSpec.ofChange muxNumbersSpec)

/-- ITS FALSE NEIGHBOUR: 'it returns false'. Refute it at one input. -/
def muxNumbersWrong : ChangeSpec := { name := "muxNumbers", fn := fun _ => fun
  | [d1, d2] => { results := [.lit (.bool false)], args := [d1, d2] }
  | _ => none }
def MuxNumbersWrongFalsely : Prop := muxNumbersRow.holds Try.pinned (OpenSpec.ofChange muxNumbersWrong)

/-- 'conduitlaw25.MuxPairs': WHATEVER THE INPUT: true; the input reads as it did. -/
def muxPairsSpec : ChangeSpec := { name := "muxPairs", fn := fun _ => fun
  | [d1, d2] => { results := [.lit (.bool true)], args := [d1, d2] }
  | _ => none }
def muxPairsRow : OpenClaim := { program := "ytmllcfkgkkbkpaa", sum := "2c7c755b444a710f3945684ae567e680d69f8a00119f82139de68b1b8caaf918", func := "conduit/conduitlaw25.MuxPairs", spec := "muxPairs", inPlace := ["(*sync.WaitGroup).Wait", "internal/race.Disable", "sync/atomic.LoadUint64", "internal/race.Enable", "internal/race.Acquire", "internal/synctest.IsAssociated[sync.WaitGroup]", "sync/atomic.CompareAndSwapUint64", "internal/synctest.Disassociate[sync.WaitGroup]", "internal/race.Write", "internal/synctest.IsInBubble", "sync.runtime_SemacquireWaitGroup", "(*sync.WaitGroup).Add", "internal/race.ReleaseMerge", "internal/synctest.Associate[sync.WaitGroup]", "sync.fatal", "sync/atomic.OrUint64", "sync/atomic.AddUint64", "internal/race.Read", "sync/atomic.StoreUint64", "sync.runtime_Semrelease", "(*sync.WaitGroup).Done"], unfollowed := true, recurses := true, leaving := true, apart := false }
def MuxPairsSaid : Prop := muxPairsRow.holds Try.pinned (OpenSpec.ofChange muxPairsSpec)

/-- ITS FALSE NEIGHBOUR: 'it returns false'. Refute it at one input. -/
def muxPairsWrong : ChangeSpec := { name := "muxPairs", fn := fun _ => fun
  | [d1, d2] => { results := [.lit (.bool false)], args := [d1, d2] }
  | _ => none }
def MuxPairsWrongFalsely : Prop := muxPairsRow.holds Try.pinned (OpenSpec.ofChange muxPairsWrong)

/-- 'conduitlaw25.MuxStreams': WHATEVER THE INPUT: true; the input reads as it did. -/
def muxStreamsSpec : ChangeSpec := { name := "muxStreams", fn := fun _ => fun
  | [d1, d2, d3] => { results := [.lit (.bool true)], args := [d1, d2, d3] }
  | _ => none }
def muxStreamsRow : OpenClaim := { program := "ytmllcfkgkkbkpaa", sum := "2c7c755b444a710f3945684ae567e680d69f8a00119f82139de68b1b8caaf918", func := "conduit/conduitlaw25.MuxStreams", spec := "muxStreams", inPlace := ["(*sync.WaitGroup).Wait", "internal/race.Disable", "sync/atomic.LoadUint64", "internal/race.Enable", "internal/race.Acquire", "internal/synctest.IsAssociated[sync.WaitGroup]", "sync/atomic.CompareAndSwapUint64", "internal/synctest.Disassociate[sync.WaitGroup]", "internal/race.Write", "internal/synctest.IsInBubble", "sync.runtime_SemacquireWaitGroup", "(*sync.WaitGroup).Add", "internal/race.ReleaseMerge", "internal/synctest.Associate[sync.WaitGroup]", "sync.fatal", "sync/atomic.OrUint64", "sync/atomic.AddUint64", "internal/race.Read", "sync/atomic.StoreUint64", "sync.runtime_Semrelease", "(*sync.WaitGroup).Done"], unfollowed := true, recurses := true, leaving := true, apart := false }
def MuxStreamsSaid : Prop := muxStreamsRow.holds Try.pinned (OpenSpec.ofChange muxStreamsSpec)

/-- ITS FALSE NEIGHBOUR: 'it returns false'. Refute it at one input. -/
def muxStreamsWrong : ChangeSpec := { name := "muxStreams", fn := fun _ => fun
  | [d1, d2, d3] => { results := [.lit (.bool false)], args := [d1, d2, d3] }
  | _ => none }
def MuxStreamsWrongFalsely : Prop := muxStreamsRow.holds Try.pinned (OpenSpec.ofChange muxStreamsWrong)

/-- 'conduitlaw25.MuxOrders': WHATEVER THE INPUT: true; the input reads as it did. -/
def muxOrdersSpec : ChangeSpec := { name := "muxOrders", fn := fun _ => fun
  | [d1, d2] => { results := [.lit (.bool true)], args := [d1, d2] }
  | _ => none }
def muxOrdersRow : OpenClaim := { program := "ytmllcfkgkkbkpaa", sum := "2c7c755b444a710f3945684ae567e680d69f8a00119f82139de68b1b8caaf918", func := "conduit/conduitlaw25.MuxOrders", spec := "muxOrders", inPlace := ["(*sync.WaitGroup).Wait", "internal/race.Disable", "sync/atomic.LoadUint64", "internal/race.Enable", "internal/race.Acquire", "internal/synctest.IsAssociated[sync.WaitGroup]", "sync/atomic.CompareAndSwapUint64", "internal/synctest.Disassociate[sync.WaitGroup]", "internal/race.Write", "internal/synctest.IsInBubble", "sync.runtime_SemacquireWaitGroup", "(*sync.WaitGroup).Add", "internal/race.ReleaseMerge", "internal/synctest.Associate[sync.WaitGroup]", "sync.fatal", "sync/atomic.OrUint64", "sync/atomic.AddUint64", "internal/race.Read", "sync/atomic.StoreUint64", "sync.runtime_Semrelease", "(*sync.WaitGroup).Done"], unfollowed := true, recurses := true, leaving := true, apart := false }
def MuxOrdersSaid : Prop := muxOrdersRow.holds Try.pinned (OpenSpec.ofChange muxOrdersSpec)

/-- ITS FALSE NEIGHBOUR: 'it returns false'. Refute it at one input. -/
def muxOrdersWrong : ChangeSpec := { name := "muxOrders", fn := fun _ => fun
  | [d1, d2] => { results := [.lit (.bool false)], args := [d1, d2] }
  | _ => none }
def MuxOrdersWrongFalsely : Prop := muxOrdersRow.holds Try.pinned (OpenSpec.ofChange muxOrdersWrong)

/-- 'conduitlaw25.MuxFirst': WHATEVER THE INPUT: true; the input reads as it did. -/
def muxFirstSpec : ChangeSpec := { name := "muxFirst", fn := fun _ => fun
  | [d1, d2, d3] => { results := [.lit (.bool true)], args := [d1, d2, d3] }
  | _ => none }
def muxFirstRow : OpenClaim := { program := "ytmllcfkgkkbkpaa", sum := "2c7c755b444a710f3945684ae567e680d69f8a00119f82139de68b1b8caaf918", func := "conduit/conduitlaw25.MuxFirst", spec := "muxFirst", inPlace := ["(*sync.WaitGroup).Wait", "internal/race.Disable", "sync/atomic.LoadUint64", "internal/race.Enable", "internal/race.Acquire", "internal/synctest.IsAssociated[sync.WaitGroup]", "sync/atomic.CompareAndSwapUint64", "internal/synctest.Disassociate[sync.WaitGroup]", "internal/race.Write", "internal/synctest.IsInBubble", "sync.runtime_SemacquireWaitGroup", "(*sync.WaitGroup).Add", "internal/race.ReleaseMerge", "internal/synctest.Associate[sync.WaitGroup]", "sync.fatal", "sync/atomic.OrUint64", "sync/atomic.AddUint64", "internal/race.Read", "sync/atomic.StoreUint64", "sync.runtime_Semrelease", "(*sync.WaitGroup).Done"], unfollowed := true, recurses := true, leaving := true, apart := false }
def MuxFirstSaid : Prop := muxFirstRow.holds Try.pinned (OpenSpec.ofChange muxFirstSpec)

/-- ITS FALSE NEIGHBOUR: 'it returns false'. Refute it at one input. -/
def muxFirstWrong : ChangeSpec := { name := "muxFirst", fn := fun _ => fun
  | [d1, d2, d3] => { results := [.lit (.bool false)], args := [d1, d2, d3] }
  | _ => none }
def MuxFirstWrongFalsely : Prop := muxFirstRow.holds Try.pinned (OpenSpec.ofChange muxFirstWrong)

/-- 'conduitlaw25.MuxMemory': WHATEVER THE INPUT: true; the input reads as it did. -/
def muxMemorySpec : ChangeSpec := { name := "muxMemory", fn := fun _ => fun
  | [d1, d2] => { results := [.lit (.bool true)], args := [d1, d2] }
  | _ => none }
def muxMemoryRow : OpenClaim := { program := "ytmllcfkgkkbkpaa", sum := "2c7c755b444a710f3945684ae567e680d69f8a00119f82139de68b1b8caaf918", func := "conduit/conduitlaw25.MuxMemory", spec := "muxMemory", inPlace := ["(*sync.WaitGroup).Wait", "internal/race.Disable", "sync/atomic.LoadUint64", "internal/race.Enable", "internal/race.Acquire", "internal/synctest.IsAssociated[sync.WaitGroup]", "sync/atomic.CompareAndSwapUint64", "internal/synctest.Disassociate[sync.WaitGroup]", "internal/race.Write", "internal/synctest.IsInBubble", "sync.runtime_SemacquireWaitGroup", "(*sync.WaitGroup).Add", "internal/race.ReleaseMerge", "internal/synctest.Associate[sync.WaitGroup]", "sync.fatal", "sync/atomic.OrUint64", "sync/atomic.AddUint64", "internal/race.Read", "sync/atomic.StoreUint64", "sync.runtime_Semrelease", "(*sync.WaitGroup).Done"], unfollowed := true, recurses := true, leaving := true, apart := false }
def MuxMemorySaid : Prop := muxMemoryRow.holds Try.pinned (OpenSpec.ofChange muxMemorySpec)

/-- ITS FALSE NEIGHBOUR: 'it returns false'. Refute it at one input. -/
def muxMemoryWrong : ChangeSpec := { name := "muxMemory", fn := fun _ => fun
  | [d1, d2] => { results := [.lit (.bool false)], args := [d1, d2] }
  | _ => none }
def MuxMemoryWrongFalsely : Prop := muxMemoryRow.holds Try.pinned (OpenSpec.ofChange muxMemoryWrong)

/- THE SECOND FORM. 'bulk': how many values and letters a reading holds, each counted each time it is reached (what is shared counts as often as it is met; a slice's spare places count too). A statement '..UptoSaid' is the law's where the arguments, and the package variables that the reading takes, are together of bulk at most 1048576: NARROWER than '..Said'. Prove '..Said' where nothing that the law and all that it calls make is longer than what came in: it says more and counts as full. Else prove '..UptoSaid'. A law counts once. -/
mutual
def uptoBulk {H : Type} : DataW H → Nat
  | .lit (.string bytes) => bytes.length + 1
  | .lit _ => 1
  | .nil => 1
  | .ptr d => uptoBulk d + 1
  | .slice elems spare => uptoBulkAll elems + uptoBulkAll spare + 1
  | .agg parts => uptoBulkAll parts + 1
  | .iface _ d => uptoBulk d + 1
  | .map entries => uptoBulkEntries entries + 1
  | .held _ => 1
def uptoBulkAll {H : Type} : List (DataW H) → Nat
  | [] => 0
  | d :: r => uptoBulk d + uptoBulkAll r
def uptoBulkEntries {H : Type} : List (Lit × DataW H) → Nat
  | [] => 0
  | x :: r => uptoBulkEntry x + uptoBulkEntries r
def uptoBulkEntry {H : Type} : Lit × DataW H → Nat
  | (.string bytes, d) => bytes.length + uptoBulk d + 1
  | (_, d) => uptoBulk d + 1
 end
def uptoSmall : (H : Type) → List (DataW H) → Bool := fun _ ds => decide (uptoBulkAll ds ≤ 1048576)
def OpenSpec.upto (s : _root_.Go.ChangeSpec) : _root_.Go.OpenSpec := { _root_.Go.OpenSpec.ofChange s with cond := some uptoSmall }

/-- 'conduitlaw25.MuxNumbers', WHERE WHAT IT READS IS OF BULK AT MOST 1048576: true; the input reads as it did. -/
def muxNumbersUptoRow : OpenClaim := { program := "ytmllcfkgkkbkpaa", sum := "2c7c755b444a710f3945684ae567e680d69f8a00119f82139de68b1b8caaf918", func := "conduit/conduitlaw25.MuxNumbers", spec := "muxNumbers", inPlace := ["(*sync.WaitGroup).Wait", "internal/race.Disable", "sync/atomic.LoadUint64", "internal/race.Enable", "internal/race.Acquire", "internal/synctest.IsAssociated[sync.WaitGroup]", "sync/atomic.CompareAndSwapUint64", "internal/synctest.Disassociate[sync.WaitGroup]", "internal/race.Write", "internal/synctest.IsInBubble", "sync.runtime_SemacquireWaitGroup", "(*sync.WaitGroup).Add", "internal/race.ReleaseMerge", "internal/synctest.Associate[sync.WaitGroup]", "sync.fatal", "sync/atomic.OrUint64", "sync/atomic.AddUint64", "internal/race.Read", "sync/atomic.StoreUint64", "sync.runtime_Semrelease", "(*sync.WaitGroup).Done"], unfollowed := true, recurses := true, leaving := true, apart := false, narrowed := true }
def MuxNumbersUptoSaid : Prop := muxNumbersUptoRow.holds Try.pinned (OpenSpec.upto muxNumbersSpec)

/-- 'conduitlaw25.MuxPairs', WHERE WHAT IT READS IS OF BULK AT MOST 1048576: true; the input reads as it did. -/
def muxPairsUptoRow : OpenClaim := { program := "ytmllcfkgkkbkpaa", sum := "2c7c755b444a710f3945684ae567e680d69f8a00119f82139de68b1b8caaf918", func := "conduit/conduitlaw25.MuxPairs", spec := "muxPairs", inPlace := ["(*sync.WaitGroup).Wait", "internal/race.Disable", "sync/atomic.LoadUint64", "internal/race.Enable", "internal/race.Acquire", "internal/synctest.IsAssociated[sync.WaitGroup]", "sync/atomic.CompareAndSwapUint64", "internal/synctest.Disassociate[sync.WaitGroup]", "internal/race.Write", "internal/synctest.IsInBubble", "sync.runtime_SemacquireWaitGroup", "(*sync.WaitGroup).Add", "internal/race.ReleaseMerge", "internal/synctest.Associate[sync.WaitGroup]", "sync.fatal", "sync/atomic.OrUint64", "sync/atomic.AddUint64", "internal/race.Read", "sync/atomic.StoreUint64", "sync.runtime_Semrelease", "(*sync.WaitGroup).Done"], unfollowed := true, recurses := true, leaving := true, apart := false, narrowed := true }
def MuxPairsUptoSaid : Prop := muxPairsUptoRow.holds Try.pinned (OpenSpec.upto muxPairsSpec)

/-- 'conduitlaw25.MuxStreams', WHERE WHAT IT READS IS OF BULK AT MOST 1048576: true; the input reads as it did. -/
def muxStreamsUptoRow : OpenClaim := { program := "ytmllcfkgkkbkpaa", sum := "2c7c755b444a710f3945684ae567e680d69f8a00119f82139de68b1b8caaf918", func := "conduit/conduitlaw25.MuxStreams", spec := "muxStreams", inPlace := ["(*sync.WaitGroup).Wait", "internal/race.Disable", "sync/atomic.LoadUint64", "internal/race.Enable", "internal/race.Acquire", "internal/synctest.IsAssociated[sync.WaitGroup]", "sync/atomic.CompareAndSwapUint64", "internal/synctest.Disassociate[sync.WaitGroup]", "internal/race.Write", "internal/synctest.IsInBubble", "sync.runtime_SemacquireWaitGroup", "(*sync.WaitGroup).Add", "internal/race.ReleaseMerge", "internal/synctest.Associate[sync.WaitGroup]", "sync.fatal", "sync/atomic.OrUint64", "sync/atomic.AddUint64", "internal/race.Read", "sync/atomic.StoreUint64", "sync.runtime_Semrelease", "(*sync.WaitGroup).Done"], unfollowed := true, recurses := true, leaving := true, apart := false, narrowed := true }
def MuxStreamsUptoSaid : Prop := muxStreamsUptoRow.holds Try.pinned (OpenSpec.upto muxStreamsSpec)

/-- 'conduitlaw25.MuxOrders', WHERE WHAT IT READS IS OF BULK AT MOST 1048576: true; the input reads as it did. -/
def muxOrdersUptoRow : OpenClaim := { program := "ytmllcfkgkkbkpaa", sum := "2c7c755b444a710f3945684ae567e680d69f8a00119f82139de68b1b8caaf918", func := "conduit/conduitlaw25.MuxOrders", spec := "muxOrders", inPlace := ["(*sync.WaitGroup).Wait", "internal/race.Disable", "sync/atomic.LoadUint64", "internal/race.Enable", "internal/race.Acquire", "internal/synctest.IsAssociated[sync.WaitGroup]", "sync/atomic.CompareAndSwapUint64", "internal/synctest.Disassociate[sync.WaitGroup]", "internal/race.Write", "internal/synctest.IsInBubble", "sync.runtime_SemacquireWaitGroup", "(*sync.WaitGroup).Add", "internal/race.ReleaseMerge", "internal/synctest.Associate[sync.WaitGroup]", "sync.fatal", "sync/atomic.OrUint64", "sync/atomic.AddUint64", "internal/race.Read", "sync/atomic.StoreUint64", "sync.runtime_Semrelease", "(*sync.WaitGroup).Done"], unfollowed := true, recurses := true, leaving := true, apart := false, narrowed := true }
def MuxOrdersUptoSaid : Prop := muxOrdersUptoRow.holds Try.pinned (OpenSpec.upto muxOrdersSpec)

/-- 'conduitlaw25.MuxFirst', WHERE WHAT IT READS IS OF BULK AT MOST 1048576: true; the input reads as it did. -/
def muxFirstUptoRow : OpenClaim := { program := "ytmllcfkgkkbkpaa", sum := "2c7c755b444a710f3945684ae567e680d69f8a00119f82139de68b1b8caaf918", func := "conduit/conduitlaw25.MuxFirst", spec := "muxFirst", inPlace := ["(*sync.WaitGroup).Wait", "internal/race.Disable", "sync/atomic.LoadUint64", "internal/race.Enable", "internal/race.Acquire", "internal/synctest.IsAssociated[sync.WaitGroup]", "sync/atomic.CompareAndSwapUint64", "internal/synctest.Disassociate[sync.WaitGroup]", "internal/race.Write", "internal/synctest.IsInBubble", "sync.runtime_SemacquireWaitGroup", "(*sync.WaitGroup).Add", "internal/race.ReleaseMerge", "internal/synctest.Associate[sync.WaitGroup]", "sync.fatal", "sync/atomic.OrUint64", "sync/atomic.AddUint64", "internal/race.Read", "sync/atomic.StoreUint64", "sync.runtime_Semrelease", "(*sync.WaitGroup).Done"], unfollowed := true, recurses := true, leaving := true, apart := false, narrowed := true }
def MuxFirstUptoSaid : Prop := muxFirstUptoRow.holds Try.pinned (OpenSpec.upto muxFirstSpec)

/-- 'conduitlaw25.MuxMemory', WHERE WHAT IT READS IS OF BULK AT MOST 1048576: true; the input reads as it did. -/
def muxMemoryUptoRow : OpenClaim := { program := "ytmllcfkgkkbkpaa", sum := "2c7c755b444a710f3945684ae567e680d69f8a00119f82139de68b1b8caaf918", func := "conduit/conduitlaw25.MuxMemory", spec := "muxMemory", inPlace := ["(*sync.WaitGroup).Wait", "internal/race.Disable", "sync/atomic.LoadUint64", "internal/race.Enable", "internal/race.Acquire", "internal/synctest.IsAssociated[sync.WaitGroup]", "sync/atomic.CompareAndSwapUint64", "internal/synctest.Disassociate[sync.WaitGroup]", "internal/race.Write", "internal/synctest.IsInBubble", "sync.runtime_SemacquireWaitGroup", "(*sync.WaitGroup).Add", "internal/race.ReleaseMerge", "internal/synctest.Associate[sync.WaitGroup]", "sync.fatal", "sync/atomic.OrUint64", "sync/atomic.AddUint64", "internal/race.Read", "sync/atomic.StoreUint64", "sync.runtime_Semrelease", "(*sync.WaitGroup).Done"], unfollowed := true, recurses := true, leaving := true, apart := false, narrowed := true }
def MuxMemoryUptoSaid : Prop := muxMemoryUptoRow.holds Try.pinned (OpenSpec.upto muxMemorySpec)

end Rows
end Go.Proofs.Ytmllcfkgkkbkpaa
