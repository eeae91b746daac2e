/-
  A world in which the library's two tables, and bytes.ErrTooLarge, hold what its text lays: for the witness of a row that lists them.
-/
import Derived.Test.YtpgjlepjhbjhfaaDoorRows
import Derived.Lib.LaidU8
import Derived.LaidLaws
namespace Go.Proofs.YtpgjlepjhbjhfaaDoor
open Go.RowKit

noncomputable def laidWorld (os : Os) : World :=
  let w0 := World.holding Tryd.prog os ⟨#[], #[], []⟩
  let put (h : Array Obj) (g : Nat) (cs : Array Value) : Array Obj := h.modify g fun
    | .cells _ t frozen => .cells cs t frozen
    | o => o
  let h1 := put w0.heap 2 (Lib.firstTab.map fun z => Value.int .u8 z).toArray
  let h2 := put h1 3 ((List.range 16).flatMap fun i => [Value.int .u8 (Lib.accLo i), Value.int .u8 (Lib.accHi i)]).toArray
  let h3 := put h2 1 #[.iface 127 (.pointer (some ⟨h2.size, 0, none⟩))]
  { w0 with heap := h3.push (.cells #[.string ⟨#[98, 121, 116, 101, 115, 46, 66, 117, 102, 102, 101, 114, 58, 32, 116, 111, 111, 32, 108, 97, 114, 103, 101]⟩] 141) }
end Go.Proofs.YtpgjlepjhbjhfaaDoor
