/-
  What stays as it was from world to world.
-/
import Derived.Test.YtpchpfhnimgdaaaDoorOwn
namespace Go.Proofs.YtpchpfhnimgdaaaDoor
open Go.RowKit

theorem cell_keep {w w' : World} {a : Addr} {v : Value} (h : w.cell? a = some v) (hb : Below w.heap.size w w') : w'.cell? a = some v :=
  (hb.cell (World.block_lt_of_cell? w _ h)).trans h
theorem ba_self (s : ByteArray) : (⟨s.data.toList.toArray⟩ : ByteArray) = s := by cases s; simp
theorem below_on {B : Nat} {w w1 w2 : World} (h : Below B w w1) (hs : B ≤ w.heap.size) (h2 : Below w1.heap.size w1 w2) : Below B w w2 :=
  h.trans (h2.mono (Nat.le_trans hs h.size))
end Go.Proofs.YtpchpfhnimgdaaaDoor
