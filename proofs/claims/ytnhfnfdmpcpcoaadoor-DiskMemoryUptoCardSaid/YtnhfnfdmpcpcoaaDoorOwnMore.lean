/-
  More on rows of bytes of the call's own.
-/
import Derived.Test.YtnhfnfdmpcpcoaaDoorOwn
namespace Go.Proofs.YtnhfnfdmpcpcoaaDoor
open Go.RowKit

theorem Own8.opened {w : World} {base : Nat} {v : Value} {l : List UInt8} {n : Nat} (h : Own8 w base v l) (hn : l.length = n) (h0 : 0 < n) :
    ∃ g c, v = .slice (some ⟨g, 0, none⟩) n c ∧ base ≤ g ∧ g < w.heap.size := by
  subst hn
  obtain ⟨p, c, rfl, h1, h2, h3, h4⟩ := h.shape
  obtain ⟨b, o, rfl, _⟩ := h3 h0
  obtain ⟨k1, k2, k3, _⟩ := h4 _ rfl
  dsimp only at k1 k2 k3
  subst k3
  exact ⟨b, c, rfl, k1, k2⟩

/-- a store into bytes of the call's own -/
theorem Own8.stored {w : World} {base g n cap : Nat} {l : List UInt8} (h : Own8 w base (.slice (some ⟨g, 0, none⟩) n cap) l) (hn : l.length = n) (j : Nat) (z : Int) (h0 : 0 ≤ z) (h1 : z ≤ 255) :
    Own8 (w.setCell ⟨g, j, none⟩ (.int .u8 z)) base (.slice (some ⟨g, 0, none⟩) n cap) (l.set j (ubyte z)) ∧ w.grownBy (w.setCell ⟨g, j, none⟩ (.int .u8 z)) (some g) := by
  subst hn
  have := World.ownsRow.stored h j (.int .u8 z)
  refine ⟨?_, this.2⟩
  unfold Own8
  rw [List.length_set]
  have e : by8 (l.set j (ubyte z)) = (by8 l).set j (.int .u8 z) := by simp only [by8, List.map_set, ubyte_toNat h0 h1]
  rw [e]; exact this.1
theorem Own8.cells {w : World} {base g n cap : Nat} {l : List UInt8} (h : Own8 w base (.slice (some ⟨g, 0, none⟩) n cap) l) (hn : l.length = n) {j : Nat} (hj : j < n) :
    w.cell? ⟨g, j, none⟩ = some (.int .u8 (bt l j)) ∧ w.frozen? ⟨g, j, none⟩ = false := by
  subst hn
  exact ⟨(World.ownsRow.cellAt h j (by omega)).trans (by8_get l j hj), World.ownsRow.frozenAt h j⟩

end Go.Proofs.YtnhfnfdmpcpcoaaDoor
