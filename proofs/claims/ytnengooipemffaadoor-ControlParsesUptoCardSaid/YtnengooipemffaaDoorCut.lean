/-
  strings.Cut at a byte.
-/
import Derived.Test.YtnengooipemffaaDoorStrB
import Derived.Test.YtnengooipemffaaDoorShelf
import Derived.Test.YtnengooipemffaaDoorCutLaw
namespace Go.Proofs.YtnengooipemffaaDoor
open Go.RowKit

/-- the library's variable holds some number -/
def MaxC (w : World) : Prop := ∃ m : Int, w.cell? ⟨2, 0, none⟩ = some (.int .i64 m)
theorem MaxC.below {w w' : World} (h : MaxC w) (hb : Below w.heap.size w w') : MaxC w' := by
  obtain ⟨m, hm⟩ := h
  exact ⟨m, (hb.cell (World.block_lt_of_cell? w _ hm)).trans hm⟩
theorem MaxC.of {w : World} (h : w.ShapedOpen Tryd.prog) : MaxC w := Tryd.laysM219.s1_3 w h

theorem cut_none (c : UInt8) (s : ByteArray) (w : World) (hm : MaxC w) (hs : s.size ≤ 4000000000) (h : cutB c s.data.toList = none) :
    Calls Tryd.prog 40 #[.string s, .string ⟨#[c]⟩] w fun e w' => e = .returned (.tuple #[.string s, .string ⟨#[]⟩, .bool false]) ∧ Below w.heap.size w w' := by
  obtain ⟨m, hm⟩ := hm
  refine (Tryd.strings_Cut s ⟨#[c]⟩ m w (by omega) hm).mono ?_
  rintro e w' ⟨rfl, n, rfl⟩
  have e1 : Lib.cut s.data.toList (⟨#[c]⟩ : ByteArray).data.toList = (s.data.toList, [], false) := by
    have := cut_lib c s.data.toList
    rw [h] at this
    exact this
  rw [e1]
  refine ⟨?_, bdrewN (Below.refl _ _) _⟩
  cases s
  simp
theorem cut_some (c : UInt8) (s : ByteArray) (w : World) (hm : MaxC w) (hs : s.size ≤ 4000000000) (a b : List UInt8) (h : cutB c s.data.toList = some (a, b)) :
    Calls Tryd.prog 40 #[.string s, .string ⟨#[c]⟩] w fun e w' => e = .returned (.tuple #[.string ⟨a.toArray⟩, .string ⟨b.toArray⟩, .bool true]) ∧ Below w.heap.size w w' := by
  obtain ⟨m, hm⟩ := hm
  refine (Tryd.strings_Cut s ⟨#[c]⟩ m w (by omega) hm).mono ?_
  rintro e w' ⟨rfl, n, rfl⟩
  have e1 : Lib.cut s.data.toList (⟨#[c]⟩ : ByteArray).data.toList = (a, b, true) := by
    have := cut_lib c s.data.toList
    rw [h] at this
    exact this
  rw [e1]
  exact ⟨rfl, bdrewN (Below.refl _ _) _⟩
end Go.Proofs.YtnengooipemffaaDoor
