/-
  ControlSeconds: every Seconds answers the document's number.
-/
import Derived.Test.YtnengooipemffaaDoorSecs
namespace Go.Proofs.YtnengooipemffaaDoor
open Go.RowKit

theorem controlSeconds_walk (s : ByteArray) (w : World) (hs : s.data.toList.length ≤ 140737488351232) :
    Calls Tryd.prog 3 #[.string s] w fun e w' => e = .returned (.bool true) ∧ Below w.heap.size w w' := by
  rw [size_list] at hs
  have h7 := seconds_any ⟨#[48, 48, 55]⟩ w (by decide)
  rw [show secT (⟨#[48, 48, 55]⟩ : ByteArray).data.toList = 7 by decide] at h7
  obtain ⟨z, hz⟩ : ∃ z, z = secT s.data.toList := ⟨_, rfl⟩
  have h8 := fun W => seconds_any s W hs
  have h9 := fun W => refSeconds_any s W hs
  rw [← hz] at h8 h9
  have H8 := Lib.hid h8
  have H9 := Lib.hid h9
  clear hz h8 h9
  have t1 : (z == z) = true := by simp
  go_enter Tryd.func3, Tryd.ntmps3
  go_wp2_with fail
  refine h7.mono ?_
  rintro e w1 ⟨rfl, hb1⟩
  go_wp2_with fail
  refine (H8.out _).mono ?_
  rintro e w2 ⟨rfl, hb2⟩
  go_wp2_with fail
  refine (H9.out _).mono ?_
  rintro e w3 ⟨rfl, rfl⟩
  go_wp2_with fail
  go_ret
  exact ⟨rfl, hb1.trans (hb2.mono hb1.size)⟩
end Go.Proofs.YtnengooipemffaaDoor
