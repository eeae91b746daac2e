/-
  alive, of chapter 15: one call of Parse whose answer the document fixes.
-/
import Derived.Test.YtnengooipemffaaDoorCParse
namespace Go.Proofs.YtnengooipemffaaDoor
open Go.RowKit

set_option maxHeartbeats 1000000 in
theorem one_any (s : ByteArray) (w : World) :
    Calls Tryd.prog 16 #[.string s] w fun e w' => ∃ p, e = .returned (.slice p 1 1) ∧ In2 w' p [(ccW, s.data.toList)] ∧ Below w.heap.size w w' := by
  go_enter Tryd.func16, Tryd.ntmps16
  go_wp2_with fail
  go_ret
  refine ⟨_, rfl, In2.lit w _ _ _ _ ?_, (Below.refl _ w).alloc (Nat.le_refl _) _⟩
  simp [pr, prV, ccW]

def aliveT : List UInt8 := [77, 97, 120, 45, 65, 103, 101, 61, 53, 44, 32, 110, 111, 45, 99, 97, 99, 104, 101, 61, 34, 88, 34]
def aliveD : List Ent := dirsOf (valuesOf [(ccW, aliveT)] ccW)
theorem alive_ctl : ctlT [(ccW, aliveT)] = .agg #[.bool false, .bool true, .bool false, .bool false, .bool false, .bool false, .int .i64 5, .int .i64 (-1), .int .i64 (-1), .int .i64 (-1)] := by
  have e0 : dirsOf (valuesOf [(ccW, aliveT)] ccW) = [([109, 97, 120, 45, 97, 103, 101], ([53], true)), ([110, 111, 45, 99, 97, 99, 104, 101], ([88], true))] := by decide +kernel
  have e1 : oldT [(ccW, aliveT)] = false := by decide +kernel
  unfold ctlT
  rw [e0, e1]
  unfold ctlV
  have a0 : hasK [([109, 97, 120, 45, 97, 103, 101], ([53], true)), ([110, 111, 45, 99, 97, 99, 104, 101], ([88], true))] nsW = false := by decide +kernel
  have a1 : hasK [([109, 97, 120, 45, 97, 103, 101], ([53], true)), ([110, 111, 45, 99, 97, 99, 104, 101], ([88], true))] ncW = true := by decide +kernel
  have a2 : hasK [([109, 97, 120, 45, 97, 103, 101], ([53], true)), ([110, 111, 45, 99, 97, 99, 104, 101], ([88], true))] prW = false := by decide +kernel
  have a3 : hasK [([109, 97, 120, 45, 97, 103, 101], ([53], true)), ([110, 111, 45, 99, 97, 99, 104, 101], ([88], true))] puW = false := by decide +kernel
  have a4 : hasK [([109, 97, 120, 45, 97, 103, 101], ([53], true)), ([110, 111, 45, 99, 97, 99, 104, 101], ([88], true))] muW = false := by decide +kernel
  have a5 : hasK [([109, 97, 120, 45, 97, 103, 101], ([53], true)), ([110, 111, 45, 99, 97, 99, 104, 101], ([88], true))] pxW = false := by decide +kernel
  have a6 : hasK [([109, 97, 120, 45, 97, 103, 101], ([53], true)), ([110, 111, 45, 99, 97, 99, 104, 101], ([88], true))] ocW = false := by decide +kernel
  have a7 : numM [([109, 97, 120, 45, 97, 103, 101], ([53], true)), ([110, 111, 45, 99, 97, 99, 104, 101], ([88], true))] maW = 5 := by decide +kernel
  have a8 : numM [([109, 97, 120, 45, 97, 103, 101], ([53], true)), ([110, 111, 45, 99, 97, 99, 104, 101], ([88], true))] smW = -1 := by decide +kernel
  have a9 : numM [([109, 97, 120, 45, 97, 103, 101], ([53], true)), ([110, 111, 45, 99, 97, 99, 104, 101], ([88], true))] mfW = -1 := by decide +kernel
  have a10 : patM [([109, 97, 120, 45, 97, 103, 101], ([53], true)), ([110, 111, 45, 99, 97, 99, 104, 101], ([88], true))] = -1 := by decide +kernel
  rw [a0, a1, a2, a3, a4, a5, a6, a7, a8, a9, a10]
  rfl

set_option maxHeartbeats 4000000 in
theorem alive15_any (w : World) (hMC : MaxC w) :
    Calls Tryd.prog 11 #[] w fun e w' => e = .returned (.bool true) ∧ Below w.heap.size w w' := by
  go_enter Tryd.func11, Tryd.ntmps11
  go_wp2_with fail
  refine (one_any ⟨aliveT.toArray⟩ w).mono ?_
  rintro e w1 ⟨p1, rfl, hin1, hb1⟩
  have hcall := cparse_any [(ccW, aliveT)] p1 1 1 rfl (by omega) w1 hin1 (by decide) (by decide +kernel) (hMC.below hb1)
  rw [alive_ctl] at hcall
  go_wp2_with fail
  refine hcall.mono ?_
  rintro e w2 ⟨rfl, hb2⟩
  have hs1 := hb1.size
  have hB2 := hb1.trans (hb2.mono hs1)
  have hs2 := hb2.size
  clear hcall hin1
  go_wp2_with fail
  go_ret
  exact ⟨rfl, hB2.alloc (by omega) _⟩
end Go.Proofs.YtnengooipemffaaDoor
