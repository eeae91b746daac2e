/-
  alive, of chapter 17: Names and Key once, whose answers the document fixes.
-/
import Derived.Test.YtnibecboimgljaaDoorVNames
import Derived.Test.YtnibecboimgljaaDoorVKey
import Derived.Test.YtnibecboimgljaaDoorSameTexts
namespace Go.Proofs.YtnibecboimgljaaDoor
open Go.RowKit

def accW : List UInt8 := [65, 99, 99, 101, 112, 116]
def aaL : List Pair := [([86, 97, 114, 121], accW ++ [44, 32, 97, 99, 99, 101, 112, 116, 45, 108, 97, 110, 103, 117, 97, 103, 101]), ([118, 97, 114, 121], accW)]
def acc1 : List UInt8 := [97, 99, 99, 101, 112, 116]
def acc2 : List UInt8 := [97, 99, 99, 101, 112, 116, 45, 108, 97, 110, 103, 117, 97, 103, 101]
def askL : List Pair := [(accW, [97, 32, 44, 98]), ([88], [99])]
def keyA : List UInt8 := acc1 ++ [58, 97, 44, 98, 10] ++ acc2 ++ [10]
theorem alive_tokens : tokensOf aaL varyB = [acc1, acc2, acc1] := by decide +kernel
theorem alive_names : namesT aaL = ([acc1, acc2], true) := by
  rw [namesT_no aaL (by rw [alive_tokens]; decide)]
  rw [alive_tokens, ← namesR_eq]
  decide +kernel
theorem alive_key : keyT [acc1, acc2] askL = keyA := by decide +kernel

set_option maxHeartbeats 4000000 in
theorem alive17_any (w : World) :
    Calls Tryd.prog 10 #[] w fun e w' => e = .returned (.bool true) ∧ Below w.heap.size w w' := by
  have hb0 := (Below.refl w.heap.size w).alloc (Nat.le_refl _) (.cells #[.string ⟨#[86, 97, 114, 121]⟩, .string ⟨#[65, 99, 99, 101, 112, 116, 44, 32, 97, 99, 99, 101, 112, 116, 45, 108, 97, 110, 103, 117, 97, 103, 101]⟩, .string ⟨#[118, 97, 114, 121]⟩, .string ⟨#[65, 99, 99, 101, 112, 116]⟩] 35)
  have hc1 := names_any aaL _ 2 2 rfl (by omega) (by decide) (by rw [alive_tokens]; decide) _ (In2.lit w aaL #[.string ⟨#[86, 97, 114, 121]⟩, .string ⟨#[65, 99, 99, 101, 112, 116, 44, 32, 97, 99, 99, 101, 112, 116, 45, 108, 97, 110, 103, 117, 97, 103, 101]⟩, .string ⟨#[118, 97, 114, 121]⟩, .string ⟨#[65, 99, 99, 101, 112, 116]⟩] 35 (0, 0) (by simp [pr, prV, aaL, accW]))
  rw [alive_names] at hc1
  go_enter Tryd.func10, Tryd.ntmps10
  go_wp2_with fail
  refine hc1.mono ?_
  rintro e w1 ⟨v1, rfl, hown1, hb1⟩
  have hB1 := hb0.trans (hb1.mono (by simp))
  have hs1 := hB1.size
  obtain ⟨p1, c1, rfl, k1, k2, hin1, _⟩ := hown1.shape (n := 2) rfl
  unfold maxLen at k2
  have hB2 := hB1.alloc hs1 (.cells #[.string ⟨#[65, 99, 99, 101, 112, 116]⟩, .string ⟨#[97, 32, 44, 98]⟩, .string ⟨#[88]⟩, .string ⟨#[99]⟩] 35)
  have hc2 := key_any [acc1, acc2] p1 2 c1 rfl (by omega) askL _ 2 2 rfl (by omega) (by decide) (by decide) (by decide +kernel) (by rw [alive_key]; decide) _ (hin1.alloc (.cells #[.string ⟨#[65, 99, 99, 101, 112, 116]⟩, .string ⟨#[97, 32, 44, 98]⟩, .string ⟨#[88]⟩, .string ⟨#[99]⟩] 35)) (In2.lit w1 askL #[.string ⟨#[65, 99, 99, 101, 112, 116]⟩, .string ⟨#[97, 32, 44, 98]⟩, .string ⟨#[88]⟩, .string ⟨#[99]⟩] 35 (0, 0) (by simp [pr, prV, askL, accW]))
  rw [alive_key] at hc2
  clear hc1 hown1
  go_wp2_with fail
  refine hc2.mono ?_
  rintro e w2 ⟨rfl, hb2⟩
  have hB3 := hB2.trans (hb2.mono (by simp; omega))
  have hs3 := hB3.size
  have hin2 := (hin1.alloc (.cells #[.string ⟨#[65, 99, 99, 101, 112, 116]⟩, .string ⟨#[97, 32, 44, 98]⟩, .string ⟨#[88]⟩, .string ⟨#[99]⟩] 35)).below hb2
  have hlit : InS (w2.alloc (.cells #[.string ⟨acc1.toArray⟩, .string ⟨acc2.toArray⟩] 9)) (some ⟨w2.heap.size, 0, none⟩) [acc1, acc2] := InV.lit w2 _ _ _ (0, 0) rfl
  have hst := sameTexts_same [acc1, acc2] p1 _ 2 c1 2 2 rfl rfl (by unfold maxLen; omega) _ (hin2.alloc (.cells #[.string ⟨acc1.toArray⟩, .string ⟨acc2.toArray⟩] 9)) hlit
  have hB4 := hB3.alloc hs3 (.cells #[.string ⟨acc1.toArray⟩, .string ⟨acc2.toArray⟩] 9)
  clear hc2
  go_wp2_with fail
  refine hst.mono ?_
  rintro e w3 ⟨rfl, hb3⟩
  have hB5 := hB4.trans (hb3.mono (by simp; omega))
  clear hst
  go_wp2_with fail
  go_ret
  exact ⟨rfl, hB5⟩
end Go.Proofs.YtnibecboimgljaaDoor
