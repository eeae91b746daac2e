/-
  alive, of chapter 04: one call of Parse whose answer the document fixes.
-/
import Derived.Test.YtpgjlepjhbjhfaaDoorParse
import Derived.Lib.LaidU8T
namespace Go.Proofs.YtpgjlepjhbjhfaaDoor
open Go.RowKit Go.Shelf

/-- what the laid variables give -/
abbrev Tabs (w : World) : Prop := Lib.Utf8Tabs 2 3 w
theorem u8Extra : U8Extra Tryd.prog Tryd.lays260_ren := ⟨by kernel_rfl, by kernel_rfl, by kernel_rfl, by kernel_rfl, by kernel_rfl, by kernel_rfl, by kernel_rfl⟩
theorem tabs_of {w : World} (h3 : Lib.VarReads Tryd.prog w "unicode/utf8.first" Lib.firstData) (h4 : Lib.VarReads Tryd.prog w "unicode/utf8.acceptRanges" Lib.acceptData) : Tabs w :=
  utf8Tabs_of_readsT (U8Types.of260 Tryd.lays260) u8Extra h3 h4

def aliveL : List UInt8 := [65, 58, 32, 98, 13, 10, 99, 58, 9, 32, 100, 32, 13, 10]
theorem parse_alive : parseT aliveL = ([([65], [98]), ([99], [100])], 0) := by
  unfold parseT
  rw [parseA_go [] aliveL (by decide) (by decide) (by decide) (by decide)]
  rw [show aliveL.drop (aliveL.findIdx endB + 2) = [99, 58, 9, 32, 100, 32, 13, 10] by decide]
  rw [parseA_go _ _ (by decide) (by decide) (by decide) (by decide)]
  rw [show ([99, 58, 9, 32, 100, 32, 13, 10] : List UInt8).drop (([99, 58, 9, 32, 100, 32, 13, 10] : List UInt8).findIdx endB + 2) = [] by decide, parseA_nil]
  decide
set_option maxHeartbeats 4000000 in
set_option maxRecDepth 100000 in
theorem alive4_any (w : World) (hM : MaxC w) (hT : Tabs w) :
    Calls Tryd.prog 19 #[] w fun e w' => e = .returned (.bool true) ∧ Below w.heap.size w w' := by
  have kc : (convert 33 33 (.slice (some ⟨w.heap.size, 0, none⟩) 14 14)).run Tryd.prog (w.alloc (.cells #[.int .u8 65, .int .u8 58, .int .u8 32, .int .u8 98, .int .u8 13, .int .u8 10, .int .u8 99, .int .u8 58, .int .u8 9, .int .u8 32, .int .u8 100, .int .u8 32, .int .u8 13, .int .u8 10] 5)) = .ok (.slice (some ⟨w.heap.size, 0, none⟩) 14 14) (w.alloc (.cells #[.int .u8 65, .int .u8 58, .int .u8 32, .int .u8 98, .int .u8 13, .int .u8 10, .int .u8 99, .int .u8 58, .int .u8 9, .int .u8 32, .int .u8 100, .int .u8 32, .int .u8 13, .int .u8 10] 5 (14, 15))) := Lib.run_convert_bytes_const w _ _ #[.int .u8 65, .int .u8 58, .int .u8 32, .int .u8 98, .int .u8 13, .int .u8 10, .int .u8 99, .int .u8 58, .int .u8 9, .int .u8 32, .int .u8 100, .int .u8 32, .int .u8 13, .int .u8 10] 14 14 Tryd.underlying33 Tryd.underlying5
  have hb0 := (Below.refl w.heap.size w).alloc (Nat.le_refl _) (.cells #[.int .u8 65, .int .u8 58, .int .u8 32, .int .u8 98, .int .u8 13, .int .u8 10, .int .u8 99, .int .u8 58, .int .u8 9, .int .u8 32, .int .u8 100, .int .u8 32, .int .u8 13, .int .u8 10] 5 (14, 15))
  have hs0 := hb0.size
  have hcall := parse_any aliveL _ 14 14 rfl (by omega) (by unfold maxLen; omega) (by omega) _ (hM.below hb0) (Utf8Tabs_below hT hb0) (In8.lit w aliveL #[.int .u8 65, .int .u8 58, .int .u8 32, .int .u8 98, .int .u8 13, .int .u8 10, .int .u8 99, .int .u8 58, .int .u8 9, .int .u8 32, .int .u8 100, .int .u8 32, .int .u8 13, .int .u8 10] (14, 15) rfl)
  rw [parse_alive] at hcall
  go_enter Tryd.func19, Tryd.ntmps19
  go_wp2_with fail
  refine hcall.mono ?_
  rintro e w1 ⟨v1, rfl, hown1, hb1⟩
  obtain ⟨p1, c1, rfl, _, _, hin1, _⟩ := Own2.shape hown1 rfl
  have hb1u := hb0.trans (hb1.mono hs0)
  have hs1 := hb1u.size
  go_wp2_with fail
  refine (sameFields_same [([65], [98]), ([99], [100])] _ _ _ _ _ _ rfl rfl (by decide) _ (hin1.alloc _) (In2.lit w1 _ _ _ _ rfl)).mono ?_
  rintro e w2 ⟨rfl, hb2⟩
  go_wp2_with fail
  go_ret
  exact ⟨rfl, (hb1u.alloc hs1 _).trans (hb2.mono (by simp; omega))⟩
end Go.Proofs.YtpgjlepjhbjhfaaDoor
