/-
  TokLists: every List answers the elements that the document says; and the call whose answer the document fixes.
-/
import Derived.Test.YtpchpfhnimgdaaaDoorList
namespace Go.Proofs.YtpchpfhnimgdaaaDoor
open Go.RowKit

def aliveL : List (List UInt8) := [[97], [34, 98, 44, 99, 34], [100]]
theorem alive_list : listOf (⟨#[97, 44, 32, 34, 98, 44, 99, 34, 32, 44, 44, 100]⟩ : ByteArray).data.toList = aliveL := by decide +kernel

set_option maxHeartbeats 1000000 in
theorem alive_any (w : World) : Calls Tryd.prog 16 #[] w fun e w' => e = .returned (.bool true) ∧ Below w.heap.size w w' := by
  go_enter Tryd.func16, Tryd.ntmps16
  go_wp2_with fail
  refine (tokList_any _ _ (by decide)).mono ?_
  rintro e w1 ⟨v1, rfl, hown1, hb1⟩
  rw [alive_list] at hown1
  obtain ⟨p, c, rfl, k1, k2, hin, _⟩ := hown1.shape (n := 3) rfl
  have hs1 := hb1.size
  have hl : InS (w1.alloc (.cells #[.string ⟨#[97]⟩, .string ⟨#[34, 98, 44, 99, 34]⟩, .string ⟨#[100]⟩] 9)) (some ⟨w1.heap.size, 0, none⟩) aliveL :=
    InV.lit w1 (tx aliveL) #[.string ⟨#[97]⟩, .string ⟨#[34, 98, 44, 99, 34]⟩, .string ⟨#[100]⟩] 9 (0, 0) rfl
  have hin2 := hin.alloc (.cells #[.string ⟨#[97]⟩, .string ⟨#[34, 98, 44, 99, 34]⟩, .string ⟨#[100]⟩] 9)
  go_wp2_with fail
  refine (sameTexts_any aliveL aliveL _ _ 3 _ 3 _ rfl rfl (by unfold maxLen; decide) (by unfold maxLen; decide) _ hin2 hl).mono ?_
  rintro e w2 ⟨rfl, hb2⟩
  go_wp2_with fail
  go_ret
  exact ⟨ret_bool (by simp), (hb1.alloc hs1 _).trans (hb2.mono (by simp; omega))⟩

theorem tokLists_walk (s : ByteArray) (w : World) (hs : s.data.toList.length ≤ 1048576) :
    Calls Tryd.prog 4 #[.string s] w fun e w' => e = .returned (.bool true) ∧ Below w.heap.size w w' := by
  rw [size_list] at hs
  have hll : (listOf s.data.toList).length ≤ 1048577 := by
    have h1 := pieces_length 44 s.data.toList
    have h2 : (listOf s.data.toList).length ≤ ((pieces 44 s.data.toList).map trim).length := List.length_filter_le _ _
    rw [List.length_map] at h2
    rw [size_list] at h1
    omega
  go_enter Tryd.func4, Tryd.ntmps4
  go_wp2_with fail
  refine (alive_any _).mono ?_
  rintro e w1 ⟨rfl, hb1⟩
  have hs1 := hb1.size
  go_wp2_with fail
  refine (tokList_any s _ (by omega)).mono ?_
  rintro e w2 ⟨v2, rfl, hown2, hb2⟩
  have hs2 := hb2.size
  go_wp2_with fail
  refine (refList_any s _ (by omega)).mono ?_
  rintro e w3 ⟨v3, rfl, hown3, hb3⟩
  have hown2' := hown2.below hb3
  obtain ⟨p, c, rfl, k1, k2, hin, _⟩ := hown2'.shape rfl
  obtain ⟨p', c', rfl, k1', k2', hin', _⟩ := hown3.shape rfl
  go_wp2_with fail
  refine (sameTexts_any _ _ _ _ _ _ _ _ rfl rfl (by unfold maxLen; omega) (by unfold maxLen; omega) _ hin hin').mono ?_
  rintro e w4 ⟨rfl, hb4⟩
  have hs3 := hb3.size
  go_wp2_with fail
  go_ret
  exact ⟨ret_bool (by simp), ((hb1.trans (hb2.mono hs1)).trans (hb3.mono (by omega))).trans (hb4.mono (by omega))⟩
end Go.Proofs.YtpchpfhnimgdaaaDoor
