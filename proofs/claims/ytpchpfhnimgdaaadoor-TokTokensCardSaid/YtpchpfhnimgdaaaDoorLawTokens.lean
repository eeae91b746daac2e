/-
  TokTokens: every Token, Trim and Fold answers what the document says.
-/
import Derived.Test.YtpchpfhnimgdaaaDoorTrim
import Derived.Test.YtpchpfhnimgdaaaDoorFold
namespace Go.Proofs.YtpchpfhnimgdaaaDoor
open Go.RowKit

theorem isTok_a : isTok (⟨#[97, 33]⟩ : ByteArray).data.toList = true := by decide +kernel

set_option maxHeartbeats 1000000 in
theorem tokTokens_walk (s : ByteArray) (w : World) (hs : s.data.toList.length ≤ 140737488351232) :
    Calls Tryd.prog 3 #[.string s] w fun e w' => e = .returned (.bool true) ∧ Below w.heap.size w w' := by
  rw [size_list] at hs
  go_enter Tryd.func3, Tryd.ntmps3
  go_wp2_with fail
  refine (tok_any _ _ (by unfold maxLen; decide)).mono ?_
  rintro e w1 ⟨rfl, rfl⟩
  rw [isTok_a]
  go_wp2_with fail
  refine (tok_any s _ (by unfold maxLen; omega)).mono ?_
  rintro e w1 ⟨rfl, rfl⟩
  go_wp2_with fail
  refine (refTok_any s _ (by unfold maxLen; omega)).mono ?_
  rintro e w1 ⟨rfl, rfl⟩
  have hself : (isTok s.data.toList == isTok s.data.toList) = true := by simp
  go_wp2_with fail
  refine (tokTrim_any s _ (by unfold maxLen; omega)).mono ?_
  rintro e w1 ⟨rfl, hb1⟩
  go_wp2_with fail
  refine (refTrim_any s _ (by unfold maxLen; omega)).mono ?_
  rintro e w2 ⟨rfl, rfl⟩
  generalize (⟨(trim s.data.toList).toArray⟩ : ByteArray) = t
  have hself2 : (t.toList == t.toList) = true := by simp
  go_wp2_with fail
  refine (tokFold_any s _ hs).mono ?_
  rintro e w3 ⟨rfl, hb3⟩
  go_wp2_with fail
  refine (lower_any s _ hs).mono ?_
  rintro e w4 ⟨rfl, hb4⟩
  generalize (⟨(fold s.data.toList).toArray⟩ : ByteArray) = u
  have hself3 : (u.toList == u.toList) = true := by simp
  have s1 := hb1.size
  have s3 := hb3.size
  go_wp2_with fail
  go_ret
  exact ⟨ret_bool (by simp), (hb1.trans (hb3.mono s1)).trans (hb4.mono (by omega))⟩
end Go.Proofs.YtpchpfhnimgdaaaDoor
