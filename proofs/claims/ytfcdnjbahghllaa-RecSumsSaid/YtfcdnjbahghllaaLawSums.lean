/-
  RecSums: the program's check sum and the document's are one, and the bytes are left as they were.
-/
import Derived.Test.YtfcdnjbahghllaaAlive
namespace Go.Proofs.Ytfcdnjbahghllaa
open Go.RowKit

set_option maxHeartbeats 1000000 in
theorem recSums_walk (l : List UInt8) (p : Option Addr) (c : Nat) (w : World) (hr : l.length ≤ 140737488351232) (h : In8 w p l) :
    Calls Try.prog 3 #[.slice p l.length c] w fun e w' => e = .returned (.bool true) ∧ Below w.heap.size w w' := by
  go_enter Try.func3, Try.ntmps3
  go_wp2_with fail
  refine (alive_any _).mono ?_
  rintro e w1 ⟨rfl, hb1⟩
  have h1 := h.below hb1
  go_wp2_with fail
  refine (spare_any l p _ c rfl hr w1 h1).mono ?_
  rintro e w2 ⟨v2, rfl, hown2, hb2⟩
  have h2 := h1.below hb2
  obtain ⟨p2, c2, rfl, hc1, hc2, hin⟩ := hown2.in8n (n := l.length + 8) (by simp [marks_length])
  have hin2 := hin.fore
  unfold maxLen at hc2
  go_wp2_with fail
  refine (recSum_any l p2 _ c2 rfl (by unfold maxLen; omega) w2 hin2).mono ?_
  rintro e w3 ⟨rfl, rfl⟩
  go_wp2_with fail
  refine (refSum_any l p _ c rfl (by unfold maxLen; omega) w2 h2).mono ?_
  rintro e w3 ⟨rfl, rfl⟩
  go_wp2_with fail
  refine (spare_any l p _ c rfl hr w2 h2).mono ?_
  rintro e w3 ⟨v3, rfl, hown3, hb3⟩
  have hin3 := hin.below hb3
  obtain ⟨p3, c3, rfl, hd1, hd2, hin4⟩ := hown3.in8n (n := l.length + 8) (by simp [marks_length])
  go_wp2_with fail
  refine (sameBytes_any _ _ p2 p3 _ c2 _ c3 (by simp [marks_length]) (by simp [marks_length]) (by unfold maxLen; omega) (by unfold maxLen; omega) w3 hin3 hin4).mono ?_
  rintro e w4 ⟨rfl, hb4⟩
  go_wp2_with fail
  go_ret
  exact ⟨ret_bool (by simp), ((hb1.trans (hb2.mono hb1.size)).trans (hb3.mono (Nat.le_trans hb1.size hb2.size))).trans (hb4.mono (Nat.le_trans (Nat.le_trans hb1.size hb2.size) hb3.size))⟩
end Go.Proofs.Ytfcdnjbahghllaa
