/-
  VaryNames: every Names answers the document's names.
-/
import Derived.Test.YtnibecboimgljaaDoorAlive17
import Derived.Test.YtnibecboimgljaaDoorVSize
namespace Go.Proofs.YtnibecboimgljaaDoor
open Go.RowKit

set_option maxHeartbeats 4000000 in
theorem varyNames_walk (L : List Pair) (p : Option Addr) (c : Nat) (w : World) (hin : In2 w p L) (hk : bulkF L ≤ 1048576) :
    Calls Tryd.prog 3 #[.slice p L.length c] w fun e w' => e = .returned (.bool true) ∧ Below w.heap.size w w' := by
  have hll := bulkF_length L
  have hTL := tokens_lenV L
  have HM := Lib.hid (fun x hx => by have := bulkF_mem L x hx; exact (⟨by omega, by omega⟩ : x.1.length ≤ 140737488351232 ∧ x.2.length ≤ 4000000000))
  go_enter Tryd.func3, Tryd.ntmps3
  go_wp2_with fail
  refine (alive17_any w).mono ?_
  rintro e w1 ⟨rfl, hb1⟩
  have hs1 := hb1.size
  have hin1 := hin.below hb1
  go_wp2_with fail
  refine (copyFields_any L p _ c rfl (by omega) _ hin1).mono ?_
  rintro e w2 ⟨v2, rfl, hown2, hb2⟩
  have hs2 := hb2.size
  obtain ⟨po, co, rfl, k1, k2, hino, _⟩ := Own2.shape hown2 rfl
  have hin2 := hin1.below hb2
  unfold maxLen at k2
  clear hown2 hin hin1
  go_wp2_with fail
  refine (names_any L po _ co rfl (by omega) HM.out (by omega) _ hino).mono ?_
  rintro e w3 ⟨v3, rfl, hown3, hb3⟩
  have hs3 := hb3.size
  have hino3 := hino.below hb3
  have hin3 := hin2.below hb3
  obtain ⟨N, hN⟩ : ∃ N, N = (namesT L).1 := ⟨_, rfl⟩
  obtain ⟨b, hb⟩ : ∃ b : Bool, b = (namesT L).2 := ⟨_, rfl⟩
  have hNl : N.length ≤ bulkF L := by rw [hN]; exact Nat.le_trans (bulkT_length _) (namesT_bulk L)
  rw [← hN] at hown3
  rw [← hb]
  have HN := Lib.hid hN
  have HB := Lib.hid hb
  obtain ⟨p3, c3, rfl, _, q3, hV3, _⟩ := hown3.shape rfl
  clear hino hin2 hN hb hown3
  go_wp2_with fail
  refine (refNames_any L p _ c rfl (by omega) HM.out (by omega) _ hin3).mono ?_
  rintro e w4 ⟨v4, rfl, hown4, hb4⟩
  have hs4 := hb4.size
  have hino4 := hino3.below hb4
  have hin4 := hin3.below hb4
  rw [← HN.out] at hown4
  rw [← HB.out]
  obtain ⟨p4, c4, rfl, _, q4, hV4, _⟩ := hown4.shape rfl
  have hV3' := hV3.below hb4
  have qb : (b == b) = true := by simp
  clear hino3 hin3 hown4 hV3
  go_wp2_with fail
  refine (sameTexts_same N _ _ _ _ _ _ rfl rfl (by unfold maxLen; omega) _ hV3' hV4).mono ?_
  rintro e w5 ⟨rfl, hb5⟩
  have hs5 := hb5.size
  have hino5 := hino4.below hb5
  have hin5 := hin4.below hb5
  clear hino4 hin4 hV3' hV4
  go_wp2_with fail
  refine (sameFields_same L _ _ _ _ _ _ rfl rfl (by unfold maxLen; omega) _ hino5 hin5).mono ?_
  rintro e w6 ⟨rfl, hb6⟩
  go_wp2_with fail
  go_ret
  exact ⟨rfl, hb1.trans ((hb2.mono hs1).trans ((hb3.mono (by omega)).trans ((hb4.mono (by omega)).trans ((hb5.mono (by omega)).trans (hb6.mono (by omega))))))⟩
end Go.Proofs.YtnibecboimgljaaDoor
