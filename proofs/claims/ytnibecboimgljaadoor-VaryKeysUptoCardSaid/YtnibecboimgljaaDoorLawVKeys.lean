/-
  VaryKeys: every Key answers the document's text.
-/
import Derived.Test.YtnibecboimgljaaDoorAlive17
import Derived.Test.YtnibecboimgljaaDoorVSize
import Derived.Test.YtnibecboimgljaaDoorVCopyT
namespace Go.Proofs.YtnibecboimgljaaDoor
open Go.RowKit

set_option maxHeartbeats 4000000 in
theorem varyKeys_walk (NS : List (List UInt8)) (q : Option Addr) (d : Nat) (L : List Pair) (p : Option Addr) (c : Nat) (w : World) (hq : InS w q NS) (hkT : bulkT NS ≤ 1048576) (hin : In2 w p L) (hk : bulkF L ≤ 1048576) :
    Calls Tryd.prog 4 #[.slice q NS.length d, .slice p L.length c] w fun e w' => e = .returned (.bool true) ∧ Below w.heap.size w w' := by
  have hll := bulkF_length L
  have hlT := bulkT_length NS
  have HM := Lib.hid (fun x hx => by have := bulkF_mem L x hx; exact (⟨by omega, by omega⟩ : x.1.length ≤ 140737488351232 ∧ x.2.length ≤ 4000000000))
  have HMT := Lib.hid (fun x hx => by have := bulkT_mem NS x hx; exact (by omega : x.length ≤ 4000000000))
  have HE := Lib.hid (fun x (_ : x ∈ NS) => by have := elsOf_length L x; exact (by omega : (elsOf L x).length ≤ 8000000000000))
  have HK := Lib.hid (keyT_small NS L (by omega) (by omega))
  go_enter Tryd.func4, Tryd.ntmps4
  go_wp2_with fail
  refine (alive17_any w).mono ?_
  rintro e w1 ⟨rfl, hb1⟩
  have hs1 := hb1.size
  have hin1 := hin.below hb1
  have hq1 := hq.below hb1
  go_wp2_with fail
  refine (copyTexts_any NS q _ d rfl (by omega) _ hq1).mono ?_
  rintro e w2 ⟨v2, rfl, hown2, hb2⟩
  have hs2 := hb2.size
  obtain ⟨po, co, rfl, k1, k2, hino, _⟩ := hown2.shape rfl
  have hin2 := hin1.below hb2
  have hq2 := hq1.below hb2
  unfold maxLen at k2
  clear hown2 hin hin1 hq hq1
  go_wp2_with fail
  refine (copyFields_any L p _ c rfl (by omega) _ hin2).mono ?_
  rintro e w3 ⟨v3, rfl, hown3, hb3⟩
  have hs3 := hb3.size
  obtain ⟨pf, cf, rfl, k3, k4, hinf, _⟩ := Own2.shape hown3 rfl
  have hin3 := hin2.below hb3
  have hq3 := hq2.below hb3
  have hino3 := hino.below hb3
  unfold maxLen at k4
  clear hown3 hin2 hq2 hino
  go_wp2_with fail
  refine (key_any NS po _ co rfl (by omega) L pf _ cf rfl (by omega) HMT.out HM.out HE.out HK.out _ hino3 hinf).mono ?_
  rintro e w4 ⟨rfl, hb4⟩
  have hs4 := hb4.size
  have hin4 := hin3.below hb4
  have hq4 := hq3.below hb4
  have hino4 := hino3.below hb4
  have hinf4 := hinf.below hb4
  clear hin3 hq3 hino3 hinf
  go_wp2_with fail
  refine (refKey_any NS q _ d rfl (by omega) L p _ c rfl (by omega) HMT.out HM.out HE.out HK.out _ hq4 hin4).mono ?_
  rintro e w5 ⟨rfl, hb5⟩
  have hs5 := hb5.size
  have hin5 := hin4.below hb5
  have hq5 := hq4.below hb5
  have hino5 := hino4.below hb5
  have hinf5 := hinf4.below hb5
  obtain ⟨K, hK⟩ : ∃ K : ByteArray, K = ⟨(keyT NS L).toArray⟩ := ⟨_, rfl⟩
  rw [← hK]
  have qk : (K.toList == K.toList) = true := by simp
  clear hin4 hq4 hino4 hinf4 hK
  go_wp2_with fail
  refine (sameTexts_same NS _ _ _ _ _ _ rfl rfl (by unfold maxLen; omega) _ hino5 hq5).mono ?_
  rintro e w6 ⟨rfl, hb6⟩
  have hs6 := hb6.size
  have hin6 := hin5.below hb6
  have hinf6 := hinf5.below hb6
  clear hin5 hq5 hino5 hinf5
  go_wp2_with fail
  refine (sameFields_same L _ _ _ _ _ _ rfl rfl (by unfold maxLen; omega) _ hinf6 hin6).mono ?_
  rintro e w7 ⟨rfl, hb7⟩
  go_wp2_with fail
  go_ret
  exact ⟨rfl, hb1.trans ((hb2.mono hs1).trans ((hb3.mono (by omega)).trans ((hb4.mono (by omega)).trans ((hb5.mono (by omega)).trans ((hb6.mono (by omega)).trans (hb7.mono (by omega)))))))⟩
end Go.Proofs.YtnibecboimgljaaDoor
