/-
  FieldsFinds: every Values, Get and Tokens answers what the document says.
-/
import Derived.Test.YtpgjlepjhbjhfaaDoorFGet
import Derived.Test.YtpgjlepjhbjhfaaDoorTokens
import Derived.Test.YtpgjlepjhbjhfaaDoorFieldsOpen
namespace Go.Proofs.YtpgjlepjhbjhfaaDoor
open Go.RowKit

theorem tokens_len (L : List Pair) (n : List UInt8) : (tokensOf L n).length ≤ bulkF L := by
  unfold tokensOf
  induction L with
  | nil => simp [valuesOf, bulkF]
  | cons x L ih =>
    rw [bulkF_cons]
    unfold valuesOf at ih ⊢
    rw [List.filter_cons]
    split
    · rw [List.map_cons, List.flatMap_cons, List.length_append]
      have : (wordsOf x.2).length ≤ x.2.length + 1 := by
        unfold wordsOf; rw [List.length_map]; exact listOf_length x.2
      omega
    · omega
theorem joinW_values (L : List Pair) (n : List UInt8) : joinW (valuesOf L n) ≤ bulkF L := by
  unfold joinW
  induction L with
  | nil => simp [valuesOf, bulkF]
  | cons x L ih =>
    rw [bulkF_cons]
    unfold valuesOf at ih ⊢
    rw [List.filter_cons]
    split
    · rw [List.map_cons, List.map_cons, List.sum_cons]; omega
    · omega

set_option maxHeartbeats 4000000 in
theorem fieldsFinds_walk (L : List Pair) (p : Option Addr) (c : Nat) (s : ByteArray) (w : World) (hin : In2 w p L) (hk : bulkF L ≤ 1048576) (hs : s.data.toList.length ≤ 1048576) :
    Calls Tryd.prog 3 #[.slice p L.length c, .string s] w fun e w' => e = .returned (.bool true) ∧ Below w.heap.size w w' := by
  rw [size_list] at hs
  have hll := bulkF_length L
  have hTL := tokens_len L s.data.toList
  have hJW := joinW_values L s.data.toList
  have HM := Lib.hid (fun x hx => by have := bulkF_mem L x hx; exact (⟨by omega, by omega⟩ : x.1.length ≤ 140737488351232 ∧ x.2.length ≤ 4000000000))
  have HM1 := Lib.hid (fun x hx => (HM.out x hx).1)
  have hvl := values_length L s.data.toList
  go_enter Tryd.func3, Tryd.ntmps3
  go_wp2_with fail
  refine (get_any [([65], [98]), ([97], [99])] _ 2 2 rfl (by omega) ⟨#[65]⟩ (by decide) (by simp) (by decide) _ (In2.lit w _ _ _ _ rfl)).mono ?_
  rintro e w1 ⟨rfl, hb1⟩
  rw [show (joinT (valuesOf [([65], [98]), ([97], [99])] (⟨#[65]⟩ : ByteArray).data.toList)).toArray = #[98, 44, 32, 99] by decide, show decide (0 < (valuesOf [([65], [98]), ([97], [99])] (⟨#[65]⟩ : ByteArray).data.toList).length) = true by decide]
  have hbA := ((Below.refl w.heap.size w).alloc (Nat.le_refl _) (.cells #[.string ⟨#[65]⟩, .string ⟨#[98]⟩, .string ⟨#[97]⟩, .string ⟨#[99]⟩] 26)).trans (hb1.mono (by simp))
  have hs1 := hbA.size
  have hin1 := hin.below hbA
  have q1 : ((⟨#[98, 44, 32, 99]⟩ : ByteArray).toList != (⟨#[98, 44, 32, 99]⟩ : ByteArray).toList) = false := by simp
  go_wp2_with fail
  refine (copyFields_any L p _ c rfl (by omega) _ hin1).mono ?_
  rintro e w2 ⟨v2, rfl, hown2, hb2⟩
  have hs2 := hb2.size
  obtain ⟨po, co, rfl, k1, k2, hino, _⟩ := Own2.shape hown2 rfl
  have hin2 := hin1.below hb2
  unfold maxLen at k2
  clear hown2 hin hin1
  go_wp2_with fail
  refine (get_any L po _ co rfl (by omega) s (by omega) HM1.out (by omega) _ hino).mono ?_
  rintro e w3 ⟨rfl, hb3⟩
  have hs3 := hb3.size
  obtain ⟨g, hg⟩ : ∃ g : ByteArray, g = ⟨(joinT (valuesOf L s.data.toList)).toArray⟩ := ⟨_, rfl⟩
  obtain ⟨b, hb⟩ : ∃ b : Bool, b = decide (0 < (valuesOf L s.data.toList).length) := ⟨_, rfl⟩
  rw [← hg, ← hb]
  have HG := Lib.hid hg
  have HB := Lib.hid hb
  clear hg hb
  have hino3 := hino.below hb3
  have hin3 := hin2.below hb3
  clear hino hin2
  go_wp2_with fail
  refine (refGet_any L p _ c rfl (by omega) s (by omega) HM1.out (by omega) _ hin3).mono ?_
  rintro e w4 ⟨rfl, hb4⟩
  have hs4 := hb4.size
  rw [← HG.out, ← HB.out]
  have hino4 := hino3.below hb4
  have hin4 := hin3.below hb4
  have q2 : (g.toList == g.toList) = true := by simp
  have q3 : (b == b) = true := by simp
  clear hino3 hin3
  go_wp2_with fail
  refine (values_any L po _ co rfl (by omega) s (by omega) HM1.out _ hino4).mono ?_
  rintro e w5 ⟨v5, rfl, hown5, hb5⟩
  have hs5 := hb5.size
  have hino5 := hino4.below hb5
  have hin5 := hin4.below hb5
  clear hino4 hin4
  go_wp2_with fail
  refine (refValues_any L p _ c rfl (by omega) s (by omega) HM1.out _ hin5).mono ?_
  rintro e w6 ⟨v6, rfl, hown6, hb6⟩
  have hs6 := hb6.size
  have hino6 := hino5.below hb6
  have hin6 := hin5.below hb6
  clear hino5 hin5
  obtain ⟨p5, c5, rfl, _, _, hV5, _⟩ := hown5.shape rfl
  obtain ⟨p6, c6, rfl, _, _, hV6, _⟩ := hown6.shape rfl
  clear hown5 hown6
  have hV5 := hV5.below hb6
  go_wp2_with fail
  refine (sameTexts_same _ _ _ _ _ _ _ rfl rfl (by unfold maxLen; omega) _ hV5 hV6).mono ?_
  rintro e w7 ⟨rfl, hb7⟩
  have hs7 := hb7.size
  have hino7 := hino6.below hb7
  have hin7 := hin6.below hb7
  clear hino6 hin6 hV5 hV6
  go_wp2_with fail
  refine (tokens_any L po _ co rfl (by omega) s (by omega) HM.out (by omega) _ hino7).mono ?_
  rintro e w8 ⟨v8, rfl, hown8, hb8⟩
  have hs8 := hb8.size
  have hino8 := hino7.below hb8
  have hin8 := hin7.below hb8
  clear hino7 hin7
  go_wp2_with fail
  refine (refTokens_any L p _ c rfl (by omega) s (by omega) HM.out (by omega) _ hin8).mono ?_
  rintro e w9 ⟨v9, rfl, hown9, hb9⟩
  have hs9 := hb9.size
  have hino9 := hino8.below hb9
  have hin9 := hin8.below hb9
  clear hino8 hin8
  obtain ⟨p8, c8, rfl, _, _, hV8, _⟩ := hown8.shape rfl
  obtain ⟨p9, c9, rfl, _, _, hV9, _⟩ := hown9.shape rfl
  clear hown8 hown9
  have hV8 := hV8.below hb9
  go_wp2_with fail
  refine (sameTexts_same _ _ _ _ _ _ _ rfl rfl (by unfold maxLen; omega) _ hV8 hV9).mono ?_
  rintro e w10 ⟨rfl, hb10⟩
  have hs10 := hb10.size
  have hino10 := hino9.below hb10
  have hin10 := hin9.below hb10
  clear hino9 hin9 hV8 hV9
  go_wp2_with fail
  refine (sameFields_same L _ _ _ _ _ _ rfl rfl (by unfold maxLen; omega) _ hino10 hin10).mono ?_
  rintro e w11 ⟨rfl, hb11⟩
  go_wp2_with fail
  go_ret
  exact ⟨rfl, ((((((((((hbA.trans (hb2.mono hs1)).trans (hb3.mono (by omega))).trans (hb4.mono (by omega))).trans (hb5.mono (by omega))).trans (hb6.mono (by omega))).trans (hb7.mono (by omega))).trans (hb8.mono (by omega))).trans (hb9.mono (by omega))).trans (hb10.mono (by omega))).trans (hb11.mono (by omega)))⟩
end Go.Proofs.YtpgjlepjhbjhfaaDoor
