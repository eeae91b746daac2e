/-
  FieldsTurns: every Without and Put answers what the document says; the lists are left as they were.
-/
import Derived.Test.YtpgjlepjhbjhfaaWout
import Derived.Test.YtpgjlepjhbjhfaaFieldsOpen
import Derived.Test.YtpgjlepjhbjhfaaTextsOpen
namespace Go.Proofs.Ytpgjlepjhbjhfaa
open Go.RowKit

set_option maxHeartbeats 1000000 in
theorem copyTexts_any (L : List (List UInt8)) (p : Option Addr) (n c : Nat) (hn : L.length = n) (hr : n ≤ 8800000000000) (w : World) (h : InS w p L) :
    Calls Try.prog 7 #[.slice p n c] w fun e w' => ∃ v, e = .returned v ∧ OwnS w' w.heap.size v L ∧ Below w.heap.size w w' := by
  subst hn
  have hin := h.alloc (.cells #[] 9)
  have hown := OwnS.made w
  go_enter Try.func7, Try.ntmps7
  go_wp2_with (at_builtin; refine wpList_appendS rfl _ _ rfl w.heap.size _ [] rfl hown _ _ _ L rfl rfl hin (by simp; omega) (by simp) ?_; intro v1 w1 hown1 hgrow1 _)
  go_ret
  exact ⟨v1, rfl, hown1, OwnS.grown ((Below.refl _ w).alloc (Nat.le_refl _) _) (by simp) hown hgrow1⟩

theorem own2_nil {e : TypeId} {w : World} {base : Nat} {L : List Pair} {p : Option Addr} {n c : Nat} (h : Own2 e w base (.slice p n c) L) : p = none → n = 0 ∧ c = 0 := by
  intro hp
  rcases h.2 with ⟨h1, _⟩ | ⟨g, cap, cur, h1, _⟩
  · injection h1 with h1 h2 h3
    exact ⟨h2, h3⟩
  · injection h1 with h1
    rw [hp] at h1; cases h1

set_option maxHeartbeats 8000000 in
theorem fieldsTurns_walk (L : List Pair) (p : Option Addr) (c : Nat) (N : List (List UInt8)) (p2 : Option Addr) (c2 : Nat) (s : ByteArray) (w : World) (hin : In2 w p L) (hL : L.length * 32 ≤ 140737488351232 ∧ ∀ x ∈ L, x.1.length ≤ 140737488351232 ∧ x.2.length ≤ 140737488351232)
    (hinN : InS w p2 N) (hN : N.length * 16 ≤ 140737488351232 ∧ ∀ x ∈ N, x.length ≤ 140737488351232) (_ : s.data.toList.length ≤ 140737488351232) :
    Calls Try.prog 3 #[.slice p L.length c, .slice p2 N.length c2, .string s] w fun e w' => e = .returned (.bool true) ∧ Below w.heap.size w w' := by
  obtain ⟨hl, hm⟩ := hL
  obtain ⟨hl2, hm2⟩ := hN
  have HM := Lib.hid (fun x hx => (hm x hx).1)
  have HN := Lib.hid hm2
  clear hm hm2
  have hkl := keptF_length N L
  go_enter Try.func3, Try.ntmps3
  go_wp2_with fail
  refine (put_any [] none 0 0 rfl (by omega) (fun _ => ⟨rfl, rfl⟩) ⟨#[97]⟩ ⟨#[98]⟩ w (by simp) (by decide) (fun h => absurd h (by simp))).mono ?_
  rintro e w1 ⟨v1, rfl, hown1, hb1⟩
  have hs1 := hb1.size
  have hB1 := hb1
  obtain ⟨pa, ca, rfl, _, _, hina, _⟩ := Own2.shape hown1 (n := 1) rfl
  go_wp2_with fail
  refine (sameFields_same [([97], [98])] pa _ 1 ca 1 1 rfl rfl (by unfold maxLen; omega) _ (hina.alloc _) (In2.lit w1 _ _ _ _ rfl)).mono ?_
  rintro e w2 ⟨rfl, hb2⟩
  have hB2 := hB1.trans (((Below.refl _ w1).alloc (Nat.le_refl _) (.cells #[.string ⟨#[97]⟩, .string ⟨#[98]⟩] 27)).mono hs1 |>.trans (hb2.mono (by simp; omega)))
  clear hown1 hina hb1 hb2 hs1 hB1
  have hs2 := hB2.size
  go_wp2_with fail
  refine (copyFields_any L p _ c rfl (by omega) _ (hin.below hB2)).mono ?_
  rintro e w3 ⟨v3, rfl, hown3, hb3⟩
  have hB3 := hB2.trans (hb3.mono hs2)
  have hs3 := hb3.size
  go_wp2_with fail
  refine (copyTexts_any N p2 _ c2 rfl (by omega) _ (hinN.below hB3)).mono ?_
  rintro e w4 ⟨v4, rfl, hown4, hb4⟩
  have hB4 := hB3.trans (hb4.mono (by omega))
  have hs4 := hb4.size
  have hown3' := hown3.below hb4
  obtain ⟨pl, cl, rfl, _, _, hinl, _⟩ := Own2.shape hown3' rfl
  have hnil := own2_nil hown3'
  obtain ⟨pn, cn, rfl, _, _, hinn, _⟩ := hown4.shape rfl
  clear hown3 hown3' hown4
  go_wp2_with fail
  refine (without_any L pl _ cl rfl (by omega) hnil N pn _ cn rfl (by omega) _ HM.out HN.out hinn hinl).mono ?_
  rintro e w5 ⟨v5, rfl, hown5, hb5⟩
  have hB5 := hB4.trans (hb5.mono (by omega))
  have hs5 := hb5.size
  go_wp2_with fail
  refine (refWithout_any L p _ c rfl (by omega) N p2 _ c2 rfl (by omega) _ HM.out HN.out (hinN.below hB5) (hin.below hB5)).mono ?_
  rintro e w6 ⟨v6, rfl, hown6, hb6⟩
  have hB6 := hB5.trans (hb6.mono (by omega))
  have hs6 := hb6.size
  obtain ⟨p5, c5, rfl, _, _, hin5, _⟩ := Own2.shape (hown5.below hb6) rfl
  obtain ⟨p6, c6, rfl, _, _, hin6, _⟩ := Own2.shape hown6 rfl
  have hinl6 := (hinl.below hb5).below hb6
  have hinn6 := (hinn.below hb5).below hb6
  clear hown5 hown6
  go_wp2_with fail
  refine (sameFields_same (keptF N L) p5 p6 _ c5 _ c6 rfl rfl (by unfold maxLen; omega) _ hin5 hin6).mono ?_
  rintro e w7 ⟨rfl, hb7⟩
  have hB7 := hB6.trans (hb7.mono (by omega))
  have hs7 := hb7.size
  have hinl7 := hinl6.below hb7
  have hinn7 := hinn6.below hb7
  clear hin5 hin6
  go_wp2_with fail
  refine (sameFields_same L pl p _ cl _ c rfl rfl (by unfold maxLen; omega) _ hinl7 (hin.below hB7)).mono ?_
  rintro e w8 ⟨rfl, hb8⟩
  have hB8 := hB7.trans (hb8.mono (by omega))
  have hs8 := hb8.size
  have hinl8 := hinl7.below hb8
  have hinn8 := hinn7.below hb8
  go_wp2_with fail
  have hsame := sameTexts_any N N pn p2 _ cn _ c2 rfl rfl (by unfold maxLen; omega) (by unfold maxLen; omega) _ hinn8 (hinN.below hB8)
  rw [decide_eq_true rfl] at hsame
  refine hsame.mono ?_
  rintro e w9 ⟨rfl, hb9⟩
  have hB9 := hB8.trans (hb9.mono (by omega))
  have hs9 := hb9.size
  have hinl9 := hinl8.below hb9
  clear hsame hinn8 hinn7 hinn6 hinn hinl8 hinl7 hinl6 hinl
  by_cases h0 : 0 < N.length
  · obtain ⟨b, o, rfl, x, hx, ex⟩ := (hinN.below hB9).at h0
    have hxs : x.size ≤ 140737488351232 := by rw [← size_list, ex]; exact HN.out _ (List.getElem_mem h0)
    rw [Nat.add_zero] at hx
    clear ex
    go_wp2_with fail
    refine (put_any L pl _ cl rfl (by omega) hnil x s _ HM.out hxs hinl9).mono ?_
    rintro e w10 ⟨v10, rfl, hown10, hb10⟩
    have hB10 := hB9.trans (hb10.mono (by omega))
    have hs10 := hb10.size
    go_wp2_with fail
    refine (refPut_any L p _ c rfl (by omega) x s _ HM.out hxs (hin.below hB10)).mono ?_
    rintro e w11 ⟨v11, rfl, hown11, hb11⟩
    have hB11 := hB10.trans (hb11.mono (by omega))
    have hs11 := hb11.size
    have hpl : (putF x.data.toList s.data.toList L).length ≤ L.length + 1 := by
      unfold putF; rw [List.length_append]; have := keptF_length [x.data.toList] L; simp; omega
    obtain ⟨p10, c10, rfl, _, _, hin10, _⟩ := Own2.shape (hown10.below hb11) rfl
    obtain ⟨p11, c11, rfl, _, _, hin11, _⟩ := Own2.shape hown11 rfl
    clear hown10 hown11
    go_wp2_with fail
    refine (sameFields_same (putF x.data.toList s.data.toList L) p10 p11 _ c10 _ c11 rfl rfl (Nat.le_trans hpl (by unfold maxLen; omega)) _ hin10 hin11).mono ?_
    rintro e w12 ⟨rfl, hb12⟩
    have hB12 := hB11.trans (hb12.mono (by omega))
    have hs12 := hb12.size
    clear hin10 hin11 hpl
    go_wp2_with fail
    refine (sameFields_same L pl p _ cl _ c rfl rfl (by unfold maxLen; omega) _ (((hinl9.below hb10).below hb11).below hb12) (hin.below hB12)).mono ?_
    rintro e w13 ⟨rfl, hb13⟩
    go_wp2_with fail
    go_ret
    exact ⟨rfl, hB12.trans (hb13.mono (by omega))⟩
  · obtain rfl : N = [] := List.length_eq_zero_iff.1 (by omega)
    go_wp2_with fail
    refine (put_any L pl _ cl rfl (by omega) hnil (⟨#[65, 103, 101]⟩ : ByteArray) s _ HM.out (by decide) hinl9).mono ?_
    rintro e w10 ⟨v10, rfl, hown10, hb10⟩
    have hB10 := hB9.trans (hb10.mono (by omega))
    have hs10 := hb10.size
    go_wp2_with fail
    refine (refPut_any L p _ c rfl (by omega) (⟨#[65, 103, 101]⟩ : ByteArray) s _ HM.out (by decide) (hin.below hB10)).mono ?_
    rintro e w11 ⟨v11, rfl, hown11, hb11⟩
    have hB11 := hB10.trans (hb11.mono (by omega))
    have hs11 := hb11.size
    have hpl : (putF (⟨#[65, 103, 101]⟩ : ByteArray).data.toList s.data.toList L).length ≤ L.length + 1 := by
      unfold putF; rw [List.length_append]; have := keptF_length [(⟨#[65, 103, 101]⟩ : ByteArray).data.toList] L; simp; omega
    obtain ⟨p10, c10, rfl, _, _, hin10, _⟩ := Own2.shape (hown10.below hb11) rfl
    obtain ⟨p11, c11, rfl, _, _, hin11, _⟩ := Own2.shape hown11 rfl
    clear hown10 hown11
    go_wp2_with fail
    refine (sameFields_same (putF (⟨#[65, 103, 101]⟩ : ByteArray).data.toList s.data.toList L) p10 p11 _ c10 _ c11 rfl rfl (Nat.le_trans hpl (by unfold maxLen; omega)) _ hin10 hin11).mono ?_
    rintro e w12 ⟨rfl, hb12⟩
    have hB12 := hB11.trans (hb12.mono (by omega))
    have hs12 := hb12.size
    clear hin10 hin11 hpl
    go_wp2_with fail
    refine (sameFields_same L pl p _ cl _ c rfl rfl (by unfold maxLen; omega) _ (((hinl9.below hb10).below hb11).below hb12) (hin.below hB12)).mono ?_
    rintro e w13 ⟨rfl, hb13⟩
    go_wp2_with fail
    go_ret
    exact ⟨rfl, hB12.trans (hb13.mono (by omega))⟩
end Go.Proofs.Ytpgjlepjhbjhfaa
