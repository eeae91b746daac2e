/-
  FieldsJoins: blocks behind one another are read as their fields behind one another, where there are not too many.
-/
import Derived.Test.YtpgjlepjhbjhfaaDoorAlive4
import Derived.Test.YtpgjlepjhbjhfaaDoorJoinsLaw
import Derived.Test.YtpgjlepjhbjhfaaDoorLawParses
namespace Go.Proofs.YtpgjlepjhbjhfaaDoor
open Go.RowKit

set_option maxHeartbeats 8000000 in
theorem fieldsJoins_walk (x : List UInt8) (p : Option Addr) (c : Nat) (y : List UInt8) (q : Option Addr) (d : Nat) (w : World) (hx : In8 w p x) (_ : x.length ≤ c) (hkx : x.length ≤ 1048576) (hy : In8 w q y) (_ : y.length ≤ d) (hky : y.length ≤ 1048576) (hT : Tabs w) (hsh : w.ShapedOpen Tryd.prog) :
    Calls Tryd.prog 5 #[.slice p x.length c, .slice q y.length d] w fun e w' => e = .returned (.bool true) ∧ Below w.heap.size w w' := by
  have hM := MaxC.of hsh
  clear hsh
  have HLX := Lib.hid (parseA_len [] x (by simp))
  have HLY := Lib.hid (parseA_len [] y (by simp))
  have HFX := Lib.hid (parse_fail _ x [] rfl)
  have HFB := Lib.hid (parse_fail _ (x ++ y) [] rfl)
  obtain ⟨A, hA⟩ : ∃ A, A = (parseT x).1 := ⟨_, rfl⟩
  obtain ⟨E, hE⟩ : ∃ E, E = (parseT x).2 := ⟨_, rfl⟩
  have HA := Lib.hid hA
  have HE := Lib.hid hE
  go_enter Tryd.func5, Tryd.ntmps5
  go_wp2_with fail
  refine (alive4_any _ hM hT).mono ?_
  rintro e w1 ⟨rfl, hb1⟩
  have hs1 := hb1.size
  have hx1 := hx.below hb1
  have hy1 := hy.below hb1
  go_wp2_with fail
  refine (copyBytes_any x p _ c rfl (by omega) w1 hx1).mono ?_
  rintro e w2 ⟨v2, rfl, hown2, hb2⟩
  have hs2 := hb2.size
  have hx2 := hx1.below hb2
  have hy2 := hy1.below hb2
  have hu2 := hb1.trans (hb2.mono hs1)
  obtain ⟨p2, c2, rfl, hc1, hc2, hin⟩ := hown2.in8n (n := x.length) rfl
  have hpa := parse_any x p2 _ c2 rfl hc1 hc2 (by omega) w2 (hM.below hu2) (Utf8Tabs_below hT hu2) hin
  rw [← hA, ← hE] at hpa
  unfold maxLen at hc2
  clear hx hy hx1 hy1 hA hE hown2 hin
  go_wp2_with fail
  refine hpa.mono ?_
  rintro e w3 ⟨v3, rfl, hown3, hb3⟩
  have hs3 := hb3.size
  have hx3 := hx2.below hb3
  have hy3 := hy2.below hb3
  have hu3 := hu2.trans (hb3.mono (by omega))
  obtain ⟨p3, c3, rfl, k31, k32, hin3, _⟩ := Own2.shape hown3 rfl
  clear hx2 hy2 hpa hown3
  by_cases he : E = 0
  · have hei : ((E : Int) != 0) = false := by subst he; rfl
    have HJ := Lib.hid (parse_joins x y A (by rw [HA.out]; exact Prod.ext rfl (HE.out.symm.trans he)))
    obtain ⟨B, hB⟩ : ∃ B, B = (parseT y).1 := ⟨_, rfl⟩
    obtain ⟨F, hF⟩ : ∃ F, F = (parseT y).2 := ⟨_, rfl⟩
    obtain ⟨C, hC⟩ : ∃ C, C = (parseT (x ++ y)).1 := ⟨_, rfl⟩
    obtain ⟨G, hG⟩ : ∃ G, G = (parseT (x ++ y)).2 := ⟨_, rfl⟩
    have hlb : B.length ≤ 100 := by rw [hB]; exact HLY.out
    have hla : A.length ≤ 100 := by rw [HA.out]; exact HLX.out
    have HB := Lib.hid hB
    have HF := Lib.hid hF
    have HC := Lib.hid hC
    have HG := Lib.hid hG
    clear he
    go_wp2_with fail
    refine (copyBytes_any y q _ d rfl (by omega) w3 hy3).mono ?_
    rintro e w4 ⟨v4, rfl, hown4, hb4⟩
    have hs4 := hb4.size
    have hx4 := hx3.below hb4
    have hy4 := hy3.below hb4
    have hu4 := hu3.trans (hb4.mono (by omega))
    have hin4 := hin3.below hb4
    obtain ⟨p4, c4, rfl, hc3, hc4, hin⟩ := hown4.in8n (n := y.length) rfl
    have hpa := parse_any y p4 _ c4 rfl hc3 hc4 (by omega) w4 (hM.below hu4) (Utf8Tabs_below hT hu4) hin
    rw [← hB, ← hF] at hpa
    unfold maxLen at hc4
    clear hx3 hy3 hB hF hown4 hin hin3
    go_wp2_with fail
    refine hpa.mono ?_
    rintro e w5 ⟨v5, rfl, hown5, hb5⟩
    have hs5 := hb5.size
    have hx5 := hx4.below hb5
    have hy5 := hy4.below hb5
    have hu5 := hu4.trans (hb5.mono (by omega))
    have hin5 := hin4.below hb5
    obtain ⟨p5, c5, rfl, k51, k52, hinB, _⟩ := Own2.shape hown5 rfl
    clear hx4 hy4 hpa hown5 hin4
    go_wp2_with fail
    refine (copyBytes_any x p _ c rfl (by omega) w5 hx5).mono ?_
    rintro e w6 ⟨v6, rfl, hown6, hb6⟩
    have hs6 := hb6.size
    have hy6 := hy5.below hb6
    have hu6 := hu5.trans (hb6.mono (by omega))
    clear hx5 hy5
    go_wp2_with (at_builtin; refine wpList_append8 rfl _ _ rfl w5.heap.size _ _ rfl hown6 _ _ _ _ rfl rfl hy6 (by omega) (by omega) ?_; intro v7 w7 hown7 hgrow7 _; have hb7 := own_grown (Below.refl w5.heap.size w6) (by omega) hown6 hgrow7)
    have hb57 := hb6.trans hb7
    have hu7 := hu5.trans (hb57.mono (by omega))
    have hs7 := hb57.size
    obtain ⟨p7, c7, rfl, k71, k72, hin7⟩ := hown7.in8n (n := x.length + y.length) (by simp)
    have hpa := parse_any (x ++ y) p7 (x.length + y.length) c7 (by simp) k71 k72 (by omega) w7 (hM.below hu7) (Utf8Tabs_below hT hu7) hin7
    rw [← hC, ← hG] at hpa
    have hinA7 := hin5.below hb57
    have hinB7 := hinB.below hb57
    unfold maxLen at k72
    clear hC hG hown6 hown7 hgrow7 hb7 hin7 hin5 hinB hy6
    go_wp2_with fail
    refine hpa.mono ?_
    rintro e w8 ⟨v8, rfl, hown8, hb8⟩
    have hs8 := hb8.size
    have hu8 := hu7.trans (hb8.mono (by omega))
    have hinA8 := hinA7.below hb8
    have hinB8 := hinB7.below hb8
    obtain ⟨p8, c8, rfl, k81, k82, hinC, _⟩ := Own2.shape hown8 rfl
    clear hinA7 hinB7 hpa hown8
    by_cases h42 : G = 42
    · have t1 : ((G : Int) == 42) = true := by subst h42; rfl
      have hCe : (C.length : Int) = 0 := by
        have := HFB.out (by rw [show (parseA [] (x ++ y)).2 = G from HG.out.symm]; omega)
        rw [HC.out, show (parseT (x ++ y)).1 = (parseA [] (x ++ y)).1 from rfl, this]; rfl
      clear h42
      go_wp2_with fail
      go_ret
      exact ⟨ret_bool (by simp), hu8⟩
    · have t1 : ((G : Int) == 42) = false := by simp; omega
      have hFG : F = G := by
        rcases HJ.out with h | ⟨D, h1, h2⟩ | ⟨g, h0, h1, h2⟩
        · exact absurd (by rw [HG.out, h]) h42
        · rw [HF.out, HG.out, h1, h2]
        · rw [HF.out, HG.out, h1, h2]
      have hCB : G = 0 → C = A ++ B := by
        intro hg
        rcases HJ.out with h | ⟨D, h1, h2⟩ | ⟨g, h0, h1, h2⟩
        · exact absurd (by rw [HG.out, h]) h42
        · rw [HC.out, HB.out, h1, h2]
        · exact absurd (by rw [← hg, HG.out, h2]) h0
      have hCe : G ≠ 0 → C = [] := by
        intro hg
        have := HFB.out (by rw [show (parseA [] (x ++ y)).2 = G from HG.out.symm]; exact hg)
        rw [HC.out]; exact this
      have t2 : ((F : Int) == (G : Int)) = true := by rw [hFG]; simp
      have HCB := Lib.hid hCB
      have HCE := Lib.hid hCe
      clear hCB hCe h42 hFG
      go_wp2_with fail
      refine (copyFields_any A p3 _ c3 rfl (by omega) w8 hinA8).mono ?_
      rintro e w9 ⟨v9, rfl, hown9, hb9⟩
      have hs9 := hb9.size
      have hinB9 := hinB8.below hb9
      have hinC9 := hinC.below hb9
      have hu9 := hu8.trans (hb9.mono (by omega))
      clear hinB8 hinA8
      by_cases hG0 : G = 0
      · have t3 : ((G : Int) == 0) = true := by subst hG0; rfl
        have t4 : ((G : Int) != 0) = false := by subst hG0; rfl
        have HEQ := Lib.hid (HCB.out hG0)
        clear hG0
        go_wp2_with (at_builtin; refine wpList_append2 parF rfl _ _ rfl w8.heap.size _ _ rfl hown9 _ _ _ _ rfl rfl hinB9 (by omega) (by omega) ?_; intro v10 w10 hown10 hgrow10 _; have hb10 := Own2.grown (Below.refl w8.heap.size w9) (by omega) hown9 hgrow10)
        have hinC10 := hinC.below (hb9.trans hb10)
        have hs10 := (hb9.trans hb10).size
        have hu10 := hu8.trans ((hb9.trans hb10).mono (by omega))
        have hz10 := hu10.size
        have hcl : C.length = A.length + B.length := by rw [HEQ.out, List.length_append]
        obtain ⟨p10, c10, rfl, _, _, hin10, _⟩ := Own2.shape hown10 rfl
        rw [← HEQ.out] at hin10
        clear hown10 hown9 hgrow10
        refine (sameFields_same C p8 p10 _ _ _ _ rfl (by rw [HEQ.out]) (by unfold maxLen; omega) _ hinC10 hin10).mono ?_
        rintro e w11 ⟨rfl, hb11⟩
        go_wp2_with fail
        go_ret
        exact ⟨rfl, hu10.trans (hb11.mono (by omega))⟩
      · have t3 : ((G : Int) == 0) = false := by simp; omega
        have t4 : ((G : Int) != 0) = true := by simp; omega
        have hcl : C.length = 0 := by rw [HCE.out hG0]; rfl
        have t5 : ((C.length : Int) == 0) = true := by rw [hcl]; rfl
        clear hG0
        go_wp2_with (at_builtin; refine wpList_append2 parF rfl _ _ rfl w8.heap.size _ _ rfl hown9 _ _ _ _ rfl rfl hinB9 (by omega) (by omega) ?_; intro v10 w10 hown10 hgrow10 _; have hb10 := Own2.grown (Below.refl w8.heap.size w9) (by omega) hown9 hgrow10)
        go_ret
        exact ⟨rfl, hu8.trans ((hb9.trans hb10).mono (by omega))⟩
  · have hei : ((E : Int) != 0) = true := by simp; omega
    have hAe : (A.length : Int) = 0 := by
      have := HFX.out (by rw [show (parseA [] x).2 = E from HE.out.symm]; exact he)
      rw [HA.out, show (parseT x).1 = (parseA [] x).1 from rfl, this]; rfl
    clear he
    go_wp2_with fail
    go_ret
    exact ⟨ret_bool (by simp), hu3⟩
end Go.Proofs.YtpgjlepjhbjhfaaDoor
