/-
  FieldsRound: fields that are printed are read as they were, and what is read is printed and read the same.
-/
import Derived.Test.YtpgjlepjhbjhfaaDoorLawPrints
import Derived.Test.YtpgjlepjhbjhfaaDoorRoundLaw
import Derived.Test.YtpgjlepjhbjhfaaDoorLawParses
namespace Go.Proofs.YtpgjlepjhbjhfaaDoor
open Go.RowKit

set_option maxHeartbeats 8000000 in
theorem fieldsRound_walk (L : List Pair) (p : Option Addr) (c : Nat) (y : List UInt8) (q : Option Addr) (d : Nat) (w : World) (hin : In2 w p L) (hk : bulkF L ≤ 1048576) (hy : In8 w q y) (_ : y.length ≤ d) (hky : y.length ≤ 1048576) (hT : Tabs w) (hsh : w.ShapedOpen Tryd.prog) :
    Calls Tryd.prog 8 #[.slice p L.length c, .slice q y.length d] w fun e w' => e = .returned (.bool true) ∧ Below w.heap.size w w' := by
  have hM := MaxC.of hsh
  clear hsh
  have hll := bulkF_length L
  have hpl := printT_len L
  have HM := Lib.hid (fun x hx => by have := bulkF_mem L x hx; exact (⟨by omega, by omega⟩ : x.1.length ≤ 1048576 ∧ x.2.length ≤ 1048576))
  have HL := Lib.hid (show (linesF L).length ≤ 1073741824 by have := linesF_bulk L; omega)
  obtain ⟨T, hTT⟩ : ∃ T, T = (printT L).1 := ⟨_, rfl⟩
  obtain ⟨E, hE⟩ : ∃ E, E = (printT L).2 := ⟨_, rfl⟩
  rw [← hTT] at hpl
  have HPP := Lib.hid (parse_printed L)
  have HPF := Lib.hid (print_fail L)
  have HTT := Lib.hid hTT
  have HE := Lib.hid hE
  obtain ⟨A, hA⟩ : ∃ A, A = (parseT y).1 := ⟨_, rfl⟩
  obtain ⟨G, hG⟩ : ∃ G, G = (parseT y).2 := ⟨_, rfl⟩
  have hal : A.length ≤ 100 := by rw [hA]; exact parseA_len [] y (by simp)
  have HPY := Lib.hid (show parseT y = (A, G) by rw [hA, hG])
  have HA := Lib.hid hA
  have HG := Lib.hid hG
  have HF := Lib.hid (show (parseT y).2 ≠ 0 → (parseT y).1 = [] from parse_fail _ y [] rfl)
  clear hTT hE hA hG
  go_enter Tryd.func8, Tryd.ntmps8
  go_wp2_with fail
  refine (alive4_any _ hM hT).mono ?_
  rintro e w1 ⟨rfl, hb1⟩
  have hs1 := hb1.size
  go_wp2_with fail
  refine (copyFields_any L p _ c rfl (by omega) _ (hin.below hb1)).mono ?_
  rintro e w2 ⟨v2, rfl, hown2, hb2⟩
  have hB2 := hb1.trans (hb2.mono hs1)
  have hs2 := hb2.size
  obtain ⟨p2, c2, rfl, _, _, hin2, _⟩ := Own2.shape hown2 rfl
  clear hown2
  go_wp2_with fail
  refine (print_any L p2 _ c2 rfl (by omega) _ hin2 HM.out HL.out).mono ?_
  rw [← HTT.out, ← HE.out]
  rintro e w3 ⟨v3, rfl, hown3, hb3⟩
  have hB3 := hB2.trans (hb3.mono (by omega))
  have hs3 := hb3.size
  obtain ⟨p3, c3, rfl, hc1, hc2, hi3⟩ := hown3.in8n (n := T.length) rfl
  clear hown3 hin2
  by_cases he : E = 0
  · have hei : ((E : Int) == 0) = true := by subst he; rfl
    have HR := Lib.hid (show parseT T = (L, 0) by rw [HTT.out]; exact HPP.out (HE.out.symm.trans he))
    have hpa := parse_any T p3 _ c3 rfl hc1 hc2 (by omega) w3 (hM.below hB3) (Utf8Tabs_below hT hB3) hi3
    rw [HR.out] at hpa
    unfold maxLen at hc2
    clear hi3
    go_wp2_with fail
    refine hpa.mono ?_
    rintro e w4 ⟨v4, rfl, hown4, hb4⟩
    have hB4 := hB3.trans (hb4.mono (by omega))
    have hs4 := hB4.size
    obtain ⟨p4, c4, rfl, _, _, hi4, _⟩ := Own2.shape hown4 rfl
    clear hpa hown4
    go_wp2_with fail
    refine (sameFields_same L p4 p _ c4 _ c rfl rfl (by unfold maxLen; omega) _ hi4 (hin.below hB4)).mono ?_
    rintro e w5 ⟨rfl, hb5⟩
    have hB5 := hB4.trans (hb5.mono (by omega))
    clear hi4 hb1 hb2 hb3 hb4 hb5 hB2 hB3 hB4
    go_wp2_with fail
    refine (copyBytes_any y q _ d rfl (by omega) w5 (hy.below hB5)).mono ?_
    rintro e x2 ⟨u2, rfl, gown2, gb2⟩
    have gB2 := hB5.trans (gb2.mono hB5.size)
    have gs2 := gB2.size
    obtain ⟨r2, k2, rfl, gc1, gc2, gi2⟩ := gown2.in8n (n := y.length) rfl
    have gpa := parse_any y r2 _ k2 rfl gc1 gc2 (by omega) x2 (hM.below gB2) (Utf8Tabs_below hT gB2) gi2
    rw [← HA.out, ← HG.out] at gpa
    unfold maxLen at gc2
    clear gown2 gi2
    go_wp2_with fail
    refine gpa.mono ?_
    rintro e x3 ⟨u3, rfl, gown3, gb3⟩
    have gB3 := gB2.trans (gb3.mono (by omega))
    have gs3 := gB3.size
    obtain ⟨r3, k3, rfl, _, _, gi3, _⟩ := Own2.shape gown3 rfl
    clear gpa gown3
    by_cases hg : G = 0
    · have hgi : ((G : Int) != 0) = false := by subst hg; rfl
      have HR := Lib.hid (show parseT y = (A, 0) by rw [HPY.out, hg])
      have HLL := Lib.hid (show (linesF A).length ≤ 2097152 by
        have := parsed_len _ y [] A rfl HR.out
        have e : (linesF []).length = 0 := rfl
        omega)
      have HAM := Lib.hid (show ∀ x ∈ A, x.1.length ≤ 1048576 ∧ x.2.length ≤ 1048576 by
        intro x hx
        have h1 := parsed_mem 1048576 _ y [] A rfl hky (by simp) HR.out x hx
        omega)
      have HPA := Lib.hid (print_parsed y A HR.out hal)
      have HPB := Lib.hid (show parseT (linesF A) = (A, 0) by have := parse_printed A (by rw [HPA.out]); rwa [HPA.out] at this)
      go_wp2_with fail
      refine (print_any A r3 _ k3 rfl (by omega) _ gi3 HAM.out (Nat.le_trans HLL.out (by omega))).mono ?_
      rw [HPA.out]
      rintro e x4 ⟨u4, rfl, gown4, gb4⟩
      have gB4 := gB3.trans (gb4.mono (by omega))
      have gs4 := gB4.size
      have gi4 := gi3.below gb4
      obtain ⟨r4, k4, rfl, gd1, gd2, gi5⟩ := gown4.in8n (n := (linesF A).length) rfl
      have hlla := HLL.out
      have gpb := parse_any (linesF A) r4 _ k4 rfl gd1 gd2 (by omega) x4 (hM.below gB4) (Utf8Tabs_below hT gB4) gi5
      rw [HPB.out] at gpb
      unfold maxLen at gd2
      clear gown4 gi5 gi3
      go_wp2_with fail
      refine gpb.mono ?_
      rintro e x5 ⟨u5, rfl, gown5, gb5⟩
      have gB5 := gB4.trans (gb5.mono (by omega))
      have gs5 := gB5.size
      obtain ⟨r5, k5, rfl, _, _, gi6, _⟩ := Own2.shape gown5 rfl
      have gi7 := gi4.below gb5
      clear gpb gown5 gi4
      go_wp2_with fail
      refine (sameFields_same A r3 r5 _ k3 _ k5 rfl rfl (by unfold maxLen; omega) _ gi7 gi6).mono ?_
      rintro e x6 ⟨rfl, gb6⟩
      go_wp2_with fail
      go_ret
      exact ⟨rfl, gB5.trans (gb6.mono (by omega))⟩
    · have hgi : ((G : Int) != 0) = true := by simpa using hg
      have ha0 : A.length = 0 := by rw [HA.out, show (parseT y).1 = [] from HF.out (by rw [← show G = (parseT y).2 from HG.out]; exact hg)]; rfl
      go_wp2_with fail
      go_ret
      exact ⟨ret_bool (by simp), gB3⟩
  · have hei : ((E : Int) == 0) = false := by simpa using he
    have ht0 : T.length = 0 := by rw [HTT.out, HPF.out (by rw [← show E = (printT L).2 from HE.out]; exact he)]; rfl
    unfold maxLen at hc2
    clear hi3 hb1 hb2 hb3 hB2
    go_wp2_with fail
    refine (copyBytes_any y q _ d rfl (by omega) w3 (hy.below hB3)).mono ?_
    rintro e x2 ⟨u2, rfl, gown2, gb2⟩
    have gB2 := hB3.trans (gb2.mono hB3.size)
    have gs2 := gB2.size
    obtain ⟨r2, k2, rfl, gc1, gc2, gi2⟩ := gown2.in8n (n := y.length) rfl
    have gpa := parse_any y r2 _ k2 rfl gc1 gc2 (by omega) x2 (hM.below gB2) (Utf8Tabs_below hT gB2) gi2
    rw [← HA.out, ← HG.out] at gpa
    unfold maxLen at gc2
    clear gown2 gi2
    go_wp2_with fail
    refine gpa.mono ?_
    rintro e x3 ⟨u3, rfl, gown3, gb3⟩
    have gB3 := gB2.trans (gb3.mono (by omega))
    have gs3 := gB3.size
    obtain ⟨r3, k3, rfl, _, _, gi3, _⟩ := Own2.shape gown3 rfl
    clear gpa gown3
    by_cases hg : G = 0
    · have hgi : ((G : Int) != 0) = false := by subst hg; rfl
      have HR := Lib.hid (show parseT y = (A, 0) by rw [HPY.out, hg])
      have HLL := Lib.hid (show (linesF A).length ≤ 2097152 by
        have := parsed_len _ y [] A rfl HR.out
        have e : (linesF []).length = 0 := rfl
        omega)
      have HAM := Lib.hid (show ∀ x ∈ A, x.1.length ≤ 1048576 ∧ x.2.length ≤ 1048576 by
        intro x hx
        have h1 := parsed_mem 1048576 _ y [] A rfl hky (by simp) HR.out x hx
        omega)
      have HPA := Lib.hid (print_parsed y A HR.out hal)
      have HPB := Lib.hid (show parseT (linesF A) = (A, 0) by have := parse_printed A (by rw [HPA.out]); rwa [HPA.out] at this)
      go_wp2_with fail
      refine (print_any A r3 _ k3 rfl (by omega) _ gi3 HAM.out (Nat.le_trans HLL.out (by omega))).mono ?_
      rw [HPA.out]
      rintro e x4 ⟨u4, rfl, gown4, gb4⟩
      have gB4 := gB3.trans (gb4.mono (by omega))
      have gs4 := gB4.size
      have gi4 := gi3.below gb4
      obtain ⟨r4, k4, rfl, gd1, gd2, gi5⟩ := gown4.in8n (n := (linesF A).length) rfl
      have hlla := HLL.out
      have gpb := parse_any (linesF A) r4 _ k4 rfl gd1 gd2 (by omega) x4 (hM.below gB4) (Utf8Tabs_below hT gB4) gi5
      rw [HPB.out] at gpb
      unfold maxLen at gd2
      clear gown4 gi5 gi3
      go_wp2_with fail
      refine gpb.mono ?_
      rintro e x5 ⟨u5, rfl, gown5, gb5⟩
      have gB5 := gB4.trans (gb5.mono (by omega))
      have gs5 := gB5.size
      obtain ⟨r5, k5, rfl, _, _, gi6, _⟩ := Own2.shape gown5 rfl
      have gi7 := gi4.below gb5
      clear gpb gown5 gi4
      go_wp2_with fail
      refine (sameFields_same A r3 r5 _ k3 _ k5 rfl rfl (by unfold maxLen; omega) _ gi7 gi6).mono ?_
      rintro e x6 ⟨rfl, gb6⟩
      go_wp2_with fail
      go_ret
      exact ⟨rfl, gB5.trans (gb6.mono (by omega))⟩
    · have hgi : ((G : Int) != 0) = true := by simpa using hg
      have ha0 : A.length = 0 := by rw [HA.out, show (parseT y).1 = [] from HF.out (by rw [← show G = (parseT y).2 from HG.out]; exact hg)]; rfl
      go_wp2_with fail
      go_ret
      exact ⟨ret_bool (by simp), gB3⟩
end Go.Proofs.YtpgjlepjhbjhfaaDoor
