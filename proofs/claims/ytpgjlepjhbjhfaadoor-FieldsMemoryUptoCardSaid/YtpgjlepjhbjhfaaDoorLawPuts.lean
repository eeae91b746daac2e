/-
  FieldsPuts: behind Put a name has just that value, and every other name has what it had.
-/
import Derived.Test.YtpgjlepjhbjhfaaDoorWout
import Derived.Test.YtpgjlepjhbjhfaaDoorFields
import Derived.Test.YtpgjlepjhbjhfaaDoorAlive4
import Derived.Test.YtpgjlepjhbjhfaaDoorFieldsOpen
namespace Go.Proofs.YtpgjlepjhbjhfaaDoor
open Go.RowKit

theorem own2_nil {e : TypeId} {w : World} {base : Nat} {L : List Pair} {p : Option Addr} {n c : Nat} (h : Own2 e w base (.slice p n c) L) : p = none → n = 0 ∧ c = 0 := by
  intro hp
  rcases h.2 with ⟨h1, _⟩ | ⟨g, cap, cur, h1, _⟩
  · injection h1 with h1 h2 h3
    exact ⟨h2, h3⟩
  · injection h1 with h1
    rw [hp] at h1; cases h1

theorem outP_one (n : List UInt8) (x : Pair) : outP [n] x = hasName n x := by simp [outP, amongT, hasName]
theorem values_kept (n m : List UInt8) (L : List Pair) (h : fold m ≠ fold n) : valuesOf (keptF [n] L) m = valuesOf L m := by
  unfold valuesOf keptF
  rw [List.filter_filter]
  congr 1
  apply List.filter_congr
  intro x _
  rw [outP_one]
  unfold hasName
  by_cases h1 : fold x.1 = fold m
  · have h2 : ¬ fold x.1 = fold n := fun e => h (h1.symm.trans e)
    simp [h1, h]
  · simp [h1]
theorem values_out (n : List UInt8) (L : List Pair) : valuesOf (keptF [n] L) n = [] := by
  unfold valuesOf keptF
  rw [List.filter_filter, List.map_eq_nil_iff, List.filter_eq_nil_iff]
  intro x _
  rw [outP_one]
  simp
theorem values_app (L M : List Pair) (n : List UInt8) : valuesOf (L ++ M) n = valuesOf L n ++ valuesOf M n := by
  unfold valuesOf; rw [List.filter_append, List.map_append]
theorem put_values (n v : List UInt8) (L : List Pair) : valuesOf (putF n v L) n = [v] := by
  unfold putF
  rw [values_app, values_out]
  simp [valuesOf, hasName]
theorem put_others (n v m : List UInt8) (L : List Pair) (h : fold m ≠ fold n) : valuesOf (putF n v L) m = valuesOf L m := by
  unfold putF
  rw [values_app, values_kept n m L h]
  have h2 : ¬ fold n = fold m := fun e => h e.symm
  simp [valuesOf, hasName, h2]
theorem put_without (n v : List UInt8) (L : List Pair) : valuesOf (keptF [n] (putF n v L)) n = [] := values_out n _
theorem putF_length (n v : List UInt8) (L : List Pair) : (putF n v L).length ≤ L.length + 1 := by
  unfold putF; rw [List.length_append]; have := keptF_length [n] L; simp; omega
theorem putF_mem (n v : List UInt8) (L : List Pair) (x : Pair) (h : x ∈ putF n v L) : x ∈ L ∨ x = (n, v) := by
  unfold putF keptF at h
  rcases List.mem_append.1 h with h | h
  · exact .inl (List.mem_filter.1 h).1
  · exact .inr (List.mem_singleton.1 h)

set_option maxHeartbeats 8000000 in
theorem fieldsPuts_walk (L : List Pair) (p : Option Addr) (c : Nat) (a b o : ByteArray) (w : World) (hin : In2 w p L) (hL : L.length * 32 ≤ 140737488351232 ∧ ∀ x ∈ L, x.1.length ≤ 140737488351232 ∧ x.2.length ≤ 140737488351232)
    (ha : a.data.toList.length ≤ 140737488351232) (_ : b.data.toList.length ≤ 140737488351232) (ho : o.data.toList.length ≤ 140737488351232) (hT : Tabs w) (hsh : w.ShapedOpen Tryd.prog) :
    Calls Tryd.prog 6 #[.slice p L.length c, .string a, .string b, .string o] w fun e w' => e = .returned (.bool true) ∧ Below w.heap.size w w' := by
  have hM := MaxC.of hsh
  clear hsh
  rw [size_list] at ha ho
  obtain ⟨hl, hm⟩ := hL
  have HM := Lib.hid (fun x hx => (hm x hx).1)
  clear hm
  obtain ⟨P, hP⟩ : ∃ P, P = putF a.data.toList b.data.toList L := ⟨_, rfl⟩
  have HP := Lib.hid hP
  have hpl : P.length ≤ L.length + 1 := by rw [hP]; exact putF_length _ _ _
  have HPM := Lib.hid (show ∀ x ∈ P, x.1.length ≤ 140737488351232 by
    intro x hx
    rw [hP] at hx
    rcases putF_mem _ _ _ x hx with h | rfl
    · exact HM.out x h
    · rw [size_list]; exact ha)
  clear hP
  go_enter Tryd.func6, Tryd.ntmps6
  go_wp2_with fail
  refine (alive4_any _ hM hT).mono ?_
  rintro e w1 ⟨rfl, hb1⟩
  have hs1 := hb1.size
  go_wp2_with fail
  refine (copyFields_any L p _ c rfl (by omega) _ (hin.below hb1)).mono ?_
  rintro e w2 ⟨v2, rfl, hown2, hb2⟩
  have hB2 := hb1.trans (hb2.mono hs1)
  have hs2 := hb2.size
  obtain ⟨p2, c2, rfl, _, _, hin2, _⟩ := Own2.shape hown2 rfl
  have hnil2 := own2_nil hown2
  clear hown2
  go_wp2_with fail
  refine (put_any L p2 _ c2 rfl (by omega) hnil2 a b _ HM.out ha hin2).mono ?_
  rw [← HP.out]
  rintro e w3 ⟨v3, rfl, hown3, hb3⟩
  have hB3 := hB2.trans (hb3.mono (by omega))
  have hs3 := hb3.size
  obtain ⟨p3, c3, rfl, _, _, hin3, _⟩ := Own2.shape hown3 rfl
  have hnil3 := own2_nil hown3
  clear hown3 hin2 hnil2
  go_wp2_with fail
  refine (values_any P p3 _ c3 rfl (by omega) a ha HPM.out _ hin3).mono ?_
  rw [show valuesOf P a.data.toList = [b.data.toList] by rw [HP.out]; exact put_values _ _ _]
  rintro e w4 ⟨v4, rfl, hown4, hb4⟩
  have hB4 := hB3.trans (hb4.mono (by omega))
  have hs4 := hb4.size
  obtain ⟨p4, c4, rfl, _, _, hin4, _⟩ := hown4.shape (n := 1) rfl
  clear hown4
  go_wp2_with fail
  have hst := sameTexts_any [b.data.toList] [b.data.toList] p4 _ 1 c4 1 1 rfl rfl (by unfold maxLen; omega) (by unfold maxLen; omega) _ (hin4.alloc (.cells #[.string b] 9)) (InS.one w4 b)
  rw [decide_eq_true rfl] at hst
  refine hst.mono ?_
  rintro e w5 ⟨rfl, hb5⟩
  have hb5' := ((Below.refl _ w4).alloc (Nat.le_refl _) (.cells #[.string b] 9)).trans (hb5.mono (by simp))
  have hB5 := hB4.trans (hb5'.mono (by omega))
  have hs5 := hb5'.size
  have hin5 := (hin3.below hb4).below hb5'
  clear hst hin4 hb5 hb5' hin3
  go_wp2_with fail
  refine (lower_any o _ ho).mono ?_
  rintro e w6 ⟨rfl, hb6⟩
  have hs6 := hb6.size
  go_wp2_with fail
  refine (lower_any a _ ha).mono ?_
  rintro e w7 ⟨rfl, hb7⟩
  have hs7 := hb7.size
  have hB7 := (hB5.trans (hb6.mono (by omega))).trans (hb7.mono (by omega))
  have hin7 := (hin5.below hb6).below hb7
  obtain ⟨fo, hfo⟩ : ∃ f : ByteArray, f = ⟨(fold o.data.toList).toArray⟩ := ⟨_, rfl⟩
  obtain ⟨fa, hfa⟩ : ∃ f : ByteArray, f = ⟨(fold a.data.toList).toArray⟩ := ⟨_, rfl⟩
  have hfod : fo.data.toList = fold o.data.toList := by rw [hfo]
  have hfad : fa.data.toList = fold a.data.toList := by rw [hfa]
  have hR : (fo.toList == fa.toList) = decide (fold o.data.toList = fold a.data.toList) := by rw [strs_eq, hfod, hfad]
  rw [← hfo, ← hfa]
  have HA1 := Lib.hid (show ∀ x ∈ [a.data.toList], x.length ≤ 140737488351232 by intro x hx; rw [List.mem_singleton.1 hx, size_list]; exact ha)
  have HKL := Lib.hid (keptF_length [a.data.toList] P)
  have HKM := Lib.hid (show ∀ x ∈ keptF [a.data.toList] P, x.1.length ≤ 140737488351232 from fun x hx => HPM.out x (List.mem_filter.1 hx).1)
  have HKV := Lib.hid (show valuesOf (keptF [a.data.toList] P) a.data.toList = [] from values_out _ _)
  clear hfo hfa hfod hfad hin5
  by_cases hf : fold o.data.toList = fold a.data.toList
  · rw [decide_eq_true hf] at hR
    have hR2 : (fo.toList != fa.toList) = false := by rw [bne, hR]; rfl
    clear hf
    go_wp2_with fail
    refine (without_any P p3 _ c3 rfl (by omega) hnil3 [a.data.toList] _ 1 1 rfl (by omega) _ HPM.out HA1.out (InS.one w7 a) (hin7.alloc _)).mono ?_
    rintro e w8 ⟨v8, rfl, hown8, hb8⟩
    have hb8' := ((Below.refl _ w7).alloc (Nat.le_refl _) (.cells #[.string a] 9)).trans (hb8.mono (by simp))
    have hB8 := hB7.trans (hb8'.mono (by omega))
    have hs8 := hb8'.size
    obtain ⟨p8, c8, rfl, _, _, hin8, _⟩ := Own2.shape hown8 rfl
    clear hown8
    go_wp2_with fail
    refine (values_any _ p8 _ c8 rfl (Nat.le_trans HKL.out (by omega)) a ha HKM.out _ hin8).mono ?_
    rw [HKV.out]
    rintro e w9 ⟨v9, rfl, hown9, hb9⟩
    obtain ⟨p9, c9, rfl, _, _, _, _⟩ := hown9.shape (n := 0) rfl
    go_wp2_with fail
    go_ret
    exact ⟨rfl, hB8.trans (hb9.mono (by omega))⟩
  · rw [decide_eq_false hf] at hR
    have hR2 : (fo.toList != fa.toList) = true := by rw [bne, hR]; rfl
    have HV := Lib.hid (show valuesOf P o.data.toList = valuesOf L o.data.toList by rw [HP.out]; exact put_others _ _ _ _ hf)
    clear hf
    have hvl := values_length L o.data.toList
    go_wp2_with fail
    refine (values_any P p3 _ c3 rfl (by omega) o ho HPM.out _ hin7).mono ?_
    rw [HV.out]
    rintro e w8 ⟨v8, rfl, hown8, hb8⟩
    have hB8 := hB7.trans (hb8.mono (by omega))
    have hs8 := hb8.size
    have hin8 := hin7.below hb8
    go_wp2_with fail
    refine (copyFields_any L p _ c rfl (by omega) _ (hin.below hB8)).mono ?_
    rintro e w9 ⟨v9, rfl, hown9, hb9⟩
    have hB9 := hB8.trans (hb9.mono (by omega))
    have hs9 := hb9.size
    obtain ⟨p9, c9, rfl, _, _, hin9, _⟩ := Own2.shape hown9 rfl
    clear hown9
    go_wp2_with fail
    refine (values_any L p9 _ c9 rfl (by omega) o ho HM.out _ hin9).mono ?_
    rintro e w10 ⟨v10, rfl, hown10, hb10⟩
    have hB10 := hB9.trans (hb10.mono (by omega))
    have hs10 := hb10.size
    have hin10 := (hin8.below hb9).below hb10
    obtain ⟨p8, c8, rfl, _, _, hi8, _⟩ := ((hown8.below hb9).below hb10).shape rfl
    obtain ⟨p10, c10, rfl, _, _, hi10, _⟩ := hown10.shape rfl
    have hst := sameTexts_any (valuesOf L o.data.toList) (valuesOf L o.data.toList) p8 p10 _ c8 _ c10 rfl rfl (by unfold maxLen; omega) (by unfold maxLen; omega) _ hi8 hi10
    rw [decide_eq_true rfl] at hst
    clear hown8 hown10 hi8 hi10 hin8 hin7 hin9
    go_wp2_with fail
    refine hst.mono ?_
    rintro e w11 ⟨rfl, hb11⟩
    have hB11 := hB10.trans (hb11.mono (by omega))
    have hs11 := hb11.size
    have hin11 := hin10.below hb11
    clear hst
    go_wp2_with fail
    refine (without_any P p3 _ c3 rfl (by omega) hnil3 [a.data.toList] _ 1 1 rfl (by omega) _ HPM.out HA1.out (InS.one w11 a) (hin11.alloc _)).mono ?_
    rintro e w12 ⟨v12, rfl, hown12, hb12⟩
    have hb12' := ((Below.refl _ w11).alloc (Nat.le_refl _) (.cells #[.string a] 9)).trans (hb12.mono (by simp))
    have hB12 := hB11.trans (hb12'.mono (by omega))
    have hs12 := hb12'.size
    obtain ⟨p12, c12, rfl, _, _, hin12, _⟩ := Own2.shape hown12 rfl
    clear hown12
    go_wp2_with fail
    refine (values_any _ p12 _ c12 rfl (Nat.le_trans HKL.out (by omega)) a ha HKM.out _ hin12).mono ?_
    rw [HKV.out]
    rintro e w13 ⟨v13, rfl, hown13, hb13⟩
    obtain ⟨p13, c13, rfl, _, _, _, _⟩ := hown13.shape (n := 0) rfl
    go_wp2_with fail
    go_ret
    exact ⟨rfl, hB12.trans (hb13.mono (by omega))⟩
end Go.Proofs.YtpgjlepjhbjhfaaDoor
