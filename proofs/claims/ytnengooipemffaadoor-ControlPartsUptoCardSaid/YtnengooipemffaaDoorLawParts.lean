/-
  ControlParts: told in one field or in two, it is the same.
-/
import Derived.Test.YtnengooipemffaaDoorCaseLaw
import Derived.Test.YtnengooipemffaaDoorCtlForm
namespace Go.Proofs.YtnengooipemffaaDoor
open Go.RowKit

set_option maxHeartbeats 4000000 in
theorem controlParts_walk (a b : ByteArray) (w : World) (ha : a.data.toList.length ≤ 1048576) (hb : b.data.toList.length ≤ 1048576) (hsh : w.ShapedOpen Tryd.prog) :
    Calls Tryd.prog 7 #[.string a, .string b] w fun e w' => e = .returned (.bool true) ∧ Below w.heap.size w w' := by
  have hM := MaxC.of hsh
  clear hsh
  have hza := size_list a
  have hzb := size_list b
  have HZA := Lib.hid hza
  rw [hza] at ha
  rw [hzb] at hb
  go_enter Tryd.func7, Tryd.ntmps7
  go_wp2_with fail
  refine (alive15_any _ hM).mono ?_
  rintro e w1 ⟨rfl, hb1⟩
  have hs1 := hb1.size
  go_wp2_with fail
  go_loopw [4, 5] (fun v i wr => ∃ k : Nat, k ≤ a.size ∧ v = .bool false ∧ i = .int .i64 k ∧ (∀ j, (hj : j < a.data.toList.length) → j < k → a.data.toList[j] ≠ 34) ∧ w1 = wr) (fun _ i _ => a.size - (intOf i).toNat)
  case atStart => exact ⟨0, Nat.zero_le _, rfl, rfl, fun j _ h => absurd h (Nat.not_lt_zero j), rfl⟩
  case round =>
    obtain ⟨k, hk, rfl, rfl, hall, rfl⟩ := hrel
    have HALL := Lib.hid hall
    clear hall
    by_cases hlt : k < a.size
    · have hkl : k < a.data.toList.length := by rw [HZA.out]; exact hlt
      have hx : a.data.toList[k] = a[k] := by
        have := bt_str a k hlt
        rw [bt_get _ k hkl] at this
        exact UInt8.toNat_inj.1 (by omega)
      have HX := Lib.hid hx
      clear hx
      by_cases c1 : (a[k].toNat : Int) = 34
      · go_wp2_with fail
        go_ret
        exact ⟨rfl, hb1⟩
      · have HC := Lib.hid c1
        have c2 : ((a[k].toNat : Int) == 34) = false := beq_eq_false_iff_ne.2 c1
        clear c1
        go_wp2_with fail
        go_roundw
        case rel =>
          refine ⟨k + 1, by omega, by trivial, by go_num, fun j hj hjk => ?_, by trivial⟩
          by_cases e : j = k
          · subst e
            rw [HX.out]
            intro e2
            exact HC.out (by rw [e2]; rfl)
          · exact HALL.out j hj (by omega)
        case measure => simp [intOf]; omega
    · obtain rfl : k = a.size := by omega
      have hno : ∀ x ∈ a.data.toList, x ≠ 34 := by
        intro x hx
        obtain ⟨j, hj, rfl⟩ := List.getElem_of_mem hx
        exact HALL.out j hj (by rw [HZA.out] at hj; exact hj)
      have HP := Lib.hid (ctl_parts a.data.toList b.data.toList hno)
      clear hno
      obtain ⟨b0, b1, b2, b3, b4, b5, z0, z1, z2, z3, hctl⟩ := ctlT_form [(ccW, a.data.toList), (ccW, b.data.toList)]
      have HC2 := Lib.hid hctl
      obtain ⟨st, hst⟩ : ∃ st : ByteArray, st = a ++ ⟨#[44]⟩ ++ b := ⟨_, rfl⟩
      have hsl : st.data.toList = a.data.toList ++ 44 :: b.data.toList := by rw [hst]; simp
      have hss : st.size ≤ 2097153 := by rw [← size_list, hsl, List.length_append, List.length_cons, HZA.out, hzb]; omega
      have HC1 := Lib.hid (show ctlT [(ccW, st.data.toList)] = _ by rw [hsl, HP.out, HC2.out])
      have hone := one_any st w1
      rw [hst] at hone
      rw [← hst] at hone
      have hone2 : ∀ W : World, Calls Tryd.prog 16 #[.string (a ++ ⟨#[44]⟩ ++ b)] W fun e w' => ∃ p, e = .returned (.slice p 1 1) ∧ In2 w' p [(ccW, st.data.toList)] ∧ Below W.heap.size W w' := fun W => by rw [← hst]; exact one_any st W
      have HONE := Lib.hid hone2
      have HT1 := Lib.hid (show (tokensOf [(ccW, st.data.toList)] pgW).length ≤ 8000000000000 by
        have := tokens_of_len [(ccW, st.data.toList)] pgW
        simp only [List.map_cons, List.map_nil, List.sum_cons, List.sum_nil, size_list] at this
        omega)
      have HT2 := Lib.hid (show (tokensOf [(ccW, a.data.toList), (ccW, b.data.toList)] pgW).length ≤ 8000000000000 by
        have := tokens_of_len [(ccW, a.data.toList), (ccW, b.data.toList)] pgW
        simp only [List.map_cons, List.map_nil, List.sum_cons, List.sum_nil, size_list] at this
        omega)
      have HS1 := Lib.hid (show ∀ x ∈ [(ccW, st.data.toList)], x.1.length ≤ 4000000 ∧ x.2.length ≤ 4000000 by
        intro x hx
        rw [List.mem_singleton.1 hx, size_list]
        exact ⟨by show ccW.length ≤ _; decide, by omega⟩)
      have HS2 := Lib.hid (show ∀ x ∈ [(ccW, a.data.toList), (ccW, b.data.toList)], x.1.length ≤ 4000000 ∧ x.2.length ≤ 4000000 by
        intro x hx
        simp only [List.mem_cons, List.not_mem_nil, or_false] at hx
        rcases hx with rfl | rfl
        · rw [size_list]; exact ⟨by show ccW.length ≤ _; decide, by omega⟩
        · rw [size_list]; exact ⟨by show ccW.length ≤ _; decide, by omega⟩)
      clear hone hone2 hst hsl hctl
      go_wp2_with fail
      refine (HONE.out _).mono ?_
      rintro e w2 ⟨p2, rfl, hin2, hb2⟩
      have hB2 := hb1.trans (hb2.mono hs1)
      have hs2 := hB2.size
      have hc1 := cparse_any [(ccW, st.data.toList)] p2 1 1 rfl (by omega) w2 hin2 HS1.out HT1.out (hM.below hB2)
      rw [HC1.out] at hc1
      go_wp2_with fail
      refine hc1.mono ?_
      rintro e w3 ⟨rfl, hb3⟩
      have hB3 := hB2.trans (hb3.mono hs2)
      have hs3 := hB3.size
      have hB3' := hB3.alloc hs3 (.cells #[.string ⟨#[67, 97, 99, 104, 101, 45, 67, 111, 110, 116, 114, 111, 108]⟩, .string a, .string ⟨#[67, 97, 99, 104, 101, 45, 67, 111, 110, 116, 114, 111, 108]⟩, .string b] 36)
      have hc2 := cparse_any [(ccW, a.data.toList), (ccW, b.data.toList)] _ 2 2 rfl (by omega) _ (In2.lit w3 _ #[.string ⟨#[67, 97, 99, 104, 101, 45, 67, 111, 110, 116, 114, 111, 108]⟩, .string a, .string ⟨#[67, 97, 99, 104, 101, 45, 67, 111, 110, 116, 114, 111, 108]⟩, .string b] 36 (0, 0) (by simp [pr, prV, ccW])) HS2.out HT2.out (hM.below hB3')
      rw [HC2.out] at hc2
      clear hc1 hin2
      go_wp2_with fail
      refine hc2.mono ?_
      rintro e w4 ⟨rfl, hb4⟩
      have hB4 := hB3'.trans (hb4.mono (by simp; omega))
      clear hc2
      go_wp2_with fail
      go_ret
      exact ⟨rfl, hB4⟩
end Go.Proofs.YtnengooipemffaaDoor
