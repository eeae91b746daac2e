/-
  good, Value: a field's value.
-/
import Derived.Test.YtpgjlepjhbjhfaaDoorTrim
import Derived.Test.YtpgjlepjhbjhfaaDoorTokB
import Derived.Test.YtpgjlepjhbjhfaaDoorTexts
namespace Go.Proofs.YtpgjlepjhbjhfaaDoor
open Go.RowKit

def vcB (c : Int) : Bool := decide (c = 9 ∨ (32 ≤ c ∧ c ≠ 127))
def vcs (l : List UInt8) : Bool := l.all fun b => vcB (b.toNat : Int)
def goodT (l : List UInt8) : Bool := vcs l && decide (trim l = l)
theorem vcs_no (l : List UInt8) (k : Nat) (hk : k < l.length) (h : vcB (l[k].toNat : Int) = false) : goodT l = false := by
  unfold goodT vcs
  rw [Bool.and_eq_false_iff]
  left
  rw [List.all_eq_false]
  exact ⟨l[k], List.getElem_mem hk, by simpa using h⟩
theorem vcs_all (l : List UInt8) (h : ∀ j, (hj : j < l.length) → vcB (l[j].toNat : Int) = true) : goodT l = decide (trim l = l) := by
  unfold goodT vcs
  rw [List.all_eq_true.2, Bool.true_and]
  intro x hx
  obtain ⟨j, hj, rfl⟩ := List.getElem_of_mem hx
  exact h j hj
theorem byte_at (s : ByteArray) (k : Nat) (hk : k < s.size) (hl : k < s.data.toList.length) : s.data.toList[k] = s[k] := by
  have := bt_str s k hk
  rw [bt_get _ k hl] at this
  exact UInt8.toNat_inj.1 (by omega)

theorem valueText_any (c : Int) (h0 : 0 ≤ c) (h1 : c ≤ 255) (w : World) :
    Calls Tryd.prog 77 #[.int .u8 c] w fun e w' => e = .returned (.bool (vcB c)) ∧ w = w' := by
  by_cases a : c = 9
  · subst a
    go_enter Tryd.func77, Tryd.ntmps77
    go_wp2
    go_ret
    exact ⟨ret_bool rfl, rfl⟩
  · have t1 : (c == 9) = false := beq_eq_false_iff_ne.2 a
    have HA := Lib.hid a
    clear a
    by_cases b : 32 ≤ c
    · by_cases d : c = 127
      · subst d
        go_enter Tryd.func77, Tryd.ntmps77
        go_wp2
        go_ret
        exact ⟨ret_bool rfl, rfl⟩
      · have t2 : (c == 127) = false := beq_eq_false_iff_ne.2 d
        have t3 : (c != 127) = true := by simp [bne, t2]
        have HR := Lib.hid (show vcB c = true by unfold vcB; rw [decide_eq_true_iff]; exact .inr ⟨b, d⟩)
        clear d
        go_enter Tryd.func77, Tryd.ntmps77
        go_wp2
        go_ret
        exact ⟨ret_bool HR.out.symm, rfl⟩
    · have HR := Lib.hid (show vcB c = false by unfold vcB; rw [decide_eq_false_iff_not]; have := HA.out; omega)
      go_enter Tryd.func77, Tryd.ntmps77
      go_wp2
      go_ret
      exact ⟨ret_bool HR.out.symm, rfl⟩

theorem refGood_any (s : ByteArray) (w : World) (hs : s.size ≤ maxLen) :
    Calls Tryd.prog 53 #[.string s] w fun e w' => e = .returned (.bool (goodT s.data.toList)) ∧ w = w' := by
  have hms := Lib.hid hs
  unfold maxLen at hs
  go_enter Tryd.func53, Tryd.ntmps53
  go_wp2
  go_loopw [3] (fun i wr => ∃ k : Nat, k ≤ s.size ∧ i = .int .i64 k ∧ wr = w ∧ (∀ j, (hj : j < s.data.toList.length) → j < k → vcB (s.data.toList[j].toNat : Int) = true)) (fun i _ => s.size - (intOf i).toNat)
  case atStart => exact ⟨0, Nat.zero_le _, rfl, rfl, fun j _ hj => absurd hj (Nat.not_lt_zero j)⟩
  case round =>
    obtain ⟨k, hk, rfl, rfl, hn⟩ := hrel
    have HN := Lib.hid hn
    clear hn
    by_cases hlt : k < s.size
    · have hl : k < s.data.toList.length := by rw [size_list]; exact hlt
      have E := Lib.hid (byte_at s k hlt hl)
      obtain ⟨b0, b1⟩ := byte_le s k hlt
      go_wp2_with fail
      refine (valueText_any _ b0 b1 _).mono ?_
      rintro e w' ⟨rfl, rfl⟩
      cases hb : vcB (s[k].toNat : Int)
      · have HB := Lib.hid hb
        clear hb
        go_wp2_with fail
        go_ret
        exact ⟨ret_bool (vcs_no _ k hl (by rw [E.out]; exact HB.out)).symm, rfl⟩
      · have HB := Lib.hid hb
        clear hb
        go_wp2_with fail
        go_roundw
        case rel =>
          refine ⟨k + 1, by omega, by go_num, by trivial, fun j hjl hj => ?_⟩
          by_cases h : j = k
          · subst h; rw [E.out]; exact HB.out
          · exact HN.out j hjl (by omega)
        case measure => simp [intOf]; omega
    · obtain rfl : k = s.size := by omega
      have HA := Lib.hid (vcs_all _ (fun j hj => HN.out j hj (by rw [size_list] at hj; exact hj)))
      obtain ⟨t, ht⟩ : ∃ t : ByteArray, t = ⟨(trim s.data.toList).toArray⟩ := ⟨_, rfl⟩
      have hrun := refTrim_any s wr hms.out
      rw [← ht] at hrun
      have HT := Lib.hid ht
      clear ht
      go_wp2_with fail
      refine hrun.mono ?_
      rintro e w' ⟨rfl, rfl⟩
      go_wp2_with fail
      go_ret
      refine ⟨ret_bool ?_, rfl⟩
      rw [HA.out, strs_eq, HT.out]

theorem good_any (s : ByteArray) (w : World) (hs : s.size ≤ maxLen) :
    Calls Tryd.prog 49 #[.string s] w fun e w' => e = .returned (.bool (goodT s.data.toList)) ∧ Below w.heap.size w w' := by
  have hms := Lib.hid hs
  unfold maxLen at hs
  go_enter Tryd.func49, Tryd.ntmps49
  go_wp2
  go_loopw [7] (fun i wr => ∃ k : Nat, k ≤ s.size ∧ i = .int .i64 k ∧ wr = w ∧ (∀ j, (hj : j < s.data.toList.length) → j < k → vcB (s.data.toList[j].toNat : Int) = true)) (fun i _ => s.size - (intOf i).toNat)
  case atStart => exact ⟨0, Nat.zero_le _, rfl, rfl, fun j _ hj => absurd hj (Nat.not_lt_zero j)⟩
  case round =>
    obtain ⟨k, hk, rfl, rfl, hn⟩ := hrel
    have HN := Lib.hid hn
    clear hn
    by_cases hlt : k < s.size
    · have hl : k < s.data.toList.length := by rw [size_list]; exact hlt
      have E := Lib.hid (byte_at s k hlt hl)
      obtain ⟨b0, b1⟩ := byte_le s k hlt
      by_cases c9 : (s[k].toNat : Int) = 9
      · have t1 : ((s[k].toNat : Int) != 9) = false := by simp; omega
        have HB := Lib.hid (show vcB (s[k].toNat : Int) = true by unfold vcB; exact decide_eq_true (.inl c9))
        clear c9
        go_wp2_with fail
        go_roundw
        case rel =>
          refine ⟨k + 1, by omega, by go_num, by trivial, fun j hjl hj => ?_⟩
          by_cases h : j = k
          · subst h; rw [E.out]; exact HB.out
          · exact HN.out j hjl (by omega)
        case measure => simp [intOf]; omega
      · have t1 : ((s[k].toNat : Int) != 9) = true := by simp; omega
        by_cases c32 : (s[k].toNat : Int) < 32
        · have HB := Lib.hid (show vcB (s[k].toNat : Int) = false by unfold vcB; exact decide_eq_false (by omega))
          clear c9
          go_wp2_with fail
          go_ret
          exact ⟨ret_bool (vcs_no _ k hl (by rw [E.out]; exact HB.out)).symm, Below.refl _ _⟩
        · by_cases c127 : (s[k].toNat : Int) = 127
          · have t2 : ((s[k].toNat : Int) == 127) = true := by simp; omega
            have HB := Lib.hid (show vcB (s[k].toNat : Int) = false by unfold vcB; exact decide_eq_false (by omega))
            clear c9 c127
            go_wp2_with fail
            go_ret
            exact ⟨ret_bool (vcs_no _ k hl (by rw [E.out]; exact HB.out)).symm, Below.refl _ _⟩
          · have t2 : ((s[k].toNat : Int) == 127) = false := by simp; omega
            have HB := Lib.hid (show vcB (s[k].toNat : Int) = true by unfold vcB; exact decide_eq_true (by omega))
            clear c9 c127
            go_wp2_with fail
            go_roundw
            case rel =>
              refine ⟨k + 1, by omega, by go_num, by trivial, fun j hjl hj => ?_⟩
              by_cases h : j = k
              · subst h; rw [E.out]; exact HB.out
              · exact HN.out j hjl (by omega)
            case measure => simp [intOf]; omega
    · obtain rfl : k = s.size := by omega
      have HA := Lib.hid (vcs_all _ (fun j hj => HN.out j hj (by rw [size_list] at hj; exact hj)))
      obtain ⟨t, ht⟩ : ∃ t : ByteArray, t = ⟨(trim s.data.toList).toArray⟩ := ⟨_, rfl⟩
      have hrun := tokTrim_any s wr hms.out
      rw [← ht] at hrun
      have HT := Lib.hid ht
      clear ht
      go_wp2_with fail
      refine hrun.mono ?_
      rintro e w' ⟨rfl, hb⟩
      go_wp2_with fail
      go_ret
      refine ⟨ret_bool ?_, hb⟩
      rw [HA.out, strs_eq, HT.out]
end Go.Proofs.YtpgjlepjhbjhfaaDoor
