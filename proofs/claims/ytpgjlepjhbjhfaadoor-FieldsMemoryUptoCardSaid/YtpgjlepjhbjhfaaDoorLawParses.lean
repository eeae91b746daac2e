/-
  FieldsParses: every Parse answers the document's fields or error; the block is left as it was.
-/
import Derived.Test.YtpgjlepjhbjhfaaDoorAlive4
import Derived.Test.YtpgjlepjhbjhfaaDoorRefParse
import Derived.Test.YtpgjlepjhbjhfaaDoorBytesOpen
namespace Go.Proofs.YtpgjlepjhbjhfaaDoor
open Go.RowKit

theorem parseA_len (out : List Pair) (l : List UInt8) (ho : out.length ≤ 100) : (parseA out l).1.length ≤ 100 := by
  induction h : l.length using Nat.strongRecOn generalizing out l with
  | ind n ih =>
    by_cases h0 : 0 < l.length
    · cases he : eolAt l (l.findIdx endB) with
      | false => rw [parseA_bad out l h0 he]; simp
      | true =>
        by_cases hl : (lineR (l.take (l.findIdx endB))).2 = 0
        · by_cases h100 : 100 ≤ out.length
          · rw [parseA_many out l h0 he hl h100]; simp
          · rw [parseA_go out l h0 he hl (by omega)]
            exact ih _ (by rw [List.length_drop]; omega) _ _ (by simp; omega) rfl
        · rw [parseA_line out l h0 he hl]; simp
    · rw [List.length_eq_zero_iff.1 (by omega : l.length = 0), parseA_nil]; exact ho

set_option maxHeartbeats 4000000 in
theorem fieldsParses_walk (l : List UInt8) (p : Option Addr) (c : Nat) (w : World) (h : In8 w p l) (hle : l.length ≤ c) (hk : l.length ≤ 1048576) (hT : Tabs w) (hsh : w.ShapedOpen Tryd.prog) :
    Calls Tryd.prog 4 #[.slice p l.length c] w fun e w' => e = .returned (.bool true) ∧ Below w.heap.size w w' := by
  have hM := MaxC.of hsh
  have hpl := parseA_len [] l (by simp)
  have HPL := Lib.hid hpl
  clear hpl hsh
  go_enter Tryd.func4, Tryd.ntmps4
  go_wp2_with fail
  refine (alive4_any _ hM hT).mono ?_
  rintro e w1 ⟨rfl, hb1⟩
  have hs1 := hb1.size
  have h1 := h.below hb1
  go_wp2_with fail
  refine (spare_any l p _ c rfl (by omega) w1 h1).mono ?_
  rintro e w2 ⟨v2, rfl, hown2, hb2⟩
  have hs2 := hb2.size
  have h2 := h1.below hb2
  have hu2 := hb1.trans (hb2.mono hs1)
  obtain ⟨p2, c2, rfl, hc1, hc2, hin⟩ := hown2.in8n (n := l.length + 8) (by simp [marks_length])
  have hin2 := hin.fore
  have HC2 := Lib.hid hc2
  unfold maxLen at hc2
  go_wp2_with fail
  refine (parse_any l p2 _ c2 rfl (by omega) HC2.out (by omega) w2 (hM.below hu2) (Utf8Tabs_below hT hu2) hin2).mono ?_
  rintro e w3 ⟨v3, rfl, hown3, hb3⟩
  have hs3 := hb3.size
  have h3 := h2.below hb3
  have hin3 := hin.below hb3
  have hu3 := hu2.trans (hb3.mono (by omega))
  go_wp2_with fail
  refine (refParse_any l p _ c rfl hle (by omega) w3 h3).mono ?_
  rintro e w4 ⟨v4, rfl, hown4, hb4⟩
  have hs4 := hb4.size
  have h4 := h3.below hb4
  have hin4 := hin3.below hb4
  have hu4 := hu3.trans (hb4.mono (by omega))
  obtain ⟨p3, c3, rfl, _, _, hL3, _⟩ := Own2.shape hown3 rfl
  obtain ⟨p4, c4, rfl, _, _, hL4, _⟩ := Own2.shape hown4 rfl
  have hL3 := hL3.below hb4
  obtain ⟨E, hE⟩ : ∃ E : Nat, E = (parseT l).2 := ⟨_, rfl⟩
  rw [← hE]
  have t1 : ((E : Int) == (E : Int)) = true := by simp
  clear hE hown2 hown3 hown4
  go_wp2_with fail
  refine (sameFields_same (parseT l).1 _ _ _ _ _ _ rfl rfl (by have := HPL.out; unfold parseT maxLen; omega) _ hL3 hL4).mono ?_
  rintro e w5 ⟨rfl, hb5⟩
  have hs5 := hb5.size
  have h5 := h4.below hb5
  have hin5 := hin4.below hb5
  have hu5 := hu4.trans (hb5.mono (by omega))
  go_wp2_with fail
  refine (spare_any l p _ c rfl (by omega) w5 h5).mono ?_
  rintro e w6 ⟨v6, rfl, hown6, hb6⟩
  have hs6 := hb6.size
  have hin6 := hin5.below hb6
  have hu6 := hu5.trans (hb6.mono (by omega))
  obtain ⟨p6, c6, rfl, hd1, hd2, hin7⟩ := hown6.in8n (n := l.length + 8) (by simp [marks_length])
  go_wp2_with fail
  refine (sameBytes_any _ _ p2 p6 _ c2 _ c6 (by simp [marks_length]) (by simp [marks_length]) (by unfold maxLen; omega) (by unfold maxLen; omega) w6 hin6 hin7).mono ?_
  rintro e w7 ⟨rfl, hb7⟩
  go_wp2_with fail
  go_ret
  exact ⟨ret_bool (by simp), hu6.trans (hb7.mono (by omega))⟩
end Go.Proofs.YtpgjlepjhbjhfaaDoor
