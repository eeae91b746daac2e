/-
  TokJoins: a list that is put together of tokens is read as these tokens.
-/
import Derived.Test.YtpchpfhnimgdaaaDoorLawLists
import Derived.Test.YtpchpfhnimgdaaaDoorJoinLaw
import Derived.Test.YtpchpfhnimgdaaaDoorTextsOpen
namespace Go.Proofs.YtpchpfhnimgdaaaDoor
open Go.RowKit

theorem tokB_plain : ∀ b : UInt8, tokB (b.toNat : Int) = true → b ≠ 34 ∧ b ≠ 44 ∧ blankB b = false := by
  have h : ∀ n : Fin 256, tokB (n.val : Int) = true → UInt8.ofNat n.val ≠ 34 ∧ UInt8.ofNat n.val ≠ 44 ∧ blankB (UInt8.ofNat n.val) = false := by decide +kernel
  intro b hb
  have := h ⟨b.toNat, b.toNat_lt⟩ hb
  simpa using this
theorem isTok_plain (a : List UInt8) (h : isTok a = true) : Plain a ∧ a ≠ [] := by
  unfold isTok at h
  rw [Bool.and_eq_true] at h
  refine ⟨fun b hb => tokB_plain b (by have := List.all_eq_true.1 h.1 b hb; simpa using this), ?_⟩
  rintro rfl
  simp at h
theorem joined_le (L : List (List UInt8)) (k : Nat) : (joined (L.take k)).length ≤ 3 * bulkT L := by
  rw [joined_len]
  induction L generalizing k with
  | nil => simp
  | cons a L ih =>
    cases k with
    | zero => simp
    | succ k => rw [List.take_succ_cons, List.map_cons, List.sum_cons, bulkT_cons]; have := ih k; omega

set_option maxHeartbeats 4000000 in
theorem tokJoins_walk (L : List (List UInt8)) (p : Option Addr) (c : Nat) (w : World) (hin : InS w p L) (hk : bulkT L ≤ 1048576) :
    Calls Tryd.prog 7 #[.slice p L.length c] w fun e w' => e = .returned (.bool true) ∧ Below w.heap.size w w' := by
  have hll := bulkT_length L
  have HJ := Lib.hid (joined_le L)
  have HM := Lib.hid (bulkT_mem L)
  go_enter Tryd.func7, Tryd.ntmps7
  go_wp2_with fail
  refine (alive_any _).mono ?_
  rintro e w1 ⟨rfl, hb1⟩
  have hs1 := hb1.size
  have hin1 := hin.below hb1
  go_wp2_with fail
  go_loopw [3, 4] (fun v i wr => ∃ (k : Nat) (st : ByteArray), k ≤ L.length ∧ v = .string st ∧ i = .int .i64 k ∧ st.data.toList = joined (L.take k) ∧ (∀ j, (h : j < L.length) → j < k → isTok L[j] = true) ∧ Below w1.heap.size w1 wr) (fun _ i _ => L.length - (intOf i).toNat)
  case atStart => exact ⟨0, ⟨#[]⟩, by omega, rfl, rfl, rfl, fun j _ h => absurd h (Nat.not_lt_zero j), Below.refl _ _⟩
  case round =>
    obtain ⟨k, st, hk2, rfl, rfl, hst, htok, hb⟩ := hrel
    have hbs := hb.size
    have hsz : st.size ≤ 3145728 := by have := HJ.out k; rw [← size_list, hst]; omega
    have HST := Lib.hid hst
    have HTK := Lib.hid htok
    clear hst htok
    by_cases hlt : k < L.length
    · obtain ⟨b, o, rfl, x, hck, hx⟩ := (hin1.below hb).at hlt
      have hxs : x.size ≤ 1048576 := by have := HM.out L[k] (List.getElem_mem hlt); rw [← size_list, hx]; omega
      have HX := Lib.hid hx
      clear hx
      go_wp2_with fail
      refine (tok_any x _ (by unfold maxLen; omega)).mono ?_
      rintro e w2 ⟨rfl, rfl⟩
      rw [HX.out]
      cases ht : isTok L[k]
      · have HT := Lib.hid ht
        clear ht
        go_wp2_with fail
        go_ret
        exact ⟨rfl, hb1.trans (hb.mono hs1)⟩
      · have HT := Lib.hid ht
        clear ht
        go_wp2_with fail
        go_roundw
        case rel =>
          refine ⟨k + 1, _, by omega, rfl, by go_num, ?_, fun j h hj => ?_, hb⟩
          · rw [joined_snoc L k hlt, ← HST.out, ← HX.out]
            simp
          · by_cases hjk : j = k
            · subst hjk; exact HT.out
            · exact HTK.out j h (by omega)
        case measure => simp [intOf]; omega
    · obtain rfl : k = L.length := by omega
      go_wp2_with fail
      refine (tokList_any st _ (by omega)).mono ?_
      rintro e w2 ⟨v2, rfl, hown2, hb2⟩
      have hjo : listOf st.data.toList = L := by
        rw [HST.out, List.take_length]
        refine listOf_joined L (fun a ha => ?_)
        obtain ⟨j, hj, rfl⟩ := List.getElem_of_mem ha
        exact isTok_plain _ (HTK.out j hj hj)
      rw [hjo] at hown2
      obtain ⟨p2, c2, rfl, _, _, hin2, _⟩ := hown2.shape rfl
      go_wp2_with fail
      refine (sameTexts_same L _ _ _ _ _ _ rfl rfl (by unfold maxLen; omega) _ hin2 ((hin1.below hb).below hb2)).mono ?_
      rintro e w3 ⟨rfl, hb3⟩
      have hs2 := hb2.size
      go_wp2_with fail
      go_ret
      exact ⟨rfl, ((hb1.trans (hb.mono hs1)).trans (hb2.mono (by omega))).trans (hb3.mono (by omega))⟩
end Go.Proofs.YtpchpfhnimgdaaaDoor
