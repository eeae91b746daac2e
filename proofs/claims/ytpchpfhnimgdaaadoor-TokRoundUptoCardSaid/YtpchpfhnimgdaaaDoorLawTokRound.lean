/-
  TokRound: what is quoted is one element of a list, and is unquoted to what it was.
-/
import Derived.Test.YtpchpfhnimgdaaaDoorLawLists
import Derived.Test.YtpchpfhnimgdaaaDoorQuote
namespace Go.Proofs.YtpchpfhnimgdaaaDoor
open Go.RowKit

theorem ba_self (s : ByteArray) : (⟨s.data.toList.toArray⟩ : ByteArray) = s := by cases s; simp
theorem isTok_quote (l : List UInt8) : isTok (34 :: l) = false := by
  unfold isTok
  rw [List.all_cons, show tokB ((34 : UInt8).toNat : Int) = false by decide]; rfl

set_option maxHeartbeats 2000000 in
theorem tokRound_walk (s : ByteArray) (w : World) (hs : s.data.toList.length ≤ 1048576) :
    Calls Tryd.prog 8 #[.string s] w fun e w' => e = .returned (.bool true) ∧ Below w.heap.size w w' := by
  rw [size_list] at hs
  cases ht : texts s.data.toList
  · have HQ := Lib.hid (quote_bad _ ht)
    clear ht
    go_enter Tryd.func8, Tryd.ntmps8
    go_wp2_with fail
    refine (alive_any _).mono ?_
    rintro e w1 ⟨rfl, hb1⟩
    go_wp2_with fail
    refine (quote_any s _ (by omega)).mono ?_
    rintro e w2 ⟨rfl, hb2⟩
    rw [HQ.out.1, HQ.out.2]
    go_wp2_with fail
    go_ret
    exact ⟨ret_bool (by simp), hb1.trans (hb2.mono hb1.size)⟩
  · have HQ := Lib.hid (quote_good _ ht)
    have HU := Lib.hid (unq_some _ _ (unq_quote _ ht))
    have HL := Lib.hid (listOf_quote _ ht)
    clear ht
    have hql : (quoteT s.data.toList).length ≤ 2097154 := by
      rw [HQ.out.1]; have := esc_len s.data.toList; rw [size_list] at this; simp; omega
    obtain ⟨q, hq⟩ : ∃ q : ByteArray, q = ⟨(quoteT s.data.toList).toArray⟩ := ⟨_, rfl⟩
    have hqd : q.data.toList = quoteT s.data.toList := by rw [hq]
    have hqs : q.size ≤ 2097154 := by rw [← size_list, hqd]; exact hql
    have HQ2 := Lib.hid hq
    have HQD := Lib.hid hqd
    clear hq hqd hql
    go_enter Tryd.func8, Tryd.ntmps8
    go_wp2_with fail
    refine (alive_any _).mono ?_
    rintro e w1 ⟨rfl, hb1⟩
    have hs1 := hb1.size
    go_wp2_with fail
    refine (quote_any s _ (by omega)).mono ?_
    rintro e w2 ⟨rfl, hb2⟩
    have hs2 := hb2.size
    rw [← HQ2.out, HQ.out.2]
    go_wp2_with fail
    refine (unquote_any q _ (by omega)).mono ?_
    rintro e w3 ⟨rfl, hb3⟩
    have hs3 := hb3.size
    rw [HQD.out, HU.out.1, HU.out.2, ba_self]
    have t1 : (s.toList == s.toList) = true := by simp
    go_wp2_with fail
    refine (tokList_any q _ (by omega)).mono ?_
    rintro e w4 ⟨v4, rfl, hown4, hb4⟩
    have hs4 := hb4.size
    have e4 : listOf q.data.toList = [q.data.toList] := by rw [HQD.out]; exact HL.out
    rw [e4] at hown4
    obtain ⟨p, c, rfl, _, _, hin, _⟩ := hown4.shape (n := 1) rfl
    have hin2 := hin.alloc (.cells #[.string q] 9)
    have hone := InS.one w4 q
    clear e4
    go_wp2_with fail
    refine (sameTexts_same [q.data.toList] _ _ 1 _ 1 _ rfl rfl (by unfold maxLen; decide) _ hin2 hone).mono ?_
    rintro e w5 ⟨rfl, hb5⟩
    go_wp2_with fail
    refine (tok_any q _ (by unfold maxLen; omega)).mono ?_
    rintro e w6 ⟨rfl, rfl⟩
    rw [HQD.out, HQ.out.1, isTok_quote]
    go_wp2_with fail
    go_ret
    exact ⟨ret_bool rfl, (((hb1.trans (hb2.mono hs1)).trans (hb3.mono (by omega))).trans (hb4.mono (by omega))).trans ((((Below.refl w4.heap.size w4).alloc (Nat.le_refl _) _).trans (hb5.mono (by simp))).mono (by omega))⟩
end Go.Proofs.YtpchpfhnimgdaaaDoor
