/-
  TokQuotes: every Quote and Unquote answers what the document says.
-/
import Derived.Test.YtpchpfhnimgdaaaRefUnq
namespace Go.Proofs.Ytpchpfhnimgdaaa
open Go.RowKit

theorem Own8.litOne (w : World) (z : Int) (h0 : 0 ≤ z) (h1 : z ≤ 255) : Own8 (w.alloc (.cells #[.int .u8 z] 5)) w.heap.size (.slice (some ⟨w.heap.size, 0, none⟩) 1 1) [ubyte z] := by
  refine ⟨by simp [by8], .inr ⟨w.heap.size, 1, #[.int .u8 z], rfl, Nat.le_refl _, heap_alloc_new w _, Nat.le_refl _, by unfold maxLen; omega, rfl, ?_⟩⟩
  simp [by8, ubyte_toNat h0 h1]

set_option maxHeartbeats 4000000 in
theorem refQuote_any (s : ByteArray) (w : World) (hs : s.size ≤ 60000000000000) :
    Calls Try.prog 7 #[.string s] w fun e w' => e = .returned (.tuple #[.string ⟨(quoteT s.data.toList).toArray⟩, .int .i64 (quoteE s.data.toList)]) ∧ Below w.heap.size w w' := by
  have HZ := Lib.hid (size_list s)
  have hrow := Own8.litOne w 34 (by omega) (by omega)
  have hb0 := (Below.refl w.heap.size w).alloc (Nat.le_refl _) (.cells #[.int .u8 34] 5)
  go_enter Try.func7, Try.ntmps7
  go_wp2_with fail
  go_loopw [4, 5] (fun v i wr => ∃ k : Nat, k ≤ s.size ∧ i = .int .i64 k ∧ Own8 wr w.heap.size v (34 :: esc (s.data.toList.take k)) ∧ (∀ j, (hj : j < s.data.toList.length) → j < k → textB (s.data.toList[j].toNat : Int) = true) ∧ Below w.heap.size w wr) (fun _ i _ => s.size - (intOf i).toNat)
  case atStart => exact ⟨0, by omega, rfl, hrow, fun j _ h => absurd h (Nat.not_lt_zero j), hb0⟩
  case round =>
    obtain ⟨k, hk, rfl, hown, htx, hb⟩ := hrel
    have hbs := hb.size
    have HTX := Lib.hid htx
    have hel : (esc (s.data.toList.take k)).length ≤ 2 * s.size := Nat.le_trans (esc_len _) (by have := List.length_take_le k s.data.toList; omega)
    clear htx
    by_cases hlt : k < s.size
    · have hl : k < s.data.toList.length := by rw [HZ.out]; exact hlt
      have hg : (s.data.toList[k].toNat : Int) = (s[k].toNat : Int) := by rw [← bt_str s k hlt, bt_get _ k hl]
      obtain ⟨b0, b1⟩ := byte_le s k hlt
      have hsn := esc_snoc s.data.toList k hl
      have hbe : s.data.toList[k] = s[k] := UInt8.toNat_inj.1 (by omega)
      have hub : ubyte (s[k].toNat : Int) = s.data.toList[k] := by rw [hbe]; exact ubyte_self _
      have HG := Lib.hid hg
      have HSN := Lib.hid hsn
      have HUB := Lib.hid hub
      clear hg hsn hbe hub
      go_wp2_with fail
      refine (refText_any _ b0 b1 _).mono ?_
      rintro e w2 ⟨rfl, rfl⟩
      cases ht : textB (s[k].toNat : Int)
      · have HQ := Lib.hid (quote_bad s.data.toList (texts_no _ k hl (by rw [HG.out]; exact ht)))
        clear ht
        go_wp2_with fail
        go_ret2
        exact ⟨ret_pair (by rw [HQ.out.1]) HQ.out.2.symm, hb⟩
      · have HT := Lib.hid ht
        clear ht
        have htx2 : ∀ j, (hj : j < s.data.toList.length) → j < k + 1 → textB (s.data.toList[j].toNat : Int) = true := fun j hj hjk => by
          by_cases h : j = k
          · subst h; rw [HG.out]; exact HT.out
          · exact HTX.out j hj (by omega)
        have HTX2 := Lib.hid htx2
        clear htx2
        by_cases c1 : (s[k].toNat : Int) = 34 ∨ (s[k].toNat : Int) = 92
        · have two : ((s[k].toNat : Int) == 34) = true ∨ (((s[k].toNat : Int) == 34) = false ∧ ((s[k].toNat : Int) == 92) = true) := by
            rcases c1 with h | h
            · exact .inl (beq_iff_eq.2 h)
            · exact .inr ⟨beq_eq_false_iff_ne.2 (by omega), beq_iff_eq.2 h⟩
          have hes : escB s.data.toList[k] = [92, s.data.toList[k]] := by
            unfold escB
            rw [if_pos]
            have hh := HG.out
            rcases c1 with h | h
            · exact .inl (UInt8.toNat_inj.1 (by have : (34 : UInt8).toNat = 34 := rfl; omega))
            · exact .inr (UInt8.toNat_inj.1 (by have : (92 : UInt8).toNat = 92 := rfl; omega))
          have HES := Lib.hid hes
          have hin := In8.one wr 92 (by omega) (by omega)
          have hown2 := hown.alloc (.cells #[.int .u8 92] 5)
          clear c1 hes
          rcases two with t1 | ⟨t1, t2⟩
          all_goals
            go_wp2_with (at_builtin; refine wpList_append8 rfl _ (.tmp 29) rfl w.heap.size _ _ rfl hown2 _ _ _ _ rfl rfl hin (by simp; omega) (by simp; omega) ?_)
            intro v3 w3 hown3 hgrow3 _
            have hb3 := own_grown (hb.alloc hbs _) (by simp; omega) hown2 hgrow3
            have hs3 := hb3.size
            have hin3 := In8.one w3 _ b0 b1
            have hown3' := hown3.alloc (.cells #[.int .u8 (s[k].toNat : Int)] 5)
            rw [HUB.out] at hin3
            go_wp2_with (at_builtin; refine wpList_append8 rfl _ (.tmp 35) rfl w.heap.size _ _ rfl hown3' _ _ _ _ rfl rfl hin3 (by simp; omega) (by simp; omega) ?_)
            intro v4 w4 hown4 hgrow4 _
            go_wp2_with fail
            go_roundw
            case rel =>
              refine ⟨k + 1, by omega, by go_num, ?_, HTX2.out, own_grown (hb3.alloc hs3 _) (by simp; omega) hown3' hgrow4⟩
              rw [HSN.out, HES.out]
              simpa [ubyte] using hown4
            case measure => simp [intOf]; omega
        · have t1 : ((s[k].toNat : Int) == 34) = false := beq_eq_false_iff_ne.2 (fun h => c1 (.inl h))
          have t2 : ((s[k].toNat : Int) == 92) = false := beq_eq_false_iff_ne.2 (fun h => c1 (.inr h))
          have hes : escB s.data.toList[k] = [s.data.toList[k]] := by
            unfold escB
            rw [if_neg]
            have hh := HG.out
            rintro (h | h)
            · rw [h] at hh; exact c1 (.inl hh.symm)
            · rw [h] at hh; exact c1 (.inr hh.symm)
          have HES := Lib.hid hes
          have hin3 := In8.one wr _ b0 b1
          have hown3' := hown.alloc (.cells #[.int .u8 (s[k].toNat : Int)] 5)
          rw [HUB.out] at hin3
          clear c1 hes
          go_wp2_with (at_builtin; refine wpList_append8 rfl _ (.tmp 35) rfl w.heap.size _ _ rfl hown3' _ _ _ _ rfl rfl hin3 (by simp; omega) (by simp; omega) ?_)
          intro v4 w4 hown4 hgrow4 _
          go_wp2_with fail
          go_roundw
          case rel =>
            refine ⟨k + 1, by omega, by go_num, ?_, HTX2.out, own_grown (hb.alloc hbs _) (by simp; omega) hown3' hgrow4⟩
            rw [HSN.out, HES.out]
            exact hown4
          case measure => simp [intOf]; omega
    · obtain rfl : k = s.size := by omega
      have hq := quote_good s.data.toList (texts_yes _ (fun j hj => HTX.out j hj (by rw [← HZ.out]; exact hj)))
      have HQ := Lib.hid hq
      have hall : s.data.toList.take s.size = s.data.toList := List.take_of_length_le (by rw [HZ.out]; omega)
      rw [hall] at hown hel
      have hin := In8.one wr 34 (by omega) (by omega)
      have hown2 := hown.alloc (.cells #[.int .u8 34] 5)
      clear hq hall
      go_wp2_with (at_builtin; refine wpList_append8 rfl _ (.tmp 38) rfl w.heap.size _ _ rfl hown2 _ _ _ _ rfl rfl hin (by simp; omega) (by simp; omega) ?_)
      intro v4 w4 hown4 hgrow4 _
      have hfin := own_grown (hb.alloc hbs _) (by simp; omega) hown2 hgrow4
      obtain ⟨n, hn⟩ : ∃ n, (34 :: esc s.data.toList ++ [ubyte 34]).length = n := ⟨_, rfl⟩
      obtain ⟨p, c, rfl, h1, h2, hin4⟩ := hown4.in8n hn
      have hts := toStr_at hin4 hn c
      have HNN := Lib.hid hn
      clear hn
      go_wp2_with fail
      go_ret2
      exact ⟨ret_pair (by rw [HQ.out.1]; rfl) HQ.out.2.symm, hfin⟩

theorem quote_alive : quoteT (⟨#[97, 34]⟩ : ByteArray).data.toList = [34, 97, 92, 34, 34] ∧ quoteE (⟨#[97, 34]⟩ : ByteArray).data.toList = 0 := by decide +kernel

set_option maxHeartbeats 2000000 in
theorem tokQuotes_walk (s : ByteArray) (w : World) (hs : s.data.toList.length ≤ 1048576) :
    Calls Try.prog 4 #[.string s] w fun e w' => e = .returned (.bool true) ∧ Below w.heap.size w w' := by
  rw [size_list] at hs
  go_enter Try.func4, Try.ntmps4
  go_wp2_with fail
  refine (quote_any _ _ (by decide)).mono ?_
  rintro e w1 ⟨rfl, hb1⟩
  have hs1 := hb1.size
  rw [quote_alive.1, quote_alive.2]
  go_wp2_with fail
  refine (quote_any s _ (by omega)).mono ?_
  rintro e w2 ⟨rfl, hb2⟩
  have hs2 := hb2.size
  go_wp2_with fail
  refine (refQuote_any s _ (by omega)).mono ?_
  rintro e w3 ⟨rfl, hb3⟩
  have hs3 := hb3.size
  generalize (⟨(quoteT s.data.toList).toArray⟩ : ByteArray) = q
  generalize quoteE s.data.toList = qe
  have t1 : (q.toList == q.toList) = true := by simp
  have t1' : (q.toList != q.toList) = false := by simp
  have t2 : (qe != qe) = false := by simp
  go_wp2_with fail
  refine (unquote_any s _ (by omega)).mono ?_
  rintro e w4 ⟨rfl, hb4⟩
  have hs4 := hb4.size
  go_wp2_with fail
  refine (refUnq_any s _ (by omega)).mono ?_
  rintro e w5 ⟨rfl, hb5⟩
  generalize (⟨(unqT s.data.toList).toArray⟩ : ByteArray) = u
  generalize unqE s.data.toList = ue
  have t3 : (u.toList == u.toList) = true := by simp
  have t4 : (ue == ue) = true := by simp
  go_wp2_with fail
  go_ret
  exact ⟨ret_bool (by simp), (((hb1.trans (hb2.mono hs1)).trans (hb3.mono (by omega))).trans (hb4.mono (by omega))).trans (hb5.mono (by omega))⟩
end Go.Proofs.Ytpchpfhnimgdaaa
