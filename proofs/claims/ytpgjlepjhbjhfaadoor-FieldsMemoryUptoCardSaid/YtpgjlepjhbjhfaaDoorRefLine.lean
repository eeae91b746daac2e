/-
  one, the document's: the field of a line.
-/
import Derived.Test.YtpgjlepjhbjhfaaDoorLine
namespace Go.Proofs.YtpgjlepjhbjhfaaDoor
open Go.RowKit

theorem cut_end (s : ByteArray) (f : Nat) : (s.extract f s.size).data.toList = s.data.toList.drop f := by
  rw [Lib.extract_data, List.take_of_length_le (by rw [List.length_drop, size_list]; omega)]
theorem cut_fore (s : ByteArray) (k : Nat) : (s.extract 0 k).data.toList = s.data.toList.take k := by
  rw [Lib.extract_data, List.drop_zero, Nat.sub_zero]
theorem head_at (s : ByteArray) (h : 0 < s.size) : s.data.toList.head? = some (s[0]) := by
  have hl : 0 < s.data.toList.length := by rw [size_list]; exact h
  rw [List.head?_eq_getElem?, List.getElem?_eq_getElem hl, byte_at s 0 h hl]

set_option maxHeartbeats 4000000 in
/-- behind the first test -/
theorem one_tail (s : ByteArray) (w : World) (hs : s.size ≤ 4000000000) (hn : ¬ (s.data.toList.head? = some 32 ∨ s.data.toList.head? = some 9))
    (ht : (s.toList.isEmpty = true) ∨ (s.toList.isEmpty = false ∧ ∃ h : 0 < s.size, ((s[0].toNat : Int) == 32) = false ∧ ((s[0].toNat : Int) == 9) = false)) :
    Calls Tryd.prog 42 #[.string s] w fun e w' => e = .returned (.tuple #[fieldV (lineR s.data.toList).1, .int .i64 ((lineR s.data.toList).2 : Int)]) ∧ Below w.heap.size w w' := by
  have hb0 := emptyF w
  have HN := Lib.hid (show lineR s.data.toList = lineC (cutB 58 s.data.toList) by unfold lineR; rw [if_neg hn])
  clear hn
  rcases ht with ht | ⟨ht, h0, t1, t2⟩
  all_goals
    go_enter Tryd.func42, Tryd.ntmps42
    go_wp2_with fail
    go_loopw [4] (fun i wr => ∃ k : Nat, k ≤ s.size ∧ i = .int .i64 k ∧ wr = w.alloc (.cells #[.string ⟨#[]⟩, .string ⟨#[]⟩] 26) ∧ ∀ j, (hj : j < s.data.toList.length) → j < k → s.data.toList[j] ≠ 58) (fun i _ => s.size - (intOf i).toNat)
    case atStart => exact ⟨0, by omega, rfl, rfl, fun j _ h => absurd h (Nat.not_lt_zero j)⟩
    case round =>
      obtain ⟨k, hk, rfl, rfl, hno⟩ := hrel
      have HO := Lib.hid hno
      clear hno
      by_cases hlt : k < s.size
      · have hl : k < s.data.toList.length := by rw [size_list]; exact hlt
        have E := Lib.hid (byte_at s k hlt hl)
        obtain ⟨b0, b1⟩ := byte_le s k hlt
        by_cases h58 : (s[k].toNat : Int) = 58
        · have t3 : ((s[k].toNat : Int) != 58) = false := by simp; omega
          have t4 : ((k : Int) == (s.size : Int)) = false := by simp; omega
          have hc := cutB_some 58 s.data.toList k hl HO.out (by rw [E.out]; exact UInt8.toNat_inj.1 (by show s[k].toNat = 58; omega))
          have HR := Lib.hid (show lineR s.data.toList = (if isTok (s.data.toList.take k) = true ∧ goodT (trim (s.data.toList.drop (k + 1))) = true then ((s.data.toList.take k, trim (s.data.toList.drop (k + 1))), 0) else (([], []), 40)) by rw [HN.out, hc]; rfl)
          have hfl := cut_fore s k
          have hrl := cut_end s (k + 1)
          obtain ⟨x, hx⟩ : ∃ x : ByteArray, x = s.extract 0 k := ⟨_, rfl⟩
          obtain ⟨y, hy⟩ : ∃ y : ByteArray, y = s.extract (k + 1) s.size := ⟨_, rfl⟩
          rw [← hx] at hfl
          rw [← hy] at hrl
          obtain ⟨t, htr⟩ : ∃ t : ByteArray, t = ⟨(trim y.data.toList).toArray⟩ := ⟨_, rfl⟩
          have hxs : x.size ≤ maxLen := by rw [← size_list, hfl, List.length_take]; unfold maxLen; omega
          have hys : y.size ≤ maxLen := by rw [← size_list, hrl, List.length_drop, size_list]; unfold maxLen; omega
          have hts : t.size ≤ maxLen := by
            have := trim_length y.data.toList
            rw [← size_list, htr]
            rw [size_list] at this
            exact Nat.le_trans this hys
          have HXF := Lib.hid hfl
          have HYR := Lib.hid hrl
          have HT := Lib.hid htr
          have HXS := Lib.hid hxs
          have HYS := Lib.hid hys
          have HTS := Lib.hid hts
          have HX := Lib.hid hx
          have HY := Lib.hid hy
          clear hfl hrl htr hxs hys hts hx hy h58 hc
          go_wp2_with fail
          rw [← HX.out]
          refine (refTok_any x _ HXS.out).mono ?_
          rintro e w1 ⟨rfl, rfl⟩
          rw [HXF.out]
          cases hkk : isTok (s.data.toList.take k)
          · have HK := Lib.hid (show ¬ (isTok (s.data.toList.take k) = true ∧ goodT (trim (s.data.toList.drop (k + 1))) = true) by rw [hkk]; simp)
            clear hkk
            go_wp2_with fail
            rw [HR.out, if_neg HK.out]
            refine bodyPost_ret (v := .tuple #[fieldV ([], []), .int .i64 40]) (by simp [results, Tryd.results42, go_sem, fieldV]) rfl ⟨rfl, hb0⟩
          · have HK := Lib.hid hkk
            clear hkk
            go_wp2_with fail
            rw [← HY.out]
            refine (refTrim_any y _ HYS.out).mono ?_
            rintro e w2 ⟨rfl, rfl⟩
            rw [← HT.out]
            go_wp2_with fail
            refine (refGood_any t _ HTS.out).mono ?_
            rintro e w3 ⟨rfl, rfl⟩
            rw [show t.data.toList = trim (s.data.toList.drop (k + 1)) by rw [HT.out, HYR.out]]
            cases hg : goodT (trim (s.data.toList.drop (k + 1)))
            · have HG := Lib.hid (show ¬ (isTok (s.data.toList.take k) = true ∧ goodT (trim (s.data.toList.drop (k + 1))) = true) by rw [hg]; simp)
              clear hg
              go_wp2_with fail
              rw [HR.out, if_neg HG.out]
              refine bodyPost_ret (v := .tuple #[fieldV ([], []), .int .i64 40]) (by simp [results, Tryd.results42, go_sem, fieldV]) rfl ⟨rfl, hb0⟩
            · have HG := Lib.hid (show isTok (s.data.toList.take k) = true ∧ goodT (trim (s.data.toList.drop (k + 1))) = true from ⟨HK.out, hg⟩)
              clear hg
              go_wp2_with fail
              rw [HR.out, if_pos HG.out]
              refine bodyPost_ret (v := .tuple #[.agg #[.string x, .string t], .int .i64 0]) (by simp [results, Tryd.results42, go_sem, HX.out]) rfl ⟨?_, ?_⟩
              · unfold fieldV
                rw [← HXF.out, ← HYR.out, ← HT.out]
                rfl
              · first | exact (hb0.setCell (p := ⟨w.heap.size, 0, none⟩) (Nat.le_refl _) _).setCell (p := ⟨w.heap.size, 1, none⟩) (Nat.le_refl _) _ | exact (Below.refl _ w).alloc (Nat.le_refl _) _ | trace_state
        · have t3 : ((s[k].toNat : Int) != 58) = true := by simp; omega
          have H58 := Lib.hid (show s.data.toList[k] ≠ 58 by rw [E.out]; intro h; exact h58 (by rw [h]; rfl))
          clear h58
          go_wp2_with fail
          go_roundw
          case rel =>
            refine ⟨k + 1, by omega, by go_num, by trivial, fun j hjl hj => ?_⟩
            by_cases h : j = k
            · subst h; exact H58.out
            · exact HO.out j hjl (by omega)
          case measure => simp [intOf]; omega
      · obtain rfl : k = s.size := by omega
        have t4 : ((s.size : Int) == (s.size : Int)) = true := by simp
        have hc := cutB_none 58 s.data.toList (fun x hx => by
          obtain ⟨j, hj, rfl⟩ := List.getElem_of_mem hx
          exact HO.out j hj (by rw [size_list] at hj; exact hj))
        have HR := Lib.hid (show lineR s.data.toList = (([], []), 40) by rw [HN.out, hc]; rfl)
        clear hc
        go_wp2_with fail
        rw [HR.out]
        refine bodyPost_ret (v := .tuple #[fieldV ([], []), .int .i64 40]) (by simp [results, Tryd.results42, go_sem, fieldV]) rfl ⟨rfl, hb0⟩
theorem one_any (s : ByteArray) (w : World) (hs : s.size ≤ 4000000000) :
    Calls Tryd.prog 42 #[.string s] w fun e w' => e = .returned (.tuple #[fieldV (lineR s.data.toList).1, .int .i64 ((lineR s.data.toList).2 : Int)]) ∧ Below w.heap.size w w' := by
  have hb0 := emptyF w
  by_cases h0 : 0 < s.size
  · have ht : s.toList.isEmpty = false := by
      rw [Lib.toList_data]
      have := empty_size s
      rw [decide_eq_true h0] at this
      simpa using this.symm
    have hh := head_at s h0
    by_cases h32 : (s[0].toNat : Int) = 32
    · have t1 : ((s[0].toNat : Int) == 32) = true := by simp; omega
      have HR := Lib.hid (show lineR s.data.toList = (([], []), 41) by
        unfold lineR; rw [if_pos (.inl (by rw [hh]; exact congrArg some (UInt8.toNat_inj.1 (by show s[0].toNat = 32; omega))))])
      clear h32 hh
      go_enter Tryd.func42, Tryd.ntmps42
      go_wp2_with fail
      rw [HR.out]
      refine bodyPost_ret (v := .tuple #[fieldV ([], []), .int .i64 41]) (by simp [results, Tryd.results42, go_sem, fieldV]) rfl ⟨rfl, hb0⟩
    · have t1 : ((s[0].toNat : Int) == 32) = false := by simp; omega
      by_cases h9 : (s[0].toNat : Int) = 9
      · have t2 : ((s[0].toNat : Int) == 9) = true := by simp; omega
        have HR := Lib.hid (show lineR s.data.toList = (([], []), 41) by
          unfold lineR; rw [if_pos (.inr (by rw [hh]; exact congrArg some (UInt8.toNat_inj.1 (by show s[0].toNat = 9; omega))))])
        clear h32 h9 hh
        go_enter Tryd.func42, Tryd.ntmps42
        go_wp2_with fail
        rw [HR.out]
        refine bodyPost_ret (v := .tuple #[fieldV ([], []), .int .i64 41]) (by simp [results, Tryd.results42, go_sem, fieldV]) rfl ⟨rfl, hb0⟩
      · have t2 : ((s[0].toNat : Int) == 9) = false := by simp; omega
        refine one_tail s w hs ?_ (.inr ⟨ht, h0, t1, t2⟩)
        rw [hh]
        rintro (h | h)
        · exact h32 (by rw [Option.some.inj h]; rfl)
        · exact h9 (by rw [Option.some.inj h]; rfl)
  · have hz := empty_size s
    rw [decide_eq_false h0] at hz
    have he : s.data.toList.isEmpty = true := by simpa using hz.symm
    refine one_tail s w hs ?_ (.inl (by rw [Lib.toList_data]; exact he))
    rw [List.isEmpty_iff.1 he]
    simp
end Go.Proofs.YtpgjlepjhbjhfaaDoor
