/-
  Seconds: the program's and the document's.
-/
import Derived.Test.YtnengooipemffaaDoorTrim
import Derived.Test.YtnengooipemffaaDoorOwn
import Derived.Test.YtnengooipemffaaDoorStrB
namespace Go.Proofs.YtnengooipemffaaDoor
open Go.RowKit

def digB (b : UInt8) : Bool := [48, 49, 50, 51, 52, 53, 54, 55, 56, 57].contains b
theorem digB_int (b : UInt8) : digB b = decide (48 ≤ (b.toNat : Int) ∧ (b.toNat : Int) ≤ 57) := by
  have h : ∀ n : Fin 256, digB (UInt8.ofNat n.val) = decide (48 ≤ (n.val : Int) ∧ (n.val : Int) ≤ 57) := by decide +kernel
  have := h ⟨b.toNat, b.toNat_lt⟩
  simpa using this
def secF (v : Nat) (b : UInt8) : Nat := min (v * 10 + (b.toNat - 48)) 2147483648
def secN (l : List UInt8) : Nat := l.foldl secF 0
/-- a number of seconds, -1: none -/
def secT (l : List UInt8) : Int := if l = [] then -1 else if l.all digB = true then (secN l : Int) else -1
theorem secF_le (v : Nat) (b : UInt8) : secF v b ≤ 2147483648 := by unfold secF; omega
theorem secN_snoc (l : List UInt8) (k : Nat) (h : k < l.length) : secN (l.take (k + 1)) = secF (secN (l.take k)) l[k] := by
  unfold secN
  rw [List.take_succ_eq_append_getElem h, List.foldl_append]; rfl
theorem secN_le (l : List UInt8) : secN l ≤ 2147483648 := by
  unfold secN
  rcases List.eq_nil_or_concat l with rfl | ⟨m, b, rfl⟩
  · simp
  · rw [List.concat_eq_append, List.foldl_append]; exact secF_le _ _
theorem beq_nilS (x : ByteArray) : (x.toList == []) = x.data.toList.isEmpty := by rw [Lib.toList_data]; cases x.data.toList <;> rfl
theorem dw_nil (l : List UInt8) : l.dropWhile digB = [] ↔ ∀ x ∈ l, digB x = true := by
  induction l with
  | nil => simp
  | cons y r ih =>
    rw [List.dropWhile_cons]
    split
    · rename_i h
      rw [ih]
      constructor
      · intro h2 x hx
        rcases List.mem_cons.1 hx with rfl | hx
        · exact h
        · exact h2 x hx
      · intro h2 x hx; exact h2 x (List.mem_cons_of_mem _ hx)
    · rename_i h
      constructor
      · intro h2; cases h2
      · intro h2; exact absurd (h2 y (by simp)) h
theorem tw_mem (l : List UInt8) (x : UInt8) (h : x ∈ l.takeWhile digB) : digB x = true := by
  induction l with
  | nil => cases h
  | cons y r ih =>
    rw [List.takeWhile_cons] at h
    split at h
    · rename_i hy
      rcases List.mem_cons.1 h with rfl | h
      · exact hy
      · exact ih h
    · cases h
theorem trimD_nil (l : List UInt8) : Lib.trimS l [48, 49, 50, 51, 52, 53, 54, 55, 56, 57] = [] ↔ l.all digB = true := by
  have e : Lib.trimS l [48, 49, 50, 51, 52, 53, 54, 55, 56, 57] = ((l.reverse.dropWhile digB).reverse).dropWhile digB := rfl
  rw [e, dw_nil, List.all_eq_true]
  constructor
  · intro h x hx
    have hx2 : x ∈ l.reverse := List.mem_reverse.2 hx
    rw [← List.takeWhile_append_dropWhile (p := digB) (l := l.reverse)] at hx2
    rcases List.mem_append.1 hx2 with hx2 | hx2
    · exact tw_mem _ x hx2
    · exact h x (List.mem_reverse.2 hx2)
  · intro h x hx
    exact h x (List.mem_reverse.1 ((List.dropWhile_sublist digB).subset (List.mem_reverse.1 hx)))

set_option maxHeartbeats 4000000 in
theorem seconds_any (s : ByteArray) (w : World) (hs : s.size ≤ 140737488351232) :
    Calls Tryd.prog 9 #[.string s] w fun e w' => e = .returned (.int .i64 (secT s.data.toList)) ∧ Below w.heap.size w w' := by
  have hz := size_list s
  by_cases h0 : s.data.toList = []
  · have HR := Lib.hid (show secT s.data.toList = -1 by unfold secT; rw [if_pos h0])
    have e2 : (s.toList == []) = true := by rw [beq_nilS, h0]; rfl
    clear h0 hz
    go_enter Tryd.func9, Tryd.ntmps9
    go_wp2_with fail
    go_ret
    exact ⟨by rw [HR.out]; rfl, Below.refl _ _⟩
  · have e2 : (s.toList == []) = false := by rw [beq_nilS]; simpa using h0
    have htr := Any.strings_Trim_laid Tryd.lays160 (by kernel_rfl) s ⟨#[48, 49, 50, 51, 52, 53, 54, 55, 56, 57]⟩ w (by omega) (by decide) (ascii_of_all (by decide))
    obtain ⟨t, ht⟩ : ∃ t : ByteArray, t = ⟨(Lib.trimS s.data.toList [48, 49, 50, 51, 52, 53, 54, 55, 56, 57]).toArray⟩ := ⟨_, rfl⟩
    rw [← ht] at htr
    have e4 : (t.toList == []) = s.data.toList.all digB := by
      rw [beq_nilS, ht, Bool.eq_iff_iff, ← trimD_nil]; simp
    have e5 : (t.toList != []) = !s.data.toList.all digB := by rw [bne, e4]
    cases hd : s.data.toList.all digB with
    | false =>
      have HR := Lib.hid (show secT s.data.toList = -1 by unfold secT; rw [if_neg h0, hd]; rfl)
      rw [hd] at e4 e5
      clear ht h0 hz hd
      go_enter Tryd.func9, Tryd.ntmps9
      go_wp2_with fail
      refine htr.mono ?_
      rintro e w1 ⟨rfl, hb⟩
      go_wp2_with fail
      go_ret
      exact ⟨by rw [HR.out]; rfl, hb⟩
    | true =>
      have HR := Lib.hid (show secT s.data.toList = (secN s.data.toList : Int) by unfold secT; rw [if_neg h0, if_pos hd])
      have HD := Lib.hid (fun x hx => show digB x = true from List.all_eq_true.1 hd x hx)
      rw [hd] at e4 e5
      have HZ := Lib.hid hz
      clear ht h0 hz hd
      go_enter Tryd.func9, Tryd.ntmps9
      go_wp2_with fail
      refine htr.mono ?_
      rintro e w1 ⟨rfl, hb⟩
      go_wp2_with (refine wpList_toBytes rfl (.tmp 13) rfl s rfl (by unfold maxLen; omega) ?_; intro g c w2 hg hg' hin hc1 hc2 hb2 hfr)
      have HIN := Lib.hid (hin)
      clear hin hfr htr
      go_loopw [3, 16] (fun v i wr => ∃ k : Nat, k ≤ s.size ∧ i = .int .i64 k ∧ v = .int .i64 (secN (s.data.toList.take k) : Int) ∧ Below w2.heap.size w2 wr) (fun _ i _ => s.size - (intOf i).toNat)
      case atStart => exact ⟨0, Nat.zero_le _, rfl, rfl, Below.refl _ _⟩
      case round =>
        obtain ⟨k, hk, rfl, rfl, hbr⟩ := hrel
        by_cases hlt : k < s.size
        · have hkl : k < s.data.toList.length := by rw [HZ.out]; exact hlt
          obtain ⟨b', o', e, hcell⟩ := (HIN.out.below hbr).at (k := k) (by rw [HZ.out]; exact hlt)
          simp only [Option.some.injEq, Addr.mk.injEq, and_true] at e
          obtain ⟨rfl, rfl⟩ := e
          have hck := hcell k (by rw [HZ.out]; exact hlt)
          rw [bt_get _ k hkl, Nat.zero_add] at hck
          have hdg := HD.out s.data.toList[k] (List.getElem_mem hkl)
          rw [digB_int, decide_eq_true_iff] at hdg
          have HN := Lib.hid (secN_snoc s.data.toList k hkl)
          have hle := secN_le (s.data.toList.take k)
          obtain ⟨z, hz⟩ : ∃ z, z = secN (s.data.toList.take k) := ⟨_, rfl⟩
          obtain ⟨x, hx⟩ : ∃ x : UInt8, x = s.data.toList[k] := ⟨_, rfl⟩
          rw [← hz] at hle
          rw [← hx] at hdg hck
          have HS := Lib.hid (show secF z x = secN (s.data.toList.take (k + 1)) by rw [HN.out, hz, hx])
          rw [← hz]
          clear hcell hz hx
          go_wp2_with fail
          go_roundw
          case rel => exact ⟨k + 1, by omega, by go_num, by rw [← HS.out]; unfold secF; congr 1; omega, hbr⟩
          case measure => simp [intOf]; omega
        · obtain rfl : k = s.size := by omega
          have HT := Lib.hid (show s.data.toList.take s.size = s.data.toList by rw [← HZ.out, List.take_length])
          go_wp2_with fail
          go_ret
          exact ⟨by rw [HR.out, HT.out]; rfl, hb.trans ((hb2.trans (hbr.mono hb2.size)).mono hb.size)⟩

set_option maxHeartbeats 4000000 in
theorem refSeconds_any (s : ByteArray) (w : World) (hs : s.size ≤ 140737488351232) :
    Calls Tryd.prog 10 #[.string s] w fun e w' => e = .returned (.int .i64 (secT s.data.toList)) ∧ w = w' := by
  have hz := size_list s
  have HZ := Lib.hid hz
  have HB := Lib.hid (fun (k : Nat) (h : k < s.data.toList.length) => show secT s.data.toList = if digB s.data.toList[k] = true then secT s.data.toList else -1 by
    split
    · rfl
    · rename_i hd
      unfold secT
      rw [if_neg (by intro e; rw [e] at h; simp at h), if_neg]
      intro ha
      exact hd (List.all_eq_true.1 ha _ (List.getElem_mem h)))
  have HG := Lib.hid (fun (h : ∀ j, (hj : j < s.data.toList.length) → digB s.data.toList[j] = true) (h0 : s.data.toList ≠ []) => show secT s.data.toList = (secN s.data.toList : Int) by
    unfold secT
    rw [if_neg h0, if_pos]
    rw [List.all_eq_true]
    intro x hx
    obtain ⟨j, hj, rfl⟩ := List.getElem_of_mem hx
    exact h j hj)
  have H0 := Lib.hid (fun (h0 : s.data.toList = []) => show secT s.data.toList = -1 by unfold secT; rw [if_pos h0])
  clear hz
  go_enter Tryd.func10, Tryd.ntmps10
  go_wp2_with fail
  go_loopw [3, 4] (fun v i wr => ∃ k : Nat, k ≤ s.size ∧ i = .int .i64 k ∧ v = .int .i64 (secN (s.data.toList.take k) : Int) ∧ (∀ j, (hj : j < s.data.toList.length) → j < k → digB s.data.toList[j] = true) ∧ w = wr) (fun _ i _ => s.size - (intOf i).toNat)
  case atStart => exact ⟨0, Nat.zero_le _, rfl, rfl, fun j _ h => absurd h (Nat.not_lt_zero j), rfl⟩
  case round =>
    obtain ⟨k, hk, rfl, rfl, hall, rfl⟩ := hrel
    have HALL := Lib.hid hall
    clear hall
    by_cases hlt : k < s.size
    · have hkl : k < s.data.toList.length := by rw [HZ.out]; exact hlt
      have hx : s.data.toList[k] = s[k] := by
        have := bt_str s k hlt
        rw [bt_get _ k hkl] at this
        exact UInt8.toNat_inj.1 (by omega)
      have HN := Lib.hid (secN_snoc s.data.toList k hkl)
      have HBK := Lib.hid (HB.out k hkl)
      have HX := Lib.hid hx
      have hdi := digB_int s[k]
      rw [← hx] at hdi
      have HDI := Lib.hid hdi
      have hle := secN_le (s.data.toList.take k)
      obtain ⟨z, hz⟩ : ∃ z, z = secN (s.data.toList.take k) := ⟨_, rfl⟩
      rw [← hz] at hle
      have HZZ := Lib.hid hz
      rw [← hz]
      have hb0 : (0 : Int) ≤ (s[k].toNat : Int) := by omega
      have hb1 : (s[k].toNat : Int) ≤ 255 := by have := s[k].toNat_lt; omega
      clear hx hdi hz
      by_cases c1 : (s[k].toNat : Int) < 48
      · have HR := Lib.hid (show secT s.data.toList = -1 by rw [HBK.out, HDI.out, if_neg]; rw [decide_eq_true_iff, HX.out]; omega)
        go_wp2_with fail
        go_ret
        exact ⟨by rw [HR.out]; rfl, rfl⟩
      · by_cases c2 : 57 < (s[k].toNat : Int)
        · have HR := Lib.hid (show secT s.data.toList = -1 by rw [HBK.out, HDI.out, if_neg]; rw [decide_eq_true_iff, HX.out]; omega)
          go_wp2_with fail
          go_ret
          exact ⟨by rw [HR.out]; rfl, rfl⟩
        · have hd : digB s.data.toList[k] = true := by rw [HDI.out, decide_eq_true_iff, HX.out]; omega
          have HD := Lib.hid hd
          have HS := Lib.hid (show secF z s[k] = secN (s.data.toList.take (k + 1)) by rw [HN.out, HZZ.out, HX.out])
          have HALL2 := Lib.hid (show ∀ j, (hj : j < s.data.toList.length) → j < k + 1 → digB s.data.toList[j] = true by
            intro j hj hjk
            by_cases e : j = k
            · subst e; exact HD.out
            · exact HALL.out j hj (by omega))
          clear hd
          by_cases c3 : 2147483648 < (z : Int) * 10 + (s[k].toNat : Int) - 48
          · go_wp2_with fail
            go_roundw
            case rel => exact ⟨k + 1, by omega, by go_num, by rw [← HS.out]; unfold secF; congr 1; omega, HALL2.out, by trivial⟩
            case measure => simp [intOf]; omega
          · go_wp2_with fail
            go_roundw
            case rel => exact ⟨k + 1, by omega, by go_num, by rw [← HS.out]; unfold secF; congr 1; omega, HALL2.out, by trivial⟩
            case measure => simp [intOf]; omega
    · obtain rfl : k = s.size := by omega
      have HT := Lib.hid (show s.data.toList.take s.size = s.data.toList by rw [← HZ.out, List.take_length])
      by_cases h0 : s.data.toList = []
      · have e2 : (s.toList == []) = true := by rw [beq_nilS, h0]; rfl
        have HR := Lib.hid (H0.out h0)
        clear h0
        go_wp2_with fail
        go_ret
        exact ⟨by rw [HR.out]; rfl, rfl⟩
      · have e2 : (s.toList == []) = false := by rw [beq_nilS]; simpa using h0
        have HR := Lib.hid (HG.out (fun j hj => HALL.out j hj (by rw [HZ.out] at hj; exact hj)) h0)
        clear h0
        go_wp2_with fail
        go_ret
        exact ⟨by rw [HR.out, HT.out]; rfl, rfl⟩
end Go.Proofs.YtnengooipemffaaDoor
