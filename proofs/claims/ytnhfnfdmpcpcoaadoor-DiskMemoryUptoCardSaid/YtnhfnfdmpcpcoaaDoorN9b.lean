/-
  Chapter 9, texts merged: GoodN, Changes, UseB, DiskAt, DiskRead, DiskSet, DiskFile, FilesT, Open9, OpenOps, Begin, BeginD.
-/
import Derived.Test.YtnhfnfdmpcpcoaaDoorN9a
import Derived.Test.YtnhfnfdmpcpcoaaDoorShelf
import Derived.Test.YtnhfnfdmpcpcoaaDoorOwn
import Derived.Test.YtnhfnfdmpcpcoaaDoorOpenS
import Derived.Shelf.Strings.SlTrimAscii
import Derived.Lib.SlTrimSet
import Derived.WalkSpells
import Derived.Deep.QuietTactic
import Derived.BigQuiet
import Derived.Lib.Builder
import Derived.Deep.SlicePairs

/-
  A good name of a file: the program's and the document's.
-/
namespace Go.Proofs.YtnhfnfdmpcpcoaaDoor
open Go.RowKit

def nameSet : List UInt8 := [97, 98, 99, 100, 101, 102, 103, 104, 105, 106, 107, 108, 109, 110, 111, 112, 113, 114, 115, 116, 117, 118, 119, 120, 121, 122, 48, 49, 50, 51, 52, 53, 54, 55, 56, 57, 46, 45, 95, 47]
/-- may the byte stand in a name? -/
def nameB (b : UInt8) : Bool := nameSet.contains b
def goodN (l : List UInt8) : Bool := decide (1 ≤ l.length ∧ l.length ≤ 64) && l.all nameB
theorem dropW_nil (p : UInt8 → Bool) : ∀ l : List UInt8, l.dropWhile p = [] ↔ l.all p = true
  | [] => by simp
  | x :: l => by
    rw [List.dropWhile_cons, List.all_cons]
    by_cases h : p x = true
    · rw [if_pos h, dropW_nil p l, h]; simp
    · rw [if_neg h]; simp [h]
theorem dropW_twice (p : UInt8 → Bool) : ∀ l : List UInt8, (l.dropWhile p).dropWhile p = l.dropWhile p
  | [] => rfl
  | x :: l => by
    rw [List.dropWhile_cons]
    by_cases h : p x = true
    · rw [if_pos h, dropW_twice p l]
    · rw [if_neg h, List.dropWhile_cons, if_neg h]
theorem trimS_set (l cs : List UInt8) : (Lib.trimS l cs = []) ↔ l.all cs.contains = true := by
  unfold Lib.trimS Lib.trimLeftS Lib.trimRightS
  rw [dropW_nil, List.all_reverse]
  constructor
  · intro h
    have h2 := (dropW_nil _ _).2 h
    have h3 := (dropW_twice (cs.contains ·) l.reverse).symm.trans h2
    have h4 := (dropW_nil _ _).1 h3
    rwa [List.all_reverse] at h4
  · intro h
    have h3 : l.reverse.dropWhile (cs.contains ·) = [] := (dropW_nil _ _).2 (by rwa [List.all_reverse])
    rw [h3]; rfl

theorem nameSet_ba : (⟨nameSet.toArray⟩ : ByteArray).data.toList = nameSet := rfl
theorem goodN_no (l : List UInt8) (h : ¬ (1 ≤ l.length ∧ l.length ≤ 64)) : goodN l = false := by unfold goodN; rw [decide_eq_false h]; rfl
theorem goodN_yes (l : List UInt8) (h : 1 ≤ l.length ∧ l.length ≤ 64) : goodN l = (Lib.trimS l nameSet).isEmpty := by
  unfold goodN
  rw [decide_eq_true h, Bool.true_and, Bool.eq_iff_iff, List.isEmpty_iff]
  exact (trimS_set l nameSet).symm

set_option maxHeartbeats 2000000 in
theorem good_any (s : ByteArray) (w : World) (hs : s.size ≤ 140737488351232) :
    Calls Tryd.prog 47 #[.string s] w fun e w' => e = .returned (.bool (goodN s.data.toList)) ∧ Below w.heap.size w w' := by
  have hz := size_list s
  by_cases h0 : s.size = 0
  · have hg := goodN_no s.data.toList (by omega)
    have e0 : (s.toList == []) = true := by
      rw [Lib.toList_data, List.eq_nil_of_length_eq_zero (by omega : s.data.toList.length = 0)]; rfl
    have e1 : s.toList = [] := by simpa using e0
    rw [hg]
    clear hg hz
    go_enter Tryd.func47, Tryd.ntmps47
    go_wp2_with fail
    go_ret
    exact ⟨rfl, Below.refl _ _⟩
  · have hne : ¬ s.data.toList = [] := fun e => by rw [e] at hz; simp at hz; omega
    have e0 : (s.toList == []) = false := by rw [Lib.toList_data]; exact beq_eq_false_iff_ne.2 hne
    have e1 : ¬ s.toList = [] := by rw [Lib.toList_data]; exact hne
    have e2 : (s.toList != []) = true := by simp [bne, e0]
    by_cases h1 : s.size ≤ 64
    · have hg := goodN_yes s.data.toList (by omega)
      obtain ⟨t, ht⟩ : ∃ t : ByteArray, t = ⟨(Lib.trimS s.data.toList nameSet).toArray⟩ := ⟨_, rfl⟩
      have htd : t.data.toList = Lib.trimS s.data.toList nameSet := by rw [ht]
      have hte : (t.toList == []) = goodN s.data.toList := by
        rw [Lib.toList_data, hg, htd]
        cases Lib.trimS s.data.toList nameSet <;> rfl
      have hcall := Any.strings_Trim_laid Tryd.lays160 (by kernel_rfl) s ⟨nameSet.toArray⟩ w (by omega) (by decide) (ascii_of_all (by decide))
      rw [nameSet_ba, ← ht] at hcall
      obtain ⟨gb, hgb⟩ : ∃ b, b = goodN s.data.toList := ⟨_, rfl⟩
      rw [← hgb] at hte ⊢
      clear hg ht htd hgb
      unfold nameSet at hcall
      go_enter Tryd.func47, Tryd.ntmps47
      go_wp2_with fail
      refine hcall.mono ?_
      rintro e w1 ⟨rfl, hb1⟩
      clear hcall
      go_wp2_with fail
      go_ret
      exact ⟨rfl, hb1⟩
    · have hg := goodN_no s.data.toList (by omega)
      rw [hg]
      clear hg hz
      go_enter Tryd.func47, Tryd.ntmps47
      go_wp2_with fail
      go_ret
      exact ⟨rfl, Below.refl _ _⟩

theorem nameB_int (b : UInt8) : nameB b = decide ((97 ≤ (b.toNat : Int) ∧ (b.toNat : Int) ≤ 122) ∨ (48 ≤ (b.toNat : Int) ∧ (b.toNat : Int) ≤ 57) ∨ (b.toNat : Int) = 46 ∨ (b.toNat : Int) = 45 ∨ (b.toNat : Int) = 95 ∨ (b.toNat : Int) = 47) := by
  have h : ∀ n : Fin 256, nameB (UInt8.ofNat n.val) = decide ((97 ≤ (n.val : Int) ∧ (n.val : Int) ≤ 122) ∨ (48 ≤ (n.val : Int) ∧ (n.val : Int) ≤ 57) ∨ (n.val : Int) = 46 ∨ (n.val : Int) = 45 ∨ (n.val : Int) = 95 ∨ (n.val : Int) = 47) := by decide +kernel
  have := h ⟨b.toNat, b.toNat_lt⟩
  rwa [UInt8.ofNat_toNat] at this
theorem all_take {l : List UInt8} {k : Nat} (h : k < l.length) (p : UInt8 → Bool) : (l.take (k + 1)).all p = ((l.take k).all p && p l[k]) := by
  rw [List.take_succ_eq_append_getElem h, List.all_append]; simp

set_option maxHeartbeats 4000000 in
theorem refGood_any (s : ByteArray) (w : World) (hs : s.size ≤ 140737488351232) :
    Calls Tryd.prog 51 #[.string s] w fun e w' => e = .returned (.bool (goodN s.data.toList)) ∧ Below w.heap.size w w' := by
  have hz := size_list s
  have HZ := Lib.hid hz
  clear hz
  go_enter Tryd.func51, Tryd.ntmps51
  go_wp2
  go_loopw [2, 3] (fun v i wr => ∃ k : Nat, k ≤ s.size ∧ v = .bool false ∧ i = .int .i64 k ∧ (s.data.toList.take k).all nameB = true ∧ Below w.heap.size w wr) (fun _ i _ => s.size - (intOf i).toNat)
  case atStart => exact ⟨0, Nat.zero_le _, rfl, rfl, by simp, Below.refl _ _⟩
  case round =>
    obtain ⟨k, hk, rfl, rfl, hall, hb⟩ := hrel
    have HALL := Lib.hid hall
    clear hall
    by_cases hlt : k < s.size
    · have hkl : k < s.data.toList.length := by rw [HZ.out]; exact hlt
      have hx : s.data.toList[k] = s[k] := by
        have := bt_str s k hlt
        rw [bt_get _ k hkl] at this
        exact UInt8.toNat_inj.1 (by omega)
      have HT := Lib.hid (all_take hkl nameB)
      have hnb := nameB_int s[k]
      rw [← hx] at hnb
      have HNB := Lib.hid hnb
      have HX := Lib.hid hx
      obtain ⟨c, hc⟩ : ∃ c : Int, c = (s[k].toNat : Int) := ⟨_, rfl⟩
      have h0 : 0 ≤ c := by omega
      have HC := Lib.hid hc
      clear hx hnb
      have hrg : (c < 45) ∨ (c = 45) ∨ (c = 46) ∨ (c = 47) ∨ (48 ≤ c ∧ c ≤ 57) ∨ (58 ≤ c ∧ c ≤ 94) ∨ (c = 95) ∨ (c = 96) ∨ (97 ≤ c ∧ c ≤ 122) ∨ (122 < c) := by omega
      rcases hrg with h | h | h | h | h | h | h | h | h | h
      · have : ¬ 97 ≤ (s[k].toNat : Int) := by omega
        have : (s[k].toNat : Int) ≤ 122 := by omega
        have : ¬ 48 ≤ (s[k].toNat : Int) := by omega
        have : (s[k].toNat : Int) ≤ 57 := by omega
        have : ((s[k].toNat : Int) == 46) = false := beq_eq_false_iff_ne.2 (by omega)
        have : ((s[k].toNat : Int) == 45) = false := beq_eq_false_iff_ne.2 (by omega)
        have : ((s[k].toNat : Int) == 95) = false := beq_eq_false_iff_ne.2 (by omega)
        have : ((s[k].toNat : Int) == 47) = false := beq_eq_false_iff_ne.2 (by omega)
        have hg : nameB s.data.toList[k] = false := by rw [HNB.out, HX.out]; exact decide_eq_false (by omega)
        have hgn : goodN s.data.toList = false := by
          unfold goodN
          rw [show s.data.toList.all nameB = false from by
            rw [Bool.eq_false_iff]
            intro ha
            have := List.all_eq_true.1 ha _ (List.getElem_mem hkl)
            rw [hg] at this; cases this]
          exact Bool.and_false _
        have HG := Lib.hid hgn
        clear hg hgn h hc
        go_wp2
        go_ret
        exact ⟨by rw [HG.out]; rfl, hb⟩
      · have : ¬ 97 ≤ (s[k].toNat : Int) := by omega
        have : (s[k].toNat : Int) ≤ 122 := by omega
        have : ¬ 48 ≤ (s[k].toNat : Int) := by omega
        have : (s[k].toNat : Int) ≤ 57 := by omega
        have : ((s[k].toNat : Int) == 46) = false := beq_eq_false_iff_ne.2 (by omega)
        have : ((s[k].toNat : Int) == 45) = true := beq_iff_eq.2 (by omega)
        have : ((s[k].toNat : Int) == 95) = false := beq_eq_false_iff_ne.2 (by omega)
        have : ((s[k].toNat : Int) == 47) = false := beq_eq_false_iff_ne.2 (by omega)
        have hg : nameB s.data.toList[k] = true := by rw [HNB.out, HX.out]; exact decide_eq_true (by omega)
        have HG := Lib.hid hg
        clear hg h hc
        go_wp2
        go_roundw
        case rel => exact ⟨k + 1, by omega, by trivial, by go_num, by rw [HT.out, HALL.out, HG.out]; rfl, hb⟩
        case measure => simp [intOf]; omega
      · have : ¬ 97 ≤ (s[k].toNat : Int) := by omega
        have : (s[k].toNat : Int) ≤ 122 := by omega
        have : ¬ 48 ≤ (s[k].toNat : Int) := by omega
        have : (s[k].toNat : Int) ≤ 57 := by omega
        have : ((s[k].toNat : Int) == 46) = true := beq_iff_eq.2 (by omega)
        have : ((s[k].toNat : Int) == 45) = false := beq_eq_false_iff_ne.2 (by omega)
        have : ((s[k].toNat : Int) == 95) = false := beq_eq_false_iff_ne.2 (by omega)
        have : ((s[k].toNat : Int) == 47) = false := beq_eq_false_iff_ne.2 (by omega)
        have hg : nameB s.data.toList[k] = true := by rw [HNB.out, HX.out]; exact decide_eq_true (by omega)
        have HG := Lib.hid hg
        clear hg h hc
        go_wp2
        go_roundw
        case rel => exact ⟨k + 1, by omega, by trivial, by go_num, by rw [HT.out, HALL.out, HG.out]; rfl, hb⟩
        case measure => simp [intOf]; omega
      · have : ¬ 97 ≤ (s[k].toNat : Int) := by omega
        have : (s[k].toNat : Int) ≤ 122 := by omega
        have : ¬ 48 ≤ (s[k].toNat : Int) := by omega
        have : (s[k].toNat : Int) ≤ 57 := by omega
        have : ((s[k].toNat : Int) == 46) = false := beq_eq_false_iff_ne.2 (by omega)
        have : ((s[k].toNat : Int) == 45) = false := beq_eq_false_iff_ne.2 (by omega)
        have : ((s[k].toNat : Int) == 95) = false := beq_eq_false_iff_ne.2 (by omega)
        have : ((s[k].toNat : Int) == 47) = true := beq_iff_eq.2 (by omega)
        have hg : nameB s.data.toList[k] = true := by rw [HNB.out, HX.out]; exact decide_eq_true (by omega)
        have HG := Lib.hid hg
        clear hg h hc
        go_wp2
        go_roundw
        case rel => exact ⟨k + 1, by omega, by trivial, by go_num, by rw [HT.out, HALL.out, HG.out]; rfl, hb⟩
        case measure => simp [intOf]; omega
      · have : ¬ 97 ≤ (s[k].toNat : Int) := by omega
        have : (s[k].toNat : Int) ≤ 122 := by omega
        have : 48 ≤ (s[k].toNat : Int) := by omega
        have : (s[k].toNat : Int) ≤ 57 := by omega
        have : ((s[k].toNat : Int) == 46) = false := beq_eq_false_iff_ne.2 (by omega)
        have : ((s[k].toNat : Int) == 45) = false := beq_eq_false_iff_ne.2 (by omega)
        have : ((s[k].toNat : Int) == 95) = false := beq_eq_false_iff_ne.2 (by omega)
        have : ((s[k].toNat : Int) == 47) = false := beq_eq_false_iff_ne.2 (by omega)
        have hg : nameB s.data.toList[k] = true := by rw [HNB.out, HX.out]; exact decide_eq_true (by omega)
        have HG := Lib.hid hg
        clear hg h hc
        go_wp2
        go_roundw
        case rel => exact ⟨k + 1, by omega, by trivial, by go_num, by rw [HT.out, HALL.out, HG.out]; rfl, hb⟩
        case measure => simp [intOf]; omega
      · have : ¬ 97 ≤ (s[k].toNat : Int) := by omega
        have : (s[k].toNat : Int) ≤ 122 := by omega
        have : 48 ≤ (s[k].toNat : Int) := by omega
        have : ¬ (s[k].toNat : Int) ≤ 57 := by omega
        have : ((s[k].toNat : Int) == 46) = false := beq_eq_false_iff_ne.2 (by omega)
        have : ((s[k].toNat : Int) == 45) = false := beq_eq_false_iff_ne.2 (by omega)
        have : ((s[k].toNat : Int) == 95) = false := beq_eq_false_iff_ne.2 (by omega)
        have : ((s[k].toNat : Int) == 47) = false := beq_eq_false_iff_ne.2 (by omega)
        have hg : nameB s.data.toList[k] = false := by rw [HNB.out, HX.out]; exact decide_eq_false (by omega)
        have hgn : goodN s.data.toList = false := by
          unfold goodN
          rw [show s.data.toList.all nameB = false from by
            rw [Bool.eq_false_iff]
            intro ha
            have := List.all_eq_true.1 ha _ (List.getElem_mem hkl)
            rw [hg] at this; cases this]
          exact Bool.and_false _
        have HG := Lib.hid hgn
        clear hg hgn h hc
        go_wp2
        go_ret
        exact ⟨by rw [HG.out]; rfl, hb⟩
      · have : ¬ 97 ≤ (s[k].toNat : Int) := by omega
        have : (s[k].toNat : Int) ≤ 122 := by omega
        have : 48 ≤ (s[k].toNat : Int) := by omega
        have : ¬ (s[k].toNat : Int) ≤ 57 := by omega
        have : ((s[k].toNat : Int) == 46) = false := beq_eq_false_iff_ne.2 (by omega)
        have : ((s[k].toNat : Int) == 45) = false := beq_eq_false_iff_ne.2 (by omega)
        have : ((s[k].toNat : Int) == 95) = true := beq_iff_eq.2 (by omega)
        have : ((s[k].toNat : Int) == 47) = false := beq_eq_false_iff_ne.2 (by omega)
        have hg : nameB s.data.toList[k] = true := by rw [HNB.out, HX.out]; exact decide_eq_true (by omega)
        have HG := Lib.hid hg
        clear hg h hc
        go_wp2
        go_roundw
        case rel => exact ⟨k + 1, by omega, by trivial, by go_num, by rw [HT.out, HALL.out, HG.out]; rfl, hb⟩
        case measure => simp [intOf]; omega
      · have : ¬ 97 ≤ (s[k].toNat : Int) := by omega
        have : (s[k].toNat : Int) ≤ 122 := by omega
        have : 48 ≤ (s[k].toNat : Int) := by omega
        have : ¬ (s[k].toNat : Int) ≤ 57 := by omega
        have : ((s[k].toNat : Int) == 46) = false := beq_eq_false_iff_ne.2 (by omega)
        have : ((s[k].toNat : Int) == 45) = false := beq_eq_false_iff_ne.2 (by omega)
        have : ((s[k].toNat : Int) == 95) = false := beq_eq_false_iff_ne.2 (by omega)
        have : ((s[k].toNat : Int) == 47) = false := beq_eq_false_iff_ne.2 (by omega)
        have hg : nameB s.data.toList[k] = false := by rw [HNB.out, HX.out]; exact decide_eq_false (by omega)
        have hgn : goodN s.data.toList = false := by
          unfold goodN
          rw [show s.data.toList.all nameB = false from by
            rw [Bool.eq_false_iff]
            intro ha
            have := List.all_eq_true.1 ha _ (List.getElem_mem hkl)
            rw [hg] at this; cases this]
          exact Bool.and_false _
        have HG := Lib.hid hgn
        clear hg hgn h hc
        go_wp2
        go_ret
        exact ⟨by rw [HG.out]; rfl, hb⟩
      · have : 97 ≤ (s[k].toNat : Int) := by omega
        have : (s[k].toNat : Int) ≤ 122 := by omega
        have : 48 ≤ (s[k].toNat : Int) := by omega
        have : ¬ (s[k].toNat : Int) ≤ 57 := by omega
        have : ((s[k].toNat : Int) == 46) = false := beq_eq_false_iff_ne.2 (by omega)
        have : ((s[k].toNat : Int) == 45) = false := beq_eq_false_iff_ne.2 (by omega)
        have : ((s[k].toNat : Int) == 95) = false := beq_eq_false_iff_ne.2 (by omega)
        have : ((s[k].toNat : Int) == 47) = false := beq_eq_false_iff_ne.2 (by omega)
        have hg : nameB s.data.toList[k] = true := by rw [HNB.out, HX.out]; exact decide_eq_true (by omega)
        have HG := Lib.hid hg
        clear hg h hc
        go_wp2
        go_roundw
        case rel => exact ⟨k + 1, by omega, by trivial, by go_num, by rw [HT.out, HALL.out, HG.out]; rfl, hb⟩
        case measure => simp [intOf]; omega
      · have : 97 ≤ (s[k].toNat : Int) := by omega
        have : ¬ (s[k].toNat : Int) ≤ 122 := by omega
        have : 48 ≤ (s[k].toNat : Int) := by omega
        have : ¬ (s[k].toNat : Int) ≤ 57 := by omega
        have : ((s[k].toNat : Int) == 46) = false := beq_eq_false_iff_ne.2 (by omega)
        have : ((s[k].toNat : Int) == 45) = false := beq_eq_false_iff_ne.2 (by omega)
        have : ((s[k].toNat : Int) == 95) = false := beq_eq_false_iff_ne.2 (by omega)
        have : ((s[k].toNat : Int) == 47) = false := beq_eq_false_iff_ne.2 (by omega)
        have hg : nameB s.data.toList[k] = false := by rw [HNB.out, HX.out]; exact decide_eq_false (by omega)
        have hgn : goodN s.data.toList = false := by
          unfold goodN
          rw [show s.data.toList.all nameB = false from by
            rw [Bool.eq_false_iff]
            intro ha
            have := List.all_eq_true.1 ha _ (List.getElem_mem hkl)
            rw [hg] at this; cases this]
          exact Bool.and_false _
        have HG := Lib.hid hgn
        clear hg hgn h hc
        go_wp2
        go_ret
        exact ⟨by rw [HG.out]; rfl, hb⟩
    · obtain rfl : k = s.size := by omega
      have hgn : goodN s.data.toList = decide (1 ≤ s.size ∧ s.size ≤ 64) := by
        have ha := HALL.out
        rw [← HZ.out, List.take_length] at ha
        unfold goodN
        rw [ha, HZ.out, Bool.and_true]
      have HGN := Lib.hid hgn
      clear hgn
      by_cases c1 : 1 ≤ s.size
      · by_cases c2 : s.size ≤ 64
        · have HG := Lib.hid (show goodN s.data.toList = true from HGN.out.trans (decide_eq_true ⟨c1, c2⟩))
          go_wp2
          go_ret
          exact ⟨ret_bool (by rw [HG.out]; exact decide_eq_true (by omega)), hb⟩
        · have HG := Lib.hid (show goodN s.data.toList = false from HGN.out.trans (decide_eq_false (fun e => c2 e.2)))
          go_wp2
          go_ret
          exact ⟨ret_bool (by rw [HG.out]; exact decide_eq_false (by omega)), hb⟩
      · have HG := Lib.hid (show goodN s.data.toList = false from HGN.out.trans (decide_eq_false (fun e => c1 e.1)))
        go_wp2
        go_ret
        exact ⟨by rw [HG.out]; rfl, hb⟩
end Go.Proofs.YtnhfnfdmpcpcoaaDoor

/-
  The three changes of names, as the closures that the program keeps.
-/
namespace Go.Proofs.YtnhfnfdmpcpcoaaDoor
open Go.RowKit Go.Maps

set_option maxHeartbeats 1000000 in
theorem create1_any (b bf bk f : Nat) (nm : ByteArray) (M : NM) (w : World) (h : OwnN w b M) (c0 : w.cell? ⟨bf, 0, none⟩ = some (.pointer (some ⟨f, 0, none⟩))) (c1 : w.cell? ⟨bk, 0, none⟩ = some (.string nm)) (hk : nm.size ≤ maxLen) (hl : M.length < maxLen) :
    Calls Tryd.prog 44 #[.map (some b), .pointer (some ⟨bf, 0, none⟩), .pointer (some ⟨bk, 0, none⟩)] w fun e w' => e = .returned (.tuple #[]) ∧ OwnN w' b (insN nm.data.toList f M) ∧ w.grownBy w' (some b) ∧ w'.heap.size = w.heap.size := by
  obtain ⟨w1, hrun, hown, hgr, hsz⟩ := run_putF h nm f hk hl
  go_enter Tryd.func44, Tryd.ntmps44
  go_wp2_with fail
  go_end0
  exact ⟨rfl, hown, hgr, hsz⟩

set_option maxHeartbeats 1000000 in
theorem remove1_any (b bk : Nat) (nm : ByteArray) (M : NM) (w : World) (h : OwnN w b M) (c1 : w.cell? ⟨bk, 0, none⟩ = some (.string nm)) (hk : nm.size ≤ maxLen) :
    Calls Tryd.prog 67 #[.map (some b), .pointer (some ⟨bk, 0, none⟩)] w fun e w' => e = .returned (.tuple #[]) ∧ OwnN w' b (delN nm.data.toList M) ∧ w.grownBy w' (some b) ∧ w'.heap.size = w.heap.size := by
  obtain ⟨w1, hrun, hown, hgr, hsz⟩ := run_delF h nm hk
  go_enter Tryd.func67, Tryd.ntmps67
  go_wp2_with fail
  go_end0
  exact ⟨rfl, hown, hgr, hsz⟩

theorem map_not_row {w : World} {b g : Nat} {M : NM} {v : Value} {o : Nat} (h : OwnN w b M) (hc : w.cell? ⟨g, o, none⟩ = some v) : g ≠ b := by
  rintro rfl
  obtain ⟨_, es, clock, hb, _⟩ := h
  simp [World.cell?, hb] at hc
theorem cell_grown {w w' : World} {b g o : Nat} {v : Value} (hg : w.grownBy w' (some b)) (hc : w.cell? ⟨g, o, none⟩ = some v) (hne : g ≠ b) : w'.cell? ⟨g, o, none⟩ = some v :=
  hg.cell hc (fun e => hne (by injection e))

set_option maxHeartbeats 1000000 in
theorem rename1_any (b ba bf bk f : Nat) (na nm : ByteArray) (M : NM) (w : World) (h : OwnN w b M) (ca : w.cell? ⟨ba, 0, none⟩ = some (.string na)) (c0 : w.cell? ⟨bf, 0, none⟩ = some (.pointer (some ⟨f, 0, none⟩))) (c1 : w.cell? ⟨bk, 0, none⟩ = some (.string nm)) (hka : na.size ≤ maxLen) (hk : nm.size ≤ maxLen) (hl : M.length < maxLen) :
    Calls Tryd.prog 66 #[.map (some b), .pointer (some ⟨ba, 0, none⟩), .pointer (some ⟨bf, 0, none⟩), .pointer (some ⟨bk, 0, none⟩)] w fun e w' => e = .returned (.tuple #[]) ∧ OwnN w' b (insN nm.data.toList f (delN na.data.toList M)) ∧ w.grownBy w' (some b) ∧ w'.heap.size = w.heap.size := by
  obtain ⟨w1, hrun, hown, hgr, hsz⟩ := run_delF h na hka
  have hle : (delN na.data.toList M).length ≤ M.length := List.length_filter_le _ _
  obtain ⟨w2, hrun2, hown2, hgr2, hsz2⟩ := run_putF hown nm f hk (by omega)
  have d0 := cell_grown hgr c0 (map_not_row h c0)
  have d1 := cell_grown hgr c1 (map_not_row h c1)
  go_enter Tryd.func66, Tryd.ntmps66
  go_wp2_with fail
  go_end0
  exact ⟨rfl, hown2, ⟨hgr2.os.trans hgr.os, hgr2.tape.trans hgr.tape, hgr2.output.trans hgr.output, by omega, fun i hi hn => (hgr2.block i (by omega) hn).trans (hgr.block i hi hn)⟩, by omega⟩
end Go.Proofs.YtnhfnfdmpcpcoaaDoor

/-
  The plain helpers of the statements: CopyBytes, SameBytes (of a program without Spare).
-/
namespace Go.Proofs.YtnhfnfdmpcpcoaaDoor
open Go.RowKit

set_option maxHeartbeats 1000000 in
theorem copyBytes_any (l : List UInt8) (p : Option Addr) (n c : Nat) (hn : l.length = n) (hr : n ≤ 140737488355328) (w : World) (h : In8 w p l) :
    Calls Tryd.prog 14 #[.slice p n c] w fun e w' => ∃ v, e = .returned v ∧ Own8 w' w.heap.size v l ∧ Below w.heap.size w w' := by
  subst hn
  have hin := h.alloc (.cells #[] 5)
  have hown := Own8.made w
  go_enter Tryd.func14, Tryd.ntmps14
  go_wp2_with (at_builtin; refine wpList_append8 rfl _ _ rfl w.heap.size _ [] rfl hown _ _ _ l rfl rfl hin (by simp; omega) (by simp) ?_; intro v1 w1 hown1 hgrow1 _)
  go_ret
  exact ⟨v1, rfl, hown1, ((Below.refl _ w).alloc (Nat.le_refl _) _).grown hgrow1 (by simp) (fun k e => by cases e; exact Nat.le_refl _)⟩

theorem take_eq_succ (l m : List UInt8) (k : Nat) (h1 : k < l.length) (h2 : k < m.length) (h : l.take k = m.take k) (e : bt l k = bt m k) : l.take (k + 1) = m.take (k + 1) := by
  rw [take_snoc l k h1, take_snoc m k h2, h]
  rw [bt_get l k h1, bt_get m k h2] at e
  rw [show l[k] = m[k] from UInt8.toNat_inj.1 (by omega)]
theorem bt_ne (l m : List UInt8) (k : Nat) (h : ¬ bt l k = bt m k) : l ≠ m := by rintro rfl; exact h rfl

set_option maxHeartbeats 1000000 in
theorem sameBytes_any (l m : List UInt8) (p q : Option Addr) (n c n2 d : Nat) (hn : l.length = n) (hn2 : m.length = n2) (hm : n ≤ maxLen) (hm2 : n2 ≤ maxLen) (w : World) (h : In8 w p l) (h2 : In8 w q m) :
    Calls Tryd.prog 21 #[.slice p n c, .slice q n2 d] w fun e w' => e = .returned (.bool (decide (l = m))) ∧ Below w.heap.size w w' := by
  subst hn
  subst hn2
  unfold maxLen at hm hm2
  by_cases hlen : l.length = m.length
  · have hne : ((l.length : Int) != (m.length : Int)) = false := by simp [hlen]
    go_enter Tryd.func21, Tryd.ntmps21
    go_wp2
    go_loopw [5] (fun i wr => ∃ k : Nat, k ≤ l.length ∧ i = .int .i64 k ∧ l.take k = m.take k ∧ Below w.heap.size w wr) (fun i _ => l.length - (intOf i).toNat)
    case atStart => exact ⟨0, Nat.zero_le _, rfl, rfl, Below.refl _ _⟩
    case round =>
      obtain ⟨k, hk, rfl, hpre, hb⟩ := hrel
      by_cases hlt : k < l.length
      · obtain ⟨b, o, rfl, hc⟩ := (h.below hb).at hlt
        obtain ⟨b2, o2, rfl, hc2⟩ := (h2.below hb).at (show k < m.length by omega)
        have hck := hc k hlt
        have hck2 := hc2 k (by omega)
        have hlt2 : k < m.length := by omega
        have HP := Lib.hid hpre
        have HL := Lib.hid hlen
        clear hc hc2 h h2 hpre hlen
        by_cases heq : bt l k = bt m k
        · have hbool : (bt l k != bt m k) = false := by simp [heq]
          have HE := Lib.hid heq
          clear heq
          go_wp2
          go_quiet (fail)
          go_wp2
          go_roundw
          case rel => exact ⟨k + 1, by omega, by go_num, take_eq_succ l m k hlt hlt2 HP.out HE.out, bdrewN hb _⟩
          case measure => simp [intOf]; omega
        · have hbool : (bt l k != bt m k) = true := by simp [heq]
          have hno := bt_ne l m k heq
          go_wp2
          go_quiet (fail)
          go_wp2
          go_ret
          exact ⟨ret_bool (by simp [hno]), bdrewN hb _⟩
      · obtain rfl : k = l.length := by omega
        go_wp2
        go_ret
        refine ⟨ret_bool ?_, hb⟩
        rw [List.take_length, hlen, List.take_length] at hpre
        simp [hpre]
  · have hne : ((l.length : Int) != (m.length : Int)) = true := by simp; omega
    have hno : l ≠ m := by rintro rfl; exact hlen rfl
    clear hlen
    go_enter Tryd.func21, Tryd.ntmps21
    go_wp2
    go_ret
    exact ⟨ret_bool (by simp [hno]), Below.refl _ _⟩
end Go.Proofs.YtnhfnfdmpcpcoaaDoor

/-
  What a disk is in the heap.
-/
namespace Go.Proofs.YtnhfnfdmpcpcoaaDoor
open Go.RowKit Go.Maps

/-- a change of names -/
inductive Chg where
  | put (k : BS) (f : Nat)
  | ren (a k : BS) (f : Nat)
  | del (k : BS)
def applyC : Chg → NM → NM
  | .put k f, M => insN k f M
  | .ren a k f, M => insN k f (delN a M)
  | .del k, M => delN k M
/-- the closure that stands for a change -/
def IsChg (w : World) (v : Value) : Chg → Prop
  | .put k f => ∃ bf bk, ∃ nm : ByteArray, nm.data.toList = k ∧ nm.size ≤ maxLen ∧ v = .func (.func 44) #[] #[.pointer (some ⟨bf, 0, none⟩), .pointer (some ⟨bk, 0, none⟩)] ∧
      w.heap[bf]? = some (.cells #[.pointer (some ⟨f, 0, none⟩)] 75 (0, 0)) ∧ w.heap[bk]? = some (.cells #[.string nm] 9 (0, 0))
  | .ren a k f => ∃ ba bf bk, ∃ na nm : ByteArray, na.data.toList = a ∧ nm.data.toList = k ∧ na.size ≤ maxLen ∧ nm.size ≤ maxLen ∧ v = .func (.func 66) #[] #[.pointer (some ⟨ba, 0, none⟩), .pointer (some ⟨bf, 0, none⟩), .pointer (some ⟨bk, 0, none⟩)] ∧
      w.heap[ba]? = some (.cells #[.string na] 9 (0, 0)) ∧ w.heap[bf]? = some (.cells #[.pointer (some ⟨f, 0, none⟩)] 75 (0, 0)) ∧ w.heap[bk]? = some (.cells #[.string nm] 9 (0, 0))
  | .del k => ∃ bk, ∃ nm : ByteArray, nm.data.toList = k ∧ nm.size ≤ maxLen ∧ v = .func (.func 67) #[] #[.pointer (some ⟨bk, 0, none⟩)] ∧ w.heap[bk]? = some (.cells #[.string nm] 9 (0, 0))

/-- a block that a disk's method may write: a map, or cells of one of four types -/
def Wr (w : World) (g : Nat) : Prop :=
  (∃ es clock, w.heap[g]? = some (.map es clock)) ∨ ∃ cs T fr, w.heap[g]? = some (.cells cs T fr) ∧ (T = 79 ∨ T = 81 ∨ T = 88 ∨ T = 5)
theorem Wr.no_box {w : World} {g : Nat} {cs : Array Value} {T : TypeId} {fr : Nat × Nat} (h : w.heap[g]? = some (.cells cs T fr)) (h1 : T ≠ 79) (h2 : T ≠ 81) (h3 : T ≠ 88) (h4 : T ≠ 5) : ¬ Wr w g := by
  rintro (⟨es, clock, e⟩ | ⟨cs', T', fr', e, hT⟩)
  · rw [h] at e; cases e
  · rw [h] at e
    injection e with e
    injection e with e1 e2 e3
    subst e2
    rcases hT with e | e | e | e
    · exact h1 e
    · exact h2 e
    · exact h3 e
    · exact h4 e

/-- a file as it lies -/
structure FileC where
  blk : Nat
  val : Value
  data : BS
  firm : Nat
structure DiskC where
  bn : Nat
  bs : Nat
  now : NM
  safe : NM
  pv : Value
  pend : List Chg
  pvals : List Value
  files : List FileC
  room : Nat
  fv : Value
  fq : Option Nat
  fc : Nat
  fails : List Int
  power : Int
  steps : Nat
/-- where the fails lie -/
def DiskC.fp (S : DiskC) : Option Addr := S.fq.map fun b => ⟨b, 0, none⟩

def FileAt (w : World) (P : Nat → Prop) (no : Nat) (f : FileC) : Prop :=
  w.heap[f.blk]? = some (.cells #[.int .i64 no, f.val, .int .i64 f.firm] 81 (0, 0)) ∧ Own8 w 0 f.val f.data ∧ (∀ r, f.val.ownBlock = some r → P r) ∧ P f.blk ∧ f.firm ≤ f.data.length
def diskCells (S : DiskC) : Array Value := #[.map (some S.bn), .map (some S.bs), S.pv, .int .i64 S.files.length, .int .i64 S.room, S.fv, .int .i64 S.power, .int .i64 S.steps]
def HasFile (S : DiskC) (g : Nat) : Prop := ∃ f ∈ S.files, f.blk = g
def ChgFile (S : DiskC) : Chg → Prop
  | .put _ f => HasFile S f
  | .ren _ _ f => HasFile S f
  | .del _ => True

structure DiskAt (w : World) (P : Nat → Prop) (dd : Nat) (S : DiskC) : Prop where
  blk : w.heap[dd]? = some (.cells (diskCells S) 79 (0, 0))
  now : OwnN w S.bn S.now
  safe : OwnN w S.bs S.safe
  ne : S.bn ≠ S.bs
  row : w.ownsRow 0 88 1 S.pv S.pend.length S.pvals
  chg : ∀ (i : Nat) (v : Value) (c : Chg), S.pvals[i]? = some v → S.pend[i]? = some c → IsChg w v c ∧ ChgFile S c
  fails : S.fv = .slice S.fp S.fails.length S.fc ∧ InV w S.fp (S.fails.map (Value.int .i64)) ∧ (∀ a, S.fp = some a → 0 < S.fails.length → ¬ P a.block)
  files : ∀ (i : Nat) (f : FileC), S.files[i]? = some f → FileAt w P i f
  apart : S.files.Pairwise fun f g => f.blk ≠ g.blk ∧ ∀ r, f.val.ownBlock = some r → g.val.ownBlock ≠ some r
  nowF : ∀ x ∈ S.now, HasFile S x.2
  safeF : ∀ x ∈ S.safe, HasFile S x.2
  inP : P dd ∧ P S.bn ∧ P S.bs ∧ ∀ r, S.pv.ownBlock = some r → P r

theorem Below.heap {w w' : World} {g : Nat} {o : Obj} (hb : Below w.heap.size w w') (h : w.heap[g]? = some o) : w'.heap[g]? = some o :=
  (hb.block g (Array.getElem?_eq_some_iff.1 h).1).trans h
theorem Wr.below {w w' : World} {g : Nat} (hb : Below w.heap.size w w') (h : Wr w g) : Wr w' g := by
  rcases h with ⟨es, clock, e⟩ | ⟨cs, T, fr, e, hT⟩
  · exact .inl ⟨es, clock, Below.heap hb e⟩
  · exact .inr ⟨cs, T, fr, Below.heap hb e, hT⟩
theorem IsChg.below {w w' : World} {v : Value} {c : Chg} (hb : Below w.heap.size w w') (h : IsChg w v c) : IsChg w' v c := by
  cases c with
  | put k f =>
    obtain ⟨bf, bk, nm, h1, h2, h3, h4, h5⟩ := h
    exact ⟨bf, bk, nm, h1, h2, h3, Below.heap hb h4, Below.heap hb h5⟩
  | ren a k f =>
    obtain ⟨ba, bf, bk, na, nm, h1, h2, h3, h4, h5, h6, h7, h8⟩ := h
    exact ⟨ba, bf, bk, na, nm, h1, h2, h3, h4, h5, Below.heap hb h6, Below.heap hb h7, Below.heap hb h8⟩
  | del k =>
    obtain ⟨bk, nm, h1, h2, h3, h4⟩ := h
    exact ⟨bk, nm, h1, h2, h3, Below.heap hb h4⟩
/-- new blocks change nothing -/
theorem DiskAt.below {w w' : World} {P : Nat → Prop} {dd : Nat} {S : DiskC} (h : DiskAt w P dd S) (hb : Below w.heap.size w w') : DiskAt w' P dd S where
  blk := Below.heap hb h.blk
  now := h.now.below hb
  safe := h.safe.below hb
  ne := h.ne
  row := ownsRow_below h.row hb
  chg := fun i v c h1 h2 => ⟨(h.chg i v c h1 h2).1.below hb, (h.chg i v c h1 h2).2⟩
  fails := ⟨h.fails.1, h.fails.2.1.below hb, h.fails.2.2⟩
  files := fun i f hf => by
    obtain ⟨h1, h2, h3, h4, h5⟩ := h.files i f hf
    exact ⟨Below.heap hb h1, ownsRow_below h2 hb, h3, h4, h5⟩
  apart := h.apart
  nowF := h.nowF
  safeF := h.safeF
  inP := h.inP

/-- a call of a change -/
theorem chg_call {w : World} {v : Value} {c : Chg} {b : Nat} {M : NM} (h : OwnN w b M) (hc : IsChg w v c) (hl : M.length < maxLen) :
    ∃ g cap, v = .func (.func g) #[] cap ∧ Calls Tryd.prog g (#[.map (some b)] ++ cap) w fun e w' => e = .returned (.tuple #[]) ∧ OwnN w' b (applyC c M) ∧ w.grownBy w' (some b) ∧ w'.heap.size = w.heap.size := by
  cases c with
  | put k f =>
    obtain ⟨bf, bk, nm, rfl, h2, rfl, h4, h5⟩ := hc
    refine ⟨_, _, rfl, ?_⟩
    exact create1_any b bf bk f nm M w h (by rw [cell_of_row _ _ _ _ _ _ h4]; rfl) (by rw [cell_of_row _ _ _ _ _ _ h5]; rfl) h2 hl
  | ren a k f =>
    obtain ⟨ba, bf, bk, na, nm, rfl, rfl, h3, h4, rfl, h6, h7, h8⟩ := hc
    refine ⟨_, _, rfl, ?_⟩
    exact rename1_any b ba bf bk f na nm M w h (by rw [cell_of_row _ _ _ _ _ _ h6]; rfl) (by rw [cell_of_row _ _ _ _ _ _ h7]; rfl) (by rw [cell_of_row _ _ _ _ _ _ h8]; rfl) h3 h4 hl
  | del k =>
    obtain ⟨bk, nm, rfl, h2, rfl, h4⟩ := hc
    refine ⟨_, _, rfl, ?_⟩
    exact remove1_any b bk nm M w h (by rw [cell_of_row _ _ _ _ _ _ h4]; rfl) h2
end Go.Proofs.YtnhfnfdmpcpcoaaDoor

/-
  Down, Steps: what only reads a disk.
-/
namespace Go.Proofs.YtnhfnfdmpcpcoaaDoor
open Go.RowKit Go.Maps

def downS (S : DiskC) : Bool := decide (0 ≤ S.power ∧ (S.steps : Int) = S.power)
theorem DiskAt.cell {w : World} {P : Nat → Prop} {dd : Nat} {S : DiskC} (h : DiskAt w P dd S) (i : Nat) : w.cell? ⟨dd, i, none⟩ = (diskCells S)[i]? := cell_of_row _ _ _ _ _ _ h.blk
theorem DiskAt.unfrozen {w : World} {P : Nat → Prop} {dd : Nat} {S : DiskC} (h : DiskAt w P dd S) (i : Nat) : w.frozen? ⟨dd, i, none⟩ = false := frozen_of_row w dd i _ _ h.blk

theorem steps_any {w : World} {P : Nat → Prop} {dd : Nat} {S : DiskC} (h : DiskAt w P dd S) :
    Calls Tryd.prog 37 #[.pointer (some ⟨dd, 0, none⟩)] w fun e w' => e = .returned (.int .i64 S.steps) ∧ Below w.heap.size w w' := by
  have c7 : w.cell? ⟨dd, 7, none⟩ = some (.int .i64 S.steps) := h.cell 7
  go_enter Tryd.func37, Tryd.ntmps37
  go_wp2_with fail
  go_ret
  exact ⟨rfl, Below.refl _ _⟩

set_option maxHeartbeats 1000000 in
theorem down_any {w : World} {P : Nat → Prop} {dd : Nat} {S : DiskC} (h : DiskAt w P dd S) :
    Calls Tryd.prog 33 #[.pointer (some ⟨dd, 0, none⟩)] w fun e w' => e = .returned (.bool (downS S)) ∧ Below w.heap.size w w' := by
  have c6 : w.cell? ⟨dd, 6, none⟩ = some (.int .i64 S.power) := h.cell 6
  have c7 : w.cell? ⟨dd, 7, none⟩ = some (.int .i64 S.steps) := h.cell 7
  by_cases h1 : 0 ≤ S.power
  · have hd : ((S.steps : Int) == S.power) = downS S := by
      unfold downS
      rw [Bool.eq_iff_iff, beq_iff_eq, decide_eq_true_eq]
      exact ⟨fun e => ⟨h1, e⟩, fun e => e.2⟩
    obtain ⟨b, hb⟩ : ∃ b, b = downS S := ⟨_, rfl⟩
    rw [← hb] at hd ⊢
    clear hb
    go_enter Tryd.func33, Tryd.ntmps33
    go_wp2
    go_quiet (fail)
    go_wp2_with fail
    go_ret
    exact ⟨rfl, bdrewN (Below.refl _ _) _⟩
  · have hd : downS S = false := by unfold downS; exact decide_eq_false (fun e => h1 e.1)
    rw [hd]
    have h2 : decide (0 ≤ S.power) = false := decide_eq_false h1
    have h3 : S.power < 0 := by omega
    clear hd
    go_enter Tryd.func33, Tryd.ntmps33
    go_wp2
    go_quiet (fail)
    go_wp2_with fail
    go_ret
    exact ⟨rfl, bdrewN (Below.refl _ _) _⟩
end Go.Proofs.YtnhfnfdmpcpcoaaDoor

/-
  A disk behind a store into one of its blocks.
-/
namespace Go.Proofs.YtnhfnfdmpcpcoaaDoor
open Go.RowKit Go.Maps

theorem blk_ne {w : World} {a b : Nat} {cs cs' : Array Value} {T T' : TypeId} {fr fr' : Nat × Nat} (h : w.heap[a]? = some (.cells cs T fr)) (h' : w.heap[b]? = some (.cells cs' T' fr')) (hT : T ≠ T') : a ≠ b := by
  rintro rfl
  rw [h] at h'
  injection h' with e
  injection e with _ e
  exact hT e
theorem map_ne {w : World} {a b : Nat} {M : NM} {cs : Array Value} {T : TypeId} {fr : Nat × Nat} (h : OwnN w a M) (h' : w.heap[b]? = some (.cells cs T fr)) : a ≠ b := by
  rintro rfl
  obtain ⟨_, es, clock, e, _⟩ := h
  rw [h'] at e; cases e
theorem row_ne {w : World} {base size n b : Nat} {e T : TypeId} {v : Value} {xs : List Value} {cs : Array Value} {fr : Nat × Nat} (h : w.ownsRow base e size v n xs) (h' : w.heap[b]? = some (.cells cs T fr)) (hT : e ≠ T) : v.ownBlock ≠ some b := by
  intro hv
  rcases h.2 with ⟨rfl, _⟩ | ⟨g, cap, cur, rfl, _, hg, _⟩
  · cases hv
  · have : g = b := by simpa [Value.ownBlock] using hv
    subst this
    rw [hg] at h'
    injection h' with e'
    injection e' with _ e'
    exact hT e'
/-- all but block x is as it was -/
def Else (w w' : World) (x : Nat) : Prop := ∀ g, g ≠ x → w'.heap[g]? = w.heap[g]?
theorem rowElse {w w' : World} {x base size n : Nat} {e : TypeId} {v : Value} {xs : List Value} (h : w.ownsRow base e size v n xs) (hE : Else w w' x) (hx : v.ownBlock ≠ some x) : w'.ownsRow base e size v n xs := by
  refine ⟨h.1, ?_⟩
  rcases h.2 with h0 | ⟨g, cap, cur, rfl, h1, h2, r⟩
  · exact .inl h0
  · exact .inr ⟨g, cap, cur, rfl, h1, (hE g (fun e => hx (by rw [e]; rfl))).trans h2, r⟩
theorem chgElse {w w' : World} {x : Nat} {v : Value} {c : Chg} {cs : Array Value} {T : TypeId} {fr : Nat × Nat} (h : IsChg w v c) (hE : Else w w' x) (hx : w.heap[x]? = some (.cells cs T fr)) (h1 : 75 ≠ T) (h2 : 9 ≠ T) : IsChg w' v c := by
  cases c with
  | put k f =>
    obtain ⟨bf, bk, nm, e1, e2, e3, e4, e5⟩ := h
    exact ⟨bf, bk, nm, e1, e2, e3, (hE bf (blk_ne e4 hx h1)).trans e4, (hE bk (blk_ne e5 hx h2)).trans e5⟩
  | ren a k f =>
    obtain ⟨ba, bf, bk, na, nm, e1, e2, e3, e4, e5, e6, e7, e8⟩ := h
    exact ⟨ba, bf, bk, na, nm, e1, e2, e3, e4, e5, (hE ba (blk_ne e6 hx h2)).trans e6, (hE bf (blk_ne e7 hx h1)).trans e7, (hE bk (blk_ne e8 hx h2)).trans e8⟩
  | del k =>
    obtain ⟨bk, nm, e1, e2, e3, e4⟩ := h
    exact ⟨bk, nm, e1, e2, e3, (hE bk (blk_ne e4 hx h2)).trans e4⟩
theorem invElse {w w' : World} {x : Nat} {p : Option Addr} {xs : List Value} (h : InV w p xs) (hE : Else w w' x) (hx : ∀ a, p = some a → 0 < xs.length → a.block ≠ x) : InV w' p xs := by
  intro h0
  obtain ⟨b, o, rfl, hc⟩ := h h0
  refine ⟨b, o, rfl, fun i hi => ?_⟩
  have hb := hE b (hx _ rfl h0)
  have := hc i hi
  simp only [World.cell?, hb]
  exact this

/-- the disk's own cells turn: the count of steps -/
theorem DiskAt.setSteps {w w' : World} {P : Nat → Prop} {dd n : Nat} {S : DiskC} (h : DiskAt w P dd S) (hblk : w'.heap[dd]? = some (.cells (diskCells { S with steps := n }) 79 (0, 0))) (hE : Else w w' dd) : DiskAt w' P dd { S with steps := n } where
  blk := hblk
  now := h.now.kept (hE _ (map_ne h.now h.blk))
  safe := h.safe.kept (hE _ (map_ne h.safe h.blk))
  ne := h.ne
  row := rowElse h.row hE (row_ne h.row h.blk (by decide))
  chg := fun i v c h1 h2 => ⟨chgElse (h.chg i v c h1 h2).1 hE h.blk (by decide) (by decide), by
    have := (h.chg i v c h1 h2).2
    cases c <;> exact this⟩
  fails := ⟨h.fails.1, invElse h.fails.2.1 hE (fun a ha h0 e => h.fails.2.2 a ha (by simpa using h0) (by rw [e]; exact h.inP.1)), h.fails.2.2⟩
  files := fun i f hf => by
    obtain ⟨h1, h2, h3, h4, h5⟩ := h.files i f hf
    exact ⟨(hE _ (blk_ne h1 h.blk (by decide))).trans h1, rowElse h2 hE (row_ne h2 h.blk (by decide)), h3, h4, h5⟩
  apart := h.apart
  nowF := h.nowF
  safeF := h.safeF
  inP := h.inP
end Go.Proofs.YtnhfnfdmpcpcoaaDoor

/-
  A disk behind a change of one file.
-/
namespace Go.Proofs.YtnhfnfdmpcpcoaaDoor
open Go.RowKit Go.Maps

/-- blocks that are neither x nor y are as they were -/
def Else2 (w w' : World) (x : Nat) (y : Option Nat) : Prop := ∀ g, g < w.heap.size → g ≠ x → some g ≠ y → w'.heap[g]? = w.heap[g]?
theorem lt_of_heap {w : World} {g : Nat} {o : Obj} (h : w.heap[g]? = some o) : g < w.heap.size := (Array.getElem?_eq_some_iff.1 h).1
theorem keep2 {w w' : World} {x g : Nat} {y : Option Nat} {o : Obj} (hE : Else2 w w' x y) (h : w.heap[g]? = some o) (h1 : g ≠ x) (h2 : some g ≠ y) : w'.heap[g]? = some o := (hE g (lt_of_heap h) h1 h2).trans h
theorem rowElse2 {w w' : World} {x base size n : Nat} {y : Option Nat} {e : TypeId} {v : Value} {xs : List Value} (h : w.ownsRow base e size v n xs) (hE : Else2 w w' x y) (hx : v.ownBlock ≠ some x) (hy : ∀ r, v.ownBlock = some r → y ≠ some r) : w'.ownsRow base e size v n xs := by
  refine ⟨h.1, ?_⟩
  rcases h.2 with h0 | ⟨g, cap, cur, rfl, h1, h2, r⟩
  · exact .inl h0
  · exact .inr ⟨g, cap, cur, rfl, h1, keep2 hE h2 (fun e => hx (by rw [e]; rfl)) (fun e => hy g rfl e.symm), r⟩
/-- a row's block is of the row's type -/
theorem rowBlk {w : World} {base size n g : Nat} {e : TypeId} {v : Value} {xs : List Value} (h : w.ownsRow base e size v n xs) (hv : v.ownBlock = some g) : ∃ cur, w.heap[g]? = some (.cells cur e (0, 0)) := by
  rcases h.2 with ⟨rfl, _⟩ | ⟨g', cap, cur, rfl, _, hg, _⟩
  · cases hv
  · have : g' = g := by simpa [Value.ownBlock] using hv
    subst this
    exact ⟨cur, hg⟩
theorem chgElse2 {w w' : World} {x : Nat} {y : Option Nat} {v : Value} {c : Chg} (h : IsChg w v c) (hE : Else2 w w' x y) (hx : ∀ (g : Nat) (cs : Array Value) (T : TypeId) (fr : Nat × Nat), w.heap[g]? = some (Obj.cells cs T fr) → T = 75 ∨ T = 9 → g ≠ x ∧ some g ≠ y) : IsChg w' v c := by
  have k : ∀ (g : Nat) (cs : Array Value) (T : TypeId) (fr : Nat × Nat), w.heap[g]? = some (Obj.cells cs T fr) → T = 75 ∨ T = 9 → w'.heap[g]? = some (Obj.cells cs T fr) := fun g cs T fr h1 h2 => keep2 hE h1 (hx g cs T fr h1 h2).1 (hx g cs T fr h1 h2).2
  cases c with
  | put a f =>
    obtain ⟨bf, bk, nm, e1, e2, e3, e4, e5⟩ := h
    exact ⟨bf, bk, nm, e1, e2, e3, k _ _ _ _ e4 (.inl rfl), k _ _ _ _ e5 (.inr rfl)⟩
  | ren a b f =>
    obtain ⟨ba, bf, bk, na, nm, e1, e2, e3, e4, e5, e6, e7, e8⟩ := h
    exact ⟨ba, bf, bk, na, nm, e1, e2, e3, e4, e5, k _ _ _ _ e6 (.inr rfl), k _ _ _ _ e7 (.inl rfl), k _ _ _ _ e8 (.inr rfl)⟩
  | del a =>
    obtain ⟨bk, nm, e1, e2, e3, e4⟩ := h
    exact ⟨bk, nm, e1, e2, e3, k _ _ _ _ e4 (.inr rfl)⟩

theorem hasFile_set {S : DiskC} {i : Nat} {f f' : FileC} (hf : S.files[i]? = some f) (hb : f'.blk = f.blk) {g : Nat} (h : HasFile S g) : HasFile { S with files := S.files.set i f' } g := by
  obtain ⟨z, hz, e⟩ := h
  obtain ⟨hi, e0⟩ := List.getElem?_eq_some_iff.1 hf
  obtain ⟨j, hj, e2⟩ := List.getElem_of_mem hz
  by_cases hij : i = j
  · subst hij
    refine ⟨f', ?_, ?_⟩
    · exact List.mem_iff_getElem.2 ⟨i, by rw [List.length_set]; exact hi, by simp⟩
    · rw [hb, ← e0, e2]; exact e
  · refine ⟨z, List.mem_iff_getElem.2 ⟨j, by rw [List.length_set]; exact hj, ?_⟩, e⟩
    rw [List.getElem_set_ne hij]; exact e2

/-- one file turns: its cells, its row -/
theorem DiskAt.setFile {w w' : World} {P : Nat → Prop} {dd i : Nat} {S : DiskC} {f f' : FileC} (h : DiskAt w P dd S) (hf : S.files[i]? = some f) (hb : f'.blk = f.blk) (hcell : w'.heap[f.blk]? = some (.cells #[.int .i64 i, f'.val, .int .i64 f'.firm] 81 (0, 0)))
    (hE : Else2 w w' f.blk f.val.ownBlock) (hown : Own8 w' 0 f'.val f'.data) (hrow : ∀ r, f'.val.ownBlock = some r → f.val.ownBlock = some r ∨ w.heap.size ≤ r) (hfm : f'.firm ≤ f'.data.length) :
    DiskAt w' (fun g => P g ∨ f'.val.ownBlock = some g) dd { S with files := S.files.set i f' } := by
  obtain ⟨g1, g2, g3, g4, g5⟩ := h.files i f hf
  have ty : ∀ (g : Nat) (cs : Array Value) (T : TypeId) (fr : Nat × Nat), w.heap[g]? = some (Obj.cells cs T fr) → T ≠ 81 → T ≠ 5 → g ≠ f.blk ∧ some g ≠ f.val.ownBlock := fun g cs T fr hg t1 t2 =>
    ⟨blk_ne hg g1 t1, fun e => by
      obtain ⟨cur, hc⟩ := rowBlk g2 e.symm
      rw [hg] at hc
      injection hc with e'
      injection e' with _ e'
      exact t2 e'⟩
  have mp : ∀ b M, OwnN w b M → b ≠ f.blk ∧ some b ≠ f.val.ownBlock := fun b M hM => ⟨map_ne hM g1, fun e => by
    obtain ⟨cur, hc⟩ := rowBlk g2 e.symm
    exact map_ne hM hc rfl⟩
  have apart2 : ∀ (m : Nat) (z : FileC), S.files[m]? = some z → m ≠ i → z.blk ≠ f.blk ∧ ∀ r, z.val.ownBlock = some r → f.val.ownBlock ≠ some r := by
    intro m z hz hne
    obtain ⟨hm, em⟩ := List.getElem?_eq_some_iff.1 hz
    obtain ⟨hi, ei⟩ := List.getElem?_eq_some_iff.1 hf
    have hp := List.pairwise_iff_getElem.1 h.apart
    rcases Nat.lt_or_gt_of_ne hne with hlt | hlt
    · have := hp m i hm hi hlt
      rw [em, ei] at this
      exact this
    · have := hp i m hi hm hlt
      rw [em, ei] at this
      exact ⟨fun e => this.1 e.symm, fun r hr e => this.2 r e hr⟩
  have td := ty dd _ _ _ h.blk (by decide) (by decide)
  refine ⟨?_, ?_, ?_, h.ne, ?_, ?_, ?_, ?_, ?_, ?_, ?_, ?_⟩
  · have := keep2 hE h.blk td.1 td.2
    rw [this]
    unfold diskCells
    simp
  · exact h.now.kept (hE _ h.now.lt (mp _ _ h.now).1 (mp _ _ h.now).2)
  · exact h.safe.kept (hE _ h.safe.lt (mp _ _ h.safe).1 (mp _ _ h.safe).2)
  · exact rowElse2 h.row hE (row_ne h.row g1 (by decide)) (fun r hr e => by
      obtain ⟨cur, hc⟩ := rowBlk h.row hr
      exact (ty r _ _ _ hc (by decide) (by decide)).2 e.symm)
  · intro j v c h1 h2
    refine ⟨chgElse2 (h.chg j v c h1 h2).1 hE fun g cs T fr hg hT => ty g cs T fr hg ?_ ?_, ?_⟩
    · rcases hT with rfl | rfl <;> decide
    · rcases hT with rfl | rfl <;> decide
    · have := (h.chg j v c h1 h2).2
      cases c with
      | put a b => exact hasFile_set hf hb this
      | ren a b d => exact hasFile_set hf hb this
      | del a => trivial
  · refine ⟨h.fails.1, ?_, fun a ha h0 hP => ?_⟩
    · intro h0
      obtain ⟨b, o, e, hc⟩ := h.fails.2.1 h0
      have hnp := h.fails.2.2 ⟨b, o, none⟩ e (by simpa using h0)
      refine ⟨b, o, e, fun k hk => ?_⟩
      have hck := hc k hk
      have hlt := World.block_lt_of_cell? w _ hck
      have hb2 := hE b hlt (fun e2 => hnp (by rw [e2]; exact g4)) (fun e2 => hnp (g3 b e2.symm))
      simp only [World.cell?, hb2]
      exact hck
    · rcases hP with hP | hP
      · exact h.fails.2.2 a ha h0 hP
      · rcases hrow _ hP with h1 | h1
        · exact h.fails.2.2 a ha h0 (g3 _ h1)
        · obtain ⟨b, o, e, hc⟩ := h.fails.2.1 (by simpa using h0)
          have hlt := World.block_lt_of_cell? w _ (hc 0 (by simpa using h0))
          have ha : S.fp = some a := ha
          rw [e] at ha
          injection ha with ha
          subst ha
          simp only at h1 hlt
          omega
  · intro j z hz
    by_cases hij : i = j
    · subst hij
      have hi := (List.getElem?_eq_some_iff.1 hf).1
      rw [List.getElem?_set_self hi] at hz
      obtain rfl := Option.some.inj hz
      exact ⟨by rw [hb]; exact hcell, hown, fun r hr => .inr hr, by rw [hb]; exact .inl g4, hfm⟩
    · rw [List.getElem?_set_ne hij] at hz
      obtain ⟨e1, e2, e3, e4, e5⟩ := h.files j z hz
      obtain ⟨a1, a2⟩ := apart2 j z hz (fun e => hij e.symm)
      refine ⟨keep2 hE e1 a1 (fun e => ?_), rowElse2 e2 hE (row_ne e2 g1 (by decide)) (fun r hr e => a2 r hr e), fun r hr => .inl (e3 r hr), .inl e4, e5⟩
      obtain ⟨cur, hc⟩ := rowBlk g2 e.symm
      exact blk_ne e1 hc (by decide) rfl
  · rw [List.pairwise_iff_getElem]
    intro j k hj hk hjk
    rw [List.length_set] at hj hk
    have new : ∀ (m : Nat) (z : FileC), S.files[m]? = some z → m ≠ i → z.blk ≠ f'.blk ∧ ∀ r, z.val.ownBlock = some r → f'.val.ownBlock ≠ some r := by
      intro m z hz hne
      obtain ⟨a1, a2⟩ := apart2 m z hz hne
      refine ⟨by rw [hb]; exact a1, fun r hr e => ?_⟩
      rcases hrow r e with h1 | h1
      · exact a2 r hr h1
      · obtain ⟨_, e2, _⟩ := h.files m z hz
        obtain ⟨cur, hc⟩ := rowBlk e2 hr
        have := lt_of_heap hc
        omega
    rw [List.getElem_set, List.getElem_set]
    by_cases e1 : i = j
    · rw [if_pos e1, if_neg (by omega)]
      obtain ⟨a1, a2⟩ := new k S.files[k] (List.getElem?_eq_getElem hk) (by omega)
      exact ⟨fun e => a1 e.symm, fun r hr e => a2 r e hr⟩
    · rw [if_neg e1]
      by_cases e2 : i = k
      · rw [if_pos e2]
        exact new j S.files[j] (List.getElem?_eq_getElem hj) (by omega)
      · rw [if_neg e2]
        exact (List.pairwise_iff_getElem.1 h.apart) j k hj hk hjk
  · exact fun x hx => hasFile_set hf hb (h.nowF x hx)
  · exact fun x hx => hasFile_set hf hb (h.safeF x hx)
  · exact ⟨.inl h.inP.1, .inl h.inP.2.1, .inl h.inP.2.2.1, fun r hr => .inl (h.inP.2.2.2 r hr)⟩
end Go.Proofs.YtnhfnfdmpcpcoaaDoor

/-
  Rows of files: a name and bytes each.
-/
namespace Go.Proofs.YtnhfnfdmpcpcoaaDoor
open Go.RowKit

abbrev FT := List UInt8 × List UInt8
/-- the cells of names and bytes -/
def fc : List (List UInt8 × Value) → List Value
  | [] => []
  | x :: E => [.string ⟨x.1.toArray⟩, x.2] ++ fc E
theorem fc_length (E : List (List UInt8 × Value)) : (fc E).length = E.length * 2 := by
  induction E with
  | nil => rfl
  | cons x L ih => simp only [fc, List.length_append, List.length_cons, List.length_nil, ih]; omega
theorem fc_append (E F : List (List UInt8 × Value)) : fc (E ++ F) = fc E ++ fc F := by
  induction E with
  | nil => rfl
  | cons x L ih => simp only [List.cons_append, fc, ih, List.append_assoc]
theorem fc_one {E : List (List UInt8 × Value)} (h : ∀ e ∈ E, e.2.oneCell' = true) : ∀ u ∈ fc E, u.oneCell' = true := by
  induction E with
  | nil => intro u hu; cases hu
  | cons x L ih =>
    intro u hu
    simp only [fc, List.cons_append, List.nil_append, List.mem_cons] at hu
    rcases hu with rfl | rfl | hu
    · rfl
    · exact h x (List.mem_cons_self ..)
    · exact ih (fun e he => h e (List.mem_cons_of_mem _ he)) u hu
theorem fc_get (E : List (List UInt8 × Value)) (i : Nat) (h : i < E.length) : (fc E)[i * 2]? = some (.string ⟨E[i].1.toArray⟩) ∧ (fc E)[i * 2 + 1]? = some E[i].2 := by
  induction E generalizing i with
  | nil => simp at h
  | cons x L ih =>
    cases i with
    | zero => simp [fc]
    | succ i =>
      have h2 := ih i (by simpa using h)
      have e1 : (i + 1) * 2 = i * 2 + 1 + 1 := by omega
      have e2 : (i + 1) * 2 + 1 = i * 2 + 1 + 1 + 1 := by omega
      rw [e2, e1]
      simpa [fc] using h2
/-- a slice of bytes, as a value -/
def ByteV (w : World) (v : Value) (l : List UInt8) : Prop := ∃ q c, v = .slice q l.length c ∧ (q = none → c = 0) ∧ l.length ≤ maxLen ∧ In8 w q l
theorem Own8.byteV {w : World} {base : Nat} {v : Value} {l : List UInt8} (h : Own8 w base v l) : ByteV w v l := by
  obtain ⟨q, c, e, h1, h2, h3⟩ := h.in8
  refine ⟨q, c, e, fun hq => ?_, by omega, h3⟩
  subst hq
  rcases h.2 with ⟨e2, _⟩ | ⟨g, cap, cur, e2, _⟩
  · rw [e] at e2; injection e2
  · rw [e] at e2; injection e2 with e2; cases e2
theorem ByteV.below {w w' : World} {v : Value} {l : List UInt8} (h : ByteV w v l) (hb : Below w.heap.size w w') : ByteV w' v l := by
  obtain ⟨q, c, e, h1, h2, h3⟩ := h
  exact ⟨q, c, e, h1, h2, h3.below hb⟩
theorem ByteV.one {w : World} {v : Value} {l : List UInt8} (h : ByteV w v l) : v.oneCell' = true := by
  obtain ⟨q, c, e, _⟩ := h
  rw [e]; rfl
def InE (w : World) (p : Option Addr) (E : List (List UInt8 × Value)) : Prop :=
  0 < E.length → ∃ b o, p = some ⟨b, o, none⟩ ∧ ∀ j v, (fc E)[j]? = some v → w.cell? ⟨b, o + j, none⟩ = some v
theorem InE.below {w w' : World} {p : Option Addr} {E : List (List UInt8 × Value)} (h : InE w p E) (hb : Below w.heap.size w w') : InE w' p E := by
  intro h0
  obtain ⟨b, o, rfl, hc⟩ := h h0
  refine ⟨b, o, rfl, fun j v hv => ?_⟩
  have := hc j v hv
  rw [hb.cell (p := ⟨b, o + j, none⟩) (World.block_lt_of_cell? w _ this)]
  exact this
theorem InE.one (w : World) (x : ByteArray) (u : Value) (e : TypeId) : InE (w.alloc (.cells #[.string x, u] e)) (some ⟨w.heap.size, 0, none⟩) [(x.data.toList, u)] := by
  intro _
  refine ⟨w.heap.size, 0, rfl, fun j v hv => ?_⟩
  rw [cell_of_row _ _ _ _ _ _ (heap_alloc_new w (.cells #[.string x, u] e)), Nat.zero_add, ← Array.getElem?_toList, ← hv]
  simp [fc]
def InFs (w : World) (p : Option Addr) (L : List FT) : Prop :=
  ∃ E, InE w p E ∧ E.length = L.length ∧ ∀ (i : Nat) (e : List UInt8 × Value) (x : FT), E[i]? = some e → L[i]? = some x → e.1 = x.1 ∧ ByteV w e.2 x.2
theorem InFs.below {w w' : World} {p : Option Addr} {L : List FT} (h : InFs w p L) (hb : Below w.heap.size w w') : InFs w' p L := by
  obtain ⟨E, h1, h2, h3⟩ := h
  exact ⟨E, h1.below hb, h2, fun i e x he hx => ⟨(h3 i e x he hx).1, (h3 i e x he hx).2.below hb⟩⟩
theorem InFs.at {w : World} {p : Option Addr} {L : List FT} (h : InFs w p L) {k : Nat} (hk : k < L.length) :
    ∃ b o, p = some ⟨b, o, none⟩ ∧ ∃ (x : ByteArray) (q : Option Addr) (c : Nat), w.cell? ⟨b, o + k * 2, none⟩ = some (.string x) ∧ w.cell? ⟨b, o + k * 2 + 1, none⟩ = some (.slice q L[k].2.length c) ∧ x.data.toList = L[k].1 ∧ (q = none → c = 0) ∧ L[k].2.length ≤ maxLen ∧ In8 w q L[k].2 := by
  obtain ⟨E, h1, h2, h3⟩ := h
  obtain ⟨b, o, e, hc⟩ := h1 (by omega)
  obtain ⟨g1, g2⟩ := fc_get E k (by omega)
  obtain ⟨e1, q, c, e2, z1, z2, z3⟩ := h3 k E[k] L[k] (List.getElem?_eq_getElem (by omega)) (List.getElem?_eq_getElem hk)
  rw [e2] at g2
  exact ⟨b, o, e, _, q, c, hc _ _ g1, (by have := hc _ _ g2; rwa [← Nat.add_assoc] at this), e1, z1, z2, z3⟩
theorem InFs.nil (w : World) (p : Option Addr) : InFs w p [] := ⟨[], fun h => absurd h (by simp), rfl, fun i e x he => by simp at he⟩

/-- a row of the call's own of files, whose bytes are the call's own too -/
def OwnFs (w : World) (base : Nat) (v : Value) (L : List FT) : Prop :=
  ∃ E, w.ownsRow base 45 2 v E.length (fc E) ∧ E.length = L.length ∧ ∀ (i : Nat) (e : List UInt8 × Value) (x : FT), E[i]? = some e → L[i]? = some x → e.1 = x.1 ∧ Own8 w base e.2 x.2
theorem OwnFs.nil (w : World) (base : Nat) : OwnFs w base (.slice none 0 0) [] := ⟨[], World.ownsRow_nil _ _ _ _, rfl, fun i e x he => by simp at he⟩
theorem OwnFs.made (w : World) : OwnFs (w.alloc (.cells #[] 45)) w.heap.size (.slice (some ⟨w.heap.size, 0, none⟩) 0 0) [] :=
  ⟨[], ⟨rfl, .inr ⟨w.heap.size, 0, #[], rfl, Nat.le_refl _, heap_alloc_new w _, by simp, by unfold maxLen; omega, rfl, rfl⟩⟩, rfl, fun i e x he => by simp at he⟩
theorem OwnFs.below {w w' : World} {base : Nat} {v : Value} {L : List FT} (h : OwnFs w base v L) (hb : Below w.heap.size w w') : OwnFs w' base v L := by
  obtain ⟨E, h1, h2, h3⟩ := h
  exact ⟨E, ownsRow_below h1 hb, h2, fun i e x he hx => ⟨(h3 i e x he hx).1, (h3 i e x he hx).2.below hb⟩⟩
theorem OwnFs.mono {w : World} {base base' : Nat} {v : Value} {L : List FT} (h : OwnFs w base v L) (hb : base' ≤ base) : OwnFs w base' v L := by
  obtain ⟨E, h1, h2, h3⟩ := h
  exact ⟨E, ownsRow_mono h1 hb, h2, fun i e x he hx => ⟨(h3 i e x he hx).1, (h3 i e x he hx).2.mono hb⟩⟩
theorem OwnFs.lt {w : World} {base : Nat} {v : Value} {L : List FT} (h : OwnFs w base v L) {g : Nat} (hg : v.ownBlock = some g) : base ≤ g ∧ g < w.heap.size := by
  obtain ⟨E, h1, _⟩ := h
  exact World.ownsRow.lt h1 g hg
theorem OwnFs.shape {w : World} {base n : Nat} {v : Value} {L : List FT} (h : OwnFs w base v L) (hn : L.length = n) :
    ∃ p c, v = .slice p n c ∧ n ≤ c ∧ c ≤ maxLen ∧ InFs w p L ∧ (∀ a, p = some a → base ≤ a.block ∧ a.block < w.heap.size ∧ a.off = 0 ∧ a.spot = none) := by
  subst hn
  obtain ⟨E, h1, h2, h3⟩ := h
  have hlt := World.ownsRow.lt h1
  rw [← h2]
  rcases h1.2 with ⟨rfl, hn⟩ | ⟨g, cap, cur, rfl, hb, hg, hnc, hcm, hcs, ht⟩
  · refine ⟨none, 0, by rw [hn], by omega, by unfold maxLen; omega, ⟨E, fun h0 => by omega, h2, fun i e x he hx => ⟨(h3 i e x he hx).1, (h3 i e x he hx).2.byteV⟩⟩, fun a ha => by cases ha⟩
  · refine ⟨some ⟨g, 0, none⟩, cap, rfl, hnc, hcm, ⟨E, fun h0 => ⟨g, 0, rfl, fun j v hv => ?_⟩, h2, fun i e x he hx => ⟨(h3 i e x he hx).1, (h3 i e x he hx).2.byteV⟩⟩, fun a ha => ?_⟩
    · rw [cell_of_row _ _ _ _ _ _ hg, Nat.zero_add, ← Array.getElem?_toList]
      have hj : j < E.length * 2 := by rw [← fc_length]; exact (List.getElem?_eq_some_iff.1 hv).1
      rw [← ht, List.getElem?_take_of_lt hj] at hv
      exact hv
    · obtain rfl := Option.some.inj ha
      exact ⟨hb, (hlt g rfl).2, rfl, rfl⟩
theorem OwnFs.grown {w w1 w' : World} {B : Nat} {v : Value} {L : List FT} (hB : Below B w w1) (hs : B ≤ w1.heap.size) (hown : OwnFs w1 B v L) (hg : w1.grownBy w' v.ownBlock) : Below B w w' :=
  hB.grown hg hs (fun _ e => (hown.lt e).1)
theorem infoF : (Tryd.prog.info? 45).map (fun i => (i.zero, i.size, i.bytes)) = some (some (.agg #[.string .empty, .slice none 0 0]), 2, 40) := by kernel_rfl
theorem ownFs_snoc {w w' : World} {base : Nat} {v v' u : Value} {E : List (List UInt8 × Value)} {L : List FT} {k d : List UInt8} (h1 : w.ownsRow base 45 2 v E.length (fc E)) (h2 : E.length = L.length) (h3 : ∀ (i : Nat) (e : List UInt8 × Value) (x : FT), E[i]? = some e → L[i]? = some x → e.1 = x.1 ∧ Own8 w base e.2 x.2)
    (hu : Own8 w base u d) (ho' : w'.ownsRow base 45 2 v' (E.length + 1) (fc E ++ fc [(k, u)])) (hg : w.grownBy w' v.ownBlock) : OwnFs w' base v' (L ++ [(k, d)]) := by
  have keep : ∀ (z : Value) (l : List UInt8), Own8 w base z l → Own8 w' base z l := fun z l hz => hz.kept hg (by
    cases hzb : z.ownBlock with
    | none => exact .inl rfl
    | some g =>
      right
      intro e
      obtain ⟨cur, hc⟩ := rowBlk hz hzb
      obtain ⟨cur2, hc2⟩ := rowBlk h1 e.symm
      rw [hc] at hc2
      injection hc2 with e2
      injection e2 with _ e2
      exact absurd e2 (by decide))
  refine ⟨E ++ [(k, u)], by rw [List.length_append, fc_append]; exact ho', by rw [List.length_append, List.length_append, h2]; rfl, fun i e y he hy => ?_⟩
  by_cases hi : i < E.length
  · rw [List.getElem?_append_left hi] at he
    rw [List.getElem?_append_left (by omega)] at hy
    exact ⟨(h3 i e y he hy).1, keep _ _ (h3 i e y he hy).2⟩
  · have hlt := (List.getElem?_eq_some_iff.1 he).1
    rw [List.length_append] at hlt
    simp only [List.length_cons, List.length_nil] at hlt
    obtain rfl : i = E.length := by omega
    rw [List.getElem?_append_right (Nat.le_refl _)] at he
    rw [List.getElem?_append_right (by omega)] at hy
    simp only [Nat.sub_self, h2, List.getElem?_cons_zero, Option.some.injEq] at he hy
    subst he hy
    exact ⟨rfl, keep _ _ hu⟩
theorem src_file {w : World} {b c : Nat} {k : List UInt8} {u : Value} (hin : InE w (some ⟨b, 0, none⟩) [(k, u)]) (hone : u.oneCell' = true) : Src Tryd.prog 2 22 (.slice (some ⟨b, 0, none⟩) 1 c) 1 (fc [(k, u)]) w := by
  obtain ⟨b', o', e, hc⟩ := hin (by simp)
  obtain ⟨rfl, rfl⟩ : b = b' ∧ 0 = o' := by injection e with e; injection e with e1 e2; exact ⟨e1, e2⟩
  refine Src.ofSlice w Tryd.underlying22 ⟨b, 0, none⟩ 1 c (fc [(k, u)]) (by rw [fc_length]; rfl) (fun j z hz => ?_) (fc_one fun e he => by rw [List.mem_singleton.1 he]; exact hone)
  rw [Go.WideShapes.add_plain]; exact hc j z hz
section
variable {w : World}
/-- one file more -/
theorem wpList_appendFs {ops : Array Oper} {rest : List Oper} {o : Oper} {a : Act} {Q : Exit → Act → World → Prop} (hgd : o.guard = none) (s x : Operand)
    (ho : o.op = .call { callee := .builtin .append, args := #[s, x], argTypes := #[22, 22] })
    (base : Nat) (v : Value) (L : List FT) (hv : a.eval s = v) (hown : OwnFs w base v L)
    (b c : Nat) (k : List UInt8) (u : Value) (d : List UInt8) (hx : a.eval x = .slice (some ⟨b, 0, none⟩) 1 c) (hin : InE w (some ⟨b, 0, none⟩) [(k, u)]) (hu : Own8 w base u d)
    (hr : L.length ≤ 4500000000000) (hbase : base ≤ w.heap.size)
    (h : ∀ v' w', OwnFs w' base v' (L ++ [(k, d)]) → w.grownBy w' v.ownBlock → wpList Tryd.prog ops Q rest (a.put o.dst v') w') : wpList Tryd.prog ops Q (o :: rest) a w := by
  obtain ⟨E, h1, h2, h3⟩ := hown
  refine wpList_append_way w hgd s x 22 22 ho base 45 (.agg #[.string .empty, .slice none 0 0]) 2 40 Tryd.underlying22 infoF rfl v E.length (fc E) hv h1 _ 1 (fc [(k, u)]) hx (src_file hin hu.byteV.one) (by unfold maxLen; omega) (by omega) hbase ?_
  intro v' w' ho' hg _
  exact h v' w' (ownFs_snoc h1 h2 h3 hu ho' hg) hg
/-- the same, as a step of a region that draws -/
theorem step_appendFs {ops : Array Oper} {o : Oper} {a : Act} {K : Act → World → Prop} {Q : Exit → Act → World → Prop} {P : Prop} (hgd : o.guard = none) (s x : Operand)
    (ho : o.op = .call { callee := .builtin .append, args := #[s, x], argTypes := #[22, 22] })
    (base : Nat) (v : Value) (L : List FT) (hv : a.eval s = v) (hown : OwnFs w base v L)
    (b c : Nat) (k : List UInt8) (u : Value) (d : List UInt8) (hx : a.eval x = .slice (some ⟨b, 0, none⟩) 1 c) (hin : InE w (some ⟨b, 0, none⟩) [(k, u)]) (hu : Own8 w base u d)
    (hr : L.length ≤ 4500000000000) (hbase : base ≤ w.heap.size)
    (h : ∀ v' w', OwnFs w' base v' (L ++ [(k, d)]) → w.grownBy w' v.ownBlock → K (a.put o.dst v') w') :
    if Region.wanted o (yielded ops a.tmps) = true then Oper.wp Tryd.prog o a w K Q else P := by
  obtain ⟨E, h1, h2, h3⟩ := hown
  refine step_append_fit hgd s x 22 22 ho base 45 (.agg #[.string .empty, .slice none 0 0]) 2 40 Tryd.underlying22 infoF rfl v E.length (fc E) hv h1 _ 1 (fc [(k, u)]) hx (src_file hin hu.byteV.one) (by unfold maxLen; omega) (by omega) hbase ?_
  intro v' w' ho' hg
  exact h v' w' (ownFs_snoc h1 h2 h3 hu ho' hg) hg
end
end Go.Proofs.YtnhfnfdmpcpcoaaDoor

/-
  Arguments: files, numbers, a beginning, a fate, a script, rows of bytes; in the words of the walks.
-/
namespace Go.Proofs.YtnhfnfdmpcpcoaaDoor
open Go.ChangeShapes Go.WideShapes Go.ChangeAt Go.RowKit

theorem cellsB9 : Tryd.prog.cellsOf 26 = 1 := by kernel_rfl
theorem cellsS9 : Tryd.prog.cellsOf 9 = 1 := by kernel_rfl
theorem cellsI9 : Tryd.prog.cellsOf 3 = 1 := by kernel_rfl
theorem cellsIs9 : Tryd.prog.cellsOf 23 = 1 := by kernel_rfl
theorem cellsFs9 : Tryd.prog.cellsOf 22 = 1 := by kernel_rfl
theorem cellsF9 : Tryd.prog.cellsOf 45 = 2 := by kernel_rfl
theorem cellsO9 : Tryd.prog.cellsOf 57 = 4 := by kernel_rfl
theorem cellsSt9 : Tryd.prog.cellsOf 25 = 4 := by kernel_rfl
theorem cellsFa9 : Tryd.prog.cellsOf 29 = 2 := by kernel_rfl

section
variable {H : Type} {enc : TypeId × Value → H} {W : World} {fuel : Nat} {cs : List Value} {d : DataW H} {ps : List MemPlace}
set_option maxRecDepth 100000 in
theorem open_bytesV (hf : DataW.trod enc Tryd.prog W 0 (fun _ => true) true fuel 26 cs = some (d, ps)) : ∃ v l, cs = [v] ∧ ByteV W v l ∧ l.length + 1 ≤ Rows.uptoBulk d := by
  rcases open_ints Tryd.underlying26 Tryd.underlying5 cells8 hf with ⟨hcs, hx⟩ | ⟨x, l, c, zs, hcs, _, hl, hm, hz, hx, hcell, hwz⟩
  · simp only [Prod.mk.injEq] at hx
    refine ⟨_, [], hcs, ⟨none, 0, rfl, fun _ => rfl, by unfold maxLen; simp, fun h => absurd h (by simp)⟩, ?_⟩
    rw [hx.1]
    simp [Rows.uptoBulk]
  · simp only [if_true] at hz
    simp only [Prod.mk.injEq] at hx
    have hlen : ((zs.take l).map ubyte).length = l := by simp; omega
    refine ⟨_, (zs.take l).map ubyte, hcs, ⟨some x, c, by rw [hlen], (fun e => by cases e), by rw [hlen]; omega, ?_⟩, ?_⟩
    · intro h0
      obtain ⟨b, o, s⟩ := x
      have hs : s = none := by simpa [Addr.add] using World.cell?_spot (hcell 0 (by omega))
      subst hs
      refine ⟨b, o, rfl, fun i hi => ?_⟩
      have hi2 : i < (zs.take l).length := by simpa using hi
      have := hcell i (by omega)
      rw [add_plain] at this
      rw [this, bt_of_ints _ (fun n hn => hwz n (List.mem_of_mem_take hn)) i hi2]
      simp only [List.getD_eq_getElem?_getD]
      rw [List.getElem?_take_of_lt (by omega)]
    · rw [hlen, hx.1]
      simp only [Rows.uptoBulk, bulk_lits, List.length_take, List.length_drop]
      omega
set_option maxRecDepth 100000 in
theorem open_intsC (hf : DataW.trod enc Tryd.prog W 0 (fun _ => true) true fuel 23 cs = some (d, ps)) : ∃ p Z c, cs = [.slice p (List.length Z) c] ∧ InV W p (Z.map (Value.int .i64)) ∧ Z.length + 1 ≤ Rows.uptoBulk d := by
  rcases open_ints Tryd.underlying23 Tryd.underlying3 cellsI9 hf with ⟨hcs, hx⟩ | ⟨x, l, c, zs, hcs, _, hl, hm, hz, hx, hcell, _⟩
  · simp only [Prod.mk.injEq] at hx
    exact ⟨none, [], 0, hcs, fun h => absurd h (by simp), by rw [hx.1]; simp [Rows.uptoBulk]⟩
  · simp only [if_true] at hz
    simp only [Prod.mk.injEq] at hx
    have hlen : (zs.take l).length = l := by simp; omega
    refine ⟨some x, zs.take l, c, by rw [hcs, hlen], ?_, ?_⟩
    · intro h0
      rw [List.length_map, hlen] at h0
      obtain ⟨b, o, s⟩ := x
      have hs : s = none := by simpa [Addr.add] using World.cell?_spot (hcell 0 (by omega))
      subst hs
      refine ⟨b, o, rfl, fun i hi => ?_⟩
      rw [List.length_map, hlen] at hi
      have := hcell i (by omega)
      rw [add_plain] at this
      rw [this, List.getElem_map, List.getElem_take]
      simp only [List.getD_eq_getElem?_getD]
      rw [List.getElem?_eq_getElem (by omega)]
      rfl
    · rw [hlen, hx.1]
      simp only [Rows.uptoBulk, bulk_lits, List.length_take, List.length_drop]
      omega

/-- what files weigh -/
def bulkFs (L : List FT) : Nat := (L.map fun x => x.1.length + x.2.length + 1).sum
theorem bulkAll_range {H : Type} (D : Nat → DataW H) (f : Nat → FT) : ∀ l : Nat, (∀ i, i < l → (f i).1.length + (f i).2.length + 1 ≤ Rows.uptoBulk (D i)) → bulkFs ((List.range l).map f) ≤ Rows.uptoBulkAll ((List.range l).map D)
  | 0, _ => by simp [bulkFs, Rows.uptoBulkAll]
  | l + 1, h => by
    have ih := bulkAll_range D f l fun i hi => h i (by omega)
    have h1 := h l (by omega)
    have e : ∀ (A B : List (DataW H)), Rows.uptoBulkAll (A ++ B) = Rows.uptoBulkAll A + Rows.uptoBulkAll B := by
      intro A B
      induction A with
      | nil => simp [Rows.uptoBulkAll]
      | cons x A ih => rw [List.cons_append]; simp only [Rows.uptoBulkAll, ih]; omega
    rw [List.range_succ, List.map_append, List.map_append, e]
    unfold bulkFs at ih ⊢
    rw [List.map_append, List.sum_append]
    simp only [List.map_cons, List.map_nil, List.sum_cons, List.sum_nil, Rows.uptoBulkAll]
    omega
theorem bulkFs_length (L : List FT) : L.length ≤ bulkFs L := by
  induction L with
  | nil => simp [bulkFs]
  | cons x L ih => unfold bulkFs at ih ⊢; simp only [List.map_cons, List.sum_cons, List.length_cons]; omega
theorem bulkFs_mem (L : List FT) : ∀ x ∈ L, x.1.length + x.2.length ≤ bulkFs L := by
  induction L with
  | nil => simp
  | cons y L ih =>
    intro x hx
    unfold bulkFs at ih ⊢
    simp only [List.map_cons, List.sum_cons]
    rcases List.mem_cons.1 hx with rfl | hx
    · omega
    · have := ih x hx; omega
theorem bulkFs_sum (L : List FT) : (L.map fun x => x.2.length).sum ≤ bulkFs L := by
  induction L with
  | nil => simp [bulkFs]
  | cons y L ih =>
    unfold bulkFs at ih ⊢
    simp only [List.map_cons, List.sum_cons]
    omega
theorem fc_at (E : List (List UInt8 × Value)) (j : Nat) (v : Value) (h : (fc E)[j]? = some v) : ∃ i, ∃ hi : i < E.length, (j = i * 2 ∧ v = .string ⟨E[i].1.toArray⟩) ∨ (j = i * 2 + 1 ∧ v = E[i].2) := by
  have hl := (List.getElem?_eq_some_iff.1 h).1
  rw [fc_length] at hl
  have hi : j / 2 < E.length := by omega
  obtain ⟨h1, h2⟩ := fc_get E (j / 2) hi
  refine ⟨j / 2, hi, ?_⟩
  rcases Nat.mod_two_eq_zero_or_one j with hm | hm
  · left
    have ej : j = j / 2 * 2 := by omega
    refine ⟨ej, ?_⟩
    rw [← ej, h] at h1
    exact Option.some.inj h1
  · right
    have ej : j = j / 2 * 2 + 1 := by omega
    refine ⟨ej, ?_⟩
    rw [← ej, h] at h2
    exact Option.some.inj h2
set_option maxRecDepth 100000 in
theorem open_filesC (hf : DataW.trod enc Tryd.prog W 0 (fun _ => true) true fuel 22 cs = some (d, ps)) : ∃ p L c, cs = [.slice p (List.length L) c] ∧ InFs W p L ∧ bulkFs L + 1 ≤ Rows.uptoBulk d := by
  rcases Go.Deep.open_slice_pairs Tryd.underlying22 Tryd.underlying45 cellsF9 rfl rfl cellsS9 cellsB9 hf with ⟨hcs, hx⟩ | ⟨x, l, c, m, n, V0, V1, D0, D1, P0, P1, hcs, _, hl, hm, hmm, hx, hat⟩
  · simp only [Prod.mk.injEq] at hx
    refine ⟨none, [], 0, hcs, InFs.nil _ _, ?_⟩
    rw [hx.1]
    simp [Rows.uptoBulk, bulkFs]
  · simp only [if_true] at hmm
    subst hmm
    simp only [Prod.mk.injEq] at hx
    have each : ∀ i, i < m → ∃ q : ByteArray × List UInt8, V0 i = .string q.1 ∧ D0 i = .lit (.string q.1.data.toList) ∧ ByteV W (V1 i) q.2 ∧ q.2.length + 1 ≤ Rows.uptoBulk (D1 i) := by
      intro i hi
      obtain ⟨_, _, h0, h1⟩ := hat i hi
      obtain ⟨s, e1, e2, z⟩ := DataW.trod_string Tryd.underlying9 h0
      obtain ⟨v, b, e3, e4, e5⟩ := open_bytesV h1
      simp only [Prod.mk.injEq] at e2
      simp only [List.cons.injEq, and_true] at e1 e3
      exact ⟨(s, b), e1, e2.1, by rw [e3]; exact e4, e5⟩
    obtain ⟨q, hq⟩ := Go.Deep.choose_lt each
    have hlen : ((List.range l).map fun i => (((q i).1.data.toList, (q i).2) : FT)).length = l := by simp
    refine ⟨some x, (List.range l).map fun i => ((q i).1.data.toList, (q i).2), m, by rw [hlen]; exact hcs, ⟨(List.range l).map fun i => ((q i).1.data.toList, V1 i), ?_, by simp, ?_⟩, ?_⟩
    · intro h0
      have h0 : 0 < l := by simpa using h0
      obtain ⟨b, o, s⟩ := x
      have hs : s = none := by simpa [Addr.add] using World.cell?_spot (hat 0 (by omega)).1
      subst hs
      refine ⟨b, o, rfl, fun j v hv => ?_⟩
      obtain ⟨i, hi, h2⟩ := fc_at _ j v hv
      have hi : i < l := by simpa using hi
      obtain ⟨c0, c1, _, _⟩ := hat i (by omega)
      obtain ⟨e0, _⟩ := hq i (by omega)
      rw [add_plain] at c0 c1
      simp only [List.getElem_map, List.getElem_range] at h2
      rcases h2 with ⟨rfl, rfl⟩ | ⟨rfl, rfl⟩
      · rw [c0, e0]
      · rw [← Nat.add_assoc] at c1 ⊢
        rw [c1]
    · intro i e y he hy
      have hi : i < l := by have := (List.getElem?_eq_some_iff.1 he).1; simpa using this
      rw [List.getElem?_map, List.getElem?_range hi] at he hy
      simp only [Option.map_some, Option.some.injEq] at he hy
      subst he hy
      exact ⟨rfl, (hq i (by omega)).2.2.1⟩
    · rw [hx.1]
      have := bulkAll_range (fun i => (.agg [D0 i, D1 i] : DataW H)) (fun i => ((q i).1.data.toList, (q i).2)) l fun i hi => by
        obtain ⟨_, e2, _, e4⟩ := hq i (by omega)
        simp only [Rows.uptoBulk, Rows.uptoBulkAll, e2]
        omega
      simp only [Rows.uptoBulk]
      omega
end

theorem array2 {α : Type} {cs : Array α} (h : cs.size = 2) : ∃ c0 c1, cs = #[c0, c1] := by
  obtain ⟨l⟩ := cs
  match l, h with
  | [c0, c1], _ => exact ⟨c0, c1, rfl⟩
theorem array4 {α : Type} {cs : Array α} (h : cs.size = 4) : ∃ c0 c1 c2 c3, cs = #[c0, c1, c2, c3] := by
  obtain ⟨l⟩ := cs
  match l, h with
  | [c0, c1, c2, c3], _ => exact ⟨c0, c1, c2, c3, rfl⟩
set_option maxRecDepth 100000 in
theorem open_fate {H : Type} {enc : TypeId × Value → H} {W : World} {r : Reach} {b0 : Nat} {v : Value} {d : DataW H} {ps : List MemPlace}
    (hv : Value.okWide Tryd.prog W r b0 29 v) (h : DataW.Trod enc Tryd.prog W 0 (fun _ => true) true 29 v d ps) :
    ∃ (n : Int) (p : Option Addr) (K : List Int) (c : Nat), v = .agg #[.int .i64 n, .slice p K.length c] ∧ InV W p (K.map (Value.int .i64)) ∧ K.length ≤ Rows.uptoBulk d := by
  obtain ⟨cs, rfl, hsz⟩ := okWide_struct Tryd.underlying29 hv
  obtain ⟨c0, c1, rfl⟩ := array2 (hsz.trans cellsFa9)
  obtain ⟨fuel, hf⟩ := h
  obtain ⟨xs, n, _, hx, _, hlen, hat⟩ := DataW.trod_struct Tryd.underlying29 hf
  match xs, hlen with
  | [y0, y1], _ =>
    have h0 := hat 0 _ rfl
    have h1 := hat 1 _ rfl
    simp [Value.cells, cellsI9, cellsIs9] at h0 h1
    obtain ⟨a, e0, rfl, _⟩ := DataW.trod_int Tryd.underlying3 h0
    obtain ⟨y10, y11⟩ := y1
    obtain ⟨p, Z, c, e1, hin, hb⟩ := open_intsC h1
    simp at e0 e1
    subst e0 e1
    refine ⟨a, p, Z, c, rfl, hin, ?_⟩
    simp only [Prod.mk.injEq] at hx
    rw [hx.1]
    simp only [List.map_cons, List.map_nil, Rows.uptoBulk, Rows.uptoBulkAll]
    omega
set_option maxRecDepth 100000 in
theorem open_start {H : Type} {enc : TypeId × Value → H} {W : World} {r : Reach} {b0 : Nat} {v : Value} {d : DataW H} {ps : List MemPlace}
    (hv : Value.okWide Tryd.prog W r b0 25 v) (h : DataW.Trod enc Tryd.prog W 0 (fun _ => true) true 25 v d ps) :
    ∃ (p : Option Addr) (F : List FT) (c : Nat) (room : Int) (q : Option Addr) (Z : List Int) (e : Nat) (power : Int), v = .agg #[.slice p F.length c, .int .i64 room, .slice q Z.length e, .int .i64 power] ∧ InFs W p F ∧ InV W q (Z.map (Value.int .i64)) ∧ bulkFs F + Z.length ≤ Rows.uptoBulk d := by
  obtain ⟨cs, rfl, hsz⟩ := okWide_struct Tryd.underlying25 hv
  obtain ⟨c0, c1, c2, c3, rfl⟩ := array4 (hsz.trans cellsSt9)
  obtain ⟨fuel, hf⟩ := h
  obtain ⟨xs, n, _, hx, _, hlen, hat⟩ := DataW.trod_struct Tryd.underlying25 hf
  match xs, hlen with
  | [y0, y1, y2, y3], _ =>
    have h0 := hat 0 _ rfl
    have h1 := hat 1 _ rfl
    have h2 := hat 2 _ rfl
    have h3 := hat 3 _ rfl
    simp [Value.cells, cellsI9, cellsIs9, cellsFs9] at h0 h1 h2 h3
    obtain ⟨y00, y01⟩ := y0
    obtain ⟨p, F, c, e0, hin0, hb0⟩ := open_filesC h0
    obtain ⟨a, e1, rfl, _⟩ := DataW.trod_int Tryd.underlying3 h1
    obtain ⟨y20, y21⟩ := y2
    obtain ⟨q, Z, e, e2, hin2, hb2⟩ := open_intsC h2
    obtain ⟨g, e3, rfl, _⟩ := DataW.trod_int Tryd.underlying3 h3
    simp at e0 e1 e2 e3
    subst e0 e1 e2 e3
    refine ⟨p, F, c, a, q, Z, e, g, rfl, hin0, hin2, ?_⟩
    simp only [Prod.mk.injEq] at hx
    rw [hx.1]
    simp only [List.map_cons, List.map_nil, Rows.uptoBulk, Rows.uptoBulkAll]
    omega
end Go.Proofs.YtnhfnfdmpcpcoaaDoor

/-
  Arguments: a script of steps, rows of bytes; in the words of the walks.
-/
namespace Go.Proofs.YtnhfnfdmpcpcoaaDoor
open Go.ChangeShapes Go.WideShapes Go.ChangeAt Go.RowKit

abbrev OpT := Int × List UInt8 × List UInt8 × List UInt8
def InOps (w : World) (p : Option Addr) (L : List OpT) : Prop :=
  ∀ k, (hk : k < L.length) → ∃ b o, p = some ⟨b, o, none⟩ ∧ ∃ (na nb : ByteArray) (q : Option Addr) (c : Nat), w.cell? ⟨b, o + k * 4, none⟩ = some (.int .i64 L[k].1) ∧ w.cell? ⟨b, o + k * 4 + 1, none⟩ = some (.string na) ∧ w.cell? ⟨b, o + k * 4 + 2, none⟩ = some (.string nb) ∧ w.cell? ⟨b, o + k * 4 + 3, none⟩ = some (.slice q L[k].2.2.2.length c) ∧
    na.data.toList = L[k].2.1 ∧ nb.data.toList = L[k].2.2.1 ∧ In8 w q L[k].2.2.2
theorem InOps.below {w w' : World} {p : Option Addr} {L : List OpT} (h : InOps w p L) (hb : Below w.heap.size w w') : InOps w' p L := by
  intro k hk
  obtain ⟨b, o, e, na, nb, q, c, h1, h2, h3, h4, h5, h6, h7⟩ := h k hk
  exact ⟨b, o, e, na, nb, q, c, (hb.cell (World.block_lt_of_cell? w _ h1)).trans h1, (hb.cell (World.block_lt_of_cell? w _ h2)).trans h2, (hb.cell (World.block_lt_of_cell? w _ h3)).trans h3, (hb.cell (World.block_lt_of_cell? w _ h4)).trans h4, h5, h6, h7.below hb⟩
theorem InOps.take {w : World} {p : Option Addr} {L : List OpT} (h : InOps w p L) (m : Nat) : InOps w p (L.take m) := by
  intro k hk
  have hk2 : k < L.length := by rw [List.length_take] at hk; omega
  have := h k hk2
  rw [List.getElem_take]
  exact this
def bulkOps (L : List OpT) : Nat := (L.map fun x => x.2.1.length + x.2.2.1.length + x.2.2.2.length + 1).sum
theorem bulkOps_mem (L : List OpT) : ∀ x ∈ L, x.2.1.length + x.2.2.1.length + x.2.2.2.length ≤ bulkOps L := by
  induction L with
  | nil => simp
  | cons y L ih =>
    intro x hx
    unfold bulkOps at ih ⊢
    simp only [List.map_cons, List.sum_cons]
    rcases List.mem_cons.1 hx with rfl | hx
    · omega
    · have := ih x hx; omega
theorem bulkOps_length (L : List OpT) : L.length ≤ bulkOps L := by
  induction L with
  | nil => simp [bulkOps]
  | cons x L ih => unfold bulkOps at ih ⊢; simp only [List.map_cons, List.sum_cons, List.length_cons]; omega
theorem bulkAll_app {H : Type} (A B : List (DataW H)) : Rows.uptoBulkAll (A ++ B) = Rows.uptoBulkAll A + Rows.uptoBulkAll B := by
  induction A with
  | nil => simp [Rows.uptoBulkAll]
  | cons x A ih => rw [List.cons_append]; simp only [Rows.uptoBulkAll, ih]; omega
theorem bulkAll_sum {H : Type} {α : Type} (D : Nat → DataW H) (f : Nat → α) (g : α → Nat) : ∀ l : Nat, (∀ i, i < l → g (f i) ≤ Rows.uptoBulk (D i)) → (((List.range l).map f).map g).sum ≤ Rows.uptoBulkAll ((List.range l).map D)
  | 0, _ => by simp
  | l + 1, h => by
    have ih := bulkAll_sum D f g l fun i hi => h i (by omega)
    have h1 := h l (by omega)
    rw [List.range_succ, List.map_append, List.map_append, List.map_append, bulkAll_app, List.sum_append]
    simp only [List.map_cons, List.map_nil, List.sum_cons, List.sum_nil, Rows.uptoBulkAll]
    omega
set_option maxRecDepth 100000 in
theorem open_ops {H : Type} {enc : TypeId × Value → H} {W : World} {r : Reach} {b0 : Nat} {v : Value} {d : DataW H} {ps : List MemPlace}
    (hv : Value.okWide Tryd.prog W r b0 48 v) (h : DataW.Trod enc Tryd.prog W 0 (fun _ => true) true 48 v d ps) :
    ∃ (p : Option Addr) (L : List OpT) (c : Nat), v = .slice p L.length c ∧ InOps W p L ∧ bulkOps L ≤ Rows.uptoBulk d ∧ L.length ≤ c := by
  obtain ⟨a0, len, cap, rfl⟩ := okWide_slice Tryd.underlying48 hv
  obtain ⟨fuel, hf⟩ := h
  rcases Go.Deep.open_slice Tryd.underlying48 hf with ⟨hcs, hx⟩ | ⟨x, l, c, m, n, D, Pl, hcs, _, hl, hm, hmm, hx, hat⟩
  · simp [Value.cells] at hcs
    obtain ⟨rfl, rfl, rfl⟩ := hcs
    exact ⟨none, [], 0, rfl, fun k hk => absurd hk (by simp), by simp [bulkOps], Nat.le_refl _⟩
  · simp [Value.cells] at hcs
    obtain ⟨rfl, rfl, rfl⟩ := hcs
    simp only [if_true] at hmm
    subst hmm
    simp only [Prod.mk.injEq] at hx
    have each : ∀ i, i < m → ∃ q : (Int × ByteArray × ByteArray) × (Option Addr × Nat × List UInt8), W.cell? (x.add (i * 4)) = some (.int .i64 q.1.1) ∧ W.cell? (x.add (i * 4 + 1)) = some (.string q.1.2.1) ∧ W.cell? (x.add (i * 4 + 2)) = some (.string q.1.2.2) ∧ W.cell? (x.add (i * 4 + 3)) = some (.slice q.2.1 q.2.2.2.length q.2.2.1) ∧ In8 W q.2.1 q.2.2.2 ∧ q.1.2.1.data.toList.length + q.1.2.2.data.toList.length + q.2.2.2.length + 1 ≤ Rows.uptoBulk (D i) := by
      intro i hi
      obtain ⟨cs', h1, h2⟩ := hat i hi
      rw [cellsO9] at h1
      obtain ⟨_, hlen, hcell⟩ := World.cells?_some h1
      obtain ⟨xs, k, hk, hxy, _, hxl, hat2⟩ := DataW.trod_struct Tryd.underlying57 h2
      match xs, hxl, cs', hlen with
      | [y0, y1, y2, y3], _, [v0, v1, v2, v3], _ =>
        have g0 := hat2 0 _ rfl
        have g1 := hat2 1 _ rfl
        have g2 := hat2 2 _ rfl
        have g3 := hat2 3 _ rfl
        simp [cellsI9, cellsS9, cellsB9] at g0 g1 g2 g3
        have e0 := hcell 0 (by omega)
        have e1 := hcell 1 (by omega)
        have e2 := hcell 2 (by omega)
        have e3 := hcell 3 (by omega)
        rw [Go.Deep.add_add] at e0 e1 e2 e3
        obtain ⟨a, f0, rfl, _⟩ := DataW.trod_int Tryd.underlying3 g0
        obtain ⟨na, f1, rfl, _⟩ := DataW.trod_string Tryd.underlying9 g1
        obtain ⟨nb, f2, rfl, _⟩ := DataW.trod_string Tryd.underlying9 g2
        obtain ⟨y30, y31⟩ := y3
        obtain ⟨vv, b, f3, ⟨q, cq, f4, _, _, f5⟩, f6⟩ := open_bytesV g3
        simp at f0 f1 f2 f3
        subst f0 f1 f2 f3
        rw [f4] at e3
        refine ⟨((a, na, nb), (q, cq, b)), by simpa using e0, by simpa using e1, by simpa using e2, by simpa using e3, f5, ?_⟩
        simp only [Prod.mk.injEq] at hxy
        rw [hxy.1]
        simp only [List.map_cons, List.map_nil, Rows.uptoBulk, Rows.uptoBulkAll]
        omega
    obtain ⟨q, hq⟩ := Go.Deep.choose_lt each
    have hlen : ((List.range len).map fun i => (((q i).1.1, (q i).1.2.1.data.toList, (q i).1.2.2.data.toList, (q i).2.2.2) : OpT)).length = len := by simp
    refine ⟨some x, (List.range len).map fun i => ((q i).1.1, (q i).1.2.1.data.toList, (q i).1.2.2.data.toList, (q i).2.2.2), _, by rw [hlen], ?_, ?_, by rw [hlen]; exact hl⟩
    · intro k hk
      have hk2 : k < len := by rw [hlen] at hk; exact hk
      obtain ⟨b, o, s⟩ := x
      have hs : s = none := by simpa [Addr.add] using World.cell?_spot (hq 0 (by omega)).1
      subst hs
      obtain ⟨c0, c1, c2, c3, c4, _⟩ := hq k (by omega)
      rw [add_plain] at c0 c1 c2 c3
      rw [← Nat.add_assoc] at c1 c2 c3
      simp only [List.getElem_map, List.getElem_range]
      exact ⟨b, o, rfl, _, _, _, _, c0, c1, c2, c3, rfl, rfl, c4⟩
    · rw [hx.1]
      have := bulkAll_sum D (fun i => (((q i).1.1, (q i).1.2.1.data.toList, (q i).1.2.2.data.toList, (q i).2.2.2) : OpT)) (fun x => x.2.1.length + x.2.2.1.length + x.2.2.2.length + 1) len fun i hi => (hq i (by omega)).2.2.2.2.2
      refine Nat.le_trans this ?_
      simp only [Rows.uptoBulk]
      omega

def InBs (w : World) (p : Option Addr) (L : List (List UInt8)) : Prop :=
  ∀ k, (hk : k < L.length) → ∃ b o, p = some ⟨b, o, none⟩ ∧ ∃ (q : Option Addr) (c : Nat), w.cell? ⟨b, o + k, none⟩ = some (.slice q L[k].length c) ∧ In8 w q L[k]
theorem InBs.below {w w' : World} {p : Option Addr} {L : List (List UInt8)} (h : InBs w p L) (hb : Below w.heap.size w w') : InBs w' p L := by
  intro k hk
  obtain ⟨b, o, e, q, c, h1, h2⟩ := h k hk
  exact ⟨b, o, e, q, c, (hb.cell (World.block_lt_of_cell? w _ h1)).trans h1, h2.below hb⟩
def bulkBs (L : List (List UInt8)) : Nat := (L.map fun x => x.length + 1).sum
theorem bulkBs_mem (L : List (List UInt8)) : ∀ x ∈ L, x.length ≤ bulkBs L := by
  induction L with
  | nil => simp
  | cons y L ih =>
    intro x hx
    unfold bulkBs at ih ⊢
    simp only [List.map_cons, List.sum_cons]
    rcases List.mem_cons.1 hx with rfl | hx
    · omega
    · have := ih x hx; omega
theorem bulkBs_length (L : List (List UInt8)) : L.length ≤ bulkBs L := by
  induction L with
  | nil => simp [bulkBs]
  | cons x L ih => unfold bulkBs at ih ⊢; simp only [List.map_cons, List.sum_cons, List.length_cons]; omega
set_option maxRecDepth 100000 in
theorem open_rowsB {H : Type} {enc : TypeId × Value → H} {W : World} {r : Reach} {b0 : Nat} {v : Value} {d : DataW H} {ps : List MemPlace}
    (hv : Value.okWide Tryd.prog W r b0 27 v) (h : DataW.Trod enc Tryd.prog W 0 (fun _ => true) true 27 v d ps) :
    ∃ (p : Option Addr) (L : List (List UInt8)) (c : Nat), v = .slice p L.length c ∧ InBs W p L ∧ bulkBs L ≤ Rows.uptoBulk d := by
  obtain ⟨a0, len, cap, rfl⟩ := okWide_slice Tryd.underlying27 hv
  obtain ⟨fuel, hf⟩ := h
  rcases Go.Deep.open_slice1 Tryd.underlying27 cellsB9 hf with ⟨hcs, hx⟩ | ⟨x, l, c, m, n, V, D, Pl, hcs, _, hl, hm, hmm, hx, hat⟩
  · simp [Value.cells] at hcs
    obtain ⟨rfl, rfl, rfl⟩ := hcs
    exact ⟨none, [], 0, rfl, fun k hk => absurd hk (by simp), by simp [bulkBs]⟩
  · simp [Value.cells] at hcs
    obtain ⟨rfl, rfl, rfl⟩ := hcs
    simp only [if_true] at hmm
    subst hmm
    simp only [Prod.mk.injEq] at hx
    have each : ∀ i, i < m → ∃ q : Option Addr × Nat × List UInt8, W.cell? (x.add i) = some (.slice q.1 q.2.2.length q.2.1) ∧ In8 W q.1 q.2.2 ∧ q.2.2.length + 1 ≤ Rows.uptoBulk (D i) := by
      intro i hi
      obtain ⟨h1, h2⟩ := hat i hi
      obtain ⟨vv, b, f3, ⟨q, cq, f4, _, _, f5⟩, f6⟩ := open_bytesV h2
      simp at f3
      rw [f3, f4] at h1
      exact ⟨(q, cq, b), h1, f5, f6⟩
    obtain ⟨q, hq⟩ := Go.Deep.choose_lt each
    have hlen : ((List.range len).map fun i => (q i).2.2).length = len := by simp
    refine ⟨some x, (List.range len).map fun i => (q i).2.2, _, by rw [hlen], ?_, ?_⟩
    · intro k hk
      have hk2 : k < len := by rw [hlen] at hk; exact hk
      obtain ⟨b, o, s⟩ := x
      have hs : s = none := by simpa [Addr.add] using World.cell?_spot (hq 0 (by omega)).1
      subst hs
      obtain ⟨c0, c1, _⟩ := hq k (by omega)
      rw [add_plain] at c0
      simp only [List.getElem_map, List.getElem_range]
      exact ⟨b, o, rfl, _, _, c0, c1⟩
    · rw [hx.1]
      have := bulkAll_sum D (fun i => (q i).2.2) (fun x => x.length + 1) len fun i hi => (hq i (by omega)).2.2
      refine Nat.le_trans this ?_
      simp only [Rows.uptoBulk]
      omega
end Go.Proofs.YtnhfnfdmpcpcoaaDoor

/-
  begin: a step is counted, its names are looked at.
-/
namespace Go.Proofs.YtnhfnfdmpcpcoaaDoor
open Go.RowKit Go.Maps

def badN (l : List UInt8) : Bool := !goodN l
theorem begin1_any (s : ByteArray) (w : World) (hs : s.size ≤ 140737488351232) :
    Calls Tryd.prog 60 #[.string s] w fun e w' => e = .returned (.bool (badN s.data.toList)) ∧ Below w.heap.size w w' := by
  go_enter Tryd.func60, Tryd.ntmps60
  go_wp2_with fail
  refine (good_any s w hs).mono ?_
  rintro e w1 ⟨rfl, hb1⟩
  go_wp2_with fail
  go_ret
  exact ⟨rfl, hb1⟩

set_option maxHeartbeats 2000000 in
theorem indexBad_any (L : List (List UInt8)) (q : Option Addr) (n c : Nat) (hn : L.length = n) (hm : n ≤ 1000000) (hsz : ∀ x ∈ L, x.length ≤ 140737488351232) (w : World) (h : InS w q L) :
    Calls Tryd.prog 69 #[.slice q n c, .func (.func 60) #[] #[]] w fun e w' => ∃ i : Int, e = .returned (.int .i64 i) ∧ decide (0 ≤ i) = L.any badN ∧ -1 ≤ i ∧ i ≤ 1000000 ∧ Below w.heap.size w w' := by
  subst hn
  have HSZ := Lib.hid hsz
  clear hsz
  go_enter Tryd.func69, Tryd.ntmps69
  go_wp2_with fail
  go_loopw [8] (fun i wr => ∃ k : Nat, k ≤ L.length ∧ i = .int .i64 k ∧ (L.take k).any badN = false ∧ Below w.heap.size w wr) (fun i _ => L.length - (intOf i).toNat)
  case atStart => exact ⟨0, Nat.zero_le _, rfl, by simp, Below.refl _ _⟩
  case round =>
    obtain ⟨k, hk, rfl, hno, hb⟩ := hrel
    have hbs := hb.size
    have HNO := Lib.hid hno
    clear hno
    by_cases hlt : k < L.length
    · obtain ⟨b, o, rfl, x, g1, g2⟩ := (h.below hb).at hlt
      have hxs : x.size ≤ 140737488351232 := by rw [← size_list, g2]; exact HSZ.out _ (List.getElem_mem hlt)
      have hcall := fun W => begin1_any x W hxs
      have HT : Hid ((L.take (k + 1)).any badN = badN x.data.toList) := by
        show (L.take (k + 1)).any badN = badN x.data.toList
        rw [List.take_succ_eq_append_getElem hlt, List.any_append, HNO.out, g2]
        simp
      have HM : Hid (x.data.toList ∈ L) := by show x.data.toList ∈ L; rw [g2]; exact List.getElem_mem hlt
      clear g2
      cases hbad : badN x.data.toList with
      | true =>
        rw [hbad] at hcall
        have HA := Lib.hid (show L.any badN = true from List.any_eq_true.2 ⟨_, HM.out, hbad⟩)
        clear hbad
        go_wp2_with fail
        refine (hcall _).mono ?_
        rintro e w1 ⟨rfl, hb1⟩
        go_wp2_with fail
        go_ret
        exact ⟨_, rfl, by rw [HA.out]; exact decide_eq_true (by omega), by omega, by omega, hb.trans (hb1.mono (by simpa using hbs))⟩
      | false =>
        rw [hbad] at hcall HT
        have HF := HT
        clear hbad
        go_wp2_with fail
        refine (hcall _).mono ?_
        rintro e w1 ⟨rfl, hb1⟩
        go_wp2_with fail
        go_roundw
        case rel => exact ⟨k + 1, by omega, by go_num, HF.out, hb.trans (hb1.mono (by simpa using hbs))⟩
        case measure => simp [intOf]; omega
    · obtain rfl : k = L.length := by omega
      have ha : L.any badN = false := by have := HNO.out; rwa [List.take_length] at this
      go_wp2_with fail
      go_ret
      exact ⟨_, rfl, by rw [ha]; rfl, by omega, by omega, hb⟩

set_option maxHeartbeats 1000000 in
theorem containsBad_any (L : List (List UInt8)) (q : Option Addr) (n c : Nat) (hn : L.length = n) (hm : n ≤ 1000000) (hsz : ∀ x ∈ L, x.length ≤ 140737488351232) (w : World) (h : InS w q L) :
    Calls Tryd.prog 59 #[.slice q n c, .func (.func 60) #[] #[]] w fun e w' => e = .returned (.bool (L.any badN)) ∧ Below w.heap.size w w' := by
  have hcall := indexBad_any L q n c hn hm hsz w h
  obtain ⟨bb, hbb⟩ : ∃ b, b = L.any badN := ⟨_, rfl⟩
  rw [← hbb] at hcall ⊢
  clear hbb
  go_enter Tryd.func59, Tryd.ntmps59
  go_wp2_with fail
  refine hcall.mono ?_
  rintro e w1 ⟨i, rfl, hi, _, _, hb1⟩
  clear hcall
  go_wp2_with fail
  go_ret
  exact ⟨by first | rfl | exact ret_bool hi, hb1⟩
end Go.Proofs.YtnhfnfdmpcpcoaaDoor

/-
  begin, of a disk.
-/
namespace Go.Proofs.YtnhfnfdmpcpcoaaDoor
open Go.RowKit Go.Maps

def beginE (S : DiskC) (L : List (List UInt8)) : Int := if downS S = true then 93 else if S.fails.contains ((S.steps : Int) + 1) = true then 94 else if L.any badN = true then 95 else 0
def beginS (S : DiskC) : DiskC := if downS S = true then S else { S with steps := S.steps + 1 }

theorem containsI_any {w : World} {p : Option Addr} {zs : List Int} {n c : Nat} (x : Int) (hn : zs.length = n) (hm : n ≤ 17592186043904) (h : InV w p (zs.map (Value.int .i64))) :
    Calls Tryd.prog 58 #[.slice p n c, .int .i64 x] w fun e w' => e = .returned (.bool (zs.contains x)) ∧ w' = w := by
  subst hn
  cases zs with
  | nil =>
    refine (Tryd.slices_Contains_int_empty p c x w).mono ?_
    rintro e w' ⟨rfl, rfl⟩
    exact ⟨by simp, rfl⟩
  | cons y r =>
    obtain ⟨b, o, rfl, hall⟩ := InV.at h (k := 0) (by simp)
    have := Tryd.slices_Contains_int b o (y :: r).length c (y :: r) x w (Nat.le_refl _) (by omega) (fun j hj => by
      rw [hall j (by simpa using hj), List.getElem_map, List.getD_eq_getElem?_getD, List.getElem?_eq_getElem hj]; rfl)
    rw [List.take_length] at this
    exact this

theorem DiskAt.pvForm {w : World} {P : Nat → Prop} {dd : Nat} {S : DiskC} (h : DiskAt w P dd S) : ∃ a c, S.pv = .slice a S.pend.length c := by
  rcases h.row.2 with ⟨h1, h2⟩ | ⟨g, cap, cur, h1, _⟩
  · exact ⟨none, 0, by rw [h1, h2]⟩
  · exact ⟨_, _, h1⟩
/-- texts lie in another block than the disk's -/
theorem DiskAt.noText {w : World} {P : Nat → Prop} {dd : Nat} {S : DiskC} (h : DiskAt w P dd S) {o : Nat} {x : ByteArray} (hc : w.cell? ⟨dd, o, none⟩ = some (.string x)) : False := by
  obtain ⟨a, c, hp⟩ := h.pvForm
  rw [h.cell o] at hc
  unfold diskCells at hc
  rw [hp, h.fails.1] at hc
  match o, hc with
  | 0, hc => simp at hc
  | 1, hc => simp at hc
  | 2, hc => simp at hc
  | 3, hc => simp at hc
  | 4, hc => simp at hc
  | 5, hc => simp at hc
  | 6, hc => simp at hc
  | 7, hc => simp at hc
  | o + 8, hc => simp at hc
theorem DiskAt.textElse {w w' : World} {P : Nat → Prop} {dd : Nat} {S : DiskC} (h : DiskAt w P dd S) (hE : Else w w' dd) {q : Option Addr} {L : List (List UInt8)} (hq : InS w q L) : InS w' q L := by
  refine invElse hq hE fun a ha h0 e => ?_
  obtain ⟨b, o, rfl, hc⟩ := hq h0
  obtain rfl := Option.some.inj ha
  have := hc 0 h0
  rw [show (tx L)[0] = .string ⟨(L[0]'(by rw [tx_length] at h0; exact h0)).toArray⟩ by simp [tx]] at this
  simp only at e
  subst e
  exact h.noText this

theorem quietL {P : Program} {f : FuncId} {args : Array Value} {w : World} {n : Nat} {v : Value}
    (h : Calls P f args (w.drewN n) fun e w' => e = .returned v ∧ w' = w.drewN n) : Calls P f args (w.drewN n) fun e w'' => e = .returned v ∧ ∃ m, w'' = w.drewN m :=
  h.mono fun _ _ ⟨he, hm⟩ => ⟨he, n, hm⟩

set_option maxHeartbeats 4000000 in
theorem begin_any {w : World} {P : Nat → Prop} {dd : Nat} {S : DiskC} (h : DiskAt w P dd S) (L : List (List UInt8)) (q : Option Addr) (n c : Nat) (hn : L.length = n) (hm : n ≤ 1000) (hsz : ∀ x ∈ L, x.length ≤ 140737488351232) (hq : InS w q L) (hst : S.steps ≤ 1000000) (hfl : S.fails.length ≤ 17592186043904) :
    Calls Tryd.prog 42 #[.pointer (some ⟨dd, 0, none⟩), .slice q n c] w fun e w' => e = .returned (.int .i64 (beginE S L)) ∧ DiskAt w' P dd (beginS S) ∧ Only (fun g => g = dd) w w' := by
  have hdown := down_any h
  cases hd : downS S with
  | true =>
    rw [hd] at hdown
    have HE := Lib.hid (show beginE S L = 93 by unfold beginE; rw [if_pos hd])
    have HS := Lib.hid (show beginS S = S by unfold beginS; rw [if_pos hd])
    clear hd
    go_enter Tryd.func42, Tryd.ntmps42
    go_wp2_with fail
    refine hdown.mono ?_
    rintro e w1 ⟨rfl, hb1⟩
    clear hdown
    go_wp2_with fail
    go_ret
    refine ⟨by rw [HE.out]; rfl, by rw [HS.out]; exact h.below hb1, ⟨hb1.os, hb1.tape, hb1.output, hb1.size, fun k hk _ => hb1.block k hk⟩⟩
  | false =>
    rw [hd] at hdown
    have HE := Lib.hid (show beginE S L = if S.fails.contains ((S.steps : Int) + 1) = true then 94 else if L.any badN = true then 95 else 0 by unfold beginE; rw [if_neg (by rw [hd]; simp)])
    have HS := Lib.hid (show beginS S = { S with steps := S.steps + 1 } by unfold beginS; rw [if_neg (by rw [hd]; simp)])
    clear hd
    go_enter Tryd.func42, Tryd.ntmps42
    go_wp2_with fail
    refine hdown.mono ?_
    rintro e w1 ⟨rfl, hb1⟩
    clear hdown
    have h1 := h.below hb1
    have c7 : w1.cell? ⟨dd, 7, none⟩ = some (.int .i64 S.steps) := h1.cell 7
    have c5 : w1.cell? ⟨dd, 5, none⟩ = some S.fv := h1.cell 5
    have f7 := h1.unfrozen 7
    rw [h.fails.1] at c5
    obtain ⟨wb, hwb⟩ : ∃ W0, W0 = w1.setCell ⟨dd, 7, none⟩ (.int .i64 ((S.steps : Int) + 1)) := ⟨_, rfl⟩
    have hblk : wb.heap[dd]? = some (.cells (diskCells { S with steps := S.steps + 1 }) 79 (0, 0)) := by
      rw [hwb]
      simp only [World.setCell, Array.getElem?_modify, h1.blk]
      simp [diskCells]
    have hE : Else w1 wb dd := by
      intro g hg
      rw [hwb]
      exact Below.heap_setCell _ _ _ _ hg
    have hwbs : wb.heap.size = w1.heap.size := by rw [hwb]; simp [World.setCell]
    have h2 : DiskAt wb P dd { S with steps := S.steps + 1 } := h1.setSteps hblk hE
    have hqb : InS wb q L := h1.textElse hE (hq.below hb1)
    have hon : Only (fun g => g = dd) w wb := by
      refine ⟨?_, ?_, ?_, by have := hb1.size; omega, fun k hk hne => (hE k hne).trans (hb1.block k hk)⟩
      · rw [hwb]; exact hb1.os
      · rw [hwb]; exact hb1.tape
      · rw [hwb]; exact hb1.output
    have d5 : wb.cell? ⟨dd, 5, none⟩ = some (.slice S.fp S.fails.length S.fc) := by have := h2.cell 5; rw [this]; exact congrArg some h.fails.1
    have d7 : wb.cell? ⟨dd, 7, none⟩ = some (.int .i64 ((S.steps : Int) + 1)) := by have := h2.cell 7; rw [this]; rfl
    have HC := Lib.hid (fun (m : Nat) => containsI_any (c := S.fc) ((S.steps : Int) + 1) rfl hfl (w := wb.drewN m) h2.fails.2.1)
    have HWB := Lib.hid hwb
    have H2 := Lib.hid h2
    have HON := Lib.hid hon
    clear hwb hblk hE h2 hon
    cases hf : S.fails.contains ((S.steps : Int) + 1) with
    | true =>
      rw [hf] at HC
      have HR := Lib.hid (show beginE S L = 94 by rw [HE.out, if_pos hf])
      clear hf
      go_wp2_with fail
      rw [← HWB.out]
      go_quiet ((go_at_call 58; exact quietL (HC.out _)))
      go_wp2_with fail
      go_ret
      exact ⟨by rw [HR.out]; rfl, by rw [HS.out]; exact H2.out.below (bdrewN (Below.refl _ _) _), HON.out.drewN _⟩
    | false =>
      rw [hf] at HC
      have HR := Lib.hid (show beginE S L = if L.any badN = true then 95 else 0 by rw [HE.out, if_neg (by rw [hf]; simp)])
      clear hf
      have HB := Lib.hid (fun m => containsBad_any L q n c hn (by omega) hsz (wb.drewN m) (hqb.drewN m))
      go_wp2_with fail
      rw [← HWB.out]
      go_quiet ((go_at_call 58; exact quietL (HC.out _)))
      go_wp2_with fail
      refine (HB.out _).mono ?_
      rintro e w3 ⟨rfl, hb3⟩
      have hb3' : Below wb.heap.size wb w3 := (bdrewN (Below.refl _ wb) _).trans hb3
      have h3 := H2.out.below hb3'
      have hon3 : Only (fun g => g = dd) w w3 := ⟨hb3'.os.trans HON.out.os, hb3'.tape.trans HON.out.tape, hb3'.output.trans HON.out.output, Nat.le_trans HON.out.size hb3'.size, fun k hk hne => (hb3'.block k (Nat.lt_of_lt_of_le hk HON.out.size)).trans (HON.out.block k hk hne)⟩
      have H3 := Lib.hid h3
      have HON3 := Lib.hid hon3
      clear h3 hon3 hb3' hb3
      cases hbad : L.any badN with
      | true =>
        have HR2 := Lib.hid (show beginE S L = 95 by rw [HR.out, if_pos hbad])
        clear hbad
        go_wp2_with fail
        go_ret
        exact ⟨by rw [HR2.out]; rfl, by rw [HS.out]; exact H3.out, HON3.out⟩
      | false =>
        have HR2 := Lib.hid (show beginE S L = 0 by rw [HR.out, if_neg (by rw [hbad]; simp)])
        clear hbad
        go_wp2_with fail
        go_ret
        exact ⟨by rw [HR2.out]; rfl, by rw [HS.out]; exact H3.out, HON3.out⟩
end Go.Proofs.YtnhfnfdmpcpcoaaDoor
