/-
  Token: which bytes are a token's; the program's Token and the document's answer alike.
-/
import Derived.Test.YtpgjlepjhbjhfaaDoorStrB
import Derived.Test.YtpgjlepjhbjhfaaDoorShelf
import Derived.Lib.Strings
namespace Go.Proofs.YtpgjlepjhbjhfaaDoor
open Go.RowKit

/-- a token's byte -/
def tokB (c : Int) : Bool :=
  decide ((48 ≤ c ∧ c ≤ 57) ∨ (97 ≤ c ∧ c ≤ 122) ∨ (65 ≤ c ∧ c ≤ 90) ∨ c = 33 ∨ (35 ≤ c ∧ c ≤ 39) ∨ c = 42 ∨ c = 43 ∨ c = 45 ∨ c = 46 ∨ (94 ≤ c ∧ c ≤ 96) ∨ c = 124 ∨ c = 126)
theorem tokB_mid (c : Int) (h : (48 ≤ c ∧ c ≤ 57) ∨ (97 ≤ c ∧ c ≤ 122) ∨ (65 ≤ c ∧ c ≤ 90)) : tokB c = true := by
  unfold tokB; rw [decide_eq_true_iff]; omega

theorem others_index : ∀ b : UInt8, (48 ≤ b.toNat ∧ b.toNat ≤ 57) ∨ (97 ≤ b.toNat ∧ b.toNat ≤ 122) ∨ (65 ≤ b.toNat ∧ b.toNat ≤ 90) ∨ decide (0 ≤ Lib.indexByte [33, 35, 36, 37, 38, 39, 42, 43, 45, 46, 94, 95, 124, 126, 96] b) = tokB (b.toNat : Int) := by
  have h : ∀ n : Fin 256, (48 ≤ n.val ∧ n.val ≤ 57) ∨ (97 ≤ n.val ∧ n.val ≤ 122) ∨ (65 ≤ n.val ∧ n.val ≤ 90) ∨ decide (0 ≤ Lib.indexByte [33, 35, 36, 37, 38, 39, 42, 43, 45, 46, 94, 95, 124, 126, 96] (UInt8.ofNat n.val)) = tokB (n.val : Int) := by decide +kernel
  intro b
  have := h ⟨b.toNat, b.toNat_lt⟩
  simpa using this

theorem tokB_others (c : Int) (h0 : 0 ≤ c) (h1 : c ≤ 255) (h : ¬ ((48 ≤ c ∧ c ≤ 57) ∨ (97 ≤ c ∧ c ≤ 122) ∨ (65 ≤ c ∧ c ≤ 90))) :
    decide (0 ≤ Lib.indexByte [33, 35, 36, 37, 38, 39, 42, 43, 45, 46, 94, 95, 124, 126, 96] c.toNat.toUInt8) = tokB c := by
  have e : ((c.toNat.toUInt8).toNat : Int) = c := ubyte_toNat h0 h1
  have := others_index c.toNat.toUInt8
  rw [e] at this
  rcases this with k | k | k | k
  · exact absurd (Or.inl (by omega)) h
  · exact absurd (Or.inr (Or.inl (by omega))) h
  · exact absurd (Or.inr (Or.inr (by omega))) h
  · exact k

theorem tokByte_any (c : Int) (h0 : 0 ≤ c) (h1 : c ≤ 255) (w : World) :
    Calls Tryd.prog 73 #[.int .u8 c] w fun e w' => e = .returned (.bool (tokB c)) ∧ w = w' := by
  by_cases hm : (48 ≤ c ∧ c ≤ 57) ∨ (97 ≤ c ∧ c ≤ 122) ∨ (65 ≤ c ∧ c ≤ 90)
  · have H := Lib.hid (tokB_mid c hm)
    rcases hm with ⟨_, _⟩ | ⟨_, _⟩ | ⟨_, _⟩
    · go_enter Tryd.func73, Tryd.ntmps73
      go_wp2_with fail
      go_ret
      exact ⟨ret_bool H.out.symm, rfl⟩
    · have : ¬ c ≤ 57 := by omega
      go_enter Tryd.func73, Tryd.ntmps73
      go_wp2_with fail
      go_ret
      exact ⟨ret_bool H.out.symm, rfl⟩
    · have : ¬ c ≤ 57 := by omega
      have : ¬ 97 ≤ c := by omega
      go_enter Tryd.func73, Tryd.ntmps73
      go_wp2_with fail
      go_ret
      exact ⟨ret_bool H.out.symm, rfl⟩
  · have H := Lib.hid (tokB_others c h0 h1 hm)
    have H2 := Lib.hid hm
    clear hm
    by_cases a1 : 48 ≤ c <;> by_cases a2 : c ≤ 57 <;> by_cases b1 : 65 ≤ c <;> by_cases b2 : c ≤ 90 <;> by_cases b3 : 97 ≤ c <;> by_cases b4 : c ≤ 122 <;>
      first
      | (exfalso; have := H2.out; omega)
      | (go_enter Tryd.func73, Tryd.ntmps73
         go_wp2_with fail
         refine (Tryd.strings_IndexByte _ _ _).mono ?_
         rintro e w' ⟨rfl, rfl⟩
         go_wp2_with fail
         go_ret
         exact ⟨ret_bool H.out, rfl⟩)

theorem refB_lo (c : Int) : ((48 ≤ c ∧ c ≤ 57) ∨ (65 ≤ c ∧ c ≤ 90) ∨ (97 ≤ c ∧ c ≤ 122)) → tokB c = true := fun h => tokB_mid c (by omega)
def othL : List UInt8 := [33, 35, 36, 37, 38, 39, 42, 43, 45, 46, 94, 95, 124, 126]
theorem othL_mem : ∀ j, j < 14 → tokB (bt othL j) = true := by decide +kernel
theorem othL_not : ∀ b : UInt8, (48 ≤ b.toNat ∧ b.toNat ≤ 57) ∨ (97 ≤ b.toNat ∧ b.toNat ≤ 122) ∨ (65 ≤ b.toNat ∧ b.toNat ≤ 90) ∨ (∃ j, j < 14 ∧ bt othL j = (b.toNat : Int)) ∨ ((b.toNat : Int) == 96) = tokB (b.toNat : Int) := by
  have h : ∀ n : Fin 256, (48 ≤ n.val ∧ n.val ≤ 57) ∨ (97 ≤ n.val ∧ n.val ≤ 122) ∨ (65 ≤ n.val ∧ n.val ≤ 90) ∨ (∃ j : Fin 14, bt othL j.val = (n.val : Int)) ∨ ((n.val : Int) == 96) = tokB (n.val : Int) := by decide +kernel
  intro b
  rcases h ⟨b.toNat, b.toNat_lt⟩ with k | k | k | ⟨j, k⟩ | k
  · exact .inl k
  · exact .inr (.inl k)
  · exact .inr (.inr (.inl k))
  · exact .inr (.inr (.inr (.inl ⟨j.val, j.isLt, k⟩)))
  · exact .inr (.inr (.inr (.inr k)))
theorem othL_end (c : Int) (h0 : 0 ≤ c) (h1 : c ≤ 255) (h : ¬ ((48 ≤ c ∧ c ≤ 57) ∨ (65 ≤ c ∧ c ≤ 90) ∨ (97 ≤ c ∧ c ≤ 122))) (hn : ∀ j, j < 14 → bt othL j ≠ c) : (c == 96) = tokB c := by
  have e : ((ubyte c).toNat : Int) = c := ubyte_toNat h0 h1
  have := othL_not (ubyte c)
  rw [e] at this
  rcases this with k | k | k | ⟨j, hj, k⟩ | k
  · exact absurd (Or.inl (by omega)) h
  · exact absurd (Or.inr (Or.inr (by omega))) h
  · exact absurd (Or.inr (Or.inl (by omega))) h
  · exact absurd k (hn j hj)
  · exact k

theorem refByte_any (c : Int) (h0 : 0 ≤ c) (h1 : c ≤ 255) (w : World) :
    Calls Tryd.prog 76 #[.int .u8 c] w fun e w' => e = .returned (.bool (tokB c)) ∧ w = w' := by
  by_cases hm : (48 ≤ c ∧ c ≤ 57) ∨ (65 ≤ c ∧ c ≤ 90) ∨ (97 ≤ c ∧ c ≤ 122)
  · have H := Lib.hid (refB_lo c hm)
    rcases hm with ⟨_, _⟩ | ⟨_, _⟩ | ⟨_, _⟩
    · go_enter Tryd.func76, Tryd.ntmps76
      go_wp2_with fail
      go_ret
      exact ⟨ret_bool H.out.symm, rfl⟩
    · have : ¬ c ≤ 57 := by omega
      go_enter Tryd.func76, Tryd.ntmps76
      go_wp2_with fail
      go_ret
      exact ⟨ret_bool H.out.symm, rfl⟩
    · have : ¬ c ≤ 57 := by omega
      have : ¬ c ≤ 90 := by omega
      go_enter Tryd.func76, Tryd.ntmps76
      go_wp2_with fail
      go_ret
      exact ⟨ret_bool H.out.symm, rfl⟩
  · have H := Lib.hid (othL_end c h0 h1 hm)
    have H2 := Lib.hid hm
    clear hm
    obtain ⟨o, ho⟩ : ∃ o : ByteArray, o = ⟨othL.toArray⟩ := ⟨_, rfl⟩
    have hos : o.size = 14 := by rw [ho]; rfl
    have hod : o.data.toList = othL := by rw [ho]
    have HO := Lib.hid ho
    have HD := Lib.hid hod
    have hz1 : o.size ≤ 14 := by omega
    have hz2 : 14 ≤ o.size := by omega
    clear ho hod hos
    by_cases a1 : 48 ≤ c <;> by_cases a2 : c ≤ 57 <;> by_cases b1 : 65 ≤ c <;> by_cases b2 : c ≤ 90 <;> by_cases b3 : 97 ≤ c <;> by_cases b4 : c ≤ 122 <;>
      first
      | (exfalso; have := H2.out; omega)
      | (go_enter Tryd.func76, Tryd.ntmps76
         go_wp2_with fail
         rw [show (⟨#[33, 35, 36, 37, 38, 39, 42, 43, 45, 46, 94, 95, 124, 126]⟩ : ByteArray) = o from HO.out.symm]
         go_loop [4] (fun i => ∃ k : Nat, k ≤ 14 ∧ i = .int .i64 k ∧ (∀ j, j < k → bt othL j ≠ c)) (fun i => 14 - (intOf i).toNat)
         case atStart => exact ⟨0, Nat.zero_le _, rfl, fun j hj => absurd hj (Nat.not_lt_zero j)⟩
         case round =>
           obtain ⟨k, hk, rfl, hn⟩ := hrel
           have HN := Lib.hid hn
           clear hn
           by_cases hlt : k < 14
           · have hlt2 : k < o.size := by omega
             have E := Lib.hid (bt_str o k hlt2)
             by_cases heq : (o[k].toNat : Int) = c
             · have hbool : ((o[k].toNat : Int) == c) = true := by simp [heq]
               have HE := Lib.hid heq
               clear heq
               go_wp2
               go_ret
               refine ⟨ret_bool ?_, rfl⟩
               have e := E.out
               rw [HD.out, HE.out] at e
               rw [← e]
               exact (othL_mem k hlt).symm
             · have hbool : ((o[k].toNat : Int) == c) = false := by simp [heq]
               have HE := Lib.hid heq
               clear heq
               go_wp2
               go_round
               case rel =>
                 refine ⟨k + 1, by omega, by go_num, fun j hj => ?_⟩
                 by_cases h : j = k
                 · have e := E.out
                   rw [HD.out] at e
                   rw [h, e]
                   exact HE.out
                 · exact HN.out j (by omega)
               case measure => simp [intOf]; omega
           · have : 14 ≤ k := by omega
             go_wp2
             go_ret
             exact ⟨ret_bool (H.out fun j hj => HN.out j (by omega)), rfl⟩)

/-- a token -/
def isTok (l : List UInt8) : Bool := (l.all fun b => tokB (b.toNat : Int)) && !l.isEmpty
theorem isTok_no (l : List UInt8) (k : Nat) (hk : k < l.length) (h : tokB (bt l k) = false) : isTok l = false := by
  unfold isTok
  rw [Bool.and_eq_false_iff]
  left
  rw [List.all_eq_false]
  exact ⟨l[k], List.getElem_mem hk, by rw [bt_get l k hk] at h; simp [h]⟩
theorem isTok_end (l : List UInt8) (h : ∀ j, j < l.length → tokB (bt l j) = true) : isTok l = !l.isEmpty := by
  have : (l.all fun b => tokB (b.toNat : Int)) = true := by
    rw [List.all_eq_true]
    intro b hb
    obtain ⟨j, hj, rfl⟩ := List.getElem_of_mem hb
    have := h j hj
    rwa [bt_get l j hj] at this
  unfold isTok
  rw [this, Bool.true_and]

theorem tok_any (s : ByteArray) (w : World) (hs : s.size ≤ maxLen) :
    Calls Tryd.prog 48 #[.string s] w fun e w' => e = .returned (.bool (isTok s.data.toList)) ∧ w = w' := by
  unfold maxLen at hs
  go_enter Tryd.func48, Tryd.ntmps48
  go_wp2
  go_loop [6] (fun i => ∃ k : Nat, k ≤ s.size ∧ i = .int .i64 k ∧ (∀ j, j < k → tokB (bt s.data.toList j) = true)) (fun i => s.size - (intOf i).toNat)
  case atStart => exact ⟨0, Nat.zero_le _, rfl, fun j hj => absurd hj (Nat.not_lt_zero j)⟩
  case round =>
    obtain ⟨k, hk, rfl, hn⟩ := hrel
    have HN := Lib.hid hn
    clear hn
    by_cases hlt : k < s.size
    · have E := Lib.hid (bt_str s k hlt)
      obtain ⟨b0, b1⟩ := byte_le s k hlt
      go_wp2_with fail
      refine (tokByte_any _ b0 b1 _).mono ?_
      rintro e w' ⟨rfl, rfl⟩
      cases hb : tokB (s[k].toNat : Int)
      · have HB := Lib.hid hb
        clear hb
        go_wp2_with fail
        go_ret
        exact ⟨ret_bool (isTok_no _ k (by rw [size_list]; exact hlt) (by rw [E.out]; exact HB.out)).symm, rfl⟩
      · have HB := Lib.hid hb
        clear hb
        go_wp2_with fail
        go_round
        case rel =>
          refine ⟨k + 1, by omega, by go_num, fun j hj => ?_⟩
          by_cases h : j = k
          · rw [h, E.out]; exact HB.out
          · exact HN.out j (by omega)
        case measure => simp [intOf]; omega
    · obtain rfl : k = s.size := by omega
      go_wp2
      go_ret
      refine ⟨ret_bool ?_, rfl⟩
      rw [isTok_end _ (by rw [size_list]; exact HN.out)]
      exact empty_size s

theorem refTok_any (s : ByteArray) (w : World) (hs : s.size ≤ maxLen) :
    Calls Tryd.prog 52 #[.string s] w fun e w' => e = .returned (.bool (isTok s.data.toList)) ∧ w = w' := by
  unfold maxLen at hs
  go_enter Tryd.func52, Tryd.ntmps52
  go_wp2
  go_loop [3] (fun i => ∃ k : Nat, k ≤ s.size ∧ i = .int .i64 k ∧ (∀ j, j < k → tokB (bt s.data.toList j) = true)) (fun i => s.size - (intOf i).toNat)
  case atStart => exact ⟨0, Nat.zero_le _, rfl, fun j hj => absurd hj (Nat.not_lt_zero j)⟩
  case round =>
    obtain ⟨k, hk, rfl, hn⟩ := hrel
    have HN := Lib.hid hn
    clear hn
    by_cases hlt : k < s.size
    · have E := Lib.hid (bt_str s k hlt)
      obtain ⟨b0, b1⟩ := byte_le s k hlt
      go_wp2_with fail
      refine (refByte_any _ b0 b1 _).mono ?_
      rintro e w' ⟨rfl, rfl⟩
      cases hb : tokB (s[k].toNat : Int)
      · have HB := Lib.hid hb
        clear hb
        go_wp2_with fail
        go_ret
        exact ⟨ret_bool (isTok_no _ k (by rw [size_list]; exact hlt) (by rw [E.out]; exact HB.out)).symm, rfl⟩
      · have HB := Lib.hid hb
        clear hb
        go_wp2_with fail
        go_round
        case rel =>
          refine ⟨k + 1, by omega, by go_num, fun j hj => ?_⟩
          by_cases h : j = k
          · rw [h, E.out]; exact HB.out
          · exact HN.out j (by omega)
        case measure => simp [intOf]; omega
    · obtain rfl : k = s.size := by omega
      go_wp2
      go_ret
      refine ⟨ret_bool ?_, rfl⟩
      rw [isTok_end _ (by rw [size_list]; exact HN.out)]
      rw [Lib.toList_data]
end Go.Proofs.YtpgjlepjhbjhfaaDoor
