/-
  Trim: the program's and the document's answer.
-/
import Derived.Test.YtnibecboimgljaaDoorStrB
import Derived.Test.YtnibecboimgljaaDoorShelf
import Derived.Test.YtnibecboimgljaaDoorListLaw
import Derived.Shelf.Strings.SlTrimAscii
import Derived.Lib.SlTrimSet
import Derived.Lib.IndexBytes
import Derived.WalkSpells
namespace Go.Proofs.YtnibecboimgljaaDoor
open Go.RowKit

theorem blankB_int (b : UInt8) : blankB b = (((b.toNat : Int) == 32) || ((b.toNat : Int) == 9)) := by
  have h : ∀ n : Fin 256, blankB (UInt8.ofNat n.val) = (((n.val : Int) == 32) || ((n.val : Int) == 9)) := by decide +kernel
  have := h ⟨b.toNat, b.toNat_lt⟩
  simpa using this
theorem ba_eq {t : ByteArray} {l : List UInt8} (h : t.data.toList = l) : t = ⟨l.toArray⟩ := by
  cases t; subst h; simp
theorem ret_str {s t : ByteArray} (h : s = t) : Ending.returned (.string s) = .returned (.string t) := by rw [h]

theorem tokTrim_any (s : ByteArray) (w : World) (hs : s.size ≤ maxLen) :
    Calls Tryd.prog 63 #[.string s] w fun e w' => e = .returned (.string ⟨(trim s.data.toList).toArray⟩) ∧ Below w.heap.size w w' := by
  unfold maxLen at hs
  go_enter Tryd.func63, Tryd.ntmps63
  go_wp2_with fail
  refine (Any.strings_Trim_laid Tryd.lays160 (by kernel_rfl) s ⟨#[32, 9]⟩ _ (by omega) (by decide) (ascii_of_all (by decide))).mono ?_
  rintro e w' ⟨rfl, hb⟩
  go_wp2_with fail
  go_ret
  exact ⟨rfl, hb⟩

theorem trim_cut (l : List UInt8) (lo hi : Nat) (h1 : lo ≤ hi) (h2 : hi ≤ l.length) (hlo : ∀ j, (hj : j < l.length) → j < lo → blankB l[j] = true) (hend : lo = l.length ∨ ∃ h : lo < l.length, blankB l[lo] = false)
    (hhi : ∀ j, (hj : j < l.length) → hi ≤ j → blankB l[j] = true) (hlast : hi = lo ∨ ∃ h : hi - 1 < l.length, 0 < hi ∧ blankB l[hi - 1] = false) : trim l = (l.drop lo).take (hi - lo) := by
  have at' : ∀ (j : Nat) b, l[j]? = some b → ∃ h : j < l.length, l[j] = b := fun j b h => List.getElem?_eq_some_iff.1 h
  unfold trim Lib.trimS
  rcases hend with rfl | ⟨hl, hnb⟩
  · have : hi = l.length := by omega
    subst this
    rw [Lib.trimRightS_take l [32, 9] 0 (Nat.zero_le _) (fun j b _ h => by obtain ⟨h', rfl⟩ := at' j b h; exact hlo j h' h') (fun b h => absurd h (by omega))]
    simp [Lib.trimLeftS]
  · have hgt : lo < hi := by
      rcases hlast with rfl | _
      · exact absurd (hhi hi hl (Nat.le_refl _)) (by rw [hnb]; simp)
      · rcases Nat.lt_or_ge lo hi with h | h
        · exact h
        · have : hi = lo := by omega
          subst this
          exact absurd (hhi hi hl (Nat.le_refl _)) (by rw [hnb]; simp)
    rcases hlast with rfl | ⟨hq, h0, hnl⟩
    · omega
    · rw [Lib.trimRightS_take l [32, 9] hi h2 (fun j b hj h => by obtain ⟨h', rfl⟩ := at' j b h; exact hhi j h' hj) (fun b h0 h => by obtain ⟨h', rfl⟩ := at' _ b h; exact hnl)]
      rw [Lib.trimLeftS_drop (l.take hi) [32, 9] lo (by rw [List.length_take]; omega) (fun j b hj h => ?_) (fun b h => ?_)]
      · rw [List.drop_take]
      · rw [List.getElem?_take_of_lt (by omega)] at h
        obtain ⟨h', rfl⟩ := at' _ b h; exact hlo j h' hj
      · rw [List.getElem?_take_of_lt (by omega)] at h
        obtain ⟨h', rfl⟩ := at' _ b h; exact hnb

theorem blank_at (s : ByteArray) (k : Nat) (h : k < s.size) (hl : k < s.data.toList.length) : blankB s.data.toList[k] = (((s[k].toNat : Int) == 32) || ((s[k].toNat : Int) == 9)) := by
  rw [blankB_int, ← bt_get _ k hl, bt_str s k h]

set_option maxHeartbeats 1000000 in
theorem refTrim_any (s : ByteArray) (w : World) (hs : s.size ≤ maxLen) :
    Calls Tryd.prog 50 #[.string s] w fun e w' => e = .returned (.string ⟨(trim s.data.toList).toArray⟩) ∧ w = w' := by
  unfold maxLen at hs
  go_enter Tryd.func50, Tryd.ntmps50
  go_wp2
  go_loop [3] (fun i => ∃ k : Nat, k ≤ s.size ∧ i = .int .i64 k ∧ (∀ j, (hj : j < s.data.toList.length) → j < k → blankB s.data.toList[j] = true)) (fun i => s.size - (intOf i).toNat)
  case atStart => exact ⟨0, Nat.zero_le _, rfl, fun j _ hj => absurd hj (Nat.not_lt_zero j)⟩
  case round =>
    obtain ⟨k, hk, rfl, hn⟩ := hrel
    have HN := Lib.hid hn
    clear hn
    have key : (k < s.size ∧ ∃ h : k < s.data.toList.length, blankB s.data.toList[k] = true) ∨ (k = s.data.toList.length ∨ ∃ h : k < s.data.toList.length, blankB s.data.toList[k] = false) := by
      rcases Nat.lt_or_ge k s.size with h | h
      · have hl : k < s.data.toList.length := by rw [size_list]; exact h
        cases hb : blankB s.data.toList[k]
        · exact .inr (.inr ⟨hl, hb⟩)
        · exact .inl ⟨h, hl, hb⟩
      · exact .inr (.inl (by rw [size_list]; omega))
    rcases key with ⟨hlt, hl, hb⟩ | hend
    · have HB := Lib.hid hb
      rw [blank_at s k hlt hl] at hb
      have two : ((s[k].toNat : Int) == 32) = true ∨ (((s[k].toNat : Int) == 32) = false ∧ ((s[k].toNat : Int) == 9) = true) := by
        cases h32 : ((s[k].toNat : Int) == 32)
        · rw [h32] at hb; exact .inr ⟨rfl, by simpa using hb⟩
        · exact .inl rfl
      clear hb
      rcases two with h32 | ⟨h32, h9⟩
      all_goals
        go_wp2
        go_round
        case rel =>
          refine ⟨k + 1, by omega, by go_num, fun j hj hjk => ?_⟩
          by_cases h : j = k
          · subst h; exact HB.out
          · exact HN.out j hj (by omega)
        case measure => simp [intOf]; omega
    · have two : s.size ≤ k ∨ (k < s.size ∧ ∃ h : k < s.size, ((s[k].toNat : Int) == 32) = false ∧ ((s[k].toNat : Int) == 9) = false) := by
        rcases hend with h | ⟨h, hb⟩
        · left; rw [size_list] at h; omega
        · right
          have hk' : k < s.size := by rw [← size_list]; exact h
          rw [blank_at s k hk' h] at hb
          exact ⟨hk', hk', by simpa using hb⟩
      have HE := Lib.hid hend
      clear hend
      rcases two with hge | ⟨hlt, _, h32, h9⟩
      all_goals
        go_wp2
        go_loop [4] (fun i => ∃ m : Nat, k ≤ m ∧ m ≤ s.size ∧ i = .int .i64 m ∧ (∀ j, (hj : j < s.data.toList.length) → m ≤ j → blankB s.data.toList[j] = true)) (fun i => (intOf i).toNat)
        case atStart => exact ⟨s.size, by omega, Nat.le_refl _, rfl, fun j hj hm => absurd hj (by rw [size_list]; omega)⟩
        case round =>
          obtain ⟨m, hm1, hm2, rfl, hn2⟩ := hrel
          have HN2 := Lib.hid hn2
          clear hn2
          have key : (k < m ∧ ∃ d, m = d + 1 ∧ d < s.size ∧ ∃ h : d < s.data.toList.length, blankB s.data.toList[d] = true) ∨ ((m = k ∨ ∃ h : m - 1 < s.data.toList.length, 0 < m ∧ blankB s.data.toList[m - 1] = false)) := by
            rcases Nat.lt_or_ge k m with h | h
            · obtain ⟨d, rfl⟩ : ∃ d, m = d + 1 := ⟨m - 1, by omega⟩
              have hl : d < s.data.toList.length := by rw [size_list]; omega
              cases hb : blankB s.data.toList[d]
              · exact .inr (.inr ⟨hl, by omega, hb⟩)
              · exact .inl ⟨h, d, rfl, by omega, hl, hb⟩
            · exact .inr (.inl (by omega))
          rcases key with ⟨hkm, d, rfl, hds, hl, hb⟩ | hlast
          · have HB := Lib.hid hb
            rw [blank_at s d hds hl] at hb
            have two : ((s[d].toNat : Int) == 32) = true ∨ (((s[d].toNat : Int) == 32) = false ∧ ((s[d].toNat : Int) == 9) = true) := by
              cases h32 : ((s[d].toNat : Int) == 32)
              · rw [h32] at hb; exact .inr ⟨rfl, by simpa using hb⟩
              · exact .inl rfl
            clear hb
            rcases two with g32 | ⟨g32, g9⟩
            all_goals
              go_wp2
              all_goals
                go_round
                case rel =>
                  refine ⟨d, by omega, by omega, by go_num, fun j hj hjk => ?_⟩
                  by_cases h : j = d
                  · subst h; exact HB.out
                  · exact HN2.out j hj (by omega)
                case measure => simp [intOf]
          · have two : m = k ∨ (k < m ∧ ∃ d, m = d + 1 ∧ ∃ h : d < s.size, ((s[d].toNat : Int) == 32) = false ∧ ((s[d].toNat : Int) == 9) = false) := by
              rcases Nat.lt_or_ge k m with h | h
              · right
                obtain ⟨d, rfl⟩ : ∃ d, m = d + 1 := ⟨m - 1, by omega⟩
                rcases hlast with h1 | ⟨h1, h2, h3⟩
                · omega
                · have hd : d < s.size := by omega
                  have h3' : blankB (s.data.toList[d]'(by rw [size_list]; exact hd)) = false := h3
                  rw [blank_at s d hd (by rw [size_list]; exact hd)] at h3'
                  exact ⟨h, d, rfl, hd, by simpa using h3'⟩
              · left; omega
            have HL := Lib.hid hlast
            clear hlast
            have hfin : trim s.data.toList = (s.data.toList.drop k).take (m - k) := trim_cut s.data.toList k m hm1 (by rw [size_list]; exact hm2) HN.out HE.out HN2.out HL.out
            have HF := Lib.hid hfin
            clear hfin
            rcases two with rfl | ⟨hkm, d, rfl, hd, g32, g9⟩
            · go_wp2
              go_ret
              refine ⟨ret_str (ba_eq ?_), rfl⟩
              rw [HF.out]; simp
            · have z1 : (k : Int) ≤ (d : Int) + 1 := by omega
              have z2 : (d : Int) + 1 ≤ (s.size : Int) := by omega
              go_wp2
              all_goals
                go_ret
                refine ⟨ret_str (ba_eq ?_), rfl⟩
                rw [HF.out, Lib.extract_data]
end Go.Proofs.YtnibecboimgljaaDoor
