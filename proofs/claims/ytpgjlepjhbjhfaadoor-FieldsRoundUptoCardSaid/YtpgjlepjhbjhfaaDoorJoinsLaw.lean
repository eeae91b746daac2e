/-
  Blocks behind one another. No program is in sight here.
-/
import Derived.Test.YtpgjlepjhbjhfaaDoorParse
namespace Go.Proofs.YtpgjlepjhbjhfaaDoor

theorem eol_app (x y : List UInt8) (k : Nat) (h : k + 1 < x.length) : eolAt (x ++ y) k = eolAt x k := by
  unfold eolAt
  rw [List.getD_eq_getElem?_getD, List.getD_eq_getElem?_getD, List.getD_eq_getElem?_getD, List.getD_eq_getElem?_getD, List.getElem?_append_left (by omega), List.getElem?_append_left h]
theorem parse_cat' (y : List UInt8) : ∀ (n : Nat) (x : List UInt8) (out A : List Pair), x.length = n → parseA out x = (A, 0) → parseA out (x ++ y) = parseA A y := by
  intro n
  induction n using Nat.strongRecOn with
  | ind n ih =>
    intro x out A hn hp
    by_cases h0 : 0 < x.length
    · cases he : eolAt x (x.findIdx endB) with
      | false => rw [parseA_bad out x h0 he] at hp; cases hp
      | true =>
        have hk := eol_in x _ he
        have hf : (x ++ y).findIdx endB = x.findIdx endB := by rw [List.findIdx_append, if_pos (by omega)]
        have he2 : eolAt (x ++ y) ((x ++ y).findIdx endB) = true := by rw [hf, eol_app x y _ hk]; exact he
        have h02 : 0 < (x ++ y).length := by rw [List.length_append]; omega
        have ht : (x ++ y).take ((x ++ y).findIdx endB) = x.take (x.findIdx endB) := by rw [hf, List.take_append_of_le_length (by omega)]
        have hd : (x ++ y).drop ((x ++ y).findIdx endB + 2) = x.drop (x.findIdx endB + 2) ++ y := by rw [hf, List.drop_append_of_le_length (by omega)]
        by_cases hl : (lineR (x.take (x.findIdx endB))).2 = 0
        · by_cases h100 : 100 ≤ out.length
          · rw [parseA_many out x h0 he hl h100] at hp; cases hp
          · rw [parseA_go out x h0 he hl (by omega)] at hp
            rw [parseA_go out (x ++ y) h02 he2 (by rw [ht]; exact hl) (by omega), ht, hd]
            exact ih _ (by rw [List.length_drop]; omega) _ _ _ rfl hp
        · rw [parseA_line out x h0 he hl] at hp
          exact absurd (congrArg Prod.snd hp) hl
    · have : x = [] := List.length_eq_zero_iff.1 (by omega)
      subst this
      rw [parseA_nil] at hp
      cases hp
      rfl
theorem parse_app (A : List Pair) : ∀ (n : Nat) (y : List UInt8) (out : List Pair), y.length = n →
    parseA (A ++ out) y = ([], 42) ∨ (∃ B, parseA out y = (B, 0) ∧ parseA (A ++ out) y = (A ++ B, 0)) ∨ (∃ f, f ≠ 0 ∧ parseA out y = ([], f) ∧ parseA (A ++ out) y = ([], f)) := by
  intro n
  induction n using Nat.strongRecOn with
  | ind n ih =>
    intro y out hn
    by_cases h0 : 0 < y.length
    · cases he : eolAt y (y.findIdx endB) with
      | false => exact .inr (.inr ⟨40, by omega, parseA_bad out y h0 he, parseA_bad _ y h0 he⟩)
      | true =>
        by_cases hl : (lineR (y.take (y.findIdx endB))).2 = 0
        · by_cases h100 : 100 ≤ (A ++ out).length
          · exact .inl (parseA_many _ y h0 he hl h100)
          · have h2 := h100
            rw [List.length_append] at h2
            rw [parseA_go (A ++ out) y h0 he hl (by omega), parseA_go out y h0 he hl (by omega), List.append_assoc]
            exact ih _ (by rw [List.length_drop]; omega) _ _ rfl
        · exact .inr (.inr ⟨_, hl, parseA_line out y h0 he hl, parseA_line _ y h0 he hl⟩)
    · have : y = [] := List.length_eq_zero_iff.1 (by omega)
      subst this
      exact .inr (.inl ⟨out, parseA_nil _, parseA_nil _⟩)
/-- the law -/
theorem parse_joins (x y : List UInt8) (A : List Pair) (hx : parseT x = (A, 0)) :
    parseT (x ++ y) = ([], 42) ∨ (∃ B, parseT y = (B, 0) ∧ parseT (x ++ y) = (A ++ B, 0)) ∨ (∃ f, f ≠ 0 ∧ parseT y = ([], f) ∧ parseT (x ++ y) = ([], f)) := by
  unfold parseT at hx ⊢
  rw [parse_cat' y _ x [] A rfl hx]
  have := parse_app A _ y [] rfl
  rwa [List.append_nil] at this
/-- where it fails, nothing is answered -/
theorem parse_fail : ∀ (n : Nat) (y : List UInt8) (out : List Pair), y.length = n → (parseA out y).2 ≠ 0 → (parseA out y).1 = [] := by
  intro n
  induction n using Nat.strongRecOn with
  | ind n ih =>
    intro y out hn hp
    by_cases h0 : 0 < y.length
    · cases he : eolAt y (y.findIdx endB) with
      | false => rw [parseA_bad out y h0 he]
      | true =>
        by_cases hl : (lineR (y.take (y.findIdx endB))).2 = 0
        · by_cases h100 : 100 ≤ out.length
          · rw [parseA_many out y h0 he hl h100]
          · rw [parseA_go out y h0 he hl (by omega)] at hp ⊢
            exact ih _ (by rw [List.length_drop]; omega) _ _ rfl hp
        · rw [parseA_line out y h0 he hl]
    · have : y = [] := List.length_eq_zero_iff.1 (by omega)
      subst this
      rw [parseA_nil] at hp
      exact absurd rfl hp
end Go.Proofs.YtpgjlepjhbjhfaaDoor
