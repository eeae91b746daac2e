/-
  A list that is put together of tokens is read as these tokens. No program is in sight here.
-/
import Derived.Test.YtnengooipemffaaDoorListLaw
namespace Go.Proofs.YtnengooipemffaaDoor

/-- tokens put together: a blank ahead of each, a tab and a comma behind it -/
def joined (L : List (List UInt8)) : List UInt8 := L.flatMap fun a => 32 :: (a ++ [9, 44])
theorem joined_nil : joined [] = [] := rfl
theorem joined_cons (a : List UInt8) (L : List (List UInt8)) : joined (a :: L) = (32 :: (a ++ [9])) ++ 44 :: joined L := by
  unfold joined; simp [List.flatMap_cons]
theorem joined_snoc (L : List (List UInt8)) (k : Nat) (h : k < L.length) : joined (L.take (k + 1)) = joined (L.take k) ++ (32 :: (L[k] ++ [9, 44])) := by
  unfold joined; rw [List.take_succ_eq_append_getElem h, List.flatMap_append]; simp
theorem joined_len (L : List (List UInt8)) : (joined L).length = (L.map fun a => a.length + 3).sum := by
  induction L with
  | nil => rfl
  | cons a L ih => rw [joined_cons, List.map_cons, List.sum_cons, ← ih]; simp; omega
/-- bytes that neither quote nor cut nor are blanks -/
def Plain (a : List UInt8) : Prop := ∀ b ∈ a, b ≠ 34 ∧ b ≠ 44 ∧ blankB b = false
theorem runC_plain : ∀ (a r : List UInt8), Plain a → runC 44 (a ++ r) false false = runC 44 r false false
  | [], r, _ => rfl
  | x :: a, r, h => by
    obtain ⟨h1, h2, _⟩ := h x (by simp)
    rw [List.cons_append, runC]
    have e1 : (x == (34 : UInt8)) = false := beq_eq_false_iff_ne.2 h1
    have e2 : (x == (44 : UInt8)) = false := beq_eq_false_iff_ne.2 h2
    simp only [Bool.false_eq_true, if_false, Bool.false_and, e1, e2, Bool.and_false]
    exact runC_plain a r (fun b hb => h b (List.mem_cons_of_mem _ hb))
theorem runC_word (a : List UInt8) (h : Plain a) : runC 44 (32 :: (a ++ [9])) false false = some (false, false) := by
  rw [runC_blank 44 (by decide) (by decide) 32 _ (by decide), runC_plain a [9] h]
  rfl
theorem trim_word (a : List UInt8) (h : Plain a) (h0 : a ≠ []) : trim (32 :: (a ++ [9])) = a := by
  rw [trim_eq]
  have e1 : (32 :: (a ++ [9])).reverse = 9 :: (a.reverse ++ [32]) := by simp
  rw [e1, List.dropWhile_cons, if_pos (by decide), dropW_self blankB (a.reverse ++ [32])]
  · have e2 : (a.reverse ++ [32]).reverse = 32 :: a := by simp
    rw [e2, List.dropWhile_cons, if_pos (by decide), dropW_self blankB a]
    intro x r e
    exact (h x (by rw [e]; simp)).2.2
  · intro x r e
    cases hr : a.reverse with
    | nil => exact absurd (List.reverse_eq_nil_iff.1 hr) h0
    | cons y ys =>
      rw [hr, List.cons_append] at e
      injection e with e1 e2
      subst e1
      exact (h y (by rw [← List.mem_reverse, hr]; simp)).2.2
theorem listOf_joined : ∀ L : List (List UInt8), (∀ a ∈ L, Plain a ∧ a ≠ []) → listOf (joined L) = L
  | [], _ => by decide
  | a :: L, h => by
    obtain ⟨h1, h2⟩ := h a (by simp)
    have ih := listOf_joined L (fun b hb => h b (List.mem_cons_of_mem _ hb))
    unfold listOf at ih ⊢
    rw [joined_cons, pieces_cut 44 (by decide) _ _ (runC_word a h1), List.map_cons, trim_word a h1 h2, List.filter_cons, if_pos, ih]
    unfold full
    cases a with
    | nil => exact absurd rfl h2
    | cons _ _ => rfl
end Go.Proofs.YtnengooipemffaaDoor
