/-
  A list of two parts, the first without quotes.
-/
import Derived.Test.YtnibecboimgljaaDoorListLaw
namespace Go.Proofs.YtnibecboimgljaaDoor

theorem cut_two : ∀ (a b cur : List UInt8), (∀ x ∈ a, x ≠ 34) → cutGo 44 (a ++ 44 :: b) cur false false = cutGo 44 a cur false false ++ pieces 44 b
  | [], b, cur, _ => by
    rw [List.nil_append]
    simp [cutGo, pieces]
  | x :: a, b, cur, h => by
    have ih := fun cur => cut_two a b cur (fun y hy => h y (List.mem_cons_of_mem _ hy))
    have e34 : (x == (34 : UInt8)) = false := beq_eq_false_iff_ne.2 (h x (by simp))
    rw [List.cons_append, cutGo, cutGo]
    simp only [Bool.false_eq_true, if_false, Bool.false_and, e34, Bool.not_false, Bool.true_and]
    split
    · rw [ih, List.cons_append]
    · rw [ih]
theorem listOf_two (a b : List UInt8) (h : ∀ x ∈ a, x ≠ 34) : listOf (a ++ 44 :: b) = listOf a ++ listOf b := by
  unfold listOf
  rw [show pieces 44 (a ++ 44 :: b) = pieces 44 a ++ pieces 44 b from cut_two a b [] h, List.map_append, List.filter_append]
end Go.Proofs.YtnibecboimgljaaDoor
