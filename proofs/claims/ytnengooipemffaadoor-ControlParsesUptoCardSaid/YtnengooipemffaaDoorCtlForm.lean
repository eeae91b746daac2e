/-
  What Parse answers, in its ten parts; how many words there may be.
-/
import Derived.Test.YtnengooipemffaaDoorAlive15
namespace Go.Proofs.YtnengooipemffaaDoor
open Go.RowKit

theorem tokens_of_len (L : List Pair) (n : List UInt8) : (tokensOf L n).length ≤ (L.map fun x => x.2.length + 1).sum := by
  unfold tokensOf
  induction L with
  | nil => simp [valuesOf]
  | cons x L ih =>
    rw [List.map_cons, List.sum_cons]
    unfold valuesOf at ih ⊢
    rw [List.filter_cons]
    split
    · rw [List.map_cons, List.flatMap_cons, List.length_append]
      have : (wordsOf x.2).length ≤ x.2.length + 1 := by
        unfold wordsOf; rw [List.length_map]; exact listOf_length x.2
      omega
    · omega
theorem ctlT_form (L : List Pair) : ∃ b0 b1 b2 b3 b4 b5 z0 z1 z2 z3, ctlT L = .agg #[.bool b0, .bool b1, .bool b2, .bool b3, .bool b4, .bool b5, .int .i64 z0, .int .i64 z1, .int .i64 z2, .int .i64 z3] :=
  ⟨_, _, _, _, _, _, _, _, _, _, rfl⟩
end Go.Proofs.YtnengooipemffaaDoor
