/-
  How long keys and names are: plain words.
-/
import Derived.Test.YtnibecboimgljaaDoorVRefKey
import Derived.Test.YtnibecboimgljaaDoorVRefNames
import Derived.Test.YtnibecboimgljaaDoorFieldsOpen
import Derived.Test.YtnibecboimgljaaDoorTextsOpen
namespace Go.Proofs.YtnibecboimgljaaDoor
open Go.RowKit

theorem bulkT_append (L M : List (List UInt8)) : bulkT (L ++ M) = bulkT L + bulkT M := by simp [bulkT]
theorem cutGo_bulk (c : UInt8) : ∀ (r cur : List UInt8) (q e : Bool), bulkT (cutGo c r cur q e) ≤ cur.length + r.length + 1
  | [], cur, q, e => by rw [cutGo_nil]; simp [bulkT]
  | y :: r, cur, q, e => by
    have ih := cutGo_bulk c r
    unfold cutGo
    split
    · have := ih (cur ++ [y]) q false; simp at this ⊢; omega
    · split
      · have := ih (cur ++ [y]) q true; simp at this ⊢; omega
      · split
        · have := ih (cur ++ [y]) (!q) false; simp at this ⊢; omega
        · split
          · have := ih [] q false; rw [bulkT_cons]; simp at this ⊢; omega
          · have := ih (cur ++ [y]) q false; simp at this ⊢; omega
theorem bulkT_trim (L : List (List UInt8)) : bulkT ((L.map trim).filter full) ≤ bulkT L := by
  induction L with
  | nil => simp
  | cons x L ih =>
    rw [List.map_cons, List.filter_cons, bulkT_cons]
    have := trim_length x
    split
    · rw [bulkT_cons]; omega
    · omega
theorem listOf_bulk (l : List UInt8) : bulkT (listOf l) ≤ l.length + 1 := by
  refine Nat.le_trans (bulkT_trim (pieces 44 l)) ?_
  have := cutGo_bulk 44 l [] false false
  simpa [pieces] using this
theorem els_bulk (V : List (List UInt8)) : bulkT (V.flatMap listOf) ≤ bulkT V := by
  induction V with
  | nil => simp
  | cons x V ih =>
    rw [List.flatMap_cons, bulkT_append, bulkT_cons]
    have := listOf_bulk x
    omega
theorem values_bulk (L : List Pair) (n : List UInt8) : bulkT (valuesOf L n) ≤ bulkF L := by
  induction L with
  | nil => simp [valuesOf, bulkT, bulkF]
  | cons x L ih =>
    rw [bulkF_cons]
    unfold valuesOf at ih ⊢
    rw [List.filter_cons]
    split
    · rw [List.map_cons, bulkT_cons]; omega
    · omega
theorem elsOf_bulk (L : List Pair) (n : List UInt8) : bulkT (elsOf L n) ≤ bulkF L := Nat.le_trans (els_bulk _) (values_bulk L n)
theorem elsOf_length (L : List Pair) (n : List UInt8) : (elsOf L n).length ≤ bulkF L := Nat.le_trans (bulkT_length _) (elsOf_bulk L n)
theorem joinC_bulk (F : List (List UInt8)) : (Lib.join F [44]).length ≤ bulkT F := by
  have tail : ∀ r : List (List UInt8), (Lib.joinTail [44] r).length = bulkT r := by
    intro r
    induction r with
    | nil => rfl
    | cons y r ih =>
      rw [bulkT_cons]
      simp only [Lib.joinTail, List.map_cons, List.flatten_cons, List.length_append, List.length_cons, List.length_nil] at ih ⊢
      omega
  cases F with
  | nil => simp [Lib.join_nil]
  | cons x r =>
    rw [Lib.join_cons, List.length_append, tail, bulkT_cons]
    omega
theorem keyOne_length (L : List Pair) (n : List UInt8) : (keyOne L n).length ≤ n.length + bulkF L + 2 := by
  have h1 := joinC_bulk (elsOf L n)
  have h2 := elsOf_bulk L n
  unfold keyOne
  rw [List.length_append, List.length_append, fold_length]
  split
  · simp; omega
  · simp; omega
theorem keyT_length (NS : List (List UInt8)) (L : List Pair) : (keyT NS L).length ≤ bulkT NS * (bulkF L + 3) := by
  induction NS with
  | nil => simp [keyT]
  | cons x NS ih =>
    have h1 := keyOne_length L x
    have e : keyT (x :: NS) L = keyOne L x ++ keyT NS L := by simp [keyT]
    rw [e, List.length_append, bulkT_cons, Nat.add_mul, Nat.add_mul]
    have : x.length ≤ x.length * (bulkF L + 3) := Nat.le_mul_of_pos_right _ (by omega)
    omega
theorem keyT_small (NS : List (List UInt8)) (L : List Pair) (h1 : bulkT NS ≤ 4194304) (h2 : bulkF L ≤ 4194304) : (keyT NS L).length ≤ 100000000000000 :=
  Nat.le_trans (keyT_length NS L) (Nat.le_trans (Nat.mul_le_mul h1 (Nat.add_le_add_right h2 3)) (by decide))
theorem insS_bulk (x : BS) : ∀ l : List BS, bulkT (insS x l) ≤ bulkT l + x.length + 1
  | [] => by simp [insS, bulkT]
  | y :: l => by
    have ih := insS_bulk x l
    unfold insS
    split
    · omega
    · split
      · rw [bulkT_cons]; omega
      · rw [bulkT_cons, bulkT_cons]; omega
theorem foldR_bulk : ∀ (T acc : List BS), bulkT (T.foldl (fun out x => insR x out) acc) ≤ bulkT acc + bulkT T
  | [], acc => by simp [bulkT]
  | x :: T, acc => by
    have h1 := foldR_bulk T (insR x acc)
    have h2 := insS_bulk x acc
    rw [insR_eq] at h1
    rw [List.foldl_cons, bulkT_cons, insR_eq]
    omega
theorem namesOf_bulk (T : List BS) : bulkT (namesOf T) ≤ bulkT T := by
  rw [← namesR_eq]
  have := foldR_bulk T []
  simpa [bulkT, namesR] using this
theorem tokens_bulk (L : List Pair) (n : List UInt8) : bulkT (tokensOf L n) ≤ bulkF L := by
  have e : tokensOf L n = (elsOf L n).map fold := by
    unfold tokensOf elsOf
    rw [List.map_flatMap]; rfl
  have h2 := elsOf_bulk L n
  rw [e]
  have : bulkT ((elsOf L n).map fold) = bulkT (elsOf L n) := by
    unfold bulkT
    rw [List.map_map]
    congr 1
    apply List.map_congr_left
    intro x _
    show (fold x).length + 1 = _
    rw [fold_length]
  omega
theorem namesT_bulk (L : List Pair) : bulkT (namesT L).1 ≤ bulkF L := by
  unfold namesT
  split
  · exact Nat.zero_le _
  · exact Nat.le_trans (namesOf_bulk _) (tokens_bulk L varyB)
theorem tokens_lenV (L : List Pair) : (tokensOf L varyB).length ≤ bulkF L := Nat.le_trans (bulkT_length _) (tokens_bulk L varyB)
end Go.Proofs.YtnibecboimgljaaDoor
