/-
  ControlBounds: the numbers lie in -1 to AgeCap.
-/
import Derived.Test.YtnengooipemffaaDoorAlive15
import Derived.Test.YtnengooipemffaaDoorFieldsOpen
namespace Go.Proofs.YtnengooipemffaaDoor
open Go.RowKit

theorem numM_range (D : List Ent) (k : List UInt8) : -1 ≤ numM D k ∧ numM D k ≤ 2147483648 := by
  unfold numM
  cases lookM D k with
  | none => simp
  | some x => have := secT_range x.1; simp only; omega
theorem patM_range (D : List Ent) : -1 ≤ patM D ∧ patM D ≤ 2147483648 := by
  unfold patM
  cases lookM D staleL with
  | none => simp
  | some x => have := secT_range x.1; simp only; split <;> omega
theorem tokens_len (L : List Pair) (n : List UInt8) : (tokensOf L n).length ≤ bulkF L := by
  unfold tokensOf
  induction L with
  | nil => simp [valuesOf, bulkF]
  | cons x L ih =>
    rw [bulkF_cons]
    unfold valuesOf at ih ⊢
    rw [List.filter_cons]
    split
    · rw [List.map_cons, List.flatMap_cons, List.length_append]
      have : (wordsOf x.2).length ≤ x.2.length + 1 := by
        unfold wordsOf; rw [List.length_map]; exact listOf_length x.2
      omega
    · omega
theorem ctlT_form (L : List Pair) : ∃ b0 b1 b2 b3 b4 b5 z0 z1 z2 z3, ctlT L = .agg #[.bool b0, .bool b1, .bool b2, .bool b3, .bool b4, .bool b5, .int .i64 z0, .int .i64 z1, .int .i64 z2, .int .i64 z3] ∧ -1 ≤ z0 ∧ z0 ≤ 2147483648 ∧ -1 ≤ z1 ∧ z1 ≤ 2147483648 ∧ -1 ≤ z2 ∧ z2 ≤ 2147483648 ∧ -1 ≤ z3 ∧ z3 ≤ 2147483648 :=
  ⟨_, _, _, _, _, _, _, _, _, _, rfl, (numM_range _ _).1, (numM_range _ _).2, (numM_range _ _).1, (numM_range _ _).2, (numM_range _ _).1, (numM_range _ _).2, (patM_range _).1, (patM_range _).2⟩

set_option maxHeartbeats 4000000 in
theorem controlBounds_walk (L : List Pair) (p : Option Addr) (c : Nat) (w : World) (hin : In2 w p L) (hk : bulkF L ≤ 1048576) (hsh : w.ShapedOpen Tryd.prog) :
    Calls Tryd.prog 5 #[.slice p L.length c] w fun e w' => e = .returned (.bool true) ∧ Below w.heap.size w w' := by
  have hM := MaxC.of hsh
  clear hsh
  have hll := bulkF_length L
  have HM := Lib.hid (fun x hx => by have := bulkF_mem L x hx; exact (⟨by omega, by omega⟩ : x.1.length ≤ 4000000 ∧ x.2.length ≤ 4000000))
  have HTL := Lib.hid (show (tokensOf L pgW).length ≤ 8000000000000 by have := tokens_len L pgW; omega)
  obtain ⟨b0, b1, b2, b3, b4, b5, z0, z1, z2, z3, hctl, r0, r1, r2, r3, r4, r5, r6, r7⟩ := ctlT_form L
  have HC := Lib.hid hctl
  clear hctl
  go_enter Tryd.func5, Tryd.ntmps5
  go_wp2_with fail
  refine (alive15_any _ hM).mono ?_
  rintro e w1 ⟨rfl, hb1⟩
  have hs1 := hb1.size
  go_wp2_with fail
  refine (copyFields_any L p _ c rfl (by omega) _ (hin.below hb1)).mono ?_
  rintro e w2 ⟨v2, rfl, hown2, hb2⟩
  have hB2 := hb1.trans (hb2.mono hs1)
  have hs2 := hB2.size
  obtain ⟨p2, c2, rfl, _, _, hin2, _⟩ := Own2.shape hown2 rfl
  clear hown2
  have hcall := cparse_any L p2 _ c2 rfl (by omega) w2 hin2 HM.out HTL.out (hM.below hB2)
  rw [HC.out] at hcall
  go_wp2_with fail
  refine hcall.mono ?_
  rintro e w3 ⟨rfl, hb3⟩
  have hB3 := hB2.trans (hb3.mono hs2)
  have hs3 := hB3.size
  clear hcall hin2
  go_wp2_with fail
  have HZ := Lib.hid (show ∀ k, k < 4 → ∃ z : Int, -1 ≤ z ∧ z ≤ 2147483648 ∧ ((w3.alloc (.cells #[.bool b0, .bool b1, .bool b2, .bool b3, .bool b4, .bool b5, .int .i64 z0, .int .i64 z1, .int .i64 z2, .int .i64 z3] 28)).alloc (.cells #[.int .i64 z0, .int .i64 z1, .int .i64 z2, .int .i64 z3] 3)).cell? ⟨w3.heap.size + 1, k, none⟩ = some (.int .i64 z) by
    intro k hk
    have hg : ((w3.alloc (.cells #[.bool b0, .bool b1, .bool b2, .bool b3, .bool b4, .bool b5, .int .i64 z0, .int .i64 z1, .int .i64 z2, .int .i64 z3] 28)).alloc (.cells #[.int .i64 z0, .int .i64 z1, .int .i64 z2, .int .i64 z3] 3)).heap[w3.heap.size + 1]? = some (.cells #[.int .i64 z0, .int .i64 z1, .int .i64 z2, .int .i64 z3] 3 (0, 0)) := heap_alloc2_new w3 _ _
    match k, hk with
    | 0, _ => exact ⟨z0, r0, r1, by rw [cell_of_row _ _ _ _ _ _ hg]; rfl⟩
    | 1, _ => exact ⟨z1, r2, r3, by rw [cell_of_row _ _ _ _ _ _ hg]; rfl⟩
    | 2, _ => exact ⟨z2, r4, r5, by rw [cell_of_row _ _ _ _ _ _ hg]; rfl⟩
    | 3, _ => exact ⟨z3, r6, r7, by rw [cell_of_row _ _ _ _ _ _ hg]; rfl⟩)
  have HBW := Lib.hid ((hB3.alloc hs3 (.cells #[.bool b0, .bool b1, .bool b2, .bool b3, .bool b4, .bool b5, .int .i64 z0, .int .i64 z1, .int .i64 z2, .int .i64 z3] 28)).alloc (by simp; omega) (.cells #[.int .i64 z0, .int .i64 z1, .int .i64 z2, .int .i64 z3] 3))
  generalize (w3.alloc (.cells #[.bool b0, .bool b1, .bool b2, .bool b3, .bool b4, .bool b5, .int .i64 z0, .int .i64 z1, .int .i64 z2, .int .i64 z3] 28)).alloc (.cells #[.int .i64 z0, .int .i64 z1, .int .i64 z2, .int .i64 z3] 3) = W at *
  go_loopw [5] (fun i wr => ∃ (k m : Nat), k ≤ 4 ∧ i = .int .i64 k ∧ wr = W.drewN m) (fun i _ => 4 - (intOf i).toNat)
  case atStart => exact ⟨0, 0, by omega, rfl, rfl⟩
  case round =>
    obtain ⟨k, m, hk, rfl, rfl⟩ := hrel
    by_cases hlt : k < 4
    · obtain ⟨z, q0, q1, hc⟩ := HZ.out k hlt
      have hcd : (W.drewN m).cell? ⟨w3.heap.size + 1, k, none⟩ = some (.int .i64 z) := hc
      have n1 : ¬ z < -1 := by omega
      have n2 : ¬ 2147483648 < z := by omega
      go_wp2_with fail
      go_roundw
      case rel => exact ⟨k + 1, m, by omega, by go_num, by trivial⟩
      case measure => simp [intOf]; omega
    · obtain rfl : k = 4 := by omega
      go_wp2_with fail
      go_ret
      exact ⟨rfl, bdrewN HBW.out _⟩
end Go.Proofs.YtnengooipemffaaDoor
