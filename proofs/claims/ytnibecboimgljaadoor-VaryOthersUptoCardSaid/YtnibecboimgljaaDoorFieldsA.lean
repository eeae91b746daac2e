/-
  Lists of fields: copies, comparisons, is.
-/
import Derived.Test.YtnibecboimgljaaDoorPairs
import Derived.Test.YtnibecboimgljaaDoorFold
import Derived.Test.YtnibecboimgljaaDoorKeep
namespace Go.Proofs.YtnibecboimgljaaDoor
open Go.RowKit

theorem parF : PairT 22 35 := ⟨Tryd.underlying22, by kernel_rfl⟩
def OwnF (w : World) (base : Nat) (v : Value) (L : List Pair) : Prop := Own2 35 w base v L

set_option maxHeartbeats 1000000 in
theorem copyFields_any (L : List Pair) (p : Option Addr) (n c : Nat) (hn : L.length = n) (hr : n ≤ 4400000000000) (w : World) (h : In2 w p L) :
    Calls Tryd.prog 11 #[.slice p n c] w fun e w' => ∃ v, e = .returned v ∧ OwnF w' w.heap.size v L ∧ Below w.heap.size w w' := by
  subst hn
  have hin := h.alloc (.cells #[] 35)
  have hown := Own2.made 35 w
  go_enter Tryd.func11, Tryd.ntmps11
  go_wp2_with (at_builtin; refine wpList_append2 parF rfl _ _ rfl w.heap.size _ [] rfl hown _ _ _ L rfl rfl hin (by simp; omega) (by simp) ?_; intro v1 w1 hown1 hgrow1 _)
  go_ret
  exact ⟨v1, rfl, hown1, Own2.grown ((Below.refl _ w).alloc (Nat.le_refl _) _) (by simp) hown hgrow1⟩

set_option maxHeartbeats 2000000 in
/-- the same fields -/
theorem sameFields_same (L : List Pair) (p q : Option Addr) (n c n2 d : Nat) (hn : L.length = n) (hn2 : L.length = n2) (hm : n ≤ maxLen) (w : World) (h : In2 w p L) (h2 : In2 w q L) :
    Calls Tryd.prog 15 #[.slice p n c, .slice q n2 d] w fun e w' => e = .returned (.bool true) ∧ Below w.heap.size w w' := by
  obtain rfl : n2 = n := by omega
  subst hn
  unfold maxLen at hm
  have hne : ((L.length : Int) != (L.length : Int)) = false := by simp
  go_enter Tryd.func15, Tryd.ntmps15
  go_wp2
  go_loopw [5] (fun i wr => ∃ k : Nat, k ≤ L.length ∧ i = .int .i64 k ∧ Below w.heap.size w wr) (fun i _ => L.length - (intOf i).toNat)
  case atStart => exact ⟨0, Nat.zero_le _, rfl, Below.refl _ _⟩
  case round =>
    obtain ⟨k, hk, rfl, hb⟩ := hrel
    by_cases hlt : k < L.length
    · obtain ⟨bx, ox, ex, x1, y1, g1, g2, g3, g4⟩ := (h.below hb).at hlt
      obtain ⟨by', oy, ey, x2, y2, g5, g6, g7, g8⟩ := (h2.below hb).at hlt
      have e1 : x2 = x1 := ba_ext (g7.trans g3.symm)
      have e2 : y2 = y1 := ba_ext (g8.trans g4.symm)
      subst e1 e2 ex ey
      have q1 : (x2.toList == x2.toList) = true := by simp
      have q2 : (y2.toList == y2.toList) = true := by simp
      clear g3 g4 g7 g8 h h2
      go_wp2_with fail
      go_quiet (fail)
      go_wp2
      go_roundw
      case rel => exact ⟨k + 1, by omega, by go_num, bdrewN hb _⟩
      case measure => simp [intOf]; omega
    · obtain rfl : k = L.length := by omega
      go_wp2_with fail
      go_ret
      exact ⟨rfl, hb⟩

theorem is_any (a b n : ByteArray) (w : World) (ha : a.size ≤ 140737488351232) (hn : n.size ≤ 140737488351232) :
    Calls Tryd.prog 46 #[.agg #[.string a, .string b], .string n] w fun e w' => e = .returned (.bool (decide (fold a.data.toList = fold n.data.toList))) ∧ Below w.heap.size w w' := by
  have hb0 := (Below.refl w.heap.size w).alloc (Nat.le_refl _) (.cells #[.string a, .string b] 35)
  go_enter Tryd.func46, Tryd.ntmps46
  go_wp2_with fail
  refine (tokFold_any a _ ha).mono ?_
  rintro e w1 ⟨rfl, hb1⟩
  have hs1 := hb1.size
  go_wp2_with fail
  refine (tokFold_any n _ hn).mono ?_
  rintro e w2 ⟨rfl, hb2⟩
  obtain ⟨x, hx⟩ : ∃ x : ByteArray, x = ⟨(fold a.data.toList).toArray⟩ := ⟨_, rfl⟩
  obtain ⟨y, hy⟩ : ∃ y : ByteArray, y = ⟨(fold n.data.toList).toArray⟩ := ⟨_, rfl⟩
  have hxd : x.data.toList = fold a.data.toList := by rw [hx]
  have hyd : y.data.toList = fold n.data.toList := by rw [hy]
  rw [← hx, ← hy]
  have HR := Lib.hid (show (x.toList == y.toList) = decide (fold a.data.toList = fold n.data.toList) by rw [strs_eq, hxd, hyd])
  clear hx hy hxd hyd
  go_wp2_with fail
  go_ret
  exact ⟨ret_bool HR.out, (hb0.trans (hb1.mono (by simp))).trans (hb2.mono (by simp at hs1; omega))⟩
end Go.Proofs.YtnibecboimgljaaDoor
