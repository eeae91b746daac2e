/-
  CopyTexts.
-/
import Derived.Test.YtnibecboimgljaaDoorTexts
namespace Go.Proofs.YtnibecboimgljaaDoor
open Go.RowKit

set_option maxHeartbeats 1000000 in
theorem copyTexts_any (L : List (List UInt8)) (p : Option Addr) (n c : Nat) (hn : L.length = n) (hr : n ≤ 8800000000000) (w : World) (h : InS w p L) :
    Calls Tryd.prog 16 #[.slice p n c] w fun e w' => ∃ v, e = .returned v ∧ OwnS w' w.heap.size v L ∧ Below w.heap.size w w' := by
  subst hn
  have hin := h.alloc (.cells #[] 9)
  have hown := OwnS.made w
  go_enter Tryd.func16, Tryd.ntmps16
  go_wp2_with (at_builtin; refine wpList_appendS rfl _ _ rfl w.heap.size _ [] rfl hown _ _ _ L rfl rfl hin (by simp; omega) (by simp) ?_; intro v1 w1 hown1 hgrow1 _)
  go_ret
  exact ⟨v1, rfl, hown1, OwnS.grown ((Below.refl _ w).alloc (Nat.le_refl _) _) (by simp) hown hgrow1⟩
end Go.Proofs.YtnibecboimgljaaDoor
