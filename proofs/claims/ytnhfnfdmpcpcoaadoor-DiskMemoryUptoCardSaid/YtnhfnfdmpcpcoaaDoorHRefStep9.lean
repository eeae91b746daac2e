/-
  The document's disk: Step.
-/
import Derived.Test.YtnhfnfdmpcpcoaaDoorHRefStep1
import Derived.Test.YtnhfnfdmpcpcoaaDoorHRefStep2
import Derived.Test.YtnhfnfdmpcpcoaaDoorHRefStep3
import Derived.Test.YtnhfnfdmpcpcoaaDoorHRefStep4
import Derived.Test.YtnhfnfdmpcpcoaaDoorHRefStep5
import Derived.Test.YtnhfnfdmpcpcoaaDoorHRefStep6
import Derived.Test.YtnhfnfdmpcpcoaaDoorN9g
namespace Go.Proofs.YtnhfnfdmpcpcoaaDoor
open Go.RowKit Go.Maps

theorem refStep_any (P : Nat → Prop) (r : RC) (A : Pl) (wh : Int) (na nb : ByteArray) (l : BS) (q : Option Addr) (n c : Nat) (hn : l.length = n) (w : World) (hP : ∀ g, P g → g < w.heap.size) (h : RefP P w r A) (hin : In8 w q l) (hI : Inv A) (hfit : FitP A) (hna : na.size ≤ 140737488351232) (hnb : nb.size ≤ 140737488351232) (hl : n ≤ 1000000000) :
    Calls Tryd.prog 26 #[.agg (stC r A), .agg #[.int .i64 (stepI wh), .string na, .string nb, .slice q n c]] w (RStep P w A (opOf wh na.data.toList nb.data.toList l)) := by
  rw [← opOf_step]
  obtain ⟨z, hz⟩ : ∃ z, z = stepI wh := ⟨_, rfl⟩
  have hw : z = 1 ∨ z = 2 ∨ z = 3 ∨ z = 4 ∨ z = 5 ∨ z = 6 := by rw [hz]; unfold stepI; split <;> omega
  rw [← hz]
  clear hz
  rcases hw with rfl | rfl | rfl | rfl | rfl | rfl
  · exact refStep1_any P r A na nb l q n c hn w hP h hin hI hfit hna hnb hl
  · exact refStep2_any P r A na nb l q n c hn w hP h hin hI hfit hna hnb hl
  · exact refStep3_any P r A na nb l q n c hn w hP h hin hI hfit hna hnb hl
  · exact refStep4_any P r A na nb l q n c hn w hP h hin hI hfit hna hnb hl
  · exact refStep5_any P r A na nb l q n c hn w hP h hin hI hfit hna hnb hl
  · exact refStep6_any P r A na nb l q n c hn w hP h hin hI hfit hna hnb hl
end Go.Proofs.YtnhfnfdmpcpcoaaDoor
