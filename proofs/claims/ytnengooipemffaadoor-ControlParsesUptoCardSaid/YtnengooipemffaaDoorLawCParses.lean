/-
  ControlParses: every Parse answers what the document says; the list is left as it was.
-/
import Derived.Test.YtnengooipemffaaDoorRefCP
import Derived.Test.YtnengooipemffaaDoorCtlForm
import Derived.Test.YtnengooipemffaaDoorFieldsOpen
namespace Go.Proofs.YtnengooipemffaaDoor
open Go.RowKit

set_option maxHeartbeats 4000000 in
theorem controlParses_walk (L : List Pair) (p : Option Addr) (c : Nat) (w : World) (hin : In2 w p L) (hk : bulkF L ≤ 1048576) (hsh : w.ShapedOpen Tryd.prog) :
    Calls Tryd.prog 4 #[.slice p L.length c] w fun e w' => e = .returned (.bool true) ∧ Below w.heap.size w w' := by
  have hM := MaxC.of hsh
  clear hsh
  have hll := bulkF_length L
  have HR := Lib.hid (fun x hx => by have := bulkF_mem L x hx; exact (⟨by omega, by omega⟩ : x.1.length ≤ 1048576 ∧ x.2.length ≤ 1048576))
  have HM := Lib.hid (fun x hx => by have := HR.out x hx; exact (⟨by omega, by omega⟩ : x.1.length ≤ 4000000 ∧ x.2.length ≤ 4000000))
  have HTL := Lib.hid (show (tokensOf L pgW).length ≤ 8000000000000 by
    have h1 := tokens_of_len L pgW
    have h2 : (L.map fun x => x.2.length + 1).sum ≤ 2 * bulkF L := by
      clear h1 hin hM HR HM hll hk
      induction L with
      | nil => simp [bulkF]
      | cons x L ih => rw [bulkF_cons, List.map_cons, List.sum_cons]; omega
    omega)
  obtain ⟨b0, b1, b2, b3, b4, b5, z0, z1, z2, z3, hctl⟩ := ctlT_form L
  have HC := Lib.hid hctl
  clear hctl
  go_enter Tryd.func4, Tryd.ntmps4
  go_wp2_with fail
  refine (alive15_any _ hM).mono ?_
  rintro e w1 ⟨rfl, hb1⟩
  have hs1 := hb1.size
  go_wp2_with fail
  refine (copyFields_any L p _ c rfl (by omega) _ (hin.below hb1)).mono ?_
  rintro e w2 ⟨v2, rfl, hown2, hb2⟩
  have hB2 := hb1.trans (hb2.mono hs1)
  have hs2 := hB2.size
  obtain ⟨p2, c2, rfl, _, _, hin2, _⟩ := Own2.shape hown2 rfl
  clear hown2
  have hcall := cparse_any L p2 _ c2 rfl (by omega) w2 hin2 HM.out HTL.out (hM.below hB2)
  rw [HC.out] at hcall
  go_wp2_with fail
  refine hcall.mono ?_
  rintro e w3 ⟨rfl, hb3⟩
  have hB3 := hB2.trans (hb3.mono hs2)
  have hs3 := hB3.size
  clear hcall
  have hcall := refParse15_any L p _ c rfl (by omega) w3 (hin.below hB3) HR.out HTL.out
  rw [HC.out] at hcall
  go_wp2_with fail
  refine hcall.mono ?_
  rintro e w4 ⟨rfl, hb4⟩
  have hB4 := hB3.trans (hb4.mono hs3)
  clear hcall
  have hin4 := (hin2.below hb3).below hb4
  have hsf := sameFields_same L p2 p _ c2 _ c rfl rfl (by unfold maxLen; omega) w4 hin4 (hin.below hB4)
  go_wp2_with fail
  refine hsf.mono ?_
  rintro e w5 ⟨rfl, hb5⟩
  have hB5 := hB4.trans (hb5.mono hB4.size)
  clear hsf
  go_wp2_with fail
  go_ret
  exact ⟨rfl, hB5⟩
end Go.Proofs.YtnengooipemffaaDoor
