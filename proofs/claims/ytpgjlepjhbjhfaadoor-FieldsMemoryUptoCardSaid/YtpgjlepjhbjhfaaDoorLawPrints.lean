/-
  FieldsPrints: every Print answers the document's lines or error; the list is left as it was.
-/
import Derived.Test.YtpgjlepjhbjhfaaDoorRefPrint
import Derived.Test.YtpgjlepjhbjhfaaDoorFieldsOpen
namespace Go.Proofs.YtpgjlepjhbjhfaaDoor
open Go.RowKit

theorem linesF_bulk (L : List Pair) : (linesF L).length ≤ 2 * bulkF L := by
  unfold linesF
  induction L with
  | nil => simp [bulkF]
  | cons x L ih =>
    rw [bulkF_cons, List.map_cons, List.flatten_cons, List.length_append]
    have : (lineF x).length = x.1.length + x.2.length + 4 := by unfold lineF; simp; omega
    omega
theorem printT_len (L : List Pair) : (printT L).1.length ≤ 2 * bulkF L := by
  have := linesF_bulk L
  unfold printT
  split
  · split
    · simp
    · exact this
  · simp

set_option maxHeartbeats 4000000 in
theorem fieldsPrints_walk (L : List Pair) (p : Option Addr) (c : Nat) (w : World) (hin : In2 w p L) (hk : bulkF L ≤ 1048576) (hT : Tabs w) (hsh : w.ShapedOpen Tryd.prog) :
    Calls Tryd.prog 7 #[.slice p L.length c] w fun e w' => e = .returned (.bool true) ∧ Below w.heap.size w w' := by
  have hM := MaxC.of hsh
  clear hsh
  have hll := bulkF_length L
  have hpl := printT_len L
  have HM := Lib.hid (fun x hx => by have := bulkF_mem L x hx; exact (⟨by omega, by omega⟩ : x.1.length ≤ 1048576 ∧ x.2.length ≤ 1048576))
  have HL := Lib.hid (show (linesF L).length ≤ 1073741824 by have := linesF_bulk L; omega)
  obtain ⟨T, hTT⟩ : ∃ T, T = (printT L).1 := ⟨_, rfl⟩
  obtain ⟨E, hE⟩ : ∃ E, E = (printT L).2 := ⟨_, rfl⟩
  rw [← hTT] at hpl
  have HTT := Lib.hid hTT
  have HE := Lib.hid hE
  clear hTT hE
  have t1 : ((E : Int) == (E : Int)) = true := by simp
  go_enter Tryd.func7, Tryd.ntmps7
  go_wp2_with fail
  refine (alive4_any _ hM hT).mono ?_
  rintro e w1 ⟨rfl, hb1⟩
  have hs1 := hb1.size
  go_wp2_with fail
  refine (copyFields_any L p _ c rfl (by omega) _ (hin.below hb1)).mono ?_
  rintro e w2 ⟨v2, rfl, hown2, hb2⟩
  have hB2 := hb1.trans (hb2.mono hs1)
  have hs2 := hb2.size
  obtain ⟨p2, c2, rfl, _, _, hin2, _⟩ := Own2.shape hown2 rfl
  clear hown2
  go_wp2_with fail
  refine (print_any L p2 _ c2 rfl (by omega) _ hin2 HM.out HL.out).mono ?_
  rw [← HTT.out, ← HE.out]
  rintro e w3 ⟨v3, rfl, hown3, hb3⟩
  have hB3 := hB2.trans (hb3.mono (by omega))
  have hs3 := hb3.size
  have hin3 := hin2.below hb3
  go_wp2_with fail
  refine (refPrint_any L p _ c rfl (by omega) _ (hin.below hB3) HM.out HL.out).mono ?_
  rw [← HTT.out, ← HE.out]
  rintro e w4 ⟨v4, rfl, hown4, hb4⟩
  have hB4 := hB3.trans (hb4.mono (by omega))
  have hs4 := hb4.size
  have hin4 := hin3.below hb4
  obtain ⟨p3, c3, rfl, _, _, hi3⟩ := (hown3.below hb4).in8n (n := T.length) rfl
  obtain ⟨p4, c4, rfl, _, _, hi4⟩ := hown4.in8n (n := T.length) rfl
  clear hown3 hown4 hin2 hin3
  have hsb := sameBytes_any T T p3 p4 _ c3 _ c4 rfl rfl (by unfold maxLen; omega) (by unfold maxLen; omega) w4 hi3 hi4
  rw [decide_eq_true rfl] at hsb
  go_wp2_with fail
  refine hsb.mono ?_
  rintro e w5 ⟨rfl, hb5⟩
  have hB5 := hB4.trans (hb5.mono (by omega))
  have hs5 := hb5.size
  have hin5 := hin4.below hb5
  clear hsb hi3 hi4 hin4
  go_wp2_with fail
  refine (sameFields_same L p2 p _ c2 _ c rfl rfl (by unfold maxLen; omega) _ hin5 (hin.below hB5)).mono ?_
  rintro e w6 ⟨rfl, hb6⟩
  go_wp2_with fail
  go_ret
  exact ⟨rfl, hB5.trans (hb6.mono (by omega))⟩
end Go.Proofs.YtpgjlepjhbjhfaaDoor
