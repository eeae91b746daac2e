/-
  Print, the document's.
-/
import Derived.Test.YtpgjlepjhbjhfaaDoorPrint
import Derived.Test.YtpgjlepjhbjhfaaDoorStepApp
import Derived.Deep.RegionLaw
namespace Go.Proofs.YtpgjlepjhbjhfaaDoor
open Go.RowKit

set_option maxHeartbeats 4000000 in
theorem refPrint_any (L : List Pair) (p : Option Addr) (n c : Nat) (hn : L.length = n) (hr : n ≤ 4400000000000) (w : World) (h : In2 w p L) (hsz : ∀ x ∈ L, x.1.length ≤ 1048576 ∧ x.2.length ≤ 1048576) (hl : (linesF L).length ≤ 1073741824) :
    Calls Tryd.prog 29 #[.slice p n c] w fun e w' => ∃ v, e = .returned (.tuple #[v, .int .i64 ((printT L).2 : Int)]) ∧ Own8 w' w.heap.size v (printT L).1 ∧ Below w.heap.size w w' := by
  subst hn
  have HSZ := Lib.hid hsz
  have HLL := Lib.hid (fun k => Nat.le_trans (linesF_take L k) hl)
  clear hsz
  go_enter Tryd.func29, Tryd.ntmps29
  go_wp2_with fail
  go_loopw [4] (fun i wr => ∃ k : Nat, k ≤ L.length ∧ i = .int .i64 k ∧ okAll (L.take k) = true ∧ Below w.heap.size w wr) (fun i _ => L.length - (intOf i).toNat)
  case atStart => exact ⟨0, by omega, rfl, rfl, Below.refl _ _⟩
  case round =>
    obtain ⟨k, hk, rfl, hok, hb⟩ := hrel
    have hbs := hb.size
    have HO := Lib.hid hok
    clear hok
    by_cases hlt : k < L.length
    · obtain ⟨b, o, rfl, x, y, g1, g2, g3, g4⟩ := (h.below hb).at hlt
      obtain ⟨z1, z2⟩ := HSZ.out _ (List.getElem_mem hlt)
      have hxs : x.size ≤ 1048576 := by rw [← size_list, g3]; exact z1
      have hys : y.size ≤ 1048576 := by rw [← size_list, g4]; exact z2
      have hxm : x.size ≤ maxLen := by unfold maxLen; omega
      have hym : y.size ≤ maxLen := by unfold maxLen; omega
      have ho : okF L[k] = (isTok x.data.toList && goodT y.data.toList) := by unfold okF; rw [g3, g4]
      have HA := Lib.hid (okAll_snoc L k hlt)
      have HN := Lib.hid (okAll_not L k hlt)
      have HF := Lib.hid ho
      clear g3 g4 z1 z2 ho
      cases ht : isTok x.data.toList with
      | false =>
        have HR := Lib.hid (HN.out (by rw [HF.out, ht]; rfl))
        have htk := refTok_any x wr hxm
        rw [ht] at htk
        clear ht
        go_wp2_with fail
        refine htk.mono ?_
        rintro e w1 ⟨rfl, rfl⟩
        go_wp2_with fail
        go_ret2
        refine ⟨.slice none 0 0, by rw [HR.out]; rfl, by rw [HR.out]; exact Own8.nil _ _, hb⟩
      | true =>
        have htk := refTok_any x wr hxm
        rw [ht] at htk
        go_wp2_with fail
        refine htk.mono ?_
        rintro e w1 ⟨rfl, rfl⟩
        cases hg : goodT y.data.toList with
        | false =>
          have HR := Lib.hid (HN.out (by rw [HF.out, ht, hg]; rfl))
          have hgd := refGood_any y wr hym
          rw [hg] at hgd
          clear ht hg
          go_wp2_with fail
          refine hgd.mono ?_
          rintro e w2 ⟨rfl, rfl⟩
          go_wp2_with fail
          go_ret2
          refine ⟨.slice none 0 0, by rw [HR.out]; rfl, by rw [HR.out]; exact Own8.nil _ _, hb⟩
        | true =>
          have hgd := refGood_any y wr hym
          rw [hg] at hgd
          have HOK := Lib.hid (show okAll (L.take (k + 1)) = true by rw [HA.out, HO.out, HF.out, ht, hg]; rfl)
          clear ht hg
          go_wp2_with fail
          refine hgd.mono ?_
          rintro e w2 ⟨rfl, rfl⟩
          go_wp2_with fail
          go_roundw
          case rel => exact ⟨k + 1, by omega, by go_num, HOK.out, hb⟩
          case measure => simp [intOf]; omega
    · obtain rfl : k = L.length := by omega
      rw [List.take_length] at HO
      by_cases h100 : 100 < L.length
      · have HR := Lib.hid (show printT L = ([], 42) by unfold printT; rw [if_pos HO.out, if_pos h100])
        have h100i : (100 : Int) < (L.length : Int) := by omega
        go_wp2_with fail
        go_ret2
        exact ⟨.slice none 0 0, by rw [HR.out]; rfl, by rw [HR.out]; exact Own8.nil _ _, hb⟩
      · have HR := Lib.hid (show printT L = (linesF L, 0) by unfold printT; rw [if_pos HO.out, if_neg h100])
        have h100i : ¬ (100 : Int) < (L.length : Int) := by omega
        obtain ⟨w0, rfl⟩ : ∃ x, x = wr := ⟨_, rfl⟩
        go_wp2_with fail
        go_loopw [5, 6] (fun v i wr => ∃ k : Nat, k ≤ L.length ∧ i = .int .i64 k ∧ Own8 wr w0.heap.size v (linesF (L.take k)) ∧ Below w0.heap.size w0 wr) (fun _ i _ => L.length - (intOf i).toNat)
        case atStart => exact ⟨0, by omega, rfl, Own8.made w0, (Below.refl _ _).alloc (Nat.le_refl _) _⟩
        case round =>
          obtain ⟨k, hk, rfl, hown, hb2⟩ := hrel
          have hbs2 := hb2.size
          by_cases hlt : k < L.length
          · obtain ⟨b, o, rfl, x, y, g1, g2, g3, g4⟩ := (h.below hb).at hlt
            obtain ⟨z1, z2⟩ := HSZ.out _ (List.getElem_mem hlt)
            have hxs : x.size ≤ 1048576 := by rw [← size_list, g3]; exact z1
            have hys : y.size ≤ 1048576 := by rw [← size_list, g4]; exact z2
            obtain ⟨st, hst⟩ : ∃ st : ByteArray, st = x ++ ⟨#[58, 32]⟩ ++ y ++ ⟨#[13, 10]⟩ := ⟨_, rfl⟩
            have HST := Lib.hid hst
            have hsl : st.data.toList = lineF L[k] := by rw [hst]; unfold lineF; rw [g3.symm, g4.symm]; simp
            have hsz : st.size ≤ 4194304 := by
              rw [← size_list, hsl]; unfold lineF; rw [g3.symm, g4.symm]; simp only [List.length_append, size_list, List.length_cons, List.length_nil]; omega
            have hall : ∀ W, Below w0.heap.size w0 W → W.cell? ⟨b, o + k * 2, none⟩ = some (.string x) ∧ W.cell? ⟨b, o + k * 2 + 1, none⟩ = some (.string y) := fun W hW => ⟨cell_keep g1 hW, cell_keep g2 hW⟩
            have HS := Lib.hid hall
            have HV := Lib.hid (linesF_snoc L k hlt)
            have hll := HLL.out k
            have HB0 := Lib.hid (hb2.drew)
            have HB1 := Lib.hid (hb2.drew.trans ((bytesW_below wr.drew st).mono hbs2))
            have HI1 := Lib.hid (bytesW_in8 wr.drew st)
            have HO1 := Lib.hid (hown.below ((Below.refl _ wr).drew.trans (bytesW_below wr.drew st)))
            have HS1 := Lib.hid (show w0.heap.size ≤ (bytesW wr.drew st).heap.size from HB1.out.size)
            have HSL := Lib.hid hsl
            have hsl2 : st.data.toList.length = st.size := size_list st
            have HSZ2 := Lib.hid hsl2
            have hcv : ∀ W : World, (convert 9 33 (.string (x ++ ⟨#[58, 32]⟩ ++ y ++ ⟨#[13, 10]⟩))).run Tryd.prog W = .ok (.slice (some ⟨W.heap.size, 0, none⟩) st.size (grownCap W st.size 0 5)) (bytesW W st) := fun W => by rw [← hst]; exact bytesW_run W st
            have a1 : ¬ 9223372036854775807 < x.size + 2 := by omega
            have a2 : ¬ 9223372036854775807 < x.size + 2 + y.size := by omega
            have a3 : ¬ 9223372036854775807 < x.size + 2 + y.size + 2 := by omega
            obtain ⟨d1, d2⟩ := hall wr hb2
            clear g3 g4 z1 z2 hst hsl hall hsl2 hown g1 g2
            go_wp2_with fail
            go_region_law (refine step_append8 rfl _ (.tmp 53) rfl w0.heap.size _ _ rfl HO1.out _ _ _ _ HSZ2.out rfl HI1.out (by omega) HS1.out ?_; intro v4 w4 hown4 hgrow4; have HB4 := Lib.hid (own_grown HB1.out HS1.out HO1.out hgrow4); clear hgrow4)
            all_goals
              rw [HSL.out, ← HV.out] at hown4
              go_wp2_with fail
              go_roundw
              case rel => exact ⟨k + 1, by omega, by go_num, hown4, HB4.out⟩
              case measure => simp [intOf]; omega
          · obtain rfl : k = L.length := by omega
            rw [List.take_length] at hown
            go_wp2_with fail
            go_ret2
            exact ⟨_, by rw [HR.out]; rfl, by rw [HR.out]; exact hown.mono hbs, hb.trans (hb2.mono hbs)⟩
end Go.Proofs.YtpgjlepjhbjhfaaDoor
