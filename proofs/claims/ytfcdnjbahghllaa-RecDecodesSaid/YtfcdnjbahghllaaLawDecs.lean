/-
  RecDecodes: what the program reads of bytes is what the document reads; the bytes are left as they were.
-/
import Derived.Test.YtfcdnjbahghllaaLawEncs
import Derived.Test.YtfcdnjbahghllaaDecRef
namespace Go.Proofs.Ytfcdnjbahghllaa
open Go.RowKit

set_option maxHeartbeats 2000000 in
theorem recDecodes_walk (l : List UInt8) (p : Option Addr) (c : Nat) (w : World) (hr : l.length ≤ 140737488351232) (hnc : l.length ≤ c ∧ c ≤ 140737488351232) (h : In8 w p l) :
    Calls Try.prog 6 #[.slice p l.length c] w fun e w' => e = .returned (.bool true) ∧ Below w.heap.size w w' := by
  obtain ⟨hnc, hcm⟩ := hnc
  go_enter Try.func6, Try.ntmps6
  go_wp2_with fail
  refine (alive_any _).mono ?_
  rintro e w1 ⟨rfl, hb1⟩
  have h1 := h.below hb1
  go_wp2_with fail
  refine (spare_any l p _ c rfl hr w1 h1).mono ?_
  rintro e w2 ⟨v2, rfl, hown2, hb2⟩
  have h2 := h1.below hb2
  obtain ⟨p2, c2, rfl, hc1, hc2, hin⟩ := hown2.in8n (n := l.length + 8) (by simp [marks_length])
  have hin2 := hin.fore
  have hc3 := hc2
  unfold maxLen at hc2
  go_wp2_with fail
  refine (recDec_any l p2 _ c2 rfl (by omega) hc3 w2 hin2).mono ?_
  rintro e w3 ⟨rfl, hb3⟩
  have h3 := h2.below hb3
  have hin3 := hin.below hb3
  generalize hd : dec l = d at *
  have HD := Lib.hid hd
  clear hd
  obtain ⟨ds, dop, dn, did, dlen, derr⟩ := d
  unfold Dec.val
  have hB := cells4_at w3 (.int .i64 ds) (.int .i64 dop) (.int .i64 dn) (.string ⟨did.toArray⟩) 29
  have h4 := h3.alloc (.cells #[.int .i64 ds, .int .i64 dop, .int .i64 dn, .string ⟨did.toArray⟩] 29)
  have hin4 := hin3.alloc (.cells #[.int .i64 ds, .int .i64 dop, .int .i64 dn, .string ⟨did.toArray⟩] 29)
  have hb4 := (Below.refl w3.heap.size w3).alloc (Nat.le_refl _) (.cells #[.int .i64 ds, .int .i64 dop, .int .i64 dn, .string ⟨did.toArray⟩] 29)
  have hs4 : (w3.alloc (.cells #[.int .i64 ds, .int .i64 dop, .int .i64 dn, .string ⟨did.toArray⟩] 29)).heap.size = w3.heap.size + 1 := World.size_alloc _ _
  go_wp2_with fail
  generalize hw4 : w3.alloc (.cells #[.int .i64 ds, .int .i64 dop, .int .i64 dn, .string ⟨did.toArray⟩] 29) = w4 at *
  clear hw4
  refine (refDec_any l p _ c rfl hnc (by unfold maxLen; omega) w4 h4).mono ?_
  rintro e w5 ⟨rfl, hb5⟩
  rw [HD.out]
  unfold Dec.val
  have h5 := h4.below hb5
  have hin5 := hin4.below hb5
  have c0 := (hb5.cell (p := ⟨w3.heap.size, 0, none⟩) (by rw [hs4]; simp)).trans hB.1
  have c1 := (hb5.cell (p := ⟨w3.heap.size, 1, none⟩) (by rw [hs4]; simp)).trans hB.2.1
  have c2' := (hb5.cell (p := ⟨w3.heap.size, 2, none⟩) (by rw [hs4]; simp)).trans hB.2.2.1
  have c3 := (hb5.cell (p := ⟨w3.heap.size, 3, none⟩) (by rw [hs4]; simp)).trans hB.2.2.2
  have d0 := fun O => cell_past c0 O
  have d1 := fun O => cell_past c1 O
  have d2 := fun O => cell_past c2' O
  have d3 := fun O => cell_past c3 O
  have hs5 := hb5.size
  rw [hs4] at hs5
  clear hB c0 c1 c2' c3
  have HS4 := Lib.hid hs4
  clear hs4
  go_wp2_with fail
  have h6 := h5.alloc (.cells #[.int .i64 ds, .int .i64 dop, .int .i64 dn, .string ⟨did.toArray⟩] 29)
  have hin6 := hin5.alloc (.cells #[.int .i64 ds, .int .i64 dop, .int .i64 dn, .string ⟨did.toArray⟩] 29)
  have hb6 := (Below.refl w5.heap.size w5).alloc (Nat.le_refl _) (.cells #[.int .i64 ds, .int .i64 dop, .int .i64 dn, .string ⟨did.toArray⟩] 29)
  clear d0 d1 d2 d3
  generalize w5.alloc (.cells #[.int .i64 ds, .int .i64 dop, .int .i64 dn, .string ⟨did.toArray⟩] 29) = w6 at *
  refine (spare_any l p _ c rfl hr w6 h6).mono ?_
  rintro e w7 ⟨v7, rfl, hown7, hb7⟩
  have hin7 := hin6.below hb7
  go_wp2_with fail
  obtain ⟨p8, c8, rfl, k1, k2, hin8⟩ := hown7.in8n (n := l.length + 8) (by simp [marks_length])
  refine (sameBytes_any _ _ p2 p8 _ c2 _ c8 (by simp [marks_length]) (by simp [marks_length]) (by omega) (by omega) w7 hin7 hin8).mono ?_
  rintro e w8 ⟨rfl, hb8⟩
  have hdec : decide (l ++ marks 8 = l ++ marks 8) = true := decide_eq_true rfl
  rw [hdec]
  clear hdec
  go_wp2_with fail
  go_ret
  have s1 := hb1.size
  have s2 := hb2.size
  have s3 := hb3.size
  have s4 := hb4.size
  have s5 := hb5.size
  have s6 := hb6.size
  have s7 := hb7.size
  exact ⟨ret_bool rfl, (((((((hb1.trans (hb2.mono (by omega))).trans (hb3.mono (by omega))).trans (hb4.mono (by omega))).trans (hb5.mono (by omega))).trans (hb6.mono (by omega))).trans (hb7.mono (by omega))).trans (hb8.mono (by omega)))⟩
end Go.Proofs.Ytfcdnjbahghllaa
