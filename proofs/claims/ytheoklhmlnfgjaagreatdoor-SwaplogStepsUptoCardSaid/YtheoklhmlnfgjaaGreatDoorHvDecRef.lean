/-
  The document's Decode.
-/
import Derived.Test.YtheoklhmlnfgjaaGreatDoorHvDecRec
namespace Go.Proofs.YtheoklhmlnfgjaaGreatDoor
open Go.RowKit

set_option maxRecDepth 100000 in
theorem refDec_0 (p : Option Addr) (c : Nat) (w : World) :
    Calls Tryz.prog 34 #[.slice p 0 c] w fun e w' => e = .returned (Dec.none 0).val ∧ Below w.heap.size w w' := by
  go_enter Tryz.func34, Tryz.ntmps34
  go_wp2_with fail
  refine bodyPost_ret (v := (Dec.none 0).val) (by simp [results, Tryz.results34, go_sem, Dec.val, Dec.none]) rfl ⟨rfl, (Below.refl _ w).alloc (Nat.le_refl _) _⟩

set_option maxRecDepth 100000 in
theorem refDec_1 (n : Nat) (b o c : Nat) (x : Int) (w : World) (hn : 0 < n) (hm : n ≤ maxLen) (hx1 : ¬ x = 193) (hx2 : ¬ x = 194) (hc : w.cell? ⟨b, o, none⟩ = some (.int .u8 x)) :
    Calls Tryz.prog 34 #[.slice (some ⟨b, o, none⟩) n c] w fun e w' => e = .returned (Dec.none 100).val ∧ Below w.heap.size w w' := by
  unfold maxLen at hm
  have hc' := fun O => cell_past hc O
  have b0 : ((n : Int) == 0) = false := by simp; omega
  have b1 : (x != 193) = true := by simp [hx1]
  have b2 : (x != 194) = true := by simp [hx2]
  clear hx1 hx2
  go_enter Tryz.func34, Tryz.ntmps34
  go_wp2_with fail
  refine bodyPost_ret (v := (Dec.none 100).val) (by simp [results, Tryz.results34, go_sem, Dec.val, Dec.none]) rfl ⟨rfl, (Below.refl _ w).alloc (Nat.le_refl _) _⟩

set_option maxRecDepth 100000 in
theorem refDec_2 (n : Nat) (b o c : Nat) (x : Int) (w : World) (hn : 0 < n) (hm : n < 3) (hx : x = 193 ∨ x = 194) (hc : w.cell? ⟨b, o, none⟩ = some (.int .u8 x)) :
    Calls Tryz.prog 34 #[.slice (some ⟨b, o, none⟩) n c] w fun e w' => e = .returned (Dec.none 0).val ∧ Below w.heap.size w w' := by
  have hc' := fun O => cell_past hc O
  have b0 : ((n : Int) == 0) = false := by simp; omega
  rcases hx with rfl | rfl
  all_goals
    go_enter Tryz.func34, Tryz.ntmps34
    go_wp2_with fail
    refine bodyPost_ret (v := (Dec.none 0).val) (by simp [results, Tryz.results34, go_sem, Dec.val, Dec.none]) rfl ⟨rfl, (Below.refl _ w).alloc (Nat.le_refl _) _⟩

set_option maxRecDepth 100000 in
theorem refDec_3 (l : List UInt8) (n : Nat) (b o c : Nat) (x : Int) (w : World) (hl : l.length = n) (hn : 3 ≤ n) (hnc : n ≤ c) (hm : c ≤ maxLen) (hx : x = 193 ∨ x = 194) (hc0 : w.cell? ⟨b, o, none⟩ = some (.int .u8 x))
    (hc : ∀ i, i < l.length → w.cell? ⟨b, o + i, none⟩ = some (.int .u8 (bt l i))) (hk : 4096 < decK l) :
    Calls Tryz.prog 34 #[.slice (some ⟨b, o, none⟩) n c] w fun e w' => e = .returned (Dec.none 100).val ∧ Below w.heap.size w w' := by
  have hc' := fun O => cell_past hc0 O
  have b0 : ((n : Int) == 0) = false := by simp; omega
  have hin := In8.sl (w := w.alloc (.cells #[.int .i64 0, .int .i64 0, .int .i64 0, .string ⟨#[]⟩] 35)) (fun i hi => cell_past (hc i hi) _) 1 3 (by omega)
  have hkl := decK_lt l (by omega)
  have hsl := sl_length l 1 3 (by omega)
  have HS := Lib.hid hsl
  have HC := Lib.hid hc
  have HL := Lib.hid hl
  unfold maxLen at hm
  clear hsl hc hl
  rcases hx with rfl | rfl
  all_goals
    go_enter Tryz.func34, Tryz.ntmps34
    go_wp2_with fail
    refine (value_any _ _ _ _ HS.out (by omega) _ hin).mono ?_
    rintro e w1 ⟨rfl, rfl⟩
    rw [show valB (Go.Proofs.YtheoklhmlnfgjaaGreatDoor.sl l 1 3) = decK l from rfl]
    go_wp2_with fail
    refine bodyPost_ret (v := (Dec.none 100).val) (by simp [results, Tryz.results34, go_sem, Dec.val, Dec.none]) rfl ⟨rfl, (Below.refl _ w).alloc (Nat.le_refl _) _⟩
set_option maxRecDepth 100000 in
theorem refDec_4 (l : List UInt8) (n : Nat) (b o c : Nat) (x : Int) (w : World) (hl : l.length = n) (hn : 3 ≤ n) (hnc : n ≤ c) (hm : c ≤ maxLen) (hx : x = 193 ∨ x = 194) (hc0 : w.cell? ⟨b, o, none⟩ = some (.int .u8 x))
    (hc : ∀ i, i < l.length → w.cell? ⟨b, o + i, none⟩ = some (.int .u8 (bt l i))) (hk : decK l ≤ 4096) (hs : n < decK l + 15) :
    Calls Tryz.prog 34 #[.slice (some ⟨b, o, none⟩) n c] w fun e w' => e = .returned (Dec.none 0).val ∧ Below w.heap.size w w' := by
  have hc' := fun O => cell_past hc0 O
  have b0 : ((n : Int) == 0) = false := by simp; omega
  have hin := In8.sl (w := w.alloc (.cells #[.int .i64 0, .int .i64 0, .int .i64 0, .string ⟨#[]⟩] 35)) (fun i hi => cell_past (hc i hi) _) 1 3 (by omega)
  have hkl := decK_lt l (by omega)
  have hsl := sl_length l 1 3 (by omega)
  have HS := Lib.hid hsl
  have HC := Lib.hid hc
  have HL := Lib.hid hl
  unfold maxLen at hm
  clear hsl hc hl
  rcases hx with rfl | rfl
  all_goals
    go_enter Tryz.func34, Tryz.ntmps34
    go_wp2_with fail
    refine (value_any _ _ _ _ HS.out (by omega) _ hin).mono ?_
    rintro e w1 ⟨rfl, rfl⟩
    rw [show valB (Go.Proofs.YtheoklhmlnfgjaaGreatDoor.sl l 1 3) = decK l from rfl]
    go_wp2_with fail
    refine bodyPost_ret (v := (Dec.none 0).val) (by simp [results, Tryz.results34, go_sem, Dec.val, Dec.none]) rfl ⟨rfl, (Below.refl _ w).alloc (Nat.le_refl _) _⟩

set_option maxRecDepth 100000 in
set_option maxHeartbeats 2000000 in
theorem refDec_5 (l : List UInt8) (n : Nat) (b o c : Nat) (x : Int) (w : World) (hl : l.length = n) (hn : 3 ≤ n) (hnc : n ≤ c) (hm : c ≤ maxLen) (hx : x = 193 ∨ x = 194) (hc0 : w.cell? ⟨b, o, none⟩ = some (.int .u8 x))
    (hc : ∀ i, i < l.length → w.cell? ⟨b, o + i, none⟩ = some (.int .u8 (bt l i))) (hk : decK l ≤ 4096) (hs : decK l + 15 ≤ n) (hbad : ¬ valB (Go.Proofs.YtheoklhmlnfgjaaGreatDoor.sl l (decK l + 11) (decK l + 15)) = crc (l.take (decK l + 11))) :
    Calls Tryz.prog 34 #[.slice (some ⟨b, o, none⟩) n c] w fun e w' => e = .returned (Dec.none 100).val ∧ Below w.heap.size w w' := by
  have hc' := fun O => cell_past hc0 O
  have b0 : ((n : Int) == 0) = false := by simp; omega
  have hin := In8.sl (w := w.alloc (.cells #[.int .i64 0, .int .i64 0, .int .i64 0, .string ⟨#[]⟩] 35)) (fun i hi => cell_past (hc i hi) _) 1 3 (by omega)
  have hin2 := In8.sl (w := w.alloc (.cells #[.int .i64 0, .int .i64 0, .int .i64 0, .string ⟨#[]⟩] 35)) (fun i hi => cell_past (hc i hi) _) (decK l + 11) (decK l + 15) (by omega)
  have hin3 := In8.takeAt (w := w.alloc (.cells #[.int .i64 0, .int .i64 0, .int .i64 0, .string ⟨#[]⟩] 35)) (fun i hi => cell_past (hc i hi) _) (decK l + 11) (by omega)
  have hsl := sl_length l 1 3 (by omega)
  have hsl2 : (Go.Proofs.YtheoklhmlnfgjaaGreatDoor.sl l (decK l + 11) (decK l + 15)).length = 4 := by rw [sl_length l (decK l + 11) (decK l + 15) (by omega)]; omega
  have hsl3 : (l.take (decK l + 11)).length = decK l + 11 := by rw [List.length_take]; omega
  have hne : ((valB (Go.Proofs.YtheoklhmlnfgjaaGreatDoor.sl l (decK l + 11) (decK l + 15)) : Int) != (crc (l.take (decK l + 11)) : Int)) = true := by
    simp; omega
  have HS := Lib.hid hsl
  have HS2 := Lib.hid hsl2
  have HS3 := Lib.hid hsl3
  have HC := Lib.hid hc
  have HL := Lib.hid hl
  unfold maxLen at hm
  clear hsl hsl2 hsl3 hc hl hbad
  generalize hkk : decK l = k at *
  have HK := Lib.hid hkk
  clear hkk
  rcases hx with rfl | rfl
  all_goals
    go_enter Tryz.func34, Tryz.ntmps34
    go_wp2_with fail
    refine (value_any _ _ _ _ HS.out (by omega) _ hin).mono ?_
    rintro e w1 ⟨rfl, rfl⟩
    rw [show valB (Go.Proofs.YtheoklhmlnfgjaaGreatDoor.sl l 1 3) = decK l from rfl, HK.out]
    go_wp2_with fail
    go_quiet ((first | (go_at_call 73; exact quiet_left (value_any _ _ 4 _ HS2.out (by omega) _ (hin2.drewN _))) | (go_at_call 74; exact quiet_left (refSum_any _ _ _ _ HS3.out (by unfold maxLen; omega) _ (hin3.drewN _)))))
    go_wp2_with fail
    refine bodyPost_ret (v := (Dec.none 100).val) (by simp [results, Tryz.results34, go_sem, Dec.val, Dec.none]) rfl ⟨rfl, ((((bdrewN ((Below.refl _ w).alloc (Nat.le_refl _) _) _).setCell (p := ⟨w.heap.size, 0, none⟩) (Nat.le_refl _) _).setCell (p := ⟨w.heap.size, 1, none⟩) (Nat.le_refl _) _).setCell (p := ⟨w.heap.size, 2, none⟩) (Nat.le_refl _) _).setCell (p := ⟨w.heap.size, 3, none⟩) (Nat.le_refl _) _⟩

set_option maxRecDepth 100000 in
theorem cellDrew {w : World} {a : Addr} {v : Value} (h : w.cell? a = some v) : w.drew.cell? a = some v := h
set_option maxRecDepth 100000 in
theorem keepSet {w : World} {b g : Nat} (hb : ¬ b = g) (o : Nat) (x0 x1 x2 x3 : Value) :
    ((((w.setCell ⟨g, 0, none⟩ x0).setCell ⟨g, 1, none⟩ x1).setCell ⟨g, 2, none⟩ x2).setCell ⟨g, 3, none⟩ x3).cell? ⟨b, o, none⟩ = w.cell? ⟨b, o, none⟩ := by
  have h : ∀ (W : World) (j : Nat) (x : Value), (W.setCell ⟨g, j, none⟩ x).cell? ⟨b, o, none⟩ = W.cell? ⟨b, o, none⟩ := fun W j x => World.cell?_of_block (Below.heap_setCell W ⟨g, j, none⟩ x b hb)
  rw [h, h, h, h]
set_option maxRecDepth 100000 in
theorem keepSet8 {w : World} {b o g : Nat} {l : List UInt8} (h : In8 w (some ⟨b, o, none⟩) l) (hb : ¬ b = g) (x0 x1 x2 x3 : Value) :
    In8 ((((w.setCell ⟨g, 0, none⟩ x0).setCell ⟨g, 1, none⟩ x1).setCell ⟨g, 2, none⟩ x2).setCell ⟨g, 3, none⟩ x3) (some ⟨b, o, none⟩) l := by
  intro h0
  obtain ⟨b', o', e, hc⟩ := h h0
  cases e
  refine ⟨b, o, rfl, fun i hi => ?_⟩
  rw [keepSet hb]
  exact hc i hi

set_option maxRecDepth 100000 in
set_option maxHeartbeats 4000000 in
theorem refDec_6 (l : List UInt8) (n : Nat) (b o c : Nat) (x : Int) (w : World) (hl : l.length = n) (hn : 3 ≤ n) (hnc : n ≤ c) (hm : c ≤ maxLen) (hx : x = 193 ∨ x = 194) (hc0 : w.cell? ⟨b, o, none⟩ = some (.int .u8 x))
    (hc : ∀ i, i < l.length → w.cell? ⟨b, o + i, none⟩ = some (.int .u8 (bt l i))) (hk : decK l ≤ 4096) (hs : decK l + 15 ≤ n) (hgood : valB (Go.Proofs.YtheoklhmlnfgjaaGreatDoor.sl l (decK l + 11) (decK l + 15)) = crc (l.take (decK l + 11))) :
    Calls Tryz.prog 34 #[.slice (some ⟨b, o, none⟩) n c] w fun e w' => e = .returned (Dec.val ⟨valB (Go.Proofs.YtheoklhmlnfgjaaGreatDoor.sl l 3 7), x - 192, valB (Go.Proofs.YtheoklhmlnfgjaaGreatDoor.sl l 7 11), Go.Proofs.YtheoklhmlnfgjaaGreatDoor.sl l 11 (decK l + 11), decK l + 15, 0⟩) ∧ Below w.heap.size w w' := by
  have hbg : ¬ b = w.heap.size := by have := World.block_lt_of_cell? w _ hc0; simp at this; omega
  have hc' := fun O => cell_past hc0 O
  have b0 : ((n : Int) == 0) = false := by simp; omega
  have hin := In8.sl (w := w.alloc (.cells #[.int .i64 0, .int .i64 0, .int .i64 0, .string ⟨#[]⟩] 35)) (fun i hi => cell_past (hc i hi) _) 1 3 (by omega)
  have hin2 := In8.sl (w := w.alloc (.cells #[.int .i64 0, .int .i64 0, .int .i64 0, .string ⟨#[]⟩] 35)) (fun i hi => cell_past (hc i hi) _) (decK l + 11) (decK l + 15) (by omega)
  have hin3 := In8.takeAt (w := w.alloc (.cells #[.int .i64 0, .int .i64 0, .int .i64 0, .string ⟨#[]⟩] 35)) (fun i hi => cell_past (hc i hi) _) (decK l + 11) (by omega)
  have hsl := sl_length l 1 3 (by omega)
  have hsl2 : (Go.Proofs.YtheoklhmlnfgjaaGreatDoor.sl l (decK l + 11) (decK l + 15)).length = 4 := by rw [sl_length l (decK l + 11) (decK l + 15) (by omega)]; omega
  have hsl3 : (l.take (decK l + 11)).length = decK l + 11 := by rw [List.length_take]; omega
  have hne : ((valB (Go.Proofs.YtheoklhmlnfgjaaGreatDoor.sl l (decK l + 11) (decK l + 15)) : Int) != (crc (l.take (decK l + 11)) : Int)) = false := by
    simp; omega
  have hin4 := In8.sl (w := w.alloc (.cells #[.int .i64 0, .int .i64 0, .int .i64 0, .string ⟨#[]⟩] 35)) (fun i hi => cell_past (hc i hi) _) 3 7 (by omega)
  have hin5 := In8.sl (w := w.alloc (.cells #[.int .i64 0, .int .i64 0, .int .i64 0, .string ⟨#[]⟩] 35)) (fun i hi => cell_past (hc i hi) _) 7 11 (by omega)
  have hin6 := In8.sl (w := w.alloc (.cells #[.int .i64 0, .int .i64 0, .int .i64 0, .string ⟨#[]⟩] 35)) (fun i hi => cell_past (hc i hi) _) 11 (decK l + 11) (by omega)
  have hsl4 : (Go.Proofs.YtheoklhmlnfgjaaGreatDoor.sl l 3 7).length = 4 := by rw [sl_length l 3 7 (by omega)]
  have hsl5 : (Go.Proofs.YtheoklhmlnfgjaaGreatDoor.sl l 7 11).length = 4 := by rw [sl_length l 7 11 (by omega)]
  have hsl6 : (Go.Proofs.YtheoklhmlnfgjaaGreatDoor.sl l 11 (decK l + 11)).length = decK l := by rw [sl_length l 11 (decK l + 11) (by omega)]; omega
  have HS := Lib.hid hsl
  have HS2 := Lib.hid hsl2
  have HS3 := Lib.hid hsl3
  have HS4 := Lib.hid hsl4
  have HS5 := Lib.hid hsl5
  have HS6 := Lib.hid hsl6
  have HC := Lib.hid hc
  have HL := Lib.hid hl
  unfold maxLen at hm
  clear hsl hsl2 hsl3 hsl4 hsl5 hsl6 hc hl hgood
  generalize hkk : decK l = k at *
  have HK := Lib.hid hkk
  clear hkk
  rcases hx with rfl | rfl
  · go_enter Tryz.func34, Tryz.ntmps34
    go_wp2_with fail
    refine (value_any _ _ _ _ HS.out (by omega) _ hin).mono ?_
    rintro e w1 ⟨rfl, rfl⟩
    rw [show valB (Go.Proofs.YtheoklhmlnfgjaaGreatDoor.sl l 1 3) = decK l from rfl, HK.out]
    go_wp2_with fail
    go_quiet ((first | (go_at_call 73; exact quiet_left (value_any _ _ 4 _ HS2.out (by omega) _ (hin2.drewN _))) | (go_at_call 74; exact quiet_left (refSum_any _ _ _ _ HS3.out (by unfold maxLen; omega) _ (hin3.drewN _)))))
    go_wp2_with fail
    have q1 : (7 : Int) ≤ (c : Int) := by omega
    have q2 : (11 : Int) ≤ (c : Int) := by omega
    have q3 : (k : Int) + 11 ≤ (c : Int) := by omega
    have q4 : 7 ≤ c := by omega
    have q5 : 11 ≤ c := by omega
    have q6 : k + 11 ≤ c := by omega
    have q7 : (0 : Int) ≤ (k : Int) + 11 := by omega
    have q8 : (11 : Int) ≤ (k : Int) + 11 := by omega
    have q9 : ((k : Int) + 11).toNat = k + 11 := by omega
    have q10 : ¬ c = 3 := by omega
    have q11 : ¬ c = 7 := by omega
    have q12 : ¬ c = 11 := by omega
    have q13 : IntKind.i64.wrap ((k : Int) + 11) = (k : Int) + 11 := IntWalk.i64_in _ ⟨by omega, by omega⟩
    have q14 : IntKind.i64.wrap ((k : Int) + 15) = (k : Int) + 15 := IntWalk.i64_in _ ⟨by omega, by omega⟩
    have q17 : IntKind.i64.wrap 193 = 193 := by decide
    have q18 : IntKind.i64.wrap 1 = 1 := by decide
    have q16 : 0 < n := by omega
    have q15 : (0 : Int) < (n : Int) := by omega
    have hd4 := hin4.drewN nq
    have hd5 := hin5.drewN nq
    have hd6 := hin6.drewN nq
    have hd0 : ((w.alloc (.cells #[.int .i64 0, .int .i64 0, .int .i64 0, .string ⟨#[]⟩] 35)).drewN nq).cell? ⟨b, o, none⟩ = some (.int .u8 193) := hc' _
    have hbb := bdrewN ((Below.refl _ w).alloc (Nat.le_refl _) (.cells #[.int .i64 0, .int .i64 0, .int .i64 0, .string ⟨#[]⟩] 35)) nq
    have hblk : ((w.alloc (.cells #[.int .i64 0, .int .i64 0, .int .i64 0, .string ⟨#[]⟩] 35)).drewN nq).heap[w.heap.size]? = some (.cells #[.int .i64 0, .int .i64 0, .int .i64 0, .string ⟨#[]⟩] 35 (0, 0)) := heap_alloc_new w _
    generalize (w.alloc (.cells #[.int .i64 0, .int .i64 0, .int .i64 0, .string ⟨#[]⟩] 35)).drewN nq = W0 at *
    obtain ⟨e0, e1, e2, e3⟩ := four_of_block hblk
    have e8 := free_of_block hblk
    clear hblk hin hin4 hin5 hin6 hin2 hin3 hc' hc0 hne
    go_region_held3 (fun w' => In8 w' (some ⟨b, o + 3, none⟩) (Go.Proofs.YtheoklhmlnfgjaaGreatDoor.sl l 3 7) ∧ In8 w' (some ⟨b, o + 7, none⟩) (Go.Proofs.YtheoklhmlnfgjaaGreatDoor.sl l 7 11) ∧ In8 w' (some ⟨b, o + 11, none⟩) (Go.Proofs.YtheoklhmlnfgjaaGreatDoor.sl l 11 (k + 11)) ∧ Sem.run Tryz.prog (convert 22 9 (.slice (some ⟨b, o + 11, none⟩) k (c - 11))) w' = .ok (.string ⟨(Go.Proofs.YtheoklhmlnfgjaaGreatDoor.sl l 11 (k + 11)).toArray⟩) w' ∧ w'.cell? ⟨b, o, none⟩ = some (.int .u8 193))
      (refine ⟨?_, ?_, ?_, ?_, ?_⟩ <;> first | (with_reducible assumption) | (with_reducible exact In8.drew (by assumption)) | (with_reducible exact keepSet8 (by assumption) hbg _ _ _ _) | (with_reducible exact In8.drew (keepSet8 (by assumption) hbg _ _ _ _)) | (with_reducible exact toStr_at (by assumption) HS6.out _) | (with_reducible exact toStr_at (In8.drew (by assumption)) HS6.out _) | (with_reducible exact toStr_at (In8.drew (keepSet8 (by assumption) hbg _ _ _ _)) HS6.out _) | (with_reducible exact toStr_at (keepSet8 (by assumption) hbg _ _ _ _) HS6.out _) | (with_reducible exact cellDrew (by assumption)) | (with_reducible exact cellDrew ((keepSet hbg _ _ _ _ _).trans (by assumption))) | (with_reducible exact (keepSet hbg _ _ _ _ _).trans (by assumption)))
      (first | (go_at_call 73; (first | (refine (value_any _ _ 4 _ HS4.out (by omega) _ ?_).mono ?_; (first | (with_reducible assumption) | (with_reducible exact In8.drew (by assumption)))) | (refine (value_any _ _ 4 _ HS5.out (by omega) _ ?_).mono ?_; (first | (with_reducible assumption) | (with_reducible exact In8.drew (by assumption))))); rintro e w1 ⟨rfl, rfl⟩))
    all_goals
      go_wp2_with fail
      refine bodyPost_ret (v := Dec.val ⟨valB (Go.Proofs.YtheoklhmlnfgjaaGreatDoor.sl l 3 7), 1, valB (Go.Proofs.YtheoklhmlnfgjaaGreatDoor.sl l 7 11), Go.Proofs.YtheoklhmlnfgjaaGreatDoor.sl l 11 (k + 11), k + 15, 0⟩) (by simp [results, Tryz.results34, go_sem, Dec.val, e0, e1, e2, e3]) rfl ⟨rfl, ((((hbb.setCell (p := ⟨w.heap.size, 0, none⟩) (Nat.le_refl _) _).setCell (p := ⟨w.heap.size, 1, none⟩) (Nat.le_refl _) _).setCell (p := ⟨w.heap.size, 2, none⟩) (Nat.le_refl _) _).setCell (p := ⟨w.heap.size, 3, none⟩) (Nat.le_refl _) _).drew⟩
  · go_enter Tryz.func34, Tryz.ntmps34
    go_wp2_with fail
    refine (value_any _ _ _ _ HS.out (by omega) _ hin).mono ?_
    rintro e w1 ⟨rfl, rfl⟩
    rw [show valB (Go.Proofs.YtheoklhmlnfgjaaGreatDoor.sl l 1 3) = decK l from rfl, HK.out]
    go_wp2_with fail
    go_quiet ((first | (go_at_call 73; exact quiet_left (value_any _ _ 4 _ HS2.out (by omega) _ (hin2.drewN _))) | (go_at_call 74; exact quiet_left (refSum_any _ _ _ _ HS3.out (by unfold maxLen; omega) _ (hin3.drewN _)))))
    go_wp2_with fail
    have q1 : (7 : Int) ≤ (c : Int) := by omega
    have q2 : (11 : Int) ≤ (c : Int) := by omega
    have q3 : (k : Int) + 11 ≤ (c : Int) := by omega
    have q4 : 7 ≤ c := by omega
    have q5 : 11 ≤ c := by omega
    have q6 : k + 11 ≤ c := by omega
    have q7 : (0 : Int) ≤ (k : Int) + 11 := by omega
    have q8 : (11 : Int) ≤ (k : Int) + 11 := by omega
    have q9 : ((k : Int) + 11).toNat = k + 11 := by omega
    have q10 : ¬ c = 3 := by omega
    have q11 : ¬ c = 7 := by omega
    have q12 : ¬ c = 11 := by omega
    have q13 : IntKind.i64.wrap ((k : Int) + 11) = (k : Int) + 11 := IntWalk.i64_in _ ⟨by omega, by omega⟩
    have q14 : IntKind.i64.wrap ((k : Int) + 15) = (k : Int) + 15 := IntWalk.i64_in _ ⟨by omega, by omega⟩
    have q17 : IntKind.i64.wrap 194 = 194 := by decide
    have q18 : IntKind.i64.wrap 2 = 2 := by decide
    have q16 : 0 < n := by omega
    have q15 : (0 : Int) < (n : Int) := by omega
    have hd4 := hin4.drewN nq
    have hd5 := hin5.drewN nq
    have hd6 := hin6.drewN nq
    have hd0 : ((w.alloc (.cells #[.int .i64 0, .int .i64 0, .int .i64 0, .string ⟨#[]⟩] 35)).drewN nq).cell? ⟨b, o, none⟩ = some (.int .u8 194) := hc' _
    have hbb := bdrewN ((Below.refl _ w).alloc (Nat.le_refl _) (.cells #[.int .i64 0, .int .i64 0, .int .i64 0, .string ⟨#[]⟩] 35)) nq
    have hblk : ((w.alloc (.cells #[.int .i64 0, .int .i64 0, .int .i64 0, .string ⟨#[]⟩] 35)).drewN nq).heap[w.heap.size]? = some (.cells #[.int .i64 0, .int .i64 0, .int .i64 0, .string ⟨#[]⟩] 35 (0, 0)) := heap_alloc_new w _
    generalize (w.alloc (.cells #[.int .i64 0, .int .i64 0, .int .i64 0, .string ⟨#[]⟩] 35)).drewN nq = W0 at *
    obtain ⟨e0, e1, e2, e3⟩ := four_of_block hblk
    have e8 := free_of_block hblk
    clear hblk hin hin4 hin5 hin6 hin2 hin3 hc' hc0 hne
    go_region_held3 (fun w' => In8 w' (some ⟨b, o + 3, none⟩) (Go.Proofs.YtheoklhmlnfgjaaGreatDoor.sl l 3 7) ∧ In8 w' (some ⟨b, o + 7, none⟩) (Go.Proofs.YtheoklhmlnfgjaaGreatDoor.sl l 7 11) ∧ In8 w' (some ⟨b, o + 11, none⟩) (Go.Proofs.YtheoklhmlnfgjaaGreatDoor.sl l 11 (k + 11)) ∧ Sem.run Tryz.prog (convert 22 9 (.slice (some ⟨b, o + 11, none⟩) k (c - 11))) w' = .ok (.string ⟨(Go.Proofs.YtheoklhmlnfgjaaGreatDoor.sl l 11 (k + 11)).toArray⟩) w' ∧ w'.cell? ⟨b, o, none⟩ = some (.int .u8 194))
      (refine ⟨?_, ?_, ?_, ?_, ?_⟩ <;> first | (with_reducible assumption) | (with_reducible exact In8.drew (by assumption)) | (with_reducible exact keepSet8 (by assumption) hbg _ _ _ _) | (with_reducible exact In8.drew (keepSet8 (by assumption) hbg _ _ _ _)) | (with_reducible exact toStr_at (by assumption) HS6.out _) | (with_reducible exact toStr_at (In8.drew (by assumption)) HS6.out _) | (with_reducible exact toStr_at (In8.drew (keepSet8 (by assumption) hbg _ _ _ _)) HS6.out _) | (with_reducible exact toStr_at (keepSet8 (by assumption) hbg _ _ _ _) HS6.out _) | (with_reducible exact cellDrew (by assumption)) | (with_reducible exact cellDrew ((keepSet hbg _ _ _ _ _).trans (by assumption))) | (with_reducible exact (keepSet hbg _ _ _ _ _).trans (by assumption)))
      (first | (go_at_call 73; (first | (refine (value_any _ _ 4 _ HS4.out (by omega) _ ?_).mono ?_; (first | (with_reducible assumption) | (with_reducible exact In8.drew (by assumption)))) | (refine (value_any _ _ 4 _ HS5.out (by omega) _ ?_).mono ?_; (first | (with_reducible assumption) | (with_reducible exact In8.drew (by assumption))))); rintro e w1 ⟨rfl, rfl⟩))
    all_goals
      go_wp2_with fail
      refine bodyPost_ret (v := Dec.val ⟨valB (Go.Proofs.YtheoklhmlnfgjaaGreatDoor.sl l 3 7), 2, valB (Go.Proofs.YtheoklhmlnfgjaaGreatDoor.sl l 7 11), Go.Proofs.YtheoklhmlnfgjaaGreatDoor.sl l 11 (k + 11), k + 15, 0⟩) (by simp [results, Tryz.results34, go_sem, Dec.val, e0, e1, e2, e3]) rfl ⟨rfl, ((((hbb.setCell (p := ⟨w.heap.size, 0, none⟩) (Nat.le_refl _) _).setCell (p := ⟨w.heap.size, 1, none⟩) (Nat.le_refl _) _).setCell (p := ⟨w.heap.size, 2, none⟩) (Nat.le_refl _) _).setCell (p := ⟨w.heap.size, 3, none⟩) (Nat.le_refl _) _).drew⟩

set_option maxRecDepth 100000 in
/-- what both read: one plain word -/
theorem dec_split (P : Dec → Prop) (l : List UInt8)
    (h0 : l.length = 0 → P (.none 0)) (h1 : 0 < l.length → bt l 0 ≠ 193 → bt l 0 ≠ 194 → P (.none 100)) (h2 : 0 < l.length → (bt l 0 = 193 ∨ bt l 0 = 194) → l.length < 3 → P (.none 0))
    (h3 : (bt l 0 = 193 ∨ bt l 0 = 194) → 3 ≤ l.length → 4096 < decK l → P (.none 100)) (h4 : (bt l 0 = 193 ∨ bt l 0 = 194) → 3 ≤ l.length → decK l ≤ 4096 → l.length < decK l + 15 → P (.none 0))
    (h5 : (bt l 0 = 193 ∨ bt l 0 = 194) → 3 ≤ l.length → decK l ≤ 4096 → decK l + 15 ≤ l.length → ¬ valB (Go.Proofs.YtheoklhmlnfgjaaGreatDoor.sl l (decK l + 11) (decK l + 15)) = crc (l.take (decK l + 11)) → P (.none 100))
    (h6 : (bt l 0 = 193 ∨ bt l 0 = 194) → 3 ≤ l.length → decK l ≤ 4096 → decK l + 15 ≤ l.length → valB (Go.Proofs.YtheoklhmlnfgjaaGreatDoor.sl l (decK l + 11) (decK l + 15)) = crc (l.take (decK l + 11)) → P (decGood l)) : P (dec l) := by
  unfold dec
  by_cases c0 : l.length = 0
  · rw [if_pos c0]; exact h0 c0
  · rw [if_neg c0]
    by_cases c1 : bt l 0 ≠ 193 ∧ bt l 0 ≠ 194
    · rw [if_pos c1]; exact h1 (by omega) c1.1 c1.2
    · rw [if_neg c1]
      have hx : bt l 0 = 193 ∨ bt l 0 = 194 := by omega
      by_cases c2 : l.length < 3
      · rw [if_pos c2]; exact h2 (by omega) hx c2
      · rw [if_neg c2]
        by_cases c3 : 4096 < decK l
        · rw [if_pos c3]; exact h3 hx (by omega) c3
        · rw [if_neg c3]
          by_cases c4 : l.length < decK l + 15
          · rw [if_pos c4]; exact h4 hx (by omega) (by omega) c4
          · rw [if_neg c4]
            by_cases c5 : valB (Go.Proofs.YtheoklhmlnfgjaaGreatDoor.sl l (decK l + 11) (decK l + 15)) ≠ crc (l.take (decK l + 11))
            · rw [if_pos c5]; exact h5 hx (by omega) (by omega) (by omega) c5
            · rw [if_neg c5]; exact h6 hx (by omega) (by omega) (by omega) (by simpa using c5)

set_option maxRecDepth 100000 in
theorem recDec_any (l : List UInt8) (p : Option Addr) (n c : Nat) (hl : l.length = n) (hnc : n ≤ c) (hm : c ≤ maxLen) (w : World) (h : In8 w p l) :
    Calls Tryz.prog 72 #[.slice p n c] w fun e w' => e = .returned (dec l).val ∧ Below w.heap.size w w' := by
  have b0 := bt_nonneg l 0
  have b1 := bt_le l 0
  refine dec_split (fun d => Calls Tryz.prog 72 #[.slice p n c] w fun e w' => e = .returned d.val ∧ Below w.heap.size w w') l ?_ ?_ ?_ ?_ ?_ ?_ ?_
  · intro h0; obtain rfl : n = 0 := by omega
    exact recDec_0 p c w
  · intro h0 x1 x2
    obtain ⟨b, o, rfl, hc⟩ := h.at h0
    exact recDec_1 n b o c _ w (by omega) (by omega) b0 b1 x1 x2 (hc 0 h0)
  · intro h0 hx h3
    obtain ⟨b, o, rfl, hc⟩ := h.at h0
    exact recDec_2 n b o c _ w (by omega) (by omega) hx (hc 0 h0)
  · intro hx h3 hk
    obtain ⟨b, o, rfl, hc⟩ := h.at (k := 0) (by omega)
    exact recDec_3 l n b o c _ w hl (by omega) hnc hm hx (hc 0 (by omega)) hc hk
  · intro hx h3 hk hs
    obtain ⟨b, o, rfl, hc⟩ := h.at (k := 0) (by omega)
    exact recDec_4 l n b o c _ w hl (by omega) hnc hm hx (hc 0 (by omega)) hc hk (by omega)
  · intro hx h3 hk hs hb
    obtain ⟨b, o, rfl, hc⟩ := h.at (k := 0) (by omega)
    exact recDec_5 l n b o c _ w hl (by omega) hnc hm hx (hc 0 (by omega)) hc hk (by omega) hb
  · intro hx h3 hk hs hg
    obtain ⟨b, o, rfl, hc⟩ := h.at (k := 0) (by omega)
    have := recDec_6 l n b o c _ w hl (by omega) hnc hm hx (hc 0 (by omega)) hc hk (by omega) hg
    have e : (⟨valB (Go.Proofs.YtheoklhmlnfgjaaGreatDoor.sl l 3 7), bt l 0 - 192, valB (Go.Proofs.YtheoklhmlnfgjaaGreatDoor.sl l 7 11), Go.Proofs.YtheoklhmlnfgjaaGreatDoor.sl l 11 (11 + decK l), 11 + decK l + 4, 0⟩ : Dec) = decGood l := by
      unfold decGood; rw [Nat.add_comm 11 (decK l)]; congr 1; omega
    rw [← e]; exact this

set_option maxRecDepth 100000 in
theorem refDec_any (l : List UInt8) (p : Option Addr) (n c : Nat) (hl : l.length = n) (hnc : n ≤ c) (hm : c ≤ maxLen) (w : World) (h : In8 w p l) :
    Calls Tryz.prog 34 #[.slice p n c] w fun e w' => e = .returned (dec l).val ∧ Below w.heap.size w w' := by
  refine dec_split (fun d => Calls Tryz.prog 34 #[.slice p n c] w fun e w' => e = .returned d.val ∧ Below w.heap.size w w') l ?_ ?_ ?_ ?_ ?_ ?_ ?_
  · intro h0; obtain rfl : n = 0 := by omega
    exact refDec_0 p c w
  · intro h0 x1 x2
    obtain ⟨b, o, rfl, hc⟩ := h.at h0
    exact refDec_1 n b o c _ w (by omega) (by omega) x1 x2 (hc 0 h0)
  · intro h0 hx h3
    obtain ⟨b, o, rfl, hc⟩ := h.at h0
    exact refDec_2 n b o c _ w (by omega) (by omega) hx (hc 0 h0)
  · intro hx h3 hk
    obtain ⟨b, o, rfl, hc⟩ := h.at (k := 0) (by omega)
    exact refDec_3 l n b o c _ w hl (by omega) hnc hm hx (hc 0 (by omega)) hc hk
  · intro hx h3 hk hs
    obtain ⟨b, o, rfl, hc⟩ := h.at (k := 0) (by omega)
    exact refDec_4 l n b o c _ w hl (by omega) hnc hm hx (hc 0 (by omega)) hc hk (by omega)
  · intro hx h3 hk hs hb
    obtain ⟨b, o, rfl, hc⟩ := h.at (k := 0) (by omega)
    exact refDec_5 l n b o c _ w hl (by omega) hnc hm hx (hc 0 (by omega)) hc hk (by omega) hb
  · intro hx h3 hk hs hg
    obtain ⟨b, o, rfl, hc⟩ := h.at (k := 0) (by omega)
    exact refDec_6 l n b o c _ w hl (by omega) hnc hm hx (hc 0 (by omega)) hc hk (by omega) hg
end Go.Proofs.YtheoklhmlnfgjaaGreatDoor
