/-
  The program's Decode.
-/
import Derived.Test.YtheoklhmlnfgjaaGreatDoorPk1
import Derived.Deep.RegionHeld3
namespace Go.Proofs.YtheoklhmlnfgjaaGreatDoor
open Go.RowKit

set_option maxRecDepth 100000 in
theorem quiet_left {P : Program} {f : FuncId} {args : Array Value} {w : World} {n : Nat} {v : Value}
    (h : Calls P f args (w.drewN n) fun e w' => e = .returned v ∧ w.drewN n = w') : Calls P f args (w.drewN n) fun e w'' => e = .returned v ∧ ∃ m, w'' = w.drewN m :=
  h.mono fun _ _ ⟨he, hm⟩ => ⟨he, n, hm.symm⟩

set_option maxRecDepth 100000 in
theorem recDec_0 (p : Option Addr) (c : Nat) (w : World) :
    Calls Tryz.prog 72 #[.slice p 0 c] w fun e w' => e = .returned (Dec.none 0).val ∧ Below w.heap.size w w' := by
  go_enter Tryz.func72, Tryz.ntmps72
  go_wp2_with fail
  refine bodyPost_ret (v := (Dec.none 0).val) (by simp [results, Tryz.results72, go_sem, Dec.val, Dec.none]) rfl ⟨rfl, (Below.refl _ w).alloc (Nat.le_refl _) _⟩

set_option maxRecDepth 100000 in
theorem recDec_1 (n : Nat) (b o c : Nat) (x : Int) (w : World) (hn : 0 < n) (hm : n ≤ maxLen) (h0 : 0 ≤ x) (h1 : x ≤ 255) (hx1 : ¬ x = 193) (hx2 : ¬ x = 194) (hc : w.cell? ⟨b, o, none⟩ = some (.int .u8 x)) :
    Calls Tryz.prog 72 #[.slice (some ⟨b, o, none⟩) n c] w fun e w' => e = .returned (Dec.none 100).val ∧ Below w.heap.size w w' := by
  unfold maxLen at hm
  have hc' := fun O => cell_past hc O
  have b0 : ((n : Int) == 0) = false := by simp; omega
  have b1 : (x - 192 != 1) = true := by simp; omega
  have b2 : (x - 192 != 2) = true := by simp; omega
  clear hx1 hx2
  go_enter Tryz.func72, Tryz.ntmps72
  go_wp2_with fail
  refine bodyPost_ret (v := (Dec.none 100).val) (by simp [results, Tryz.results72, go_sem, Dec.val, Dec.none]) rfl ⟨rfl, (Below.refl _ w).alloc (Nat.le_refl _) _⟩

set_option maxRecDepth 100000 in
theorem recDec_2 (n : Nat) (b o c : Nat) (x : Int) (w : World) (hn : 0 < n) (hm : n < 3) (hx : x = 193 ∨ x = 194) (hc : w.cell? ⟨b, o, none⟩ = some (.int .u8 x)) :
    Calls Tryz.prog 72 #[.slice (some ⟨b, o, none⟩) n c] w fun e w' => e = .returned (Dec.none 0).val ∧ Below w.heap.size w w' := by
  have hc' := fun O => cell_past hc O
  have b0 : ((n : Int) == 0) = false := by simp; omega
  rcases hx with rfl | rfl
  all_goals
    go_enter Tryz.func72, Tryz.ntmps72
    go_wp2_with fail
    refine bodyPost_ret (v := (Dec.none 0).val) (by simp [results, Tryz.results72, go_sem, Dec.val, Dec.none]) rfl ⟨rfl, (Below.refl _ w).alloc (Nat.le_refl _) _⟩

set_option maxRecDepth 100000 in
theorem recDec_3 (l : List UInt8) (n : Nat) (b o c : Nat) (x : Int) (w : World) (hl : l.length = n) (hn : 3 ≤ n) (hnc : n ≤ c) (hm : c ≤ maxLen) (hx : x = 193 ∨ x = 194) (hc0 : w.cell? ⟨b, o, none⟩ = some (.int .u8 x))
    (hc : ∀ i, i < l.length → w.cell? ⟨b, o + i, none⟩ = some (.int .u8 (bt l i))) (hk : 4096 < decK l) :
    Calls Tryz.prog 72 #[.slice (some ⟨b, o, none⟩) n c] w fun e w' => e = .returned (Dec.none 100).val ∧ Below w.heap.size w w' := by
  have hc' := fun O => cell_past hc0 O
  have b0 : ((n : Int) == 0) = false := by simp; omega
  have hin := In8.sl (w := w.alloc (.cells #[.int .i64 0, .int .i64 0, .int .i64 0, .string ⟨#[]⟩] 35)) (fun i hi => cell_past (hc i hi) _) 1 3 (by omega)
  have hkl := decK_lt l (by omega)
  have hsl := sl_length l 1 3 (by omega)
  have HS := Lib.hid hsl
  have HC := Lib.hid hc
  have HL := Lib.hid hl
  unfold maxLen at hm
  clear hsl hc hl
  rcases hx with rfl | rfl
  all_goals
    go_enter Tryz.func72, Tryz.ntmps72
    go_wp2_with fail
    refine (get_any _ _ _ _ HS.out (by omega) _ hin).mono ?_
    rintro e w1 ⟨rfl, rfl⟩
    rw [show valB (Go.Proofs.YtheoklhmlnfgjaaGreatDoor.sl l 1 3) = decK l from rfl]
    go_wp2_with fail
    refine bodyPost_ret (v := (Dec.none 100).val) (by simp [results, Tryz.results72, go_sem, Dec.val, Dec.none]) rfl ⟨rfl, (Below.refl _ w).alloc (Nat.le_refl _) _⟩
set_option maxRecDepth 100000 in
theorem recDec_4 (l : List UInt8) (n : Nat) (b o c : Nat) (x : Int) (w : World) (hl : l.length = n) (hn : 3 ≤ n) (hnc : n ≤ c) (hm : c ≤ maxLen) (hx : x = 193 ∨ x = 194) (hc0 : w.cell? ⟨b, o, none⟩ = some (.int .u8 x))
    (hc : ∀ i, i < l.length → w.cell? ⟨b, o + i, none⟩ = some (.int .u8 (bt l i))) (hk : decK l ≤ 4096) (hs : n < decK l + 15) :
    Calls Tryz.prog 72 #[.slice (some ⟨b, o, none⟩) n c] w fun e w' => e = .returned (Dec.none 0).val ∧ Below w.heap.size w w' := by
  have hc' := fun O => cell_past hc0 O
  have b0 : ((n : Int) == 0) = false := by simp; omega
  have hin := In8.sl (w := w.alloc (.cells #[.int .i64 0, .int .i64 0, .int .i64 0, .string ⟨#[]⟩] 35)) (fun i hi => cell_past (hc i hi) _) 1 3 (by omega)
  have hsl := sl_length l 1 3 (by omega)
  have HS := Lib.hid hsl
  have HC := Lib.hid hc
  have HL := Lib.hid hl
  unfold maxLen at hm
  clear hsl hc hl
  rcases hx with rfl | rfl
  all_goals
    go_enter Tryz.func72, Tryz.ntmps72
    go_wp2_with fail
    refine (get_any _ _ _ _ HS.out (by omega) _ hin).mono ?_
    rintro e w1 ⟨rfl, rfl⟩
    rw [show valB (Go.Proofs.YtheoklhmlnfgjaaGreatDoor.sl l 1 3) = decK l from rfl]
    go_wp2_with fail
    refine bodyPost_ret (v := (Dec.none 0).val) (by simp [results, Tryz.results72, go_sem, Dec.val, Dec.none]) rfl ⟨rfl, (Below.refl _ w).alloc (Nat.le_refl _) _⟩

set_option maxRecDepth 100000 in
set_option maxHeartbeats 2000000 in
theorem recDec_5 (l : List UInt8) (n : Nat) (b o c : Nat) (x : Int) (w : World) (hl : l.length = n) (hn : 3 ≤ n) (hnc : n ≤ c) (hm : c ≤ maxLen) (hx : x = 193 ∨ x = 194) (hc0 : w.cell? ⟨b, o, none⟩ = some (.int .u8 x))
    (hc : ∀ i, i < l.length → w.cell? ⟨b, o + i, none⟩ = some (.int .u8 (bt l i))) (hk : decK l ≤ 4096) (hs : decK l + 15 ≤ n) (hbad : ¬ valB (Go.Proofs.YtheoklhmlnfgjaaGreatDoor.sl l (decK l + 11) (decK l + 15)) = crc (l.take (decK l + 11))) :
    Calls Tryz.prog 72 #[.slice (some ⟨b, o, none⟩) n c] w fun e w' => e = .returned (Dec.none 100).val ∧ Below w.heap.size w w' := by
  have hc' := fun O => cell_past hc0 O
  have b0 : ((n : Int) == 0) = false := by simp; omega
  have hin := In8.sl (w := w.alloc (.cells #[.int .i64 0, .int .i64 0, .int .i64 0, .string ⟨#[]⟩] 35)) (fun i hi => cell_past (hc i hi) _) 1 3 (by omega)
  have hin2 := In8.sl (w := w.alloc (.cells #[.int .i64 0, .int .i64 0, .int .i64 0, .string ⟨#[]⟩] 35)) (fun i hi => cell_past (hc i hi) _) (11 + decK l) (11 + decK l + 4) (by omega)
  have hin3 := In8.takeAt (w := w.alloc (.cells #[.int .i64 0, .int .i64 0, .int .i64 0, .string ⟨#[]⟩] 35)) (fun i hi => cell_past (hc i hi) _) (11 + decK l) (by omega)
  have hsl := sl_length l 1 3 (by omega)
  have hsl2 : (Go.Proofs.YtheoklhmlnfgjaaGreatDoor.sl l (11 + decK l) (11 + decK l + 4)).length = 4 := by rw [sl_length l (11 + decK l) (11 + decK l + 4) (by omega)]; omega
  have hsl3 : (l.take (11 + decK l)).length = 11 + decK l := by rw [List.length_take]; omega
  have hsum : valB (Go.Proofs.YtheoklhmlnfgjaaGreatDoor.sl l (11 + decK l) (11 + decK l + 4)) = valB (Go.Proofs.YtheoklhmlnfgjaaGreatDoor.sl l (decK l + 11) (decK l + 15)) := by
    rw [show 11 + decK l + 4 = decK l + 15 from by omega, show 11 + decK l = decK l + 11 from by omega]
  have hcr : crc (l.take (11 + decK l)) = crc (l.take (decK l + 11)) := by rw [show 11 + decK l = decK l + 11 from by omega]
  have hne : ((valB (Go.Proofs.YtheoklhmlnfgjaaGreatDoor.sl l (11 + decK l) (11 + decK l + 4)) : Int) != (crc (l.take (11 + decK l)) : Int)) = true := by
    rw [hsum, hcr]; simp; omega
  have HS := Lib.hid hsl
  have HS2 := Lib.hid hsl2
  have HS3 := Lib.hid hsl3
  have HC := Lib.hid hc
  have HL := Lib.hid hl
  unfold maxLen at hm
  clear hsl hsl2 hsl3 hc hl hbad hsum hcr
  generalize hkk : decK l = k at *
  have HK := Lib.hid hkk
  clear hkk
  rcases hx with rfl | rfl
  all_goals
    go_enter Tryz.func72, Tryz.ntmps72
    go_wp2_with fail
    refine (get_any _ _ _ _ HS.out (by omega) _ hin).mono ?_
    rintro e w1 ⟨rfl, rfl⟩
    rw [show valB (Go.Proofs.YtheoklhmlnfgjaaGreatDoor.sl l 1 3) = decK l from rfl, HK.out]
    go_wp2_with fail
    go_quiet ((first | (go_at_call 93; exact quiet_left (get_any _ _ 4 _ HS2.out (by omega) _ (hin2.drewN _))) | (go_at_call 37; exact quiet_left (recSum_any _ _ _ _ HS3.out (by unfold maxLen; omega) _ (hin3.drewN _)))))
    go_wp2_with fail
    refine bodyPost_ret (v := (Dec.none 100).val) (by simp [results, Tryz.results72, go_sem, Dec.val, Dec.none]) rfl ⟨rfl, ((((bdrewN ((Below.refl _ w).alloc (Nat.le_refl _) _) _).setCell (p := ⟨w.heap.size, 0, none⟩) (Nat.le_refl _) _).setCell (p := ⟨w.heap.size, 1, none⟩) (Nat.le_refl _) _).setCell (p := ⟨w.heap.size, 2, none⟩) (Nat.le_refl _) _).setCell (p := ⟨w.heap.size, 3, none⟩) (Nat.le_refl _) _⟩

set_option maxRecDepth 100000 in
theorem four_of_block {w : World} {g t : Nat} {a b c d : Value} {fr : Nat × Nat} (h : w.heap[g]? = some (.cells #[a, b, c, d] t fr)) :
    w.cell? ⟨g, 0, none⟩ = some a ∧ w.cell? ⟨g, 1, none⟩ = some b ∧ w.cell? ⟨g, 2, none⟩ = some c ∧ w.cell? ⟨g, 3, none⟩ = some d := by
  refine ⟨?_, ?_, ?_, ?_⟩ <;> (rw [cell_of_row _ _ _ _ _ _ h]; rfl)
set_option maxRecDepth 100000 in
theorem free_of_block {w : World} {g t : Nat} {c : Array Value} (h : w.heap[g]? = some (.cells c t (0, 0))) : ∀ i, w.frozen? ⟨g, i, none⟩ = false := fun i => frozen_of_row w g i c t h
set_option maxRecDepth 100000 in
theorem In8.drew {w : World} {p : Option Addr} {l : List UInt8} (h : In8 w p l) : In8 w.drew p l := h

set_option maxRecDepth 100000 in
set_option maxHeartbeats 4000000 in
theorem recDec_6 (l : List UInt8) (n : Nat) (b o c : Nat) (x : Int) (w : World) (hl : l.length = n) (hn : 3 ≤ n) (hnc : n ≤ c) (hm : c ≤ maxLen) (hx : x = 193 ∨ x = 194) (hc0 : w.cell? ⟨b, o, none⟩ = some (.int .u8 x))
    (hc : ∀ i, i < l.length → w.cell? ⟨b, o + i, none⟩ = some (.int .u8 (bt l i))) (hk : decK l ≤ 4096) (hs : decK l + 15 ≤ n) (hgood : valB (Go.Proofs.YtheoklhmlnfgjaaGreatDoor.sl l (decK l + 11) (decK l + 15)) = crc (l.take (decK l + 11))) :
    Calls Tryz.prog 72 #[.slice (some ⟨b, o, none⟩) n c] w fun e w' => e = .returned (Dec.val ⟨valB (Go.Proofs.YtheoklhmlnfgjaaGreatDoor.sl l 3 7), x - 192, valB (Go.Proofs.YtheoklhmlnfgjaaGreatDoor.sl l 7 11), Go.Proofs.YtheoklhmlnfgjaaGreatDoor.sl l 11 (11 + decK l), 11 + decK l + 4, 0⟩) ∧ Below w.heap.size w w' := by
  have hc' := fun O => cell_past hc0 O
  have b0 : ((n : Int) == 0) = false := by simp; omega
  have hin := In8.sl (w := w.alloc (.cells #[.int .i64 0, .int .i64 0, .int .i64 0, .string ⟨#[]⟩] 35)) (fun i hi => cell_past (hc i hi) _) 1 3 (by omega)
  have hin2 := In8.sl (w := w.alloc (.cells #[.int .i64 0, .int .i64 0, .int .i64 0, .string ⟨#[]⟩] 35)) (fun i hi => cell_past (hc i hi) _) (11 + decK l) (11 + decK l + 4) (by omega)
  have hin3 := In8.takeAt (w := w.alloc (.cells #[.int .i64 0, .int .i64 0, .int .i64 0, .string ⟨#[]⟩] 35)) (fun i hi => cell_past (hc i hi) _) (11 + decK l) (by omega)
  have hsl := sl_length l 1 3 (by omega)
  have hsl2 : (Go.Proofs.YtheoklhmlnfgjaaGreatDoor.sl l (11 + decK l) (11 + decK l + 4)).length = 4 := by rw [sl_length l (11 + decK l) (11 + decK l + 4) (by omega)]; omega
  have hsl3 : (l.take (11 + decK l)).length = 11 + decK l := by rw [List.length_take]; omega
  have hsum : valB (Go.Proofs.YtheoklhmlnfgjaaGreatDoor.sl l (11 + decK l) (11 + decK l + 4)) = valB (Go.Proofs.YtheoklhmlnfgjaaGreatDoor.sl l (decK l + 11) (decK l + 15)) := by
    rw [show 11 + decK l + 4 = decK l + 15 from by omega, show 11 + decK l = decK l + 11 from by omega]
  have hcr : crc (l.take (11 + decK l)) = crc (l.take (decK l + 11)) := by rw [show 11 + decK l = decK l + 11 from by omega]
  have hne : ((valB (Go.Proofs.YtheoklhmlnfgjaaGreatDoor.sl l (11 + decK l) (11 + decK l + 4)) : Int) != (crc (l.take (11 + decK l)) : Int)) = false := by
    rw [hsum, hcr]; simp; omega
  have hin4 := In8.sl (w := w.alloc (.cells #[.int .i64 0, .int .i64 0, .int .i64 0, .string ⟨#[]⟩] 35)) (fun i hi => cell_past (hc i hi) _) 3 7 (by omega)
  have hin5 := In8.sl (w := w.alloc (.cells #[.int .i64 0, .int .i64 0, .int .i64 0, .string ⟨#[]⟩] 35)) (fun i hi => cell_past (hc i hi) _) 7 11 (by omega)
  have hin6 := In8.sl (w := w.alloc (.cells #[.int .i64 0, .int .i64 0, .int .i64 0, .string ⟨#[]⟩] 35)) (fun i hi => cell_past (hc i hi) _) 11 (11 + decK l) (by omega)
  have hsl4 : (Go.Proofs.YtheoklhmlnfgjaaGreatDoor.sl l 3 7).length = 4 := by rw [sl_length l 3 7 (by omega)]
  have hsl5 : (Go.Proofs.YtheoklhmlnfgjaaGreatDoor.sl l 7 11).length = 4 := by rw [sl_length l 7 11 (by omega)]
  have hsl6 : (Go.Proofs.YtheoklhmlnfgjaaGreatDoor.sl l 11 (11 + decK l)).length = decK l := by rw [sl_length l 11 (11 + decK l) (by omega)]; omega
  have HS := Lib.hid hsl
  have HS2 := Lib.hid hsl2
  have HS3 := Lib.hid hsl3
  have HS4 := Lib.hid hsl4
  have HS5 := Lib.hid hsl5
  have HS6 := Lib.hid hsl6
  have HC := Lib.hid hc
  have HL := Lib.hid hl
  unfold maxLen at hm
  clear hsl hsl2 hsl3 hsl4 hsl5 hsl6 hc hl hgood hsum hcr
  generalize hkk : decK l = k at *
  have HK := Lib.hid hkk
  clear hkk
  rcases hx with rfl | rfl
  · go_enter Tryz.func72, Tryz.ntmps72
    go_wp2_with fail
    refine (get_any _ _ _ _ HS.out (by omega) _ hin).mono ?_
    rintro e w1 ⟨rfl, rfl⟩
    rw [show valB (Go.Proofs.YtheoklhmlnfgjaaGreatDoor.sl l 1 3) = decK l from rfl, HK.out]
    go_wp2_with fail
    go_quiet ((first | (go_at_call 93; exact quiet_left (get_any _ _ 4 _ HS2.out (by omega) _ (hin2.drewN _))) | (go_at_call 37; exact quiet_left (recSum_any _ _ _ _ HS3.out (by unfold maxLen; omega) _ (hin3.drewN _)))))
    go_wp2_with fail
    have q1 : (7 : Int) ≤ (c : Int) := by omega
    have q2 : (11 : Int) ≤ (c : Int) := by omega
    have q3 : (11 : Int) + (k : Int) ≤ (c : Int) := by omega
    have q4 : 7 ≤ c := by omega
    have q5 : 11 ≤ c := by omega
    have q6 : 11 + k ≤ c := by omega
    have q7 : (0 : Int) ≤ 11 + (k : Int) := by omega
    have q8 : (11 : Int) ≤ 11 + (k : Int) := by omega
    have q10 : ¬ c = 3 := by omega
    have q11 : ¬ c = 7 := by omega
    have q12 : ¬ c = 11 := by omega
    have q9 : ((11 : Int) + (k : Int)).toNat = 11 + k := by omega
    have hd4 := hin4.drewN nq
    have hd5 := hin5.drewN nq
    have hd6 := hin6.drewN nq
    have hbb := bdrewN ((Below.refl _ w).alloc (Nat.le_refl _) (.cells #[.int .i64 0, .int .i64 0, .int .i64 0, .string ⟨#[]⟩] 35)) nq
    have hblk : ((w.alloc (.cells #[.int .i64 0, .int .i64 0, .int .i64 0, .string ⟨#[]⟩] 35)).drewN nq).heap[w.heap.size]? = some (.cells #[.int .i64 0, .int .i64 0, .int .i64 0, .string ⟨#[]⟩] 35 (0, 0)) := heap_alloc_new w _
    have hz0 : ((w.alloc (.cells #[.int .i64 0, .int .i64 0, .int .i64 0, .string ⟨#[]⟩] 35)).drewN nq).heap.size = w.heap.size + 1 := World.size_alloc w _
    generalize (w.alloc (.cells #[.int .i64 0, .int .i64 0, .int .i64 0, .string ⟨#[]⟩] 35)).drewN nq = W0 at *
    have HZ0 := Lib.hid hz0
    have HBK := Lib.hid hblk
    clear hz0 hblk hin hin4 hin5 hin6 hin2 hin3 hc' hc0 hne
    go_region_held3 (fun w' => In8 w' (some ⟨b, o + 3, none⟩) (Go.Proofs.YtheoklhmlnfgjaaGreatDoor.sl l 3 7) ∧ In8 w' (some ⟨b, o + 7, none⟩) (Go.Proofs.YtheoklhmlnfgjaaGreatDoor.sl l 7 11) ∧ In8 w' (some ⟨b, o + 11, none⟩) (Go.Proofs.YtheoklhmlnfgjaaGreatDoor.sl l 11 (11 + k)) ∧ Sem.run Tryz.prog (convert 22 9 (.slice (some ⟨b, o + 11, none⟩) k (c - 11))) w' = .ok (.string ⟨(Go.Proofs.YtheoklhmlnfgjaaGreatDoor.sl l 11 (11 + k)).toArray⟩) w')
      (refine ⟨?_, ?_, ?_, ?_⟩ <;> first | assumption | exact In8.alloc (by assumption) _ | exact In8.drew (In8.alloc (by assumption) _) | exact toStr_at (by assumption) HS6.out _ | exact toStr_at (In8.alloc (by assumption) _) HS6.out _ | exact toStr_at (In8.drew (In8.alloc (by assumption) _)) HS6.out _)
      (first | (go_at_call 93; (first | (refine (get_any _ _ 4 _ HS4.out (by omega) _ ?_).mono ?_; (first | assumption | exact In8.drew (by assumption) | exact In8.drew (In8.alloc (by assumption) _) | exact In8.alloc (by assumption) _)) | (refine (get_any _ _ 4 _ HS5.out (by omega) _ ?_).mono ?_; (first | assumption | exact In8.drew (by assumption) | exact In8.drew (In8.alloc (by assumption) _) | exact In8.alloc (by assumption) _))); rintro e w1 ⟨rfl, rfl⟩))
    all_goals
      have g0 : ((W0.alloc (.cells #[.int .i64 (valB (Go.Proofs.YtheoklhmlnfgjaaGreatDoor.sl l 3 7)), .int .i64 1, .int .i64 (valB (Go.Proofs.YtheoklhmlnfgjaaGreatDoor.sl l 7 11)), .string ⟨(Go.Proofs.YtheoklhmlnfgjaaGreatDoor.sl l 11 (11 + k)).toArray⟩] 35)).drew).heap[w.heap.size]? = some (.cells #[.int .i64 0, .int .i64 0, .int .i64 0, .string ⟨#[]⟩] 35 (0, 0)) := (Below.heap_alloc W0 _ _ (by rw [HZ0.out]; omega)).trans HBK.out
      have g1 : ((W0.alloc (.cells #[.int .i64 (valB (Go.Proofs.YtheoklhmlnfgjaaGreatDoor.sl l 3 7)), .int .i64 1, .int .i64 (valB (Go.Proofs.YtheoklhmlnfgjaaGreatDoor.sl l 7 11)), .string ⟨(Go.Proofs.YtheoklhmlnfgjaaGreatDoor.sl l 11 (11 + k)).toArray⟩] 35)).drew).heap[W0.heap.size]? = some (.cells #[.int .i64 (valB (Go.Proofs.YtheoklhmlnfgjaaGreatDoor.sl l 3 7)), .int .i64 1, .int .i64 (valB (Go.Proofs.YtheoklhmlnfgjaaGreatDoor.sl l 7 11)), .string ⟨(Go.Proofs.YtheoklhmlnfgjaaGreatDoor.sl l 11 (11 + k)).toArray⟩] 35 (0, 0)) := heap_alloc_new W0 _
      have hbf := (hbb.alloc (by rw [HZ0.out]; omega) (.cells #[.int .i64 (valB (Go.Proofs.YtheoklhmlnfgjaaGreatDoor.sl l 3 7)), .int .i64 1, .int .i64 (valB (Go.Proofs.YtheoklhmlnfgjaaGreatDoor.sl l 7 11)), .string ⟨(Go.Proofs.YtheoklhmlnfgjaaGreatDoor.sl l 11 (11 + k)).toArray⟩] 35)).drew
      generalize (W0.alloc (.cells #[.int .i64 (valB (Go.Proofs.YtheoklhmlnfgjaaGreatDoor.sl l 3 7)), .int .i64 1, .int .i64 (valB (Go.Proofs.YtheoklhmlnfgjaaGreatDoor.sl l 7 11)), .string ⟨(Go.Proofs.YtheoklhmlnfgjaaGreatDoor.sl l 11 (11 + k)).toArray⟩] 35)).drew = W1 at *
      obtain ⟨e0, e1, e2, e3⟩ := four_of_block g0
      obtain ⟨e4, e5, e6, e7⟩ := four_of_block g1
      have e8 := free_of_block g0
      have hne2 : ¬ W0.heap.size = w.heap.size := by rw [HZ0.out]; omega
      have HN2 := Lib.hid hne2
      clear g0 g1 hne2
      go_wp2_with fail
      refine bodyPost_ret (v := Dec.val ⟨valB (Go.Proofs.YtheoklhmlnfgjaaGreatDoor.sl l 3 7), 1, valB (Go.Proofs.YtheoklhmlnfgjaaGreatDoor.sl l 7 11), Go.Proofs.YtheoklhmlnfgjaaGreatDoor.sl l 11 (11 + k), 11 + k + 4, 0⟩) (by simp [results, Tryz.results72, go_sem, Dec.val, e0, e1, e2, e3]) rfl ⟨rfl, (((hbf.setCell (p := ⟨w.heap.size, 0, none⟩) (Nat.le_refl _) _).setCell (p := ⟨w.heap.size, 1, none⟩) (Nat.le_refl _) _).setCell (p := ⟨w.heap.size, 2, none⟩) (Nat.le_refl _) _).setCell (p := ⟨w.heap.size, 3, none⟩) (Nat.le_refl _) _⟩
  · go_enter Tryz.func72, Tryz.ntmps72
    go_wp2_with fail
    refine (get_any _ _ _ _ HS.out (by omega) _ hin).mono ?_
    rintro e w1 ⟨rfl, rfl⟩
    rw [show valB (Go.Proofs.YtheoklhmlnfgjaaGreatDoor.sl l 1 3) = decK l from rfl, HK.out]
    go_wp2_with fail
    go_quiet ((first | (go_at_call 93; exact quiet_left (get_any _ _ 4 _ HS2.out (by omega) _ (hin2.drewN _))) | (go_at_call 37; exact quiet_left (recSum_any _ _ _ _ HS3.out (by unfold maxLen; omega) _ (hin3.drewN _)))))
    go_wp2_with fail
    have q1 : (7 : Int) ≤ (c : Int) := by omega
    have q2 : (11 : Int) ≤ (c : Int) := by omega
    have q3 : (11 : Int) + (k : Int) ≤ (c : Int) := by omega
    have q4 : 7 ≤ c := by omega
    have q5 : 11 ≤ c := by omega
    have q6 : 11 + k ≤ c := by omega
    have q7 : (0 : Int) ≤ 11 + (k : Int) := by omega
    have q8 : (11 : Int) ≤ 11 + (k : Int) := by omega
    have q10 : ¬ c = 3 := by omega
    have q11 : ¬ c = 7 := by omega
    have q12 : ¬ c = 11 := by omega
    have q9 : ((11 : Int) + (k : Int)).toNat = 11 + k := by omega
    have hd4 := hin4.drewN nq
    have hd5 := hin5.drewN nq
    have hd6 := hin6.drewN nq
    have hbb := bdrewN ((Below.refl _ w).alloc (Nat.le_refl _) (.cells #[.int .i64 0, .int .i64 0, .int .i64 0, .string ⟨#[]⟩] 35)) nq
    have hblk : ((w.alloc (.cells #[.int .i64 0, .int .i64 0, .int .i64 0, .string ⟨#[]⟩] 35)).drewN nq).heap[w.heap.size]? = some (.cells #[.int .i64 0, .int .i64 0, .int .i64 0, .string ⟨#[]⟩] 35 (0, 0)) := heap_alloc_new w _
    have hz0 : ((w.alloc (.cells #[.int .i64 0, .int .i64 0, .int .i64 0, .string ⟨#[]⟩] 35)).drewN nq).heap.size = w.heap.size + 1 := World.size_alloc w _
    generalize (w.alloc (.cells #[.int .i64 0, .int .i64 0, .int .i64 0, .string ⟨#[]⟩] 35)).drewN nq = W0 at *
    have HZ0 := Lib.hid hz0
    have HBK := Lib.hid hblk
    clear hz0 hblk hin hin4 hin5 hin6 hin2 hin3 hc' hc0 hne
    go_region_held3 (fun w' => In8 w' (some ⟨b, o + 3, none⟩) (Go.Proofs.YtheoklhmlnfgjaaGreatDoor.sl l 3 7) ∧ In8 w' (some ⟨b, o + 7, none⟩) (Go.Proofs.YtheoklhmlnfgjaaGreatDoor.sl l 7 11) ∧ In8 w' (some ⟨b, o + 11, none⟩) (Go.Proofs.YtheoklhmlnfgjaaGreatDoor.sl l 11 (11 + k)) ∧ Sem.run Tryz.prog (convert 22 9 (.slice (some ⟨b, o + 11, none⟩) k (c - 11))) w' = .ok (.string ⟨(Go.Proofs.YtheoklhmlnfgjaaGreatDoor.sl l 11 (11 + k)).toArray⟩) w')
      (refine ⟨?_, ?_, ?_, ?_⟩ <;> first | assumption | exact In8.alloc (by assumption) _ | exact In8.drew (In8.alloc (by assumption) _) | exact toStr_at (by assumption) HS6.out _ | exact toStr_at (In8.alloc (by assumption) _) HS6.out _ | exact toStr_at (In8.drew (In8.alloc (by assumption) _)) HS6.out _)
      (first | (go_at_call 93; (first | (refine (get_any _ _ 4 _ HS4.out (by omega) _ ?_).mono ?_; (first | assumption | exact In8.drew (by assumption) | exact In8.drew (In8.alloc (by assumption) _) | exact In8.alloc (by assumption) _)) | (refine (get_any _ _ 4 _ HS5.out (by omega) _ ?_).mono ?_; (first | assumption | exact In8.drew (by assumption) | exact In8.drew (In8.alloc (by assumption) _) | exact In8.alloc (by assumption) _))); rintro e w1 ⟨rfl, rfl⟩))
    all_goals
      have g0 : ((W0.alloc (.cells #[.int .i64 (valB (Go.Proofs.YtheoklhmlnfgjaaGreatDoor.sl l 3 7)), .int .i64 2, .int .i64 (valB (Go.Proofs.YtheoklhmlnfgjaaGreatDoor.sl l 7 11)), .string ⟨(Go.Proofs.YtheoklhmlnfgjaaGreatDoor.sl l 11 (11 + k)).toArray⟩] 35)).drew).heap[w.heap.size]? = some (.cells #[.int .i64 0, .int .i64 0, .int .i64 0, .string ⟨#[]⟩] 35 (0, 0)) := (Below.heap_alloc W0 _ _ (by rw [HZ0.out]; omega)).trans HBK.out
      have g1 : ((W0.alloc (.cells #[.int .i64 (valB (Go.Proofs.YtheoklhmlnfgjaaGreatDoor.sl l 3 7)), .int .i64 2, .int .i64 (valB (Go.Proofs.YtheoklhmlnfgjaaGreatDoor.sl l 7 11)), .string ⟨(Go.Proofs.YtheoklhmlnfgjaaGreatDoor.sl l 11 (11 + k)).toArray⟩] 35)).drew).heap[W0.heap.size]? = some (.cells #[.int .i64 (valB (Go.Proofs.YtheoklhmlnfgjaaGreatDoor.sl l 3 7)), .int .i64 2, .int .i64 (valB (Go.Proofs.YtheoklhmlnfgjaaGreatDoor.sl l 7 11)), .string ⟨(Go.Proofs.YtheoklhmlnfgjaaGreatDoor.sl l 11 (11 + k)).toArray⟩] 35 (0, 0)) := heap_alloc_new W0 _
      have hbf := (hbb.alloc (by rw [HZ0.out]; omega) (.cells #[.int .i64 (valB (Go.Proofs.YtheoklhmlnfgjaaGreatDoor.sl l 3 7)), .int .i64 2, .int .i64 (valB (Go.Proofs.YtheoklhmlnfgjaaGreatDoor.sl l 7 11)), .string ⟨(Go.Proofs.YtheoklhmlnfgjaaGreatDoor.sl l 11 (11 + k)).toArray⟩] 35)).drew
      generalize (W0.alloc (.cells #[.int .i64 (valB (Go.Proofs.YtheoklhmlnfgjaaGreatDoor.sl l 3 7)), .int .i64 2, .int .i64 (valB (Go.Proofs.YtheoklhmlnfgjaaGreatDoor.sl l 7 11)), .string ⟨(Go.Proofs.YtheoklhmlnfgjaaGreatDoor.sl l 11 (11 + k)).toArray⟩] 35)).drew = W1 at *
      obtain ⟨e0, e1, e2, e3⟩ := four_of_block g0
      obtain ⟨e4, e5, e6, e7⟩ := four_of_block g1
      have e8 := free_of_block g0
      have hne2 : ¬ W0.heap.size = w.heap.size := by rw [HZ0.out]; omega
      have HN2 := Lib.hid hne2
      clear g0 g1 hne2
      go_wp2_with fail
      refine bodyPost_ret (v := Dec.val ⟨valB (Go.Proofs.YtheoklhmlnfgjaaGreatDoor.sl l 3 7), 2, valB (Go.Proofs.YtheoklhmlnfgjaaGreatDoor.sl l 7 11), Go.Proofs.YtheoklhmlnfgjaaGreatDoor.sl l 11 (11 + k), 11 + k + 4, 0⟩) (by simp [results, Tryz.results72, go_sem, Dec.val, e0, e1, e2, e3]) rfl ⟨rfl, (((hbf.setCell (p := ⟨w.heap.size, 0, none⟩) (Nat.le_refl _) _).setCell (p := ⟨w.heap.size, 1, none⟩) (Nat.le_refl _) _).setCell (p := ⟨w.heap.size, 2, none⟩) (Nat.le_refl _) _).setCell (p := ⟨w.heap.size, 3, none⟩) (Nat.le_refl _) _⟩
end Go.Proofs.YtheoklhmlnfgjaaGreatDoor
