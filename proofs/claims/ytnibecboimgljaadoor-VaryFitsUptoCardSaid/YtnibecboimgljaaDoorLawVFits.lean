/-
  VaryFits: an entry that is made for a request matches it, unless its Vary has a star.
-/
import Derived.Test.YtnibecboimgljaaDoorAlive17
import Derived.Test.YtnibecboimgljaaDoorMatches
import Derived.Test.YtnibecboimgljaaDoorEntryOpen
namespace Go.Proofs.YtnibecboimgljaaDoor
open Go.RowKit

theorem matchB_self (L A : List Pair) : matchB L (keyT (namesT L).1 A) A = (namesT L).2 := by
  unfold matchB
  simp

set_option maxRecDepth 100000 in
set_option maxHeartbeats 16000000 in
theorem varyFits_walk (k va : ByteArray) (st : Int) (rs : ByteArray) (mi : Int) (p : Option Addr) (L : List Pair) (c : Nat) (x : Option Addr) (l : List UInt8) (y : Nat) (a g : Int) (A : List Pair) (pa : Option Addr) (ca : Nat) (w : World)
    (hin : In2 w p L) (h8 : In8 w x l) (hk : k.size + va.size + rs.size + bulkF L + l.length ≤ 1048576) (hA : In2 w pa A) (hkA : bulkF A ≤ 1048576) :
    Calls Tryd.prog 8 #[.agg #[.string k, .string va, .int .i64 st, .string rs, .int .i64 mi, .slice p L.length c, .slice x l.length y, .int .i64 a, .int .i64 g], .slice pa A.length ca] w fun e w' => e = .returned (.bool true) ∧ Below w.heap.size w w' := by
  have hll := bulkF_length L
  have hlA := bulkF_length A
  have hTL := tokens_lenV L
  have hNB := namesT_bulk L
  have hb0 := (Below.refl w.heap.size w).alloc (Nat.le_refl _) (.cells #[.string k, .string va, .int .i64 st, .string rs, .int .i64 mi, .slice p L.length c, .slice x l.length y, .int .i64 a, .int .i64 g] 41)
  have ha0 := heap_alloc_new w (.cells #[.string k, .string va, .int .i64 st, .string rs, .int .i64 mi, .slice p L.length c, .slice x l.length y, .int .i64 a, .int .i64 g] 41)
  go_enter Tryd.func8, Tryd.ntmps8
  go_wp2_with fail
  refine (alive17_any _).mono ?_
  rintro e w1 ⟨rfl, hb1⟩
  have hB1 := hb0.trans (hb1.mono (by simp))
  have hs1 := hB1.size
  have hsw1 : w.heap.size < w1.heap.size := by have := hb1.size; simp at this; omega
  have hg1 := (hb1.block w.heap.size (by simp)).trans ha0
  have c0 : w1.cell? ⟨w.heap.size, 0, none⟩ = some (.string k) := by rw [cell_of_row _ _ _ _ _ _ hg1]; rfl
  have c1 : w1.cell? ⟨w.heap.size, 1, none⟩ = some (.string va) := by rw [cell_of_row _ _ _ _ _ _ hg1]; rfl
  have c2 : w1.cell? ⟨w.heap.size, 2, none⟩ = some (.int .i64 st) := by rw [cell_of_row _ _ _ _ _ _ hg1]; rfl
  have c3 : w1.cell? ⟨w.heap.size, 3, none⟩ = some (.string rs) := by rw [cell_of_row _ _ _ _ _ _ hg1]; rfl
  have c4 : w1.cell? ⟨w.heap.size, 4, none⟩ = some (.int .i64 mi) := by rw [cell_of_row _ _ _ _ _ _ hg1]; rfl
  have c5 : w1.cell? ⟨w.heap.size, 5, none⟩ = some (.slice p L.length c) := by rw [cell_of_row _ _ _ _ _ _ hg1]; rfl
  have c6 : w1.cell? ⟨w.heap.size, 6, none⟩ = some (.slice x l.length y) := by rw [cell_of_row _ _ _ _ _ _ hg1]; rfl
  have c7 : w1.cell? ⟨w.heap.size, 7, none⟩ = some (.int .i64 a) := by rw [cell_of_row _ _ _ _ _ _ hg1]; rfl
  have c8 : w1.cell? ⟨w.heap.size, 8, none⟩ = some (.int .i64 g) := by rw [cell_of_row _ _ _ _ _ _ hg1]; rfl
  go_wp2_with fail
  refine (copyFields_any L p _ c rfl (by omega) w1 (hin.below hB1)).mono ?_
  rintro e w2 ⟨v2, rfl, hownL, hb2⟩
  have hB2 := hB1.trans (hb2.mono hs1)
  have hs2 := hB2.size
  have hsw2 : w.heap.size < w2.heap.size := by have := hb2.size; omega
  have hg2 := (hb2.block w.heap.size hsw1).trans hg1
  obtain ⟨po, co, rfl, k1, k2, hino, _⟩ := Own2.shape hownL rfl
  clear c0 c1 c2 c3 c4 c5 c6 c7 c8 hownL
  go_wp2_with fail
  refine (names_any L po _ co rfl (by omega) (sized_of_bulk L (by omega)) (by omega) w2 hino).mono ?_
  rintro e w3 ⟨v3, rfl, hownN, hb3⟩
  have hB3 := hB2.trans (hb3.mono hs2)
  have hs3 := hB3.size
  have hsw3 : w.heap.size < w3.heap.size := by have := hb3.size; omega
  have hg3 := (hb3.block w.heap.size hsw2).trans hg2
  obtain ⟨N, hN⟩ : ∃ N, N = (namesT L).1 := ⟨_, rfl⟩
  obtain ⟨ok, hok⟩ : ∃ b, b = (namesT L).2 := ⟨_, rfl⟩
  rw [← hN] at hownN hNB
  rw [← hok]
  have hNl := bulkT_length N
  have HNS := Lib.hid (fun x hx => by have := bulkT_mem N x hx; exact (by omega : x.length ≤ 4000000000))
  have HE := Lib.hid (fun x (_ : x ∈ N) => by have := elsOf_length A x; exact (by omega : (elsOf A x).length ≤ 8000000000000))
  have HK := Lib.hid (keyT_small N A (by omega) (by omega))
  have HN := Lib.hid hN
  have HOK := Lib.hid hok
  obtain ⟨pn, cn, rfl, n1, n2, hinN, _⟩ := hownN.shape rfl
  unfold maxLen at n2
  clear hownN hino hN hok
  go_wp2_with fail
  refine (copyFields_any A pa _ ca rfl (by omega) w3 (hA.below hB3)).mono ?_
  rintro e w4 ⟨v4, rfl, hownA, hb4⟩
  have hB4 := hB3.trans (hb4.mono hs3)
  have hs4 := hB4.size
  have hsw4 : w.heap.size < w4.heap.size := by have := hb4.size; omega
  have hg4 := (hb4.block w.heap.size hsw3).trans hg3
  obtain ⟨pq, cq, rfl, q1, q2, hinA, _⟩ := Own2.shape hownA rfl
  clear hownA
  go_wp2_with fail
  refine (key_any N pn _ cn rfl (by omega) A pq _ cq rfl (by omega) HNS.out (sized_of_bulk A (by omega)) HE.out HK.out w4 (hinN.below hb4) hinA).mono ?_
  rintro e w5 ⟨rfl, hb5⟩
  have hB5 := hB4.trans (hb5.mono hs4)
  have hs5 := hB5.size
  have hsw5 : w.heap.size < w5.heap.size := by have := hb5.size; omega
  have hg5 := (hb5.block w.heap.size hsw4).trans hg4
  obtain ⟨K, hKK⟩ : ∃ K : ByteArray, K = ⟨(keyT N A).toArray⟩ := ⟨_, rfl⟩
  rw [← hKK]
  have HKD := Lib.hid (show K.data.toList = keyT N A by rw [hKK])
  clear hKK
  have c0 : w5.cell? ⟨w.heap.size, 0, none⟩ = some (.string k) := by rw [cell_of_row _ _ _ _ _ _ hg5]; rfl
  have c1 : w5.cell? ⟨w.heap.size, 1, none⟩ = some (.string va) := by rw [cell_of_row _ _ _ _ _ _ hg5]; rfl
  have c2 : w5.cell? ⟨w.heap.size, 2, none⟩ = some (.int .i64 st) := by rw [cell_of_row _ _ _ _ _ _ hg5]; rfl
  have c3 : w5.cell? ⟨w.heap.size, 3, none⟩ = some (.string rs) := by rw [cell_of_row _ _ _ _ _ _ hg5]; rfl
  have c4 : w5.cell? ⟨w.heap.size, 4, none⟩ = some (.int .i64 mi) := by rw [cell_of_row _ _ _ _ _ _ hg5]; rfl
  have c5 : w5.cell? ⟨w.heap.size, 5, none⟩ = some (.slice p L.length c) := by rw [cell_of_row _ _ _ _ _ _ hg5]; rfl
  have c6 : w5.cell? ⟨w.heap.size, 6, none⟩ = some (.slice x l.length y) := by rw [cell_of_row _ _ _ _ _ _ hg5]; rfl
  have c7 : w5.cell? ⟨w.heap.size, 7, none⟩ = some (.int .i64 a) := by rw [cell_of_row _ _ _ _ _ _ hg5]; rfl
  have c8 : w5.cell? ⟨w.heap.size, 8, none⟩ = some (.int .i64 g) := by rw [cell_of_row _ _ _ _ _ _ hg5]; rfl
  have f5 : ∀ i, w5.frozen? ⟨w.heap.size, i, none⟩ = false := fun i => frozen_of_row w5 w.heap.size i _ _ hg5
  obtain ⟨w6, hw6⟩ : ∃ W0, W0 = w5.setCell ⟨w.heap.size, 1, none⟩ (.string K) := ⟨_, rfl⟩
  have hB6 : Below w.heap.size w w6 := by rw [hw6]; exact hB5.setCell (p := ⟨w.heap.size, 1, none⟩) (Nat.le_refl _) _
  have hs6 := hB6.size
  have HCE := Lib.hid (copyEntry_any k K st rs mi a g L p _ c rfl (by omega) l x _ y rfl (by omega) w6 (hin.below hB6) (h8.below hB6))
  have HW6 := Lib.hid hw6
  have hme : matchB L K.data.toList A = ok := by rw [HKD.out, HN.out, matchB_self, HOK.out]
  have HME := Lib.hid hme
  have qok : (ok == ok) = true := by simp
  clear hw6 hme
  go_wp2_with fail
  rw [← HW6.out]
  refine HCE.out.mono ?_
  rintro e w7 ⟨v1, v2, rfl, hownL, hown8, hb7⟩
  have hB7 := hB6.trans (hb7.mono hs6)
  have hs7 := hB7.size
  obtain ⟨p1, c1', rfl, r1, r2, hin1, _⟩ := Own2.shape hownL rfl
  obtain ⟨x1, d1, rfl, m1, m2, _⟩ := hown8.in8n rfl
  unfold entV
  clear hownL hown8
  go_wp2_with fail
  refine (copyFields_any A pa _ ca rfl (by omega) w7 (hA.below hB7)).mono ?_
  rintro e w8 ⟨v8, rfl, hownA, hb8⟩
  have hB8 := hB7.trans (hb8.mono hs7)
  have hs8 := hB8.size
  obtain ⟨p2, c2', rfl, s1, s2, hin2, _⟩ := Own2.shape hownA rfl
  clear hownA
  have hm := matches_any k K st rs mi a g L p1 _ c1' rfl x1 l.length d1 A p2 _ c2' rfl (by omega) (by omega) w8 (hin1.below hb8) hin2
  rw [HME.out] at hm
  go_wp2_with fail
  refine hm.mono ?_
  rintro e w9 ⟨rfl, hb9⟩
  have hB9 := hB8.trans (hb9.mono hs8)
  clear hm
  go_wp2_with fail
  go_ret
  exact ⟨rfl, hB9⟩
end Go.Proofs.YtnibecboimgljaaDoor
