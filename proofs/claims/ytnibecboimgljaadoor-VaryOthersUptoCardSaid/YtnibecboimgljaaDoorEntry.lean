/-
  CopyResponse, CopyEntry; SameResponse, SameEntry: entries.
-/
import Derived.Test.YtnibecboimgljaaDoorFieldsA
import Derived.Test.YtnibecboimgljaaDoorKeep
import Derived.Test.YtnibecboimgljaaDoorUseB
import Derived.Laws.ResultCell
namespace Go.Proofs.YtnibecboimgljaaDoor
open Go.RowKit

def respV (st : Int) (rs : ByteArray) (mi : Int) (f : Value) : Value := .agg #[.int .i64 st, .string rs, .int .i64 mi, f]
def entV (k v : ByteArray) (st : Int) (rs : ByteArray) (mi : Int) (f b : Value) (a g : Int) : Value := .agg #[.string k, .string v, .int .i64 st, .string rs, .int .i64 mi, f, b, .int .i64 a, .int .i64 g]

theorem own2_set {e : TypeId} {w : World} {base : Nat} {v : Value} {L : List Pair} (h : Own2 e w base v L) {a : Addr} (ha : a.block < base) (u : Value) : Own2 e (w.setCell a u) base v L := ownsRow_setCell_below h ha u

set_option maxHeartbeats 1000000 in
theorem copyResponse_any (st : Int) (rs : ByteArray) (mi : Int) (L : List Pair) (p : Option Addr) (n c : Nat) (hn : L.length = n) (hr : n ≤ 4400000000000) (w : World) (h : In2 w p L) :
    Calls Tryd.prog 38 #[.agg #[.int .i64 st, .string rs, .int .i64 mi, .slice p n c]] w fun e w' => ∃ v, e = .returned (respV st rs mi v) ∧ OwnF w' w.heap.size v L ∧ Below w.heap.size w w' := by
  subst hn
  obtain ⟨wa, hwa⟩ : ∃ W0, W0 = ((w.alloc (.cells #[.int .i64 st, .string rs, .int .i64 mi, .slice p L.length c] 38)).alloc (.cells #[.int .i64 0, .string ⟨#[]⟩, .int .i64 0, .slice none 0 0] 38)) := ⟨_, rfl⟩
  have hb0 : Below w.heap.size w wa := by rw [hwa]; exact ((Below.refl w.heap.size w).alloc (Nat.le_refl _) _).alloc (by simp) _
  have hs0 : wa.heap.size = w.heap.size + 2 := by rw [hwa]; simp
  have ha0 : wa.heap[w.heap.size]? = some (.cells #[.int .i64 st, .string rs, .int .i64 mi, .slice p L.length c] 38 (0, 0)) := by
    rw [hwa, heap_alloc_old _ _ (by simp)]; exact heap_alloc_new w _
  have ha1 : wa.heap[w.heap.size + 1]? = some (.cells #[.int .i64 0, .string ⟨#[]⟩, .int .i64 0, .slice none 0 0] 38 (0, 0)) := by
    have := heap_alloc_new (w.alloc (.cells #[.int .i64 st, .string rs, .int .i64 mi, .slice p L.length c] 38)) (.cells #[.int .i64 0, .string ⟨#[]⟩, .int .i64 0, .slice none 0 0] 38)
    simp only [World.size_alloc] at this
    rw [hwa]; exact this
  have hcall := copyFields_any L p _ c rfl hr wa (h.below hb0)
  rw [hwa] at hcall
  go_enter Tryd.func38, Tryd.ntmps38
  go_wp2_with fail
  refine hcall.mono ?_
  rw [← hwa]
  rintro e w1 ⟨v, rfl, hown, hb1⟩
  have hB1 := hb0.trans (hb1.mono (by omega))
  have hs1 := hb1.size
  have hg0 := (hb1.block w.heap.size (by omega)).trans ha0
  have hg1 := (hb1.block (w.heap.size + 1) (by omega)).trans ha1
  obtain ⟨pv, cv, rfl, k1, k2, _, _⟩ := Own2.shape hown rfl
  have c0 : w1.cell? ⟨w.heap.size, 0, none⟩ = some (.int .i64 st) := by rw [cell_of_row _ _ _ _ _ _ hg0]; rfl
  have c1 : w1.cell? ⟨w.heap.size, 1, none⟩ = some (.string rs) := by rw [cell_of_row _ _ _ _ _ _ hg0]; rfl
  have c2 : w1.cell? ⟨w.heap.size, 2, none⟩ = some (.int .i64 mi) := by rw [cell_of_row _ _ _ _ _ _ hg0]; rfl
  have c3 : w1.cell? ⟨w.heap.size, 3, none⟩ = some (.slice p L.length c) := by rw [cell_of_row _ _ _ _ _ _ hg0]; rfl
  have d0 : w1.cell? ⟨w.heap.size + 1, 0, none⟩ = some (.int .i64 0) := by rw [cell_of_row _ _ _ _ _ _ hg1]; rfl
  have d1 : w1.cell? ⟨w.heap.size + 1, 1, none⟩ = some (.string ⟨#[]⟩) := by rw [cell_of_row _ _ _ _ _ _ hg1]; rfl
  have d2 : w1.cell? ⟨w.heap.size + 1, 2, none⟩ = some (.int .i64 0) := by rw [cell_of_row _ _ _ _ _ _ hg1]; rfl
  have d3 : w1.cell? ⟨w.heap.size + 1, 3, none⟩ = some (.slice none 0 0) := by rw [cell_of_row _ _ _ _ _ _ hg1]; rfl
  have f0 : ∀ i, w1.frozen? ⟨w.heap.size, i, none⟩ = false := fun i => frozen_of_row w1 w.heap.size i _ _ hg0
  have f1 : ∀ i, w1.frozen? ⟨w.heap.size + 1, i, none⟩ = false := fun i => frozen_of_row w1 (w.heap.size + 1) i _ _ hg1
  clear hcall
  go_wp2_with fail
  refine bodyPost_ret (v := respV st rs mi (.slice pv L.length cv)) (by simp [results, Tryd.results38, go_sem, respV, d0, d1, d2, d3]) rfl ⟨_, rfl, ?_, ?_⟩
  · exact Own2.mono (own2_set (own2_set (own2_set (own2_set (own2_set hown (by simp; omega) _) (by simp; omega) _) (by simp; omega) _) (by simp; omega) _) (by simp; omega) _) (by omega)
  · exact ((((hB1.setCell (p := ⟨w.heap.size, 3, none⟩) (Nat.le_refl _) _).setCell (p := ⟨w.heap.size + 1, 0, none⟩) (by simp) _).setCell (p := ⟨w.heap.size + 1, 1, none⟩) (by simp) _).setCell (p := ⟨w.heap.size + 1, 2, none⟩) (by simp) _).setCell (p := ⟨w.heap.size + 1, 3, none⟩) (by simp) _

theorem own8_set {w : World} {base : Nat} {v : Value} {l : List UInt8} (h : Own8 w base v l) {a : Addr} (ha : a.block < base) (u : Value) : Own8 (w.setCell a u) base v l := ownsRow_setCell_below h ha u

set_option maxHeartbeats 2000000 in
theorem copyEntry_any (k v : ByteArray) (st : Int) (rs : ByteArray) (mi a g : Int) (L : List Pair) (p : Option Addr) (n c : Nat) (hn : L.length = n) (hr : n ≤ 4400000000000) (l : List UInt8) (q : Option Addr) (m d : Nat) (hm : l.length = m) (hr2 : m ≤ 140737488355328) (w : World) (h : In2 w p L) (h8 : In8 w q l) :
    Calls Tryd.prog 19 #[.agg #[.string k, .string v, .int .i64 st, .string rs, .int .i64 mi, .slice p n c, .slice q m d, .int .i64 a, .int .i64 g]] w fun e w' => ∃ v1 v2, e = .returned (entV k v st rs mi v1 v2 a g) ∧ OwnF w' w.heap.size v1 L ∧ Own8 w' w.heap.size v2 l ∧ Below w.heap.size w w' := by
  subst hn
  subst hm
  obtain ⟨wa, hwa⟩ : ∃ W0, W0 = ((w.alloc (.cells #[.string k, .string v, .int .i64 st, .string rs, .int .i64 mi, .slice p L.length c, .slice q l.length d, .int .i64 a, .int .i64 g] 41)).alloc (.cells #[.string ⟨#[]⟩, .string ⟨#[]⟩, .int .i64 0, .string ⟨#[]⟩, .int .i64 0, .slice none 0 0, .slice none 0 0, .int .i64 0, .int .i64 0] 41)) := ⟨_, rfl⟩
  have hb0 : Below w.heap.size w wa := by rw [hwa]; exact ((Below.refl w.heap.size w).alloc (Nat.le_refl _) _).alloc (by simp) _
  have hs0 : wa.heap.size = w.heap.size + 2 := by rw [hwa]; simp
  have ha0 : wa.heap[w.heap.size]? = some (.cells #[.string k, .string v, .int .i64 st, .string rs, .int .i64 mi, .slice p L.length c, .slice q l.length d, .int .i64 a, .int .i64 g] 41 (0, 0)) := by
    rw [hwa, heap_alloc_old _ _ (by simp)]; exact heap_alloc_new w _
  have ha1 : wa.heap[w.heap.size + 1]? = some (.cells #[.string ⟨#[]⟩, .string ⟨#[]⟩, .int .i64 0, .string ⟨#[]⟩, .int .i64 0, .slice none 0 0, .slice none 0 0, .int .i64 0, .int .i64 0] 41 (0, 0)) := by
    have := heap_alloc_new (w.alloc (.cells #[.string k, .string v, .int .i64 st, .string rs, .int .i64 mi, .slice p L.length c, .slice q l.length d, .int .i64 a, .int .i64 g] 41)) (.cells #[.string ⟨#[]⟩, .string ⟨#[]⟩, .int .i64 0, .string ⟨#[]⟩, .int .i64 0, .slice none 0 0, .slice none 0 0, .int .i64 0, .int .i64 0] 41)
    simp only [World.size_alloc] at this
    rw [hwa]; exact this
  have hcall := copyResponse_any st rs mi L p _ c rfl hr wa (h.below hb0)
  rw [hwa] at hcall
  go_enter Tryd.func19, Tryd.ntmps19
  go_wp2_with fail
  refine hcall.mono ?_
  rw [← hwa]
  rintro e w1 ⟨v1, rfl, hown, hb1⟩
  have hB1 := hb0.trans (hb1.mono (by omega))
  have hs1 := hb1.size
  have hg0 := (hb1.block w.heap.size (by omega)).trans ha0
  have hg1 := (hb1.block (w.heap.size + 1) (by omega)).trans ha1
  obtain ⟨pv, cv, rfl, k1, k2, _, _⟩ := Own2.shape hown rfl
  have c0 : w1.cell? ⟨w.heap.size, 0, none⟩ = some (.string k) := by rw [cell_of_row _ _ _ _ _ _ hg0]; rfl
  have c1 : w1.cell? ⟨w.heap.size, 1, none⟩ = some (.string v) := by rw [cell_of_row _ _ _ _ _ _ hg0]; rfl
  have c2 : w1.cell? ⟨w.heap.size, 2, none⟩ = some (.int .i64 st) := by rw [cell_of_row _ _ _ _ _ _ hg0]; rfl
  have c3 : w1.cell? ⟨w.heap.size, 3, none⟩ = some (.string rs) := by rw [cell_of_row _ _ _ _ _ _ hg0]; rfl
  have c4 : w1.cell? ⟨w.heap.size, 4, none⟩ = some (.int .i64 mi) := by rw [cell_of_row _ _ _ _ _ _ hg0]; rfl
  have c5 : w1.cell? ⟨w.heap.size, 5, none⟩ = some (.slice p L.length c) := by rw [cell_of_row _ _ _ _ _ _ hg0]; rfl
  have c6 : w1.cell? ⟨w.heap.size, 6, none⟩ = some (.slice q l.length d) := by rw [cell_of_row _ _ _ _ _ _ hg0]; rfl
  have c7 : w1.cell? ⟨w.heap.size, 7, none⟩ = some (.int .i64 a) := by rw [cell_of_row _ _ _ _ _ _ hg0]; rfl
  have c8 : w1.cell? ⟨w.heap.size, 8, none⟩ = some (.int .i64 g) := by rw [cell_of_row _ _ _ _ _ _ hg0]; rfl
  have f0 : ∀ i, w1.frozen? ⟨w.heap.size, i, none⟩ = false := fun i => frozen_of_row w1 w.heap.size i _ _ hg0
  obtain ⟨wb, hwb⟩ : ∃ W0, W0 = ((((w1.setCell ⟨w.heap.size, 2, none⟩ (.int .i64 st)).setCell ⟨w.heap.size, 3, none⟩ (.string rs)).setCell ⟨w.heap.size, 4, none⟩ (.int .i64 mi)).setCell ⟨w.heap.size, 5, none⟩ (.slice pv L.length cv)) := ⟨_, rfl⟩
  have hBb : Below w.heap.size w wb := by rw [hwb]; exact (((hB1.setCell (p := ⟨w.heap.size, 2, none⟩) (Nat.le_refl _) _).setCell (p := ⟨w.heap.size, 3, none⟩) (Nat.le_refl _) _).setCell (p := ⟨w.heap.size, 4, none⟩) (Nat.le_refl _) _).setCell (p := ⟨w.heap.size, 5, none⟩) (Nat.le_refl _) _
  have hsb : wb.heap.size = w1.heap.size := by rw [hwb]; simp [World.setCell]
  have hgb : wb.heap[w.heap.size]? = some (.cells #[.string k, .string v, .int .i64 st, .string rs, .int .i64 mi, .slice pv L.length cv, .slice q l.length d, .int .i64 a, .int .i64 g] 41 (0, 0)) := by rw [hwb]; simp [World.setCell, Array.getElem?_modify, hg0]
  have hgb1 : wb.heap[w.heap.size + 1]? = some (.cells #[.string ⟨#[]⟩, .string ⟨#[]⟩, .int .i64 0, .string ⟨#[]⟩, .int .i64 0, .slice none 0 0, .slice none 0 0, .int .i64 0, .int .i64 0] 41 (0, 0)) := by rw [hwb]; simp [World.setCell, Array.getElem?_modify, hg1]
  have hownb : OwnF wb (w.heap.size + 2) (.slice pv L.length cv) L := by
    rw [hwb]
    exact Own2.mono (own2_set (own2_set (own2_set (own2_set hown (by simp; omega) _) (by simp; omega) _) (by simp; omega) _) (by simp; omega) _) (by omega)
  have hcall2 := copyBytes_any l q _ d rfl hr2 wb (h8.below hBb)
  rw [hwb] at hcall2
  clear hcall
  unfold respV
  go_wp2_with fail
  refine hcall2.mono ?_
  rw [← hwb]
  rintro e w2 ⟨v2, rfl, hown2, hb2⟩
  have hB2 := hBb.trans (hb2.mono (by omega))
  have hs2 := hb2.size
  have hg2 := (hb2.block w.heap.size (by omega)).trans hgb
  have hg3 := (hb2.block (w.heap.size + 1) (by omega)).trans hgb1
  have hownf := Own2.below hownb hb2
  obtain ⟨qv, dv, rfl, m1, m2, _⟩ := hown2.in8n rfl
  clear hcall2 c0 c1 c2 c3 c4 c5 c6 c7 c8 f0
  have c0 : w2.cell? ⟨w.heap.size, 0, none⟩ = some (.string k) := by rw [cell_of_row _ _ _ _ _ _ hg2]; rfl
  have c1 : w2.cell? ⟨w.heap.size, 1, none⟩ = some (.string v) := by rw [cell_of_row _ _ _ _ _ _ hg2]; rfl
  have c2 : w2.cell? ⟨w.heap.size, 2, none⟩ = some (.int .i64 st) := by rw [cell_of_row _ _ _ _ _ _ hg2]; rfl
  have c3 : w2.cell? ⟨w.heap.size, 3, none⟩ = some (.string rs) := by rw [cell_of_row _ _ _ _ _ _ hg2]; rfl
  have c4 : w2.cell? ⟨w.heap.size, 4, none⟩ = some (.int .i64 mi) := by rw [cell_of_row _ _ _ _ _ _ hg2]; rfl
  have c5 : w2.cell? ⟨w.heap.size, 5, none⟩ = some (.slice pv L.length cv) := by rw [cell_of_row _ _ _ _ _ _ hg2]; rfl
  have c6 : w2.cell? ⟨w.heap.size, 6, none⟩ = some (.slice q l.length d) := by rw [cell_of_row _ _ _ _ _ _ hg2]; rfl
  have c7 : w2.cell? ⟨w.heap.size, 7, none⟩ = some (.int .i64 a) := by rw [cell_of_row _ _ _ _ _ _ hg2]; rfl
  have c8 : w2.cell? ⟨w.heap.size, 8, none⟩ = some (.int .i64 g) := by rw [cell_of_row _ _ _ _ _ _ hg2]; rfl
  have d0 : w2.cell? ⟨w.heap.size + 1, 0, none⟩ = some (.string ⟨#[]⟩) := by rw [cell_of_row _ _ _ _ _ _ hg3]; rfl
  have d1 : w2.cell? ⟨w.heap.size + 1, 1, none⟩ = some (.string ⟨#[]⟩) := by rw [cell_of_row _ _ _ _ _ _ hg3]; rfl
  have d2 : w2.cell? ⟨w.heap.size + 1, 2, none⟩ = some (.int .i64 0) := by rw [cell_of_row _ _ _ _ _ _ hg3]; rfl
  have d3 : w2.cell? ⟨w.heap.size + 1, 3, none⟩ = some (.string ⟨#[]⟩) := by rw [cell_of_row _ _ _ _ _ _ hg3]; rfl
  have d4 : w2.cell? ⟨w.heap.size + 1, 4, none⟩ = some (.int .i64 0) := by rw [cell_of_row _ _ _ _ _ _ hg3]; rfl
  have d5 : w2.cell? ⟨w.heap.size + 1, 5, none⟩ = some (.slice none 0 0) := by rw [cell_of_row _ _ _ _ _ _ hg3]; rfl
  have d6 : w2.cell? ⟨w.heap.size + 1, 6, none⟩ = some (.slice none 0 0) := by rw [cell_of_row _ _ _ _ _ _ hg3]; rfl
  have d7 : w2.cell? ⟨w.heap.size + 1, 7, none⟩ = some (.int .i64 0) := by rw [cell_of_row _ _ _ _ _ _ hg3]; rfl
  have d8 : w2.cell? ⟨w.heap.size + 1, 8, none⟩ = some (.int .i64 0) := by rw [cell_of_row _ _ _ _ _ _ hg3]; rfl
  have f0 : ∀ i, w2.frozen? ⟨w.heap.size, i, none⟩ = false := fun i => frozen_of_row w2 w.heap.size i _ _ hg2
  have f1 : ∀ i, w2.frozen? ⟨w.heap.size + 1, i, none⟩ = false := fun i => frozen_of_row w2 (w.heap.size + 1) i _ _ hg3
  go_wp2_with fail
  refine bodyPost_ret (v := entV k v st rs mi (.slice pv L.length cv) (.slice qv l.length dv) a g) (by simp [results, Tryd.results19, go_sem, entV, d0, d1, d2, d3, d4, d5, d6, d7, d8]) rfl ⟨_, _, rfl, ?_, ?_, ?_⟩
  · exact Own2.mono (own2_set (own2_set (own2_set (own2_set (own2_set (own2_set (own2_set (own2_set (own2_set (own2_set hownf (by simp) _) (by simp) _) (by simp) _) (by simp) _) (by simp) _) (by simp) _) (by simp) _) (by simp) _) (by simp) _) (by simp) _) (by omega)
  · exact Own8.mono (own8_set (own8_set (own8_set (own8_set (own8_set (own8_set (own8_set (own8_set (own8_set (own8_set hown2 (by simp; omega) _) (by simp; omega) _) (by simp; omega) _) (by simp; omega) _) (by simp; omega) _) (by simp; omega) _) (by simp; omega) _) (by simp; omega) _) (by simp; omega) _) (by simp; omega) _) (by omega)
  · exact (((((((((hB2.setCell (p := ⟨w.heap.size, 6, none⟩) (Nat.le_refl _) _).setCell (p := ⟨w.heap.size + 1, 0, none⟩) (by simp) _).setCell (p := ⟨w.heap.size + 1, 1, none⟩) (by simp) _).setCell (p := ⟨w.heap.size + 1, 2, none⟩) (by simp) _).setCell (p := ⟨w.heap.size + 1, 3, none⟩) (by simp) _).setCell (p := ⟨w.heap.size + 1, 4, none⟩) (by simp) _).setCell (p := ⟨w.heap.size + 1, 5, none⟩) (by simp) _).setCell (p := ⟨w.heap.size + 1, 6, none⟩) (by simp) _).setCell (p := ⟨w.heap.size + 1, 7, none⟩) (by simp) _).setCell (p := ⟨w.heap.size + 1, 8, none⟩) (by simp) _

set_option maxHeartbeats 2000000 in
theorem sameResponse_same (st : Int) (rs : ByteArray) (mi : Int) (L : List Pair) (p q : Option Addr) (n c n2 d : Nat) (hn : L.length = n) (hn2 : L.length = n2) (hm : n ≤ maxLen) (w : World) (h : In2 w p L) (h2 : In2 w q L) :
    Calls Tryd.prog 40 #[.agg #[.int .i64 st, .string rs, .int .i64 mi, .slice p n c], .agg #[.int .i64 st, .string rs, .int .i64 mi, .slice q n2 d]] w fun e w' => e = .returned (.bool true) ∧ Below w.heap.size w w' := by
  subst hn
  subst hn2
  obtain ⟨wa, hwa⟩ : ∃ W0, W0 = ((w.alloc (.cells #[.int .i64 st, .string rs, .int .i64 mi, .slice p L.length c] 38)).alloc (.cells #[.int .i64 st, .string rs, .int .i64 mi, .slice q L.length d] 38)) := ⟨_, rfl⟩
  have hb0 : Below w.heap.size w wa := by rw [hwa]; exact ((Below.refl w.heap.size w).alloc (Nat.le_refl _) _).alloc (by simp) _
  have hcall := sameFields_same L p q _ c _ d rfl rfl hm wa (h.below hb0) (h2.below hb0)
  have q1 : (st == st) = true := by simp
  have q2 : (rs.toList == rs.toList) = true := by simp
  have q3 : (mi == mi) = true := by simp
  rw [hwa] at hcall
  go_enter Tryd.func40, Tryd.ntmps40
  go_wp2_with fail
  refine hcall.mono ?_
  rw [← hwa]
  rintro e w1 ⟨rfl, hb1⟩
  have hB1 := hb0.trans (hb1.mono (by rw [hwa]; simp; omega))
  go_wp2_with fail
  go_ret
  exact ⟨rfl, hB1⟩

set_option maxHeartbeats 2000000 in
theorem sameEntry_same (k v : ByteArray) (st : Int) (rs : ByteArray) (mi a g : Int) (L : List Pair) (p q : Option Addr) (n c n2 d : Nat) (hn : L.length = n) (hn2 : L.length = n2) (hm : n ≤ maxLen) (l : List UInt8) (x x2 : Option Addr) (m y m2 y2 : Nat) (hl : l.length = m) (hl2 : l.length = m2) (hlm : m ≤ maxLen) (w : World) (h : In2 w p L) (h2 : In2 w q L) (h8 : In8 w x l) (h82 : In8 w x2 l) :
    Calls Tryd.prog 22 #[.agg #[.string k, .string v, .int .i64 st, .string rs, .int .i64 mi, .slice p n c, .slice x m y, .int .i64 a, .int .i64 g], .agg #[.string k, .string v, .int .i64 st, .string rs, .int .i64 mi, .slice q n2 d, .slice x2 m2 y2, .int .i64 a, .int .i64 g]] w fun e w' => e = .returned (.bool true) ∧ Below w.heap.size w w' := by
  subst hn
  subst hn2
  subst hl
  subst hl2
  obtain ⟨wa, hwa⟩ : ∃ W0, W0 = ((w.alloc (.cells #[.string k, .string v, .int .i64 st, .string rs, .int .i64 mi, .slice p L.length c, .slice x l.length y, .int .i64 a, .int .i64 g] 41)).alloc (.cells #[.string k, .string v, .int .i64 st, .string rs, .int .i64 mi, .slice q L.length d, .slice x2 l.length y2, .int .i64 a, .int .i64 g] 41)) := ⟨_, rfl⟩
  have hb0 : Below w.heap.size w wa := by rw [hwa]; exact ((Below.refl w.heap.size w).alloc (Nat.le_refl _) _).alloc (by simp) _
  have hs0 : wa.heap.size = w.heap.size + 2 := by rw [hwa]; simp
  have ha0 : wa.heap[w.heap.size]? = some (.cells #[.string k, .string v, .int .i64 st, .string rs, .int .i64 mi, .slice p L.length c, .slice x l.length y, .int .i64 a, .int .i64 g] 41 (0, 0)) := by
    rw [hwa, heap_alloc_old _ _ (by simp)]; exact heap_alloc_new w _
  have ha1 : wa.heap[w.heap.size + 1]? = some (.cells #[.string k, .string v, .int .i64 st, .string rs, .int .i64 mi, .slice q L.length d, .slice x2 l.length y2, .int .i64 a, .int .i64 g] 41 (0, 0)) := by
    have := heap_alloc_new (w.alloc (.cells #[.string k, .string v, .int .i64 st, .string rs, .int .i64 mi, .slice p L.length c, .slice x l.length y, .int .i64 a, .int .i64 g] 41)) (.cells #[.string k, .string v, .int .i64 st, .string rs, .int .i64 mi, .slice q L.length d, .slice x2 l.length y2, .int .i64 a, .int .i64 g] 41)
    simp only [World.size_alloc] at this
    rw [hwa]; exact this
  have hcall := sameResponse_same st rs mi L p q _ c _ d rfl rfl hm wa (h.below hb0) (h2.below hb0)
  have q1 : (k.toList == k.toList) = true := by simp
  have q2 : (v.toList == v.toList) = true := by simp
  have q3 : (a == a) = true := by simp
  have q4 : (g == g) = true := by simp
  rw [hwa] at hcall
  go_enter Tryd.func22, Tryd.ntmps22
  go_wp2_with fail
  refine hcall.mono ?_
  rw [← hwa]
  rintro e w1 ⟨rfl, hb1⟩
  have hB1 := hb0.trans (hb1.mono (by omega))
  have hs1 := hb1.size
  have hg0 := (hb1.block w.heap.size (by omega)).trans ha0
  have hg1 := (hb1.block (w.heap.size + 1) (by omega)).trans ha1
  have c6 : w1.cell? ⟨w.heap.size, 6, none⟩ = some (.slice x l.length y) := by rw [cell_of_row _ _ _ _ _ _ hg0]; rfl
  have d6 : w1.cell? ⟨w.heap.size + 1, 6, none⟩ = some (.slice x2 l.length y2) := by rw [cell_of_row _ _ _ _ _ _ hg1]; rfl
  have c7 : w1.cell? ⟨w.heap.size, 7, none⟩ = some (.int .i64 a) := by rw [cell_of_row _ _ _ _ _ _ hg0]; rfl
  have d7 : w1.cell? ⟨w.heap.size + 1, 7, none⟩ = some (.int .i64 a) := by rw [cell_of_row _ _ _ _ _ _ hg1]; rfl
  have c8 : w1.cell? ⟨w.heap.size, 8, none⟩ = some (.int .i64 g) := by rw [cell_of_row _ _ _ _ _ _ hg0]; rfl
  have d8 : w1.cell? ⟨w.heap.size + 1, 8, none⟩ = some (.int .i64 g) := by rw [cell_of_row _ _ _ _ _ _ hg1]; rfl
  have hcall2 := sameBytes_any l l x x2 _ y _ y2 rfl rfl hlm hlm w1 (h8.below hB1) (h82.below hB1)
  rw [show decide (l = l) = true from decide_eq_true rfl] at hcall2
  clear hcall
  go_wp2_with fail
  refine hcall2.mono ?_
  rintro e w2 ⟨rfl, hb2⟩
  have hB2 := hB1.trans (hb2.mono (by omega))
  have hg2 := (hb2.block w.heap.size (by omega)).trans hg0
  have hg3 := (hb2.block (w.heap.size + 1) (by omega)).trans hg1
  clear hcall2 c6 c7 c8 d6 d7 d8
  have c6 : w2.cell? ⟨w.heap.size, 6, none⟩ = some (.slice x l.length y) := by rw [cell_of_row _ _ _ _ _ _ hg2]; rfl
  have d6 : w2.cell? ⟨w.heap.size + 1, 6, none⟩ = some (.slice x2 l.length y2) := by rw [cell_of_row _ _ _ _ _ _ hg3]; rfl
  have c7 : w2.cell? ⟨w.heap.size, 7, none⟩ = some (.int .i64 a) := by rw [cell_of_row _ _ _ _ _ _ hg2]; rfl
  have d7 : w2.cell? ⟨w.heap.size + 1, 7, none⟩ = some (.int .i64 a) := by rw [cell_of_row _ _ _ _ _ _ hg3]; rfl
  have c8 : w2.cell? ⟨w.heap.size, 8, none⟩ = some (.int .i64 g) := by rw [cell_of_row _ _ _ _ _ _ hg2]; rfl
  have d8 : w2.cell? ⟨w.heap.size + 1, 8, none⟩ = some (.int .i64 g) := by rw [cell_of_row _ _ _ _ _ _ hg3]; rfl
  go_wp2_with fail
  go_ret
  exact ⟨rfl, hB2⟩
end Go.Proofs.YtnibecboimgljaaDoor
