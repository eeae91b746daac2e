/-
  The document's log: its value of ten cells, its boxes in a call.
-/
import Derived.Test.YtheoklhmlnfgjaaGreatDoorHvSwRefSteps
namespace Go.Proofs.YtheoklhmlnfgjaaGreatDoor
open Go.RowKit Go.Maps
set_option linter.unusedVariables false

/-- a log's ten cells -/
def lgC (r : RC) (A : Pl) (n : Int) : Array Value := #[.slice r.p1 A.now.length r.c1, .slice r.p2 A.safe.length r.c2, .slice r.p3 A.pend.length r.c3, .slice r.p4 A.files.length r.c4, .slice r.p5 A.files.length r.c5, .int .i64 (A.room : Int), .slice r.p6 A.fails.length r.c6, .int .i64 A.power, .int .i64 (A.steps : Int), .int .i64 n]
theorem lgC_eq (r : RC) (A : Pl) (n : Int) : lgC r A n = #[.slice r.p1 A.now.length r.c1, .slice r.p2 A.safe.length r.c2, .slice r.p3 A.pend.length r.c3, .slice r.p4 A.files.length r.c4, .slice r.p5 A.files.length r.c5, .int .i64 (A.room : Int), .slice r.p6 A.fails.length r.c6, .int .i64 A.power, .int .i64 (A.steps : Int), .int .i64 n] := rfl
theorem lg10v {W : World} {b : Nat} {T : TypeId} {a0 a1 a2 a3 a4 a5 a6 a7 a8 a9 : Value} (h : W.heap[b]? = some (.cells #[a0, a1, a2, a3, a4, a5, a6, a7, a8, a9] T (0, 0))) :
    W.cell? ⟨b, 0, none⟩ = some a0 ∧ W.cell? ⟨b, 1, none⟩ = some a1 ∧ W.cell? ⟨b, 2, none⟩ = some a2 ∧ W.cell? ⟨b, 3, none⟩ = some a3 ∧ W.cell? ⟨b, 4, none⟩ = some a4 ∧ W.cell? ⟨b, 5, none⟩ = some a5 ∧ W.cell? ⟨b, 6, none⟩ = some a6 ∧ W.cell? ⟨b, 7, none⟩ = some a7 ∧ W.cell? ⟨b, 8, none⟩ = some a8 ∧ W.cell? ⟨b, 9, none⟩ = some a9 ∧ ∀ i, W.frozen? ⟨b, i, none⟩ = false := by
  refine ⟨?_, ?_, ?_, ?_, ?_, ?_, ?_, ?_, ?_, ?_, fun i => frozen_of_row W b i _ _ h⟩ <;> (rw [cell_of_row _ _ _ _ _ _ h]; rfl)
def put10 (W : World) (b : Nat) (v0 v1 v2 v3 v4 v5 v6 v7 v8 v9 : Value) : World := (put9 W b v0 v1 v2 v3 v4 v5 v6 v7 v8).setCell ⟨b, 9, none⟩ v9
section
variable {W : World} {b : Nat} {v0 v1 v2 v3 v4 v5 v6 v7 v8 v9 : Value}
theorem put10_heap (k : Nat) (h : k ≠ b) : (put10 W b v0 v1 v2 v3 v4 v5 v6 v7 v8 v9).heap[k]? = W.heap[k]? := by
  unfold put10
  rw [heap_setCell_other _ _ _ _ h, put9_heap k h]
theorem put10_below {w : World} (hb : Below w.heap.size w W) (h : w.heap.size ≤ b) : Below w.heap.size w (put10 W b v0 v1 v2 v3 v4 v5 v6 v7 v8 v9) :=
  (put9_below hb h).setCell (p := ⟨b, 9, none⟩) h _
theorem put9_ten {x0 x1 x2 x3 x4 x5 x6 x7 x8 x9 : Value} {T : TypeId} (h : W.heap[b]? = some (.cells #[x0, x1, x2, x3, x4, x5, x6, x7, x8, x9] T (0, 0))) : (put9 W b v0 v1 v2 v3 v4 v5 v6 v7 v8).heap[b]? = some (.cells #[v0, v1, v2, v3, v4, v5, v6, v7, v8, x9] T (0, 0)) := by
  unfold put9
  have := heap_setCell_same _ b 8 _ T v8 (heap_setCell_same _ b 7 _ T v7 (heap_setCell_same _ b 6 _ T v6 (heap_setCell_same _ b 5 _ T v5 (heap_setCell_same _ b 4 _ T v4 (heap_setCell_same _ b 3 _ T v3 (heap_setCell_same _ b 2 _ T v2 (heap_setCell_same _ b 1 _ T v1 (heap_setCell_same _ b 0 _ T v0 h))))))))
  rw [this]
  simp
end
/-- a row of steps that stands in one block -/
theorem InOps.row {W : World} {b : Nat} {cs : Array Value} {T : TypeId} {fr : Nat × Nat} (hx : W.heap[b]? = some (.cells cs T fr)) (L : List OpT)
    (h : ∀ k, (hk : k < L.length) → ∃ (na nb : ByteArray) (q : Option Addr) (c : Nat), cs[k * 4]? = some (.int .i64 L[k].1) ∧ cs[k * 4 + 1]? = some (.string na) ∧ cs[k * 4 + 2]? = some (.string nb) ∧ cs[k * 4 + 3]? = some (.slice q L[k].2.2.2.length c) ∧ na.data.toList = L[k].2.1 ∧ nb.data.toList = L[k].2.2.1 ∧ In8 W q L[k].2.2.2) : InOps W (some ⟨b, 0, none⟩) L := by
  intro k hk
  obtain ⟨na, nb, q, c, h1, h2, h3, h4, h5, h6, h7⟩ := h k hk
  refine ⟨b, 0, rfl, na, nb, q, c, ?_, ?_, ?_, ?_, h5, h6, h7⟩ <;> (rw [cell_of_row _ _ _ _ _ _ hx, Nat.zero_add]; assumption)
/-- the boxes of a method of a log: the log, the result -/
structure LSt (w : World) (P : Nat → Prop) (r : RC) (A : Pl) (n : Int) (W : World) : Prop where
  s : W.heap[w.heap.size]? = some (.cells (lgC r A n) 58 (0, 0))
  z : W.heap[w.heap.size + 1]? = some (.cells #[.slice none 0 0, .slice none 0 0, .slice none 0 0, .slice none 0 0, .slice none 0 0, .int .i64 0, .slice none 0 0, .int .i64 0, .int .i64 0, .int .i64 0] 58 (0, 0))
  rp : RefP (fun g => P g ∨ g = w.heap.size ∨ g = w.heap.size + 1) W r A
  b : Below w.heap.size w W
theorem LSt.start {w : World} {P : Nat → Prop} {r : RC} {A : Pl} {n : Int} (h : RefP P w r A) :
    LSt w P r A n ((w.alloc (.cells (lgC r A n) 58)).alloc (.cells #[.slice none 0 0, .slice none 0 0, .slice none 0 0, .slice none 0 0, .slice none 0 0, .int .i64 0, .slice none 0 0, .int .i64 0, .int .i64 0, .int .i64 0] 58)) := by
  have hb : Below w.heap.size w ((w.alloc (.cells (lgC r A n) 58)).alloc (.cells #[.slice none 0 0, .slice none 0 0, .slice none 0 0, .slice none 0 0, .slice none 0 0, .int .i64 0, .slice none 0 0, .int .i64 0, .int .i64 0, .int .i64 0] 58)) := ((Below.refl _ w).alloc (Nat.le_refl _) _).alloc (by simp) _
  refine ⟨(heap_alloc_old _ _ (by simp)).trans (heap_alloc_new w _), ?_, h.step (fun k hk _ => hb.block k hk) fun k hk => ?_, hb⟩
  · have := heap_alloc_new (w.alloc (.cells (lgC r A n) 58)) (.cells #[.slice none 0 0, .slice none 0 0, .slice none 0 0, .slice none 0 0, .slice none 0 0, .int .i64 0, .slice none 0 0, .int .i64 0, .int .i64 0, .int .i64 0] 58)
    rw [World.size_alloc] at this
    exact this
  · rcases hk with hk | hk | hk
    · exact .inl hk
    · exact .inr (by omega)
    · exact .inr (by omega)
/-- the two boxes alone, beside a row that grows -/
structure LBx (w : World) (r : RC) (A : Pl) (n : Int) (W : World) : Prop where
  s : W.heap[w.heap.size]? = some (.cells (lgC r A n) 58 (0, 0))
  z : W.heap[w.heap.size + 1]? = some (.cells #[.slice none 0 0, .slice none 0 0, .slice none 0 0, .slice none 0 0, .slice none 0 0, .int .i64 0, .slice none 0 0, .int .i64 0, .int .i64 0, .int .i64 0] 58 (0, 0))
  b : Below w.heap.size w W
theorem LBx.start (w : World) (r : RC) (A : Pl) (n : Int) : LBx w r A n ((w.alloc (.cells (lgC r A n) 58)).alloc (.cells #[.slice none 0 0, .slice none 0 0, .slice none 0 0, .slice none 0 0, .slice none 0 0, .int .i64 0, .slice none 0 0, .int .i64 0, .int .i64 0, .int .i64 0] 58)) := by
  refine ⟨(heap_alloc_old _ _ (by simp)).trans (heap_alloc_new w _), ?_, ((Below.refl _ w).alloc (Nat.le_refl _) _).alloc (by simp) _⟩
  have := heap_alloc_new (w.alloc (.cells (lgC r A n) 58)) (.cells #[.slice none 0 0, .slice none 0 0, .slice none 0 0, .slice none 0 0, .slice none 0 0, .int .i64 0, .slice none 0 0, .int .i64 0, .int .i64 0, .int .i64 0] 58)
  rw [World.size_alloc] at this
  exact this
theorem LBx.size {w W : World} {r : RC} {A : Pl} {n : Int} (h : LBx w r A n W) : w.heap.size + 2 ≤ W.heap.size := lt_of_heap h.z
theorem LBx.below {w W W' : World} {r : RC} {A : Pl} {n : Int} (h : LBx w r A n W) (hb : Below W.heap.size W W') : LBx w r A n W' :=
  ⟨Below.heap hb h.s, Below.heap hb h.z, h.b.trans (hb.mono h.b.size)⟩
theorem LBx.grown {w W W' : World} {r : RC} {A : Pl} {n : Int} {v : Value} {l : BS} (h : LBx w r A n W) (hown : Own8 W (w.heap.size + 2) v l) (hg : W.grownBy W' v.ownBlock) : LBx w r A n W' :=
  ⟨(hg.block _ (lt_of_heap h.s) fun e => by have := (hown.lt _ e.symm).1; omega).trans h.s, (hg.block _ (lt_of_heap h.z) fun e => by have := (hown.lt _ e.symm).1; omega).trans h.z, own_grown h.b h.b.size (hown.mono (by omega)) hg⟩
theorem LBx.lst {w W : World} {P : Nat → Prop} {r : RC} {A : Pl} {n : Int} (h : LBx w r A n W) (hr : RefP P w r A) : LSt w P r A n W :=
  ⟨h.s, h.z, hr.step (fun k hk _ => h.b.block k hk) (fun k hk => by
    rcases hk with hk | hk | hk
    · exact .inl hk
    · exact .inr (by omega)
    · exact .inr (by omega)), h.b⟩
section
variable {w W W' : World} {P : Nat → Prop} {r r' : RC} {A A' : Pl} {n : Int}
theorem LSt.size (h : LSt w P r A n W) : w.heap.size + 2 ≤ W.heap.size := lt_of_heap h.z
theorem LSt.lt (hP : ∀ g, P g → g < w.heap.size) (h : LSt w P r A n W) : ∀ g, (P g ∨ g = w.heap.size ∨ g = w.heap.size + 1) → g < W.heap.size := by
  have := h.size
  rintro g (hg | hg | hg)
  · have := hP g hg; omega
  · omega
  · omega
theorem LSt.below (h : LSt w P r A n W) (hb : Below W.heap.size W W') : LSt w P r A n W' :=
  ⟨Below.heap hb h.s, Below.heap hb h.z, h.rp.below hb, h.b.trans (hb.mono h.b.size)⟩
/-- the state in the log's box is written -/
theorem LSt.put (h : LSt w P r A n W) (hb : Below W.heap.size W W') (hr : RefP (fun g => P g ∨ g = w.heap.size ∨ g = w.heap.size + 1) W' r' A') :
    LSt w P r' A' n (put9 W' w.heap.size (.slice r'.p1 A'.now.length r'.c1) (.slice r'.p2 A'.safe.length r'.c2) (.slice r'.p3 A'.pend.length r'.c3) (.slice r'.p4 A'.files.length r'.c4) (.slice r'.p5 A'.files.length r'.c5) (.int .i64 (A'.room : Int)) (.slice r'.p6 A'.fails.length r'.c6) (.int .i64 A'.power) (.int .i64 (A'.steps : Int))) :=
  ⟨put9_ten (Below.heap hb h.s), (put9_heap _ (by omega)).trans (Below.heap hb h.z), hr.step (fun k _ hn => put9_heap k fun e => hn (.inr (.inl e))) (fun k hk => .inl hk), put9_below (h.b.trans (hb.mono h.b.size)) (Nat.le_refl _)⟩
/-- the count in the log's box is written -/
theorem LSt.cnt (h : LSt w P r A n W) (m : Int) : LSt w P r A m (W.setCell ⟨w.heap.size, 9, none⟩ (.int .i64 m)) := by
  refine ⟨?_, (heap_setCell_other _ _ _ _ (by simp)).trans h.z, h.rp.step (fun k _ hn => heap_setCell_other _ _ _ _ fun e => hn (.inr (.inl e))) (fun k hk => .inl hk), h.b.setCell (p := ⟨w.heap.size, 9, none⟩) (Nat.le_refl _) _⟩
  have := heap_setCell_same _ w.heap.size 9 _ _ (.int .i64 m) h.s
  rw [this]
  unfold lgC
  simp
/-- the result's box is written -/
theorem LSt.res (h : LSt w P r A n W) (v0 v1 v2 v3 v4 v5 v6 v7 v8 v9 : Value) :
    RefP P (put10 W (w.heap.size + 1) v0 v1 v2 v3 v4 v5 v6 v7 v8 v9) r A ∧ Below w.heap.size w (put10 W (w.heap.size + 1) v0 v1 v2 v3 v4 v5 v6 v7 v8 v9) :=
  ⟨h.rp.step (fun k _ hn => put10_heap k fun e => hn (.inr (.inr e))) (fun k hk => .inl (.inl hk)), put10_below h.b (by omega)⟩
end
end Go.Proofs.YtheoklhmlnfgjaaGreatDoor
