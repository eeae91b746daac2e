/-
  Several rows of bytes of the call's own, in blocks of their own: what a store, an append, a draw leaves of them. No function is in sight here.
-/
import Derived.Test.YtnengooipemffaaDoorAppend3
namespace Go.Proofs.YtnengooipemffaaDoor
open Go.RowKit

/-- of what was there only the blocks A may have turned -/
structure Only (A : Nat → Prop) (w w' : World) : Prop where
  os : w'.os = w.os
  tape : w'.tape = w.tape
  output : w'.output = w.output
  size : w.heap.size ≤ w'.heap.size
  block : ∀ k, k < w.heap.size → ¬ A k → w'.heap[k]? = w.heap[k]?
theorem Only.refl (A : Nat → Prop) (w : World) : Only A w w := ⟨rfl, rfl, rfl, Nat.le_refl _, fun _ _ _ => rfl⟩
theorem Only.drewN {A : Nat → Prop} {w w' : World} (h : Only A w w') (n : Nat) : Only A w (w'.drewN n) := ⟨h.os, h.tape, h.output, h.size, h.block⟩
theorem Only.drew {A : Nat → Prop} {w w' : World} (h : Only A w w') : Only A w w'.drew := ⟨h.os, h.tape, h.output, h.size, h.block⟩
theorem Only.alloc {A : Nat → Prop} {w w' : World} (h : Only A w w') (o : Obj) : Only A w (w'.alloc o) :=
  ⟨h.os, h.tape, h.output, Nat.le_trans h.size (by simp), fun k hk ha => (Below.heap_alloc w' o k (Nat.lt_of_lt_of_le hk h.size)).trans (h.block k hk ha)⟩
theorem Only.setCell {A : Nat → Prop} {w w' : World} (h : Only A w w') {a : Addr} (ha : A a.block) (u : Value) : Only A w (w'.setCell a u) :=
  ⟨h.os, h.tape, h.output, Nat.le_trans h.size (by simp [World.setCell]), fun k hk hn => (Below.heap_setCell w' a u k (fun e => hn (e ▸ ha))).trans (h.block k hk hn)⟩
theorem Only.grown {A : Nat → Prop} {w w' w2 : World} {row : Option Nat} (h : Only A w w') (hg : w'.grownBy w2 row) (hr : ∀ k, row = some k → A k ∨ w.heap.size ≤ k) : Only A w w2 :=
  ⟨hg.os.trans h.os, hg.tape.trans h.tape, hg.output.trans h.output, Nat.le_trans h.size hg.size, fun k hk hn =>
    (hg.block k (Nat.lt_of_lt_of_le hk h.size) (fun e => by rcases hr k e.symm with h1 | h1; exact hn h1; omega)).trans (h.block k hk hn)⟩
theorem Only.cell {A : Nat → Prop} {w w' : World} (h : Only A w w') {p : Addr} {v : Value} (hc : w.cell? p = some v) (hn : ¬ A p.block) : w'.cell? p = some v :=
  (World.cell?_of_block (h.block p.block (World.block_lt_of_cell? w _ hc) hn)).trans hc
theorem Only.below {A : Nat → Prop} {w w' : World} {B : Nat} (h : Only A w w') (hA : ∀ k, A k → B ≤ k) (hB : B ≤ w.heap.size) : Below B w w' :=
  ⟨h.os, h.tape, h.output, h.size, fun k hk => h.block k (by omega) (fun ha => by have := hA k ha; omega)⟩

/-- a beginning of a row -/
theorem Own8.first {w : World} {base g cap : Nat} {l m : List UInt8} {n : Nat} (h : Own8 w base (.slice (some ⟨g, 0, none⟩) n cap) (l ++ m)) : Own8 w base (.slice (some ⟨g, 0, none⟩) l.length cap) l := by
  refine ⟨by simp [by8], ?_⟩
  rcases h.2 with ⟨h1, _⟩ | ⟨g', cap', cur, h1, hb, hg, hnc, hcm, hcs, ht⟩
  · simp at h1
  · simp only [Value.slice.injEq, Option.some.injEq, Addr.mk.injEq, and_true] at h1
    obtain ⟨rfl, hn, rfl⟩ := h1
    refine .inr ⟨g, cap, cur, rfl, hb, hg, by simp at hnc; omega, hcm, hcs, ?_⟩
    have := congrArg (List.take (l.length * 1)) ht
    rw [List.take_take, by8_append] at this
    rw [Nat.min_eq_left (by simp)] at this
    rw [this, Nat.mul_one, List.take_append_of_le_length (by simp [by8]), List.take_of_length_le (by simp [by8])]

/-- what a row's own block is -/
theorem own_lt {w : World} {base : Nat} {v : Value} {l : List UInt8} (h : Own8 w base v l) {g : Nat} (hg : v.ownBlock = some g) : base ≤ g ∧ g < w.heap.size := World.ownsRow.lt h g hg
theorem Own8.kept {w w' : World} {base : Nat} {v : Value} {l : List UInt8} {row : Option Nat} (h : Own8 w base v l) (hg : w.grownBy w' row) (hne : v.ownBlock = none ∨ v.ownBlock ≠ row) : Own8 w' base v l := World.ownsRow.kept h hg hne
theorem Own8.setOther {w : World} {base : Nat} {v : Value} {l : List UInt8} (h : Own8 w base v l) {a : Addr} (ha : v.ownBlock ≠ some a.block) (u : Value) : Own8 (w.setCell a u) base v l := ownsRow_setCell_other h ha u

/-- append, and what becomes of the row from which it grew -/
def Behind (w w' : World) (base : Nat) (v v' : Value) (l l2 : List UInt8) : Prop :=
  Own8 w' base v' (l ++ l2) ∧ w.grownBy w' v.ownBlock ∧
  ((∃ g cap, v = .slice (some ⟨g, 0, none⟩) l.length cap ∧ v' = .slice (some ⟨g, 0, none⟩) (l.length + l2.length) cap) ∨ (∃ cap, v' = .slice (some ⟨w.heap.size, 0, none⟩) (l.length + l2.length) cap ∧ w.grownBy w' none) ∨ (v' = v ∧ w' = w ∧ l2.length = 0))

section
variable {w : World}
theorem wpList_append8k {ops : Array Oper} {rest : List Oper} {o : Oper} {a : Act} {Q : Exit → Act → World → Prop} (hgd : o.guard = none) (s x : Operand)
    (ho : o.op = .call { callee := .builtin .append, args := #[s, x], argTypes := #[33, 33] })
    (base : Nat) (v : Value) (l : List UInt8) (hv : a.eval s = v) (hown : Own8 w base v l)
    (p : Option Addr) (m c : Nat) (l2 : List UInt8) (hm : l2.length = m) (hx : a.eval x = .slice p m c) (hin : In8 w p l2)
    (hr : l.length + m ≤ 200000000000000) (hbase : base ≤ w.heap.size)
    (h : ∀ v' w', Behind w w' base v v' l l2 → wpList Tryd.prog ops Q rest (a.put o.dst v') w') : wpList Tryd.prog ops Q (o :: rest) a w := by
  subst hm
  refine wpList_plain hgd fun K hK => ?_
  obtain ⟨i, hi, hz, hz1, hz2⟩ := info_parts info8
  obtain ⟨v', w', hr', h2, h3, h4⟩ := run_append_where (P := Tryd.prog) w base 33 33 o.type 5 i (.int .u8 0) 1 1 Tryd.underlying33 hi hz hz1 hz2 rfl v l.length (by8 l) hown _ l2.length (by8 l2) (Src.of8 (c := c) hin) (by unfold maxLen; omega) (fun old ho' => by have := nextslicecap_le _ _ ho'; omega) hbase
  unfold Oper.wp execOp
  simp only [ho, resolve, invoke, builtin, Sem.run_bind, Sem.run_pure, Result.andThen_ok, List.map_toArray, List.map_cons, List.map_nil, hv, hx, hr']
  exact hK _ _ (h v' w' ⟨by unfold Own8; rw [List.length_append, by8_append]; exact h2, h3, h4⟩)

theorem zeros_by8 (m : Nat) : (Builtin.zeroCells (Value.int .u8 0).cells m).toList = by8 (List.replicate m 0) := by
  show (Builtin.zeroCells #[Value.int .u8 0] m).toList = _
  unfold Builtin.zeroCells by8
  apply List.ext_getElem?
  intro j
  by_cases hj : j < m
  · simp [hj, Nat.mod_one]
  · simp [hj]

theorem wpList_append8z {ops : Array Oper} {rest : List Oper} {o : Oper} {a : Act} {Q : Exit → Act → World → Prop} (hgd : o.guard = none) (s x : Operand)
    (ho : o.op = .call { callee := .builtin .append, args := #[s, x], argTypes := #[33, 3] })
    (base : Nat) (v : Value) (l : List UInt8) (hv : a.eval s = v) (hown : Own8 w base v l)
    (m : Nat) (M : Int) (hM : M = (m : Int)) (hx : a.eval x = .int .i64 M) (hm0 : 0 < m) (hm : m ≤ 100000)
    (hr : l.length + m ≤ 200000000000000) (hbase : base ≤ w.heap.size)
    (h : ∀ v' w', Behind w w' base v v' l (List.replicate m 0) → wpList Tryd.prog ops Q rest (a.put o.dst v') w') : wpList Tryd.prog ops Q (o :: rest) a w := by
  subst hM
  refine wpList_plain hgd fun K hK => ?_
  obtain ⟨i, hi, hz, hz1, hz2⟩ := info_parts info8
  obtain ⟨v', w', hr', h2, h3, h4⟩ := run_zeros (P := Tryd.prog) w 33 3 o.type 5 .i64 i (.int .u8 0) 1 Tryd.underlying33 Tryd.underlying3 hi hz hz1 rfl v l.length (by8 l) base hown m hm0 hm (by rw [zeros_by8]; exact by8_mem_one _) (by omega) (by rw [hz2]; omega) (by unfold maxLen; omega) (fun old ho' => by have := nextslicecap_le _ _ ho'; rw [hz2]; omega) hbase
  unfold Oper.wp execOp
  simp only [ho, resolve, invoke, builtin, Sem.run_bind, Sem.run_pure, Result.andThen_ok, List.map_toArray, List.map_cons, List.map_nil, hv, hx, hr']
  rw [zeros_by8] at h2
  refine hK _ _ (h v' w' ⟨by unfold Own8; rw [List.length_append, by8_append, List.length_replicate]; exact h2, h3, ?_⟩)
  rw [List.length_replicate]
  rcases h4 with h4 | h4
  · exact .inl h4
  · exact .inr (.inl h4)
end
end Go.Proofs.YtnengooipemffaaDoor
