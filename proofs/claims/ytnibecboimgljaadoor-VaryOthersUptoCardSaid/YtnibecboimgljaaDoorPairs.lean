/-
  Rows of pairs of texts (structs of two strings), whatever their type's name.
-/
import Derived.Test.YtnibecboimgljaaDoorTexts
namespace Go.Proofs.YtnibecboimgljaaDoor
open Go.RowKit

abbrev Pair := List UInt8 × List UInt8
def prV (x : Pair) : List Value := [.string ⟨x.1.toArray⟩, .string ⟨x.2.toArray⟩]
/-- the cells of pairs of texts -/
def pr : List Pair → List Value
  | [] => []
  | x :: L => prV x ++ pr L
theorem pr_length (L : List Pair) : (pr L).length = L.length * 2 := by
  induction L with
  | nil => rfl
  | cons x L ih => simp only [pr, prV, List.length_append, List.length_cons, List.length_nil, ih]; omega
theorem pr_append (L M : List Pair) : pr (L ++ M) = pr L ++ pr M := by
  induction L with
  | nil => rfl
  | cons x L ih => simp only [List.cons_append, pr, ih, List.append_assoc]
theorem pr_one (L : List Pair) : ∀ u ∈ pr L, u.oneCell' = true := by
  induction L with
  | nil => intro u hu; cases hu
  | cons x L ih =>
    intro u hu
    simp only [pr, prV, List.cons_append, List.nil_append, List.mem_cons] at hu
    rcases hu with rfl | rfl | hu
    · rfl
    · rfl
    · exact ih u hu
theorem pr_get (L : List Pair) (i : Nat) (h : i < L.length) : (pr L)[i * 2]? = some (.string ⟨L[i].1.toArray⟩) ∧ (pr L)[i * 2 + 1]? = some (.string ⟨L[i].2.toArray⟩) := by
  induction L generalizing i with
  | nil => simp at h
  | cons x L ih =>
    cases i with
    | zero => simp [pr, prV]
    | succ i =>
      have h2 := ih i (by simpa using h)
      have e1 : (i + 1) * 2 = i * 2 + 1 + 1 := by omega
      have e2 : (i + 1) * 2 + 1 = i * 2 + 1 + 1 + 1 := by omega
      rw [e2, e1]
      simpa [pr, prV] using h2

/-- pairs of texts stand at the address (whatever it is, where there are none) -/
def In2 (w : World) (p : Option Addr) (L : List Pair) : Prop :=
  0 < L.length → ∃ b o, p = some ⟨b, o, none⟩ ∧ ∀ j v, (pr L)[j]? = some v → w.cell? ⟨b, o + j, none⟩ = some v
theorem In2.at {w : World} {p : Option Addr} {L : List Pair} (h : In2 w p L) {k : Nat} (hk : k < L.length) :
    ∃ b o, p = some ⟨b, o, none⟩ ∧ ∃ x y : ByteArray, w.cell? ⟨b, o + k * 2, none⟩ = some (.string x) ∧ w.cell? ⟨b, o + k * 2 + 1, none⟩ = some (.string y) ∧ x.data.toList = L[k].1 ∧ y.data.toList = L[k].2 := by
  obtain ⟨b, o, e, hc⟩ := h (by omega)
  obtain ⟨h1, h2⟩ := pr_get L k hk
  exact ⟨b, o, e, _, _, hc _ _ h1, (by have := hc _ _ h2; rwa [← Nat.add_assoc] at this), rfl, rfl⟩
theorem In2.below {w w' : World} {p : Option Addr} {L : List Pair} (h : In2 w p L) (hb : Below w.heap.size w w') : In2 w' p L := by
  intro h0
  obtain ⟨b, o, rfl, hc⟩ := h h0
  refine ⟨b, o, rfl, fun j v hv => ?_⟩
  have := hc j v hv
  rw [hb.cell (p := ⟨b, o + j, none⟩) (World.block_lt_of_cell? w _ this)]
  exact this
theorem In2.alloc {w : World} {p : Option Addr} {L : List Pair} (h : In2 w p L) (o : Obj) : In2 (w.alloc o) p L := h.below ((Below.refl _ w).alloc (Nat.le_refl _) o)
theorem In2.drewN {w : World} {p : Option Addr} {L : List Pair} (h : In2 w p L) (n : Nat) : In2 (w.drewN n) p L := h
theorem In2.lit (w : World) (L : List Pair) (c : Array Value) (e : TypeId) (fr : Nat × Nat) (h : c.toList = pr L) : In2 (w.alloc (.cells c e fr)) (some ⟨w.heap.size, 0, none⟩) L := by
  intro _
  refine ⟨w.heap.size, 0, rfl, fun j v hv => ?_⟩
  rw [cell_of_row _ _ _ _ _ _ (heap_alloc_new w (.cells c e fr)), Nat.zero_add, ← Array.getElem?_toList, h, hv]
theorem In2.one (w : World) (x y : ByteArray) (e : TypeId) : In2 (w.alloc (.cells #[.string x, .string y] e)) (some ⟨w.heap.size, 0, none⟩) [(x.data.toList, y.data.toList)] :=
  In2.lit w _ _ e (0, 0) (by simp [pr, prV])

/-- the slice v is a row of the call's own of pairs of type e -/
def Own2 (e : TypeId) (w : World) (base : Nat) (v : Value) (L : List Pair) : Prop := w.ownsRow base e 2 v L.length (pr L)
theorem Own2.nil (e : TypeId) (w : World) (base : Nat) : Own2 e w base (.slice none 0 0) [] := World.ownsRow_nil _ _ _ _
theorem Own2.made (e : TypeId) (w : World) : Own2 e (w.alloc (.cells #[] e)) w.heap.size (.slice (some ⟨w.heap.size, 0, none⟩) 0 0) [] :=
  ⟨rfl, .inr ⟨w.heap.size, 0, #[], rfl, Nat.le_refl _, heap_alloc_new w _, by simp, by unfold maxLen; omega, rfl, rfl⟩⟩
theorem Own2.below {e : TypeId} {w w' : World} {base : Nat} {v : Value} {L : List Pair} (h : Own2 e w base v L) (hb : Below w.heap.size w w') : Own2 e w' base v L := ownsRow_below h hb
theorem Own2.mono {e : TypeId} {w : World} {base base' : Nat} {v : Value} {L : List Pair} (h : Own2 e w base v L) (hb : base' ≤ base) : Own2 e w base' v L := ownsRow_mono h hb
theorem Own2.alloc {e : TypeId} {w : World} {base : Nat} {v : Value} {L : List Pair} (h : Own2 e w base v L) (o : Obj) : Own2 e (w.alloc o) base v L := World.ownsRow.alloc h o
theorem Own2.grown {e : TypeId} {w w1 w' : World} {B : Nat} {v : Value} {L : List Pair} (hB : Below B w w1) (hs : B ≤ w1.heap.size) (hown : Own2 e w1 B v L) (hg : w1.grownBy w' v.ownBlock) : Below B w w' :=
  hB.grown hg hs (fun k e => (World.ownsRow.lt hown k e).1)
theorem Own2.shape {e : TypeId} {w : World} {base n : Nat} {v : Value} {L : List Pair} (h : Own2 e w base v L) (hn : L.length = n) :
    ∃ p c, v = .slice p n c ∧ n ≤ c ∧ c ≤ maxLen ∧ In2 w p L ∧ (∀ a, p = some a → base ≤ a.block ∧ a.block < w.heap.size ∧ a.off = 0 ∧ a.spot = none) := by
  subst hn
  have hlt := World.ownsRow.lt h
  rcases h.2 with ⟨rfl, hn⟩ | ⟨g, cap, cur, rfl, hb, hg, hnc, hcm, hcs, ht⟩
  · refine ⟨none, 0, by rw [hn], by omega, by unfold maxLen; omega, fun h0 => by omega, fun a ha => by cases ha⟩
  · refine ⟨some ⟨g, 0, none⟩, cap, rfl, hnc, hcm, fun h0 => ⟨g, 0, rfl, fun j v hv => ?_⟩, fun a ha => ?_⟩
    · rw [cell_of_row _ _ _ _ _ _ hg, Nat.zero_add, ← Array.getElem?_toList]
      have hj : j < L.length * 2 := by rw [← pr_length]; exact (List.getElem?_eq_some_iff.1 hv).1
      rw [← ht, List.getElem?_take_of_lt hj] at hv
      exact hv
    · obtain rfl := Option.some.inj ha
      exact ⟨hb, (hlt g rfl).2, rfl, rfl⟩

/-- what a program says of a type of pairs -/
structure PairT (t e : TypeId) : Prop where
  ht : Tryd.prog.underlying t = some (.slice e)
  hi : (Tryd.prog.info? e).map (fun i => (i.zero, i.size, i.bytes)) = some (some (.agg #[.string .empty, .string .empty]), 2, 32)

theorem src2 {t e : TypeId} (T : PairT t e) {w : World} {p : Option Addr} {M : List Pair} {c : Nat} (hin : In2 w p M) : Src Tryd.prog 2 t (.slice p M.length c) M.length (pr M) w := by
  by_cases h0 : 0 < M.length
  · obtain ⟨b, o, rfl, hc⟩ := hin h0
    refine Src.ofSlice w T.ht ⟨b, o, none⟩ M.length c (pr M) (pr_length M) (fun j u hu => ?_) (pr_one M)
    rw [Go.WideShapes.add_plain]; exact hc j u hu
  · obtain rfl : M = [] := List.eq_nil_of_length_eq_zero (by omega)
    cases p with
    | none => exact Src.ofNil w T.ht c
    | some a => exact Src.ofSlice w T.ht a 0 c [] rfl (fun j u hu => by simp at hu) (fun u hu => by cases hu)

section
variable {w : World}
theorem wpList_append2 {t e : TypeId} (T : PairT t e) {ops : Array Oper} {rest : List Oper} {o : Oper} {a : Act} {Q : Exit → Act → World → Prop} (hgd : o.guard = none) (s x : Operand)
    (ho : o.op = .call { callee := .builtin .append, args := #[s, x], argTypes := #[t, t] })
    (base : Nat) (v : Value) (L : List Pair) (hv : a.eval s = v) (hown : Own2 e w base v L)
    (p : Option Addr) (m c : Nat) (M : List Pair) (hm : M.length = m) (hx : a.eval x = .slice p m c) (hin : In2 w p M)
    (hr : L.length + m ≤ 6000000000000) (hbase : base ≤ w.heap.size)
    (h : ∀ v' w', Own2 e w' base v' (L ++ M) → w.grownBy w' v.ownBlock → (v' = .slice none 0 0 ↔ v = .slice none 0 0 ∧ m = 0) → wpList Tryd.prog ops Q rest (a.put o.dst v') w') : wpList Tryd.prog ops Q (o :: rest) a w := by
  subst hm
  refine wpList_append_fit w hgd s x t t ho base e (.agg #[.string .empty, .string .empty]) 2 32 T.ht T.hi rfl v L.length (pr L) hv hown _ M.length (pr M) hx (src2 T hin) (by unfold maxLen; omega) (by omega) hbase ?_
  intro v' w' ho' hg hn
  exact h v' w' (by unfold Own2; rw [List.length_append, pr_append]; exact ho') hg hn
end
end Go.Proofs.YtnibecboimgljaaDoor
