/-
  Rows of texts: what it means that a slice of texts reads as a list, that a call owns one; append of a text.
-/
import Derived.Test.YtnibecboimgljaaDoorStrB
import Derived.Test.YtnibecboimgljaaDoorAppend2
import Derived.Test.YtnibecboimgljaaDoorToStr
namespace Go.Proofs.YtnibecboimgljaaDoor
open Go.RowKit

/-- cells of one value each stand at the address (whatever it is, where there are none) -/
def InV (w : World) (p : Option Addr) (xs : List Value) : Prop :=
  0 < xs.length → ∃ b o, p = some ⟨b, o, none⟩ ∧ ∀ i, (h : i < xs.length) → w.cell? ⟨b, o + i, none⟩ = some xs[i]
theorem InV.at {w : World} {p : Option Addr} {xs : List Value} (h : InV w p xs) {k : Nat} (hk : k < xs.length) :
    ∃ b o, p = some ⟨b, o, none⟩ ∧ ∀ i, (h : i < xs.length) → w.cell? ⟨b, o + i, none⟩ = some xs[i] := h (by omega)
theorem InV.below {w w' : World} {p : Option Addr} {xs : List Value} (h : InV w p xs) (hb : Below w.heap.size w w') : InV w' p xs := by
  intro h0
  obtain ⟨b, o, rfl, hc⟩ := h h0
  refine ⟨b, o, rfl, fun i hi => ?_⟩
  have := hc i hi
  rw [hb.cell (p := ⟨b, o + i, none⟩) (World.block_lt_of_cell? w _ this)]
  exact this
theorem InV.drewN {w : World} {p : Option Addr} {xs : List Value} (h : InV w p xs) (n : Nat) : InV (w.drewN n) p xs := h
theorem InV.one (w : World) (x : Value) (e : TypeId) : InV (w.alloc (.cells #[x] e)) (some ⟨w.heap.size, 0, none⟩) [x] := by
  intro _
  refine ⟨w.heap.size, 0, rfl, fun i hi => ?_⟩
  obtain rfl : i = 0 := by simpa using hi
  simp only [World.cell?, heap_alloc_new w (.cells #[x] e)]; rfl
theorem InV.lit (w : World) (xs : List Value) (c : Array Value) (e : TypeId) (fr : Nat × Nat) (h : c.toList = xs) : InV (w.alloc (.cells c e fr)) (some ⟨w.heap.size, 0, none⟩) xs := by
  subst h
  intro _
  refine ⟨w.heap.size, 0, rfl, fun i hi => ?_⟩
  rw [cell_of_row _ _ _ _ _ _ (heap_alloc_new w (.cells c e fr)), Nat.zero_add, ← Array.getElem?_toList, List.getElem?_eq_getElem hi]

theorem owns_shape {w : World} {base e n : Nat} {v : Value} {xs : List Value} (h : w.ownsRow base e 1 v n xs) :
    ∃ p c, v = .slice p n c ∧ n ≤ c ∧ c ≤ maxLen ∧ InV w p xs ∧ (∀ a, p = some a → base ≤ a.block ∧ a.block < w.heap.size ∧ a.off = 0 ∧ a.spot = none) := by
  have hlt := h.lt
  have hl : xs.length = n := by have := h.1; omega
  rcases h.2 with ⟨rfl, hn⟩ | ⟨g, cap, cur, rfl, hb, hg, hnc, hcm, hcs, ht⟩
  · refine ⟨none, 0, by rw [hn], by omega, by unfold maxLen; omega, fun h0 => by omega, fun a ha => by cases ha⟩
  · refine ⟨some ⟨g, 0, none⟩, cap, rfl, hnc, hcm, fun h0 => ⟨g, 0, rfl, fun i hi => ?_⟩, fun a ha => ?_⟩
    · have := h.cellAt (g := g) (cap := cap) i (by omega)
      rw [Nat.zero_add, this, List.getElem?_eq_getElem hi]
    · obtain rfl := Option.some.inj ha
      exact ⟨hb, (hlt g rfl).2, rfl, rfl⟩

theorem srcV {w : World} {p : Option Addr} {xs : List Value} {c : Nat} {t e : TypeId} (ht : Tryd.prog.underlying t = some (.slice e)) (h : InV w p xs) (h1 : ∀ u ∈ xs, u.oneCell' = true) : Src Tryd.prog 1 t (.slice p xs.length c) xs.length xs w := by
  by_cases h0 : 0 < xs.length
  · obtain ⟨b, o, rfl, hc⟩ := h h0
    refine Src.ofSlice w ht ⟨b, o, none⟩ xs.length c xs (by simp) (fun j u hu => ?_) h1
    obtain ⟨hj, rfl⟩ := List.getElem?_eq_some_iff.1 hu
    rw [Go.WideShapes.add_plain]; exact hc j hj
  · obtain rfl : xs = [] := List.eq_nil_of_length_eq_zero (by omega)
    cases p with
    | none => exact Src.ofNil w ht c
    | some a => exact Src.ofSlice w ht a 0 c [] rfl (fun j u hu => by simp at hu) (fun u hu => by cases hu)

/-- the values of texts -/
def tx (L : List (List UInt8)) : List Value := L.map fun l => .string ⟨l.toArray⟩
theorem tx_length (L : List (List UInt8)) : (tx L).length = L.length := by simp [tx]
theorem tx_append (L M : List (List UInt8)) : tx (L ++ M) = tx L ++ tx M := by simp [tx]
theorem tx_one (L : List (List UInt8)) : ∀ u ∈ tx L, u.oneCell' = true := by
  intro u hu; obtain ⟨b, _, rfl⟩ := List.mem_map.1 hu; rfl
def InS (w : World) (p : Option Addr) (L : List (List UInt8)) : Prop := InV w p (tx L)
def OwnS (w : World) (base : Nat) (v : Value) (L : List (List UInt8)) : Prop := w.ownsRow base 9 1 v L.length (tx L)
theorem infoS : (Tryd.prog.info? 9).map (fun i => (i.zero, i.size, i.bytes)) = some (some (.string .empty), 1, 16) := by kernel_rfl

theorem InS.at {w : World} {p : Option Addr} {L : List (List UInt8)} (h : InS w p L) {k : Nat} (hk : k < L.length) :
    ∃ b o, p = some ⟨b, o, none⟩ ∧ ∃ a : ByteArray, w.cell? ⟨b, o + k, none⟩ = some (.string a) ∧ a.data.toList = L[k] := by
  obtain ⟨b, o, e, hc⟩ := InV.at h (k := k) (by rw [tx_length]; exact hk)
  refine ⟨b, o, e, _, (hc k (by rw [tx_length]; exact hk)).trans (by simp only [tx, List.getElem_map]; rfl), rfl⟩
theorem InS.below {w w' : World} {p : Option Addr} {L : List (List UInt8)} (h : InS w p L) (hb : Below w.heap.size w w') : InS w' p L := InV.below h hb
theorem InS.alloc {w : World} {p : Option Addr} {L : List (List UInt8)} (h : InS w p L) (o : Obj) : InS (w.alloc o) p L := h.below ((Below.refl _ w).alloc (Nat.le_refl _) o)
theorem InS.drewN {w : World} {p : Option Addr} {L : List (List UInt8)} (h : InS w p L) (n : Nat) : InS (w.drewN n) p L := h
theorem OwnS.nil (w : World) (base : Nat) : OwnS w base (.slice none 0 0) [] := World.ownsRow_nil _ _ _ _
theorem OwnS.made (w : World) : OwnS (w.alloc (.cells #[] 9)) w.heap.size (.slice (some ⟨w.heap.size, 0, none⟩) 0 0) [] :=
  World.ownsRow_made w #[] 0 (Nat.le_refl _) (by unfold maxLen; omega) rfl
theorem OwnS.below {w w' : World} {base : Nat} {v : Value} {L : List (List UInt8)} (h : OwnS w base v L) (hb : Below w.heap.size w w') : OwnS w' base v L := ownsRow_below h hb
theorem OwnS.mono {w : World} {base base' : Nat} {v : Value} {L : List (List UInt8)} (h : OwnS w base v L) (hb : base' ≤ base) : OwnS w base' v L := ownsRow_mono h hb
theorem OwnS.alloc {w : World} {base : Nat} {v : Value} {L : List (List UInt8)} (h : OwnS w base v L) (o : Obj) : OwnS (w.alloc o) base v L := World.ownsRow.alloc h o
theorem OwnS.shape {w : World} {base n : Nat} {v : Value} {L : List (List UInt8)} (h : OwnS w base v L) (hn : L.length = n) :
    ∃ p c, v = .slice p n c ∧ n ≤ c ∧ c ≤ maxLen ∧ InS w p L ∧ (∀ a, p = some a → base ≤ a.block ∧ a.block < w.heap.size ∧ a.off = 0 ∧ a.spot = none) := by
  subst hn; exact owns_shape h
theorem OwnS.grown {w w1 w' : World} {B : Nat} {v : Value} {L : List (List UInt8)} (hB : Below B w w1) (hs : B ≤ w1.heap.size) (hown : OwnS w1 B v L) (hg : w1.grownBy w' v.ownBlock) : Below B w w' :=
  hB.grown hg hs (fun k e => (World.ownsRow.lt hown k e).1)

section
variable {w : World}
/-- append of texts onto texts of the call's own -/
theorem wpList_appendS {ops : Array Oper} {rest : List Oper} {o : Oper} {a : Act} {Q : Exit → Act → World → Prop} (hgd : o.guard = none) (s x : Operand)
    (ho : o.op = .call { callee := .builtin .append, args := #[s, x], argTypes := #[25, 25] })
    (base : Nat) (v : Value) (L : List (List UInt8)) (hv : a.eval s = v) (hown : OwnS w base v L)
    (p : Option Addr) (m c : Nat) (M : List (List UInt8)) (hm : M.length = m) (hx : a.eval x = .slice p m c) (hin : InS w p M)
    (hr : L.length + m ≤ 12000000000000) (hbase : base ≤ w.heap.size)
    (h : ∀ v' w', OwnS w' base v' (L ++ M) → w.grownBy w' v.ownBlock → (v' = .slice none 0 0 ↔ v = .slice none 0 0 ∧ m = 0) → wpList Tryd.prog ops Q rest (a.put o.dst v') w') : wpList Tryd.prog ops Q (o :: rest) a w := by
  subst hm
  have hs : Src Tryd.prog 1 25 (.slice p M.length c) M.length (tx M) w := by
    have := srcV (c := c) (e := 9) Tryd.underlying25 hin (tx_one M)
    rwa [tx_length] at this
  refine wpList_append_fit w hgd s x 25 25 ho base 9 (.string .empty) 1 16 Tryd.underlying25 infoS rfl v L.length (tx L) hv hown _ M.length (tx M) hx hs (by unfold maxLen; omega) (by omega) hbase ?_
  intro v' w' ho' hg hn
  exact h v' w' (by unfold OwnS; rw [List.length_append, tx_append]; exact ho') hg hn
end

theorem InS.one (w : World) (t : ByteArray) : InS (w.alloc (.cells #[.string t] 9)) (some ⟨w.heap.size, 0, none⟩) [t.data.toList] := by
  have := InV.one w (.string t) 9
  have e : tx [t.data.toList] = [.string t] := by simp [tx]
  unfold InS; rw [e]; exact this

theorem strs_eq (a b : ByteArray) : (a.toList == b.toList) = decide (a.data.toList = b.data.toList) := by
  rw [Lib.toList_data, Lib.toList_data]
  by_cases h : a.data.toList = b.data.toList
  · rw [decide_eq_true h]; exact beq_iff_eq.2 h
  · rw [decide_eq_false h]; exact beq_eq_false_iff_ne.2 h
end Go.Proofs.YtnibecboimgljaaDoor
