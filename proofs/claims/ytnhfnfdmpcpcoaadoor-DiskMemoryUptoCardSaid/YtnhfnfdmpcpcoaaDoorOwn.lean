/-
  Rows of bytes that a call owns; what stays as it was. The numbers of the types are this seat's; no function is in sight here.
-/
import Derived.Test.YtnhfnfdmpcpcoaaDoorBytes
import Derived.Test.YtnhfnfdmpcpcoaaDoorAppend
import Derived.Deep.QuietTactic
import Derived.BigQuiet
import Derived.Test.YtnhfnfdmpcpcoaaDoorProg
namespace Go.Proofs.YtnhfnfdmpcpcoaaDoor
open Go.RowKit

theorem info8 : (Tryd.prog.info? 5).map (fun i => (i.zero, i.size, i.bytes)) = some (some (.int .u8 0), 1, 1) := by kernel_rfl

/-- the slice v is a row of the call's own (in a block from base on, or nil) that holds the bytes l -/
def Own8 (w : World) (base : Nat) (v : Value) (l : List UInt8) : Prop := w.ownsRow base 5 1 v l.length (by8 l)

theorem Own8.nil (w : World) (base : Nat) : Own8 w base (.slice none 0 0) [] := World.ownsRow_nil _ _ _ _

theorem by8_mem_one (l : List UInt8) : ∀ u ∈ by8 l, u.oneCell' = true := by
  intro u hu; obtain ⟨b, _, rfl⟩ := List.mem_map.1 hu; rfl

theorem Own8.shape {w : World} {base : Nat} {v : Value} {l : List UInt8} (h : Own8 w base v l) :
    ∃ p c, v = .slice p l.length c ∧ l.length ≤ c ∧ c ≤ maxLen ∧ In8 w p l ∧ (∀ a, p = some a → base ≤ a.block ∧ a.block < w.heap.size ∧ a.off = 0 ∧ a.spot = none) := by
  have hlt := h.lt
  rcases h.2 with ⟨rfl, hn⟩ | ⟨g, cap, cur, rfl, hb, hg, hnc, hcm, hcs, ht⟩
  · refine ⟨none, 0, by rw [hn], by omega, by unfold maxLen; omega, fun h0 => by omega, fun a ha => by cases ha⟩
  · refine ⟨some ⟨g, 0, none⟩, cap, rfl, hnc, hcm, fun h0 => ⟨g, 0, rfl, fun i hi => ?_⟩, fun a ha => ?_⟩
    · have := h.cellAt (g := g) (cap := cap) i (by omega)
      rw [Nat.zero_add, this, by8_get l i hi]
    · obtain rfl := Option.some.inj ha
      exact ⟨hb, (hlt g rfl).2, rfl, rfl⟩

theorem Own8.in8 {w : World} {base : Nat} {v : Value} {l : List UInt8} (h : Own8 w base v l) : ∃ p c, v = .slice p l.length c ∧ l.length ≤ c ∧ c ≤ maxLen ∧ In8 w p l := by
  obtain ⟨p, c, h1, h2, h3, h4, _⟩ := h.shape
  exact ⟨p, c, h1, h2, h3, h4⟩

theorem Own8.in8n {w : World} {base : Nat} {v : Value} {l : List UInt8} {n : Nat} (h : Own8 w base v l) (hn : l.length = n) : ∃ p c, v = .slice p n c ∧ n ≤ c ∧ c ≤ maxLen ∧ In8 w p l := by
  subst hn; exact h.in8

theorem In8.below {w w' : World} {p : Option Addr} {l : List UInt8} (h : In8 w p l) (hb : Below w.heap.size w w') : In8 w' p l := by
  intro h0
  obtain ⟨b, o, rfl, hc⟩ := h h0
  refine ⟨b, o, rfl, fun i hi => ?_⟩
  have := hc i hi
  rw [hb.cell (p := ⟨b, o + i, none⟩) (World.block_lt_of_cell? w _ this)]
  exact this

theorem ownsRow_below {w w' : World} {base e size : Nat} {v : Value} {n : Nat} {xs : List Value} (h : w.ownsRow base e size v n xs) (hb : Below w.heap.size w w') : w'.ownsRow base e size v n xs := by
  refine ⟨h.1, ?_⟩
  rcases h.2 with hn | ⟨g, cap, cur, rfl, hbg, hg, r⟩
  · exact .inl hn
  · exact .inr ⟨g, cap, cur, rfl, hbg, by rw [hb.block g (Array.getElem?_eq_some_iff.1 hg).1]; exact hg, r⟩
theorem ownsRow_mono {w : World} {base base' e size : Nat} {v : Value} {n : Nat} {xs : List Value} (h : w.ownsRow base e size v n xs) (hb : base' ≤ base) : w.ownsRow base' e size v n xs := by
  refine ⟨h.1, ?_⟩
  rcases h.2 with hn | ⟨g, cap, cur, rfl, hbg, r⟩
  · exact .inl hn
  · exact .inr ⟨g, cap, cur, rfl, by omega, r⟩
theorem Own8.below {w w' : World} {base : Nat} {v : Value} {l : List UInt8} (h : Own8 w base v l) (hb : Below w.heap.size w w') : Own8 w' base v l := ownsRow_below h hb
theorem Own8.mono {w : World} {base base' : Nat} {v : Value} {l : List UInt8} (h : Own8 w base v l) (hb : base' ≤ base) : Own8 w base' v l := ownsRow_mono h hb
theorem Own8.alloc {w : World} {base : Nat} {v : Value} {l : List UInt8} (h : Own8 w base v l) (o : Obj) : Own8 (w.alloc o) base v l := World.ownsRow.alloc h o

/-- a source of bytes: a slice that reads as l, wherever it lies -/
theorem Src.of8 {w : World} {p : Option Addr} {l : List UInt8} {c : Nat} (h : In8 w p l) : Src Tryd.prog 1 26 (.slice p l.length c) l.length (by8 l) w := by
  by_cases h0 : 0 < l.length
  · obtain ⟨b, o, rfl, hc⟩ := h h0
    refine Src.ofSlice w Tryd.underlying26 ⟨b, o, none⟩ l.length c (by8 l) (by simp [by8]) (fun j u hu => ?_) (by8_mem_one l)
    have hj : j < l.length := by have := (List.getElem?_eq_some_iff.1 hu).1; simpa [by8] using this
    rw [by8_get l j hj] at hu
    rw [Go.WideShapes.add_plain, ← Option.some.inj hu]; exact hc j hj
  · obtain rfl : l = [] := List.eq_nil_of_length_eq_zero (by omega)
    cases p with
    | none => exact Src.ofNil w Tryd.underlying26 c
    | some a => exact Src.ofSlice w Tryd.underlying26 a 0 c [] rfl (fun j u hu => by simp at hu) (fun u hu => by cases hu)

theorem bt_append (l m : List UInt8) (i : Nat) (h : i < l.length) : bt (l ++ m) i = bt l i := by
  unfold bt; rw [List.getD_eq_getElem?_getD, List.getD_eq_getElem?_getD, List.getElem?_append_left h]
theorem In8.fore {w : World} {p : Option Addr} {l m : List UInt8} (h : In8 w p (l ++ m)) : In8 w p l := by
  intro h0
  obtain ⟨b, o, rfl, hc⟩ := h (by simp; omega)
  exact ⟨b, o, rfl, fun i hi => by rw [hc i (by simp; omega), bt_append l m i hi]⟩
theorem cell_past {w : World} {a : Addr} {v : Value} (h : w.cell? a = some v) (o : Obj) : (w.alloc o).cell? a = some v :=
  (((Below.refl w.heap.size w).alloc (Nat.le_refl _) o).cell (World.block_lt_of_cell? w _ h)).trans h
theorem In8.alloc {w : World} {p : Option Addr} {l : List UInt8} (h : In8 w p l) (o : Obj) : In8 (w.alloc o) p l := h.below ((Below.refl _ w).alloc (Nat.le_refl _) o)
theorem Own8.made (w : World) : Own8 (w.alloc (.cells #[] 5)) w.heap.size (.slice (some ⟨w.heap.size, 0, none⟩) 0 0) [] :=
  World.ownsRow_made w #[] 0 (Nat.le_refl _) (by unfold maxLen; omega) rfl

theorem bdrewN {B : Nat} {a w : World} (h : Below B a w) (n : Nat) : Below B a (w.drewN n) := ⟨h.os, h.tape, h.output, h.size, h.block⟩

theorem own_grown {w w1 w' : World} {B : Nat} {v : Value} {l : List UInt8} (hB : Below B w w1) (hs : B ≤ w1.heap.size) (hown : Own8 w1 B v l) (hg : w1.grownBy w' v.ownBlock) : Below B w w' :=
  hB.grown hg hs (fun k e => (hown.lt k e).1)

/-- the byte of a number -/
def ubyte (z : Int) : UInt8 := UInt8.ofNat z.toNat
theorem ubyte_toNat {z : Int} (h0 : 0 ≤ z) (h1 : z ≤ 255) : ((ubyte z).toNat : Int) = z := by
  unfold ubyte; rw [UInt8.toNat_ofNat']; omega
theorem ubyte_bt (l : List UInt8) (k : Nat) (h : k < l.length) : ubyte (bt l k) = l[k] := by
  rw [bt_get l k h]; unfold ubyte; simp

/-- a new block of bytes that are written out -/
theorem In8.lit (w : World) (l : List UInt8) (c : Array Value) (fr : Nat × Nat) (h : c.toList = by8 l) : In8 (w.alloc (.cells c 5 fr)) (some ⟨w.heap.size, 0, none⟩) l := by
  intro _
  refine ⟨w.heap.size, 0, rfl, fun i hi => ?_⟩
  rw [cell_of_row _ _ _ _ _ _ (heap_alloc_new w (.cells c 5 fr)), ← by8_get l i hi, ← h, Nat.zero_add, Array.getElem?_toList]

/-- a new block of one byte -/
theorem In8.one (w : World) (z : Int) (h0 : 0 ≤ z) (h1 : z ≤ 255) : In8 (w.alloc (.cells #[.int .u8 z] 5)) (some ⟨w.heap.size, 0, none⟩) [ubyte z] := by
  intro _
  refine ⟨w.heap.size, 0, rfl, fun i hi => ?_⟩
  obtain rfl : i = 0 := by simpa using hi
  have e : bt [ubyte z] 0 = z := by rw [bt_get _ 0 (by simp)]; exact ubyte_toNat h0 h1
  rw [e]
  simp only [World.cell?, heap_alloc_new w (.cells #[.int .u8 z] 5)]; rfl

section
variable {w : World}
/-- append of bytes onto bytes of the call's own -/
theorem wpList_append8 {ops : Array Oper} {rest : List Oper} {o : Oper} {a : Act} {Q : Exit → Act → World → Prop} (hgd : o.guard = none) (s x : Operand)
    (ho : o.op = .call { callee := .builtin .append, args := #[s, x], argTypes := #[26, 26] })
    (base : Nat) (v : Value) (l : List UInt8) (hv : a.eval s = v) (hown : Own8 w base v l)
    (p : Option Addr) (m c : Nat) (l2 : List UInt8) (hm : l2.length = m) (hx : a.eval x = .slice p m c) (hin : In8 w p l2)
    (hr : l.length + m ≤ 140737488355328) (hbase : base ≤ w.heap.size)
    (h : ∀ v' w', Own8 w' base v' (l ++ l2) → w.grownBy w' v.ownBlock → (v' = .slice none 0 0 ↔ v = .slice none 0 0 ∧ m = 0) → wpList Tryd.prog ops Q rest (a.put o.dst v') w') : wpList Tryd.prog ops Q (o :: rest) a w := by
  subst hm
  refine wpList_append_src w hgd s x 26 26 ho base 5 (.int .u8 0) 1 1 Tryd.underlying26 info8 rfl v l.length (by8 l) hv hown _ l2.length (by8 l2) hx (Src.of8 hin) (by unfold maxLen; omega) (by omega) hbase ?_
  intro v' w' ho' hg hn
  exact h v' w' (by unfold Own8; rw [List.length_append, by8_append]; exact ho') hg hn
/-- the same, the source being bytes of the call's own -/
theorem wpList_append8o {ops : Array Oper} {rest : List Oper} {o : Oper} {a : Act} {Q : Exit → Act → World → Prop} (hgd : o.guard = none) (s x : Operand)
    (ho : o.op = .call { callee := .builtin .append, args := #[s, x], argTypes := #[26, 26] })
    (base : Nat) (v : Value) (l : List UInt8) (hv : a.eval s = v) (hown : Own8 w base v l)
    (b2 : Nat) (y : Value) (l2 : List UInt8) (hx : a.eval x = y) (hin : Own8 w b2 y l2)
    (hr : l.length + l2.length ≤ 140737488355328) (hbase : base ≤ w.heap.size)
    (h : ∀ v' w', Own8 w' base v' (l ++ l2) → w.grownBy w' v.ownBlock → wpList Tryd.prog ops Q rest (a.put o.dst v') w') : wpList Tryd.prog ops Q (o :: rest) a w := by
  obtain ⟨p, c, rfl, _, _, h3⟩ := hin.in8
  exact wpList_append8 hgd s x ho base v l hv hown p _ c l2 rfl hx h3 hr hbase fun v' w' h1 h2 _ => h v' w' h1 h2
/-- a string's bytes -/
theorem wpList_append8s {ops : Array Oper} {rest : List Oper} {o : Oper} {a : Act} {Q : Exit → Act → World → Prop} (hgd : o.guard = none) (s x : Operand)
    (ho : o.op = .call { callee := .builtin .append, args := #[s, x], argTypes := #[26, 9] })
    (base : Nat) (v : Value) (l : List UInt8) (hv : a.eval s = v) (hown : Own8 w base v l)
    (t : ByteArray) (hx : a.eval x = .string t)
    (hr : l.length + t.size ≤ 140737488355328) (hbase : base ≤ w.heap.size)
    (h : ∀ v' w', Own8 w' base v' (l ++ t.data.toList) → w.grownBy w' v.ownBlock → wpList Tryd.prog ops Q rest (a.put o.dst v') w') : wpList Tryd.prog ops Q (o :: rest) a w := by
  have hs : t.data.toList.length = t.size := by rw [Array.length_toList]; rfl
  refine wpList_append_src w hgd s x 26 9 ho base 5 (.int .u8 0) 1 1 Tryd.underlying26 info8 rfl v l.length (by8 l) hv hown _ t.size (by8 t.data.toList) hx (Src.ofString w Tryd.underlying9 t) (by unfold maxLen; omega) (by omega) hbase ?_
  intro v' w' ho' hg _
  exact h v' w' (by unfold Own8; rw [List.length_append, by8_append, hs]; exact ho') hg
theorem Own8.lit (w : World) (z : Int) (h0 : 0 ≤ z) (h1 : z ≤ 255) : Own8 (w.alloc (.cells #[.int .u8 z] 5)) w.heap.size (.slice (some ⟨w.heap.size, 0, none⟩) 1 1) [ubyte z] := by
  have h := World.ownsRow_lit (e := 5) (size := 1) w #[.int .u8 z] 1 (Nat.le_refl _) (by unfold maxLen; omega) rfl
  have e : by8 [ubyte z] = [Value.int .u8 z] := by simp [by8, ubyte_toNat h0 h1]
  unfold Own8; rw [e]; exact h
end

section
variable {w : World}
theorem bt_bytes (t : ByteArray) (i : Nat) (h : i < t.size) : Value.int .u8 (bt t.data.toList i) = (t.data.map (fun b => Value.int .u8 (b.toNat : Int)))[i]'(by simpa using h) := by
  have hl : t.data.toList.length = t.size := by rw [Array.length_toList]; rfl
  rw [bt_get _ i (by omega)]; simp
/-- a text's bytes as a new slice -/
theorem wpList_toBytes {ops : Array Oper} {rest : List Oper} {o : Oper} {a : Act} {Q : Exit → Act → World → Prop} (hgd : o.guard = none) (x : Operand)
    (ho : o.op = .convert 9 26 x) (t : ByteArray) (hx : a.eval x = .string t) (hlen : t.size ≤ maxLen)
    (h : ∀ (g c : Nat) (w' : World), w.heap.size ≤ g → g < w'.heap.size → In8 w' (some ⟨g, 0, none⟩) t.data.toList → t.size ≤ c → c ≤ maxLen → Below w.heap.size w w' → (∀ i, i < c → w'.frozen? ⟨g, i, none⟩ = false) →
      wpList Tryd.prog ops Q rest (a.put o.dst (.slice (some ⟨g, 0, none⟩) t.size c)) w') : wpList Tryd.prog ops Q (o :: rest) a w := by
  refine wpList_plain hgd fun K hK => ?_
  have hrun := run_bytes_of_string (P := Tryd.prog) w 9 26 5 t Tryd.underlying9 Tryd.underlying26 Tryd.underlying5
  have hl : t.data.toList.length = t.size := by rw [Array.length_toList]; rfl
  have hge := grownCap_ge w t.size 0 5
  have hsz : (bytesRow t (grownCap w t.size 0 5)).size = grownCap w t.size 0 5 := by
    have h2 : t.data.size = t.size := rfl
    simp only [bytesRow, Array.size_append, Array.size_map, Array.size_replicate]; omega
  have hfin := h w.heap.size (grownCap w t.size 0 5) _ (Nat.le_refl _) (by simp) (fun _ => ⟨w.heap.size, 0, rfl, fun i hi => ?_⟩) hge (grownCap_le_maxLen w t.size 0 5 hlen)
    ((Below.refl _ w).drew.alloc (Nat.le_refl _) (.cells (bytesRow t (grownCap w t.size 0 5)) 5 ((bytesRow t (grownCap w t.size 0 5)).size, (bytesRow t (grownCap w t.size 0 5)).size + 1))) (fun i hi => ?_)
  · unfold Oper.wp execOp
    simp only [ho, hx, hrun, Sem.run_bind, Sem.run_pure, Result.andThen_ok]
    exact hK _ _ hfin
  · have hb : (w.drew.alloc (.cells (bytesRow t (grownCap w t.size 0 5)) 5 ((bytesRow t (grownCap w t.size 0 5)).size, (bytesRow t (grownCap w t.size 0 5)).size + 1))).heap[w.heap.size]? = some (.cells (bytesRow t (grownCap w t.size 0 5)) 5 ((bytesRow t (grownCap w t.size 0 5)).size, (bytesRow t (grownCap w t.size 0 5)).size + 1)) := heap_alloc_new w.drew _
    have hi' : i < (t.data.map (fun b => Value.int .u8 (b.toNat : Int))).size := by simpa [hl] using hi
    rw [cell_of_row _ _ _ _ _ _ hb, Nat.zero_add, bytesRow, Array.getElem?_append_left hi', Array.getElem?_eq_getElem hi', ← bt_bytes t i (by omega)]
  · have hb : (w.drew.alloc (.cells (bytesRow t (grownCap w t.size 0 5)) 5 ((bytesRow t (grownCap w t.size 0 5)).size, (bytesRow t (grownCap w t.size 0 5)).size + 1))).heap[w.heap.size]? = some (.cells (bytesRow t (grownCap w t.size 0 5)) 5 ((bytesRow t (grownCap w t.size 0 5)).size, (bytesRow t (grownCap w t.size 0 5)).size + 1)) := heap_alloc_new w.drew _
    unfold World.frozen?
    rw [hb, hsz]
    simp only [Bool.and_eq_false_iff, decide_eq_false_iff_not]
    omega
end
end Go.Proofs.YtnhfnfdmpcpcoaaDoor
