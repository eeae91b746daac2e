/-
  append, and bytes of a text, as steps of a region that draws.
-/
import Derived.Test.YtpgjlepjhbjhfaaDoorAppend2
import Derived.Deep.RegionHeld3
namespace Go.Proofs.YtpgjlepjhbjhfaaDoor
open Go.RowKit

/-- append onto a row of the call's own, as a step of a region that draws -/
theorem step_append_fit {P : Program} {w : World} {ops : Array Oper} {o : Oper} {a : Act} {K : Act → World → Prop} {Q : Exit → Act → World → Prop} {E : Prop} (hgd : o.guard = none) (s x : Operand) (t tx : TypeId)
    (ho : o.op = .call { callee := .builtin .append, args := #[s, x], argTypes := #[t, tx] })
    (base : Nat) (e : TypeId) (z : Value) (size bytes : Nat) (ht : P.underlying t = some (.slice e)) (hi : (P.info? e).map (fun i => (i.zero, i.size, i.bytes)) = some (some z, size, bytes))
    (hzs : z.cells.size = size)
    (v : Value) (n : Nat) (xs : List Value) (hv : a.eval s = v) (hown : w.ownsRow base e size v n xs)
    (y : Value) (m : Nat) (news : List Value) (hx : a.eval x = y) (hs : Src P size tx y m news w)
    (h63 : n + m ≤ maxLen) (hbytes : (n + m + (n + m) / 4 + 512) * bytes ≤ 281474976710656) (hbase : base ≤ w.heap.size)
    (h : ∀ v' w', w'.ownsRow base e size v' (n + m) (xs ++ news) → w.grownBy w' v.ownBlock → K (a.put o.dst v') w') :
    if Region.wanted o (yielded ops a.tmps) = true then Oper.wp P o a w K Q else E := by
  have hw : Region.wanted o (yielded ops a.tmps) = true := by simp [Region.wanted, hgd]
  rw [if_pos hw]
  obtain ⟨i, hi, hz, hz1, hz2⟩ := info_parts hi
  obtain ⟨v', w', hr, h2, h3, h4⟩ := run_append_fit (P := P) w base t tx o.type e i z size bytes ht hi hz hz1 hz2 hzs v n xs hown y m news hs h63 (fun old hold => Nat.le_trans (Nat.mul_le_mul_right _ (nextslicecap_le _ _ hold)) hbytes) hbase
  unfold Oper.wp execOp
  simp only [ho, resolve, invoke, builtin, Sem.run_bind, Sem.run_pure, Result.andThen_ok, List.map_toArray, List.map_cons, List.map_nil, hv, hx, hr]
  exact h v' w' h2 h3
theorem step_append8 {w : World} {ops : Array Oper} {o : Oper} {a : Act} {K : Act → World → Prop} {Q : Exit → Act → World → Prop} {E : Prop} (hgd : o.guard = none) (s x : Operand)
    (ho : o.op = .call { callee := .builtin .append, args := #[s, x], argTypes := #[33, 33] })
    (base : Nat) (v : Value) (l : List UInt8) (hv : a.eval s = v) (hown : Own8 w base v l)
    (p : Option Addr) (m c : Nat) (l2 : List UInt8) (hm : l2.length = m) (hx : a.eval x = .slice p m c) (hin : In8 w p l2)
    (hr : l.length + m ≤ 200000000000000) (hbase : base ≤ w.heap.size)
    (h : ∀ v' w', Own8 w' base v' (l ++ l2) → w.grownBy w' v.ownBlock → K (a.put o.dst v') w') :
    if Region.wanted o (yielded ops a.tmps) = true then Oper.wp Tryd.prog o a w K Q else E := by
  subst hm
  refine step_append_fit hgd s x _ _ ho base 5 (.int .u8 0) 1 1 Tryd.underlying33 info8 rfl v l.length (by8 l) hv hown _ l2.length (by8 l2) hx (Src.of8 hin) (by unfold maxLen; omega) (by omega) hbase ?_
  intro v' w' ho' hg
  exact h v' w' (by unfold Own8; rw [List.length_append, by8_append]; exact ho') hg

/-- the world behind a text's bytes -/
def bytesW (w : World) (t : ByteArray) : World := w.drew.alloc (.cells (bytesRow t (grownCap w t.size 0 5)) 5 ((bytesRow t (grownCap w t.size 0 5)).size, (bytesRow t (grownCap w t.size 0 5)).size + 1))
theorem bytesW_run (w : World) (t : ByteArray) : (convert 9 33 (.string t)).run Tryd.prog w = .ok (.slice (some ⟨w.heap.size, 0, none⟩) t.size (grownCap w t.size 0 5)) (bytesW w t) :=
  run_bytes_of_string (P := Tryd.prog) w 9 33 5 t Tryd.underlying9 Tryd.underlying33 Tryd.underlying5
theorem bytesW_below (w : World) (t : ByteArray) : Below w.heap.size w (bytesW w t) :=
  (Below.refl _ w).drew.alloc (Nat.le_refl _) _
theorem bytesW_in8 (w : World) (t : ByteArray) : In8 (bytesW w t) (some ⟨w.heap.size, 0, none⟩) t.data.toList := by
  intro _
  have hl : t.data.toList.length = t.size := by rw [Array.length_toList]; rfl
  refine ⟨w.heap.size, 0, rfl, fun i hi => ?_⟩
  have hb : (bytesW w t).heap[w.heap.size]? = some (.cells (bytesRow t (grownCap w t.size 0 5)) 5 ((bytesRow t (grownCap w t.size 0 5)).size, (bytesRow t (grownCap w t.size 0 5)).size + 1)) := heap_alloc_new w.drew _
  have hi' : i < (t.data.map (fun b => Value.int .u8 (b.toNat : Int))).size := by simpa [hl] using hi
  rw [cell_of_row _ _ _ _ _ _ hb, Nat.zero_add, bytesRow, Array.getElem?_append_left hi', Array.getElem?_eq_getElem hi', ← bt_bytes t i (by omega)]
end Go.Proofs.YtpgjlepjhbjhfaaDoor
