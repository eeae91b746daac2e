/-
  Bytes as numbers and as cells; what it means that a slice of bytes reads as a list. No program is in sight here.
-/
import Derived.WalkKit
import Derived.ProofKit
import Derived.OpenShut
import Derived.Handy
import Derived.Lib.Hide
namespace Go.Proofs.YtnhfnfdmpcpcoaaDoor
open Go.RowKit

theorem ret_int {k : IntKind} {a b : Int} (h : a = b) : Ending.returned (.int k a) = .returned (.int k b) := by rw [h]
theorem ret_bool {a b : Bool} (h : a = b) : Ending.returned (.bool a) = .returned (.bool b) := by rw [h]

/-- byte k of a list as a number; 0 beyond its end -/
def bt (l : List UInt8) (k : Nat) : Int := ((l.getD k 0).toNat : Int)
theorem bt_nonneg (l : List UInt8) (k : Nat) : 0 ≤ bt l k := by unfold bt; omega
theorem bt_le (l : List UInt8) (k : Nat) : bt l k ≤ 255 := by
  unfold bt; have := (l.getD k 0).toNat_lt; omega
theorem bt_get (l : List UInt8) (k : Nat) (h : k < l.length) : bt l k = (l[k].toNat : Int) := by
  unfold bt; rw [List.getD_eq_getElem?_getD, List.getElem?_eq_getElem h]; rfl
theorem take_snoc (l : List UInt8) (k : Nat) (h : k < l.length) : l.take (k + 1) = l.take k ++ [l[k]] := by
  rw [List.take_succ_eq_append_getElem h]

/-- the cells of a list of bytes -/
def by8 (l : List UInt8) : List Value := l.map fun b => .int .u8 (b.toNat : Int)
theorem by8_length (l : List UInt8) : (by8 l).length = l.length := by simp [by8]
theorem by8_append (a b : List UInt8) : by8 (a ++ b) = by8 a ++ by8 b := by simp [by8]
theorem by8_get (l : List UInt8) (k : Nat) (h : k < l.length) : (by8 l)[k]? = some (.int .u8 (bt l k)) := by
  rw [bt_get l k h]; simp [by8, h]

/-- the bytes l stand at the address (whatever it is, where there are none) -/
def In8 (w : World) (p : Option Addr) (l : List UInt8) : Prop :=
  0 < l.length → ∃ b o, p = some ⟨b, o, none⟩ ∧ ∀ i, i < l.length → w.cell? ⟨b, o + i, none⟩ = some (.int .u8 (bt l i))

theorem In8.at {w : World} {p : Option Addr} {l : List UInt8} (h : In8 w p l) {k : Nat} (hk : k < l.length) :
    ∃ b o, p = some ⟨b, o, none⟩ ∧ ∀ i, i < l.length → w.cell? ⟨b, o + i, none⟩ = some (.int .u8 (bt l i)) := h (by omega)

end Go.Proofs.YtnhfnfdmpcpcoaaDoor
