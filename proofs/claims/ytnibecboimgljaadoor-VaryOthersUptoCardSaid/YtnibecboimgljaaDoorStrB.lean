/-
  The bytes of a text.
-/
import Derived.Test.YtnibecboimgljaaDoorOwn
import Derived.Lib.Strings
namespace Go.Proofs.YtnibecboimgljaaDoor
open Go.RowKit

theorem bt_str (s : ByteArray) (k : Nat) (h : k < s.size) : bt s.data.toList k = (s[k].toNat : Int) := by
  rw [bt_get _ k (by rw [Array.length_toList]; exact h)]; rfl
theorem size_list (s : ByteArray) : s.data.toList.length = s.size := by rw [Array.length_toList]; rfl
theorem empty_size (s : ByteArray) : decide (0 < s.size) = !s.data.toList.isEmpty := by
  rw [← size_list]; cases s.data.toList <;> simp
theorem byte_le (s : ByteArray) (k : Nat) (h : k < s.size) : 0 ≤ (s[k].toNat : Int) ∧ (s[k].toNat : Int) ≤ 255 := by
  have := s[k].toNat_lt; omega
end Go.Proofs.YtnibecboimgljaaDoor
