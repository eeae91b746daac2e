/-
  The check sum tells every change of one byte. Plain arithmetic.
-/
import Derived.Test.YtfcdnjbahghllaaCrc
namespace Go.Proofs.Ytfcdnjbahghllaa

theorem xor_lt32 {a b : Nat} (ha : a < 4294967296) (hb : b < 4294967296) : a ^^^ b < 4294967296 := Nat.xor_lt_two_pow (n := 32) ha hb
theorem xor_right_inj {a b c : Nat} (h : a ^^^ c = b ^^^ c) : a = b := by
  have := congrArg (· ^^^ c) h
  simpa [Nat.xor_assoc] using this
theorem xor_left_inj {a b c : Nat} (h : c ^^^ a = c ^^^ b) : a = b := by
  rw [Nat.xor_comm c a, Nat.xor_comm c b] at h; exact xor_right_inj h

theorem high_bit {x : Nat} (h : x < 2147483648) : Nat.testBit x 31 = false := Nat.testBit_lt_two_pow (by omega)
theorem crc1_inj {x y : Nat} (hx : x < 4294967296) (hy : y < 4294967296) (h : crc1 x = crc1 y) : x = y := by
  have hp : Nat.testBit 3988292384 31 = true := by decide
  by_cases ax : x % 2 = 1 <;> by_cases ay : y % 2 = 1
  · rw [crc1_odd x ax, crc1_odd y ay] at h
    have := xor_right_inj h
    omega
  · rw [crc1_odd x ax, crc1_even y ay] at h
    have h1 := congrArg (fun z => Nat.testBit z 31) h
    simp only [Nat.testBit_xor, hp, high_bit (show x / 2 < 2147483648 by omega), high_bit (show y / 2 < 2147483648 by omega)] at h1
    simp at h1
  · rw [crc1_even x ax, crc1_odd y ay] at h
    have h1 := congrArg (fun z => Nat.testBit z 31) h
    simp only [Nat.testBit_xor, hp, high_bit (show x / 2 < 2147483648 by omega), high_bit (show y / 2 < 2147483648 by omega)] at h1
    simp at h1
  · rw [crc1_even x ax, crc1_even y ay] at h
    omega
theorem crcN_inj (j : Nat) {x y : Nat} (hx : x < 4294967296) (hy : y < 4294967296) (h : crcN j x = crcN j y) : x = y := by
  induction j with
  | zero => exact h
  | succ j ih => exact ih (crc1_inj (crcN_lt j x hx) (crcN_lt j y hy) h)
theorem crcB_inj {x y : Nat} (b : UInt8) (hx : x < 4294967296) (hy : y < 4294967296) (h : crcB x b = crcB y b) : x = y := by
  have hb : b.toNat < 4294967296 := by have := b.toNat_lt; omega
  exact xor_right_inj (crcN_inj 8 (xor_lt32 hx hb) (xor_lt32 hy hb) h)
theorem crcB_byte {x : Nat} {b c : UInt8} (hx : x < 4294967296) (h : crcB x b = crcB x c) : b = c := by
  have hb : b.toNat < 4294967296 := by have := b.toNat_lt; omega
  have hc : c.toNat < 4294967296 := by have := c.toNat_lt; omega
  exact UInt8.toNat_inj.1 (xor_left_inj (crcN_inj 8 (xor_lt32 hx hb) (xor_lt32 hx hc) h))
theorem foldl_inj (l : List UInt8) : ∀ {x y : Nat}, x < 4294967296 → y < 4294967296 → l.foldl crcB x = l.foldl crcB y → x = y := by
  induction l with
  | nil => intro x y _ _ h; exact h
  | cons b r ih => intro x y hx hy h; exact crcB_inj b hx hy (ih (crcB_lt x b hx) (crcB_lt y b hy) h)

/-- two texts that differ in one byte have different sums -/
theorem crc_tells (a d : List UInt8) (b c : UInt8) (h : crc (a ++ b :: d) = crc (a ++ c :: d)) : b = c := by
  have h1 : crcS (a ++ b :: d) = crcS (a ++ c :: d) := xor_right_inj h
  simp only [crcS, List.foldl_append, List.foldl_cons] at h1
  have ha := foldl_lt a 4294967295 (by omega)
  exact crcB_byte ha (foldl_inj d (crcB_lt _ b ha) (crcB_lt _ c ha) h1)
end Go.Proofs.Ytfcdnjbahghllaa
