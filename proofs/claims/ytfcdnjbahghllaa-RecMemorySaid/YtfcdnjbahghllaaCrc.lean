/-
  The check sum as plain arithmetic on numbers below 2 to the 32. No program is in sight here.
-/
namespace Go.Proofs.Ytfcdnjbahghllaa

/-- one step of the check sum, for one bit -/
def crc1 (x : Nat) : Nat := if x % 2 = 1 then (x / 2) ^^^ 3988292384 else x / 2
/-- j such steps -/
def crcN : Nat → Nat → Nat
  | 0, x => x
  | j + 1, x => crc1 (crcN j x)
/-- a byte taken in -/
def crcB (x : Nat) (b : UInt8) : Nat := crcN 8 (x ^^^ b.toNat)
/-- the state behind a list of bytes -/
def crcS (l : List UInt8) : Nat := l.foldl crcB 4294967295
/-- the check sum -/
def crc (l : List UInt8) : Nat := crcS l ^^^ 4294967295

theorem crc1_lt (x : Nat) (h : x < 4294967296) : crc1 x < 4294967296 := by
  unfold crc1; split
  · exact Nat.xor_lt_two_pow (n := 32) (by omega) (by omega)
  · omega
theorem crcN_lt (j x : Nat) (h : x < 4294967296) : crcN j x < 4294967296 := by
  induction j with
  | zero => exact h
  | succ j ih => exact crc1_lt _ ih
theorem crcB_lt (x : Nat) (b : UInt8) (h : x < 4294967296) : crcB x b < 4294967296 := by
  unfold crcB; apply crcN_lt
  exact Nat.xor_lt_two_pow (n := 32) h (by have := b.toNat_lt; omega)
theorem foldl_lt (l : List UInt8) : ∀ x, x < 4294967296 → l.foldl crcB x < 4294967296 := by
  induction l with
  | nil => intro x h; exact h
  | cons b r ih => intro x h; exact ih _ (crcB_lt x b h)
theorem crcS_lt (l : List UInt8) : crcS l < 4294967296 := foldl_lt l _ (by omega)
theorem crc_lt (l : List UInt8) : crc l < 4294967296 := Nat.xor_lt_two_pow (n := 32) (crcS_lt l) (by omega)
theorem crcS_snoc (l : List UInt8) (b : UInt8) : crcS (l ++ [b]) = crcN 8 (crcS l ^^^ b.toNat) := by
  simp [crcS, crcB]
theorem crc1_odd (x : Nat) (h : x % 2 = 1) : crc1 x = (x / 2) ^^^ 3988292384 := if_pos h
theorem crc1_even (x : Nat) (h : ¬ x % 2 = 1) : crc1 x = x / 2 := if_neg h

end Go.Proofs.Ytfcdnjbahghllaa
