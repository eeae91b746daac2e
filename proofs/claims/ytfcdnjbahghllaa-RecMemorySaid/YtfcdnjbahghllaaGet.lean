/-
  be.Get and the document's Value: the number of bytes.
-/
import Derived.Test.YtfcdnjbahghllaaOwn
namespace Go.Proofs.Ytfcdnjbahghllaa
open Go.RowKit

/-- the number of bytes, the greatest first -/
def valB (l : List UInt8) : Nat := l.foldl (fun v b => v * 256 + b.toNat) 0
theorem valB_snoc (l : List UInt8) (b : UInt8) : valB (l ++ [b]) = valB l * 256 + b.toNat := by simp [valB]
theorem valB_lt (l : List UInt8) : valB l < 256 ^ l.length := by
  unfold valB
  suffices h : ∀ (l : List UInt8) (v k : Nat), v < 256 ^ k → l.foldl (fun v b => v * 256 + b.toNat) v < 256 ^ (k + l.length) by
    simpa using h l 0 0 (by simp)
  intro l
  induction l with
  | nil => intro v k h; simpa using h
  | cons b r ih =>
    intro v k h
    have := ih (v * 256 + b.toNat) (k + 1) (by have := b.toNat_lt; rw [Nat.pow_succ]; omega)
    simpa [Nat.add_assoc, Nat.add_comm 1] using this
theorem valB_take_lt (l : List UInt8) (k : Nat) (h : k ≤ 4) : valB (l.take k) < 4294967296 := by
  have h1 := valB_lt (l.take k)
  have h2 : (l.take k).length ≤ 4 := by rw [List.length_take]; omega
  exact Nat.lt_of_lt_of_le h1 (Nat.le_trans (Nat.pow_le_pow_right (by omega) h2) (by decide))

theorem In8.drewN {w : World} {p : Option Addr} {l : List UInt8} (h : In8 w p l) (n : Nat) : In8 (w.drewN n) p l := h

set_option maxHeartbeats 1000000 in
theorem value_any (l : List UInt8) (p : Option Addr) (n c : Nat) (hn : l.length = n) (h4 : n ≤ 4) (w : World) (h : In8 w p l) :
    Calls Try.prog 25 #[.slice p n c] w fun e w' => e = .returned (.int .i64 (valB l)) ∧ w = w' := by
  subst hn
  go_enter Try.func25, Try.ntmps25
  go_wp2
  go_loop [3, 4] (fun v i => ∃ k : Nat, k ≤ l.length ∧ i = .int .i64 k ∧ v = .int .i64 (valB (l.take k))) (fun _ i => l.length - (intOf i).toNat)
  case atStart => exact ⟨0, Nat.zero_le _, rfl, rfl⟩
  case round =>
    obtain ⟨k, hk, rfl, rfl⟩ := hrel
    have hv := valB_take_lt l k (by omega)
    by_cases hlt : k < l.length
    · obtain ⟨b, o, rfl, hc⟩ := h.at hlt
      have hck := hc k hlt
      have hb0 := bt_nonneg l k
      have hb1 := bt_le l k
      have hs : ((valB (l.take k) : Nat) : Int) * 256 + bt l k = ((valB (l.take (k + 1)) : Nat) : Int) := by
        rw [take_snoc l k hlt, valB_snoc, bt_get l k hlt]; omega
      have HS := Lib.hid hs
      clear hc h hs
      go_wp2
      go_round
      case rel => exact ⟨k + 1, by omega, by go_num, by rw [← HS.out]⟩
      case measure => simp [intOf]; omega
    · obtain rfl : k = l.length := by omega
      go_wp2
      go_ret
      exact ⟨ret_int (by simp), rfl⟩

theorem or_byte (v : Nat) (hv : v < 4294967296) (b : Nat) (hb : b < 256) : bits .or .u64 ((v * 256 : Nat) : Int) (b : Int) = ((v * 256 + b : Nat) : Int) := by
  rw [u64_or_nat _ _ (by omega) (by omega), nat_join 8 (v * 256) b (by omega) (by omega)]

set_option maxHeartbeats 1000000 in
theorem get_any (l : List UInt8) (p : Option Addr) (n c : Nat) (hn : l.length = n) (h4 : n ≤ 4) (w : World) (h : In8 w p l) :
    Calls Try.prog 24 #[.slice p n c] w fun e w' => e = .returned (.int .i64 (valB l)) ∧ w = w' := by
  subst hn
  go_enter Try.func24, Try.ntmps24
  go_wp2
  go_loop [3, 8] (fun v i => ∃ k : Nat, k ≤ l.length ∧ i = .int .i64 k ∧ v = .int .u64 (valB (l.take k))) (fun _ i => l.length - (intOf i).toNat)
  case atStart => exact ⟨0, Nat.zero_le _, rfl, rfl⟩
  case round =>
    obtain ⟨k, hk, rfl, rfl⟩ := hrel
    have hv := valB_take_lt l k (by omega)
    by_cases hlt : k < l.length
    · obtain ⟨b, o, rfl, hc⟩ := h.at hlt
      have hck := hc k hlt
      have hb0 := bt_nonneg l k
      have hb1 := bt_le l k
      have hs : bits .or .u64 (((valB (l.take k) : Nat) : Int) * 256) (bt l k) = ((valB (l.take (k + 1)) : Nat) : Int) := by
        rw [take_snoc l k hlt, valB_snoc, bt_get l k hlt, ← or_byte _ hv _ l[k].toNat_lt]; simp
      have HS := Lib.hid hs
      clear hc h hs
      go_wp2
      go_round
      case rel => exact ⟨k + 1, by omega, by go_num, by rw [← HS.out]⟩
      case measure => simp [intOf]; omega
    · obtain rfl : k = l.length := by omega
      go_wp2
      go_ret
      rw [List.take_length] at hv
      exact ⟨ret_int (IntWalk.wrap64_in _ ⟨by omega, by omega⟩), rfl⟩
end Go.Proofs.Ytfcdnjbahghllaa
