/-
  The two check sums return the plain one (crc), and leave the world as it is.
-/
import Derived.Test.YtfcdnjbahghllaaOwn
import Derived.Test.YtfcdnjbahghllaaCrc
import Derived.Test.YtfcdnjbahghllaaProg
namespace Go.Proofs.Ytfcdnjbahghllaa
open Go.RowKit

theorem xor_start (x : Nat) (hx : x < 4294967296) (l : List UInt8) (k : Nat) (h : k < l.length) : bits .xor .u32 (x : Int) (bt l k % 4294967296) = ((crcN 0 (x ^^^ l[k].toNat) : Nat) : Int) := by
  have hb := l[k].toNat_lt
  rw [bt_get l k h, show ((l[k].toNat : Int) % 4294967296) = (l[k].toNat : Int) from by omega]
  exact u32_xor_nat x _ hx (by omega)
theorem round_end (l : List UInt8) (k : Nat) (h : k < l.length) : crcS (l.take (k + 1)) = crcN 8 (crcS (l.take k) ^^^ l[k].toNat) := by
  rw [take_snoc l k h, crcS_snoc]
theorem half_xor (x : Nat) (hx : x < 4294967296) (h : x % 2 = 1) : bits .xor .u32 ((x : Int) / 2) 3988292384 = ((crc1 x : Nat) : Int) := by
  rw [crc1_odd x h, show ((x : Int) / 2) = ((x / 2 : Nat) : Int) from by omega]
  exact u32_xor_nat _ 3988292384 (by omega) (by omega)
theorem half_even (x : Nat) (h : ¬ x % 2 = 1) : ((x : Int) / 2) = ((crc1 x : Nat) : Int) := by
  rw [crc1_even x h]; omega
theorem last_xor (l : List UInt8) : bits .xor .u32 ((crcS l : Nat) : Int) 4294967295 = ((crc l : Nat) : Int) :=
  u32_xor_nat _ 4294967295 (crcS_lt l) (by omega)

set_option maxHeartbeats 1000000 in
theorem refSum_any (l : List UInt8) (p : Option Addr) (n c : Nat) (hn : l.length = n) (hm : n ≤ maxLen) (w : World) (h : In8 w p l) :
    Calls Try.prog 13 #[.slice p n c] w fun e w' => e = .returned (.int .i64 (crc l)) ∧ w = w' := by
  subst hn
  unfold maxLen at hm
  go_enter Try.func13, Try.ntmps13
  go_wp2
  go_loop [3, 4] (fun v i => ∃ k : Nat, k ≤ l.length ∧ i = .int .i64 k ∧ v = .int .u32 (crcS (l.take k))) (fun _ i => l.length - (intOf i).toNat)
  case atStart => exact ⟨0, Nat.zero_le _, rfl, rfl⟩
  case round =>
    obtain ⟨k, hk, rfl, rfl⟩ := hrel
    by_cases hlt : k < l.length
    · obtain ⟨b, o, rfl, hc⟩ := h.at hlt
      have hck := hc k hlt
      clear hc h
      go_wp2
      go_loop [3, 5] (fun v i => ∃ j : Nat, j ≤ 8 ∧ i = .int .i64 j ∧ v = .int .u32 (crcN j (crcS (l.take k) ^^^ l[k].toNat))) (fun _ i => 8 - (intOf i).toNat)
      case atStart => exact ⟨0, Nat.zero_le _, rfl, by rw [xor_start _ (crcS_lt _) l k hlt]⟩
      case round =>
        obtain ⟨j, hj, rfl, rfl⟩ := hrel
        have hx : crcN j (crcS (l.take k) ^^^ l[k].toNat) < 4294967296 := crcN_lt _ _ (Nat.xor_lt_two_pow (n := 32) (crcS_lt _) (by have := l[k].toNat_lt; omega))
        by_cases hj8 : j < 8
        · by_cases hod : crcN j (crcS (l.take k) ^^^ l[k].toNat) % 2 = 1
          · have HX := Lib.hid (half_xor _ hx hod)
            go_wp2
            go_round
            case rel => exact ⟨j + 1, by omega, by go_num, by rw [HX.out]; rfl⟩
            case measure => simp [intOf]; omega
          · have HX := Lib.hid (half_even _ hod)
            go_wp2
            go_round
            case rel => exact ⟨j + 1, by omega, by go_num, by rw [HX.out]; rfl⟩
            case measure => simp [intOf]; omega
        · obtain rfl : j = 8 := by omega
          have HX := Lib.hid (round_end l k hlt)
          go_wp2
          go_round
          case rel => exact ⟨k + 1, by omega, by go_num, by rw [HX.out]⟩
          case measure => simp [intOf]; omega
    · obtain rfl : k = l.length := by omega
      go_wp2
      go_ret
      exact ⟨ret_int (by rw [last_xor]; exact IntWalk.wrap64_in _ ⟨by omega, by have := crc_lt l; omega⟩), rfl⟩

theorem rec_step (x : Nat) (hx : x < 4294967296) : bits .xor .u32 ((x : Int) / 2) (bits .and .u32 3988292384 (-(bits .and .u32 (x : Int) 1) % 4294967296)) = ((crc1 x : Nat) : Int) := by
  have h1 : bits .and .u32 (x : Int) 1 = ((x &&& 1 : Nat) : Int) := u32_and_nat x 1 hx (by omega)
  rw [h1, nat_mask1]
  by_cases h : x % 2 = 1
  · rw [h, show ((-((1 : Nat) : Int)) % 4294967296) = ((4294967295 : Nat) : Int) from by decide]
    have h2 : bits .and .u32 3988292384 ((4294967295 : Nat) : Int) = ((3988292384 : Nat) : Int) := (u32_and_nat 3988292384 4294967295 (by omega) (by omega)).trans (by decide)
    rw [h2]; exact half_xor x hx h
  · rw [show x % 2 = 0 from by omega, show ((-((0 : Nat) : Int)) % 4294967296) = ((0 : Nat) : Int) from by decide]
    have h2 : bits .and .u32 3988292384 ((0 : Nat) : Int) = ((0 : Nat) : Int) := (u32_and_nat 3988292384 0 (by omega) (by omega)).trans (by decide)
    rw [h2, crc1_even x h, show ((x : Int) / 2) = ((x / 2 : Nat) : Int) from by omega]
    exact (u32_xor_nat (x / 2) 0 (by omega) (by omega)).trans (by simp)
theorem max_xor (l : List UInt8) : bits .xor .u32 IntKind.u32.max ((crcS l : Nat) : Int) = ((crc l : Nat) : Int) :=
  (u32_xor_nat 4294967295 _ (by omega) (crcS_lt l)).trans (by rw [Nat.xor_comm]; rfl)

set_option maxHeartbeats 1000000 in
theorem recSum_any (l : List UInt8) (p : Option Addr) (n c : Nat) (hn : l.length = n) (hm : n ≤ maxLen) (w : World) (h : In8 w p l) :
    Calls Try.prog 12 #[.slice p n c] w fun e w' => e = .returned (.int .i64 (crc l)) ∧ w = w' := by
  subst hn
  unfold maxLen at hm
  go_enter Try.func12, Try.ntmps12
  go_wp2
  go_loop [3, 8] (fun v i => ∃ k : Nat, k ≤ l.length ∧ i = .int .i64 k ∧ v = .int .u32 (crcS (l.take k))) (fun _ i => l.length - (intOf i).toNat)
  case atStart => exact ⟨0, Nat.zero_le _, rfl, rfl⟩
  case round =>
    obtain ⟨k, hk, rfl, rfl⟩ := hrel
    by_cases hlt : k < l.length
    · obtain ⟨b, o, rfl, hc⟩ := h.at hlt
      have hck := hc k hlt
      clear hc h
      go_wp2
      go_loop [3, 16] (fun v i => ∃ j : Nat, j ≤ 8 ∧ i = .int .i64 j ∧ v = .int .u32 (crcN j (crcS (l.take k) ^^^ l[k].toNat))) (fun _ i => 8 - (intOf i).toNat)
      case atStart => exact ⟨0, Nat.zero_le _, rfl, by rw [xor_start _ (crcS_lt _) l k hlt]⟩
      case round =>
        obtain ⟨j, hj, rfl, rfl⟩ := hrel
        have hx : crcN j (crcS (l.take k) ^^^ l[k].toNat) < 4294967296 := crcN_lt _ _ (Nat.xor_lt_two_pow (n := 32) (crcS_lt _) (by have := l[k].toNat_lt; omega))
        by_cases hj8 : j < 8
        · have HX := Lib.hid (rec_step _ hx)
          go_wp2
          go_round
          case rel => exact ⟨j + 1, by omega, by go_num, by rw [HX.out]; rfl⟩
          case measure => simp [intOf]; omega
        · obtain rfl : j = 8 := by omega
          have HX := Lib.hid (round_end l k hlt)
          go_wp2
          go_round
          case rel => exact ⟨k + 1, by omega, by go_num, by rw [HX.out]⟩
          case measure => simp [intOf]; omega
    · obtain rfl : k = l.length := by omega
      go_wp2
      go_ret
      exact ⟨ret_int (by rw [max_xor]; exact IntWalk.wrap64_in _ ⟨by omega, by have := crc_lt l; omega⟩), rfl⟩

theorem recSum_own {w : World} {base : Nat} {v : Value} {l : List UInt8} (h : Own8 w base v l) : Calls Try.prog 12 #[v] w fun e w' => e = .returned (.int .i64 (crc l)) ∧ w = w' := by
  obtain ⟨p, c, rfl, h1, h2, h3⟩ := h.in8
  exact recSum_any l p _ c rfl (by omega) w h3
theorem refSum_own {w : World} {base : Nat} {v : Value} {l : List UInt8} (h : Own8 w base v l) : Calls Try.prog 13 #[v] w fun e w' => e = .returned (.int .i64 (crc l)) ∧ w = w' := by
  obtain ⟨p, c, rfl, h1, h2, h3⟩ := h.in8
  exact refSum_any l p _ c rfl (by omega) w h3
end Go.Proofs.Ytfcdnjbahghllaa
