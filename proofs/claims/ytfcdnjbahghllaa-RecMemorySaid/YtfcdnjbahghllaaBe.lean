/-
  Numbers as bytes, the byte of the greatest weight first: be.Put, be.Get and the document's Number, Value.
-/
import Derived.Test.YtfcdnjbahghllaaUse
namespace Go.Proofs.Ytfcdnjbahghllaa
open Go.RowKit

/-- n bytes of a number, the greatest first -/
def beB (v : Nat) : Nat → List UInt8
  | 0 => []
  | n + 1 => UInt8.ofNat (v / 256 ^ n) :: beB v n
theorem beB_length (v n : Nat) : (beB v n).length = n := by
  induction n with
  | zero => rfl
  | succ n ih => simp [beB, ih]

theorem byte_range (v : Int) (j : Nat) : 0 ≤ v / 2 ^ (8 * j) % 256 ∧ v / 2 ^ (8 * j) % 256 ≤ 255 := by omega
theorem pow_256 (j : Nat) : (2 : Nat) ^ (8 * j) = 256 ^ j := by rw [Nat.pow_mul]
theorem ubyte_shift (v : Int) (h0 : 0 ≤ v) (j : Nat) : ubyte (v / 2 ^ (8 * j) % 256) = UInt8.ofNat (v.toNat / 256 ^ j) := by
  obtain ⟨m, rfl⟩ := Int.eq_ofNat_of_zero_le h0
  have e : ((m : Int) / 2 ^ (8 * j) % 256) = ((m / 256 ^ j % 256 : Nat) : Int) := by
    rw [← pow_256]; simp
  unfold ubyte
  rw [e, Int.toNat_natCast, Int.toNat_natCast]
  apply UInt8.toNat_inj.1
  simp only [UInt8.toNat_ofNat']; omega
theorem beB_step (l' t : List UInt8) (v : Int) (h0 : 0 ≤ v) (j : Nat) (h : l' ++ beB v.toNat (j + 1) = t) : (l' ++ [ubyte (v / 2 ^ (8 * j) % 256)]) ++ beB v.toNat j = t := by
  rw [ubyte_shift v h0 j, ← h]; simp [beB]

set_option maxHeartbeats 1000000 in
theorem put_any (v N : Int) (n : Nat) (hN : N = (n : Int)) (hn : n ≤ 8) (h0 : 0 ≤ v) (h1 : v ≤ 9223372036854775807) (l : List UInt8) (sv : Value) (base : Nat) (w : World) (hl : l.length ≤ 100000) (hown : Own8 w base sv l) (hb0 : base ≤ w.heap.size) :
    Calls Try.prog 22 #[sv, .int .i64 v, .int .i64 N] w fun e w' => ∃ v', e = .returned v' ∧ Own8 w' base v' (l ++ beB v.toNat n) ∧ Below base w w' := by
  subst hN
  go_enter Try.func22, Try.ntmps22
  go_wp2
  go_loopw [0, 7] (fun s i wr => ∃ (k : Nat) (l' : List UInt8), k ≤ n ∧ i = .int .i64 ((k : Int) - 1) ∧ Own8 wr base s l' ∧ l' ++ beB v.toNat k = l ++ beB v.toNat n ∧ Below base w wr ∧ base ≤ wr.heap.size) (fun _ i _ => (intOf i + 1).toNat)
  case atStart => exact ⟨n, l, Nat.le_refl _, rfl, hown, rfl, Below.refl _ _, hb0⟩
  case round =>
    obtain ⟨k, l', hk, rfl, hown', heq, hb, hbs⟩ := hrel
    by_cases hlt : 0 < k
    · obtain ⟨j, rfl⟩ : ∃ j, k = j + 1 := ⟨k - 1, by omega⟩
      have hrange := byte_range v j
      have hin := In8.one wr (v / 2 ^ (8 * j) % 256) hrange.1 hrange.2
      have hown2 := hown'.alloc (.cells #[.int .u8 (v / 2 ^ (8 * j) % 256)] 5)
      have hlen : l'.length ≤ 100008 := by
        have := congrArg List.length heq
        simp only [List.length_append, beB_length] at this; omega
      have HS := Lib.hid (beB_step l' _ v h0 j heq)
      clear heq hrange
      go_wp2_with (at_builtin; refine wpList_append8 rfl _ _ rfl base _ l' rfl hown2 _ _ _ [ubyte (v / 2 ^ (8 * j) % 256)] rfl rfl hin (by simp; omega) (by simp; omega) ?_; intro v2 w2 hown3 hgrow3 _)
      have hb3 := own_grown (hb.alloc hbs _) (by simp; omega) hown2 hgrow3
      have hs3 := hgrow3.size
      go_roundw
      case rel => exact ⟨j, _, by omega, rfl, hown3, HS.out, hb3, by simp at hs3; omega⟩
      case measure => simp [intOf]
    · obtain rfl : k = 0 := by omega
      simp only [beB, List.append_nil] at heq
      subst heq
      go_wp2
      go_ret
      exact ⟨_, rfl, hown', hb⟩

theorem beB_get (v n j : Nat) (h : j < n) : (beB v n)[j]'(by rw [beB_length]; exact h) = UInt8.ofNat (v / 256 ^ (n - 1 - j)) := by
  induction n generalizing j with
  | zero => omega
  | succ n ih =>
    cases j with
    | zero => simp [beB]
    | succ j =>
      have := ih j (by omega)
      simp only [beB, List.getElem_cons_succ]
      rw [this, show n + 1 - 1 - (j + 1) = n - 1 - j from by omega]

theorem i64_and255 (n : Int) : bits .and .i64 n 255 = n % 256 := by
  have h255 : (BitVec.ofInt 64 255).toNat = 2 ^ 8 - 1 := by decide
  have key : (BitVec.ofInt 64 n &&& BitVec.ofInt 64 255).toNat = (n % ((2 ^ 64 : Nat) : Int)).toNat % 2 ^ 8 := by
    rw [BitVec.toNat_and, BitVec.toNat_ofInt, h255, Nat.and_two_pow_sub_one_eq_mod]
  show IntKind.i64.wrap ((BitVec.ofInt 64 n &&& BitVec.ofInt 64 255).toNat : Nat) = n % 256
  rw [key, IntKind.wrap_i64]
  omega
theorem ubyte_low (z : Nat) : ubyte (bits .and .i64 (z : Int) 255 % 256) = UInt8.ofNat z := by
  rw [i64_and255]
  unfold ubyte
  apply UInt8.toNat_inj.1
  simp only [UInt8.toNat_ofNat']; omega
theorem low_range (z : Nat) : 0 ≤ bits .and .i64 (z : Int) 255 % 256 ∧ bits .and .i64 (z : Int) 255 % 256 ≤ 255 := by omega
theorem div_step (v n j z : Nat) (hj : j + 1 ≤ n) (h : v / 256 ^ (n - (j + 1)) = z) : z / 256 = v / 256 ^ (n - j) := by
  rw [← h, Nat.div_div_eq_div_mul, ← Nat.pow_succ, show (n - (j + 1)).succ = n - j from by omega]

/-- a store into bytes of the call's own -/
theorem Own8.stored {w : World} {base g n cap : Nat} {l : List UInt8} (h : Own8 w base (.slice (some ⟨g, 0, none⟩) n cap) l) (hn : l.length = n) (j : Nat) (z : Int) (h0 : 0 ≤ z) (h1 : z ≤ 255) :
    Own8 (w.setCell ⟨g, j, none⟩ (.int .u8 z)) base (.slice (some ⟨g, 0, none⟩) n cap) (l.set j (ubyte z)) ∧ w.grownBy (w.setCell ⟨g, j, none⟩ (.int .u8 z)) (some g) := by
  subst hn
  have := World.ownsRow.stored h j (.int .u8 z)
  refine ⟨?_, this.2⟩
  unfold Own8
  rw [List.length_set]
  have e : by8 (l.set j (ubyte z)) = (by8 l).set j (.int .u8 z) := by simp only [by8, List.map_set, ubyte_toNat h0 h1]
  rw [e]; exact this.1
theorem Own8.cells {w : World} {base g n cap : Nat} {l : List UInt8} (h : Own8 w base (.slice (some ⟨g, 0, none⟩) n cap) l) (hn : l.length = n) {j : Nat} (hj : j < n) :
    w.cell? ⟨g, j, none⟩ = some (.int .u8 (bt l j)) ∧ w.frozen? ⟨g, j, none⟩ = false := by
  subst hn
  exact ⟨(World.ownsRow.cellAt h j (by omega)).trans (by8_get l j hj), World.ownsRow.frozenAt h j⟩

theorem drop_set (l t : List UInt8) (j : Nat) (b : UInt8) (hl : l.length = t.length) (hj : j < l.length) (h : l.drop (j + 1) = t.drop (j + 1)) (hb : t[j]'(by omega) = b) : (l.set j b).drop j = t.drop j := by
  rw [List.drop_eq_getElem_cons (by simpa using hj), List.drop_eq_getElem_cons (show j < t.length by omega)]
  simp [hb]
  rw [List.drop_set_of_lt (by omega), h]

set_option maxHeartbeats 1000000 in
theorem number_any (v N : Int) (n : Nat) (hN : N = (n : Int)) (hn : n ≤ 8) (h0 : 0 ≤ v) (h1 : v ≤ 9223372036854775807) (w : World) :
    Calls Try.prog 23 #[.int .i64 v, .int .i64 N] w fun e w' => ∃ v', e = .returned v' ∧ Own8 w' w.heap.size v' (beB v.toNat n) ∧ Below w.heap.size w w' := by
  subst hN
  obtain ⟨i0, hi, hz0, hz1, hz2⟩ := info_parts info8
  go_enter Try.func23, Try.ntmps23
  go_wp2_with (at_make; refine wpList_make_full _ rfl _ _ 22 rfl w.heap.size 5 i0 (.int .u8 0) 1 Try.underlying22 hi hz0 hz1 .i64 .i64 _ _ n rfl rfl rfl rfl (by rw [hz2]; omega) (by unfold maxLen; omega) (Nat.le_refl _) ?_; intro w0 hown0 hgrow0)
  have hl0 : ∃ l0 : List UInt8, l0.length = n ∧ Own8 w0 w.heap.size (.slice (some ⟨w.heap.size, 0, none⟩) n n) l0 := by
    refine ⟨List.replicate n 0, by simp, ?_⟩
    have e : (madeCells (Value.int .u8 0).cells (n * 1)).toList = by8 (List.replicate n 0) := by
      rw [Nat.mul_one]; exact (toList_madeCells_one (.int .u8 0) n).trans (by simp [by8])
    unfold Own8
    rw [List.length_replicate, ← e]; exact hown0
  obtain ⟨l0, hl0, hown1⟩ := hl0
  have hb0 : Below w.heap.size w w0 := (Below.refl _ w).grown hgrow0 (Nat.le_refl _) (fun k e => by cases e)
  have hs0 : w.heap.size ≤ w0.heap.size := hgrow0.size
  clear hown0 hgrow0
  go_loopw [0, 6] (fun a i wr => ∃ (k : Nat) (l' : List UInt8), k ≤ n ∧ i = .int .i64 ((k : Int) - 1) ∧ a = .int .i64 (((v.toNat / 256 ^ (n - k) : Nat) : Int)) ∧ l'.length = n ∧ Own8 wr w.heap.size (.slice (some ⟨w.heap.size, 0, none⟩) n n) l' ∧ l'.drop k = (beB v.toNat n).drop k ∧ Below w.heap.size w wr) (fun _ i _ => (intOf i + 1).toNat)
  case atStart => exact ⟨n, l0, Nat.le_refl _, rfl, by simp; omega, hl0, hown1, by rw [List.drop_of_length_le (by omega), List.drop_of_length_le (by rw [beB_length]; exact Nat.le_refl _)], hb0⟩
  case round =>
    obtain ⟨k, l', hk, rfl, rfl, hl', hown', heq, hb⟩ := hrel
    by_cases hlt : 0 < k
    · obtain ⟨j, rfl⟩ : ∃ j, k = j + 1 := ⟨k - 1, by omega⟩
      obtain ⟨hcell, hfr⟩ := hown'.cells hl' (j := j) (by omega)
      have hz : v.toNat / 256 ^ (n - (j + 1)) ≤ 9223372036854775807 := Nat.le_trans (Nat.div_le_self _ _) (by omega)
      generalize hz' : v.toNat / 256 ^ (n - (j + 1)) = z at *
      have HZ := Lib.hid hz'
      have HL := Lib.hid hl'
      have HQ := Lib.hid heq
      clear hz' hl' heq
      go_wp2
      have hst := hown'.stored HL.out j _ (low_range z).1 (low_range z).2
      have hb2 : Below w.heap.size w (wr.setCell ⟨w.heap.size, j, none⟩ (.int .u8 (bits BinOp.and IntKind.i64 (z : Int) 255 % 256))) := hb.setCell (p := ⟨w.heap.size, j, none⟩) (Nat.le_refl _) _
      have hlen : j < l'.length := by rw [HL.out]; omega
      go_roundw
      case rel =>
        refine ⟨j, _, by omega, rfl, by rw [← div_step _ _ _ _ hk HZ.out]; go_num, ?_, hst.1, ?_, hb2⟩
        · rw [List.length_set]; exact HL.out
        · refine drop_set l' _ j _ (by rw [beB_length]; exact HL.out) hlen HQ.out ?_
          rw [beB_get _ _ _ (by omega), ubyte_low, ← HZ.out, show n - 1 - j = n - (j + 1) from by omega]
      case measure => simp [intOf]
    · obtain rfl : k = 0 := by omega
      simp only [List.drop_zero] at heq
      subst heq
      go_wp2
      go_ret
      exact ⟨_, rfl, hown', hb⟩
end Go.Proofs.Ytfcdnjbahghllaa
