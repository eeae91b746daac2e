/-
  TokNames: the errors and the limits have their numbers.
-/
import Derived.Test.YtpchpfhnimgdaaaOwn
namespace Go.Proofs.Ytpchpfhnimgdaaa
open Go.RowKit

theorem cutPrefix_x (w : World) : Calls Try.prog 9 #[.string ⟨#[120]⟩, .string ⟨#[34]⟩] w fun e w' => e = .returned (.tuple #[.string ⟨#[120]⟩, .bool false]) ∧ w = w' := by
  go_enter Try.func9, Try.ntmps9
  have hx : (((⟨#[120]⟩ : ByteArray).extract 0 1).toList == [34]) = false := by decide +kernel
  go_wp2
  go_ret2
  exact ⟨rfl, rfl⟩

theorem unquote_x (w : World) : Calls Try.prog 5 #[.string ⟨#[120]⟩] w fun e w' => e = .returned (.tuple #[.string .empty, .int .i64 11]) ∧ Below w.heap.size w w' := by
  go_enter Try.func5, Try.ntmps5
  go_wp2_with fail
  refine (cutPrefix_x _).mono ?_
  rintro e w1 ⟨rfl, rfl⟩
  go_wp2_with fail
  go_loopw [6] (fun i wr => i = .int .i64 0 ∧ Below w.heap.size w wr) (fun _ _ => 0)
  case atStart => exact ⟨rfl, (Below.refl _ _).alloc (Nat.le_refl _) _⟩
  case round =>
    obtain ⟨rfl, hb⟩ := hrel
    go_wp2
    go_ret2
    exact ⟨rfl, hb⟩

/-- a row of whole numbers that was just made -/
def Nums (w : World) (b : Nat) (l : List Int) : Prop := ∀ i, (h : i < l.length) → w.cell? ⟨b, i, none⟩ = some (.int .i64 l[i])
theorem nums_new (w : World) (l : List Int) (c : Array Value) (t : Nat) (h : c.toList = l.map (Value.int .i64)) : Nums (w.alloc (.cells c t)) w.heap.size l := by
  intro i hi
  have e : (w.alloc (.cells c t)).cell? ⟨w.heap.size, i, none⟩ = c[i]? := by simp only [World.cell?, heap_alloc_new]; rfl
  rw [e, ← Array.getElem?_toList, h]
  simp [hi]
theorem Nums.alloc {w : World} {b : Nat} {l : List Int} (h : Nums w b l) (o : Obj) : Nums (w.alloc o) b l := fun i hi => cell_past (h i hi) o
theorem Nums.drewN {w : World} {b : Nat} {l : List Int} (h : Nums w b l) (n : Nat) : Nums (w.drewN n) b l := h

def errL : List Int := [10, 11, 12, 20, 30, 31, 32, 33, 40, 41, 42, 50, 51, 52, 53, 60, 61, 62, 70, 71, 80, 90, 91, 92, 93, 94, 95, 100, 101, 110, 120, 130, 131, 190, 191, 210, 250, 251]
def capL : List Int := [8192, 100, 65536, 255, 4096, 64, 8192, 1073741824, 4096, 200, 253402300799, 2147483648, 64, 1000, 65536, 1048576, 262144, 1, 9, 1, 8, 1, 2, 0, 1, 2, 3]

set_option maxHeartbeats 4000000 in
set_option maxRecDepth 10000 in
theorem tokNames_walk (w : World) : Calls Try.prog 3 #[] w fun e w' => e = .returned (.bool true) ∧ Below w.heap.size w w' := by
  go_enter Try.func3, Try.ntmps3
  go_wp2_with fail
  refine (unquote_x _).mono ?_
  rintro e w1 ⟨rfl, hb1⟩
  go_wp2_with fail
  obtain ⟨o1, ho1⟩ : ∃ o1 : Array Value, o1 = (errL.map (Value.int .i64)).toArray := ⟨_, rfl⟩
  have e1 : o1.toList = errL.map (Value.int .i64) := by rw [ho1]
  rw [show (#[Value.int .i64 10, .int .i64 11, .int .i64 12, .int .i64 20, .int .i64 30, .int .i64 31, .int .i64 32, .int .i64 33, .int .i64 40, .int .i64 41, .int .i64 42, .int .i64 50, .int .i64 51, .int .i64 52, .int .i64 53, .int .i64 60, .int .i64 61, .int .i64 62, .int .i64 70, .int .i64 71, .int .i64 80, .int .i64 90, .int .i64 91, .int .i64 92, .int .i64 93, .int .i64 94, .int .i64 95, .int .i64 100, .int .i64 101, .int .i64 110, .int .i64 120, .int .i64 130, .int .i64 131, .int .i64 190, .int .i64 191, .int .i64 210, .int .i64 250, .int .i64 251] : Array Value) = o1 from ho1.symm]
  clear ho1
  have hn1 := (nums_new w1 errL o1 22 e1).alloc (.cells o1 3)
  have hn2 := nums_new (w1.alloc (.cells o1 22)) errL o1 3 e1
  rw [World.size_alloc] at hn2
  have hb2 := ((hb1.alloc hb1.size (.cells o1 22)).alloc (by rw [World.size_alloc]; have := hb1.size; omega) (.cells o1 3))
  have hz1 := hb1.size
  generalize (w1.alloc (.cells o1 22)).alloc (.cells o1 3) = w3 at hn1 hn2 hb2 ⊢
  go_loopw [5] (fun i wr => ∃ k : Nat, k ≤ 38 ∧ i = .int .i64 k ∧ Below w.heap.size w wr ∧ Nums wr w1.heap.size errL ∧ Nums wr (w1.heap.size + 1) errL) (fun i _ => 38 - (intOf i).toNat)
  case atStart => exact ⟨0, Nat.zero_le _, rfl, hb2, hn1, hn2⟩
  case round =>
    obtain ⟨k, hk, rfl, hb, h1, h2⟩ := hrel
    by_cases hlt : k < 38
    · have c1 := h1 k hlt
      have c2 := h2 k hlt
      generalize errL[k] = z at c1 c2
      have hz : (z != z) = false := by simp
      go_wp2
      go_quiet (fail)
      go_wp2
      exact ⟨⟨k + 1, by omega, by go_num, bdrewN hb _, h1, h2⟩, by simp [intOf]; omega⟩
    · obtain rfl : k = 38 := by omega
      go_wp2_with fail
      obtain ⟨o2, ho2⟩ : ∃ o2 : Array Value, o2 = (capL.map (Value.int .i64)).toArray := ⟨_, rfl⟩
      have e2 : o2.toList = capL.map (Value.int .i64) := by rw [ho2]
      rw [show (#[Value.int .i64 8192, .int .i64 100, .int .i64 65536, .int .i64 255, .int .i64 4096, .int .i64 64, .int .i64 8192, .int .i64 1073741824, .int .i64 4096, .int .i64 200, .int .i64 253402300799, .int .i64 2147483648, .int .i64 64, .int .i64 1000, .int .i64 65536, .int .i64 1048576, .int .i64 262144, .int .i64 1, .int .i64 9, .int .i64 1, .int .i64 8, .int .i64 1, .int .i64 2, .int .i64 0, .int .i64 1, .int .i64 2, .int .i64 3] : Array Value) = o2 from ho2.symm]
      clear ho2 h1 h2 hn1 hn2 hb2
      have hn1 := (nums_new wr capL o2 3 e2).alloc (.cells o2 3)
      have hn2 := nums_new (wr.alloc (.cells o2 3)) capL o2 3 e2
      rw [World.size_alloc] at hn2
      have hz2 := hb.size
      have hb2 := ((hb.alloc hz2 (.cells o2 3)).alloc (by rw [World.size_alloc]; omega) (.cells o2 3))
      generalize (wr.alloc (.cells o2 3)).alloc (.cells o2 3) = w4 at hn1 hn2 hb2 ⊢
      obtain ⟨wo, rfl⟩ : ∃ wo : World, wo = wr := ⟨_, rfl⟩
      go_loopw [8] (fun i wr => ∃ k : Nat, k ≤ 27 ∧ i = .int .i64 k ∧ Below w.heap.size w wr ∧ Nums wr wo.heap.size capL ∧ Nums wr (wo.heap.size + 1) capL) (fun i _ => 27 - (intOf i).toNat)
      case atStart => exact ⟨0, Nat.zero_le _, rfl, hb2, hn1, hn2⟩
      case round =>
        obtain ⟨k, hk, rfl, hb, h1, h2⟩ := hrel
        by_cases hlt : k < 27
        · have c1 := h1 k hlt
          have c2 := h2 k hlt
          generalize capL[k] = z at c1 c2
          have hz : (z != z) = false := by simp
          go_wp2
          go_quiet (fail)
          go_wp2
          go_roundw
          case rel => exact ⟨_, _, _, _, _, _, _, _, _, _, _, _, _, _, _, _, _, _, _, _, _, _, _, ⟨k + 1, by omega, by go_num, bdrewN hb _, h1, h2⟩, rfl⟩
          case measure => simp [intOf]; omega
        · obtain rfl : k = 27 := by omega
          go_wp2
          go_ret
          exact ⟨rfl, hb⟩
end Go.Proofs.Ytpchpfhnimgdaaa
