/-
  Without, the program's: the closures, ContainsFunc, IndexFunc.
-/
import Derived.Test.YtpgjlepjhbjhfaaDoorFieldsA
namespace Go.Proofs.YtpgjlepjhbjhfaaDoor
open Go.RowKit

theorem inner_any (nm a b : ByteArray) (bf : Nat) (w : World) (ha : a.size ≤ 140737488351232) (hn : nm.size ≤ 140737488351232) (h0 : w.cell? ⟨bf, 0, none⟩ = some (.string a)) (h1 : w.cell? ⟨bf, 1, none⟩ = some (.string b)) :
    Calls Tryd.prog 47 #[.string nm, .pointer (some ⟨bf, 0, none⟩)] w fun e w' => e = .returned (.bool (decide (fold a.data.toList = fold nm.data.toList))) ∧ Below w.heap.size w w' := by
  go_enter Tryd.func47, Tryd.ntmps47
  go_wp2_with fail
  refine (is_any a b nm _ ha hn).mono ?_
  rintro e w1 ⟨rfl, hb⟩
  go_wp2_with fail
  go_ret
  exact ⟨rfl, hb⟩

/-- is a name among them? -/
def amongT (a : List UInt8) (N : List (List UInt8)) : Bool := N.any fun n => decide (fold a = fold n)
def amongI (a : List UInt8) (N : List (List UInt8)) : Int := if N.findIdx (fun n => decide (fold a = fold n)) < N.length then (N.findIdx (fun n => decide (fold a = fold n)) : Int) else -1

theorem amongI_at (a : List UInt8) (N : List (List UInt8)) (k : Nat) (h : k < N.length) (h1 : decide (fold a = fold N[k]) = true) (h0 : ∀ j, (hj : j < N.length) → j < k → decide (fold a = fold N[j]) = false) : amongI a N = k := by
  have e : N.findIdx (fun n => decide (fold a = fold n)) = k := by
    rw [List.findIdx_eq h]
    exact ⟨h1, fun j hj => h0 j (by omega) hj⟩
  unfold amongI
  rw [e, if_pos h]
theorem amongI_none (a : List UInt8) (N : List (List UInt8)) (h0 : ∀ j, (hj : j < N.length) → decide (fold a = fold N[j]) = false) : amongI a N = -1 := by
  unfold amongI
  rw [if_neg]
  intro h
  have := List.findIdx_getElem (p := fun n => decide (fold a = fold n)) (xs := N) (w := h)
  rw [h0 _ h] at this
  cases this
theorem amongI_iff (a : List UInt8) (N : List (List UInt8)) : decide (0 ≤ amongI a N) = amongT a N := by
  unfold amongI amongT
  rw [Bool.eq_iff_iff, decide_eq_true_iff, List.any_eq_true, ← List.findIdx_lt_length]
  split
  · rename_i h; exact ⟨fun _ => h, fun _ => by omega⟩
  · rename_i h; exact ⟨fun h2 => by omega, fun h2 => absurd h2 h⟩

set_option maxHeartbeats 2000000 in
/-- IndexFunc over names, at the inner closure -/
theorem indexS_any (N : List (List UInt8)) (p : Option Addr) (n c : Nat) (hn : N.length = n) (hr : n ≤ 8800000000000) (a b : ByteArray) (bf : Nat) (w : World) (ha : a.size ≤ 140737488351232) (hN : ∀ x ∈ N, x.length ≤ 140737488351232)
    (h0 : w.cell? ⟨bf, 0, none⟩ = some (.string a)) (h1 : w.cell? ⟨bf, 1, none⟩ = some (.string b)) (h : InS w p N) :
    Calls Tryd.prog 72 #[.slice p n c, .func (.func 47) #[] #[.pointer (some ⟨bf, 0, none⟩)]] w fun e w' => e = .returned (.int .i64 (amongI a.data.toList N)) ∧ Below w.heap.size w w' := by
  subst hn
  have HN := Lib.hid hN
  clear hN
  go_enter Tryd.func72, Tryd.ntmps72
  go_wp2_with fail
  go_loopw [8] (fun i wr => ∃ k : Nat, k ≤ N.length ∧ i = .int .i64 k ∧ Below w.heap.size w wr ∧ ∀ j, (hj : j < N.length) → j < k → decide (fold a.data.toList = fold N[j]) = false) (fun i _ => N.length - (intOf i).toNat)
  case atStart => exact ⟨0, by omega, rfl, Below.refl _ _, fun j _ h => absurd h (Nat.not_lt_zero j)⟩
  case round =>
    obtain ⟨k, hk, rfl, hb, hno⟩ := hrel
    have hbs := hb.size
    have HO := Lib.hid hno
    clear hno
    by_cases hlt : k < N.length
    · obtain ⟨b', o, rfl, x, hck, hx⟩ := (h.below hb).at hlt
      have hxs : x.size ≤ 140737488351232 := by rw [← size_list, hx]; exact HN.out _ (List.getElem_mem hlt)
      have HX := Lib.hid hx
      have g0 := (hb.cell (World.block_lt_of_cell? w _ h0)).trans h0
      have g1 := (hb.cell (World.block_lt_of_cell? w _ h1)).trans h1
      clear hx
      go_wp2_with fail
      refine (inner_any x a b bf _ ha hxs g0 g1).mono ?_
      rintro e w1 ⟨rfl, hb1⟩
      rw [HX.out]
      cases hd : decide (fold a.data.toList = fold N[k])
      · have HD := Lib.hid hd
        clear hd
        go_wp2_with fail
        go_roundw
        case rel =>
          refine ⟨k + 1, by omega, by go_num, hb.trans (hb1.mono hbs), fun j hj hjk => ?_⟩
          by_cases h : j = k
          · subst h; exact HD.out
          · exact HO.out j hj (by omega)
        case measure => simp [intOf]; omega
      · have HR := Lib.hid (amongI_at a.data.toList N k hlt hd HO.out)
        clear hd
        go_wp2_with fail
        go_ret
        exact ⟨by rw [HR.out]; rfl, hb.trans (hb1.mono hbs)⟩
    · obtain rfl : k = N.length := by omega
      have HR := Lib.hid (amongI_none a.data.toList N (fun j hj => HO.out j hj hj))
      go_wp2_with fail
      go_ret
      exact ⟨by rw [HR.out]; rfl, hb⟩

set_option maxHeartbeats 2000000 in
theorem containsS_any (N : List (List UInt8)) (p : Option Addr) (n c : Nat) (hn : N.length = n) (hr : n ≤ 8800000000000) (a b : ByteArray) (bf : Nat) (w : World) (ha : a.size ≤ 140737488351232) (hN : ∀ x ∈ N, x.length ≤ 140737488351232)
    (h0 : w.cell? ⟨bf, 0, none⟩ = some (.string a)) (h1 : w.cell? ⟨bf, 1, none⟩ = some (.string b)) (h : InS w p N) :
    Calls Tryd.prog 46 #[.slice p n c, .func (.func 47) #[] #[.pointer (some ⟨bf, 0, none⟩)]] w fun e w' => e = .returned (.bool (amongT a.data.toList N)) ∧ Below w.heap.size w w' := by
  have hcall := indexS_any N p n c hn hr a b bf w ha hN h0 h1 h
  have HI := Lib.hid (amongI_iff a.data.toList N)
  clear hN h0 h1 h
  obtain ⟨z, hz⟩ : ∃ z, z = amongI a.data.toList N := ⟨_, rfl⟩
  rw [← hz] at hcall
  have HZ := Lib.hid hz
  clear hz
  go_enter Tryd.func46, Tryd.ntmps46
  go_wp2_with fail
  refine hcall.mono ?_
  rintro e w1 ⟨rfl, hb⟩
  go_wp2_with fail
  go_ret
  refine ⟨ret_bool ?_, hb⟩
  rw [← HI.out, ← HZ.out]

set_option maxHeartbeats 2000000 in
/-- the outer closure: is the field's name among the names? -/
theorem outer_any (N : List (List UInt8)) (p : Option Addr) (n c : Nat) (hn : N.length = n) (hr : n ≤ 8800000000000) (a b : ByteArray) (bn : Nat) (w : World) (ha : a.size ≤ 140737488351232) (hN : ∀ x ∈ N, x.length ≤ 140737488351232)
    (h0 : w.cell? ⟨bn, 0, none⟩ = some (.slice p n c)) (h : InS w p N) :
    Calls Tryd.prog 45 #[.agg #[.string a, .string b], .pointer (some ⟨bn, 0, none⟩)] w fun e w' => e = .returned (.bool (amongT a.data.toList N)) ∧ Below w.heap.size w w' := by
  have hb0 := (Below.refl w.heap.size w).alloc (Nat.le_refl _) (.cells #[.string a, .string b] 26)
  have hs0 := hb0.size
  have g := heap_alloc_new w (.cells #[.string a, .string b] 26)
  have hcall := containsS_any N p n c hn hr a b w.heap.size (w.alloc (.cells #[.string a, .string b] 26)) ha hN (by rw [cell_of_row _ _ _ _ _ _ g]; rfl) (by rw [cell_of_row _ _ _ _ _ _ g]; rfl) (h.alloc _)
  have h0' := cell_past h0 (.cells #[.string a, .string b] 26)
  clear g hN h h0
  go_enter Tryd.func45, Tryd.ntmps45
  go_wp2_with fail
  refine hcall.mono ?_
  rintro e w1 ⟨rfl, hb⟩
  go_wp2_with fail
  go_ret
  exact ⟨rfl, hb0.trans (hb.mono hs0)⟩
end Go.Proofs.YtpgjlepjhbjhfaaDoor
