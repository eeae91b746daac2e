/-
  IndexFunc over fields at Without's closure; Clone.
-/
import Derived.Test.YtpgjlepjhbjhfaaDoorWithout
import Derived.Lib.BufferMore
namespace Go.Proofs.YtpgjlepjhbjhfaaDoor
open Go.RowKit

def outP (N : List (List UInt8)) (x : Pair) : Bool := amongT x.1 N
def outI (N : List (List UInt8)) (L : List Pair) : Int := if L.findIdx (outP N) < L.length then (L.findIdx (outP N) : Int) else -1
theorem outI_at (N : List (List UInt8)) (L : List Pair) (k : Nat) (h : k < L.length) (h1 : outP N L[k] = true) (h0 : ∀ j, (hj : j < L.length) → j < k → outP N L[j] = false) : outI N L = k := by
  have e : L.findIdx (outP N) = k := by
    rw [List.findIdx_eq h]
    exact ⟨h1, fun j hj => h0 j (by omega) hj⟩
  unfold outI
  rw [e, if_pos h]
theorem outI_none (N : List (List UInt8)) (L : List Pair) (h0 : ∀ j, (hj : j < L.length) → outP N L[j] = false) : outI N L = -1 := by
  unfold outI
  rw [if_neg]
  intro h
  have := List.findIdx_getElem (p := outP N) (xs := L) (w := h)
  rw [h0 _ h] at this
  cases this

set_option maxHeartbeats 2000000 in
theorem indexF_any (L : List Pair) (q : Option Addr) (m d : Nat) (hm : L.length = m) (hmr : m ≤ 4400000000000) (N : List (List UInt8)) (p : Option Addr) (n c : Nat) (hn : N.length = n) (hr : n ≤ 8800000000000) (bn : Nat) (w : World)
    (hL : ∀ x ∈ L, x.1.length ≤ 140737488351232) (hN : ∀ x ∈ N, x.length ≤ 140737488351232)
    (h0 : w.cell? ⟨bn, 0, none⟩ = some (.slice p n c)) (h : InS w p N) (h2 : In2 w q L) :
    Calls Tryd.prog 71 #[.slice q m d, .func (.func 45) #[] #[.pointer (some ⟨bn, 0, none⟩)]] w fun e w' => e = .returned (.int .i64 (outI N L)) ∧ Below w.heap.size w w' := by
  subst hm
  have HN := Lib.hid hN
  have HL := Lib.hid hL
  clear hN hL
  go_enter Tryd.func71, Tryd.ntmps71
  go_wp2_with fail
  go_loopw [8] (fun i wr => ∃ k : Nat, k ≤ L.length ∧ i = .int .i64 k ∧ Below w.heap.size w wr ∧ ∀ j, (hj : j < L.length) → j < k → outP N L[j] = false) (fun i _ => L.length - (intOf i).toNat)
  case atStart => exact ⟨0, by omega, rfl, Below.refl _ _, fun j _ h => absurd h (Nat.not_lt_zero j)⟩
  case round =>
    obtain ⟨k, hk, rfl, hb, hno⟩ := hrel
    have hbs := hb.size
    have HO := Lib.hid hno
    clear hno
    by_cases hlt : k < L.length
    · obtain ⟨b', o, rfl, x, y, hc1, hc2, hx, hy⟩ := (h2.below hb).at hlt
      have hxs : x.size ≤ 140737488351232 := by rw [← size_list, hx]; exact HL.out _ (List.getElem_mem hlt)
      have HX := Lib.hid hx
      have g0 := (hb.cell (World.block_lt_of_cell? w _ h0)).trans h0
      have hp := h.below hb
      clear hx hy
      go_wp2_with fail
      refine (outer_any N p n c hn hr x y bn _ hxs HN.out g0 hp).mono ?_
      rintro e w1 ⟨rfl, hb1⟩
      rw [HX.out]
      cases hd : amongT L[k].1 N
      · have HD := Lib.hid (show outP N L[k] = false from hd)
        clear hd
        go_wp2_with fail
        go_roundw
        case rel =>
          refine ⟨k + 1, by omega, by go_num, hb.trans (hb1.mono hbs), fun j hj hjk => ?_⟩
          by_cases h : j = k
          · subst h; exact HD.out
          · exact HO.out j hj (by omega)
        case measure => simp [intOf]; omega
      · have HR := Lib.hid (outI_at N L k hlt hd HO.out)
        clear hd
        go_wp2_with fail
        go_ret
        exact ⟨by rw [HR.out]; rfl, hb.trans (hb1.mono hbs)⟩
    · obtain rfl : k = L.length := by omega
      have HR := Lib.hid (outI_none N L (fun j hj => HO.out j hj hj))
      go_wp2_with fail
      go_ret
      exact ⟨by rw [HR.out]; rfl, hb⟩

set_option maxHeartbeats 4000000 in
set_option maxRecDepth 100000 in
theorem clone_any (L : List Pair) (p : Option Addr) (n c : Nat) (hn : L.length = n) (hr : n ≤ 4400000000000) (w : World) (h : In2 w p L) (hnn : p = none → n = 0 ∧ c = 0) :
    Calls Tryd.prog 44 #[.slice p n c] w fun e w' => ∃ v, e = .returned v ∧ OwnF w' w.heap.size v L ∧ Below w.heap.size w w' := by
  subst hn
  cases p with
  | none =>
    obtain ⟨hl, rfl⟩ := hnn rfl
    clear hnn
    obtain rfl : L = [] := List.length_eq_zero_iff.1 hl
    have hnil := fun W => Lib.run_eql_slice_nil_nil (P := Tryd.prog) W 0 0 Tryd.underlying22
    go_enter Tryd.func44, Tryd.ntmps44
    go_wp2_with fail
    go_ret
    exact ⟨_, rfl, Own2.nil _ _ _, Below.refl _ _⟩
  | some a =>
    clear hnn
    have hin := h.alloc (.cells #[] 26)
    have hown := Own2.made 26 w
    have hnil := fun W => Lib.run_eql_slice_some_nil (P := Tryd.prog) W a L.length c Tryd.underlying22
    go_enter Tryd.func44, Tryd.ntmps44
    go_wp2_with (at_builtin; refine wpList_append2 parF rfl _ _ rfl w.heap.size _ [] rfl hown _ _ _ L rfl rfl hin (by simp; omega) (by simp) ?_; intro v1 w1 hown1 hgrow1 _)
    go_ret
    exact ⟨v1, rfl, hown1, Own2.grown ((Below.refl _ w).alloc (Nat.le_refl _) _) (by simp) hown hgrow1⟩
end Go.Proofs.YtpgjlepjhbjhfaaDoor
