/-
  Chapter 9, texts merged: Show9.
-/
import Derived.Test.YtnhfnfdmpcpcoaaDoorOwn
import Derived.Test.YtnhfnfdmpcpcoaaDoorM9a
import Derived.Test.YtnhfnfdmpcpcoaaDoorM9e

/-
  Show: a number in decimal digits (what chapter 9 needs of it).
-/
namespace Go.Proofs.YtnhfnfdmpcpcoaaDoor
open Go.RowKit

/-- a number's digits, the least first -/
def digs (v : Nat) : List UInt8 := if h : v = 0 then [] else ubyte (48 + (v % 10 : Nat)) :: digs (v / 10)
termination_by v
decreasing_by omega
theorem digs_zero : digs 0 = [] := by rw [digs]; rfl
theorem digs_next (v : Nat) (h : v ≠ 0) : digs v = ubyte (48 + (v % 10 : Nat)) :: digs (v / 10) := by rw [digs, dif_neg h]
def showT (v : Nat) : List UInt8 := if v = 0 then [48] else (digs v).reverse
theorem digs_len (n : Nat) : ∀ v, v < 10 ^ n → (digs v).length ≤ n := by
  induction n with
  | zero => intro v h; have : v = 0 := by simpa using h
            subst this; rw [digs_zero]; simp
  | succ n ih =>
    intro v h
    by_cases h0 : v = 0
    · subst h0; rw [digs_zero]; simp
    · rw [digs_next v h0, List.length_cons]
      have := ih (v / 10) (by rw [Nat.pow_succ] at h; omega)
      omega
theorem digs_ne (v : Nat) (h : v ≠ 0) : digs v ≠ [] := by rw [digs_next v h]; simp
theorem showT_len (v : Nat) (h : v ≤ 2147483648) : (showT v).length ≤ 10 := by
  unfold showT
  split
  · simp
  · rw [List.length_reverse]; exact digs_len 10 v (by omega)

set_option maxHeartbeats 4000000 in
set_option maxRecDepth 100000 in
theorem show_any (n : Nat) (w : World) (h1 : n ≤ 2147483648) :
    Calls Tryd.prog 18 #[.int .i64 (n : Int)] w fun e w' => e = .returned (.string ⟨(showT n).toArray⟩) ∧ Below w.heap.size w w' := by
  by_cases h0 : n = 0
  · subst h0
    go_enter Tryd.func18, Tryd.ntmps18
    go_wp2_with fail
    go_ret
    exact ⟨rfl, Below.refl _ _⟩
  · have hz : ((n : Int) == 0) = false := by simpa using h0
    have hn0 : ¬ (n : Int) < 0 := by omega
    have HR := Lib.hid (show showT n = (digs n).reverse by unfold showT; rw [if_neg h0])
    have hlen := digs_len 10 n (by omega)
    obtain ⟨D, hD⟩ : ∃ D, D = digs n := ⟨_, rfl⟩
    rw [← hD] at hlen
    have HD := Lib.hid hD
    have HDE := Lib.hid (show digs n = D from hD.symm)
    clear hD
    go_enter Tryd.func18, Tryd.ntmps18
    go_wp2_with fail
    go_loopw [0, 3, 5] (fun v ds d wr => ∃ (k : Nat) (M : List UInt8), v = .int .i64 (k : Int) ∧ k ≤ n ∧ M ++ digs k = D ∧ Own8 wr w.heap.size ds M ∧ Below w.heap.size w wr) (fun v _ _ _ => (intOf v).toNat)
    case atStart => exact ⟨n, [], rfl, Nat.le_refl _, by rw [HD.out]; rfl, Own8.made w, (Below.refl _ _).alloc (Nat.le_refl _) _⟩
    case round =>
      obtain ⟨k, M, rfl, hkn, hMD, hown, hb⟩ := hrel
      have hbs := hb.size
      have hml : M.length ≤ 10 := by have := congrArg List.length hMD; rw [List.length_append] at this; omega
      have HMD := Lib.hid hMD
      clear hMD
      by_cases hk0 : k = 0
      · have hkz : ((k : Int) != 0) = false := by subst hk0; rfl
        have hMD : M = D := by have := HMD.out; rw [hk0, digs_zero, List.append_nil] at this; exact this
        subst hk0
        subst hMD
        obtain ⟨p, c, rfl, _, _, hin⟩ := hown.in8n (n := M.length) rfl
        obtain ⟨w0, rfl⟩ : ∃ W, W = wr := ⟨_, rfl⟩
        clear hown
        have hlr : (M.reverse).length = M.length := List.length_reverse
        go_wp2_with fail
        go_loopw [6, 7] (fun o i wr => ∃ (j : Nat), j ≤ M.length ∧ i = .int .i64 ((M.length : Int) - 1 - (j : Int)) ∧ Own8 wr w0.heap.size o (M.reverse.take j) ∧ Below w0.heap.size w0 wr) (fun _ i _ => (intOf i + 1).toNat)
        case atStart => exact ⟨0, by omega, by go_num, Own8.made w0, (Below.refl _ _).alloc (Nat.le_refl _) _⟩
        case round =>
          obtain ⟨j, hj, rfl, hown, hb2⟩ := hrel
          have hbs2 := hb2.size
          by_cases hlt : j < M.length
          · have hge : (0 : Int) ≤ (M.length : Int) - 1 - (j : Int) := by omega
            obtain ⟨m, hm⟩ : ∃ m : Nat, m + 1 + j = M.length := ⟨M.length - 1 - j, by omega⟩
            have hmi : (M.length : Int) - 1 - (j : Int) = (m : Int) := by omega
            have hml2 : m < M.length := by omega
            obtain ⟨b, o, rfl, hcell⟩ := (hin.below hb2).at (k := m) hml2
            have hck := hcell m hml2
            have HTK := Lib.hid (show M.reverse.take (j + 1) = M.reverse.take j ++ [ubyte (bt M m)] by
              rw [List.take_succ_eq_append_getElem (by rw [hlr]; exact hlt), List.getElem_reverse]
              congr 2
              rw [bt_get M m hml2, ubyte_self]
              congr 1
              omega)
            have hb0 : 0 ≤ bt M m ∧ bt M m ≤ 255 := by
              rw [bt_get M m hml2]
              have := M[m].toNat_lt
              omega
            obtain ⟨hb0, hb1⟩ := hb0
            have hin1 := In8.one wr (bt M m) hb0 hb1
            have hown2 := hown.alloc (.cells #[.int .u8 (bt M m)] 5)
            have HH := Lib.hid hown2
            have hjl : (M.reverse.take j).length ≤ 10 := by rw [List.length_take]; omega
            rw [hmi]
            clear hcell hown
            go_wp2_with (at_builtin; refine wpList_append8 rfl _ _ rfl w0.heap.size _ _ rfl HH.out _ _ _ _ rfl rfl hin1 (by simp; omega) (by simp; omega) ?_; intro v2 w2 hown3 hgrow3 _)
            go_roundw
            case rel => exact ⟨_, _, _, _, _, _, _, _, _, _, _, _, _, ⟨j + 1, by omega, by rw [Value.int.injEq]; exact ⟨rfl, by omega⟩, by rw [HTK.out]; exact hown3, own_grown (hb2.alloc hbs2 _) (by simp; omega) hown2 hgrow3⟩, rfl⟩
            case measure => simp [intOf]
          · obtain rfl : j = M.length := by omega
            have hneg : ¬ (0 : Int) ≤ (M.length : Int) - 1 - (M.length : Int) := by omega
            have htk : M.reverse.take M.length = M.reverse := List.take_of_length_le (by rw [hlr]; exact Nat.le_refl _)
            rw [htk] at hown
            obtain ⟨p2, c2, rfl, _, _, hin2⟩ := hown.in8n hlr
            have hts := toStr_at hin2 hlr c2
            have HRR := Lib.hid (show M.reverse = showT n by rw [HR.out, HDE.out])
            clear htk hown hin2
            go_wp2_with fail
            go_ret
            exact ⟨by rw [← HRR.out]; rfl, hb.trans (hb2.mono hbs)⟩
      · have hkz : ((k : Int) != 0) = true := by simpa using hk0
        have HN := Lib.hid (show digs k = ubyte (48 + (k : Int) % 10) :: digs (k / 10) by rw [digs_next k hk0]; rfl)
        have e3 : ¬ (k : Int) % 10 < 0 := by omega
        have hin := In8.one wr (48 + (k : Int) % 10) (by omega) (by omega)
        have hown2 := hown.alloc (.cells #[.int .u8 (48 + (k : Int) % 10)] 5)
        have HH := Lib.hid hown2
        clear hown
        go_wp2_with (at_builtin; refine wpList_append8 rfl _ _ rfl w.heap.size _ _ rfl HH.out _ _ _ _ rfl rfl hin (by simp; omega) (by simp; omega) ?_; intro v2 w2 hown3 hgrow3 _)
        go_roundw
        case rel => exact ⟨k / 10, _, by go_num, by omega, by rw [List.append_assoc, ← HMD.out, HN.out]; rfl, hown3, own_grown (hb.alloc hbs _) (by simp; omega) hown2 hgrow3⟩
        case measure => simp [intOf]; omega
end Go.Proofs.YtnhfnfdmpcpcoaaDoor
