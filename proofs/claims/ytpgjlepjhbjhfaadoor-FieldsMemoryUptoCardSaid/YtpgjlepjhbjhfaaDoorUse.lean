/-
  The plain helpers of the statements: CopyBytes, Spare, SameBytes.
-/
import Derived.Test.YtpgjlepjhbjhfaaDoorOwn
import Derived.Deep.QuietTactic
import Derived.BigQuiet
namespace Go.Proofs.YtpgjlepjhbjhfaaDoor
open Go.RowKit

set_option maxHeartbeats 1000000 in
theorem copyBytes_any (l : List UInt8) (p : Option Addr) (n c : Nat) (hn : l.length = n) (hr : n ≤ 140737488355328) (w : World) (h : In8 w p l) :
    Calls Tryd.prog 24 #[.slice p n c] w fun e w' => ∃ v, e = .returned v ∧ Own8 w' w.heap.size v l ∧ Below w.heap.size w w' := by
  subst hn
  have hin := h.alloc (.cells #[] 5)
  have hown := Own8.made w
  go_enter Tryd.func24, Tryd.ntmps24
  go_wp2_with (at_builtin; refine wpList_append8 rfl _ _ rfl w.heap.size _ [] rfl hown _ _ _ l rfl rfl hin (by simp; omega) (by simp) ?_; intro v1 w1 hown1 hgrow1 _)
  go_ret
  exact ⟨v1, rfl, hown1, ((Below.refl _ w).alloc (Nat.le_refl _) _).grown hgrow1 (by simp) (fun k e => by cases e; exact Nat.le_refl _)⟩

/-- the marks behind a Spare -/
def marks (k : Nat) : List UInt8 := (List.range k).map fun j => UInt8.ofNat (201 + j)
theorem marks_length (k : Nat) : (marks k).length = k := by simp [marks]
theorem marks_succ (k : Nat) : marks (k + 1) = marks k ++ [UInt8.ofNat (201 + k)] := by simp [marks, List.range_succ]
theorem marks_snoc (l : List UInt8) (k : Nat) : (l ++ marks k) ++ [ubyte (201 + (k : Int))] = l ++ marks (k + 1) := by
  rw [marks_succ, List.append_assoc]; congr 3

set_option maxHeartbeats 1000000 in
theorem spare_any (l : List UInt8) (p : Option Addr) (n c : Nat) (hn : l.length = n) (hr : n ≤ 140737488351232) (w : World) (h : In8 w p l) :
    Calls Tryd.prog 20 #[.slice p n c] w fun e w' => ∃ v, e = .returned v ∧ Own8 w' w.heap.size v (l ++ marks 8) ∧ Below w.heap.size w w' := by
  subst hn
  go_enter Tryd.func20, Tryd.ntmps20
  go_wp2_with (go_at_call 24; refine (copyBytes_any l _ _ _ rfl (by omega) _ h).mono ?_; rintro e w1 ⟨v1, rfl, hown1, hb1⟩)
  go_loopw [3, 4] (fun v i wr => ∃ k : Nat, k ≤ 8 ∧ i = .int .i64 k ∧ Own8 wr w.heap.size v (l ++ marks k) ∧ Below w.heap.size w wr) (fun _ i _ => 8 - (intOf i).toNat)
  case atStart => exact ⟨0, Nat.zero_le _, rfl, by simpa [marks] using hown1, hb1⟩
  case round =>
    obtain ⟨k, hk, rfl, hown, hb⟩ := hrel
    by_cases hlt : k < 8
    · have hin := In8.one wr (201 + (k : Int)) (by omega) (by omega)
      have hown2 := hown.alloc (.cells #[.int .u8 (201 + (k : Int))] 5)
      have hbs := hb.size
      go_wp2_with (at_builtin; refine wpList_append8 rfl _ _ rfl w.heap.size _ (l ++ marks k) rfl hown2 _ _ _ [ubyte (201 + (k : Int))] rfl rfl hin (by simp [marks_length]; omega) (by simp; omega) ?_; intro v2 w2 hown3 hgrow3 _)
      go_roundw
      case rel => exact ⟨k + 1, by omega, by go_num, by rw [← marks_snoc]; exact hown3, own_grown (hb.alloc hbs _) (by simp; omega) hown2 hgrow3⟩
      case measure => simp [intOf]; omega
    · obtain rfl : k = 8 := by omega
      go_wp2
      go_ret
      exact ⟨_, rfl, hown, hb⟩

theorem take_eq_succ (l m : List UInt8) (k : Nat) (h1 : k < l.length) (h2 : k < m.length) (h : l.take k = m.take k) (e : bt l k = bt m k) : l.take (k + 1) = m.take (k + 1) := by
  rw [take_snoc l k h1, take_snoc m k h2, h]
  rw [bt_get l k h1, bt_get m k h2] at e
  rw [show l[k] = m[k] from UInt8.toNat_inj.1 (by omega)]
theorem bt_ne (l m : List UInt8) (k : Nat) (h : ¬ bt l k = bt m k) : l ≠ m := by rintro rfl; exact h rfl

set_option maxHeartbeats 1000000 in
theorem sameBytes_any (l m : List UInt8) (p q : Option Addr) (n c n2 d : Nat) (hn : l.length = n) (hn2 : m.length = n2) (hm : n ≤ maxLen) (hm2 : n2 ≤ maxLen) (w : World) (h : In8 w p l) (h2 : In8 w q m) :
    Calls Tryd.prog 23 #[.slice p n c, .slice q n2 d] w fun e w' => e = .returned (.bool (decide (l = m))) ∧ Below w.heap.size w w' := by
  subst hn
  subst hn2
  unfold maxLen at hm hm2
  by_cases hlen : l.length = m.length
  · have hne : ((l.length : Int) != (m.length : Int)) = false := by simp [hlen]
    go_enter Tryd.func23, Tryd.ntmps23
    go_wp2
    go_loopw [5] (fun i wr => ∃ k : Nat, k ≤ l.length ∧ i = .int .i64 k ∧ l.take k = m.take k ∧ Below w.heap.size w wr) (fun i _ => l.length - (intOf i).toNat)
    case atStart => exact ⟨0, Nat.zero_le _, rfl, rfl, Below.refl _ _⟩
    case round =>
      obtain ⟨k, hk, rfl, hpre, hb⟩ := hrel
      by_cases hlt : k < l.length
      · obtain ⟨b, o, rfl, hc⟩ := (h.below hb).at hlt
        obtain ⟨b2, o2, rfl, hc2⟩ := (h2.below hb).at (show k < m.length by omega)
        have hck := hc k hlt
        have hck2 := hc2 k (by omega)
        have hlt2 : k < m.length := by omega
        have HP := Lib.hid hpre
        have HL := Lib.hid hlen
        clear hc hc2 h h2 hpre hlen
        by_cases heq : bt l k = bt m k
        · have hbool : (bt l k != bt m k) = false := by simp [heq]
          have HE := Lib.hid heq
          clear heq
          go_wp2
          go_quiet (fail)
          go_wp2
          go_roundw
          case rel => exact ⟨k + 1, by omega, by go_num, take_eq_succ l m k hlt hlt2 HP.out HE.out, bdrewN hb _⟩
          case measure => simp [intOf]; omega
        · have hbool : (bt l k != bt m k) = true := by simp [heq]
          have hno := bt_ne l m k heq
          go_wp2
          go_quiet (fail)
          go_wp2
          go_ret
          exact ⟨ret_bool (by simp [hno]), bdrewN hb _⟩
      · obtain rfl : k = l.length := by omega
        go_wp2
        go_ret
        refine ⟨ret_bool ?_, hb⟩
        rw [List.take_length, hlen, List.take_length] at hpre
        simp [hpre]
  · have hne : ((l.length : Int) != (m.length : Int)) = true := by simp; omega
    have hno : l ≠ m := by rintro rfl; exact hlen rfl
    clear hlen
    go_enter Tryd.func23, Tryd.ntmps23
    go_wp2
    go_ret
    exact ⟨ret_bool (by simp [hno]), Below.refl _ _⟩
end Go.Proofs.YtpgjlepjhbjhfaaDoor
