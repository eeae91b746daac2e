/-
  The plain helpers of the statements: CopyBytes, SameBytes (of a program without Spare).
-/
import Derived.Test.YtnibecboimgljaaDoorOwn
import Derived.Deep.QuietTactic
import Derived.BigQuiet
namespace Go.Proofs.YtnibecboimgljaaDoor
open Go.RowKit

set_option maxHeartbeats 1000000 in
theorem copyBytes_any (l : List UInt8) (p : Option Addr) (n c : Nat) (hn : l.length = n) (hr : n ≤ 140737488355328) (w : World) (h : In8 w p l) :
    Calls Tryd.prog 39 #[.slice p n c] w fun e w' => ∃ v, e = .returned v ∧ Own8 w' w.heap.size v l ∧ Below w.heap.size w w' := by
  subst hn
  have hin := h.alloc (.cells #[] 5)
  have hown := Own8.made w
  go_enter Tryd.func39, Tryd.ntmps39
  go_wp2_with (at_builtin; refine wpList_append8 rfl _ _ rfl w.heap.size _ [] rfl hown _ _ _ l rfl rfl hin (by simp; omega) (by simp) ?_; intro v1 w1 hown1 hgrow1 _)
  go_ret
  exact ⟨v1, rfl, hown1, ((Below.refl _ w).alloc (Nat.le_refl _) _).grown hgrow1 (by simp) (fun k e => by cases e; exact Nat.le_refl _)⟩

theorem take_eq_succ (l m : List UInt8) (k : Nat) (h1 : k < l.length) (h2 : k < m.length) (h : l.take k = m.take k) (e : bt l k = bt m k) : l.take (k + 1) = m.take (k + 1) := by
  rw [take_snoc l k h1, take_snoc m k h2, h]
  rw [bt_get l k h1, bt_get m k h2] at e
  rw [show l[k] = m[k] from UInt8.toNat_inj.1 (by omega)]
theorem bt_ne (l m : List UInt8) (k : Nat) (h : ¬ bt l k = bt m k) : l ≠ m := by rintro rfl; exact h rfl

set_option maxHeartbeats 1000000 in
theorem sameBytes_any (l m : List UInt8) (p q : Option Addr) (n c n2 d : Nat) (hn : l.length = n) (hn2 : m.length = n2) (hm : n ≤ maxLen) (hm2 : n2 ≤ maxLen) (w : World) (h : In8 w p l) (h2 : In8 w q m) :
    Calls Tryd.prog 41 #[.slice p n c, .slice q n2 d] w fun e w' => e = .returned (.bool (decide (l = m))) ∧ Below w.heap.size w w' := by
  subst hn
  subst hn2
  unfold maxLen at hm hm2
  by_cases hlen : l.length = m.length
  · have hne : ((l.length : Int) != (m.length : Int)) = false := by simp [hlen]
    go_enter Tryd.func41, Tryd.ntmps41
    go_wp2
    go_loopw [5] (fun i wr => ∃ k : Nat, k ≤ l.length ∧ i = .int .i64 k ∧ l.take k = m.take k ∧ Below w.heap.size w wr) (fun i _ => l.length - (intOf i).toNat)
    case atStart => exact ⟨0, Nat.zero_le _, rfl, rfl, Below.refl _ _⟩
    case round =>
      obtain ⟨k, hk, rfl, hpre, hb⟩ := hrel
      by_cases hlt : k < l.length
      · obtain ⟨b, o, rfl, hc⟩ := (h.below hb).at hlt
        obtain ⟨b2, o2, rfl, hc2⟩ := (h2.below hb).at (show k < m.length by omega)
        have hck := hc k hlt
        have hck2 := hc2 k (by omega)
        have hlt2 : k < m.length := by omega
        have HP := Lib.hid hpre
        have HL := Lib.hid hlen
        clear hc hc2 h h2 hpre hlen
        by_cases heq : bt l k = bt m k
        · have hbool : (bt l k != bt m k) = false := by simp [heq]
          have HE := Lib.hid heq
          clear heq
          go_wp2
          go_quiet (fail)
          go_wp2
          go_roundw
          case rel => exact ⟨k + 1, by omega, by go_num, take_eq_succ l m k hlt hlt2 HP.out HE.out, bdrewN hb _⟩
          case measure => simp [intOf]; omega
        · have hbool : (bt l k != bt m k) = true := by simp [heq]
          have hno := bt_ne l m k heq
          go_wp2
          go_quiet (fail)
          go_wp2
          go_ret
          exact ⟨ret_bool (by simp [hno]), bdrewN hb _⟩
      · obtain rfl : k = l.length := by omega
        go_wp2
        go_ret
        refine ⟨ret_bool ?_, hb⟩
        rw [List.take_length, hlen, List.take_length] at hpre
        simp [hpre]
  · have hne : ((l.length : Int) != (m.length : Int)) = true := by simp; omega
    have hno : l ≠ m := by rintro rfl; exact hlen rfl
    clear hlen
    go_enter Tryd.func41, Tryd.ntmps41
    go_wp2
    go_ret
    exact ⟨ret_bool (by simp [hno]), Below.refl _ _⟩
end Go.Proofs.YtnibecboimgljaaDoor
