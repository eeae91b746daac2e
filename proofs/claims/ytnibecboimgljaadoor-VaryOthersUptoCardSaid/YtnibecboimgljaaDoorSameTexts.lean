/-
  SameTexts: are two lists of texts alike?
-/
import Derived.Test.YtnibecboimgljaaDoorTexts
namespace Go.Proofs.YtnibecboimgljaaDoor
open Go.RowKit

theorem take_eq_succL {α : Type} (l m : List α) (k : Nat) (h1 : k < l.length) (h2 : k < m.length) (h : l.take k = m.take k) (e : l[k] = m[k]) : l.take (k + 1) = m.take (k + 1) := by
  rw [List.take_succ_eq_append_getElem h1, List.take_succ_eq_append_getElem h2, h, e]
theorem ne_of_get {α : Type} (l m : List α) (k : Nat) (h1 : k < l.length) (h2 : k < m.length) (e : ¬ l[k] = m[k]) : l ≠ m := by rintro rfl; exact e rfl

set_option maxHeartbeats 1000000 in
theorem sameTexts_any (L M : List (List UInt8)) (p q : Option Addr) (n c n2 d : Nat) (hn : L.length = n) (hn2 : M.length = n2) (hm : n ≤ maxLen) (hm2 : n2 ≤ maxLen) (w : World) (h : InS w p L) (h2 : InS w q M) :
    Calls Tryd.prog 14 #[.slice p n c, .slice q n2 d] w fun e w' => e = .returned (.bool (decide (L = M))) ∧ Below w.heap.size w w' := by
  subst hn
  subst hn2
  unfold maxLen at hm hm2
  by_cases hlen : L.length = M.length
  · have hne : ((L.length : Int) != (M.length : Int)) = false := by simp [hlen]
    go_enter Tryd.func14, Tryd.ntmps14
    go_wp2
    go_loopw [5] (fun i wr => ∃ k : Nat, k ≤ L.length ∧ i = .int .i64 k ∧ L.take k = M.take k ∧ Below w.heap.size w wr) (fun i _ => L.length - (intOf i).toNat)
    case atStart => exact ⟨0, Nat.zero_le _, rfl, rfl, Below.refl _ _⟩
    case round =>
      obtain ⟨k, hk, rfl, hpre, hb⟩ := hrel
      by_cases hlt : k < L.length
      · have hlt2 : k < M.length := by omega
        obtain ⟨b, o, rfl, x, hck, hx⟩ := (h.below hb).at hlt
        obtain ⟨b2, o2, rfl, y, hck2, hy⟩ := (h2.below hb).at hlt2
        have HP := Lib.hid hpre
        have HL := Lib.hid hlen
        have HX := Lib.hid hx
        have HY := Lib.hid hy
        clear h h2 hpre hlen hx hy
        by_cases heq : x.data.toList = y.data.toList
        · have hbool : (x.toList == y.toList) = true := by rw [strs_eq]; simp [heq]
          have hbool2 : (x.toList != y.toList) = false := by simp [bne, hbool]
          have HE := Lib.hid heq
          clear heq
          go_wp2
          go_quiet (fail)
          go_wp2
          go_roundw
          case rel => exact ⟨k + 1, by omega, by go_num, take_eq_succL L M k hlt hlt2 HP.out (by rw [← HX.out, ← HY.out]; exact HE.out), bdrewN hb _⟩
          case measure => simp [intOf]; omega
        · have hbool : (x.toList == y.toList) = false := by rw [strs_eq]; simp [heq]
          have hbool2 : (x.toList != y.toList) = true := by simp [bne, hbool]
          have hno := ne_of_get L M k hlt hlt2 (by rw [← HX.out, ← HY.out]; exact heq)
          have HE := Lib.hid heq
          clear heq
          go_wp2
          go_quiet (fail)
          go_wp2
          go_ret
          exact ⟨ret_bool (by simp [hno]), bdrewN hb _⟩
      · obtain rfl : k = L.length := by omega
        go_wp2
        go_ret
        refine ⟨ret_bool ?_, hb⟩
        rw [List.take_length, hlen, List.take_length] at hpre
        simp [hpre]
  · have hne : ((L.length : Int) != (M.length : Int)) = true := by simp; omega
    have hno : L ≠ M := by rintro rfl; exact hlen rfl
    clear hlen
    go_enter Tryd.func14, Tryd.ntmps14
    go_wp2
    go_ret
    exact ⟨ret_bool (by simp [hno]), Below.refl _ _⟩

/-- the same texts -/
theorem sameTexts_same (M : List (List UInt8)) (p q : Option Addr) (n c n2 d : Nat) (hn : M.length = n) (hn2 : M.length = n2) (hm : n ≤ maxLen) (w : World) (h : InS w p M) (h2 : InS w q M) :
    Calls Tryd.prog 14 #[.slice p n c, .slice q n2 d] w fun e w' => e = .returned (.bool true) ∧ Below w.heap.size w w' := by
  have h3 := sameTexts_any M M p q n c n2 d hn hn2 hm (by omega) w h h2
  rw [show decide (M = M) = true from decide_eq_true rfl] at h3
  exact h3
end Go.Proofs.YtnibecboimgljaaDoor
