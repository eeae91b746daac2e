/-
  RecMemory: what the encoder answers is new memory.
-/
import Derived.Test.YtfcdnjbahghllaaLawEncs
import Derived.Test.YtfcdnjbahghllaaApart
import Derived.Test.YtfcdnjbahghllaaRecLaw
namespace Go.Proofs.Ytfcdnjbahghllaa
open Go.RowKit

theorem encOf_small (seq op no : Int) (l : List UInt8) : (encOf seq op no l).length ≤ 100000 := by
  unfold encOf
  by_cases h : encErr seq op no l.length = 0
  · rw [if_pos h, encAll_length]
    unfold encErr at h
    split at h
    · omega
    · split at h <;> omega
  · rw [if_neg h]; simp
/-- Apart of two rows -/
theorem apart_two (B base : Nat) (v1 v2 : Value) (l1 l2 : List UInt8) (w : World) (h1 : Own8 w base v1 l1) (h2 : Own8 w base v2 l2)
    (hc1 : w.cell? ⟨B, 0, none⟩ = some v1) (hc2 : w.cell? ⟨B, 1, none⟩ = some v2)
    (hd : v1.ownBlock = none ∨ v1.ownBlock ≠ v2.ownBlock) (hb1 : v1.ownBlock ≠ some B) (hb2 : v2.ownBlock ≠ some B) (hl1 : l1.length ≤ 100000000000000) (hl2 : l2.length ≤ 100000000000000) (hbase : base ≤ w.heap.size) :
    Calls Try.prog 17 #[.slice (some ⟨B, 0, none⟩) 2 2] w fun e w' => e = .returned (.bool true) ∧ Only (fun k => base ≤ k) w w' := by
  obtain ⟨p1, c1, rfl⟩ := h1.form rfl
  obtain ⟨p2, c2, rfl⟩ := h2.form rfl
  have hown : ∀ i, i < 2 → Own8 w base (.slice (if i = 0 then p1 else p2) (if i = 0 then l1 else l2).length (if i = 0 then c1 else c2)) (if i = 0 then l1 else l2) := by
    intro i hi
    match i, hi with
    | 0, _ => exact h1
    | 1, _ => exact h2
  refine (apart_any 2 B base (by omega) 2 (by omega) (fun i => if i = 0 then p1 else p2) (fun i => if i = 0 then c1 else c2) (fun i => if i = 0 then l1 else l2) w ?_ hown ?_ ?_ ?_ hbase).mono ?_
  · intro i hi
    match i, hi with
    | 0, _ => exact hc1
    | 1, _ => exact hc2
  · intro i j hi hj hne
    rcases (by omega : i = 0 ∧ j = 1 ∨ i = 1 ∧ j = 0) with ⟨rfl, rfl⟩ | ⟨rfl, rfl⟩
    · exact hd
    · rcases hd with h | h
      · show (Value.slice p2 l2.length c2).ownBlock = none ∨ (Value.slice p2 l2.length c2).ownBlock ≠ (Value.slice p1 l1.length c1).ownBlock
        rw [h]
        cases (Value.slice p2 l2.length c2).ownBlock with
        | none => exact .inl rfl
        | some g => exact .inr (by simp)
      · exact .inr (fun e => h e.symm)
  · intro i hi
    match i, hi with
    | 0, _ => exact hb1
    | 1, _ => exact hb2
  · intro i hi
    match i, hi with
    | 0, _ => exact hl1
    | 1, _ => exact hl2
  · rintro e w' ⟨rfl, hon⟩
    refine ⟨rfl, ⟨hon.os, hon.tape, hon.output, hon.size, fun k hk hn => hon.block k hk ?_⟩⟩
    rintro ⟨i, hi, e⟩
    exact hn (own_lt (hown i hi) e).1

set_option maxHeartbeats 1000000 in
theorem recMemory_walk (seq op no : Int) (id : ByteArray) (w : World) (_ : -9223372036854775808 ≤ seq ∧ seq ≤ 9223372036854775807) (_ : -9223372036854775808 ≤ op ∧ op ≤ 9223372036854775807) (_ : -9223372036854775808 ≤ no ∧ no ≤ 9223372036854775807) (_ : id.size ≤ maxLen) :
    Calls Try.prog 5 #[.agg #[.int .i64 seq, .int .i64 op, .int .i64 no, .string id]] w fun e w' => e = .returned (.bool true) ∧ Below w.heap.size w w' := by
  have hc : Box4 (w.alloc (.cells #[.int .i64 seq, .int .i64 op, .int .i64 no, .string id] 29)) w.heap.size _ _ _ _ := cells4_at w (.int .i64 seq) (.int .i64 op) (.int .i64 no) (.string id) 29
  have hbw : Below w.heap.size w (w.alloc (.cells #[.int .i64 seq, .int .i64 op, .int .i64 no, .string id] 29)) := (Below.refl _ _).alloc (Nat.le_refl _) _
  have hlen : (encOf seq op no id.data.toList).length ≤ 100000 := encOf_small _ _ _ _
  obtain ⟨L, hL⟩ : ∃ L, L = encOf seq op no id.data.toList := ⟨_, rfl⟩
  rw [← hL] at hlen
  go_enter Try.func5, Try.ntmps5
  go_wp2_with fail
  refine (alive_any _).mono ?_
  rintro e w1 ⟨rfl, hb1⟩
  have hz1 : w.heap.size + 1 ≤ w1.heap.size := by have := hb1.size; simpa using this
  have hB1 := hc.below hb1 (by simp)
  obtain ⟨c10, c11, c12, c13⟩ := _root_.id hB1
  go_wp2_with fail
  refine (recEnc_any seq op no id w1).mono ?_
  rintro e w2 ⟨v2, rfl, hown2, hb2⟩
  have hz2 : w1.heap.size ≤ w2.heap.size := hb2.size
  have hB2 := hB1.below hb2 (by omega)
  obtain ⟨c20, c21, c22, c23⟩ := _root_.id hB2
  clear c10 c11 c12 c13
  go_wp2_with fail
  refine (recEnc_any seq op no id w2).mono ?_
  rintro e w3 ⟨v3, rfl, hown3, hb3⟩
  have hz3 : w2.heap.size ≤ w3.heap.size := hb3.size
  have hB3 := hB2.below hb3 (by omega)
  obtain ⟨c30, c31, c32, c33⟩ := _root_.id hB3
  clear c20 c21 c22 c23
  go_wp2_with fail
  refine (refEnc_any seq op no id w3).mono ?_
  rintro e w4 ⟨v4, rfl, hown4, hb4⟩
  have hz4 : w3.heap.size ≤ w4.heap.size := hb4.size
  rw [← hL] at hown2 hown3 hown4
  clear hL
  have hv23 : v2.ownBlock = none ∨ v2.ownBlock ≠ v3.ownBlock := by
    cases h2 : v2.ownBlock with
    | none => exact .inl rfl
    | some g =>
      refine .inr (fun e => ?_)
      have h3 := own_lt hown3 e.symm
      have h4 := own_lt hown2 h2
      omega
  replace hown2 := (hown2.below hb3).below hb4
  replace hown3 := hown3.below hb4
  clear c30 c31 c32 c33
  go_wp2_with fail
  refine (sameOwn hown2 hown4).mono ?_
  rintro e w5 ⟨rfl, hb5⟩
  rw [decide_eq_true (rfl : L = L)]
  have hz5 : w4.heap.size ≤ w5.heap.size := hb5.size
  replace hown2 := hown2.below hb5
  replace hown3 := hown3.below hb5
  replace hown4 := hown4.below hb5
  go_wp2_with fail
  refine (sameOwn hown3 hown4).mono ?_
  rintro e w6 ⟨rfl, hb6⟩
  rw [decide_eq_true (rfl : L = L)]
  have hz6 : w5.heap.size ≤ w6.heap.size := hb6.size
  replace hown2 := hown2.below hb6
  replace hown3 := hown3.below hb6
  have hlo2 := fun g h => (own_lt hown2 (g := g) h).2
  have hlo3 := fun g h => (own_lt hown3 (g := g) h).2
  obtain ⟨p2, c2, rfl⟩ := hown2.form rfl
  obtain ⟨p3, c3, rfl⟩ := hown3.form rfl
  go_wp2_with fail
  refine (apart_two w6.heap.size w1.heap.size _ _ L L _ (hown2.alloc _) ((hown3.mono (by omega)).alloc _) ?_ ?_ hv23 (fun e => absurd (hlo2 _ e) (by omega)) (fun e => absurd (hlo3 _ e) (by omega)) (by omega) (by omega) (by rw [World.size_alloc]; omega)).mono ?_
  · simp only [World.cell?, heap_alloc_new]; rfl
  · simp only [World.cell?, heap_alloc_new]; rfl
  rintro e w7 ⟨rfl, hon⟩
  have hb7 := hon.below (fun k hk => hk) (by rw [World.size_alloc]; omega)
  go_wp2
  go_ret
  have hw0 : w.heap.size ≤ w1.heap.size := by omega
  exact ⟨rfl, (((((((hbw.trans (hb1.mono (by simp))).trans (hb2.mono (by omega))).trans (hb3.mono (by omega))).trans (hb4.mono (by omega))).trans (hb5.mono (by omega))).trans (hb6.mono (by omega))).alloc (by omega) _).trans (hb7.mono hw0)⟩
end Go.Proofs.Ytfcdnjbahghllaa
