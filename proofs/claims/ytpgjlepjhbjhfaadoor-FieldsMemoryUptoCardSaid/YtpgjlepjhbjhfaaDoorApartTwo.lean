/-
  Apart answers true of two rows of bytes that lie in blocks of their own.
-/
import Derived.Test.YtpgjlepjhbjhfaaDoorApartG
namespace Go.Proofs.YtpgjlepjhbjhfaaDoor
open Go.RowKit

theorem apart_two (B base : Nat) (v1 v2 : Value) (l1 l2 : List UInt8) (w : World) (h1 : Own8 w base v1 l1) (h2 : Own8 w base v2 l2)
    (hc1 : w.cell? ⟨B, 0, none⟩ = some v1) (hc2 : w.cell? ⟨B, 1, none⟩ = some v2)
    (hd : v1.ownBlock = none ∨ v1.ownBlock ≠ v2.ownBlock) (hb1 : v1.ownBlock ≠ some B) (hb2 : v2.ownBlock ≠ some B) (hl1 : l1.length ≤ 100000000000000) (hl2 : l2.length ≤ 100000000000000) (hbase : base ≤ w.heap.size) :
    Calls Tryd.prog 33 #[.slice (some ⟨B, 0, none⟩) 2 2] w fun e w' => e = .returned (.bool true) ∧ Only (fun k => v1.ownBlock = some k ∨ v2.ownBlock = some k) w w' := by
  obtain ⟨p1, c1, rfl⟩ := h1.form rfl
  obtain ⟨p2, c2, rfl⟩ := h2.form rfl
  have hown : ∀ i, i < 2 → Own8 w base (.slice (if i = 0 then p1 else p2) (if i = 0 then l1 else l2).length (if i = 0 then c1 else c2)) (if i = 0 then l1 else l2) := by
    intro i hi
    match i, hi with
    | 0, _ => exact h1
    | 1, _ => exact h2
  refine (apart_any 2 B base (by omega) 2 (by omega) (fun i => if i = 0 then p1 else p2) (fun i => if i = 0 then c1 else c2) (fun i => if i = 0 then l1 else l2) w ?_ hown ?_ ?_ ?_ hbase).mono ?_
  · intro i hi
    match i, hi with
    | 0, _ => exact hc1
    | 1, _ => exact hc2
  · intro i j hi hj hne
    rcases (by omega : i = 0 ∧ j = 1 ∨ i = 1 ∧ j = 0) with ⟨rfl, rfl⟩ | ⟨rfl, rfl⟩
    · exact hd
    · rcases hd with h | h
      · show (Value.slice p2 l2.length c2).ownBlock = none ∨ (Value.slice p2 l2.length c2).ownBlock ≠ (Value.slice p1 l1.length c1).ownBlock
        rw [h]
        cases (Value.slice p2 l2.length c2).ownBlock with
        | none => exact .inl rfl
        | some g => exact .inr (by simp)
      · exact .inr (fun e => h e.symm)
  · intro i hi
    match i, hi with
    | 0, _ => exact hb1
    | 1, _ => exact hb2
  · intro i hi
    match i, hi with
    | 0, _ => exact hl1
    | 1, _ => exact hl2
  · rintro e w' ⟨rfl, hon⟩
    refine ⟨rfl, ⟨hon.os, hon.tape, hon.output, hon.size, fun k hk hn => hon.block k hk ?_⟩⟩
    rintro ⟨i, hi, e⟩
    match i, hi with
    | 0, _ => exact hn (.inl e)
    | 1, _ => exact hn (.inr e)
end Go.Proofs.YtpgjlepjhbjhfaaDoor
