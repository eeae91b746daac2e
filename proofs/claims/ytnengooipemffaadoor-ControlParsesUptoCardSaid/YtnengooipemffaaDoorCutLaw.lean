/-
  A text cut at the first byte of one kind. No program is in sight here.
-/
import Derived.Test.YtnengooipemffaaDoorBytes
import Derived.Lib.IndexMore
namespace Go.Proofs.YtnengooipemffaaDoor

/-- what stands ahead of the first c and behind it -/
def cutB (c : UInt8) : List UInt8 → Option (List UInt8 × List UInt8)
  | [] => none
  | x :: r => if x = c then some ([], r) else (cutB c r).map fun p => (x :: p.1, p.2)
theorem cutB_none (c : UInt8) : ∀ l : List UInt8, (∀ x ∈ l, x ≠ c) → cutB c l = none
  | [], _ => rfl
  | x :: r, h => by rw [cutB, if_neg (h x (by simp)), cutB_none c r (fun y hy => h y (List.mem_cons_of_mem _ hy))]; rfl
theorem cutB_some (c : UInt8) : ∀ (l : List UInt8) (k : Nat) (hk : k < l.length), (∀ j, (hj : j < l.length) → j < k → l[j] ≠ c) → l[k] = c → cutB c l = some (l.take k, l.drop (k + 1))
  | [], k, hk, _, _ => by simp at hk
  | x :: r, 0, hk, _, h => by rw [cutB, if_pos (show x = c from h)]; rfl
  | x :: r, k + 1, hk, hn, h => by
    rw [cutB, if_neg (show ¬ x = c from hn 0 (by simp) (by omega)), cutB_some c r k (by simpa using hk) (fun j hj hjk => hn (j + 1) (by simpa using hj) (by omega)) h]
    rfl
theorem cutB_len (c : UInt8) : ∀ (l a b : List UInt8), cutB c l = some (a, b) → a.length + b.length + 1 = l.length
  | [], a, b, h => by cases h
  | x :: r, a, b, h => by
    rw [cutB] at h
    split at h
    · cases h; simp
    · cases hc : cutB c r with
      | none => rw [hc] at h; cases h
      | some p =>
        rw [hc] at h
        have := cutB_len c r p.1 p.2 hc
        simp only [Option.map_some, Option.some.injEq, Prod.mk.injEq] at h
        obtain ⟨rfl, rfl⟩ := h
        simp; omega
theorem cut_lib (c : UInt8) (l : List UInt8) : Lib.cut l [c] = match cutB c l with | some (a, b) => (a, b, true) | none => (l, [], false) := by
  have key : (∀ x ∈ l, x ≠ c) ∨ ∃ k, ∃ hk : k < l.length, (∀ j, (hj : j < l.length) → j < k → l[j] ≠ c) ∧ l[k] = c := by
    induction l with
    | nil => exact .inl (by simp)
    | cons x r ih =>
      by_cases hx : x = c
      · exact .inr ⟨0, by simp, fun j _ h => absurd h (Nat.not_lt_zero j), hx⟩
      · rcases ih with h | ⟨k, hk, h1, h2⟩
        · left
          intro y hy
          rcases List.mem_cons.1 hy with rfl | hy
          · exact hx
          · exact h y hy
        · refine .inr ⟨k + 1, by simpa using hk, fun j hj hjk => ?_, h2⟩
          cases j with
          | zero => exact hx
          | succ j => exact h1 j (by simpa using hj) (by omega)
  unfold Lib.cut
  rw [Lib.index_one]
  rcases key with h | ⟨k, hk, h1, h2⟩
  · rw [cutB_none c l h]
    have : ¬ 0 ≤ Lib.indexByte l c := by
      intro h0
      have hg := Lib.indexByte_ge l c
      obtain ⟨o, ho⟩ : ∃ o : Nat, Lib.indexByte l c = o := ⟨(Lib.indexByte l c).toNat, by omega⟩
      have := (Lib.indexByte_some ho).1
      obtain ⟨hlt, he⟩ := List.getElem?_eq_some_iff.1 this
      exact h _ (List.getElem_mem hlt) he
    rw [if_neg this]
  · rw [cutB_some c l k hk h1 h2]
    have : Lib.indexByte l c = k := by
      have hg := Lib.indexByte_ge l c
      have hne : Lib.indexByte l c ≠ -1 := fun h0 => Lib.indexByte_none h0 k (by rw [List.getElem?_eq_getElem hk, h2])
      obtain ⟨o, ho⟩ : ∃ o : Nat, Lib.indexByte l c = o := ⟨(Lib.indexByte l c).toNat, by omega⟩
      obtain ⟨g1, g2⟩ := Lib.indexByte_some ho
      obtain ⟨hlt, he⟩ := List.getElem?_eq_some_iff.1 g1
      have a1 : ¬ o < k := fun h => h1 o hlt h he
      have a2 : ¬ k < o := fun h => g2 k h (by rw [List.getElem?_eq_getElem hk, h2])
      omega
    rw [if_pos (by omega), this]
    rfl
end Go.Proofs.YtnengooipemffaaDoor
