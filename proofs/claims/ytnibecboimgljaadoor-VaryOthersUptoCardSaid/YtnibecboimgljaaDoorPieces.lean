/-
  A text cut at a byte outside of quoted stretches: the plain words. No program is in sight here.
-/
import Derived.Test.YtnibecboimgljaaDoorBytes
namespace Go.Proofs.YtnibecboimgljaaDoor

/-- what is cut of the rest, behind what the piece holds already; q: inside quotes; e: the byte ahead was an escape inside quotes -/
def cutGo (c : UInt8) : List UInt8 → List UInt8 → Bool → Bool → List (List UInt8)
  | [], cur, _, _ => [cur]
  | x :: r, cur, q, e =>
    if e then cutGo c r (cur ++ [x]) q false
    else if q && x == 92 then cutGo c r (cur ++ [x]) q true
    else if x == 34 then cutGo c r (cur ++ [x]) (!q) false
    else if !q && x == c then cur :: cutGo c r [] q false
    else cutGo c r (cur ++ [x]) q false
def pieces (c : UInt8) (l : List UInt8) : List (List UInt8) := cutGo c l [] false false

theorem cutGo_nil (c : UInt8) (cur : List UInt8) (q e : Bool) : cutGo c [] cur q e = [cur] := by rw [cutGo]
theorem cutGo_length (c : UInt8) : ∀ (r cur : List UInt8) (q e : Bool), (cutGo c r cur q e).length ≤ r.length + 1
  | [], cur, q, e => by simp [cutGo]
  | x :: r, cur, q, e => by
    have ih := cutGo_length c r
    unfold cutGo
    split
    · have := ih (cur ++ [x]) q false; simp; omega
    · split
      · have := ih (cur ++ [x]) q true; simp; omega
      · split
        · have := ih (cur ++ [x]) (!q) false; simp; omega
        · split
          · have := ih [] q false; simp; omega
          · have := ih (cur ++ [x]) q false; simp; omega
theorem pieces_length (c : UInt8) (l : List UInt8) : (pieces c l).length ≤ l.length + 1 := cutGo_length c l [] false false
theorem cutGo_ne (c : UInt8) : ∀ (r cur : List UInt8) (q e : Bool), cutGo c r cur q e ≠ []
  | [], cur, q, e => by simp [cutGo]
  | x :: r, cur, q, e => by
    have ih := cutGo_ne c r
    unfold cutGo
    split
    · exact ih _ _ _
    · split
      · exact ih _ _ _
      · split
        · exact ih _ _ _
        · split
          · simp
          · exact ih _ _ _
theorem cutGo_part (c : UInt8) : ∀ (r cur : List UInt8) (q e : Bool), ∀ x ∈ cutGo c r cur q e, x.length ≤ cur.length + r.length
  | [], cur, q, e => by intro x hx; rw [cutGo_nil] at hx; simp at hx; subst hx; simp
  | y :: r, cur, q, e => by
    have ih := cutGo_part c r
    intro x hx
    unfold cutGo at hx
    split at hx
    · have := ih _ _ _ x hx; simp at this ⊢; omega
    · split at hx
      · have := ih _ _ _ x hx; simp at this ⊢; omega
      · split at hx
        · have := ih _ _ _ x hx; simp at this ⊢; omega
        · split at hx
          · rcases List.mem_cons.1 hx with rfl | hx
            · simp
            · have := ih _ _ _ x hx; simp at this ⊢; omega
          · have := ih _ _ _ x hx; simp at this ⊢; omega
theorem pieces_part (c : UInt8) (l : List UInt8) : ∀ x ∈ pieces c l, x.length ≤ l.length := fun x hx => by
  have := cutGo_part c l [] false false x hx; simpa using this
theorem pieces_ne (c : UInt8) (l : List UInt8) : pieces c l ≠ [] := cutGo_ne c l [] false false

section
variable (c : UInt8) (l : List UInt8) (k f : Nat)
/-- the state of a walk over l: so much is read (k), the piece began at f -/
def cutSt (q : Bool) : List (List UInt8) := cutGo c (l.drop k) ((l.take k).drop f) q false

theorem cur_snoc (hk : k < l.length) (hf : f ≤ k) : (l.take k).drop f ++ [l[k]] = (l.take (k + 1)).drop f := by
  rw [take_snoc l k hk, List.drop_append_of_le_length (by rw [List.length_take]; omega)]
theorem cutSt_start : cutSt c l 0 0 false = pieces c l := rfl
theorem cutSt_end (q : Bool) (hk : l.length ≤ k) : cutSt c l k f q = [l.drop f] := by
  unfold cutSt; rw [List.drop_of_length_le hk, List.take_of_length_le hk, cutGo_nil]
theorem cutSt_esc (hk : k < l.length) (hf : f ≤ k) (h : (l[k].toNat : Int) = 92) : cutSt c l k f true = cutSt c l (k + 2) f true := by
  have hx : l[k] = 92 := UInt8.toNat_inj.1 (by have : (92 : UInt8).toNat = 92 := rfl; omega)
  unfold cutSt
  rw [List.drop_eq_getElem_cons hk, cutGo]
  simp only [Bool.false_eq_true, if_false, hx, beq_self_eq_true, Bool.and_self, if_true]
  by_cases h2 : k + 1 < l.length
  · rw [List.drop_eq_getElem_cons h2, cutGo]
    simp only [if_true]
    rw [← hx, cur_snoc l k f hk hf, cur_snoc l (k + 1) f h2 (by omega)]
  · rw [List.drop_of_length_le (show l.length ≤ k + 1 by omega), cutGo_nil, List.drop_of_length_le (show l.length ≤ k + 2 by omega), cutGo_nil, ← hx, cur_snoc l k f hk hf,
      List.take_of_length_le (show l.length ≤ k + 1 by omega), List.take_of_length_le (show l.length ≤ k + 2 by omega)]
theorem cutSt_quote (q : Bool) (hk : k < l.length) (hf : f ≤ k) (h : (l[k].toNat : Int) = 34) : cutSt c l k f q = cutSt c l (k + 1) f (!q) := by
  have hx : l[k] = 34 := UInt8.toNat_inj.1 (by have : (34 : UInt8).toNat = 34 := rfl; omega)
  have h92 : (l[k] == (92 : UInt8)) = false := by rw [hx]; decide
  unfold cutSt
  rw [List.drop_eq_getElem_cons hk, cutGo]
  simp only [Bool.false_eq_true, if_false, h92, Bool.and_false]
  rw [if_pos (by rw [hx]; decide), cur_snoc l k f hk hf]
theorem cutSt_cut (hk : k < l.length) (hc : c ≠ 34) (h : (l[k].toNat : Int) = (c.toNat : Int)) : cutSt c l k f false = (l.take k).drop f :: cutSt c l (k + 1) (k + 1) false := by
  have hx : l[k] = c := UInt8.toNat_inj.1 (by omega)
  unfold cutSt
  rw [List.drop_eq_getElem_cons hk, cutGo]
  have h34 : (c == (34 : UInt8)) = false := by rw [beq_eq_false_iff_ne]; exact hc
  simp only [Bool.false_eq_true, if_false, Bool.false_and, hx, h34, beq_self_eq_true, Bool.not_false, Bool.and_self, if_true]
  rw [List.drop_of_length_le (l := l.take (k + 1)) (by rw [List.length_take]; omega)]
theorem cutSt_other (q : Bool) (hk : k < l.length) (hf : f ≤ k) (h1 : q = false ∨ ¬ (l[k].toNat : Int) = 92) (h2 : ¬ (l[k].toNat : Int) = 34) (h3 : q = true ∨ ¬ (l[k].toNat : Int) = (c.toNat : Int)) :
    cutSt c l k f q = cutSt c l (k + 1) f q := by
  have e1 : (q && l[k] == (92 : UInt8)) = false := by
    rcases h1 with rfl | h1
    · rfl
    · have : (l[k] == (92 : UInt8)) = false := by
        rw [beq_eq_false_iff_ne]; intro e; rw [e] at h1; exact h1 rfl
      rw [this, Bool.and_false]
  have e2 : (l[k] == (34 : UInt8)) = false := by
    rw [beq_eq_false_iff_ne]; intro e; rw [e] at h2; exact h2 rfl
  have e3 : (!q && l[k] == c) = false := by
    rcases h3 with rfl | h3
    · rfl
    · have : (l[k] == c) = false := by
        rw [beq_eq_false_iff_ne]; intro e; rw [e] at h3; exact h3 rfl
      rw [this, Bool.and_false]
  unfold cutSt
  rw [List.drop_eq_getElem_cons hk, cutGo]
  simp only [Bool.false_eq_true, if_false, e1, e2, e3]
  rw [cur_snoc l k f hk hf]
end
end Go.Proofs.YtnibecboimgljaaDoor
