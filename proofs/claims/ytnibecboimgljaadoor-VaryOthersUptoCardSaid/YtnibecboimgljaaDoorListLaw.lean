/-
  What the elements of a list are like: trimmed, whole, a list of themselves. No program is in sight here.
-/
import Derived.Test.YtnibecboimgljaaDoorPieces
import Derived.Lib.SlTrimSet
namespace Go.Proofs.YtnibecboimgljaaDoor

/-- a text without blanks at its ends -/
def trim (l : List UInt8) : List UInt8 := Lib.trimS l [32, 9]
def blankB (b : UInt8) : Bool := [32, 9].contains b
def full (l : List UInt8) : Bool := !l.isEmpty
/-- the elements of a list -/
def listOf (l : List UInt8) : List (List UInt8) := ((pieces 44 l).map trim).filter full

/-- the state behind a text that is read without a cut -/
def runC (c : UInt8) : List UInt8 → Bool → Bool → Option (Bool × Bool)
  | [], q, e => some (q, e)
  | x :: r, q, e =>
    if e then runC c r q false
    else if q && x == 92 then runC c r q true
    else if x == 34 then runC c r (!q) false
    else if !q && x == c then none
    else runC c r q false
theorem runC_append (c : UInt8) : ∀ (a b : List UInt8) (q e q' e' : Bool), runC c a q e = some (q', e') → runC c (a ++ b) q e = runC c b q' e'
  | [], b, q, e, q', e', h => by simp only [runC, Option.some.injEq, Prod.mk.injEq] at h; obtain ⟨rfl, rfl⟩ := h; rfl
  | x :: a, b, q, e, q', e', h => by
    have ih := runC_append c a b
    rw [List.cons_append]
    rw [runC] at h
    rw [runC]
    split at h
    · next k => rw [if_pos k]; exact ih _ _ _ _ h
    · next k =>
      rw [if_neg k]
      split at h
      · next k => rw [if_pos k]; exact ih _ _ _ _ h
      · next k =>
        rw [if_neg k]
        split at h
        · next k => rw [if_pos k]; exact ih _ _ _ _ h
        · next k =>
          rw [if_neg k]
          split at h
          · cases h
          · next k => rw [if_neg k]; exact ih _ _ _ _ h
theorem runC_fore (c : UInt8) : ∀ (a b : List UInt8) (q e : Bool), (runC c (a ++ b) q e).isSome = true → (runC c a q e).isSome = true
  | [], b, q, e, h => rfl
  | x :: a, b, q, e, h => by
    have ih := runC_fore c a b
    rw [List.cons_append] at h
    unfold runC at h ⊢
    split
    · next k => rw [if_pos k] at h; exact ih _ _ h
    · next k =>
      rw [if_neg k] at h
      split
      · next k => rw [if_pos k] at h; exact ih _ _ h
      · next k =>
        rw [if_neg k] at h
        split
        · next k => rw [if_pos k] at h; exact ih _ _ h
        · next k =>
          rw [if_neg k] at h
          split
          · next k => rw [if_pos k] at h; cases h
          · next k => rw [if_neg k] at h; exact ih _ _ h
theorem cutGo_run (c : UInt8) : ∀ (x r cur : List UInt8) (q e q' e' : Bool), runC c x q e = some (q', e') → cutGo c (x ++ r) cur q e = cutGo c r (cur ++ x) q' e'
  | [], r, cur, q, e, q', e', h => by simp only [runC, Option.some.injEq, Prod.mk.injEq] at h; obtain ⟨rfl, rfl⟩ := h; simp
  | y :: x, r, cur, q, e, q', e', h => by
    have ih := cutGo_run c x r
    rw [List.cons_append, show cur ++ y :: x = (cur ++ [y]) ++ x by simp]
    unfold runC at h
    rw [cutGo]
    split at h
    · next k => rw [if_pos k]; exact ih _ _ _ _ _ h
    · next k =>
      rw [if_neg k]
      split at h
      · next k => rw [if_pos k]; exact ih _ _ _ _ _ h
      · next k =>
        rw [if_neg k]
        split at h
        · next k => rw [if_pos k]; exact ih _ _ _ _ _ h
        · next k =>
          rw [if_neg k]
          split at h
          · cases h
          · next k => rw [if_neg k]; exact ih _ _ _ _ _ h
theorem pieces_one (c : UInt8) (x : List UInt8) (h : (runC c x false false).isSome = true) : pieces c x = [x] := by
  obtain ⟨⟨q, e⟩, hq⟩ := Option.isSome_iff_exists.1 h
  have := cutGo_run c x [] [] false false q e hq
  rw [List.append_nil, cutGo_nil, List.nil_append] at this
  exact this
theorem pieces_cut (c : UInt8) (hc : c ≠ 34) (x r : List UInt8) (h : runC c x false false = some (false, false)) : pieces c (x ++ c :: r) = x :: pieces c r := by
  have e34 : (c == (34 : UInt8)) = false := beq_eq_false_iff_ne.2 hc
  have := cutGo_run c x (c :: r) [] false false false false h
  rw [List.nil_append, cutGo] at this
  simp only [Bool.false_eq_true, if_false, Bool.false_and, e34, beq_self_eq_true, Bool.not_false, Bool.and_self, if_true] at this
  exact this
theorem cutGo_runs (c : UInt8) : ∀ (r cur : List UInt8) (q e : Bool), runC c cur false false = some (q, e) → ∀ x ∈ cutGo c r cur q e, (runC c x false false).isSome = true
  | [], cur, q, e, h, x, hx => by rw [cutGo_nil] at hx; obtain rfl : x = cur := by simpa using hx
                                  rw [h]; rfl
  | y :: r, cur, q, e, h, x, hx => by
    have ih := cutGo_runs c r
    have hstep : ∀ q' e', runC c [y] q e = some (q', e') → runC c (cur ++ [y]) false false = some (q', e') := fun q' e' h' => by rw [runC_append c cur [y] false false q e h, h']
    rw [cutGo] at hx
    split at hx
    · next k => exact ih _ _ _ (hstep _ _ (by unfold runC; rw [if_pos k]; rfl)) x hx
    · next k =>
      split at hx
      · next k2 => exact ih _ _ _ (hstep _ _ (by unfold runC; rw [if_neg k, if_pos k2]; rfl)) x hx
      · next k2 =>
        split at hx
        · next k3 => exact ih _ _ _ (hstep _ _ (by unfold runC; rw [if_neg k, if_neg k2, if_pos k3]; rfl)) x hx
        · next k3 =>
          split at hx
          · next k4 =>
            have hq : q = false := by cases q <;> simp at k4 ⊢
            subst hq
            rcases List.mem_cons.1 hx with rfl | hx
            · rw [h]; rfl
            · exact ih [] _ _ rfl x hx
          · next k4 => exact ih _ _ _ (hstep _ _ (by unfold runC; rw [if_neg k, if_neg k2, if_neg k3, if_neg k4]; rfl)) x hx
theorem pieces_runs (c : UInt8) (l : List UInt8) : ∀ x ∈ pieces c l, (runC c x false false).isSome = true := cutGo_runs c l [] false false rfl

theorem blankB_cases (b : UInt8) (h : blankB b = true) : b = 32 ∨ b = 9 := by
  unfold blankB at h; simpa using h
theorem runC_blank (c : UInt8) (h32 : c ≠ 32) (h9 : c ≠ 9) (b : UInt8) (r : List UInt8) (h : blankB b = true) : runC c (b :: r) false false = runC c r false false := by
  have e1 : (b == (34 : UInt8)) = false := by rcases blankB_cases b h with rfl | rfl <;> decide
  have e2 : (b == c) = false := by rw [beq_eq_false_iff_ne]; rcases blankB_cases b h with rfl | rfl <;> (intro e; subst e; contradiction)
  rw [runC]
  simp [e1, e2]
theorem runC_left (c : UInt8) (h32 : c ≠ 32) (h9 : c ≠ 9) : ∀ l : List UInt8, runC c (l.dropWhile blankB) false false = runC c l false false
  | [] => rfl
  | b :: l => by
    rw [List.dropWhile_cons]
    split
    · next h => rw [runC_left c h32 h9 l, runC_blank c h32 h9 b l h]
    · rfl
theorem trim_eq (l : List UInt8) : trim l = ((l.reverse.dropWhile blankB).reverse).dropWhile blankB := rfl
theorem right_fore (l : List UInt8) : ∃ t, l = (l.reverse.dropWhile blankB).reverse ++ t := by
  obtain ⟨t, ht⟩ := List.dropWhile_suffix (p := blankB) (l := l.reverse)
  refine ⟨t.reverse, ?_⟩
  rw [← List.reverse_append, ht, List.reverse_reverse]
theorem runC_trim (c : UInt8) (h32 : c ≠ 32) (h9 : c ≠ 9) (l : List UInt8) (h : (runC c l false false).isSome = true) : (runC c (trim l) false false).isSome = true := by
  rw [trim_eq, runC_left c h32 h9]
  obtain ⟨t, ht⟩ := right_fore l
  rw [ht] at h
  exact runC_fore c _ t false false h

theorem dropW_head (p : UInt8 → Bool) : ∀ l : List UInt8, ∀ x r, l.dropWhile p = x :: r → p x = false
  | [], x, r, h => by cases h
  | y :: l, x, r, h => by
    rw [List.dropWhile_cons] at h
    split at h
    · exact dropW_head p l x r h
    · next k => injection h with h1 h2; subst h1; simpa using k
theorem dropW_self (p : UInt8 → Bool) (l : List UInt8) (h : ∀ x r, l = x :: r → p x = false) : l.dropWhile p = l := by
  cases l with
  | nil => rfl
  | cons x r => rw [List.dropWhile_cons, h x r rfl]; rfl
/-- neither end is a blank -/
def Tidy (l : List UInt8) : Prop := (∀ x r, l = x :: r → blankB x = false) ∧ (∀ x r, l.reverse = x :: r → blankB x = false)
theorem trim_self (l : List UInt8) (h : Tidy l) : trim l = l := by
  rw [trim_eq, dropW_self blankB l.reverse h.2, List.reverse_reverse, dropW_self blankB l h.1]
theorem trim_tidy (l : List UInt8) : Tidy (trim l) := by
  rw [trim_eq]
  refine ⟨fun x r h => dropW_head blankB _ x r h, fun x r h => ?_⟩
  obtain ⟨t, ht⟩ := List.dropWhile_suffix (p := blankB) (l := (l.reverse.dropWhile blankB).reverse)
  have hr : l.reverse.dropWhile blankB = (((l.reverse.dropWhile blankB).reverse).dropWhile blankB).reverse ++ t.reverse := by
    rw [← List.reverse_append, ht, List.reverse_reverse]
  rw [h] at hr
  exact dropW_head blankB l.reverse x (r ++ t.reverse) (by rw [hr]; rfl)
theorem trim_trim (l : List UInt8) : trim (trim l) = trim l := trim_self _ (trim_tidy l)
theorem trim_length (l : List UInt8) : (trim l).length ≤ l.length := by
  rw [trim_eq]
  have h1 := (List.dropWhile_suffix (p := blankB) (l := l.reverse)).length_le
  have h2 := (List.dropWhile_suffix (p := blankB) (l := (l.reverse.dropWhile blankB).reverse)).length_le
  rw [List.length_reverse] at h1 h2
  omega

theorem listOf_one (x : List UInt8) (h : (runC 44 x false false).isSome = true) (ht : trim x = x) (hf : full x = true) : listOf x = [x] := by
  unfold listOf
  rw [pieces_one 44 x h]
  simp [ht, hf]
/-- an element: trimmed, not empty, no longer than the whole, a list of itself -/
theorem listOf_el (l x : List UInt8) (h : x ∈ listOf l) : trim x = x ∧ full x = true ∧ x.length ≤ l.length ∧ listOf x = [x] := by
  obtain ⟨h1, h2⟩ := List.mem_filter.1 h
  obtain ⟨y, hy, rfl⟩ := List.mem_map.1 h1
  refine ⟨trim_trim y, h2, Nat.le_trans (trim_length y) (pieces_part 44 l y hy), ?_⟩
  exact listOf_one _ (runC_trim 44 (by decide) (by decide) y (pieces_runs 44 l y hy)) (trim_trim y) h2
theorem listOf_length (l : List UInt8) : (listOf l).length ≤ l.length + 1 := by
  have h1 := pieces_length 44 l
  have h2 : (listOf l).length ≤ ((pieces 44 l).map trim).length := List.length_filter_le _ _
  rw [List.length_map] at h2
  omega
end Go.Proofs.YtnibecboimgljaaDoor
