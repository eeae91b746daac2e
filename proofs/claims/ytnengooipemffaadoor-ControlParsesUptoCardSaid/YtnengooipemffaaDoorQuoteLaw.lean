/-
  What quoting and unquoting make of a text: the plain words. No program is in sight here.
-/
import Derived.Test.YtnengooipemffaaDoorListLaw
namespace Go.Proofs.YtnengooipemffaaDoor

/-- a text's byte -/
def textB (c : Int) : Bool := decide (c = 9 ∨ (32 ≤ c ∧ c ≠ 127))
def texts (l : List UInt8) : Bool := l.all fun b => textB (b.toNat : Int)
def escB (b : UInt8) : List UInt8 := if b = 34 ∨ b = 92 then [92, b] else [b]
def esc (l : List UInt8) : List UInt8 := l.flatMap escB
def quoteT (l : List UInt8) : List UInt8 := if texts l then 34 :: (esc l ++ [34]) else []
def quoteE (l : List UInt8) : Int := if texts l then 0 else 11
theorem esc_snoc (l : List UInt8) (k : Nat) (h : k < l.length) : esc (l.take (k + 1)) = esc (l.take k) ++ escB l[k] := by
  unfold esc; rw [take_snoc l k h, List.flatMap_append]; simp
theorem escB_len (b : UInt8) : (escB b).length ≤ 2 := by unfold escB; split <;> simp
theorem esc_len (l : List UInt8) : (esc l).length ≤ 2 * l.length := by
  induction l with
  | nil => simp [esc]
  | cons x l ih =>
    have e : esc (x :: l) = escB x ++ esc l := rfl
    have := escB_len x
    rw [e, List.length_append, List.length_cons]; omega

/-- what stands in quotes, of the rest behind the first quote; e: the byte ahead was an escape -/
def unqF : List UInt8 → List UInt8 → Bool → Option (List UInt8)
  | [], _, _ => none
  | x :: r, acc, true => if r.isEmpty then none else if textB (x.toNat : Int) then unqF r (acc ++ [x]) false else none
  | x :: r, acc, false =>
    if x = 34 then (if r.isEmpty then some acc else none)
    else if x = 92 then unqF r acc true
    else if textB (x.toNat : Int) then unqF r (acc ++ [x]) false else none
def unq (l : List UInt8) : Option (List UInt8) :=
  match l with
  | [] => none
  | x :: r => if x = 34 then unqF r [] false else none
def unqT (l : List UInt8) : List UInt8 := (unq l).getD []
def unqE (l : List UInt8) : Int := if (unq l).isSome then 0 else 11

/-- the same of what stands between two quotes -/
def midF : List UInt8 → List UInt8 → Bool → Option (List UInt8)
  | [], acc, e => if e then none else some acc
  | x :: r, acc, true => if textB (x.toNat : Int) then midF r (acc ++ [x]) false else none
  | x :: r, acc, false =>
    if x = 92 then midF r acc true
    else if x = 34 then none
    else if textB (x.toNat : Int) then midF r (acc ++ [x]) false else none
theorem unqF_mid : ∀ (l acc : List UInt8) (e : Bool), unqF (l ++ [34]) acc e = midF l acc e
  | [], acc, true => by simp [unqF, midF]
  | [], acc, false => by simp [unqF, midF]
  | x :: r, acc, true => by
    have ih := unqF_mid r
    have hne : (r ++ [34]).isEmpty = false := by simp
    rw [List.cons_append, unqF, midF, hne]
    simp only [Bool.false_eq_true, if_false]
    rw [ih]
  | x :: r, acc, false => by
    have ih := unqF_mid r
    have hne : (r ++ [34]).isEmpty = false := by simp
    rw [List.cons_append, unqF, midF, hne]
    simp only [Bool.false_eq_true, if_false]
    rw [ih, ih]
    by_cases h1 : x = 34
    · subst h1; simp
    · by_cases h2 : x = 92 <;> simp [h1, h2]
theorem unqF_last : ∀ (l acc : List UInt8) (e : Bool), (∀ r, l ≠ r ++ [34]) → unqF l acc e = none
  | [], acc, e, _ => by cases e <;> simp [unqF]
  | x :: r, acc, e, h => by
    have ih := fun acc e => unqF_last r acc e (fun t ht => h (x :: t) (by rw [ht]; rfl))
    cases e
    · rw [unqF, ih, ih]
      by_cases h1 : x = 34
      · subst h1
        cases r with
        | nil => exact absurd rfl (h [])
        | cons y ys => simp
      · simp [h1]
    · rw [unqF, ih]
      simp
theorem unq_mid (l : List UInt8) : unq (34 :: (l ++ [34])) = midF l [] false := by
  show (if (34 : UInt8) = 34 then unqF (l ++ [34]) [] false else none) = _
  rw [if_pos rfl, unqF_mid]
theorem unq_bad (l : List UInt8) (h : ∀ m, l ≠ 34 :: (m ++ [34])) : unq l = none := by
  unfold unq
  cases l with
  | nil => rfl
  | cons x r =>
    show (if x = 34 then unqF r [] false else none) = none
    by_cases hx : x = 34
    · subst hx
      rw [if_pos rfl]
      exact unqF_last r [] false (fun t ht => h t (by rw [ht]))
    · rw [if_neg hx]

/-- what is quoted is unquoted to what it was -/
theorem midF_esc : ∀ (l acc : List UInt8), texts l = true → midF (esc l) acc false = some (acc ++ l)
  | [], acc, _ => by simp [esc, midF]
  | x :: l, acc, h => by
    unfold texts at h
    rw [List.all_cons, Bool.and_eq_true] at h
    have ih := midF_esc l (acc ++ [x]) h.2
    have e : esc (x :: l) = escB x ++ esc l := rfl
    rw [e]
    unfold escB
    by_cases hx : x = 34 ∨ x = 92
    · rw [if_pos hx]
      show midF (92 :: x :: esc l) acc false = _
      rw [midF, if_pos rfl, midF, if_pos h.1, ih]; simp
    · rw [if_neg hx]
      show midF (x :: esc l) acc false = _
      rw [midF, if_neg (fun h' => hx (.inr h')), if_neg (fun h' => hx (.inl h')), if_pos h.1, ih]; simp
theorem unq_quote (l : List UInt8) (h : texts l = true) : unq (quoteT l) = some l := by
  unfold quoteT
  rw [if_pos h, unq_mid, midF_esc l [] h]; simp
theorem runC_esc (c : UInt8) : ∀ (l r : List UInt8), runC c (esc l ++ r) true false = runC c r true false
  | [], r => rfl
  | x :: l, r => by
    have ih := runC_esc c l r
    have e : esc (x :: l) ++ r = escB x ++ (esc l ++ r) := by show (escB x ++ esc l) ++ r = _; rw [List.append_assoc]
    rw [e]
    unfold escB
    by_cases hx : x = 34 ∨ x = 92
    · rw [if_pos hx]
      show runC c (92 :: x :: (esc l ++ r)) true false = _
      rw [runC]
      simp only [Bool.false_eq_true, if_false, Bool.true_and, beq_self_eq_true, if_true]
      rw [runC]
      simp only [if_true]
      exact ih
    · rw [if_neg hx]
      show runC c (x :: (esc l ++ r)) true false = _
      have e1 : (x == (92 : UInt8)) = false := beq_eq_false_iff_ne.2 (fun h => hx (.inr h))
      have e2 : (x == (34 : UInt8)) = false := beq_eq_false_iff_ne.2 (fun h => hx (.inl h))
      rw [runC]
      simp only [Bool.false_eq_true, if_false, Bool.true_and, e1, e2, Bool.not_true, Bool.false_and]
      exact ih
theorem listOf_quote (l : List UInt8) (h : texts l = true) : listOf (quoteT l) = [quoteT l] := by
  have e : quoteT l = 34 :: (esc l ++ [34]) := by unfold quoteT; rw [if_pos h]
  rw [e]
  refine listOf_one _ ?_ (trim_self _ ⟨fun x r hx => ?_, fun x r hx => ?_⟩) rfl
  · rw [runC]
    simp only [Bool.false_eq_true, if_false, Bool.false_and, beq_self_eq_true, if_true, Bool.not_false]
    rw [runC_esc]
    rfl
  · injection hx with h1 h2; subst h1; decide
  · have : (34 :: (esc l ++ [34])).reverse = 34 :: ((esc l).reverse ++ [34]) := by simp
    rw [this] at hx
    injection hx with h1 h2; subst h1; decide
end Go.Proofs.YtnengooipemffaaDoor
