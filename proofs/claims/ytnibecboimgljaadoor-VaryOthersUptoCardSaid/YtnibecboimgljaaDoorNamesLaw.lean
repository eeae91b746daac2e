/-
  The names that Vary tells, plainly: sorted and each once, or put in one by one: the same.
-/
import Derived.Lib.SlicesCompact
namespace Go.Proofs.YtnibecboimgljaaDoor


abbrev BS := List UInt8
/-- sorted, each once -/
def sortL (L : List BS) : List BS := L.mergeSort fun x y => decide (x ≤ y)
def namesOf (L : List BS) : List BS := Lib.compact (sortL L)

theorem lt_of_le_ne {a b : BS} (h : a ≤ b) (hn : b ≠ a) : a < b := by
  by_cases h2 : a < b
  · exact h2
  · exact absurd (List.le_antisymm (List.not_lt.1 h2) h) hn

theorem asc_ext : ∀ (l m : List BS), l.Pairwise (· < ·) → m.Pairwise (· < ·) → (∀ x, x ∈ l ↔ x ∈ m) → l = m
  | [], [], _, _, _ => rfl
  | [], b :: m, _, _, h => absurd ((h b).2 (List.mem_cons_self ..)) (by simp)
  | a :: l, [], _, _, h => absurd ((h a).1 (List.mem_cons_self ..)) (by simp)
  | a :: l, b :: m, h1, h2, h => by
    rw [List.pairwise_cons] at h1 h2
    have hab : a = b := by
      rcases List.mem_cons.1 ((h a).1 (List.mem_cons_self ..)) with e | e
      · exact e
      · rcases List.mem_cons.1 ((h b).2 (List.mem_cons_self ..)) with e2 | e2
        · exact e2.symm
        · exact absurd (List.lt_trans (h2.1 a e) (h1.1 b e2)) (List.lt_irrefl _)
    subst hab
    rw [asc_ext l m h1.2 h2.2 fun x => ⟨fun hx => ?_, fun hx => ?_⟩]
    · rcases List.mem_cons.1 ((h x).1 (List.mem_cons_of_mem _ hx)) with e | e
      · subst e; exact absurd (h1.1 _ hx) (List.lt_irrefl _)
      · exact e
    · rcases List.mem_cons.1 ((h x).2 (List.mem_cons_of_mem _ hx)) with e | e
      · subst e; exact absurd (h2.1 _ hx) (List.lt_irrefl _)
      · exact e

/-- compact of what rises -/
theorem compactUpTo_asc (d : Array BS) (n : Nat) (hs : ∀ i j, i ≤ j → j < n → d[i]! ≤ d[j]!) : ∀ m, m ≤ n → (Lib.compactUpTo d m).Pairwise (· < ·) ∧ (∀ x ∈ Lib.compactUpTo d m, ∃ i, i < m ∧ x = d[i]!) ∧ ∀ i, i < m → d[i]! ∈ Lib.compactUpTo d m
  | 0, _ => by refine ⟨by simp [Lib.compactUpTo], by simp [Lib.compactUpTo], fun i hi => by omega⟩
  | m + 1, hm => by
    obtain ⟨h1, h2, h3⟩ := compactUpTo_asc d n hs m (by omega)
    rw [Lib.compactUpTo_succ]
    by_cases hk : Lib.keeps d m = true
    · rw [if_pos hk]
      refine ⟨?_, fun x hx => ?_, fun i hi => ?_⟩
      · rw [List.pairwise_append]
        refine ⟨h1, List.pairwise_singleton .., fun x hx y hy => ?_⟩
        obtain rfl := List.mem_singleton.1 hy
        obtain ⟨i, hi, rfl⟩ := h2 x hx
        have e1 : d[i]! ≤ d[m - 1]! := hs i (m - 1) (by omega) (by omega)
        have e2 : d[m - 1]! ≤ d[m]! := hs (m - 1) m (by omega) (by omega)
        have e3 : d[m]! ≠ d[m - 1]! := fun e => by rw [Lib.keeps_neg (by omega) e] at hk; cases hk
        exact List.lt_of_le_of_lt e1 (lt_of_le_ne e2 e3)
      · rcases List.mem_append.1 hx with e | e
        · obtain ⟨i, hi, rfl⟩ := h2 x e; exact ⟨i, by omega, rfl⟩
        · exact ⟨m, by omega, List.mem_singleton.1 e⟩
      · rcases Nat.lt_or_ge i m with e | e
        · exact List.mem_append_left _ (h3 i e)
        · obtain rfl : i = m := by omega
          exact List.mem_append_right _ (List.mem_singleton.2 rfl)
    · rw [if_neg hk, List.append_nil]
      refine ⟨h1, fun x hx => ?_, fun i hi => ?_⟩
      · obtain ⟨i, hi, rfl⟩ := h2 x hx; exact ⟨i, by omega, rfl⟩
      · rcases Nat.lt_or_ge i m with e | e
        · exact h3 i e
        · obtain rfl : i = m := by omega
          by_cases h0 : i = 0
          · subst h0; exact absurd (Lib.keeps_lt_one d 0 (by omega)) hk
          · have e4 : d[i]! = d[i - 1]! := by
              by_cases e4 : d[i]! = d[i - 1]!
              · exact e4
              · exact absurd (Lib.keeps_pos e4) hk
            rw [e4]; exact h3 (i - 1) (by omega)

theorem sortL_pair (L : List BS) : (sortL L).Pairwise (· ≤ ·) := by
  have tr : ∀ a b c : BS, decide (a ≤ b) = true → decide (b ≤ c) = true → decide (a ≤ c) = true := fun a b c h1 h2 => by simp only [decide_eq_true_eq] at *; exact List.le_trans h1 h2
  have to : ∀ a b : BS, (decide (a ≤ b) || decide (b ≤ a)) = true := fun a b => by simp only [Bool.or_eq_true, decide_eq_true_eq]; exact List.le_total a b
  have := List.pairwise_mergeSort tr to L
  exact this.imp fun h => by simpa using h
theorem namesOf_spec (L : List BS) : (namesOf L).Pairwise (· < ·) ∧ ∀ x, x ∈ namesOf L ↔ x ∈ L := by
  have hp := sortL_pair L
  obtain ⟨h1, h2, h3⟩ := compactUpTo_asc (sortL L).toArray (sortL L).length (fun i j hij hj => by
    rw [getElem!_pos (sortL L).toArray i (by simp; omega), getElem!_pos (sortL L).toArray j (by simp; omega)]
    rcases Nat.lt_or_ge i j with h | h
    · have := List.pairwise_iff_getElem.1 hp i j (by omega) hj h
      simpa using this
    · obtain rfl : i = j := by omega
      exact List.le_refl _) (sortL L).length (Nat.le_refl _)
  refine ⟨h1, fun x => ?_⟩
  have hm : x ∈ sortL L ↔ x ∈ L := List.mem_mergeSort
  rw [← hm]
  constructor
  · intro hx
    obtain ⟨i, hi, rfl⟩ := h2 x hx
    rw [getElem!_pos (sortL L).toArray i (by simpa using hi)]
    simp
  · intro hx
    obtain ⟨i, hi, e⟩ := List.mem_iff_getElem.1 hx
    have h4 := h3 i hi
    rw [getElem!_pos (sortL L).toArray i (by simpa using hi), List.getElem_toArray, e] at h4
    exact h4

/-- the document's way: one word put in -/
def stepR (x : BS) (s : List BS × Bool) (y : BS) : List BS × Bool :=
  if s.2 = false ∧ ¬ y = x ∧ x < y then (s.1 ++ [x, y], true) else (s.1 ++ [y], s.2 || decide (y = x))
def partR (x : BS) (l : List BS) : List BS × Bool := l.foldl (stepR x) ([], false)
def insR (x : BS) (l : List BS) : List BS := if (partR x l).2 then (partR x l).1 else (partR x l).1 ++ [x]
theorem partR_snoc (x : BS) (l : List BS) (k : Nat) (h : k < l.length) : partR x (l.take (k + 1)) = stepR x (partR x (l.take k)) l[k] := by
  unfold partR
  rw [List.take_succ_eq_append_getElem h, List.foldl_append]; rfl
def insS (x : BS) : List BS → List BS
  | [] => [x]
  | y :: l => if y = x then y :: l else if x < y then x :: y :: l else y :: insS x l
theorem fold_put (x : BS) : ∀ (l acc : List BS), l.foldl (stepR x) (acc, true) = (acc ++ l, true)
  | [], acc => by simp
  | y :: l, acc => by
    rw [List.foldl_cons, show stepR x (acc, true) y = (acc ++ [y], true) by simp [stepR], fold_put x l]; simp
theorem fold_ins (x : BS) : ∀ (l acc : List BS), (if (l.foldl (stepR x) (acc, false)).2 then (l.foldl (stepR x) (acc, false)).1 else (l.foldl (stepR x) (acc, false)).1 ++ [x]) = acc ++ insS x l
  | [], acc => by simp [insS]
  | y :: l, acc => by
    rw [List.foldl_cons]
    by_cases h1 : y = x
    · rw [show stepR x (acc, false) y = (acc ++ [y], true) by simp [stepR, h1], fold_put x l]; simp [insS, h1]
    · by_cases h2 : x < y
      · rw [show stepR x (acc, false) y = (acc ++ [x, y], true) by simp [stepR, h1, h2], fold_put x l]; simp [insS, h1, h2]
      · rw [show stepR x (acc, false) y = (acc ++ [y], false) by simp [stepR, h1, h2], fold_ins x l]; simp [insS, h1, h2]
theorem insR_eq (x : BS) (l : List BS) : insR x l = insS x l := by
  unfold insR partR
  exact (fold_ins x l []).trans (List.nil_append _)
theorem insS_mem (x z : BS) : ∀ l : List BS, z ∈ insS x l ↔ z = x ∨ z ∈ l
  | [] => by simp [insS]
  | y :: l => by
    unfold insS
    split
    · rename_i h; subst h; simp
    · split
      · simp
      · simp only [List.mem_cons, insS_mem x z l]; grind
theorem insS_asc (x : BS) : ∀ l : List BS, l.Pairwise (· < ·) → (insS x l).Pairwise (· < ·)
  | [], _ => by simp [insS]
  | y :: l, h => by
    have h' := h
    rw [List.pairwise_cons] at h
    unfold insS
    split
    · exact h'
    · rename_i hne
      split
      · rename_i hlt
        rw [List.pairwise_cons]
        refine ⟨fun z hz => ?_, h'⟩
        rcases List.mem_cons.1 hz with e | e
        · rw [e]; exact hlt
        · exact List.lt_trans hlt (h.1 z e)
      · rename_i hlt
        rw [List.pairwise_cons]
        refine ⟨fun z hz => ?_, insS_asc x l h.2⟩
        rcases (insS_mem x z l).1 hz with e | e
        · rw [e]; exact lt_of_le_ne (List.not_lt.1 hlt) (fun e2 => hne e2.symm)
        · exact h.1 z e
def namesR (L : List BS) : List BS := L.foldl (fun out x => insR x out) []
theorem namesR_snoc (L : List BS) (k : Nat) (h : k < L.length) : namesR (L.take (k + 1)) = insR L[k] (namesR (L.take k)) := by
  unfold namesR
  rw [List.take_succ_eq_append_getElem h, List.foldl_append]; rfl
theorem foldR_spec : ∀ (L acc : List BS), acc.Pairwise (· < ·) → (L.foldl (fun out x => insR x out) acc).Pairwise (· < ·) ∧ ∀ x, x ∈ L.foldl (fun out x => insR x out) acc ↔ x ∈ acc ∨ x ∈ L
  | [], acc, h => ⟨h, fun x => by simp⟩
  | y :: L, acc, h => by
    obtain ⟨h1, h2⟩ := foldR_spec L (insR y acc) (by rw [insR_eq]; exact insS_asc y acc h)
    refine ⟨h1, fun x => ?_⟩
    rw [List.foldl_cons, h2, insR_eq, insS_mem, List.mem_cons]; grind
/-- the two ways: the same names -/
theorem namesR_eq (L : List BS) : namesR L = namesOf L := by
  obtain ⟨a1, a2⟩ := foldR_spec L [] List.Pairwise.nil
  obtain ⟨b1, b2⟩ := namesOf_spec L
  refine asc_ext _ _ a1 b1 fun x => ?_
  rw [b2]; unfold namesR; rw [a2]; simp
theorem insR_length (x : BS) (l : List BS) : (insR x l).length ≤ l.length + 1 := by
  rw [insR_eq]
  induction l with
  | nil => simp [insS]
  | cons y l ih => unfold insS; split <;> (try split) <;> simp <;> omega
theorem namesR_length (L : List BS) : ∀ k, (namesR (L.take k)).length ≤ k
  | 0 => by simp [namesR]
  | k + 1 => by
    by_cases h : k < L.length
    · rw [namesR_snoc L k h]; have := insR_length L[k] (namesR (L.take k)); have := namesR_length L k; omega
    · rw [List.take_of_length_le (by omega)]; have := namesR_length L k; rw [List.take_of_length_le (by omega)] at this; omega
theorem stepR_length (x : BS) (s : List BS × Bool) (y : BS) : (stepR x s y).1.length ≤ s.1.length + 2 := by
  unfold stepR; split <;> simp
theorem partR_length (x : BS) (l : List BS) : ∀ k, (partR x (l.take k)).1.length ≤ k + 1 ∧ ((partR x (l.take k)).2 = false → (partR x (l.take k)).1.length ≤ k)
  | 0 => by simp [partR]
  | k + 1 => by
    have ih := partR_length x l k
    by_cases h : k < l.length
    · rw [partR_snoc x l k h]
      unfold stepR
      split
      · rename_i hc
        have := ih.2 hc.1
        refine ⟨?_, fun e => by cases e⟩
        simp; omega
      · refine ⟨by simp; omega, fun e => ?_⟩
        simp only [Bool.or_eq_false_iff] at e
        have := ih.2 e.1
        simp; omega
    · rw [List.take_of_length_le (by omega)]; rw [List.take_of_length_le (by omega)] at ih
      exact ⟨by omega, fun e => by have := ih.2 e; omega⟩
/-- the order of the words makes no difference, nor how often -/
theorem namesOf_ext (L M : List BS) (h : ∀ x, x ∈ L ↔ x ∈ M) : namesOf L = namesOf M := by
  obtain ⟨a1, a2⟩ := namesOf_spec L
  obtain ⟨b1, b2⟩ := namesOf_spec M
  exact asc_ext _ _ a1 b1 fun x => by rw [a2, b2]; exact h x
theorem namesOf_length (L : List BS) : (namesOf L).length ≤ L.length := by
  rw [← namesR_eq]
  have := namesR_length L L.length
  rwa [List.take_length] at this
end Go.Proofs.YtnibecboimgljaaDoor
