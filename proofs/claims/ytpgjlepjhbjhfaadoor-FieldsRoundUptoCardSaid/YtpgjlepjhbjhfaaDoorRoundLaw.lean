/-
  Fields that are printed are read as they were; what is read may be printed. No program is in sight here.
-/
import Derived.Test.YtpgjlepjhbjhfaaDoorPrint
import Derived.Test.YtpgjlepjhbjhfaaDoorParse
import Derived.Test.YtpgjlepjhbjhfaaDoorJoinsLaw
namespace Go.Proofs.YtpgjlepjhbjhfaaDoor

theorem trim_cons (b : UInt8) (y : List UInt8) (hb : blankB b = true) : trim (b :: y) = trim y := by
  rw [trim_eq, trim_eq, List.reverse_cons, List.dropWhile_append]
  by_cases h : (y.reverse.dropWhile blankB).isEmpty = true
  · rw [if_pos h]
    have : y.reverse.dropWhile blankB = [] := by simpa using h
    rw [this]
    simp [hb]
  · rw [if_neg h, List.reverse_append]
    simp [hb]

theorem tok_byte (l : List UInt8) (h : isTok l = true) : ∀ x ∈ l, tokB (x.toNat : Int) = true := by
  unfold isTok at h
  rw [Bool.and_eq_true] at h
  exact fun x hx => List.all_eq_true.1 h.1 x hx
theorem tok_ne (l : List UInt8) (h : isTok l = true) : l ≠ [] := by
  intro e
  subst e
  revert h
  decide
theorem vc_byte (l : List UInt8) (h : goodT l = true) : ∀ x ∈ l, vcB (x.toNat : Int) = true := by
  unfold goodT vcs at h
  rw [Bool.and_eq_true] at h
  exact fun x hx => List.all_eq_true.1 h.1 x hx
theorem good_trim (l : List UInt8) (h : goodT l = true) : trim l = l := by
  unfold goodT at h
  rw [Bool.and_eq_true] at h
  exact of_decide_eq_true h.2
theorem tokB_end : ∀ x : UInt8, tokB (x.toNat : Int) = true → endB x = false ∧ x ≠ 58 ∧ x ≠ 32 ∧ x ≠ 9 := by
  intro x
  have : ∀ n : Fin 256, tokB (((UInt8.ofNat n.val).toNat : Int)) = true → endB (UInt8.ofNat n.val) = false ∧ UInt8.ofNat n.val ≠ 58 ∧ UInt8.ofNat n.val ≠ 32 ∧ UInt8.ofNat n.val ≠ 9 := by decide +kernel
  have h := this ⟨x.toNat, x.toNat_lt⟩
  simpa using h
theorem vcB_end : ∀ x : UInt8, vcB (x.toNat : Int) = true → endB x = false := by
  intro x
  have : ∀ n : Fin 256, vcB (((UInt8.ofNat n.val).toNat : Int)) = true → endB (UInt8.ofNat n.val) = false := by decide +kernel
  have h := this ⟨x.toNat, x.toNat_lt⟩
  simpa using h

/-- a line without its end -/
def bodyF (x : Pair) : List UInt8 := x.1 ++ 58 :: 32 :: x.2
theorem lineF_body (x : Pair) : lineF x = bodyF x ++ [13, 10] := by unfold lineF bodyF; simp
theorem body_line (x : Pair) (h : okF x = true) : lineR (bodyF x) = (x, 0) := by
  obtain ⟨a, b⟩ := x
  unfold okF at h
  rw [Bool.and_eq_true] at h
  obtain ⟨h1, h2⟩ := h
  simp only at h1 h2
  have ht := tok_byte a h1
  have hc : cutB 58 (bodyF (a, b)) = some (a, 32 :: b) := by
    have := cutB_some 58 (bodyF (a, b)) a.length (by simp [bodyF]) (fun j hj hja => by
      have e : (bodyF (a, b))[j] = a[j] := by unfold bodyF; exact List.getElem_append_left hja
      rw [e]
      exact (tokB_end _ (ht _ (List.getElem_mem hja))).2.1) (by simp [bodyF])
    rw [this]
    simp [bodyF]
  unfold lineR
  rw [if_neg]
  · rw [hc]
    have e : trim (32 :: b) = b := by rw [trim_cons 32 b (by decide), good_trim b h2]
    simp only [lineC, e]
    rw [if_pos ⟨h1, h2⟩]
  · cases a with
    | nil => exact absurd rfl (tok_ne [] h1)
    | cons y r =>
      have := tokB_end y (ht y (by simp))
      simp [bodyF, this.2.2.1, this.2.2.2]
theorem body_end (x : Pair) (h : okF x = true) : ∀ y ∈ bodyF x, endB y = false := by
  unfold okF at h
  rw [Bool.and_eq_true] at h
  intro y hy
  unfold bodyF at hy
  rcases List.mem_append.1 hy with hy | hy
  · exact (tokB_end y (tok_byte x.1 h.1 y hy)).1
  · rcases List.mem_cons.1 hy with rfl | hy
    · decide
    · rcases List.mem_cons.1 hy with rfl | hy
      · decide
      · exact vcB_end y (vc_byte x.2 h.2 y hy)
theorem find_body (x : Pair) (h : okF x = true) (r : List UInt8) : (lineF x ++ r).findIdx endB = (bodyF x).length := by
  rw [lineF_body, List.append_assoc, List.findIdx_append]
  have hn : (bodyF x).findIdx endB = (bodyF x).length := by
    rw [List.findIdx_eq_length]
    intro y hy
    exact body_end x h y hy
  rw [hn, if_neg (Nat.lt_irrefl _)]
  have : ([13, 10] ++ r : List UInt8).findIdx endB = 0 := by
    rw [List.cons_append, List.findIdx_cons]; rfl
  rw [this]
  omega
theorem parse_line (x : Pair) (h : okF x = true) (out : List Pair) (ho : out.length < 100) (r : List UInt8) : parseA out (lineF x ++ r) = parseA (out ++ [x]) r := by
  have hf := find_body x h r
  have h0 : 0 < (lineF x ++ r).length := by rw [lineF_body]; simp; omega
  have ht : (lineF x ++ r).take ((lineF x ++ r).findIdx endB) = bodyF x := by
    rw [hf, lineF_body, List.append_assoc, List.take_append_of_le_length (Nat.le_refl _), List.take_length]
  have hd : (lineF x ++ r).drop ((lineF x ++ r).findIdx endB + 2) = r := by
    rw [hf, lineF_body]
    have : (bodyF x).length + 2 = (bodyF x ++ [13, 10]).length := by simp
    rw [this, List.drop_append_of_le_length (Nat.le_refl _), List.drop_length, List.nil_append]
  have he : eolAt (lineF x ++ r) ((lineF x ++ r).findIdx endB) = true := by
    rw [hf, lineF_body, List.append_assoc]
    unfold eolAt
    rw [decide_eq_true_iff]
    constructor
    · rw [List.getD_eq_getElem?_getD, List.getElem?_append_right (Nat.le_refl _), Nat.sub_self]; rfl
    · rw [List.getD_eq_getElem?_getD, List.getElem?_append_right (by omega)]
      rw [show (bodyF x).length + 1 - (bodyF x).length = 1 by omega]; rfl
  have hl := body_line x h
  rw [parseA_go out _ h0 he (by rw [ht, hl]) ho, ht, hd, hl]
theorem okAll_cons (x : Pair) (L : List Pair) : okAll (x :: L) = (okF x && okAll L) := by unfold okAll; rfl
theorem linesF_cons (x : Pair) (L : List Pair) : linesF (x :: L) = lineF x ++ linesF L := by unfold linesF; simp
theorem parse_lines : ∀ (L out : List Pair), okAll L = true → out.length + L.length ≤ 100 → parseA out (linesF L) = (out ++ L, 0)
  | [], out, _, _ => by rw [show linesF [] = [] from rfl, parseA_nil, List.append_nil]
  | x :: L, out, h, hl => by
    rw [okAll_cons, Bool.and_eq_true] at h
    rw [List.length_cons] at hl
    rw [linesF_cons, parse_line x h.1 out (by omega), parse_lines L _ h.2 (by rw [List.length_append]; simp; omega)]
    simp
/-- what is printed is read as it was -/
theorem parse_printed (L : List Pair) (h : (printT L).2 = 0) : parseT (printT L).1 = (L, 0) := by
  unfold printT at h ⊢
  by_cases ha : okAll L = true
  · rw [if_pos ha] at h ⊢
    by_cases h2 : 100 < L.length
    · rw [if_pos h2] at h; cases h
    · rw [if_neg h2]
      unfold parseT
      rw [parse_lines L [] ha (by simp; omega)]
      rfl
  · rw [if_neg ha] at h; cases h
theorem print_fail (L : List Pair) (h : (printT L).2 ≠ 0) : (printT L).1 = [] := by
  unfold printT at h ⊢
  by_cases ha : okAll L = true
  · rw [if_pos ha] at h ⊢
    by_cases h2 : 100 < L.length
    · rw [if_pos h2]
    · rw [if_neg h2] at h; exact absurd rfl h
  · rw [if_neg ha]
theorem line_ok (r : List UInt8) (h : (lineR r).2 = 0) : okF (lineR r).1 = true := by
  unfold lineR at h ⊢
  split at h
  · cases h
  · rename_i hh
    rw [if_neg hh]
    cases hc : cutB 58 r with
    | none => rw [hc] at h; cases h
    | some p =>
      obtain ⟨a, b⟩ := p
      rw [hc] at h
      simp only [lineC] at h ⊢
      split at h
      · rename_i hg
        rw [if_pos hg]
        unfold okF
        rw [hg.1, hg.2]
        rfl
      · cases h
theorem parsed_ok : ∀ (n : Nat) (l : List UInt8) (out A : List Pair), l.length = n → okAll out = true → parseA out l = (A, 0) → okAll A = true := by
  intro n
  induction n using Nat.strongRecOn with
  | ind n ih =>
    intro l out A hn ho hp
    by_cases h0 : 0 < l.length
    · cases he : eolAt l (l.findIdx endB) with
      | false => rw [parseA_bad out l h0 he] at hp; cases hp
      | true =>
        by_cases hl : (lineR (l.take (l.findIdx endB))).2 = 0
        · by_cases h100 : 100 ≤ out.length
          · rw [parseA_many out l h0 he hl h100] at hp; cases hp
          · rw [parseA_go out l h0 he hl (by omega)] at hp
            refine ih _ (by rw [List.length_drop]; omega) _ _ _ rfl ?_ hp
            unfold okAll at ho ⊢
            rw [List.all_append, ho, Bool.true_and]
            simp [line_ok _ hl]
        · rw [parseA_line out l h0 he hl] at hp
          exact absurd (congrArg Prod.snd hp) hl
    · have : l = [] := List.length_eq_zero_iff.1 (by omega)
      subst this
      rw [parseA_nil] at hp
      cases hp
      exact ho
/-- what is read may be printed -/
theorem print_parsed (l : List UInt8) (A : List Pair) (h : parseT l = (A, 0)) (hl : A.length ≤ 100) : printT A = (linesF A, 0) := by
  have := parsed_ok _ l [] A rfl rfl h
  unfold printT
  rw [if_pos this, if_neg (by omega)]
theorem lineF_len (x : Pair) : (lineF x).length = x.1.length + x.2.length + 4 := by unfold lineF; simp; omega
theorem line_len (r : List UInt8) (h : (lineR r).2 = 0) : (lineF (lineR r).1).length ≤ r.length + 3 := by
  rw [lineF_len]
  unfold lineR at h ⊢
  split at h
  · cases h
  · rename_i hh
    rw [if_neg hh]
    cases hc : cutB 58 r with
    | none => rw [hc] at h; cases h
    | some p =>
      obtain ⟨a, b⟩ := p
      have hl := cutB_len 58 r a b hc
      have ht := trim_length b
      rw [hc] at h
      simp only [lineC] at h ⊢
      split at h
      · rename_i hg
        rw [if_pos hg]
        simp only
        omega
      · cases h
theorem linesF_app (L M : List Pair) : linesF (L ++ M) = linesF L ++ linesF M := by unfold linesF; rw [List.map_append, List.flatten_append]
theorem parsed_len : ∀ (n : Nat) (l : List UInt8) (out A : List Pair), l.length = n → parseA out l = (A, 0) → (linesF A).length ≤ (linesF out).length + 2 * l.length := by
  intro n
  induction n using Nat.strongRecOn with
  | ind n ih =>
    intro l out A hn hp
    by_cases h0 : 0 < l.length
    · cases he : eolAt l (l.findIdx endB) with
      | false => rw [parseA_bad out l h0 he] at hp; cases hp
      | true =>
        have hk := eol_in l _ he
        by_cases hl : (lineR (l.take (l.findIdx endB))).2 = 0
        · by_cases h100 : 100 ≤ out.length
          · rw [parseA_many out l h0 he hl h100] at hp; cases hp
          · rw [parseA_go out l h0 he hl (by omega)] at hp
            have h1 := ih _ (by rw [List.length_drop]; omega) _ _ _ rfl hp
            have h2 := line_len _ hl
            rw [linesF_app, List.length_append, List.length_drop] at h1
            rw [List.length_take] at h2
            have h3 : (linesF [(lineR (l.take (l.findIdx endB))).1]).length = (lineF (lineR (l.take (l.findIdx endB))).1).length := by unfold linesF; simp
            omega
        · rw [parseA_line out l h0 he hl] at hp
          exact absurd (congrArg Prod.snd hp) hl
    · have : l = [] := List.length_eq_zero_iff.1 (by omega)
      subst this
      rw [parseA_nil] at hp
      cases hp
      simp
theorem linesF_mem (L : List Pair) : ∀ x ∈ L, x.1.length + x.2.length + 4 ≤ (linesF L).length := by
  induction L with
  | nil => simp
  | cons y L ih =>
    intro x hx
    rw [linesF_cons, List.length_append]
    rcases List.mem_cons.1 hx with rfl | hx
    · rw [lineF_len]; omega
    · have := ih x hx; omega
theorem parsed_mem (N : Nat) : ∀ (n : Nat) (l : List UInt8) (out A : List Pair), l.length = n → l.length ≤ N → (∀ x ∈ out, x.1.length + x.2.length ≤ N) → parseA out l = (A, 0) → ∀ x ∈ A, x.1.length + x.2.length ≤ N := by
  intro n
  induction n using Nat.strongRecOn with
  | ind n ih =>
    intro l out A hn hN ho hp
    by_cases h0 : 0 < l.length
    · cases he : eolAt l (l.findIdx endB) with
      | false => rw [parseA_bad out l h0 he] at hp; cases hp
      | true =>
        have hk := eol_in l _ he
        by_cases hl : (lineR (l.take (l.findIdx endB))).2 = 0
        · by_cases h100 : 100 ≤ out.length
          · rw [parseA_many out l h0 he hl h100] at hp; cases hp
          · rw [parseA_go out l h0 he hl (by omega)] at hp
            refine ih _ (by rw [List.length_drop]; omega) _ _ _ rfl (by rw [List.length_drop]; omega) ?_ hp
            intro x hx
            rcases List.mem_append.1 hx with hx | hx
            · exact ho x hx
            · rw [List.mem_singleton.1 hx]
              have h2 := line_len _ hl
              rw [lineF_len, List.length_take] at h2
              omega
        · rw [parseA_line out l h0 he hl] at hp
          exact absurd (congrArg Prod.snd hp) hl
    · have : l = [] := List.length_eq_zero_iff.1 (by omega)
      subst this
      rw [parseA_nil] at hp
      cases hp
      exact ho
end Go.Proofs.YtpgjlepjhbjhfaaDoor
