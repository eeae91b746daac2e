/-
  Letters' case makes no difference to directives; one field or two. No program is in sight here.
-/
import Derived.Test.YtnengooipemffaaDoorCParse
namespace Go.Proofs.YtnengooipemffaaDoor

def upB (b : UInt8) : UInt8 := if 97 ≤ b.toNat ∧ b.toNat ≤ 122 then b - 32 else b
def upT (l : List UInt8) : List UInt8 := l.map upB
theorem all256 (p : UInt8 → Prop) (h : ∀ n : Fin 256, p (UInt8.ofNat n.val)) (x : UInt8) : p x := by
  have := h ⟨x.toNat, x.toNat_lt⟩
  simpa using this
theorem up_92 (x : UInt8) : (upB x == 92) = (x == 92) := all256 (fun x => (upB x == 92) = (x == 92)) (by decide +kernel) x
theorem up_34 (x : UInt8) : (upB x == 34) = (x == 34) := all256 (fun x => (upB x == 34) = (x == 34)) (by decide +kernel) x
theorem up_44 (x : UInt8) : (upB x == 44) = (x == 44) := all256 (fun x => (upB x == 44) = (x == 44)) (by decide +kernel) x
theorem up_61 (x : UInt8) : (upB x == 61) = (x == 61) := all256 (fun x => (upB x == 61) = (x == 61)) (by decide +kernel) x
theorem up_blank (x : UInt8) : blankB (upB x) = blankB x := all256 (fun x => blankB (upB x) = blankB x) (by decide +kernel) x
theorem up_dig (x : UInt8) : digB (upB x) = digB x := all256 (fun x => digB (upB x) = digB x) (by decide +kernel) x
theorem up_self (x : UInt8) (h : digB x = true) : upB x = x := all256 (fun x => digB x = true → upB x = x) (by decide +kernel) x h
theorem up_low (x : UInt8) : lowB (upB x) = lowB x := all256 (fun x => lowB (upB x) = lowB x) (by decide +kernel) x
theorem up_text (x : UInt8) : textB ((upB x).toNat : Int) = textB (x.toNat : Int) := all256 (fun x => textB ((upB x).toNat : Int) = textB (x.toNat : Int)) (by decide +kernel) x

theorem up_cutGo : ∀ (l cur : List UInt8) (q e : Bool), cutGo 44 (upT l) (upT cur) q e = (cutGo 44 l cur q e).map upT
  | [], cur, q, e => by rw [show upT [] = [] from rfl, cutGo_nil, cutGo_nil]; rfl
  | x :: r, cur, q, e => by
    have ih := up_cutGo r
    have ea : upT cur ++ [upB x] = upT (cur ++ [x]) := by unfold upT; simp
    rw [show upT (x :: r) = upB x :: upT r from rfl, cutGo, cutGo, up_92, up_34, up_44, ea]
    split
    · exact ih _ _ _
    · split
      · exact ih _ _ _
      · split
        · exact ih _ _ _
        · split
          · rw [List.map_cons, ← ih]; rfl
          · exact ih _ _ _
theorem up_pieces (l : List UInt8) : pieces 44 (upT l) = (pieces 44 l).map upT := up_cutGo l [] false false
theorem up_dropW (l : List UInt8) : (upT l).dropWhile blankB = upT (l.dropWhile blankB) := by
  induction l with
  | nil => rfl
  | cons x r ih =>
    rw [show upT (x :: r) = upB x :: upT r from rfl, List.dropWhile_cons, List.dropWhile_cons, up_blank]
    split
    · exact ih
    · rfl
theorem up_trim (l : List UInt8) : trim (upT l) = upT (trim l) := by
  have er : ∀ m : List UInt8, (upT m).reverse = upT m.reverse := fun m => by unfold upT; rw [List.map_reverse]
  rw [trim_eq, trim_eq, er, up_dropW, er, up_dropW]
theorem up_full (l : List UInt8) : full (upT l) = full l := by unfold full upT; cases l <;> rfl
theorem up_listOf (l : List UInt8) : listOf (upT l) = (listOf l).map upT := by
  unfold listOf
  rw [up_pieces, List.map_map, List.filter_map, List.filter_map, List.map_map]
  have e1 : trim ∘ upT = upT ∘ trim := funext fun x => up_trim x
  have e2 : full ∘ (trim ∘ upT) = full ∘ trim := funext fun x => by show full (trim (upT x)) = full (trim x); rw [up_trim, up_full]
  rw [e1] at e2 ⊢
  rw [e2]
theorem up_cutB (l : List UInt8) : cutB 61 (upT l) = (cutB 61 l).map fun p => (upT p.1, upT p.2) := by
  induction l with
  | nil => rfl
  | cons x r ih =>
    rw [show upT (x :: r) = upB x :: upT r from rfl, cutB, cutB]
    have h := up_61 x
    by_cases hx : x = 61
    · have : upB x = 61 := by rw [show (x == 61) = true from beq_iff_eq.2 hx] at h; exact beq_iff_eq.1 h
      rw [if_pos hx, if_pos this]; rfl
    · have : ¬ upB x = 61 := by rw [show (x == 61) = false from beq_eq_false_iff_ne.2 hx] at h; exact beq_eq_false_iff_ne.1 h
      rw [if_neg hx, if_neg this, ih]
      cases cutB 61 r <;> rfl
theorem up_fold (l : List UInt8) : fold (upT l) = fold l := by
  unfold fold upT
  rw [List.map_map]
  exact List.map_congr_left fun x _ => up_low x
theorem up_unqF : ∀ (l acc : List UInt8) (e : Bool), unqF (upT l) (upT acc) e = (unqF l acc e).map upT
  | [], acc, e => by rw [show upT [] = [] from rfl, unqF, unqF]; rfl
  | x :: r, acc, true => by
    have ih := up_unqF r
    have ea : upT acc ++ [upB x] = upT (acc ++ [x]) := by unfold upT; simp
    have ee : (upT r).isEmpty = r.isEmpty := by unfold upT; cases r <;> rfl
    rw [show upT (x :: r) = upB x :: upT r from rfl, unqF, unqF, up_text, ea, ee]
    split
    · rfl
    · split
      · exact ih _ _
      · rfl
  | x :: r, acc, false => by
    have ih := up_unqF r
    have ea : upT acc ++ [upB x] = upT (acc ++ [x]) := by unfold upT; simp
    have ee : (upT r).isEmpty = r.isEmpty := by unfold upT; cases r <;> rfl
    have e1 : (upB x = 34) ↔ (x = 34) := by have := up_34 x; rw [Bool.eq_iff_iff, beq_iff_eq, beq_iff_eq] at this; exact this
    have e2 : (upB x = 92) ↔ (x = 92) := by have := up_92 x; rw [Bool.eq_iff_iff, beq_iff_eq, beq_iff_eq] at this; exact this
    rw [show upT (x :: r) = upB x :: upT r from rfl, unqF, unqF, up_text, ea, ee]
    by_cases h1 : x = 34
    · rw [if_pos h1, if_pos (e1.2 h1)]
      split <;> rfl
    · rw [if_neg h1, if_neg (fun h => h1 (e1.1 h))]
      by_cases h2 : x = 92
      · rw [if_pos h2, if_pos (e2.2 h2)]
        exact ih _ _
      · rw [if_neg h2, if_neg (fun h => h2 (e2.1 h))]
        split
        · exact ih _ _
        · rfl
theorem up_head (l : List UInt8) : (upT l).head? = some 34 ↔ l.head? = some 34 := by
  cases l with
  | nil => exact Iff.rfl
  | cons x r =>
    have := up_34 x
    rw [Bool.eq_iff_iff, beq_iff_eq, beq_iff_eq] at this
    show some (upB x) = some 34 ↔ some x = some 34
    rw [Option.some.injEq, Option.some.injEq]
    exact this
theorem up_unqT (l : List UInt8) : unqT (upT l) = upT (unqT l) := by
  unfold unqT unq
  cases l with
  | nil => rfl
  | cons x r =>
    have h := up_head (x :: r)
    simp only [show upT (x :: r) = upB x :: upT r from rfl, List.head?_cons, Option.some.injEq] at h
    simp only [show upT (x :: r) = upB x :: upT r from rfl]
    by_cases h1 : x = 34
    · rw [if_pos h1, if_pos (h.2 h1)]
      have := up_unqF r [] false
      rw [show upT [] = [] from rfl] at this
      rw [this]
      cases unqF r [] false <;> rfl
    · rw [if_neg h1, if_neg (fun e => h1 (h.1 e))]; rfl
def upE (x : Ent) : Ent := (x.1, (upT x.2.1, x.2.2))
theorem up_dirT (d : List UInt8) : dirT (upT d) = upE (dirT d) := by
  unfold dirT
  rw [up_cutB]
  cases cutB 61 d with
  | none => simp only [Option.map_none, dirC, upE, up_fold]; rfl
  | some p =>
    obtain ⟨a, b⟩ := p
    simp only [Option.map_some, dirC, upE, up_fold]
    by_cases h : b.head? = some 34
    · rw [if_pos h, if_pos ((up_head b).2 h), up_unqT]
    · rw [if_neg h, if_neg (fun e => h ((up_head b).1 e))]
theorem up_dirs (v : List UInt8) : dirsOf [upT v] = (dirsOf [v]).map upE := by
  unfold dirsOf
  simp only [List.flatMap_cons, List.flatMap_nil, List.append_nil, up_listOf, List.map_map]
  exact List.map_congr_left fun x _ => up_dirT x
theorem up_lookM (D : List Ent) (k : List UInt8) : lookM (D.map upE) k = (lookM D k).map fun y => (upT y.1, y.2) := by
  unfold lookM
  rw [List.find?_map]
  have : (fun x : Ent => decide (x.1 = k)) ∘ upE = fun x => decide (x.1 = k) := rfl
  rw [this]
  cases D.find? fun x => decide (x.1 = k) <;> rfl
theorem up_secT (l : List UInt8) : secT (upT l) = secT l := by
  have hall : (upT l).all digB = l.all digB := by
    unfold upT; rw [List.all_map]; congr 1; exact funext fun x => up_dig x
  have hnil : upT l = [] ↔ l = [] := by unfold upT; simp
  unfold secT
  rw [hall]
  by_cases h0 : l = []
  · rw [if_pos h0, if_pos (hnil.2 h0)]
  · rw [if_neg h0, if_neg (fun h => h0 (hnil.1 h))]
    by_cases hd : l.all digB = true
    · rw [if_pos hd, if_pos hd]
      have : upT l = l := by
        unfold upT
        conv => rhs; rw [← List.map_id l]
        exact List.map_congr_left fun x hx => up_self x (List.all_eq_true.1 hd x hx)
      rw [this]
    · rw [if_neg hd, if_neg hd]
theorem up_ctlV (D : List Ent) (o : Bool) : ctlV (D.map upE) o = ctlV D o := by
  have hk : ∀ k, hasK (D.map upE) k = hasK D k := fun k => by unfold hasK; rw [up_lookM]; cases lookM D k <;> rfl
  have hn : ∀ k, numM (D.map upE) k = numM D k := fun k => by
    unfold numM; rw [up_lookM]
    cases lookM D k with
    | none => rfl
    | some x => simp only [Option.map_some, up_secT]
  have hp : patM (D.map upE) = patM D := by
    unfold patM; rw [up_lookM]
    cases lookM D staleL with
    | none => rfl
    | some x => simp only [Option.map_some, up_secT]
  unfold ctlV
  simp only [hk, hn, hp]

/-- one field or two -/
theorem cut_two : ∀ (a b cur : List UInt8), (∀ x ∈ a, x ≠ 34) → cutGo 44 (a ++ 44 :: b) cur false false = cutGo 44 a cur false false ++ pieces 44 b
  | [], b, cur, _ => by
    rw [List.nil_append]
    simp [cutGo, pieces]
  | x :: a, b, cur, h => by
    have ih := fun cur => cut_two a b cur (fun y hy => h y (List.mem_cons_of_mem _ hy))
    have e34 : (x == (34 : UInt8)) = false := beq_eq_false_iff_ne.2 (h x (by simp))
    rw [List.cons_append, cutGo, cutGo]
    simp only [Bool.false_eq_true, if_false, Bool.false_and, e34, Bool.not_false, Bool.true_and]
    split
    · rw [ih, List.cons_append]
    · rw [ih]
theorem listOf_two (a b : List UInt8) (h : ∀ x ∈ a, x ≠ 34) : listOf (a ++ 44 :: b) = listOf a ++ listOf b := by
  unfold listOf
  rw [show pieces 44 (a ++ 44 :: b) = pieces 44 a ++ pieces 44 b from cut_two a b [] h, List.map_append, List.filter_append]
theorem ctl_parts (a b : List UInt8) (h : ∀ x ∈ a, x ≠ 34) : ctlT [(ccW, a ++ 44 :: b)] = ctlT [(ccW, a), (ccW, b)] := by
  have e1 : valuesOf [(ccW, a ++ 44 :: b)] ccW = [a ++ 44 :: b] := by simp [valuesOf, hasName]
  have e2 : valuesOf [(ccW, a), (ccW, b)] ccW = [a, b] := by simp [valuesOf, hasName]
  unfold ctlT oldT
  rw [e1, e2]
  have e3 : dirsOf [a ++ 44 :: b] = dirsOf [a, b] := by
    unfold dirsOf
    simp [listOf_two a b h]
  rw [e3]
  rfl
theorem ctl_case (v o ns : List UInt8) (cu : List UInt8) (hcu : fold cu = fold ccW) : ctlT [(ccW, v)] = ctlT [(88 :: 45 :: o, ns), (cu, upT v)] := by
  have e1 : valuesOf [(ccW, v)] ccW = [v] := by simp [valuesOf, hasName]
  have e2 : valuesOf [(88 :: 45 :: o, ns), (cu, upT v)] ccW = [upT v] := by
    have h1 : ¬ fold (88 :: 45 :: o) = fold ccW := by
      intro e
      have : lowB 88 = lowB 67 := by
        have := congrArg List.head? e
        simpa [fold, ccW] using this
      exact absurd this (by decide)
    simp [valuesOf, hasName, h1, hcu]
  unfold ctlT oldT
  rw [e1, e2, up_dirs]
  show ctlV _ false = ctlV _ false
  rw [up_ctlV]
end Go.Proofs.YtnengooipemffaaDoor
