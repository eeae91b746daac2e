/-
  Parse, the document's: the fields of lines.
-/
import Derived.Test.YtpgjlepjhbjhfaaDoorParse
import Derived.Test.YtpgjlepjhbjhfaaDoorRefLine
namespace Go.Proofs.YtpgjlepjhbjhfaaDoor
open Go.RowKit

theorem bt_end (l : List UInt8) (j : Nat) (hj : j < l.length) : endB l[j] = decide (bt l j = 13 ∨ bt l j = 10) := by
  rw [bt_get l j hj]
  unfold endB
  rw [Bool.eq_iff_iff, Bool.or_eq_true, beq_iff_eq, beq_iff_eq, decide_eq_true_iff]
  constructor
  · rintro (h | h)
    · rw [h]; exact .inl rfl
    · rw [h]; exact .inr rfl
  · rintro (h | h)
    · exact .inl (UInt8.toNat_inj.1 (by show _ = 13; omega))
    · exact .inr (UInt8.toNat_inj.1 (by show _ = 10; omega))
theorem find_at (l : List UInt8) (q j : Nat) (hq : q ≤ j) (hj : j < l.length) (h1 : endB l[j] = true) (h0 : ∀ i, (hi : i < l.length) → q ≤ i → i < j → endB l[i] = false) : (l.drop q).findIdx endB = j - q := by
  have hl : j - q < (l.drop q).length := by rw [List.length_drop]; omega
  rw [List.findIdx_eq hl]
  have g : ∀ i (hi : i < (l.drop q).length), (l.drop q)[i] = l[q + i]'(by rw [List.length_drop] at hi; omega) := fun i hi => by rw [List.getElem_drop]
  refine ⟨?_, fun i hi => ?_⟩
  · rw [g _ hl, ← h1]; congr 1; congr 1; omega
  · rw [g i (by omega)]
    exact h0 _ _ (by omega) (by omega)
theorem find_end (l : List UInt8) (q : Nat) (h0 : ∀ i, (hi : i < l.length) → q ≤ i → endB l[i] = false) : (l.drop q).findIdx endB = (l.drop q).length := by
  rw [List.findIdx_eq_length]
  intro x hx
  obtain ⟨i, hi, rfl⟩ := List.getElem_of_mem hx
  rw [List.getElem_drop]
  rw [h0 _ _ (by omega)]
theorem eol_not (l : List UInt8) (k : Nat) (h : l.length ≤ k + 1) : eolAt l k = false := by
  cases he : eolAt l k with
  | false => rfl
  | true => have := eol_in l k he; omega
theorem eol_drop (l : List UInt8) (q j : Nat) (hq : q ≤ j) (hj : j + 1 < l.length) : eolAt (l.drop q) (j - q) = decide (bt l j = 13 ∧ bt l (j + 1) = 10) := by
  have g : ∀ i (hi : q + i < l.length), (l.drop q).getD i 0 = l[q + i] := fun i hi => by
    rw [List.getD_eq_getElem?_getD, List.getElem?_drop, List.getElem?_eq_getElem hi]; rfl
  unfold eolAt
  rw [g (j - q) (by omega), g (j - q + 1) (by omega), bt_get l j (by omega), bt_get l (j + 1) hj]
  have e1 : l[q + (j - q)]'(by omega) = l[j] := by congr 1; omega
  have e2 : l[q + (j - q + 1)]'(by omega) = l[j + 1] := by congr 1; omega
  rw [e1, e2, Bool.eq_iff_iff, decide_eq_true_iff, decide_eq_true_iff]
  constructor
  · rintro ⟨a, b⟩; rw [a, b]; exact ⟨rfl, rfl⟩
  · rintro ⟨a, b⟩; exact ⟨UInt8.toNat_inj.1 (by show _ = 13; omega), UInt8.toNat_inj.1 (by show _ = 10; omega)⟩

set_option maxHeartbeats 8000000 in
set_option maxRecDepth 100000 in
theorem refParse_any (l : List UInt8) (p : Option Addr) (n c : Nat) (hn : l.length = n) (hnc : n ≤ c) (hr : n ≤ 4000000000) (w : World) (h : In8 w p l) :
    Calls Tryd.prog 22 #[.slice p n c] w fun e w' => ∃ v, e = .returned (.tuple #[v, .int .i64 ((parseT l).2 : Int)]) ∧ OwnF w' w.heap.size v (parseT l).1 ∧ Below w.heap.size w w' := by
  subst hn
  obtain ⟨R, hR⟩ : ∃ R, R = parseT l := ⟨_, rfl⟩
  rw [← hR]
  have HR0 := Lib.hid hR
  clear hR
  have hb0 := (Below.refl w.heap.size w).alloc (Nat.le_refl _) (.cells #[] 26)
  go_enter Tryd.func22, Tryd.ntmps22
  go_wp2_with fail
  go_loopw [4, 5] (fun v i wr => ∃ (q : Nat) (out : List Pair), i = .int .i64 q ∧ q ≤ l.length ∧ OwnF wr w.heap.size v out ∧ out.length ≤ 100 ∧ parseA out (l.drop q) = R ∧ Below w.heap.size w wr) (fun _ i _ => l.length - (intOf i).toNat)
  case atStart => exact ⟨0, [], rfl, by omega, Own2.made _ _, by simp, HR0.out.symm, hb0⟩
  case round =>
    obtain ⟨q, out, rfl, hq, hown, ho, hpa, hb⟩ := hrel
    have hbs := hb.size
    have HP := Lib.hid hpa
    clear hpa
    by_cases hlt : q < l.length
    · obtain ⟨b, o, rfl, hc1⟩ := (h.below hb).at hlt
      have h0 : 0 < (l.drop q).length := by rw [List.length_drop]; omega
      have HC := Lib.hid hc1
      have H0 := Lib.hid h0
      clear hc1 h0
      go_wp2_with fail
      go_loopw [6] (fun i wx => ∃ j : Nat, q ≤ j ∧ j ≤ l.length ∧ i = .int .i64 j ∧ wx = wr ∧ ∀ t, (ht : t < l.length) → q ≤ t → t < j → endB l[t] = false) (fun i _ => l.length - (intOf i).toNat)
      case atStart => exact ⟨q, Nat.le_refl _, by omega, rfl, rfl, fun t _ h1 h2 => absurd h1 (by omega)⟩
      case round =>
        obtain ⟨j, hqj, hjl, rfl, rfl, hno⟩ := hrel
        have HN := Lib.hid hno
        clear hno
        by_cases hj : j < l.length
        · have hcj := HC.out j hj
          have he := bt_end l j hj
          by_cases h13 : bt l j = 13
          · have t1 : (bt l j != 13) = false := by rw [h13]; rfl
            have hf := find_at l q j hqj hj (by rw [he]; exact decide_eq_true (.inl h13)) HN.out
            have HF := Lib.hid hf
            clear hf he
            by_cases hj1 : j + 1 < l.length
            · have hcj1 := HC.out (j + 1) hj1
              have hcj2 := hcj1
              rw [← Nat.add_assoc] at hcj2
              have hel := eol_drop l q j hqj hj1
              by_cases h10 : bt l (j + 1) = 10
              · have t2 : (bt l (j + 1) != 10) = false := by rw [h10]; rfl
                have HE := Lib.hid (show eolAt (l.drop q) ((l.drop q).findIdx endB) = true by rw [HF.out, hel]; exact decide_eq_true ⟨h13, h10⟩)
                obtain ⟨x, hx⟩ : ∃ x : ByteArray, x = ⟨((l.drop q).take (j - q)).toArray⟩ := ⟨_, rfl⟩
                have hxd : x.data.toList = (l.drop q).take ((l.drop q).findIdx endB) := by rw [hx, HF.out]
                have hxs : x.size ≤ 4000000000 := by rw [← size_list, hxd, List.length_take, List.length_drop]; omega
                have hts := toStr_at (In8.fore2 (In8.from HC.out q) (j - q) (by rw [List.length_drop]; omega)) (k := j - q) (by rw [List.length_take, List.length_drop]; omega) (c - q)
                rw [← hx] at hts
                have hline := one_any x wr hxs
                rw [hxd] at hline
                obtain ⟨E, hE⟩ : ∃ E, E = (lineR ((l.drop q).take ((l.drop q).findIdx endB))).2 := ⟨_, rfl⟩
                obtain ⟨fx, hfx⟩ : ∃ t : ByteArray, t = ⟨(lineR ((l.drop q).take ((l.drop q).findIdx endB))).1.1.toArray⟩ := ⟨_, rfl⟩
                obtain ⟨fy, hfy⟩ : ∃ t : ByteArray, t = ⟨(lineR ((l.drop q).take ((l.drop q).findIdx endB))).1.2.toArray⟩ := ⟨_, rfl⟩
                have hfd : (fx.data.toList, fy.data.toList) = (lineR ((l.drop q).take ((l.drop q).findIdx endB))).1 := by rw [hfx, hfy]
                unfold fieldV at hline
                rw [← hE, ← hfx, ← hfy] at hline
                have HEE := Lib.hid hE
                have HFD := Lib.hid hfd
                clear hE hfx hfy hfd hx hxd hel h13 h10
                go_wp2_with fail
                refine hline.mono ?_
                rintro e w4 ⟨rfl, hb4⟩
                have hs4 := hb4.size
                have hb4u := hb.trans (hb4.mono hbs)
                have hb4a := hb4u.alloc (by omega) (.cells #[.string fx, .string fy] 26)
                by_cases he : E = 0
                · have hei : ((E : Int) != 0) = false := by subst he; rfl
                  by_cases ho100 : out.length = 100
                  · have hoi : (100 : Int) ≤ (out.length : Int) := by omega
                    have HR := Lib.hid (HP.out.symm.trans (parseA_many out (l.drop q) H0.out HE.out (by rw [← HEE.out]; exact he) (by omega)))
                    obtain ⟨pv, cv, rfl, _, _, _, _⟩ := Own2.shape hown rfl
                    clear he ho100
                    go_wp2_with fail
                    go_ret2
                    refine ⟨_, by rw [HR.out]; rfl, ?_, hb4a⟩
                    rw [HR.out]; exact Own2.nil _ _ _
                  · have hoi : ¬ (100 : Int) ≤ (out.length : Int) := by omega
                    have HR := Lib.hid (HP.out.symm.trans (parseA_go out (l.drop q) H0.out HE.out (by rw [← HEE.out]; exact he) (by omega)))
                    have hown4 := ((hown.below hb4).alloc (.cells #[.string fx, .string fy] 26)).alloc (.cells #[.string fx, .string fy] 26)
                    have hin5 := In2.one (w4.alloc (.cells #[.string fx, .string fy] 26)) fx fy 26
                    rw [World.size_alloc] at hin5
                    obtain ⟨pv, cv, rfl, _, _, _, _⟩ := Own2.shape hown4 rfl
                    have ho99 : out.length ≤ 99 := by omega
                    clear he ho100
                    go_wp2_with (at_builtin; refine wpList_append2 parF rfl _ _ rfl w.heap.size _ _ rfl hown4 _ _ _ _ rfl rfl hin5 (by simp; omega) (by simp; omega) ?_; intro v6 w6 hown6 hgrow6 _)
                    go_roundw
                    case rel =>
                      refine ⟨j + 2, out ++ [(fx.data.toList, fy.data.toList)], by go_num, by omega, hown6, by simp; omega, ?_, Own2.grown (hb4a.alloc (by simp; omega) _) (by simp; omega) hown4 hgrow6⟩
                      rw [HFD.out, HR.out, HF.out, List.drop_drop]
                      congr 2
                      omega
                    case measure => simp [intOf]; omega
                · have hei : ((E : Int) != 0) = true := by simp; omega
                  have HR := Lib.hid (HP.out.symm.trans (parseA_line out (l.drop q) H0.out HE.out (by rw [← HEE.out]; exact he)))
                  rw [← HEE.out] at HR
                  clear he
                  go_wp2_with fail
                  go_ret2
                  refine ⟨_, by rw [HR.out]; rfl, ?_, hb4a⟩
                  rw [HR.out]; exact Own2.nil _ _ _
              · have t2 : (bt l (j + 1) != 10) = true := by simp; exact h10
                have HR := Lib.hid (HP.out.symm.trans (parseA_bad out (l.drop q) H0.out (by rw [HF.out, hel]; exact decide_eq_false (fun h => h10 h.2))))
                clear hel h13 h10
                go_wp2_with fail
                go_ret2
                refine ⟨_, by rw [HR.out]; rfl, ?_, hb⟩
                rw [HR.out]; exact Own2.nil _ _ _
            · have hge : (l.length : Int) ≤ (j : Int) + 1 := by omega
              have HR := Lib.hid (HP.out.symm.trans (parseA_bad out (l.drop q) H0.out (by rw [HF.out]; exact eol_not _ _ (by rw [List.length_drop]; omega))))
              clear h13
              go_wp2_with fail
              go_ret2
              refine ⟨_, by rw [HR.out]; rfl, ?_, hb⟩
              rw [HR.out]; exact Own2.nil _ _ _
          · have t1 : (bt l j != 13) = true := by simp; exact h13
            by_cases h10 : bt l j = 10
            · have t2 : (bt l j != 10) = false := by rw [h10]; rfl
              have hf := find_at l q j hqj hj (by rw [he]; exact decide_eq_true (.inr h10)) HN.out
              have HR := Lib.hid (HP.out.symm.trans (parseA_bad out (l.drop q) H0.out (by
                rw [hf]
                by_cases hj1 : j + 1 < l.length
                · rw [eol_drop l q j hqj hj1]; exact decide_eq_false (fun h => h13 h.1)
                · exact eol_not _ _ (by rw [List.length_drop]; omega))))
              clear hf he h10 h13
              have two : (j : Int) + 1 < (l.length : Int) ∨ (l.length : Int) ≤ (j : Int) + 1 := by omega
              rcases two with two | two
              all_goals
                go_wp2_with fail
                go_ret2
                refine ⟨_, by rw [HR.out]; rfl, ?_, hb⟩
                rw [HR.out]; exact Own2.nil _ _ _
            · have t2 : (bt l j != 10) = true := by simp; exact h10
              have HNE := Lib.hid (show endB l[j] = false by rw [he]; exact decide_eq_false (by rintro (h | h); exact h13 h; exact h10 h))
              clear he h10 h13
              go_wp2_with fail
              go_roundw
              case rel =>
                refine ⟨j + 1, by omega, by omega, by go_num, by trivial, fun t ht h1 h2 => ?_⟩
                by_cases h : t = j
                · subst h; exact HNE.out
                · exact HN.out t ht h1 (by omega)
              case measure => simp [intOf]; omega
        · obtain rfl : j = l.length := by omega
          have hf := find_end l q (fun t ht h1 => HN.out t ht h1 ht)
          have HR := Lib.hid (HP.out.symm.trans (parseA_bad out (l.drop q) H0.out (by rw [hf]; exact eol_not _ _ (by omega))))
          clear hf
          go_wp2_with fail
          go_ret2
          refine ⟨_, by rw [HR.out]; rfl, ?_, hb⟩
          rw [HR.out]; exact Own2.nil _ _ _
    · obtain rfl : q = l.length := by omega
      have HR := Lib.hid (show R = (out, 0) by rw [← HP.out, List.drop_length]; exact parseA_nil out)
      go_wp2_with fail
      go_ret2
      exact ⟨_, by rw [HR.out]; rfl, by rw [HR.out]; exact hown, hb⟩
end Go.Proofs.YtpgjlepjhbjhfaaDoor
