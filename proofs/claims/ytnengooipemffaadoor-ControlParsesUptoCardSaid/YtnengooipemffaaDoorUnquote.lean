/-
  Unquote;   Quote and Unquote of the program, the document's Unquote.
-/
import Derived.Test.YtnengooipemffaaDoorBuild
import Derived.Test.YtnengooipemffaaDoorQuoteLaw
import Derived.Test.YtnengooipemffaaDoorStrB
import Derived.Test.YtnengooipemffaaDoorToStr
import Derived.WalkSpells
namespace Go.Proofs.YtnengooipemffaaDoor
open Go.RowKit

theorem textB_9 : textB 9 = true := by decide
theorem tokText_any (c : Int) (h0 : 0 ≤ c) (h1 : c ≤ 255) (w : World) :
    Calls Tryd.prog 60 #[.int .u8 c] w fun e w' => e = .returned (.bool (textB c)) ∧ w = w' := by
  by_cases a : c = 9
  · subst a
    go_enter Tryd.func60, Tryd.ntmps60
    go_wp2
    go_ret
    exact ⟨ret_bool rfl, rfl⟩
  · have t1 : (c == 9) = false := beq_eq_false_iff_ne.2 a
    have HA := Lib.hid a
    clear a
    by_cases b : 32 ≤ c
    · by_cases d : c = 127
      · subst d
        go_enter Tryd.func60, Tryd.ntmps60
        go_wp2
        go_ret
        exact ⟨ret_bool rfl, rfl⟩
      · have t2 : (c == 127) = false := beq_eq_false_iff_ne.2 d
        have t3 : (c != 127) = true := by simp [bne, t2]
        have HR := Lib.hid (show textB c = true by unfold textB; rw [decide_eq_true_iff]; exact .inr ⟨b, d⟩)
        clear d
        go_enter Tryd.func60, Tryd.ntmps60
        go_wp2
        go_ret
        exact ⟨ret_bool HR.out.symm, rfl⟩
    · have HR := Lib.hid (show textB c = false by unfold textB; rw [decide_eq_false_iff_not]; have := HA.out; omega)
      go_enter Tryd.func60, Tryd.ntmps60
      go_wp2
      go_ret
      exact ⟨ret_bool HR.out.symm, rfl⟩
theorem refText_any (c : Int) (h0 : 0 ≤ c) (h1 : c ≤ 255) (w : World) :
    Calls Tryd.prog 65 #[.int .u8 c] w fun e w' => e = .returned (.bool (textB c)) ∧ w = w' := by
  by_cases a : c = 9
  · subst a
    go_enter Tryd.func65, Tryd.ntmps65
    go_wp2
    go_ret
    exact ⟨ret_bool rfl, rfl⟩
  · have t1 : (c == 9) = false := beq_eq_false_iff_ne.2 a
    have HA := Lib.hid a
    clear a
    by_cases b : 32 ≤ c
    · by_cases d : c = 127
      · subst d
        go_enter Tryd.func65, Tryd.ntmps65
        go_wp2
        go_ret
        exact ⟨ret_bool rfl, rfl⟩
      · have t2 : (c == 127) = false := beq_eq_false_iff_ne.2 d
        have t3 : (c != 127) = true := by simp [bne, t2]
        have HR := Lib.hid (show textB c = true by unfold textB; rw [decide_eq_true_iff]; exact .inr ⟨b, d⟩)
        clear d
        go_enter Tryd.func65, Tryd.ntmps65
        go_wp2
        go_ret
        exact ⟨ret_bool HR.out.symm, rfl⟩
    · have HR := Lib.hid (show textB c = false by unfold textB; rw [decide_eq_false_iff_not]; have := HA.out; omega)
      go_enter Tryd.func65, Tryd.ntmps65
      go_wp2
      go_ret
      exact ⟨ret_bool HR.out.symm, rfl⟩

theorem texts_no (l : List UInt8) (k : Nat) (hk : k < l.length) (h : textB (l[k].toNat : Int) = false) : texts l = false := by
  unfold texts
  rw [List.all_eq_false]
  exact ⟨l[k], List.getElem_mem hk, by simp [h]⟩
theorem texts_yes (l : List UInt8) (h : ∀ j, (hj : j < l.length) → textB (l[j].toNat : Int) = true) : texts l = true := by
  unfold texts
  rw [List.all_eq_true]
  intro b hb
  obtain ⟨j, hj, rfl⟩ := List.getElem_of_mem hb
  exact h j hj
theorem ret_pair {s t : ByteArray} {a b : Int} (h1 : s = t) (h2 : a = b) : Ending.returned (.tuple #[.string s, .int .i64 a]) = .returned (.tuple #[.string t, .int .i64 b]) := by rw [h1, h2]

theorem unq_none (l : List UInt8) (h : unq l = none) : unqT l = [] ∧ unqE l = 11 := by unfold unqT unqE; rw [h]; exact ⟨rfl, rfl⟩
theorem unq_some (l m : List UInt8) (h : unq l = some m) : unqT l = m ∧ unqE l = 0 := by unfold unqT unqE; rw [h]; exact ⟨rfl, rfl⟩
theorem ret_none (l : List UInt8) (h : unq l = none) : Ending.returned (.tuple #[.string ⟨#[]⟩, .int .i64 11]) = .returned (.tuple #[.string ⟨(unqT l).toArray⟩, .int .i64 (unqE l)]) :=
  ret_pair (by rw [(unq_none l h).1]) (unq_none l h).2.symm

section
variable (l acc : List UInt8) (k : Nat)
theorem unqF_q1 (hk : k + 1 = l.length) (h : (l[k].toNat : Int) = 34) : unqF (l.drop k) acc false = some acc := by
  have hx : l[k] = 34 := UInt8.toNat_inj.1 (by have : (34 : UInt8).toNat = 34 := rfl; omega)
  rw [List.drop_eq_getElem_cons (by omega), hx, unqF, if_pos rfl, List.drop_of_length_le (by omega)]; rfl
theorem unqF_q2 (hk : k + 1 < l.length) (h : (l[k].toNat : Int) = 34) : unqF (l.drop k) acc false = none := by
  have hx : l[k] = 34 := UInt8.toNat_inj.1 (by have : (34 : UInt8).toNat = 34 := rfl; omega)
  rw [List.drop_eq_getElem_cons (by omega), hx, unqF, if_pos rfl, List.drop_eq_getElem_cons hk]; rfl
theorem unqF_e (hk : k < l.length) (h : (l[k].toNat : Int) = 92) : unqF (l.drop k) acc false = unqF (l.drop (k + 1)) acc true := by
  have hx : l[k] = 92 := UInt8.toNat_inj.1 (by have : (92 : UInt8).toNat = 92 := rfl; omega)
  rw [List.drop_eq_getElem_cons hk, hx, unqF, if_neg (by decide), if_pos rfl]
theorem unqF_e0 (hk : l.length ≤ k + 1) : unqF (l.drop k) acc true = none := by
  by_cases h : k < l.length
  · rw [List.drop_eq_getElem_cons h, unqF, List.drop_of_length_le hk]; rfl
  · rw [List.drop_of_length_le (by omega), unqF]
theorem unqF_e1 (hk : k + 1 < l.length) (h : textB (l[k].toNat : Int) = false) : unqF (l.drop k) acc true = none := by
  rw [List.drop_eq_getElem_cons (by omega), unqF, List.drop_eq_getElem_cons hk]; simp [h]
theorem unqF_e2 (hk : k + 1 < l.length) (h : textB (l[k].toNat : Int) = true) : unqF (l.drop k) acc true = unqF (l.drop (k + 1)) (acc ++ [l[k]]) false := by
  have e : (l.drop (k + 1)).isEmpty = false := by rw [List.drop_eq_getElem_cons hk]; rfl
  rw [List.drop_eq_getElem_cons (show k < l.length by omega), unqF, e, h]; rfl
theorem unqF_t0 (hk : k < l.length) (h1 : ¬ (l[k].toNat : Int) = 34) (h2 : ¬ (l[k].toNat : Int) = 92) (h : textB (l[k].toNat : Int) = false) : unqF (l.drop k) acc false = none := by
  rw [List.drop_eq_getElem_cons hk, unqF, if_neg (fun e => h1 (by rw [e]; rfl)), if_neg (fun e => h2 (by rw [e]; rfl)), if_neg (by rw [h]; simp)]
theorem unqF_t1 (hk : k < l.length) (h1 : ¬ (l[k].toNat : Int) = 34) (h2 : ¬ (l[k].toNat : Int) = 92) (h : textB (l[k].toNat : Int) = true) : unqF (l.drop k) acc false = unqF (l.drop (k + 1)) (acc ++ [l[k]]) false := by
  rw [List.drop_eq_getElem_cons hk, unqF, if_neg (fun e => h1 (by rw [e]; rfl)), if_neg (fun e => h2 (by rw [e]; rfl)), if_pos h]
theorem unqF_x (hk : l.length ≤ k) : unqF (l.drop k) acc false = none := by rw [List.drop_of_length_le hk, unqF]
end
theorem unq_yes (l r : List UInt8) (h : l = 34 :: r) : unq l = unqF r [] false := by subst h; unfold unq; exact if_pos rfl
theorem unq_no (l : List UInt8) (h : ∀ r, l ≠ 34 :: r) : unq l = none := by
  cases l with
  | nil => rfl
  | cons x r => exact if_neg (fun e => h r (by rw [e]))
theorem cut_yes (l r : List UInt8) (h : l = 34 :: r) : Lib.trimPrefix l [34] = r ∧ Lib.hasPrefix l [34] = true := by
  subst h
  have e : Lib.hasPrefix (34 :: r) [34] = true := by unfold Lib.hasPrefix; simp
  refine ⟨?_, e⟩
  unfold Lib.trimPrefix; rw [e]; rfl
theorem cut_no (l : List UInt8) (h : ∀ r, l ≠ 34 :: r) : Lib.hasPrefix l [34] = false := by
  unfold Lib.hasPrefix
  cases l with
  | nil => rfl
  | cons x r =>
    have : x ≠ 34 := fun e => h r (by rw [e])
    simp only [List.isPrefixOf_cons_cons]
    rw [show ((34 : UInt8) == x) = false from beq_eq_false_iff_ne.2 (fun e => this e.symm)]
    rfl

theorem cutPrefix_any (s p : ByteArray) (w : World) :
    Calls Tryd.prog 58 #[.string s, .string p] w fun e w' => e = .returned (.tuple #[.string ⟨(Lib.trimPrefix s.data.toList p.data.toList).toArray⟩, .bool (Lib.hasPrefix s.data.toList p.data.toList)]) ∧ w = w' :=
  (Tryd.strings_CutPrefix s p w).mono fun _ _ ⟨h1, h2⟩ => ⟨h1, h2.symm⟩

set_option maxHeartbeats 4000000 in
theorem unquote_any (s : ByteArray) (w : World) (hs : s.size ≤ 140737488351232) :
    Calls Tryd.prog 42 #[.string s] w fun e w' => e = .returned (.tuple #[.string ⟨(unqT s.data.toList).toArray⟩, .int .i64 (unqE s.data.toList)]) ∧ Below w.heap.size w w' := by
  have hbl := Bld.fresh w
  have hb0 := (Below.refl w.heap.size w).alloc (Nat.le_refl _) (.cells #[.pointer none, .slice none 0 0] 84)
  by_cases hex : ∃ r, s.data.toList = 34 :: r
  · obtain ⟨r, hr⟩ := hex
    obtain ⟨hc1, hc2⟩ := cut_yes _ r hr
    have hu := unq_yes _ r hr
    have hrl : r.length + 1 = s.size := by rw [← size_list, hr]; simp
    have HU := Lib.hid hu
    have HC1 := Lib.hid hc1
    have HC2 := Lib.hid hc2
    clear hu hc1 hc2 hr
    go_enter Tryd.func42, Tryd.ntmps42
    go_wp2_with fail
    refine (cutPrefix_any s ⟨#[34]⟩ _).mono ?_
    rintro e w1 ⟨rfl, rfl⟩
    rw [show (⟨#[34]⟩ : ByteArray).data.toList = [34] from rfl, HC1.out, HC2.out]
    obtain ⟨t, ht⟩ : ∃ t : ByteArray, t = ⟨r.toArray⟩ := ⟨_, rfl⟩
    rw [← ht]
    have htl : t.data.toList = r := by rw [ht]
    have hts : t.size + 1 = s.size := by rw [← hrl, ← size_list, htl]
    subst htl
    have HZ := Lib.hid (size_list t)
    have HR := Lib.hid hrl
    have htz : t.size ≤ 140737488351232 := by omega
    clear ht hrl hts
    go_wp2_with fail
    go_loopw [6] (fun i wr => ∃ (k : Nat) (acc : List UInt8), k ≤ t.size ∧ i = .int .i64 k ∧ Bld wr w.heap.size w.heap.size acc ∧ acc.length ≤ k ∧ unqF (t.data.toList.drop k) acc false = unq s.data.toList ∧ Below w.heap.size w wr) (fun i _ => t.size - (intOf i).toNat)
    case atStart => exact ⟨0, [], by omega, rfl, hbl, by simp, HU.out.symm, hb0⟩
    case round =>
      obtain ⟨k, acc, hk, rfl, hbld, hal, heq, hb⟩ := hrel
      have hbs := hb.size
      have HE := Lib.hid heq
      clear heq
      by_cases hlt : k < t.size
      · have hl : k < t.data.toList.length := by rw [HZ.out]; exact hlt
        have hg : (t.data.toList[k].toNat : Int) = (t[k].toNat : Int) := by rw [← bt_str t k hlt, bt_get _ k hl]
        obtain ⟨b0, b1⟩ := byte_le t k hlt
        have hbe : t.data.toList[k] = t[k] := UInt8.toNat_inj.1 (by omega)
        have hub : ubyte (t[k].toNat : Int) = t.data.toList[k] := by rw [hbe]; exact ubyte_self _
        have HG := Lib.hid hg
        have HUB := Lib.hid hub
        clear hg hbe hub
        by_cases c1 : (t[k].toNat : Int) = 34
        · have t1 : ((t[k].toNat : Int) == 34) = true := beq_iff_eq.2 c1
          have HC := Lib.hid c1
          clear c1
          by_cases hk1 : k + 1 = t.size
          · have t2 : ((k : Int) == (t.size : Int) - 1) = true := beq_iff_eq.2 (by omega)
            have HF := Lib.hid (unq_some _ _ (HE.out.symm.trans (unqF_q1 _ acc k (by rw [HZ.out]; exact hk1) (by rw [HG.out]; exact HC.out))))
            have HK := Lib.hid hk1
            clear hk1
            go_wp2_with fail
            refine (bString_any _ _ _ _ hbld (by omega)).mono ?_
            rintro e w3 ⟨rfl, hb3⟩
            go_wp2_with fail
            go_ret2
            exact ⟨ret_pair (by rw [HF.out.1]) HF.out.2.symm, hb.trans hb3⟩
          · have t2 : ((k : Int) == (t.size : Int) - 1) = false := beq_eq_false_iff_ne.2 (by omega)
            have HF := Lib.hid (HE.out.symm.trans (unqF_q2 _ acc k (by rw [HZ.out]; omega) (by rw [HG.out]; exact HC.out)))
            clear hk1
            go_wp2_with fail
            go_ret2
            exact ⟨ret_none _ HF.out, hb⟩
        · have t1 : ((t[k].toNat : Int) == 34) = false := beq_eq_false_iff_ne.2 c1
          have HC := Lib.hid c1
          clear c1
          by_cases c2 : (t[k].toNat : Int) = 92
          · have t2 : ((t[k].toNat : Int) == 92) = true := beq_iff_eq.2 c2
            have HS := Lib.hid (unqF_e _ acc k hl (by rw [HG.out]; exact c2))
            have HC2' := Lib.hid c2
            clear c2
            by_cases hk2 : t.size ≤ k + 2
            · have HF := Lib.hid (HE.out.symm.trans (HS.out.trans (unqF_e0 _ acc (k + 1) (by rw [HZ.out]; omega))))
              have two : ((k : Int) + 1 == (t.size : Int) - 1) = true ∨ (((k : Int) + 1 == (t.size : Int) - 1) = false ∧ ((k : Int) + 1 == (t.size : Int)) = true) := by
                by_cases h : k + 2 = t.size
                · exact .inl (beq_iff_eq.2 (by omega))
                · exact .inr ⟨beq_eq_false_iff_ne.2 (by omega), beq_iff_eq.2 (by omega)⟩
              rcases two with t3 | ⟨t3, t4⟩
              all_goals
                go_wp2_with fail
                go_ret2
                exact ⟨ret_none _ HF.out, hb⟩
            · have t3 : ((k : Int) + 1 == (t.size : Int) - 1) = false := beq_eq_false_iff_ne.2 (by omega)
              have t4 : ((k : Int) + 1 == (t.size : Int)) = false := beq_eq_false_iff_ne.2 (by omega)
              have hlt1 : k + 1 < t.size := by omega
              have hl1 : k + 1 < t.data.toList.length := by rw [HZ.out]; exact hlt1
              have hg1 : (t.data.toList[k + 1].toNat : Int) = (t[k + 1].toNat : Int) := by rw [← bt_str t (k + 1) hlt1, bt_get _ (k + 1) hl1]
              obtain ⟨d0, d1⟩ := byte_le t (k + 1) hlt1
              have hbe1 : t.data.toList[k + 1] = t[k + 1] := UInt8.toNat_inj.1 (by omega)
              have hub1 : ubyte (t[k + 1].toNat : Int) = t.data.toList[k + 1] := by rw [hbe1]; exact ubyte_self _
              have HG1 := Lib.hid hg1
              have HUB1 := Lib.hid hub1
              clear hg1 hbe1 hub1
              go_wp2_with fail
              refine (tokText_any _ d0 d1 _).mono ?_
              rintro e w2 ⟨rfl, rfl⟩
              cases htx : textB (t[k + 1].toNat : Int)
              · have HF := Lib.hid (HE.out.symm.trans (HS.out.trans (unqF_e1 _ acc (k + 1) (by rw [HZ.out]; omega) (by rw [HG1.out]; exact htx))))
                clear htx
                go_wp2_with fail
                go_ret2
                exact ⟨ret_none _ HF.out, hb⟩
              · have HF := Lib.hid (HE.out.symm.trans (HS.out.trans (unqF_e2 _ acc (k + 1) (by rw [HZ.out]; omega) (by rw [HG1.out]; exact htx))))
                have HT := Lib.hid htx
                clear htx
                go_wp2_with fail
                refine (writeByte_any _ _ _ _ d0 d1 _ hbld (by omega) (by omega)).mono ?_
                rintro e w3 ⟨rfl, hbld3, hb3⟩
                rw [HUB1.out] at hbld3
                go_wp2_with fail
                go_roundw
                case rel => exact ⟨k + 2, _, by omega, by go_num, hbld3, by simp; omega, HF.out.symm, hb.trans hb3⟩
                case measure => simp [intOf]; omega
          · have t2 : ((t[k].toNat : Int) == 92) = false := beq_eq_false_iff_ne.2 c2
            have HC2' := Lib.hid c2
            clear c2
            go_wp2_with fail
            refine (tokText_any _ b0 b1 _).mono ?_
            rintro e w2 ⟨rfl, rfl⟩
            cases htx : textB (t[k].toNat : Int)
            · have HF := Lib.hid (HE.out.symm.trans (unqF_t0 _ acc k hl (by rw [HG.out]; exact HC.out) (by rw [HG.out]; exact HC2'.out) (by rw [HG.out]; exact htx)))
              clear htx
              go_wp2_with fail
              go_ret2
              exact ⟨ret_none _ HF.out, hb⟩
            · have HF := Lib.hid (HE.out.symm.trans (unqF_t1 _ acc k hl (by rw [HG.out]; exact HC.out) (by rw [HG.out]; exact HC2'.out) (by rw [HG.out]; exact htx)))
              have HT := Lib.hid htx
              clear htx
              go_wp2_with fail
              refine (writeByte_any _ _ _ _ b0 b1 _ hbld (by omega) (by omega)).mono ?_
              rintro e w3 ⟨rfl, hbld3, hb3⟩
              rw [HUB.out] at hbld3
              go_wp2_with fail
              go_roundw
              case rel => exact ⟨k + 1, _, by omega, by go_num, hbld3, by simp; omega, HF.out.symm, hb.trans hb3⟩
              case measure => simp [intOf]; omega
      · have HF := Lib.hid (HE.out.symm.trans (unqF_x _ acc k (by rw [HZ.out]; omega)))
        go_wp2_with fail
        go_ret2
        exact ⟨ret_none _ HF.out, hb⟩
  · have hno : ∀ r, s.data.toList ≠ 34 :: r := fun r h => hex ⟨r, h⟩
    have HC := Lib.hid (cut_no _ hno)
    have HU := Lib.hid (unq_no _ hno)
    clear hno hex
    go_enter Tryd.func42, Tryd.ntmps42
    go_wp2_with fail
    refine (cutPrefix_any s ⟨#[34]⟩ _).mono ?_
    rintro e w1 ⟨rfl, rfl⟩
    rw [show (⟨#[34]⟩ : ByteArray).data.toList = [34] from rfl, HC.out]
    generalize (⟨(Lib.trimPrefix s.data.toList [34]).toArray⟩ : ByteArray) = t
    go_wp2_with fail
    go_loopw [6] (fun i wr => i = .int .i64 0 ∧ Below w.heap.size w wr) (fun _ _ => 0)
    case atStart => exact ⟨rfl, hb0⟩
    case round =>
      obtain ⟨rfl, hb⟩ := hrel
      go_wp2
      go_ret2
      exact ⟨ret_none _ HU.out, hb⟩
end Go.Proofs.YtnengooipemffaaDoor
