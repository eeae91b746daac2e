/-
  The document's Unquote.
-/
import Derived.Test.YtnengooipemffaaDoorUnquote
import Derived.Lib.IndexBytes
namespace Go.Proofs.YtnengooipemffaaDoor
open Go.RowKit

section
variable (l acc : List UInt8) (k : Nat)
theorem midF_x (hk : l.length ≤ k) : midF (l.drop k) acc false = some acc := by rw [List.drop_of_length_le hk, midF]; rfl
theorem midF_e (hk : k < l.length) (h : (l[k].toNat : Int) = 92) : midF (l.drop k) acc false = midF (l.drop (k + 1)) acc true := by
  have hx : l[k] = 92 := UInt8.toNat_inj.1 (by have : (92 : UInt8).toNat = 92 := rfl; omega)
  rw [List.drop_eq_getElem_cons hk, hx, midF, if_pos rfl]
theorem midF_e0 (hk : l.length ≤ k) : midF (l.drop k) acc true = none := by rw [List.drop_of_length_le hk, midF]; rfl
theorem midF_e1 (hk : k < l.length) (h : textB (l[k].toNat : Int) = false) : midF (l.drop k) acc true = none := by
  rw [List.drop_eq_getElem_cons hk, midF, if_neg (by rw [h]; simp)]
theorem midF_e2 (hk : k < l.length) (h : textB (l[k].toNat : Int) = true) : midF (l.drop k) acc true = midF (l.drop (k + 1)) (acc ++ [l[k]]) false := by
  rw [List.drop_eq_getElem_cons hk, midF, if_pos h]
theorem midF_q (hk : k < l.length) (h : (l[k].toNat : Int) = 34) : midF (l.drop k) acc false = none := by
  have hx : l[k] = 34 := UInt8.toNat_inj.1 (by have : (34 : UInt8).toNat = 34 := rfl; omega)
  rw [List.drop_eq_getElem_cons hk, hx, midF, if_neg (by decide), if_pos rfl]
theorem midF_t0 (hk : k < l.length) (h1 : ¬ (l[k].toNat : Int) = 34) (h2 : ¬ (l[k].toNat : Int) = 92) (h : textB (l[k].toNat : Int) = false) : midF (l.drop k) acc false = none := by
  rw [List.drop_eq_getElem_cons hk, midF, if_neg (fun e => h2 (by rw [e]; rfl)), if_neg (fun e => h1 (by rw [e]; rfl)), if_neg (by rw [h]; simp)]
theorem midF_t1 (hk : k < l.length) (h1 : ¬ (l[k].toNat : Int) = 34) (h2 : ¬ (l[k].toNat : Int) = 92) (h : textB (l[k].toNat : Int) = true) : midF (l.drop k) acc false = midF (l.drop (k + 1)) (acc ++ [l[k]]) false := by
  rw [List.drop_eq_getElem_cons hk, midF, if_neg (fun e => h2 (by rw [e]; rfl)), if_neg (fun e => h1 (by rw [e]; rfl)), if_pos h]
end

theorem unq_short (l : List UInt8) (h : l.length < 2) : unq l = none := unq_bad l (fun m e => by rw [e] at h; simp at h; omega)
theorem unq_first (l : List UInt8) (h : 0 < l.length) (hx : ¬ (l[0].toNat : Int) = 34) : unq l = none := unq_bad l (fun m e => by subst e; exact hx rfl)
theorem unq_last (l : List UInt8) (n : Nat) (h : l.length = n + 1) (hx : ¬ (l[n].toNat : Int) = 34) : unq l = none :=
  unq_bad l (fun m e => by
    have hn : n = m.length + 1 := by rw [e] at h; simp at h; omega
    refine hx ?_
    have : l[n]? = some 34 := by rw [e, hn]; simp
    rw [List.getElem?_eq_getElem (by omega)] at this
    injection this with this
    rw [this]; rfl)
theorem unq_both (l : List UInt8) (n : Nat) (h : l.length = n + 2) (h0 : (l[0].toNat : Int) = 34) (hx : (l[n + 1].toNat : Int) = 34) : unq l = midF ((l.drop 1).take n) [] false := by
  have e : l = 34 :: ((l.drop 1).take n ++ [34]) := by
    apply List.ext_getElem
    · simp; omega
    · intro i h1 h2
      by_cases i0 : i = 0
      · subst i0; exact UInt8.toNat_inj.1 (by have : (34 : UInt8).toNat = 34 := rfl; simp; omega)
      · obtain ⟨j, rfl⟩ : ∃ j, i = j + 1 := ⟨i - 1, by omega⟩
        rw [List.getElem_cons_succ]
        by_cases hj : j < n
        · rw [List.getElem_append_left (by simp; omega)]
          simp
        · have hjn : j = n := by omega
          subst hjn
          rw [List.getElem_append_right (by simp; omega)]
          simp
          exact UInt8.toNat_inj.1 (by have : (34 : UInt8).toNat = 34 := rfl; omega)
  conv => lhs; rw [e]
  rw [unq_mid]

set_option maxHeartbeats 4000000 in
theorem refUnq_any (s : ByteArray) (w : World) (hs : s.size ≤ 140737488351232) :
    Calls Tryd.prog 49 #[.string s] w fun e w' => e = .returned (.tuple #[.string ⟨(unqT s.data.toList).toArray⟩, .int .i64 (unqE s.data.toList)]) ∧ Below w.heap.size w w' := by
  have HZ := Lib.hid (size_list s)
  by_cases hsh : s.size < 2
  · have HF := Lib.hid (unq_short s.data.toList (by rw [HZ.out]; exact hsh))
    go_enter Tryd.func49, Tryd.ntmps49
    go_wp2
    go_ret2
    exact ⟨ret_none _ HF.out, Below.refl _ _⟩
  · obtain ⟨n, hn⟩ : ∃ n, s.size = n + 2 := ⟨s.size - 2, by omega⟩
    have hl0 : 0 < s.size := by omega
    have hll0 : 0 < s.data.toList.length := by rw [HZ.out]; exact hl0
    have hg0 : (s.data.toList[0].toNat : Int) = (s[0].toNat : Int) := by rw [← bt_str s 0 hl0, bt_get _ 0 hll0]
    have HG0 := Lib.hid hg0
    have HN := Lib.hid hn
    have z1 : (2 : Int) ≤ (s.size : Int) := by omega
    have z2 : s.size - 1 < s.size := by omega
    have z3 : n + 1 < s.size := by omega
    have e1 : s.size - 1 = n + 1 := by omega
    have hgl : (s.data.toList[n + 1]'(by rw [HZ.out]; exact z3)).toNat = s[s.size - 1].toNat := by
      have h1 : ((s.data.toList[n + 1]'(by rw [HZ.out]; exact z3)).toNat : Int) = (s[n + 1].toNat : Int) := by rw [← bt_str s (n + 1) z3, bt_get _ (n + 1) (by rw [HZ.out]; exact z3)]
      have h2 : s[n + 1] = s[s.size - 1] := by congr 1; omega
      rw [← h2]; omega
    have HGL := Lib.hid hgl
    clear hg0 hn hgl e1
    by_cases h0 : (s[0].toNat : Int) = 34
    · have t0 : ((s[0].toNat : Int) == 34) = true := beq_iff_eq.2 h0
      have t0' : ((s[0].toNat : Int) != 34) = false := by simp [bne, t0]
      have H0 := Lib.hid h0
      clear h0
      by_cases h1 : (s[s.size - 1].toNat : Int) = 34
      · have t1 : ((s[s.size - 1].toNat : Int) == 34) = true := beq_iff_eq.2 h1
        have t1' : ((s[s.size - 1].toNat : Int) != 34) = false := by simp [bne, t1]
        have HF := Lib.hid (unq_both s.data.toList n (by rw [HZ.out, HN.out]) (by rw [HG0.out]; exact H0.out) (by rw [HGL.out]; exact h1))
        clear h1
        have z4 : (1 : Int) ≤ (s.size : Int) - 1 := by omega
        have z5 : (s.size : Int) - 1 ≤ (s.size : Int) := by omega
        go_enter Tryd.func49, Tryd.ntmps49
        have hte : (s.extract 1 (s.size - 1)).data.toList = (s.data.toList.drop 1).take n := by
          rw [Lib.extract_data, HN.out]; rfl
        have hfin := HF.out
        rw [← hte] at hfin
        have hts : (s.extract 1 (s.size - 1)).size = n := by
          rw [← size_list, hte, List.length_take, List.length_drop, HZ.out, HN.out]; omega
        generalize htt : s.extract 1 (s.size - 1) = t at *
        subst hts
        have HTT := Lib.hid htt
        have HTE := Lib.hid hte
        have HFI := Lib.hid hfin
        have HZT := Lib.hid (size_list t)
        have htz : t.size ≤ 140737488351232 := by have := HN.out; omega
        clear htt hte hfin
        go_wp2
        rw [HTT.out]
        have hb0 := (Below.refl w.heap.size w).alloc (Nat.le_refl _) (.cells #[] 5)
        go_loopw [5, 6] (fun v i wr => ∃ (k : Nat) (acc : List UInt8), k ≤ t.size ∧ i = .int .i64 k ∧ Own8 wr w.heap.size v acc ∧ acc.length ≤ k ∧ midF (t.data.toList.drop k) acc false = unq s.data.toList ∧ Below w.heap.size w wr) (fun _ i _ => t.size - (intOf i).toNat)
        case atStart => exact ⟨0, [], by omega, rfl, Own8.made w, by simp, HFI.out.symm, hb0⟩
        case round =>
          obtain ⟨k, acc, hk, rfl, hown, hal, heq, hb⟩ := hrel
          have hbs := hb.size
          have HE := Lib.hid heq
          clear heq
          by_cases hlt : k < t.size
          · have hl : k < t.data.toList.length := by rw [HZT.out]; exact hlt
            have hg : (t.data.toList[k].toNat : Int) = (t[k].toNat : Int) := by rw [← bt_str t k hlt, bt_get _ k hl]
            obtain ⟨b0, b1⟩ := byte_le t k hlt
            have hbe : t.data.toList[k] = t[k] := UInt8.toNat_inj.1 (by omega)
            have hub : ubyte (t[k].toNat : Int) = t.data.toList[k] := by rw [hbe]; exact ubyte_self _
            have HG := Lib.hid hg
            have HUB := Lib.hid hub
            clear hg hbe hub
            by_cases c2 : (t[k].toNat : Int) = 92
            · have t2 : ((t[k].toNat : Int) == 92) = true := beq_iff_eq.2 c2
              have HS := Lib.hid (midF_e _ acc k hl (by rw [HG.out]; exact c2))
              have HC2' := Lib.hid c2
              clear c2
              by_cases hk2 : t.size ≤ k + 1
              · have HF' := Lib.hid (HE.out.symm.trans (HS.out.trans (midF_e0 _ acc (k + 1) (by rw [HZT.out]; omega))))
                have q1 : (t.size : Int) ≤ (k : Int) + 1 := by omega
                go_wp2_with fail
                go_ret2
                exact ⟨ret_none _ HF'.out, hb⟩
              · have hlt1 : k + 1 < t.size := by omega
                have q1 : ¬ (t.size : Int) ≤ (k : Int) + 1 := by omega
                have hl1 : k + 1 < t.data.toList.length := by rw [HZT.out]; exact hlt1
                have hg1 : (t.data.toList[k + 1].toNat : Int) = (t[k + 1].toNat : Int) := by rw [← bt_str t (k + 1) hlt1, bt_get _ (k + 1) hl1]
                obtain ⟨d0, d1⟩ := byte_le t (k + 1) hlt1
                have hbe1 : t.data.toList[k + 1] = t[k + 1] := UInt8.toNat_inj.1 (by omega)
                have hub1 : ubyte (t[k + 1].toNat : Int) = t.data.toList[k + 1] := by rw [hbe1]; exact ubyte_self _
                have HG1 := Lib.hid hg1
                have HUB1 := Lib.hid hub1
                clear hg1 hbe1 hub1
                go_wp2_with fail
                refine (refText_any _ d0 d1 _).mono ?_
                rintro e w2 ⟨rfl, rfl⟩
                cases htx : textB (t[k + 1].toNat : Int)
                · have HF' := Lib.hid (HE.out.symm.trans (HS.out.trans (midF_e1 _ acc (k + 1) hl1 (by rw [HG1.out]; exact htx))))
                  clear htx
                  go_wp2_with fail
                  go_ret2
                  exact ⟨ret_none _ HF'.out, hb⟩
                · have HF' := Lib.hid (HE.out.symm.trans (HS.out.trans (midF_e2 _ acc (k + 1) hl1 (by rw [HG1.out]; exact htx))))
                  have HT := Lib.hid htx
                  clear htx
                  have hin := In8.one wr (t[k + 1].toNat : Int) d0 d1
                  rw [HUB1.out] at hin
                  have hown2 := hown.alloc (.cells #[.int .u8 (t[k + 1].toNat : Int)] 5)
                  go_wp2_with (at_builtin; refine wpList_append8 rfl _ _ rfl w.heap.size _ _ rfl hown2 _ _ _ _ rfl rfl hin (by simp; omega) (by simp; omega) ?_; intro v3 w3 hown3 hgrow3 _)
                  go_roundw
                  case rel => exact ⟨k + 2, _, by omega, by go_num, hown3, by simp; omega, HF'.out.symm, own_grown (hb.alloc hbs _) (by simp; omega) hown2 hgrow3⟩
                  case measure => simp [intOf]; omega
            · have t2 : ((t[k].toNat : Int) == 92) = false := beq_eq_false_iff_ne.2 c2
              have HC2' := Lib.hid c2
              clear c2
              by_cases c1 : (t[k].toNat : Int) = 34
              · have t1 : ((t[k].toNat : Int) == 34) = true := beq_iff_eq.2 c1
                have HF' := Lib.hid (HE.out.symm.trans (midF_q _ acc k hl (by rw [HG.out]; exact c1)))
                have HC := Lib.hid c1
                clear c1
                go_wp2_with fail
                go_ret2
                exact ⟨ret_none _ HF'.out, hb⟩
              · have t1 : ((t[k].toNat : Int) == 34) = false := beq_eq_false_iff_ne.2 c1
                have HC := Lib.hid c1
                clear c1
                go_wp2_with fail
                refine (refText_any _ b0 b1 _).mono ?_
                rintro e w2 ⟨rfl, rfl⟩
                cases htx : textB (t[k].toNat : Int)
                · have HF' := Lib.hid (HE.out.symm.trans (midF_t0 _ acc k hl (by rw [HG.out]; exact HC.out) (by rw [HG.out]; exact HC2'.out) (by rw [HG.out]; exact htx)))
                  clear htx
                  go_wp2_with fail
                  go_ret2
                  exact ⟨ret_none _ HF'.out, hb⟩
                · have HF' := Lib.hid (HE.out.symm.trans (midF_t1 _ acc k hl (by rw [HG.out]; exact HC.out) (by rw [HG.out]; exact HC2'.out) (by rw [HG.out]; exact htx)))
                  have HT := Lib.hid htx
                  clear htx
                  have hin := In8.one wr (t[k].toNat : Int) b0 b1
                  rw [HUB.out] at hin
                  have hown2 := hown.alloc (.cells #[.int .u8 (t[k].toNat : Int)] 5)
                  go_wp2_with (at_builtin; refine wpList_append8 rfl _ _ rfl w.heap.size _ _ rfl hown2 _ _ _ _ rfl rfl hin (by simp; omega) (by simp; omega) ?_; intro v3 w3 hown3 hgrow3 _)
                  go_roundw
                  case rel => exact ⟨k + 1, _, by omega, by go_num, hown3, by simp; omega, HF'.out.symm, own_grown (hb.alloc hbs _) (by simp; omega) hown2 hgrow3⟩
                  case measure => simp [intOf]; omega
          · have HF' := Lib.hid (unq_some _ _ (HE.out.symm.trans (midF_x _ acc k (by rw [HZT.out]; omega))))
            obtain ⟨p, c, rfl, h1, h2, hin⟩ := hown.in8
            have hts := toStr_at hin rfl c
            go_wp2_with fail
            go_ret2
            exact ⟨ret_pair (by rw [HF'.out.1]) HF'.out.2.symm, hb⟩
      · have t1 : ((s[s.size - 1].toNat : Int) == 34) = false := beq_eq_false_iff_ne.2 h1
        have t1' : ((s[s.size - 1].toNat : Int) != 34) = true := by simp [bne, t1]
        have HF := Lib.hid (unq_last s.data.toList (n + 1) (by rw [HZ.out, HN.out]) (by rw [HGL.out]; exact h1))
        clear h1
        go_enter Tryd.func49, Tryd.ntmps49
        go_wp2
        go_ret2
        exact ⟨ret_none _ HF.out, Below.refl _ _⟩
    · have t0 : ((s[0].toNat : Int) == 34) = false := beq_eq_false_iff_ne.2 h0
      have t0' : ((s[0].toNat : Int) != 34) = true := by simp [bne, t0]
      have HF := Lib.hid (unq_first s.data.toList hll0 (by rw [HG0.out]; exact h0))
      clear h0
      go_enter Tryd.func49, Tryd.ntmps49
      go_wp2
      go_ret2
      exact ⟨ret_none _ HF.out, Below.refl _ _⟩
end Go.Proofs.YtnengooipemffaaDoor
