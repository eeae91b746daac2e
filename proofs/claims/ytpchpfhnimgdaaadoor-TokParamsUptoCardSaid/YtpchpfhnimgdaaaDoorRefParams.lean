/-
  The document's Params.
-/
import Derived.Test.YtpchpfhnimgdaaaDoorParams
import Derived.Test.YtpchpfhnimgdaaaDoorRefUnq
namespace Go.Proofs.YtpchpfhnimgdaaaDoor
open Go.RowKit

theorem cut_at (x : ByteArray) (j : Nat) (hj : j < x.size) (hn : ∀ i, (h : i < x.data.toList.length) → i < j → ¬ (x.data.toList[i].toNat : Int) = 61) (h : (x[j].toNat : Int) = 61) : cutB 61 x.data.toList = some (x.data.toList.take j, x.data.toList.drop (j + 1)) := by
  obtain ⟨hl, hg⟩ := get_str x j hj
  refine cutB_some 61 _ j hl (fun i hi hij e => hn i hi hij (by rw [e]; rfl)) (UInt8.toNat_inj.1 ?_)
  have : (61 : UInt8).toNat = 61 := rfl
  omega
theorem cut_end (x : ByteArray) (hn : ∀ i, (h : i < x.data.toList.length) → i < x.size → ¬ (x.data.toList[i].toNat : Int) = 61) : cutB 61 x.data.toList = none := by
  refine cutB_none 61 _ (fun y hy e => ?_)
  obtain ⟨i, hi, rfl⟩ := List.getElem_of_mem hy
  exact hn i hi (by rw [← size_list]; exact hi) (by rw [e]; rfl)
theorem fore_list (s : ByteArray) (k : Nat) : (s.extract 0 k).data.toList = s.data.toList.take k := by
  rw [Lib.extract_data, List.drop_zero, Nat.sub_zero]

set_option maxHeartbeats 8000000 in
theorem refParams_any (s : ByteArray) (w : World) (hs : s.size ≤ 1000000000) :
    Calls Tryd.prog 23 #[.string s] w fun e w' => (∃ v, e = .returned (.tuple #[.string ⟨(parV s.data.toList).toArray⟩, v, .int .i64 (parE s.data.toList)]) ∧ Own2 36 w' w.heap.size v (parL s.data.toList)) ∧ Below w.heap.size w w' := by
  have HZ := Lib.hid (size_list s)
  obtain ⟨hl0, hl1⟩ := parM_length s.data.toList
  have hmem := parM_mem s.data.toList
  have hpm := pieces_part 59 s.data.toList
  rw [HZ.out] at hl1
  obtain ⟨P, hP⟩ : ∃ P, P = pieces 59 s.data.toList := ⟨_, rfl⟩
  obtain ⟨M, hM⟩ : ∃ M, M = parM s.data.toList := ⟨_, rfl⟩
  have hMP : M = P.map trim := by rw [hM, hP]; rfl
  rw [← hM] at hl0 hl1 hmem
  rw [← hP] at hpm
  obtain ⟨m, hm0⟩ : ∃ m, M.length = m + 1 := ⟨M.length - 1, by omega⟩
  have hPl : P.length = m + 1 := by rw [← hm0, hMP, List.length_map]
  have hMg : ∀ k (h : k < P.length) (h2 : k < M.length), M[k] = trim P[k] := by subst hMP; intro k h h2; simp
  have HM := Lib.hid hM
  have HP := Lib.hid hP
  have HMEM := Lib.hid hmem
  have HPM := Lib.hid hpm
  have HN := Lib.hid hm0
  have HPL := Lib.hid hPl
  have HMG := Lib.hid hMg
  rw [hm0] at hl1
  clear hM hmem hm0 hP hMP hpm hPl hMg
  go_enter Tryd.func23, Tryd.ntmps23
  go_wp2_with fail
  refine (refPieces_any s 59 59 cell59 (by decide) _ (by omega)).mono ?_
  rintro e w1 ⟨v1, rfl, hown1, hb1⟩
  rw [← HP.out] at hown1
  obtain ⟨p, c, rfl, k1, k2, hin, _⟩ := hown1.shape HPL.out
  have hs1 := hb1.size
  unfold maxLen at k2
  clear hown1
  obtain ⟨b, o, rfl, x0, hc0, hx0⟩ := hin.at (show 0 < P.length by rw [HPL.out]; omega)
  rw [Nat.add_zero] at hc0
  have hhead : M.headD [] = trim x0.data.toList := by
    rw [hx0, ← HMG.out 0 (by rw [HPL.out]; omega) hl0]
    cases M with
    | nil => simp at hl0
    | cons _ _ => rfl
  have hx0s : x0.size ≤ s.size := by rw [← size_list, hx0, ← HZ.out]; exact HPM.out _ (List.getElem_mem _)
  have HH := Lib.hid hhead
  clear hx0 hhead
  have hcells : ∀ i, (h : i < P.length) → ∃ x : ByteArray, w1.cell? ⟨b, o + i, none⟩ = some (.string x) ∧ x.data.toList = P[i] := by
    intro i h
    obtain ⟨b', o', e, x, h1, h2⟩ := hin.at h
    simp only [Option.some.injEq, Addr.mk.injEq, and_true] at e
    obtain ⟨rfl, rfl⟩ := e
    exact ⟨x, h1, h2⟩
  have HCE := Lib.hid hcells
  have hst0 : parSt [] (M.drop 1) = parR s.data.toList := by unfold parSt parR; rw [← HM.out]; simp
  have HS0 := Lib.hid hst0
  clear hcells hst0 hin
  go_wp2_with fail
  go_loopw [6, 7] (fun v i wr => ∃ (k : Nat) (out : List Pair), 1 ≤ k ∧ k ≤ m + 1 ∧ i = .int .i64 k ∧ Own2 36 wr w1.heap.size v out ∧ out.length ≤ k ∧ parSt out (M.drop k) = parR s.data.toList ∧ Below w1.heap.size w1 wr) (fun _ i _ => m + 1 - (intOf i).toNat)
  case atStart => exact ⟨1, [], by omega, by omega, rfl, Own2.made _ _, by simp, HS0.out, (Below.refl _ _).alloc (Nat.le_refl _) _⟩
  case round =>
    obtain ⟨k, out, hk0, hk, rfl, hown, hol, heq, hb⟩ := hrel
    have hbs := hb.size
    have HE := Lib.hid heq
    clear heq
    by_cases hlt : k < m + 1
    · have hlM : k < M.length := by rw [HN.out]; exact hlt
      have hlP : k < P.length := by rw [HPL.out]; exact hlt
      obtain ⟨y, hcy0, hy⟩ := HCE.out k hlP
      have hcy := cell_keep hcy0 hb
      have hys : y.size ≤ s.size := by rw [← size_list, hy, ← HZ.out]; exact HPM.out _ (List.getElem_mem hlP)
      have HY := Lib.hid hy
      clear hy hcy0
      go_wp2_with fail
      refine (refTrim_any y _ (by unfold maxLen; omega)).mono ?_
      rintro e w2 ⟨rfl, rfl⟩
      rw [HY.out]
      obtain ⟨x, hx⟩ : ∃ x : ByteArray, x = ⟨(trim P[k]).toArray⟩ := ⟨_, rfl⟩
      have hxd : x.data.toList = M[k] := by rw [hx, HMG.out k hlP hlM]
      rw [← hx]
      have hdr : M.drop k = x.data.toList :: M.drop (k + 1) := by rw [List.drop_eq_getElem_cons hlM, hxd]
      have hxs : x.size ≤ s.size := by rw [← size_list, hxd, ← HZ.out]; exact HMEM.out _ (List.getElem_mem hlM)
      have HD := Lib.hid hdr
      have HXZ := Lib.hid (size_list x)
      clear hdr hxd hx
      by_cases hem : x.data.toList.isEmpty = true
      · have e1 : x.toList.isEmpty = true := by rw [Lib.toList_data]; exact hem
        have e3 : x.toList = [] := by simpa using e1
        have HSK := Lib.hid (parSt_skip out _ (M.drop (k + 1)) hem)
        clear hem e1
        go_wp2_with fail
        go_roundw
        case rel => exact ⟨k + 1, out, by omega, by omega, by go_num, hown, by omega, by rw [← HSK.out, ← HD.out]; exact HE.out, hb⟩
        case measure => simp [intOf]; omega
      · have hem' : x.data.toList.isEmpty = false := by simpa using hem
        have e1 : x.toList.isEmpty = false := by rw [Lib.toList_data]; exact hem'
        have e2 : (x.toList == []) = false := by rw [Lib.toList_data]; cases hq : x.data.toList with | nil => rw [hq] at hem'; simp at hem' | cons _ _ => rfl
        have HEM := Lib.hid hem'
        clear hem hem'
        have hbad : par1 x.data.toList = none → parR s.data.toList = none := fun h => by
          rw [← HE.out, HD.out, parSt_bad out _ _ HEM.out h]
        have hgood : ∀ y : Pair, par1 x.data.toList = some y → parSt (out ++ [y]) (M.drop (k + 1)) = parR s.data.toList := fun y h => by
          rw [← HE.out, HD.out, parSt_good out _ _ y HEM.out h]
        have HBAD := Lib.hid hbad
        have HGOOD := Lib.hid hgood
        clear hbad hgood
        obtain ⟨wo, rfl⟩ : ∃ wo : World, wo = wr := ⟨_, rfl⟩
        go_wp2_with fail
        go_loopw [9] (fun q wj => ∃ j : Nat, j ≤ x.size ∧ q = .int .i64 j ∧ (∀ i, (h : i < x.data.toList.length) → i < j → ¬ (x.data.toList[i].toNat : Int) = 61) ∧ wj = wo) (fun q _ => x.size - (intOf q).toNat)
        case atStart => exact ⟨0, by omega, rfl, fun i _ h => absurd h (Nat.not_lt_zero i), rfl⟩
        case round =>
          obtain ⟨j, hj, rfl, hno, rfl⟩ := hrel
          have HNO := Lib.hid hno
          clear hno
          by_cases hjlt : j < x.size
          · obtain ⟨hjl, hjg⟩ := get_str x j hjlt
            have HJG := Lib.hid hjg
            clear hjg
            by_cases h61 : (x[j].toNat : Int) = 61
            · have t1 := beq_t h61
              have t1' : ((x[j].toNat : Int) != 61) = false := by simp [bne, t1]
              have t2 : ((j : Int) == (x.size : Int)) = false := beq_f (by omega)
              have hcut := cut_at x j hjlt HNO.out h61
              have HP1 := Lib.hid (par1_cut _ _ _ hcut)
              have z1 : (j : Int) ≤ (x.size : Int) := by omega
              have z2 : (j : Int) + 1 ≤ (x.size : Int) := by omega
              have hfl := fore_list x j
              have hrl := rest_list x (j + 1)
              have hfs : (x.extract 0 j).size ≤ s.size := by rw [← size_list, hfl, List.length_take, HXZ.out]; omega
              have hrs : (x.extract (j + 1) x.size).size ≤ s.size := by rw [← size_list, hrl, List.length_drop, HXZ.out]; omega
              have HFL := Lib.hid hfl
              have HRL := Lib.hid hrl
              have H61 := Lib.hid h61
              clear h61 hcut hfl hrl
              go_wp2_with fail
              refine (refTok_any _ _ (by unfold maxLen; omega)).mono ?_
              rintro e w3 ⟨rfl, rfl⟩
              rw [HFL.out]
              cases htn : isTok (x.data.toList.take j)
              · have HR := Lib.hid (par_none _ (HBAD.out (by rw [HP1.out, htn]; rfl)))
                clear htn
                go_wp2_with fail
                go_ret3
                refine ⟨⟨.slice none 0 0, ret_par (by rw [HR.out.1]) HR.out.2.1.symm, ?_⟩, hb1.trans (hb.mono hs1)⟩
                rw [HR.out.2.2]; exact Own2.nil _ _ _
              · have HTN := Lib.hid htn
                clear htn
                obtain ⟨xv, hxv⟩ : ∃ t : ByteArray, t = x.extract (j + 1) x.size := ⟨_, rfl⟩
                have hvd : xv.data.toList = x.data.toList.drop (j + 1) := by rw [hxv]; exact HRL.out
                have hzv : xv.size ≤ s.size := by rw [hxv]; exact hrs
                have HXV := Lib.hid hxv
                have HVD := Lib.hid hvd
                have HXF1 := Lib.hid (show (x.extract 0 j).data.toList = x.data.toList.take j from HFL.out)
                clear hxv hvd
                go_wp2_with fail
                rw [← HXV.out]
                refine (refTok_any xv _ (by unfold maxLen; omega)).mono ?_
                rintro e w3 ⟨rfl, rfl⟩
                rw [HVD.out]
                cases htv : isTok (x.data.toList.drop (j + 1))
                · have HTV := Lib.hid htv
                  clear htv
                  go_wp2_with fail
                  refine (refUnq_any xv _ (by omega)).mono ?_
                  rintro e w4 ⟨rfl, hb4⟩
                  have hs4 := hb4.size
                  rw [HVD.out]
                  rcases unqE_cases (x.data.toList.drop (j + 1)) with h0 | h0
                  · have HP2 := Lib.hid (show par1 x.data.toList = some (fold (x.data.toList.take j), unqT (x.data.toList.drop (j + 1))) by rw [HP1.out, HTN.out, HTV.out, h0]; rfl)
                    rw [h0]
                    have HU0 := Lib.hid h0
                    clear h0
                    obtain ⟨xu, hxu⟩ : ∃ t : ByteArray, t = ⟨(unqT (x.data.toList.drop (j + 1))).toArray⟩ := ⟨_, rfl⟩
                    have hud : xu.data.toList = unqT (x.data.toList.drop (j + 1)) := by rw [hxu]
                    rw [← hxu]
                    have HXU := Lib.hid hud
                    clear hxu hud
                    have hown4 := hown.below hb4
                    have hb4' := hb.trans (hb4.mono (by omega))
                    go_wp2_with fail
                    refine (lower_any _ _ (by omega)).mono ?_
                    rintro e w5 ⟨rfl, hb5⟩
                    have hs5 := hb5.size
                    rw [HXF1.out]
                    obtain ⟨xf, hxf⟩ : ∃ t : ByteArray, t = ⟨(fold (x.data.toList.take j)).toArray⟩ := ⟨_, rfl⟩
                    have hfd : xf.data.toList = fold (x.data.toList.take j) := by rw [hxf]
                    rw [← hxf]
                    have HXF := Lib.hid hfd
                    clear hxf hfd
                    have hown5 := (hown4.below hb5).alloc (.cells #[.string xf, .string xu] 36)
                    have hb5' := hb4'.trans (hb5.mono (by omega))
                    have hin2 := In2.one w5 xf xu 36
                    go_wp2_with (at_builtin; refine wpList_append2 parT rfl _ _ rfl w1.heap.size _ _ rfl hown5 _ _ _ _ rfl rfl hin2 (by simp; omega) (by simp; omega) ?_; intro v6 w6 hown6 hgrow6 _)
                    go_roundw
                    case rel =>
                      refine ⟨k + 1, _, by omega, by omega, by go_num, hown6, by simp; omega, ?_, Own2.grown (hb5'.alloc (by omega) _) (by simp; omega) hown5 hgrow6⟩
                      rw [HXF.out, HXU.out]; exact HGOOD.out _ HP2.out
                    case measure => simp [intOf]; omega
                  · have HR := Lib.hid (par_none _ (HBAD.out (by rw [HP1.out, HTN.out, HTV.out, h0]; rfl)))
                    rw [h0]
                    have HU0 := Lib.hid h0
                    clear h0
                    go_wp2_with fail
                    go_ret3
                    refine ⟨⟨.slice none 0 0, ret_par (by rw [HR.out.1]) HR.out.2.1.symm, ?_⟩, (hb1.trans (hb.mono hs1)).trans (hb4.mono (by omega))⟩
                    rw [HR.out.2.2]; exact Own2.nil _ _ _
                · have HP2 := Lib.hid (show par1 x.data.toList = some (fold (x.data.toList.take j), x.data.toList.drop (j + 1)) by rw [HP1.out, HTN.out, htv]; rfl)
                  clear htv
                  go_wp2_with fail
                  refine (lower_any _ _ (by omega)).mono ?_
                  rintro e w5 ⟨rfl, hb5⟩
                  have hs5 := hb5.size
                  rw [HXF1.out]
                  obtain ⟨xf, hxf⟩ : ∃ t : ByteArray, t = ⟨(fold (x.data.toList.take j)).toArray⟩ := ⟨_, rfl⟩
                  have hfd : xf.data.toList = fold (x.data.toList.take j) := by rw [hxf]
                  rw [← hxf]
                  have HXF := Lib.hid hfd
                  clear hxf hfd
                  have hown5 := (hown.below hb5).alloc (.cells #[.string xf, .string xv] 36)
                  have hb5' := hb.trans (hb5.mono (by omega))
                  have hin2 := In2.one w5 xf xv 36
                  go_wp2_with (at_builtin; refine wpList_append2 parT rfl _ _ rfl w1.heap.size _ _ rfl hown5 _ _ _ _ rfl rfl hin2 (by simp; omega) (by simp; omega) ?_; intro v6 w6 hown6 hgrow6 _)
                  go_roundw
                  case rel =>
                    refine ⟨k + 1, _, by omega, by omega, by go_num, hown6, by simp; omega, ?_, Own2.grown (hb5'.alloc (by omega) _) (by simp; omega) hown5 hgrow6⟩
                    rw [HXF.out, HVD.out]; exact HGOOD.out _ HP2.out
                  case measure => simp [intOf]; omega
            · have t1 := beq_f h61
              have t1' : ((x[j].toNat : Int) != 61) = true := by simp [bne, t1]
              have H61 := Lib.hid h61
              clear h61
              go_wp2_with fail
              go_roundw
              case rel =>
                refine ⟨j + 1, by omega, by go_num, fun i hi hij => ?_, by trivial⟩
                by_cases h : i = j
                · subst h; rw [HJG.out]; exact H61.out
                · exact HNO.out i hi (by omega)
              case measure => simp [intOf]; omega
          · obtain rfl : j = x.size := by omega
            have HR := Lib.hid (par_none _ (HBAD.out (par1_nocut _ (cut_end x HNO.out))))
            have t2 : ((x.size : Int) == (x.size : Int)) = true := by simp
            go_wp2_with fail
            go_ret3
            refine ⟨⟨.slice none 0 0, ret_par (by rw [HR.out.1]) HR.out.2.1.symm, ?_⟩, hb1.trans (hb.mono hs1)⟩
            rw [HR.out.2.2]; exact Own2.nil _ _ _
    · obtain rfl : k = m + 1 := by omega
      have hfin := par_some s.data.toList out (by rw [← HE.out, List.drop_of_length_le (by rw [HN.out]; omega), parSt_nil])
      rw [← HM.out, HH.out] at hfin
      have HF := Lib.hid hfin
      have hc0' := cell_keep hc0 hb
      clear hfin
      go_wp2_with fail
      refine (refTrim_any x0 _ (by unfold maxLen; omega)).mono ?_
      rintro e w2 ⟨rfl, rfl⟩
      go_wp2_with fail
      go_ret3
      refine ⟨⟨_, ret_par (by rw [HF.out.1]) HF.out.2.1.symm, ?_⟩, hb1.trans (hb.mono hs1)⟩
      rw [HF.out.2.2]; exact hown.mono hs1
end Go.Proofs.YtpchpfhnimgdaaaDoor
