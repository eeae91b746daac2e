/-
  Params, the program's.
-/
import Derived.Test.YtpchpfhnimgdaaaDoorSplit
import Derived.Test.YtpchpfhnimgdaaaDoorFold
import Derived.Test.YtpchpfhnimgdaaaDoorQuote
import Derived.Test.YtpchpfhnimgdaaaDoorCut
import Derived.Test.YtpchpfhnimgdaaaDoorPairs
import Derived.Test.YtpchpfhnimgdaaaDoorKeep
namespace Go.Proofs.YtpchpfhnimgdaaaDoor
open Go.RowKit

theorem parT : PairT 32 36 := ⟨Tryd.underlying32, by kernel_rfl⟩

/-- a parameter: a token, '=', a token or a quoted text -/
def par1 (t : List UInt8) : Option Pair :=
  match cutB 61 t with
  | none => none
  | some (n, v) => if isTok n = true then (if isTok v = true then some (fold n, v) else if unqE v = 0 then some (fold n, unqT v) else none) else none
/-- the parameters of trimmed pieces -/
def parGo : List (List UInt8) → Option (List Pair)
  | [] => some []
  | t :: r => if t.isEmpty then parGo r else match par1 t with
    | none => none
    | some x => (parGo r).map (x :: ·)
def parSt (out : List Pair) (r : List (List UInt8)) : Option (List Pair) := (parGo r).map (out ++ ·)
theorem parSt_nil (out : List Pair) : parSt out [] = some out := by simp [parSt, parGo]
theorem parSt_skip (out : List Pair) (t : List UInt8) (r : List (List UInt8)) (h : t.isEmpty = true) : parSt out (t :: r) = parSt out r := by
  unfold parSt; rw [parGo, if_pos h]
theorem parSt_bad (out : List Pair) (t : List UInt8) (r : List (List UInt8)) (h : t.isEmpty = false) (h1 : par1 t = none) : parSt out (t :: r) = none := by
  unfold parSt; rw [parGo, if_neg (by rw [h]; simp), h1]; rfl
theorem parSt_good (out : List Pair) (t : List UInt8) (r : List (List UInt8)) (x : Pair) (h : t.isEmpty = false) (h1 : par1 t = some x) : parSt out (t :: r) = parSt (out ++ [x]) r := by
  unfold parSt; rw [parGo, if_neg (by rw [h]; simp), h1]
  cases parGo r <;> simp
theorem par1_nocut (t : List UInt8) (h : cutB 61 t = none) : par1 t = none := by unfold par1; rw [h]
theorem par1_cut (t n v : List UInt8) (h : cutB 61 t = some (n, v)) : par1 t = if isTok n = true then (if isTok v = true then some (fold n, v) else if unqE v = 0 then some (fold n, unqT v) else none) else none := by unfold par1; rw [h]

/-- the answer of Params -/
def parM (l : List UInt8) : List (List UInt8) := (pieces 59 l).map trim
def parR (l : List UInt8) : Option (List Pair) := parGo ((parM l).drop 1)
def parV (l : List UInt8) : List UInt8 := if (parR l).isSome then (parM l).headD [] else []
def parE (l : List UInt8) : Int := if (parR l).isSome then 0 else 12
def parL (l : List UInt8) : List Pair := (parR l).getD []
theorem par_none (l : List UInt8) (h : parR l = none) : parV l = [] ∧ parE l = 12 ∧ parL l = [] := by unfold parV parE parL; rw [h]; exact ⟨rfl, rfl, rfl⟩
theorem par_some (l : List UInt8) (L : List Pair) (h : parR l = some L) : parV l = (parM l).headD [] ∧ parE l = 0 ∧ parL l = L := by unfold parV parE parL; rw [h]; exact ⟨rfl, rfl, rfl⟩
theorem parM_length (l : List UInt8) : 0 < (parM l).length ∧ (parM l).length ≤ l.length + 1 := by
  unfold parM
  rw [List.length_map]
  refine ⟨?_, pieces_length 59 l⟩
  have := pieces_ne 59 l
  cases h : pieces 59 l with
  | nil => exact absurd h this
  | cons _ _ => simp
theorem parM_mem (l : List UInt8) : ∀ x ∈ parM l, x.length ≤ l.length := by
  intro x hx
  obtain ⟨y, hy, rfl⟩ := List.mem_map.1 hx
  exact Nat.le_trans (trim_length y) (pieces_part 59 l y hy)
theorem unqF_len : ∀ (l acc m : List UInt8) (e : Bool), unqF l acc e = some m → m.length ≤ acc.length + l.length
  | [], acc, m, e, h => by cases e <;> simp [unqF] at h
  | x :: r, acc, m, true, h => by
    rw [unqF] at h
    split at h
    · cases h
    · split at h
      · have := unqF_len r _ m false h; simp at this ⊢; omega
      · cases h
  | x :: r, acc, m, false, h => by
    rw [unqF] at h
    split at h
    · split at h
      · cases h; simp
      · cases h
    · split at h
      · have := unqF_len r _ m true h; simp at this ⊢; omega
      · split at h
        · have := unqF_len r _ m false h; simp at this ⊢; omega
        · cases h
theorem unqT_len (l : List UInt8) : (unqT l).length ≤ l.length := by
  unfold unqT
  cases h : unq l with
  | none => simp
  | some m =>
    unfold unq at h
    cases l with
    | nil => cases h
    | cons x r =>
      simp only at h
      split at h
      · have := unqF_len r [] m false h; simp at this ⊢; omega
      · cases h
theorem ret_par {s t : ByteArray} {v : Value} {a b : Int} (h1 : s = t) (h2 : a = b) : Ending.returned (.tuple #[.string s, v, .int .i64 a]) = .returned (.tuple #[.string t, v, .int .i64 b]) := by rw [h1, h2]
theorem MaxC.drew {w : World} (h : MaxC w) : MaxC w.drew := h
theorem cell59 : ((59 : UInt8).toNat : Int) = 59 := rfl
theorem unqE_cases (l : List UInt8) : unqE l = 0 ∨ unqE l = 11 := by unfold unqE; split <;> simp

set_option maxHeartbeats 8000000 in
theorem params_any (s : ByteArray) (w : World) (hm : MaxC w) (hs : s.size ≤ 1000000000) :
    Calls Tryd.prog 22 #[.string s] w fun e w' => (∃ v, e = .returned (.tuple #[.string ⟨(parV s.data.toList).toArray⟩, v, .int .i64 (parE s.data.toList)]) ∧ Own2 36 w' w.heap.size v (parL s.data.toList)) ∧ Below w.heap.size w w' := by
  have HZ := Lib.hid (size_list s)
  obtain ⟨hl0, hl1⟩ := parM_length s.data.toList
  have hmem := parM_mem s.data.toList
  rw [HZ.out] at hl1
  obtain ⟨M, hM⟩ : ∃ M, M = parM s.data.toList := ⟨_, rfl⟩
  rw [← hM] at hl0 hl1 hmem
  obtain ⟨m, hm0⟩ : ∃ m, M.length = m + 1 := ⟨M.length - 1, by omega⟩
  have HM := Lib.hid hM
  have HMEM := Lib.hid hmem
  have HN := Lib.hid hm0
  rw [hm0] at hl1
  clear hM hmem hm0
  go_enter Tryd.func22, Tryd.ntmps22
  go_wp2_with fail
  refine (split_any s 59 59 cell59 (by decide) _ (by omega)).mono ?_
  rintro e w1 ⟨v1, rfl, hown1, hb1⟩
  rw [show (pieces 59 s.data.toList).map trim = M from HM.out.symm] at hown1
  obtain ⟨p, c, rfl, k1, k2, hin, _⟩ := hown1.shape HN.out
  have hs1 := hb1.size
  have hm1 := hm.below hb1
  unfold maxLen at k2
  clear hown1 hm
  obtain ⟨b, o, rfl, x0, hc0, hx0⟩ := hin.at hl0
  rw [Nat.add_zero] at hc0
  have hhead : M.headD [] = x0.data.toList := by
    rw [hx0]; cases M with
    | nil => simp at hl0
    | cons _ _ => rfl
  have HH := Lib.hid hhead
  clear hx0 hhead
  by_cases hc1 : c = 1
  · subst hc1
    obtain rfl : m = 0 := by omega
    have hfin := par_some s.data.toList [] (by unfold parR; rw [← HM.out, List.drop_of_length_le (by rw [HN.out]; omega)]; rfl)
    rw [← HM.out, HH.out] at hfin
    have HF := Lib.hid hfin
    clear hfin
    go_wp2_with fail
    go_loopw [6, 18] (fun v i wr => v = .slice none 0 0 ∧ i = .int .i64 0 ∧ Below w1.heap.size w1 wr) (fun _ _ _ => 0)
    case atStart => exact ⟨rfl, rfl, Below.refl _ _⟩
    case round =>
      obtain ⟨rfl, rfl, hb⟩ := hrel
      have hc0' := cell_keep hc0 hb
      go_wp2_with fail
      go_ret3
      refine ⟨⟨.slice none 0 0, ret_par (by rw [HF.out.1]) HF.out.2.1.symm, ?_⟩, hb1.trans (hb.mono hs1)⟩
      rw [HF.out.2.2]; exact Own2.nil _ _ _
  · have z1 : (1 : Int) ≤ (m : Int) + 1 := by omega
    have z2 : (m : Int) + 1 ≤ (c : Int) := by omega
    have z3 : (1 : Int) ≤ (c : Int) := by omega
    have hcells : ∀ i, (h : i + 1 < M.length) → ∃ x : ByteArray, w1.cell? ⟨b, o + 1 + i, none⟩ = some (.string x) ∧ x.data.toList = M[i + 1] := by
      intro i h
      obtain ⟨b', o', e, x, h1, h2⟩ := hin.at h
      simp only [Option.some.injEq, Addr.mk.injEq, and_true] at e
      obtain ⟨rfl, rfl⟩ := e
      exact ⟨x, by rw [show o + 1 + i = o + (i + 1) by omega]; exact h1, h2⟩
    have HCE := Lib.hid hcells
    have hst0 : parSt [] (M.drop 1) = parR s.data.toList := by unfold parSt parR; rw [← HM.out]; simp
    have HS0 := Lib.hid hst0
    clear hcells hst0 hin
    go_wp2_with fail
    go_loopw [6, 18] (fun v i wr => ∃ (k : Nat) (out : List Pair), k ≤ m ∧ i = .int .i64 k ∧ Own2 36 wr w1.heap.size v out ∧ out.length ≤ k ∧ parSt out (M.drop (k + 1)) = parR s.data.toList ∧ Below w1.heap.size w1 wr) (fun _ i _ => m - (intOf i).toNat)
    case atStart => exact ⟨0, [], by omega, rfl, Own2.nil _ _ _, by simp, HS0.out, Below.refl _ _⟩
    case round =>
      obtain ⟨k, out, hk, rfl, hown, hol, heq, hb⟩ := hrel
      have hbs := hb.size
      have hmr := hm1.below hb
      have HE := Lib.hid heq
      clear heq
      by_cases hlt : k < m
      · have hlM : k + 1 < M.length := by rw [HN.out]; omega
        obtain ⟨x, hcx0, hx⟩ := HCE.out k hlM
        have hcx := cell_keep hcx0 hb
        have hdr : M.drop (k + 1) = x.data.toList :: M.drop (k + 1 + 1) := by rw [List.drop_eq_getElem_cons hlM, hx]
        have hxs : x.size ≤ s.size := by rw [← size_list, hx, ← HZ.out]; exact HMEM.out _ (List.getElem_mem hlM)
        have HD := Lib.hid hdr
        clear hdr hx hcx0
        by_cases hem : x.data.toList.isEmpty = true
        · have e1 : x.toList.isEmpty = true := by rw [Lib.toList_data]; exact hem
          have e3 : x.toList = [] := by simpa using e1
          have HSK := Lib.hid (parSt_skip out _ (M.drop (k + 1 + 1)) hem)
          clear hem e1
          go_wp2_with fail
          go_roundw
          case rel => exact ⟨k + 1, out, by omega, by go_num, hown, by omega, by rw [← HSK.out, ← HD.out]; exact HE.out, hb⟩
          case measure => simp [intOf]; omega
        · have hem' : x.data.toList.isEmpty = false := by simpa using hem
          have e1 : x.toList.isEmpty = false := by rw [Lib.toList_data]; exact hem'
          have e2 : (x.toList == []) = false := by rw [Lib.toList_data]; cases hq : x.data.toList with | nil => rw [hq] at hem'; simp at hem' | cons _ _ => rfl
          have HEM := Lib.hid hem'
          clear hem hem'
          have hbad : par1 x.data.toList = none → parR s.data.toList = none := fun h => by
            rw [← HE.out, HD.out, parSt_bad out _ _ HEM.out h]
          have HBAD := Lib.hid hbad
          clear hbad
          go_wp2_with fail
          cases hcut : cutB 61 x.data.toList with
          | none =>
            have HR := Lib.hid (par_none _ (HBAD.out (par1_nocut _ hcut)))
            refine (cut_none 61 x _ hmr (by omega) hcut).mono ?_
            rintro e w2 ⟨rfl, hb2⟩
            clear hcut
            have hs2 := hb2.size
            go_wp2_with fail
            go_ret3
            refine ⟨⟨.slice none 0 0, ret_par (by rw [HR.out.1]) HR.out.2.1.symm, ?_⟩, (hb1.trans (hb.mono hs1)).trans (hb2.mono (by omega))⟩
            rw [HR.out.2.2]; exact Own2.nil _ _ _
          | some q =>
            obtain ⟨na, va⟩ := q
            refine (cut_some 61 x _ hmr (by omega) na va hcut).mono ?_
            rintro e w2 ⟨rfl, hb2⟩
            have hs2 := hb2.size
            have hln := cutB_len 61 _ na va hcut
            rw [size_list] at hln
            obtain ⟨xn, hxn⟩ : ∃ t : ByteArray, t = ⟨na.toArray⟩ := ⟨_, rfl⟩
            obtain ⟨xv, hxv⟩ : ∃ t : ByteArray, t = ⟨va.toArray⟩ := ⟨_, rfl⟩
            have hnd : xn.data.toList = na := by rw [hxn]
            have hvd : xv.data.toList = va := by rw [hxv]
            rw [← hxn, ← hxv]
            subst hnd hvd
            rw [size_list, size_list] at hln
            have hzn : xn.size ≤ s.size := by omega
            have hzv : xv.size ≤ s.size := by omega
            have HP1 := Lib.hid (par1_cut _ _ _ hcut)
            clear hcut hxn hxv hln
            have hown2 := hown.below hb2
            have hb2' := hb.trans (hb2.mono hbs)
            go_wp2_with fail
            refine (tok_any xn _ (by unfold maxLen; omega)).mono ?_
            rintro e w3 ⟨rfl, rfl⟩
            cases htn : isTok xn.data.toList
            · have HR := Lib.hid (par_none _ (HBAD.out (by rw [HP1.out, htn]; rfl)))
              clear htn
              go_wp2_with fail
              go_ret3
              refine ⟨⟨.slice none 0 0, ret_par (by rw [HR.out.1]) HR.out.2.1.symm, ?_⟩, hb1.trans (hb2'.mono hs1)⟩
              rw [HR.out.2.2]; exact Own2.nil _ _ _
            · have HTN := Lib.hid htn
              clear htn
              go_wp2_with fail
              refine (tok_any xv _ (by unfold maxLen; omega)).mono ?_
              rintro e w3 ⟨rfl, rfl⟩
              have hgood : ∀ y : Pair, par1 x.data.toList = some y → parSt (out ++ [y]) (M.drop (k + 1 + 1)) = parR s.data.toList := fun y h => by
                rw [← HE.out, HD.out, parSt_good out _ _ y HEM.out h]
              have HGOOD := Lib.hid hgood
              clear hgood
              cases htv : isTok xv.data.toList
              · have HTV := Lib.hid htv
                clear htv
                go_wp2_with fail
                refine (unquote_any xv _ (by omega)).mono ?_
                rintro e w4 ⟨rfl, hb4⟩
                have hs4 := hb4.size
                rcases unqE_cases xv.data.toList with h0 | h0
                · have HP2 := Lib.hid (show par1 x.data.toList = some (fold xn.data.toList, unqT xv.data.toList) by rw [HP1.out, HTN.out, HTV.out, h0]; rfl)
                  rw [h0]
                  have HU0 := Lib.hid h0
                  clear h0
                  obtain ⟨xu, hxu⟩ : ∃ t : ByteArray, t = ⟨(unqT xv.data.toList).toArray⟩ := ⟨_, rfl⟩
                  have hud : xu.data.toList = unqT xv.data.toList := by rw [hxu]
                  rw [← hxu]
                  have HXU := Lib.hid hud
                  clear hxu hud
                  have hown4 := hown2.below hb4
                  have hb4' := hb2'.trans (hb4.mono (by omega))
                  go_wp2_with fail
                  refine (tokFold_any xn _ (by omega)).mono ?_
                  rintro e w5 ⟨rfl, hb5⟩
                  have hs5 := hb5.size
                  obtain ⟨xf, hxf⟩ : ∃ t : ByteArray, t = ⟨(fold xn.data.toList).toArray⟩ := ⟨_, rfl⟩
                  have hfd : xf.data.toList = fold xn.data.toList := by rw [hxf]
                  rw [← hxf]
                  have HXF := Lib.hid hfd
                  clear hxf hfd
                  have hown5 := (hown4.below hb5).alloc (.cells #[.string xf, .string xu] 36)
                  have hb5' := hb4'.trans (hb5.mono (by omega))
                  have hin2 := In2.one w5 xf xu 36
                  go_wp2_with (at_builtin; refine wpList_append2 parT rfl _ _ rfl w1.heap.size _ _ rfl hown5 _ _ _ _ rfl rfl hin2 (by simp; omega) (by simp; omega) ?_; intro v6 w6 hown6 hgrow6 _)
                  go_roundw
                  case rel =>
                    refine ⟨k + 1, _, by omega, by go_num, hown6, by simp; omega, ?_, Own2.grown (hb5'.alloc (by omega) _) (by simp; omega) hown5 hgrow6⟩
                    rw [HXF.out, HXU.out]; exact HGOOD.out _ HP2.out
                  case measure => simp [intOf]; omega
                · have HR := Lib.hid (par_none _ (HBAD.out (by rw [HP1.out, HTN.out, HTV.out, h0]; rfl)))
                  rw [h0]
                  have HU0 := Lib.hid h0
                  clear h0
                  go_wp2_with fail
                  go_ret3
                  refine ⟨⟨.slice none 0 0, ret_par (by rw [HR.out.1]) HR.out.2.1.symm, ?_⟩, (hb1.trans (hb2'.mono hs1)).trans (hb4.mono (by omega))⟩
                  rw [HR.out.2.2]; exact Own2.nil _ _ _
              · have HP2 := Lib.hid (show par1 x.data.toList = some (fold xn.data.toList, xv.data.toList) by rw [HP1.out, HTN.out, htv]; rfl)
                clear htv
                go_wp2_with fail
                refine (tokFold_any xn _ (by omega)).mono ?_
                rintro e w5 ⟨rfl, hb5⟩
                have hs5 := hb5.size
                obtain ⟨xf, hxf⟩ : ∃ t : ByteArray, t = ⟨(fold xn.data.toList).toArray⟩ := ⟨_, rfl⟩
                have hfd : xf.data.toList = fold xn.data.toList := by rw [hxf]
                rw [← hxf]
                have HXF := Lib.hid hfd
                clear hxf hfd
                have hown5 := (hown2.below hb5).alloc (.cells #[.string xf, .string xv] 36)
                have hb5' := hb2'.trans (hb5.mono (by omega))
                have hin2 := In2.one w5 xf xv 36
                go_wp2_with (at_builtin; refine wpList_append2 parT rfl _ _ rfl w1.heap.size _ _ rfl hown5 _ _ _ _ rfl rfl hin2 (by simp; omega) (by simp; omega) ?_; intro v6 w6 hown6 hgrow6 _)
                go_roundw
                case rel =>
                  refine ⟨k + 1, _, by omega, by go_num, hown6, by simp; omega, ?_, Own2.grown (hb5'.alloc (by omega) _) (by simp; omega) hown5 hgrow6⟩
                  rw [HXF.out]; exact HGOOD.out _ HP2.out
                case measure => simp [intOf]; omega
      · have hfin := par_some s.data.toList out (by rw [← HE.out, List.drop_of_length_le (by rw [HN.out]; omega), parSt_nil])
        rw [← HM.out, HH.out] at hfin
        have HF := Lib.hid hfin
        have hc0' := cell_keep hc0 hb
        clear hfin
        go_wp2_with fail
        go_ret3
        refine ⟨⟨_, ret_par (by rw [HF.out.1]) HF.out.2.1.symm, ?_⟩, hb1.trans (hb.mono hs1)⟩
        rw [HF.out.2.2]; exact hown.mono hs1
end Go.Proofs.YtpchpfhnimgdaaaDoor
