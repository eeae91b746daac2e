/-
  List, the program's and the document's.
-/
import Derived.Test.YtnibecboimgljaaDoorSplit
namespace Go.Proofs.YtnibecboimgljaaDoor
open Go.RowKit

theorem empty_data (x : ByteArray) : x.toList.isEmpty = x.data.toList.isEmpty := by rw [Lib.toList_data]
theorem beq_nil (x : ByteArray) : (x.toList == []) = x.data.toList.isEmpty := by rw [Lib.toList_data]; cases x.data.toList <;> rfl
theorem filter_snoc {α : Type} (p : α → Bool) (M : List α) (k : Nat) (h : k < M.length) : (M.take (k + 1)).filter p = (M.take k).filter p ++ (if p M[k] then [M[k]] else []) := by
  rw [List.take_succ_eq_append_getElem h, List.filter_append]
  cases hp : p M[k] <;> simp [hp]
theorem filter_len {α : Type} (p : α → Bool) (M : List α) (k : Nat) : ((M.take k).filter p).length ≤ M.length :=
  Nat.le_trans (List.length_filter_le _ _) (by rw [List.length_take]; omega)
theorem filter_lenk {α : Type} (p : α → Bool) (M : List α) (k : Nat) : ((M.take k).filter p).length ≤ k :=
  Nat.le_trans (List.length_filter_le _ _) (List.length_take_le _ _)
theorem cell44 : ((44 : UInt8).toNat : Int) = 44 := rfl

set_option maxHeartbeats 4000000 in
theorem tokList_any (s : ByteArray) (w : World) (hs : s.size ≤ 4000000000) :
    Calls Tryd.prog 32 #[.string s] w fun e w' => ∃ v, e = .returned v ∧ OwnS w' w.heap.size v (listOf s.data.toList) ∧ Below w.heap.size w w' := by
  have hpl := pieces_length 44 s.data.toList
  rw [size_list] at hpl
  obtain ⟨M, hM⟩ : ∃ M, M = (pieces 44 s.data.toList).map trim := ⟨_, rfl⟩
  have hml : M.length ≤ s.size + 1 := by rw [hM, List.length_map]; exact hpl
  have hli : listOf s.data.toList = M.filter full := by rw [hM]; rfl
  have HM := Lib.hid hM
  have HLI := Lib.hid hli
  clear hM hli hpl
  go_enter Tryd.func32, Tryd.ntmps32
  go_wp2_with fail
  refine (split_any s 44 44 cell44 (by decide) _ (by omega)).mono ?_
  rintro e w1 ⟨v1, rfl, hown1, hb1⟩
  rw [← HM.out] at hown1
  obtain ⟨p, c, rfl, k1, k2, hin, k4⟩ := hown1.shape rfl
  have hs1 := hb1.size
  unfold maxLen at k2
  clear hown1 k4
  go_wp2_with fail
  go_loopw [3, 9] (fun v i wr => ∃ k : Nat, k ≤ M.length ∧ i = .int .i64 k ∧ OwnS wr w1.heap.size v ((M.take k).filter full) ∧ Below w1.heap.size w1 wr) (fun _ i _ => M.length - (intOf i).toNat)
  case atStart => exact ⟨0, by omega, rfl, OwnS.nil _ _, Below.refl _ _⟩
  case round =>
    obtain ⟨k, hk, rfl, hown, hb⟩ := hrel
    have hbs := hb.size
    have hfl := filter_lenk full M k
    by_cases hlt : k < M.length
    · obtain ⟨b, o, rfl, x, hck, hx⟩ := (hin.below hb).at hlt
      have hfs := filter_snoc full M k hlt
      have HX := Lib.hid hx
      have HF := Lib.hid hfs
      clear hx hfs
      by_cases hfu : full M[k] = true
      · have e0 : x.data.toList.isEmpty = false := by rw [HX.out]; simpa [full] using hfu
        have e1 : x.toList.isEmpty = false := by rw [empty_data]; exact e0
        have e2 : (x.toList == []) = false := by rw [beq_nil]; exact e0
        have HFU := Lib.hid hfu
        have hin2 := InS.one wr x
        rw [HX.out] at hin2
        clear hfu e0
        have hown2 := hown.alloc (.cells #[.string x] 9)
        go_wp2_with (at_builtin; refine wpList_appendS rfl _ _ rfl w1.heap.size _ _ rfl hown2 _ _ _ _ rfl rfl hin2 (by simp; omega) (by simp; omega) ?_; intro v2 w2 hown3 hgrow3 _)
        go_roundw
        case rel => exact ⟨k + 1, by omega, by go_num, by rw [HF.out, if_pos HFU.out]; exact hown3, OwnS.grown (hb.alloc hbs _) (by simp; omega) hown2 hgrow3⟩
        case measure => simp [intOf]; omega
      · have hfu' : full M[k] = false := by simpa using hfu
        have e0 : x.data.toList.isEmpty = true := by rw [HX.out]; simpa [full] using hfu'
        have e1 : x.toList.isEmpty = true := by rw [empty_data]; exact e0
        have e2 : (x.toList == []) = true := by rw [beq_nil]; exact e0
        have e3 : x.toList = [] := by simpa using e1
        have HFU := Lib.hid hfu'
        clear hfu hfu' e0
        go_wp2
        go_roundw
        case rel => exact ⟨k + 1, by omega, by go_num, by rw [HF.out, HFU.out]; simpa using hown, hb⟩
        case measure => simp [intOf]; omega
    · obtain rfl : k = M.length := by omega
      go_wp2
      go_ret
      refine ⟨_, rfl, ?_, hb1.trans (hb.mono hs1)⟩
      rw [List.take_length] at hown
      rw [HLI.out]
      exact hown.mono hs1

set_option maxHeartbeats 4000000 in
theorem refList_any (s : ByteArray) (w : World) (hs : s.size ≤ 4000000000) :
    Calls Tryd.prog 37 #[.string s] w fun e w' => ∃ v, e = .returned v ∧ OwnS w' w.heap.size v (listOf s.data.toList) ∧ Below w.heap.size w w' := by
  have hpl := pieces_length 44 s.data.toList
  rw [size_list] at hpl
  obtain ⟨P, hP⟩ : ∃ P, P = pieces 44 s.data.toList := ⟨_, rfl⟩
  have hml : P.length ≤ s.size + 1 := by rw [hP]; exact hpl
  obtain ⟨M, hM⟩ : ∃ M, M = P.map trim := ⟨_, rfl⟩
  have hMl : M.length = P.length := by rw [hM, List.length_map]
  have hMg : ∀ k (h : k < P.length) (h2 : k < M.length), M[k] = trim P[k] := by subst hM; intro k h h2; simp
  have hli : listOf s.data.toList = M.filter full := by rw [hM, hP]; rfl
  have HP := Lib.hid hP
  have HLI := Lib.hid hli
  have HML := Lib.hid hMl
  have HMG := Lib.hid hMg
  clear hM hP hli hpl hMl hMg
  go_enter Tryd.func37, Tryd.ntmps37
  go_wp2_with fail
  refine (refPieces_any s 44 44 cell44 (by decide) _ (by omega)).mono ?_
  rintro e w1 ⟨v1, rfl, hown1, hb1⟩
  rw [← HP.out] at hown1
  obtain ⟨p, c, rfl, k1, k2, hin, k4⟩ := hown1.shape rfl
  have hs1 := hb1.size
  unfold maxLen at k2
  clear hown1 k4
  go_wp2_with fail
  go_loopw [4, 5] (fun v i wr => ∃ k : Nat, k ≤ P.length ∧ i = .int .i64 k ∧ OwnS wr w1.heap.size v ((M.take k).filter full) ∧ Below w1.heap.size w1 wr) (fun _ i _ => P.length - (intOf i).toNat)
  case atStart => exact ⟨0, by omega, rfl, OwnS.made w1, (Below.refl _ _).alloc (Nat.le_refl _) _⟩
  case round =>
    obtain ⟨k, hk, rfl, hown, hb⟩ := hrel
    have hbs := hb.size
    have hfl := filter_lenk full M k
    by_cases hlt : k < P.length
    · obtain ⟨b, o, rfl, y, hck, hy⟩ := (hin.below hb).at hlt
      have hlt2 : k < M.length := by rw [HML.out]; exact hlt
      have hfs := filter_snoc full M k hlt2
      have hsz : y.size ≤ maxLen := by
        have := pieces_part 44 s.data.toList P[k] (by rw [← HP.out]; exact List.getElem_mem hlt)
        rw [← size_list, hy]; rw [size_list] at this; unfold maxLen; omega
      have HY := Lib.hid hy
      have HF := Lib.hid hfs
      clear hy hfs
      go_wp2_with fail
      refine (refTrim_any y _ hsz).mono ?_
      rintro e w2 ⟨rfl, rfl⟩
      rw [HY.out]
      generalize hx : (⟨(trim P[k]).toArray⟩ : ByteArray) = x
      have hxd : x.data.toList = M[k] := by rw [← hx, HMG.out k hlt hlt2]
      have HX := Lib.hid hxd
      have HX2 := Lib.hid hx
      clear hx hxd hsz
      by_cases hfu : full M[k] = true
      · have e0 : x.data.toList.isEmpty = false := by rw [HX.out]; simpa [full] using hfu
        have e1 : x.toList.isEmpty = false := by rw [empty_data]; exact e0
        have e2 : (x.toList == []) = false := by rw [beq_nil]; exact e0
        have HFU := Lib.hid hfu
        have hin2 := InS.one wr x
        rw [HX.out] at hin2
        clear hfu e0
        have hown2 := hown.alloc (.cells #[.string x] 9)
        go_wp2_with (at_builtin; refine wpList_appendS rfl _ _ rfl w1.heap.size _ _ rfl hown2 _ _ _ _ rfl rfl hin2 (by simp; omega) (by simp; omega) ?_; intro v2 w2 hown3 hgrow3 _)
        go_roundw
        case rel => exact ⟨k + 1, by omega, by go_num, by rw [HF.out, if_pos HFU.out]; exact hown3, OwnS.grown (hb.alloc hbs _) (by simp; omega) hown2 hgrow3⟩
        case measure => simp [intOf]; omega
      · have hfu' : full M[k] = false := by simpa using hfu
        have e0 : x.data.toList.isEmpty = true := by rw [HX.out]; simpa [full] using hfu'
        have e1 : x.toList.isEmpty = true := by rw [empty_data]; exact e0
        have e2 : (x.toList == []) = true := by rw [beq_nil]; exact e0
        have e3 : x.toList = [] := by simpa using e1
        have HFU := Lib.hid hfu'
        clear hfu hfu' e0
        go_wp2
        go_roundw
        case rel => exact ⟨k + 1, by omega, by go_num, by rw [HF.out, HFU.out]; simpa using hown, hb⟩
        case measure => simp [intOf]; omega
    · obtain rfl : k = P.length := by omega
      go_wp2
      go_ret
      refine ⟨_, rfl, ?_, hb1.trans (hb.mono hs1)⟩
      rw [List.take_of_length_le (by rw [HML.out]; omega)] at hown
      rw [HLI.out]
      exact hown.mono hs1
end Go.Proofs.YtnibecboimgljaaDoor
