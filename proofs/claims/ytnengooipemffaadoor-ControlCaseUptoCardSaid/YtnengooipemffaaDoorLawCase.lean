/-
  ControlCase: letters' case, and other fields, make no difference.
-/
import Derived.Test.YtnengooipemffaaDoorCaseLaw
import Derived.Test.YtnengooipemffaaDoorCtlForm
import Derived.Test.YtnengooipemffaaDoorToStr
namespace Go.Proofs.YtnengooipemffaaDoor
open Go.RowKit

theorem upB_yes (b : UInt8) (h : 97 ≤ (b.toNat : Int) ∧ (b.toNat : Int) ≤ 122) : ubyte ((b.toNat : Int) - 32) = upB b := by
  have h2 := all256 (fun b => 97 ≤ (b.toNat : Int) ∧ (b.toNat : Int) ≤ 122 → ubyte ((b.toNat : Int) - 32) = upB b) (by decide +kernel) b
  exact h2 h
theorem upB_no (b : UInt8) (h : ¬ (97 ≤ (b.toNat : Int) ∧ (b.toNat : Int) ≤ 122)) : upB b = b := by
  unfold upB
  rw [if_neg (by omega)]
theorem upT_snoc (l : List UInt8) (k : Nat) (h : k < l.length) : upT (l.take (k + 1)) = upT (l.take k) ++ [upB l[k]] := by
  unfold upT
  rw [List.take_succ_eq_append_getElem h, List.map_append]; rfl

set_option maxHeartbeats 4000000 in
theorem controlCase_walk (v o : ByteArray) (w : World) (hv : v.data.toList.length ≤ 1048576) (ho : o.data.toList.length ≤ 1048576) (hsh : w.ShapedOpen Tryd.prog) :
    Calls Tryd.prog 6 #[.string v, .string o] w fun e w' => e = .returned (.bool true) ∧ Below w.heap.size w w' := by
  have hM := MaxC.of hsh
  clear hsh
  have hzv := size_list v
  have hzo := size_list o
  have HZV := Lib.hid hzv
  rw [hzv] at hv
  rw [hzo] at ho
  go_enter Tryd.func6, Tryd.ntmps6
  go_wp2_with fail
  refine (alive15_any _ hM).mono ?_
  rintro e w1 ⟨rfl, hb1⟩
  have hs1 := hb1.size
  obtain ⟨w0, rfl⟩ : ∃ W, W = w1 := ⟨_, rfl⟩
  go_wp2_with fail
  go_loopw [5, 6] (fun u i wr => ∃ k : Nat, k ≤ v.size ∧ i = .int .i64 k ∧ Own8 wr w0.heap.size u (upT (v.data.toList.take k)) ∧ Below w0.heap.size w0 wr) (fun _ i _ => v.size - (intOf i).toNat)
  case atStart => exact ⟨0, Nat.zero_le _, rfl, Own8.made w0, (Below.refl _ _).alloc (Nat.le_refl _) _⟩
  case round =>
    obtain ⟨k, hk, rfl, hown, hb⟩ := hrel
    have hlen : (upT (v.data.toList.take k)).length = k := by unfold upT; rw [List.length_map, List.length_take, HZV.out]; omega
    have hbs := hb.size
    by_cases hlt : k < v.size
    · have hkl : k < v.data.toList.length := by rw [HZV.out]; exact hlt
      have hbt := bt_str v k hlt
      rw [bt_get _ k hkl] at hbt
      have hby : v.data.toList[k] = v[k] := UInt8.toNat_inj.1 (by omega)
      have hsn := upT_snoc v.data.toList k hkl
      rw [hby] at hsn
      obtain ⟨b0, b1⟩ := byte_le v k hlt
      have HS := Lib.hid hsn
      have HL := Lib.hid hlen
      clear hsn hlen hby hbt
      by_cases c1 : 97 ≤ (v[k].toNat : Int) ∧ (v[k].toNat : Int) ≤ 122
      · have HC := Lib.hid (upB_yes v[k] c1)
        obtain ⟨c1, c2⟩ := c1
        have hin := In8.one wr ((v[k].toNat : Int) - 32) (by omega) (by omega)
        have hown2 := hown.alloc (.cells #[.int .u8 ((v[k].toNat : Int) - 32)] 5)
        go_wp2_with (at_builtin; refine wpList_append8 rfl _ _ rfl w0.heap.size _ _ rfl hown2 _ _ _ _ rfl rfl hin (by rw [HL.out]; simp; omega) (by simp; omega) ?_; intro v2 w2 hown3 hgrow3 _)
        go_roundw
        case rel => exact ⟨k + 1, by omega, by go_num, by rw [HS.out, ← HC.out]; exact hown3, own_grown (hb.alloc hbs _) (by simp; omega) hown2 hgrow3⟩
        case measure => simp [intOf]; omega
      · have HC := Lib.hid (upB_no v[k] c1)
        have hin := In8.one wr (v[k].toNat : Int) b0 b1
        have hown2 := hown.alloc (.cells #[.int .u8 (v[k].toNat : Int)] 5)
        have two : (v[k].toNat : Int) < 97 ∨ (97 ≤ (v[k].toNat : Int) ∧ ¬ (v[k].toNat : Int) ≤ 122) := by omega
        clear c1
        rcases two with c1 | ⟨c1, c2⟩
        all_goals
          go_wp2_with (at_builtin; refine wpList_append8 rfl _ _ rfl w0.heap.size _ _ rfl hown2 _ _ _ _ rfl rfl hin (by rw [HL.out]; simp; omega) (by simp; omega) ?_; intro v2 w2 hown3 hgrow3 _)
          go_roundw
          case rel => exact ⟨k + 1, by omega, by go_num, by rw [HS.out, HC.out, ← ubyte_self v[k]]; exact hown3, own_grown (hb.alloc hbs _) (by simp; omega) hown2 hgrow3⟩
          case measure => simp [intOf]; omega
    · obtain rfl : k = v.size := by omega
      have hall : v.data.toList.take v.size = v.data.toList := List.take_of_length_le (by rw [HZV.out]; omega)
      rw [hall] at hown hlen
      obtain ⟨b0, b1, b2, b3, b4, b5, z0, z1, z2, z3, hctl⟩ := ctlT_form [(ccW, v.data.toList)]
      have HC1 := Lib.hid hctl
      have HC2 := Lib.hid (show ctlT [(88 :: 45 :: o.data.toList, [110, 111, 45, 115, 116, 111, 114, 101]), ([99, 97, 99, 104, 101, 45, 67, 79, 78, 84, 82, 79, 76], upT v.data.toList)] = _ by rw [← ctl_case v.data.toList o.data.toList [110, 111, 45, 115, 116, 111, 114, 101] [99, 97, 99, 104, 101, 45, 67, 79, 78, 84, 82, 79, 76] (by decide), hctl])
      obtain ⟨up, hup⟩ : ∃ up : ByteArray, up = ⟨(upT v.data.toList).toArray⟩ := ⟨_, rfl⟩
      have hupd : up.data.toList = upT v.data.toList := by rw [hup]
      have hups : up.size = v.size := by rw [← size_list, hupd]; exact hlen
      have HUP := Lib.hid hupd
      have HO := Lib.hid hown
      have HT1 := Lib.hid (show (tokensOf [(ccW, v.data.toList)] pgW).length ≤ 8000000000000 by
        have := tokens_of_len [(ccW, v.data.toList)] pgW
        simp only [List.map_cons, List.map_nil, List.sum_cons, List.sum_nil, size_list] at this
        omega)
      have HT2 := Lib.hid (show (tokensOf [(88 :: 45 :: o.data.toList, [110, 111, 45, 115, 116, 111, 114, 101]), ([99, 97, 99, 104, 101, 45, 67, 79, 78, 84, 82, 79, 76], upT v.data.toList)] pgW).length ≤ 8000000000000 by
        have := tokens_of_len [(88 :: 45 :: o.data.toList, [110, 111, 45, 115, 116, 111, 114, 101]), ([99, 97, 99, 104, 101, 45, 67, 79, 78, 84, 82, 79, 76], upT v.data.toList)] pgW
        simp only [List.map_cons, List.map_nil, List.sum_cons, List.sum_nil, List.length_cons, List.length_nil, hlen] at this
        omega)
      have HS1 := Lib.hid (show ∀ x ∈ [(ccW, v.data.toList)], x.1.length ≤ 4000000 ∧ x.2.length ≤ 4000000 by
        intro x hx
        rw [List.mem_singleton.1 hx, size_list]
        exact ⟨by show ccW.length ≤ _; decide, by omega⟩)
      have HS2 := Lib.hid (show ∀ x ∈ [((88 :: 45 :: o.data.toList : List UInt8), ([110, 111, 45, 115, 116, 111, 114, 101] : List UInt8)), ([99, 97, 99, 104, 101, 45, 67, 79, 78, 84, 82, 79, 76], upT v.data.toList)], x.1.length ≤ 4000000 ∧ x.2.length ≤ 4000000 by
        intro x hx
        simp only [List.mem_cons, List.not_mem_nil, or_false] at hx
        rcases hx with rfl | rfl
        · simp only [List.length_cons, List.length_nil, size_list]; omega
        · simp only [List.length_cons, List.length_nil, hlen]; omega)
      clear hctl hall hupd hown
      go_wp2_with fail
      refine (one_any v _).mono ?_
      rintro e w2 ⟨p2, rfl, hin2, hb2⟩
      have hB2 := hb.trans (hb2.mono hbs)
      have hs2 := hB2.size
      have hBW2 := hb1.trans (hB2.mono hs1)
      have hc1 := cparse_any [(ccW, v.data.toList)] p2 1 1 rfl (by omega) w2 hin2 HS1.out HT1.out (hM.below hBW2)
      rw [HC1.out] at hc1
      go_wp2_with fail
      refine hc1.mono ?_
      rintro e w3 ⟨rfl, hb3⟩
      have hB3 := hBW2.trans (hb3.mono (by omega))
      have hs3 := hb3.size
      clear hc1
      have hown3 := ((HO.out.below hb2).below hb3).alloc (.cells #[.bool b0, .bool b1, .bool b2, .bool b3, .bool b4, .bool b5, .int .i64 z0, .int .i64 z1, .int .i64 z2, .int .i64 z3] 28)
      obtain ⟨pu, cu, rfl, _, _, hinu⟩ := hown3.in8n hlen
      have hts := toStr_at hinu hlen cu
      rw [← hup] at hts
      have hB4 := hB3.alloc (by omega) (.cells #[.bool b0, .bool b1, .bool b2, .bool b3, .bool b4, .bool b5, .int .i64 z0, .int .i64 z1, .int .i64 z2, .int .i64 z3] 28)
      have g3 : (w3.alloc (.cells #[.bool b0, .bool b1, .bool b2, .bool b3, .bool b4, .bool b5, .int .i64 z0, .int .i64 z1, .int .i64 z2, .int .i64 z3] 28)).heap[w3.heap.size]? = some (.cells #[.bool b0, .bool b1, .bool b2, .bool b3, .bool b4, .bool b5, .int .i64 z0, .int .i64 z1, .int .i64 z2, .int .i64 z3] 28 (0, 0)) := heap_alloc_new w3 _
      have hs4 : (w3.alloc (.cells #[.bool b0, .bool b1, .bool b2, .bool b3, .bool b4, .bool b5, .int .i64 z0, .int .i64 z1, .int .i64 z2, .int .i64 z3] 28)).heap.size = w3.heap.size + 1 := by simp
      clear hown3 hinu hup hin2 hb2 hb3 hB2 hB3
      go_wp2_with fail
      have hB5 := hB4.alloc (by rw [hs4]; omega) (.cells #[.string (⟨#[88, 45]⟩ ++ o), .string ⟨#[110, 111, 45, 115, 116, 111, 114, 101]⟩, .string ⟨#[99, 97, 99, 104, 101, 45, 67, 79, 78, 84, 82, 79, 76]⟩, .string up] 36)
      have hb5 := (Below.refl (w3.alloc (.cells #[.bool b0, .bool b1, .bool b2, .bool b3, .bool b4, .bool b5, .int .i64 z0, .int .i64 z1, .int .i64 z2, .int .i64 z3] 28)).heap.size (w3.alloc (.cells #[.bool b0, .bool b1, .bool b2, .bool b3, .bool b4, .bool b5, .int .i64 z0, .int .i64 z1, .int .i64 z2, .int .i64 z3] 28))).alloc (Nat.le_refl _) (.cells #[.string (⟨#[88, 45]⟩ ++ o), .string ⟨#[110, 111, 45, 115, 116, 111, 114, 101]⟩, .string ⟨#[99, 97, 99, 104, 101, 45, 67, 79, 78, 84, 82, 79, 76]⟩, .string up] 36)
      have hlit := In2.lit (w3.alloc (.cells #[.bool b0, .bool b1, .bool b2, .bool b3, .bool b4, .bool b5, .int .i64 z0, .int .i64 z1, .int .i64 z2, .int .i64 z3] 28)) [(88 :: 45 :: o.data.toList, [110, 111, 45, 115, 116, 111, 114, 101]), ([99, 97, 99, 104, 101, 45, 67, 79, 78, 84, 82, 79, 76], upT v.data.toList)] #[.string (⟨#[88, 45]⟩ ++ o), .string ⟨#[110, 111, 45, 115, 116, 111, 114, 101]⟩, .string ⟨#[99, 97, 99, 104, 101, 45, 67, 79, 78, 84, 82, 79, 76]⟩, .string up] 36 (0, 0) (by
        rw [← HUP.out]
        simp only [pr, prV, List.cons_append, List.nil_append, List.append_nil]
        congr 2)
      rw [hs4] at hlit
      have hc2 := cparse_any _ _ 2 2 rfl (by omega) _ hlit HS2.out HT2.out (hM.below hB5)
      rw [HC2.out] at hc2
      refine hc2.mono ?_
      rintro e w6 ⟨rfl, hb6⟩
      have hb6' := hb5.trans (hb6.mono (by simp))
      have hB6 := hB4.trans (hb6'.mono (by rw [hs4]; omega))
      have hs6 := hb6'.size
      rw [hs4] at hs6
      have g6 := (hb6'.block w3.heap.size (by rw [hs4]; omega)).trans g3
      have hs7 : (w6.alloc (.cells #[.bool b0, .bool b1, .bool b2, .bool b3, .bool b4, .bool b5, .int .i64 z0, .int .i64 z1, .int .i64 z2, .int .i64 z3] 28)).heap.size = w6.heap.size + 1 := by simp
      have g7 : (w6.alloc (.cells #[.bool b0, .bool b1, .bool b2, .bool b3, .bool b4, .bool b5, .int .i64 z0, .int .i64 z1, .int .i64 z2, .int .i64 z3] 28)).heap[w3.heap.size]? = _ := (Below.heap_alloc w6 (.cells #[.bool b0, .bool b1, .bool b2, .bool b3, .bool b4, .bool b5, .int .i64 z0, .int .i64 z1, .int .i64 z2, .int .i64 z3] 28) w3.heap.size (by omega)).trans g6
      have y0 : (w6.alloc (.cells #[.bool b0, .bool b1, .bool b2, .bool b3, .bool b4, .bool b5, .int .i64 z0, .int .i64 z1, .int .i64 z2, .int .i64 z3] 28)).cell? ⟨w3.heap.size, 0, none⟩ = some (.bool b0) := by rw [cell_of_row _ _ _ _ _ _ g7]; rfl
      have y1 : (w6.alloc (.cells #[.bool b0, .bool b1, .bool b2, .bool b3, .bool b4, .bool b5, .int .i64 z0, .int .i64 z1, .int .i64 z2, .int .i64 z3] 28)).cell? ⟨w3.heap.size, 1, none⟩ = some (.bool b1) := by rw [cell_of_row _ _ _ _ _ _ g7]; rfl
      have y2 : (w6.alloc (.cells #[.bool b0, .bool b1, .bool b2, .bool b3, .bool b4, .bool b5, .int .i64 z0, .int .i64 z1, .int .i64 z2, .int .i64 z3] 28)).cell? ⟨w3.heap.size, 2, none⟩ = some (.bool b2) := by rw [cell_of_row _ _ _ _ _ _ g7]; rfl
      have y3 : (w6.alloc (.cells #[.bool b0, .bool b1, .bool b2, .bool b3, .bool b4, .bool b5, .int .i64 z0, .int .i64 z1, .int .i64 z2, .int .i64 z3] 28)).cell? ⟨w3.heap.size, 3, none⟩ = some (.bool b3) := by rw [cell_of_row _ _ _ _ _ _ g7]; rfl
      have y4 : (w6.alloc (.cells #[.bool b0, .bool b1, .bool b2, .bool b3, .bool b4, .bool b5, .int .i64 z0, .int .i64 z1, .int .i64 z2, .int .i64 z3] 28)).cell? ⟨w3.heap.size, 4, none⟩ = some (.bool b4) := by rw [cell_of_row _ _ _ _ _ _ g7]; rfl
      have y5 : (w6.alloc (.cells #[.bool b0, .bool b1, .bool b2, .bool b3, .bool b4, .bool b5, .int .i64 z0, .int .i64 z1, .int .i64 z2, .int .i64 z3] 28)).cell? ⟨w3.heap.size, 5, none⟩ = some (.bool b5) := by rw [cell_of_row _ _ _ _ _ _ g7]; rfl
      have y6 : (w6.alloc (.cells #[.bool b0, .bool b1, .bool b2, .bool b3, .bool b4, .bool b5, .int .i64 z0, .int .i64 z1, .int .i64 z2, .int .i64 z3] 28)).cell? ⟨w3.heap.size, 6, none⟩ = some (.int .i64 z0) := by rw [cell_of_row _ _ _ _ _ _ g7]; rfl
      have y7 : (w6.alloc (.cells #[.bool b0, .bool b1, .bool b2, .bool b3, .bool b4, .bool b5, .int .i64 z0, .int .i64 z1, .int .i64 z2, .int .i64 z3] 28)).cell? ⟨w3.heap.size, 7, none⟩ = some (.int .i64 z1) := by rw [cell_of_row _ _ _ _ _ _ g7]; rfl
      have y8 : (w6.alloc (.cells #[.bool b0, .bool b1, .bool b2, .bool b3, .bool b4, .bool b5, .int .i64 z0, .int .i64 z1, .int .i64 z2, .int .i64 z3] 28)).cell? ⟨w3.heap.size, 8, none⟩ = some (.int .i64 z2) := by rw [cell_of_row _ _ _ _ _ _ g7]; rfl
      have y9 : (w6.alloc (.cells #[.bool b0, .bool b1, .bool b2, .bool b3, .bool b4, .bool b5, .int .i64 z0, .int .i64 z1, .int .i64 z2, .int .i64 z3] 28)).cell? ⟨w3.heap.size, 9, none⟩ = some (.int .i64 z3) := by rw [cell_of_row _ _ _ _ _ _ g7]; rfl
      clear hc2 hlit hB5 hb5 hb6 hb6' g3 hts g7 g6
      go_wp2_with fail
      go_ret
      exact ⟨rfl, hB6.alloc (by omega) _⟩
end Go.Proofs.YtnengooipemffaaDoor
