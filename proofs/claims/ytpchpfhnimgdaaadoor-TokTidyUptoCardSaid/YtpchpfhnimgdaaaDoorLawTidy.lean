/-
  TokTidy: an element of a list is trimmed and not empty, and the list of an element is that element alone.
-/
import Derived.Test.YtpchpfhnimgdaaaDoorLawLists
import Derived.Deep.RegionHeld3
namespace Go.Proofs.YtpchpfhnimgdaaaDoor
open Go.RowKit

theorem cell_keep {w w' : World} {a : Addr} {v : Value} (h : w.cell? a = some v) (hb : Below w.heap.size w w') : w'.cell? a = some v :=
  (hb.cell (World.block_lt_of_cell? w _ h)).trans h
theorem below_on {B : Nat} {w w1 w2 : World} (h : Below B w w1) (hs : B ≤ w.heap.size) (h2 : Below w1.heap.size w1 w2) : Below B w w2 :=
  h.trans (h2.mono (Nat.le_trans hs h.size))

set_option maxHeartbeats 4000000 in
theorem tokTidy_walk (s : ByteArray) (w : World) (hs : s.data.toList.length ≤ 1048576) :
    Calls Tryd.prog 5 #[.string s] w fun e w' => e = .returned (.bool true) ∧ Below w.heap.size w w' := by
  have hll := listOf_length s.data.toList
  have HZ := Lib.hid (size_list s)
  rw [size_list] at hs hll
  obtain ⟨M, hM⟩ : ∃ M, M = listOf s.data.toList := ⟨_, rfl⟩
  rw [← hM] at hll
  have HEL := Lib.hid (fun x (hx : x ∈ M) => listOf_el s.data.toList x (by rw [← hM]; exact hx))
  have HM := Lib.hid hM
  clear hM
  go_enter Tryd.func5, Tryd.ntmps5
  go_wp2_with fail
  refine (alive_any _).mono ?_
  rintro e w1 ⟨rfl, hb1⟩
  have hs1 := hb1.size
  go_wp2_with fail
  refine (tokList_any s _ (by omega)).mono ?_
  rintro e w2 ⟨v2, rfl, hown2, hb2⟩
  have hs2 := hb2.size
  rw [← HM.out] at hown2
  obtain ⟨p, c, rfl, k1, k2, hin, _⟩ := hown2.shape rfl
  have hB := hb1.trans (hb2.mono hs1)
  unfold maxLen at k2
  clear hown2
  go_wp2_with fail
  go_loopw [4] (fun i wr => ∃ k : Nat, k ≤ M.length ∧ i = .int .i64 k ∧ Below w2.heap.size w2 wr) (fun i _ => M.length - (intOf i).toNat)
  case atStart => exact ⟨0, by omega, rfl, Below.refl _ _⟩
  case round =>
    obtain ⟨k, hk, rfl, hb⟩ := hrel
    have hbs := hb.size
    by_cases hlt : k < M.length
    · obtain ⟨b, o, rfl, x, hck, hx⟩ := (hin.below hb).at hlt
      obtain ⟨t1, t2, t3, t4⟩ := HEL.out M[k] (List.getElem_mem hlt)
      have e0 : x.data.toList.isEmpty = false := by rw [hx]; simpa [full] using t2
      have e1 : x.toList.isEmpty = false := by rw [empty_data]; exact e0
      have e2 : (x.toList == []) = false := by rw [beq_nil]; exact e0
      have hxs : x.size ≤ s.size := by rw [← size_list x, hx, ← HZ.out]; exact t3
      have etr : (⟨(trim x.data.toList).toArray⟩ : ByteArray) = x := by rw [hx, t1, ← hx]
      have e3 : (x.toList == x.toList) = true := by simp
      have e4 : (x.toList != x.toList) = false := by simp
      have hxi : ¬ ((s.size : Int) < (x.size : Int)) := by omega
      have hlx : listOf x.data.toList = [x.data.toList] := by rw [hx]; exact t4
      have HX := Lib.hid hx
      have HT := Lib.hid etr
      have HLX := Lib.hid hlx
      clear hx t1 t2 t3 t4 e0 etr hlx
      go_wp2_with fail
      go_region_held3 (fun w' => w'.cell? ⟨b, o + k, none⟩ = some (.string x) ∧ Below w2.heap.size w2 w')
        (refine ⟨?_, ?_⟩ <;> first | assumption | exact Below.drew (by assumption) | exact cell_keep (by assumption) hb3 | exact below_on hb.drew (Nat.le_refl _) hb3)
        (first | (go_at_call 12; refine (tokTrim_any x _ (by unfold maxLen; omega)).mono ?_; rintro e w3 ⟨rfl, hb3⟩; rw [HT.out]))
      have hbw : Below w2.heap.size w2 w3 := below_on hb.drew (Nat.le_refl _) hb3
      have hck3 : w3.cell? ⟨b, o + k, none⟩ = some (.string x) := cell_keep (w := wr.drew) hck hb3
      have hbs3 := hbw.size
      clear hb3 hck hb hbs
      go_wp2_with fail
      have hone : ∀ W : World, InS (W.alloc (.cells #[.string x] 9)) (some ⟨W.heap.size, 0, none⟩) [x.data.toList] := fun W => InS.one W x
      have HONE := Lib.hid hone
      clear hone
      have hst : ∀ (W : World) (p : Option Addr) (c : Nat) (q : Option Addr) (d : Nat), InS W p [x.data.toList] → InS W q [x.data.toList] →
          Calls Tryd.prog 17 #[.slice p 1 c, .slice q 1 d] W fun e w' => e = .returned (.bool true) ∧ Below W.heap.size W w' := fun W p c q d h1 h2 => by
        have h := sameTexts_any [x.data.toList] [x.data.toList] p q 1 c 1 d rfl rfl (by unfold maxLen; decide) (by unfold maxLen; decide) W h1 h2
        rw [show decide ([x.data.toList] = [x.data.toList]) = true from decide_eq_true rfl] at h
        exact h
      have hk1 : w3.drew.cell? ⟨b, o + k, none⟩ = some (.string x) ∧ Below w2.heap.size w2 w3.drew := ⟨hck3, hbw.drew⟩
      have hk2 : (w3.alloc (.cells #[.string x] 9)).drew.cell? ⟨b, o + k, none⟩ = some (.string x) ∧ Below w2.heap.size w2 (w3.alloc (.cells #[.string x] 9)).drew := ⟨cell_past hck3 _, (hbw.alloc hbs3 _).drew⟩
      have hi2 : InS (w3.alloc (.cells #[.string x] 9)).drew (some ⟨w3.heap.size, 0, none⟩) [x.data.toList] := InS.one w3 x
      have HST := Lib.hid hst
      have HK1 := Lib.hid hk1
      have HK2 := Lib.hid hk2
      have HI2 := Lib.hid hi2
      clear hst hk1 hk2 hi2
      go_region_held3 (fun w' => w'.cell? ⟨b, o + k, none⟩ = some (.string x) ∧ Below w2.heap.size w2 w')
        (first | (with_reducible exact HK1.out) | (with_reducible exact HK2.out) | (with_reducible exact HK4.out) | (with_reducible exact HK6.out) | (with_reducible exact HK5.out))
        (first | (go_at_call 18; refine (tokList_any x _ (by omega)).mono ?_; rintro e w4 ⟨v4, rfl, hown4, hb4⟩; rw [HLX.out] at hown4; have HK4 := Lib.hid (show w4.cell? ⟨b, o + k, none⟩ = some (.string x) ∧ Below w2.heap.size w2 w4 from (by first | exact ⟨cell_keep HK1.out.1 hb4, below_on HK1.out.2 (Nat.le_refl _) hb4⟩ | exact ⟨cell_keep HK2.out.1 hb4, below_on HK2.out.2 (Nat.le_refl _) hb4⟩)); have HK6 := Lib.hid (show (w4.alloc (.cells #[.string x] 9)).cell? ⟨b, o + k, none⟩ = some (.string x) ∧ Below w2.heap.size w2 (w4.alloc (.cells #[.string x] 9)) from ⟨cell_past HK4.out.1 _, HK4.out.2.alloc HK4.out.2.size _⟩); obtain ⟨p4, c4, rfl, _, _, hin4, _⟩ := hown4.shape (n := 1) rfl; have HI4 := Lib.hid hin4; have HB4 := Lib.hid hb4; clear hin4 hb4 hown4) | (go_at_call 17; (first | (with_reducible refine (HST.out (w4.alloc _) _ _ _ _ (HI4.out.alloc _) (InS.one w4 x)).mono ?_) | (refine (HST.out w4 _ _ _ _ HI4.out (HI2.out.below HB4.out)).mono ?_)); rintro e w5 ⟨rfl, hb5⟩; have HK5 := Lib.hid (show w5.cell? ⟨b, o + k, none⟩ = some (.string x) ∧ Below w2.heap.size w2 w5 from (by first | exact ⟨cell_keep HK6.out.1 hb5, below_on HK6.out.2 (Nat.le_refl _) hb5⟩ | exact ⟨cell_keep HK4.out.1 hb5, below_on HK4.out.2 (Nat.le_refl _) hb5⟩)); clear hb5))
      all_goals
        go_wp2
        go_roundw
        case rel => exact ⟨k + 1, by omega, by go_num, HK5.out.2⟩
        case measure => simp [intOf]; omega
    · obtain rfl : k = M.length := by omega
      go_wp2
      go_ret
      exact ⟨rfl, hB.trans (hb.mono (by omega))⟩
end Go.Proofs.YtpchpfhnimgdaaaDoor
