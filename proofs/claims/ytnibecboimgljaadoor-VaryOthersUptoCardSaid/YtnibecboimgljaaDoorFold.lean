/-
  Fold and the document's Lower: great letters made small.
-/
import Derived.Test.YtnibecboimgljaaDoorStrB
import Derived.Test.YtnibecboimgljaaDoorToStr
namespace Go.Proofs.YtnibecboimgljaaDoor
open Go.RowKit

/-- a great letter made small -/
def lowB (b : UInt8) : UInt8 := if 65 ≤ b.toNat ∧ b.toNat ≤ 90 then ubyte ((b.toNat : Int) + 32) else b
def fold (l : List UInt8) : List UInt8 := l.map lowB
theorem fold_length (l : List UInt8) : (fold l).length = l.length := by simp [fold]
theorem fold_snoc (l : List UInt8) (k : Nat) (h : k < l.length) : fold (l.take k) ++ [lowB l[k]] = fold (l.take (k + 1)) := by
  unfold fold; rw [take_snoc l k h, List.map_append]; rfl
theorem lowB_yes (b : UInt8) (h : 65 ≤ (b.toNat : Int) ∧ (b.toNat : Int) ≤ 90) : ubyte ((b.toNat : Int) + 32) = lowB b := by
  unfold lowB; rw [if_pos (by omega)]
theorem lowB_no (b : UInt8) (h : ¬ (65 ≤ (b.toNat : Int) ∧ (b.toNat : Int) ≤ 90)) : lowB b = b := by
  unfold lowB; rw [if_neg (by omega)]

set_option maxHeartbeats 1000000 in
theorem lower_any (s : ByteArray) (w : World) (hs : s.size ≤ 140737488351232) :
    Calls Tryd.prog 23 #[.string s] w fun e w' => e = .returned (.string ⟨(fold s.data.toList).toArray⟩) ∧ Below w.heap.size w w' := by
  have hz := size_list s
  have HZ := Lib.hid hz
  clear hz
  go_enter Tryd.func23, Tryd.ntmps23
  go_wp2
  go_loopw [3, 4] (fun v i wr => ∃ k : Nat, k ≤ s.size ∧ i = .int .i64 k ∧ Own8 wr w.heap.size v (fold (s.data.toList.take k)) ∧ Below w.heap.size w wr) (fun _ i _ => s.size - (intOf i).toNat)
  case atStart => exact ⟨0, Nat.zero_le _, rfl, Own8.made w, (Below.refl _ _).alloc (Nat.le_refl _) _⟩
  case round =>
    obtain ⟨k, hk, rfl, hown, hb⟩ := hrel
    have hlen : (fold (s.data.toList.take k)).length = k := by rw [fold_length, List.length_take, HZ.out]; omega
    have hbs := hb.size
    by_cases hlt : k < s.size
    · have hkl : k < s.data.toList.length := by rw [HZ.out]; exact hlt
      have hbt := bt_str s k hlt
      rw [bt_get _ k hkl] at hbt
      have hby : s.data.toList[k] = s[k] := UInt8.toNat_inj.1 (by omega)
      have hsn := fold_snoc s.data.toList k hkl
      rw [hby] at hsn
      obtain ⟨b0, b1⟩ := byte_le s k hlt
      have HS := Lib.hid hsn
      have HL := Lib.hid hlen
      clear hsn hlen hby hbt
      by_cases c1 : 65 ≤ (s[k].toNat : Int) ∧ (s[k].toNat : Int) ≤ 90
      · have HC := Lib.hid (lowB_yes s[k] c1)
        obtain ⟨c1, c2⟩ := c1
        have hin := In8.one wr ((s[k].toNat : Int) + 32) (by omega) (by omega)
        have hown2 := hown.alloc (.cells #[.int .u8 ((s[k].toNat : Int) + 32)] 5)
        go_wp2_with (at_builtin; refine wpList_append8 rfl _ _ rfl w.heap.size _ _ rfl hown2 _ _ _ _ rfl rfl hin (by rw [HL.out]; simp; omega) (by simp; omega) ?_; intro v2 w2 hown3 hgrow3 _)
        go_roundw
        case rel => exact ⟨k + 1, by omega, by go_num, by rw [← HS.out, ← HC.out]; exact hown3, own_grown (hb.alloc hbs _) (by simp; omega) hown2 hgrow3⟩
        case measure => simp [intOf]; omega
      · have HC := Lib.hid (lowB_no s[k] c1)
        have hin := In8.one wr (s[k].toNat : Int) b0 b1
        have hown2 := hown.alloc (.cells #[.int .u8 (s[k].toNat : Int)] 5)
        have two : (s[k].toNat : Int) < 65 ∨ (65 ≤ (s[k].toNat : Int) ∧ ¬ (s[k].toNat : Int) ≤ 90) := by omega
        clear c1
        rcases two with c1 | ⟨c1, c2⟩
        all_goals
          go_wp2_with (at_builtin; refine wpList_append8 rfl _ _ rfl w.heap.size _ _ rfl hown2 _ _ _ _ rfl rfl hin (by rw [HL.out]; simp; omega) (by simp; omega) ?_; intro v2 w2 hown3 hgrow3 _)
          go_roundw
          case rel => exact ⟨k + 1, by omega, by go_num, by rw [← HS.out, HC.out, ← ubyte_self s[k]]; exact hown3, own_grown (hb.alloc hbs _) (by simp; omega) hown2 hgrow3⟩
          case measure => simp [intOf]; omega
    · obtain rfl : k = s.size := by omega
      obtain ⟨p, c, rfl, h1, h2, hin⟩ := hown.in8n hlen
      have hts := toStr_at hin hlen c
      have hall : s.data.toList.take s.size = s.data.toList := List.take_of_length_le (by rw [HZ.out]; omega)
      rw [hall] at hts
      have HL := Lib.hid hlen
      clear hlen hall
      go_wp2
      go_ret
      exact ⟨rfl, hb⟩

theorem fold_step (l : List UInt8) (k : Nat) (h : k < l.length) (b : UInt8) (hb : b = lowB l[k]) : (fold (l.take k) ++ l.drop k).set k b = fold (l.take (k + 1)) ++ l.drop (k + 1) := by
  subst hb
  have e : (fold (l.take k)).length = k := by rw [fold_length, List.length_take]; omega
  rw [List.set_append_right _ _ (by omega), e, Nat.sub_self, List.drop_eq_getElem_cons h, List.set_cons_zero, ← fold_snoc l k h, List.append_assoc]
  rfl
theorem fold_same (l : List UInt8) (k : Nat) (h : k < l.length) (hb : lowB l[k] = l[k]) : fold (l.take k) ++ l.drop k = fold (l.take (k + 1)) ++ l.drop (k + 1) := by
  rw [← fold_snoc l k h, hb, List.append_assoc, List.drop_eq_getElem_cons h]
  rfl
theorem bt_fold (l : List UInt8) (k : Nat) (h : k < l.length) : bt (fold (l.take k) ++ l.drop k) k = bt l k := by
  have e : (fold (l.take k)).length = k := by rw [fold_length, List.length_take]; omega
  unfold bt
  rw [List.getD_eq_getElem?_getD, List.getElem?_append_right (by omega), e, Nat.sub_self, List.getElem?_drop, Nat.add_zero, ← List.getD_eq_getElem?_getD]

set_option maxHeartbeats 1000000 in
theorem tokFold_any (s : ByteArray) (w : World) (hs : s.size ≤ 140737488351232) :
    Calls Tryd.prog 30 #[.string s] w fun e w' => e = .returned (.string ⟨(fold s.data.toList).toArray⟩) ∧ Below w.heap.size w w' := by
  have hz := size_list s
  have HZ := Lib.hid hz
  clear hz
  go_enter Tryd.func30, Tryd.ntmps30
  go_wp2_with (refine wpList_toBytes rfl (.tmp 6) rfl s rfl (by unfold maxLen; omega) ?_; intro g c w1 hg hg' hin hc1 hc2 hb1 hfr)
  unfold maxLen at hc2
  go_loopw [10] (fun i wr => ∃ k : Nat, k ≤ s.size ∧ i = .int .i64 k ∧ In8 wr (some ⟨g, 0, none⟩) (fold (s.data.toList.take k) ++ s.data.toList.drop k) ∧ (∀ i, i < c → wr.frozen? ⟨g, i, none⟩ = false) ∧ Below w.heap.size w wr) (fun i _ => s.size - (intOf i).toNat)
  case atStart => exact ⟨0, Nat.zero_le _, rfl, by simpa [fold] using hin, hfr, hb1⟩
  case round =>
    obtain ⟨k, hk, rfl, hin, hfr, hb⟩ := hrel
    by_cases hlt : k < s.size
    · have hkl : k < s.data.toList.length := by rw [HZ.out]; exact hlt
      have hL : (fold (s.data.toList.take k) ++ s.data.toList.drop k).length = s.size := by rw [List.length_append, fold_length, List.length_take, List.length_drop, HZ.out]; omega
      obtain ⟨b', o', e, hcell⟩ := hin.at (k := k) (by omega)
      simp only [Option.some.injEq, Addr.mk.injEq, and_true] at e
      obtain ⟨rfl, rfl⟩ := e
      have hck := hcell k (by omega)
      rw [bt_fold _ k hkl, bt_get _ k hkl, Nat.zero_add] at hck
      have hfk := hfr k (by omega)
      have b0 : 0 ≤ (s.data.toList[k].toNat : Int) := by omega
      have b1 : (s.data.toList[k].toNat : Int) ≤ 255 := by have := s.data.toList[k].toNat_lt; omega
      have HIN := Lib.hid hin
      have HFR := Lib.hid hfr
      have HL := Lib.hid hL
      clear hcell hin hfr hL
      by_cases c1 : 65 ≤ (s.data.toList[k].toNat : Int) ∧ (s.data.toList[k].toNat : Int) ≤ 90
      · have HC := Lib.hid (lowB_yes s.data.toList[k] c1)
        obtain ⟨c1, c2⟩ := c1
        have HS := Lib.hid (fold_step s.data.toList k hkl _ HC.out)
        generalize s.data.toList[k] = x at *
        have hset := In8.set HIN.out k ((x.toNat : Int) + 32) (by omega) (by omega)
        rw [HS.out, Nat.zero_add] at hset
        have HSET := Lib.hid hset
        clear hset
        go_wp2
        go_roundw
        case rel => exact ⟨k + 1, by omega, by go_num, by rw [show (x.toNat : Int) + 97 - 65 = (x.toNat : Int) + 32 from by omega]; exact HSET.out, fun i hi => by rw [World.frozen?_setCell]; exact HFR.out i hi, hb.setCell (p := ⟨g, k, none⟩) hg _⟩
        case measure => simp [intOf]; omega
      · have HC := Lib.hid (fold_same s.data.toList k hkl (lowB_no s.data.toList[k] c1))
        have two : (s.data.toList[k].toNat : Int) < 65 ∨ (65 ≤ (s.data.toList[k].toNat : Int) ∧ ¬ (s.data.toList[k].toNat : Int) ≤ 90) := by omega
        clear c1
        generalize s.data.toList[k] = x at *
        rcases two with c1 | ⟨c1, c2⟩
        all_goals
          go_wp2
          go_roundw
          case rel => exact ⟨k + 1, by omega, by go_num, by rw [← HC.out]; exact HIN.out, HFR.out, hb⟩
          case measure => simp [intOf]; omega
    · obtain rfl : k = s.size := by omega
      have hall : fold (s.data.toList.take s.size) ++ s.data.toList.drop s.size = fold s.data.toList := by
        rw [List.take_of_length_le (by rw [HZ.out]; omega), List.drop_of_length_le (by rw [HZ.out]; omega), List.append_nil]
      rw [hall] at hin
      have hts := toStr_at hin (by rw [fold_length, HZ.out]) c
      have HH := Lib.hid hall
      clear hall hin
      go_wp2
      go_ret
      exact ⟨rfl, hb⟩
end Go.Proofs.YtnibecboimgljaaDoor
