/-
  Parse, the program's: the fields of lines.
-/
import Derived.Test.YtpgjlepjhbjhfaaDoorLine
import Derived.Test.YtpgjlepjhbjhfaaDoorIndexAny
import Derived.Test.YtpgjlepjhbjhfaaDoorFields
import Derived.Test.YtpgjlepjhbjhfaaDoorToStr
import Derived.WalkSpells
import Derived.Lib.SlBytesConst
namespace Go.Proofs.YtpgjlepjhbjhfaaDoor
open Go.RowKit

def eolAt (l : List UInt8) (k : Nat) : Bool := decide (l.getD k 0 = 13 ∧ l.getD (k + 1) 0 = 10)
/-- the fields of lines behind those that are there, and the error's number -/
def parseA (out : List Pair) (l : List UInt8) : List Pair × Nat :=
  if h0 : l = [] then (out, 0)
  else if eolAt l (l.findIdx endB) = true then
    (if (lineR (l.take (l.findIdx endB))).2 ≠ 0 then ([], (lineR (l.take (l.findIdx endB))).2)
     else if 100 ≤ out.length then ([], 42)
     else parseA (out ++ [(lineR (l.take (l.findIdx endB))).1]) (l.drop (l.findIdx endB + 2)))
  else ([], 40)
termination_by l.length
decreasing_by
  have : 0 < l.length := List.length_pos_iff.2 h0
  rw [List.length_drop]; omega
def parseT (l : List UInt8) : List Pair × Nat := parseA [] l
theorem parseA_nil (out : List Pair) : parseA out [] = (out, 0) := by rw [parseA]; simp
theorem parseA_bad (out : List Pair) (l : List UInt8) (h0 : 0 < l.length) (h : eolAt l (l.findIdx endB) = false) : parseA out l = ([], 40) := by
  rw [parseA, dif_neg (List.length_pos_iff.1 h0), if_neg (by rw [h]; simp)]
theorem parseA_line (out : List Pair) (l : List UInt8) (h0 : 0 < l.length) (h : eolAt l (l.findIdx endB) = true) (he : (lineR (l.take (l.findIdx endB))).2 ≠ 0) : parseA out l = ([], (lineR (l.take (l.findIdx endB))).2) := by
  rw [parseA, dif_neg (List.length_pos_iff.1 h0), if_pos h, if_pos he]
theorem parseA_many (out : List Pair) (l : List UInt8) (h0 : 0 < l.length) (h : eolAt l (l.findIdx endB) = true) (he : (lineR (l.take (l.findIdx endB))).2 = 0) (ho : 100 ≤ out.length) : parseA out l = ([], 42) := by
  rw [parseA, dif_neg (List.length_pos_iff.1 h0), if_pos h, if_neg (by rw [he]; simp), if_pos ho]
theorem parseA_go (out : List Pair) (l : List UInt8) (h0 : 0 < l.length) (h : eolAt l (l.findIdx endB) = true) (he : (lineR (l.take (l.findIdx endB))).2 = 0) (ho : out.length < 100) :
    parseA out l = parseA (out ++ [(lineR (l.take (l.findIdx endB))).1]) (l.drop (l.findIdx endB + 2)) := by
  conv => lhs; rw [parseA]
  rw [dif_neg (List.length_pos_iff.1 h0), if_pos h, if_neg (by rw [he]; simp), if_neg (by omega)]
theorem eol_pre (l : List UInt8) (k : Nat) : Lib.hasPrefix (l.drop k) [13, 10] = eolAt l k := by
  have g : ∀ j, l.getD (k + j) 0 = (l.drop k).getD j 0 := fun j => by
    rw [List.getD_eq_getElem?_getD, List.getD_eq_getElem?_getD, List.getElem?_drop]
  unfold eolAt Lib.hasPrefix
  rw [show l.getD k 0 = (l.drop k).getD 0 0 from g 0, g 1]
  generalize l.drop k = m
  match m with
  | [] => rfl
  | [x] => simp [List.isPrefixOf]
  | x :: y :: r =>
    simp only [List.isPrefixOf, List.getD_cons_zero, List.getD_cons_succ, Bool.and_true]
    rw [Bool.eq_iff_iff, Bool.and_eq_true, beq_iff_eq, beq_iff_eq, decide_eq_true_iff]
    exact ⟨fun ⟨a, b⟩ => ⟨a.symm, b.symm⟩, fun ⟨a, b⟩ => ⟨a.symm, b.symm⟩⟩
theorem eol_in (l : List UInt8) (k : Nat) (h : eolAt l k = true) : k + 1 < l.length := by
  unfold eolAt at h
  have h2 := (of_decide_eq_true h).2
  by_cases hl : k + 1 < l.length
  · exact hl
  · rw [List.getD_eq_getElem?_getD, List.getElem?_eq_none (by omega)] at h2
    simp at h2

theorem hasPre8 (l q : List UInt8) (n m b1 o1 c b2 o2 d : Nat) (hn : l.length = n) (hm : q.length = m) (w : World) (hnc : n ≤ c) (hc1 : ∀ i, i < l.length → w.cell? ⟨b1, o1 + i, none⟩ = some (.int .u8 (bt l i))) (hc2 : ∀ i, i < q.length → w.cell? ⟨b2, o2 + i, none⟩ = some (.int .u8 (bt q i))) :
    Calls Tryd.prog 40 #[.slice (some ⟨b1, o1, none⟩) n c, .slice (some ⟨b2, o2, none⟩) m d] w fun e w' => e = .returned (.bool (Lib.hasPrefix l q)) ∧ w = w' := by
  subst hn hm
  have e : ∀ s : List UInt8, Lib.bytesOf (s.map fun b => (b.toNat : Int)) = s := fun s => by
    unfold Lib.bytesOf; rw [List.map_map]
    conv => rhs; rw [← List.map_id s]
    exact List.map_congr_left fun x _ => by simp
  have g : ∀ (s : List UInt8) (i : Nat), i < s.length → (s.map fun b => (b.toNat : Int)).getD i 0 = bt s i := fun s i hi => by
    rw [bt_get s i hi, List.getD_eq_getElem?_getD, List.getElem?_map, List.getElem?_eq_getElem hi]; rfl
  have h := Tryd.bytes_HasPrefix b1 o1 l.length c b2 o2 q.length d (l.map fun b => (b.toNat : Int)) (q.map fun b => (b.toNat : Int)) w (by simp) (by simp) hnc (fun i hi => by rw [g l i hi]; exact hc1 i hi) (fun i hi => by rw [g q i hi]; exact hc2 i hi)
  rw [e, e] at h
  exact h.mono fun _ _ ⟨h1, h2⟩ => ⟨h1, h2.symm⟩

theorem In8.from {w : World} {b o : Nat} {l : List UInt8} (hc : ∀ i, i < l.length → w.cell? ⟨b, o + i, none⟩ = some (.int .u8 (bt l i))) (k : Nat) :
    ∀ i, i < (l.drop k).length → w.cell? ⟨b, o + k + i, none⟩ = some (.int .u8 (bt (l.drop k) i)) := by
  intro i hi
  rw [List.length_drop] at hi
  rw [Nat.add_assoc, hc (k + i) (by omega), bt_get l _ (by omega), bt_get _ i (by rw [List.length_drop]; exact hi), List.getElem_drop]
theorem In8.fore2 {w : World} {b o : Nat} {l : List UInt8} (hc : ∀ i, i < l.length → w.cell? ⟨b, o + i, none⟩ = some (.int .u8 (bt l i))) (k : Nat) (hk : k ≤ l.length) : In8 w (some ⟨b, o, none⟩) (l.take k) := by
  intro _
  refine ⟨b, o, rfl, fun i hi => ?_⟩
  rw [List.length_take] at hi
  rw [hc i (by omega), bt_get l i (by omega), bt_get _ i (by rw [List.length_take]; exact hi), List.getElem_take]

set_option maxHeartbeats 8000000 in
set_option maxRecDepth 100000 in
theorem parse_any (l : List UInt8) (p : Option Addr) (n c : Nat) (hn : l.length = n) (hnc : n ≤ c) (hc : c ≤ maxLen) (hr : n ≤ 4000000000) (w : World) (hM : MaxC w) (hT : Lib.Utf8Tabs 2 3 w) (h : In8 w p l) :
    Calls Tryd.prog 21 #[.slice p n c] w fun e w' => ∃ v, e = .returned (.tuple #[v, .int .i64 ((parseT l).2 : Int)]) ∧ OwnF w' w.heap.size v (parseT l).1 ∧ Below w.heap.size w w' := by
  subst hn
  unfold maxLen at hc
  obtain ⟨R, hR⟩ : ∃ R, R = parseT l := ⟨_, rfl⟩
  rw [← hR]
  go_enter Tryd.func21, Tryd.ntmps21
  go_wp2_with fail
  go_loopw [0, 4] (fun bl v wr => ∃ (p' : Option Addr) (c' : Nat) (out : List Pair) (rest : List UInt8), bl = .slice p' rest.length c' ∧ rest.length ≤ c' ∧ c' ≤ c ∧ rest.length ≤ l.length ∧ In8 w p' rest ∧ OwnF wr w.heap.size v out ∧ out.length ≤ 100 ∧ parseA out rest = R ∧ Below w.heap.size w wr) (fun bl _ _ => match bl with | .slice _ n _ => n | _ => 0)
  case atStart => exact ⟨p, c, [], l, rfl, hnc, Nat.le_refl _, Nat.le_refl _, h, Own2.nil _ _ _, by simp, hR.symm, Below.refl _ _⟩
  case round =>
    obtain ⟨p', c', out, rest, rfl, k1, k2, k3, hin, hown, ho, hpa, hb⟩ := hrel
    have hbs := hb.size
    have hinr := hin.below hb
    have HP := Lib.hid hpa
    have HIN := Lib.hid hin
    clear hpa hin
    by_cases h0 : 0 < rest.length
    · obtain ⟨m, hm0⟩ := hM.below hb
      obtain ⟨b, o, rfl, hc1⟩ := hinr.at h0
      have HC := Lib.hid hc1
      clear hc1
      go_wp2_with fail
      refine (indexAny_any rest _ _ c' rfl k1 (by omega) m wr (Utf8Tabs_below hT hb) hm0 hinr).mono ?_
      rintro e w2 ⟨rfl, hb2⟩
      have hs2 := hb2.size
      have hown2 := (hown.below hb2).alloc (.cells #[.int .u8 13, .int .u8 10] 5 (2, 3))
      have hc2 := HC.out
      obtain ⟨k, hk⟩ : ∃ k, k = rest.findIdx endB := ⟨_, rfl⟩
      by_cases hkl : k < rest.length
      · have hei : endI rest = (k : Int) := by unfold endI; rw [← hk, if_pos hkl]
        rw [hei]
        have hpre := eol_pre rest k
        have hbu := hb.trans (hb2.mono hbs)
        have hw3 : ∀ i, i < rest.length → (w2.alloc (.cells #[.int .u8 13, .int .u8 10] 5 (2, 3))).cell? ⟨b, o + i, none⟩ = some (.int .u8 (bt rest i)) := fun i hi => cell_past ((hb2.cell (World.block_lt_of_cell? wr _ (HC.out i hi))).trans (HC.out i hi)) _
        have hlit := In8.lit w2 [13, 10] #[.int .u8 13, .int .u8 10] (2, 3) rfl
        obtain ⟨b2, o2, hbo, hc3⟩ := hlit.at (k := 0) (by simp)
        injection hbo with hbo
        injection hbo with hb2e ho2e _
        subst hb2e ho2e
        have hcall := hasPre8 (rest.drop k) [13, 10] (rest.length - k) 2 b (o + k) (c' - k) w2.heap.size 0 2 (List.length_drop ..) rfl (w2.alloc (.cells #[.int .u8 13, .int .u8 10] 5 (2, 3))) (by omega) (In8.from hw3 k) hc3
        rw [hpre] at hcall
        have hts := toStr_at (In8.fore2 hw3 k (by omega)) (k := k) (by rw [List.length_take]; omega) c'
        have kc : (convert 33 33 (.slice (some ⟨w2.heap.size, 0, none⟩) 2 2)).run Tryd.prog (w2.alloc (.cells #[.int .u8 13, .int .u8 10] 5)) = .ok (.slice (some ⟨w2.heap.size, 0, none⟩) 2 2) (w2.alloc (.cells #[.int .u8 13, .int .u8 10] 5 (2, 3))) := Lib.run_convert_bytes_const w2 _ _ #[.int .u8 13, .int .u8 10] 2 2 Tryd.underlying33 Tryd.underlying5
        have kn : ¬ (k : Int) < 0 := by omega
        have HK := Lib.hid hk
        clear hk hpre hlit hc3 hc2 hei hinr
        go_wp2_with fail
        refine hcall.mono ?_
        rintro e w3 ⟨rfl, rfl⟩
        cases hel : eolAt rest k
        · have HR := Lib.hid (HP.out.symm.trans (parseA_bad out rest h0 (by rw [← HK.out]; exact hel)))
          clear hel
          go_wp2_with fail
          go_ret2
          refine ⟨_, by rw [HR.out]; rfl, ?_, ?_⟩
          · rw [HR.out]; exact Own2.nil _ _ _
          · exact hbu.alloc (by omega) _
        · have hin2 := eol_in rest k hel
          have hel2 : eolAt rest (rest.findIdx endB) = true := by rw [← HK.out]; exact hel
          have HE := Lib.hid hel2
          clear hel hel2
          have hM3 : MaxC (w2.alloc (.cells #[.int .u8 13, .int .u8 10] 5 (2, 3))) := ((hM.below hb).below hb2).below ((Below.refl _ _).alloc (Nat.le_refl _) _)
          obtain ⟨x, hx⟩ : ∃ x : ByteArray, x = ⟨(rest.take k).toArray⟩ := ⟨_, rfl⟩
          have hxd : x.data.toList = rest.take (rest.findIdx endB) := by rw [hx, HK.out]
          have hxs : x.size ≤ 4000000000 := by rw [← size_list, hxd, List.length_take]; omega
          rw [← hx] at hts
          have hline := line_any x _ hM3 hxs
          rw [hxd] at hline
          obtain ⟨E, hE⟩ : ∃ E, E = (lineR (rest.take (rest.findIdx endB))).2 := ⟨_, rfl⟩
          obtain ⟨fx, hfx⟩ : ∃ t : ByteArray, t = ⟨(lineR (rest.take (rest.findIdx endB))).1.1.toArray⟩ := ⟨_, rfl⟩
          obtain ⟨fy, hfy⟩ : ∃ t : ByteArray, t = ⟨(lineR (rest.take (rest.findIdx endB))).1.2.toArray⟩ := ⟨_, rfl⟩
          have hfd : (fx.data.toList, fy.data.toList) = (lineR (rest.take (rest.findIdx endB))).1 := by rw [hfx, hfy]
          unfold fieldV at hline
          rw [← hE, ← hfx, ← hfy] at hline
          have HEE := Lib.hid hE
          have HFD := Lib.hid hfd
          clear hE hfx hfy hfd hx hxd
          go_wp2_with fail
          refine hline.mono ?_
          rintro e w4 ⟨rfl, hb4⟩
          have hs4 := hb4.size
          simp only [World.size_alloc] at hs4
          have hb4u := (hbu.alloc (by omega) (.cells #[.int .u8 13, .int .u8 10] 5 (2, 3))).trans (hb4.mono (by simp; omega))
          have hb4a := hb4u.alloc (by omega) (.cells #[.string fx, .string fy] 26)
          by_cases he : E = 0
          · have hei : ((E : Int) != 0) = false := by subst he; rfl
            by_cases ho100 : out.length = 100
            · have hoi : ((out.length : Int) == 100) = true := by simp; omega
              have HR := Lib.hid (HP.out.symm.trans (parseA_many out rest h0 HE.out (by rw [← HEE.out]; exact he) (by omega)))
              obtain ⟨pv, cv, rfl, _, _, _, _⟩ := Own2.shape hown2 rfl
              clear he ho100
              go_wp2_with fail
              go_ret2
              refine ⟨_, by rw [HR.out]; rfl, ?_, hb4a⟩
              rw [HR.out]; exact Own2.nil _ _ _
            · have hoi : ((out.length : Int) == 100) = false := by simp; omega
              have HR := Lib.hid (HP.out.symm.trans (parseA_go out rest h0 HE.out (by rw [← HEE.out]; exact he) (by omega)))
              have hown4 := ((hown2.below hb4).alloc (.cells #[.string fx, .string fy] 26)).alloc (.cells #[.string fx, .string fy] 26)
              have hin5 := In2.one (w4.alloc (.cells #[.string fx, .string fy] 26)) fx fy 26
              rw [World.size_alloc] at hin5
              obtain ⟨pv, cv, rfl, _, _, _, _⟩ := Own2.shape hown4 rfl
              have hcp : c' = k + 2 ∨ k + 2 < c' := by omega
              have ho99 : out.length ≤ 99 := by omega
              clear he ho100
              rcases hcp with hcp | hcp
              · go_wp2_with (at_builtin; refine wpList_append2 parF rfl _ _ rfl w.heap.size _ _ rfl hown4 _ _ _ _ rfl rfl hin5 (by simp; omega) (by simp; omega) ?_; intro v6 w6 hown6 hgrow6 _)
                go_roundw
                case rel =>
                  refine ⟨some ⟨b, o, none⟩, k + 2 - (k + 2), out ++ [(fx.data.toList, fy.data.toList)], rest.drop (k + 2), by rw [List.length_drop], by rw [List.length_drop]; omega, by omega, by rw [List.length_drop]; omega, ?_, hown6, by simp; omega, ?_, Own2.grown (hb4a.alloc (by simp; omega) _) (by simp; omega) hown4 hgrow6⟩
                  · exact fun h => absurd h (by rw [List.length_drop]; omega)
                  · rw [HFD.out, HK.out]; exact HR.out.symm
                case measure => simp; omega
              · go_wp2_with (at_builtin; refine wpList_append2 parF rfl _ _ rfl w.heap.size _ _ rfl hown4 _ _ _ _ rfl rfl hin5 (by simp; omega) (by simp; omega) ?_; intro v6 w6 hown6 hgrow6 _)
                go_roundw
                case rel =>
                  refine ⟨some ⟨b, o + (k + 2), none⟩, c' - (k + 2), out ++ [(fx.data.toList, fy.data.toList)], rest.drop (k + 2), by rw [List.length_drop], by rw [List.length_drop]; omega, by omega, by rw [List.length_drop]; omega, ?_, hown6, by simp; omega, ?_, Own2.grown (hb4a.alloc (by simp; omega) _) (by simp; omega) hown4 hgrow6⟩
                  · obtain ⟨b', o', e, hw⟩ := HIN.out h0
                    injection e with e
                    injection e with e1 e2 _
                    subst e1 e2
                    exact fun _ => ⟨b, o + (k + 2), rfl, In8.from hw (k + 2)⟩
                  · rw [HFD.out, HK.out]; exact HR.out.symm
                case measure => simp; omega
          · have hei : ((E : Int) != 0) = true := by simp; omega
            have HR := Lib.hid (HP.out.symm.trans (parseA_line out rest h0 HE.out (by rw [← HEE.out]; exact he)))
            rw [← HEE.out] at HR
            clear he
            go_wp2_with fail
            go_ret2
            refine ⟨_, by rw [HR.out]; rfl, ?_, hb4a⟩
            rw [HR.out]; exact Own2.nil _ _ _
      · have hei : endI rest = -1 := by unfold endI; rw [← hk, if_neg hkl]
        have HR := Lib.hid (HP.out.symm.trans (parseA_bad out rest h0 (by
          rw [← hk]
          cases he : eolAt rest k with
          | false => rfl
          | true => have := eol_in rest k he; omega)))
        rw [hei]
        go_wp2_with fail
        go_ret2
        refine ⟨_, by rw [HR.out]; rfl, ?_, ?_⟩
        · rw [HR.out]; exact Own2.nil _ _ _
        · exact hb.trans (hb2.mono hbs)
    · have hre : rest = [] := List.length_eq_zero_iff.1 (by omega)
      have HR := Lib.hid (show R = (out, 0) by rw [← HP.out, hre]; exact parseA_nil out)
      clear hre
      go_wp2_with fail
      go_ret2
      exact ⟨_, by rw [HR.out]; rfl, by rw [HR.out]; exact hown, hb⟩
end Go.Proofs.YtpgjlepjhbjhfaaDoor
