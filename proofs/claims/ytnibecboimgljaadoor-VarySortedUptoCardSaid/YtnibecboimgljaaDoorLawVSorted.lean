/-
  VarySorted: the names rise, each once, and the order of the words makes no difference.
-/
import Derived.Test.YtnibecboimgljaaDoorAlive17
import Derived.Test.YtnibecboimgljaaDoorVSize
import Derived.Test.YtnibecboimgljaaDoorTwo
namespace Go.Proofs.YtnibecboimgljaaDoor
open Go.RowKit

def VaryW : List UInt8 := [86, 97, 114, 121]
theorem tokens_two (a b : List UInt8) (h : ∀ x ∈ a, x ≠ 34) : tokensOf [(VaryW, a ++ 44 :: b)] varyB = wordsOf a ++ wordsOf b := by
  have hv : valuesOf [(VaryW, a ++ 44 :: b)] varyB = [a ++ 44 :: b] := by
    unfold valuesOf
    rw [List.filter_cons, if_pos (show hasName varyB (VaryW, a ++ 44 :: b) = true from by show decide (fold VaryW = fold varyB) = true; decide)]
    rfl
  unfold tokensOf
  rw [hv]
  simp only [List.flatMap_cons, List.flatMap_nil, List.append_nil]
  unfold wordsOf
  rw [listOf_two a b h, List.map_append]
theorem names_two (a b : List UInt8) (ha : ∀ x ∈ a, x ≠ 34) (hb : ∀ x ∈ b, x ≠ 34) : namesT [(VaryW, a ++ 44 :: b)] = namesT [(VaryW, b ++ 44 :: a)] := by
  unfold namesT
  rw [tokens_two a b ha, tokens_two b a hb]
  have hm : ∀ x, x ∈ wordsOf a ++ wordsOf b ↔ x ∈ wordsOf b ++ wordsOf a := fun x => by rw [List.mem_append, List.mem_append]; exact Or.comm
  rw [namesOf_ext _ _ hm]
  by_cases h : starB ∈ wordsOf a ++ wordsOf b
  · rw [if_pos h, if_pos ((hm _).1 h)]
  · rw [if_neg h, if_neg (fun e => h ((hm _).2 e))]
theorem namesT_asc (L : List Pair) : (namesT L).1.Pairwise (· < ·) := by
  unfold namesT
  split
  · exact List.Pairwise.nil
  · exact (namesOf_spec _).1

set_option maxHeartbeats 8000000 in
theorem varySorted_walk (a b : ByteArray) (w : World) (ha : a.data.toList.length ≤ 1048576) (hb : b.data.toList.length ≤ 1048576) :
    Calls Tryd.prog 5 #[.string a, .string b] w fun e w' => e = .returned (.bool true) ∧ Below w.heap.size w w' := by
  have hza := size_list a
  have hzb := size_list b
  have HZA := Lib.hid hza
  have HZB := Lib.hid hzb
  rw [hza] at ha
  rw [hzb] at hb
  clear hza hzb
  go_enter Tryd.func5, Tryd.ntmps5
  go_wp2_with fail
  refine (alive17_any w).mono ?_
  rintro e w1 ⟨rfl, hb1⟩
  have hs1 := hb1.size
  go_wp2_with fail
  go_loopw [4, 5] (fun v i wr => ∃ k : Nat, k ≤ a.size ∧ v = .bool false ∧ i = .int .i64 k ∧ (∀ j, (hj : j < a.data.toList.length) → j < k → a.data.toList[j] ≠ 34) ∧ w1 = wr) (fun _ i _ => a.size - (intOf i).toNat)
  case atStart => exact ⟨0, Nat.zero_le _, rfl, rfl, fun j _ h => absurd h (Nat.not_lt_zero j), rfl⟩
  case round =>
    obtain ⟨k, hk, rfl, rfl, hall, rfl⟩ := hrel
    have HALL := Lib.hid hall
    clear hall
    by_cases hlt : k < a.size
    · have hkl : k < a.data.toList.length := by rw [HZA.out]; exact hlt
      have hx : a.data.toList[k] = a[k] := by
        have := bt_str a k hlt
        rw [bt_get _ k hkl] at this
        exact UInt8.toNat_inj.1 (by omega)
      have HX := Lib.hid hx
      clear hx
      by_cases c1 : (a[k].toNat : Int) = 34
      · go_wp2_with fail
        go_ret
        exact ⟨rfl, hb1⟩
      · have HC := Lib.hid c1
        have c2 : ((a[k].toNat : Int) == 34) = false := beq_eq_false_iff_ne.2 c1
        clear c1
        go_wp2_with fail
        go_roundw
        case rel =>
          refine ⟨k + 1, by omega, by trivial, by go_num, fun j hj hjk => ?_, by trivial⟩
          by_cases e : j = k
          · subst e
            rw [HX.out]
            intro e2
            exact HC.out (by rw [e2]; rfl)
          · exact HALL.out j hj (by omega)
        case measure => simp [intOf]; omega
    · obtain rfl : k = a.size := by omega
      have hnoa : ∀ x ∈ a.data.toList, x ≠ 34 := by
        intro x hx
        obtain ⟨j, hj, rfl⟩ := List.getElem_of_mem hx
        exact HALL.out j hj (by rw [HZA.out] at hj; exact hj)
      have HNA := Lib.hid hnoa
      clear hnoa HALL
      go_wp2_with fail
      go_loopw [4, 6] (fun v i wr => ∃ k : Nat, k ≤ b.size ∧ v = .bool false ∧ i = .int .i64 k ∧ (∀ j, (hj : j < b.data.toList.length) → j < k → b.data.toList[j] ≠ 34) ∧ w1 = wr) (fun _ i _ => b.size - (intOf i).toNat)
      case atStart => exact ⟨0, Nat.zero_le _, rfl, rfl, fun j _ h => absurd h (Nat.not_lt_zero j), rfl⟩
      case round =>
        obtain ⟨k, hk, rfl, rfl, hall, rfl⟩ := hrel
        have HALL := Lib.hid hall
        clear hall
        by_cases hlt : k < b.size
        · have hkl : k < b.data.toList.length := by rw [HZB.out]; exact hlt
          have hx : b.data.toList[k] = b[k] := by
            have := bt_str b k hlt
            rw [bt_get _ k hkl] at this
            exact UInt8.toNat_inj.1 (by omega)
          have HX := Lib.hid hx
          clear hx
          by_cases c1 : (b[k].toNat : Int) = 34
          · go_wp2_with fail
            go_ret
            exact ⟨rfl, hb1⟩
          · have HC := Lib.hid c1
            have c2 : ((b[k].toNat : Int) == 34) = false := beq_eq_false_iff_ne.2 c1
            clear c1
            go_wp2_with fail
            go_roundw
            case rel =>
              refine ⟨k + 1, by omega, by trivial, by go_num, fun j hj hjk => ?_, by trivial⟩
              by_cases e : j = k
              · subst e
                rw [HX.out]
                intro e2
                exact HC.out (by rw [e2]; rfl)
              · exact HALL.out j hj (by omega)
            case measure => simp [intOf]; omega
        · obtain rfl : k = b.size := by omega
          have hnob : ∀ x ∈ b.data.toList, x ≠ 34 := by
            intro x hx
            obtain ⟨j, hj, rfl⟩ := List.getElem_of_mem hx
            exact HALL.out j hj (by rw [HZB.out] at hj; exact hj)
          have htwo := names_two a.data.toList b.data.toList HNA.out hnob
          clear hnob HALL HNA
          obtain ⟨s1, h1⟩ : ∃ s : ByteArray, s = a ++ ⟨#[44]⟩ ++ b := ⟨_, rfl⟩
          obtain ⟨s2, h2⟩ : ∃ s : ByteArray, s = b ++ ⟨#[44]⟩ ++ a := ⟨_, rfl⟩
          have e1 : s1.data.toList = a.data.toList ++ 44 :: b.data.toList := by rw [h1]; simp
          have e2 : s2.data.toList = b.data.toList ++ 44 :: a.data.toList := by rw [h2]; simp
          have z1 : s1.size ≤ 2097153 := by rw [← size_list, e1, List.length_append, List.length_cons, HZA.out, HZB.out]; omega
          have z2 : s2.size ≤ 2097153 := by rw [← size_list, e2, List.length_append, List.length_cons, HZA.out, HZB.out]; omega
          rw [← e1, ← e2] at htwo
          obtain ⟨N, hN⟩ : ∃ N, N = (namesT [(VaryW, s1.data.toList)]).1 := ⟨_, rfl⟩
          obtain ⟨fl, hfl⟩ : ∃ b : Bool, b = (namesT [(VaryW, s1.data.toList)]).2 := ⟨_, rfl⟩
          have hasc : N.Pairwise (· < ·) := by rw [hN]; exact namesT_asc _
          have bk1 : bulkF [(VaryW, s1.data.toList)] ≤ 4194304 := by
            show VaryW.length + s1.data.toList.length + 3 + 0 ≤ _
            rw [size_list]; show 4 + _ + 3 + 0 ≤ _; omega
          have bk2 : bulkF [(VaryW, s2.data.toList)] ≤ 4194304 := by
            show VaryW.length + s2.data.toList.length + 3 + 0 ≤ _
            rw [size_list]; show 4 + _ + 3 + 0 ≤ _; omega
          have hNl : N.length ≤ 4194304 := by rw [hN]; exact Nat.le_trans (bulkT_length _) (Nat.le_trans (namesT_bulk _) bk1)
          have hsz1 := Lib.hid (show ∀ x ∈ [(VaryW, s1.data.toList)], x.1.length ≤ 140737488351232 ∧ x.2.length ≤ 4000000000 from fun x hx => by rw [List.mem_singleton.1 hx, size_list]; exact ⟨by show VaryW.length ≤ _; decide, by omega⟩)
          have hsz2 := Lib.hid (show ∀ x ∈ [(VaryW, s2.data.toList)], x.1.length ≤ 140737488351232 ∧ x.2.length ≤ 4000000000 from fun x hx => by rw [List.mem_singleton.1 hx, size_list]; exact ⟨by show VaryW.length ≤ _; decide, by omega⟩)
          have hc1 := fun W => names_any [(VaryW, s1.data.toList)] _ 1 1 rfl (by omega) hsz1.out (Nat.le_trans (tokens_lenV _) (by omega)) _ (In2.lit W [(VaryW, s1.data.toList)] #[.string ⟨#[86, 97, 114, 121]⟩, .string s1] 35 (0, 0) (by simp [pr, prV, VaryW]))
          have hc2 := fun W => names_any [(VaryW, s2.data.toList)] _ 1 1 rfl (by omega) hsz2.out (Nat.le_trans (tokens_lenV _) (by omega)) _ (In2.lit W [(VaryW, s2.data.toList)] #[.string ⟨#[86, 97, 114, 121]⟩, .string s2] 35 (0, 0) (by simp [pr, prV, VaryW]))
          rw [← htwo] at hc2
          rw [← hN, ← hfl] at hc1 hc2
          rw [h1] at hc1
          rw [h2] at hc2
          have HC1 := Lib.hid (hc1 w1)
          have HC2 := Lib.hid hc2
          have HASC := Lib.hid hasc
          have qf : (fl == fl) = true := by simp
          have hbl := hb1.alloc hs1 (.cells #[.string ⟨#[86, 97, 114, 121]⟩, .string (a ++ ⟨#[44]⟩ ++ b)] 35)
          clear htwo hN hfl hasc bk1 bk2 hc1 hc2 e1 e2 h1 h2 z1 z2 hsz1 hsz2
          go_wp2_with fail
          refine HC1.out.mono ?_
          rintro e w2 ⟨v2, rfl, hown2, hb2⟩
          have hB2 := hbl.trans (hb2.mono (by simp; omega))
          have hs2 := hB2.size
          have hbl2 := hB2.alloc hs2 (.cells #[.string ⟨#[86, 97, 114, 121]⟩, .string (b ++ ⟨#[44]⟩ ++ a)] 35)
          obtain ⟨pm, cm, rfl, _, km, hinm, _⟩ := hown2.shape rfl
          have hinm2 := hinm.alloc (.cells #[.string ⟨#[86, 97, 114, 121]⟩, .string (b ++ ⟨#[44]⟩ ++ a)] 35)
          unfold maxLen at km
          clear hown2 hinm
          go_wp2_with fail
          refine (HC2.out w2).mono ?_
          rintro e w3 ⟨v3, rfl, hown3, hb3⟩
          have hB3 := hbl2.trans (hb3.mono (by simp; omega))
          have hs3 := hB3.size
          obtain ⟨pn, cn, rfl, _, kn, hinn, _⟩ := hown3.shape rfl
          have hinm3 := hinm2.below hb3
          clear hown3 hinm2
          go_wp2_with fail
          go_loopw [4, 11] (fun v i wr => ∃ k : Nat, k ≤ N.length ∧ v = .bool false ∧ i = .int .i64 ((k + 1 : Nat) : Int) ∧ Below w3.heap.size w3 wr) (fun _ i _ => N.length + 1 - (intOf i).toNat)
          case atStart => exact ⟨0, Nat.zero_le _, rfl, rfl, Below.refl _ _⟩
          case round =>
            obtain ⟨k, hk, rfl, rfl, hb4⟩ := hrel
            have hB4 := hB3.trans (hb4.mono hs3)
            have hs4 := hb4.size
            by_cases hlt : k + 1 < N.length
            · have hlt0 : k < N.length := by omega
              have hup := List.pairwise_iff_getElem.1 HASC.out k (k + 1) hlt0 hlt (by omega)
              obtain ⟨b1, o1, rfl, x, g1, g2⟩ := (hinm3.below hb4).at hlt
              obtain ⟨b2, o2, eb, y, g3, g4⟩ := (hinm3.below hb4).at hlt0
              injection eb with eb
              injection eb with eb1 eb2 _
              subst eb1 eb2
              rw [← g2, ← g4] at hup
              have q1 : Op.bytesLess x.toList y.toList = false := by rw [less_dec]; exact decide_eq_false (fun e => absurd (List.lt_trans hup e) (List.lt_irrefl _))
              have q2 : (x.toList == y.toList) = false := by rw [strs_eq]; exact decide_eq_false (fun e => by rw [e] at hup; exact List.lt_irrefl _ hup)
              clear hup g2 g4
              go_wp2
              go_quiet (fail)
              go_wp2_with fail
              go_roundw
              case rel => exact ⟨k + 1, by omega, by trivial, by go_num, bdrewN hb4 _⟩
              case measure => simp [intOf]; omega
            · have hst := sameTexts_same N pm pn N.length cm N.length cn rfl rfl (by unfold maxLen; omega) wr (hinm3.below hb4) (hinn.below hb4)
              clear hinm3 hinn
              go_wp2_with fail
              refine hst.mono ?_
              rintro e w5 ⟨rfl, hb5⟩
              go_wp2_with fail
              go_ret
              exact ⟨rfl, hB4.trans (hb5.mono (by omega))⟩
end Go.Proofs.YtnibecboimgljaaDoor
