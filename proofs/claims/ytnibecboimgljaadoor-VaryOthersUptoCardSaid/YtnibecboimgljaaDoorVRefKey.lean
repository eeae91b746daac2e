/-
  Key, the document's: text put behind text.
-/
import Derived.Test.YtnibecboimgljaaDoorVKey
namespace Go.Proofs.YtnibecboimgljaaDoor
open Go.RowKit

theorem joinC_snoc (F : List (List UInt8)) (e : List UInt8) : Lib.join (F ++ [e]) [44] = Lib.join F [44] ++ (if F.length = 0 then [] else [44]) ++ e := by
  cases F with
  | nil => simp [Lib.join_one, Lib.join_nil]
  | cons x r =>
    rw [List.cons_append, Lib.join_cons, Lib.join_cons]
    simp [Lib.joinTail]
theorem joinC_mono (G : List (List UInt8)) : ∀ F : List (List UInt8), (Lib.join F [44]).length ≤ (Lib.join (F ++ G) [44]).length := by
  induction G with
  | nil => intro F; rw [List.append_nil]; exact Nat.le_refl _
  | cons g G ih =>
    intro F
    have h1 := ih (F ++ [g])
    rw [joinC_snoc, List.append_assoc] at h1
    simp only [List.length_append] at h1
    have e : F ++ g :: G = F ++ [g] ++ G := by simp
    rw [e]
    omega
theorem els_prefix (V : List (List UInt8)) (j i : Nat) (h : j < V.length) : ∃ G, V.flatMap listOf = ((V.take j).flatMap listOf ++ (listOf V[j]).take i) ++ G := by
  refine ⟨(listOf V[j]).drop i ++ (V.drop (j + 1)).flatMap listOf, ?_⟩
  conv => lhs; rw [← List.take_append_drop (j + 1) V, List.flatMap_append, els_snoc V j h]
  rw [List.append_assoc, List.append_assoc, ← List.append_assoc (List.take i _), List.take_append_drop]
theorem els_join (V : List (List UInt8)) (j i : Nat) (h : j < V.length) : (Lib.join ((V.take j).flatMap listOf ++ (listOf V[j]).take i) [44]).length ≤ (Lib.join (V.flatMap listOf) [44]).length := by
  obtain ⟨G, hG⟩ := els_prefix V j i h
  rw [hG]
  exact joinC_mono G _
theorem els_count (V : List (List UInt8)) (j i : Nat) (h : j < V.length) : ((V.take j).flatMap listOf ++ (listOf V[j]).take i).length ≤ (V.flatMap listOf).length := by
  obtain ⟨G, hG⟩ := els_prefix V j i h
  conv => rhs; rw [hG, List.length_append]
  omega
theorem els_joink (V : List (List UInt8)) (j : Nat) : (Lib.join ((V.take j).flatMap listOf) [44]).length ≤ (Lib.join (V.flatMap listOf) [44]).length := by
  have := joinC_mono ((V.drop j).flatMap listOf) ((V.take j).flatMap listOf)
  rwa [← List.flatMap_append, List.take_append_drop] at this

/-- a text so far -/
def IsT (v : Value) (l : List UInt8) : Prop := ∃ S : ByteArray, v = .string S ∧ S.data.toList = l
theorem IsT.app {S T : ByteArray} {l m : List UInt8} (h : S.data.toList = l) (h2 : T.data.toList = m) : IsT (.string (S ++ T)) (l ++ m) :=
  ⟨_, rfl, by rw [ByteArray.data_append, Array.toList_append, h, h2]⟩

set_option maxHeartbeats 8000000 in
set_option maxRecDepth 100000 in
theorem refKey_any (NS : List (List UInt8)) (q : Option Addr) (m d : Nat) (hm : NS.length = m) (hmr : m ≤ 4000000000000) (L : List Pair) (p : Option Addr) (n c : Nat) (hn : L.length = n) (hr : n ≤ 4000000000000)
    (hNS : ∀ x ∈ NS, x.length ≤ 4000000000) (hsz : ∀ x ∈ L, x.1.length ≤ 140737488351232 ∧ x.2.length ≤ 4000000000) (hE : ∀ x ∈ NS, (elsOf L x).length ≤ 8000000000000) (hK : (keyT NS L).length ≤ 100000000000000) (w : World) (hq : InS w q NS) (h : In2 w p L) :
    Calls Tryd.prog 18 #[.slice q m d, .slice p n c] w fun e w' => e = .returned (.string ⟨(keyT NS L).toArray⟩) ∧ Below w.heap.size w w' := by
  subst hm
  subst hn
  have HNS := Lib.hid hNS
  have HS1 := Lib.hid (fun x hx => (hsz x hx).1)
  have HS2 := Lib.hid (fun x hx => (hsz x hx).2)
  have HE := Lib.hid hE
  have HK := Lib.hid (fun k => Nat.le_trans (keyT_take NS L k) hK)
  clear hNS hsz hE hK
  go_enter Tryd.func18, Tryd.ntmps18
  go_wp2_with fail
  go_loopw [5, 6] (fun v i wr => ∃ k : Nat, k ≤ NS.length ∧ i = .int .i64 k ∧ IsT v (keyT (NS.take k) L) ∧ Below w.heap.size w wr) (fun _ i _ => NS.length - (intOf i).toNat)
  case atStart => exact ⟨0, by omega, rfl, ⟨_, rfl, rfl⟩, Below.refl _ _⟩
  case round =>
    obtain ⟨k, hk, rfl, ⟨S, rfl, hS⟩, hb⟩ := hrel
    have hbs := hb.size
    have hSs : S.size = (keyT (NS.take k) L).length := by rw [← size_list, hS]
    have hk0 := HK.out k
    by_cases hlt : k < NS.length
    · obtain ⟨bb, o, rfl, x, g1, g2⟩ := (hq.below hb).at hlt
      have hxs : x.size ≤ 4000000000 := by rw [← size_list, g2]; exact HNS.out _ (List.getElem_mem hlt)
      have HSN := Lib.hid (keyT_snoc NS L k hlt)
      have hkl := HK.out (k + 1)
      rw [HSN.out, List.length_append] at hkl
      have hk1 : (keyOne L NS[k]).length = (fold x.data.toList).length + (if valuesOf L x.data.toList = [] then [] else 58 :: Lib.join (elsOf L x.data.toList) [44]).length + 1 := by
        rw [← g2]; unfold keyOne; rw [List.length_append, List.length_append]; rfl
      have hel := HE.out _ (List.getElem_mem hlt)
      rw [← g2] at hel
      have HK1 := Lib.hid (show keyOne L NS[k] = fold x.data.toList ++ (if valuesOf L x.data.toList = [] then [] else 58 :: Lib.join (elsOf L x.data.toList) [44]) ++ [10] by rw [← g2]; rfl)
      have HV2 := Lib.hid (show ∀ v ∈ valuesOf L x.data.toList, v.length ≤ 4000000000 from fun v hv => by obtain ⟨y, hy, e⟩ := values_mem L _ v hv; rw [← e]; exact HS2.out y hy)
      have hvl := values_length L x.data.toList
      rw [fold_length] at hk1
      have hxl := size_list x
      have HS := Lib.hid hS
      clear g2 hS
      go_wp2_with fail
      refine (lower_any x _ (by omega)).mono ?_
      rintro e w1 ⟨rfl, hb1⟩
      have hB1 := hb.trans (hb1.mono hbs)
      have hs1 := hB1.size
      have g1' := cell_keep g1 hb1
      obtain ⟨fx, hfx⟩ : ∃ f : ByteArray, f = ⟨(fold x.data.toList).toArray⟩ := ⟨_, rfl⟩
      rw [← hfx]
      have hfd : fx.data.toList = fold x.data.toList := by rw [hfx]
      have hfs : fx.size = x.size := by rw [← size_list, hfd, fold_length, size_list]
      have HFD := Lib.hid hfd
      have hj0 : ¬ 9223372036854775807 < S.size + fx.size := by omega
      clear hfd hfx
      go_wp2_with fail
      refine (refValues_any L p L.length c rfl (by omega) x (by omega) HS1.out w1 (h.below hB1)).mono ?_
      rintro e w3 ⟨v3, rfl, hown3, hb3⟩
      have hB3 := hB1.trans (hb3.mono hs1)
      have hs3 := hB3.size
      obtain ⟨V, hV⟩ : ∃ V, V = valuesOf L x.data.toList := ⟨_, rfl⟩
      have helV : elsOf L x.data.toList = V.flatMap listOf := by rw [hV]; rfl
      rw [helV] at hel hk1 HK1
      rw [← hV] at hown3 hvl HV2 hk1 HK1
      obtain ⟨pv, cv, rfl, k1, k2, hinV, _⟩ := hown3.shape rfl
      unfold maxLen at k2
      clear hown3 hV helV
      obtain ⟨A, hA⟩ : ∃ A, A = keyT (NS.take k) L ++ fold x.data.toList := ⟨_, rfl⟩
      have hAT : IsT (.string (S ++ fx)) A := by rw [hA]; exact IsT.app HS.out HFD.out
      have hAl : A.length = (keyT (NS.take k) L).length + x.size := by rw [hA, List.length_append, fold_length, size_list]
      have HA := Lib.hid hA
      have HAT := Lib.hid hAT
      clear hA hAT
      go_wp2_with fail
      go_loopw [5, 8] (fun v i wj => ∃ j : Nat, j ≤ V.length ∧ i = .int .i64 j ∧ IsT v (A ++ (if j = 0 then [] else [58])) ∧ Below w3.heap.size w3 wj) (fun _ i _ => V.length - (intOf i).toNat)
      case atStart => exact ⟨0, Nat.zero_le _, rfl, by simpa using HAT.out, Below.refl _ _⟩
      case round =>
        obtain ⟨j, hj, rfl, ⟨S1, rfl, hS1⟩, hb4⟩ := hrel
        have hS1s : S1.size ≤ A.length + 1 := by rw [← size_list, hS1, List.length_append]; split <;> simp
        by_cases hjl : j < V.length
        · by_cases h0 : j = 0
          · subst h0
            have HS1 := Lib.hid hS1
            have hj1 : ¬ 9223372036854775807 < S1.size + 1 := by omega
            clear hS1
            go_wp2_with fail
            go_roundw
            case rel => exact ⟨1, by omega, by go_num, by have := IsT.app (T := ⟨#[58]⟩) HS1.out rfl; simpa using this, hb4⟩
            case measure => simp [intOf]; omega
          · have HS1 := Lib.hid hS1
            clear hS1
            have h0' : ¬ (j : Int) = 0 := by omega
            go_wp2_with fail
            go_roundw
            case rel => exact ⟨j + 1, by omega, by go_num, ⟨S1, rfl, by rw [HS1.out, if_neg h0, if_neg (by omega)]⟩, hb4⟩
            case measure => simp [intOf]; omega
        · obtain rfl : j = V.length := by omega
          obtain ⟨A1, hA1⟩ : ∃ A1, A1 = A ++ (if V.length = 0 then [] else [58]) := ⟨_, rfl⟩
          rw [← hA1] at hS1
          have HA1 := Lib.hid hA1
          have HS1 := Lib.hid hS1
          have hA1l : A1.length ≤ A.length + 1 := by rw [hA1, List.length_append]; split <;> simp
          have hJl : (Lib.join (V.flatMap listOf) [44]).length ≤ 100000000000000 := by
            by_cases hVn : V = []
            · rw [hVn]; exact Nat.zero_le _
            · rw [if_neg hVn, List.length_cons] at hk1; omega
          have HJM := Lib.hid (fun j i h => Nat.le_trans (els_join V j i h) hJl)
          have HCM := Lib.hid (fun j i h => Nat.le_trans (els_count V j i h) hel)
          have HJK := Lib.hid (fun j => Nat.le_trans (els_joink V j) hJl)
          have HCK := Lib.hid (fun j => Nat.le_trans (els_len V j) hel)
          clear hS1 hA1
          go_wp2_with fail
          go_loopw [5, 9, 10] (fun v t i wj => ∃ j : Nat, j ≤ V.length ∧ i = .int .i64 j ∧ t = .int .i64 (((V.take j).flatMap listOf).length : Int) ∧ IsT v (A1 ++ Lib.join ((V.take j).flatMap listOf) [44]) ∧ Below w3.heap.size w3 wj) (fun _ _ i _ => V.length - (intOf i).toNat)
          case atStart => exact ⟨0, Nat.zero_le _, rfl, rfl, ⟨_, rfl, by rw [HS1.out]; simp [Lib.join_nil]⟩, hb4⟩
          case round =>
            obtain ⟨j, hj, rfl, rfl, ⟨S2, rfl, hS2⟩, hb5⟩ := hrel
            have hB5 := hB3.trans (hb5.mono hs3)
            have hs5 := hb5.size
            have hS2s : S2.size = A1.length + (Lib.join ((V.take j).flatMap listOf) [44]).length := by rw [← size_list, hS2, List.length_append]
            have hjk := HJK.out j
            have hck := HCK.out j
            have HS2 := Lib.hid hS2
            obtain ⟨F, hF⟩ : ∃ F, F = (V.take j).flatMap listOf := ⟨_, rfl⟩
            rw [← hF] at hS2s hjk hck HS2 ⊢
            clear hS2
            by_cases hjl : j < V.length
            · obtain ⟨b', o', rfl, y, q1, q2⟩ := (hinV.below hb5).at hjl
              have hys : y.size ≤ 4000000000 := by rw [← size_list, q2]; exact HV2 _ (List.getElem_mem hjl)
              have HY := Lib.hid q2
              have HFS := Lib.hid (els_snoc V j hjl)
              have hjm := fun i => HJM.out j i hjl
              have hcm := fun i => HCM.out j i hjl
              rw [← hF] at HFS hjm hcm
              clear q2 hF
              go_wp2_with fail
              refine (refList_any y _ hys).mono ?_
              rintro e wE ⟨vE, rfl, hownE, hbE⟩
              rw [HY.out] at hownE
              obtain ⟨E, hE⟩ : ∃ E, E = listOf V[j] := ⟨_, rfl⟩
              rw [← hE] at hownE HFS hjm hcm
              have HJM2 := Lib.hid hjm
              have hfe := hcm E.length
              rw [List.take_length, List.length_append] at hfe
              have HE2 := Lib.hid hE
              clear hE hjm hcm
              obtain ⟨pE, cE, rfl, e1, e2, hinE, _⟩ := hownE.shape rfl
              have hB6 := hb5.trans (hbE.mono hs5)
              have hsE := hB6.size
              unfold maxLen at e2
              clear hownE
              go_wp2_with fail
              go_loopw [5, 9, 12] (fun v t i wj => ∃ i2 : Nat, i2 ≤ E.length ∧ i = .int .i64 i2 ∧ t = .int .i64 ((F.length + i2 : Nat) : Int) ∧ IsT v (A1 ++ Lib.join (F ++ E.take i2) [44]) ∧ Below wE.heap.size wE wj) (fun _ _ i _ => E.length - (intOf i).toNat)
              case atStart => exact ⟨0, Nat.zero_le _, rfl, by simp, ⟨_, rfl, by rw [HS2.out]; simp⟩, Below.refl _ _⟩
              case round =>
                obtain ⟨i2, hi2, rfl, rfl, ⟨S3, rfl, hS3⟩, hb7⟩ := hrel
                have hs7 := hb7.size
                by_cases hil : i2 < E.length
                · obtain ⟨b3, o3, rfl, z, r1, r2⟩ := (hinE.below hb7).at hil
                  have hsn := joinC_snoc (F ++ E.take i2) E[i2]
                  rw [List.append_assoc, ← List.take_succ_eq_append_getElem hil, ← r2] at hsn
                  have hfl : (F ++ E.take i2).length = F.length + i2 := by rw [List.length_append, List.length_take, Nat.min_eq_left hi2]
                  rw [hfl] at hsn
                  have hjm := HJM2.out (i2 + 1)
                  rw [hsn, List.length_append, List.length_append, size_list] at hjm
                  have hS3s : S3.size = A1.length + (Lib.join (F ++ E.take i2) [44]).length := by rw [← size_list, hS3, List.length_append]
                  have HSN := Lib.hid hsn
                  have HS3 := Lib.hid hS3
                  clear hfl hsn hS3 r2
                  by_cases h0 : F.length + i2 = 0
                  · rw [if_pos h0, List.append_nil] at HSN
                    rw [if_pos h0] at hjm
                    have hj1 : ¬ 9223372036854775807 < S3.size + z.size := by omega
                    have h0i : ¬ (0 : Int) < (F.length : Int) + (i2 : Int) := by omega
                    go_wp2_with fail
                    go_roundw
                    case rel =>
                      refine ⟨i2 + 1, by omega, by go_num, by go_num, ?_, hb7⟩
                      rw [HSN.out, ← List.append_assoc]
                      exact IsT.app HS3.out rfl
                    case measure => simp [intOf]; omega
                  · rw [if_neg h0] at HSN hjm
                    have hj1 : ¬ 9223372036854775807 < S3.size + 1 := by omega
                    have hj2 : ¬ 9223372036854775807 < S3.size + 1 + z.size := by simp only [List.length_cons, List.length_nil] at hjm; omega
                    have h0i : (0 : Int) < (F.length : Int) + (i2 : Int) := by omega
                    go_wp2_with fail
                    go_roundw
                    case rel =>
                      refine ⟨i2 + 1, by omega, by go_num, by go_num, ?_, hb7⟩
                      rw [HSN.out, ← List.append_assoc, ← List.append_assoc]
                      exact IsT.app (by rw [ByteArray.data_append, Array.toList_append, HS3.out]) rfl
                    case measure => simp [intOf]; omega
                · obtain rfl : i2 = E.length := by omega
                  rw [List.take_length] at hS3
                  have HS3 := Lib.hid hS3
                  clear hS3
                  go_wp2_with fail
                  go_roundw
                  case rel => exact ⟨j + 1, by omega, by go_num, by rw [HFS.out, List.length_append], ⟨S3, rfl, by rw [HFS.out]; exact HS3.out⟩, hB6.trans (hb7.mono hsE)⟩
                  case measure => simp [intOf]; omega
            · obtain rfl : j = V.length := by omega
              rw [List.take_length] at hF
              have hfin : IsT (.string (S2 ++ ⟨#[10]⟩)) (keyT (NS.take (k + 1)) L) := by
                have e1 := IsT.app (T := ⟨#[10]⟩) HS2.out rfl
                have e2 : A1 ++ Lib.join F [44] ++ (⟨#[10]⟩ : ByteArray).data.toList = keyT (NS.take (k + 1)) L := by
                  rw [HSN.out, HK1.out, HA1.out, HA.out, hF]
                  by_cases hVn : V = []
                  · rw [if_pos (by rw [hVn]; rfl), if_pos hVn, hVn]; simp [Lib.join_nil]
                  · rw [if_neg (fun e => hVn (List.eq_nil_of_length_eq_zero e)), if_neg hVn]; simp
                rw [← e2]; exact e1
              have HFIN := Lib.hid hfin
              have hj1 : ¬ 9223372036854775807 < S2.size + 1 := by omega
              clear hfin hF
              go_wp2_with fail
              go_roundw
              case rel => exact ⟨k + 1, by omega, by go_num, HFIN.out, hB5⟩
              case measure => simp [intOf]; omega
    · obtain rfl : k = NS.length := by omega
      rw [List.take_length] at hS
      have hSb : S = ⟨(keyT NS L).toArray⟩ := ba_ext hS
      go_wp2_with fail
      go_ret
      exact ⟨by rw [hSb]; rfl, hb⟩
end Go.Proofs.YtnibecboimgljaaDoor
