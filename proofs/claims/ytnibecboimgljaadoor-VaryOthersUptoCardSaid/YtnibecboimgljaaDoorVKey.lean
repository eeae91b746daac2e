/-
  Key, the program's: what a request tells of names.
-/
import Derived.Test.YtnibecboimgljaaDoorTokens
import Derived.Test.YtnibecboimgljaaDoorBuildS
import Derived.Test.YtnibecboimgljaaDoorJoinRow
import Derived.Test.YtnibecboimgljaaDoorKeep
namespace Go.Proofs.YtnibecboimgljaaDoor
open Go.RowKit

/-- what is told of one name -/
def elsOf (L : List Pair) (n : List UInt8) : List (List UInt8) := (valuesOf L n).flatMap listOf
def keyOne (L : List Pair) (n : List UInt8) : List UInt8 := fold n ++ (if valuesOf L n = [] then [] else 58 :: Lib.join (elsOf L n) [44]) ++ [10]
def keyT (NS : List (List UInt8)) (L : List Pair) : List UInt8 := (NS.map (keyOne L)).flatten
theorem keyT_snoc (NS : List (List UInt8)) (L : List Pair) (k : Nat) (h : k < NS.length) : keyT (NS.take (k + 1)) L = keyT (NS.take k) L ++ keyOne L NS[k] := by
  unfold keyT
  rw [List.take_succ_eq_append_getElem h, List.map_append, List.flatten_append]
  simp
theorem keyT_take (NS : List (List UInt8)) (L : List Pair) (k : Nat) : (keyT (NS.take k) L).length ≤ (keyT NS L).length := by
  unfold keyT
  rw [← List.take_append_drop k (NS.map (keyOne L)), List.flatten_append, List.length_append, List.map_take]
  omega
theorem els_snoc (V : List (List UInt8)) (k : Nat) (h : k < V.length) : (V.take (k + 1)).flatMap listOf = (V.take k).flatMap listOf ++ listOf V[k] := by
  rw [List.take_succ_eq_append_getElem h, List.flatMap_append]; simp
theorem els_len (V : List (List UInt8)) (k : Nat) : ((V.take k).flatMap listOf).length ≤ (V.flatMap listOf).length := by
  conv => rhs; rw [← List.take_append_drop k V, List.flatMap_append, List.length_append]
  omega
theorem below_of_grown {w w' : World} (h : w.grownBy w' none) : Below w.heap.size w w' :=
  ⟨h.os, h.tape, h.output, h.size, fun i hi => h.block i hi (fun e => by cases e)⟩

set_option maxHeartbeats 8000000 in
set_option maxRecDepth 100000 in
theorem key_any (NS : List (List UInt8)) (q : Option Addr) (m d : Nat) (hm : NS.length = m) (hmr : m ≤ 4000000000000) (L : List Pair) (p : Option Addr) (n c : Nat) (hn : L.length = n) (hr : n ≤ 4000000000000)
    (hNS : ∀ x ∈ NS, x.length ≤ 4000000000) (hsz : ∀ x ∈ L, x.1.length ≤ 140737488351232 ∧ x.2.length ≤ 4000000000) (hE : ∀ x ∈ NS, (elsOf L x).length ≤ 8000000000000) (hK : (keyT NS L).length ≤ 100000000000000) (w : World) (hq : InS w q NS) (h : In2 w p L) :
    Calls Tryd.prog 17 #[.slice q m d, .slice p n c] w fun e w' => e = .returned (.string ⟨(keyT NS L).toArray⟩) ∧ Below w.heap.size w w' := by
  subst hm
  subst hn
  have HNS := Lib.hid hNS
  have HS1 := Lib.hid (fun x hx => (hsz x hx).1)
  have HS2 := Lib.hid (fun x hx => (hsz x hx).2)
  have HE := Lib.hid hE
  have HK := Lib.hid (fun k => Nat.le_trans (keyT_take NS L k) hK)
  clear hNS hsz hE hK
  have hb0 := (Below.refl w.heap.size w).alloc (Nat.le_refl _) (.cells #[.pointer none, .slice none 0 0] 52)
  have hf0 := Bld.fresh w
  go_enter Tryd.func17, Tryd.ntmps17
  go_wp2_with fail
  go_loopw [14] (fun i wr => ∃ k : Nat, k ≤ NS.length ∧ i = .int .i64 k ∧ Bld wr w.heap.size w.heap.size (keyT (NS.take k) L) ∧ Below w.heap.size w wr) (fun i _ => NS.length - (intOf i).toNat)
  case atStart => exact ⟨0, by omega, rfl, hf0, hb0⟩
  case round =>
    obtain ⟨k, hk, rfl, hbld, hb⟩ := hrel
    have hbs := hb.size
    by_cases hlt : k < NS.length
    · obtain ⟨bb, o, rfl, x, g1, g2⟩ := (hq.below hb).at hlt
      have hxs : x.size ≤ 4000000000 := by rw [← size_list, g2]; exact HNS.out _ (List.getElem_mem hlt)
      have HX := Lib.hid g2
      have HSN := Lib.hid (keyT_snoc NS L k hlt)
      have hkl := HK.out (k + 1)
      rw [HSN.out, List.length_append] at hkl
      have hk1 : (keyOne L NS[k]).length = (fold x.data.toList).length + (if valuesOf L x.data.toList = [] then [] else 58 :: Lib.join (elsOf L x.data.toList) [44]).length + 1 := by
        rw [← g2]; unfold keyOne; rw [List.length_append, List.length_append]; rfl
      have hel := HE.out _ (List.getElem_mem hlt)
      rw [← g2] at hel
      have HK1 := Lib.hid (show keyOne L NS[k] = fold x.data.toList ++ (if valuesOf L x.data.toList = [] then [] else 58 :: Lib.join (elsOf L x.data.toList) [44]) ++ [10] by rw [← g2]; rfl)
      have HV2 := Lib.hid (show ∀ v ∈ valuesOf L x.data.toList, v.length ≤ 4000000000 from fun v hv => by obtain ⟨y, hy, e⟩ := values_mem L _ v hv; rw [← e]; exact HS2.out y hy)
      have hvl := values_length L x.data.toList
      rw [fold_length] at hk1
      have hxl := size_list x
      clear g2
      go_wp2_with fail
      refine (tokFold_any x _ (by omega)).mono ?_
      rintro e w1 ⟨rfl, hb1⟩
      have hB1 := hb.trans (hb1.mono hbs)
      have hs1 := hB1.size
      have hbld1 := hbld.below hb1
      obtain ⟨fx, hfx⟩ : ∃ f : ByteArray, f = ⟨(fold x.data.toList).toArray⟩ := ⟨_, rfl⟩
      rw [← hfx]
      have hfd : fx.data.toList = fold x.data.toList := by rw [hfx]
      have hfs : fx.size = x.size := by rw [← size_list, hfd, fold_length, size_list]
      have HFD := Lib.hid hfd
      clear hfd hfx hbld
      go_wp2_with fail
      refine (writeString_any w.heap.size w.heap.size _ fx w1 hbld1 (by omega) hs1).mono ?_
      rintro e w2 ⟨⟨nn, rfl⟩, hbld2, hb2⟩
      have hB2 := hB1.trans hb2
      have hs2 := hB2.size
      clear hbld1
      go_wp2_with fail
      refine (values_any L p L.length c rfl (by omega) x (by omega) HS1.out w2 (h.below hB2)).mono ?_
      rintro e w3 ⟨v3, rfl, hown3, hb3⟩
      have hB3 := hB2.trans (hb3.mono hs2)
      have hs3 := hB3.size
      have hbld3 := hbld2.below hb3
      obtain ⟨V, hV⟩ : ∃ V, V = valuesOf L x.data.toList := ⟨_, rfl⟩
      have helV : elsOf L x.data.toList = V.flatMap listOf := by rw [hV]; rfl
      rw [helV] at hel hk1 HK1
      rw [← hV] at hown3 hvl HV2 hk1 HK1
      obtain ⟨pv, cv, rfl, k1, k2, hinV, _⟩ := hown3.shape rfl
      have HNE := Lib.hid (show ∀ a, pv = some a → (none : Option Nat) ≠ some a.block from fun a _ e => by cases e)
      unfold maxLen at k2
      clear hown3 hV helV hbld2
      go_wp2_with fail
      go_loopw [8, 26] (fun v i wj => ∃ j : Nat, j ≤ V.length ∧ i = .int .i64 j ∧ OutS w3.heap.size none w3 v ((V.take j).flatMap listOf) wj) (fun _ i _ => V.length - (intOf i).toNat)
      case atStart => exact ⟨0, by omega, rfl, OutV.nil _ _ _ _⟩
      case round =>
        obtain ⟨j, hj, rfl, hout⟩ := hrel
        have hszj := hout.2.1.size
        by_cases hjl : j < V.length
        · obtain ⟨b', o', rfl, y, q1, q2⟩ := (hout.keepS hinV HNE.out).at hjl
          have hys : y.size ≤ 4000000000 := by rw [← size_list, q2]; exact HV2.out _ (List.getElem_mem hjl)
          have HY := Lib.hid q2
          have HFS := Lib.hid (els_snoc V j hjl)
          have hl2 := els_len V (j + 1)
          rw [HFS.out, List.length_append] at hl2
          clear q2
          go_wp2_with fail
          refine (tokList_any y _ hys).mono ?_
          rintro e wE ⟨vE, rfl, hownE, hbE⟩
          rw [HY.out] at hownE
          obtain ⟨pE, cE, rfl, e1, e2, hinE, _⟩ := hownE.shape rfl
          have hout2 := hout.below hbE
          have hown2 := hout2.own
          have hsE := hbE.size
          have HOUT2 := Lib.hid hout2
          unfold maxLen at e2
          clear hownE hout hout2
          go_wp2_with (at_builtin; refine wpList_appendSw rfl _ _ rfl w3.heap.size _ _ rfl hown2 _ _ _ _ rfl rfl hinE (by omega) (by omega) ?_; intro v4 w4 hown4 hgrow4 hway4)
          go_roundw
          case rel => exact ⟨j + 1, by omega, by go_num, by rw [HFS.out]; exact HOUT2.out.app hown4 hgrow4 hway4⟩
          case measure => simp [intOf]; omega
        · obtain rfl : j = V.length := by omega
          rw [List.take_length] at hout
          obtain ⟨E, hE⟩ : ∃ E, E = V.flatMap listOf := ⟨_, rfl⟩
          rw [← hE] at hout hk1 HK1 hel
          clear hE
          have hbx := below_of_grown hout.2.1
          have hB4 := hB3.trans (hbx.mono hs3)
          have hs4 := hB4.size
          have hbld4 := hbld3.below hbx
          obtain ⟨pe, ce, rfl, f1, f2, hinE, _⟩ := hout.own.shape rfl
          unfold maxLen at f2
          clear hout hbld3
          by_cases hVn : V = []
          · have hz : V.length = 0 := by rw [hVn]; rfl
            rw [if_pos hVn] at HK1 hk1
            clear hVn
            go_wp2_with fail
            refine (writeByte_any w.heap.size w.heap.size _ 10 (by omega) (by omega) _ hbld4 (by rw [List.length_append, size_list]; omega) hs4).mono ?_
            rintro e w5 ⟨rfl, hbld5, hb5⟩
            have hB5 := hB4.trans hb5
            go_wp2_with fail
            go_roundw
            case rel => exact ⟨k + 1, by omega, by go_num, by rw [HSN.out, HK1.out, ← HFD.out, List.append_nil, ← List.append_assoc]; exact hbld5, hB5⟩
            case measure => simp [intOf]; omega
          · have hz : 0 < V.length := by cases V with | nil => exact absurd rfl hVn | cons _ _ => simp
            rw [if_neg hVn] at HK1 hk1
            rw [List.length_cons] at hk1
            clear hVn
            have hjl44 : (Lib.join E (⟨#[44]⟩ : ByteArray).data.toList).length = (Lib.join E [44]).length := rfl
            have hjn := join_any E pe E.length ce rfl f1 (by omega) ⟨#[44]⟩ (by rw [hjl44]; omega) _ hinE
            clear hjl44
            go_wp2_with fail
            refine hjn.mono ?_
            rintro e w5 ⟨rfl, hb5⟩
            have hB5 := hB4.trans (hb5.mono hs4)
            have hs5 := hB5.size
            have hbld5 := hbld4.below hb5
            obtain ⟨J, hJ⟩ : ∃ J : ByteArray, J = ⟨(Lib.join E (⟨#[44]⟩ : ByteArray).data.toList).toArray⟩ := ⟨_, rfl⟩
            have hJd : J.data.toList = Lib.join E [44] := by rw [hJ]
            have hJs : J.size = (Lib.join E [44]).length := by rw [← size_list, hJd]
            rw [← hJ]
            have HJD := Lib.hid hJd
            clear hJ hJd hbld4
            have hws := writeString_any w.heap.size w.heap.size _ ((⟨#[58]⟩ : ByteArray) ++ J) w5 hbld5 (by rw [List.length_append, size_list, ByteArray.size_append]; show _ + (1 + _) ≤ _; omega) hs5
            have hjd2 : ((⟨#[58]⟩ : ByteArray) ++ J).data.toList = 58 :: Lib.join E [44] := by rw [ByteArray.data_append, Array.toList_append, HJD.out]; rfl
            have hjs2 : ((⟨#[58]⟩ : ByteArray) ++ J).size = J.size + 1 := by rw [ByteArray.size_append]; show 1 + J.size = _; omega
            rw [hjd2] at hws
            have hjm : ¬ 9223372036854775807 < 1 + J.size := by omega
            clear hjd2
            go_wp2_with fail
            refine hws.mono ?_
            rintro e w6 ⟨⟨n6, rfl⟩, hbld6, hb6⟩
            have hB6 := hB5.trans hb6
            have hs6 := hB6.size
            clear hws
            go_wp2_with fail
            refine (writeByte_any w.heap.size w.heap.size _ 10 (by omega) (by omega) _ hbld6 (by rw [List.length_append, List.length_append, size_list, List.length_cons]; omega) hs6).mono ?_
            rintro e w7 ⟨rfl, hbld7, hb7⟩
            have hB7 := hB6.trans hb7
            go_wp2_with fail
            go_roundw
            case rel => exact ⟨k + 1, by omega, by go_num, by rw [HSN.out, HK1.out, ← HFD.out, ← List.append_assoc, ← List.append_assoc]; exact hbld7, hB7⟩
            case measure => simp [intOf]; omega
    · obtain rfl : k = NS.length := by omega
      rw [List.take_length] at hbld
      go_wp2_with fail
      refine (bString_any w.heap.size w.heap.size _ wr hbld hbs).mono ?_
      rintro e w2 ⟨rfl, hb2⟩
      go_wp2_with fail
      go_ret
      exact ⟨rfl, hb.trans hb2⟩
end Go.Proofs.YtnibecboimgljaaDoor
