/-
  VaryOthers: fields that Vary doesn't name make no difference, wherever they stand.
-/
import Derived.Test.YtnibecboimgljaaDoorAlive17
import Derived.Test.YtnibecboimgljaaDoorVOther
import Derived.Test.YtnibecboimgljaaDoorFieldOpen
namespace Go.Proofs.YtnibecboimgljaaDoor
open Go.RowKit

theorem cell_drew (w : World) (a : Addr) : w.drew.cell? a = w.cell? a := rfl
theorem grown_low {e : TypeId} {size : Nat} {w w' : World} {base n : Nat} {v : Value} {xs : List Value} {k : Nat} (h : w.ownsRow base e size v n xs) (hg : w.grownBy w' v.ownBlock) (hk : k < base) (hks : k < w.heap.size) : w'.heap[k]? = w.heap[k]? :=
  hg.block k hks (fun e => by have := (World.ownsRow.lt h k e.symm).1; omega)

set_option maxRecDepth 100000 in
set_option maxHeartbeats 16000000 in
theorem varyOthers_walk (k va : ByteArray) (st : Int) (rs : ByteArray) (mi : Int) (p : Option Addr) (L : List Pair) (c : Nat) (x : Option Addr) (l : List UInt8) (y : Nat) (a g : Int) (A : List Pair) (pa : Option Addr) (ca : Nat) (on ov : ByteArray) (at_ : Int) (w : World)
    (hin : In2 w p L) (h8 : In8 w x l) (hk : k.size + va.size + rs.size + bulkF L + l.length ≤ 1048576) (hA : In2 w pa A) (hcA : A.length ≤ ca) (hkA : bulkF A ≤ 1048576) (hko : on.size + ov.size ≤ 1048576) (hat : -9223372036854775808 ≤ at_ ∧ at_ ≤ 9223372036854775807) :
    Calls Tryd.prog 9 #[.agg #[.string k, .string va, .int .i64 st, .string rs, .int .i64 mi, .slice p L.length c, .slice x l.length y, .int .i64 a, .int .i64 g], .slice pa A.length ca, .agg #[.string on, .string ov], .int .i64 at_] w fun e w' => e = .returned (.bool true) ∧ Below w.heap.size w w' := by
  have hll := bulkF_length L
  have hlA := bulkF_length A
  have hTL := tokens_lenV L
  have hNB := namesT_bulk L
  obtain ⟨wa, hwa⟩ : ∃ W0, W0 = ((w.alloc (.cells #[.string k, .string va, .int .i64 st, .string rs, .int .i64 mi, .slice p L.length c, .slice x l.length y, .int .i64 a, .int .i64 g] 41)).alloc (.cells #[.string on, .string ov] 35)) := ⟨_, rfl⟩
  have hb0 : Below w.heap.size w wa := by rw [hwa]; exact ((Below.refl w.heap.size w).alloc (Nat.le_refl _) _).alloc (by simp) _
  have hs0 : wa.heap.size = w.heap.size + 2 := by rw [hwa]; simp
  have ha0 : wa.heap[w.heap.size]? = some (.cells #[.string k, .string va, .int .i64 st, .string rs, .int .i64 mi, .slice p L.length c, .slice x l.length y, .int .i64 a, .int .i64 g] 41 (0, 0)) := by
    rw [hwa, heap_alloc_old _ _ (by simp)]; exact heap_alloc_new w _
  have hz0 : wa.heap[w.heap.size + 1]? = some (.cells #[.string on, .string ov] 35 (0, 0)) := by
    have := heap_alloc_new (w.alloc (.cells #[.string k, .string va, .int .i64 st, .string rs, .int .i64 mi, .slice p L.length c, .slice x l.length y, .int .i64 a, .int .i64 g] 41)) (.cells #[.string on, .string ov] 35)
    simp only [World.size_alloc] at this
    rw [hwa]; exact this
  have HWA := Lib.hid hwa
  clear hwa
  go_enter Tryd.func9, Tryd.ntmps9
  go_wp2_with fail
  rw [← HWA.out]
  refine (alive17_any _).mono ?_
  rintro e w1 ⟨rfl, hb1⟩
  have hB1 := hb0.trans (hb1.mono (by omega))
  have hs1 := hB1.size
  have hsw1 : w.heap.size + 2 ≤ w1.heap.size := by have := hb1.size; omega
  have hg1 := (hb1.block w.heap.size (by omega)).trans ha0
  have hz1 := (hb1.block (w.heap.size + 1) (by omega)).trans hz0
  have c0 : w1.cell? ⟨w.heap.size, 0, none⟩ = some (.string k) := by rw [cell_of_row _ _ _ _ _ _ hg1]; rfl
  have c1 : w1.cell? ⟨w.heap.size, 1, none⟩ = some (.string va) := by rw [cell_of_row _ _ _ _ _ _ hg1]; rfl
  have c2 : w1.cell? ⟨w.heap.size, 2, none⟩ = some (.int .i64 st) := by rw [cell_of_row _ _ _ _ _ _ hg1]; rfl
  have c3 : w1.cell? ⟨w.heap.size, 3, none⟩ = some (.string rs) := by rw [cell_of_row _ _ _ _ _ _ hg1]; rfl
  have c4 : w1.cell? ⟨w.heap.size, 4, none⟩ = some (.int .i64 mi) := by rw [cell_of_row _ _ _ _ _ _ hg1]; rfl
  have c5 : w1.cell? ⟨w.heap.size, 5, none⟩ = some (.slice p L.length c) := by rw [cell_of_row _ _ _ _ _ _ hg1]; rfl
  have c6 : w1.cell? ⟨w.heap.size, 6, none⟩ = some (.slice x l.length y) := by rw [cell_of_row _ _ _ _ _ _ hg1]; rfl
  have c7 : w1.cell? ⟨w.heap.size, 7, none⟩ = some (.int .i64 a) := by rw [cell_of_row _ _ _ _ _ _ hg1]; rfl
  have c8 : w1.cell? ⟨w.heap.size, 8, none⟩ = some (.int .i64 g) := by rw [cell_of_row _ _ _ _ _ _ hg1]; rfl
  have o0 : w1.cell? ⟨w.heap.size + 1, 0, none⟩ = some (.string on) := by rw [cell_of_row _ _ _ _ _ _ hz1]; rfl
  have o1 : w1.cell? ⟨w.heap.size + 1, 1, none⟩ = some (.string ov) := by rw [cell_of_row _ _ _ _ _ _ hz1]; rfl
  by_cases hlo : at_ < 0
  · go_wp2_with fail
    go_ret
    exact ⟨rfl, hB1⟩
  by_cases hhi : (A.length : Int) < at_
  · go_wp2_with fail
    go_ret
    exact ⟨rfl, hB1⟩
  obtain ⟨t, rfl⟩ : ∃ t : Nat, at_ = (t : Int) := ⟨at_.toNat, by omega⟩
  have ht : t ≤ A.length := by omega
  go_wp2_with fail
  refine (copyFields_any L p _ c rfl (by omega) w1 (hin.below hB1)).mono ?_
  rintro e w2 ⟨v2, rfl, hownL, hb2⟩
  have hB2 := hB1.trans (hb2.mono hs1)
  have hs2 := hB2.size
  have hsw2 : w.heap.size + 2 ≤ w2.heap.size := by have := hb2.size; omega
  have hg2 := (hb2.block w.heap.size (by omega)).trans hg1
  have hz2 := (hb2.block (w.heap.size + 1) (by omega)).trans hz1
  obtain ⟨po, co, rfl, k1, k2, hino, _⟩ := Own2.shape hownL rfl
  clear c0 c1 c2 c3 c4 c5 c6 c7 c8 o0 o1 hownL
  go_wp2_with fail
  refine (names_any L po _ co rfl (by omega) (sized_of_bulk L (by omega)) (by omega) w2 hino).mono ?_
  rintro e w3 ⟨v3, rfl, hownN, hb3⟩
  have hB3 := hB2.trans (hb3.mono hs2)
  have hs3 := hB3.size
  have hsw3 : w.heap.size + 2 ≤ w3.heap.size := by have := hb3.size; omega
  have hg3 := (hb3.block w.heap.size (by omega)).trans hg2
  have hz3 := (hb3.block (w.heap.size + 1) (by omega)).trans hz2
  obtain ⟨N, hN⟩ : ∃ N, N = (namesT L).1 := ⟨_, rfl⟩
  obtain ⟨ok, hok⟩ : ∃ b, b = (namesT L).2 := ⟨_, rfl⟩
  rw [← hN] at hownN hNB
  rw [← hok]
  have hNl := bulkT_length N
  have HN := Lib.hid hN
  obtain ⟨pn, cn, rfl, n1, n2, hinN, _⟩ := hownN.shape rfl
  unfold maxLen at n2
  clear hownN hino hN hok
  have hons : on.size ≤ 140737488351232 := by omega
  obtain ⟨fo, hfo⟩ : ∃ f : ByteArray, f = ⟨(fold on.data.toList).toArray⟩ := ⟨_, rfl⟩
  have hfod : fo.data.toList = fold on.data.toList := by rw [hfo]
  have HFO := Lib.hid hfo
  have HFD := Lib.hid hfod
  clear hfo hfod
  go_wp2_with fail
  go_loopw [8, 11] (fun v i wr => ∃ j : Nat, j ≤ N.length ∧ v = .bool false ∧ i = .int .i64 j ∧ (∀ n ∈ N.take j, n ≠ fold on.data.toList) ∧ Below w3.heap.size w3 wr) (fun _ i _ => N.length - (intOf i).toNat)
  case atStart => exact ⟨0, Nat.zero_le _, rfl, rfl, by simp, Below.refl _ _⟩
  case round =>
    obtain ⟨j, hj, rfl, rfl, hall, hb4⟩ := hrel
    have hB4 := hB3.trans (hb4.mono hs3)
    have hs4 := hb4.size
    have HALL := Lib.hid hall
    clear hall
    by_cases hjl : j < N.length
    · obtain ⟨bn, o2, rfl, z, q1, q2⟩ := (hinN.below hb4).at hjl
      have HZ := Lib.hid q2
      have hz4 := (hb4.block (w.heap.size + 1) (by omega)).trans hz3
      have o0 : wr.cell? ⟨w.heap.size + 1, 0, none⟩ = some (.string on) := by rw [cell_of_row _ _ _ _ _ _ hz4]; rfl
      obtain ⟨S, hS⟩ : ∃ S : World → Prop, S = fun W => W.cell? ⟨bn, o2 + j, none⟩ = some (.string z) ∧ W.cell? ⟨w.heap.size + 1, 0, none⟩ = some (.string on) ∧ Below w3.heap.size w3 W := ⟨_, rfl⟩
      have HLW := Lib.hid (fun W (hW : S W) => show Calls Tryd.prog 23 #[.string on] W fun e w' => e = .returned (.string fo) ∧ S w' by
        rw [hS] at hW
        rw [HFO.out, hS]
        exact (lower_any on W hons).mono fun _ _ ⟨h1, h2⟩ => ⟨h1, cell_keep hW.1 h2, cell_keep hW.2.1 h2, hW.2.2.trans (h2.mono hW.2.2.size)⟩)
      have HSS := Lib.hid (fun W => show S W ↔ W.cell? ⟨bn, o2 + j, none⟩ = some (.string z) ∧ W.cell? ⟨w.heap.size + 1, 0, none⟩ = some (.string on) ∧ Below w3.heap.size w3 W by rw [hS])
      have HK0 := Lib.hid (show S wr.drew by rw [hS]; exact ⟨q1, o0, hb4.drew⟩)
      have hzf : (z.toList == fo.toList) = decide (z.data.toList = fold on.data.toList) := by rw [strs_eq, HFD.out]
      obtain ⟨same, hsame⟩ : ∃ b, b = decide (z.data.toList = fold on.data.toList) := ⟨_, rfl⟩
      rw [← hsame] at hzf
      have HSM := Lib.hid hsame
      clear hS q1 q2 o0 hsame
      go_wp2_with fail
      go_region_held3 (fun W => W.cell? ⟨bn, o2 + j, none⟩ = some (.string z) ∧ W.cell? ⟨w.heap.size + 1, 0, none⟩ = some (.string on) ∧ Below w3.heap.size w3 W)
        (first | (with_reducible exact (HSS.out _).1 HK0.out) | (with_reducible exact (HSS.out _).1 HK1.out))
        (first | (go_at_call 23; with_reducible refine (HLW.out _ HK0.out).mono ?_; rintro e w5 ⟨rfl, hk⟩; have HK1 := Lib.hid hk; clear hk))
      all_goals
        have hb5 := ((HSS.out _).1 HK1.out).2.2
        cases same with
        | true =>
          go_wp2_with fail
          go_ret
          exact ⟨rfl, hB3.trans (hb5.mono hs3)⟩
        | false =>
          have hne := of_decide_eq_false HSM.out.symm
          have HNE := Lib.hid hne
          clear hne
          go_wp2_with fail
          go_roundw
          case rel =>
            refine ⟨j + 1, by omega, by trivial, by go_num, fun n hn => ?_, hb5⟩
            rw [List.take_succ_eq_append_getElem hjl, List.mem_append, List.mem_singleton] at hn
            rcases hn with hn | hn
            · exact HALL.out n hn
            · rw [hn, ← HZ.out]; exact HNE.out
          case measure => simp [intOf]; omega
    · obtain rfl : j = N.length := by omega
      rw [List.take_length] at HALL
      have hmo := fun v A1 A2 => match_other L v A1 A2 (on.data.toList, ov.data.toList) (by rw [← HN.out]; exact HALL.out)
      have HMO := Lib.hid hmo
      clear hmo HALL
      have hlt : (A.take t).length = t := by rw [List.length_take, Nat.min_eq_left ht]
      have hg4 := (hb4.block w.heap.size (by omega)).trans hg3
      have hz4 := (hb4.block (w.heap.size + 1) (by omega)).trans hz3
      have hsw4 : w.heap.size + 2 ≤ wr.heap.size := by omega
      have hsB4 := hB4.size
      clear hinN
      go_wp2_with fail
      refine (copyFields_any (A.take t) pa t ca hlt (by omega) wr ((hA.below hB4).left t)).mono ?_
      rintro e w5 ⟨v5, rfl, hown5, hb5⟩
      have hB5 := hB4.trans (hb5.mono hsB4)
      have hs5 := hb5.size
      have hg5 := (hb5.block w.heap.size (by omega)).trans hg4
      have hz5 := (hb5.block (w.heap.size + 1) (by omega)).trans hz4
      have o0 : w5.cell? ⟨w.heap.size + 1, 0, none⟩ = some (.string on) := by rw [cell_of_row _ _ _ _ _ _ hz5]; rfl
      have o1 : w5.cell? ⟨w.heap.size + 1, 1, none⟩ = some (.string ov) := by rw [cell_of_row _ _ _ _ _ _ hz5]; rfl
      have hin5 := In2.one w5 on ov 35
      have hown5' := Own2.alloc hown5 (.cells #[.string on, .string ov] 35)
      have HLT := Lib.hid hlt
      have hdl : (A.drop t).length = A.length - t := List.length_drop
      have HDL := Lib.hid hdl
      have hA5 := hA.below hB5
      have hsw5 : w.heap.size + 2 ≤ w5.heap.size := by omega
      clear hlt hdl hin5
      have hin5 := fun W => In2.one W on ov 35
      by_cases hend : t = A.length
      · have hz9 : A.length - t = 0 := by omega
        have HEND := Lib.hid hend
        by_cases hct : ca = t
        · have hct2 : t = ca := hct.symm
          clear hend hct
          subst hct2
          go_wp2_with (first
            | (at_builtin; refine wpList_append2w parF rfl _ _ rfl wr.heap.size _ _ rfl hown5' _ _ _ _ rfl rfl (hin5 _) (by rw [HLT.out]; simp; omega) (by simp; omega) ?_
               intro v6 w6 hown6 hgrow6 hway6
               have hB6 := Own2.grown (hB5.alloc (by omega) _) (by simp; omega) (hown5'.mono (by omega)) hgrow6
               have hg6 := (grown_low hown5' hgrow6 (k := w.heap.size) (by omega) (by rw [World.size_alloc]; omega)).trans ((heap_alloc_old _ _ (by omega)).trans hg5)
               have hs6 := hgrow6.size
               simp only [World.size_alloc] at hs6)
            | (at_builtin; refine wpList_append2w parF rfl _ _ rfl wr.heap.size _ _ rfl hown6 _ _ _ [] (by first | rfl | (simp; done) | (simp; omega)) rfl (fun h => absurd h (by simp)) (by rw [List.length_append, HLT.out]; first | (simp; done) | (simp; omega)) (by omega) ?_
               intro v7 w7 hown7 hgrow7 hway7
               have hB7 := Own2.grown hB6 (by omega) (hown6.mono (by omega)) hgrow7
               have hg7 := (grown_low hown6 hgrow7 (k := w.heap.size) (by omega) (by omega)).trans hg6
               have HT7 := Lib.hid (⟨hown7, hB7, hg7⟩ : Own2 35 w7 wr.heap.size v7 ((List.take t A ++ [(on.data.toList, ov.data.toList)]) ++ []) ∧ Below w.heap.size w w7 ∧ w7.heap[w.heap.size]? = some (.cells #[.string k, .string va, .int .i64 st, .string rs, .int .i64 mi, .slice p L.length c, .slice x l.length y, .int .i64 a, .int .i64 g] 41 (0, 0)))
               obtain ⟨M, hM⟩ : ∃ M, M = (List.take t A ++ [(on.data.toList, ov.data.toList)]) ++ [] := ⟨_, rfl⟩
               have HM := Lib.hid hM
               rw [← hM] at hown7
               obtain ⟨pm, cm, rfl, u1, u2, hinM, _⟩ := Own2.shape hown7 rfl
               clear hM hown7))
          have hB7 := HT7.out.2.1
          have hg7 := HT7.out.2.2
          have hs7 := hB7.size
          have hMe : M = A.take t ++ [(on.data.toList, ov.data.toList)] ++ A.drop t := by rw [HM.out, HEND.out, List.drop_length]
          have hbM : bulkF M ≤ 4194304 := by
            have e1 : bulkF A = bulkF (A.take t) + bulkF (A.drop t) := by rw [← bulkF_append, List.take_append_drop]
            rw [hMe, bulkF_append, bulkF_append]
            have e2 : bulkF [(on.data.toList, ov.data.toList)] = on.size + ov.size + 3 := by
              show on.data.toList.length + ov.data.toList.length + 3 + 0 = _
              rw [size_list, size_list]
            omega
          have hmm : matchB L va.data.toList M = matchB L va.data.toList A := by
            rw [hMe, HMO.out, List.take_append_drop]
          obtain ⟨mb, hmb⟩ : ∃ b, b = matchB L va.data.toList A := ⟨_, rfl⟩
          rw [← hmb] at hmm
          obtain ⟨S, hS⟩ : ∃ S : World → Prop, S = fun W => W.cell? ⟨w.heap.size, 0, none⟩ = some (.string k) ∧ W.cell? ⟨w.heap.size, 1, none⟩ = some (.string va) ∧ W.cell? ⟨w.heap.size, 2, none⟩ = some (.int .i64 st) ∧ W.cell? ⟨w.heap.size, 3, none⟩ = some (.string rs) ∧ W.cell? ⟨w.heap.size, 4, none⟩ = some (.int .i64 mi) ∧ W.cell? ⟨w.heap.size, 5, none⟩ = some (.slice p L.length c) ∧ W.cell? ⟨w.heap.size, 6, none⟩ = some (.slice x l.length y) ∧ W.cell? ⟨w.heap.size, 7, none⟩ = some (.int .i64 a) ∧ W.cell? ⟨w.heap.size, 8, none⟩ = some (.int .i64 g) ∧ Below w7.heap.size w7 W := ⟨_, rfl⟩
          have step : ∀ W W', S W → Below W.heap.size W W' → S W' := by
            intro W W' h1 hb
            rw [hS] at h1 ⊢
            obtain ⟨h0, h1, h2, h3, h4, h5, h6, h7, h8, hbl⟩ := h1
            exact ⟨cell_keep h0 hb, cell_keep h1 hb, cell_keep h2 hb, cell_keep h3 hb, cell_keep h4 hb, cell_keep h5 hb, cell_keep h6 hb, cell_keep h7 hb, cell_keep h8 hb, hbl.trans (hb.mono hbl.size)⟩
          have bel : ∀ W, S W → Below w7.heap.size w7 W := by
            intro W h1
            rw [hS] at h1
            exact h1.2.2.2.2.2.2.2.2.2
          have hS0 : S w7.drew := by
            rw [hS]
            exact ⟨by rw [cell_drew, cell_of_row _ _ _ _ _ _ hg7]; rfl, by rw [cell_drew, cell_of_row _ _ _ _ _ _ hg7]; rfl, by rw [cell_drew, cell_of_row _ _ _ _ _ _ hg7]; rfl, by rw [cell_drew, cell_of_row _ _ _ _ _ _ hg7]; rfl, by rw [cell_drew, cell_of_row _ _ _ _ _ _ hg7]; rfl, by rw [cell_drew, cell_of_row _ _ _ _ _ _ hg7]; rfl, by rw [cell_drew, cell_of_row _ _ _ _ _ _ hg7]; rfl, by rw [cell_drew, cell_of_row _ _ _ _ _ _ hg7]; rfl, by rw [cell_drew, cell_of_row _ _ _ _ _ _ hg7]; rfl, (Below.refl _ w7).drew⟩
          have HBEL := Lib.hid bel
          have HCE := Lib.hid (fun W (hW : S W) => show Calls Tryd.prog 19 #[.agg #[.string k, .string va, .int .i64 st, .string rs, .int .i64 mi, .slice p L.length c, .slice x l.length y, .int .i64 a, .int .i64 g]] W fun e w' => ∃ pL cL pl cl, e = .returned (.agg #[.string k, .string va, .int .i64 st, .string rs, .int .i64 mi, .slice pL L.length cL, .slice pl l.length cl, .int .i64 a, .int .i64 g]) ∧ In2 w' pL L ∧ S w' from
            (copyEntry_any k va st rs mi a g L p _ c rfl (by omega) l x _ y rfl (by omega) W ((hin.below hB7).below (bel W hW)) ((h8.below hB7).below (bel W hW))).mono fun _ w' ⟨v1, v2, h1, h2, h3, h4⟩ => by
              obtain ⟨pL, cL, rfl, _, _, hi, _⟩ := Own2.shape h2 rfl
              obtain ⟨pl, cl, rfl, _, _, _⟩ := h3.in8n rfl
              exact ⟨pL, cL, pl, cl, h1, hi, step _ _ hW h4⟩)
          have HMT := Lib.hid (fun W pL cL pl cl (hW : S W) (hi : In2 W pL L) => show Calls Tryd.prog 20 #[.agg #[.string k, .string va, .int .i64 st, .string rs, .int .i64 mi, .slice pL L.length cL, .slice pl l.length cl, .int .i64 a, .int .i64 g], .slice pm M.length cm] W fun e w' => e = .returned (.bool mb) ∧ S w' by
            have := matches_any k va st rs mi a g L pL _ cL rfl pl l.length cl M pm _ cm rfl (by omega) hbM W hi (hinM.below (bel W hW))
            rw [hmm] at this
            exact this.mono fun _ _ ⟨h1, h2⟩ => ⟨h1, step _ _ hW h2⟩)
          have HCF := Lib.hid (fun W (hW : S W) => show Calls Tryd.prog 11 #[.slice pa A.length t] W fun e w' => ∃ p' c', e = .returned (.slice p' A.length c') ∧ In2 w' p' A ∧ (∀ pL, In2 W pL L → In2 w' pL L) ∧ S w' from
            (copyFields_any A _ _ t rfl (by omega) W ((hA.below hB7).below (bel W hW))).mono fun _ w' ⟨v, h1, h2, h3⟩ => by
              obtain ⟨p', c', rfl, _, _, hi, _⟩ := Own2.shape h2 rfl
              exact ⟨p', c', h1, hi, fun _ h => h.below h3, step _ _ hW h3⟩)
          have HMT2 := Lib.hid (fun W pL cL pl cl p' c' (hW : S W) (hi : In2 W pL L) (hi2 : In2 W p' A) => show Calls Tryd.prog 20 #[.agg #[.string k, .string va, .int .i64 st, .string rs, .int .i64 mi, .slice pL L.length cL, .slice pl l.length cl, .int .i64 a, .int .i64 g], .slice p' A.length c'] W fun e w' => e = .returned (.bool mb) ∧ S w' by
            have := matches_any k va st rs mi a g L pL _ cL rfl pl l.length cl A p' _ c' rfl (by omega) (by omega) W hi hi2
            rw [← hmb] at this
            exact this.mono fun _ _ ⟨h1, h2⟩ => ⟨h1, step _ _ hW h2⟩)
          have HSS := Lib.hid (fun W => show S W ↔ W.cell? ⟨w.heap.size, 0, none⟩ = some (.string k) ∧ W.cell? ⟨w.heap.size, 1, none⟩ = some (.string va) ∧ W.cell? ⟨w.heap.size, 2, none⟩ = some (.int .i64 st) ∧ W.cell? ⟨w.heap.size, 3, none⟩ = some (.string rs) ∧ W.cell? ⟨w.heap.size, 4, none⟩ = some (.int .i64 mi) ∧ W.cell? ⟨w.heap.size, 5, none⟩ = some (.slice p L.length c) ∧ W.cell? ⟨w.heap.size, 6, none⟩ = some (.slice x l.length y) ∧ W.cell? ⟨w.heap.size, 7, none⟩ = some (.int .i64 a) ∧ W.cell? ⟨w.heap.size, 8, none⟩ = some (.int .i64 g) ∧ Below w7.heap.size w7 W by rw [hS])
          have HK0 := Lib.hid hS0
          have qmb : (mb == mb) = true := by simp
          have HB7 := Lib.hid hB7
          clear step bel hS hS0 hMe hbM hmm hmb hg7 hB7 hinM
          go_wp2_with fail
          go_region_held3 (fun W => W.cell? ⟨w.heap.size, 0, none⟩ = some (.string k) ∧ W.cell? ⟨w.heap.size, 1, none⟩ = some (.string va) ∧ W.cell? ⟨w.heap.size, 2, none⟩ = some (.int .i64 st) ∧ W.cell? ⟨w.heap.size, 3, none⟩ = some (.string rs) ∧ W.cell? ⟨w.heap.size, 4, none⟩ = some (.int .i64 mi) ∧ W.cell? ⟨w.heap.size, 5, none⟩ = some (.slice p L.length c) ∧ W.cell? ⟨w.heap.size, 6, none⟩ = some (.slice x l.length y) ∧ W.cell? ⟨w.heap.size, 7, none⟩ = some (.int .i64 a) ∧ W.cell? ⟨w.heap.size, 8, none⟩ = some (.int .i64 g) ∧ Below w7.heap.size w7 W)
            (first | (with_reducible exact (HSS.out _).1 HK0.out) | (with_reducible exact (HSS.out _).1 HK1.out) | (with_reducible exact (HSS.out _).1 HK2.out) | (with_reducible exact (HSS.out _).1 HK3.out) | (with_reducible exact (HSS.out _).1 HK4.out) | (with_reducible exact (HSS.out _).1 HK5.out))
            (first
              | (go_at_call 19; first
                  | (with_reducible refine (HCE.out _ HK0.out).mono ?_; rintro e r1 ⟨p1, c1, x1, y1, rfl, hi, hk⟩; have HI1 := Lib.hid hi; have HK1 := Lib.hid hk; clear hi hk)
                  | (with_reducible refine (HCE.out _ HK2.out).mono ?_; rintro e r3 ⟨p3, c3, x3, y3, rfl, hi, hk⟩; have HI3 := Lib.hid hi; have HK3 := Lib.hid hk; clear hi hk))
              | (go_at_call 11; with_reducible refine (HCF.out _ HK3.out).mono ?_; rintro e r4 ⟨p', c', rfl, hcp, hst, hk⟩; have HI4 := Lib.hid (hst _ HI3.out); have HCP := Lib.hid hcp; have HK4 := Lib.hid hk; clear hcp hst hk)
              | (go_at_call 20; first
                  | (with_reducible refine (HMT.out _ _ _ _ _ HK1.out HI1.out).mono ?_; rintro e r2 ⟨rfl, hk⟩; have HK2 := Lib.hid hk; clear hk)
                  | (with_reducible refine (HMT2.out _ _ _ _ _ _ _ HK4.out HI4.out HCP.out).mono ?_; rintro e r5 ⟨rfl, hk⟩; have HK5 := Lib.hid hk; clear hk)))
          all_goals
            have hB9 := HB7.out.trans ((HBEL.out _ HK5.out).mono HB7.out.size)
            go_wp2_with fail
            go_ret
            exact ⟨rfl, hB9⟩
        · have hcti : ¬ (ca : Int) = (t : Int) := by omega
          clear hend
          go_wp2_with (first
            | (at_builtin; refine wpList_append2w parF rfl _ _ rfl wr.heap.size _ _ rfl hown5' _ _ _ _ rfl rfl (hin5 _) (by rw [HLT.out]; simp; omega) (by simp; omega) ?_
               intro v6 w6 hown6 hgrow6 hway6
               have hB6 := Own2.grown (hB5.alloc (by omega) _) (by simp; omega) (hown5'.mono (by omega)) hgrow6
               have hg6 := (grown_low hown5' hgrow6 (k := w.heap.size) (by omega) (by rw [World.size_alloc]; omega)).trans ((heap_alloc_old _ _ (by omega)).trans hg5)
               have hs6 := hgrow6.size
               simp only [World.size_alloc] at hs6)
            | (at_builtin; refine wpList_append2w parF rfl _ _ rfl wr.heap.size _ _ rfl hown6 _ _ _ [] (by first | rfl | (simp; done) | (simp; omega)) rfl (fun h => absurd h (by simp)) (by rw [List.length_append, HLT.out]; first | (simp; done) | (simp; omega)) (by omega) ?_
               intro v7 w7 hown7 hgrow7 hway7
               have hB7 := Own2.grown hB6 (by omega) (hown6.mono (by omega)) hgrow7
               have hg7 := (grown_low hown6 hgrow7 (k := w.heap.size) (by omega) (by omega)).trans hg6
               have HT7 := Lib.hid (⟨hown7, hB7, hg7⟩ : Own2 35 w7 wr.heap.size v7 ((List.take t A ++ [(on.data.toList, ov.data.toList)]) ++ []) ∧ Below w.heap.size w w7 ∧ w7.heap[w.heap.size]? = some (.cells #[.string k, .string va, .int .i64 st, .string rs, .int .i64 mi, .slice p L.length c, .slice x l.length y, .int .i64 a, .int .i64 g] 41 (0, 0)))
               obtain ⟨M, hM⟩ : ∃ M, M = (List.take t A ++ [(on.data.toList, ov.data.toList)]) ++ [] := ⟨_, rfl⟩
               have HM := Lib.hid hM
               rw [← hM] at hown7
               obtain ⟨pm, cm, rfl, u1, u2, hinM, _⟩ := Own2.shape hown7 rfl
               clear hM hown7))
          have hB7 := HT7.out.2.1
          have hg7 := HT7.out.2.2
          have hs7 := hB7.size
          have hMe : M = A.take t ++ [(on.data.toList, ov.data.toList)] ++ A.drop t := by rw [HM.out, HEND.out, List.drop_length]
          have hbM : bulkF M ≤ 4194304 := by
            have e1 : bulkF A = bulkF (A.take t) + bulkF (A.drop t) := by rw [← bulkF_append, List.take_append_drop]
            rw [hMe, bulkF_append, bulkF_append]
            have e2 : bulkF [(on.data.toList, ov.data.toList)] = on.size + ov.size + 3 := by
              show on.data.toList.length + ov.data.toList.length + 3 + 0 = _
              rw [size_list, size_list]
            omega
          have hmm : matchB L va.data.toList M = matchB L va.data.toList A := by
            rw [hMe, HMO.out, List.take_append_drop]
          obtain ⟨mb, hmb⟩ : ∃ b, b = matchB L va.data.toList A := ⟨_, rfl⟩
          rw [← hmb] at hmm
          obtain ⟨S, hS⟩ : ∃ S : World → Prop, S = fun W => W.cell? ⟨w.heap.size, 0, none⟩ = some (.string k) ∧ W.cell? ⟨w.heap.size, 1, none⟩ = some (.string va) ∧ W.cell? ⟨w.heap.size, 2, none⟩ = some (.int .i64 st) ∧ W.cell? ⟨w.heap.size, 3, none⟩ = some (.string rs) ∧ W.cell? ⟨w.heap.size, 4, none⟩ = some (.int .i64 mi) ∧ W.cell? ⟨w.heap.size, 5, none⟩ = some (.slice p L.length c) ∧ W.cell? ⟨w.heap.size, 6, none⟩ = some (.slice x l.length y) ∧ W.cell? ⟨w.heap.size, 7, none⟩ = some (.int .i64 a) ∧ W.cell? ⟨w.heap.size, 8, none⟩ = some (.int .i64 g) ∧ Below w7.heap.size w7 W := ⟨_, rfl⟩
          have step : ∀ W W', S W → Below W.heap.size W W' → S W' := by
            intro W W' h1 hb
            rw [hS] at h1 ⊢
            obtain ⟨h0, h1, h2, h3, h4, h5, h6, h7, h8, hbl⟩ := h1
            exact ⟨cell_keep h0 hb, cell_keep h1 hb, cell_keep h2 hb, cell_keep h3 hb, cell_keep h4 hb, cell_keep h5 hb, cell_keep h6 hb, cell_keep h7 hb, cell_keep h8 hb, hbl.trans (hb.mono hbl.size)⟩
          have bel : ∀ W, S W → Below w7.heap.size w7 W := by
            intro W h1
            rw [hS] at h1
            exact h1.2.2.2.2.2.2.2.2.2
          have hS0 : S w7.drew := by
            rw [hS]
            exact ⟨by rw [cell_drew, cell_of_row _ _ _ _ _ _ hg7]; rfl, by rw [cell_drew, cell_of_row _ _ _ _ _ _ hg7]; rfl, by rw [cell_drew, cell_of_row _ _ _ _ _ _ hg7]; rfl, by rw [cell_drew, cell_of_row _ _ _ _ _ _ hg7]; rfl, by rw [cell_drew, cell_of_row _ _ _ _ _ _ hg7]; rfl, by rw [cell_drew, cell_of_row _ _ _ _ _ _ hg7]; rfl, by rw [cell_drew, cell_of_row _ _ _ _ _ _ hg7]; rfl, by rw [cell_drew, cell_of_row _ _ _ _ _ _ hg7]; rfl, by rw [cell_drew, cell_of_row _ _ _ _ _ _ hg7]; rfl, (Below.refl _ w7).drew⟩
          have HBEL := Lib.hid bel
          have HCE := Lib.hid (fun W (hW : S W) => show Calls Tryd.prog 19 #[.agg #[.string k, .string va, .int .i64 st, .string rs, .int .i64 mi, .slice p L.length c, .slice x l.length y, .int .i64 a, .int .i64 g]] W fun e w' => ∃ pL cL pl cl, e = .returned (.agg #[.string k, .string va, .int .i64 st, .string rs, .int .i64 mi, .slice pL L.length cL, .slice pl l.length cl, .int .i64 a, .int .i64 g]) ∧ In2 w' pL L ∧ S w' from
            (copyEntry_any k va st rs mi a g L p _ c rfl (by omega) l x _ y rfl (by omega) W ((hin.below hB7).below (bel W hW)) ((h8.below hB7).below (bel W hW))).mono fun _ w' ⟨v1, v2, h1, h2, h3, h4⟩ => by
              obtain ⟨pL, cL, rfl, _, _, hi, _⟩ := Own2.shape h2 rfl
              obtain ⟨pl, cl, rfl, _, _, _⟩ := h3.in8n rfl
              exact ⟨pL, cL, pl, cl, h1, hi, step _ _ hW h4⟩)
          have HMT := Lib.hid (fun W pL cL pl cl (hW : S W) (hi : In2 W pL L) => show Calls Tryd.prog 20 #[.agg #[.string k, .string va, .int .i64 st, .string rs, .int .i64 mi, .slice pL L.length cL, .slice pl l.length cl, .int .i64 a, .int .i64 g], .slice pm M.length cm] W fun e w' => e = .returned (.bool mb) ∧ S w' by
            have := matches_any k va st rs mi a g L pL _ cL rfl pl l.length cl M pm _ cm rfl (by omega) hbM W hi (hinM.below (bel W hW))
            rw [hmm] at this
            exact this.mono fun _ _ ⟨h1, h2⟩ => ⟨h1, step _ _ hW h2⟩)
          have HCF := Lib.hid (fun W (hW : S W) => show Calls Tryd.prog 11 #[.slice pa A.length ca] W fun e w' => ∃ p' c', e = .returned (.slice p' A.length c') ∧ In2 w' p' A ∧ (∀ pL, In2 W pL L → In2 w' pL L) ∧ S w' from
            (copyFields_any A _ _ ca rfl (by omega) W ((hA.below hB7).below (bel W hW))).mono fun _ w' ⟨v, h1, h2, h3⟩ => by
              obtain ⟨p', c', rfl, _, _, hi, _⟩ := Own2.shape h2 rfl
              exact ⟨p', c', h1, hi, fun _ h => h.below h3, step _ _ hW h3⟩)
          have HMT2 := Lib.hid (fun W pL cL pl cl p' c' (hW : S W) (hi : In2 W pL L) (hi2 : In2 W p' A) => show Calls Tryd.prog 20 #[.agg #[.string k, .string va, .int .i64 st, .string rs, .int .i64 mi, .slice pL L.length cL, .slice pl l.length cl, .int .i64 a, .int .i64 g], .slice p' A.length c'] W fun e w' => e = .returned (.bool mb) ∧ S w' by
            have := matches_any k va st rs mi a g L pL _ cL rfl pl l.length cl A p' _ c' rfl (by omega) (by omega) W hi hi2
            rw [← hmb] at this
            exact this.mono fun _ _ ⟨h1, h2⟩ => ⟨h1, step _ _ hW h2⟩)
          have HSS := Lib.hid (fun W => show S W ↔ W.cell? ⟨w.heap.size, 0, none⟩ = some (.string k) ∧ W.cell? ⟨w.heap.size, 1, none⟩ = some (.string va) ∧ W.cell? ⟨w.heap.size, 2, none⟩ = some (.int .i64 st) ∧ W.cell? ⟨w.heap.size, 3, none⟩ = some (.string rs) ∧ W.cell? ⟨w.heap.size, 4, none⟩ = some (.int .i64 mi) ∧ W.cell? ⟨w.heap.size, 5, none⟩ = some (.slice p L.length c) ∧ W.cell? ⟨w.heap.size, 6, none⟩ = some (.slice x l.length y) ∧ W.cell? ⟨w.heap.size, 7, none⟩ = some (.int .i64 a) ∧ W.cell? ⟨w.heap.size, 8, none⟩ = some (.int .i64 g) ∧ Below w7.heap.size w7 W by rw [hS])
          have HK0 := Lib.hid hS0
          have qmb : (mb == mb) = true := by simp
          have HB7 := Lib.hid hB7
          clear step bel hS hS0 hMe hbM hmm hmb hg7 hB7 hinM
          go_wp2_with fail
          go_region_held3 (fun W => W.cell? ⟨w.heap.size, 0, none⟩ = some (.string k) ∧ W.cell? ⟨w.heap.size, 1, none⟩ = some (.string va) ∧ W.cell? ⟨w.heap.size, 2, none⟩ = some (.int .i64 st) ∧ W.cell? ⟨w.heap.size, 3, none⟩ = some (.string rs) ∧ W.cell? ⟨w.heap.size, 4, none⟩ = some (.int .i64 mi) ∧ W.cell? ⟨w.heap.size, 5, none⟩ = some (.slice p L.length c) ∧ W.cell? ⟨w.heap.size, 6, none⟩ = some (.slice x l.length y) ∧ W.cell? ⟨w.heap.size, 7, none⟩ = some (.int .i64 a) ∧ W.cell? ⟨w.heap.size, 8, none⟩ = some (.int .i64 g) ∧ Below w7.heap.size w7 W)
            (first | (with_reducible exact (HSS.out _).1 HK0.out) | (with_reducible exact (HSS.out _).1 HK1.out) | (with_reducible exact (HSS.out _).1 HK2.out) | (with_reducible exact (HSS.out _).1 HK3.out) | (with_reducible exact (HSS.out _).1 HK4.out) | (with_reducible exact (HSS.out _).1 HK5.out))
            (first
              | (go_at_call 19; first
                  | (with_reducible refine (HCE.out _ HK0.out).mono ?_; rintro e r1 ⟨p1, c1, x1, y1, rfl, hi, hk⟩; have HI1 := Lib.hid hi; have HK1 := Lib.hid hk; clear hi hk)
                  | (with_reducible refine (HCE.out _ HK2.out).mono ?_; rintro e r3 ⟨p3, c3, x3, y3, rfl, hi, hk⟩; have HI3 := Lib.hid hi; have HK3 := Lib.hid hk; clear hi hk))
              | (go_at_call 11; with_reducible refine (HCF.out _ HK3.out).mono ?_; rintro e r4 ⟨p', c', rfl, hcp, hst, hk⟩; have HI4 := Lib.hid (hst _ HI3.out); have HCP := Lib.hid hcp; have HK4 := Lib.hid hk; clear hcp hst hk)
              | (go_at_call 20; first
                  | (with_reducible refine (HMT.out _ _ _ _ _ HK1.out HI1.out).mono ?_; rintro e r2 ⟨rfl, hk⟩; have HK2 := Lib.hid hk; clear hk)
                  | (with_reducible refine (HMT2.out _ _ _ _ _ _ _ HK4.out HI4.out HCP.out).mono ?_; rintro e r5 ⟨rfl, hk⟩; have HK5 := Lib.hid hk; clear hk)))
          all_goals
            have hB9 := HB7.out.trans ((HBEL.out _ HK5.out).mono HB7.out.size)
            go_wp2_with fail
            go_ret
            exact ⟨rfl, hB9⟩
      · obtain ⟨b9, o9, rfl, _⟩ := hA5 (by omega)
        have hct : ¬ ca = t := by omega
        have hcti : ¬ (ca : Int) = (t : Int) := by omega
        go_wp2_with (first
          | (at_builtin; refine wpList_append2w parF rfl _ _ rfl wr.heap.size _ _ rfl hown5' _ _ _ _ rfl rfl (hin5 _) (by rw [HLT.out]; simp; omega) (by simp; omega) ?_
             intro v6 w6 hown6 hgrow6 hway6
             have hB6 := Own2.grown (hB5.alloc (by omega) _) (by simp; omega) (hown5'.mono (by omega)) hgrow6
             have hg6 := (grown_low hown5' hgrow6 (k := w.heap.size) (by omega) (by rw [World.size_alloc]; omega)).trans ((heap_alloc_old _ _ (by omega)).trans hg5)
             have hr9 := In2.right (hA.below hB6) t ht
             have hs6 := hgrow6.size
             simp only [World.size_alloc] at hs6)
          | (at_builtin; refine wpList_append2w parF rfl _ _ rfl wr.heap.size _ _ rfl hown6 _ _ _ (A.drop t) HDL.out rfl hr9 (by rw [List.length_append, HLT.out]; simp; omega) (by omega) ?_
             intro v7 w7 hown7 hgrow7 hway7
             have hB7 := Own2.grown hB6 (by omega) (hown6.mono (by omega)) hgrow7
             have hg7 := (grown_low hown6 hgrow7 (k := w.heap.size) (by omega) (by omega)).trans hg6
             have HT7 := Lib.hid (⟨hown7, hB7, hg7⟩ : Own2 35 w7 wr.heap.size v7 ((List.take t A ++ [(on.data.toList, ov.data.toList)]) ++ A.drop t) ∧ Below w.heap.size w w7 ∧ w7.heap[w.heap.size]? = some (.cells #[.string k, .string va, .int .i64 st, .string rs, .int .i64 mi, .slice p L.length c, .slice x l.length y, .int .i64 a, .int .i64 g] 41 (0, 0)))
             obtain ⟨M, hM⟩ : ∃ M, M = (List.take t A ++ [(on.data.toList, ov.data.toList)]) ++ A.drop t := ⟨_, rfl⟩
             have HM := Lib.hid hM
             rw [← hM] at hown7
             obtain ⟨pm, cm, rfl, u1, u2, hinM, _⟩ := Own2.shape hown7 rfl
             clear hM hown7))
        have hB7 := HT7.out.2.1
        have hg7 := HT7.out.2.2
        have hs7 := hB7.size
        have hMe : M = A.take t ++ [(on.data.toList, ov.data.toList)] ++ A.drop t := by exact HM.out
        have hbM : bulkF M ≤ 4194304 := by
          have e1 : bulkF A = bulkF (A.take t) + bulkF (A.drop t) := by rw [← bulkF_append, List.take_append_drop]
          rw [hMe, bulkF_append, bulkF_append]
          have e2 : bulkF [(on.data.toList, ov.data.toList)] = on.size + ov.size + 3 := by
            show on.data.toList.length + ov.data.toList.length + 3 + 0 = _
            rw [size_list, size_list]
          omega
        have hmm : matchB L va.data.toList M = matchB L va.data.toList A := by
          rw [hMe, HMO.out, List.take_append_drop]
        obtain ⟨mb, hmb⟩ : ∃ b, b = matchB L va.data.toList A := ⟨_, rfl⟩
        rw [← hmb] at hmm
        obtain ⟨S, hS⟩ : ∃ S : World → Prop, S = fun W => W.cell? ⟨w.heap.size, 0, none⟩ = some (.string k) ∧ W.cell? ⟨w.heap.size, 1, none⟩ = some (.string va) ∧ W.cell? ⟨w.heap.size, 2, none⟩ = some (.int .i64 st) ∧ W.cell? ⟨w.heap.size, 3, none⟩ = some (.string rs) ∧ W.cell? ⟨w.heap.size, 4, none⟩ = some (.int .i64 mi) ∧ W.cell? ⟨w.heap.size, 5, none⟩ = some (.slice p L.length c) ∧ W.cell? ⟨w.heap.size, 6, none⟩ = some (.slice x l.length y) ∧ W.cell? ⟨w.heap.size, 7, none⟩ = some (.int .i64 a) ∧ W.cell? ⟨w.heap.size, 8, none⟩ = some (.int .i64 g) ∧ Below w7.heap.size w7 W := ⟨_, rfl⟩
        have step : ∀ W W', S W → Below W.heap.size W W' → S W' := by
          intro W W' h1 hb
          rw [hS] at h1 ⊢
          obtain ⟨h0, h1, h2, h3, h4, h5, h6, h7, h8, hbl⟩ := h1
          exact ⟨cell_keep h0 hb, cell_keep h1 hb, cell_keep h2 hb, cell_keep h3 hb, cell_keep h4 hb, cell_keep h5 hb, cell_keep h6 hb, cell_keep h7 hb, cell_keep h8 hb, hbl.trans (hb.mono hbl.size)⟩
        have bel : ∀ W, S W → Below w7.heap.size w7 W := by
          intro W h1
          rw [hS] at h1
          exact h1.2.2.2.2.2.2.2.2.2
        have hS0 : S w7.drew := by
          rw [hS]
          exact ⟨by rw [cell_drew, cell_of_row _ _ _ _ _ _ hg7]; rfl, by rw [cell_drew, cell_of_row _ _ _ _ _ _ hg7]; rfl, by rw [cell_drew, cell_of_row _ _ _ _ _ _ hg7]; rfl, by rw [cell_drew, cell_of_row _ _ _ _ _ _ hg7]; rfl, by rw [cell_drew, cell_of_row _ _ _ _ _ _ hg7]; rfl, by rw [cell_drew, cell_of_row _ _ _ _ _ _ hg7]; rfl, by rw [cell_drew, cell_of_row _ _ _ _ _ _ hg7]; rfl, by rw [cell_drew, cell_of_row _ _ _ _ _ _ hg7]; rfl, by rw [cell_drew, cell_of_row _ _ _ _ _ _ hg7]; rfl, (Below.refl _ w7).drew⟩
        have HBEL := Lib.hid bel
        have HCE := Lib.hid (fun W (hW : S W) => show Calls Tryd.prog 19 #[.agg #[.string k, .string va, .int .i64 st, .string rs, .int .i64 mi, .slice p L.length c, .slice x l.length y, .int .i64 a, .int .i64 g]] W fun e w' => ∃ pL cL pl cl, e = .returned (.agg #[.string k, .string va, .int .i64 st, .string rs, .int .i64 mi, .slice pL L.length cL, .slice pl l.length cl, .int .i64 a, .int .i64 g]) ∧ In2 w' pL L ∧ S w' from
          (copyEntry_any k va st rs mi a g L p _ c rfl (by omega) l x _ y rfl (by omega) W ((hin.below hB7).below (bel W hW)) ((h8.below hB7).below (bel W hW))).mono fun _ w' ⟨v1, v2, h1, h2, h3, h4⟩ => by
            obtain ⟨pL, cL, rfl, _, _, hi, _⟩ := Own2.shape h2 rfl
            obtain ⟨pl, cl, rfl, _, _, _⟩ := h3.in8n rfl
            exact ⟨pL, cL, pl, cl, h1, hi, step _ _ hW h4⟩)
        have HMT := Lib.hid (fun W pL cL pl cl (hW : S W) (hi : In2 W pL L) => show Calls Tryd.prog 20 #[.agg #[.string k, .string va, .int .i64 st, .string rs, .int .i64 mi, .slice pL L.length cL, .slice pl l.length cl, .int .i64 a, .int .i64 g], .slice pm M.length cm] W fun e w' => e = .returned (.bool mb) ∧ S w' by
          have := matches_any k va st rs mi a g L pL _ cL rfl pl l.length cl M pm _ cm rfl (by omega) hbM W hi (hinM.below (bel W hW))
          rw [hmm] at this
          exact this.mono fun _ _ ⟨h1, h2⟩ => ⟨h1, step _ _ hW h2⟩)
        have HCF := Lib.hid (fun W (hW : S W) => show Calls Tryd.prog 11 #[.slice (some ⟨b9, o9, none⟩) A.length ca] W fun e w' => ∃ p' c', e = .returned (.slice p' A.length c') ∧ In2 w' p' A ∧ (∀ pL, In2 W pL L → In2 w' pL L) ∧ S w' from
          (copyFields_any A _ _ ca rfl (by omega) W ((hA.below hB7).below (bel W hW))).mono fun _ w' ⟨v, h1, h2, h3⟩ => by
            obtain ⟨p', c', rfl, _, _, hi, _⟩ := Own2.shape h2 rfl
            exact ⟨p', c', h1, hi, fun _ h => h.below h3, step _ _ hW h3⟩)
        have HMT2 := Lib.hid (fun W pL cL pl cl p' c' (hW : S W) (hi : In2 W pL L) (hi2 : In2 W p' A) => show Calls Tryd.prog 20 #[.agg #[.string k, .string va, .int .i64 st, .string rs, .int .i64 mi, .slice pL L.length cL, .slice pl l.length cl, .int .i64 a, .int .i64 g], .slice p' A.length c'] W fun e w' => e = .returned (.bool mb) ∧ S w' by
          have := matches_any k va st rs mi a g L pL _ cL rfl pl l.length cl A p' _ c' rfl (by omega) (by omega) W hi hi2
          rw [← hmb] at this
          exact this.mono fun _ _ ⟨h1, h2⟩ => ⟨h1, step _ _ hW h2⟩)
        have HSS := Lib.hid (fun W => show S W ↔ W.cell? ⟨w.heap.size, 0, none⟩ = some (.string k) ∧ W.cell? ⟨w.heap.size, 1, none⟩ = some (.string va) ∧ W.cell? ⟨w.heap.size, 2, none⟩ = some (.int .i64 st) ∧ W.cell? ⟨w.heap.size, 3, none⟩ = some (.string rs) ∧ W.cell? ⟨w.heap.size, 4, none⟩ = some (.int .i64 mi) ∧ W.cell? ⟨w.heap.size, 5, none⟩ = some (.slice p L.length c) ∧ W.cell? ⟨w.heap.size, 6, none⟩ = some (.slice x l.length y) ∧ W.cell? ⟨w.heap.size, 7, none⟩ = some (.int .i64 a) ∧ W.cell? ⟨w.heap.size, 8, none⟩ = some (.int .i64 g) ∧ Below w7.heap.size w7 W by rw [hS])
        have HK0 := Lib.hid hS0
        have qmb : (mb == mb) = true := by simp
        have HB7 := Lib.hid hB7
        clear step bel hS hS0 hMe hbM hmm hmb hg7 hB7 hinM
        go_wp2_with fail
        go_region_held3 (fun W => W.cell? ⟨w.heap.size, 0, none⟩ = some (.string k) ∧ W.cell? ⟨w.heap.size, 1, none⟩ = some (.string va) ∧ W.cell? ⟨w.heap.size, 2, none⟩ = some (.int .i64 st) ∧ W.cell? ⟨w.heap.size, 3, none⟩ = some (.string rs) ∧ W.cell? ⟨w.heap.size, 4, none⟩ = some (.int .i64 mi) ∧ W.cell? ⟨w.heap.size, 5, none⟩ = some (.slice p L.length c) ∧ W.cell? ⟨w.heap.size, 6, none⟩ = some (.slice x l.length y) ∧ W.cell? ⟨w.heap.size, 7, none⟩ = some (.int .i64 a) ∧ W.cell? ⟨w.heap.size, 8, none⟩ = some (.int .i64 g) ∧ Below w7.heap.size w7 W)
          (first | (with_reducible exact (HSS.out _).1 HK0.out) | (with_reducible exact (HSS.out _).1 HK1.out) | (with_reducible exact (HSS.out _).1 HK2.out) | (with_reducible exact (HSS.out _).1 HK3.out) | (with_reducible exact (HSS.out _).1 HK4.out) | (with_reducible exact (HSS.out _).1 HK5.out))
          (first
            | (go_at_call 19; first
                | (with_reducible refine (HCE.out _ HK0.out).mono ?_; rintro e r1 ⟨p1, c1, x1, y1, rfl, hi, hk⟩; have HI1 := Lib.hid hi; have HK1 := Lib.hid hk; clear hi hk)
                | (with_reducible refine (HCE.out _ HK2.out).mono ?_; rintro e r3 ⟨p3, c3, x3, y3, rfl, hi, hk⟩; have HI3 := Lib.hid hi; have HK3 := Lib.hid hk; clear hi hk))
            | (go_at_call 11; with_reducible refine (HCF.out _ HK3.out).mono ?_; rintro e r4 ⟨p', c', rfl, hcp, hst, hk⟩; have HI4 := Lib.hid (hst _ HI3.out); have HCP := Lib.hid hcp; have HK4 := Lib.hid hk; clear hcp hst hk)
            | (go_at_call 20; first
                | (with_reducible refine (HMT.out _ _ _ _ _ HK1.out HI1.out).mono ?_; rintro e r2 ⟨rfl, hk⟩; have HK2 := Lib.hid hk; clear hk)
                | (with_reducible refine (HMT2.out _ _ _ _ _ _ _ HK4.out HI4.out HCP.out).mono ?_; rintro e r5 ⟨rfl, hk⟩; have HK5 := Lib.hid hk; clear hk)))
        all_goals
          have hB9 := HB7.out.trans ((HBEL.out _ HK5.out).mono HB7.out.size)
          go_wp2_with fail
          go_ret
          exact ⟨rfl, hB9⟩
end Go.Proofs.YtnibecboimgljaaDoor
