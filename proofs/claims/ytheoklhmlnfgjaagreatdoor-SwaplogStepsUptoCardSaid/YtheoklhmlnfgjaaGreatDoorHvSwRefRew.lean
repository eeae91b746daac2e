/-
  The document's Rewrite.
-/
import Derived.Test.YtheoklhmlnfgjaaGreatDoorPk7
import Derived.Test.YtheoklhmlnfgjaaGreatDoorPk5
import Derived.Test.YtheoklhmlnfgjaaGreatDoorPk2
import Derived.Test.YtheoklhmlnfgjaaGreatDoorPk6
namespace Go.Proofs.YtheoklhmlnfgjaaGreatDoor
open Go.RowKit Go.Maps
set_option linter.unusedVariables false

theorem encB_take (L : List Rcd) (k : Nat) : (encB (L.take k) 0).length ≤ (encB L 0).length := by
  conv => rhs; rw [← List.take_append_drop k L]
  rw [encB_app, List.length_append]
  omega
set_option maxRecDepth 100000 in
set_option maxHeartbeats 8000000 in
theorem refRewrite_any (P : Nat → Prop) (r : RC) (B : Pl) (n : Int) (L : List Rcd) (p : Option Addr) (m c : Nat) (hL : L.length = m) (hm : m ≤ 10000000) (hen : (encB L 0).length ≤ 900000000) {g : Nat} (hB : GoodS g B) (hg : g ≤ 980000) (w : World) (hP : ∀ g, P g → g < w.heap.size) (h : RefP P w r B) (hin : InRc w p L) :
    Calls Tryz.prog 23 #[.agg (lgC r B n), .slice p m c] w fun e w' => ∃ r', e = .returned (.tuple #[.agg (lgC r' (rewriteP B n L).1 (rewriteP B n L).2.1), .int .i64 (rewriteP B n L).2.2]) ∧ RefP P w' r' (rewriteP B n L).1 ∧ Below w.heap.size w w' := by
  subst hL
  obtain ⟨m, hLm⟩ : ∃ m, m = L.length := ⟨_, rfl⟩
  rw [← hLm] at hm ⊢
  have HLM := Lib.hid hLm
  clear hLm
  obtain ⟨w1, hw1⟩ : ∃ x, x = (w.alloc (.cells (lgC r B n) 58)).alloc (.cells #[.slice none 0 0, .slice none 0 0, .slice none 0 0, .slice none 0 0, .slice none 0 0, .int .i64 0, .slice none 0 0, .int .i64 0, .int .i64 0, .int .i64 0] 58) := ⟨_, rfl⟩
  have hst : LBx w r B n w1 := by rw [hw1]; exact LBx.start w r B n
  obtain ⟨w2, hw2⟩ : ∃ x, x = w1.alloc (.cells #[] 5) := ⟨_, rfl⟩
  have hb2 : Below w1.heap.size w1 w2 := by rw [hw2]; exact (Below.refl _ w1).alloc (Nat.le_refl _) _
  have hmade : Own8 w2 w1.heap.size (.slice (some ⟨w1.heap.size, 0, none⟩) 0 0) [] := by rw [hw2]; exact Own8.made w1
  have hs1 : w1.heap.size = w.heap.size + 1 + 1 := by rw [hw1]; simp
  have hT0 := And.intro (hst.below hb2) (hmade.mono (Nat.le_of_eq hs1.symm))
  rw [hs1] at hT0
  rw [lgC_eq] at hw1
  rw [hw1] at hw2
  have HW := Lib.hid hw2
  clear hw1 hst hw2 hb2 hmade hs1
  rw [lgC_eq r B n]
  go_enter Tryz.func23, Tryz.ntmps23
  go_wp2_with fail
  rw [← HW.out]
  go_loopw [6, 7] (fun v i wr => ∃ (vp : Option Addr) (vn vc k : Nat), v = .slice vp vn vc ∧ i = .int .i64 k ∧ k ≤ m ∧ (encB (L.take k) 0).length = vn ∧ encZ (L.take k) 0 = 0 ∧ LBx w r B n wr ∧ Own8 wr (w.heap.size + 2) (.slice vp vn vc) (encB (L.take k) 0)) (fun _ i _ => m - (intOf i).toNat)
  case atStart => exact ⟨_, 0, 0, 0, rfl, rfl, Nat.zero_le _, rfl, rfl, hT0.1, hT0.2⟩
  case round =>
    obtain ⟨vp, vn, vc, k, rfl, rfl, hk, hvn, hz, hbx, hown⟩ := hrel
    clear hT0
    by_cases hlt : k < m
    · subst hvn
      have hltL : k < L.length := by rw [← HLM.out]; exact hlt
      obtain ⟨b, o, rfl, x, x0, x1, x2, x3, hx⟩ := (hin.below hbx.b).at hltL
      have hsn := encB_snoc hltL
      have hzs := encZ_snoc hltL hz
      have hza := encZ_at hltL hz
      have hbl := Nat.le_trans (encB_take L k) hen
      obtain ⟨rr, hrr⟩ : ∃ rr, rr = L[k] := ⟨_, rfl⟩
      rw [← hrr] at x0 x1 x2 hx hsn hzs hza
      obtain ⟨sq, op, no, id⟩ := rr
      dsimp only at x0 x1 x2 hx hsn hzs hza
      subst hx
      have hvb : (encB (L.take k) 0).length ≤ 900000000 := hbl
      have HCX := Lib.hid (fun W (hb : Below wr.heap.size wr W) => show W.cell? ⟨b, o + k * 4 + 1, none⟩ = some (.int .i64 op) ∧ W.cell? ⟨b, o + k * 4 + 2, none⟩ = some (.int .i64 no) ∧ W.cell? ⟨b, o + k * 4 + 3, none⟩ = some (.string x) from ⟨cell_keep x1 hb, cell_keep x2 hb, cell_keep x3 hb⟩)
      have HEN := Lib.hid (refEnc_any (k : Int) op no x wr.drew)
      have H := Lib.hid (And.intro hsn (And.intro hzs (And.intro hza (And.intro hbx hown))))
      have HK0 := Lib.hid (HCX.out _ (Below.refl _ wr))
      have HK1 := Lib.hid (HCX.out _ (Below.refl _ wr).drew)
      clear hsn hzs hza hbx hown hz hrr hbl x0 x1 x2 x3
      go_wp2_with fail
      go_region_held3 (fun W => W.cell? ⟨b, o + k * 4 + 1, none⟩ = some (.int .i64 op) ∧ W.cell? ⟨b, o + k * 4 + 2, none⟩ = some (.int .i64 no) ∧ W.cell? ⟨b, o + k * 4 + 3, none⟩ = some (.string x))
        (first | (with_reducible exact HK0.out) | (with_reducible exact HK1.out) | (with_reducible exact HK2.out))
        (first | (go_at_call 58; refine HEN.out.mono ?_; rintro e w3 ⟨v3, rfl, hown3, hb3⟩; have hbw := (Below.refl _ wr).drew.trans (hb3.mono (show wr.heap.size ≤ wr.drew.heap.size by simp)); have HK2 := Lib.hid (HCX.out _ hbw); have HE3 := Lib.hid (And.intro hown3 hbw); clear hown3 hb3 hbw))
      all_goals
        have hz1 : encErr (k : Int) op no x.size = encErr (k : Int) op no x.data.toList.length := by rw [size_list]
        obtain ⟨z, hz⟩ : ∃ z, z = encErr (k : Int) op no x.size := ⟨_, rfl⟩
        rw [← hz]
        rw [← hz] at hz1
        have hbx3 := H.out.2.2.2.1.below HE3.out.2
        by_cases h0 : z = 0
        · subst h0
          have hel := encOf_length (k : Int) op no x.data.toList
          obtain ⟨p3, c3, rfl, _, _, hin3, _⟩ := HE3.out.1.shape
          have HI := Lib.hid (And.intro hin3 (And.intro hel (And.intro hz1 (And.intro hbx3 (show w.heap.size + 2 ≤ w3.heap.size from hbx3.size)))))
          clear hz hz1 hin3 hel hbx3
          go_wp2_with (at_builtin; refine wpList_append8 rfl _ _ rfl (w.heap.size + 2) _ (encB (L.take k) 0) rfl (H.out.2.2.2.2.below HE3.out.2) _ _ _ _ rfl rfl HI.out.1 (by have := HI.out.2.1; omega) HI.out.2.2.2.2 ?_; intro v4 w4 hown4 hgrow4 _; have hX := hown4; obtain ⟨p4, c4, rfl, _, _, _⟩ := hown4.in8n List.length_append; have HX := Lib.hid (And.intro hX hgrow4); clear hX hgrow4 hown4)
          go_roundw
          case rel =>
            refine ⟨p4, _, c4, k + 1, rfl, by go_num, hlt, by rw [H.out.1, List.length_append], by rw [H.out.2.1, ← HI.out.2.2.1], HI.out.2.2.2.1.grown (H.out.2.2.2.2.below HE3.out.2) HX.out.2, ?_⟩
            rw [H.out.1]
            exact HX.out.1
          case measure => simp [intOf]; omega
        · have q1 : (z == 0) = false := beq_eq_false_iff_ne.2 h0
          have q2 : (z != 0) = true := by simp [bne, q1]
          have HA := Lib.hid (show rewriteP B n L = (B, n, z) by
            have h1 := H.out.2.2.1 (by rw [← hz1]; exact h0)
            unfold rewriteP
            rw [h1, ← hz1, if_pos h0])
          have hs3 := hbx3.s
          rw [lgC_eq] at hs3
          obtain ⟨e0, e1, e2, e3, e4, e5, e6, e7, e8, e9, ef⟩ := lg10v hs3
          obtain ⟨z0, z1, z2, z3, z4, z5, z6, z7, z8, z9, zf⟩ := lg10v hbx3.z
          have HL := Lib.hid (hbx3.lst h)
          clear hz hz1 h0 hs3 hbx3
          go_wp2_with fail
          refine bodyPost_ret (v := .tuple #[.agg (lgC r B n), .int .i64 z]) (by rw [lgC_eq]; simp [results, Tryz.results23, go_sem, z0, z1, z2, z3, z4, z5, z6, z7, z8, z9]) rfl ?_
          rw [HA.out]
          exact ⟨r, rfl, HL.out.res _ _ _ _ _ _ _ _ _ _⟩
    · obtain rfl : k = m := by omega
      have hk2 : L.take k = L := by rw [HLM.out, List.take_length]
      rw [hk2] at hvn hz hown
      have hbl : vn ≤ 900000000 := by rw [← hvn]; exact hen
      obtain ⟨q, cq, e, _, _, hin8, _⟩ := hown.shape
      injection e with e1 e2 e3
      subst e1 e3
      have hst := hbx.lst h
      have hs3 := hbx.s
      rw [lgC_eq] at hs3
      obtain ⟨a0, a1, a2, a3, a4, a5, a6, a7, a8, a9, af⟩ := lg10v hs3
      have hrs := fun (A' : Pl) (j : Nat) (ez : Int) hs => rew_steps (B := B) (n := n) (L := L) hz (A' := A') (k := j) (z := ez) hs
      obtain ⟨bl, hbe⟩ : ∃ bl, bl = encB L 0 := ⟨_, rfl⟩
      rw [← hbe] at hrs hvn hin8
      have HRS := Lib.hid hrs
      have H := Lib.hid (And.intro hst (And.intro hin8 hvn))
      clear hst hin8 hvn hz hs3 hbx hown e2 hrs hk2 hbe
      have hops : ∀ W, Below wr.heap.size wr W → W.heap[wr.heap.size]? = some (.cells #[.int .i64 1, .string ⟨#[108, 111, 103, 46, 110, 101, 119]⟩, .string ⟨#[]⟩, .slice none 0 0, .int .i64 2, .string ⟨#[108, 111, 103, 46, 110, 101, 119]⟩, .string ⟨#[]⟩, .slice vp vn vc, .int .i64 3, .string ⟨#[108, 111, 103, 46, 110, 101, 119]⟩, .string ⟨#[]⟩, .slice none 0 0, .int .i64 5, .string ⟨#[108, 111, 103, 46, 110, 101, 119]⟩, .string ⟨#[108, 111, 103]⟩, .slice none 0 0, .int .i64 4, .string ⟨#[]⟩, .string ⟨#[]⟩, .slice none 0 0] 104 (0, 0)) → InOps W (some ⟨wr.heap.size, 0, none⟩) [(1, newN, [], []), (2, newN, [], bl), (3, newN, [], []), (5, newN, logN, []), (4, [], [], [])] := fun W hb hx => InOps.row hx _ fun j hj => by
        rcases j with _ | _ | _ | _ | _ | j
        · exact ⟨⟨#[108, 111, 103, 46, 110, 101, 119]⟩, ⟨#[]⟩, none, 0, rfl, rfl, rfl, rfl, rfl, rfl, fun h => absurd h (by simp)⟩
        · exact ⟨⟨#[108, 111, 103, 46, 110, 101, 119]⟩, ⟨#[]⟩, vp, vc, rfl, rfl, rfl, by rw [← H.out.2.2]; rfl, rfl, rfl, H.out.2.1.below hb⟩
        · exact ⟨⟨#[108, 111, 103, 46, 110, 101, 119]⟩, ⟨#[]⟩, none, 0, rfl, rfl, rfl, rfl, rfl, rfl, fun h => absurd h (by simp)⟩
        · exact ⟨⟨#[108, 111, 103, 46, 110, 101, 119]⟩, ⟨#[108, 111, 103]⟩, none, 0, rfl, rfl, rfl, rfl, rfl, rfl, fun h => absurd h (by simp)⟩
        · exact ⟨⟨#[]⟩, ⟨#[]⟩, none, 0, rfl, rfl, rfl, rfl, rfl, rfl, fun h => absurd h (by simp)⟩
        · exact absurd hj (by simp only [List.length_cons, List.length_nil]; omega)
      obtain ⟨w3, hw3⟩ : ∃ x, x = wr.alloc (.cells #[.int .i64 1, .string ⟨#[108, 111, 103, 46, 110, 101, 119]⟩, .string ⟨#[]⟩, .slice none 0 0, .int .i64 2, .string ⟨#[108, 111, 103, 46, 110, 101, 119]⟩, .string ⟨#[]⟩, .slice vp vn vc, .int .i64 3, .string ⟨#[108, 111, 103, 46, 110, 101, 119]⟩, .string ⟨#[]⟩, .slice none 0 0, .int .i64 5, .string ⟨#[108, 111, 103, 46, 110, 101, 119]⟩, .string ⟨#[108, 111, 103]⟩, .slice none 0 0, .int .i64 4, .string ⟨#[]⟩, .string ⟨#[]⟩, .slice none 0 0] 104) := ⟨_, rfl⟩
      have hb3 : Below wr.heap.size wr w3 := by rw [hw3]; exact (Below.refl _ wr).alloc (Nat.le_refl _) _
      have hst3 := H.out.1.below hb3
      have hln : newN.length = 7 := rfl
      have hll : logN.length = 3 := rfl
      have hsteps := refSteps_any _ [(1, newN, [], []), (2, newN, [], bl), (3, newN, [], []), (5, newN, logN, []), (4, [], [], [])] 5 5 rfl (by omega) (some ⟨wr.heap.size, 0, none⟩) r B hB (by omega) w3 (hst3.lt hP) hst3.rp (hops w3 hb3 (by rw [hw3]; exact heap_alloc_new wr _)) (fun x hx => by
        have hv := H.out.2.2
        simp only [List.mem_cons, List.not_mem_nil, or_false] at hx
        rcases hx with rfl | rfl | rfl | rfl | rfl
        · exact ⟨⟨show (1 : Int) ≤ 1 by decide, show (1 : Int) ≤ 6 by decide⟩, by simp only [List.length_nil]; omega⟩
        · exact ⟨⟨show (1 : Int) ≤ 2 by decide, show (2 : Int) ≤ 6 by decide⟩, by simp only [List.length_nil]; omega⟩
        · exact ⟨⟨show (1 : Int) ≤ 3 by decide, show (3 : Int) ≤ 6 by decide⟩, by simp only [List.length_nil]; omega⟩
        · exact ⟨⟨show (1 : Int) ≤ 5 by decide, show (5 : Int) ≤ 6 by decide⟩, by simp only [List.length_nil]; omega⟩
        · exact ⟨⟨show (1 : Int) ≤ 4 by decide, show (4 : Int) ≤ 6 by decide⟩, by simp only [List.length_nil]; omega⟩)
      have hcs : stepsP B (opsL [(1, newN, [], []), (2, newN, [], bl), (3, newN, [], []), (5, newN, logN, []), (4, [], [], [])]) = stepsP B [.create newN, .append newN bl, .sync newN, .rename newN logN, .names] := rfl
      rw [hcs] at hsteps
      have hgA := GoodS.steps [.create newN, .append newN bl, .sync newN, .rename newN logN, .names] hB
      obtain ⟨⟨A', kk, ez⟩, hS⟩ : ∃ X, stepsP B [.create newN, .append newN bl, .sync newN, .rename newN logN, .names] = X := ⟨_, rfl⟩
      rw [hS] at hsteps hgA
      dsimp only at hsteps hgA
      have HS := Lib.hid (And.intro (HRS.out A' kk ez hS) (And.intro hw3 (And.intro hst3 hgA)))
      rw [stC_eq r B, hw3] at hsteps
      clear hcs hS hops hw3 hst3 hb3 hln hll hgA
      go_wp2_with fail
      refine hsteps.mono ?_
      rw [← HS.out.2.1]
      rintro e w4 ⟨r', rfl, hr4, hb4⟩
      rw [stC_eq r' A']
      clear hsteps
      have HR4 := Lib.hid (And.intro hr4 hb4)
      clear hr4 hb4 a0 a1 a2 a3 a4 a5 a6 a7 a8 a9 af
      dsimp only
      rename_i k1 hk1 k2 hk2
      have HK1 := Lib.hid hk1
      clear hk1
      refine hk2 _ _ ?_
      clear hk2
      go_wp2_with fail
      obtain ⟨w5, hw5⟩ : ∃ x, x = w4.alloc (.cells (stC r' A') 51) := ⟨_, rfl⟩
      have hb5 : Below w4.heap.size w4 w5 := by rw [hw5]; exact (Below.refl _ w4).alloc (Nat.le_refl _) _
      have hx5 : w5.heap[w4.heap.size]? = some (.cells (stC r' A') 51 (0, 0)) := by rw [hw5]; exact heap_alloc_new w4 _
      rw [stC_eq] at hw5 hx5
      rw [← hw5]
      have hbw5 := HR4.out.2.trans (hb5.mono HR4.out.2.size)
      have hst5 := HS.out.2.2.1.below hbw5
      have HP0 := Lib.hid (HS.out.2.2.1.put hbw5 (HR4.out.1.below hb5))
      have hs5 := hst5.s
      rw [lgC_eq] at hs5
      obtain ⟨d0, d1, d2, d3, d4, d5, d6, d7, d8, d9, df⟩ := lg10v hs5
      obtain ⟨n0, n1, n2, n3, n4, n5, n6, n7, n8, nf⟩ := st9v hx5
      clear hw5 hb5 hx5 hbw5 hst5 hs5 nf
      refine HK1.out _ _ ?_
      refine wp_seq_k ?_
      intro K5 hK5
      have HK5 := Lib.hid hK5
      clear hK5
      go_wp2_with fail
      obtain ⟨wx, hwx⟩ : ∃ x, x = put9 w5 w.heap.size (.slice r'.p1 A'.now.length r'.c1) (.slice r'.p2 A'.safe.length r'.c2) (.slice r'.p3 A'.pend.length r'.c3) (.slice r'.p4 A'.files.length r'.c4) (.slice r'.p5 A'.files.length r'.c5) (.int .i64 (A'.room : Int)) (.slice r'.p6 A'.fails.length r'.c6) (.int .i64 A'.power) (.int .i64 (A'.steps : Int)) := ⟨_, rfl⟩
      have HP := Lib.hid HP0.out
      rw [← hwx] at HP
      unfold put9 at hwx
      rw [← hwx]
      clear hwx HP0 d0 d1 d2 d3 d4 d5 d6 d7 d8 d9 df n0 n1 n2 n3 n4 n5 n6 n7 n8
      refine HK5.out _ _ ?_
      have hs3 := HP.out.s
      have hz3 := HP.out.z
      rw [lgC_eq] at hs3
      obtain ⟨e0, e1, e2, e3, e4, e5, e6, e7, e8, e9, ef⟩ := lg10v hs3
      by_cases hk4 : 4 ≤ kk
      · have hs5 := (HP.out.cnt (k : Int)).s
        have hz5 := (HP.out.cnt (k : Int)).z
        rw [lgC_eq] at hs5
        obtain ⟨f0, f1, f2, f3, f4, f5, f6, f7, f8, f9, ff⟩ := lg10v hs5
        obtain ⟨z0, z1, z2, z3, z4, z5, z6, z7, z8, z9, zf⟩ := lg10v hz5
        have he := HS.out.1.1 hk4
        rw [← HLM.out] at he
        have HE := Lib.hid he
        have h1k : 1 ≤ kk := by omega
        have h4k : ¬ kk < 4 := by omega
        clear hs3 hz3 hs5 hz5 he
        go_wp2_with fail
        refine bodyPost_ret (v := .tuple #[.agg (lgC r' A' (k : Int)), .int .i64 ez]) (by rw [lgC_eq]; simp [results, Tryz.results23, go_sem, z0, z1, z2, z3, z4, z5, z6, z7, z8, z9]) rfl ?_
        rw [HE.out]
        exact ⟨r', rfl, (HP.out.cnt (k : Int)).res _ _ _ _ _ _ _ _ _ _⟩
      · by_cases hk0 : kk = 0
        · subst hk0
          obtain ⟨z0, z1, z2, z3, z4, z5, z6, z7, z8, z9, zf⟩ := lg10v hz3
          have HE := Lib.hid (HS.out.1.2.1 rfl)
          clear hs3 hz3 hk4
          go_wp2_with fail
          refine bodyPost_ret (v := .tuple #[.agg (lgC r' A' n), .int .i64 ez]) (by rw [lgC_eq]; simp [results, Tryz.results23, go_sem, z0, z1, z2, z3, z4, z5, z6, z7, z8, z9]) rfl ?_
          rw [HE.out]
          exact ⟨r', rfl, HP.out.res _ _ _ _ _ _ _ _ _ _⟩
        · have HE := Lib.hid (HS.out.1.2.2 (by omega) (by omega))
          have h1k : 1 ≤ kk := by omega
          have h4k : kk < 4 := by omega
          clear hs3 hz3 hk0
          have hstp := refStep_any _ r' A' 6 ⟨#[108, 111, 103, 46, 110, 101, 119]⟩ ⟨#[]⟩ [] none 0 0 rfl wx (HP.out.lt hP) HP.out.rp (fun h => absurd h (by simp)) HS.out.2.2.2.good.inv (HS.out.2.2.2.fitP (by simp only [List.length_cons, List.length_nil]; omega)) (by decide) (by decide) (by omega)
          rw [show stepI 6 = 6 from rfl] at hstp
          have ho : opOf 6 (⟨#[108, 111, 103, 46, 110, 101, 119]⟩ : ByteArray).data.toList (⟨#[]⟩ : ByteArray).data.toList [] = .remove newN := rfl
          rw [ho] at hstp
          obtain ⟨A6, hA6⟩ : ∃ A6, A6 = (doP A' (.remove newN)).1 := ⟨_, rfl⟩
          have he := HE.out
          rw [← hA6] at he
          have HE6 := Lib.hid he
          have HSTP := Lib.hid hstp
          have HA6 := Lib.hid hA6
          rw [stC_eq r' A'] at hstp
          clear ho he hA6 HE
          go_wp2_with fail
          refine hstp.mono ?_
          rintro e w6 ⟨r6, rfl, hr6, hb6⟩
          rw [← HA6.out] at hr6 ⊢
          obtain ⟨z6, hz6⟩ : ∃ z6, z6 = (doP A' (.remove newN)).2 := ⟨_, rfl⟩
          rw [← hz6]
          rw [stC_eq r6 A6]
          have HR6 := Lib.hid (And.intro hr6 hb6)
          clear hstp hr6 hb6 hz6 e0 e1 e2 e3 e4 e5 e6 e7 e8 e9 ef
          dsimp only
          rename_i k0 hk0 hh k1 hk1 k2 hk2
          have HK0 := Lib.hid hk0
          have HK1' := Lib.hid hk1
          clear hk0 hk1
          refine hk2 _ _ ?_
          clear hk2
          go_wp2_with fail
          obtain ⟨w7, hw7⟩ : ∃ x, x = w6.alloc (.cells (stC r6 A6) 51) := ⟨_, rfl⟩
          have hb7 : Below w6.heap.size w6 w7 := by rw [hw7]; exact (Below.refl _ w6).alloc (Nat.le_refl _) _
          have hx7 : w7.heap[w6.heap.size]? = some (.cells (stC r6 A6) 51 (0, 0)) := by rw [hw7]; exact heap_alloc_new w6 _
          rw [stC_eq] at hw7 hx7
          rw [← hw7]
          have hbw7 := HR6.out.2.trans (hb7.mono HR6.out.2.size)
          have hst7 := HP.out.below hbw7
          have HP0 := Lib.hid (HP.out.put hbw7 (HR6.out.1.below hb7))
          have hs7 := hst7.s
          rw [lgC_eq] at hs7
          obtain ⟨d0, d1, d2, d3, d4, d5, d6, d7, d8, d9, df⟩ := lg10v hs7
          obtain ⟨n0, n1, n2, n3, n4, n5, n6, n7, n8, nf⟩ := st9v hx7
          clear hw7 hb7 hx7 hbw7 hst7 hs7 nf
          refine HK1'.out _ _ ?_
          go_wp2_with fail
          obtain ⟨wy, hwy⟩ : ∃ x, x = put9 w7 w.heap.size (.slice r6.p1 A6.now.length r6.c1) (.slice r6.p2 A6.safe.length r6.c2) (.slice r6.p3 A6.pend.length r6.c3) (.slice r6.p4 A6.files.length r6.c4) (.slice r6.p5 A6.files.length r6.c5) (.int .i64 (A6.room : Int)) (.slice r6.p6 A6.fails.length r6.c6) (.int .i64 A6.power) (.int .i64 (A6.steps : Int)) := ⟨_, rfl⟩
          have HQ := Lib.hid HP0.out
          rw [← hwy] at HQ
          unfold put9 at hwy
          rw [← hwy]
          clear hwy HP0 d0 d1 d2 d3 d4 d5 d6 d7 d8 d9 df n0 n1 n2 n3 n4 n5 n6 n7 n8
          refine HK0.out _ _ ?_
          have hs3 := HQ.out.s
          rw [lgC_eq] at hs3
          obtain ⟨e0, e1, e2, e3, e4, e5, e6, e7, e8, e9, ef⟩ := lg10v hs3
          obtain ⟨z0, z1, z2, z3, z4, z5, z6', z7, z8, z9, zf⟩ := lg10v HQ.out.z
          clear hs3
          go_wp2_with fail
          refine bodyPost_ret (v := .tuple #[.agg (lgC r6 A6 n), .int .i64 ez]) (by rw [lgC_eq]; simp [results, Tryz.results23, go_sem, z0, z1, z2, z3, z4, z5, z6', z7, z8, z9]) rfl ?_
          rw [HE6.out]
          exact ⟨r6, rfl, HQ.out.res _ _ _ _ _ _ _ _ _ _⟩
end Go.Proofs.YtheoklhmlnfgjaaGreatDoor
