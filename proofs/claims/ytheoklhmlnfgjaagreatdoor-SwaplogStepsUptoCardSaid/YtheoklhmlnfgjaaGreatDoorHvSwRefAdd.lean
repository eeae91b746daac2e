/-
  The document's Add.
-/
import Derived.Test.YtheoklhmlnfgjaaGreatDoorPk7
import Derived.Test.YtheoklhmlnfgjaaGreatDoorPk2
namespace Go.Proofs.YtheoklhmlnfgjaaGreatDoor
open Go.RowKit Go.Maps
set_option linter.unusedVariables false

theorem add_steps {B : Pl} {n op no : Int} {id : BS} (hz : encErr n op no id.length = 0) {A' : Pl} {k : Nat} {z : Int} (h : stepsP B [.append logN (encOf n op no id), .sync logN] = (A', k, z)) :
    addP B n op no id = (A', if 1 ≤ k then n + 1 else n, z) := by
  unfold addP
  rw [if_neg (by rw [hz]; simp)]
  unfold stepsP at h
  split at h
  · rename_i h1
    rw [if_pos h1]
    injection h with e1 e2
    injection e2 with e2 e3
    subst e1 e2 e3
    rfl
  · rename_i h1
    rw [if_neg h1]
    injection h with e1 e2
    injection e2 with e2 e3
    subst e1 e2 e3
    rw [if_pos (by omega)]
    unfold stepsP
    split
    · rfl
    · rename_i h2
      have : (doP (doP B (.append logN (encOf n op no id))).1 (.sync logN)).2 = 0 := by simpa using h2
      rw [this]
      rfl

set_option maxRecDepth 100000 in
set_option maxHeartbeats 8000000 in
theorem refAdd_any (P : Nat → Prop) (r : RC) (B : Pl) (n : Int) (op no : Int) (id : ByteArray) {g : Nat} (hB : GoodS g B) (hg : g ≤ 980000) (hn0 : 0 ≤ n) (hn1 : n ≤ 1000000000000) (w : World) (hP : ∀ g, P g → g < w.heap.size) (h : RefP P w r B) :
    Calls Tryz.prog 25 #[.agg (lgC r B n), .int .i64 op, .int .i64 no, .string id] w fun e w' => ∃ r', e = .returned (.tuple #[.agg (lgC r' (addP B n op no id.data.toList).1 (addP B n op no id.data.toList).2.1), .int .i64 (addP B n op no id.data.toList).2.2]) ∧ RefP P w' r' (addP B n op no id.data.toList).1 ∧ Below w.heap.size w w' := by
  obtain ⟨w1, hw1⟩ : ∃ x, x = (w.alloc (.cells (lgC r B n) 58)).alloc (.cells #[.slice none 0 0, .slice none 0 0, .slice none 0 0, .slice none 0 0, .slice none 0 0, .int .i64 0, .slice none 0 0, .int .i64 0, .int .i64 0, .int .i64 0] 58) := ⟨_, rfl⟩
  have hst : LSt w P r B n w1 := by rw [hw1]; exact LSt.start h
  rw [lgC_eq] at hw1
  have hen := refEnc_any n op no id w1
  have HW := Lib.hid (And.intro hw1 hst)
  have HAP := Lib.hid (And.intro (fun (hz : encErr n op no id.size = 0) (A' : Pl) (k : Nat) (z : Int) (hs : stepsP B [.append logN (encOf n op no id.data.toList), .sync logN] = (A', k, z)) => add_steps (B := B) (n := n) (op := op) (no := no) (id := id.data.toList) (by rw [size_list]; exact hz) hs) (fun (hz : encErr n op no id.size ≠ 0) => show addP B n op no id.data.toList = (B, n, encErr n op no id.size) by unfold addP; rw [size_list, if_pos hz]))
  rw [hw1] at hen
  clear hw1 hst
  rw [lgC_eq r B n]
  go_enter Tryz.func25, Tryz.ntmps25
  go_wp2_with fail
  refine hen.mono ?_
  rw [← HW.out.1]
  rintro e w2 ⟨v, rfl, hown, hb2⟩
  have hst := HW.out.2.below hb2
  obtain ⟨z, hz⟩ : ∃ z, z = encErr n op no id.size := ⟨_, rfl⟩
  rw [← hz] at HAP ⊢
  have hs := hst.s
  have hzz := hst.z
  rw [lgC_eq] at hs
  obtain ⟨a0, a1, a2, a3, a4, a5, a6, a7, a8, a9, af⟩ := lg10v hs
  obtain ⟨z0, z1, z2, z3, z4, z5, z6, z7, z8, z9, zf⟩ := lg10v hzz
  have hlen := encOf_length n op no id.data.toList
  obtain ⟨bl, hbl⟩ : ∃ bl, bl = encOf n op no id.data.toList := ⟨_, rfl⟩
  rw [← hbl] at hown HAP hlen
  obtain ⟨q, c, e, hmc, hcm, hin, _⟩ := hown.shape
  obtain ⟨m, hm⟩ : ∃ m, m = bl.length := ⟨_, rfl⟩
  rw [← hm] at e hlen hmc
  subst e
  have H := Lib.hid (And.intro hst (And.intro hin hm))
  clear hs hzz hst hown hen hb2 hz hin hm
  by_cases hz : z = 0
  · rw [hz]
    have HZ := Lib.hid hz
    clear hz
    have hops : ∀ W, Below w2.heap.size w2 W → W.heap[w2.heap.size]? = some (.cells #[.int .i64 2, .string ⟨#[108, 111, 103]⟩, .string ⟨#[]⟩, .slice q m c, .int .i64 3, .string ⟨#[108, 111, 103]⟩, .string ⟨#[]⟩, .slice none 0 0] 104 (0, 0)) → InOps W (some ⟨w2.heap.size, 0, none⟩) [(2, logN, [], bl), (3, logN, [], [])] := fun W hb hx => InOps.row hx _ fun k hk => by
      rcases k with _ | _ | k
      · exact ⟨⟨#[108, 111, 103]⟩, ⟨#[]⟩, q, c, rfl, rfl, rfl, by rw [H.out.2.2]; rfl, rfl, rfl, H.out.2.1.below hb⟩
      · exact ⟨⟨#[108, 111, 103]⟩, ⟨#[]⟩, none, 0, rfl, rfl, rfl, rfl, rfl, rfl, fun h => absurd h (by simp)⟩
      · exact absurd hk (by simp only [List.length_cons, List.length_nil]; omega)
    obtain ⟨w3, hw3⟩ : ∃ x, x = w2.alloc (.cells #[.int .i64 2, .string ⟨#[108, 111, 103]⟩, .string ⟨#[]⟩, .slice q m c, .int .i64 3, .string ⟨#[108, 111, 103]⟩, .string ⟨#[]⟩, .slice none 0 0] 104) := ⟨_, rfl⟩
    have hb3 : Below w2.heap.size w2 w3 := by rw [hw3]; exact (Below.refl _ w2).alloc (Nat.le_refl _) _
    have hst3 := H.out.1.below hb3
    have hsteps := refSteps_any _ [(2, logN, [], bl), (3, logN, [], [])] 2 2 rfl (by omega) (some ⟨w2.heap.size, 0, none⟩) r B hB (by omega) w3 (hst3.lt hP) hst3.rp (hops w3 hb3 (by rw [hw3]; exact heap_alloc_new w2 _)) (fun x hx => by
      rcases List.mem_cons.1 hx with rfl | hx
      · exact ⟨⟨show (1 : Int) ≤ 2 by decide, show (2 : Int) ≤ 6 by decide⟩, show logN.length + ([] : BS).length + bl.length ≤ 1000000000 by have := H.out.2.2; have h3 : logN.length = 3 := rfl; rw [h3, List.length_nil]; omega⟩
      · rw [List.mem_singleton.1 hx]
        exact ⟨⟨show (1 : Int) ≤ 3 by decide, show (3 : Int) ≤ 6 by decide⟩, show logN.length + ([] : BS).length + ([] : BS).length ≤ 1000000000 by decide⟩)
    have hcs : stepsP B (opsL [(2, logN, [], bl), (3, logN, [], [])]) = stepsP B [.append logN bl, .sync logN] := rfl
    rw [hcs] at hsteps
    obtain ⟨⟨A', k, ez⟩, hS⟩ : ∃ X, stepsP B [.append logN bl, .sync logN] = X := ⟨_, rfl⟩
    rw [hS] at hsteps
    dsimp only at hsteps
    have HS := Lib.hid (And.intro hS (And.intro hw3 hst3))
    rw [stC_eq r B, hw3] at hsteps
    clear hcs hS hops hw3 hst3 hb3
    go_wp2_with fail
    refine hsteps.mono ?_
    rw [← HS.out.2.1]
    rintro e w4 ⟨r', rfl, hr4, hb4⟩
    rw [stC_eq r' A']
    clear hsteps
    have HR4 := Lib.hid (And.intro hr4 hb4)
    clear hr4 hb4 a0 a1 a2 a3 a4 a5 a6 a7 a8 a9 af z0 z1 z2 z3 z4 z5 z6 z7 z8 z9 zf
    dsimp only
    rename_i k1 hk1 k2 hk2
    have HK1 := Lib.hid hk1
    clear hk1
    refine hk2 _ _ ?_
    clear hk2
    go_wp2_with fail
    obtain ⟨w5, hw5⟩ : ∃ x, x = w4.alloc (.cells (stC r' A') 51) := ⟨_, rfl⟩
    have hb5 : Below w4.heap.size w4 w5 := by rw [hw5]; exact (Below.refl _ w4).alloc (Nat.le_refl _) _
    have hx5 : w5.heap[w4.heap.size]? = some (.cells (stC r' A') 51 (0, 0)) := by rw [hw5]; exact heap_alloc_new w4 _
    rw [stC_eq] at hw5 hx5
    rw [← hw5]
    have hbw5 := HR4.out.2.trans (hb5.mono HR4.out.2.size)
    have hst5 := HS.out.2.2.below hbw5
    have HP0 := Lib.hid (HS.out.2.2.put hbw5 (HR4.out.1.below hb5))
    have hs5 := hst5.s
    rw [lgC_eq] at hs5
    obtain ⟨d0, d1, d2, d3, d4, d5, d6, d7, d8, d9, df⟩ := lg10v hs5
    obtain ⟨n0, n1, n2, n3, n4, n5, n6, n7, n8, nf⟩ := st9v hx5
    clear hw5 hb5 hx5 hbw5 hst5 hs5 nf
    refine HK1.out _ _ ?_
    refine wp_seq_k ?_
    intro K5 hK5
    have HK5 := Lib.hid hK5
    clear hK5
    go_wp2_with fail
    obtain ⟨wx, hwx⟩ : ∃ x, x = put9 w5 w.heap.size (.slice r'.p1 A'.now.length r'.c1) (.slice r'.p2 A'.safe.length r'.c2) (.slice r'.p3 A'.pend.length r'.c3) (.slice r'.p4 A'.files.length r'.c4) (.slice r'.p5 A'.files.length r'.c5) (.int .i64 (A'.room : Int)) (.slice r'.p6 A'.fails.length r'.c6) (.int .i64 A'.power) (.int .i64 (A'.steps : Int)) := ⟨_, rfl⟩
    have HP := Lib.hid HP0.out
    rw [← hwx] at HP
    unfold put9 at hwx
    rw [← hwx]
    clear hwx HP0 d0 d1 d2 d3 d4 d5 d6 d7 d8 d9 df n0 n1 n2 n3 n4 n5 n6 n7 n8
    refine HK5.out _ _ ?_
    have hs3 := HP.out.s
    have hz3 := HP.out.z
    have hs5 := (HP.out.cnt (n + 1)).s
    have hz5 := (HP.out.cnt (n + 1)).z
    rw [lgC_eq] at hs3 hs5
    by_cases hk : 1 ≤ k
    · obtain ⟨e0, e1, e2, e3, e4, e5, e6, e7, e8, e9, ef⟩ := lg10v hs3
      obtain ⟨f0, f1, f2, f3, f4, f5, f6, f7, f8, f9, ff⟩ := lg10v hs5
      obtain ⟨z0, z1, z2, z3, z4, z5, z6, z7, z8, z9, zf⟩ := lg10v hz5
      clear hs3 hz3 hs5 hz5
      have he := HAP.out.1 HZ.out A' k ez HS.out.1
      rw [if_pos hk] at he
      have HE := Lib.hid he
      clear he
      go_wp2_with fail
      refine bodyPost_ret (v := .tuple #[.agg (lgC r' A' (n + 1)), .int .i64 ez]) (by rw [lgC_eq]; simp [results, Tryz.results25, go_sem, z0, z1, z2, z3, z4, z5, z6, z7, z8, z9]) rfl ?_
      rw [HE.out]
      exact ⟨r', rfl, (HP.out.cnt (n + 1)).res _ _ _ _ _ _ _ _ _ _⟩
    · obtain ⟨e0, e1, e2, e3, e4, e5, e6, e7, e8, e9, ef⟩ := lg10v hs3
      obtain ⟨z0, z1, z2, z3, z4, z5, z6, z7, z8, z9, zf⟩ := lg10v hz3
      clear hs3 hz3 hs5 hz5
      have he := HAP.out.1 HZ.out A' k ez HS.out.1
      rw [if_neg hk] at he
      have HE := Lib.hid he
      clear he
      go_wp2_with fail
      refine bodyPost_ret (v := .tuple #[.agg (lgC r' A' n), .int .i64 ez]) (by rw [lgC_eq]; simp [results, Tryz.results25, go_sem, z0, z1, z2, z3, z4, z5, z6, z7, z8, z9]) rfl ?_
      rw [HE.out]
      exact ⟨r', rfl, HP.out.res _ _ _ _ _ _ _ _ _ _⟩
  · have q1 : (z == 0) = false := beq_eq_false_iff_ne.2 hz
    have q2 : (z != 0) = true := by simp [bne, q1]
    have HZ := Lib.hid hz
    clear hz
    go_wp2_with fail
    refine bodyPost_ret (v := .tuple #[.agg (lgC r B n), .int .i64 z]) (by rw [lgC_eq]; simp [results, Tryz.results25, go_sem, z0, z1, z2, z3, z4, z5, z6, z7, z8, z9]) rfl ?_
    rw [HAP.out.2 HZ.out]
    exact ⟨r, rfl, H.out.1.res _ _ _ _ _ _ _ _ _ _⟩
end Go.Proofs.YtheoklhmlnfgjaaGreatDoor
