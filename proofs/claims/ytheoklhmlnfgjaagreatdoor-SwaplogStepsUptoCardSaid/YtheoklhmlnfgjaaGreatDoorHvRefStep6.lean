/-
  The document's disk: Step: Remove.
-/
import Derived.Test.YtheoklhmlnfgjaaGreatDoorPk5
namespace Go.Proofs.YtheoklhmlnfgjaaGreatDoor
open Go.RowKit Go.Maps
set_option linter.unusedVariables false

set_option maxRecDepth 100000 in
set_option maxHeartbeats 4000000 in
theorem refStep6_any (P : Nat → Prop) (r : RC) (A : Pl) (na nb : ByteArray) (l : BS) (q : Option Addr) (n c : Nat) (hn : l.length = n) (w : World) (hP : ∀ g, P g → g < w.heap.size) (h : RefP P w r A) (hin : In8 w q l) (hI : Inv A) (hfit : FitP A) (hna : na.size ≤ 140737488351232) (hnb : nb.size ≤ 140737488351232) (hl : n ≤ 1000000000) :
    Calls Tryz.prog 51 #[.agg (stC r A), .agg #[.int .i64 6, .string na, .string nb, .slice q n c]] w (RStep P w A (opOf 6 na.data.toList nb.data.toList l)) := by
  show Calls Tryz.prog 51 #[.agg #[.slice r.p1 A.now.length r.c1, .slice r.p2 A.safe.length r.c2, .slice r.p3 A.pend.length r.c3, .slice r.p4 A.files.length r.c4, .slice r.p5 A.files.length r.c5, .int .i64 (A.room : Int), .slice r.p6 A.fails.length r.c6, .int .i64 A.power, .int .i64 (A.steps : Int)], .agg #[.int .i64 6, .string na, .string nb, .slice q n c]] w _
  have hdn := fun W => refDown_any r A W
  unfold stC at hdn
  obtain ⟨wa, hwa⟩ : ∃ x, x = ((w.alloc (.cells #[.slice r.p1 A.now.length r.c1, .slice r.p2 A.safe.length r.c2, .slice r.p3 A.pend.length r.c3, .slice r.p4 A.files.length r.c4, .slice r.p5 A.files.length r.c5, .int .i64 (A.room : Int), .slice r.p6 A.fails.length r.c6, .int .i64 A.power, .int .i64 (A.steps : Int)] 51)).alloc (.cells #[.int .i64 6, .string na, .string nb, .slice q n c] 104)).alloc (.cells #[.slice none 0 0, .slice none 0 0, .slice none 0 0, .slice none 0 0, .slice none 0 0, .int .i64 0, .slice none 0 0, .int .i64 0, .int .i64 0] 51) := ⟨_, rfl⟩
  have hfr : Fr w wa #[.slice r.p1 A.now.length r.c1, .slice r.p2 A.safe.length r.c2, .slice r.p3 A.pend.length r.c3, .slice r.p4 A.files.length r.c4, .slice r.p5 A.files.length r.c5, .int .i64 (A.room : Int), .slice r.p6 A.fails.length r.c6, .int .i64 A.power, .int .i64 (A.steps : Int)] #[.int .i64 6, .string na, .string nb, .slice q n c] := by rw [hwa]; exact Fr.start _ _ _
  have HW := Lib.hid hwa
  obtain ⟨g0, hm0, hr0⟩ := id h
  have HG0 := Lib.hid (And.intro hm0 hr0)
  have HFR := Lib.hid (And.intro hfr h)
  clear hwa hfr h hm0 hr0
  cases hdown : downP A with
  | true =>
    rw [hdown] at hdn
    have HD := Lib.hid (show ∀ o, doP A o = (A, 93) from fun o => by
      have hb : ∀ L, begP A L = 93 := fun L => by unfold begP; rw [if_pos hdown]
      have ht : tickP A = A := by unfold tickP; rw [if_pos hdown]
      have ho : ∀ L k, onP A L k = 93 := fun L k => by unfold onP; rw [hb, if_pos (by decide)]
      cases o with
      | create k => rw [doP_create, hb, if_pos (by decide), ht]
      | append k d => rw [doP_append, ho, if_pos (by decide), ht]
      | sync k => rw [doP_sync, ho, if_pos (by decide), ht]
      | names => rw [doP_names, hb, if_pos (by decide), ht]
      | rename a b => rw [doP_rename, ho, if_pos (by decide), ht]
      | remove k => rw [doP_remove, ho, if_pos (by decide), ht])
    clear hdown
    go_enter Tryz.func51, Tryz.ntmps51
    go_wp2_with fail
    refine (hdn _).mono ?_
    rw [← HW.out]
    rintro e w1 ⟨rfl, hb1⟩
    have hf1 := HFR.out.1.below hb1
    obtain ⟨a0, a1, a2, a3, a4, a5, a6, a7, a8, af⟩ := st9v hf1.s
    obtain ⟨z0, z1, z2, z3, z4, z5, z6, z7, z8, zf⟩ := st9v hf1.z
    have H1 := Lib.hid hf1
    clear hf1 hb1 hdn
    go_wp2_with fail
    refine bodyPost_ret (v := .tuple #[.agg #[.slice r.p1 A.now.length r.c1, .slice r.p2 A.safe.length r.c2, .slice r.p3 A.pend.length r.c3, .slice r.p4 A.files.length r.c4, .slice r.p5 A.files.length r.c5, .int .i64 (A.room : Int), .slice r.p6 A.fails.length r.c6, .int .i64 A.power, .int .i64 (A.steps : Int)], .int .i64 93]) (by simp [results, Tryz.results51, go_sem, z0, z1, z2, z3, z4, z5, z6, z7, z8]) rfl ?_
    exact RStep.same HFR.out.2 H1.out.b (HD.out _) _ _ _ _ _ _ _ _ _
  | false =>
    rw [hdown] at hdn
    have htick : tickP A = tk A := by unfold tickP tk; rw [if_neg (by rw [hdown]; simp)]
    have hst : A.steps ≤ 1000000 := hfit.steps
    have HT := Lib.hid (And.intro htick hdown)
    clear hdown htick
    go_enter Tryz.func51, Tryz.ntmps51
    go_wp2_with fail
    refine (hdn _).mono ?_
    rw [← HW.out]
    rintro e w1 ⟨rfl, hb1⟩
    have hf1 := HFR.out.1.below hb1
    obtain ⟨a0, a1, a2, a3, a4, a5, a6, a7, a8, af⟩ := st9v hf1.s
    have hf2 := hf1.set 8 (.int .i64 ((A.steps : Int) + 1))
    obtain ⟨w2, hw2⟩ : ∃ x, x = w1.setCell ⟨w.heap.size, 8, none⟩ (.int .i64 ((A.steps : Int) + 1)) := ⟨_, rfl⟩
    rw [← hw2] at hf2
    have HW2 := Lib.hid hw2
    have H2 := Lib.hid hf2
    clear hw2 hf1 hf2 hb1 hdn
    have HRB := Lib.hid (HFR.out.2.parts (A' := tk A) fun g _ hg => hg.steps _)
    have HCB := Lib.hid (show A.fails.contains ((A.steps : Int) + 1) = true → ∀ o, doP A o = (tk A, 94) from fun hc o => by
      have hb : ∀ L, begP A L = 94 := fun L => by unfold begP; rw [if_neg (by rw [HT.out.2]; simp), if_pos hc]
      have ho : ∀ L k, onP A L k = 94 := fun L k => by unfold onP; rw [hb, if_pos (by decide)]
      have ht := HT.out.1
      cases o with
      | create k => rw [doP_create, hb, if_pos (by decide), ht]
      | append k d => rw [doP_append, ho, if_pos (by decide), ht]
      | sync k => rw [doP_sync, ho, if_pos (by decide), ht]
      | names => rw [doP_names, hb, if_pos (by decide), ht]
      | rename a b => rw [doP_rename, ho, if_pos (by decide), ht]
      | remove k => rw [doP_remove, ho, if_pos (by decide), ht])
    have hfl := hfit.fails
    go_wp2_with fail
    rw [← HW2.out]
    go_loopw [6] (fun i wr => ∃ k : Nat, k ≤ A.fails.length ∧ i = .int .i64 k ∧ (A.fails.take k).contains ((A.steps : Int) + 1) = false ∧ Below w2.heap.size w2 wr) (fun i _ => A.fails.length - (intOf i).toNat)
    case atStart => exact ⟨0, Nat.zero_le _, rfl, rfl, Below.refl _ _⟩
    case round =>
      obtain ⟨k, hk, rfl, hno, hb⟩ := hrel
      have hfr := H2.out.below hb
      obtain ⟨a0, a1, a2, a3, a4, a5, a6, a7, a8, af⟩ := st9v hfr.s
      by_cases hlt : k < A.fails.length
      · obtain ⟨b, o, hp6, hc⟩ := ((HFR.out.2.plain.fails.below H2.out.b).below hb).at (k := k) (by simpa using hlt)
        have hx := hc k (by simpa using hlt)
        rw [List.getElem_map] at hx
        have HSN := Lib.hid (fun hne => contains_take hlt hno hne)
        have HAT := Lib.hid (fun he => contains_at (Z := A.fails) (k := k) (x := (A.steps : Int) + 1) hlt he)
        rw [hp6] at a6
        have HP6 := Lib.hid hp6
        clear hp6 hc hno
        generalize A.fails[k] = x at hx HSN HAT
        by_cases he : x = (A.steps : Int) + 1
        · have hq : (x == (A.steps : Int) + 1) = true := beq_iff_eq.2 he
          have HD := Lib.hid (HCB.out (HAT.out he))
          obtain ⟨z0, z1, z2, z3, z4, z5, z6, z7, z8, zf⟩ := st9v hfr.z
          have HH := Lib.hid (And.intro hfr hb)
          clear he hfr hb
          go_wp2_with fail
          go_quiet (fail)
          go_wp2_with fail
          have hfb := HH.out.1.b.trans ((bdrewN (Below.refl _ wr) nq).mono HH.out.1.b.size)
          refine bodyPost_ret (v := .tuple #[.agg #[.slice r.p1 A.now.length r.c1, .slice r.p2 A.safe.length r.c2, .slice r.p3 A.pend.length r.c3, .slice r.p4 A.files.length r.c4, .slice r.p5 A.files.length r.c5, .int .i64 (A.room : Int), .slice r.p6 A.fails.length r.c6, .int .i64 A.power, .int .i64 ((A.steps : Int) + 1)], .int .i64 94]) (by rw [HP6.out]; simp [results, Tryz.results51, go_sem, z0, z1, z2, z3, z4, z5, z6, z7, z8]) rfl ?_
          rw [HP6.out]
          have := RStep.same HRB.out hfb (HD.out (opOf 6 na.data.toList nb.data.toList l)) (.slice r.p1 A.now.length r.c1) (.slice r.p2 A.safe.length r.c2) (.slice r.p3 A.pend.length r.c3) (.slice r.p4 A.files.length r.c4) (.slice r.p5 A.files.length r.c5) (.int .i64 (A.room : Int)) (.slice r.p6 A.fails.length r.c6) (.int .i64 A.power) (.int .i64 ((A.steps : Int) + 1))
          unfold stC at this
          rw [HP6.out] at this
          exact this
        · have hq : (x == (A.steps : Int) + 1) = false := beq_eq_false_iff_ne.2 he
          have HNE := Lib.hid (HSN.out he)
          have HB := Lib.hid hb
          clear he hb hfr
          go_wp2_with fail
          go_quiet (fail)
          go_wp2_with fail
          go_roundw
          case rel => exact ⟨k + 1, by omega, by go_num, HNE.out, bdrewN HB.out _⟩
          case measure => simp [intOf]; omega
      · obtain rfl : k = A.fails.length := by omega
        rw [List.take_length] at hno
        have HBEG := Lib.hid (show ∀ L, begP A L = if L.any badN = true then 95 else 0 from fun L => by unfold begP; rw [if_neg (by rw [HT.out.2]; simp), if_neg (by rw [hno]; simp)])
        obtain ⟨wo, hwo⟩ : ∃ x, x = wr := ⟨_, rfl⟩
        subst hwo
        have HH := Lib.hid hfr
        obtain ⟨b0, b1, b2, b3⟩ := op4v hfr.o
        have hgA := fun W => refGood_any na W hna
        have hgB := fun W => refGood_any nb W hnb
        clear hno hfr hb
        have hat := fun W (hW : Below w.heap.size w W) => show Calls Tryz.prog 83 #[.agg #[.slice r.p1 A.now.length r.c1, .slice r.p2 A.safe.length r.c2, .slice r.p3 A.pend.length r.c3, .slice r.p4 A.files.length r.c4, .slice r.p5 A.files.length r.c5, .int .i64 (A.room : Int), .slice r.p6 A.fails.length r.c6, .int .i64 A.power, .int .i64 ((A.steps : Int) + 1)], .string na] W fun e w' => e = .returned (.int .i64 (atI A.now na.data.toList)) ∧ Below W.heap.size W w' from refAt_any r (tk A) na W (HFR.out.2.plain.now.below hW) hfit.now
        cases hg : goodN na.data.toList with
        | false =>
          rw [hg] at hgA
          have HD := Lib.hid (show doP A (opOf 6 na.data.toList nb.data.toList l) = (tk A, 95) from by
            have ho : onP A [] na.data.toList = 95 := by unfold onP; rw [HBEG.out]; simp [badN, hg]
            rw [show opOf 6 na.data.toList nb.data.toList l = .remove na.data.toList from rfl, doP_remove, ho, HT.out.1]
            simp)
          go_wp2_with fail
          refine (hgA _).mono ?_
          rintro e3 w3 ⟨rfl, hb3⟩
          have hf3 := HH.out.below hb3
          obtain ⟨a0, a1, a2, a3, a4, a5, a6, a7, a8, af⟩ := st9v hf3.s
          obtain ⟨b0, b1, b2, b3⟩ := op4v hf3.o
          obtain ⟨z0, z1, z2, z3, z4, z5, z6, z7, z8, zf⟩ := st9v hf3.z
          have H3 := Lib.hid hf3
          clear hf3 hb3 hgA hgB hat hg
          go_wp2_with fail
          refine bodyPost_ret (v := .tuple #[.agg #[.slice r.p1 A.now.length r.c1, .slice r.p2 A.safe.length r.c2, .slice r.p3 A.pend.length r.c3, .slice r.p4 A.files.length r.c4, .slice r.p5 A.files.length r.c5, .int .i64 (A.room : Int), .slice r.p6 A.fails.length r.c6, .int .i64 A.power, .int .i64 ((A.steps : Int) + 1)], .int .i64 95]) (by simp [results, Tryz.results51, go_sem, z0, z1, z2, z3, z4, z5, z6, z7, z8]) rfl ?_
          exact RStep.same HRB.out H3.out.b HD.out _ _ _ _ _ _ _ _ _
        | true =>
          rw [hg] at hgA
          go_wp2_with fail
          refine (hgA _).mono ?_
          rintro e3 w3 ⟨rfl, hb3⟩
          have hf3 := HH.out.below hb3
          obtain ⟨a0, a1, a2, a3, a4, a5, a6, a7, a8, af⟩ := st9v hf3.s
          obtain ⟨b0, b1, b2, b3⟩ := op4v hf3.o
          obtain ⟨z0, z1, z2, z3, z4, z5, z6, z7, z8, zf⟩ := st9v hf3.z
          have H3 := Lib.hid hf3
          have hat3 := hat w3 hf3.b
          clear hf3 hb3 hgA hgB hat
          go_wp2_with fail
          refine hat3.mono ?_
          rintro e4 w4 ⟨rfl, hb4⟩
          have hf4 := H3.out.below hb4
          obtain ⟨a0, a1, a2, a3, a4, a5, a6, a7, a8, af⟩ := st9v hf4.s
          obtain ⟨b0, b1, b2, b3⟩ := op4v hf4.o
          obtain ⟨z0, z1, z2, z3, z4, z5, z6, z7, z8, zf⟩ := st9v hf4.z
          have H4 := Lib.hid hf4
          clear hat3 hb4
          cases hk : lookN A.now na.data.toList with
          | none =>
            have hai : atI A.now na.data.toList = -1 := by unfold atI; rw [hk]
            rw [hai]
            have HD := Lib.hid (show doP A (opOf 6 na.data.toList nb.data.toList l) = (tk A, 90) from by
              have ho : onP A [] na.data.toList = 90 := by unfold onP; rw [HBEG.out, hk]; simp [badN, hg]
              rw [show opOf 6 na.data.toList nb.data.toList l = .remove na.data.toList from rfl, doP_remove, ho, HT.out.1]
              simp)
            clear hai hk hf4
            go_wp2_with fail
            refine bodyPost_ret (v := .tuple #[.agg #[.slice r.p1 A.now.length r.c1, .slice r.p2 A.safe.length r.c2, .slice r.p3 A.pend.length r.c3, .slice r.p4 A.files.length r.c4, .slice r.p5 A.files.length r.c5, .int .i64 (A.room : Int), .slice r.p6 A.fails.length r.c6, .int .i64 A.power, .int .i64 ((A.steps : Int) + 1)], .int .i64 90]) (by simp [results, Tryz.results51, go_sem, z0, z1, z2, z3, z4, z5, z6, z7, z8]) rfl ?_
            exact RStep.same HRB.out H4.out.b HD.out _ _ _ _ _ _ _ _ _
          | some f =>
            have hai : atI A.now na.data.toList = (f : Int) := by unfold atI; rw [hk]
            rw [hai]
            have hfl : f < A.files.length := hI.fnow _ (lookN_mem _ _ _ hk)
            have HON := Lib.hid (show onP A [] na.data.toList = 0 from by unfold onP; rw [HBEG.out, hk]; simp [badN, hg])
            have HAT := Lib.hid (show atP A na.data.toList = f from by unfold atP; rw [hk]; rfl)
            have hfp : (0 : Int) ≤ (f : Int) := by omega
            clear hai hk
            obtain ⟨X, hX⟩ : ∃ X, X = w4 := ⟨_, rfl⟩
            subst hX
            have hf10 := H4.out
            obtain ⟨M, hM⟩ : ∃ M, M = delN na.data.toList A.now := ⟨_, rfl⟩
            obtain ⟨vsP, hP1, hP2, hP3⟩ := HG0.out.2.pend
            have hP1 := hP1.keeps HG0.out.1.keeps
            have hPone : ∀ u ∈ vsP, u.oneCell' = true := fun u hu => by
              obtain ⟨i, hi, e⟩ := List.getElem_of_mem hu
              rw [← e]
              exact (hP3 i _ ((pendN A)[i]'(by rw [← hP2]; exact hi)) (List.getElem?_eq_getElem hi) (List.getElem?_eq_getElem (by rw [← hP2]; exact hi))).one
            rw [pendN_length] at hP2
            obtain ⟨S, hS⟩ : ∃ S : World → Prop, S = fun W => W.cell? ⟨w.heap.size, 0, none⟩ = some (.slice r.p1 A.now.length r.c1) ∧ W.cell? ⟨w.heap.size, 1, none⟩ = some (.slice r.p2 A.safe.length r.c2) ∧ W.cell? ⟨w.heap.size, 2, none⟩ = some (.slice r.p3 A.pend.length r.c3) ∧ W.cell? ⟨w.heap.size, 3, none⟩ = some (.slice r.p4 A.files.length r.c4) ∧ W.cell? ⟨w.heap.size, 4, none⟩ = some (.slice r.p5 A.files.length r.c5) ∧ W.cell? ⟨w.heap.size, 5, none⟩ = some (.int .i64 (A.room : Int)) ∧ W.cell? ⟨w.heap.size, 6, none⟩ = some (.slice r.p6 A.fails.length r.c6) ∧ W.cell? ⟨w.heap.size, 7, none⟩ = some (.int .i64 A.power) ∧ W.cell? ⟨w.heap.size, 8, none⟩ = some (.int .i64 ((A.steps : Int) + 1)) ∧ W.cell? ⟨w.heap.size + 1, 1, none⟩ = some (.string na) := ⟨_, rfl⟩
            have HSS := Lib.hid (fun W => show S W ↔ W.cell? ⟨w.heap.size, 0, none⟩ = some (.slice r.p1 A.now.length r.c1) ∧ W.cell? ⟨w.heap.size, 1, none⟩ = some (.slice r.p2 A.safe.length r.c2) ∧ W.cell? ⟨w.heap.size, 2, none⟩ = some (.slice r.p3 A.pend.length r.c3) ∧ W.cell? ⟨w.heap.size, 3, none⟩ = some (.slice r.p4 A.files.length r.c4) ∧ W.cell? ⟨w.heap.size, 4, none⟩ = some (.slice r.p5 A.files.length r.c5) ∧ W.cell? ⟨w.heap.size, 5, none⟩ = some (.int .i64 (A.room : Int)) ∧ W.cell? ⟨w.heap.size, 6, none⟩ = some (.slice r.p6 A.fails.length r.c6) ∧ W.cell? ⟨w.heap.size, 7, none⟩ = some (.int .i64 A.power) ∧ W.cell? ⟨w.heap.size, 8, none⟩ = some (.int .i64 ((A.steps : Int) + 1)) ∧ W.cell? ⟨w.heap.size + 1, 1, none⟩ = some (.string na) by rw [hS])
            have step2 : ∀ W W', Below X.heap.size X W → (∀ k, k ≠ w.heap.size + 2 → W'.heap[k]? = W.heap[k]?) → S W' := fun W W' hb he => by
              have hf := hf10.below hb
              obtain ⟨e0, e1, e2, e3, e4, e5, e6, e7, e8, _⟩ := st9v ((he w.heap.size (by omega)).trans hf.s)
              obtain ⟨_, y1, y2, _⟩ := op4v ((he (w.heap.size + 1) (by omega)).trans hf.o)
              rw [hS]
              exact ⟨e0, e1, e2, e3, e4, e5, e6, e7, e8, y1⟩
            have step : ∀ W, Below X.heap.size X W → S W := fun W hb => step2 W W hb fun _ _ => rfl
            have HS2 := Lib.hid step2
            have HZ := Lib.hid (fun W (hb : Below X.heap.size X W) => st9v (hf10.below hb).z)
            have HK0 := Lib.hid (step X.drew (Below.refl _ X).drew)
            have hput : putI na.data.toList (-1) A.now = M := by unfold putI; rw [if_pos (by omega), hM]
            have HNM := Lib.hid (show Calls Tryz.prog 85 #[.slice r.p1 A.now.length r.c1, .string na, .int .i64 (-1)] X.drew fun e w' => ∃ p7 c7, e = .returned (.slice p7 M.length c7) ∧ S w' ∧ Calls Tryz.prog 84 #[.agg #[.slice r.p1 A.now.length r.c1, .slice r.p2 A.safe.length r.c2, .slice r.p3 A.pend.length r.c3, .slice r.p4 A.files.length r.c4, .slice r.p5 A.files.length r.c5, .int .i64 (A.room : Int), .slice r.p6 A.fails.length r.c6, .int .i64 A.power, .int .i64 ((A.steps : Int) + 1)], .slice p7 M.length c7] w' fun e w'' => ∃ p8 c8, e = .returned (.agg #[.slice p7 M.length c7, .slice r.p2 A.safe.length r.c2, .slice p8 (A.pend.length + 1) c8, .slice r.p4 A.files.length r.c4, .slice r.p5 A.files.length r.c5, .int .i64 (A.room : Int), .slice r.p6 A.fails.length r.c6, .int .i64 A.power, .int .i64 ((A.steps : Int) + 1)]) ∧ S w'' ∧ Below X.heap.size X w'' ∧ OwnM w'' X.heap.size (.slice p7 M.length c7) M ∧ w''.ownsRow X.heap.size 47 1 (.slice p8 (A.pend.length + 1) c8) (A.pend.length + 1) (vsP ++ [.slice p7 M.length c7]) from
              (refNamed_any A.now hI.rnow (by have := hfit.now; omega) r.p1 _ r.c1 rfl na (-1) X.drew ((HFR.out.2.plain.now.below hf10.b).below (Below.refl _ X).drew)).mono fun e w' ⟨v, h1, h2, h3⟩ => by
                rw [hput] at h2
                obtain ⟨p7, c7, rfl, _⟩ := h2.shape rfl
                have hb1 : Below X.heap.size X w' := ((Below.refl _ X).drew).trans h3
                have h2 := OwnM.mono h2 (show X.heap.size ≤ X.drew.heap.size from Nat.le_refl _)
                refine ⟨p7, c7, h1, step _ hb1, ?_⟩
                refine (refRenamed_any r A.now.length A.safe.length A.files.length A.files.length A.fails.length A.room A.power ((A.steps : Int) + 1) p7 M.length c7 w' A.pend.length vsP hP2 (hP1.below (hf10.b.trans (hb1.mono hf10.b.size))) hPone (by have := hfit.pend; omega)).mono ?_
                rintro e w'' ⟨p8, c8, rfl, g2, g3⟩
                have hb2 := hb1.trans (g3.mono hb1.size)
                exact ⟨p8, c8, rfl, step _ hb2, hb2, h2.below g3, ownsRow_mono g2 hb1.size⟩)
            have HE := Lib.hid (And.intro hM (And.intro hP2 hP3))
            clear hS step step2 hf10 hM hput hP1 hP2 hP3 hPone hf4
            go_wp2_with fail
            go_region_held3 (fun W => W.cell? ⟨w.heap.size, 0, none⟩ = some (.slice r.p1 A.now.length r.c1) ∧ W.cell? ⟨w.heap.size, 1, none⟩ = some (.slice r.p2 A.safe.length r.c2) ∧ W.cell? ⟨w.heap.size, 2, none⟩ = some (.slice r.p3 A.pend.length r.c3) ∧ W.cell? ⟨w.heap.size, 3, none⟩ = some (.slice r.p4 A.files.length r.c4) ∧ W.cell? ⟨w.heap.size, 4, none⟩ = some (.slice r.p5 A.files.length r.c5) ∧ W.cell? ⟨w.heap.size, 5, none⟩ = some (.int .i64 (A.room : Int)) ∧ W.cell? ⟨w.heap.size, 6, none⟩ = some (.slice r.p6 A.fails.length r.c6) ∧ W.cell? ⟨w.heap.size, 7, none⟩ = some (.int .i64 A.power) ∧ W.cell? ⟨w.heap.size, 8, none⟩ = some (.int .i64 ((A.steps : Int) + 1)) ∧ W.cell? ⟨w.heap.size + 1, 1, none⟩ = some (.string na))
              (first | (with_reducible exact (HSS.out _).1 HK0.out) | (with_reducible exact (HSS.out _).1 HK1.out) | (with_reducible exact (HSS.out _).1 HK2.out) | (with_reducible exact (HSS.out _).1 HK3.out))
              (first
                | (go_at_call 85; with_reducible refine HNM.out.mono ?_; rintro e11 w11 ⟨p7, c7, rfl, hk1, hrn⟩; have HK1 := Lib.hid hk1; have HRN := Lib.hid hrn; clear hk1 hrn)
                | (go_at_call 84; with_reducible refine HRN.out.mono ?_; rintro e12 w12 ⟨p8, c8, rfl, hk2, hq⟩; obtain ⟨z0, z1, z2, z3, z4, z5, z6, z7, z8, zf⟩ := HZ.out w12 hq.1; have HK2 := Lib.hid hk2; have hs3 := HS2.out w12 (put9 w12 (w.heap.size + 1 + 1) (.slice p7 M.length c7) (.slice r.p2 A.safe.length r.c2) (.slice p8 (A.pend.length + 1) c8) (.slice r.p4 A.files.length r.c4) (.slice r.p5 A.files.length r.c5) (.int .i64 (A.room : Int)) (.slice r.p6 A.fails.length r.c6) (.int .i64 A.power) (.int .i64 ((A.steps : Int) + 1))) hq.1 (fun k hk => put9_heap k hk); unfold put9 at hs3; have HK3 := Lib.hid hs3; have HQ := Lib.hid hq; clear hk2 hq hs3))
            all_goals
              go_wp2_with fail
              obtain ⟨hbX, howM, howP⟩ := HQ.out
              obtain ⟨hM, hP2, hP3⟩ := HE.out
              have hf10 := H4.out
              have hX3 := hf10.size
              obtain ⟨A1, hA1⟩ : ∃ A1 : Pl, A1 = { tk A with now := M, pend := A.pend ++ [.del na.data.toList] } := ⟨_, rfl⟩
              have hD : doP A (opOf 6 na.data.toList nb.data.toList l) = (A1, 0) := by
                rw [show opOf 6 na.data.toList nb.data.toList l = .remove na.data.toList from rfl, doP_remove, HON.out, hA1]
                unfold chgP
                rw [HT.out.1, hM]
                simp [applyC, tk]
              refine bodyPost_ret (v := .tuple #[.agg #[.slice p7 M.length c7, .slice r.p2 A.safe.length r.c2, .slice p8 (A.pend.length + 1) c8, .slice r.p4 A.files.length r.c4, .slice r.p5 A.files.length r.c5, .int .i64 (A.room : Int), .slice r.p6 A.fails.length r.c6, .int .i64 A.power, .int .i64 ((A.steps : Int) + 1)], .int .i64 0]) (by simp [results, Tryz.results51, go_sem, z0, z1, z2, z3, z4, z5, z6, z7, z8]) rfl ?_
              obtain ⟨W9, hW9⟩ : ∃ W9, W9 = put9 w12 (w.heap.size + 2) (.slice p7 M.length c7) (.slice r.p2 A.safe.length r.c2) (.slice p8 (A.pend.length + 1) c8) (.slice r.p4 A.files.length r.c4) (.slice r.p5 A.files.length r.c5) (.int .i64 (A.room : Int)) (.slice r.p6 A.fails.length r.c6) (.int .i64 A.power) (.int .i64 ((A.steps : Int) + 1)) := ⟨_, rfl⟩
              have hbW := hf10.b.trans (hbX.mono hf10.b.size)
              have hbW9 : Below w.heap.size w W9 := by rw [hW9]; exact put9_below hbW (by omega)
              have qM : OwnM W9 w.heap.size (.slice p7 M.length c7) M := by rw [hW9]; exact ownsRow_mono (ownsRow_put9 howM (by omega)) (by omega)
              have qP : W9.ownsRow w.heap.size 47 1 (.slice p8 (A.pend.length + 1) c8) (A.pend.length + 1) (vsP ++ [.slice p7 M.length c7]) := by rw [hW9]; exact ownsRow_mono (ownsRow_put9 howP (by omega)) (by omega)
              obtain ⟨g9, hm9⟩ := mask_ex P W9
              have hkk := HG0.out.1.below hm9 hbW9
              have rM := OwnM.shape (show OwnM g9 w.heap.size (.slice p7 M.length c7) M from hm9.owns qM hP) rfl
              have hRP : RefP P W9 { r with p1 := p7, c1 := c7, p3 := p8, c3 := c8 } A1 := by
                refine ⟨g9, hm9, RefAt.chg HG0.out.2 hkk hI (.del na.data.toList) (v := .slice p7 M.length c7) (by rw [hA1]; rfl) (by rw [hA1]) (by rw [hA1]) hM.symm (by rw [hA1]; rfl) rfl rfl ?_ ?_ hP2 hP3 ?_ ?_ ?_⟩
                · obtain ⟨p, c, e, hin⟩ := rM
                  injection e with e1 _ _
                  subst e1
                  exact hin
                · exact ⟨p7, c7, rfl, by
                    obtain ⟨p, c, e, hin⟩ := rM
                    injection e with e1 _ _
                    subst e1
                    exact hin⟩
                · obtain ⟨p, c, e, _, _, hin, _⟩ := owns_shape (hm9.owns qP hP)
                  injection e with e1 _ _
                  subst e1
                  exact hin
                · rw [hA1]
                  exact InR.keeps (fun h hk => h.keeps hk) HG0.out.2.data hkk
                · rw [hA1]
                  exact HG0.out.2.firm.keeps hkk
              have := RStep.mk hRP hbW9 hD (cs := #[.slice p7 M.length c7, .slice r.p2 A.safe.length r.c2, .slice p8 (A.pend.length + 1) c8, .slice r.p4 A.files.length r.c4, .slice r.p5 A.files.length r.c5, .int .i64 (A.room : Int), .slice r.p6 A.fails.length r.c6, .int .i64 A.power, .int .i64 ((A.steps : Int) + 1)]) (by rw [hA1]; simp [stC, tk])
              rw [hW9] at this
              exact this
end Go.Proofs.YtheoklhmlnfgjaaGreatDoor
