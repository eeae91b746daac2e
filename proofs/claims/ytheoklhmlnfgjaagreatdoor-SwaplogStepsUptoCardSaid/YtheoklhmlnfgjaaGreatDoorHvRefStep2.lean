/-
  The document's disk: Step: Append.
-/
import Derived.Test.YtheoklhmlnfgjaaGreatDoorPk5
namespace Go.Proofs.YtheoklhmlnfgjaaGreatDoor
open Go.RowKit Go.Maps
set_option linter.unusedVariables false

set_option maxRecDepth 100000 in
set_option maxHeartbeats 4000000 in
theorem refStep2_any (P : Nat → Prop) (r : RC) (A : Pl) (na nb : ByteArray) (l : BS) (q : Option Addr) (n c : Nat) (hn : l.length = n) (w : World) (hP : ∀ g, P g → g < w.heap.size) (h : RefP P w r A) (hin : In8 w q l) (hI : Inv A) (hfit : FitP A) (hna : na.size ≤ 140737488351232) (hnb : nb.size ≤ 140737488351232) (hl : n ≤ 1000000000) :
    Calls Tryz.prog 51 #[.agg (stC r A), .agg #[.int .i64 2, .string na, .string nb, .slice q n c]] w (RStep P w A (opOf 2 na.data.toList nb.data.toList l)) := by
  show Calls Tryz.prog 51 #[.agg #[.slice r.p1 A.now.length r.c1, .slice r.p2 A.safe.length r.c2, .slice r.p3 A.pend.length r.c3, .slice r.p4 A.files.length r.c4, .slice r.p5 A.files.length r.c5, .int .i64 (A.room : Int), .slice r.p6 A.fails.length r.c6, .int .i64 A.power, .int .i64 (A.steps : Int)], .agg #[.int .i64 2, .string na, .string nb, .slice q n c]] w _
  have hdn := fun W => refDown_any r A W
  unfold stC at hdn
  obtain ⟨wa, hwa⟩ : ∃ x, x = ((w.alloc (.cells #[.slice r.p1 A.now.length r.c1, .slice r.p2 A.safe.length r.c2, .slice r.p3 A.pend.length r.c3, .slice r.p4 A.files.length r.c4, .slice r.p5 A.files.length r.c5, .int .i64 (A.room : Int), .slice r.p6 A.fails.length r.c6, .int .i64 A.power, .int .i64 (A.steps : Int)] 51)).alloc (.cells #[.int .i64 2, .string na, .string nb, .slice q n c] 104)).alloc (.cells #[.slice none 0 0, .slice none 0 0, .slice none 0 0, .slice none 0 0, .slice none 0 0, .int .i64 0, .slice none 0 0, .int .i64 0, .int .i64 0] 51) := ⟨_, rfl⟩
  have hfr : Fr w wa #[.slice r.p1 A.now.length r.c1, .slice r.p2 A.safe.length r.c2, .slice r.p3 A.pend.length r.c3, .slice r.p4 A.files.length r.c4, .slice r.p5 A.files.length r.c5, .int .i64 (A.room : Int), .slice r.p6 A.fails.length r.c6, .int .i64 A.power, .int .i64 (A.steps : Int)] #[.int .i64 2, .string na, .string nb, .slice q n c] := by rw [hwa]; exact Fr.start _ _ _
  have HW := Lib.hid hwa
  obtain ⟨g0, hm0, hr0⟩ := id h
  have HG0 := Lib.hid (And.intro hm0 hr0)
  have HFR := Lib.hid (And.intro hfr h)
  clear hwa hfr h hm0 hr0
  cases hdown : downP A with
  | true =>
    rw [hdown] at hdn
    have HD := Lib.hid (show ∀ o, doP A o = (A, 93) from fun o => by
      have hb : ∀ L, begP A L = 93 := fun L => by unfold begP; rw [if_pos hdown]
      have ht : tickP A = A := by unfold tickP; rw [if_pos hdown]
      have ho : ∀ L k, onP A L k = 93 := fun L k => by unfold onP; rw [hb, if_pos (by decide)]
      cases o with
      | create k => rw [doP_create, hb, if_pos (by decide), ht]
      | append k d => rw [doP_append, ho, if_pos (by decide), ht]
      | sync k => rw [doP_sync, ho, if_pos (by decide), ht]
      | names => rw [doP_names, hb, if_pos (by decide), ht]
      | rename a b => rw [doP_rename, ho, if_pos (by decide), ht]
      | remove k => rw [doP_remove, ho, if_pos (by decide), ht])
    clear hdown
    go_enter Tryz.func51, Tryz.ntmps51
    go_wp2_with fail
    refine (hdn _).mono ?_
    rw [← HW.out]
    rintro e w1 ⟨rfl, hb1⟩
    have hf1 := HFR.out.1.below hb1
    obtain ⟨a0, a1, a2, a3, a4, a5, a6, a7, a8, af⟩ := st9v hf1.s
    obtain ⟨z0, z1, z2, z3, z4, z5, z6, z7, z8, zf⟩ := st9v hf1.z
    have H1 := Lib.hid hf1
    clear hf1 hb1 hdn
    go_wp2_with fail
    refine bodyPost_ret (v := .tuple #[.agg #[.slice r.p1 A.now.length r.c1, .slice r.p2 A.safe.length r.c2, .slice r.p3 A.pend.length r.c3, .slice r.p4 A.files.length r.c4, .slice r.p5 A.files.length r.c5, .int .i64 (A.room : Int), .slice r.p6 A.fails.length r.c6, .int .i64 A.power, .int .i64 (A.steps : Int)], .int .i64 93]) (by simp [results, Tryz.results51, go_sem, z0, z1, z2, z3, z4, z5, z6, z7, z8]) rfl ?_
    exact RStep.same HFR.out.2 H1.out.b (HD.out _) _ _ _ _ _ _ _ _ _
  | false =>
    rw [hdown] at hdn
    have htick : tickP A = tk A := by unfold tickP tk; rw [if_neg (by rw [hdown]; simp)]
    have hst : A.steps ≤ 1000000 := hfit.steps
    have HT := Lib.hid (And.intro htick hdown)
    clear hdown htick
    go_enter Tryz.func51, Tryz.ntmps51
    go_wp2_with fail
    refine (hdn _).mono ?_
    rw [← HW.out]
    rintro e w1 ⟨rfl, hb1⟩
    have hf1 := HFR.out.1.below hb1
    obtain ⟨a0, a1, a2, a3, a4, a5, a6, a7, a8, af⟩ := st9v hf1.s
    have hf2 := hf1.set 8 (.int .i64 ((A.steps : Int) + 1))
    obtain ⟨w2, hw2⟩ : ∃ x, x = w1.setCell ⟨w.heap.size, 8, none⟩ (.int .i64 ((A.steps : Int) + 1)) := ⟨_, rfl⟩
    rw [← hw2] at hf2
    have HW2 := Lib.hid hw2
    have H2 := Lib.hid hf2
    clear hw2 hf1 hf2 hb1 hdn
    have HRB := Lib.hid (HFR.out.2.parts (A' := tk A) fun g _ hg => hg.steps _)
    have HCB := Lib.hid (show A.fails.contains ((A.steps : Int) + 1) = true → ∀ o, doP A o = (tk A, 94) from fun hc o => by
      have hb : ∀ L, begP A L = 94 := fun L => by unfold begP; rw [if_neg (by rw [HT.out.2]; simp), if_pos hc]
      have ho : ∀ L k, onP A L k = 94 := fun L k => by unfold onP; rw [hb, if_pos (by decide)]
      have ht := HT.out.1
      cases o with
      | create k => rw [doP_create, hb, if_pos (by decide), ht]
      | append k d => rw [doP_append, ho, if_pos (by decide), ht]
      | sync k => rw [doP_sync, ho, if_pos (by decide), ht]
      | names => rw [doP_names, hb, if_pos (by decide), ht]
      | rename a b => rw [doP_rename, ho, if_pos (by decide), ht]
      | remove k => rw [doP_remove, ho, if_pos (by decide), ht])
    have hfl := hfit.fails
    go_wp2_with fail
    rw [← HW2.out]
    go_loopw [6] (fun i wr => ∃ k : Nat, k ≤ A.fails.length ∧ i = .int .i64 k ∧ (A.fails.take k).contains ((A.steps : Int) + 1) = false ∧ Below w2.heap.size w2 wr) (fun i _ => A.fails.length - (intOf i).toNat)
    case atStart => exact ⟨0, Nat.zero_le _, rfl, rfl, Below.refl _ _⟩
    case round =>
      obtain ⟨k, hk, rfl, hno, hb⟩ := hrel
      have hfr := H2.out.below hb
      obtain ⟨a0, a1, a2, a3, a4, a5, a6, a7, a8, af⟩ := st9v hfr.s
      by_cases hlt : k < A.fails.length
      · obtain ⟨b, o, hp6, hc⟩ := ((HFR.out.2.plain.fails.below H2.out.b).below hb).at (k := k) (by simpa using hlt)
        have hx := hc k (by simpa using hlt)
        rw [List.getElem_map] at hx
        have HSN := Lib.hid (fun hne => contains_take hlt hno hne)
        have HAT := Lib.hid (fun he => contains_at (Z := A.fails) (k := k) (x := (A.steps : Int) + 1) hlt he)
        rw [hp6] at a6
        have HP6 := Lib.hid hp6
        clear hp6 hc hno
        generalize A.fails[k] = x at hx HSN HAT
        by_cases he : x = (A.steps : Int) + 1
        · have hq : (x == (A.steps : Int) + 1) = true := beq_iff_eq.2 he
          have HD := Lib.hid (HCB.out (HAT.out he))
          obtain ⟨z0, z1, z2, z3, z4, z5, z6, z7, z8, zf⟩ := st9v hfr.z
          have HH := Lib.hid (And.intro hfr hb)
          clear he hfr hb
          go_wp2_with fail
          go_quiet (fail)
          go_wp2_with fail
          have hfb := HH.out.1.b.trans ((bdrewN (Below.refl _ wr) nq).mono HH.out.1.b.size)
          refine bodyPost_ret (v := .tuple #[.agg #[.slice r.p1 A.now.length r.c1, .slice r.p2 A.safe.length r.c2, .slice r.p3 A.pend.length r.c3, .slice r.p4 A.files.length r.c4, .slice r.p5 A.files.length r.c5, .int .i64 (A.room : Int), .slice r.p6 A.fails.length r.c6, .int .i64 A.power, .int .i64 ((A.steps : Int) + 1)], .int .i64 94]) (by rw [HP6.out]; simp [results, Tryz.results51, go_sem, z0, z1, z2, z3, z4, z5, z6, z7, z8]) rfl ?_
          rw [HP6.out]
          have := RStep.same HRB.out hfb (HD.out (opOf 2 na.data.toList nb.data.toList l)) (.slice r.p1 A.now.length r.c1) (.slice r.p2 A.safe.length r.c2) (.slice r.p3 A.pend.length r.c3) (.slice r.p4 A.files.length r.c4) (.slice r.p5 A.files.length r.c5) (.int .i64 (A.room : Int)) (.slice r.p6 A.fails.length r.c6) (.int .i64 A.power) (.int .i64 ((A.steps : Int) + 1))
          unfold stC at this
          rw [HP6.out] at this
          exact this
        · have hq : (x == (A.steps : Int) + 1) = false := beq_eq_false_iff_ne.2 he
          have HNE := Lib.hid (HSN.out he)
          have HB := Lib.hid hb
          clear he hb hfr
          go_wp2_with fail
          go_quiet (fail)
          go_wp2_with fail
          go_roundw
          case rel => exact ⟨k + 1, by omega, by go_num, HNE.out, bdrewN HB.out _⟩
          case measure => simp [intOf]; omega
      · obtain rfl : k = A.fails.length := by omega
        rw [List.take_length] at hno
        have HBEG := Lib.hid (show ∀ L, begP A L = if L.any badN = true then 95 else 0 from fun L => by unfold begP; rw [if_neg (by rw [HT.out.2]; simp), if_neg (by rw [hno]; simp)])
        obtain ⟨wo, hwo⟩ : ∃ x, x = wr := ⟨_, rfl⟩
        subst hwo
        have HH := Lib.hid hfr
        obtain ⟨b0, b1, b2, b3⟩ := op4v hfr.o
        have hgA := fun W => refGood_any na W hna
        have hgB := fun W => refGood_any nb W hnb
        clear hno hfr hb
        have hat := fun W (hW : Below w.heap.size w W) => show Calls Tryz.prog 83 #[.agg #[.slice r.p1 A.now.length r.c1, .slice r.p2 A.safe.length r.c2, .slice r.p3 A.pend.length r.c3, .slice r.p4 A.files.length r.c4, .slice r.p5 A.files.length r.c5, .int .i64 (A.room : Int), .slice r.p6 A.fails.length r.c6, .int .i64 A.power, .int .i64 ((A.steps : Int) + 1)], .string na] W fun e w' => e = .returned (.int .i64 (atI A.now na.data.toList)) ∧ Below W.heap.size W w' from refAt_any r (tk A) na W (HFR.out.2.plain.now.below hW) hfit.now
        cases hg : goodN na.data.toList with
        | false =>
          rw [hg] at hgA
          have HD := Lib.hid (show doP A (opOf 2 na.data.toList nb.data.toList l) = (tk A, 95) from by
            have ho : onP A [] na.data.toList = 95 := by unfold onP; rw [HBEG.out]; simp [badN, hg]
            rw [show opOf 2 na.data.toList nb.data.toList l = .append na.data.toList l from rfl, doP_append, ho, HT.out.1]
            simp)
          go_wp2_with fail
          refine (hgA _).mono ?_
          rintro e3 w3 ⟨rfl, hb3⟩
          have hf3 := HH.out.below hb3
          obtain ⟨a0, a1, a2, a3, a4, a5, a6, a7, a8, af⟩ := st9v hf3.s
          obtain ⟨b0, b1, b2, b3⟩ := op4v hf3.o
          obtain ⟨z0, z1, z2, z3, z4, z5, z6, z7, z8, zf⟩ := st9v hf3.z
          have H3 := Lib.hid hf3
          clear hf3 hb3 hgA hgB hat hg
          go_wp2_with fail
          refine bodyPost_ret (v := .tuple #[.agg #[.slice r.p1 A.now.length r.c1, .slice r.p2 A.safe.length r.c2, .slice r.p3 A.pend.length r.c3, .slice r.p4 A.files.length r.c4, .slice r.p5 A.files.length r.c5, .int .i64 (A.room : Int), .slice r.p6 A.fails.length r.c6, .int .i64 A.power, .int .i64 ((A.steps : Int) + 1)], .int .i64 95]) (by simp [results, Tryz.results51, go_sem, z0, z1, z2, z3, z4, z5, z6, z7, z8]) rfl ?_
          exact RStep.same HRB.out H3.out.b HD.out _ _ _ _ _ _ _ _ _
        | true =>
          rw [hg] at hgA
          go_wp2_with fail
          refine (hgA _).mono ?_
          rintro e3 w3 ⟨rfl, hb3⟩
          have hf3 := HH.out.below hb3
          obtain ⟨a0, a1, a2, a3, a4, a5, a6, a7, a8, af⟩ := st9v hf3.s
          obtain ⟨b0, b1, b2, b3⟩ := op4v hf3.o
          obtain ⟨z0, z1, z2, z3, z4, z5, z6, z7, z8, zf⟩ := st9v hf3.z
          have H3 := Lib.hid hf3
          have hat3 := hat w3 hf3.b
          clear hf3 hb3 hgA hgB hat
          go_wp2_with fail
          refine hat3.mono ?_
          rintro e4 w4 ⟨rfl, hb4⟩
          have hf4 := H3.out.below hb4
          obtain ⟨a0, a1, a2, a3, a4, a5, a6, a7, a8, af⟩ := st9v hf4.s
          obtain ⟨b0, b1, b2, b3⟩ := op4v hf4.o
          obtain ⟨z0, z1, z2, z3, z4, z5, z6, z7, z8, zf⟩ := st9v hf4.z
          have H4 := Lib.hid hf4
          clear hat3 hb4
          cases hk : lookN A.now na.data.toList with
          | none =>
            have hai : atI A.now na.data.toList = -1 := by unfold atI; rw [hk]
            rw [hai]
            have HD := Lib.hid (show doP A (opOf 2 na.data.toList nb.data.toList l) = (tk A, 90) from by
              have ho : onP A [] na.data.toList = 90 := by unfold onP; rw [HBEG.out, hk]; simp [badN, hg]
              rw [show opOf 2 na.data.toList nb.data.toList l = .append na.data.toList l from rfl, doP_append, ho, HT.out.1]
              simp)
            clear hai hk hf4
            go_wp2_with fail
            refine bodyPost_ret (v := .tuple #[.agg #[.slice r.p1 A.now.length r.c1, .slice r.p2 A.safe.length r.c2, .slice r.p3 A.pend.length r.c3, .slice r.p4 A.files.length r.c4, .slice r.p5 A.files.length r.c5, .int .i64 (A.room : Int), .slice r.p6 A.fails.length r.c6, .int .i64 A.power, .int .i64 ((A.steps : Int) + 1)], .int .i64 90]) (by simp [results, Tryz.results51, go_sem, z0, z1, z2, z3, z4, z5, z6, z7, z8]) rfl ?_
            exact RStep.same HRB.out H4.out.b HD.out _ _ _ _ _ _ _ _ _
          | some f =>
            have hai : atI A.now na.data.toList = (f : Int) := by unfold atI; rw [hk]
            rw [hai]
            have hfl : f < A.files.length := hI.fnow _ (lookN_mem _ _ _ hk)
            have HON := Lib.hid (show onP A [] na.data.toList = 0 from by unfold onP; rw [HBEG.out, hk]; simp [badN, hg])
            have HAT := Lib.hid (show atP A na.data.toList = f from by unfold atP; rw [hk]; rfl)
            have hk0 := hk
            have hfp : (0 : Int) ≤ (f : Int) := by omega
            clear hai hk
            have HLK := Lib.hid hk0
            clear hk0
            by_cases hn0 : n = 0
            · have q0 : ¬ (0 : Int) < (n : Int) := by omega
              have q1 : ¬ 0 < n := by omega
              have HNF := Lib.hid (show ¬ (0 < l.length ∧ A.room < usedP A + l.length) from fun e => by omega)
              go_wp2_with fail
              go_quiet (fail)
              have hfu := hf4.below (bdrewN (Below.refl _ w4) nq)
              obtain ⟨wu, hwu⟩ : ∃ x, x = w4.drewN nq := ⟨_, rfl⟩
              rw [← hwu] at hfu ⊢
              clear hwu hn0 q0 q1
              obtain ⟨vsD, hD1, hD2, hD3⟩ := HG0.out.2.data
              have hD1 := hD1.keeps HG0.out.1.keeps
              have hDone : ∀ u ∈ vsD, u.oneCell' = true := fun u hu => by
                obtain ⟨i, hi, e⟩ := List.getElem_of_mem hu
                rw [← e]
                exact (hD3 i _ ((A.files.map (·.1))[i]'(by rw [← hD2]; exact hi)) (List.getElem?_eq_getElem hi) (List.getElem?_eq_getElem (by rw [← hD2]; exact hi))).one
              have hfil : f < vsD.length := by rw [hD2, List.length_map]; exact hfl
              obtain ⟨B9, hB9⟩ : ∃ B9, B9 = datP A f := ⟨_, rfl⟩
              have hBf : (A.files.map (·.1))[f]? = some B9 := by rw [hB9]; unfold datP; rw [List.getElem?_map, List.getElem?_eq_getElem hfl]; rfl
              obtain ⟨q9, c9, hv9, hq9, hm9l, hin9, _⟩ := hD3 f _ _ (List.getElem?_eq_getElem hfil) hBf
              have hgv : vsD[f]? = some (.slice q9 B9.length c9) := by rw [List.getElem?_eq_getElem hfil, hv9]
              have hB9l : B9.length ≤ 140737488351232 := by
                have := hfit.used
                have h2 := lenF_used (lookN_mem _ _ _ HLK.out)
                rw [hB9]
                unfold datP
                unfold lenF at h2
                rw [List.getElem?_eq_getElem hfl] at h2 ⊢
                simp only [Option.map_some, Option.getD_some] at h2 ⊢
                omega
              have hin9 := hin9.keeps HG0.out.1.keeps
              have HD3 := Lib.hid (And.intro hD3 (And.intro hD2 hBf))
              clear hD3
              rw [List.length_map] at hD2
              have hfz := hfit.files
              have hs4 := hfu.size
              have hf1 := hfu.alloc (.cells #[] 22)
              have c13 := (st9v hf1.s).2.2.2.1
              have hown0 := ownR_made 22 wu
              have hsD := srcV (c := r.c4) (e := 22) Tryz.underlying49 (hD1.below hf1.b) hDone
              rw [hD2] at hsD
              obtain ⟨A1, hA1⟩ : ∃ A1 : Pl, A1 = { tk A with files := A.files.modify f fun x => (x.1 ++ l, x.2) } := ⟨_, rfl⟩
              have HD := Lib.hid (show doP A (opOf 2 na.data.toList nb.data.toList l) = (A1, 0) from by
                rw [show opOf 2 na.data.toList nb.data.toList l = .append na.data.toList l from rfl, doP_append, HON.out, HAT.out, HT.out.1, hA1, if_neg (by simp), if_neg HNF.out]
                all_goals simp [tk])
              have HM := Lib.hid (And.intro hB9 hA1)
              have HX := Lib.hid (And.intro hf1 (And.intro hin9 hgv))
              have HQ9 := Lib.hid hin
              clear hD1 hD2 hDone hf1 hA1 hB9 hBf hv9 hin9 hgv hfil hq9 hm9l
              go_wp2_with (
                at_builtin; (
                refine wpList_append_way _ rfl _ _ 49 49 rfl wu.heap.size 22 (.slice none 0 0) 1 24 Tryz.underlying49 infoB9 rfl _ 0 [] rfl hown0 _ A.files.length vsD rfl hsD (by unfold maxLen; omega) (by omega) (by simp) ?_
                intro d1 x2 hod1 hgd1 _
                have hf2 := HX.out.1.grown hgd1 (fun g e => by have := Option.some.inj (show some wu.heap.size = some g from e); omega)
                rw [List.nil_append, Nat.zero_add] at hod1
                have hd1lt := World.ownsRow.lt hod1
                obtain ⟨g, cap, rfl⟩ := own_form9 hod1 (show 0 < A.files.length by omega)
                have hgl := hd1lt g rfl
                have hce := World.ownsRow.cellAt hod1 f (by omega)
                rw [HX.out.2.2] at hce
                obtain ⟨b0, b1, b2, b3⟩ := op4v hf2.o
                have hin2 := HX.out.2.1.below hf2.b
                have hcp := copyBytes_any B9 q9 _ c9 rfl (by omega) x2 hin2
                have H2 := Lib.hid (And.intro hf2 (And.intro hod1 hgl))
                clear hgd1 hown0 hod1 hd1lt hf2 hin2))
              refine hcp.mono ?_
              rintro e5 x3 ⟨v5, rfl, hown5, hb5⟩
              clear hcp
              have hf3 := H2.out.1.below hb5
              have hod3 := ownsRow_below H2.out.2.1 hb5
              obtain ⟨a0, a1, a2, a3, a4, a5, a6, a7, a8, af⟩ := st9v hf3.s
              obtain ⟨z0, z1, z2, z3, z4, z5, z6, z7, z8, zf⟩ := st9v hf3.z
              obtain ⟨b0, b1, b2, b3⟩ := op4v hf3.o
              have hinL := HQ9.out.below hf3.b
              have hsL := Src.of8 (c := c) hinL
              rw [hn] at hsL
              have hgl := H2.out.2.2
              have hs23 := hb5.size
              have hs2 := H2.out.1.size
              have H3 := Lib.hid (And.intro hf3 hod3)
              obtain ⟨p5, c5', rfl, _⟩ := id hown5.in8n rfl
              clear hf3 hod3 hb5
              go_wp2_with (
                at_builtin; (
                refine wpList_append_way _ rfl _ _ 22 22 rfl x2.heap.size 5 (.int .u8 0) 1 1 Tryz.underlying22 info8 rfl _ B9.length (by8 B9) rfl hown5 _ n (by8 l) rfl hsL (by unfold maxLen; omega) (by omega) hs23 ?_
                intro v6 x5 hown6 hgrow6 _
                have hown6 : Own8 x5 x2.heap.size v6 (B9 ++ l) := by unfold Own8; rw [List.length_append, by8_append, hn]; exact hown6
                have hne : ∀ k, (some k : Option Nat) = Value.ownBlock (.slice p5 B9.length c5') → x2.heap.size ≤ k := fun k e => (World.ownsRow.lt hown5 k e.symm).1
                have hf5 := H3.out.1.grown hgrow6 (fun k e => by have := hne k e.symm; omega)
                have hod5 := apart_kept H3.out.2 hgrow6 (fun k e er => by have h1 := hne k er.symm; have h2 := (World.ownsRow.lt H2.out.2.1 k e).2; omega)
                obtain ⟨p6, c6, rfl, _⟩ := hown6.in8n (show (B9 ++ l).length = B9.length + n by rw [List.length_append, hn])
                have hfr := World.ownsRow.frozenAt hod5 f
                have hce5 := World.ownsRow.cellAt hod5 f (by omega)
                rw [HX.out.2.2] at hce5
                obtain ⟨a0, a1, a2, a3, a4, a5, a6, a7, a8, af⟩ := st9v hf5.s
                obtain ⟨z0, z1, z2, z3, z4, z5, z6, z7, z8, zf⟩ := st9v hf5.z
                have H5 := Lib.hid (And.intro hf5 (And.intro hod5 hown6))
                clear hgrow6 hne hf5 hod5 hown6))
              obtain ⟨hf5, hod5, hown6⟩ := H5.out
              obtain ⟨hB9, hA1⟩ := HM.out
              obtain ⟨hD3, hD2, hBf⟩ := HD3.out
              have hs5 := hf5.size
              obtain ⟨hod6, hg56⟩ := hod5.stored f (.slice p6 (B9.length + n) c6)
              have hown7 : Own8 (x5.setCell ⟨g, f, none⟩ (.slice p6 (B9.length + n) c6)) x2.heap.size (.slice p6 (B9.length + n) c6) (B9 ++ l) := apart_kept hown6 hg56 (fun k e er => by have h1 := (World.ownsRow.lt hown6 k e).1; have h2 := Option.some.inj er; omega)
              have hfb := hf5.b.setCell (p := ⟨g, f, none⟩) (show w.heap.size ≤ g by omega) (.slice p6 (B9.length + n) c6)
              have hod7 := ownsRow_setCell_below hod6 (a := ⟨w.heap.size, 3, none⟩) (show w.heap.size < wu.heap.size by omega) (.slice (some ⟨g, 0, none⟩) A.files.length cap)
              have hown8 := ownsRow_setCell_below hown7 (a := ⟨w.heap.size, 3, none⟩) (show w.heap.size < x2.heap.size by omega) (.slice (some ⟨g, 0, none⟩) A.files.length cap)
              have hfb7 := hfb.setCell (p := ⟨w.heap.size, 3, none⟩) (Nat.le_refl _) (.slice (some ⟨g, 0, none⟩) A.files.length cap)
              refine bodyPost_ret (v := .tuple #[.agg #[.slice r.p1 A.now.length r.c1, .slice r.p2 A.safe.length r.c2, .slice r.p3 A.pend.length r.c3, .slice (some ⟨g, 0, none⟩) A.files.length cap, .slice r.p5 A.files.length r.c5, .int .i64 (A.room : Int), .slice r.p6 A.fails.length r.c6, .int .i64 A.power, .int .i64 ((A.steps : Int) + 1)], .int .i64 0]) (by simp [results, Tryz.results51, go_sem, z0, z1, z2, z3, z4, z5, z6, z7, z8]) rfl ?_
              obtain ⟨W9, hW9⟩ : ∃ W9, W9 = put9 ((x5.setCell ⟨g, f, none⟩ (.slice p6 (B9.length + n) c6)).setCell ⟨w.heap.size, 3, none⟩ (.slice (some ⟨g, 0, none⟩) A.files.length cap)) (w.heap.size + 2) (.slice r.p1 A.now.length r.c1) (.slice r.p2 A.safe.length r.c2) (.slice r.p3 A.pend.length r.c3) (.slice (some ⟨g, 0, none⟩) A.files.length cap) (.slice r.p5 A.files.length r.c5) (.int .i64 (A.room : Int)) (.slice r.p6 A.fails.length r.c6) (.int .i64 A.power) (.int .i64 ((A.steps : Int) + 1)) := ⟨_, rfl⟩
              have hbW9 : Below w.heap.size w W9 := by rw [hW9]; exact put9_below hfb7 (by omega)
              have qD : W9.ownsRow w.heap.size 22 1 (.slice (some ⟨g, 0, none⟩) A.files.length cap) A.files.length (vsD.set f (.slice p6 (B9.length + n) c6)) := by rw [hW9]; exact ownsRow_mono (ownsRow_put9 hod7 (by omega)) (by omega)
              have qO : Own8 W9 w.heap.size (.slice p6 (B9.length + n) c6) (B9 ++ l) := by rw [hW9]; exact ownsRow_mono (ownsRow_put9 hown8 (by omega)) (by omega)
              obtain ⟨g9, hm9⟩ := mask_ex P W9
              have hkk := HG0.out.1.below hm9 hbW9
              have hff : A.files[f].1 = B9 := by
                rw [List.getElem?_map, List.getElem?_eq_getElem hfl] at hBf
                exact Option.some.inj hBf
              have hfst : A1.files.map (fun f : BS × Nat => f.1) = (A.files.map (fun f : BS × Nat => f.1)).set f (B9 ++ l) := by
                rw [hA1]
                show (A.files.modify f fun x => (x.1 ++ l, x.2)).map _ = _
                rw [modify_set _ f _ A.files[f] (List.getElem?_eq_getElem hfl), List.map_set, hff]
              have hsnd : A1.files.map (fun f : BS × Nat => Value.int .i64 (f.2 : Int)) = A.files.map (fun f : BS × Nat => Value.int .i64 (f.2 : Int)) := by
                rw [hA1]
                show (A.files.modify f fun x => (x.1 ++ l, x.2)).map _ = _
                rw [modify_set _ f _ A.files[f] (List.getElem?_eq_getElem hfl), List.map_set]
                apply List.ext_getElem (by simp)
                intro i h1 h2
                rw [List.getElem_set]
                split
                · rename_i e; subst e; rw [List.getElem_map]
                · rfl
              have hRP : RefP P W9 { r with p4 := some ⟨g, 0, none⟩, c4 := cap } A1 := by
                obtain ⟨p, c, e, _, _, hin4, _⟩ := owns_shape (hm9.owns qD hP)
                injection e with e1 _ _
                subst e1
                have hr := HG0.out.2.keeps hkk
                refine ⟨g9, hm9, ⟨by rw [hA1]; exact hr.now, by rw [hA1]; exact hr.safe, by rw [hA1]; exact hr.pend, ?_, ?_, by rw [hA1]; exact hr.fails⟩⟩
                · rw [hfst]
                  exact InR.put hD2 (fun i u x hu hx => (hD3 i u x hu hx).keeps hkk) hin4 (Own8.datV (show Own8 g9 w.heap.size (.slice p6 (B9.length + n) c6) (B9 ++ l) from hm9.owns qO hP))
                · rw [hsnd]; exact hr.firm
              have := RStep.mk hRP hbW9 HD.out (cs := #[.slice r.p1 A.now.length r.c1, .slice r.p2 A.safe.length r.c2, .slice r.p3 A.pend.length r.c3, .slice (some ⟨g, 0, none⟩) A.files.length cap, .slice r.p5 A.files.length r.c5, .int .i64 (A.room : Int), .slice r.p6 A.fails.length r.c6, .int .i64 A.power, .int .i64 ((A.steps : Int) + 1)]) (by rw [hA1]; simp [stC, tk])
              rw [hW9] at this
              exact this
            · have q0 : (0 : Int) < (n : Int) := by omega
              have q1 : 0 < n := by omega
              obtain ⟨u, hu⟩ : ∃ u, u = usedP A := ⟨_, rfl⟩
              have hul : u ≤ 140737488351232 := by rw [hu]; exact hfit.used
              have hrl := hfit.room
              have HWR := Lib.hid (show IntKind.i64.wrap ((u : Int) + (n : Int)) = (u : Int) + (n : Int) by rw [IntKind.wrap_i64]; omega)
              obtain ⟨S, hS⟩ : ∃ S : World → Prop, S = fun W => W.cell? ⟨w.heap.size, 0, none⟩ = some (.slice r.p1 A.now.length r.c1) ∧ W.cell? ⟨w.heap.size, 1, none⟩ = some (.slice r.p2 A.safe.length r.c2) ∧ W.cell? ⟨w.heap.size, 2, none⟩ = some (.slice r.p3 A.pend.length r.c3) ∧ W.cell? ⟨w.heap.size, 3, none⟩ = some (.slice r.p4 A.files.length r.c4) ∧ W.cell? ⟨w.heap.size, 4, none⟩ = some (.slice r.p5 A.files.length r.c5) ∧ W.cell? ⟨w.heap.size, 5, none⟩ = some (.int .i64 (A.room : Int)) ∧ W.cell? ⟨w.heap.size, 6, none⟩ = some (.slice r.p6 A.fails.length r.c6) ∧ W.cell? ⟨w.heap.size, 7, none⟩ = some (.int .i64 A.power) ∧ W.cell? ⟨w.heap.size, 8, none⟩ = some (.int .i64 ((A.steps : Int) + 1)) ∧ W.cell? ⟨w.heap.size + 1, 3, none⟩ = some (.slice q n c) := ⟨_, rfl⟩
              have HSS := Lib.hid (fun W => show S W ↔ W.cell? ⟨w.heap.size, 0, none⟩ = some (.slice r.p1 A.now.length r.c1) ∧ W.cell? ⟨w.heap.size, 1, none⟩ = some (.slice r.p2 A.safe.length r.c2) ∧ W.cell? ⟨w.heap.size, 2, none⟩ = some (.slice r.p3 A.pend.length r.c3) ∧ W.cell? ⟨w.heap.size, 3, none⟩ = some (.slice r.p4 A.files.length r.c4) ∧ W.cell? ⟨w.heap.size, 4, none⟩ = some (.slice r.p5 A.files.length r.c5) ∧ W.cell? ⟨w.heap.size, 5, none⟩ = some (.int .i64 (A.room : Int)) ∧ W.cell? ⟨w.heap.size, 6, none⟩ = some (.slice r.p6 A.fails.length r.c6) ∧ W.cell? ⟨w.heap.size, 7, none⟩ = some (.int .i64 A.power) ∧ W.cell? ⟨w.heap.size, 8, none⟩ = some (.int .i64 ((A.steps : Int) + 1)) ∧ W.cell? ⟨w.heap.size + 1, 3, none⟩ = some (.slice q n c) by rw [hS])
              have step : ∀ W, Below w4.heap.size w4 W → S W := fun W hb => by
                have hf := hf4.below hb
                obtain ⟨e0, e1, e2, e3, e4, e5, e6, e7, e8, _⟩ := st9v hf.s
                obtain ⟨_, _, _, y3⟩ := op4v hf.o
                rw [hS]
                exact ⟨e0, e1, e2, e3, e4, e5, e6, e7, e8, y3⟩
              have HK0 := Lib.hid (step w4.drew (Below.refl _ w4).drew)
              have HUS := Lib.hid (show Calls Tryz.prog 54 #[.agg #[.slice r.p1 A.now.length r.c1, .slice r.p2 A.safe.length r.c2, .slice r.p3 A.pend.length r.c3, .slice r.p4 A.files.length r.c4, .slice r.p5 A.files.length r.c5, .int .i64 (A.room : Int), .slice r.p6 A.fails.length r.c6, .int .i64 A.power, .int .i64 ((A.steps : Int) + 1)]] w4.drew fun e w' => e = .returned (.int .i64 (u : Int)) ∧ S w' ∧ Below w4.heap.size w4 w' from
                (refUsed_any r (tk A) w4.drew ((HRB.out.plain.below hf4.b).below (Below.refl _ w4).drew) hfit.now hI.fnow (by show usedP A ≤ _; omega)).mono fun e w' ⟨h1, h2⟩ => by
                  have hb : Below w4.heap.size w4 w' := ((Below.refl _ w4).drew).trans h2
                  exact ⟨by rw [h1, hu]; rfl, step _ hb, hb⟩)
              have HU := Lib.hid hu
              clear hS step hf4 hu
              by_cases hfull : A.room < u + n
              · have i1 : (A.room : Int) < (u : Int) + (n : Int) := by omega
                have HD := Lib.hid (show doP A (opOf 2 na.data.toList nb.data.toList l) = (tk A, 92) from by
                  rw [show opOf 2 na.data.toList nb.data.toList l = .append na.data.toList l from rfl, doP_append, HON.out, HT.out.1, if_neg (by simp), if_pos ⟨by omega, by rw [← HU.out]; omega⟩])
                go_wp2_with fail
                go_region_held3 (fun W => W.cell? ⟨w.heap.size, 0, none⟩ = some (.slice r.p1 A.now.length r.c1) ∧ W.cell? ⟨w.heap.size, 1, none⟩ = some (.slice r.p2 A.safe.length r.c2) ∧ W.cell? ⟨w.heap.size, 2, none⟩ = some (.slice r.p3 A.pend.length r.c3) ∧ W.cell? ⟨w.heap.size, 3, none⟩ = some (.slice r.p4 A.files.length r.c4) ∧ W.cell? ⟨w.heap.size, 4, none⟩ = some (.slice r.p5 A.files.length r.c5) ∧ W.cell? ⟨w.heap.size, 5, none⟩ = some (.int .i64 (A.room : Int)) ∧ W.cell? ⟨w.heap.size, 6, none⟩ = some (.slice r.p6 A.fails.length r.c6) ∧ W.cell? ⟨w.heap.size, 7, none⟩ = some (.int .i64 A.power) ∧ W.cell? ⟨w.heap.size, 8, none⟩ = some (.int .i64 ((A.steps : Int) + 1)) ∧ W.cell? ⟨w.heap.size + 1, 3, none⟩ = some (.slice q n c))
                  (first | (with_reducible exact (HSS.out _).1 HK0.out) | (with_reducible exact (HSS.out _).1 HK1.out))
                  (first | (go_at_call 54; with_reducible refine HUS.out.mono ?_; rintro e5 w5 ⟨rfl, hk1, hb5⟩; have HK1 := Lib.hid hk1; have HB5 := Lib.hid hb5; clear hk1 hb5))
                all_goals
                  rw [HWR.out, decide_eq_true i1]
                  have hf5 := H4.out.below HB5.out
                  obtain ⟨a0, a1, a2, a3, a4, a5, a6, a7, a8, af⟩ := st9v hf5.s
                  obtain ⟨z0, z1, z2, z3, z4, z5, z6, z7, z8, zf⟩ := st9v hf5.z
                  have H5 := Lib.hid hf5
                  clear hf5
                  go_wp2_with fail
                  refine bodyPost_ret (v := .tuple #[.agg #[.slice r.p1 A.now.length r.c1, .slice r.p2 A.safe.length r.c2, .slice r.p3 A.pend.length r.c3, .slice r.p4 A.files.length r.c4, .slice r.p5 A.files.length r.c5, .int .i64 (A.room : Int), .slice r.p6 A.fails.length r.c6, .int .i64 A.power, .int .i64 ((A.steps : Int) + 1)], .int .i64 92]) (by simp [results, Tryz.results51, go_sem, z0, z1, z2, z3, z4, z5, z6, z7, z8]) rfl ?_
                  exact RStep.same HRB.out H5.out.b HD.out _ _ _ _ _ _ _ _ _
              · have i1 : ¬ (A.room : Int) < (u : Int) + (n : Int) := by omega
                have HNF := Lib.hid (show ¬ (0 < l.length ∧ A.room < usedP A + l.length) from fun e => hfull (by have := e.2; rw [← HU.out, hn] at this; exact this))
                go_wp2_with fail
                go_region_held3 (fun W => W.cell? ⟨w.heap.size, 0, none⟩ = some (.slice r.p1 A.now.length r.c1) ∧ W.cell? ⟨w.heap.size, 1, none⟩ = some (.slice r.p2 A.safe.length r.c2) ∧ W.cell? ⟨w.heap.size, 2, none⟩ = some (.slice r.p3 A.pend.length r.c3) ∧ W.cell? ⟨w.heap.size, 3, none⟩ = some (.slice r.p4 A.files.length r.c4) ∧ W.cell? ⟨w.heap.size, 4, none⟩ = some (.slice r.p5 A.files.length r.c5) ∧ W.cell? ⟨w.heap.size, 5, none⟩ = some (.int .i64 (A.room : Int)) ∧ W.cell? ⟨w.heap.size, 6, none⟩ = some (.slice r.p6 A.fails.length r.c6) ∧ W.cell? ⟨w.heap.size, 7, none⟩ = some (.int .i64 A.power) ∧ W.cell? ⟨w.heap.size, 8, none⟩ = some (.int .i64 ((A.steps : Int) + 1)) ∧ W.cell? ⟨w.heap.size + 1, 3, none⟩ = some (.slice q n c))
                  (first | (with_reducible exact (HSS.out _).1 HK0.out) | (with_reducible exact (HSS.out _).1 HK1.out))
                  (first | (go_at_call 54; with_reducible refine HUS.out.mono ?_; rintro e5 wu ⟨rfl, hk1, hb5⟩; have HK1 := Lib.hid hk1; have HB5 := Lib.hid hb5; clear hk1 hb5))
                all_goals
                  rw [HWR.out, decide_eq_false (show ¬ (A.room : Int) < (u : Int) + (n : Int) by omega)]
                  have hfu := H4.out.below HB5.out
                  clear i1 hfull q0 q1
                  obtain ⟨vsD, hD1, hD2, hD3⟩ := HG0.out.2.data
                  have hD1 := hD1.keeps HG0.out.1.keeps
                  have hDone : ∀ u ∈ vsD, u.oneCell' = true := fun u hu => by
                    obtain ⟨i, hi, e⟩ := List.getElem_of_mem hu
                    rw [← e]
                    exact (hD3 i _ ((A.files.map (·.1))[i]'(by rw [← hD2]; exact hi)) (List.getElem?_eq_getElem hi) (List.getElem?_eq_getElem (by rw [← hD2]; exact hi))).one
                  have hfil : f < vsD.length := by rw [hD2, List.length_map]; exact hfl
                  obtain ⟨B9, hB9⟩ : ∃ B9, B9 = datP A f := ⟨_, rfl⟩
                  have hBf : (A.files.map (·.1))[f]? = some B9 := by rw [hB9]; unfold datP; rw [List.getElem?_map, List.getElem?_eq_getElem hfl]; rfl
                  obtain ⟨q9, c9, hv9, hq9, hm9l, hin9, _⟩ := hD3 f _ _ (List.getElem?_eq_getElem hfil) hBf
                  have hgv : vsD[f]? = some (.slice q9 B9.length c9) := by rw [List.getElem?_eq_getElem hfil, hv9]
                  have hB9l : B9.length ≤ 140737488351232 := by
                    have := hfit.used
                    have h2 := lenF_used (lookN_mem _ _ _ HLK.out)
                    rw [hB9]
                    unfold datP
                    unfold lenF at h2
                    rw [List.getElem?_eq_getElem hfl] at h2 ⊢
                    simp only [Option.map_some, Option.getD_some] at h2 ⊢
                    omega
                  have hin9 := hin9.keeps HG0.out.1.keeps
                  have HD3 := Lib.hid (And.intro hD3 (And.intro hD2 hBf))
                  clear hD3
                  rw [List.length_map] at hD2
                  have hfz := hfit.files
                  have hs4 := hfu.size
                  have hf1 := hfu.alloc (.cells #[] 22)
                  have c13 := (st9v hf1.s).2.2.2.1
                  have hown0 := ownR_made 22 wu
                  have hsD := srcV (c := r.c4) (e := 22) Tryz.underlying49 (hD1.below hf1.b) hDone
                  rw [hD2] at hsD
                  obtain ⟨A1, hA1⟩ : ∃ A1 : Pl, A1 = { tk A with files := A.files.modify f fun x => (x.1 ++ l, x.2) } := ⟨_, rfl⟩
                  have HD := Lib.hid (show doP A (opOf 2 na.data.toList nb.data.toList l) = (A1, 0) from by
                    rw [show opOf 2 na.data.toList nb.data.toList l = .append na.data.toList l from rfl, doP_append, HON.out, HAT.out, HT.out.1, hA1, if_neg (by simp), if_neg HNF.out]
                    all_goals simp [tk])
                  have HM := Lib.hid (And.intro hB9 hA1)
                  have HX := Lib.hid (And.intro hf1 (And.intro hin9 hgv))
                  have HQ9 := Lib.hid hin
                  clear hD1 hD2 hDone hf1 hA1 hB9 hBf hv9 hin9 hgv hfil hq9 hm9l
                  go_wp2_with (
                    at_builtin; (
                    refine wpList_append_way _ rfl _ _ 49 49 rfl wu.heap.size 22 (.slice none 0 0) 1 24 Tryz.underlying49 infoB9 rfl _ 0 [] rfl hown0 _ A.files.length vsD rfl hsD (by unfold maxLen; omega) (by omega) (by simp) ?_
                    intro d1 x2 hod1 hgd1 _
                    have hf2 := HX.out.1.grown hgd1 (fun g e => by have := Option.some.inj (show some wu.heap.size = some g from e); omega)
                    rw [List.nil_append, Nat.zero_add] at hod1
                    have hd1lt := World.ownsRow.lt hod1
                    obtain ⟨g, cap, rfl⟩ := own_form9 hod1 (show 0 < A.files.length by omega)
                    have hgl := hd1lt g rfl
                    have hce := World.ownsRow.cellAt hod1 f (by omega)
                    rw [HX.out.2.2] at hce
                    obtain ⟨b0, b1, b2, b3⟩ := op4v hf2.o
                    have hin2 := HX.out.2.1.below hf2.b
                    have hcp := copyBytes_any B9 q9 _ c9 rfl (by omega) x2 hin2
                    have H2 := Lib.hid (And.intro hf2 (And.intro hod1 hgl))
                    clear hgd1 hown0 hod1 hd1lt hf2 hin2))
                  refine hcp.mono ?_
                  rintro e5 x3 ⟨v5, rfl, hown5, hb5⟩
                  clear hcp
                  have hf3 := H2.out.1.below hb5
                  have hod3 := ownsRow_below H2.out.2.1 hb5
                  obtain ⟨a0, a1, a2, a3, a4, a5, a6, a7, a8, af⟩ := st9v hf3.s
                  obtain ⟨z0, z1, z2, z3, z4, z5, z6, z7, z8, zf⟩ := st9v hf3.z
                  obtain ⟨b0, b1, b2, b3⟩ := op4v hf3.o
                  have hinL := HQ9.out.below hf3.b
                  have hsL := Src.of8 (c := c) hinL
                  rw [hn] at hsL
                  have hgl := H2.out.2.2
                  have hs23 := hb5.size
                  have hs2 := H2.out.1.size
                  have H3 := Lib.hid (And.intro hf3 hod3)
                  obtain ⟨p5, c5', rfl, _⟩ := id hown5.in8n rfl
                  clear hf3 hod3 hb5
                  go_wp2_with (
                    at_builtin; (
                    refine wpList_append_way _ rfl _ _ 22 22 rfl x2.heap.size 5 (.int .u8 0) 1 1 Tryz.underlying22 info8 rfl _ B9.length (by8 B9) rfl hown5 _ n (by8 l) rfl hsL (by unfold maxLen; omega) (by omega) hs23 ?_
                    intro v6 x5 hown6 hgrow6 _
                    have hown6 : Own8 x5 x2.heap.size v6 (B9 ++ l) := by unfold Own8; rw [List.length_append, by8_append, hn]; exact hown6
                    have hne : ∀ k, (some k : Option Nat) = Value.ownBlock (.slice p5 B9.length c5') → x2.heap.size ≤ k := fun k e => (World.ownsRow.lt hown5 k e.symm).1
                    have hf5 := H3.out.1.grown hgrow6 (fun k e => by have := hne k e.symm; omega)
                    have hod5 := apart_kept H3.out.2 hgrow6 (fun k e er => by have h1 := hne k er.symm; have h2 := (World.ownsRow.lt H2.out.2.1 k e).2; omega)
                    obtain ⟨p6, c6, rfl, _⟩ := hown6.in8n (show (B9 ++ l).length = B9.length + n by rw [List.length_append, hn])
                    have hfr := World.ownsRow.frozenAt hod5 f
                    have hce5 := World.ownsRow.cellAt hod5 f (by omega)
                    rw [HX.out.2.2] at hce5
                    obtain ⟨a0, a1, a2, a3, a4, a5, a6, a7, a8, af⟩ := st9v hf5.s
                    obtain ⟨z0, z1, z2, z3, z4, z5, z6, z7, z8, zf⟩ := st9v hf5.z
                    have H5 := Lib.hid (And.intro hf5 (And.intro hod5 hown6))
                    clear hgrow6 hne hf5 hod5 hown6))
                  obtain ⟨hf5, hod5, hown6⟩ := H5.out
                  obtain ⟨hB9, hA1⟩ := HM.out
                  obtain ⟨hD3, hD2, hBf⟩ := HD3.out
                  have hs5 := hf5.size
                  obtain ⟨hod6, hg56⟩ := hod5.stored f (.slice p6 (B9.length + n) c6)
                  have hown7 : Own8 (x5.setCell ⟨g, f, none⟩ (.slice p6 (B9.length + n) c6)) x2.heap.size (.slice p6 (B9.length + n) c6) (B9 ++ l) := apart_kept hown6 hg56 (fun k e er => by have h1 := (World.ownsRow.lt hown6 k e).1; have h2 := Option.some.inj er; omega)
                  have hfb := hf5.b.setCell (p := ⟨g, f, none⟩) (show w.heap.size ≤ g by omega) (.slice p6 (B9.length + n) c6)
                  have hod7 := ownsRow_setCell_below hod6 (a := ⟨w.heap.size, 3, none⟩) (show w.heap.size < wu.heap.size by omega) (.slice (some ⟨g, 0, none⟩) A.files.length cap)
                  have hown8 := ownsRow_setCell_below hown7 (a := ⟨w.heap.size, 3, none⟩) (show w.heap.size < x2.heap.size by omega) (.slice (some ⟨g, 0, none⟩) A.files.length cap)
                  have hfb7 := hfb.setCell (p := ⟨w.heap.size, 3, none⟩) (Nat.le_refl _) (.slice (some ⟨g, 0, none⟩) A.files.length cap)
                  refine bodyPost_ret (v := .tuple #[.agg #[.slice r.p1 A.now.length r.c1, .slice r.p2 A.safe.length r.c2, .slice r.p3 A.pend.length r.c3, .slice (some ⟨g, 0, none⟩) A.files.length cap, .slice r.p5 A.files.length r.c5, .int .i64 (A.room : Int), .slice r.p6 A.fails.length r.c6, .int .i64 A.power, .int .i64 ((A.steps : Int) + 1)], .int .i64 0]) (by simp [results, Tryz.results51, go_sem, z0, z1, z2, z3, z4, z5, z6, z7, z8]) rfl ?_
                  obtain ⟨W9, hW9⟩ : ∃ W9, W9 = put9 ((x5.setCell ⟨g, f, none⟩ (.slice p6 (B9.length + n) c6)).setCell ⟨w.heap.size, 3, none⟩ (.slice (some ⟨g, 0, none⟩) A.files.length cap)) (w.heap.size + 2) (.slice r.p1 A.now.length r.c1) (.slice r.p2 A.safe.length r.c2) (.slice r.p3 A.pend.length r.c3) (.slice (some ⟨g, 0, none⟩) A.files.length cap) (.slice r.p5 A.files.length r.c5) (.int .i64 (A.room : Int)) (.slice r.p6 A.fails.length r.c6) (.int .i64 A.power) (.int .i64 ((A.steps : Int) + 1)) := ⟨_, rfl⟩
                  have hbW9 : Below w.heap.size w W9 := by rw [hW9]; exact put9_below hfb7 (by omega)
                  have qD : W9.ownsRow w.heap.size 22 1 (.slice (some ⟨g, 0, none⟩) A.files.length cap) A.files.length (vsD.set f (.slice p6 (B9.length + n) c6)) := by rw [hW9]; exact ownsRow_mono (ownsRow_put9 hod7 (by omega)) (by omega)
                  have qO : Own8 W9 w.heap.size (.slice p6 (B9.length + n) c6) (B9 ++ l) := by rw [hW9]; exact ownsRow_mono (ownsRow_put9 hown8 (by omega)) (by omega)
                  obtain ⟨g9, hm9⟩ := mask_ex P W9
                  have hkk := HG0.out.1.below hm9 hbW9
                  have hff : A.files[f].1 = B9 := by
                    rw [List.getElem?_map, List.getElem?_eq_getElem hfl] at hBf
                    exact Option.some.inj hBf
                  have hfst : A1.files.map (fun f : BS × Nat => f.1) = (A.files.map (fun f : BS × Nat => f.1)).set f (B9 ++ l) := by
                    rw [hA1]
                    show (A.files.modify f fun x => (x.1 ++ l, x.2)).map _ = _
                    rw [modify_set _ f _ A.files[f] (List.getElem?_eq_getElem hfl), List.map_set, hff]
                  have hsnd : A1.files.map (fun f : BS × Nat => Value.int .i64 (f.2 : Int)) = A.files.map (fun f : BS × Nat => Value.int .i64 (f.2 : Int)) := by
                    rw [hA1]
                    show (A.files.modify f fun x => (x.1 ++ l, x.2)).map _ = _
                    rw [modify_set _ f _ A.files[f] (List.getElem?_eq_getElem hfl), List.map_set]
                    apply List.ext_getElem (by simp)
                    intro i h1 h2
                    rw [List.getElem_set]
                    split
                    · rename_i e; subst e; rw [List.getElem_map]
                    · rfl
                  have hRP : RefP P W9 { r with p4 := some ⟨g, 0, none⟩, c4 := cap } A1 := by
                    obtain ⟨p, c, e, _, _, hin4, _⟩ := owns_shape (hm9.owns qD hP)
                    injection e with e1 _ _
                    subst e1
                    have hr := HG0.out.2.keeps hkk
                    refine ⟨g9, hm9, ⟨by rw [hA1]; exact hr.now, by rw [hA1]; exact hr.safe, by rw [hA1]; exact hr.pend, ?_, ?_, by rw [hA1]; exact hr.fails⟩⟩
                    · rw [hfst]
                      exact InR.put hD2 (fun i u x hu hx => (hD3 i u x hu hx).keeps hkk) hin4 (Own8.datV (show Own8 g9 w.heap.size (.slice p6 (B9.length + n) c6) (B9 ++ l) from hm9.owns qO hP))
                    · rw [hsnd]; exact hr.firm
                  have := RStep.mk hRP hbW9 HD.out (cs := #[.slice r.p1 A.now.length r.c1, .slice r.p2 A.safe.length r.c2, .slice r.p3 A.pend.length r.c3, .slice (some ⟨g, 0, none⟩) A.files.length cap, .slice r.p5 A.files.length r.c5, .int .i64 (A.room : Int), .slice r.p6 A.fails.length r.c6, .int .i64 A.power, .int .i64 ((A.steps : Int) + 1)]) (by rw [hA1]; simp [stC, tk])
                  rw [hW9] at this
                  exact this
end Go.Proofs.YtheoklhmlnfgjaaGreatDoor
