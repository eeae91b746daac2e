/-
  The document's disk: Step: SyncNames.
-/
import Derived.Test.YtheoklhmlnfgjaaGreatDoorPk5
namespace Go.Proofs.YtheoklhmlnfgjaaGreatDoor
open Go.RowKit Go.Maps
set_option linter.unusedVariables false

set_option maxRecDepth 100000 in
set_option maxHeartbeats 4000000 in
theorem refStep4_any (P : Nat → Prop) (r : RC) (A : Pl) (na nb : ByteArray) (l : BS) (q : Option Addr) (n c : Nat) (hn : l.length = n) (w : World) (hP : ∀ g, P g → g < w.heap.size) (h : RefP P w r A) (hin : In8 w q l) (hI : Inv A) (hfit : FitP A) (hna : na.size ≤ 140737488351232) (hnb : nb.size ≤ 140737488351232) (hl : n ≤ 1000000000) :
    Calls Tryz.prog 51 #[.agg (stC r A), .agg #[.int .i64 4, .string na, .string nb, .slice q n c]] w (RStep P w A (opOf 4 na.data.toList nb.data.toList l)) := by
  show Calls Tryz.prog 51 #[.agg #[.slice r.p1 A.now.length r.c1, .slice r.p2 A.safe.length r.c2, .slice r.p3 A.pend.length r.c3, .slice r.p4 A.files.length r.c4, .slice r.p5 A.files.length r.c5, .int .i64 (A.room : Int), .slice r.p6 A.fails.length r.c6, .int .i64 A.power, .int .i64 (A.steps : Int)], .agg #[.int .i64 4, .string na, .string nb, .slice q n c]] w _
  have hdn := fun W => refDown_any r A W
  unfold stC at hdn
  obtain ⟨wa, hwa⟩ : ∃ x, x = ((w.alloc (.cells #[.slice r.p1 A.now.length r.c1, .slice r.p2 A.safe.length r.c2, .slice r.p3 A.pend.length r.c3, .slice r.p4 A.files.length r.c4, .slice r.p5 A.files.length r.c5, .int .i64 (A.room : Int), .slice r.p6 A.fails.length r.c6, .int .i64 A.power, .int .i64 (A.steps : Int)] 51)).alloc (.cells #[.int .i64 4, .string na, .string nb, .slice q n c] 104)).alloc (.cells #[.slice none 0 0, .slice none 0 0, .slice none 0 0, .slice none 0 0, .slice none 0 0, .int .i64 0, .slice none 0 0, .int .i64 0, .int .i64 0] 51) := ⟨_, rfl⟩
  have hfr : Fr w wa #[.slice r.p1 A.now.length r.c1, .slice r.p2 A.safe.length r.c2, .slice r.p3 A.pend.length r.c3, .slice r.p4 A.files.length r.c4, .slice r.p5 A.files.length r.c5, .int .i64 (A.room : Int), .slice r.p6 A.fails.length r.c6, .int .i64 A.power, .int .i64 (A.steps : Int)] #[.int .i64 4, .string na, .string nb, .slice q n c] := by rw [hwa]; exact Fr.start _ _ _
  have HW := Lib.hid hwa
  obtain ⟨g0, hm0, hr0⟩ := id h
  have HG0 := Lib.hid (And.intro hm0 hr0)
  have HFR := Lib.hid (And.intro hfr h)
  clear hwa hfr h hm0 hr0
  cases hdown : downP A with
  | true =>
    rw [hdown] at hdn
    have HD := Lib.hid (show ∀ o, doP A o = (A, 93) from fun o => by
      have hb : ∀ L, begP A L = 93 := fun L => by unfold begP; rw [if_pos hdown]
      have ht : tickP A = A := by unfold tickP; rw [if_pos hdown]
      have ho : ∀ L k, onP A L k = 93 := fun L k => by unfold onP; rw [hb, if_pos (by decide)]
      cases o with
      | create k => rw [doP_create, hb, if_pos (by decide), ht]
      | append k d => rw [doP_append, ho, if_pos (by decide), ht]
      | sync k => rw [doP_sync, ho, if_pos (by decide), ht]
      | names => rw [doP_names, hb, if_pos (by decide), ht]
      | rename a b => rw [doP_rename, ho, if_pos (by decide), ht]
      | remove k => rw [doP_remove, ho, if_pos (by decide), ht])
    clear hdown
    go_enter Tryz.func51, Tryz.ntmps51
    go_wp2_with fail
    refine (hdn _).mono ?_
    rw [← HW.out]
    rintro e w1 ⟨rfl, hb1⟩
    have hf1 := HFR.out.1.below hb1
    obtain ⟨a0, a1, a2, a3, a4, a5, a6, a7, a8, af⟩ := st9v hf1.s
    obtain ⟨z0, z1, z2, z3, z4, z5, z6, z7, z8, zf⟩ := st9v hf1.z
    have H1 := Lib.hid hf1
    clear hf1 hb1 hdn
    go_wp2_with fail
    refine bodyPost_ret (v := .tuple #[.agg #[.slice r.p1 A.now.length r.c1, .slice r.p2 A.safe.length r.c2, .slice r.p3 A.pend.length r.c3, .slice r.p4 A.files.length r.c4, .slice r.p5 A.files.length r.c5, .int .i64 (A.room : Int), .slice r.p6 A.fails.length r.c6, .int .i64 A.power, .int .i64 (A.steps : Int)], .int .i64 93]) (by simp [results, Tryz.results51, go_sem, z0, z1, z2, z3, z4, z5, z6, z7, z8]) rfl ?_
    exact RStep.same HFR.out.2 H1.out.b (HD.out _) _ _ _ _ _ _ _ _ _
  | false =>
    rw [hdown] at hdn
    have htick : tickP A = tk A := by unfold tickP tk; rw [if_neg (by rw [hdown]; simp)]
    have hst : A.steps ≤ 1000000 := hfit.steps
    have HT := Lib.hid (And.intro htick hdown)
    clear hdown htick
    go_enter Tryz.func51, Tryz.ntmps51
    go_wp2_with fail
    refine (hdn _).mono ?_
    rw [← HW.out]
    rintro e w1 ⟨rfl, hb1⟩
    have hf1 := HFR.out.1.below hb1
    obtain ⟨a0, a1, a2, a3, a4, a5, a6, a7, a8, af⟩ := st9v hf1.s
    have hf2 := hf1.set 8 (.int .i64 ((A.steps : Int) + 1))
    obtain ⟨w2, hw2⟩ : ∃ x, x = w1.setCell ⟨w.heap.size, 8, none⟩ (.int .i64 ((A.steps : Int) + 1)) := ⟨_, rfl⟩
    rw [← hw2] at hf2
    have HW2 := Lib.hid hw2
    have H2 := Lib.hid hf2
    clear hw2 hf1 hf2 hb1 hdn
    have HRB := Lib.hid (HFR.out.2.parts (A' := tk A) fun g _ hg => hg.steps _)
    have HCB := Lib.hid (show A.fails.contains ((A.steps : Int) + 1) = true → ∀ o, doP A o = (tk A, 94) from fun hc o => by
      have hb : ∀ L, begP A L = 94 := fun L => by unfold begP; rw [if_neg (by rw [HT.out.2]; simp), if_pos hc]
      have ho : ∀ L k, onP A L k = 94 := fun L k => by unfold onP; rw [hb, if_pos (by decide)]
      have ht := HT.out.1
      cases o with
      | create k => rw [doP_create, hb, if_pos (by decide), ht]
      | append k d => rw [doP_append, ho, if_pos (by decide), ht]
      | sync k => rw [doP_sync, ho, if_pos (by decide), ht]
      | names => rw [doP_names, hb, if_pos (by decide), ht]
      | rename a b => rw [doP_rename, ho, if_pos (by decide), ht]
      | remove k => rw [doP_remove, ho, if_pos (by decide), ht])
    have hfl := hfit.fails
    go_wp2_with fail
    rw [← HW2.out]
    go_loopw [6] (fun i wr => ∃ k : Nat, k ≤ A.fails.length ∧ i = .int .i64 k ∧ (A.fails.take k).contains ((A.steps : Int) + 1) = false ∧ Below w2.heap.size w2 wr) (fun i _ => A.fails.length - (intOf i).toNat)
    case atStart => exact ⟨0, Nat.zero_le _, rfl, rfl, Below.refl _ _⟩
    case round =>
      obtain ⟨k, hk, rfl, hno, hb⟩ := hrel
      have hfr := H2.out.below hb
      obtain ⟨a0, a1, a2, a3, a4, a5, a6, a7, a8, af⟩ := st9v hfr.s
      by_cases hlt : k < A.fails.length
      · obtain ⟨b, o, hp6, hc⟩ := ((HFR.out.2.plain.fails.below H2.out.b).below hb).at (k := k) (by simpa using hlt)
        have hx := hc k (by simpa using hlt)
        rw [List.getElem_map] at hx
        have HSN := Lib.hid (fun hne => contains_take hlt hno hne)
        have HAT := Lib.hid (fun he => contains_at (Z := A.fails) (k := k) (x := (A.steps : Int) + 1) hlt he)
        rw [hp6] at a6
        have HP6 := Lib.hid hp6
        clear hp6 hc hno
        generalize A.fails[k] = x at hx HSN HAT
        by_cases he : x = (A.steps : Int) + 1
        · have hq : (x == (A.steps : Int) + 1) = true := beq_iff_eq.2 he
          have HD := Lib.hid (HCB.out (HAT.out he))
          obtain ⟨z0, z1, z2, z3, z4, z5, z6, z7, z8, zf⟩ := st9v hfr.z
          have HH := Lib.hid (And.intro hfr hb)
          clear he hfr hb
          go_wp2_with fail
          go_quiet (fail)
          go_wp2_with fail
          have hfb := HH.out.1.b.trans ((bdrewN (Below.refl _ wr) nq).mono HH.out.1.b.size)
          refine bodyPost_ret (v := .tuple #[.agg #[.slice r.p1 A.now.length r.c1, .slice r.p2 A.safe.length r.c2, .slice r.p3 A.pend.length r.c3, .slice r.p4 A.files.length r.c4, .slice r.p5 A.files.length r.c5, .int .i64 (A.room : Int), .slice r.p6 A.fails.length r.c6, .int .i64 A.power, .int .i64 ((A.steps : Int) + 1)], .int .i64 94]) (by rw [HP6.out]; simp [results, Tryz.results51, go_sem, z0, z1, z2, z3, z4, z5, z6, z7, z8]) rfl ?_
          rw [HP6.out]
          have := RStep.same HRB.out hfb (HD.out (opOf 4 na.data.toList nb.data.toList l)) (.slice r.p1 A.now.length r.c1) (.slice r.p2 A.safe.length r.c2) (.slice r.p3 A.pend.length r.c3) (.slice r.p4 A.files.length r.c4) (.slice r.p5 A.files.length r.c5) (.int .i64 (A.room : Int)) (.slice r.p6 A.fails.length r.c6) (.int .i64 A.power) (.int .i64 ((A.steps : Int) + 1))
          unfold stC at this
          rw [HP6.out] at this
          exact this
        · have hq : (x == (A.steps : Int) + 1) = false := beq_eq_false_iff_ne.2 he
          have HNE := Lib.hid (HSN.out he)
          have HB := Lib.hid hb
          clear he hb hfr
          go_wp2_with fail
          go_quiet (fail)
          go_wp2_with fail
          go_roundw
          case rel => exact ⟨k + 1, by omega, by go_num, HNE.out, bdrewN HB.out _⟩
          case measure => simp [intOf]; omega
      · obtain rfl : k = A.fails.length := by omega
        rw [List.take_length] at hno
        have HBEG := Lib.hid (show ∀ L, begP A L = if L.any badN = true then 95 else 0 from fun L => by unfold begP; rw [if_neg (by rw [HT.out.2]; simp), if_neg (by rw [hno]; simp)])
        obtain ⟨wo, hwo⟩ : ∃ x, x = wr := ⟨_, rfl⟩
        subst hwo
        have HH := Lib.hid hfr
        obtain ⟨b0, b1, b2, b3⟩ := op4v hfr.o
        have hgA := fun W => refGood_any na W hna
        have hgB := fun W => refGood_any nb W hnb
        clear hno hfr hb
        have hat := fun W (hW : Below w.heap.size w W) => show Calls Tryz.prog 83 #[.agg #[.slice r.p1 A.now.length r.c1, .slice r.p2 A.safe.length r.c2, .slice r.p3 A.pend.length r.c3, .slice r.p4 A.files.length r.c4, .slice r.p5 A.files.length r.c5, .int .i64 (A.room : Int), .slice r.p6 A.fails.length r.c6, .int .i64 A.power, .int .i64 ((A.steps : Int) + 1)], .string na] W fun e w' => e = .returned (.int .i64 (atI A.now na.data.toList)) ∧ Below W.heap.size W w' from refAt_any r (tk A) na W (HFR.out.2.plain.now.below hW) hfit.now
        have hat3 := hat wo HH.out.b
        have hf3 := HH.out
        have H3 := Lib.hid hf3
        clear hgA hgB hat hf3
        go_wp2_with fail
        refine hat3.mono ?_
        rintro e4 w4 ⟨rfl, hb4⟩
        have hf4 := H3.out.below hb4
        obtain ⟨a0, a1, a2, a3, a4, a5, a6, a7, a8, af⟩ := st9v hf4.s
        obtain ⟨b0, b1, b2, b3⟩ := op4v hf4.o
        obtain ⟨z0, z1, z2, z3, z4, z5, z6, z7, z8, zf⟩ := st9v hf4.z
        have H4 := Lib.hid hf4
        have hHB := HBEG.out []
        clear hat3 hb4
        obtain ⟨ka, hka⟩ : ∃ ka, ka = atI A.now na.data.toList := ⟨_, rfl⟩
        rw [← hka]
        clear hka
        obtain ⟨A1, hA1⟩ : ∃ A1 : Pl, A1 = { tk A with safe := A.now, pend := [] } := ⟨_, rfl⟩
        have HD := Lib.hid (show doP A (opOf 4 na.data.toList nb.data.toList l) = (A1, 0) from by
          rw [show opOf 4 na.data.toList nb.data.toList l = .names from rfl, doP_names, hHB, HT.out.1, hA1]
          simp [tk])
        have HA1 := Lib.hid hA1
        clear hHB hA1 hf4
        by_cases hka : ka < 0
        · have q1 : decide (ka < 0) = true := decide_eq_true hka
          go_wp2_with fail
          obtain ⟨W9, hW9⟩ : ∃ W9, W9 = put9 ((w4.setCell ⟨w.heap.size, 1, none⟩ (.slice r.p1 A.now.length r.c1)).setCell ⟨w.heap.size, 2, none⟩ (.slice none 0 0)) (w.heap.size + 2) (.slice r.p1 A.now.length r.c1) (.slice r.p1 A.now.length r.c1) (.slice none 0 0) (.slice r.p4 A.files.length r.c4) (.slice r.p5 A.files.length r.c5) (.int .i64 (A.room : Int)) (.slice r.p6 A.fails.length r.c6) (.int .i64 A.power) (.int .i64 ((A.steps : Int) + 1)) := ⟨_, rfl⟩
          have hbW9 : Below w.heap.size w W9 := by
            rw [hW9]
            exact put9_below ((H4.out.b.setCell (p := ⟨w.heap.size, 1, none⟩) (Nat.le_refl _) _).setCell (p := ⟨w.heap.size, 2, none⟩) (Nat.le_refl _) _) (by omega)
          refine bodyPost_ret (v := .tuple #[.agg #[.slice r.p1 A.now.length r.c1, .slice r.p1 A.now.length r.c1, .slice none 0 0, .slice r.p4 A.files.length r.c4, .slice r.p5 A.files.length r.c5, .int .i64 (A.room : Int), .slice r.p6 A.fails.length r.c6, .int .i64 A.power, .int .i64 ((A.steps : Int) + 1)], .int .i64 0]) (by simp [results, Tryz.results51, go_sem, z0, z1, z2, z3, z4, z5, z6, z7, z8]) rfl ?_
          have hRP : RefP P W9 { r with p2 := r.p1, c2 := r.c1, p3 := none, c3 := 0 } A1 := (HFR.out.2.below hbW9).parts fun g _ hg => by
            rw [HA1.out]
            exact ⟨hg.now, hg.now, InR.nil _ _ _, hg.data, hg.firm, hg.fails⟩
          have := RStep.mk hRP hbW9 HD.out (cs := #[.slice r.p1 A.now.length r.c1, .slice r.p1 A.now.length r.c1, .slice none 0 0, .slice r.p4 A.files.length r.c4, .slice r.p5 A.files.length r.c5, .int .i64 (A.room : Int), .slice r.p6 A.fails.length r.c6, .int .i64 A.power, .int .i64 ((A.steps : Int) + 1)]) (by rw [HA1.out]; simp [stC, tk])
          rw [hW9] at this
          exact this
        · have q1 : decide (ka < 0) = false := decide_eq_false hka
          go_wp2_with fail
          obtain ⟨W9, hW9⟩ : ∃ W9, W9 = put9 ((w4.setCell ⟨w.heap.size, 1, none⟩ (.slice r.p1 A.now.length r.c1)).setCell ⟨w.heap.size, 2, none⟩ (.slice none 0 0)) (w.heap.size + 2) (.slice r.p1 A.now.length r.c1) (.slice r.p1 A.now.length r.c1) (.slice none 0 0) (.slice r.p4 A.files.length r.c4) (.slice r.p5 A.files.length r.c5) (.int .i64 (A.room : Int)) (.slice r.p6 A.fails.length r.c6) (.int .i64 A.power) (.int .i64 ((A.steps : Int) + 1)) := ⟨_, rfl⟩
          have hbW9 : Below w.heap.size w W9 := by
            rw [hW9]
            exact put9_below ((H4.out.b.setCell (p := ⟨w.heap.size, 1, none⟩) (Nat.le_refl _) _).setCell (p := ⟨w.heap.size, 2, none⟩) (Nat.le_refl _) _) (by omega)
          refine bodyPost_ret (v := .tuple #[.agg #[.slice r.p1 A.now.length r.c1, .slice r.p1 A.now.length r.c1, .slice none 0 0, .slice r.p4 A.files.length r.c4, .slice r.p5 A.files.length r.c5, .int .i64 (A.room : Int), .slice r.p6 A.fails.length r.c6, .int .i64 A.power, .int .i64 ((A.steps : Int) + 1)], .int .i64 0]) (by simp [results, Tryz.results51, go_sem, z0, z1, z2, z3, z4, z5, z6, z7, z8]) rfl ?_
          have hRP : RefP P W9 { r with p2 := r.p1, c2 := r.c1, p3 := none, c3 := 0 } A1 := (HFR.out.2.below hbW9).parts fun g _ hg => by
            rw [HA1.out]
            exact ⟨hg.now, hg.now, InR.nil _ _ _, hg.data, hg.firm, hg.fails⟩
          have := RStep.mk hRP hbW9 HD.out (cs := #[.slice r.p1 A.now.length r.c1, .slice r.p1 A.now.length r.c1, .slice none 0 0, .slice r.p4 A.files.length r.c4, .slice r.p5 A.files.length r.c5, .int .i64 (A.room : Int), .slice r.p6 A.fails.length r.c6, .int .i64 A.power, .int .i64 ((A.steps : Int) + 1)]) (by rw [HA1.out]; simp [stC, tk])
          rw [hW9] at this
          exact this
end Go.Proofs.YtheoklhmlnfgjaaGreatDoor
