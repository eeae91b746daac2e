/-
  The document's disk: Step: Create.
-/
import Derived.Test.YtheoklhmlnfgjaaGreatDoorPk5
namespace Go.Proofs.YtheoklhmlnfgjaaGreatDoor
open Go.RowKit Go.Maps
set_option linter.unusedVariables false

set_option maxRecDepth 100000 in
set_option maxHeartbeats 4000000 in
theorem refStep1_any (P : Nat → Prop) (r : RC) (A : Pl) (na nb : ByteArray) (l : BS) (q : Option Addr) (n c : Nat) (hn : l.length = n) (w : World) (hP : ∀ g, P g → g < w.heap.size) (h : RefP P w r A) (hin : In8 w q l) (hI : Inv A) (hfit : FitP A) (hna : na.size ≤ 140737488351232) (hnb : nb.size ≤ 140737488351232) (hl : n ≤ 1000000000) :
    Calls Tryz.prog 51 #[.agg (stC r A), .agg #[.int .i64 1, .string na, .string nb, .slice q n c]] w (RStep P w A (opOf 1 na.data.toList nb.data.toList l)) := by
  show Calls Tryz.prog 51 #[.agg #[.slice r.p1 A.now.length r.c1, .slice r.p2 A.safe.length r.c2, .slice r.p3 A.pend.length r.c3, .slice r.p4 A.files.length r.c4, .slice r.p5 A.files.length r.c5, .int .i64 (A.room : Int), .slice r.p6 A.fails.length r.c6, .int .i64 A.power, .int .i64 (A.steps : Int)], .agg #[.int .i64 1, .string na, .string nb, .slice q n c]] w _
  have hdn := fun W => refDown_any r A W
  unfold stC at hdn
  obtain ⟨wa, hwa⟩ : ∃ x, x = ((w.alloc (.cells #[.slice r.p1 A.now.length r.c1, .slice r.p2 A.safe.length r.c2, .slice r.p3 A.pend.length r.c3, .slice r.p4 A.files.length r.c4, .slice r.p5 A.files.length r.c5, .int .i64 (A.room : Int), .slice r.p6 A.fails.length r.c6, .int .i64 A.power, .int .i64 (A.steps : Int)] 51)).alloc (.cells #[.int .i64 1, .string na, .string nb, .slice q n c] 104)).alloc (.cells #[.slice none 0 0, .slice none 0 0, .slice none 0 0, .slice none 0 0, .slice none 0 0, .int .i64 0, .slice none 0 0, .int .i64 0, .int .i64 0] 51) := ⟨_, rfl⟩
  have hfr : Fr w wa #[.slice r.p1 A.now.length r.c1, .slice r.p2 A.safe.length r.c2, .slice r.p3 A.pend.length r.c3, .slice r.p4 A.files.length r.c4, .slice r.p5 A.files.length r.c5, .int .i64 (A.room : Int), .slice r.p6 A.fails.length r.c6, .int .i64 A.power, .int .i64 (A.steps : Int)] #[.int .i64 1, .string na, .string nb, .slice q n c] := by rw [hwa]; exact Fr.start _ _ _
  have HW := Lib.hid hwa
  obtain ⟨g0, hm0, hr0⟩ := id h
  have HG0 := Lib.hid (And.intro hm0 hr0)
  have HFR := Lib.hid (And.intro hfr h)
  clear hwa hfr h hm0 hr0
  cases hdown : downP A with
  | true =>
    rw [hdown] at hdn
    have HD := Lib.hid (show ∀ o, doP A o = (A, 93) from fun o => by
      have hb : ∀ L, begP A L = 93 := fun L => by unfold begP; rw [if_pos hdown]
      have ht : tickP A = A := by unfold tickP; rw [if_pos hdown]
      have ho : ∀ L k, onP A L k = 93 := fun L k => by unfold onP; rw [hb, if_pos (by decide)]
      cases o with
      | create k => rw [doP_create, hb, if_pos (by decide), ht]
      | append k d => rw [doP_append, ho, if_pos (by decide), ht]
      | sync k => rw [doP_sync, ho, if_pos (by decide), ht]
      | names => rw [doP_names, hb, if_pos (by decide), ht]
      | rename a b => rw [doP_rename, ho, if_pos (by decide), ht]
      | remove k => rw [doP_remove, ho, if_pos (by decide), ht])
    clear hdown
    go_enter Tryz.func51, Tryz.ntmps51
    go_wp2_with fail
    refine (hdn _).mono ?_
    rw [← HW.out]
    rintro e w1 ⟨rfl, hb1⟩
    have hf1 := HFR.out.1.below hb1
    obtain ⟨a0, a1, a2, a3, a4, a5, a6, a7, a8, af⟩ := st9v hf1.s
    obtain ⟨z0, z1, z2, z3, z4, z5, z6, z7, z8, zf⟩ := st9v hf1.z
    have H1 := Lib.hid hf1
    clear hf1 hb1 hdn
    go_wp2_with fail
    refine bodyPost_ret (v := .tuple #[.agg #[.slice r.p1 A.now.length r.c1, .slice r.p2 A.safe.length r.c2, .slice r.p3 A.pend.length r.c3, .slice r.p4 A.files.length r.c4, .slice r.p5 A.files.length r.c5, .int .i64 (A.room : Int), .slice r.p6 A.fails.length r.c6, .int .i64 A.power, .int .i64 (A.steps : Int)], .int .i64 93]) (by simp [results, Tryz.results51, go_sem, z0, z1, z2, z3, z4, z5, z6, z7, z8]) rfl ?_
    exact RStep.same HFR.out.2 H1.out.b (HD.out _) _ _ _ _ _ _ _ _ _
  | false =>
    rw [hdown] at hdn
    have htick : tickP A = tk A := by unfold tickP tk; rw [if_neg (by rw [hdown]; simp)]
    have hst : A.steps ≤ 1000000 := hfit.steps
    have HT := Lib.hid (And.intro htick hdown)
    clear hdown htick
    go_enter Tryz.func51, Tryz.ntmps51
    go_wp2_with fail
    refine (hdn _).mono ?_
    rw [← HW.out]
    rintro e w1 ⟨rfl, hb1⟩
    have hf1 := HFR.out.1.below hb1
    obtain ⟨a0, a1, a2, a3, a4, a5, a6, a7, a8, af⟩ := st9v hf1.s
    have hf2 := hf1.set 8 (.int .i64 ((A.steps : Int) + 1))
    obtain ⟨w2, hw2⟩ : ∃ x, x = w1.setCell ⟨w.heap.size, 8, none⟩ (.int .i64 ((A.steps : Int) + 1)) := ⟨_, rfl⟩
    rw [← hw2] at hf2
    have HW2 := Lib.hid hw2
    have H2 := Lib.hid hf2
    clear hw2 hf1 hf2 hb1 hdn
    have HRB := Lib.hid (HFR.out.2.parts (A' := tk A) fun g _ hg => hg.steps _)
    have HCB := Lib.hid (show A.fails.contains ((A.steps : Int) + 1) = true → ∀ o, doP A o = (tk A, 94) from fun hc o => by
      have hb : ∀ L, begP A L = 94 := fun L => by unfold begP; rw [if_neg (by rw [HT.out.2]; simp), if_pos hc]
      have ho : ∀ L k, onP A L k = 94 := fun L k => by unfold onP; rw [hb, if_pos (by decide)]
      have ht := HT.out.1
      cases o with
      | create k => rw [doP_create, hb, if_pos (by decide), ht]
      | append k d => rw [doP_append, ho, if_pos (by decide), ht]
      | sync k => rw [doP_sync, ho, if_pos (by decide), ht]
      | names => rw [doP_names, hb, if_pos (by decide), ht]
      | rename a b => rw [doP_rename, ho, if_pos (by decide), ht]
      | remove k => rw [doP_remove, ho, if_pos (by decide), ht])
    have hfl := hfit.fails
    go_wp2_with fail
    rw [← HW2.out]
    go_loopw [6] (fun i wr => ∃ k : Nat, k ≤ A.fails.length ∧ i = .int .i64 k ∧ (A.fails.take k).contains ((A.steps : Int) + 1) = false ∧ Below w2.heap.size w2 wr) (fun i _ => A.fails.length - (intOf i).toNat)
    case atStart => exact ⟨0, Nat.zero_le _, rfl, rfl, Below.refl _ _⟩
    case round =>
      obtain ⟨k, hk, rfl, hno, hb⟩ := hrel
      have hfr := H2.out.below hb
      obtain ⟨a0, a1, a2, a3, a4, a5, a6, a7, a8, af⟩ := st9v hfr.s
      by_cases hlt : k < A.fails.length
      · obtain ⟨b, o, hp6, hc⟩ := ((HFR.out.2.plain.fails.below H2.out.b).below hb).at (k := k) (by simpa using hlt)
        have hx := hc k (by simpa using hlt)
        rw [List.getElem_map] at hx
        have HSN := Lib.hid (fun hne => contains_take hlt hno hne)
        have HAT := Lib.hid (fun he => contains_at (Z := A.fails) (k := k) (x := (A.steps : Int) + 1) hlt he)
        rw [hp6] at a6
        have HP6 := Lib.hid hp6
        clear hp6 hc hno
        generalize A.fails[k] = x at hx HSN HAT
        by_cases he : x = (A.steps : Int) + 1
        · have hq : (x == (A.steps : Int) + 1) = true := beq_iff_eq.2 he
          have HD := Lib.hid (HCB.out (HAT.out he))
          obtain ⟨z0, z1, z2, z3, z4, z5, z6, z7, z8, zf⟩ := st9v hfr.z
          have HH := Lib.hid (And.intro hfr hb)
          clear he hfr hb
          go_wp2_with fail
          go_quiet (fail)
          go_wp2_with fail
          have hfb := HH.out.1.b.trans ((bdrewN (Below.refl _ wr) nq).mono HH.out.1.b.size)
          refine bodyPost_ret (v := .tuple #[.agg #[.slice r.p1 A.now.length r.c1, .slice r.p2 A.safe.length r.c2, .slice r.p3 A.pend.length r.c3, .slice r.p4 A.files.length r.c4, .slice r.p5 A.files.length r.c5, .int .i64 (A.room : Int), .slice r.p6 A.fails.length r.c6, .int .i64 A.power, .int .i64 ((A.steps : Int) + 1)], .int .i64 94]) (by rw [HP6.out]; simp [results, Tryz.results51, go_sem, z0, z1, z2, z3, z4, z5, z6, z7, z8]) rfl ?_
          rw [HP6.out]
          have := RStep.same HRB.out hfb (HD.out (opOf 1 na.data.toList nb.data.toList l)) (.slice r.p1 A.now.length r.c1) (.slice r.p2 A.safe.length r.c2) (.slice r.p3 A.pend.length r.c3) (.slice r.p4 A.files.length r.c4) (.slice r.p5 A.files.length r.c5) (.int .i64 (A.room : Int)) (.slice r.p6 A.fails.length r.c6) (.int .i64 A.power) (.int .i64 ((A.steps : Int) + 1))
          unfold stC at this
          rw [HP6.out] at this
          exact this
        · have hq : (x == (A.steps : Int) + 1) = false := beq_eq_false_iff_ne.2 he
          have HNE := Lib.hid (HSN.out he)
          have HB := Lib.hid hb
          clear he hb hfr
          go_wp2_with fail
          go_quiet (fail)
          go_wp2_with fail
          go_roundw
          case rel => exact ⟨k + 1, by omega, by go_num, HNE.out, bdrewN HB.out _⟩
          case measure => simp [intOf]; omega
      · obtain rfl : k = A.fails.length := by omega
        rw [List.take_length] at hno
        have HBEG := Lib.hid (show ∀ L, begP A L = if L.any badN = true then 95 else 0 from fun L => by unfold begP; rw [if_neg (by rw [HT.out.2]; simp), if_neg (by rw [hno]; simp)])
        obtain ⟨wo, hwo⟩ : ∃ x, x = wr := ⟨_, rfl⟩
        subst hwo
        have HH := Lib.hid hfr
        obtain ⟨b0, b1, b2, b3⟩ := op4v hfr.o
        have hgA := fun W => refGood_any na W hna
        have hgB := fun W => refGood_any nb W hnb
        clear hno hfr hb
        have hat := fun W (hW : Below w.heap.size w W) => show Calls Tryz.prog 83 #[.agg #[.slice r.p1 A.now.length r.c1, .slice r.p2 A.safe.length r.c2, .slice r.p3 A.pend.length r.c3, .slice r.p4 A.files.length r.c4, .slice r.p5 A.files.length r.c5, .int .i64 (A.room : Int), .slice r.p6 A.fails.length r.c6, .int .i64 A.power, .int .i64 ((A.steps : Int) + 1)], .string na] W fun e w' => e = .returned (.int .i64 (atI A.now na.data.toList)) ∧ Below W.heap.size W w' from refAt_any r (tk A) na W (HFR.out.2.plain.now.below hW) hfit.now
        cases hg : goodN na.data.toList with
        | false =>
          rw [hg] at hgA
          have HD := Lib.hid (show doP A (opOf 1 na.data.toList nb.data.toList l) = (tk A, 95) from by
            rw [show opOf 1 na.data.toList nb.data.toList l = .create na.data.toList from rfl, doP_create, HBEG.out, HT.out.1]
            simp [badN, hg])
          clear hgB hat hg
          go_wp2_with fail
          refine (hgA _).mono ?_
          rintro e3 w3 ⟨rfl, hb3⟩
          have hf3 := HH.out.below hb3
          obtain ⟨a0, a1, a2, a3, a4, a5, a6, a7, a8, af⟩ := st9v hf3.s
          obtain ⟨z0, z1, z2, z3, z4, z5, z6, z7, z8, zf⟩ := st9v hf3.z
          have H3 := Lib.hid hf3
          clear hf3 hb3 hgA
          go_wp2_with fail
          refine bodyPost_ret (v := .tuple #[.agg #[.slice r.p1 A.now.length r.c1, .slice r.p2 A.safe.length r.c2, .slice r.p3 A.pend.length r.c3, .slice r.p4 A.files.length r.c4, .slice r.p5 A.files.length r.c5, .int .i64 (A.room : Int), .slice r.p6 A.fails.length r.c6, .int .i64 A.power, .int .i64 ((A.steps : Int) + 1)], .int .i64 95]) (by simp [results, Tryz.results51, go_sem, z0, z1, z2, z3, z4, z5, z6, z7, z8]) rfl ?_
          exact RStep.same HRB.out H3.out.b HD.out _ _ _ _ _ _ _ _ _
        | true =>
          rw [hg] at hgA
          have HB1 := Lib.hid (show begP A [na.data.toList] = 0 from by rw [HBEG.out]; simp [badN, hg])
          clear hgB hg
          go_wp2_with fail
          refine (hgA _).mono ?_
          rintro e3 w3 ⟨rfl, hb3⟩
          have hf3 := HH.out.below hb3
          obtain ⟨a0, a1, a2, a3, a4, a5, a6, a7, a8, af⟩ := st9v hf3.s
          obtain ⟨b0, b1, b2, b3⟩ := op4v hf3.o
          have hat3 := hat w3 hf3.b
          have H3 := Lib.hid hf3
          clear hf3 hb3 hgA hat
          go_wp2_with fail
          refine hat3.mono ?_
          rintro e4 w4 ⟨rfl, hb4⟩
          have hf4 := H3.out.below hb4
          obtain ⟨a0, a1, a2, a3, a4, a5, a6, a7, a8, af⟩ := st9v hf4.s
          obtain ⟨b0, b1, b2, b3⟩ := op4v hf4.o
          have H4 := Lib.hid hf4
          cases hk : lookN A.now na.data.toList with
          | some f =>
            have hai : atI A.now na.data.toList = (f : Int) := by unfold atI; rw [hk]
            rw [hai]
            have HD := Lib.hid (show doP A (opOf 1 na.data.toList nb.data.toList l) = (tk A, 91) from by
              rw [show opOf 1 na.data.toList nb.data.toList l = .create na.data.toList from rfl, doP_create, HB1.out, HT.out.1, hk]
              simp)
            obtain ⟨z0, z1, z2, z3, z4, z5, z6, z7, z8, zf⟩ := st9v hf4.z
            clear hai hk hf4 hb4 hat3
            go_wp2_with fail
            refine bodyPost_ret (v := .tuple #[.agg #[.slice r.p1 A.now.length r.c1, .slice r.p2 A.safe.length r.c2, .slice r.p3 A.pend.length r.c3, .slice r.p4 A.files.length r.c4, .slice r.p5 A.files.length r.c5, .int .i64 (A.room : Int), .slice r.p6 A.fails.length r.c6, .int .i64 A.power, .int .i64 ((A.steps : Int) + 1)], .int .i64 91]) (by simp [results, Tryz.results51, go_sem, z0, z1, z2, z3, z4, z5, z6, z7, z8]) rfl ?_
            exact RStep.same HRB.out H4.out.b HD.out _ _ _ _ _ _ _ _ _
          | none =>
            have hai : atI A.now na.data.toList = -1 := by unfold atI; rw [hk]
            rw [hai]
            obtain ⟨vsD, hD1, hD2, hD3⟩ := HG0.out.2.data
            have hD1 := hD1.keeps HG0.out.1.keeps
            have hDone : ∀ u ∈ vsD, u.oneCell' = true := fun u hu => by
              obtain ⟨i, hi, e⟩ := List.getElem_of_mem hu
              rw [← e]
              exact (hD3 i _ ((A.files.map (·.1))[i]'(by rw [← hD2]; exact hi)) (List.getElem?_eq_getElem hi) (List.getElem?_eq_getElem (by rw [← hD2]; exact hi))).one
            have HD3 := Lib.hid hD3
            clear hD3
            rw [List.length_map] at hD2
            have hF1 := HFR.out.2.plain.firm
            have hFone : ∀ u ∈ A.files.map (fun f : BS × Nat => Value.int .i64 (f.2 : Int)), u.oneCell' = true := fun u hu => by
              obtain ⟨f, _, e⟩ := List.mem_map.1 hu
              rw [← e]; rfl
            have hFl : (A.files.map (fun f : BS × Nat => Value.int .i64 (f.2 : Int))).length = A.files.length := by rw [List.length_map]
            obtain ⟨Fi, hFi⟩ : ∃ Fi, Fi = A.files.map (fun f : BS × Nat => Value.int .i64 (f.2 : Int)) := ⟨_, rfl⟩
            rw [← hFi] at hF1 hFone hFl
            have HFI := Lib.hid hFi
            have hfz := hfit.files
            have hs4 := hf4.size
            have hf1 := hf4.alloc (.cells #[] 22)
            have c13 := (st9v hf1.s).2.2.2.1
            have hown0 := ownR_made 22 w4
            have hsD := srcV (c := r.c4) (e := 22) Tryz.underlying49 (hD1.below hf1.b) hDone
            rw [hD2] at hsD
            have HX := Lib.hid (And.intro hf1 (And.intro hD1 (And.intro hD2 (And.intro hF1 (And.intro hFone hFl)))))
            clear hat3 hb4 hf1 hF1 hFone hD1 hf4 hFi hFl
            go_wp2_with (first
              | (at_builtin; (
       refine wpList_append_way _ rfl _ _ 49 49 rfl w4.heap.size 22 (.slice none 0 0) 1 24 Tryz.underlying49 infoB9 rfl _ 0 [] rfl hown0 _ A.files.length vsD rfl hsD (by unfold maxLen; omega) (by omega) (by simp) ?_
       intro d1 x2 hod1 hgd1 _
       have hf2 := HX.out.1.grown hgd1 (fun g e => by have := Option.some.inj (show some w4.heap.size = some g from e); omega)
       have hf3 := hf2.alloc (.cells #[] 3)
       have c24 := (st9v hf3.s).2.2.2.2.1
       have hof0 := ownR_made 3 x2
       have hsF := srcV (c := r.c5) (e := 3) Tryz.underlying38 (HX.out.2.2.2.1.below hf3.b) HX.out.2.2.2.2.1
       rw [HX.out.2.2.2.2.2] at hsF
       rw [List.nil_append, Nat.zero_add] at hod1
       have hs2 := hf2.size
       have hx2 : w4.heap.size + 1 ≤ x2.heap.size := by have := hgd1.size; rw [World.size_alloc] at this; exact this
       have hd1lt := World.ownsRow.lt hod1
       have H2d := Lib.hid (And.intro hod1 (And.intro hf3 (And.intro hd1lt hs2)))
       obtain ⟨pd1, cd1, rfl, _, _, _, _⟩ := owns_shape hod1
       clear hgd1 hf2 hf3 hod1 hd1lt))
              | (at_builtin; (
       refine wpList_append_way _ rfl _ _ 38 38 rfl x2.heap.size 3 (.int .i64 0) 1 8 Tryz.underlying38 infoI rfl _ 0 [] rfl hof0 _ A.files.length Fi rfl hsF (by unfold maxLen; omega) (by omega) (by simp) ?_
       intro f1 x4 hof1 hgf1 _
       have hg4 : ∀ g, (some x2.heap.size : Option Nat) = some g → w.heap.size + 3 ≤ g := fun g e => by have := Option.some.inj e; omega
       have hf4 := H2d.out.2.1.grown hgf1 hg4
       have hod4 := (H2d.out.1.alloc (.cells #[] 3)).kept hgf1 (.inr (fun e => by have := (H2d.out.2.2.1 x2.heap.size e).2; omega))
       rw [List.nil_append, Nat.zero_add] at hof1
       have hs42 := hgf1.size
       rw [World.size_alloc] at hs42
       have hf1lt := World.ownsRow.lt hof1
       have hf5 := (hf4.alloc (.cells #[] 5)).alloc (.cells #[.slice (some ⟨x4.heap.size, 0, none⟩) 0 0] 22)
       have hod5 := (hod4.alloc (.cells #[] 5)).alloc (.cells #[.slice (some ⟨x4.heap.size, 0, none⟩) 0 0] 22)
       have hof5 := (hof1.alloc (.cells #[] 5)).alloc (.cells #[.slice (some ⟨x4.heap.size, 0, none⟩) 0 0] 22)
       have hsE := srcV (c := 1) (e := 22) (xs := [.slice (some ⟨x4.heap.size, 0, none⟩) 0 0]) Tryz.underlying49 (InV.one (x4.alloc (.cells #[] 5)) (.slice (some ⟨x4.heap.size, 0, none⟩) 0 0) 22) (fun u hu => by rw [List.mem_singleton.1 hu]; rfl)
       simp only [World.size_alloc] at hsE
       have hz4 : (x4.alloc (.cells #[] 5)).heap[x4.heap.size]? = some (.cells #[] 5 (0, 0)) := heap_alloc_new x4 _
       have H4d := Lib.hid (And.intro hf5 (And.intro hod5 (And.intro hof5 (And.intro hf1lt (And.intro H2d.out.2.2.1 (And.intro hs42 hs2))))))
       obtain ⟨pf1, cf1, rfl, _, _, _, _⟩ := owns_shape hof1
       have hs5 : w4.heap.size ≤ ((x4.alloc (.cells #[] 5)).alloc (.cells #[.slice (some ⟨x4.heap.size, 0, none⟩) 0 0] 22)).heap.size := by
         simp only [World.size_alloc]
         omega
       clear hg4 hf4 hod4 hof1 hs42 hf1lt hf5 hof5 hz4 hgf1 hof0))
              | (at_builtin; (
       refine wpList_append_way _ rfl _ _ 49 49 rfl w4.heap.size 22 (.slice none 0 0) 1 24 Tryz.underlying49 infoB9 rfl _ A.files.length vsD rfl hod5 _ 1 [.slice (some ⟨x4.heap.size, 0, none⟩) 0 0] rfl hsE (by unfold maxLen; omega) (by omega) hs5 ?_
       intro d2 x6 hod6 hgd6 wayd6
       obtain ⟨hf5, hod5', hof5, hf1lt, hd1lt, hs42, hs2'⟩ := H4d.out
       have hof6 := apart_kept hof5 hgd6 (fun g e er => by have h1 := (hf1lt g e).1; have h2 := (hd1lt g er).2; omega)
       have hf6 := hf5.grown hgd6 (fun g e => by have h2 := (hd1lt g e).1; omega)
       have hd6 := fun g (e : d2.ownBlock = some g) => (show g < x2.heap.size ∨ x4.heap.size ≤ g from (wayd6 g e).elim (fun er => .inl (hd1lt g er).2) (fun hle => .inr (by simp only [World.size_alloc] at hle; omega)))
       obtain ⟨pd2, cd2, rfl, _, _, _, _⟩ := owns_shape hod6
       have c63 := (st9v hf6.s).2.2.2.1
       have fz6 := (st9v hf6.s).2.2.2.2.2.2.2.2.2
       have hf8 := (hf6.set 3 (.slice pd2 (A.files.length + 1) cd2)).alloc (.cells #[.int .i64 0] 3)
       have hof8 := (ownsRow_setCell_below hof6 (a := ⟨w.heap.size, 3, none⟩) (show w.heap.size < x2.heap.size by omega) (.slice pd2 (A.files.length + 1) cd2)).alloc (.cells #[.int .i64 0] 3)
       have hod8 := (ownsRow_setCell_below hod6 (a := ⟨w.heap.size, 3, none⟩) (show w.heap.size < w4.heap.size by omega) (.slice pd2 (A.files.length + 1) cd2)).alloc (.cells #[.int .i64 0] 3)
       have hsG := srcV (c := 1) (e := 3) (xs := [.int .i64 0]) Tryz.underlying38 (InV.one (x6.setCell ⟨w.heap.size, 3, none⟩ (.slice pd2 (A.files.length + 1) cd2)) (.int .i64 0) 3) (fun u hu => by rw [List.mem_singleton.1 hu]; rfl)
       simp only [World.size_setCell] at hsG
       have hs8 : x2.heap.size ≤ ((x6.setCell ⟨w.heap.size, 3, none⟩ (.slice pd2 (A.files.length + 1) cd2)).alloc (.cells #[.int .i64 0] 3)).heap.size := by
         have := hgd6.size
         simp only [World.size_alloc, World.size_setCell] at *
         omega
       have c84 := (st9v hf8.s).2.2.2.2.1
       have H8d := Lib.hid (And.intro hf8 (And.intro hod8 (And.intro hd6 (And.intro hf1lt hs2'))))
       clear hf5 hod5' hof5 hf1lt hd1lt hs42 hs2' hof6 hf6 hd6 hf8 hod8 hod6 hgd6 wayd6 hod5 hsE hs5))
              | (at_builtin; (
       refine wpList_append_way _ rfl _ _ 38 38 rfl x2.heap.size 3 (.int .i64 0) 1 8 Tryz.underlying38 infoI rfl _ A.files.length Fi rfl hof8 _ 1 [.int .i64 0] rfl hsG (by unfold maxLen; omega) (by omega) hs8 ?_
       intro f2 x9 hof9 hgf9 _
       obtain ⟨hf8, hod8, hd6, hf1lt, hs2'⟩ := H8d.out
       have hod9 := apart_kept hod8 hgf9 (fun g e er => by have h1 := hf1lt g er; have h2 := hd6 g e; omega)
       have hf9 := hf8.grown hgf9 (fun g e => by have h1 := (hf1lt g e).1; omega)
       obtain ⟨pf2, cf2, rfl, _, _, _, _⟩ := owns_shape hof9
       have c94 := (st9v hf9.s).2.2.2.2.1
       have fz9 := (st9v hf9.s).2.2.2.2.2.2.2.2.2
       have hf10 := hf9.set 4 (.slice pf2 (A.files.length + 1) cf2)
       have hof10 := ownsRow_setCell_below hof9 (a := ⟨w.heap.size, 4, none⟩) (show w.heap.size < x2.heap.size by omega) (.slice pf2 (A.files.length + 1) cf2)
       have hod10 := ownsRow_setCell_below hod9 (a := ⟨w.heap.size, 4, none⟩) (show w.heap.size < w4.heap.size by omega) (.slice pf2 (A.files.length + 1) cf2)
       obtain ⟨e0, e1, e2, e3, e4, e5, e6, e7, e8, ef⟩ := st9v hf10.s
       obtain ⟨y0, y1, y2, y3⟩ := op4v hf10.o
       have H10 := Lib.hid (And.intro hf10 (And.intro hof10 hod10))
       clear hf8 hod8 hd6 hf1lt hs2' hod9 hf9 hf10 hof10 hod10 hof9 hgf9 hof8 hsG hs8)))
            obtain ⟨X, hX⟩ : ∃ X, X = x9.setCell ⟨w.heap.size, 4, none⟩ (.slice pf2 (A.files.length + 1) cf2) := ⟨_, rfl⟩
            obtain ⟨hf10, hof10, hod10⟩ := H10.out
            rw [← hX] at hf10 hof10 hod10 ⊢
            obtain ⟨M, hM⟩ : ∃ M, M = insN na.data.toList A.files.length A.now := ⟨_, rfl⟩
            have hput : putI na.data.toList (A.files.length : Int) A.now = M := by unfold putI; rw [if_neg (by omega), hM]; rfl
            obtain ⟨vsP, hP1, hP2, hP3⟩ := HG0.out.2.pend
            have hP1 := hP1.keeps HG0.out.1.keeps
            have hPone : ∀ u ∈ vsP, u.oneCell' = true := fun u hu => by
              obtain ⟨i, hi, e⟩ := List.getElem_of_mem hu
              rw [← e]
              exact (hP3 i _ ((pendN A)[i]'(by rw [← hP2]; exact hi)) (List.getElem?_eq_getElem hi) (List.getElem?_eq_getElem (by rw [← hP2]; exact hi))).one
            rw [pendN_length] at hP2
            obtain ⟨S, hS⟩ : ∃ S : World → Prop, S = fun W => W.cell? ⟨w.heap.size, 0, none⟩ = some (.slice r.p1 A.now.length r.c1) ∧ W.cell? ⟨w.heap.size, 1, none⟩ = some (.slice r.p2 A.safe.length r.c2) ∧ W.cell? ⟨w.heap.size, 2, none⟩ = some (.slice r.p3 A.pend.length r.c3) ∧ W.cell? ⟨w.heap.size, 3, none⟩ = some (.slice pd2 (A.files.length + 1) cd2) ∧ W.cell? ⟨w.heap.size, 4, none⟩ = some (.slice pf2 (A.files.length + 1) cf2) ∧ W.cell? ⟨w.heap.size, 5, none⟩ = some (.int .i64 (A.room : Int)) ∧ W.cell? ⟨w.heap.size, 6, none⟩ = some (.slice r.p6 A.fails.length r.c6) ∧ W.cell? ⟨w.heap.size, 7, none⟩ = some (.int .i64 A.power) ∧ W.cell? ⟨w.heap.size, 8, none⟩ = some (.int .i64 ((A.steps : Int) + 1)) ∧ W.cell? ⟨w.heap.size + 1, 1, none⟩ = some (.string na) := ⟨_, rfl⟩
            have HSS := Lib.hid (fun W => show S W ↔ W.cell? ⟨w.heap.size, 0, none⟩ = some (.slice r.p1 A.now.length r.c1) ∧ W.cell? ⟨w.heap.size, 1, none⟩ = some (.slice r.p2 A.safe.length r.c2) ∧ W.cell? ⟨w.heap.size, 2, none⟩ = some (.slice r.p3 A.pend.length r.c3) ∧ W.cell? ⟨w.heap.size, 3, none⟩ = some (.slice pd2 (A.files.length + 1) cd2) ∧ W.cell? ⟨w.heap.size, 4, none⟩ = some (.slice pf2 (A.files.length + 1) cf2) ∧ W.cell? ⟨w.heap.size, 5, none⟩ = some (.int .i64 (A.room : Int)) ∧ W.cell? ⟨w.heap.size, 6, none⟩ = some (.slice r.p6 A.fails.length r.c6) ∧ W.cell? ⟨w.heap.size, 7, none⟩ = some (.int .i64 A.power) ∧ W.cell? ⟨w.heap.size, 8, none⟩ = some (.int .i64 ((A.steps : Int) + 1)) ∧ W.cell? ⟨w.heap.size + 1, 1, none⟩ = some (.string na) by rw [hS])
            have step2 : ∀ W W', Below X.heap.size X W → (∀ k, k ≠ w.heap.size + 2 → W'.heap[k]? = W.heap[k]?) → S W' := fun W W' hb he => by
              have hf := hf10.below hb
              obtain ⟨e0, e1, e2, e3, e4, e5, e6, e7, e8, _⟩ := st9v ((he w.heap.size (by omega)).trans hf.s)
              obtain ⟨_, y1, _, _⟩ := op4v ((he (w.heap.size + 1) (by omega)).trans hf.o)
              rw [hS]
              exact ⟨e0, e1, e2, e3, e4, e5, e6, e7, e8, y1⟩
            have step : ∀ W, Below X.heap.size X W → S W := fun W hb => step2 W W hb fun _ _ => rfl
            have HS2 := Lib.hid step2
            have HZ := Lib.hid (fun W (hb : Below X.heap.size X W) => st9v (hf10.below hb).z)
            have HK0 := Lib.hid (step X.drew (Below.refl _ X).drew)
            have HNM := Lib.hid (show Calls Tryz.prog 85 #[.slice r.p1 A.now.length r.c1, .string na, .int .i64 (A.files.length : Int)] X.drew fun e w' => ∃ p7 c7, e = .returned (.slice p7 M.length c7) ∧ S w' ∧ Calls Tryz.prog 84 #[.agg #[.slice r.p1 A.now.length r.c1, .slice r.p2 A.safe.length r.c2, .slice r.p3 A.pend.length r.c3, .slice pd2 (A.files.length + 1) cd2, .slice pf2 (A.files.length + 1) cf2, .int .i64 (A.room : Int), .slice r.p6 A.fails.length r.c6, .int .i64 A.power, .int .i64 ((A.steps : Int) + 1)], .slice p7 M.length c7] w' fun e w'' => ∃ p8 c8, e = .returned (.agg #[.slice p7 M.length c7, .slice r.p2 A.safe.length r.c2, .slice p8 (A.pend.length + 1) c8, .slice pd2 (A.files.length + 1) cd2, .slice pf2 (A.files.length + 1) cf2, .int .i64 (A.room : Int), .slice r.p6 A.fails.length r.c6, .int .i64 A.power, .int .i64 ((A.steps : Int) + 1)]) ∧ S w'' ∧ Below X.heap.size X w'' ∧ OwnM w'' X.heap.size (.slice p7 M.length c7) M ∧ w''.ownsRow X.heap.size 47 1 (.slice p8 (A.pend.length + 1) c8) (A.pend.length + 1) (vsP ++ [.slice p7 M.length c7]) from
              (refNamed_any A.now hI.rnow (by have := hfit.now; omega) r.p1 _ r.c1 rfl na (A.files.length : Int) X.drew ((HFR.out.2.plain.now.below hf10.b).below (Below.refl _ X).drew)).mono fun e w' ⟨v, h1, h2, h3⟩ => by
                rw [hput] at h2
                obtain ⟨p7, c7, rfl, _⟩ := h2.shape rfl
                have hb1 : Below X.heap.size X w' := ((Below.refl _ X).drew).trans h3
                refine ⟨p7, c7, h1, step _ hb1, ?_⟩
                refine (refRenamed_any { r with p4 := pd2, c4 := cd2, p5 := pf2, c5 := cf2 } A.now.length A.safe.length (A.files.length + 1) (A.files.length + 1) A.fails.length A.room A.power ((A.steps : Int) + 1) p7 M.length c7 w' A.pend.length vsP hP2 (hP1.below (hf10.b.trans (hb1.mono hf10.b.size))) hPone (by have := hfit.pend; omega)).mono ?_
                rintro e w'' ⟨p8, c8, rfl, g2, g3⟩
                have hb2 := hb1.trans (g3.mono hb1.size)
                exact ⟨p8, c8, rfl, step _ hb2, hb2, h2.below g3, ownsRow_mono g2 hb1.size⟩)
            have HE := Lib.hid (And.intro hf10 (And.intro hof10 (And.intro hod10 (And.intro hM (And.intro hP2 hP3)))))
            clear hS step step2 hf10 hof10 hod10 hM hput hP1 hP2 hP3 hPone hX
            go_region_held3 (fun W => W.cell? ⟨w.heap.size, 0, none⟩ = some (.slice r.p1 A.now.length r.c1) ∧ W.cell? ⟨w.heap.size, 1, none⟩ = some (.slice r.p2 A.safe.length r.c2) ∧ W.cell? ⟨w.heap.size, 2, none⟩ = some (.slice r.p3 A.pend.length r.c3) ∧ W.cell? ⟨w.heap.size, 3, none⟩ = some (.slice pd2 (A.files.length + 1) cd2) ∧ W.cell? ⟨w.heap.size, 4, none⟩ = some (.slice pf2 (A.files.length + 1) cf2) ∧ W.cell? ⟨w.heap.size, 5, none⟩ = some (.int .i64 (A.room : Int)) ∧ W.cell? ⟨w.heap.size, 6, none⟩ = some (.slice r.p6 A.fails.length r.c6) ∧ W.cell? ⟨w.heap.size, 7, none⟩ = some (.int .i64 A.power) ∧ W.cell? ⟨w.heap.size, 8, none⟩ = some (.int .i64 ((A.steps : Int) + 1)) ∧ W.cell? ⟨w.heap.size + 1, 1, none⟩ = some (.string na))
              (first | (with_reducible exact (HSS.out _).1 HK0.out) | (with_reducible exact (HSS.out _).1 HK1.out) | (with_reducible exact (HSS.out _).1 HK2.out) | (with_reducible exact (HSS.out _).1 HK3.out))
              (first
                | (go_at_call 85; with_reducible refine HNM.out.mono ?_; rintro e11 w11 ⟨p7, c7, rfl, hk1, hrn⟩; have HK1 := Lib.hid hk1; have HRN := Lib.hid hrn; clear hk1 hrn)
                | (go_at_call 84; with_reducible refine HRN.out.mono ?_; rintro e12 w12 ⟨p8, c8, rfl, hk2, hq⟩; obtain ⟨z0, z1, z2, z3, z4, z5, z6, z7, z8, zf⟩ := HZ.out w12 hq.1; have HK2 := Lib.hid hk2; have hs3 := HS2.out w12 (put9 w12 (w.heap.size + 1 + 1) (.slice p7 M.length c7) (.slice r.p2 A.safe.length r.c2) (.slice p8 (A.pend.length + 1) c8) (.slice pd2 (A.files.length + 1) cd2) (.slice pf2 (A.files.length + 1) cf2) (.int .i64 (A.room : Int)) (.slice r.p6 A.fails.length r.c6) (.int .i64 A.power) (.int .i64 ((A.steps : Int) + 1))) hq.1 (fun k hk => put9_heap k hk); unfold put9 at hs3; have HK3 := Lib.hid hs3; have HQ := Lib.hid hq; clear hk2 hq hs3))
            all_goals
              go_wp2_with fail
              obtain ⟨hbX, howM, howP⟩ := HQ.out
              obtain ⟨hf10, hof10, hod10, hM, hP2, hP3⟩ := HE.out
              have hX3 := hf10.size
              obtain ⟨A1, hA1⟩ : ∃ A1 : Pl, A1 = { tk A with now := M, pend := A.pend ++ [.put na.data.toList A.files.length], files := A.files ++ [([], 0)] } := ⟨_, rfl⟩
              have hD : doP A (opOf 1 na.data.toList nb.data.toList l) = (A1, 0) := by
                rw [show opOf 1 na.data.toList nb.data.toList l = .create na.data.toList from rfl, doP_create, HB1.out, hk, hA1]
                unfold chgP
                rw [HT.out.1, hM]
                simp [applyC, tk]
              refine bodyPost_ret (v := .tuple #[.agg #[.slice p7 M.length c7, .slice r.p2 A.safe.length r.c2, .slice p8 (A.pend.length + 1) c8, .slice pd2 (A.files.length + 1) cd2, .slice pf2 (A.files.length + 1) cf2, .int .i64 (A.room : Int), .slice r.p6 A.fails.length r.c6, .int .i64 A.power, .int .i64 ((A.steps : Int) + 1)], .int .i64 0]) (by simp [results, Tryz.results51, go_sem, z0, z1, z2, z3, z4, z5, z6, z7, z8]) rfl ?_
              obtain ⟨W9, hW9⟩ : ∃ W9, W9 = put9 w12 (w.heap.size + 2) (.slice p7 M.length c7) (.slice r.p2 A.safe.length r.c2) (.slice p8 (A.pend.length + 1) c8) (.slice pd2 (A.files.length + 1) cd2) (.slice pf2 (A.files.length + 1) cf2) (.int .i64 (A.room : Int)) (.slice r.p6 A.fails.length r.c6) (.int .i64 A.power) (.int .i64 ((A.steps : Int) + 1)) := ⟨_, rfl⟩
              have hbW := hf10.b.trans (hbX.mono hf10.b.size)
              have hbW9 : Below w.heap.size w W9 := by rw [hW9]; exact put9_below hbW (by omega)
              have qM : OwnM W9 w.heap.size (.slice p7 M.length c7) M := by rw [hW9]; exact ownsRow_mono (ownsRow_put9 howM (by omega)) (by omega)
              have qP : W9.ownsRow w.heap.size 47 1 (.slice p8 (A.pend.length + 1) c8) (A.pend.length + 1) (vsP ++ [.slice p7 M.length c7]) := by rw [hW9]; exact ownsRow_mono (ownsRow_put9 howP (by omega)) (by omega)
              have qD : W9.ownsRow w.heap.size 22 1 (.slice pd2 (A.files.length + 1) cd2) (A.files.length + 1) (vsD ++ [.slice (some ⟨x4.heap.size, 0, none⟩) 0 0]) := by rw [hW9]; exact ownsRow_mono (ownsRow_put9 (ownsRow_below hod10 hbX) (by omega)) (by omega)
              have qF : W9.ownsRow w.heap.size 3 1 (.slice pf2 (A.files.length + 1) cf2) (A.files.length + 1) (Fi ++ [.int .i64 0]) := by rw [hW9]; exact ownsRow_mono (ownsRow_put9 (ownsRow_below hof10 hbX) (by omega)) (by omega)
              obtain ⟨g9, hm9⟩ := mask_ex P W9
              have hkk := HG0.out.1.below hm9 hbW9
              have rM := OwnM.shape (show OwnM g9 w.heap.size (.slice p7 M.length c7) M from hm9.owns qM hP) rfl
              have hRP : RefP P W9 { p1 := p7, c1 := c7, p2 := r.p2, c2 := r.c2, p3 := p8, c3 := c8, p4 := pd2, c4 := cd2, p5 := pf2, c5 := cf2, p6 := r.p6, c6 := r.c6 } A1 := by
                refine ⟨g9, hm9, RefAt.chg HG0.out.2 hkk hI (.put na.data.toList A.files.length) (v := .slice p7 M.length c7) (by rw [hA1]; rfl) (by rw [hA1]) (by rw [hA1]) hM.symm (by rw [hA1]; rfl) rfl rfl ?_ ?_ hP2 hP3 ?_ ?_ ?_⟩
                · obtain ⟨p, c, e, hin⟩ := rM
                  injection e with e1 _ _
                  subst e1
                  exact hin
                · exact ⟨p7, c7, rfl, by
                    obtain ⟨p, c, e, hin⟩ := rM
                    injection e with e1 _ _
                    subst e1
                    exact hin⟩
                · obtain ⟨p, c, e, _, _, hin, _⟩ := owns_shape (hm9.owns qP hP)
                  injection e with e1 _ _
                  subst e1
                  exact hin
                · rw [hA1]
                  show InDs g9 pd2 ((A.files ++ [(([], 0) : BS × Nat)]).map fun f : BS × Nat => f.1)
                  rw [List.map_append]
                  obtain ⟨p, c, e, _, _, hin, _⟩ := owns_shape (hm9.owns qD hP)
                  injection e with e1 _ _
                  subst e1
                  exact InR.snoc (by rw [List.length_map]; exact HX.out.2.2.1) (fun i u x hu hx => (HD3.out i u x hu hx).keeps hkk) hin ⟨_, 0, rfl, (fun e => by cases e), by simp [maxLen], (fun h0 => absurd h0 (by simp)), Nat.le_refl _⟩
                · rw [hA1]
                  show InV g9 pf2 ((A.files ++ [(([], 0) : BS × Nat)]).map fun f : BS × Nat => Value.int .i64 (f.2 : Int))
                  rw [List.map_append, ← HFI.out]
                  obtain ⟨p, c, e, _, _, hin, _⟩ := owns_shape (hm9.owns qF hP)
                  injection e with e1 _ _
                  subst e1
                  exact hin
              have := RStep.mk hRP hbW9 hD (cs := #[.slice p7 M.length c7, .slice r.p2 A.safe.length r.c2, .slice p8 (A.pend.length + 1) c8, .slice pd2 (A.files.length + 1) cd2, .slice pf2 (A.files.length + 1) cf2, .int .i64 (A.room : Int), .slice r.p6 A.fails.length r.c6, .int .i64 A.power, .int .i64 ((A.steps : Int) + 1)]) (by rw [hA1]; simp [stC, tk])
              rw [hW9] at this
              exact this
end Go.Proofs.YtheoklhmlnfgjaaGreatDoor
