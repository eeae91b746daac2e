/-
  The document's disk: Step: Sync.
-/
import Derived.Test.YtheoklhmlnfgjaaGreatDoorPk5
namespace Go.Proofs.YtheoklhmlnfgjaaGreatDoor
open Go.RowKit Go.Maps
set_option linter.unusedVariables false

set_option maxRecDepth 100000 in
set_option maxHeartbeats 4000000 in
theorem refStep3_any (P : Nat → Prop) (r : RC) (A : Pl) (na nb : ByteArray) (l : BS) (q : Option Addr) (n c : Nat) (hn : l.length = n) (w : World) (hP : ∀ g, P g → g < w.heap.size) (h : RefP P w r A) (hin : In8 w q l) (hI : Inv A) (hfit : FitP A) (hna : na.size ≤ 140737488351232) (hnb : nb.size ≤ 140737488351232) (hl : n ≤ 1000000000) :
    Calls Tryz.prog 51 #[.agg (stC r A), .agg #[.int .i64 3, .string na, .string nb, .slice q n c]] w (RStep P w A (opOf 3 na.data.toList nb.data.toList l)) := by
  show Calls Tryz.prog 51 #[.agg #[.slice r.p1 A.now.length r.c1, .slice r.p2 A.safe.length r.c2, .slice r.p3 A.pend.length r.c3, .slice r.p4 A.files.length r.c4, .slice r.p5 A.files.length r.c5, .int .i64 (A.room : Int), .slice r.p6 A.fails.length r.c6, .int .i64 A.power, .int .i64 (A.steps : Int)], .agg #[.int .i64 3, .string na, .string nb, .slice q n c]] w _
  have hdn := fun W => refDown_any r A W
  unfold stC at hdn
  obtain ⟨wa, hwa⟩ : ∃ x, x = ((w.alloc (.cells #[.slice r.p1 A.now.length r.c1, .slice r.p2 A.safe.length r.c2, .slice r.p3 A.pend.length r.c3, .slice r.p4 A.files.length r.c4, .slice r.p5 A.files.length r.c5, .int .i64 (A.room : Int), .slice r.p6 A.fails.length r.c6, .int .i64 A.power, .int .i64 (A.steps : Int)] 51)).alloc (.cells #[.int .i64 3, .string na, .string nb, .slice q n c] 104)).alloc (.cells #[.slice none 0 0, .slice none 0 0, .slice none 0 0, .slice none 0 0, .slice none 0 0, .int .i64 0, .slice none 0 0, .int .i64 0, .int .i64 0] 51) := ⟨_, rfl⟩
  have hfr : Fr w wa #[.slice r.p1 A.now.length r.c1, .slice r.p2 A.safe.length r.c2, .slice r.p3 A.pend.length r.c3, .slice r.p4 A.files.length r.c4, .slice r.p5 A.files.length r.c5, .int .i64 (A.room : Int), .slice r.p6 A.fails.length r.c6, .int .i64 A.power, .int .i64 (A.steps : Int)] #[.int .i64 3, .string na, .string nb, .slice q n c] := by rw [hwa]; exact Fr.start _ _ _
  have HW := Lib.hid hwa
  obtain ⟨g0, hm0, hr0⟩ := id h
  have HG0 := Lib.hid (And.intro hm0 hr0)
  have HFR := Lib.hid (And.intro hfr h)
  clear hwa hfr h hm0 hr0
  cases hdown : downP A with
  | true =>
    rw [hdown] at hdn
    have HD := Lib.hid (show ∀ o, doP A o = (A, 93) from fun o => by
      have hb : ∀ L, begP A L = 93 := fun L => by unfold begP; rw [if_pos hdown]
      have ht : tickP A = A := by unfold tickP; rw [if_pos hdown]
      have ho : ∀ L k, onP A L k = 93 := fun L k => by unfold onP; rw [hb, if_pos (by decide)]
      cases o with
      | create k => rw [doP_create, hb, if_pos (by decide), ht]
      | append k d => rw [doP_append, ho, if_pos (by decide), ht]
      | sync k => rw [doP_sync, ho, if_pos (by decide), ht]
      | names => rw [doP_names, hb, if_pos (by decide), ht]
      | rename a b => rw [doP_rename, ho, if_pos (by decide), ht]
      | remove k => rw [doP_remove, ho, if_pos (by decide), ht])
    clear hdown
    go_enter Tryz.func51, Tryz.ntmps51
    go_wp2_with fail
    refine (hdn _).mono ?_
    rw [← HW.out]
    rintro e w1 ⟨rfl, hb1⟩
    have hf1 := HFR.out.1.below hb1
    obtain ⟨a0, a1, a2, a3, a4, a5, a6, a7, a8, af⟩ := st9v hf1.s
    obtain ⟨z0, z1, z2, z3, z4, z5, z6, z7, z8, zf⟩ := st9v hf1.z
    have H1 := Lib.hid hf1
    clear hf1 hb1 hdn
    go_wp2_with fail
    refine bodyPost_ret (v := .tuple #[.agg #[.slice r.p1 A.now.length r.c1, .slice r.p2 A.safe.length r.c2, .slice r.p3 A.pend.length r.c3, .slice r.p4 A.files.length r.c4, .slice r.p5 A.files.length r.c5, .int .i64 (A.room : Int), .slice r.p6 A.fails.length r.c6, .int .i64 A.power, .int .i64 (A.steps : Int)], .int .i64 93]) (by simp [results, Tryz.results51, go_sem, z0, z1, z2, z3, z4, z5, z6, z7, z8]) rfl ?_
    exact RStep.same HFR.out.2 H1.out.b (HD.out _) _ _ _ _ _ _ _ _ _
  | false =>
    rw [hdown] at hdn
    have htick : tickP A = tk A := by unfold tickP tk; rw [if_neg (by rw [hdown]; simp)]
    have hst : A.steps ≤ 1000000 := hfit.steps
    have HT := Lib.hid (And.intro htick hdown)
    clear hdown htick
    go_enter Tryz.func51, Tryz.ntmps51
    go_wp2_with fail
    refine (hdn _).mono ?_
    rw [← HW.out]
    rintro e w1 ⟨rfl, hb1⟩
    have hf1 := HFR.out.1.below hb1
    obtain ⟨a0, a1, a2, a3, a4, a5, a6, a7, a8, af⟩ := st9v hf1.s
    have hf2 := hf1.set 8 (.int .i64 ((A.steps : Int) + 1))
    obtain ⟨w2, hw2⟩ : ∃ x, x = w1.setCell ⟨w.heap.size, 8, none⟩ (.int .i64 ((A.steps : Int) + 1)) := ⟨_, rfl⟩
    rw [← hw2] at hf2
    have HW2 := Lib.hid hw2
    have H2 := Lib.hid hf2
    clear hw2 hf1 hf2 hb1 hdn
    have HRB := Lib.hid (HFR.out.2.parts (A' := tk A) fun g _ hg => hg.steps _)
    have HCB := Lib.hid (show A.fails.contains ((A.steps : Int) + 1) = true → ∀ o, doP A o = (tk A, 94) from fun hc o => by
      have hb : ∀ L, begP A L = 94 := fun L => by unfold begP; rw [if_neg (by rw [HT.out.2]; simp), if_pos hc]
      have ho : ∀ L k, onP A L k = 94 := fun L k => by unfold onP; rw [hb, if_pos (by decide)]
      have ht := HT.out.1
      cases o with
      | create k => rw [doP_create, hb, if_pos (by decide), ht]
      | append k d => rw [doP_append, ho, if_pos (by decide), ht]
      | sync k => rw [doP_sync, ho, if_pos (by decide), ht]
      | names => rw [doP_names, hb, if_pos (by decide), ht]
      | rename a b => rw [doP_rename, ho, if_pos (by decide), ht]
      | remove k => rw [doP_remove, ho, if_pos (by decide), ht])
    have hfl := hfit.fails
    go_wp2_with fail
    rw [← HW2.out]
    go_loopw [6] (fun i wr => ∃ k : Nat, k ≤ A.fails.length ∧ i = .int .i64 k ∧ (A.fails.take k).contains ((A.steps : Int) + 1) = false ∧ Below w2.heap.size w2 wr) (fun i _ => A.fails.length - (intOf i).toNat)
    case atStart => exact ⟨0, Nat.zero_le _, rfl, rfl, Below.refl _ _⟩
    case round =>
      obtain ⟨k, hk, rfl, hno, hb⟩ := hrel
      have hfr := H2.out.below hb
      obtain ⟨a0, a1, a2, a3, a4, a5, a6, a7, a8, af⟩ := st9v hfr.s
      by_cases hlt : k < A.fails.length
      · obtain ⟨b, o, hp6, hc⟩ := ((HFR.out.2.plain.fails.below H2.out.b).below hb).at (k := k) (by simpa using hlt)
        have hx := hc k (by simpa using hlt)
        rw [List.getElem_map] at hx
        have HSN := Lib.hid (fun hne => contains_take hlt hno hne)
        have HAT := Lib.hid (fun he => contains_at (Z := A.fails) (k := k) (x := (A.steps : Int) + 1) hlt he)
        rw [hp6] at a6
        have HP6 := Lib.hid hp6
        clear hp6 hc hno
        generalize A.fails[k] = x at hx HSN HAT
        by_cases he : x = (A.steps : Int) + 1
        · have hq : (x == (A.steps : Int) + 1) = true := beq_iff_eq.2 he
          have HD := Lib.hid (HCB.out (HAT.out he))
          obtain ⟨z0, z1, z2, z3, z4, z5, z6, z7, z8, zf⟩ := st9v hfr.z
          have HH := Lib.hid (And.intro hfr hb)
          clear he hfr hb
          go_wp2_with fail
          go_quiet (fail)
          go_wp2_with fail
          have hfb := HH.out.1.b.trans ((bdrewN (Below.refl _ wr) nq).mono HH.out.1.b.size)
          refine bodyPost_ret (v := .tuple #[.agg #[.slice r.p1 A.now.length r.c1, .slice r.p2 A.safe.length r.c2, .slice r.p3 A.pend.length r.c3, .slice r.p4 A.files.length r.c4, .slice r.p5 A.files.length r.c5, .int .i64 (A.room : Int), .slice r.p6 A.fails.length r.c6, .int .i64 A.power, .int .i64 ((A.steps : Int) + 1)], .int .i64 94]) (by rw [HP6.out]; simp [results, Tryz.results51, go_sem, z0, z1, z2, z3, z4, z5, z6, z7, z8]) rfl ?_
          rw [HP6.out]
          have := RStep.same HRB.out hfb (HD.out (opOf 3 na.data.toList nb.data.toList l)) (.slice r.p1 A.now.length r.c1) (.slice r.p2 A.safe.length r.c2) (.slice r.p3 A.pend.length r.c3) (.slice r.p4 A.files.length r.c4) (.slice r.p5 A.files.length r.c5) (.int .i64 (A.room : Int)) (.slice r.p6 A.fails.length r.c6) (.int .i64 A.power) (.int .i64 ((A.steps : Int) + 1))
          unfold stC at this
          rw [HP6.out] at this
          exact this
        · have hq : (x == (A.steps : Int) + 1) = false := beq_eq_false_iff_ne.2 he
          have HNE := Lib.hid (HSN.out he)
          have HB := Lib.hid hb
          clear he hb hfr
          go_wp2_with fail
          go_quiet (fail)
          go_wp2_with fail
          go_roundw
          case rel => exact ⟨k + 1, by omega, by go_num, HNE.out, bdrewN HB.out _⟩
          case measure => simp [intOf]; omega
      · obtain rfl : k = A.fails.length := by omega
        rw [List.take_length] at hno
        have HBEG := Lib.hid (show ∀ L, begP A L = if L.any badN = true then 95 else 0 from fun L => by unfold begP; rw [if_neg (by rw [HT.out.2]; simp), if_neg (by rw [hno]; simp)])
        obtain ⟨wo, hwo⟩ : ∃ x, x = wr := ⟨_, rfl⟩
        subst hwo
        have HH := Lib.hid hfr
        obtain ⟨b0, b1, b2, b3⟩ := op4v hfr.o
        have hgA := fun W => refGood_any na W hna
        have hgB := fun W => refGood_any nb W hnb
        clear hno hfr hb
        have hat := fun W (hW : Below w.heap.size w W) => show Calls Tryz.prog 83 #[.agg #[.slice r.p1 A.now.length r.c1, .slice r.p2 A.safe.length r.c2, .slice r.p3 A.pend.length r.c3, .slice r.p4 A.files.length r.c4, .slice r.p5 A.files.length r.c5, .int .i64 (A.room : Int), .slice r.p6 A.fails.length r.c6, .int .i64 A.power, .int .i64 ((A.steps : Int) + 1)], .string na] W fun e w' => e = .returned (.int .i64 (atI A.now na.data.toList)) ∧ Below W.heap.size W w' from refAt_any r (tk A) na W (HFR.out.2.plain.now.below hW) hfit.now
        cases hg : goodN na.data.toList with
        | false =>
          rw [hg] at hgA
          have HD := Lib.hid (show doP A (opOf 3 na.data.toList nb.data.toList l) = (tk A, 95) from by
            have ho : onP A [] na.data.toList = 95 := by unfold onP; rw [HBEG.out]; simp [badN, hg]
            rw [show opOf 3 na.data.toList nb.data.toList l = .sync na.data.toList from rfl, doP_sync, ho, HT.out.1]
            simp)
          go_wp2_with fail
          refine (hgA _).mono ?_
          rintro e3 w3 ⟨rfl, hb3⟩
          have hf3 := HH.out.below hb3
          obtain ⟨a0, a1, a2, a3, a4, a5, a6, a7, a8, af⟩ := st9v hf3.s
          obtain ⟨b0, b1, b2, b3⟩ := op4v hf3.o
          obtain ⟨z0, z1, z2, z3, z4, z5, z6, z7, z8, zf⟩ := st9v hf3.z
          have H3 := Lib.hid hf3
          clear hf3 hb3 hgA hgB hat hg
          go_wp2_with fail
          refine bodyPost_ret (v := .tuple #[.agg #[.slice r.p1 A.now.length r.c1, .slice r.p2 A.safe.length r.c2, .slice r.p3 A.pend.length r.c3, .slice r.p4 A.files.length r.c4, .slice r.p5 A.files.length r.c5, .int .i64 (A.room : Int), .slice r.p6 A.fails.length r.c6, .int .i64 A.power, .int .i64 ((A.steps : Int) + 1)], .int .i64 95]) (by simp [results, Tryz.results51, go_sem, z0, z1, z2, z3, z4, z5, z6, z7, z8]) rfl ?_
          exact RStep.same HRB.out H3.out.b HD.out _ _ _ _ _ _ _ _ _
        | true =>
          rw [hg] at hgA
          go_wp2_with fail
          refine (hgA _).mono ?_
          rintro e3 w3 ⟨rfl, hb3⟩
          have hf3 := HH.out.below hb3
          obtain ⟨a0, a1, a2, a3, a4, a5, a6, a7, a8, af⟩ := st9v hf3.s
          obtain ⟨b0, b1, b2, b3⟩ := op4v hf3.o
          obtain ⟨z0, z1, z2, z3, z4, z5, z6, z7, z8, zf⟩ := st9v hf3.z
          have H3 := Lib.hid hf3
          have hat3 := hat w3 hf3.b
          clear hf3 hb3 hgA hgB hat
          go_wp2_with fail
          refine hat3.mono ?_
          rintro e4 w4 ⟨rfl, hb4⟩
          have hf4 := H3.out.below hb4
          obtain ⟨a0, a1, a2, a3, a4, a5, a6, a7, a8, af⟩ := st9v hf4.s
          obtain ⟨b0, b1, b2, b3⟩ := op4v hf4.o
          obtain ⟨z0, z1, z2, z3, z4, z5, z6, z7, z8, zf⟩ := st9v hf4.z
          have H4 := Lib.hid hf4
          clear hat3 hb4
          cases hk : lookN A.now na.data.toList with
          | none =>
            have hai : atI A.now na.data.toList = -1 := by unfold atI; rw [hk]
            rw [hai]
            have HD := Lib.hid (show doP A (opOf 3 na.data.toList nb.data.toList l) = (tk A, 90) from by
              have ho : onP A [] na.data.toList = 90 := by unfold onP; rw [HBEG.out, hk]; simp [badN, hg]
              rw [show opOf 3 na.data.toList nb.data.toList l = .sync na.data.toList from rfl, doP_sync, ho, HT.out.1]
              simp)
            clear hai hk hf4
            go_wp2_with fail
            refine bodyPost_ret (v := .tuple #[.agg #[.slice r.p1 A.now.length r.c1, .slice r.p2 A.safe.length r.c2, .slice r.p3 A.pend.length r.c3, .slice r.p4 A.files.length r.c4, .slice r.p5 A.files.length r.c5, .int .i64 (A.room : Int), .slice r.p6 A.fails.length r.c6, .int .i64 A.power, .int .i64 ((A.steps : Int) + 1)], .int .i64 90]) (by simp [results, Tryz.results51, go_sem, z0, z1, z2, z3, z4, z5, z6, z7, z8]) rfl ?_
            exact RStep.same HRB.out H4.out.b HD.out _ _ _ _ _ _ _ _ _
          | some f =>
            have hai : atI A.now na.data.toList = (f : Int) := by unfold atI; rw [hk]
            rw [hai]
            have hfl : f < A.files.length := hI.fnow _ (lookN_mem _ _ _ hk)
            have HON := Lib.hid (show onP A [] na.data.toList = 0 from by unfold onP; rw [HBEG.out, hk]; simp [badN, hg])
            have HAT := Lib.hid (show atP A na.data.toList = f from by unfold atP; rw [hk]; rfl)
            have hfp : (0 : Int) ≤ (f : Int) := by omega
            clear hai hk
            have hFone : ∀ u ∈ A.files.map (fun f : BS × Nat => Value.int .i64 (f.2 : Int)), u.oneCell' = true := fun u hu => by
              obtain ⟨f, _, e⟩ := List.mem_map.1 hu
              rw [← e]; rfl
            have hFl : (A.files.map (fun f : BS × Nat => Value.int .i64 (f.2 : Int))).length = A.files.length := by rw [List.length_map]
            have hF1 := HFR.out.2.plain.firm
            obtain ⟨Fi, hFi⟩ : ∃ Fi, Fi = A.files.map (fun f : BS × Nat => Value.int .i64 (f.2 : Int)) := ⟨_, rfl⟩
            rw [← hFi] at hF1 hFone hFl
            have HFI := Lib.hid hFi
            have hfz := hfit.files
            have hs4 := hf4.size
            have hf1 := hf4.alloc (.cells #[] 3)
            have c14 := (st9v hf1.s).2.2.2.2.1
            have hof0 := ownR_made 3 w4
            have hsF := srcV (c := r.c5) (e := 3) Tryz.underlying38 (hF1.below hf1.b) hFone
            rw [hFl] at hsF
            obtain ⟨b9, o9, hp4, q9, c9, hd9, hd9l, _⟩ := HFR.out.2.plain.dat hfl
            obtain ⟨m, hm⟩ : ∃ m, m = (datP A f).length := ⟨_, rfl⟩
            rw [← hm] at hd9 hd9l
            unfold maxLen at hd9l
            obtain ⟨A1, hA1⟩ : ∃ A1 : Pl, A1 = { tk A with files := A.files.modify f fun x => (x.1, x.1.length) } := ⟨_, rfl⟩
            have HD := Lib.hid (show doP A (opOf 3 na.data.toList nb.data.toList l) = (A1, 0) from by
              rw [show opOf 3 na.data.toList nb.data.toList l = .sync na.data.toList from rfl, doP_sync, HON.out, HAT.out, HT.out.1, hA1]
              simp [tk])
            have HM := Lib.hid (And.intro hm hA1)
            have HX := Lib.hid (And.intro hf1 hp4)
            have HP4 := Lib.hid hp4
            clear hFi hF1 hFone hFl hf1 hm hA1 hf4 hp4
            go_wp2_with (
              at_builtin; (
              refine wpList_append_way _ rfl _ _ 38 38 rfl w4.heap.size 3 (.int .i64 0) 1 8 Tryz.underlying38 infoI rfl _ 0 [] rfl hof0 _ A.files.length Fi rfl hsF (by unfold maxLen; omega) (by omega) (by simp) ?_
              intro f1 x2 hof1 hgf1 _
              have hf2 := HX.out.1.grown hgf1 (fun g e => by have := Option.some.inj (show some w4.heap.size = some g from e); omega)
              rw [List.nil_append, Nat.zero_add] at hof1
              have hf1lt := World.ownsRow.lt hof1
              obtain ⟨g, cap, rfl⟩ := own_form9 hof1 (show 0 < A.files.length by omega)
              have hgl := (hf1lt g rfl).1
              obtain ⟨a0, a1, a2, a3, a4, a5, a6, a7, a8, af⟩ := st9v hf2.s
              obtain ⟨z0, z1, z2, z3, z4, z5, z6, z7, z8, zf⟩ := st9v hf2.z
              have d2 := cell_keep hd9 hf2.b
              have hfr := World.ownsRow.frozenAt hof1 f
              have hce := World.ownsRow.cellAt hof1 f (by omega)
              have hfil : f < Fi.length := by have := hof1.1; omega
              obtain ⟨ox, hox⟩ : ∃ ox, Fi[f]? = some ox := ⟨_, List.getElem?_eq_getElem hfil⟩
              rw [hox] at hce
              rw [HP4.out] at a3
              have H2 := Lib.hid (And.intro hf2 (And.intro hof1 hgl))
              clear hgf1 hof0 hof1 hf1lt hf2 hox hd9))
            obtain ⟨hf2, hof1, hgl2⟩ := H2.out
            obtain ⟨hm, hA1⟩ := HM.out
            have hs2 := hf2.size
            obtain ⟨hof3, _⟩ := hof1.stored f (.int .i64 (m : Int))
            have hgg := (World.ownsRow.lt hof1 g rfl)
            have hfb : Below w.heap.size w (x2.setCell ⟨g, f, none⟩ (.int .i64 (m : Int))) := hf2.b.setCell (p := ⟨g, f, none⟩) (show w.heap.size ≤ g by omega) _
            have hof4 := ownsRow_setCell_below hof3 (a := ⟨w.heap.size, 4, none⟩) (show w.heap.size < w4.heap.size by omega) (.slice (some ⟨g, 0, none⟩) A.files.length cap)
            have hfb4 := hfb.setCell (p := ⟨w.heap.size, 4, none⟩) (Nat.le_refl _) (.slice (some ⟨g, 0, none⟩) A.files.length cap)
            refine bodyPost_ret (v := .tuple #[.agg #[.slice r.p1 A.now.length r.c1, .slice r.p2 A.safe.length r.c2, .slice r.p3 A.pend.length r.c3, .slice r.p4 A.files.length r.c4, .slice (some ⟨g, 0, none⟩) A.files.length cap, .int .i64 (A.room : Int), .slice r.p6 A.fails.length r.c6, .int .i64 A.power, .int .i64 ((A.steps : Int) + 1)], .int .i64 0]) (by rw [HP4.out]; simp [results, Tryz.results51, go_sem, z0, z1, z2, z3, z4, z5, z6, z7, z8]) rfl ?_
            obtain ⟨W9, hW9⟩ : ∃ W9, W9 = put9 ((x2.setCell ⟨g, f, none⟩ (.int .i64 (m : Int))).setCell ⟨w.heap.size, 4, none⟩ (.slice (some ⟨g, 0, none⟩) A.files.length cap)) (w.heap.size + 2) (.slice r.p1 A.now.length r.c1) (.slice r.p2 A.safe.length r.c2) (.slice r.p3 A.pend.length r.c3) (.slice r.p4 A.files.length r.c4) (.slice (some ⟨g, 0, none⟩) A.files.length cap) (.int .i64 (A.room : Int)) (.slice r.p6 A.fails.length r.c6) (.int .i64 A.power) (.int .i64 ((A.steps : Int) + 1)) := ⟨_, rfl⟩
            have hbW9 : Below w.heap.size w W9 := by rw [hW9]; exact put9_below hfb4 (by omega)
            have qF : W9.ownsRow w.heap.size 3 1 (.slice (some ⟨g, 0, none⟩) A.files.length cap) A.files.length (Fi.set f (.int .i64 (m : Int))) := by rw [hW9]; exact ownsRow_mono (ownsRow_put9 hof4 (by omega)) (by omega)
            obtain ⟨g9, hm9⟩ := mask_ex P W9
            have hkk := HG0.out.1.below hm9 hbW9
            have hfst : A1.files.map (fun f : BS × Nat => f.1) = A.files.map (fun f : BS × Nat => f.1) := by
              rw [hA1]
              show (A.files.modify f fun x => (x.1, x.1.length)).map _ = _
              rw [modify_set _ f _ A.files[f] (List.getElem?_eq_getElem hfl), List.map_set]
              apply List.ext_getElem (by simp)
              intro i h1 h2
              rw [List.getElem_set]
              split
              · rename_i e; subst e; rw [List.getElem_map]
              · rfl
            have hsnd : A1.files.map (fun f : BS × Nat => Value.int .i64 (f.2 : Int)) = Fi.set f (.int .i64 (m : Int)) := by
              rw [hA1, HFI.out]
              show (A.files.modify f fun x => (x.1, x.1.length)).map _ = _
              rw [modify_set _ f _ A.files[f] (List.getElem?_eq_getElem hfl), List.map_set, hm]
              unfold datP
              rw [List.getElem?_eq_getElem hfl]
              rfl
            have hRP : RefP P W9 { r with p5 := some ⟨g, 0, none⟩, c5 := cap } A1 := by
              obtain ⟨p, c, e, _, _, hin5, _⟩ := owns_shape (hm9.owns qF hP)
              injection e with e1 _ _
              subst e1
              have hr := HG0.out.2.keeps hkk
              refine ⟨g9, hm9, ⟨by rw [hA1]; exact hr.now, by rw [hA1]; exact hr.safe, by rw [hA1]; exact hr.pend, ?_, ?_, by rw [hA1]; exact hr.fails⟩⟩
              · rw [hfst]; exact hr.data
              · rw [hsnd]; exact hin5
            have := RStep.mk hRP hbW9 HD.out (cs := #[.slice r.p1 A.now.length r.c1, .slice r.p2 A.safe.length r.c2, .slice r.p3 A.pend.length r.c3, .slice r.p4 A.files.length r.c4, .slice (some ⟨g, 0, none⟩) A.files.length cap, .int .i64 (A.room : Int), .slice r.p6 A.fails.length r.c6, .int .i64 A.power, .int .i64 ((A.steps : Int) + 1)]) (by rw [hA1]; simp [stC, tk])
            rw [hW9] at this
            rw [HP4.out] at this ⊢
            exact this
end Go.Proofs.YtheoklhmlnfgjaaGreatDoor
