/-
  SwaplogSurvives: behind a loss of power a beginning of the records is read, with all that were told OK.
-/
import Derived.Test.YtheoklhmlnfgjaaGreatDoorPk4
import Derived.Test.YtheoklhmlnfgjaaGreatDoorPk2
import Derived.Test.YtheoklhmlnfgjaaGreatDoorPk1
namespace Go.Proofs.YtheoklhmlnfgjaaGreatDoor
open Go.RowKit Go.Maps
set_option linter.unusedVariables false

theorem OwnRc.parts {w : World} {base n c : Nat} {p : Option Addr} {L : List Rcd} (h : OwnRc w base (.slice p n c) L) : L.length = n ∧ n ≤ c ∧ c ≤ maxLen ∧ InRc w p L := by
  obtain ⟨p', c', e, h1, h2, h3, _⟩ := h.shape rfl
  injection e with e1 e2 e3
  subst e1 e2 e3
  exact ⟨rfl, h1, h2, h3⟩
theorem DP.blw {w0 W : World} {dd : Nat} {A : Pl} (h : DP w0 dd A W) : Below w0.heap.size w0 W := by
  obtain ⟨_, _, _, h⟩ := h
  exact h
set_option maxRecDepth 100000 in
set_option maxHeartbeats 16000000 in
theorem swaplogSurvives_walk (power : Int) (p : Option Addr) (Ad : List Rcd) (c : Nat) (fn : Int) (fp : Option Addr) (K : List Int) (fc : Nat) (w : World) (hpw : -9223372036854775808 ≤ power ∧ power ≤ 9223372036854775807) (hAd : InRc w p Ad) (hkA : Ad.length ≤ 1048576) (hK : InV w fp (K.map (Value.int .i64))) (hkK : K.length ≤ 1048576) :
    Calls Tryz.prog 6 #[.int .i64 power, .slice p Ad.length c, .agg #[.int .i64 fn, .slice fp K.length fc]] w fun e w' => e = .returned (.bool true) ∧ Below w.heap.size w w' := by
  go_enter Tryz.func6, Tryz.ntmps6
  go_wp2_with fail
  refine (alive11_any _).mono ?_
  rintro e wb ⟨rfl, hb1⟩
  have hB1 : Below w.heap.size w wb := ((Below.refl _ w).alloc (Nat.le_refl _) _).trans (hb1.mono (by simp))
  have g1 : wb.heap[w.heap.size]? = some (.cells #[.int .i64 fn, .slice fp K.length fc] 43 (0, 0)) := Below.heap hb1 (heap_alloc_new w _)
  have HB := Lib.hid (And.intro hB1 g1)
  clear hb1 hB1 g1
  by_cases hlen : 100 < Ad.length
  · go_wp2_with fail
    go_ret
    exact ⟨rfl, HB.out.1⟩
  have hlen : Ad.length ≤ 100 := by omega
  have hnew := new_p [] none 0 0 rfl 1048576 [] none 0 0 rfl power wb (InFs.nil _ _) (fun h => absurd h (by simp)) (by decide) (fun f hf => by cases hf) (by decide)
  rw [new_zero ⟨(fun f hf => by cases hf), List.Pairwise.nil⟩] at hnew
  go_wp2_with fail
  refine hnew.mono ?_
  rintro e w2 ⟨⟨h0, _⟩ | ⟨_, dd, P, rfl, hd, hP⟩, hb2⟩
  · exact absurd rfl h0
  have hD : DP wb dd (nilP power) w2 := ⟨P, hd, hP, hb2⟩
  have hop := open_lp hD (good_nil power) (by omega)
  have hgo := (good_nil power).open
  have hgo : GoodS 6 (openP (nilP power)).1 := hgo
  clear hnew hd hP hb2
  have hon := open_nil power
  obtain ⟨A0, hA0⟩ : ∃ X, X = openP (nilP power) := ⟨_, rfl⟩
  have hop : Calls Tryz.prog 18 #[.pointer (some ⟨dd, 0, none⟩)] w2 fun e w' => (A0.2.2 ≠ 0 ∧ e = .returned (.tuple #[.pointer none, .slice none 0 0, .int .i64 A0.2.2]) ∧ DP wb dd A0.1 w') ∨ (A0.2.2 = 0 ∧ ∃ lb p c, e = .returned (.tuple #[.pointer (some ⟨lb, 0, none⟩), .slice p A0.2.1.length c, .int .i64 0]) ∧ LP wb lb dd A0.1 A0.2.1.length w' ∧ InRc w' p A0.2.1) := by rw [hA0]; exact hop
  rw [← hA0] at hon hgo
  clear hA0 hD
  go_wp2_with fail
  refine hop.mono ?_
  clear hop
  rintro e w3 (⟨hz, rfl, hD3⟩ | ⟨hz, lb, p3, c3, rfl, hl3, _⟩)
  · -- Open was told an error
    have hz93 : A0.2.2 = 93 ∧ EndP A0.1 [] 0 := by
      rcases hon with h | ⟨_, h1, h2⟩
      · rw [h] at hz; exact absurd rfl hz
      · exact ⟨h1, end_nil h2⟩
    rw [hz93.1]
    have hmade := OwnRc.made w3
    obtain ⟨A, hA⟩ : ∃ X, X = A0.1 := ⟨_, rfl⟩
    rw [← hA] at hz93 hD3 hgo
    obtain ⟨w4, hw4⟩ : ∃ X, X = w3.alloc (.cells #[] 35) := ⟨_, rfl⟩
    have hb4 : Below w3.heap.size w3 w4 := by rw [hw4]; exact (Below.refl _ w3).alloc (Nat.le_refl _) _
    rw [← hw4] at hmade
    have hT0 := And.intro (hD3.below hb4) (And.intro hgo.good (And.intro hz93.2 hmade))
    have HW4 := Lib.hid hw4
    clear hz hz93 hD3 hgo hon hmade hb4 hA hw4
    go_wp2_with fail
    rw [← HW4.out]
    go_loopw [11, 12, 13] (fun v f i wr => ∃ (vp : Option Addr) (nT vc firm : Nat) (T : List Rcd), v = .slice vp nT vc ∧ f = .int .i64 firm ∧ i = .int .i64 0 ∧ nT ≤ 101 ∧ DP wb dd A wr ∧ GoodA 6 A ∧ EndP A T firm ∧ OwnRc wr w3.heap.size (.slice vp nT vc) T) (fun _ _ _ _ => 0)
    case atStart => exact ⟨_, 0, 0, 0, [], rfl, rfl, rfl, by omega, hT0⟩
    case round =>
      obtain ⟨vp, nT, vc, firm, T, rfl, rfl, rfl, hnT, hT⟩ := hrel
      have HT := Lib.hid hT
      clear hT hT0
      obtain ⟨lA, hlA⟩ : ∃ x, x = Ad.length := ⟨_, rfl⟩
      rw [← hlA] at hlen ⊢
      have HLA := Lib.hid hlA
      clear hlA
      rcases Nat.eq_zero_or_pos lA with h0 | h0
      ·
        have k1 := (HT.out.1.blw.block _ (lt_of_heap HB.out.2)).trans HB.out.2
        have hBw := HB.out.1.trans (HT.out.1.blw.mono HB.out.1.size)
        have b0 : wr.cell? ⟨w.heap.size, 0, none⟩ = some (.int .i64 fn) := by rw [cell_of_row _ _ _ _ _ _ k1]; rfl
        have b1 : wr.cell? ⟨w.heap.size, 1, none⟩ = some (.slice fp K.length fc) := by rw [cell_of_row _ _ _ _ _ _ k1]; rfl
        have hcf := copyFate_any fn K fp _ fc rfl (by omega) wr (hK.below hBw)
        clear k1 hBw
        go_wp2_with fail
        refine hcf.mono ?_
        rintro e20 w20 ⟨p20, c20, rfl, hin20, _, hb20⟩
        have hlf := left_dp (HT.out.1.below hb20) HT.out.2.1 (by omega) fn K p20 _ c20 rfl hin20
        have hTb := left_bounds HT.out.2.1 (by omega) fn K
        obtain ⟨f1, f2, m, f3, f4, f5, f6⟩ := HT.out.2.2.1 fn K
        obtain ⟨F, hF⟩ : ∃ F, F = leftP A fn K := ⟨_, rfl⟩
        rw [← hF] at hlf hTb f1 f2 f5 f6
        have H20 := Lib.hid hb20
        have HF := Lib.hid (And.intro f1 (And.intro f2 (And.intro f5 (And.intro f6 hTb))))
        have hTl := hTb.1
        clear hcf hF hTb f1 f2 f5 f6 hin20 hb20 b0 b1
        go_wp2_with fail
        refine hlf.mono ?_
        rintro e21 w21 ⟨p21, c21, rfl, _, hin21, hb21⟩
        have hnw := new_p F p21 _ c21 rfl 1048576 [] none 0 0 rfl (-1) w21 hin21 (fun h => absurd h (by simp)) (by omega) HF.out.2.2.2.2.2 (by decide)
        rw [HF.out.1] at hnw
        have H21 := Lib.hid (H20.out.trans (hb21.mono H20.out.size))
        clear hlf hb21 hin21
        go_wp2_with fail
        refine hnw.mono ?_
        rintro e22 w22 ⟨⟨h0, _⟩ | ⟨_, d2, P2, rfl, hd2, hP2⟩, hb22⟩
        · exact absurd rfl h0
        have hD2 : DP w21 d2 (newP F 1048576 [] (-1)) w22 := ⟨P2, hd2, hP2, hb22⟩
        have hop := open_lp hD2 HF.out.2.1 (by omega)
        have hlen2 : (T.take m).length = m := by rw [List.length_take]; omega
        rw [HF.out.2.2.1, HF.out.2.2.2.1, hlen2] at hop
        have H22 := Lib.hid hlen2
        clear hnw hd2 hP2 hb22 hD2 hlen2
        go_wp2_with fail
        refine hop.mono ?_
        rintro e23 w23 (⟨h0, _⟩ | ⟨_, l2, p23, c23, rfl, hl23, hin23⟩)
        · exact absurd rfl h0
        have hb23 := hl23.blw
        have hrow23 := HT.out.2.2.2.below (H21.out.trans (hb23.mono H21.out.size))
        have hBe := HB.out.1.trans ((HT.out.1.blw.trans ((H21.out.trans (hb23.mono H21.out.size)).mono HT.out.1.blw.size)).mono HB.out.1.size)
        have hct := count_any hl23.box
        obtain ⟨hvn, hvc1, hvc2, hinT⟩ := hrow23.parts
        have f3n : m ≤ nT := by rw [← hvn]; exact f3
        have f3c : m ≤ vc := by omega
        have H23 := Lib.hid (And.intro hin23 (And.intro hinT hBe))
        clear hop hl23 hin23 hb23 hrow23 hinT hBe hvn
        go_wp2_with fail
        refine (hct.mono fun _ _ h => (show _ ∧ w23 = _ from ⟨h.1, h.2.symm⟩)).mono ?_
        rintro e24 w24 ⟨rfl, rfl⟩
        clear hct
        go_wp2_with fail
        refine (sameRecords_any (T.take m) (T.take m) p23 vp m c23 m vc H22.out H22.out (by omega) (by omega) w23 H23.out.1 (H23.out.2.1.take m)).mono ?_
        rintro e25 w25 ⟨z25, rfl, hz25, hb25⟩
        obtain rfl : z25 = true := hz25.2 rfl
        have H25 := Lib.hid (H23.out.2.2.trans (hb25.mono H23.out.2.2.size))
        clear hb25 hz25
        go_wp2_with fail
        go_ret
        exact ⟨rfl, H25.out⟩
      ·
        have k1 := (HT.out.1.blw.block _ (lt_of_heap HB.out.2)).trans HB.out.2
        have hBw := HB.out.1.trans (HT.out.1.blw.mono HB.out.1.size)
        have b0 : wr.cell? ⟨w.heap.size, 0, none⟩ = some (.int .i64 fn) := by rw [cell_of_row _ _ _ _ _ _ k1]; rfl
        have b1 : wr.cell? ⟨w.heap.size, 1, none⟩ = some (.slice fp K.length fc) := by rw [cell_of_row _ _ _ _ _ _ k1]; rfl
        have hcf := copyFate_any fn K fp _ fc rfl (by omega) wr (hK.below hBw)
        clear k1 hBw
        go_wp2_with fail
        refine hcf.mono ?_
        rintro e20 w20 ⟨p20, c20, rfl, hin20, _, hb20⟩
        have hlf := left_dp (HT.out.1.below hb20) HT.out.2.1 (by omega) fn K p20 _ c20 rfl hin20
        have hTb := left_bounds HT.out.2.1 (by omega) fn K
        obtain ⟨f1, f2, m, f3, f4, f5, f6⟩ := HT.out.2.2.1 fn K
        obtain ⟨F, hF⟩ : ∃ F, F = leftP A fn K := ⟨_, rfl⟩
        rw [← hF] at hlf hTb f1 f2 f5 f6
        have H20 := Lib.hid hb20
        have HF := Lib.hid (And.intro f1 (And.intro f2 (And.intro f5 (And.intro f6 hTb))))
        have hTl := hTb.1
        clear hcf hF hTb f1 f2 f5 f6 hin20 hb20 b0 b1
        go_wp2_with fail
        refine hlf.mono ?_
        rintro e21 w21 ⟨p21, c21, rfl, _, hin21, hb21⟩
        have hnw := new_p F p21 _ c21 rfl 1048576 [] none 0 0 rfl (-1) w21 hin21 (fun h => absurd h (by simp)) (by omega) HF.out.2.2.2.2.2 (by decide)
        rw [HF.out.1] at hnw
        have H21 := Lib.hid (H20.out.trans (hb21.mono H20.out.size))
        clear hlf hb21 hin21
        go_wp2_with fail
        refine hnw.mono ?_
        rintro e22 w22 ⟨⟨h0, _⟩ | ⟨_, d2, P2, rfl, hd2, hP2⟩, hb22⟩
        · exact absurd rfl h0
        have hD2 : DP w21 d2 (newP F 1048576 [] (-1)) w22 := ⟨P2, hd2, hP2, hb22⟩
        have hop := open_lp hD2 HF.out.2.1 (by omega)
        have hlen2 : (T.take m).length = m := by rw [List.length_take]; omega
        rw [HF.out.2.2.1, HF.out.2.2.2.1, hlen2] at hop
        have H22 := Lib.hid hlen2
        clear hnw hd2 hP2 hb22 hD2 hlen2
        go_wp2_with fail
        refine hop.mono ?_
        rintro e23 w23 (⟨h0, _⟩ | ⟨_, l2, p23, c23, rfl, hl23, hin23⟩)
        · exact absurd rfl h0
        have hb23 := hl23.blw
        have hrow23 := HT.out.2.2.2.below (H21.out.trans (hb23.mono H21.out.size))
        have hBe := HB.out.1.trans ((HT.out.1.blw.trans ((H21.out.trans (hb23.mono H21.out.size)).mono HT.out.1.blw.size)).mono HB.out.1.size)
        have hct := count_any hl23.box
        obtain ⟨hvn, hvc1, hvc2, hinT⟩ := hrow23.parts
        have f3n : m ≤ nT := by rw [← hvn]; exact f3
        have f3c : m ≤ vc := by omega
        have H23 := Lib.hid (And.intro hin23 (And.intro hinT hBe))
        clear hop hl23 hin23 hb23 hrow23 hinT hBe hvn
        go_wp2_with fail
        refine (hct.mono fun _ _ h => (show _ ∧ w23 = _ from ⟨h.1, h.2.symm⟩)).mono ?_
        rintro e24 w24 ⟨rfl, rfl⟩
        clear hct
        go_wp2_with fail
        refine (sameRecords_any (T.take m) (T.take m) p23 vp m c23 m vc H22.out H22.out (by omega) (by omega) w23 H23.out.1 (H23.out.2.1.take m)).mono ?_
        rintro e25 w25 ⟨z25, rfl, hz25, hb25⟩
        obtain rfl : z25 = true := hz25.2 rfl
        have H25 := Lib.hid (H23.out.2.2.trans (hb25.mono H23.out.2.2.size))
        clear hb25 hz25
        go_wp2_with fail
        go_ret
        exact ⟨rfl, H25.out⟩
  · -- Open was told OK
    have hA0 : A0 = (begunP power, [], 0) := by
      rcases hon with h | ⟨_, h1, _⟩
      · exact h
      · rw [hz] at h1; cases h1
    rw [hA0] at hl3 hgo ⊢
    have hl3 : LP wb lb dd (begunP power) 0 w3 := hl3
    have hmade := OwnRc.made w3
    obtain ⟨w4, hw4⟩ : ∃ X, X = w3.alloc (.cells #[] 35) := ⟨_, rfl⟩
    have hb4 : Below w3.heap.size w3 w4 := by rw [hw4]; exact (Below.refl _ w3).alloc (Nat.le_refl _) _
    rw [← hw4] at hmade
    have hs4 : w4.heap.size = w3.heap.size + 1 := by rw [hw4]; simp
    have hlpe := hl3.lpe (N := fun g => (Value.slice (some ⟨w3.heap.size, 0, none⟩) 0 0).ownBlock = some g) hb4 (fun g hg => by
      obtain rfl : w3.heap.size = g := by simpa [Value.ownBlock] using hg
      exact ⟨Nat.le_refl _, by omega⟩)
    have hbase := hl3.blw.size
    have hT0 := And.intro (LogS.start power) (And.intro hgo (And.intro hlpe hmade))
    have HW4 := Lib.hid hw4
    clear hz hA0 hl3 hgo hon hmade hb4 hlpe hw4 hs4
    obtain ⟨base, hbs⟩ : ∃ b, b = w3.heap.size := ⟨_, rfl⟩
    go_wp2_with fail
    rw [← HW4.out]
    rw [← hbs] at hbase
    have HBS := Lib.hid hbs
    clear hbs
    obtain ⟨lA, hlA⟩ : ∃ x, x = Ad.length := ⟨_, rfl⟩
    rw [← hlA] at hlen ⊢
    have HLA := Lib.hid hlA
    clear hlA
    go_loopw [11, 12, 13] (fun v f i wr => ∃ (vp : Option Addr) (nT vc firm k : Nat) (L : List Rcd) (A : Pl), v = .slice vp nT vc ∧ f = .int .i64 firm ∧ i = .int .i64 k ∧ k ≤ lA ∧ L.length ≤ k ∧ L.length = nT ∧ LogS A L firm power ∧ GoodS (6 + 2 * k) A ∧ LPE wb lb dd A nT (fun g => (Value.slice vp nT vc).ownBlock = some g) wr ∧ OwnRc wr base (.slice vp nT vc) (numR L 0) ∧ base ≤ wr.heap.size) (fun _ _ i _ => lA - (intOf i).toNat)
    case atStart => exact ⟨_, 0, 0, 0, 0, [], _, rfl, rfl, rfl, Nat.zero_le _, Nat.le_refl _, rfl, hT0.1, hT0.2.1, hT0.2.2.1, by rw [HBS.out]; exact hT0.2.2.2, by rw [HBS.out, HW4.out]; simp⟩
    case round =>
      obtain ⟨vp, nT, vc, firm, k, L, A, rfl, rfl, rfl, hk, hLk, hLn, hls, hgs, hlp, hown, hbw⟩ := hrel
      clear hT0
      by_cases hlt : k < lA
      · obtain ⟨b, o, rfl, x, x0, x1, x2, x3, hx⟩ := (hAd.below (HB.out.1.trans (hlp.blw.mono HB.out.1.size))).at (k := k) (by rw [← HLA.out]; exact hlt)
        obtain ⟨r, hr⟩ : ∃ r, r = Ad[k]'(by rw [← HLA.out]; exact hlt) := ⟨_, rfl⟩
        rw [← hr] at x0 x1 x2 hx
        obtain ⟨sq, op, no, id⟩ := r
        dsimp only at x0 x1 x2 hx
        subst hx
        have hadd := hls.add ⟨sq, op, no, x.data.toList⟩ (by omega)
        rw [hLn] at hadd
        dsimp only at hadd
        obtain ⟨wa, hwa⟩ : ∃ X, X = wr.alloc (.cells #[.int .i64 sq, .int .i64 op, .int .i64 no, .string x] 35) := ⟨_, rfl⟩
        have hba : Below wr.heap.size wr wa := by rw [hwa]; exact (Below.refl _ wr).alloc (Nat.le_refl _) _
        have gr : wa.heap[wr.heap.size]? = some (.cells #[.int .i64 sq, .int .i64 op, .int .i64 no, .string x] 35 (0, 0)) := by rw [hwa]; exact heap_alloc_new wr _
        have hlpa := hlp.add hba (fun g => (Value.slice vp nT vc).ownBlock = some g ∨ g = wr.heap.size) (fun g hg => hg.imp id fun e => ⟨by rw [e]; exact Nat.le_refl _, by rw [e]; exact lt_of_heap gr⟩)
        have hct := (count_any hlpa.box).mono fun _ _ h => (show _ ∧ wa = _ from ⟨h.1, h.2.symm⟩)
        have hgn := hgs.add nT op no x.data.toList
        have had := add_lpe hlpa hgs (by omega) (by omega) (by omega) op no x
        obtain ⟨⟨A', n', z⟩, hA'⟩ : ∃ X, X = addP A nT op no x.data.toList := ⟨_, rfl⟩
        rw [← hA'] at had hadd hgn
        dsimp only at had hadd hgn
        have H := Lib.hid (And.intro (hown.below hba) (And.intro gr (And.intro hgn (And.intro hls (And.intro hadd (And.intro hlpa.blw hba))))))
        have HWA := Lib.hid hwa
        rw [hwa] at hct
        clear hr hwa hba gr hlpa hgn hls hlp hgs hown hA' hadd
        go_wp2_with fail
        refine hct.mono ?_
        rw [← HWA.out]
        rintro e w5 ⟨rfl, rfl⟩
        clear hct
        have y1 : wa.cell? ⟨wr.heap.size, 1, none⟩ = some (.int .i64 op) := by rw [cell_of_row _ _ _ _ _ _ H.out.2.1]; rfl
        have y2 : wa.cell? ⟨wr.heap.size, 2, none⟩ = some (.int .i64 no) := by rw [cell_of_row _ _ _ _ _ _ H.out.2.1]; rfl
        have y3 : wa.cell? ⟨wr.heap.size, 3, none⟩ = some (.string x) := by rw [cell_of_row _ _ _ _ _ _ H.out.2.1]; rfl
        go_wp2_with fail
        refine had.mono ?_
        rintro e w6 ⟨rfl, hlp6, hs6⟩
        have hown6 := H.out.1.same fun g hg => hs6 g (.inl hg)
        have hct6 := (count_any hlp6.box).mono fun _ _ h => (show _ ∧ w6 = _ from ⟨h.1, h.2.symm⟩)
        obtain ⟨w7, hw7⟩ : ∃ X, X = w6 := ⟨_, rfl⟩
        have gr6 : w6.heap[wr.heap.size]? = some (.cells #[.int .i64 sq, .int .i64 op, .int .i64 no, .string x] 35 (0, 0)) := (hs6 _ (.inr rfl)).trans H.out.2.1
        have hb6 : base ≤ w6.heap.size := by have := lt_of_heap gr6; omega
        have z1 : w6.cell? ⟨wr.heap.size, 1, none⟩ = some (.int .i64 op) := by rw [cell_of_row _ _ _ _ _ _ gr6]; rfl
        have z2 : w6.cell? ⟨wr.heap.size, 2, none⟩ = some (.int .i64 no) := by rw [cell_of_row _ _ _ _ _ _ gr6]; rfl
        have z3 : w6.cell? ⟨wr.heap.size, 3, none⟩ = some (.string x) := by rw [cell_of_row _ _ _ _ _ _ gr6]; rfl
        rw [← hw7] at hlp6 hown6 hct6 z1 z2 z3 hb6 ⊢
        have H7 := Lib.hid (And.intro (hlp6.add (Below.refl _ _) (fun g => (Value.slice vp nT vc).ownBlock = some g) fun g hg => .inl (.inl hg)) (And.intro hown6 hb6))
        clear had hs6 hlp6 hown6 gr6 hw7 hb6 y1 y2 y3
        rcases H.out.2.2.2.2.1 with ⟨t1, t2, t3, t4⟩ | ⟨t1, t2, ⟨t3, t4, t5⟩ | ⟨t3, t5⟩⟩ | ⟨t1, t2, t3⟩
        · -- refused: the log stays
          have q1 : (z == 0) = false := beq_eq_false_iff_ne.2 t1
          have q2 : (z == 93) = false := beq_eq_false_iff_ne.2 t2
          have HT := Lib.hid (And.intro t3 t4)
          rw [t3] at hct6
          clear t1 t2 t3 t4
          go_wp2_with fail
          refine hct6.mono ?_
          rintro e w8 ⟨rfl, rfl⟩
          go_wp2_with fail
          go_roundw
          case rel => exact ⟨vp, nT, vc, firm, k + 1, L, A', rfl, rfl, by go_num, hlt, by omega, hLn, HT.out.2, by have := H.out.2.2.1; exact this.more (by omega), by have := H7.out.1; rw [HT.out.1] at this; exact this, H7.out.2.1, H7.out.2.2⟩
          case measure => simp [intOf]; omega
        · -- the power went ahead of the record
          subst t1
          rw [t3] at hct6
          have H7f := Lib.hid (show A'.fails = [] from t5.fails)
          have HE := Lib.hid (end_log t5 (by omega) [⟨(nT : Int), op, no, x.data.toList⟩])
          clear t2 t3 t4 t5
          have hct6b := hct6
          go_wp2_with fail
          refine hct6.mono ?_
          rintro e w8 ⟨rfl, rfl⟩
          have hone := InRc.one w7 ⟨(nT : Int), op, no, x.data.toList⟩ 35
          have HO := Lib.hid hone
          clear hone
          go_wp2_with (at_builtin; refine wpList_appendRcw rfl _ _ rfl base _ (numR L 0) rfl (H7.out.2.1.alloc _) _ _ _ [⟨(nT : Int), op, no, x.data.toList⟩] rfl rfl HO.out (by rw [numR_length]; simp only [List.length_cons, List.length_nil]; omega) (by have := H7.out.2.2; simp only [World.size_alloc]; omega) ?_; intro v8 w8 hown8 hgrow8 hway8; have HL8 := Lib.hid (And.intro (LPE.grown (H7.out.1.below ((Below.refl _ w7).alloc (Nat.le_refl _) (.cells (rcA ⟨(nT : Int), op, no, x.data.toList⟩) 35))) H7f.out (H7.out.2.1.alloc _) hbase hgrow8 hway8 hown8) (And.intro hown8 (show base ≤ w8.heap.size by have h1 := hgrow8.size; rw [World.size_alloc] at h1; have := H7.out.2.2; omega))); have k8 := (HL8.out.1.blw.block _ (lt_of_heap HB.out.2)).trans HB.out.2; have b0 : w8.cell? ⟨w.heap.size, 0, none⟩ = some (.int .i64 fn) := (by rw [cell_of_row _ _ _ _ _ _ k8]; rfl); have b1 : w8.cell? ⟨w.heap.size, 1, none⟩ = some (.slice fp K.length fc) := (by rw [cell_of_row _ _ _ _ _ _ k8]; rfl); clear k8; obtain ⟨p8, c8, rfl, _, _, _, _⟩ := hown8.shape (n := nT + 1) (by rw [List.length_append, numR_length, hLn]; rfl); clear hown8 hgrow8 hway8)
          obtain ⟨T, hT⟩ : ∃ T : List Rcd, T = numR L 0 ++ [⟨(nT : Int), op, no, x.data.toList⟩] := ⟨_, rfl⟩
          have HT := Lib.hid (show DP wb dd A' w8 ∧ GoodA (6 + 2 * k + 2) A' ∧ EndP A' T firm ∧ OwnRc w8 base (.slice p8 (nT + 1) c8) T by
            rw [hT]
            exact ⟨HL8.out.1.dp, H.out.2.2.1.good, HE.out, HL8.out.2.1⟩)
          have hcf := copyFate_any fn K fp _ fc rfl (by omega) w8 (hK.below (HB.out.1.trans (HT.out.1.blw.mono HB.out.1.size)))
          clear hT hct6b
          refine hcf.mono ?_
          rintro e20 w20 ⟨p20, c20, rfl, hin20, _, hb20⟩
          have hlf := left_dp (HT.out.1.below hb20) HT.out.2.1 (by omega) fn K p20 _ c20 rfl hin20
          have hTb := left_bounds HT.out.2.1 (by omega) fn K
          obtain ⟨f1, f2, m, f3, f4, f5, f6⟩ := HT.out.2.2.1 fn K
          obtain ⟨F, hF⟩ : ∃ F, F = leftP A' fn K := ⟨_, rfl⟩
          rw [← hF] at hlf hTb f1 f2 f5 f6
          have H20 := Lib.hid hb20
          have HF := Lib.hid (And.intro f1 (And.intro f2 (And.intro f5 (And.intro f6 hTb))))
          have hTl := hTb.1
          clear hcf hF hTb f1 f2 f5 f6 hin20 hb20 b0 b1
          go_wp2_with fail
          refine hlf.mono ?_
          rintro e21 w21 ⟨p21, c21, rfl, _, hin21, hb21⟩
          have hnw := new_p F p21 _ c21 rfl 1048576 [] none 0 0 rfl (-1) w21 hin21 (fun h => absurd h (by simp)) (by omega) HF.out.2.2.2.2.2 (by decide)
          rw [HF.out.1] at hnw
          have H21 := Lib.hid (H20.out.trans (hb21.mono H20.out.size))
          clear hlf hb21 hin21
          go_wp2_with fail
          refine hnw.mono ?_
          rintro e22 w22 ⟨⟨h0, _⟩ | ⟨_, d2, P2, rfl, hd2, hP2⟩, hb22⟩
          · exact absurd rfl h0
          have hD2 : DP w21 d2 (newP F 1048576 [] (-1)) w22 := ⟨P2, hd2, hP2, hb22⟩
          have hop := open_lp hD2 HF.out.2.1 (by omega)
          have hlen2 : (T.take m).length = m := by rw [List.length_take]; omega
          rw [HF.out.2.2.1, HF.out.2.2.2.1, hlen2] at hop
          have H22 := Lib.hid hlen2
          clear hnw hd2 hP2 hb22 hD2 hlen2
          go_wp2_with fail
          refine hop.mono ?_
          rintro e23 w23 (⟨h0, _⟩ | ⟨_, l2, p23, c23, rfl, hl23, hin23⟩)
          · exact absurd rfl h0
          have hb23 := hl23.blw
          have hrow23 := HT.out.2.2.2.below (H21.out.trans (hb23.mono H21.out.size))
          have hBe := HB.out.1.trans ((HT.out.1.blw.trans ((H21.out.trans (hb23.mono H21.out.size)).mono HT.out.1.blw.size)).mono HB.out.1.size)
          have hct := count_any hl23.box
          obtain ⟨hvn, hvc1, hvc2, hinT⟩ := hrow23.parts
          have f3n : m ≤ (nT + 1) := by rw [← hvn]; exact f3
          have f3c : m ≤ c8 := by omega
          have H23 := Lib.hid (And.intro hin23 (And.intro hinT hBe))
          clear hop hl23 hin23 hb23 hrow23 hinT hBe hvn
          go_wp2_with fail
          refine (hct.mono fun _ _ h => (show _ ∧ w23 = _ from ⟨h.1, h.2.symm⟩)).mono ?_
          rintro e24 w24 ⟨rfl, rfl⟩
          clear hct
          go_wp2_with fail
          refine (sameRecords_any (T.take m) (T.take m) p23 p8 m c23 m c8 H22.out H22.out (by omega) (by omega) w23 H23.out.1 (H23.out.2.1.take m)).mono ?_
          rintro e25 w25 ⟨z25, rfl, hz25, hb25⟩
          obtain rfl : z25 = true := hz25.2 rfl
          have H25 := Lib.hid (H23.out.2.2.trans (hb25.mono H23.out.2.2.size))
          clear hb25 hz25
          go_wp2_with fail
          go_ret
          exact ⟨rfl, H25.out⟩
        · -- the power went behind the record
          subst t1
          rw [t3] at hct6
          have H7f := Lib.hid (show A'.fails = [] from t5.fails)
          have HE := Lib.hid (show EndP A' (numR L 0 ++ [⟨(nT : Int), op, no, x.data.toList⟩]) firm by
            have h5 := end_log t5 (by rw [List.length_append, List.length_singleton]; omega) []
            rw [List.append_nil, numR_snoc, hLn] at h5
            exact h5)
          clear t2 t3 t5
          have hct6b := hct6
          go_wp2_with fail
          refine hct6.mono ?_
          rintro e w8 ⟨rfl, rfl⟩
          have hone := InRc.one w7 ⟨(nT : Int), op, no, x.data.toList⟩ 35
          have HO := Lib.hid hone
          clear hone
          go_wp2_with (at_builtin; refine wpList_appendRcw rfl _ _ rfl base _ (numR L 0) rfl (H7.out.2.1.alloc _) _ _ _ [⟨(nT : Int), op, no, x.data.toList⟩] rfl rfl HO.out (by rw [numR_length]; simp only [List.length_cons, List.length_nil]; omega) (by have := H7.out.2.2; simp only [World.size_alloc]; omega) ?_; intro v8 w8 hown8 hgrow8 hway8; have HL8 := Lib.hid (And.intro (LPE.grown (H7.out.1.below ((Below.refl _ w7).alloc (Nat.le_refl _) (.cells (rcA ⟨(nT : Int), op, no, x.data.toList⟩) 35))) H7f.out (H7.out.2.1.alloc _) hbase hgrow8 hway8 hown8) (And.intro hown8 (show base ≤ w8.heap.size by have h1 := hgrow8.size; rw [World.size_alloc] at h1; have := H7.out.2.2; omega))); have k8 := (HL8.out.1.blw.block _ (lt_of_heap HB.out.2)).trans HB.out.2; have b0 : w8.cell? ⟨w.heap.size, 0, none⟩ = some (.int .i64 fn) := (by rw [cell_of_row _ _ _ _ _ _ k8]; rfl); have b1 : w8.cell? ⟨w.heap.size, 1, none⟩ = some (.slice fp K.length fc) := (by rw [cell_of_row _ _ _ _ _ _ k8]; rfl); clear k8; obtain ⟨p8, c8, rfl, _, _, _, _⟩ := hown8.shape (n := nT + 1) (by rw [List.length_append, numR_length, hLn]; rfl); clear hown8 hgrow8 hway8)
          obtain ⟨T, hT⟩ : ∃ T : List Rcd, T = numR L 0 ++ [⟨(nT : Int), op, no, x.data.toList⟩] := ⟨_, rfl⟩
          have HT := Lib.hid (show DP wb dd A' w8 ∧ GoodA (6 + 2 * k + 2) A' ∧ EndP A' T firm ∧ OwnRc w8 base (.slice p8 (nT + 1) c8) T by
            rw [hT]
            exact ⟨HL8.out.1.dp, H.out.2.2.1.good, HE.out, HL8.out.2.1⟩)
          have hcf := copyFate_any fn K fp _ fc rfl (by omega) w8 (hK.below (HB.out.1.trans (HT.out.1.blw.mono HB.out.1.size)))
          clear hT hct6b
          refine hcf.mono ?_
          rintro e20 w20 ⟨p20, c20, rfl, hin20, _, hb20⟩
          have hlf := left_dp (HT.out.1.below hb20) HT.out.2.1 (by omega) fn K p20 _ c20 rfl hin20
          have hTb := left_bounds HT.out.2.1 (by omega) fn K
          obtain ⟨f1, f2, m, f3, f4, f5, f6⟩ := HT.out.2.2.1 fn K
          obtain ⟨F, hF⟩ : ∃ F, F = leftP A' fn K := ⟨_, rfl⟩
          rw [← hF] at hlf hTb f1 f2 f5 f6
          have H20 := Lib.hid hb20
          have HF := Lib.hid (And.intro f1 (And.intro f2 (And.intro f5 (And.intro f6 hTb))))
          have hTl := hTb.1
          clear hcf hF hTb f1 f2 f5 f6 hin20 hb20 b0 b1
          go_wp2_with fail
          refine hlf.mono ?_
          rintro e21 w21 ⟨p21, c21, rfl, _, hin21, hb21⟩
          have hnw := new_p F p21 _ c21 rfl 1048576 [] none 0 0 rfl (-1) w21 hin21 (fun h => absurd h (by simp)) (by omega) HF.out.2.2.2.2.2 (by decide)
          rw [HF.out.1] at hnw
          have H21 := Lib.hid (H20.out.trans (hb21.mono H20.out.size))
          clear hlf hb21 hin21
          go_wp2_with fail
          refine hnw.mono ?_
          rintro e22 w22 ⟨⟨h0, _⟩ | ⟨_, d2, P2, rfl, hd2, hP2⟩, hb22⟩
          · exact absurd rfl h0
          have hD2 : DP w21 d2 (newP F 1048576 [] (-1)) w22 := ⟨P2, hd2, hP2, hb22⟩
          have hop := open_lp hD2 HF.out.2.1 (by omega)
          have hlen2 : (T.take m).length = m := by rw [List.length_take]; omega
          rw [HF.out.2.2.1, HF.out.2.2.2.1, hlen2] at hop
          have H22 := Lib.hid hlen2
          clear hnw hd2 hP2 hb22 hD2 hlen2
          go_wp2_with fail
          refine hop.mono ?_
          rintro e23 w23 (⟨h0, _⟩ | ⟨_, l2, p23, c23, rfl, hl23, hin23⟩)
          · exact absurd rfl h0
          have hb23 := hl23.blw
          have hrow23 := HT.out.2.2.2.below (H21.out.trans (hb23.mono H21.out.size))
          have hBe := HB.out.1.trans ((HT.out.1.blw.trans ((H21.out.trans (hb23.mono H21.out.size)).mono HT.out.1.blw.size)).mono HB.out.1.size)
          have hct := count_any hl23.box
          obtain ⟨hvn, hvc1, hvc2, hinT⟩ := hrow23.parts
          have f3n : m ≤ (nT + 1) := by rw [← hvn]; exact f3
          have f3c : m ≤ c8 := by omega
          have H23 := Lib.hid (And.intro hin23 (And.intro hinT hBe))
          clear hop hl23 hin23 hb23 hrow23 hinT hBe hvn
          go_wp2_with fail
          refine (hct.mono fun _ _ h => (show _ ∧ w23 = _ from ⟨h.1, h.2.symm⟩)).mono ?_
          rintro e24 w24 ⟨rfl, rfl⟩
          clear hct
          go_wp2_with fail
          refine (sameRecords_any (T.take m) (T.take m) p23 p8 m c23 m c8 H22.out H22.out (by omega) (by omega) w23 H23.out.1 (H23.out.2.1.take m)).mono ?_
          rintro e25 w25 ⟨z25, rfl, hz25, hb25⟩
          obtain rfl : z25 = true := hz25.2 rfl
          have H25 := Lib.hid (H23.out.2.2.trans (hb25.mono H23.out.2.2.size))
          clear hb25 hz25
          go_wp2_with fail
          go_ret
          exact ⟨rfl, H25.out⟩
        · -- told OK
          subst t1
          rw [t2] at hct6
          have H7f := Lib.hid (show A'.fails = [] from t3.fails)
          have HT := Lib.hid (And.intro t2 t3)
          clear t2 t3
          have hct6b := hct6
          go_wp2_with fail
          refine hct6.mono ?_
          rintro e w8 ⟨rfl, rfl⟩
          have hone := InRc.one w7 ⟨(nT : Int), op, no, x.data.toList⟩ 35
          have HO := Lib.hid hone
          clear hone
          go_wp2_with (at_builtin; refine wpList_appendRcw rfl _ _ rfl base _ (numR L 0) rfl (H7.out.2.1.alloc _) _ _ _ [⟨(nT : Int), op, no, x.data.toList⟩] rfl rfl HO.out (by rw [numR_length]; simp only [List.length_cons, List.length_nil]; omega) (by have := H7.out.2.2; simp only [World.size_alloc]; omega) ?_; intro v8 w8 hown8 hgrow8 hway8; have HL8 := Lib.hid (And.intro (LPE.grown (H7.out.1.below ((Below.refl _ w7).alloc (Nat.le_refl _) (.cells (rcA ⟨(nT : Int), op, no, x.data.toList⟩) 35))) H7f.out (H7.out.2.1.alloc _) hbase hgrow8 hway8 hown8) (And.intro hown8 (show base ≤ w8.heap.size by have h1 := hgrow8.size; rw [World.size_alloc] at h1; have := H7.out.2.2; omega))); have k8 := (HL8.out.1.blw.block _ (lt_of_heap HB.out.2)).trans HB.out.2; have b0 : w8.cell? ⟨w.heap.size, 0, none⟩ = some (.int .i64 fn) := (by rw [cell_of_row _ _ _ _ _ _ k8]; rfl); have b1 : w8.cell? ⟨w.heap.size, 1, none⟩ = some (.slice fp K.length fc) := (by rw [cell_of_row _ _ _ _ _ _ k8]; rfl); clear k8; obtain ⟨p8, c8, rfl, _, _, _, _⟩ := hown8.shape (n := nT + 1) (by rw [List.length_append, numR_length, hLn]; rfl); clear hown8 hgrow8 hway8)
          have hct8 := (count_any HL8.out.1.box).mono fun _ _ h => (show _ ∧ w8 = _ from ⟨h.1, h.2.symm⟩)
          rw [HT.out.1] at hct8
          refine hct8.mono ?_
          rintro e w9 ⟨rfl, rfl⟩
          clear hct8 hct6b
          go_wp2_with fail
          go_roundw
          case rel => exact ⟨p8, nT + 1, c8, nT + 1, k + 1, L ++ [⟨sq, op, no, x.data.toList⟩], A', rfl, by go_num, by go_num, hlt, by rw [List.length_append, List.length_singleton]; omega, by rw [List.length_append, List.length_singleton, hLn], HT.out.2, H.out.2.2.1.more (by omega), by have := HL8.out.1; rw [HT.out.1] at this; exact this, by rw [numR_snoc, hLn]; exact HL8.out.2.1, HL8.out.2.2⟩
          case measure => simp [intOf]; omega
      · obtain rfl : k = lA := by omega
        obtain ⟨T, hT⟩ : ∃ T : List Rcd, T = numR L 0 := ⟨_, rfl⟩
        have HT := Lib.hid (show DP wb dd A wr ∧ GoodA (6 + 2 * k) A ∧ EndP A T firm ∧ OwnRc wr base (.slice vp nT vc) T by
          have h5 := end_log hls (by omega) []
          rw [List.append_nil] at h5
          rw [hT]
          exact ⟨hlp.dp, hgs.good, h5, hown⟩)
        have hnT : nT ≤ 101 := by omega
        clear hT hls hgs hlp hown hLk
        have k1 := (HT.out.1.blw.block _ (lt_of_heap HB.out.2)).trans HB.out.2
        have hBw := HB.out.1.trans (HT.out.1.blw.mono HB.out.1.size)
        have b0 : wr.cell? ⟨w.heap.size, 0, none⟩ = some (.int .i64 fn) := by rw [cell_of_row _ _ _ _ _ _ k1]; rfl
        have b1 : wr.cell? ⟨w.heap.size, 1, none⟩ = some (.slice fp K.length fc) := by rw [cell_of_row _ _ _ _ _ _ k1]; rfl
        have hcf := copyFate_any fn K fp _ fc rfl (by omega) wr (hK.below hBw)
        clear k1 hBw
        go_wp2_with fail
        refine hcf.mono ?_
        rintro e20 w20 ⟨p20, c20, rfl, hin20, _, hb20⟩
        have hlf := left_dp (HT.out.1.below hb20) HT.out.2.1 (by omega) fn K p20 _ c20 rfl hin20
        have hTb := left_bounds HT.out.2.1 (by omega) fn K
        obtain ⟨f1, f2, m, f3, f4, f5, f6⟩ := HT.out.2.2.1 fn K
        obtain ⟨F, hF⟩ : ∃ F, F = leftP A fn K := ⟨_, rfl⟩
        rw [← hF] at hlf hTb f1 f2 f5 f6
        have H20 := Lib.hid hb20
        have HF := Lib.hid (And.intro f1 (And.intro f2 (And.intro f5 (And.intro f6 hTb))))
        have hTl := hTb.1
        clear hcf hF hTb f1 f2 f5 f6 hin20 hb20 b0 b1
        go_wp2_with fail
        refine hlf.mono ?_
        rintro e21 w21 ⟨p21, c21, rfl, _, hin21, hb21⟩
        have hnw := new_p F p21 _ c21 rfl 1048576 [] none 0 0 rfl (-1) w21 hin21 (fun h => absurd h (by simp)) (by omega) HF.out.2.2.2.2.2 (by decide)
        rw [HF.out.1] at hnw
        have H21 := Lib.hid (H20.out.trans (hb21.mono H20.out.size))
        clear hlf hb21 hin21
        go_wp2_with fail
        refine hnw.mono ?_
        rintro e22 w22 ⟨⟨h0, _⟩ | ⟨_, d2, P2, rfl, hd2, hP2⟩, hb22⟩
        · exact absurd rfl h0
        have hD2 : DP w21 d2 (newP F 1048576 [] (-1)) w22 := ⟨P2, hd2, hP2, hb22⟩
        have hop := open_lp hD2 HF.out.2.1 (by omega)
        have hlen2 : (T.take m).length = m := by rw [List.length_take]; omega
        rw [HF.out.2.2.1, HF.out.2.2.2.1, hlen2] at hop
        have H22 := Lib.hid hlen2
        clear hnw hd2 hP2 hb22 hD2 hlen2
        go_wp2_with fail
        refine hop.mono ?_
        rintro e23 w23 (⟨h0, _⟩ | ⟨_, l2, p23, c23, rfl, hl23, hin23⟩)
        · exact absurd rfl h0
        have hb23 := hl23.blw
        have hrow23 := HT.out.2.2.2.below (H21.out.trans (hb23.mono H21.out.size))
        have hBe := HB.out.1.trans ((HT.out.1.blw.trans ((H21.out.trans (hb23.mono H21.out.size)).mono HT.out.1.blw.size)).mono HB.out.1.size)
        have hct := count_any hl23.box
        obtain ⟨hvn, hvc1, hvc2, hinT⟩ := hrow23.parts
        have f3n : m ≤ nT := by rw [← hvn]; exact f3
        have f3c : m ≤ vc := by omega
        have H23 := Lib.hid (And.intro hin23 (And.intro hinT hBe))
        clear hop hl23 hin23 hb23 hrow23 hinT hBe hvn
        go_wp2_with fail
        refine (hct.mono fun _ _ h => (show _ ∧ w23 = _ from ⟨h.1, h.2.symm⟩)).mono ?_
        rintro e24 w24 ⟨rfl, rfl⟩
        clear hct
        go_wp2_with fail
        refine (sameRecords_any (T.take m) (T.take m) p23 vp m c23 m vc H22.out H22.out (by omega) (by omega) w23 H23.out.1 (H23.out.2.1.take m)).mono ?_
        rintro e25 w25 ⟨z25, rfl, hz25, hb25⟩
        obtain rfl : z25 = true := hz25.2 rfl
        have H25 := Lib.hid (H23.out.2.2.trans (hb25.mono H23.out.2.2.size))
        clear hb25 hz25
        go_wp2_with fail
        go_ret
        exact ⟨rfl, H25.out⟩
end Go.Proofs.YtheoklhmlnfgjaaGreatDoor
