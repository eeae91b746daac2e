/-
  SwaplogTurns: a loss of power in a rewrite leaves the records of before or of the rewrite.
-/
import Derived.Test.YtheoklhmlnfgjaaGreatDoorPk4
import Derived.Test.YtheoklhmlnfgjaaGreatDoorPk2
import Derived.Test.YtheoklhmlnfgjaaGreatDoorPk1
import Derived.Deep.RegionHeld3
import Derived.Deep.RegionWith
namespace Go.Proofs.YtheoklhmlnfgjaaGreatDoor
open Go.RowKit Go.Maps
set_option linter.unusedVariables false

theorem OwnRc.parts {w : World} {base n c : Nat} {p : Option Addr} {L : List Rcd} (h : OwnRc w base (.slice p n c) L) : L.length = n ∧ n ≤ c ∧ c ≤ maxLen ∧ InRc w p L := by
  obtain ⟨p', c', e, h1, h2, h3, _⟩ := h.shape rfl
  injection e with e1 e2 e3
  subst e1 e2 e3
  exact ⟨rfl, h1, h2, h3⟩
theorem DP.blw {w0 W : World} {dd : Nat} {A : Pl} (h : DP w0 dd A W) : Below w0.heap.size w0 W := by
  obtain ⟨_, _, _, h⟩ := h
  exact h
theorem steps_fails : ∀ (L : List Opp) (A : Pl), (stepsP A L).1.fails = A.fails
  | [], _ => rfl
  | o :: L, A => by
    unfold stepsP
    split
    · exact (do_rest A o).2.1
    · exact (steps_fails L _).trans (do_rest A o).2.1
theorem rewrite_fails (A : Pl) (n : Int) (L : List Rcd) : (rewriteP A n L).1.fails = A.fails := by
  have hs := steps_fails [.create newN, .append newN (encB L 0), .sync newN, .rename newN logN] A
  unfold rewriteP
  split
  · rfl
  · simp only
    split
    · exact ((do_rest _ _).2.1).trans hs
    · split
      · exact hs
      · exact ((do_rest _ _).2.1).trans hs

set_option maxRecDepth 100000 in
set_option maxHeartbeats 16000000 in
theorem swaplogTurns_walk (p : Option Addr) (Ad : List Rcd) (c : Nat) (q : Option Addr) (M : List Rcd) (c' : Nat) (power : Int) (fn : Int) (fp : Option Addr) (K : List Int) (fc : Nat) (w : World) (hAd : InRc w p Ad) (hkA : Ad.length ≤ 1048576) (hM : InRc w q M) (hkM : M.length ≤ 1048576) (hpw : -9223372036854775808 ≤ power ∧ power ≤ 9223372036854775807) (hK : InV w fp (K.map (Value.int .i64))) (hkK : K.length ≤ 1048576) :
    Calls Tryz.prog 7 #[.slice p Ad.length c, .slice q M.length c', .int .i64 power, .agg #[.int .i64 fn, .slice fp K.length fc]] w fun e w' => e = .returned (.bool true) ∧ Below w.heap.size w w' := by
  obtain ⟨lA, hlA⟩ : ∃ x, x = Ad.length := ⟨_, rfl⟩
  obtain ⟨lM, hlM⟩ : ∃ x, x = M.length := ⟨_, rfl⟩
  rw [← hlA] at hkA ⊢
  rw [← hlM] at hkM ⊢
  have HLA := Lib.hid (And.intro hlA hlM)
  clear hlA hlM
  go_enter Tryz.func7, Tryz.ntmps7
  go_wp2_with fail
  refine (alive11_any _).mono ?_
  rintro e wb ⟨rfl, hb1⟩
  have hB1 : Below w.heap.size w wb := ((Below.refl _ w).alloc (Nat.le_refl _) _).trans (hb1.mono (by simp))
  have g1 : wb.heap[w.heap.size]? = some (.cells #[.int .i64 fn, .slice fp K.length fc] 43 (0, 0)) := Below.heap hb1 (heap_alloc_new w _)
  have HB := Lib.hid (And.intro hB1 g1)
  clear hb1 hB1 g1
  by_cases hlen : 50 < lA ∨ 50 < lM
  · rcases hlen with hlen | hlen
    · go_wp2_with fail
      go_ret
      exact ⟨rfl, HB.out.1⟩
    · go_wp2_with fail
      all_goals
        go_ret
        exact ⟨rfl, HB.out.1⟩
  have hlA : lA ≤ 50 := by omega
  have hlM : lM ≤ 50 := by omega
  clear hlen
  have hnew := new_p [] none 0 0 rfl 1048576 [] none 0 0 rfl (-1) wb (InFs.nil _ _) (fun h => absurd h (by simp)) (by decide) (fun f hf => by cases hf) (by decide)
  rw [new_zero ⟨(fun f hf => by cases hf), List.Pairwise.nil⟩] at hnew
  go_wp2_with fail
  refine hnew.mono ?_
  rintro e w2 ⟨⟨h0, _⟩ | ⟨_, dd, P, rfl, hd, hP⟩, hb2⟩
  · exact absurd rfl h0
  have hD : DP wb dd (nilP (-1)) w2 := ⟨P, hd, hP, hb2⟩
  have hop := open_lp hD (good_nil (-1)) (by omega)
  have hgo := (good_nil (-1)).open
  have hgo : GoodS 6 (openP (nilP (-1))).1 := hgo
  rw [open_nil1] at hgo
  have hop : Calls Tryz.prog 18 #[.pointer (some ⟨dd, 0, none⟩)] w2 fun e w' => ∃ lb p c, e = .returned (.tuple #[.pointer (some ⟨lb, 0, none⟩), .slice p 0 c, .int .i64 0]) ∧ LP wb lb dd (begunP (-1)) 0 w' := by
    refine hop.mono ?_
    rintro e w3 (⟨hz, _⟩ | ⟨hz, lb, p3, c3, rfl, hl3, _⟩)
    · exact absurd (show (openP (nilP (-1))).2.2 = 0 by rw [open_nil1]) hz
    · have e2 : openP (newP [] 1048576 [] (-1)) = (begunP (-1), [], 0) := open_nil1
      rw [open_nil1] at hl3 ⊢
      exact ⟨lb, p3, c3, rfl, hl3⟩
  clear hnew hd hP hb2 hD
  go_wp2_with fail
  refine hop.mono ?_
  clear hop
  rintro e w3 ⟨lb, p3, c3, rfl, hl3⟩
  have hmade := OwnRc.made w3
  obtain ⟨w4, hw4⟩ : ∃ X, X = w3.alloc (.cells #[] 35) := ⟨_, rfl⟩
  have hb4 : Below w3.heap.size w3 w4 := by rw [hw4]; exact (Below.refl _ w3).alloc (Nat.le_refl _) _
  rw [← hw4] at hmade
  have hs4 : w4.heap.size = w3.heap.size + 1 := by rw [hw4]; simp
  have hlpe := hl3.lpe (N := fun g => (Value.slice (some ⟨w3.heap.size, 0, none⟩) 0 0).ownBlock = some g) hb4 (fun g hg => by
    obtain rfl : w3.heap.size = g := by simpa [Value.ownBlock] using hg
    exact ⟨Nat.le_refl _, by omega⟩)
  have hbase := hl3.blw.size
  have hT0 := And.intro (LogS.start (-1)) (And.intro hgo (And.intro hlpe (hmade.mono hbase)))
  have HW4 := Lib.hid (And.intro hw4 hs4)
  clear hl3 hgo hmade hb4 hlpe hw4 hs4
  obtain ⟨base, hbs⟩ : ∃ b, b = wb.heap.size := ⟨_, rfl⟩
  go_wp2_with fail
  rw [← HW4.out.1]
  have hbase0 := hbase
  have hbase : wb.heap.size ≤ base := by rw [hbs]; exact Nat.le_refl _
  have HBS := Lib.hid hbs
  clear hbs
  go_loopw [14, 15] (fun v i wr => ∃ (vp : Option Addr) (nT vc k : Nat) (L : List Rcd) (A : Pl), v = .slice vp nT vc ∧ i = .int .i64 k ∧ k ≤ lA ∧ L.length ≤ k ∧ L.length = nT ∧ LogS A L L.length (-1) ∧ GoodS (6 + 2 * k) A ∧ LPE wb lb dd A nT (fun g => (Value.slice vp nT vc).ownBlock = some g) wr ∧ OwnRc wr base (.slice vp nT vc) (numR L 0) ∧ base ≤ wr.heap.size) (fun _ i _ => lA - (intOf i).toNat)
  case atStart => exact ⟨_, 0, 0, 0, [], _, rfl, rfl, Nat.zero_le _, Nat.le_refl _, rfl, hT0.1, hT0.2.1, hT0.2.2.1, by rw [HBS.out]; exact hT0.2.2.2, by rw [HBS.out]; exact hT0.2.2.1.blw.size⟩
  case round =>
    obtain ⟨vp, nT, vc, k, L, A, rfl, rfl, hk, hLk, hLn, hls, hgs, hlp, hown, hbw⟩ := hrel
    clear hT0
    by_cases hlt : k < lA
    · obtain ⟨b, o, hpe, x, x0, x1, x2, x3, hx⟩ := hAd.at (k := k) (by rw [← HLA.out.1]; exact hlt)
      obtain ⟨r, hr⟩ : ∃ r, r = Ad[k]'(by rw [← HLA.out.1]; exact hlt) := ⟨_, rfl⟩
      rw [← hr] at x0 x1 x2 hx
      obtain ⟨sq, op, no, id⟩ := r
      dsimp only at x0 x1 x2 hx
      subst hx
      subst hpe
      have hadd := hls.add ⟨sq, op, no, x.data.toList⟩ (by omega)
      rw [hLn] at hadd
      dsimp only at hadd
      have hgn := hgs.add nT op no x.data.toList
      have had := add_lpe (hlp.below (Below.refl _ wr).drew) hgs (by omega) (by omega) (by omega) op no x
      obtain ⟨⟨A', n', z⟩, hA'⟩ : ∃ X, X = addP A nT op no x.data.toList := ⟨_, rfl⟩
      rw [← hA'] at had hadd hgn
      dsimp only at had hadd hgn
      obtain ⟨S, hS⟩ : ∃ S : World → Prop, S = fun W => W.cell? ⟨b, o + k * 4 + 1, none⟩ = some (.int .i64 op) ∧ W.cell? ⟨b, o + k * 4 + 2, none⟩ = some (.int .i64 no) ∧ W.cell? ⟨b, o + k * 4 + 3, none⟩ = some (.string x) := ⟨_, rfl⟩
      have HSS := Lib.hid (fun W => show S W ↔ W.cell? ⟨b, o + k * 4 + 1, none⟩ = some (.int .i64 op) ∧ W.cell? ⟨b, o + k * 4 + 2, none⟩ = some (.int .i64 no) ∧ W.cell? ⟨b, o + k * 4 + 3, none⟩ = some (.string x) by rw [hS])
      have HST := Lib.hid (fun W (hb : Below w.heap.size w W) => show S W by rw [hS]; exact ⟨cell_keep x1 hb, cell_keep x2 hb, cell_keep x3 hb⟩)
      have HBL := Lib.hid (fun W (hb : Below wb.heap.size wb W) => show Below w.heap.size w W from HB.out.1.trans (hb.mono HB.out.1.size))
      have HK0 := Lib.hid (HST.out _ (HBL.out _ (hlp.blw.trans ((Below.refl _ wr).drew.mono hlp.blw.size))))
      have HADD := Lib.hid (show Calls Tryz.prog 26 #[.pointer (some ⟨lb, 0, none⟩), .int .i64 op, .int .i64 no, .string x] wr.drew fun e w' => e = .returned (.int .i64 z) ∧ (LPE wb lb dd A' n' (fun g => (Value.slice vp nT vc).ownBlock = some g) w' ∧ OwnRc w' base (.slice vp nT vc) (numR L 0) ∧ base ≤ w'.heap.size) ∧ S w' from
        had.mono fun e w' hp => ⟨hp.1, ⟨hp.2.1, (OwnRc.same (w := wr.drew) hown hp.2.2), by rw [HBS.out]; exact hp.2.1.blw.size⟩, HST.out _ (HBL.out _ hp.2.1.blw)⟩)
      have H := Lib.hid (And.intro hgn (And.intro hls (And.intro hadd hpw)))
      clear hr hgn hls hlp hgs hown hA' hadd had hS x0 x1 x2 x3
      go_wp2_with fail
      go_region_held3 (fun W => W.cell? ⟨b, o + k * 4 + 1, none⟩ = some (.int .i64 op) ∧ W.cell? ⟨b, o + k * 4 + 2, none⟩ = some (.int .i64 no) ∧ W.cell? ⟨b, o + k * 4 + 3, none⟩ = some (.string x))
        (first | (with_reducible exact (HSS.out _).1 HK0.out) | (with_reducible exact (HSS.out _).1 HK1.out))
        (first | (go_at_call 26; with_reducible refine HADD.out.mono ?_; rintro e w6 ⟨rfl, hlp6, hk6⟩; have H6 := Lib.hid hlp6; have HK1 := Lib.hid hk6; clear hlp6 hk6))
      rcases H.out.2.2.1 with ⟨t1, t2, t3, t4⟩ | ⟨t1, t2, _⟩ | ⟨t1, t2, t3⟩
      · -- refused
        have q1 : (z == 0) = false := beq_eq_false_iff_ne.2 t1
        have HT := Lib.hid (And.intro t3 t4)
        clear t1 t2 t3 t4
        go_wp2_with fail
        go_roundw
        case rel => exact ⟨vp, nT, vc, k + 1, L, A', rfl, by go_num, hlt, by omega, hLn, by rw [hLn]; exact HT.out.2, H.out.1.more (by omega), by have := H6.out.1; rw [HT.out.1] at this; exact this, H6.out.2.1, H6.out.2.2⟩
        case measure => simp [intOf]; omega
      · exact absurd rfl t2
      · subst t1
        have HT := Lib.hid (And.intro t2 t3)
        clear t2 t3
        have H7f := Lib.hid (show A'.fails = [] from HT.out.2.fails)
        have hb7 : Below w6.heap.size w6 (w6.alloc (.cells #[.int .i64 nT, .int .i64 op, .int .i64 no, .string x] 35)).drew := ((Below.refl _ w6).alloc (Nat.le_refl _) _).drew
        have HKa := Lib.hid (HST.out _ (HBL.out _ (H6.out.1.blw.trans ((Below.refl _ w6).drew.mono H6.out.1.blw.size))))
        have HKb := Lib.hid (HST.out _ (HBL.out _ (H6.out.1.blw.trans (hb7.mono H6.out.1.blw.size))))
        have HO := Lib.hid (And.intro (H6.out.1.below hb7) (And.intro (OwnRc.below H6.out.2.1 hb7) (And.intro (InRc.one w6 ⟨(nT : Int), op, no, x.data.toList⟩ 35) hb7)))
        clear hb7
        go_wp2_with fail
        go_region_held3 (fun W => W.cell? ⟨b, o + k * 4 + 1, none⟩ = some (.int .i64 op) ∧ W.cell? ⟨b, o + k * 4 + 2, none⟩ = some (.int .i64 no) ∧ W.cell? ⟨b, o + k * 4 + 3, none⟩ = some (.string x))
          (first | (with_reducible exact (HSS.out _).1 HKa.out) | (with_reducible exact (HSS.out _).1 HKb.out) | (with_reducible exact (HSS.out _).1 HKc.out))
          (first | (refine step_appendRcw rfl _ _ rfl base _ (numR L 0) rfl HO.out.2.1 w6.heap.size _ ⟨(nT : Int), op, no, x.data.toList⟩ rfl HO.out.2.2.1 (by rw [numR_length]; omega) (Nat.le_trans H6.out.2.2 HO.out.2.2.2.size) ?_; intro v8 w8 hown8 hgrow8 hway8; have HL8 := Lib.hid (And.intro (LPE.grown HO.out.1 H7f.out HO.out.2.1 hbase hgrow8 hway8 hown8) (And.intro hown8 (show base ≤ w8.heap.size from Nat.le_trans (Nat.le_trans H6.out.2.2 HO.out.2.2.2.size) hgrow8.size))); have HKc := Lib.hid (HST.out _ (HBL.out _ HL8.out.1.blw)); obtain ⟨p8, c8, rfl, _, _, _, _⟩ := hown8.shape (n := nT + 1) (by rw [List.length_append, numR_length, hLn]; rfl); clear hown8 hgrow8 hway8))
        all_goals
          go_wp2_with fail
          go_roundw
          case rel => exact ⟨p8, nT + 1, c8, k + 1, L ++ [⟨sq, op, no, x.data.toList⟩], A', rfl, by go_num, hlt, by rw [List.length_append, List.length_singleton]; omega, by rw [List.length_append, List.length_singleton, hLn], by have := HT.out.2; rw [List.length_append, List.length_singleton, hLn]; exact this, H.out.1.more (by omega), by have := HL8.out.1; rw [HT.out.1] at this; exact this, by rw [numR_snoc, hLn]; exact HL8.out.2.1, HL8.out.2.2⟩
          case measure => simp [intOf]; omega
    · obtain rfl : k = lA := by omega
      obtain ⟨kk, hk1, hk2⟩ := hls.left 0 []
      rw [List.take_length] at hk2
      rw [List.take_of_length_le hk2] at hk1
      have hzL := hls.good
      have hlf := left_dp (hlp.dp) hgs.good (by omega) 0 [] none 0 0 rfl (fun h => absurd h (by simp))
      rw [hk1] at hlf
      have hLl := encB_length L 0
      have H := Lib.hid (And.intro hlp.blw (And.intro hown (And.intro hzL hLn)))
      clear hls hlp hgs hown hk1 hk2 hzL HW4 hbw
      go_wp2_with fail
      refine hlf.mono ?_
      rintro e w5 ⟨p5, c5, rfl, _, hin5, hb5⟩
      clear hlf
      have hnw := new_p [(logN, encB L 0)] p5 1 c5 rfl 1048576 [] none 0 0 rfl power w5 hin5 (fun h => absurd h (by simp)) (by simp) (fun f hf => by
        rw [List.mem_singleton.1 hf]
        refine ⟨by simp [logN], ?_⟩
        simp only
        omega) (by decide)
      rw [new_zero (ok_one _), one_new] at hnw
      have H5 := Lib.hid (H.out.1.trans (hb5.mono H.out.1.size))
      have hrow5 := H.out.2.1.below hb5
      have HR5 := Lib.hid hrow5
      clear hin5 hb5 hrow5
      go_wp2_with fail
      refine hnw.mono ?_
      rintro e w6 ⟨⟨h0, _⟩ | ⟨_, d2, P2, rfl, hd2, hP2⟩, hb6⟩
      · exact absurd rfl h0
      have hD6 : DP w5 d2 (oneP (encB L 0) power) w6 := ⟨P2, hd2, hP2, hb6⟩
      have hgo : GoodS 0 (oneP (encB L 0) power) := good_one power (by omega)
      have hop := open_lp hD6 hgo (by omega)
      clear hnw hd2 hP2 hb6 hD6
      by_cases hdn : downP (oneP (encB L 0) power) = true
      · have hz := open_downP hdn
        rw [hz] at hop
        have hop : Calls Tryz.prog 18 #[.pointer (some ⟨d2, 0, none⟩)] w6 fun e w' => e = .returned (.tuple #[.pointer none, .slice none 0 0, .int .i64 93]) ∧ Below w5.heap.size w5 w' := hop.mono fun e w' h => by
          rcases h with ⟨_, h1, h2⟩ | ⟨h1, _⟩
          · exact ⟨h1, h2.blw⟩
          · exact absurd h1 (by decide)
        clear hgo hz hdn
        go_wp2_with fail
        refine hop.mono ?_
        rintro e w7 ⟨rfl, hb7⟩
        have HE := Lib.hid (HB.out.1.trans ((H5.out.trans (hb7.mono H5.out.size)).mono HB.out.1.size))
        clear hop hb7
        go_wp2_with fail
        go_ret
        exact ⟨rfl, HE.out⟩
      · have hdn : downP (oneP (encB L 0) power) = false := by simpa using hdn
        rw [open_wholeP H.out.2.2.1 hdn] at hop
        have hop2 : Calls Tryz.prog 18 #[.pointer (some ⟨d2, 0, none⟩)] w6 fun e w' => ∃ l2 p c, e = .returned (.tuple #[.pointer (some ⟨l2, 0, none⟩), .slice p nT c, .int .i64 0]) ∧ LP w5 l2 d2 (oneP (encB L 0) power) nT w' := hop.mono fun e w' h => by
          rcases h with ⟨h1, _⟩ | ⟨_, l2, p, c, h1, h2, _⟩
          · exact absurd rfl h1
          · simp only [numR_length, H.out.2.2.2] at h1 h2
            exact ⟨l2, p, c, h1, h2⟩
        clear hdn hop
        go_wp2_with fail
        refine hop2.mono ?_
        rintro e w7 ⟨l2, p7, c7, rfl, hl7⟩
        have hcp := copyRecords_any M q lM c' HLA.out.2.symm (by omega) w7 (hM.below (HB.out.1.trans ((H5.out.trans (hl7.blw.mono H5.out.size)).mono HB.out.1.size)))
        have H7 := Lib.hid hl7
        clear hop2 hl7
        go_wp2_with fail
        refine hcp.mono ?_
        rintro e w8 ⟨v8, rfl, hown8, hb8⟩
        obtain ⟨p8, c8, rfl, _, _, hin8, _⟩ := hown8.shape HLA.out.2.symm
        have hlpe := H7.out.lpe (N := fun _ => False) hb8 (fun g hg => hg.elim)
        have hrw := rewrite_lpe hlpe hgo (by omega) M p8 lM c8 HLA.out.2.symm (by omega) hin8
        have htl := turn_left (M := M) H.out.2.2.1 (by omega) (by rw [← HLA.out.2]; omega) power nT fn K
        have hgs := hgo.rewrite nT M
        have hfl := rewrite_fails (oneP (encB L 0) power) nT M
        obtain ⟨⟨C, n2, z⟩, hC⟩ : ∃ X, X = rewriteP (oneP (encB L 0) power) nT M := ⟨_, rfl⟩
        rw [← hC] at hrw htl hgs hfl
        dsimp only at hrw htl hgs hfl
        have HC := Lib.hid (And.intro htl (And.intro hgs (show C.fails = [] from hfl)))
        clear hcp hown8 hin8 hlpe htl hgs hfl hC hb8
        go_wp2_with fail
        refine hrw.mono ?_
        rintro e w9 ⟨rfl, hlp9, _⟩
        clear hrw
        have hmade := OwnRc.made w9
        obtain ⟨w10, hw10⟩ : ∃ X, X = w9.alloc (.cells #[] 35) := ⟨_, rfl⟩
        have hb10 : Below w9.heap.size w9 w10 := by rw [hw10]; exact (Below.refl _ w9).alloc (Nat.le_refl _) _
        rw [← hw10] at hmade
        have hs10 : w10.heap.size = w9.heap.size + 1 := by rw [hw10]; simp
        have hlpe := hlp9.add (N' := fun g => (Value.slice (some ⟨w9.heap.size, 0, none⟩) 0 0).ownBlock = some g) hb10 (fun g hg => by
          obtain rfl : w9.heap.size = g := by simpa [Value.ownBlock] using hg
          exact .inr ⟨Nat.le_refl _, by omega⟩)
        have hmade := hmade.mono hlp9.blw.size
        have hT0 := And.intro hlpe hmade
        have HW10 := Lib.hid hw10
        clear hlp9 hb10 hmade hlpe hs10 hw10
        go_wp2_with fail
        rw [← HW10.out]
        go_loopw [17, 18] (fun v i wr => ∃ (ap : Option Addr) (ac j : Nat), v = .slice ap j ac ∧ i = .int .i64 j ∧ j ≤ lM ∧ LPE w5 l2 d2 C n2 (fun g => (Value.slice ap j ac).ownBlock = some g) wr ∧ OwnRc wr w5.heap.size (.slice ap j ac) (numR (M.take j) 0)) (fun _ i _ => lM - (intOf i).toNat)
        case atStart => exact ⟨_, _, 0, rfl, rfl, Nat.zero_le _, hT0.1, hT0.2⟩
        case round =>
          obtain ⟨ap, ac, j, rfl, rfl, hj, hlp, hown⟩ := hrel
          clear hT0
          by_cases hlt : j < lM
          · obtain ⟨b, o, hpe, x, x0, x1, x2, x3, hx⟩ := hM.at (k := j) (by rw [← HLA.out.2]; exact hlt)
            have hjM : j < M.length := by rw [← HLA.out.2]; exact hlt
            obtain ⟨r, hr⟩ : ∃ r, r = M[j]'hjM := ⟨_, rfl⟩
            have hnum : numR (M.take (j + 1)) 0 = numR (M.take j) 0 ++ [⟨(j : Int), r.op, r.no, r.ident⟩] := by
              rw [List.take_succ_eq_append_getElem hjM, numR_snoc, ← hr, List.length_take, Nat.min_eq_left (Nat.le_of_lt hjM)]
            have hlen : (numR (M.take j) 0).length = j := by rw [numR_length, List.length_take, Nat.min_eq_left (Nat.le_of_lt hjM)]
            rw [← hr] at x0 x1 x2 hx
            obtain ⟨sq, op, no, id⟩ := r
            dsimp only at x0 x1 x2 hx hnum
            subst hx
            subst hpe
            obtain ⟨S, hS⟩ : ∃ S : World → Prop, S = fun W => W.cell? ⟨b, o + j * 4 + 1, none⟩ = some (.int .i64 op) ∧ W.cell? ⟨b, o + j * 4 + 2, none⟩ = some (.int .i64 no) ∧ W.cell? ⟨b, o + j * 4 + 3, none⟩ = some (.string x) := ⟨_, rfl⟩
            have HSS := Lib.hid (fun W => show S W ↔ W.cell? ⟨b, o + j * 4 + 1, none⟩ = some (.int .i64 op) ∧ W.cell? ⟨b, o + j * 4 + 2, none⟩ = some (.int .i64 no) ∧ W.cell? ⟨b, o + j * 4 + 3, none⟩ = some (.string x) by rw [hS])
            have HST := Lib.hid (fun W (hb : Below w.heap.size w W) => show S W by rw [hS]; exact ⟨cell_keep x1 hb, cell_keep x2 hb, cell_keep x3 hb⟩)
            have HBL := Lib.hid (fun W (hb : Below w5.heap.size w5 W) => show Below w.heap.size w W from HB.out.1.trans ((H5.out.trans (hb.mono H5.out.size)).mono HB.out.1.size))
            have hb7 : Below wr.heap.size wr (wr.alloc (.cells #[.int .i64 j, .int .i64 op, .int .i64 no, .string x] 35)).drew := ((Below.refl _ wr).alloc (Nat.le_refl _) _).drew
            have HKz := Lib.hid (HST.out _ (HBL.out _ hlp.blw))
            have HKa := Lib.hid (HST.out _ (HBL.out _ (hlp.blw.trans ((Below.refl _ wr).drew.mono hlp.blw.size))))
            have HKb := Lib.hid (HST.out _ (HBL.out _ (hlp.blw.trans (hb7.mono hlp.blw.size))))
            have HO := Lib.hid (And.intro (hlp.below hb7) (And.intro (OwnRc.below hown hb7) (And.intro (InRc.one wr ⟨(j : Int), op, no, x.data.toList⟩ 35) (And.intro hb7 hlp.blw.size))))
            have HN := Lib.hid (And.intro hnum hlen)
            clear hr hnum hlen hS x0 x1 x2 x3 hb7 hlp hown
            go_wp2_with fail
            go_region_held3 (fun W => W.cell? ⟨b, o + j * 4 + 1, none⟩ = some (.int .i64 op) ∧ W.cell? ⟨b, o + j * 4 + 2, none⟩ = some (.int .i64 no) ∧ W.cell? ⟨b, o + j * 4 + 3, none⟩ = some (.string x))
              (first | (with_reducible exact (HSS.out _).1 HKa.out) | (with_reducible exact (HSS.out _).1 HKb.out) | (with_reducible exact (HSS.out _).1 HKz.out) | (with_reducible exact (HSS.out _).1 HKc.out))
              (first | (refine step_appendRcw rfl _ _ rfl w5.heap.size _ (numR (M.take j) 0) rfl HO.out.2.1 wr.heap.size _ ⟨(j : Int), op, no, x.data.toList⟩ rfl HO.out.2.2.1 (by rw [HN.out.2]; omega) (Nat.le_trans HO.out.2.2.2.2 HO.out.2.2.2.1.size) ?_; intro v8 w8 hown8 hgrow8 hway8; have HL8 := Lib.hid (And.intro (LPE.grown HO.out.1 HC.out.2.2 HO.out.2.1 (Nat.le_refl _) hgrow8 hway8 hown8) hown8); have HKc := Lib.hid (HST.out _ (HBL.out _ HL8.out.1.blw)); obtain ⟨p8, c8, rfl, _, _, _, _⟩ := hown8.shape (n := j + 1) (by rw [List.length_append, HN.out.2]; rfl); clear hown8 hgrow8 hway8))
            all_goals
              go_wp2_with fail
              go_roundw
              case rel => exact ⟨p8, c8, j + 1, rfl, by go_num, hlt, HL8.out.1, by rw [HN.out.1]; exact HL8.out.2⟩
              case measure => simp [intOf]; omega
          · obtain rfl : j = lM := by omega
            rw [HLA.out.2, List.take_length, ← HLA.out.2] at hown
            have hX := H5.out.trans (hlp.blw.mono H5.out.size)
            have hBr : Below w.heap.size w wr := HB.out.1.trans (hX.mono HB.out.1.size)
            have k1 := (hX.block _ (lt_of_heap HB.out.2)).trans HB.out.2
            have b0 : wr.cell? ⟨w.heap.size, 0, none⟩ = some (.int .i64 fn) := by rw [cell_of_row _ _ _ _ _ _ k1]; rfl
            have b1 : wr.cell? ⟨w.heap.size, 1, none⟩ = some (.slice fp K.length fc) := by rw [cell_of_row _ _ _ _ _ _ k1]; rfl
            have hcf := copyFate_any fn K fp _ fc rfl (by omega) wr (hK.below hBr)
            have HDD := Lib.hid (And.intro hlp.dp (And.intro (HR5.out.below hlp.blw) (And.intro hown hBr)))
            clear hlp hown hBr k1 hX
            go_wp2_with fail
            refine hcf.mono ?_
            rintro e20 w20 ⟨p20, c20, rfl, hin20, _, hb20⟩
            have hlf := left_dp (HDD.out.1.below hb20) HC.out.2.1.good (by omega) fn K p20 _ c20 rfl hin20
            have hTb := left_bounds HC.out.2.1.good (by omega) fn K
            have hsn := turn_seen H.out.2.2.1 (by omega) (by rw [← HLA.out.2]; omega) id HC.out.1
            obtain ⟨F, hF⟩ : ∃ F, F = leftP C fn K := ⟨_, rfl⟩
            rw [← hF] at hlf hTb hsn
            have H20 := Lib.hid hb20
            have HF := Lib.hid (And.intro hsn hTb)
            have hTl := hTb.1
            clear hcf hF hTb hsn hin20 hb20 b0 b1
            go_wp2_with fail
            refine hlf.mono ?_
            rintro e21 w21 ⟨p21, c21, rfl, _, hin21, hb21⟩
            have hnw3 := new_p F p21 _ c21 rfl 1048576 [] none 0 0 rfl (-1) w21 hin21 (fun h => absurd h (by simp)) (by omega) HF.out.2.2 (by decide)
            rw [HF.out.1.1] at hnw3
            have H21 := Lib.hid (H20.out.trans (hb21.mono H20.out.size))
            clear hlf hb21 hin21
            go_wp2_with fail
            refine hnw3.mono ?_
            rintro e22 w22 ⟨⟨h0, _⟩ | ⟨_, d3, P3, rfl, hd3, hP3⟩, hb22⟩
            · exact absurd rfl h0
            have hD3 : DP w21 d3 (newP F 1048576 [] (-1)) w22 := ⟨P3, hd3, hP3, hb22⟩
            have hop3 := open_lp hD3 HF.out.1.2.1 (by omega)
            have hop4 : Calls Tryz.prog 18 #[.pointer (some ⟨d3, 0, none⟩)] w22 fun e w' => ∃ l3 p c n3 N, e = .returned (.tuple #[.pointer (some ⟨l3, 0, none⟩), .slice p n3 c, .int .i64 0]) ∧ Below w21.heap.size w21 w' ∧ InRc w' p N ∧ N.length = n3 ∧ ((z ≠ 0 ∧ N = numR L 0) ∨ (encZ M 0 = 0 ∧ N = numR M 0)) := hop3.mono fun e w' h => by
              rcases h with ⟨h1, _⟩ | ⟨_, l3, p, c, h1, h2, h3⟩
              · exact absurd HF.out.1.2.2.1 h1
              · exact ⟨l3, p, c, _, _, h1, h2.blw, h3, rfl, HF.out.1.2.2.2⟩
            clear hnw3 hd3 hP3 hb22 hD3 hop3
            go_wp2_with fail
            refine hop4.mono ?_
            rintro e23 w23 ⟨l3, p23, c23, n3, N, rfl, hb23, hin23, hN, hNs⟩
            have hb3 := H21.out.trans (hb23.mono H21.out.size)
            have hw23 := HDD.out.2.2.2.trans (hb3.mono HDD.out.2.2.2.size)
            have hrA := (HDD.out.2.1.below hb3).parts.2.2.2
            have hrM := (HDD.out.2.2.1.below hb3).parts.2.2.2
            have hlA' : (numR L 0).length = nT := by rw [numR_length]; exact H.out.2.2.2
            have hlM' : (numR M 0).length = j := by rw [numR_length]; exact HLA.out.2.symm
            have hn3 : n3 ≤ 50 := by
              rcases hNs with ⟨_, e⟩ | ⟨_, e⟩
              · rw [← hN, e]; omega
              · rw [← hN, e]; omega
            have HE := Lib.hid (And.intro hin23 (And.intro hrA (And.intro hrM (And.intro hw23 (And.intro hN (And.intro hNs (And.intro hlA' hlM')))))))
            clear hop4 hb23 hin23 hN hNs hb3 hw23 hrA hrM hlA' hlM'
            by_cases hz0 : z = 0
            · have hz1 : (z == 0) = true := by rw [hz0]; rfl
              go_wp2_with fail
              refine (sameRecords_any N (numR M 0) p23 ap n3 c23 j ac HE.out.2.2.2.2.1 HE.out.2.2.2.2.2.2.2 (by omega) (by omega) w23 HE.out.1 HE.out.2.2.1).mono ?_
              rintro e25 w25 ⟨z25, rfl, hz25, hb25⟩
              obtain rfl : z25 = true := hz25.2 (by
                rcases HE.out.2.2.2.2.2.1 with ⟨e, _⟩ | ⟨_, e⟩
                · exact absurd hz0 e
                · exact e)
              have H25 := Lib.hid (HE.out.2.2.2.1.trans (hb25.mono HE.out.2.2.2.1.size))
              clear hb25 hz25
              go_wp2_with fail
              go_ret
              exact ⟨rfl, H25.out⟩
            · have hz1 : (z == 0) = false := beq_eq_false_iff_ne.2 hz0
              go_wp2_with fail
              refine (sameRecords_any N (numR L 0) p23 vp n3 c23 nT vc HE.out.2.2.2.2.1 HE.out.2.2.2.2.2.2.1 (by omega) (by omega) w23 HE.out.1 HE.out.2.1).mono ?_
              rintro e25 w25 ⟨z25, rfl, hz25, hb25⟩
              have H25 := Lib.hid (And.intro (HE.out.2.2.2.1.trans (hb25.mono HE.out.2.2.2.1.size)) (And.intro (HE.out.1.below hb25) (HE.out.2.2.1.below hb25)))
              have HZ := Lib.hid hz25
              clear hb25 hz25
              cases z25 with
              | true =>
                go_wp2_with fail
                go_ret
                exact ⟨rfl, H25.out.1⟩
              | false =>
                go_wp2_with fail
                refine (sameRecords_any N (numR M 0) p23 ap n3 c23 j ac HE.out.2.2.2.2.1 HE.out.2.2.2.2.2.2.2 (by omega) (by omega) w25 H25.out.2.1 H25.out.2.2).mono ?_
                rintro e26 w26 ⟨z26, rfl, hz26, hb26⟩
                obtain rfl : z26 = true := hz26.2 (by
                  rcases HE.out.2.2.2.2.2.1 with ⟨_, e⟩ | ⟨_, e⟩
                  · exact absurd (HZ.out.2 e) (by simp)
                  · exact e)
                have H26 := Lib.hid (H25.out.1.trans (hb26.mono H25.out.1.size))
                clear hb26 hz26
                go_wp2_with fail
                go_ret
                exact ⟨rfl, H26.out⟩
end Go.Proofs.YtheoklhmlnfgjaaGreatDoor
