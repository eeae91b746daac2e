/-
  SwaplogSteps: every Open, every answer of every script, and what is seen behind each.
-/
import Derived.Test.YtheoklhmlnfgjaaGreatDoorPk8
import Derived.Test.YtheoklhmlnfgjaaGreatDoorHvSwSameD
import Derived.Test.YtheoklhmlnfgjaaGreatDoorPk5
import Derived.Test.YtheoklhmlnfgjaaGreatDoorPk3
import Derived.Test.YtheoklhmlnfgjaaGreatDoorHvRefNew9
import Derived.Test.YtheoklhmlnfgjaaGreatDoorPk6
namespace Go.Proofs.YtheoklhmlnfgjaaGreatDoor
open Go.RowKit Go.Maps
set_option linter.unusedVariables false

theorem put10_size {W : World} {b : Nat} {v0 v1 v2 v3 v4 v5 v6 v7 v8 v9 : Value} : (put10 W b v0 v1 v2 v3 v4 v5 v6 v7 v8 v9).heap.size = W.heap.size := by
  unfold put10
  rw [World.size_setCell, put9_size]
theorem InRc.at_kept {W W' : World} {p : Option Addr} {L : List Rcd} (h : InRc W p L) (hE : ∀ a, p = some a → W'.heap[a.block]? = W.heap[a.block]?) : InRc W' p L := h.keep fun b o e => hE _ e

set_option maxRecDepth 100000 in
set_option maxHeartbeats 8000000 in
theorem swaplogSteps_walk (p : Option Addr) (F : List FT) (c : Nat) (room : Int) (q : Option Addr) (Z : List Int) (e : Nat) (power : Int) (ps : Option Addr) (L : List StepT) (cs : Nat) (fn : Int) (fp : Option Addr) (K : List Int) (fc : Nat) (w : World)
    (hF : InFs w p F) (hZ : InV w q (Z.map (Value.int .i64))) (hk : bulkFs F + Z.length ≤ 1048576) (hL : InSteps w ps L) (hkL : bulkSt L ≤ 1048576) (hLc : L.length ≤ cs) (hK : InV w fp (K.map (Value.int .i64))) (hkk : K.length ≤ 1048576) :
    Calls Tryz.prog 5 #[.agg #[.slice p F.length c, .int .i64 room, .slice q Z.length e, .int .i64 power], .slice ps L.length cs, .agg #[.int .i64 fn, .slice fp K.length fc]] w fun e w' => e = .returned (.bool true) ∧ Below w.heap.size w w' := by
  have hFl := bulkFs_length F
  have hFn : ∀ f ∈ F, f.1.length ≤ 140737488351232 ∧ f.2.length ≤ 140737488351232 := fun f hf => by have := bulkFs_mem F f hf; omega
  go_enter Tryz.func5, Tryz.ntmps5
  go_wp2_with fail
  refine (alive11_any _).mono ?_
  rintro e w1 ⟨rfl, hb1⟩
  have hb0 : Below w.heap.size w ((w.alloc (.cells #[.slice p F.length c, .int .i64 room, .slice q Z.length e, .int .i64 power] 40)).alloc (.cells #[.int .i64 fn, .slice fp K.length fc] 43)) := ((Below.refl _ w).alloc (Nat.le_refl _) _).alloc (by simp) _
  have g0 : w1.heap[w.heap.size]? = some (.cells #[.slice p F.length c, .int .i64 room, .slice q Z.length e, .int .i64 power] 40 (0, 0)) :=
    (hb1.block _ (by simp; omega)).trans ((heap_alloc_old _ _ (by simp)).trans (heap_alloc_new w _))
  have g1 : w1.heap[w.heap.size + 1]? = some (.cells #[.int .i64 fn, .slice fp K.length fc] 43 (0, 0)) := by
    have := heap_alloc_new (w.alloc (.cells #[.slice p F.length c, .int .i64 room, .slice q Z.length e, .int .i64 power] 40)) (.cells #[.int .i64 fn, .slice fp K.length fc] 43)
    rw [World.size_alloc] at this
    exact (hb1.block _ (by simp)).trans this
  have hB1 : Below w.heap.size w w1 := hb0.trans (hb1.mono (by simp; omega))
  clear hb0 hb1
  have a0 : w1.cell? ⟨w.heap.size, 0, none⟩ = some (.slice p F.length c) := by rw [cell_of_row _ _ _ _ _ _ g0]; rfl
  have a1 : w1.cell? ⟨w.heap.size, 1, none⟩ = some (.int .i64 room) := by rw [cell_of_row _ _ _ _ _ _ g0]; rfl
  have a2 : w1.cell? ⟨w.heap.size, 2, none⟩ = some (.slice q Z.length e) := by rw [cell_of_row _ _ _ _ _ _ g0]; rfl
  have a3 : w1.cell? ⟨w.heap.size, 3, none⟩ = some (.int .i64 power) := by rw [cell_of_row _ _ _ _ _ _ g0]; rfl
  have hbeg := begin11_any F p _ c rfl room Z q _ e rfl power w1 (hF.below hB1) (hZ.below hB1) (by omega) hFn (by omega)
  have HG := Lib.hid (And.intro g0 hB1)
  have HG1 := Lib.hid g1
  clear g0 g1 hB1
  go_wp2_with fail
  refine hbeg.mono ?_
  rintro e2 w2 ⟨⟨hne, rfl⟩ | ⟨hE, dd, P, rfl, hd, hP⟩, hb2⟩
  · obtain ⟨z, hz⟩ : ∃ z, z = newE F room := ⟨_, rfl⟩
    have HRN := Lib.hid (fun W (hb : Below w2.heap.size w2 W) => refNew_any (fun _ => False) F p _ c rfl room Z q _ e rfl power W (fun g hg => hg.elim) ((hF.below HG.out.2).below (hb2.trans (hb.mono hb2.size))) (fun g hg => inv_mask (w1 := w1) (hZ.below HG.out.2) (hb2.trans (hb.mono hb2.size)) (fun k hk => hk.elim) hg) (by omega) hFn)
    have HNE := Lib.hid (And.intro hne (And.intro hz hb2))
    rw [← hz] at hne ⊢
    have q1 : (z == 0) = false := beq_eq_false_iff_ne.2 hne
    have q2 : (z != 0) = true := by simp [bne, q1]
    have c0 := cell_keep a0 hb2
    have c1 := cell_keep a1 hb2
    have c2 := cell_keep a2 hb2
    have c3 := cell_keep a3 hb2
    clear hbeg hne hb2 hz a0 a1 a2 a3
    go_wp2_with fail
    refine (HRN.out w2 (Below.refl _ _)).mono ?_
    rintro e3 w3 ⟨⟨_, rfl⟩ | ⟨h0, _⟩, hb3⟩
    · rw [← HNE.out.2.1]
      have HB := Lib.hid (HG.out.2.trans ((HNE.out.2.2.trans (hb3.mono HNE.out.2.2.size)).mono HG.out.2.size))
      clear hb3
      go_wp2_with fail
      go_ret
      exact ⟨rfl, HB.out.alloc HB.out.size _⟩
    · exact absurd h0 HNE.out.1
  · have hrn := refNew_any (fun g => P g ∧ g < w2.heap.size) F p _ c rfl room Z q _ e rfl power w2 (fun g hg => hg.2) ((hF.below HG.out.2).below hb2) (fun g hg => inv_mask (w1 := w1) (hZ.below HG.out.2) hb2 (fun k hk => hP k hk.1) hg) (by omega) hFn
    have HD2 := Lib.hid (And.intro hd (And.intro hP (And.intro hb2 hE)))
    have hA0 := GoodT.new power hE hk
    have HA0 := Lib.hid hA0
    have HFI := Lib.hid (files_new (F := F) (room := room) (Z := Z) power hk)
    have c0 := cell_keep a0 hb2
    have c1 := cell_keep a1 hb2
    have c2 := cell_keep a2 hb2
    have c3 := cell_keep a3 hb2
    obtain ⟨A0, hA0e⟩ : ∃ A0, A0 = newP F room Z power := ⟨_, rfl⟩
    have HA0E := Lib.hid hA0e
    clear hbeg hd hP hE hb2 a0 a1 a2 a3 hA0 hA0e
    go_wp2_with fail
    refine hrn.mono ?_
    rintro e3 w3 ⟨⟨h0, _⟩ | ⟨_, r, rfl, hr⟩, hb3⟩
    · exact absurd HD2.out.2.2.2 h0
    have hduo := Duo.start HD2.out.1 HD2.out.2.1 HD2.out.2.2.1 hr hb3
    rw [← HA0E.out] at hduo
    rw [← HA0E.out]
    unfold stC
    have HDU := Lib.hid hduo
    clear hrn hr hb3 hduo c0 c1 c2 c3
    obtain ⟨wb, hwb⟩ : ∃ x, x = w3.alloc (.cells (stC r A0) 51) := ⟨_, rfl⟩
    have hbx : Below w3.heap.size w3 wb := by rw [hwb]; exact (Below.refl _ w3).alloc (Nat.le_refl _) _
    have hbox : wb.heap[w3.heap.size]? = some (.cells (stC r A0) 51 (0, 0)) := by rw [hwb]; exact heap_alloc_new w3 _
    have hduo := HDU.out.add hbx (fun g => g = w3.heap.size) (fun g hg => .inr ⟨by rw [hg]; exact Nat.le_refl _, by rw [hg, hwb]; simp⟩)
    have hop := open_duo hduo (by rw [HA0E.out]; exact HA0.out.s) (by omega)
    have hgf := HFI.out
    rw [← HA0E.out] at hgf
    have hln := open_len hgf
    have hen := open_err_nil (A := A0)
    have hgt := (show GoodT 0 A0 by rw [HA0E.out]; exact HA0.out).open
    have hro := fun W (hd : Duo w1 (fun g => g = w3.heap.size) dd (openP A0).1 r A0 W) => refOpen_duo hd (by rw [HA0E.out]; exact HA0.out.s) (by omega) (fun f hf => Nat.le_trans (hgf f hf) (by omega))
    have hrt := fun lb (W : World) (hd : Tri w1 (fun g => g = w3.heap.size) lb dd (openP A0).1 (openP A0).2.1.length r A0 W) => refOpen_tri hd (by rw [HA0E.out]; exact HA0.out.s) (by omega) (fun f hf => Nat.le_trans (hgf f hf) (by omega))
    obtain ⟨⟨A1, Ls, z⟩, hS⟩ : ∃ X, openP A0 = X := ⟨_, rfl⟩
    rw [hS] at hop hln hen hgt hro hrt
    dsimp only at hop hln hen hgt hro hrt
    have hbox3 := hbox
    rw [stC_eq] at hwb hbox3
    have HD4 := Lib.hid (And.intro hbox (And.intro hwb hgt))
    have HRO := Lib.hid (And.intro hro hrt)
    have HLN := Lib.hid (And.intro hln hen)
    rw [hwb] at hop
    clear hbx hbox hduo hwb hgf hS hgt hro hrt hbox3 hln hen
    go_wp2_with fail
    refine hop.mono ?_
    rw [← HD4.out.2.1]
    rintro e4 w4 ⟨⟨hz, rfl, hd4⟩ | ⟨hz, lb, p4, c4, rfl, hd4, hin4⟩, hn4⟩
    · clear hop
      have hb4 := (hn4 _ rfl).trans HD4.out.1
      have hro := HRO.out.1 w4 hd4
      have hLs := HLN.out.2 hz
      subst hLs
      rw [stC_eq] at hb4 hro
      obtain ⟨a0, a1, a2, a3, a4, a5, a6, a7, a8, af⟩ := st9v hb4
      have H4 := Lib.hid (And.intro hz hd4)
      have q1 : (z == 0) = false := beq_eq_false_iff_ne.2 hz
      have q2 : (z != 0) = true := by simp [bne, q1]
      clear hb4 hn4 hz hd4
      go_wp2_with fail
      refine hro.mono ?_
      rintro e5 w5 ⟨r5, p5, c5, n5, rfl, hzn, hin5, hd5, hb5⟩
      rw [lgC_eq]
      clear hro a0 a1 a2 a3 a4 a5 a6 a7 a8 af
      have H5 := Lib.hid (And.intro hin5 (And.intro hd5 hb5))
      clear hin5 hd5 hb5
      clear hzn
      dsimp only
      rename_i k1 hk1 k2 hk2
      have HK1 := Lib.hid hk1
      clear hk1
      refine hk2 _ _ ?_
      clear hk2
      go_wp2_with fail
      obtain ⟨w6, hw6⟩ : ∃ x, x = w5.alloc (.cells (lgC r5 A1 n5) 58) := ⟨_, rfl⟩
      have hb6 : Below w5.heap.size w5 w6 := by rw [hw6]; exact (Below.refl _ w5).alloc (Nat.le_refl _) _
      have hx6 : w6.heap[w5.heap.size]? = some (.cells (lgC r5 A1 n5) 58 (0, 0)) := by rw [hw6]; exact heap_alloc_new w5 _
      rw [lgC_eq] at hw6
      rw [← hw6]
      obtain ⟨rb, hrb⟩ : ∃ rb, rb = w5.heap.size := ⟨_, rfl⟩
      rw [← hrb] at hx6 ⊢
      have hd6 := H5.out.2.1.below hb6
      clear hw6 hb6 hrb
      refine HK1.out _ _ ?_
      have hsr := sameRecords_any [] [] none p5 0 0 0 c5 rfl rfl (by omega) (by omega) w6 (fun h => absurd h (by simp)) (fun h => absurd h (by simp))
      have H6 := Lib.hid (And.intro hd6 hx6)
      clear hd6 hx6
      go_wp2_with fail
      refine hsr.mono ?_
      rintro e7 w7 ⟨zb, rfl, hzb, hb7⟩
      obtain rfl : zb = true := hzb.2 (by trivial)
      have hd7 := H6.out.1.below hb7
      have hx7 := Below.heap hb7 H6.out.2
      have hf7 := (hd7.blw.block _ (lt_of_heap HG1.out)).trans HG1.out
      have hsm := sameD_any hd7 HD4.out.2.2.s.good HD4.out.2.2.i (by omega) fn K fp fc (hK.below (HG.out.2.trans (hd7.blw.mono HG.out.2.size))) (by omega)
      rw [lgC_eq] at hx7
      rw [stC_eq] at hsm
      obtain ⟨a0, a1, a2, a3, a4, a5, a6, a7, a8, a9, af⟩ := lg10v hx7
      have b0 : w7.cell? ⟨w.heap.size + 1, 0, none⟩ = some (.int .i64 fn) := by rw [cell_of_row _ _ _ _ _ _ hf7]; rfl
      have b1 : w7.cell? ⟨w.heap.size + 1, 1, none⟩ = some (.slice fp K.length fc) := by rw [cell_of_row _ _ _ _ _ _ hf7]; rfl
      have H7 := Lib.hid hd7.blw
      clear hsr hzb hb7 hd7 hx7 hf7 af
      go_wp2_with fail
      refine hsm.mono ?_
      rintro e8 w8 ⟨rfl, hb8⟩
      have H8 := Lib.hid (H7.out.trans (hb8.mono H7.out.size))
      have hct := cut11_any L.length ps cs hLc w8
      clear hsm hb8 a0 a1 a2 a3 a4 a5 a6 a7 a8 a9 b0 b1
      go_wp2_with fail
      refine hct.mono ?_
      rintro e9 w9 ⟨c9, rfl, hb9⟩
      obtain ⟨ln, hln⟩ : ∃ ln, ln = (if 100 < L.length then 100 else L.length) := ⟨_, rfl⟩
      rw [← hln]
      have H9 := Lib.hid (HG.out.2.trans ((H8.out.trans (hb9.mono H8.out.size)).mono HG.out.2.size))
      clear hct hb9 hln
      go_wp2_with fail
      go_loopw [15] (fun i wr => i = .int .i64 0 ∧ wr = w9) (fun i _ => 0)
      case atStart => exact ⟨rfl, rfl⟩
      case round =>
        obtain ⟨rfl, rfl⟩ := hrel
        go_wp2_with fail
        all_goals
          go_ret
          exact ⟨rfl, H9.out⟩
    · clear hop
      have hb4 := (hn4 _ rfl).trans HD4.out.1
      have hro := HRO.out.2 lb w4 hd4
      have hLn := HLN.out.1
      rw [stC_eq] at hb4 hro
      obtain ⟨a0, a1, a2, a3, a4, a5, a6, a7, a8, af⟩ := st9v hb4
      have H4 := Lib.hid hin4
      subst hz
      clear hb4 hn4 hd4 hin4
      obtain ⟨nL, hnL⟩ : ∃ nL, nL = Ls.length := ⟨_, rfl⟩
      rw [← hnL] at hro hLn ⊢
      have HNL := Lib.hid hnL
      clear hnL
      go_wp2_with fail
      refine hro.mono ?_
      rintro e5 w5 ⟨r5, p5, c5, n5, rfl, hzn, hin5, hd5, hb5⟩
      obtain rfl := hzn (by trivial)
      rw [lgC_eq]
      clear hro a0 a1 a2 a3 a4 a5 a6 a7 a8 af hzn
      have H5 := Lib.hid (And.intro (H4.out.below hb5) (And.intro hin5 hd5))
      clear hin5 hd5 hb5
      dsimp only
      rename_i k1 hk1 k2 hk2
      have HK1 := Lib.hid hk1
      clear hk1
      refine hk2 _ _ ?_
      clear hk2
      go_wp2_with fail
      obtain ⟨w6, hw6⟩ : ∃ x, x = w5.alloc (.cells (lgC r5 A1 (nL : Int)) 58) := ⟨_, rfl⟩
      have hb6 : Below w5.heap.size w5 w6 := by rw [hw6]; exact (Below.refl _ w5).alloc (Nat.le_refl _) _
      have hx6 : w6.heap[w5.heap.size]? = some (.cells (lgC r5 A1 (nL : Int)) 58 (0, 0)) := by rw [hw6]; exact heap_alloc_new w5 _
      have hd6 := H5.out.2.2.add hb6 (fun g => g = w5.heap.size) (fun g hg => .inr ⟨Nat.le_of_eq hg.symm, by rw [hg]; exact lt_of_heap hx6⟩)
      rw [lgC_eq] at hw6
      rw [← hw6]
      have hsr := sameRecords_any Ls Ls p4 p5 nL c4 nL c5 HNL.out.symm HNL.out.symm (by omega) (by omega) w6 (H5.out.1.below hb6) (H5.out.2.1.below hb6)
      have hrw : w1.heap.size ≤ w5.heap.size := H5.out.2.2.duo.blw.size
      obtain ⟨rb, hrb⟩ : ∃ rb, rb = w5.heap.size := ⟨_, rfl⟩
      rw [← hrb] at hx6 hd6 hrw ⊢
      have HRB := Lib.hid hrw
      have H6 := Lib.hid (And.intro hd6 hx6)
      clear hw6 hb6 hrb hd6 hx6 hrw
      refine HK1.out _ _ ?_
      go_wp2_with fail
      refine hsr.mono ?_
      rintro e7 w7 ⟨zb, rfl, hzb, hb7⟩
      obtain rfl : zb = true := hzb.2 (by trivial)
      have hd7 := H6.out.1.below hb7
      have hx7 := Below.heap hb7 H6.out.2
      have hf7 := (hd7.duo.blw.block _ (lt_of_heap HG1.out)).trans HG1.out
      have hsm := sameD_any hd7.duo HD4.out.2.2.s.good HD4.out.2.2.i (by omega) fn K fp fc (hK.below (HG.out.2.trans (hd7.duo.blw.mono HG.out.2.size))) (by omega)
      have H7 := Lib.hid (And.intro hd7 hx7)
      rw [lgC_eq] at hx7
      rw [stC_eq] at hsm
      obtain ⟨a0, a1, a2, a3, a4, a5, a6, a7, a8, a9, af⟩ := lg10v hx7
      have b0 : w7.cell? ⟨w.heap.size + 1, 0, none⟩ = some (.int .i64 fn) := by rw [cell_of_row _ _ _ _ _ _ hf7]; rfl
      have b1 : w7.cell? ⟨w.heap.size + 1, 1, none⟩ = some (.slice fp K.length fc) := by rw [cell_of_row _ _ _ _ _ _ hf7]; rfl
      clear hsr hzb hb7 hd7 hx7 hf7 af
      go_wp2_with fail
      refine hsm.mono ?_
      rintro e8 w8 ⟨rfl, hb8⟩
      have H8 := Lib.hid (And.intro (H7.out.1.below hb8) (Below.heap hb8 H7.out.2))
      have hct := cut11_any L.length ps cs hLc w8
      clear hsm hb8 a0 a1 a2 a3 a4 a5 a6 a7 a8 a9 b0 b1
      go_wp2_with fail
      refine hct.mono ?_
      rintro e9 w9 ⟨c9, rfl, hb9⟩
      obtain ⟨ln, hln⟩ : ∃ ln, ln = (if 100 < L.length then 100 else L.length) := ⟨_, rfl⟩
      rw [← hln]
      have hl1 : ln ≤ 100 := by rw [hln]; split <;> omega
      have hl2 : ln ≤ L.length := by rw [hln]; split <;> omega
      have H9 := Lib.hid (And.intro (H8.out.1.below hb9) (Below.heap hb9 H8.out.2))
      clear hct hb9 hln
      go_wp2_with fail
      go_loopw [15] (fun i wr => ∃ (k : Nat) (A : Pl) (n : Int) (rr : RC), k ≤ ln ∧ i = .int .i64 k ∧ Tri w1 (fun g => g = rb) lb dd A n rr A wr ∧ wr.heap[rb]? = some (.cells (lgC rr A n) 58 (0, 0)) ∧ GoodT (6 + 5 * k) A ∧ 0 ≤ n ∧ n ≤ 2000000 + k) (fun i _ => ln - (intOf i).toNat)
      case atStart => exact ⟨0, A1, nL, r5, Nat.zero_le _, rfl, H9.out.1, H9.out.2, HD4.out.2.2, by omega, by omega⟩
      case round =>
        obtain ⟨k, A, n, rr, hkl, rfl, hd, hbx, hgt, hn0, hn1⟩ := hrel
        clear H9 H8 H7 H6 H5 HD4 HRO HLN HDU HD2
        by_cases hlt : k < ln
        · obtain ⟨b, o, rfl, x, qx, cx, x0, x1, x2, x3, x4, x5, x6⟩ := hL k (by omega)
          have hbk := bulkSt_mem L (L[k]'(by omega)) (List.getElem_mem _)
          generalize L[k]'(by omega) = xx at x0 x1 x2 x3 x4 x5 x6 hbk
          obtain ⟨⟨sq, op, no, id⟩, LL⟩ := xx
          dsimp only at x0 x1 x2 x3 x4 x5 x6 hbk
          subst x5
          have hBw : Below w.heap.size w wr := HG.out.2.trans (hd.duo.blw.mono HG.out.2.size)
          have v0 := cell_keep x0 hBw
          have v1 := cell_keep x1 hBw
          have v2 := cell_keep x2 hBw
          have v3 := cell_keep x3 hBw
          have v4 := cell_keep x4 hBw
          obtain ⟨wa, hwa⟩ : ∃ y, y = wr.alloc (.cells #[.int .i64 sq, .int .i64 op, .int .i64 no, .string x, .slice qx LL.length cx] 64) := ⟨_, rfl⟩
          have hba : Below wr.heap.size wr wa := by rw [hwa]; exact (Below.refl _ wr).alloc (Nat.le_refl _) _
          have hxa : wa.heap[wr.heap.size]? = some (.cells #[.int .i64 sq, .int .i64 op, .int .i64 no, .string x, .slice qx LL.length cx] 64 (0, 0)) := by rw [hwa]; exact heap_alloc_new wr _
          have hda := hd.add hba (fun g => g = rb ∨ g = wr.heap.size) (fun g hg => hg.imp id fun e => ⟨Nat.le_of_eq e.symm, by rw [e]; exact lt_of_heap hxa⟩)
          have hNE : wr.heap.size ≠ rb := fun e => by have := lt_of_heap hbx; omega
          have hLL := bulkRc_length LL
          have hX6 := x6
          obtain ⟨m, hm⟩ : ∃ m, m = LL.length := ⟨_, rfl⟩
          rw [← hm] at v4 hxa hwa
          have Hk := Lib.hid (And.intro hda (And.intro (Below.heap hba hbx) (And.intro hxa (And.intro hgt (And.intro hn0 (And.intro hn1 (And.intro hm (And.intro hNE (And.intro hbk x6)))))))))
          have HWA := Lib.hid hwa
          have hml : m ≤ 2000000 := by omega
          clear hba hxa hda hNE hLL hbx hgt hd x0 x1 x2 x3 x4 x6 hbk hX6 hm
          by_cases hm0 : 0 < m
          · have hcp := copyRecords_any LL qx m cx Hk.out.2.2.2.2.2.2.1.symm (by omega) wa (Hk.out.2.2.2.2.2.2.2.2.2.below (hBw.trans ((HWA.out ▸ (Below.refl _ wr).alloc (Nat.le_refl _) _ : Below wr.heap.size wr wa).mono hBw.size)))
            rw [hwa] at hcp
            clear hwa
            have hm1 : (0 : Int) < (m : Int) := by omega
            go_wp2_with fail
            refine hcp.mono ?_
            rw [← HWA.out]
            rintro e2 w2 ⟨v2, rfl, hown2, hb2⟩
            obtain ⟨po, co, rfl, hco1, hco2, hino, hrow⟩ := hown2.shape Hk.out.2.2.2.2.2.2.1.symm
            have hd2 := Hk.out.1.add hb2 (fun g => g = rb ∨ g = wr.heap.size ∨ ∃ a, po = some a ∧ a.block = g) (fun g hg => by
              rcases hg with e | e | ⟨a, ea, eb⟩
              · exact .inl (.inl e)
              · exact .inl (.inr e)
              · exact .inr ⟨by rw [← eb]; exact (hrow a ea).1, by rw [← eb]; exact (hrow a ea).2.1⟩)
            have hb2x := Below.heap hb2 Hk.out.2.1
            have hx2 := Below.heap hb2 Hk.out.2.2.1
            have hB2 : Below w.heap.size w w2 := HG.out.2.trans (hd2.duo.blw.mono HG.out.2.size)
            have hrw := refRewrite_tri hd2 Hk.out.2.2.2.1.s (by omega) n LL qx m cx Hk.out.2.2.2.2.2.2.1.symm (by omega) (Nat.le_trans (encB_bulk LL 0) (by have := Hk.out.2.2.2.2.2.2.2.2.1; omega)) (Hk.out.2.2.2.2.2.2.2.2.2.below hB2)
            have hgT := Hk.out.2.2.2.1.rewrite n LL
            have hnT := rewrite_n (A := A) (L := LL) (b := 2000000 + k) Hk.out.2.2.2.2.1 Hk.out.2.2.2.2.2.1 (by rw [← Hk.out.2.2.2.2.2.2.1]; omega)
            obtain ⟨⟨A', n', z⟩, hS⟩ : ∃ X, rewriteP A n LL = X := ⟨_, rfl⟩
            rw [hS] at hrw hgT hnT
            dsimp only at hrw hgT hnT
            have HROW := Lib.hid hrow
            have H2 := Lib.hid (And.intro hb2x (And.intro hx2 (And.intro hino (And.intro hS (And.intro hgT hnT)))))
            rw [lgC_eq] at hb2x hrw
            obtain ⟨a0, a1, a2, a3, a4, a5, a6, a7, a8, a9, af⟩ := lg10v hb2x
            have y4 : w2.cell? ⟨wr.heap.size, 4, none⟩ = some (.slice qx m cx) := by rw [cell_of_row _ _ _ _ _ _ hx2]; rfl
            clear hcp hown2 hb2 hd2 hco1 hco2 hb2x hx2 hB2 hS hrow hino v0 v1 v2 v3 v4 hgT hnT
            go_wp2_with fail
            refine hrw.mono ?_
            rintro e3 w3' ⟨r', rfl, hd3, hb3⟩
            rw [lgC_eq r' A']
            have H3 := Lib.hid (And.intro hd3 hb3)
            clear hrw hd3 hb3 a0 a1 a2 a3 a4 a5 a6 a7 a8 a9 af y4
            dsimp only
            rename_i k3 hk3 kx hkx k1' hk1 k2 hk2
            have HK3 := Lib.hid hk3
            have HKX := Lib.hid hkx
            have HK2 := Lib.hid hk1
            clear hk1 hk3 hkx
            refine hk2 _ _ ?_
            clear hk2
            go_wp2_with fail
            obtain ⟨wn, hwn⟩ : ∃ y, y = w3'.alloc (.cells (lgC r' A' n') 58) := ⟨_, rfl⟩
            have hbn : Below w3'.heap.size w3' wn := by rw [hwn]; exact (Below.refl _ w3').alloc (Nat.le_refl _) _
            have hnx : wn.heap[w3'.heap.size]? = some (.cells (lgC r' A' n') 58 (0, 0)) := by rw [hwn]; exact heap_alloc_new w3' _
            rw [lgC_eq] at hwn hnx
            rw [← hwn]
            have hbwn := H3.out.2.trans (hbn.mono H3.out.2.size)
            have hrn := Below.heap hbwn H2.out.1
            have hdn := H3.out.1.below hbn
            rw [lgC_eq] at hrn
            obtain ⟨d0, d1, d2, d3, d4, d5, d6, d7, d8, d9, df⟩ := lg10v hrn
            obtain ⟨n0, n1, n2, n3, n4, n5, n6, n7, n8, n9, nf⟩ := lg10v hnx
            have HN := Lib.hid (And.intro hdn (And.intro hrn hbwn))
            clear hwn hbn hnx hbwn hrn hdn nf
            refine HK2.out _ _ ?_
            refine wp_seq_k ?_
            intro K5 hK5
            have HK5 := Lib.hid hK5
            clear hK5
            go_wp2_with fail
            obtain ⟨wx, hwx⟩ : ∃ y, y = put10 wn rb (.slice r'.p1 A'.now.length r'.c1) (.slice r'.p2 A'.safe.length r'.c2) (.slice r'.p3 A'.pend.length r'.c3) (.slice r'.p4 A'.files.length r'.c4) (.slice r'.p5 A'.files.length r'.c5) (.int .i64 (A'.room : Int)) (.slice r'.p6 A'.fails.length r'.c6) (.int .i64 A'.power) (.int .i64 (A'.steps : Int)) (.int .i64 n') := ⟨_, rfl⟩
            have hdx := HN.out.1.write (W' := wx) HN.out.2.1 (.inl rfl) (by decide) (by decide) (fun z e => by cases e) (fun g hg => by rw [hwx]; exact put10_heap g hg) (by rw [hwx]; exact put10_size) (by rw [hwx]; exact put10_below HN.out.1.duo.blw HRB.out)
            have hrx : wx.heap[rb]? = some (.cells (lgC r' A' n') 58 (0, 0)) := by rw [hwx, lgC_eq]; exact put10_same HN.out.2.1
            have hxx := (show wx.heap[wr.heap.size]? = wn.heap[wr.heap.size]? by rw [hwx]; exact put10_heap _ Hk.out.2.2.2.2.2.2.2.1).trans (Below.heap HN.out.2.2 H2.out.2.1)
            have hox := H2.out.2.2.1.at_kept (W' := wx) fun a ea => by
              rw [hwx]
              refine (put10_heap _ fun e => ?_).trans (HN.out.2.2.block _ (HROW.out a ea).2.1)
              have h1 := (HROW.out a ea).1
              have h2 := lt_of_heap Hk.out.2.1
              omega
            have hrw := rewrite_tri hdx Hk.out.2.2.2.1.s (by omega) LL po m co Hk.out.2.2.2.2.2.2.1.symm (by omega) hox
            rw [H2.out.2.2.2.1] at hrw
            dsimp only at hrw
            have HX := Lib.hid (And.intro hrx (And.intro hxx hox))
            unfold put10 put9 at hwx
            rw [← hwx]
            clear hwx hdx hrx hxx hox d0 d1 d2 d3 d4 d5 d6 d7 d8 d9 df n0 n1 n2 n3 n4 n5 n6 n7 n8 n9
            refine HK5.out _ _ ?_
            have hzz : (z != z) = false := by simp
            go_wp2_with fail
            refine hrw.mono ?_
            rintro e8 w8 ⟨rfl, hd8, hn8⟩
            have hr8 := (hn8 rb (.inl rfl)).trans HX.out.1
            have hx8 := (hn8 _ (.inr (.inl rfl))).trans HX.out.2.1
            have ho8 := HX.out.2.2.at_kept fun a ea => hn8 _ (.inr (.inr ⟨a, ea, rfl⟩))
            have hq8 := Hk.out.2.2.2.2.2.2.2.2.2.below (HG.out.2.trans (hd8.duo.blw.mono HG.out.2.size))
            have hsr := sameRecords_any LL LL po qx m co m cx Hk.out.2.2.2.2.2.2.1.symm Hk.out.2.2.2.2.2.2.1.symm (by omega) (by omega) w8 ho8 hq8
            have y4 : w8.cell? ⟨wr.heap.size, 4, none⟩ = some (.slice qx m cx) := by rw [cell_of_row _ _ _ _ _ _ hx8]; rfl
            have H8 := Lib.hid (And.intro hd8 hr8)
            clear hrw hd8 hn8 hr8 hx8 ho8 hq8
            go_wp2_with fail
            refine hsr.mono ?_
            rintro e9 w9' ⟨zb, rfl, hzb, hb9⟩
            obtain rfl : zb = true := hzb.2 (by trivial)
            have hd9 := H8.out.1.below hb9
            have hr9 := Below.heap hb9 H8.out.2
            clear hsr hzb hb9 y4
            go_wp2_with fail
            refine HKX.out _ _ ?_
            obtain ⟨T, hT⟩ : ∃ T : World → Prop, T = fun W => Tri w1 (fun g => g = rb ∨ g = wr.heap.size ∨ ∃ a, po = some a ∧ a.block = g) lb dd A' n' r' A' W ∧ W.heap[rb]? = some (.cells (lgC r' A' n') 58 (0, 0)) := ⟨_, rfl⟩
            have tb : ∀ W, T W → Tri w1 (fun g => g = rb ∨ g = wr.heap.size ∨ ∃ a, po = some a ∧ a.block = g) lb dd A' n' r' A' W ∧ W.heap[rb]? = some (.cells (lgC r' A' n') 58 (0, 0)) := fun W h => by rw [hT] at h; exact h
            have tt : ∀ W W', T W → Below W.heap.size W W' → T W' := fun W W' h hb => by
              have h := tb W h
              rw [hT]
              exact ⟨h.1.below hb, Below.heap hb h.2⟩
            have ht9 : T w9' := by rw [hT]; exact ⟨hd9, hr9⟩
            have HSS := Lib.hid (fun W (h : T W) => (show W.cell? ⟨rb, 0, none⟩ = some (.slice r'.p1 A'.now.length r'.c1) ∧ W.cell? ⟨rb, 1, none⟩ = some (.slice r'.p2 A'.safe.length r'.c2) ∧ W.cell? ⟨rb, 2, none⟩ = some (.slice r'.p3 A'.pend.length r'.c3) ∧ W.cell? ⟨rb, 3, none⟩ = some (.slice r'.p4 A'.files.length r'.c4) ∧ W.cell? ⟨rb, 4, none⟩ = some (.slice r'.p5 A'.files.length r'.c5) ∧ W.cell? ⟨rb, 5, none⟩ = some (.int .i64 (A'.room : Int)) ∧ W.cell? ⟨rb, 6, none⟩ = some (.slice r'.p6 A'.fails.length r'.c6) ∧ W.cell? ⟨rb, 7, none⟩ = some (.int .i64 A'.power) ∧ W.cell? ⟨rb, 8, none⟩ = some (.int .i64 (A'.steps : Int)) ∧ W.cell? ⟨rb, 9, none⟩ = some (.int .i64 n') ∧ W.cell? ⟨w.heap.size + 1, 0, none⟩ = some (.int .i64 fn) ∧ W.cell? ⟨w.heap.size + 1, 1, none⟩ = some (.slice fp K.length fc) from by
              have k1 := (tb W h).2
              rw [lgC_eq] at k1
              obtain ⟨g0, g1, g2, g3, g4, g5, g6, g7, g8, g9, _⟩ := lg10v k1
              have k2 := ((tb W h).1.duo.blw.block _ (lt_of_heap HG1.out)).trans HG1.out
              exact ⟨g0, g1, g2, g3, g4, g5, g6, g7, g8, g9, by rw [cell_of_row _ _ _ _ _ _ k2]; rfl, by rw [cell_of_row _ _ _ _ _ _ k2]; rfl⟩))
            have hsm := fun W (h : T W) => sameD_any (tb W h).1.duo H2.out.2.2.2.2.1.s.good H2.out.2.2.2.2.1.i (by omega) fn K fp fc (hK.below (HG.out.2.trans ((tb W h).1.duo.blw.mono HG.out.2.size))) (by omega)
            rw [stC_eq] at hsm
            have HSM := Lib.hid (fun W (h : T W) => (hsm W h).mono fun e' w' hp => (show e' = .returned (.bool true) ∧ T w' from ⟨hp.1, tt _ _ h hp.2⟩))
            have HCT := Lib.hid (fun W (h : T W) => (count_any (tb W h).1.box).mono fun e' w' hp => (show e' = .returned (.int .i64 n') ∧ T w' from ⟨hp.1, by rw [hp.2]; exact h⟩))
            have HT := Lib.hid (show T w9'.drew from tt _ _ ht9 (Below.refl _ _).drew)
            have HTB := Lib.hid tb
            clear hT tb tt ht9 hsm hd9 hr9
            have hnn : (n' != n') = false := by simp
            go_wp2_with fail
            go_region_held3 (fun W => W.cell? ⟨rb, 0, none⟩ = some (.slice r'.p1 A'.now.length r'.c1) ∧ W.cell? ⟨rb, 1, none⟩ = some (.slice r'.p2 A'.safe.length r'.c2) ∧ W.cell? ⟨rb, 2, none⟩ = some (.slice r'.p3 A'.pend.length r'.c3) ∧ W.cell? ⟨rb, 3, none⟩ = some (.slice r'.p4 A'.files.length r'.c4) ∧ W.cell? ⟨rb, 4, none⟩ = some (.slice r'.p5 A'.files.length r'.c5) ∧ W.cell? ⟨rb, 5, none⟩ = some (.int .i64 (A'.room : Int)) ∧ W.cell? ⟨rb, 6, none⟩ = some (.slice r'.p6 A'.fails.length r'.c6) ∧ W.cell? ⟨rb, 7, none⟩ = some (.int .i64 A'.power) ∧ W.cell? ⟨rb, 8, none⟩ = some (.int .i64 (A'.steps : Int)) ∧ W.cell? ⟨rb, 9, none⟩ = some (.int .i64 n') ∧ W.cell? ⟨w.heap.size + 1, 0, none⟩ = some (.int .i64 fn) ∧ W.cell? ⟨w.heap.size + 1, 1, none⟩ = some (.slice fp K.length fc))
              (first | (with_reducible exact HSS.out _ HT.out))
              (first
                | (go_at_call 27; with_reducible refine (HCT.out _ HT.out).mono ?_; rintro e10 w10 ⟨rfl, hk⟩; have HT := Lib.hid hk; clear hk)
                | (go_at_call 20; with_reducible refine (HSM.out _ HT.out).mono ?_; rintro e10 w10 ⟨rfl, hk⟩; have HT := Lib.hid hk; clear hk))
            all_goals
              have H11 := Lib.hid (HTB.out _ HT.out)
              go_wp2_with fail
              refine HK3.out _ _ ?_
              go_wp2_with fail
              go_roundw
              case rel => exact ⟨k + 1, A', n', r', by omega, by go_num, H11.out.1.less fun g hg => .inl hg, H11.out.2, H2.out.2.2.2.2.1.more (by omega), H2.out.2.2.2.2.2.1, by have := H2.out.2.2.2.2.2.2; omega⟩
              case measure => simp [intOf]; omega
          · obtain rfl : m = 0 := by omega
            have hm1 : ¬ (0 : Int) < ((0 : Nat) : Int) := by omega
            have hrw := refAdd_tri Hk.out.1 Hk.out.2.2.2.1.s (by omega) n Hk.out.2.2.2.2.1 (by have := Hk.out.2.2.2.2.2.1; omega) op no x
            have hgT := Hk.out.2.2.2.1.add n op no x.data.toList
            have hnT := add_n (A := A) (op := op) (no := no) (id := x.data.toList) Hk.out.2.2.2.2.1 Hk.out.2.2.2.2.2.1
            obtain ⟨⟨A', n', z⟩, hS⟩ : ∃ X, addP A n op no x.data.toList = X := ⟨_, rfl⟩
            rw [hS] at hrw hgT hnT
            dsimp only at hrw hgT hnT
            have hb2x := Hk.out.2.1
            have hx2 := Hk.out.2.2.1
            have H2 := Lib.hid (And.intro hb2x (And.intro hx2 (And.intro trivial (And.intro hS (And.intro hgT hnT)))))
            rw [lgC_eq] at hb2x hrw
            rw [hwa] at hb2x hrw hx2
            obtain ⟨a0, a1, a2, a3, a4, a5, a6, a7, a8, a9, af⟩ := lg10v hb2x
            clear hwa hb2x hx2 hS hgT hnT
            go_wp2_with fail
            refine hrw.mono ?_
            rw [← HWA.out]
            rintro e3 w3' ⟨r', rfl, hd3, hb3⟩
            rw [lgC_eq r' A']
            have H3 := Lib.hid (And.intro hd3 hb3)
            clear hrw hd3 hb3 a0 a1 a2 a3 a4 a5 a6 a7 a8 a9 af v0 v1 v2 v3 v4
            dsimp only
            rename_i k3 hk3 kx hkx k1' hk1 k2 hk2
            have HK3 := Lib.hid hk3
            have HKX := Lib.hid hkx
            have HK2 := Lib.hid hk1
            clear hk1 hk3 hkx
            refine hk2 _ _ ?_
            clear hk2
            go_wp2_with fail
            obtain ⟨wn, hwn⟩ : ∃ y, y = w3'.alloc (.cells (lgC r' A' n') 58) := ⟨_, rfl⟩
            have hbn : Below w3'.heap.size w3' wn := by rw [hwn]; exact (Below.refl _ w3').alloc (Nat.le_refl _) _
            have hnx : wn.heap[w3'.heap.size]? = some (.cells (lgC r' A' n') 58 (0, 0)) := by rw [hwn]; exact heap_alloc_new w3' _
            rw [lgC_eq] at hwn hnx
            rw [← hwn]
            have hbwn := H3.out.2.trans (hbn.mono H3.out.2.size)
            have hrn := Below.heap hbwn H2.out.1
            have hdn := H3.out.1.below hbn
            rw [lgC_eq] at hrn
            obtain ⟨d0, d1, d2, d3, d4, d5, d6, d7, d8, d9, df⟩ := lg10v hrn
            obtain ⟨n0, n1, n2, n3, n4, n5, n6, n7, n8, n9, nf⟩ := lg10v hnx
            have HN := Lib.hid (And.intro hdn (And.intro hrn hbwn))
            clear hwn hbn hnx hbwn hrn hdn nf
            refine HK2.out _ _ ?_
            refine wp_seq_k ?_
            intro K5 hK5
            have HK5 := Lib.hid hK5
            clear hK5
            go_wp2_with fail
            obtain ⟨wx, hwx⟩ : ∃ y, y = put10 wn rb (.slice r'.p1 A'.now.length r'.c1) (.slice r'.p2 A'.safe.length r'.c2) (.slice r'.p3 A'.pend.length r'.c3) (.slice r'.p4 A'.files.length r'.c4) (.slice r'.p5 A'.files.length r'.c5) (.int .i64 (A'.room : Int)) (.slice r'.p6 A'.fails.length r'.c6) (.int .i64 A'.power) (.int .i64 (A'.steps : Int)) (.int .i64 n') := ⟨_, rfl⟩
            have hdx := HN.out.1.write (W' := wx) HN.out.2.1 (.inl rfl) (by decide) (by decide) (fun z e => by cases e) (fun g hg => by rw [hwx]; exact put10_heap g hg) (by rw [hwx]; exact put10_size) (by rw [hwx]; exact put10_below HN.out.1.duo.blw HRB.out)
            have hrx : wx.heap[rb]? = some (.cells (lgC r' A' n') 58 (0, 0)) := by rw [hwx, lgC_eq]; exact put10_same HN.out.2.1
            have hxx := (show wx.heap[wr.heap.size]? = wn.heap[wr.heap.size]? by rw [hwx]; exact put10_heap _ Hk.out.2.2.2.2.2.2.2.1).trans (Below.heap HN.out.2.2 H2.out.2.1)
            have hrw := add_tri hdx Hk.out.2.2.2.1.s (by omega) Hk.out.2.2.2.2.1 (by have := Hk.out.2.2.2.2.2.1; omega) op no x
            rw [H2.out.2.2.2.1] at hrw
            dsimp only at hrw
            have y1 : wx.cell? ⟨wr.heap.size, 1, none⟩ = some (.int .i64 op) := by rw [cell_of_row _ _ _ _ _ _ hxx]; rfl
            have y2 : wx.cell? ⟨wr.heap.size, 2, none⟩ = some (.int .i64 no) := by rw [cell_of_row _ _ _ _ _ _ hxx]; rfl
            have y3 : wx.cell? ⟨wr.heap.size, 3, none⟩ = some (.string x) := by rw [cell_of_row _ _ _ _ _ _ hxx]; rfl
            have HX := Lib.hid hrx
            unfold put10 put9 at hwx
            rw [← hwx]
            clear hwx hdx hrx hxx d0 d1 d2 d3 d4 d5 d6 d7 d8 d9 df n0 n1 n2 n3 n4 n5 n6 n7 n8 n9
            refine HK5.out _ _ ?_
            have hzz : (z != z) = false := by simp
            go_wp2_with fail
            refine hrw.mono ?_
            rintro e8 w9' ⟨rfl, hd9, hn8⟩
            have hr9 := (hn8 rb (.inl rfl)).trans HX.out
            clear hrw hn8 y1 y2 y3
            go_wp2_with fail
            refine HKX.out _ _ ?_
            obtain ⟨T, hT⟩ : ∃ T : World → Prop, T = fun W => Tri w1 (fun g => g = rb ∨ g = wr.heap.size) lb dd A' n' r' A' W ∧ W.heap[rb]? = some (.cells (lgC r' A' n') 58 (0, 0)) := ⟨_, rfl⟩
            have tb : ∀ W, T W → Tri w1 (fun g => g = rb ∨ g = wr.heap.size) lb dd A' n' r' A' W ∧ W.heap[rb]? = some (.cells (lgC r' A' n') 58 (0, 0)) := fun W h => by rw [hT] at h; exact h
            have tt : ∀ W W', T W → Below W.heap.size W W' → T W' := fun W W' h hb => by
              have h := tb W h
              rw [hT]
              exact ⟨h.1.below hb, Below.heap hb h.2⟩
            have ht9 : T w9' := by rw [hT]; exact ⟨hd9, hr9⟩
            have HSS := Lib.hid (fun W (h : T W) => (show W.cell? ⟨rb, 0, none⟩ = some (.slice r'.p1 A'.now.length r'.c1) ∧ W.cell? ⟨rb, 1, none⟩ = some (.slice r'.p2 A'.safe.length r'.c2) ∧ W.cell? ⟨rb, 2, none⟩ = some (.slice r'.p3 A'.pend.length r'.c3) ∧ W.cell? ⟨rb, 3, none⟩ = some (.slice r'.p4 A'.files.length r'.c4) ∧ W.cell? ⟨rb, 4, none⟩ = some (.slice r'.p5 A'.files.length r'.c5) ∧ W.cell? ⟨rb, 5, none⟩ = some (.int .i64 (A'.room : Int)) ∧ W.cell? ⟨rb, 6, none⟩ = some (.slice r'.p6 A'.fails.length r'.c6) ∧ W.cell? ⟨rb, 7, none⟩ = some (.int .i64 A'.power) ∧ W.cell? ⟨rb, 8, none⟩ = some (.int .i64 (A'.steps : Int)) ∧ W.cell? ⟨rb, 9, none⟩ = some (.int .i64 n') ∧ W.cell? ⟨w.heap.size + 1, 0, none⟩ = some (.int .i64 fn) ∧ W.cell? ⟨w.heap.size + 1, 1, none⟩ = some (.slice fp K.length fc) from by
              have k1 := (tb W h).2
              rw [lgC_eq] at k1
              obtain ⟨g0, g1, g2, g3, g4, g5, g6, g7, g8, g9, _⟩ := lg10v k1
              have k2 := ((tb W h).1.duo.blw.block _ (lt_of_heap HG1.out)).trans HG1.out
              exact ⟨g0, g1, g2, g3, g4, g5, g6, g7, g8, g9, by rw [cell_of_row _ _ _ _ _ _ k2]; rfl, by rw [cell_of_row _ _ _ _ _ _ k2]; rfl⟩))
            have hsm := fun W (h : T W) => sameD_any (tb W h).1.duo H2.out.2.2.2.2.1.s.good H2.out.2.2.2.2.1.i (by omega) fn K fp fc (hK.below (HG.out.2.trans ((tb W h).1.duo.blw.mono HG.out.2.size))) (by omega)
            rw [stC_eq] at hsm
            have HSM := Lib.hid (fun W (h : T W) => (hsm W h).mono fun e' w' hp => (show e' = .returned (.bool true) ∧ T w' from ⟨hp.1, tt _ _ h hp.2⟩))
            have HCT := Lib.hid (fun W (h : T W) => (count_any (tb W h).1.box).mono fun e' w' hp => (show e' = .returned (.int .i64 n') ∧ T w' from ⟨hp.1, by rw [hp.2]; exact h⟩))
            have HT := Lib.hid (show T w9'.drew from tt _ _ ht9 (Below.refl _ _).drew)
            have HTB := Lib.hid tb
            clear hT tb tt ht9 hsm hd9 hr9
            have hnn : (n' != n') = false := by simp
            go_wp2_with fail
            go_region_held3 (fun W => W.cell? ⟨rb, 0, none⟩ = some (.slice r'.p1 A'.now.length r'.c1) ∧ W.cell? ⟨rb, 1, none⟩ = some (.slice r'.p2 A'.safe.length r'.c2) ∧ W.cell? ⟨rb, 2, none⟩ = some (.slice r'.p3 A'.pend.length r'.c3) ∧ W.cell? ⟨rb, 3, none⟩ = some (.slice r'.p4 A'.files.length r'.c4) ∧ W.cell? ⟨rb, 4, none⟩ = some (.slice r'.p5 A'.files.length r'.c5) ∧ W.cell? ⟨rb, 5, none⟩ = some (.int .i64 (A'.room : Int)) ∧ W.cell? ⟨rb, 6, none⟩ = some (.slice r'.p6 A'.fails.length r'.c6) ∧ W.cell? ⟨rb, 7, none⟩ = some (.int .i64 A'.power) ∧ W.cell? ⟨rb, 8, none⟩ = some (.int .i64 (A'.steps : Int)) ∧ W.cell? ⟨rb, 9, none⟩ = some (.int .i64 n') ∧ W.cell? ⟨w.heap.size + 1, 0, none⟩ = some (.int .i64 fn) ∧ W.cell? ⟨w.heap.size + 1, 1, none⟩ = some (.slice fp K.length fc))
              (first | (with_reducible exact HSS.out _ HT.out))
              (first
                | (go_at_call 27; with_reducible refine (HCT.out _ HT.out).mono ?_; rintro e10 w10 ⟨rfl, hk⟩; have HT := Lib.hid hk; clear hk)
                | (go_at_call 20; with_reducible refine (HSM.out _ HT.out).mono ?_; rintro e10 w10 ⟨rfl, hk⟩; have HT := Lib.hid hk; clear hk))
            all_goals
              have H11 := Lib.hid (HTB.out _ HT.out)
              go_wp2_with fail
              refine HK3.out _ _ ?_
              go_wp2_with fail
              go_roundw
              case rel => exact ⟨k + 1, A', n', r', by omega, by go_num, H11.out.1.less fun g hg => .inl hg, H11.out.2, H2.out.2.2.2.2.1.more (by omega), H2.out.2.2.2.2.2.1, by have := H2.out.2.2.2.2.2.2; omega⟩
              case measure => simp [intOf]; omega
        · obtain rfl : k = ln := by omega
          have HB := Lib.hid (HG.out.2.trans (hd.duo.blw.mono HG.out.2.size))
          clear hd hbx hgt hn0 hn1
          go_wp2_with fail
          go_ret
          exact ⟨rfl, HB.out⟩
end Go.Proofs.YtheoklhmlnfgjaaGreatDoor
