/-
  same: does the disk hold what the state holds, and leave what it leaves?
-/
import Derived.Test.YtheoklhmlnfgjaaGreatDoorPk6
import Derived.Test.YtheoklhmlnfgjaaGreatDoorHvSwRefSteps
import Derived.Deep.RegionWith
namespace Go.Proofs.YtheoklhmlnfgjaaGreatDoor
open Go.RowKit Go.Maps
set_option linter.unusedVariables false

set_option maxRecDepth 100000 in
set_option maxHeartbeats 4000000 in
theorem sameD_any {w0 w : World} {N : Nat → Prop} {dd n : Nat} {A : Pl} {r : RC} (h : Duo w0 N dd A r A w) (hA : GoodA n A) (hS : InvS A) (hn : n ≤ 1000000) (fn : Int) (K : List Int) (fp : Option Addr) (fc : Nat) (hK : InV w fp (K.map (Value.int .i64))) (hkl : K.length ≤ 1000000000) :
    Calls Tryz.prog 20 #[.pointer (some ⟨dd, 0, none⟩), .agg (stC r A), .agg #[.int .i64 fn, .slice fp K.length fc]] w fun e w' => e = .returned (.bool true) ∧ Below w.heap.size w w' := by
  obtain ⟨wb, hwb⟩ : ∃ x, x = (w.alloc (.cells (stC r A) 51)).alloc (.cells #[.int .i64 fn, .slice fp K.length fc] 43) := ⟨_, rfl⟩
  have hbb : Below w.heap.size w wb := by rw [hwb]; exact ((Below.refl _ w).alloc (Nat.le_refl _) _).alloc (by simp) _
  have hbs : wb.heap[w.heap.size]? = some (.cells (stC r A) 51 (0, 0)) := by rw [hwb]; exact (heap_alloc_old _ _ (by simp)).trans (heap_alloc_new w _)
  have hbf : wb.heap[w.heap.size + 1]? = some (.cells #[.int .i64 fn, .slice fp K.length fc] 43 (0, 0)) := by
    rw [hwb]
    have := heap_alloc_new (w.alloc (.cells (stC r A) 51)) (.cells #[.int .i64 fn, .slice fp K.length fc] 43)
    rw [World.size_alloc] at this
    exact this
  have hdu := h.add hbb (fun g => g = w.heap.size) (fun g hg => .inr ⟨Nat.le_of_eq hg.symm, by rw [hg]; exact lt_of_heap hbs⟩)
  obtain ⟨T, hT⟩ : ∃ T : World → Prop, T = fun W => TL w0 w.heap.size dd A r W ∧ W.heap[w.heap.size + 1]? = some (.cells #[.int .i64 fn, .slice fp K.length fc] 43 (0, 0)) ∧ Below w.heap.size w W := ⟨_, rfl⟩
  have tb : ∀ W, T W → TL w0 w.heap.size dd A r W ∧ W.heap[w.heap.size + 1]? = some (.cells #[.int .i64 fn, .slice fp K.length fc] 43 (0, 0)) ∧ Below w.heap.size w W := fun W h => by rw [hT] at h; exact h
  have tt : ∀ W W', T W → Below W.heap.size W W' → T W' := fun W W' h hb => by
    have h := tb W h
    rw [hT]
    exact ⟨h.1.below hb, Below.heap hb h.2.1, h.2.2.trans (hb.mono h.2.2.size)⟩
  have ht0 : T wb := by rw [hT]; exact ⟨⟨hdu, hbs⟩, hbf, hbb⟩
  have HKW := Lib.hid (fun W (h : T W) => hK.below (tb W h).2.2)
  have HSS := Lib.hid (fun W (h : T W) => (show W.cell? ⟨w.heap.size, 0, none⟩ = some (.slice r.p1 A.now.length r.c1) ∧ W.cell? ⟨w.heap.size, 1, none⟩ = some (.slice r.p2 A.safe.length r.c2) ∧ W.cell? ⟨w.heap.size, 2, none⟩ = some (.slice r.p3 A.pend.length r.c3) ∧ W.cell? ⟨w.heap.size, 3, none⟩ = some (.slice r.p4 A.files.length r.c4) ∧ W.cell? ⟨w.heap.size, 4, none⟩ = some (.slice r.p5 A.files.length r.c5) ∧ W.cell? ⟨w.heap.size, 5, none⟩ = some (.int .i64 (A.room : Int)) ∧ W.cell? ⟨w.heap.size, 6, none⟩ = some (.slice r.p6 A.fails.length r.c6) ∧ W.cell? ⟨w.heap.size, 7, none⟩ = some (.int .i64 A.power) ∧ W.cell? ⟨w.heap.size, 8, none⟩ = some (.int .i64 (A.steps : Int)) ∧ W.cell? ⟨w.heap.size + 1, 0, none⟩ = some (.int .i64 fn) ∧ W.cell? ⟨w.heap.size + 1, 1, none⟩ = some (.slice fp K.length fc) from by
    obtain ⟨g0, g1, g2, g3, g4, g5, g6, g7, g8⟩ := (tb W h).1.cells
    have k1 := (tb W h).2.1
    exact ⟨g0, g1, g2, g3, g4, g5, g6, g7, g8, by rw [cell_of_row _ _ _ _ _ _ k1]; rfl, by rw [cell_of_row _ _ _ _ _ _ k1]; rfl⟩))
  obtain ⟨u, hu⟩ : ∃ u, u = usedP A := ⟨_, rfl⟩
  obtain ⟨FL, hFL⟩ : ∃ FL, FL = leftP A fn K := ⟨_, rfl⟩
  have hFLl : FL.length ≤ 140737488351232 := by rw [hFL]; have := (left_bounds hA hn fn K).1; omega
  obtain ⟨F0, hF0⟩ : ∃ F0, F0 = leftP A 1073741824 [] := ⟨_, rfl⟩
  have hF0l : F0.length ≤ 140737488351232 := by rw [hF0]; have := (left_bounds hA hn 1073741824 []).1; omega
  obtain ⟨Ls, hLs⟩ : ∃ Ls, Ls = listP A := ⟨_, rfl⟩
  have hLsl : Ls.length ≤ 4000000000000 := by rw [hLs]; exact listP_len hA hn
  have hrus := fun (W : World) (h : T W) => refUsed_any r A W (tb W h).1.1.ref (hA.fitP hn).now hA.inv.fnow (by have := (hA.fitP hn).used; omega)
  rw [stC_eq] at hrus
  have HST := Lib.hid (fun W (h : T W) => (steps_dp (tb W h).1.1.dp).mono fun e' w' hp => (show e' = .returned (.int .i64 (A.steps : Int)) ∧ T w' ∧ Below W.heap.size W w' from ⟨hp.1, tt _ _ h hp.2, hp.2⟩))
  have HUS := Lib.hid (fun W (h : T W) => (used_dp (tb W h).1.1.dp hA hn).mono fun e' w' hp => (show e' = .returned (.int .i64 (u : Int)) ∧ T w' ∧ Below W.heap.size W w' from ⟨by rw [hu]; exact hp.1, tt _ _ h hp.2, hp.2⟩))
  have HRUS := Lib.hid (fun W (h : T W) => (hrus W h).mono fun e' w' hp => (show e' = .returned (.int .i64 (u : Int)) ∧ T w' ∧ Below W.heap.size W w' from ⟨by rw [hu]; exact hp.1, tt _ _ h hp.2, hp.2⟩))
  have HLI := Lib.hid (fun W (h : T W) => (show Calls Tryz.prog 41 #[.pointer (some ⟨dd, 0, none⟩)] W fun e w' => ∃ p c, e = .returned (.slice p Ls.length c) ∧ InS w' p Ls ∧ T w' ∧ Below W.heap.size W w' from ((tb W h).1.list hA hn).mono fun e' w' hp => by
    obtain ⟨p, c, h1, h2, _, h4⟩ := hp
    rw [hLs]
    exact ⟨p, c, h1, h2, tt _ _ h h4, h4⟩))
  have HRLI := Lib.hid (fun W (h : T W) => (show Calls Tryz.prog 50 #[.agg #[.slice r.p1 A.now.length r.c1, .slice r.p2 A.safe.length r.c2, .slice r.p3 A.pend.length r.c3, .slice r.p4 A.files.length r.c4, .slice r.p5 A.files.length r.c5, .int .i64 (A.room : Int), .slice r.p6 A.fails.length r.c6, .int .i64 A.power, .int .i64 (A.steps : Int)]] W fun e w' => ∃ p c, e = .returned (.slice p Ls.length c) ∧ InS w' p Ls ∧ T w' ∧ Below W.heap.size W w' from ((tb W h).1.rlist hA hn).mono fun e' w' hp => by
    obtain ⟨p, c, h1, h2, _, h4⟩ := hp
    rw [hLs]
    exact ⟨p, c, h1, h2, tt _ _ h h4, h4⟩))
  have HSX := Lib.hid (fun W p q c d (h : T W) (h1 : InS W p Ls) (h2 : InS W q Ls) => ((tb W h).1.sameTexts Ls p q c d hLsl h1 h2).mono fun e' w' hp => (show e' = .returned (.bool true) ∧ T w' ∧ Below W.heap.size W w' from ⟨hp.1, tt _ _ h hp.2.2, hp.2.2⟩))
  have HCF := Lib.hid (fun W (h : T W) => ((tb W h).1.copyFate fn K fp _ fc rfl hkl (HKW.out W h)).mono fun e' w' hp => (show ∃ p c, e' = .returned (.agg #[.int .i64 fn, .slice p K.length c]) ∧ InV w' p (K.map (Value.int .i64)) ∧ T w' ∧ Below W.heap.size W w' from by
    obtain ⟨p, c, h1, h2, _, h4⟩ := hp
    exact ⟨p, c, h1, h2, tt _ _ h h4, h4⟩))
  have HLF := Lib.hid (fun W kp kc (h : T W) (hin : InV W kp (K.map (Value.int .i64))) => (show Calls Tryz.prog 29 #[.pointer (some ⟨dd, 0, none⟩), .agg #[.int .i64 fn, .slice kp K.length kc]] W fun e w' => ∃ p c, e = .returned (.slice p FL.length c) ∧ InFs w' p FL ∧ T w' ∧ Below W.heap.size W w' from ((tb W h).1.left hA hn fn K kp _ kc rfl hin).mono fun e' w' hp => by
    obtain ⟨p, c, h1, h2, _, h4⟩ := hp
    rw [hFL]
    exact ⟨p, c, h1, h2, tt _ _ h h4, h4⟩))
  have HRL := Lib.hid (fun W kp kc (h : T W) (hin : InV W kp (K.map (Value.int .i64))) => (show Calls Tryz.prog 57 #[.agg #[.slice r.p1 A.now.length r.c1, .slice r.p2 A.safe.length r.c2, .slice r.p3 A.pend.length r.c3, .slice r.p4 A.files.length r.c4, .slice r.p5 A.files.length r.c5, .int .i64 (A.room : Int), .slice r.p6 A.fails.length r.c6, .int .i64 A.power, .int .i64 (A.steps : Int)], .agg #[.int .i64 fn, .slice kp K.length kc]] W fun e w' => ∃ p c, e = .returned (.slice p FL.length c) ∧ InFs w' p FL ∧ T w' ∧ Below W.heap.size W w' from ((tb W h).1.rleft hA hS hn fn K kp _ kc rfl hkl hin).mono fun e' w' hp => by
    obtain ⟨p, c, h1, h2, _, h4⟩ := hp
    rw [hFL]
    exact ⟨p, c, h1, h2, tt _ _ h h4, h4⟩))
  have HLF0 := Lib.hid (fun W (h : T W) => (show Calls Tryz.prog 29 #[.pointer (some ⟨dd, 0, none⟩), .agg #[.int .i64 1073741824, .slice none 0 0]] W fun e w' => ∃ p c, e = .returned (.slice p F0.length c) ∧ InFs w' p F0 ∧ T w' ∧ Below W.heap.size W w' from ((tb W h).1.left hA hn 1073741824 [] none 0 0 rfl (fun h => absurd h (by simp))).mono fun e' w' hp => by
    obtain ⟨p, c, h1, h2, _, h4⟩ := hp
    rw [hF0]
    exact ⟨p, c, h1, h2, tt _ _ h h4, h4⟩))
  have HRL0 := Lib.hid (fun W (h : T W) => (show Calls Tryz.prog 57 #[.agg #[.slice r.p1 A.now.length r.c1, .slice r.p2 A.safe.length r.c2, .slice r.p3 A.pend.length r.c3, .slice r.p4 A.files.length r.c4, .slice r.p5 A.files.length r.c5, .int .i64 (A.room : Int), .slice r.p6 A.fails.length r.c6, .int .i64 A.power, .int .i64 (A.steps : Int)], .agg #[.int .i64 1073741824, .slice none 0 0]] W fun e w' => ∃ p c, e = .returned (.slice p F0.length c) ∧ InFs w' p F0 ∧ T w' ∧ Below W.heap.size W w' from ((tb W h).1.rleft hA hS hn 1073741824 [] none 0 0 rfl (by omega) (fun h => absurd h (by simp))).mono fun e' w' hp => by
    obtain ⟨p, c, h1, h2, _, h4⟩ := hp
    rw [hF0]
    exact ⟨p, c, h1, h2, tt _ _ h h4, h4⟩))
  have HSF := Lib.hid (fun W p q c d (h : T W) (h1 : InFs W p FL) (h2 : InFs W q FL) => ((tb W h).1.sameFiles FL p q c d hFLl h1 h2).mono fun e' w' hp => (show e' = .returned (.bool true) ∧ T w' ∧ Below W.heap.size W w' from ⟨hp.1, tt _ _ h hp.2.2, hp.2.2⟩))
  have HSF0 := Lib.hid (fun W p q c d (h : T W) (h1 : InFs W p F0) (h2 : InFs W q F0) => ((tb W h).1.sameFiles F0 p q c d hF0l h1 h2).mono fun e' w' hp => (show e' = .returned (.bool true) ∧ T w' ∧ Below W.heap.size W w' from ⟨hp.1, tt _ _ h hp.2.2, hp.2.2⟩))
  have HEND := Lib.hid (fun W (h : T W) => (tb W h).2.2)
  have HT := Lib.hid (show T (World.drew wb) from tt _ _ ht0 (Below.refl _ _).drew)
  rw [stC_eq] at hwb
  have HWB := Lib.hid hwb
  clear hT tb tt ht0 hwb hbb hbs hbf hdu hu hFL hFLl hF0 hF0l hLs hLsl hrus h hA hS hK hkl hn
  rw [stC_eq]
  go_enter Tryz.func20, Tryz.ntmps20
  go_wp2_with fail
  rw [← HWB.out]
  go_region_held3 (fun W => W.cell? ⟨w.heap.size, 0, none⟩ = some (.slice r.p1 A.now.length r.c1) ∧ W.cell? ⟨w.heap.size, 1, none⟩ = some (.slice r.p2 A.safe.length r.c2) ∧ W.cell? ⟨w.heap.size, 2, none⟩ = some (.slice r.p3 A.pend.length r.c3) ∧ W.cell? ⟨w.heap.size, 3, none⟩ = some (.slice r.p4 A.files.length r.c4) ∧ W.cell? ⟨w.heap.size, 4, none⟩ = some (.slice r.p5 A.files.length r.c5) ∧ W.cell? ⟨w.heap.size, 5, none⟩ = some (.int .i64 (A.room : Int)) ∧ W.cell? ⟨w.heap.size, 6, none⟩ = some (.slice r.p6 A.fails.length r.c6) ∧ W.cell? ⟨w.heap.size, 7, none⟩ = some (.int .i64 A.power) ∧ W.cell? ⟨w.heap.size, 8, none⟩ = some (.int .i64 (A.steps : Int)) ∧ W.cell? ⟨w.heap.size + 1, 0, none⟩ = some (.int .i64 fn) ∧ W.cell? ⟨w.heap.size + 1, 1, none⟩ = some (.slice fp K.length fc))
    (first | (with_reducible exact HSS.out _ HT.out))
    (first
      | (go_at_call 31; with_reducible refine (HST.out _ HT.out).mono ?_; rintro e10 w10 ⟨rfl, hk, _⟩; have HT := Lib.hid hk; clear hk)
      | (go_at_call 32; with_reducible refine (HUS.out _ HT.out).mono ?_; rintro e10 w10 ⟨rfl, hk, _⟩; have HT := Lib.hid hk; clear hk)
      | (go_at_call 54; with_reducible refine (HRUS.out _ HT.out).mono ?_; rintro e10 w10 ⟨rfl, hk, _⟩; have HT := Lib.hid hk; clear hk)
      | (go_at_call 30; with_reducible refine (HCF.out _ HT.out).mono ?_; rintro e10 w10 ⟨p3, c3, rfl, hin3, hk, hb⟩; have HT := Lib.hid hk; have HI3 := Lib.hid hin3; (try have HF2 := Lib.hid (HF2.out.below hb)); clear hk hb hin3)
      | (go_at_call 29; with_reducible refine (HLF.out _ _ _ HT.out HI3.out).mono ?_; rintro e10 w10 ⟨p1, c1, rfl, hin, hk, hb⟩; have HT := Lib.hid hk; have HF1 := Lib.hid hin; (try have HF2 := Lib.hid (HF2.out.below hb)); clear hk hb hin)
      | (go_at_call 57; with_reducible refine (HRL.out _ _ _ HT.out (HKW.out _ HT.out)).mono ?_; rintro e10 w10 ⟨p2, c2, rfl, hin, hk, hb⟩; have HT := Lib.hid hk; have HF2 := Lib.hid hin; (try have HF1 := Lib.hid (HF1.out.below hb)); (try have HI3 := Lib.hid (HI3.out.below hb)); clear hk hb hin)
      | (go_at_call 56; with_reducible refine (HSF.out _ _ _ _ _ HT.out HF1.out HF2.out).mono ?_; rintro e10 w10 ⟨rfl, hk, _⟩; have HT := Lib.hid hk; clear hk)
      | (go_at_call 29; with_reducible refine (HLF0.out _ HT.out).mono ?_; rintro e10 w10 ⟨p1, c1, rfl, hin, hk, hb⟩; have HT := Lib.hid hk; have HF1 := Lib.hid hin; (try have HF2 := Lib.hid (HF2.out.below hb)); clear hk hb hin)
      | (go_at_call 57; with_reducible refine (HRL0.out _ HT.out).mono ?_; rintro e10 w10 ⟨p2, c2, rfl, hin, hk, hb⟩; have HT := Lib.hid hk; have HF2 := Lib.hid hin; (try have HF1 := Lib.hid (HF1.out.below hb)); clear hk hb hin)
      | (go_at_call 56; with_reducible refine (HSF0.out _ _ _ _ _ HT.out HF1.out HF2.out).mono ?_; rintro e10 w10 ⟨rfl, hk, _⟩; have HT := Lib.hid hk; clear hk)
      | (go_at_call 41; with_reducible refine (HLI.out _ HT.out).mono ?_; rintro e10 w10 ⟨p5, c5, rfl, hin, hk, hb⟩; have HT := Lib.hid hk; have HL1 := Lib.hid hin; (try have HL2 := Lib.hid (HL2.out.below hb)); clear hk hin hb)
      | (go_at_call 50; with_reducible refine (HRLI.out _ HT.out).mono ?_; rintro e10 w10 ⟨p6, c6, rfl, hin, hk, hb⟩; have HT := Lib.hid hk; have HL2 := Lib.hid hin; (try have HL1 := Lib.hid (HL1.out.below hb)); clear hk hin hb)
      | (go_at_call 55; with_reducible refine (HSX.out _ _ _ _ _ HT.out HL1.out HL2.out).mono ?_; rintro e10 w10 ⟨rfl, hk, _⟩; have HT := Lib.hid hk; clear hk))
  all_goals
    go_wp2_with fail
    go_ret
    exact ⟨rfl, HEND.out _ HT.out⟩
end Go.Proofs.YtheoklhmlnfgjaaGreatDoor
