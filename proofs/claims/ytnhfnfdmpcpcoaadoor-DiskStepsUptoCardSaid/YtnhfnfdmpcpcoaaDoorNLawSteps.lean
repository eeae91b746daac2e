/-
  DiskSteps: every New, every answer of every script of steps, and what is seen behind each.
-/
import Derived.Test.YtnhfnfdmpcpcoaaDoorHRefNew9
import Derived.Test.YtnhfnfdmpcpcoaaDoorN9g
import Derived.Test.YtnhfnfdmpcpcoaaDoorHDuo9
import Derived.Deep.RegionWith
namespace Go.Proofs.YtnhfnfdmpcpcoaaDoor
open Go.RowKit Go.Maps
set_option linter.unusedVariables false

set_option maxRecDepth 100000 in
set_option maxHeartbeats 4000000 in
theorem diskSteps_walk (p : Option Addr) (F : List FT) (c : Nat) (room : Int) (q : Option Addr) (Z : List Int) (e : Nat) (power : Int) (ps : Option Addr) (L : List OpT) (cs : Nat) (w : World)
    (hF : InFs w p F) (hZ : InV w q (Z.map (Value.int .i64))) (hk : bulkFs F + Z.length ≤ 1048576) (hL : InOps w ps L) (hkL : bulkOps L ≤ 1048576) (hLc : L.length ≤ cs) :
    Calls Tryd.prog 9 #[.agg #[.slice p F.length c, .int .i64 room, .slice q Z.length e, .int .i64 power], .slice ps L.length cs] w fun e w' => e = .returned (.bool true) ∧ Below w.heap.size w w' := by
  have hFl := bulkFs_length F
  have hFn : ∀ f ∈ F, f.1.length ≤ 140737488351232 ∧ f.2.length ≤ 140737488351232 := fun f hf => by have := bulkFs_mem F f hf; omega
  go_enter Tryd.func9, Tryd.ntmps9
  go_wp2_with fail
  refine (alive9_any _).mono ?_
  rintro e w1 ⟨rfl, hb1⟩
  have hb0 : Below w.heap.size w (w.alloc (.cells #[.slice p F.length c, .int .i64 room, .slice q Z.length e, .int .i64 power] 25)) := (Below.refl _ w).alloc (Nat.le_refl _) _
  have g0 : w1.heap[w.heap.size]? = some (.cells #[.slice p F.length c, .int .i64 room, .slice q Z.length e, .int .i64 power] 25 (0, 0)) :=
    (hb1.block _ (by simp)).trans (heap_alloc_new w _)
  have hB1 : Below w.heap.size w w1 := hb0.trans (hb1.mono (by simp))
  clear hb0 hb1
  have a0 : w1.cell? ⟨w.heap.size, 0, none⟩ = some (.slice p F.length c) := by rw [cell_of_row _ _ _ _ _ _ g0]; rfl
  have a1 : w1.cell? ⟨w.heap.size, 1, none⟩ = some (.int .i64 room) := by rw [cell_of_row _ _ _ _ _ _ g0]; rfl
  have a2 : w1.cell? ⟨w.heap.size, 2, none⟩ = some (.slice q Z.length e) := by rw [cell_of_row _ _ _ _ _ _ g0]; rfl
  have a3 : w1.cell? ⟨w.heap.size, 3, none⟩ = some (.int .i64 power) := by rw [cell_of_row _ _ _ _ _ _ g0]; rfl
  have hbeg := begin_c F p _ c rfl room Z q _ e rfl power w1 (hF.below hB1) (hZ.below hB1) (by omega) hFn (by omega)
  have HG := Lib.hid (And.intro g0 hB1)
  clear g0 hB1
  go_wp2_with fail
  refine hbeg.mono ?_
  rintro e2 w2 ⟨⟨hne, rfl⟩ | ⟨hE, dd, P, rfl, hd, hP⟩, hb2⟩
  · obtain ⟨z, hz⟩ : ∃ z, z = newE F room := ⟨_, rfl⟩
    have HRN := Lib.hid (fun W (hb : Below w2.heap.size w2 W) => refNew_any (fun _ => False) F p _ c rfl room Z q _ e rfl power W (fun g hg => hg.elim) ((hF.below HG.out.2).below (hb2.trans (hb.mono hb2.size))) (fun g hg => inv_mask (w1 := w1) (hZ.below HG.out.2) (hb2.trans (hb.mono hb2.size)) (fun k hk => hk.elim) hg) (by omega) hFn)
    have HNE := Lib.hid (And.intro hne (And.intro hz hb2))
    rw [← hz] at hne ⊢
    have q1 : (z == 0) = false := beq_eq_false_iff_ne.2 hne
    have q2 : (z != 0) = true := by simp [bne, q1]
    have c0 := cell_keep a0 hb2
    have c1 := cell_keep a1 hb2
    have c2 := cell_keep a2 hb2
    have c3 := cell_keep a3 hb2
    clear hbeg hne hb2 hz a0 a1 a2 a3
    go_wp2_with fail
    refine (HRN.out w2 (Below.refl _ _)).mono ?_
    rintro e3 w3 ⟨⟨_, rfl⟩ | ⟨h0, _⟩, hb3⟩
    · rw [← HNE.out.2.1]
      have HB := Lib.hid (HG.out.2.trans ((HNE.out.2.2.trans (hb3.mono HNE.out.2.2.size)).mono HG.out.2.size))
      clear hb3
      go_wp2_with fail
      go_ret
      exact ⟨rfl, HB.out.alloc HB.out.size _⟩
    · exact absurd h0 HNE.out.1
  · have hrn := refNew_any (fun g => P g ∧ g < w2.heap.size) F p _ c rfl room Z q _ e rfl power w2 (fun g hg => hg.2) ((hF.below HG.out.2).below hb2) (fun g hg => inv_mask (w1 := w1) (hZ.below HG.out.2) hb2 (fun k hk => hP k hk.1) hg) (by omega) hFn
    have HD2 := Lib.hid (And.intro hd (And.intro hP (And.intro hb2 hE)))
    have hA0 := GoodA.new power hE hk
    have HA0 := Lib.hid hA0
    have c0 := cell_keep a0 hb2
    have c1 := cell_keep a1 hb2
    have c2 := cell_keep a2 hb2
    have c3 := cell_keep a3 hb2
    obtain ⟨A0, hA0e⟩ : ∃ A0, A0 = newP F room Z power := ⟨_, rfl⟩
    have HA0E := Lib.hid hA0e
    clear hbeg hd hP hE hb2 a0 a1 a2 a3 hA0 hA0e
    go_wp2_with fail
    refine hrn.mono ?_
    rintro e3 w3 ⟨⟨h0, _⟩ | ⟨_, r, rfl, hr⟩, hb3⟩
    · exact absurd HD2.out.2.2.2 h0
    have hduo := Duo.start HD2.out.1 HD2.out.2.1 HD2.out.2.2.1 hr hb3
    rw [← HA0E.out] at hduo
    rw [← HA0E.out]
    unfold stC
    have HDU := Lib.hid hduo
    clear hrn hr hb3 hduo c0 c1 c2 c3
    obtain ⟨wb, hwb⟩ : ∃ x, x = w3.alloc (.cells (stC r A0) 52) := ⟨_, rfl⟩
    have hbx : Below w3.heap.size w3 wb := by rw [hwb]; exact (Below.refl _ w3).alloc (Nat.le_refl _) _
    have hbox : wb.heap[w3.heap.size]? = some (.cells (stC r A0) 52 (0, 0)) := by rw [hwb]; exact heap_alloc_new w3 _
    have hduo := HDU.out.add hbx (fun g => g = w3.heap.size) (fun g hg => .inr ⟨by rw [hg]; exact Nat.le_refl _, by rw [hg, hwb]; simp⟩)
    have hcut := cut_any L ps _ cs rfl hLc wb
    unfold stC at hwb
    have HD4 := Lib.hid (And.intro hduo hbox)
    have HWB := Lib.hid hwb
    rw [hwb] at hcut
    have hb3s := hbx.size
    clear hbx hbox hduo hwb
    go_wp2_with fail
    refine hcut.mono ?_
    rw [← HWB.out]
    rintro e4 w4 ⟨c4, rfl, hb4⟩
    clear hcut
    obtain ⟨M, hM⟩ : ∃ M, M = L.take 300 := ⟨_, rfl⟩
    rw [← hM]
    have hMl : M.length ≤ 300 := by rw [hM, List.length_take]; omega
    have hMk : ∀ x ∈ M, x.2.1.length + x.2.2.1.length + x.2.2.2.length ≤ 1048576 := fun x hx => Nat.le_trans (bulkOps_mem L x (by rw [hM] at hx; exact List.mem_of_mem_take hx)) hkL
    have hMi : InOps w ps M := by rw [hM]; exact hL.take 300
    have HD5 := Lib.hid (And.intro (HD4.out.1.below hb4) (Below.heap hb4 HD4.out.2))
    have HGA := Lib.hid (fun k (hk : k ≤ M.length) => (show GoodA k (runA A0 (M.take k)) by rw [HA0E.out]; exact GoodA.run HA0.out M k hk))
    obtain ⟨rb, hrb⟩ : ∃ rb, rb = w3.heap.size := ⟨_, rfl⟩
    rw [← hrb] at HD5 ⊢
    have HRB := Lib.hid (show w1.heap.size ≤ rb by rw [hrb]; exact HDU.out.blw.size)
    clear hM hb4 hrb hb3s
    go_wp2_with fail
    go_loopw [9] (fun i wr => ∃ (k : Nat) (r : RC), k ≤ M.length ∧ i = .int .i64 k ∧ Duo w1 (fun g => g = rb) dd (runA A0 (M.take k)) r (runA A0 (M.take k)) wr ∧ wr.heap[rb]? = some (.cells (stC r (runA A0 (M.take k))) 52 (0, 0))) (fun i _ => M.length - (intOf i).toNat)
    case atStart => exact ⟨0, r, Nat.zero_le _, rfl, HD5.out.1, HD5.out.2⟩
    case round =>
      clear HD5 HD4 HDU HWB
      obtain ⟨k, rr, hkm, rfl, hd, hbx⟩ := hrel
      have hBw : Below w.heap.size w wr := HG.out.2.trans (hd.blw.mono HG.out.2.size)
      by_cases hlt : k < M.length
      · have hAk := HGA.out k hkm
        have hAk1 := HGA.out (k + 1) hlt
        have hsz := hMk M[k] (List.getElem_mem hlt)
        have hsn := runA_snoc A0 hlt
        obtain ⟨b, o, rfl, na, nb, qo, co, o0, o1, o2, o3, o4, o5, o6⟩ := hMi k hlt
        generalize M[k] = x at o0 o1 o2 o3 o4 o5 o6 hsz hsn
        obtain ⟨wh, ba, bb, bl⟩ := x
        simp only at o0 o1 o2 o3 o4 o5 o6 hsz hsn
        subst o4 o5
        rw [hsn] at hAk1
        obtain ⟨A, hA⟩ : ∃ A, A = runA A0 (M.take k) := ⟨_, rfl⟩
        rw [← hA] at hd hbx hAk hAk1 hsn
        obtain ⟨op, hop⟩ : ∃ op, op = opOf wh na.data.toList nb.data.toList bl := ⟨_, rfl⟩
        rw [← hop] at hAk1 hsn
        have HSN := Lib.hid (And.intro hsn (And.intro hop hAk1))
        have HO6 := Lib.hid o6
        have HNA := Lib.hid (show na.size ≤ 140737488351232 by rw [size_list] at hsz; omega)
        have HDk := Lib.hid (And.intro hd (And.intro hbx (And.intro hAk hBw)))
        have v0 := cell_keep o0 hBw
        have v1 := cell_keep o1 hBw
        have v2 := cell_keep o2 hBw
        have v3 := cell_keep o3 hBw
        have hst := step_any wh na nb (.slice qo bl.length co) qo _ co rfl wr
        clear hA hsn hop hAk hAk1 hBw hd hbx o0 o1 o2 o3
        go_wp2_with fail
        refine hst.mono ?_
        rintro e7 w7 ⟨rfl, hb7⟩
        clear hst
        obtain ⟨wo, hwo⟩ : ∃ x, x = w7.alloc (.cells #[.int .i64 (stepI wh), .string na, .string nb, .slice qo bl.length co] 57) := ⟨_, rfl⟩
        have hbo : Below wr.heap.size wr wo := by rw [hwo]; exact hb7.alloc hb7.size _
        have hobx : wo.heap[w7.heap.size]? = some (.cells #[.int .i64 (stepI wh), .string na, .string nb, .slice qo bl.length co] 57 (0, 0)) := by rw [hwo]; exact heap_alloc_new w7 _
        have hduo := HDk.out.1.add hbo (fun g => g = rb ∨ g = w7.heap.size) (fun g hg => hg.imp id fun e => ⟨by rw [e]; exact hb7.size, by rw [e]; exact lt_of_heap hobx⟩)
        have HNE := Lib.hid (show w7.heap.size ≠ rb from fun e => by have h1 := lt_of_heap HDk.out.2.1; have h2 := hb7.size; omega)
        have hrbx := Below.heap hbo HDk.out.2.1
        have hino := o6.below (HDk.out.2.2.2.trans (hbo.mono HDk.out.2.2.2.size))
        have hstep := refStep_duo hduo wh na nb bl qo _ co rfl hsz hino HDk.out.2.2.1.inv (HDk.out.2.2.1.fitP (by omega))
        rw [← HSN.out.2.1] at hstep
        obtain ⟨A', hA'⟩ : ∃ A', A' = (doP A op).1 := ⟨_, rfl⟩
        obtain ⟨z, hz⟩ : ∃ z, z = (doP A op).2 := ⟨_, rfl⟩
        rw [← hA', ← hz] at hstep
        unfold stC at hstep hrbx
        obtain ⟨a0, a1, a2, a3, a4, a5, a6, a7, a8, af⟩ := st9v hrbx
        obtain ⟨b0, b1, b2, b3⟩ := op4v hobx
        rw [hwo] at a0 a1 a2 a3 a4 a5 a6 a7 a8 b0 b1 b2 b3 hstep
        have HO := Lib.hid (And.intro hwo (And.intro hbo (And.intro hobx (And.intro hrbx hino))))
        have HA := Lib.hid (And.intro hA' hz)
        clear hwo hbo hobx hduo hrbx hino hb7 o6 v0 v1 v2 v3 af hA' hz
        go_wp2_with fail
        refine hstep.mono ?_
        rw [← HO.out.1]
        rintro e8 w8 ⟨r', rfl, hd8, hb8⟩
        clear hstep a0 a1 a2 a3 a4 a5 a6 a7 a8 b0 b1 b2 b3
        obtain ⟨wn, hwn⟩ : ∃ x, x = w8.alloc (.cells (stC r' A') 52) := ⟨_, rfl⟩
        have hbn : Below w8.heap.size w8 wn := by rw [hwn]; exact (Below.refl _ w8).alloc (Nat.le_refl _) _
        have hnbx : wn.heap[w8.heap.size]? = some (.cells (stC r' A') 52 (0, 0)) := by rw [hwn]; exact heap_alloc_new w8 _
        have hrb8 := Below.heap (hb8.trans (hbn.mono hb8.size)) HO.out.2.2.2.1
        have hob8 := Below.heap (hb8.trans (hbn.mono hb8.size)) HO.out.2.2.1
        have hdn := hd8.below hbn
        unfold stC at hwn hnbx
        obtain ⟨n0, n1, n2, n3, n4, n5, n6, n7, n8, nf⟩ := st9v hnbx
        obtain ⟨a0, a1, a2, a3, a4, a5, a6, a7, a8, af⟩ := st9v hrb8
        obtain ⟨b0, b1, b2, b3⟩ := op4v hob8
        rw [hwn] at n0 n1 n2 n3 n4 n5 n6 n7 n8 a0 a1 a2 a3 a4 a5 a6 a7 a8 b0 b1 b2 b3 af
        have HN := Lib.hid (And.intro hwn (And.intro hrb8 (And.intro hob8 (And.intro hdn (hb8.trans (hbn.mono hb8.size))))))
        clear hwn hbn hnbx hrb8 hob8 hd8 hb8 hdn nf
        go_wp2_with fail
        obtain ⟨wx, hwx⟩ : ∃ x, x = put9 wn rb (.slice r'.p1 A'.now.length r'.c1) (.slice r'.p2 A'.safe.length r'.c2) (.slice r'.p3 A'.pend.length r'.c3) (.slice r'.p4 A'.files.length r'.c4) (.slice r'.p5 A'.files.length r'.c5) (.int .i64 (A'.room : Int)) (.slice r'.p6 A'.fails.length r'.c6) (.int .i64 A'.power) (.int .i64 (A'.steps : Int)) := ⟨_, rfl⟩
        have hdx : Duo w1 (fun g => g = rb ∨ g = w7.heap.size) dd A r' A' wx := by
          rw [hwx]
          exact HN.out.2.2.2.1.write HN.out.2.1 (.inl rfl) (by decide) (by decide) (fun z e => by cases e) (fun g hg => put9_heap g hg) put9_size (put9_below HN.out.2.2.2.1.blw HRB.out)
        have hrbx : wx.heap[rb]? = some (.cells (stC r' A') 52 (0, 0)) := by rw [hwx]; exact put9_same HN.out.2.1
        have hobx : wx.heap[w7.heap.size]? = some (.cells #[.int .i64 (stepI wh), .string na, .string nb, .slice qo bl.length co] 57 (0, 0)) := by rw [hwx]; exact (put9_heap _ HNE.out).trans HN.out.2.2.1
        have hinx : In8 wx qo bl := HO6.out.below (HG.out.2.trans (hdx.blw.mono HG.out.2.size))
        unfold put9 at hwx
        rw [HN.out.1] at hwx
        rw [← hwx]
        have hAk := HDk.out.2.2.1
        have hAk1 : GoodA (k + 1) A' := by rw [HA.out.1]; exact HSN.out.2.2
        obtain ⟨T, hT⟩ : ∃ T : World → Prop, T = fun W => Duo w1 (fun g => g = rb ∨ g = w7.heap.size) dd A' r' A' W ∧ W.heap[rb]? = some (.cells (stC r' A') 52 (0, 0)) ∧ W.heap[w7.heap.size]? = some (.cells #[.int .i64 (stepI wh), .string na, .string nb, .slice qo bl.length co] 57 (0, 0)) := ⟨_, rfl⟩
        have tb : ∀ W, T W → Duo w1 (fun g => g = rb ∨ g = w7.heap.size) dd A' r' A' W ∧ W.heap[rb]? = some (.cells (stC r' A') 52 (0, 0)) ∧ W.heap[w7.heap.size]? = some (.cells #[.int .i64 (stepI wh), .string na, .string nb, .slice qo bl.length co] 57 (0, 0)) := fun W h => by rw [hT] at h; exact h
        have tt : ∀ W W', T W → Below W.heap.size W W' → T W' := fun W W' h hb => by
          have h := tb W h
          rw [hT]
          exact ⟨h.1.below hb, Below.heap hb h.2.1, Below.heap hb h.2.2⟩
        have hcells := fun (W : World) (h1 : W.heap[rb]? = some (.cells (stC r' A') 52 (0, 0))) (h2 : W.heap[w7.heap.size]? = some (.cells #[.int .i64 (stepI wh), .string na, .string nb, .slice qo bl.length co] 57 (0, 0))) =>
          (show W.cell? ⟨rb, 0, none⟩ = some (.slice r'.p1 A'.now.length r'.c1) ∧ W.cell? ⟨rb, 1, none⟩ = some (.slice r'.p2 A'.safe.length r'.c2) ∧ W.cell? ⟨rb, 2, none⟩ = some (.slice r'.p3 A'.pend.length r'.c3) ∧ W.cell? ⟨rb, 3, none⟩ = some (.slice r'.p4 A'.files.length r'.c4) ∧ W.cell? ⟨rb, 4, none⟩ = some (.slice r'.p5 A'.files.length r'.c5) ∧ W.cell? ⟨rb, 5, none⟩ = some (.int .i64 (A'.room : Int)) ∧ W.cell? ⟨rb, 6, none⟩ = some (.slice r'.p6 A'.fails.length r'.c6) ∧ W.cell? ⟨rb, 7, none⟩ = some (.int .i64 A'.power) ∧ W.cell? ⟨rb, 8, none⟩ = some (.int .i64 (A'.steps : Int)) ∧ W.cell? ⟨w7.heap.size, 0, none⟩ = some (.int .i64 (stepI wh)) ∧ W.cell? ⟨w7.heap.size, 1, none⟩ = some (.string na) ∧ W.cell? ⟨w7.heap.size, 2, none⟩ = some (.string nb) ∧ W.cell? ⟨w7.heap.size, 3, none⟩ = some (.slice qo bl.length co) from by
            unfold stC at h1
            obtain ⟨g0, g1, g2, g3, g4, g5, g6, g7, g8, _⟩ := st9v h1
            obtain ⟨d0, d1, d2, d3⟩ := op4v h2
            exact ⟨g0, g1, g2, g3, g4, g5, g6, g7, g8, d0, d1, d2, d3⟩)
        have HCX := Lib.hid (hcells wx.drew hrbx hobx)
        have HCT := Lib.hid (fun W (h : T W) => hcells W (tb W h).2.1 (tb W h).2.2)
        have hbdx : Below wx.heap.size wx wx.drew := (Below.refl _ wx).drew
        have HDO := Lib.hid (show Calls Tryd.prog 25 #[.pointer (some ⟨dd, 0, none⟩), .agg #[.int .i64 (stepI wh), .string na, .string nb, .slice qo bl.length co]] wx.drew fun e w' => e = .returned (.int .i64 z) ∧ T w' from
          (do_duo (hdx.below hbdx) wh na nb bl qo _ co rfl hsz (hinx.below hbdx) (hAk.fitP (by omega))).mono fun e w' hp => by
            obtain ⟨z', h1, h2, h3, h4⟩ := hp
            rw [← HSN.out.2.1] at h2 h3
            rw [← HA.out.2] at h2
            rw [← HA.out.1] at h3
            subst h2
            rw [hT]
            exact ⟨h1, h3, (h4 rb (.inl rfl)).trans hrbx, (h4 _ (.inr rfl)).trans hobx⟩)
        obtain ⟨u, hu⟩ : ∃ u, u = usedP A' := ⟨_, rfl⟩
        obtain ⟨dn, hdn⟩ : ∃ dn, dn = downP A' := ⟨_, rfl⟩
        obtain ⟨Ls, hLs⟩ : ∃ Ls, Ls = listP A' := ⟨_, rfl⟩
        have hln : Ls.length ≤ 4000000000000 := by
          have := (hAk1.fitP (by omega)).now
          rw [hLs]
          unfold listP
          split
          · simp
          · rw [List.length_map]; exact this
        have HST := Lib.hid (fun W (h : T W) => (steps_dp (tb W h).1.dp).mono fun e' w' hp => (show e' = .returned (.int .i64 (A'.steps : Int)) ∧ T w' ∧ Below W.heap.size W w' from ⟨hp.1, tt _ _ h hp.2, hp.2⟩))
        have HDN := Lib.hid (fun W (h : T W) => (down_dp (tb W h).1.dp).mono fun e' w' hp => (show e' = .returned (.bool dn) ∧ T w' ∧ Below W.heap.size W w' from ⟨by rw [hdn]; exact hp.1, tt _ _ h hp.2, hp.2⟩))
        have HUS := Lib.hid (fun W (h : T W) => (used_dp (tb W h).1.dp hAk1 (by omega)).mono fun e' w' hp => (show e' = .returned (.int .i64 (u : Int)) ∧ T w' ∧ Below W.heap.size W w' from ⟨by rw [hu]; exact hp.1, tt _ _ h hp.2, hp.2⟩))
        have HLI := Lib.hid (fun W (h : T W) => (list_dp (tb W h).1.dp hAk1 (by omega)).mono fun e' w' hp => (show ∃ p c, e' = .returned (.slice p Ls.length c) ∧ InS w' p Ls ∧ T w' ∧ Below W.heap.size W w' from by
          obtain ⟨p, c, h1, _, h3, h4⟩ := hp
          rw [hLs]
          exact ⟨p, c, h1, h3, tt _ _ h h4, h4⟩))
        have hrdn := fun (W : World) => refDown_any r' A' W
        have hrus := fun (W : World) (h : T W) => refUsed_any r' A' W (tb W h).1.ref (hAk1.fitP (by omega)).now hAk1.inv.fnow (by have := (hAk1.fitP (by omega)).used; omega)
        have hrli := fun (W : World) (h : T W) => refList_any r' A' W (tb W h).1.ref.now (hAk1.fitP (by omega)).now
        unfold stC at hrdn hrus hrli
        have HRDN := Lib.hid (fun W (h : T W) => (hrdn W).mono fun e' w' hp => (show e' = .returned (.bool dn) ∧ T w' ∧ Below W.heap.size W w' from ⟨by rw [hdn]; exact hp.1, tt _ _ h hp.2, hp.2⟩))
        have HRUS := Lib.hid (fun W (h : T W) => (hrus W h).mono fun e' w' hp => (show e' = .returned (.int .i64 (u : Int)) ∧ T w' ∧ Below W.heap.size W w' from ⟨by rw [hu]; exact hp.1, tt _ _ h hp.2, hp.2⟩))
        have HRLI := Lib.hid (fun W (h : T W) => (hrli W h).mono fun e' w' hp => (show ∃ p c, e' = .returned (.slice p Ls.length c) ∧ InS w' p Ls ∧ T w' ∧ Below W.heap.size W w' from by
          obtain ⟨p, c, h1, h3, h4⟩ := hp
          rw [hLs]
          exact ⟨p, c, h1, h3, tt _ _ h h4, h4⟩))
        have HSX := Lib.hid (fun W p1 c1 p2 c2 (h : T W) (hin1 : InS W p1 Ls) (hin2 : InS W p2 Ls) => (sameTexts_any Ls Ls p1 p2 _ c1 _ c2 rfl rfl (by unfold maxLen; omega) (by unfold maxLen; omega) W hin1 hin2).mono fun e' w' hp => (show e' = .returned (.bool true) ∧ T w' ∧ Below W.heap.size W w' from ⟨by rw [hp.1, decide_eq_true rfl], tt _ _ h hp.2, hp.2⟩))
        have HTT := Lib.hid (And.intro tb tt)
        have HAK := Lib.hid (And.intro hAk1 (And.intro hdx.blw hwx))
        clear hT tb tt hcells hbdx hdx hrbx hobx hinx hwx hAk hAk1 hu hdn hLs hln hrdn hrus hrli n0 n1 n2 n3 n4 n5 n6 n7 n8 a0 a1 a2 a3 a4 a5 a6 a7 a8 b0 b1 b2 b3 af hsz
        go_region_held3 (fun W => W.cell? ⟨rb, 0, none⟩ = some (.slice r'.p1 A'.now.length r'.c1) ∧ W.cell? ⟨rb, 1, none⟩ = some (.slice r'.p2 A'.safe.length r'.c2) ∧ W.cell? ⟨rb, 2, none⟩ = some (.slice r'.p3 A'.pend.length r'.c3) ∧ W.cell? ⟨rb, 3, none⟩ = some (.slice r'.p4 A'.files.length r'.c4) ∧ W.cell? ⟨rb, 4, none⟩ = some (.slice r'.p5 A'.files.length r'.c5) ∧ W.cell? ⟨rb, 5, none⟩ = some (.int .i64 (A'.room : Int)) ∧ W.cell? ⟨rb, 6, none⟩ = some (.slice r'.p6 A'.fails.length r'.c6) ∧ W.cell? ⟨rb, 7, none⟩ = some (.int .i64 A'.power) ∧ W.cell? ⟨rb, 8, none⟩ = some (.int .i64 (A'.steps : Int)) ∧ W.cell? ⟨w7.heap.size, 0, none⟩ = some (.int .i64 (stepI wh)) ∧ W.cell? ⟨w7.heap.size, 1, none⟩ = some (.string na) ∧ W.cell? ⟨w7.heap.size, 2, none⟩ = some (.string nb) ∧ W.cell? ⟨w7.heap.size, 3, none⟩ = some (.slice qo bl.length co))
          (first | (with_reducible exact HCX.out) | (with_reducible exact HCT.out _ HT.out))
          (first
            | (go_at_call 25; with_reducible refine HDO.out.mono ?_; rintro e10 w10 ⟨rfl, hk⟩; have HT := Lib.hid hk; clear hk)
            | (go_at_call 37; with_reducible refine (HST.out _ HT.out).mono ?_; rintro e10 w10 ⟨rfl, hk, _⟩; have HT := Lib.hid hk; clear hk)
            | (go_at_call 33; with_reducible refine (HDN.out _ HT.out).mono ?_; rintro e10 w10 ⟨rfl, hk, _⟩; have HT := Lib.hid hk; clear hk)
            | (go_at_call 39; with_reducible refine (HRDN.out _ HT.out).mono ?_; rintro e10 w10 ⟨rfl, hk, _⟩; have HT := Lib.hid hk; clear hk)
            | (go_at_call 32; with_reducible refine (HUS.out _ HT.out).mono ?_; rintro e10 w10 ⟨rfl, hk, _⟩; have HT := Lib.hid hk; clear hk)
            | (go_at_call 40; with_reducible refine (HRUS.out _ HT.out).mono ?_; rintro e10 w10 ⟨rfl, hk, _⟩; have HT := Lib.hid hk; clear hk)
            | (go_at_call 30; with_reducible refine (HLI.out _ HT.out).mono ?_; rintro e10 w10 ⟨p1, c1, rfl, hin, hk, hb⟩; have HT := Lib.hid hk; have HL1 := Lib.hid hin; (try have HL2 := Lib.hid (HL2.out.below hb)); clear hk hin hb)
            | (go_at_call 31; with_reducible refine (HRLI.out _ HT.out).mono ?_; rintro e10 w10 ⟨p2, c2, rfl, hin, hk, hb⟩; have HT := Lib.hid hk; have HL2 := Lib.hid hin; (try have HL1 := Lib.hid (HL1.out.below hb)); clear hk hin hb)
            | (go_at_call 29; with_reducible refine (HSX.out _ _ _ _ _ HT.out HL1.out HL2.out).mono ?_; rintro e10 w10 ⟨rfl, hk, _⟩; have HT := Lib.hid hk; clear hk))
        all_goals
          have hnam := HNA.out
          have hrd := read_dp (HTT.out.1 _ HT.out).1.dp HAK.out.1 (by omega) na hnam
          have hrl := readP_len HAK.out.1 na.data.toList
          obtain ⟨R, hR⟩ : ∃ R, R = readP A' na.data.toList := ⟨_, rfl⟩
          obtain ⟨ry, hry⟩ : ∃ ry, ry = readEP A' na.data.toList := ⟨_, rfl⟩
          have hrr := fun W (h : T W) => refRead_any r' A' na W (HTT.out.1 W h).1.ref HAK.out.1.inv (HAK.out.1.fitP (by omega)).now hnam (by rw [← hR] at hrl ⊢; omega)
          rw [← hR] at hrl
          rw [← hR, ← hry] at hrd hrr
          unfold stC at hrr
          have HRR := Lib.hid hrr
          clear hR hry hrr hnam
          go_wp2_with fail
          refine hrd.mono ?_
          rintro e11 w11 ⟨pa, ca, rfl, hina, _, _, _, _, hb11⟩
          have ht11 := HTT.out.2 _ _ HT.out hb11
          have hrr := HRR.out w11 ht11
          obtain ⟨g0, g1, g2, g3, g4, g5, g6, g7, g8, d0, d1, d2, d3⟩ := HCT.out w11 ht11
          have HI11 := Lib.hid hina
          have HT11 := Lib.hid ht11
          clear hrd hina hb11 ht11
          go_wp2_with fail
          refine hrr.mono ?_
          rintro e12 w12 ⟨pb, cb, rfl, hinb, hb12⟩
          have hsb := sameBytes_any R R pa pb _ ca _ cb rfl rfl (by unfold maxLen; omega) (by unfold maxLen; omega) w12 (HI11.out.below hb12) hinb
          rw [decide_eq_true rfl] at hsb
          have HT12 := Lib.hid (HTT.out.2 _ _ HT11.out hb12)
          clear hrr hinb hb12 g0 g1 g2 g3 g4 g5 g6 g7 g8 d0 d1 d2 d3
          go_wp2_with fail
          refine hsb.mono ?_
          rintro e13 w13 ⟨rfl, hb13⟩
          have HT13 := Lib.hid (HTT.out.2 _ _ HT12.out hb13)
          clear hsb hb13
          go_wp2_with fail
          go_roundw
          case rel => exact ⟨k + 1, r', by omega, by go_num, by rw [HSN.out.1, ← HA.out.1]; exact (HTT.out.1 _ HT13.out).1.less fun g hg => .inl hg, by rw [HSN.out.1, ← HA.out.1]; exact (HTT.out.1 _ HT13.out).2.1⟩
          case measure => simp [intOf]; omega
      · obtain rfl : k = M.length := by omega
        have hBw : Below w.heap.size w wr := HG.out.2.trans (hd.blw.mono HG.out.2.size)
        clear hd hbx
        go_wp2_with fail
        go_ret
        exact ⟨rfl, hBw⟩
end Go.Proofs.YtnhfnfdmpcpcoaaDoor
