/-
  DiskLefts: behind every script of steps each fate leaves the files that the document says.
-/
import Derived.Test.YtnhfnfdmpcpcoaaDoorHRefNew9
import Derived.Test.YtnhfnfdmpcpcoaaDoorHTL9
import Derived.Test.YtnhfnfdmpcpcoaaDoorHDuo9
import Derived.Test.YtnhfnfdmpcpcoaaDoorN9g
import Derived.Deep.RegionWith
namespace Go.Proofs.YtnhfnfdmpcpcoaaDoor
open Go.RowKit Go.Maps
set_option linter.unusedVariables false

theorem invS_run : ∀ (L : List OpT) (A : Pl), Inv A → InvS A → InvS (runA A L)
  | [], _, _, h => h
  | x :: L, A, hI, h => invS_run L _ (inv_do hI _) (invS_do hI h _)

set_option maxRecDepth 100000 in
set_option maxHeartbeats 4000000 in
theorem diskLefts_walk (p : Option Addr) (F : List FT) (c : Nat) (room : Int) (q : Option Addr) (Z : List Int) (e : Nat) (power : Int) (ps : Option Addr) (L : List OpT) (cs : Nat) (fn : Int) (fp : Option Addr) (K : List Int) (fc : Nat) (w : World)
    (hF : InFs w p F) (hZ : InV w q (Z.map (Value.int .i64))) (hk : bulkFs F + Z.length ≤ 1048576) (hL : InOps w ps L) (hkL : bulkOps L ≤ 1048576) (hLc : L.length ≤ cs) (hK : InV w fp (K.map (Value.int .i64))) (hkK : K.length ≤ 1048576) :
    Calls Tryd.prog 4 #[.agg #[.slice p F.length c, .int .i64 room, .slice q Z.length e, .int .i64 power], .slice ps L.length cs, .agg #[.int .i64 fn, .slice fp K.length fc]] w fun e w' => e = .returned (.bool true) ∧ Below w.heap.size w w' := by
  have hFl := bulkFs_length F
  have hFn : ∀ f ∈ F, f.1.length ≤ 140737488351232 ∧ f.2.length ≤ 140737488351232 := fun f hf => by have := bulkFs_mem F f hf; omega
  go_enter Tryd.func4, Tryd.ntmps4
  go_wp2_with fail
  refine (alive9_any _).mono ?_
  rintro e w1 ⟨rfl, hb1⟩
  have hb0 : Below w.heap.size w ((w.alloc (.cells #[.slice p F.length c, .int .i64 room, .slice q Z.length e, .int .i64 power] 25)).alloc (.cells #[.int .i64 fn, .slice fp K.length fc] 29)) := ((Below.refl _ w).alloc (Nat.le_refl _) _).alloc (by simp) _
  have g0 : w1.heap[w.heap.size]? = some (.cells #[.slice p F.length c, .int .i64 room, .slice q Z.length e, .int .i64 power] 25 (0, 0)) :=
    (hb1.block _ (by simp; omega)).trans ((heap_alloc_old _ _ (by simp)).trans (heap_alloc_new w _))
  have g1 : w1.heap[w.heap.size + 1]? = some (.cells #[.int .i64 fn, .slice fp K.length fc] 29 (0, 0)) := by
    have := heap_alloc_new (w.alloc (.cells #[.slice p F.length c, .int .i64 room, .slice q Z.length e, .int .i64 power] 25)) (.cells #[.int .i64 fn, .slice fp K.length fc] 29)
    rw [World.size_alloc] at this
    exact (hb1.block _ (by simp)).trans this
  have hB1 : Below w.heap.size w w1 := hb0.trans (hb1.mono (by simp; omega))
  clear hb0 hb1
  have a0 : w1.cell? ⟨w.heap.size, 0, none⟩ = some (.slice p F.length c) := by rw [cell_of_row _ _ _ _ _ _ g0]; rfl
  have a1 : w1.cell? ⟨w.heap.size, 1, none⟩ = some (.int .i64 room) := by rw [cell_of_row _ _ _ _ _ _ g0]; rfl
  have a2 : w1.cell? ⟨w.heap.size, 2, none⟩ = some (.slice q Z.length e) := by rw [cell_of_row _ _ _ _ _ _ g0]; rfl
  have a3 : w1.cell? ⟨w.heap.size, 3, none⟩ = some (.int .i64 power) := by rw [cell_of_row _ _ _ _ _ _ g0]; rfl
  have hbeg := begin_c F p _ c rfl room Z q _ e rfl power w1 (hF.below hB1) (hZ.below hB1) (by omega) hFn (by omega)
  have HG := Lib.hid (And.intro g0 hB1)
  have HG1 := Lib.hid g1
  clear g0 g1 hB1
  go_wp2_with fail
  refine hbeg.mono ?_
  rintro e2 w2 ⟨⟨hne, rfl⟩ | ⟨hE, dd, P, rfl, hd, hP⟩, hb2⟩
  · obtain ⟨z, hz⟩ : ∃ z, z = newE F room := ⟨_, rfl⟩
    have HRN := Lib.hid (fun W (hb : Below w2.heap.size w2 W) => refNew_any (fun _ => False) F p _ c rfl room Z q _ e rfl power W (fun g hg => hg.elim) ((hF.below HG.out.2).below (hb2.trans (hb.mono hb2.size))) (fun g hg => inv_mask (w1 := w1) (hZ.below HG.out.2) (hb2.trans (hb.mono hb2.size)) (fun k hk => hk.elim) hg) (by omega) hFn)
    have HNE := Lib.hid (And.intro hne (And.intro hz hb2))
    rw [← hz] at hne ⊢
    have q1 : (z == 0) = false := beq_eq_false_iff_ne.2 hne
    have q2 : (z != 0) = true := by simp [bne, q1]
    have c0 := cell_keep a0 hb2
    have c1 := cell_keep a1 hb2
    have c2 := cell_keep a2 hb2
    have c3 := cell_keep a3 hb2
    clear hbeg hne hb2 hz a0 a1 a2 a3
    go_wp2_with fail
    refine (HRN.out w2 (Below.refl _ _)).mono ?_
    rintro e3 w3 ⟨⟨_, rfl⟩ | ⟨h0, _⟩, hb3⟩
    · rw [← HNE.out.2.1]
      have HB := Lib.hid (HG.out.2.trans ((HNE.out.2.2.trans (hb3.mono HNE.out.2.2.size)).mono HG.out.2.size))
      clear hb3
      go_wp2_with fail
      go_ret
      exact ⟨rfl, HB.out.alloc HB.out.size _⟩
    · exact absurd h0 HNE.out.1
  · have hrn := refNew_any (fun g => P g ∧ g < w2.heap.size) F p _ c rfl room Z q _ e rfl power w2 (fun g hg => hg.2) ((hF.below HG.out.2).below hb2) (fun g hg => inv_mask (w1 := w1) (hZ.below HG.out.2) hb2 (fun k hk => hP k hk.1) hg) (by omega) hFn
    have HD2 := Lib.hid (And.intro hd (And.intro hP (And.intro hb2 hE)))
    have hA0 := GoodA.new power hE hk
    have HA0 := Lib.hid hA0
    have HIS := Lib.hid (invS_new (newE_zero hE).1 room Z power)
    have c0 := cell_keep a0 hb2
    have c1 := cell_keep a1 hb2
    have c2 := cell_keep a2 hb2
    have c3 := cell_keep a3 hb2
    obtain ⟨A0, hA0e⟩ : ∃ A0, A0 = newP F room Z power := ⟨_, rfl⟩
    have HA0E := Lib.hid hA0e
    clear hbeg hd hP hE hb2 a0 a1 a2 a3 hA0 hA0e
    go_wp2_with fail
    refine hrn.mono ?_
    rintro e3 w3 ⟨⟨h0, _⟩ | ⟨_, r, rfl, hr⟩, hb3⟩
    · exact absurd HD2.out.2.2.2 h0
    have hduo := Duo.start HD2.out.1 HD2.out.2.1 HD2.out.2.2.1 hr hb3
    rw [← HA0E.out] at hduo
    rw [← HA0E.out]
    unfold stC
    have HDU := Lib.hid hduo
    clear hrn hr hb3 hduo c0 c1 c2 c3
    obtain ⟨wb, hwb⟩ : ∃ x, x = w3.alloc (.cells (stC r A0) 52) := ⟨_, rfl⟩
    have hbx : Below w3.heap.size w3 wb := by rw [hwb]; exact (Below.refl _ w3).alloc (Nat.le_refl _) _
    have hbox : wb.heap[w3.heap.size]? = some (.cells (stC r A0) 52 (0, 0)) := by rw [hwb]; exact heap_alloc_new w3 _
    have hduo := HDU.out.add hbx (fun g => g = w3.heap.size) (fun g hg => .inr ⟨by rw [hg]; exact Nat.le_refl _, by rw [hg, hwb]; simp⟩)
    have hcut := cut_any L ps _ cs rfl hLc wb
    unfold stC at hwb
    have HD4 := Lib.hid (And.intro hduo hbox)
    have HWB := Lib.hid hwb
    rw [hwb] at hcut
    have hb3s := hbx.size
    clear hbx hbox hduo hwb
    go_wp2_with fail
    refine hcut.mono ?_
    rw [← HWB.out]
    rintro e4 w4 ⟨c4, rfl, hb4⟩
    clear hcut
    obtain ⟨M, hM⟩ : ∃ M, M = L.take 300 := ⟨_, rfl⟩
    rw [← hM]
    have hMl : M.length ≤ 300 := by rw [hM, List.length_take]; omega
    have hMk : ∀ x ∈ M, x.2.1.length + x.2.2.1.length + x.2.2.2.length ≤ 1048576 := fun x hx => Nat.le_trans (bulkOps_mem L x (by rw [hM] at hx; exact List.mem_of_mem_take hx)) hkL
    have hMi : InOps w ps M := by rw [hM]; exact hL.take 300
    have HD5 := Lib.hid (And.intro (HD4.out.1.below hb4) (Below.heap hb4 HD4.out.2))
    have HGA := Lib.hid (fun k (hk : k ≤ M.length) => (show GoodA k (runA A0 (M.take k)) by rw [HA0E.out]; exact GoodA.run HA0.out M k hk))
    obtain ⟨rb, hrb⟩ : ∃ rb, rb = w3.heap.size := ⟨_, rfl⟩
    rw [← hrb] at HD5 ⊢
    have HRB := Lib.hid (show w1.heap.size ≤ rb by rw [hrb]; exact HDU.out.blw.size)
    clear hM hb4 hrb hb3s
    go_wp2_with fail
    go_loopw [11] (fun i wr => ∃ (k : Nat) (r : RC), k ≤ M.length ∧ i = .int .i64 k ∧ Duo w1 (fun g => g = rb) dd (runA A0 (M.take k)) r (runA A0 (M.take k)) wr ∧ wr.heap[rb]? = some (.cells (stC r (runA A0 (M.take k))) 52 (0, 0))) (fun i _ => M.length - (intOf i).toNat)
    case atStart => exact ⟨0, r, Nat.zero_le _, rfl, HD5.out.1, HD5.out.2⟩
    case round =>
      clear HD5 HD4 HDU HWB
      obtain ⟨k, rr, hkm, rfl, hd, hbx⟩ := hrel
      have hBw : Below w.heap.size w wr := HG.out.2.trans (hd.blw.mono HG.out.2.size)
      by_cases hlt : k < M.length
      · have hAk := HGA.out k hkm
        have hAk1 := HGA.out (k + 1) hlt
        have hsz := hMk M[k] (List.getElem_mem hlt)
        have hsn := runA_snoc A0 hlt
        obtain ⟨b, o, rfl, na, nb, qo, co, o0, o1, o2, o3, o4, o5, o6⟩ := hMi k hlt
        generalize M[k] = x at o0 o1 o2 o3 o4 o5 o6 hsz hsn
        obtain ⟨wh, ba, bb, bl⟩ := x
        simp only at o0 o1 o2 o3 o4 o5 o6 hsz hsn
        subst o4 o5
        rw [hsn] at hAk1
        have hAS := invS_run (M.take (k + 1)) A0 (by rw [HA0E.out]; exact HA0.out.inv) (by rw [HA0E.out]; exact HIS.out)
        rw [hsn] at hAS
        obtain ⟨A, hA⟩ : ∃ A, A = runA A0 (M.take k) := ⟨_, rfl⟩
        rw [← hA] at hd hbx hAk hAk1 hsn hAS
        obtain ⟨op, hop⟩ : ∃ op, op = opOf wh na.data.toList nb.data.toList bl := ⟨_, rfl⟩
        rw [← hop] at hAk1 hsn hAS
        have HSN := Lib.hid (And.intro hsn (And.intro hop (And.intro hAk1 hAS)))
        have HO6 := Lib.hid o6
        have HNA := Lib.hid (show na.size ≤ 140737488351232 by rw [size_list] at hsz; omega)
        have HDk := Lib.hid (And.intro hd (And.intro hbx (And.intro hAk hBw)))
        have v0 := cell_keep o0 hBw
        have v1 := cell_keep o1 hBw
        have v2 := cell_keep o2 hBw
        have v3 := cell_keep o3 hBw
        have hst := step_any wh na nb (.slice qo bl.length co) qo _ co rfl wr
        clear hA hsn hop hAk hAk1 hAS hBw hd hbx o0 o1 o2 o3
        go_wp2_with fail
        refine hst.mono ?_
        rintro e7 w7 ⟨rfl, hb7⟩
        clear hst
        obtain ⟨wo, hwo⟩ : ∃ x, x = w7.alloc (.cells #[.int .i64 (stepI wh), .string na, .string nb, .slice qo bl.length co] 57) := ⟨_, rfl⟩
        have hbo : Below wr.heap.size wr wo := by rw [hwo]; exact hb7.alloc hb7.size _
        have hobx : wo.heap[w7.heap.size]? = some (.cells #[.int .i64 (stepI wh), .string na, .string nb, .slice qo bl.length co] 57 (0, 0)) := by rw [hwo]; exact heap_alloc_new w7 _
        have hduo := HDk.out.1.add hbo (fun g => g = rb ∨ g = w7.heap.size) (fun g hg => hg.imp id fun e => ⟨by rw [e]; exact hb7.size, by rw [e]; exact lt_of_heap hobx⟩)
        have hrbx := Below.heap hbo HDk.out.2.1
        have hino := o6.below (HDk.out.2.2.2.trans (hbo.mono HDk.out.2.2.2.size))
        have hdo := do_duo hduo wh na nb bl qo _ co rfl hsz hino (HDk.out.2.2.1.fitP (by omega))
        rw [← HSN.out.2.1] at hdo
        obtain ⟨A', hA'⟩ : ∃ A', A' = (doP A op).1 := ⟨_, rfl⟩
        rw [← hA'] at hdo
        obtain ⟨b0, b1, b2, b3⟩ := op4v hobx
        rw [hwo] at b0 b1 b2 b3 hdo
        have HO := Lib.hid (And.intro hwo (And.intro hobx hrbx))
        have HA := Lib.hid hA'
        have HSZ := Lib.hid hsz
        clear hwo hbo hobx hduo hrbx hino hb7 o6 v0 v1 v2 v3 hA' hsz
        go_wp2_with fail
        refine hdo.mono ?_
        rw [← HO.out.1]
        rintro e8 w8 ⟨z8, rfl, _, hd8, hn8⟩
        clear hdo b0 b1 b2 b3
        have hrb8 := (hn8 rb (.inl rfl)).trans HO.out.2.2
        have hob8 := (hn8 _ (.inr rfl)).trans HO.out.2.1
        have hstep := refStep_duo hd8 wh na nb bl qo _ co rfl HSZ.out (HO6.out.below (HG.out.2.trans (hd8.blw.mono HG.out.2.size))) HDk.out.2.2.1.inv (HDk.out.2.2.1.fitP (by omega))
        rw [← HSN.out.2.1, ← HA.out] at hstep
        obtain ⟨z, hz⟩ : ∃ z, z = (doP A op).2 := ⟨_, rfl⟩
        rw [← hz] at hstep
        unfold stC at hstep hrb8
        obtain ⟨a0, a1, a2, a3, a4, a5, a6, a7, a8, af⟩ := st9v hrb8
        obtain ⟨b0, b1, b2, b3⟩ := op4v hob8
        have H8 := Lib.hid (And.intro hrb8 hob8)
        clear hrb8 hob8 hd8 hn8 hz af
        go_wp2_with fail
        refine hstep.mono ?_
        rintro e9 w9 ⟨r', rfl, hd9, hb9⟩
        clear hstep a0 a1 a2 a3 a4 a5 a6 a7 a8 b0 b1 b2 b3
        obtain ⟨wn, hwn⟩ : ∃ x, x = w9.alloc (.cells (stC r' A') 52) := ⟨_, rfl⟩
        have hbn : Below w9.heap.size w9 wn := by rw [hwn]; exact (Below.refl _ w9).alloc (Nat.le_refl _) _
        have hnbx : wn.heap[w9.heap.size]? = some (.cells (stC r' A') 52 (0, 0)) := by rw [hwn]; exact heap_alloc_new w9 _
        have hrb9 := Below.heap (hb9.trans (hbn.mono hb9.size)) H8.out.1
        have hdn := hd9.below hbn
        unfold stC at hwn hnbx
        obtain ⟨n0, n1, n2, n3, n4, n5, n6, n7, n8, nf⟩ := st9v hnbx
        obtain ⟨a0, a1, a2, a3, a4, a5, a6, a7, a8, af⟩ := st9v hrb9
        rw [hwn] at n0 n1 n2 n3 n4 n5 n6 n7 n8 a0 a1 a2 a3 a4 a5 a6 a7 a8 af
        have HN := Lib.hid (And.intro hwn (And.intro hrb9 hdn))
        clear hwn hbn hnbx hrb9 hd9 hb9 hdn nf
        go_wp2_with fail
        obtain ⟨wx, hwx⟩ : ∃ x, x = put9 wn rb (.slice r'.p1 A'.now.length r'.c1) (.slice r'.p2 A'.safe.length r'.c2) (.slice r'.p3 A'.pend.length r'.c3) (.slice r'.p4 A'.files.length r'.c4) (.slice r'.p5 A'.files.length r'.c5) (.int .i64 (A'.room : Int)) (.slice r'.p6 A'.fails.length r'.c6) (.int .i64 A'.power) (.int .i64 (A'.steps : Int)) := ⟨_, rfl⟩
        have hdx : Duo w1 (fun g => g = rb ∨ g = w7.heap.size) dd A' r' A' wx := by
          rw [hwx]
          exact HN.out.2.2.write HN.out.2.1 (.inl rfl) (by decide) (by decide) (fun z e => by cases e) (fun g hg => put9_heap g hg) put9_size (put9_below HN.out.2.2.blw HRB.out)
        have hrbx : wx.heap[rb]? = some (.cells (stC r' A') 52 (0, 0)) := by rw [hwx]; exact put9_same HN.out.2.1
        unfold put9 at hwx
        rw [HN.out.1] at hwx
        rw [← hwx]
        have hdx := hdx.less (N' := fun g => g = rb) fun g hg => .inl hg
        have hAk1 : GoodA (k + 1) A' := by rw [HA.out]; exact HSN.out.2.2.1
        have hAS : InvS A' := by rw [HA.out]; exact HSN.out.2.2.2
        have HREL := Lib.hid (show runA A0 (M.take (k + 1)) = A' from by rw [HSN.out.1, ← HA.out])
        have HT0 := Lib.hid (show TL w1 rb dd A' r' wx from ⟨hdx, hrbx⟩)
        have HBW := Lib.hid (HG.out.2.trans (hdx.blw.mono HG.out.2.size))
        have HKW := Lib.hid (fun W (h : TL w1 rb dd A' r' W) => hK.below (HG.out.2.trans (h.1.blw.mono HG.out.2.size)))
        have hfate := fun W (h : TL w1 rb dd A' r' W) => (show W.cell? ⟨w.heap.size + 1, 0, none⟩ = some (.int .i64 fn) ∧ W.cell? ⟨w.heap.size + 1, 1, none⟩ = some (.slice fp K.length fc) from by
          have k1 := (h.1.blw.block _ (lt_of_heap HG1.out)).trans HG1.out
          exact ⟨by rw [cell_of_row _ _ _ _ _ _ k1]; rfl, by rw [cell_of_row _ _ _ _ _ _ k1]; rfl⟩)
        obtain ⟨FL, hFL⟩ : ∃ FL, FL = leftP A' fn K := ⟨_, rfl⟩
        have hFLl : FL.length ≤ 140737488351232 := by rw [hFL]; have := (left_bounds hAk1 (by omega) fn K).1; omega
        have HLF := Lib.hid (fun W kp kc (h : TL w1 rb dd A' r' W) (hin : InV W kp (K.map (Value.int .i64))) => (show Calls Tryd.prog 19 #[.pointer (some ⟨dd, 0, none⟩), .agg #[.int .i64 fn, .slice kp K.length kc]] W fun e w' => ∃ p c, e = .returned (.slice p FL.length c) ∧ InFs w' p FL ∧ TL w1 rb dd A' r' w' ∧ Below W.heap.size W w' by rw [hFL]; exact h.left hAk1 (by omega) fn K kp _ kc rfl hin))
        have HRL := Lib.hid (fun W kp kc (h : TL w1 rb dd A' r' W) (hin : InV W kp (K.map (Value.int .i64))) => (show Calls Tryd.prog 28 #[.agg #[.slice r'.p1 A'.now.length r'.c1, .slice r'.p2 A'.safe.length r'.c2, .slice r'.p3 A'.pend.length r'.c3, .slice r'.p4 A'.files.length r'.c4, .slice r'.p5 A'.files.length r'.c5, .int .i64 (A'.room : Int), .slice r'.p6 A'.fails.length r'.c6, .int .i64 A'.power, .int .i64 (A'.steps : Int)], .agg #[.int .i64 fn, .slice kp K.length kc]] W fun e w' => ∃ p c, e = .returned (.slice p FL.length c) ∧ InFs w' p FL ∧ TL w1 rb dd A' r' w' ∧ Below W.heap.size W w' by rw [hFL]; exact h.rleft hAk1 hAS (by omega) fn K kp _ kc rfl (by omega) hin))
        have HCF := Lib.hid (fun W (h : TL w1 rb dd A' r' W) => h.copyFate fn K fp _ fc rfl (by omega) (HKW.out W h))
        have HSF := Lib.hid (fun W p q c d (h : TL w1 rb dd A' r' W) (h1 : InFs W p FL) (h2 : InFs W q FL) => h.sameFiles FL p q c d hFLl h1 h2)
        have HSS := Lib.hid (fun W (h : TL w1 rb dd A' r' W) => (show W.cell? ⟨rb, 0, none⟩ = some (.slice r'.p1 A'.now.length r'.c1) ∧ W.cell? ⟨rb, 1, none⟩ = some (.slice r'.p2 A'.safe.length r'.c2) ∧ W.cell? ⟨rb, 2, none⟩ = some (.slice r'.p3 A'.pend.length r'.c3) ∧ W.cell? ⟨rb, 3, none⟩ = some (.slice r'.p4 A'.files.length r'.c4) ∧ W.cell? ⟨rb, 4, none⟩ = some (.slice r'.p5 A'.files.length r'.c5) ∧ W.cell? ⟨rb, 5, none⟩ = some (.int .i64 (A'.room : Int)) ∧ W.cell? ⟨rb, 6, none⟩ = some (.slice r'.p6 A'.fails.length r'.c6) ∧ W.cell? ⟨rb, 7, none⟩ = some (.int .i64 A'.power) ∧ W.cell? ⟨rb, 8, none⟩ = some (.int .i64 (A'.steps : Int)) ∧ W.cell? ⟨w.heap.size + 1, 0, none⟩ = some (.int .i64 fn) ∧ W.cell? ⟨w.heap.size + 1, 1, none⟩ = some (.slice fp K.length fc) from by
          obtain ⟨g0, g1, g2, g3, g4, g5, g6, g7, g8⟩ := h.cells
          exact ⟨g0, g1, g2, g3, g4, g5, g6, g7, g8, hfate W h⟩))
        have HT := Lib.hid (show TL w1 rb dd A' r' (World.drew wx) from HT0.out.below (Below.refl _ _).drew)
        clear hdx hrbx hAk1 hAS hwx hfate hFL hFLl n0 n1 n2 n3 n4 n5 n6 n7 n8 a0 a1 a2 a3 a4 a5 a6 a7 a8 af
        by_cases h4 : k % 4 = 0
        · have hr4 : ((k : Int).tmod 4 == 0) = true := by
            rw [beq_iff_eq, Int.tmod_eq_emod_of_nonneg (by omega)]
            omega
          go_region_held3 (fun W => W.cell? ⟨rb, 0, none⟩ = some (.slice r'.p1 A'.now.length r'.c1) ∧ W.cell? ⟨rb, 1, none⟩ = some (.slice r'.p2 A'.safe.length r'.c2) ∧ W.cell? ⟨rb, 2, none⟩ = some (.slice r'.p3 A'.pend.length r'.c3) ∧ W.cell? ⟨rb, 3, none⟩ = some (.slice r'.p4 A'.files.length r'.c4) ∧ W.cell? ⟨rb, 4, none⟩ = some (.slice r'.p5 A'.files.length r'.c5) ∧ W.cell? ⟨rb, 5, none⟩ = some (.int .i64 (A'.room : Int)) ∧ W.cell? ⟨rb, 6, none⟩ = some (.slice r'.p6 A'.fails.length r'.c6) ∧ W.cell? ⟨rb, 7, none⟩ = some (.int .i64 A'.power) ∧ W.cell? ⟨rb, 8, none⟩ = some (.int .i64 (A'.steps : Int)) ∧ W.cell? ⟨w.heap.size + 1, 0, none⟩ = some (.int .i64 fn) ∧ W.cell? ⟨w.heap.size + 1, 1, none⟩ = some (.slice fp K.length fc))
            (first | (with_reducible exact HSS.out _ HT.out))
            (first
              | (go_at_call 20; with_reducible refine (HCF.out _ HT.out).mono ?_; rintro e10 w10 ⟨p3, c3, rfl, hin3, hk, hb⟩; have HT := Lib.hid hk; have HI3 := Lib.hid hin3; (try have HF2 := Lib.hid (HF2.out.below hb)); clear hk hb hin3)
              | (go_at_call 19; with_reducible refine (HLF.out _ _ _ HT.out HI3.out).mono ?_; rintro e10 w10 ⟨p1, c1, rfl, hin, hk, hb⟩; have HT := Lib.hid hk; have HF1 := Lib.hid hin; (try have HF2 := Lib.hid (HF2.out.below hb)); clear hk hb hin)
              | (go_at_call 28; with_reducible refine (HRL.out _ _ _ HT.out (HKW.out _ HT.out)).mono ?_; rintro e10 w10 ⟨p2, c2, rfl, hin, hk, hb⟩; have HT := Lib.hid hk; have HF2 := Lib.hid hin; (try have HF1 := Lib.hid (HF1.out.below hb)); (try have HI3 := Lib.hid (HI3.out.below hb)); clear hk hb hin)
              | (go_at_call 27; with_reducible refine (HSF.out _ _ _ _ _ HT.out HF1.out HF2.out).mono ?_; rintro e10 w10 ⟨rfl, hk, _⟩; have HT := Lib.hid hk; clear hk))
          all_goals
            go_wp2_with fail
            go_roundw
            case rel => exact ⟨k + 1, r', by omega, by go_num, by rw [HREL.out]; exact HT.out.1, by rw [HREL.out]; exact HT.out.2⟩
            case measure => simp [intOf]; omega
        · have h4' : k % 4 = 1 ∨ k % 4 = 2 ∨ k % 4 = 3 := by omega
          have ht : (k : Int).tmod 4 = 1 ∨ (k : Int).tmod 4 = 2 ∨ (k : Int).tmod 4 = 3 := by
            rw [Int.tmod_eq_emod_of_nonneg (by omega)]
            omega
          clear h4 h4'
          rcases ht with hr4 | hr4 | hr4
          all_goals
            go_quiet (fail)
            have HT := Lib.hid (HT0.out.below (bdrewN (Below.refl wx.heap.size wx) nq))
            go_wp2_with fail
            go_roundw
            case rel => exact ⟨k + 1, r', by omega, by go_num, by rw [HREL.out]; exact HT.out.1, by rw [HREL.out]; exact HT.out.2⟩
            case measure => simp [intOf]; omega
      · obtain rfl : k = M.length := by omega
        have hAk1 := HGA.out M.length hkm
        have hAS := invS_run (M.take M.length) A0 (by rw [HA0E.out]; exact HA0.out.inv) (by rw [HA0E.out]; exact HIS.out)
        obtain ⟨A', hA'⟩ : ∃ A', A' = runA A0 (M.take M.length) := ⟨_, rfl⟩
        rw [← hA'] at hd hbx hAk1 hAS
        have hdx := hd
        have hrbx := hbx
        have HT0 := Lib.hid (show TL w1 rb dd A' rr wr from ⟨hdx, hrbx⟩)
        have HBW := Lib.hid (HG.out.2.trans (hdx.blw.mono HG.out.2.size))
        have HKW := Lib.hid (fun W (h : TL w1 rb dd A' rr W) => hK.below (HG.out.2.trans (h.1.blw.mono HG.out.2.size)))
        have hfate := fun W (h : TL w1 rb dd A' rr W) => (show W.cell? ⟨w.heap.size + 1, 0, none⟩ = some (.int .i64 fn) ∧ W.cell? ⟨w.heap.size + 1, 1, none⟩ = some (.slice fp K.length fc) from by
          have k1 := (h.1.blw.block _ (lt_of_heap HG1.out)).trans HG1.out
          exact ⟨by rw [cell_of_row _ _ _ _ _ _ k1]; rfl, by rw [cell_of_row _ _ _ _ _ _ k1]; rfl⟩)
        obtain ⟨FL, hFL⟩ : ∃ FL, FL = leftP A' fn K := ⟨_, rfl⟩
        have hFLl : FL.length ≤ 140737488351232 := by rw [hFL]; have := (left_bounds hAk1 (by omega) fn K).1; omega
        have HLF := Lib.hid (fun W kp kc (h : TL w1 rb dd A' rr W) (hin : InV W kp (K.map (Value.int .i64))) => (show Calls Tryd.prog 19 #[.pointer (some ⟨dd, 0, none⟩), .agg #[.int .i64 fn, .slice kp K.length kc]] W fun e w' => ∃ p c, e = .returned (.slice p FL.length c) ∧ InFs w' p FL ∧ TL w1 rb dd A' rr w' ∧ Below W.heap.size W w' by rw [hFL]; exact h.left hAk1 (by omega) fn K kp _ kc rfl hin))
        have HRL := Lib.hid (fun W kp kc (h : TL w1 rb dd A' rr W) (hin : InV W kp (K.map (Value.int .i64))) => (show Calls Tryd.prog 28 #[.agg #[.slice rr.p1 A'.now.length rr.c1, .slice rr.p2 A'.safe.length rr.c2, .slice rr.p3 A'.pend.length rr.c3, .slice rr.p4 A'.files.length rr.c4, .slice rr.p5 A'.files.length rr.c5, .int .i64 (A'.room : Int), .slice rr.p6 A'.fails.length rr.c6, .int .i64 A'.power, .int .i64 (A'.steps : Int)], .agg #[.int .i64 fn, .slice kp K.length kc]] W fun e w' => ∃ p c, e = .returned (.slice p FL.length c) ∧ InFs w' p FL ∧ TL w1 rb dd A' rr w' ∧ Below W.heap.size W w' by rw [hFL]; exact h.rleft hAk1 hAS (by omega) fn K kp _ kc rfl (by omega) hin))
        have HCF := Lib.hid (fun W (h : TL w1 rb dd A' rr W) => h.copyFate fn K fp _ fc rfl (by omega) (HKW.out W h))
        have HSF := Lib.hid (fun W p q c d (h : TL w1 rb dd A' rr W) (h1 : InFs W p FL) (h2 : InFs W q FL) => h.sameFiles FL p q c d hFLl h1 h2)
        have HSS := Lib.hid (fun W (h : TL w1 rb dd A' rr W) => (show W.cell? ⟨rb, 0, none⟩ = some (.slice rr.p1 A'.now.length rr.c1) ∧ W.cell? ⟨rb, 1, none⟩ = some (.slice rr.p2 A'.safe.length rr.c2) ∧ W.cell? ⟨rb, 2, none⟩ = some (.slice rr.p3 A'.pend.length rr.c3) ∧ W.cell? ⟨rb, 3, none⟩ = some (.slice rr.p4 A'.files.length rr.c4) ∧ W.cell? ⟨rb, 4, none⟩ = some (.slice rr.p5 A'.files.length rr.c5) ∧ W.cell? ⟨rb, 5, none⟩ = some (.int .i64 (A'.room : Int)) ∧ W.cell? ⟨rb, 6, none⟩ = some (.slice rr.p6 A'.fails.length rr.c6) ∧ W.cell? ⟨rb, 7, none⟩ = some (.int .i64 A'.power) ∧ W.cell? ⟨rb, 8, none⟩ = some (.int .i64 (A'.steps : Int)) ∧ W.cell? ⟨w.heap.size + 1, 0, none⟩ = some (.int .i64 fn) ∧ W.cell? ⟨w.heap.size + 1, 1, none⟩ = some (.slice fp K.length fc) from by
          obtain ⟨g0, g1, g2, g3, g4, g5, g6, g7, g8⟩ := h.cells
          exact ⟨g0, g1, g2, g3, g4, g5, g6, g7, g8, hfate W h⟩))
        have HT := Lib.hid (show TL w1 rb dd A' rr (World.drew wr) from HT0.out.below (Below.refl _ _).drew)
        obtain ⟨F0, hF0⟩ : ∃ F0, F0 = leftP A' 0 [] := ⟨_, rfl⟩
        have hF0l : F0.length ≤ 140737488351232 := by rw [hF0]; have := (left_bounds hAk1 (by omega) 0 []).1; omega
        have HLF0 := Lib.hid (fun W (h : TL w1 rb dd A' rr W) => (show Calls Tryd.prog 19 #[.pointer (some ⟨dd, 0, none⟩), .agg #[.int .i64 0, .slice none 0 0]] W fun e w' => ∃ p c, e = .returned (.slice p F0.length c) ∧ InFs w' p F0 ∧ TL w1 rb dd A' rr w' ∧ Below W.heap.size W w' by rw [hF0]; exact h.left hAk1 (by omega) 0 [] none 0 0 rfl (fun h => absurd h (by simp))))
        have HRL0 := Lib.hid (fun W (h : TL w1 rb dd A' rr W) => (show Calls Tryd.prog 28 #[.agg #[.slice rr.p1 A'.now.length rr.c1, .slice rr.p2 A'.safe.length rr.c2, .slice rr.p3 A'.pend.length rr.c3, .slice rr.p4 A'.files.length rr.c4, .slice rr.p5 A'.files.length rr.c5, .int .i64 (A'.room : Int), .slice rr.p6 A'.fails.length rr.c6, .int .i64 A'.power, .int .i64 (A'.steps : Int)], .agg #[.int .i64 0, .slice none 0 0]] W fun e w' => ∃ p c, e = .returned (.slice p F0.length c) ∧ InFs w' p F0 ∧ TL w1 rb dd A' rr w' ∧ Below W.heap.size W w' by rw [hF0]; exact h.rleft hAk1 hAS (by omega) 0 [] none 0 0 rfl (by omega) (fun h => absurd h (by simp))))
        have HSF0 := Lib.hid (fun W p q c d (h : TL w1 rb dd A' rr W) (h1 : InFs W p F0) (h2 : InFs W q F0) => h.sameFiles F0 p q c d hF0l h1 h2)
        obtain ⟨Ls, hLs⟩ : ∃ Ls, Ls = listP A' := ⟨_, rfl⟩
        have hLsl : Ls.length ≤ 4000000000000 := by rw [hLs]; exact listP_len hAk1 (by omega)
        have HLI := Lib.hid (fun W (h : TL w1 rb dd A' rr W) => (show Calls Tryd.prog 30 #[.pointer (some ⟨dd, 0, none⟩)] W fun e w' => ∃ p c, e = .returned (.slice p Ls.length c) ∧ InS w' p Ls ∧ TL w1 rb dd A' rr w' ∧ Below W.heap.size W w' by rw [hLs]; exact h.list hAk1 (by omega)))
        have HRLI := Lib.hid (fun W (h : TL w1 rb dd A' rr W) => (show Calls Tryd.prog 31 #[.agg #[.slice rr.p1 A'.now.length rr.c1, .slice rr.p2 A'.safe.length rr.c2, .slice rr.p3 A'.pend.length rr.c3, .slice rr.p4 A'.files.length rr.c4, .slice rr.p5 A'.files.length rr.c5, .int .i64 (A'.room : Int), .slice rr.p6 A'.fails.length rr.c6, .int .i64 A'.power, .int .i64 (A'.steps : Int)]] W fun e w' => ∃ p c, e = .returned (.slice p Ls.length c) ∧ InS w' p Ls ∧ TL w1 rb dd A' rr w' ∧ Below W.heap.size W w' by rw [hLs]; exact h.rlist hAk1 (by omega)))
        have HSX := Lib.hid (fun W p q c d (h : TL w1 rb dd A' rr W) (h1 : InS W p Ls) (h2 : InS W q Ls) => h.sameTexts Ls p q c d hLsl h1 h2)
        have HEND := Lib.hid (fun W (h : TL w1 rb dd A' rr W) => (show Below w.heap.size w W from HG.out.2.trans (h.1.blw.mono HG.out.2.size)))
        clear hd hbx hdx hrbx hAk1 hAS hA' hfate hFL hFLl hF0 hF0l hLs hLsl
        go_wp2_with fail
        go_region_held3 (fun W => W.cell? ⟨rb, 0, none⟩ = some (.slice rr.p1 A'.now.length rr.c1) ∧ W.cell? ⟨rb, 1, none⟩ = some (.slice rr.p2 A'.safe.length rr.c2) ∧ W.cell? ⟨rb, 2, none⟩ = some (.slice rr.p3 A'.pend.length rr.c3) ∧ W.cell? ⟨rb, 3, none⟩ = some (.slice rr.p4 A'.files.length rr.c4) ∧ W.cell? ⟨rb, 4, none⟩ = some (.slice rr.p5 A'.files.length rr.c5) ∧ W.cell? ⟨rb, 5, none⟩ = some (.int .i64 (A'.room : Int)) ∧ W.cell? ⟨rb, 6, none⟩ = some (.slice rr.p6 A'.fails.length rr.c6) ∧ W.cell? ⟨rb, 7, none⟩ = some (.int .i64 A'.power) ∧ W.cell? ⟨rb, 8, none⟩ = some (.int .i64 (A'.steps : Int)) ∧ W.cell? ⟨w.heap.size + 1, 0, none⟩ = some (.int .i64 fn) ∧ W.cell? ⟨w.heap.size + 1, 1, none⟩ = some (.slice fp K.length fc))
          (first | (with_reducible exact HSS.out _ HT.out))
          (first
            | (go_at_call 20; with_reducible refine (HCF.out _ HT.out).mono ?_; rintro e10 w10 ⟨p3, c3, rfl, hin3, hk, hb⟩; have HT := Lib.hid hk; have HI3 := Lib.hid hin3; (try have HF2 := Lib.hid (HF2.out.below hb)); clear hk hb hin3)
            | (go_at_call 19; with_reducible refine (HLF.out _ _ _ HT.out HI3.out).mono ?_; rintro e10 w10 ⟨p1, c1, rfl, hin, hk, hb⟩; have HT := Lib.hid hk; have HF1 := Lib.hid hin; (try have HF2 := Lib.hid (HF2.out.below hb)); clear hk hb hin)
            | (go_at_call 28; with_reducible refine (HRL.out _ _ _ HT.out (HKW.out _ HT.out)).mono ?_; rintro e10 w10 ⟨p2, c2, rfl, hin, hk, hb⟩; have HT := Lib.hid hk; have HF2 := Lib.hid hin; (try have HF1 := Lib.hid (HF1.out.below hb)); (try have HI3 := Lib.hid (HI3.out.below hb)); clear hk hb hin)
            | (go_at_call 27; with_reducible refine (HSF.out _ _ _ _ _ HT.out HF1.out HF2.out).mono ?_; rintro e10 w10 ⟨rfl, hk, _⟩; have HT := Lib.hid hk; clear hk)
            | (go_at_call 19; with_reducible refine (HLF0.out _ HT.out).mono ?_; rintro e10 w10 ⟨p1, c1, rfl, hin, hk, hb⟩; have HT := Lib.hid hk; have HF1 := Lib.hid hin; (try have HF2 := Lib.hid (HF2.out.below hb)); clear hk hb hin)
            | (go_at_call 28; with_reducible refine (HRL0.out _ HT.out).mono ?_; rintro e10 w10 ⟨p2, c2, rfl, hin, hk, hb⟩; have HT := Lib.hid hk; have HF2 := Lib.hid hin; (try have HF1 := Lib.hid (HF1.out.below hb)); clear hk hb hin)
            | (go_at_call 27; with_reducible refine (HSF0.out _ _ _ _ _ HT.out HF1.out HF2.out).mono ?_; rintro e10 w10 ⟨rfl, hk, _⟩; have HT := Lib.hid hk; clear hk)
            | (go_at_call 30; with_reducible refine (HLI.out _ HT.out).mono ?_; rintro e10 w10 ⟨p5, c5, rfl, hin, hk, hb⟩; have HT := Lib.hid hk; have HL1 := Lib.hid hin; (try have HL2 := Lib.hid (HL2.out.below hb)); clear hk hin hb)
            | (go_at_call 31; with_reducible refine (HRLI.out _ HT.out).mono ?_; rintro e10 w10 ⟨p6, c6, rfl, hin, hk, hb⟩; have HT := Lib.hid hk; have HL2 := Lib.hid hin; (try have HL1 := Lib.hid (HL1.out.below hb)); clear hk hin hb)
            | (go_at_call 29; with_reducible refine (HSX.out _ _ _ _ _ HT.out HL1.out HL2.out).mono ?_; rintro e10 w10 ⟨rfl, hk, _⟩; have HT := Lib.hid hk; clear hk))
        all_goals
          go_wp2_with fail
          go_ret
          exact ⟨rfl, HEND.out _ HT.out⟩
end Go.Proofs.YtnhfnfdmpcpcoaaDoor
