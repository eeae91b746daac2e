/-
  DiskAgain: what is left of a loss of power makes a disk of just these files.
-/
import Derived.Test.YtnhfnfdmpcpcoaaDoorM9e
namespace Go.Proofs.YtnhfnfdmpcpcoaaDoor
open Go.RowKit Go.Maps

set_option maxRecDepth 100000 in
set_option maxHeartbeats 16000000 in
theorem diskAgain_walk (p : Option Addr) (F : List FT) (c : Nat) (room : Int) (q : Option Addr) (Z : List Int) (e : Nat) (power : Int) (ps : Option Addr) (L : List OpT) (cs : Nat) (fn : Int) (fp : Option Addr) (K : List Int) (fc : Nat) (on : Int) (op : Option Addr) (K2 : List Int) (oc : Nat) (w : World)
    (hF : InFs w p F) (hZ : InV w q (Z.map (Value.int .i64))) (hk : bulkFs F + Z.length ≤ 1048576) (hL : InOps w ps L) (hkL : bulkOps L ≤ 1048576) (hLc : L.length ≤ cs) (hK : InV w fp (K.map (Value.int .i64))) (hkK : K.length ≤ 1048576) (hK2 : InV w op (K2.map (Value.int .i64))) (hkK2 : K2.length ≤ 1048576) :
    Calls Tryd.prog 6 #[.agg #[.slice p F.length c, .int .i64 room, .slice q Z.length e, .int .i64 power], .slice ps L.length cs, .agg #[.int .i64 fn, .slice fp K.length fc], .agg #[.int .i64 on, .slice op K2.length oc]] w fun e w' => e = .returned (.bool true) ∧ Below w.heap.size w w' := by
  have hFl := bulkFs_length F
  have hFn : ∀ f ∈ F, f.1.length ≤ 140737488351232 ∧ f.2.length ≤ 140737488351232 := fun f hf => by have := bulkFs_mem F f hf; omega
  go_enter Tryd.func6, Tryd.ntmps6
  go_wp2_with fail
  refine (alive9_any _).mono ?_
  rintro e w1 ⟨rfl, hb1⟩
  have hb0 : Below w.heap.size w (((w.alloc (.cells #[.slice p F.length c, .int .i64 room, .slice q Z.length e, .int .i64 power] 25)).alloc (.cells #[.int .i64 fn, .slice fp K.length fc] 29)).alloc (.cells #[.int .i64 on, .slice op K2.length oc] 29)) := (((Below.refl _ w).alloc (Nat.le_refl _) _).alloc (by simp) _).alloc (by simp; omega) _
  have g0 : w1.heap[w.heap.size]? = some (.cells #[.slice p F.length c, .int .i64 room, .slice q Z.length e, .int .i64 power] 25 (0, 0)) :=
    (hb1.block _ (by simp; omega)).trans ((heap_alloc_old _ _ (by simp; omega)).trans ((heap_alloc_old _ _ (by simp)).trans (heap_alloc_new w _)))
  have g1 : w1.heap[w.heap.size + 1]? = some (.cells #[.int .i64 fn, .slice fp K.length fc] 29 (0, 0)) := by
    have := heap_alloc_new (w.alloc (.cells #[.slice p F.length c, .int .i64 room, .slice q Z.length e, .int .i64 power] 25)) (.cells #[.int .i64 fn, .slice fp K.length fc] 29)
    rw [World.size_alloc] at this
    exact (hb1.block _ (by simp)).trans ((heap_alloc_old _ _ (by simp)).trans this)
  have g2 : w1.heap[w.heap.size + 2]? = some (.cells #[.int .i64 on, .slice op K2.length oc] 29 (0, 0)) := by
    have := heap_alloc_new ((w.alloc (.cells #[.slice p F.length c, .int .i64 room, .slice q Z.length e, .int .i64 power] 25)).alloc (.cells #[.int .i64 fn, .slice fp K.length fc] 29)) (.cells #[.int .i64 on, .slice op K2.length oc] 29)
    rw [World.size_alloc, World.size_alloc] at this
    exact (hb1.block _ (by simp)).trans this
  have hB1 : Below w.heap.size w w1 := hb0.trans (hb1.mono (by simp; omega))
  clear hb0 hb1
  have a0 : w1.cell? ⟨w.heap.size, 0, none⟩ = some (.slice p F.length c) := by rw [cell_of_row _ _ _ _ _ _ g0]; rfl
  have a1 : w1.cell? ⟨w.heap.size, 1, none⟩ = some (.int .i64 room) := by rw [cell_of_row _ _ _ _ _ _ g0]; rfl
  have a2 : w1.cell? ⟨w.heap.size, 2, none⟩ = some (.slice q Z.length e) := by rw [cell_of_row _ _ _ _ _ _ g0]; rfl
  have a3 : w1.cell? ⟨w.heap.size, 3, none⟩ = some (.int .i64 power) := by rw [cell_of_row _ _ _ _ _ _ g0]; rfl
  have hbeg := begin_c F p _ c rfl room Z q _ e rfl power w1 (hF.below hB1) (hZ.below hB1) (by omega) hFn (by omega)
  have HG := Lib.hid (And.intro g0 (And.intro g1 (And.intro g2 hB1)))
  clear g0 g1 g2 hB1
  go_wp2_with fail
  refine hbeg.mono ?_
  rintro e2 w2 ⟨⟨hne, rfl⟩ | ⟨hE, dd, P, rfl, hd, hP⟩, hb2⟩
  · obtain ⟨z, hz⟩ : ∃ z, z = newE F room := ⟨_, rfl⟩
    rw [← hz] at hne ⊢
    have q1 : (z == 0) = false := beq_eq_false_iff_ne.2 hne
    have q2 : (z != 0) = true := by simp [bne, q1]
    have HB := Lib.hid (HG.out.2.2.2.trans (hb2.mono HG.out.2.2.2.size))
    clear hbeg hne hb2 hz
    go_wp2_with fail
    go_ret
    exact ⟨rfl, HB.out⟩
  clear hbeg
  have hD0 : DP w1 dd (newP F room Z power) w2 := ⟨P, hd, hP, hb2⟩
  have hA0 := GoodA.new power hE hk
  have HD0 := Lib.hid (And.intro hD0 (And.intro hA0 (newE_zero hE)))
  clear hd hP hE hD0 hA0 hb2
  have hcut := cut_any L ps _ cs rfl hLc w2
  go_wp2_with fail
  refine hcut.mono ?_
  rintro e3 w3 ⟨c3, rfl, hb3⟩
  clear hcut
  obtain ⟨M, hM⟩ : ∃ M, M = L.take 300 := ⟨_, rfl⟩
  rw [← hM]
  have hMl : M.length ≤ 300 := by rw [hM, List.length_take]; omega
  have hMk : ∀ x ∈ M, x.2.1.length + x.2.2.1.length + x.2.2.2.length ≤ 1048576 := fun x hx => Nat.le_trans (bulkOps_mem L x (by rw [hM] at hx; exact List.mem_of_mem_take hx)) hkL
  have hMi : InOps w ps M := by rw [hM]; exact hL.take 300
  have HD1 := Lib.hid (HD0.out.1.below hb3)
  clear hM hb3
  go_wp2_with fail
  go_loopw [11] (fun i wr => ∃ k : Nat, k ≤ M.length ∧ i = .int .i64 k ∧ DP w1 dd (runA (newP F room Z power) (M.take k)) wr) (fun i _ => M.length - (intOf i).toNat)
  case atStart => exact ⟨0, Nat.zero_le _, rfl, HD1.out⟩
  case round =>
    obtain ⟨k, hkm, rfl, hd⟩ := hrel
    have HDk := Lib.hid hd
    have hBr : Below w.heap.size w wr := HG.out.2.2.2.trans (hd.choose_spec.2.2.mono HG.out.2.2.2.size)
    clear hd
    by_cases hlt : k < M.length
    · obtain ⟨b, o, rfl, na, nb, qo, co, o0, o1, o2, o3, o4, o5, o6⟩ := (hMi.below hBr) k hlt
      have hgk := (GoodA.run HD0.out.2.1 M k hkm).fitP (by omega)
      have hsz := hMk M[k] (List.getElem_mem hlt)
      have hsn := runA_snoc (newP F room Z power) hlt
      generalize M[k] = x at o0 o1 o2 o3 o4 o5 o6 hsz hsn
      obtain ⟨wh, ba, bb, bl⟩ := x
      simp only at o0 o1 o2 o3 o4 o5 o6 hsz hsn
      subst o4 o5
      have hst := fun W => step_any wh na nb (.slice qo bl.length co) qo _ co rfl W
      have HDO := Lib.hid (fun W (hb : Below wr.heap.size wr W) => do_dp (HDk.out.below hb) wh na nb bl qo _ co rfl hsz (o6.below hb) hgk)
      have HSN := Lib.hid hsn
      clear hsn hgk o6 hsz hBr
      go_wp2_with fail
      refine (hst _).mono ?_
      rintro e4 w4 ⟨rfl, hb4⟩
      clear hst
      have hdo := HDO.out w4 hb4
      go_wp2_with fail
      refine hdo.mono ?_
      rintro e5 w5 ⟨z, rfl, _, hd5⟩
      rw [← HSN.out] at hd5
      have HD5 := Lib.hid hd5
      clear hdo hd5 hb4
      go_wp2_with fail
      go_roundw
      case rel => exact ⟨k + 1, by omega, by go_num, HD5.out⟩
      case measure => simp [intOf]; omega
    · obtain rfl : k = M.length := by omega
      have hAk := GoodA.run HD0.out.2.1 M M.length (Nat.le_refl _)
      rw [List.take_length] at HDk hAk
      obtain ⟨A, hA⟩ : ∃ A, A = runA (newP F room Z power) M := ⟨_, rfl⟩
      rw [← hA] at HDk hAk
      clear hA
      have hAr := HD0.out.2.2
      have hbk := HDk.out.choose_spec.2.2
      obtain ⟨g0, g1, g2, hB1⟩ := HG.out
      have hBr : Below w.heap.size w wr := hB1.trans (hbk.mono hB1.size)
      have k0 := (hbk.block _ (lt_of_heap g0)).trans g0
      have k1 := (hbk.block _ (lt_of_heap g1)).trans g1
      have k2 := (hbk.block _ (lt_of_heap g2)).trans g2
      have b0 : wr.cell? ⟨w.heap.size + 1, 0, none⟩ = some (.int .i64 fn) := by rw [cell_of_row _ _ _ _ _ _ k1]; rfl
      have b1 : wr.cell? ⟨w.heap.size + 1, 1, none⟩ = some (.slice fp K.length fc) := by rw [cell_of_row _ _ _ _ _ _ k1]; rfl
      have hcf := copyFate_any fn K fp _ fc rfl (by omega) wr (hK.below hBr)
      have HKB := Lib.hid (And.intro k0 (And.intro k1 (And.intro k2 hBr)))
      clear hbk g0 g1 g2 hB1 hBr k0 k1 k2
      go_wp2_with fail
      refine hcf.mono ?_
      rintro e4 w4 ⟨p4, c4, rfl, hin4, _, hb4⟩
      clear hcf
      have hlf := left_dp (HDk.out.below hb4) hAk (by omega) fn K p4 _ c4 rfl hin4
      have hTb := left_bounds hAk (by omega) fn K
      have hTo := left_ok hAk.inv fn K
      obtain ⟨T, hT⟩ : ∃ T, T = leftP A fn K := ⟨_, rfl⟩
      rw [← hT] at hlf hTb hTo
      have HB4 := Lib.hid hb4
      clear hT hin4 hb4
      go_wp2_with fail
      refine hlf.mono ?_
      rintro e5 w5 ⟨p5, c5, rfl, _, hin5, hb5⟩
      clear hlf
      have hb45 : Below wr.heap.size wr w5 := HB4.out.trans (hb5.mono HB4.out.size)
      have hcp := copyFiles_any T p5 _ c5 rfl (by omega) (fun f hf => (hTb.2 f hf).2) w5 hin5
      have k05 := (hb45.block _ (lt_of_heap HKB.out.1)).trans HKB.out.1
      have a1 : w5.cell? ⟨w.heap.size, 1, none⟩ = some (.int .i64 room) := by rw [cell_of_row _ _ _ _ _ _ k05]; rfl
      have HB5 := Lib.hid (And.intro hb45 hin5)
      clear hb45 hb5 hin5 k05
      have hE2 : newE T room = 0 := by
        unfold newE
        rw [if_neg (by omega), if_pos hTo]
      obtain ⟨S, hS⟩ : ∃ S : World → Prop, S = fun W => W.cell? ⟨w.heap.size, 1, none⟩ = some (.int .i64 room) := ⟨_, rfl⟩
      have HSS := Lib.hid (fun W => show S W ↔ W.cell? ⟨w.heap.size, 1, none⟩ = some (.int .i64 room) by rw [hS])
      have step : ∀ W, Below w5.heap.size w5 W → S W := fun W hb => by rw [hS]; exact cell_keep a1 hb
      have HK0 := Lib.hid (step w5.drew (Below.refl _ w5).drew)
      have HCP := Lib.hid (show Calls Tryd.prog 35 #[.slice p5 T.length c5] w5.drew fun e w' => ∃ p6 c6, e = .returned (.slice p6 T.length c6) ∧ S w' ∧ Calls Tryd.prog 34 #[.slice p6 T.length c6, .int .i64 room, .slice none 0 0, .int .i64 (-1)] w' fun e w7 => ∃ d2, e = .returned (.tuple #[.pointer (some ⟨d2, 0, none⟩), .int .i64 0]) ∧ DP w5 d2 (newP T room [] (-1)) w7 ∧ S w7 from
        (copyFiles_any T p5 _ c5 rfl (by omega) (fun f hf => (hTb.2 f hf).2) w5.drew (HB5.out.2.below (Below.refl _ w5).drew)).mono fun _ w6 ⟨v, h1, h2, h3⟩ => by
          obtain ⟨p6, c6, rfl, _, _, hin6, _⟩ := h2.shape rfl
          have hb6 : Below w5.heap.size w5 w6 := ((Below.refl _ w5).drew).trans h3
          refine ⟨p6, c6, h1, step _ hb6, (new_p T p6 _ c6 rfl room [] none 0 0 rfl (-1) w6 hin6 (fun h => absurd h (by simp)) (by omega) hTb.2 (by simp)).mono ?_⟩
          rintro e8 w7 ⟨⟨h0, _⟩ | ⟨_, d2, P2, rfl, hd2, hP2⟩, hb7⟩
          · exact absurd hE2 h0
          · exact ⟨d2, rfl, ⟨P2, hd2, fun g hg => Nat.le_trans hb6.size (hP2 g hg), hb6.trans (hb7.mono hb6.size)⟩, step _ (hb6.trans (hb7.mono hb6.size))⟩)
      have HTB := Lib.hid (And.intro hTb hTo)
      clear hS step hcp hTb hTo hE2 a1
      go_wp2_with fail
      go_region_held3 (fun W => W.cell? ⟨w.heap.size, 1, none⟩ = some (.int .i64 room))
        (first | (with_reducible exact (HSS.out _).1 HK0.out) | (with_reducible exact (HSS.out _).1 HK1.out) | (with_reducible exact (HSS.out _).1 HK2.out))
        (first
          | (go_at_call 35; with_reducible refine HCP.out.mono ?_; rintro e6 w6 ⟨p6, c6, rfl, hk1, hcn⟩; have HK1 := Lib.hid hk1; have HCN := Lib.hid hcn; clear hk1 hcn)
          | (go_at_call 34; with_reducible refine HCN.out.mono ?_; rintro e7 w7 ⟨d2, rfl, hd2, hk2⟩; have HK2 := Lib.hid hk2; have HD2 := Lib.hid hd2; clear hk2 hd2))
      all_goals
        have hb7 := HD2.out.choose_spec.2.2
        have k27 := (hb7.block _ (Nat.lt_of_lt_of_le (lt_of_heap HKB.out.2.2.1) HB5.out.1.size)).trans ((HB5.out.1.block _ (lt_of_heap HKB.out.2.2.1)).trans HKB.out.2.2.1)
        have b0 : w7.cell? ⟨w.heap.size + 2, 0, none⟩ = some (.int .i64 on) := by rw [cell_of_row _ _ _ _ _ _ k27]; rfl
        have b1 : w7.cell? ⟨w.heap.size + 2, 1, none⟩ = some (.slice op K2.length oc) := by rw [cell_of_row _ _ _ _ _ _ k27]; rfl
        have HB7 := Lib.hid hb7
        clear hb7 k27
        obtain ⟨hTb, hTo⟩ := HTB.out
        have hBw7 : Below w.heap.size w w7 := HKB.out.2.2.2.trans ((HB5.out.1.trans (HB7.out.mono HB5.out.1.size)).mono HKB.out.2.2.2.size)
        have hcf := copyFate_any on K2 op _ oc rfl (by omega) w7 (hK2.below hBw7)
        go_wp2_with fail
        refine hcf.mono ?_
        rintro e8 w8 ⟨p8, c8, rfl, hin8, _, hb8⟩
        clear hcf
        obtain ⟨P8, hd8, hP8, hb58⟩ := HD2.out.below hb8
        have hlf := left_p hd8 on K2 p8 c8 hin8 (inv_new hTo _ _ _) (Nat.zero_le _) (by show (numF 0 T).length ≤ _; rw [numF_length]; omega) (fun f hf => by
          obtain ⟨x, hx, e⟩ := List.mem_map.1 hf
          rw [← e]
          exact (hTb.2 x hx).2)
        rw [left_new] at hlf
        have HD8 := Lib.hid (And.intro hd8 hb58)
        clear hd8 hP8 hb58 hin8 hb8
        go_wp2_with fail
        refine hlf.mono ?_
        rintro e9 w9 ⟨v9, rfl, hown9, hb9⟩
        clear hlf
        obtain ⟨p9, c9, rfl, _, _, hin9, _⟩ := hown9.shape rfl
        have hb59 := HD8.out.2.trans (hb9.mono HD8.out.2.size)
        have hsf := sameFiles_any T T p9 p5 _ c9 _ c5 rfl rfl (by omega) (by omega) w9 hin9 (HB5.out.2.below hb59)
        rw [decide_eq_true rfl] at hsf
        have HD9 := Lib.hid (And.intro (HD8.out.1.below hb9) hb59)
        clear hown9 hin9 hb59 hb9
        go_wp2_with fail
        refine hsf.mono ?_
        rintro e10 w10 ⟨rfl, hb10⟩
        clear hsf
        have hd10 := HD9.out.1.below hb10
        have hb510 := HD9.out.2.trans (hb10.mono HD9.out.2.size)
        have hli := list_p hd10 (by show (numF 0 T).length ≤ _; rw [numF_length]; omega)
        rw [list_new] at hli
        have HD10 := Lib.hid (And.intro hd10 hb510)
        clear hd10 hb510 hb10
        go_wp2_with fail
        refine hli.mono ?_
        rintro e11 w11 ⟨v11, rfl, hown11, hb11⟩
        clear hli
        obtain ⟨p11, c11, rfl, _, _, hin11, _⟩ := hown11.shape (n := T.length) (by simp)
        have hb511 := HD10.out.2.trans (hb11.mono HD10.out.2.size)
        have hnm := namesL_any T p5 _ c5 rfl (by omega) w11 (HB5.out.2.below hb511)
        have HD11 := Lib.hid (And.intro (HD10.out.1.below hb11) (And.intro hb511 hin11))
        clear hown11 hin11 hb511 hb11
        go_wp2_with fail
        refine hnm.mono ?_
        rintro e12 w12 ⟨v12, rfl, hown12, hb12⟩
        clear hnm
        obtain ⟨p12, c12, rfl, _, _, hin12, _⟩ := hown12.shape (n := T.length) (by simp)
        have hst := sameTexts_any (T.map (·.1)) (T.map (·.1)) p11 p12 T.length c11 T.length c12 (by simp) (by simp) (by unfold maxLen; omega) (by unfold maxLen; omega) w12 (HD11.out.2.2.below hb12) hin12
        rw [decide_eq_true rfl] at hst
        have HD12 := Lib.hid (And.intro (HD11.out.1.below hb12) (HD11.out.2.1.trans (hb12.mono HD11.out.2.1.size)))
        clear hown12 hin12 hb12
        go_wp2_with fail
        refine hst.mono ?_
        rintro e13 w13 ⟨rfl, hb13⟩
        clear hst
        obtain ⟨S13, hs13, hab⟩ := HD12.out.1.below hb13
        have hsp := steps_any hs13
        have hz : S13.steps = 0 := by
          have : (absD S13).steps = 0 := by rw [hab]; rfl
          exact this
        rw [hz] at hsp
        have hdw := fun (W : World) (hb : Below w13.heap.size w13 W) => down_any (hs13.below hb)
        have hdf : downS S13 = false := by
          rw [← abs_down, hab]
          unfold downP newP
          simp
        rw [hdf] at hdw
        have HDW := Lib.hid hdw
        have HB13 := Lib.hid (HD12.out.2.trans (hb13.mono HD12.out.2.size))
        clear hs13 hdw hab hz hdf hb13
        go_wp2_with fail
        refine hsp.mono ?_
        rintro e14 w14 ⟨rfl, hb14⟩
        clear hsp
        have hdn := HDW.out w14 hb14
        go_wp2_with fail
        refine hdn.mono ?_
        rintro e15 w15 ⟨rfl, hb15⟩
        clear hdn
        go_wp2_with fail
        go_ret
        have f1 := HB13.out.trans ((hb14.trans (hb15.mono hb14.size)).mono HB13.out.size)
        exact ⟨rfl, HKB.out.2.2.2.trans ((HB5.out.1.trans (f1.mono HB5.out.1.size)).mono HKB.out.2.2.2.size)⟩
end Go.Proofs.YtnhfnfdmpcpcoaaDoor
