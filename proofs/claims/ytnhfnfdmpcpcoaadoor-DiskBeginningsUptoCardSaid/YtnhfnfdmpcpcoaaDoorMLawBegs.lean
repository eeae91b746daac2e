/-
  DiskBeginnings: in a life of Appends and Syncs alone each file that is left holds a beginning of what is seen.
-/
import Derived.Test.YtnhfnfdmpcpcoaaDoorM9e
namespace Go.Proofs.YtnhfnfdmpcpcoaaDoor
open Go.RowKit Go.Maps

set_option maxRecDepth 100000 in
set_option maxHeartbeats 8000000 in
theorem diskBeginnings_walk (p : Option Addr) (F : List FT) (c : Nat) (room : Int) (q : Option Addr) (Z : List Int) (e : Nat) (power : Int) (ps : Option Addr) (L : List OpT) (cs : Nat) (fn : Int) (fp : Option Addr) (K : List Int) (fc : Nat) (w : World)
    (hF : InFs w p F) (hZ : InV w q (Z.map (Value.int .i64))) (hk : bulkFs F + Z.length ≤ 1048576) (hL : InOps w ps L) (hkL : bulkOps L ≤ 1048576) (hLc : L.length ≤ cs) (hK : InV w fp (K.map (Value.int .i64))) (hkK : K.length ≤ 1048576) :
    Calls Tryd.prog 7 #[.agg #[.slice p F.length c, .int .i64 room, .slice q Z.length e, .int .i64 power], .slice ps L.length cs, .agg #[.int .i64 fn, .slice fp K.length fc]] w fun e w' => e = .returned (.bool true) ∧ Below w.heap.size w w' := by
  have hFl := bulkFs_length F
  have hFn : ∀ f ∈ F, f.1.length ≤ 140737488351232 ∧ f.2.length ≤ 140737488351232 := fun f hf => by have := bulkFs_mem F f hf; omega
  go_enter Tryd.func7, Tryd.ntmps7
  go_wp2_with fail
  refine (alive9_any _).mono ?_
  rintro e w1 ⟨rfl, hb1⟩
  have hb0 : Below w.heap.size w ((w.alloc (.cells #[.slice p F.length c, .int .i64 room, .slice q Z.length e, .int .i64 power] 25)).alloc (.cells #[.int .i64 fn, .slice fp K.length fc] 29)) := ((Below.refl _ w).alloc (Nat.le_refl _) _).alloc (by simp) _
  have g0 : w1.heap[w.heap.size]? = some (.cells #[.slice p F.length c, .int .i64 room, .slice q Z.length e, .int .i64 power] 25 (0, 0)) :=
    (hb1.block _ (by simp; omega)).trans ((heap_alloc_old _ _ (by simp)).trans (heap_alloc_new w _))
  have g1 : w1.heap[w.heap.size + 1]? = some (.cells #[.int .i64 fn, .slice fp K.length fc] 29 (0, 0)) := by
    have := heap_alloc_new (w.alloc (.cells #[.slice p F.length c, .int .i64 room, .slice q Z.length e, .int .i64 power] 25)) (.cells #[.int .i64 fn, .slice fp K.length fc] 29)
    rw [World.size_alloc] at this
    exact (hb1.block _ (by simp)).trans this
  have hB1 : Below w.heap.size w w1 := hb0.trans (hb1.mono (by simp; omega))
  clear hb0 hb1
  have a0 : w1.cell? ⟨w.heap.size, 0, none⟩ = some (.slice p F.length c) := by rw [cell_of_row _ _ _ _ _ _ g0]; rfl
  have a1 : w1.cell? ⟨w.heap.size, 1, none⟩ = some (.int .i64 room) := by rw [cell_of_row _ _ _ _ _ _ g0]; rfl
  have a2 : w1.cell? ⟨w.heap.size, 2, none⟩ = some (.slice q Z.length e) := by rw [cell_of_row _ _ _ _ _ _ g0]; rfl
  have a3 : w1.cell? ⟨w.heap.size, 3, none⟩ = some (.int .i64 power) := by rw [cell_of_row _ _ _ _ _ _ g0]; rfl
  have hbeg := begin_c F p _ c rfl room Z q _ e rfl power w1 (hF.below hB1) (hZ.below hB1) (by omega) hFn (by omega)
  have HG := Lib.hid (And.intro g0 (And.intro g1 hB1))
  clear g0 g1 hB1
  go_wp2_with fail
  refine hbeg.mono ?_
  rintro e2 w2 ⟨⟨hne, rfl⟩ | ⟨hE, dd, P, rfl, hd, hP⟩, hb2⟩
  · obtain ⟨z, hz⟩ : ∃ z, z = newE F room := ⟨_, rfl⟩
    rw [← hz] at hne ⊢
    have q1 : (z == 0) = false := beq_eq_false_iff_ne.2 hne
    have q2 : (z != 0) = true := by simp [bne, q1]
    have HB := Lib.hid (HG.out.2.2.trans (hb2.mono HG.out.2.2.size))
    clear hbeg hne hb2 hz
    go_wp2_with fail
    go_ret
    exact ⟨rfl, HB.out⟩
  clear hbeg
  have hD0 : DP w1 dd (newP F room Z power) w2 := ⟨P, hd, hP, hb2⟩
  have hA0 := GoodA.new power hE hk
  have HD0 := Lib.hid (And.intro hD0 (And.intro hA0 (newE_zero hE)))
  clear hd hP hE hD0 hA0 hb2
  have hB0 : BegI F (newP F room Z power) := beg_new HD0.out.2.2.1 HD0.out.2.2.2.2 Z power
  have HBI := Lib.hid hB0
  clear hB0
  have hcut := cut_any L ps _ cs rfl hLc w2
  go_wp2_with fail
  refine hcut.mono ?_
  rintro e3 w3 ⟨c3, rfl, hb3⟩
  clear hcut
  obtain ⟨M, hM⟩ : ∃ M, M = L.take 300 := ⟨_, rfl⟩
  rw [← hM]
  have hMl : M.length ≤ 300 := by rw [hM, List.length_take]; omega
  have hMk : ∀ x ∈ M, x.2.1.length + x.2.2.1.length + x.2.2.2.length ≤ 1048576 := fun x hx => Nat.le_trans (bulkOps_mem L x (by rw [hM] at hx; exact List.mem_of_mem_take hx)) hkL
  have hMi : InOps w ps M := by rw [hM]; exact hL.take 300
  have HD1 := Lib.hid (HD0.out.1.below hb3)
  clear hM hb3
  go_wp2_with fail
  go_loopw [9] (fun i wr => ∃ (k : Nat) (A : Pl), k ≤ M.length ∧ i = .int .i64 k ∧ DP w1 dd A wr ∧ BegI F A ∧ GoodA k A) (fun i _ => M.length - (intOf i).toNat)
  case atStart => exact ⟨0, _, Nat.zero_le _, rfl, HD1.out, HBI.out, HD0.out.2.1⟩
  case round =>
    obtain ⟨k, A, hkm, rfl, hd, hBk, hGk⟩ := hrel
    have hBr : Below w.heap.size w wr := HG.out.2.2.trans (hd.choose_spec.2.2.mono HG.out.2.2.size)
    by_cases hlt : k < M.length
    · have hsz := hMk M[k] (List.getElem_mem hlt)
      obtain ⟨b, o, rfl, na, nb, qo, co, o0, o1, o2, o3, o4, o5, o6⟩ := hMi k hlt
      generalize M[k] = x at o0 o1 o2 o3 o4 o5 o6 hsz
      obtain ⟨wh, ba, bb, bl⟩ := x
      simp only at o0 o1 o2 o3 o4 o5 o6 hsz
      subst o4 o5
      have v0 := cell_keep o0 hBr
      have v1 := cell_keep o1 hBr
      have v2 := cell_keep o2 hBr
      have v3 := cell_keep o3 hBr
      have hst := step_any wh na nb (.slice qo bl.length co) qo _ co rfl wr
      clear o0 o1 o2 o3
      go_wp2_with fail
      refine hst.mono ?_
      rintro e4 w4 ⟨rfl, hb4⟩
      clear hst v0 v1 v2 v3
      by_cases hw2 : wh = 2
      · subst hw2
        have hdo := fun W (hb : Below w4.heap.size w4 W) => do_dp ((hd.below hb4).below hb) 2 na nb bl qo _ co rfl hsz (((o6.below hBr).below hb4).below hb) (hGk.fitP (by omega))
        rw [show stepI 2 = 2 from rfl] at hdo
        have HDO := Lib.hid hdo
        have HN := Lib.hid (And.intro (hBk.append na.data.toList bl) (hGk.step (opOf 2 na.data.toList nb.data.toList bl)))
        clear hdo hd hBk hGk hb4 hBr o6 hsz
        rw [show stepI 2 = 2 from rfl]
        go_wp2_with fail
        have hdo := HDO.out _ ((Below.refl _ w4).alloc (Nat.le_refl _) (.cells #[.int .i64 2, .string na, .string nb, .slice qo bl.length co] 57))
        refine hdo.mono ?_
        rintro e5 w5 ⟨z, rfl, _, hd5⟩
        clear hdo
        have HD5 := Lib.hid hd5
        clear hd5
        go_wp2_with fail
        go_roundw
        case rel => exact ⟨k + 1, _, by omega, by go_num, HD5.out, HN.out.1, HN.out.2⟩
        case measure => simp [intOf]; omega
      · by_cases hw3 : wh = 3
        · subst hw3
          have hdo := fun W (hb : Below w4.heap.size w4 W) => do_dp ((hd.below hb4).below hb) 3 na nb bl qo _ co rfl hsz (((o6.below hBr).below hb4).below hb) (hGk.fitP (by omega))
          rw [show stepI 3 = 3 from rfl] at hdo
          have HDO := Lib.hid hdo
          have HN := Lib.hid (And.intro (hBk.sync na.data.toList) (hGk.step (opOf 3 na.data.toList nb.data.toList bl)))
          clear hdo hd hBk hGk hb4 hBr o6 hsz
          rw [show stepI 3 = 3 from rfl]
          go_wp2_with fail
          have hdo := HDO.out _ ((Below.refl _ w4).alloc (Nat.le_refl _) (.cells #[.int .i64 3, .string na, .string nb, .slice qo bl.length co] 57))
          refine hdo.mono ?_
          rintro e5 w5 ⟨z, rfl, _, hd5⟩
          clear hdo
          have HD5 := Lib.hid hd5
          clear hd5
          go_wp2_with fail
          go_roundw
          case rel => exact ⟨k + 1, _, by omega, by go_num, HD5.out, HN.out.1, HN.out.2⟩
          case measure => simp [intOf]; omega
        · have hn2 : (stepI wh == 2) = false := beq_eq_false_iff_ne.2 (by unfold stepI; split <;> omega)
          have hn3 : (stepI wh == 3) = false := beq_eq_false_iff_ne.2 (by unfold stepI; split <;> omega)
          have HD4 := Lib.hid ((hd.below hb4).below ((Below.refl _ w4).alloc (Nat.le_refl _) (.cells #[.int .i64 (stepI wh), .string na, .string nb, .slice qo bl.length co] 57)))
          have HN := Lib.hid (And.intro hBk hGk)
          clear hd hBk hGk hb4 hBr o6 hsz
          generalize stepI wh = st at hn2 hn3 HD4
          go_wp2_with fail
          go_roundw
          case rel => exact ⟨k + 1, A, by omega, by go_num, HD4.out, HN.out.1, ⟨HN.out.2.inv, ⟨by have := HN.out.2.fit.steps; omega, by have := HN.out.2.fit.pend; omega, by have := HN.out.2.fit.now; omega, by have := HN.out.2.fit.safe; omega, by have := HN.out.2.fit.files; omega, HN.out.2.fit.fails, HN.out.2.fit.used, HN.out.2.fit.room⟩, HN.out.2.dat⟩⟩
          case measure => simp [intOf]; omega
    · obtain rfl : k = M.length := by omega
      have HDk := Lib.hid (And.intro hd (And.intro hBk (And.intro hGk hBr)))
      have hdn := down_dp hd
      clear hd hBk hGk
      cases hdown : downP A with
      | true =>
        rw [hdown] at hdn
        have hli := fun W (hb : Below wr.heap.size wr W) => list_dp (HDk.out.1.below hb) HDk.out.2.2.1 (by omega)
        have hl0 : listP A = [] := by unfold listP; rw [hdown]; rfl
        rw [hl0] at hli
        clear hl0
        go_wp2_with fail
        refine hdn.mono ?_
        rintro e4 w4 ⟨rfl, hb4⟩
        clear hdn
        have hli4 := hli w4 hb4
        go_wp2_with fail
        refine hli4.mono ?_
        rintro e5 w5 ⟨p5, c5, rfl, _, _, hb5⟩
        clear hli4 hli
        go_wp2_with fail
        go_ret
        exact ⟨rfl, HDk.out.2.2.2.trans ((hb4.trans (hb5.mono hb4.size)).mono HDk.out.2.2.2.size)⟩
      | false =>
        rw [hdown] at hdn
        have HDN := Lib.hid hdown
        clear hdown
        go_wp2_with fail
        refine hdn.mono ?_
        rintro e4 w4 ⟨rfl, hb4⟩
        clear hdn
        have hbk4 := (HDk.out.1.below hb4).choose_spec.2.2
        have k0 := (hbk4.block _ (lt_of_heap HG.out.1)).trans HG.out.1
        have k1 := (hbk4.block _ (lt_of_heap HG.out.2.1)).trans HG.out.2.1
        have hBw4 : Below w.heap.size w w4 := HG.out.2.2.trans (hbk4.mono HG.out.2.2.size)
        have b0 : w4.cell? ⟨w.heap.size + 1, 0, none⟩ = some (.int .i64 fn) := by rw [cell_of_row _ _ _ _ _ _ k1]; rfl
        have b1 : w4.cell? ⟨w.heap.size + 1, 1, none⟩ = some (.slice fp K.length fc) := by rw [cell_of_row _ _ _ _ _ _ k1]; rfl
        have hcf := copyFate_any fn K fp _ fc rfl (by omega) w4 (hK.below hBw4)
        have H4 := Lib.hid (And.intro (HDk.out.1.below hb4) (And.intro k0 hBw4))
        clear hbk4 k0 k1 hBw4 hb4
        go_wp2_with fail
        refine hcf.mono ?_
        rintro e5 w5 ⟨p5, c5, rfl, hin5, _, hb5⟩
        clear hcf
        have hGA := HDk.out.2.2.1
        have hBA := HDk.out.2.1
        have hlf := left_dp (H4.out.1.below hb5) hGA (by omega) fn K p5 _ c5 rfl hin5
        have hTb := left_bounds hGA (by omega) fn K
        obtain ⟨hT1, hT2⟩ := hBA.left fn K
        have hrd := fun (i : Nat) (x : FT) (hx : (leftP A fn K)[i]? = some x) => hBA.read HDN.out fn K hx
        obtain ⟨T, hT⟩ : ∃ T, T = leftP A fn K := ⟨_, rfl⟩
        rw [← hT] at hlf hTb hT1 hT2 hrd
        have hLP : listP A = F.map (·.1) := by
          unfold listP
          rw [HDN.out, hBA.now]
          exact numF_names F 0
        have HB5 := Lib.hid hb5
        clear hin5 hb5 b0 b1
        go_wp2_with fail
        refine hlf.mono ?_
        rintro e6 w6 ⟨p6, c6, rfl, _, hin6, hb6⟩
        clear hlf
        have hb46 := HB5.out.trans (hb6.mono HB5.out.size)
        have hd6 := H4.out.1.below hb46
        have k06 := (hb46.block _ (lt_of_heap H4.out.2.1)).trans H4.out.2.1
        have a0' : w6.cell? ⟨w.heap.size, 0, none⟩ = some (.slice p F.length c) := by rw [cell_of_row _ _ _ _ _ _ k06]; rfl
        rw [hT1]
        have q0 : ((F.length : Int) != (F.length : Int)) = false := by simp
        have hli := list_dp hd6 hGA (by omega)
        rw [hLP] at hli
        have H6 := Lib.hid (And.intro hd6 (And.intro k06 (And.intro (H4.out.2.2.trans (hb46.mono H4.out.2.2.size)) hin6)))
        have HT := Lib.hid (And.intro hT1 (And.intro hT2 (And.intro hrd (And.intro hTb hT))))
        clear hT1 hT2 hrd hTb hT hin6 hb6 hb46 hd6 k06 hLP hGA hBA
        go_wp2_with fail
        refine hli.mono ?_
        rintro e7 w7 ⟨p7, c7, rfl, _, hin7, hb7⟩
        clear hli
        have hnm := namesL_any T p6 F.length c6 HT.out.1 (by have := HT.out.2.2.2.1.1; omega) w7 (H6.out.2.2.2.below hb7)
        have HB7 := Lib.hid (And.intro hb7 hin7)
        clear hb7 hin7 a0'
        go_wp2_with fail
        refine hnm.mono ?_
        rintro e8 w8 ⟨v8, rfl, hown8, hb8⟩
        clear hnm
        obtain ⟨p8, c8, rfl, _, _, hin8, _⟩ := hown8.shape (n := F.length) (by rw [List.length_map]; exact HT.out.1)
        have hst := sameTexts_any (F.map (·.1)) (T.map (·.1)) p7 p8 F.length c7 F.length c8 (by simp) (by rw [List.length_map]; exact HT.out.1) (by unfold maxLen; omega) (by unfold maxLen; omega) w8 (HB7.out.2.below hb8) hin8
        rw [decide_eq_true HT.out.2.1.symm] at hst
        have HB8 := Lib.hid (HB7.out.1.trans (hb8.mono HB7.out.1.size))
        clear hown8 hin8 hb8
        have HGA := Lib.hid HDk.out.2.2.1
        go_wp2_with fail
        refine hst.mono ?_
        rintro e9 w9 ⟨rfl, hb9⟩
        clear hst
        have HB9 := Lib.hid (HB8.out.trans (hb9.mono HB8.out.size))
        clear hb9
        have hpos : ∀ k, k < F.length → ∃ b o, p6 = some ⟨b, o, none⟩ := fun k hk => by
          obtain ⟨b, o, e, _⟩ := H6.out.2.2.2.at (k := k) (by rw [HT.out.1]; exact hk)
          exact ⟨b, o, e⟩
        go_wp2_with fail
        go_loopw [12] (fun i wr2 => ∃ k : Nat, k ≤ F.length ∧ i = .int .i64 k ∧ Below w6.heap.size w6 wr2) (fun i _ => F.length - (intOf i).toNat)
        case atStart => exact ⟨0, Nat.zero_le _, rfl, HB9.out⟩
        case round =>
          obtain ⟨k, hk, rfl, hb⟩ := hrel
          by_cases hlt : k < F.length
          · have hTl : k < T.length := by rw [HT.out.1]; exact hlt
            obtain ⟨b, o, rfl, x, q1, c1, cx1, cx2, hx, hqc, hxl, hxi⟩ := H6.out.2.2.2.at hTl
            obtain ⟨f, hf, g1, g2, g3, g4, g5, g6, g7⟩ := HT.out.2.2.1 k T[k] (List.getElem?_eq_getElem hTl)
            obtain ⟨b2, o2, rfl, y, q2, c2, cy1, cy2, hy, _, _, _⟩ := hF.at hlt
            have hFk : F[k] = f := by rw [List.getElem?_eq_getElem hlt] at hf; exact Option.some.inj hf
            have hnl := (HT.out.2.2.2.1.2 _ (List.getElem_mem hTl)).1
            have hpre := leftD_prefix A K k
            have hlen := leftD_length (B := A) K k g6
            have hrd := read_dp (H6.out.1.below hb) HGA.out (by omega) x (by rw [← size_list, hx]; exact hnl)
            rw [hx, g2, g3] at hrd
            obtain ⟨D, hD⟩ : ∃ D, D = datP A k := ⟨_, rfl⟩
            obtain ⟨l, hl⟩ : ∃ l, l = T[k].2 := ⟨_, rfl⟩
            rw [← hD] at hrd hpre g6
            rw [← hl] at g4 cx2 hxl hxi
            rw [← g4] at hpre hlen
            have hld : l = D.take l.length := List.prefix_iff_eq_take.1 hpre
            have hlD : l.length ≤ D.length := hpre.length_le
            have hfl : F[k].2.length ≤ l.length := by rw [hFk]; omega
            have d1 := cell_keep cx1 hb
            have k0 := H6.out.2.1
            have hbw := H6.out.2.2.1
            obtain ⟨m, hm⟩ : ∃ m, m = F[k].2.length := ⟨_, rfl⟩
            rw [← hm] at cy2 hfl
            have HB := Lib.hid hb
            have HX := Lib.hid (And.intro hxi hld)
            have HCY := Lib.hid (And.intro cx2 cy2)
            clear hD hl hm hpre hlen hFk hf g1 g2 g3 g4 g5 g6 g7 hx hqc hxi hld hnl cy1 hy hb cx2 cy2 cx1
            go_wp2_with fail
            refine hrd.mono ?_
            rintro e10 w10 ⟨p10, c10, rfl, hin10, hc10, hcm10, _, _, hb10⟩
            clear hrd
            have hb610 := HB.out.trans (hb10.mono HB.out.size)
            have hbw10 := hbw.trans (hb610.mono hbw.size)
            have d2 := cell_keep HCY.out.1 hb610
            have d3 := cell_keep HCY.out.2 hbw10
            have k010 := (hb610.block _ (lt_of_heap k0)).trans k0
            have a010 : w10.cell? ⟨w.heap.size, 0, none⟩ = some (.slice (some ⟨b2, o2, none⟩) F.length c) := by rw [cell_of_row _ _ _ _ _ _ k010]; rfl
            have hcut := hin10.take l.length
            rw [← HX.out.2] at hcut
            obtain ⟨n, hn⟩ : ∃ n, n = l.length := ⟨_, rfl⟩
            rw [← hn] at d2 hlD hfl hxl
            have i1 : ¬ (D.length : Int) < (n : Int) := by omega
            have i2 : ¬ (n : Int) < (m : Int) := by omega
            have i3 : (0 : Int) ≤ (n : Int) := by omega
            have i5 : ¬ D.length < n := by omega
            have i6 : ¬ n < m := by omega
            have i7 : n ≤ c10 := by omega
            have i4 : (n : Int) ≤ (c10 : Int) := by omega
            obtain ⟨S, hS⟩ : ∃ S : World → Prop, S = fun W => W.cell? ⟨b, o + k * 2 + 1, none⟩ = some (.slice q1 n c1) ∧ W.cell? ⟨w.heap.size, 0, none⟩ = some (.slice (some ⟨b2, o2, none⟩) F.length c) ∧ W.cell? ⟨b2, o2 + k * 2 + 1, none⟩ = some (.slice q2 m c2) := ⟨_, rfl⟩
            have HSS := Lib.hid (fun W => show S W ↔ W.cell? ⟨b, o + k * 2 + 1, none⟩ = some (.slice q1 n c1) ∧ W.cell? ⟨w.heap.size, 0, none⟩ = some (.slice (some ⟨b2, o2, none⟩) F.length c) ∧ W.cell? ⟨b2, o2 + k * 2 + 1, none⟩ = some (.slice q2 m c2) by rw [hS])
            have step : ∀ W, Below w10.heap.size w10 W → S W := fun W hb => by rw [hS]; exact ⟨cell_keep d2 hb, cell_keep a010 hb, cell_keep d3 hb⟩
            have HK0 := Lib.hid (step w10.drew (Below.refl _ w10).drew)
            have HSB := Lib.hid (show Calls Tryd.prog 21 #[.slice q1 n c1, .slice p10 n c10] w10.drew fun e w' => e = .returned (.bool true) ∧ Below w10.heap.size w10 w' ∧ S w' from
              (sameBytes_any l l q1 p10 n c1 n c10 hn.symm hn.symm hxl hxl w10.drew ((HX.out.1.below hb610).below (Below.refl _ w10).drew) (hcut.below (Below.refl _ w10).drew)).mono fun _ w' ⟨h1, h2⟩ => ⟨by rw [h1, decide_eq_true rfl], ((Below.refl _ w10).drew).trans h2, step _ (((Below.refl _ w10).drew).trans h2)⟩)
            have HB10 := Lib.hid hb610
            clear hS step hcut hn hlD hfl hxl d2 a010 d3 k010 hbw10 hb610 hb10 hin10
            go_wp2_with fail
            go_region_held3 (fun W => W.cell? ⟨b, o + k * 2 + 1, none⟩ = some (.slice q1 n c1) ∧ W.cell? ⟨w.heap.size, 0, none⟩ = some (.slice (some ⟨b2, o2, none⟩) F.length c) ∧ W.cell? ⟨b2, o2 + k * 2 + 1, none⟩ = some (.slice q2 m c2))
              (first | (with_reducible exact (HSS.out _).1 HK0.out) | (with_reducible exact (HSS.out _).1 HK1.out))
              (first | (go_at_call 21; with_reducible refine HSB.out.mono ?_; rintro e11 w11 ⟨rfl, hb11, hk1⟩; have HK1 := Lib.hid hk1; have HB11 := Lib.hid hb11; clear hk1 hb11))
            all_goals
              go_wp2_with fail
              go_roundw
              case rel => exact ⟨k + 1, by omega, by go_num, HB10.out.trans (HB11.out.mono HB10.out.size)⟩
              case measure => simp [intOf]; omega
          · obtain ⟨wo, hwo⟩ : ∃ x, x = wr := ⟨_, rfl⟩
            subst hwo
            obtain ⟨a0', _, _, _⟩ : wo.cell? ⟨w.heap.size, 0, none⟩ = some (.slice p F.length c) ∧ True ∧ True ∧ True := ⟨by
              have k0 := (hb.block _ (lt_of_heap H6.out.2.1)).trans H6.out.2.1
              rw [cell_of_row _ _ _ _ _ _ k0]; rfl, trivial, trivial, trivial⟩
            have hbs := hb.size
            obtain ⟨wf, hwf⟩ : ∃ x, x = wo.alloc (.cells #[.int .i64 1099511627776, .slice none 0 0] 29) := ⟨_, rfl⟩
            have hbf : Below w6.heap.size w6 wf := by rw [hwf]; exact hb.alloc hbs _
            have hgf : wf.heap[wo.heap.size]? = some (.cells #[.int .i64 1099511627776, .slice none 0 0] 29 (0, 0)) := by rw [hwf]; exact heap_alloc_new wo _
            have hnil := World.ownsRow_nil wf (wo.heap.size + 1) 3 1
            have HF := Lib.hid (And.intro hbf (And.intro hgf hnil))
            have HWF := Lib.hid hwf
            clear hbf hgf hnil hwf
            go_wp2_with fail
            rw [← HWF.out]
            go_loopw [16] (fun i wr => ∃ (k : Nat) (v : Value), k ≤ F.length ∧ i = .int .i64 k ∧ wr.heap[wo.heap.size]? = some (.cells #[.int .i64 1099511627776, v] 29 (0, 0)) ∧ wr.ownsRow (wo.heap.size + 1) 3 1 v k (List.replicate k (.int .i64 1099511627776)) ∧ Below w6.heap.size w6 wr) (fun i _ => F.length - (intOf i).toNat)
            case atStart => exact ⟨0, _, Nat.zero_le _, rfl, HF.out.2.1, HF.out.2.2, HF.out.1⟩
            case round =>
              obtain ⟨k, v, hk, rfl, hgv, hown, hb⟩ := hrel
              by_cases hlt : k < F.length
              · have hfs := hb.size
                have g0 := H6.out.2.1
                have hk0 := (hb.block _ (lt_of_heap g0)).trans g0
                have b0 : wr.cell? ⟨w.heap.size, 0, none⟩ = some (.slice p F.length c) := by rw [cell_of_row _ _ _ _ _ _ hk0]; rfl
                have b1 : wr.cell? ⟨wo.heap.size, 1, none⟩ = some v := by rw [cell_of_row _ _ _ _ _ _ hgv]; rfl
                obtain ⟨w2, hw2⟩ : ∃ x, x = wr.alloc (.cells #[.int .i64 1099511627776] 3) := ⟨_, rfl⟩
                have hown2 : w2.ownsRow (wo.heap.size + 1) 3 1 v k (List.replicate k (.int .i64 1099511627776)) := by rw [hw2]; exact hown.alloc _
                have hb2 : Below w6.heap.size w6 w2 := by rw [hw2]; exact hb.alloc hfs _
                have hgv2 : w2.heap[wo.heap.size]? = some (.cells #[.int .i64 1099511627776, v] 29 (0, 0)) := by rw [hw2]; exact (heap_alloc_old _ _ (lt_of_heap hgv)).trans hgv
                have hsl : wo.heap.size < wr.heap.size := lt_of_heap hgv
                have hs2 : w2.heap.size = wr.heap.size + 1 := by rw [hw2]; simp
                have hsrc : Src Tryd.prog 1 23 (.slice (some ⟨wr.heap.size, 0, none⟩) 1 1) 1 [.int .i64 1099511627776] w2 := by
                  have := srcV (c := 1) (e := 3) (xs := [.int .i64 1099511627776]) Tryd.underlying23 (InV.one wr (.int .i64 1099511627776) 3) (fun u hu => by rw [List.mem_singleton.1 hu]; rfl)
                  rw [hw2]; exact this
                have HH := Lib.hid (And.intro hgv2 (And.intro hb2 (And.intro hs2 (And.intro hsl hbs))))
                have HO := Lib.hid hown2
                have hbase : wo.heap.size + 1 ≤ w2.heap.size := by omega
                rw [hw2] at hsrc hown2 hbase
                have HW2 := Lib.hid hw2
                clear hw2 hgv2 hb2 hs2 hsl hk0 g0 hown hgv hb
                go_wp2_with (
                  at_builtin
                  refine wpList_append_way _ rfl _ _ 23 23 rfl (wo.heap.size + 1) 3 (.int .i64 0) 1 8 Tryd.underlying23 infoI rfl v k (List.replicate k (.int .i64 1099511627776)) rfl hown2 _ 1 [.int .i64 1099511627776] rfl hsrc (by unfold maxLen; omega) (by omega) hbase ?_
                  intro v1 w3 hown3 hgrow3 _
                  rw [← HW2.out] at hgrow3
                  have hgv3 := (hgrow3.block wo.heap.size (lt_of_heap HH.out.1) (fun e => by have := (World.ownsRow.lt HO.out _ e.symm).1; omega)).trans HH.out.1
                  have f3 := frozen_of_row w3 wo.heap.size 1 _ _ hgv3
                  have e31 : w3.cell? ⟨wo.heap.size, 1, none⟩ = some v := by rw [cell_of_row _ _ _ _ _ _ hgv3]; rfl
                  have HB3 := Lib.hid (HH.out.2.1.grown hgrow3 (by have := HH.out.2.2; omega) (fun g e => by have := (World.ownsRow.lt HO.out _ e).1; have := HH.out.2.2; omega))
                  have HG3 := Lib.hid (And.intro hgv3 hown3)
                  obtain ⟨p3, c3', rfl, _, _, _, _⟩ := owns_shape hown3
                  clear hgrow3 hgv3 hown3)
                go_roundw
                case rel => exact ⟨k + 1, _, by omega, by go_num, heap_setCell_same _ _ _ _ _ _ HG3.out.1, by rw [List.replicate_succ']; exact ownsRow_setCell_below HG3.out.2 (Nat.lt_succ_self _) _, HB3.out.setCell (p := ⟨wo.heap.size, 1, none⟩) HH.out.2.2.2.2 _⟩
                case measure => simp [intOf]; omega
              · obtain rfl : k = F.length := by omega
                obtain ⟨wp, hwp⟩ : ∃ x, x = wr := ⟨_, rfl⟩
                subst hwp
                have g0 := H6.out.2.1
                have hk0 := (hb.block _ (lt_of_heap g0)).trans g0
                have b0 : wp.cell? ⟨w.heap.size, 0, none⟩ = some (.slice p F.length c) := by rw [cell_of_row _ _ _ _ _ _ hk0]; rfl
                obtain ⟨pv, cv, rfl, _, _, hinv, _⟩ := owns_shape hown
                have b1 : wp.cell? ⟨wo.heap.size, 0, none⟩ = some (.int .i64 1099511627776) := by rw [cell_of_row _ _ _ _ _ _ hgv]; rfl
                have b2 : wp.cell? ⟨wo.heap.size, 1, none⟩ = some (.slice pv F.length cv) := by rw [cell_of_row _ _ _ _ _ _ hgv]; rfl
                have hGA := HGA.out
                have hBA := HDk.out.2.1
                obtain ⟨K2, hK2⟩ : ∃ K2, K2 = List.replicate F.length (1099511627776 : Int) := ⟨_, rfl⟩
                have hk2l : K2.length = F.length := by rw [hK2]; simp
                have hlf := left_dp (H6.out.1.below hb) hGA (by omega) 1099511627776 K2 pv F.length cv hk2l (by rw [hK2, List.map_replicate]; exact hinv)
                have hTb := left_bounds hGA (by omega) 1099511627776 K2
                obtain ⟨hT1, _⟩ := hBA.left 1099511627776 K2
                have hrd : ∀ (i : Nat) (x : FT), (leftP A 1099511627776 K2)[i]? = some x → readEP A x.1 = 0 ∧ readP A x.1 = x.2 := fun i x hx => by
                  obtain ⟨f, hf, g1, g2, g3, g4, g5, g6, g7⟩ := hBA.read HDN.out 1099511627776 K2 hx
                  refine ⟨g2, ?_⟩
                  have hi := (List.getElem?_eq_some_iff.1 hf).1
                  rw [g3, g4, leftD_whole (z := 1099511627776) (by rw [hK2, List.getElem?_replicate, if_pos hi]) (by omega) g6 g7]
                obtain ⟨T2, hT2⟩ : ∃ T2, T2 = leftP A 1099511627776 K2 := ⟨_, rfl⟩
                rw [← hT2] at hlf hTb hT1 hrd
                rw [hT1] at hlf
                have HB := Lib.hid hb
                have HT2 := Lib.hid (And.intro hT1 (And.intro hTb hrd))
                clear hT1 hTb hrd hT2 hK2 hk2l hGA hBA hinv hgv hown hk0 g0 hb
                go_wp2_with fail
                refine hlf.mono ?_
                rintro e20 w20 ⟨p20, c20, rfl, _, hin20, hb20⟩
                clear hlf
                have HB20 := Lib.hid (And.intro (HB.out.trans (hb20.mono HB.out.size)) hin20)
                clear hb20 hin20 b0 b1 b2
                go_wp2_with fail
                go_loopw [18] (fun i wr => ∃ k : Nat, k ≤ F.length ∧ i = .int .i64 k ∧ Below w20.heap.size w20 wr) (fun i _ => F.length - (intOf i).toNat)
                case atStart => exact ⟨0, Nat.zero_le _, rfl, Below.refl _ _⟩
                case round =>
                  obtain ⟨k, hk, rfl, hb⟩ := hrel
                  by_cases hlt : k < F.length
                  · have hTl : k < T2.length := by rw [HT2.out.1]; exact hlt
                    obtain ⟨b, o, rfl, x, q1, c1, cx1, cx2, hx, hqc, hxl, hxi⟩ := HB20.out.2.at hTl
                    obtain ⟨g2, g3⟩ := HT2.out.2.2 k T2[k] (List.getElem?_eq_getElem hTl)
                    have hnl := (HT2.out.2.1.2 _ (List.getElem_mem hTl)).1
                    have hrd := read_dp (H6.out.1.below (HB20.out.1.trans (hb.mono HB20.out.1.size))) HGA.out (by omega) x (by rw [← size_list, hx]; exact hnl)
                    rw [hx, g2, g3] at hrd
                    obtain ⟨l, hl⟩ : ∃ l, l = T2[k].2 := ⟨_, rfl⟩
                    rw [← hl] at hrd cx2 hxl hxi
                    obtain ⟨n, hn⟩ : ∃ n, n = l.length := ⟨_, rfl⟩
                    rw [← hn] at hrd cx2 hxl
                    have HN := Lib.hid hn.symm
                    clear hn
                    have d1 := cell_keep cx1 hb
                    have HB := Lib.hid hb
                    have HX := Lib.hid (And.intro hxi cx2)
                    clear hl g2 g3 hx hqc hxi hnl hb cx2 cx1
                    go_wp2_with fail
                    refine hrd.mono ?_
                    rintro e21 w21 ⟨p21, c21, rfl, hin21, _, _, _, _, hb21⟩
                    clear hrd
                    have hb2021 := HB.out.trans (hb21.mono HB.out.size)
                    have d2 := cell_keep HX.out.2 hb2021
                    have hsb := fun W (hb : Below w21.heap.size w21 W) => sameBytes_any l l p21 q1 n c21 n c1 HN.out HN.out hxl hxl W (hin21.below hb) ((HX.out.1.below hb2021).below hb)
                    rw [decide_eq_true rfl] at hsb
                    have HSB := Lib.hid hsb
                    have HB21 := Lib.hid hb2021
                    clear hsb hb2021 hb21 hin21
                    go_wp2_with fail
                    refine (HSB.out w21 (Below.refl _ _)).mono ?_
                    rintro e22 w22 ⟨rfl, hb22⟩
                    have HB22 := Lib.hid (HB21.out.trans (hb22.mono HB21.out.size))
                    clear hb22
                    go_wp2_with fail
                    go_roundw
                    case rel => exact ⟨k + 1, by omega, by go_num, HB22.out⟩
                    case measure => simp [intOf]; omega
                  · obtain rfl : k = F.length := by omega
                    have hbe := HB20.out.1.trans (hb.mono HB20.out.1.size)
                    have q9 : ((F.length : Int) == (F.length : Int)) = true := by simp
                    go_wp2_with fail
                    go_ret
                    exact ⟨rfl, H6.out.2.2.1.trans (hbe.mono H6.out.2.2.1.size)⟩
end Go.Proofs.YtnhfnfdmpcpcoaaDoor
