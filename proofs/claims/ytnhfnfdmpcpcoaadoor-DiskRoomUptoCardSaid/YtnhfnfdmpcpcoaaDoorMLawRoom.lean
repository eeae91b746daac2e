/-
  DiskRoom: no more bytes are seen than there is room for; an error changes nothing but the count.
-/
import Derived.Test.YtnhfnfdmpcpcoaaDoorM9e
import Derived.Deep.RegionWith
namespace Go.Proofs.YtnhfnfdmpcpcoaaDoor
open Go.RowKit Go.Maps

theorem runA_room : ∀ (L : List OpT) (A : Pl), (runA A L).room = A.room
  | [], _ => rfl
  | x :: L, A => by
    have := runA_room L (doP A (opOf x.1 x.2.1 x.2.2.1 x.2.2.2)).1
    unfold runA at this ⊢
    rw [List.foldl_cons, this]
    exact (do_rest A _).1

set_option maxRecDepth 100000 in
set_option maxHeartbeats 16000000 in
theorem diskRoom_walk (p : Option Addr) (F : List FT) (c : Nat) (room : Int) (q : Option Addr) (Z : List Int) (e : Nat) (power : Int) (ps : Option Addr) (L : List OpT) (cs : Nat) (fn : Int) (fp : Option Addr) (K : List Int) (fc : Nat) (w : World)
    (hF : InFs w p F) (hZ : InV w q (Z.map (Value.int .i64))) (hk : bulkFs F + Z.length ≤ 1048576) (hL : InOps w ps L) (hkL : bulkOps L ≤ 1048576) (hLc : L.length ≤ cs) (hK : InV w fp (K.map (Value.int .i64))) (hkK : K.length ≤ 1048576) :
    Calls Tryd.prog 5 #[.agg #[.slice p F.length c, .int .i64 room, .slice q Z.length e, .int .i64 power], .slice ps L.length cs, .agg #[.int .i64 fn, .slice fp K.length fc]] w fun e w' => e = .returned (.bool true) ∧ Below w.heap.size w w' := by
  have hFl := bulkFs_length F
  have hFn : ∀ f ∈ F, f.1.length ≤ 140737488351232 ∧ f.2.length ≤ 140737488351232 := fun f hf => by have := bulkFs_mem F f hf; omega
  go_enter Tryd.func5, Tryd.ntmps5
  go_wp2_with fail
  refine (alive9_any _).mono ?_
  rintro e w1 ⟨rfl, hb1⟩
  have hb0 : Below w.heap.size w ((w.alloc (.cells #[.slice p F.length c, .int .i64 room, .slice q Z.length e, .int .i64 power] 25)).alloc (.cells #[.int .i64 fn, .slice fp K.length fc] 29)) := ((Below.refl _ w).alloc (Nat.le_refl _) _).alloc (by simp) _
  have g0 : w1.heap[w.heap.size]? = some (.cells #[.slice p F.length c, .int .i64 room, .slice q Z.length e, .int .i64 power] 25 (0, 0)) :=
    (hb1.block _ (by simp; omega)).trans ((heap_alloc_old _ _ (by simp)).trans (heap_alloc_new w _))
  have g1 : w1.heap[w.heap.size + 1]? = some (.cells #[.int .i64 fn, .slice fp K.length fc] 29 (0, 0)) := by
    have := heap_alloc_new (w.alloc (.cells #[.slice p F.length c, .int .i64 room, .slice q Z.length e, .int .i64 power] 25)) (.cells #[.int .i64 fn, .slice fp K.length fc] 29)
    rw [World.size_alloc] at this
    exact (hb1.block _ (by simp)).trans this
  have hB1 : Below w.heap.size w w1 := hb0.trans (hb1.mono (by simp; omega))
  clear hb0 hb1
  have a0 : w1.cell? ⟨w.heap.size, 0, none⟩ = some (.slice p F.length c) := by rw [cell_of_row _ _ _ _ _ _ g0]; rfl
  have a1 : w1.cell? ⟨w.heap.size, 1, none⟩ = some (.int .i64 room) := by rw [cell_of_row _ _ _ _ _ _ g0]; rfl
  have a2 : w1.cell? ⟨w.heap.size, 2, none⟩ = some (.slice q Z.length e) := by rw [cell_of_row _ _ _ _ _ _ g0]; rfl
  have a3 : w1.cell? ⟨w.heap.size, 3, none⟩ = some (.int .i64 power) := by rw [cell_of_row _ _ _ _ _ _ g0]; rfl
  have hbeg := begin_c F p _ c rfl room Z q _ e rfl power w1 (hF.below hB1) (hZ.below hB1) (by omega) hFn (by omega)
  have HG := Lib.hid (And.intro g0 (And.intro g1 hB1))
  clear g0 g1 hB1
  go_wp2_with fail
  refine hbeg.mono ?_
  rintro e2 w2 ⟨⟨hne, rfl⟩ | ⟨hE, dd, P, rfl, hd, hP⟩, hb2⟩
  · obtain ⟨z, hz⟩ : ∃ z, z = newE F room := ⟨_, rfl⟩
    rw [← hz] at hne ⊢
    have q1 : (z == 0) = false := beq_eq_false_iff_ne.2 hne
    have q2 : (z != 0) = true := by simp [bne, q1]
    have HB := Lib.hid (HG.out.2.2.trans (hb2.mono HG.out.2.2.size))
    clear hbeg hne hb2 hz
    go_wp2_with fail
    go_ret
    exact ⟨rfl, HB.out⟩
  clear hbeg
  have hD0 : DP w1 dd (newP F room Z power) w2 := ⟨P, hd, hP, hb2⟩
  have hA0 := GoodA.new power hE hk
  have HD0 := Lib.hid (And.intro hD0 (And.intro hA0 (newE_zero hE)))
  clear hd hP hE hD0 hA0 hb2
  have hus := used_dp HD0.out.1 HD0.out.2.1 (by omega)
  go_wp2_with fail
  refine hus.mono ?_
  rintro e9 w9 ⟨rfl, hb9⟩
  clear hus
  have hcut := cut_any L ps _ cs rfl hLc w9
  go_wp2_with fail
  refine hcut.mono ?_
  rintro e3 w3 ⟨c3, rfl, hb3⟩
  clear hcut
  obtain ⟨M, hM⟩ : ∃ M, M = L.take 300 := ⟨_, rfl⟩
  rw [← hM]
  have hMl : M.length ≤ 300 := by rw [hM, List.length_take]; omega
  have hMk : ∀ x ∈ M, x.2.1.length + x.2.2.1.length + x.2.2.2.length ≤ 1048576 := fun x hx => Nat.le_trans (bulkOps_mem L x (by rw [hM] at hx; exact List.mem_of_mem_take hx)) hkL
  have hMi : InOps w ps M := by rw [hM]; exact hL.take 300
  have HD1 := Lib.hid ((HD0.out.1.below hb9).below hb3)
  obtain ⟨u0, hu0⟩ : ∃ u0, u0 = usedP (newP F room Z power) := ⟨_, rfl⟩
  rw [← hu0]
  have HU0 := Lib.hid hu0
  clear hM hb3 hb9 hu0
  go_wp2_with fail
  go_loopw [10] (fun i wr => ∃ k : Nat, k ≤ M.length ∧ i = .int .i64 k ∧ DP w1 dd (runA (newP F room Z power) (M.take k)) wr ∧ (usedP (runA (newP F room Z power) (M.take k)) ≤ u0 ∨ (usedP (runA (newP F room Z power) (M.take k)) : Int) ≤ room)) (fun i _ => M.length - (intOf i).toNat)
  case atStart => exact ⟨0, Nat.zero_le _, rfl, HD1.out, .inl (by rw [HU0.out]; exact Nat.le_refl _)⟩
  case round =>
    obtain ⟨k, hkm, rfl, hd, hur⟩ := hrel
    have hBr : Below w.heap.size w wr := HG.out.2.2.trans (hd.choose_spec.2.2.mono HG.out.2.2.size)
    by_cases hlt : k < M.length
    · have hAk := GoodA.run HD0.out.2.1 M k hkm
      have hsz := hMk M[k] (List.getElem_mem hlt)
      have hsn := runA_snoc (newP F room Z power) hlt
      have hro := runA_room (M.take k) (newP F room Z power)
      obtain ⟨b, o, rfl, na, nb, qo, co, o0, o1, o2, o3, o4, o5, o6⟩ := hMi k hlt
      generalize M[k] = x at o0 o1 o2 o3 o4 o5 o6 hsz hsn
      obtain ⟨wh, ba, bb, bl⟩ := x
      simp only at o0 o1 o2 o3 o4 o5 o6 hsz hsn
      subst o4 o5
      obtain ⟨A, hA⟩ : ∃ A, A = runA (newP F room Z power) (M.take k) := ⟨_, rfl⟩
      rw [← hA] at hd hur hAk hsn hro
      obtain ⟨A', hA'⟩ : ∃ A', A' = (doP A (opOf wh na.data.toList nb.data.toList bl)).1 := ⟨_, rfl⟩
      rw [← hA'] at hsn
      have hAk1 : GoodA (k + 1) A' := by rw [hA']; exact hAk.step _
      have hu := used_do hAk.inv (opOf wh na.data.toList nb.data.toList bl)
      rw [← hA', hro] at hu
      have hrm : ((newP F room Z power).room : Int) = room := by show ((room.toNat : Nat) : Int) = room; have := HD0.out.2.2.2.1; omega
      have hur' : usedP A' ≤ u0 ∨ (usedP A' : Int) ≤ room := by
        rcases hu with h1 | h1
        · rcases hur with h2 | h2
          · exact .inl (Nat.le_trans h1 h2)
          · exact .inr (by omega)
        · exact .inr (by omega)
      have herr := do_err (A := A) (opOf wh na.data.toList nb.data.toList bl)
      rw [← hA'] at herr
      have HSN := Lib.hid (And.intro hsn (And.intro hur' (And.intro hAk1 hA')))
      have HERR := Lib.hid herr
      have HDk := Lib.hid (And.intro hd (And.intro hAk hBr))
      have hus := used_dp hd hAk (by omega)
      clear hA hur hro hu hrm hur' hsn herr hA' hAk1
      go_wp2_with fail
      refine hus.mono ?_
      rintro e2 wu ⟨rfl, hbu⟩
      clear hus
      have hli := list_dp (hd.below hbu) hAk (by omega)
      have HBU := Lib.hid hbu
      clear hbu hd
      go_wp2_with fail
      refine hli.mono ?_
      rintro e4 w4 ⟨p4, c4, rfl, hown4, _, hb4⟩
      clear hli
      have hbr4 : Below wr.heap.size wr w4 := HBU.out.trans (hb4.mono HBU.out.size)
      have hbk := HDk.out.1.choose_spec.2.2.trans (hbr4.mono HDk.out.1.choose_spec.2.2.size)
      have k1 := (hbk.block _ (lt_of_heap HG.out.2.1)).trans HG.out.2.1
      have b0 : w4.cell? ⟨w.heap.size + 1, 0, none⟩ = some (.int .i64 fn) := by rw [cell_of_row _ _ _ _ _ _ k1]; rfl
      have b1 : w4.cell? ⟨w.heap.size + 1, 1, none⟩ = some (.slice fp K.length fc) := by rw [cell_of_row _ _ _ _ _ _ k1]; rfl
      have hcf := copyFate_any fn K fp _ fc rfl (by omega) w4 (hK.below (hBr.trans (hbr4.mono hBr.size)))
      have H4 := Lib.hid (And.intro hown4 (And.intro hb4 hbr4))
      clear hown4 hb4 hbr4 hbk k1
      go_wp2_with fail
      refine hcf.mono ?_
      rintro e5 w5 ⟨p5, c5, rfl, hin5, _, hb5⟩
      clear hcf
      have hlf := left_dp ((HDk.out.1.below H4.out.2.2).below hb5) hAk (by omega) fn K p5 _ c5 rfl hin5
      have HB5 := Lib.hid hb5
      clear hin5 hb5 b0 b1
      go_wp2_with fail
      refine hlf.mono ?_
      rintro e6 w6 ⟨p6, c6, rfl, hown6, _, hb6⟩
      clear hlf
      have hb46 : Below w4.heap.size w4 w6 := HB5.out.trans (hb6.mono HB5.out.size)
      have hbu6 : Below wu.heap.size wu w6 := H4.out.2.1.trans (hb46.mono H4.out.2.1.size)
      have hbr6 : Below wr.heap.size wr w6 := HBU.out.trans (hbu6.mono HBU.out.size)
      have hbw6 : Below w.heap.size w w6 := hBr.trans (hbr6.mono hBr.size)
      have hL6 := H4.out.1.below hb46
      have hF6 := hown6.mono (show wu.heap.size ≤ w5.heap.size from Nat.le_trans H4.out.2.1.size HB5.out.size)
      have hst := fun W => step_any wh na nb (.slice qo bl.length co) qo _ co rfl W
      have H6 := Lib.hid (And.intro hL6 (And.intro hF6 (And.intro hbu6 hbw6)))
      have HDO := Lib.hid (fun W (hb : Below w6.heap.size w6 W) => do_keep (HDk.out.1.below HBU.out) (hbu6.trans (hb.mono hbu6.size)) wh na nb bl qo _ co rfl hsz ((o6.below hbw6).below hb) (hAk.fitP (by omega)))
      have v0 := cell_keep o0 hbw6
      have v1 := cell_keep o1 hbw6
      have v2 := cell_keep o2 hbw6
      have v3 := cell_keep o3 hbw6
      clear hown6 hb6 hb46 hbu6 hbr6 hbw6 hL6 hF6 o0 o1 o2 o3 o6 hsz
      go_wp2_with fail
      refine (hst _).mono ?_
      rintro e7 w7 ⟨rfl, hb7⟩
      clear hst
      have hdo := HDO.out w7 hb7
      have HB7 := Lib.hid hb7
      clear hb7 v0 v1 v2 v3
      go_wp2_with fail
      refine hdo.mono ?_
      rintro e8 w8 ⟨z, rfl, hz, hd8, ho8⟩
      clear hdo
      rw [← HSN.out.2.2.2] at hd8
      have hbk8 := hd8.choose_spec.2.2
      have k80 := (hbk8.block _ (lt_of_heap HG.out.1)).trans HG.out.1
      have k81 := (hbk8.block _ (lt_of_heap HG.out.2.1)).trans HG.out.2.1
      have hBw8 : Below w.heap.size w w8 := HG.out.2.2.trans (hbk8.mono HG.out.2.2.size)
      have hL8 := ownS_only (H6.out.1.below HB7.out) ho8 (fun g hg => hg.2)
      have hF8 := ownFs_only (H6.out.2.1.below HB7.out) ho8 (fun g hg => hg.2)
      obtain ⟨pL, cL, eL, _, _, hiL, _⟩ := hL8.shape rfl
      injection eL with eL1 _ eL2
      subst eL1 eL2
      obtain ⟨pF, cF, eF, _, _, hiF, _⟩ := hF8.shape rfl
      injection eF with eF1 _ eF2
      subst eF1 eF2
      obtain ⟨T, hT⟩ : ∃ T : World → Prop, T = fun W => Below w8.heap.size w8 W := ⟨_, rfl⟩
      have tb : ∀ W, T W → Below w8.heap.size w8 W := fun W h => by rw [hT] at h; exact h
      have bt' : ∀ W, Below w8.heap.size w8 W → T W := fun W h => by rw [hT]; exact h
      have tt : ∀ W W', T W → Below W.heap.size W W' → T W' := fun W W' h hb => bt' _ ((tb W h).trans (hb.mono (tb W h).size))
      have HTB := Lib.hid tb
      have HTT := Lib.hid tt
      have HT0 := Lib.hid (bt' _ (Below.refl _ w8).drew)
      have c1 : w8.cell? ⟨w.heap.size, 1, none⟩ = some (.int .i64 room) := by rw [cell_of_row _ _ _ _ _ _ k80]; rfl
      have d0 : w8.cell? ⟨w.heap.size + 1, 0, none⟩ = some (.int .i64 fn) := by rw [cell_of_row _ _ _ _ _ _ k81]; rfl
      have d1 : w8.cell? ⟨w.heap.size + 1, 1, none⟩ = some (.slice fp K.length fc) := by rw [cell_of_row _ _ _ _ _ _ k81]; rfl
      have HSA := Lib.hid (fun W (h : T W) => cell_keep c1 (tb W h))
      have HSB := Lib.hid (fun W (h : T W) => And.intro (cell_keep d0 (tb W h)) (cell_keep d1 (tb W h)))
      have hAk1 := HSN.out.2.2.1
      have HUS := Lib.hid (fun W (h : T W) => (used_dp (hd8.below (tb W h)) hAk1 (by omega)).mono fun e' w' hp => (show e' = .returned (.int .i64 (usedP A')) ∧ T w' from ⟨hp.1, tt _ _ h hp.2⟩))
      have HDN := Lib.hid (fun W (h : T W) => (down_dp (hd8.below (tb W h))).mono fun e' w' hp => (show e' = .returned (.bool (downP A')) ∧ T w' from ⟨hp.1, tt _ _ h hp.2⟩))
      have HLI := Lib.hid (fun W (h : T W) => (list_dp (hd8.below (tb W h)) hAk1 (by omega)).mono fun e' w' hp => (show ∃ p c, e' = .returned (.slice p (listP A').length c) ∧ InS w' p (listP A') ∧ T w' from by
        obtain ⟨p, c, h1, _, h3, h4⟩ := hp
        exact ⟨p, c, h1, h3, tt _ _ h h4⟩))
      have HCF := Lib.hid (fun W (h : T W) => (copyFate_any fn K fp _ fc rfl (by omega) W (hK.below (hBw8.trans ((tb W h).mono hBw8.size)))).mono fun e' w' hp => (show ∃ p c, e' = .returned (.agg #[.int .i64 fn, .slice p K.length c]) ∧ InV w' p (K.map (Value.int .i64)) ∧ T w' from by
        obtain ⟨p, c, h1, h2, _, h4⟩ := hp
        exact ⟨p, c, h1, h2, tt _ _ h h4⟩))
      have HLF := Lib.hid (fun W p c (h : T W) (hin : InV W p (K.map (Value.int .i64))) => (left_dp (hd8.below (tb W h)) hAk1 (by omega) fn K p _ c rfl hin).mono fun e' w' hp => (show ∃ p c, e' = .returned (.slice p (leftP A' fn K).length c) ∧ InFs w' p (leftP A' fn K) ∧ T w' from by
        obtain ⟨p, c, h1, _, h3, h4⟩ := hp
        exact ⟨p, c, h1, h3, tt _ _ h h4⟩))
      have hlb := left_bounds hAk1 (by omega) fn K
      have hlA := left_bounds hAk (by omega) fn K
      have HSF := Lib.hid (fun W p c (h : T W) (hin : InFs W p (leftP A' fn K)) => (sameFiles_any (leftP A' fn K) (leftP A fn K) p p6 _ c _ c6 rfl rfl (by omega) (by omega) W hin (hiF.below (tb W h))).mono fun e' w' hp => (show e' = .returned (.bool (decide (leftP A' fn K = leftP A fn K))) ∧ T w' from ⟨hp.1, tt _ _ h hp.2⟩))
      have hln : (listP A').length ≤ 4000000000000 := by
        have := (hAk1.fitP (by omega)).now
        unfold listP
        split
        · simp
        · rw [List.length_map]; exact this
      have hlnA : (listP A).length ≤ 4000000000000 := by
        have := (hAk.fitP (by omega)).now
        unfold listP
        split
        · simp
        · rw [List.length_map]; exact this
      have HSX := Lib.hid (fun W p c (h : T W) (hin : InS W p (listP A')) => (sameTexts_any (listP A') (listP A) p p4 _ c _ c4 rfl rfl (by unfold maxLen; omega) (by unfold maxLen; omega) W hin (hiL.below (tb W h))).mono fun e' w' hp => (show e' = .returned (.bool (decide (listP A' = listP A))) ∧ T w' from ⟨hp.1, tt _ _ h hp.2⟩))
      have HD8 := Lib.hid hd8
      have HZ := Lib.hid hz
      clear hbk8 k80 k81 hBw8 hL8 hF8 hiL hiF hT tb bt' tt c1 d0 d1 hAk1 hlb hlA hln hlnA hd8 ho8 hz
      obtain ⟨u, hu⟩ : ∃ u, u = usedP A' := ⟨_, rfl⟩
      rw [← hu] at HUS
      have hur2 := HSN.out.2.1
      rw [← hu] at hur2
      have HU := Lib.hid hu
      clear hu
      have HURF := Lib.hid hur2
      by_cases hgt : room < (u : Int)
      · have hle : u ≤ u0 := by
          rcases hur2 with h | h
          · exact h
          · omega
        have g1 : decide (room < (u : Int)) = true := decide_eq_true hgt
        have g2 : decide ((u0 : Int) < (u : Int)) = false := decide_eq_false (by omega)
        clear hgt hur2
        go_wp2_with fail
        go_region_held3 (fun W => W.cell? ⟨w.heap.size, 1, none⟩ = some (.int .i64 room))
          (first | (with_reducible exact HSA.out _ HT0.out) | (with_reducible exact HSA.out _ HT1.out) | (with_reducible exact HSA.out _ HT2.out))
          (first
            | (go_at_call 32; with_reducible refine (HUS.out _ HT1.out).mono ?_; rintro e10 w10 ⟨rfl, hk⟩; have HT2 := Lib.hid hk; clear hk)
            | (go_at_call 32; with_reducible refine (HUS.out _ HT0.out).mono ?_; rintro e9 w9 ⟨rfl, hk⟩; have HT1 := Lib.hid hk; clear hk))
        all_goals
          by_cases hz0 : z = 0
          · subst hz0
            have HTL := Lib.hid HT2.out
            go_wp2_with fail
            go_roundw
            case rel => exact ⟨k + 1, by omega, by go_num, by rw [HSN.out.1]; exact HD8.out.below (HTB.out _ HTL.out), by rw [HSN.out.1, ← HU.out]; exact HURF.out⟩
            case measure => simp [intOf]; omega
          · have z1 : (z == 0) = false := beq_eq_false_iff_ne.2 hz0
            have z2 : (z != 0) = true := by simp [bne, z1]
            have herr := HERR.out (by rw [← HZ.out]; exact hz0)
            have hus' : usedP A' = usedP A := by rw [herr, usedP_tick]
            have huu : u = usedP A := by rw [HU.out, hus']
            have hlfe : leftP A' fn K = leftP A fn K := by rw [herr, leftP_tick]
            have hlie : downP A' = false → listP A' = listP A := fun h => by rw [herr] at h ⊢; exact listP_tick A h
            have HEQ := Lib.hid (And.intro hlie (And.intro hlfe huu))
            have n1 : ((u : Int) != (usedP A : Int)) = false := by rw [← huu]; simp
            clear herr hus' huu hlfe hlie hz0
            go_wp2_with fail
            refine (HUS.out _ HT2.out).mono ?_
            rintro e11 w11 ⟨rfl, hk⟩
            have HT3 := Lib.hid hk
            clear hk
            go_wp2_with fail
            refine (HDN.out _ HT3.out).mono ?_
            rintro e12 w12 ⟨rfl, hk⟩
            have HT4 := Lib.hid hk
            clear hk
            cases hdn : downP A' with
            | true =>
              have HT6 := Lib.hid HT4.out
              have b6 := HSB.out _ HT6.out
              obtain ⟨b60, b61⟩ := b6
              go_wp2_with fail
              refine (HCF.out _ HT6.out).mono ?_
              rintro e15 w15 ⟨p15, c15, rfl, hin15, hk⟩
              have hlf15 := HLF.out _ p15 c15 hk hin15
              clear hin15 hk
              go_wp2_with fail
              refine hlf15.mono ?_
              rintro e16 w16 ⟨p16, c16, rfl, hin16, hk⟩
              have hsf16 := HSF.out _ p16 c16 hk hin16
              rw [decide_eq_true HEQ.out.2.1] at hsf16
              clear hin16 hk hlf15
              go_wp2_with fail
              refine hsf16.mono ?_
              rintro e17 w17 ⟨rfl, hk⟩
              have HTL := Lib.hid hk
              clear hsf16 hk
              go_wp2_with fail
              go_roundw
              case rel => exact ⟨k + 1, by omega, by go_num, by rw [HSN.out.1]; exact HD8.out.below (HTB.out _ HTL.out), by rw [HSN.out.1, ← HU.out]; exact HURF.out⟩
              case measure => simp [intOf]; omega
            | false =>
              have hli13 := HLI.out _ HT4.out
              go_wp2_with fail
              refine hli13.mono ?_
              rintro e13 w13 ⟨p13, c13, rfl, hin13, hk⟩
              clear hli13
              have hsx := HSX.out _ p13 c13 hk hin13
              rw [decide_eq_true (HEQ.out.1 hdn)] at hsx
              clear hin13 hk
              go_wp2_with fail
              refine hsx.mono ?_
              rintro e14 w14 ⟨rfl, hk⟩
              have HT6 := Lib.hid hk
              clear hsx hk
              have b6 := HSB.out _ HT6.out
              obtain ⟨b60, b61⟩ := b6
              go_wp2_with fail
              refine (HCF.out _ HT6.out).mono ?_
              rintro e15 w15 ⟨p15, c15, rfl, hin15, hk⟩
              have hlf15 := HLF.out _ p15 c15 hk hin15
              clear hin15 hk
              go_wp2_with fail
              refine hlf15.mono ?_
              rintro e16 w16 ⟨p16, c16, rfl, hin16, hk⟩
              have hsf16 := HSF.out _ p16 c16 hk hin16
              rw [decide_eq_true HEQ.out.2.1] at hsf16
              clear hin16 hk hlf15
              go_wp2_with fail
              refine hsf16.mono ?_
              rintro e17 w17 ⟨rfl, hk⟩
              have HTL := Lib.hid hk
              clear hsf16 hk
              go_wp2_with fail
              go_roundw
              case rel => exact ⟨k + 1, by omega, by go_num, by rw [HSN.out.1]; exact HD8.out.below (HTB.out _ HTL.out), by rw [HSN.out.1, ← HU.out]; exact HURF.out⟩
              case measure => simp [intOf]; omega
      · have hng : (u : Int) ≤ room := by omega
        have g1 : decide (room < (u : Int)) = false := decide_eq_false hgt
        clear hur2
        go_wp2_with fail
        have c80 := HSA.out _ HT0.out
        first | (go_region_with (with_reducible refine (HUS.out _ HT0.out).mono ?_; rintro e9 w9 ⟨rfl, hk⟩; have HT2 := Lib.hid hk; have c90 := HSA.out _ hk; clear hk)) | fail
        all_goals
          by_cases hz0 : z = 0
          · subst hz0
            have HTL := Lib.hid HT2.out
            go_wp2_with fail
            go_roundw
            case rel => exact ⟨k + 1, by omega, by go_num, by rw [HSN.out.1]; exact HD8.out.below (HTB.out _ HTL.out), by rw [HSN.out.1, ← HU.out]; exact HURF.out⟩
            case measure => simp [intOf]; omega
          · have z1 : (z == 0) = false := beq_eq_false_iff_ne.2 hz0
            have z2 : (z != 0) = true := by simp [bne, z1]
            have herr := HERR.out (by rw [← HZ.out]; exact hz0)
            have hus' : usedP A' = usedP A := by rw [herr, usedP_tick]
            have huu : u = usedP A := by rw [HU.out, hus']
            have hlfe : leftP A' fn K = leftP A fn K := by rw [herr, leftP_tick]
            have hlie : downP A' = false → listP A' = listP A := fun h => by rw [herr] at h ⊢; exact listP_tick A h
            have HEQ := Lib.hid (And.intro hlie (And.intro hlfe huu))
            have n1 : ((u : Int) != (usedP A : Int)) = false := by rw [← huu]; simp
            clear herr hus' huu hlfe hlie hz0
            go_wp2_with fail
            refine (HUS.out _ HT2.out).mono ?_
            rintro e11 w11 ⟨rfl, hk⟩
            have HT3 := Lib.hid hk
            clear hk
            go_wp2_with fail
            refine (HDN.out _ HT3.out).mono ?_
            rintro e12 w12 ⟨rfl, hk⟩
            have HT4 := Lib.hid hk
            clear hk
            cases hdn : downP A' with
            | true =>
              have HT6 := Lib.hid HT4.out
              have b6 := HSB.out _ HT6.out
              obtain ⟨b60, b61⟩ := b6
              go_wp2_with fail
              refine (HCF.out _ HT6.out).mono ?_
              rintro e15 w15 ⟨p15, c15, rfl, hin15, hk⟩
              have hlf15 := HLF.out _ p15 c15 hk hin15
              clear hin15 hk
              go_wp2_with fail
              refine hlf15.mono ?_
              rintro e16 w16 ⟨p16, c16, rfl, hin16, hk⟩
              have hsf16 := HSF.out _ p16 c16 hk hin16
              rw [decide_eq_true HEQ.out.2.1] at hsf16
              clear hin16 hk hlf15
              go_wp2_with fail
              refine hsf16.mono ?_
              rintro e17 w17 ⟨rfl, hk⟩
              have HTL := Lib.hid hk
              clear hsf16 hk
              go_wp2_with fail
              go_roundw
              case rel => exact ⟨k + 1, by omega, by go_num, by rw [HSN.out.1]; exact HD8.out.below (HTB.out _ HTL.out), by rw [HSN.out.1, ← HU.out]; exact HURF.out⟩
              case measure => simp [intOf]; omega
            | false =>
              have hli13 := HLI.out _ HT4.out
              go_wp2_with fail
              refine hli13.mono ?_
              rintro e13 w13 ⟨p13, c13, rfl, hin13, hk⟩
              clear hli13
              have hsx := HSX.out _ p13 c13 hk hin13
              rw [decide_eq_true (HEQ.out.1 hdn)] at hsx
              clear hin13 hk
              go_wp2_with fail
              refine hsx.mono ?_
              rintro e14 w14 ⟨rfl, hk⟩
              have HT6 := Lib.hid hk
              clear hsx hk
              have b6 := HSB.out _ HT6.out
              obtain ⟨b60, b61⟩ := b6
              go_wp2_with fail
              refine (HCF.out _ HT6.out).mono ?_
              rintro e15 w15 ⟨p15, c15, rfl, hin15, hk⟩
              have hlf15 := HLF.out _ p15 c15 hk hin15
              clear hin15 hk
              go_wp2_with fail
              refine hlf15.mono ?_
              rintro e16 w16 ⟨p16, c16, rfl, hin16, hk⟩
              have hsf16 := HSF.out _ p16 c16 hk hin16
              rw [decide_eq_true HEQ.out.2.1] at hsf16
              clear hin16 hk hlf15
              go_wp2_with fail
              refine hsf16.mono ?_
              rintro e17 w17 ⟨rfl, hk⟩
              have HTL := Lib.hid hk
              clear hsf16 hk
              go_wp2_with fail
              go_roundw
              case rel => exact ⟨k + 1, by omega, by go_num, by rw [HSN.out.1]; exact HD8.out.below (HTB.out _ HTL.out), by rw [HSN.out.1, ← HU.out]; exact HURF.out⟩
              case measure => simp [intOf]; omega
    · obtain rfl : k = M.length := by omega
      clear hd hur
      go_wp2_with fail
      go_ret
      exact ⟨rfl, hBr⟩
end Go.Proofs.YtnhfnfdmpcpcoaaDoor
