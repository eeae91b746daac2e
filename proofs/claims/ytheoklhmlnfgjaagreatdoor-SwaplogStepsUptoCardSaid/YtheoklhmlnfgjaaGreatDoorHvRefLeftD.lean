/-
  The document's disk: Left, one of four ways.
-/
import Derived.Test.YtheoklhmlnfgjaaGreatDoorPk5
namespace Go.Proofs.YtheoklhmlnfgjaaGreatDoor
open Go.RowKit Go.Maps
set_option linter.unusedVariables false

set_option maxRecDepth 100000 in
set_option maxHeartbeats 40000000 in
theorem refLeft_d (r : RC) (A : Pl) (fn : Int) (K : List Int) (kp : Option Addr) (kl kc : Nat) (hkl : K.length = kl) (w : World) (h : RefAt w r A) (hK : InV w kp (K.map (Value.int .i64))) (hI : Inv A) (hS : InvS A) (hp : A.pend.length ≤ 1000000) (hs : A.safe.length ≤ 4000000000000) (hl : (leftNP A fn).length ≤ 4000000000000) (hd : ∀ f ∈ A.files, f.1.length ≤ 140737488351232) (hkk : kl ≤ 1000000000) (hw : ¬ (A.pend.length : Int) < fn ∧ ¬ 0 < fn) :
    Calls Tryz.prog 57 #[.agg (stC r A), .agg #[.int .i64 fn, .slice kp kl kc]] w fun e w' => ∃ v, e = .returned v ∧ OwnFs w' w.heap.size v (leftP A fn K) ∧ Below w.heap.size w w' := by
  obtain ⟨p1, d1, p2, d2, p3, d3, p4, d4, p5, d5, p6, d6⟩ := r
  have hP : InNs w p3 (pendN A) := h.pend
  have hSf : InN w p2 A.safe := h.safe
  have hDt := fun (W : World) (hb : Below w.heap.size w W) (i : Nat) (hi : i < A.files.length) => (h.below hb).dat hi
  have hFm : InV w p5 (A.files.map fun f : BS × Nat => .int .i64 (f.2 : Int)) := h.firm
  have HH := Lib.hid (And.intro hDt hFm)
  clear h hDt hFm
  show Calls Tryz.prog 57 #[.agg #[.slice p1 A.now.length d1, .slice p2 A.safe.length d2, .slice p3 A.pend.length d3, .slice p4 A.files.length d4, .slice p5 A.files.length d5, .int .i64 (A.room : Int), .slice p6 A.fails.length d6, .int .i64 A.power, .int .i64 (A.steps : Int)], .agg #[.int .i64 fn, .slice kp kl kc]] w _
  obtain ⟨n2, hn2⟩ : ∃ n2, n2 = A.safe.length := ⟨_, rfl⟩
  obtain ⟨n3, hn3⟩ : ∃ n3, n3 = A.pend.length := ⟨_, rfl⟩
  rw [← hn2, ← hn3]
  rw [← hn2] at hs
  rw [← hn3] at hp
  have HNN := Lib.hid (And.intro hn2 hn3)
  clear hn2 hn3
  obtain ⟨wa, hwa⟩ : ∃ x, x = (w.alloc (.cells #[.slice p1 A.now.length d1, .slice p2 n2 d2, .slice p3 n3 d3, .slice p4 A.files.length d4, .slice p5 A.files.length d5, .int .i64 (A.room : Int), .slice p6 A.fails.length d6, .int .i64 A.power, .int .i64 (A.steps : Int)] 51)).alloc (.cells #[.int .i64 fn, .slice kp kl kc] 43) := ⟨_, rfl⟩
  have hba : Below w.heap.size w wa := by rw [hwa]; exact ((Below.refl _ w).alloc (Nat.le_refl _) _).alloc (by simp) _
  have g0 : wa.heap[w.heap.size]? = some (.cells #[.slice p1 A.now.length d1, .slice p2 n2 d2, .slice p3 n3 d3, .slice p4 A.files.length d4, .slice p5 A.files.length d5, .int .i64 (A.room : Int), .slice p6 A.fails.length d6, .int .i64 A.power, .int .i64 (A.steps : Int)] 51 (0, 0)) := by
    rw [hwa]
    exact (heap_alloc_old _ _ (by simp)).trans (heap_alloc_new w _)
  have g1 : wa.heap[w.heap.size + 1]? = some (.cells #[.int .i64 fn, .slice kp kl kc] 43 (0, 0)) := by
    rw [hwa]
    have := heap_alloc_new (w.alloc (.cells #[.slice p1 A.now.length d1, .slice p2 n2 d2, .slice p3 n3 d3, .slice p4 A.files.length d4, .slice p5 A.files.length d5, .int .i64 (A.room : Int), .slice p6 A.fails.length d6, .int .i64 A.power, .int .i64 (A.steps : Int)] 51)) (.cells #[.int .i64 fn, .slice kp kl kc] 43)
    rw [World.size_alloc] at this
    exact this
  have hcells := fun W (hb : Below wa.heap.size wa W) => And.intro (st9v ((hb.block _ (lt_of_heap g0)).trans g0)) (show W.cell? ⟨w.heap.size + 1, 0, none⟩ = some (.int .i64 fn) ∧ W.cell? ⟨w.heap.size + 1, 1, none⟩ = some (.slice kp kl kc) from by
    have := (hb.block _ (lt_of_heap g1)).trans g1
    constructor <;> (rw [cell_of_row _ _ _ _ _ _ this]; rfl))
  have HC := Lib.hid (And.intro hcells hba)
  have HWS := Lib.hid (show wa.heap.size = w.heap.size + 1 + 1 by rw [hwa]; simp)
  have HW := Lib.hid hwa
  obtain ⟨M, hM⟩ : ∃ M, M = leftNP A fn := ⟨_, rfl⟩
  have hMlt := hS.left fn
  have hLP : leftP A fn K = M.map fun x => (x.1, leftDP A K x.2) := by rw [hM]; rfl
  rw [← hM] at hl hMlt
  have HM := Lib.hid (And.intro hM hLP)
  clear hM hLP hcells hba g0 g1 hwa
  have hgt : ¬ (n3 : Int) < fn := by rw [HNN.out.2]; exact hw.1
  have hfp : ¬ 0 < fn := hw.2
  clear hw
  have q1 : fn ≤ 0 := by omega
  have hx := leftN_none (A := A) (n := fn) (.inl (by omega))
  have hinM := hSf.below HC.out.2
  rw [← hx, ← HM.out.1] at hinM
  have hml : n2 = M.length := by rw [HNN.out.1, HM.out.1, hx]
  obtain ⟨qm, hqm⟩ : ∃ qm, qm = p2 := ⟨_, rfl⟩
  subst hqm
  subst hml
  clear hx
  go_enter Tryz.func57, Tryz.ntmps57
  go_wp2_with fail
  rw [← HW.out]
  have hmade := OwnFs.made wa
  have hbm := (Below.refl _ wa).alloc (Nat.le_refl _) (.cells #[] 89)
  go_loopw [7, 8] (fun v i wr => ∃ j : Nat, j ≤ M.length ∧ i = .int .i64 j ∧ OwnFs wr wa.heap.size v ((M.take j).map fun x => (x.1, leftDP A K x.2)) ∧ Below wa.heap.size wa wr) (fun _ i _ => M.length - (intOf i).toNat)
  case atStart => exact ⟨0, Nat.zero_le _, rfl, by rw [List.take_zero, ← HWS.out]; exact hmade, hbm⟩
  case round =>
    obtain ⟨j, hj, rfl, hown, hb⟩ := hrel
    obtain ⟨⟨a0, a1, a2, a3, a4, a5, a6, a7, a8, af⟩, c0, c1⟩ := HC.out.1 wr hb
    have hbw := HC.out.2.trans (hb.mono HC.out.2.size)
    by_cases hjl : j < M.length
    · obtain ⟨b, o, rfl, x, hxw1, hxw2, hx⟩ := hinM.at hjl
      have hx1 := cell_keep hxw1 hb
      have hx2 := cell_keep hxw2 hb
      have hfl := hMlt _ (List.getElem_mem hjl)
      obtain ⟨f, hf⟩ : ∃ f, f = M[j].2 := ⟨_, rfl⟩
      rw [← hf] at hx2 hxw2 hfl
      obtain ⟨b4, o4, hp4, q9, c9, hdw9, hd9l, hinw9, _, hcp9⟩ := HH.out.1 w (Below.refl _ w) f hfl
      have hd9 := cell_keep hdw9 hbw
      have hin9 := hinw9.below hbw
      have hp4 : p4 = some ⟨b4, o4, none⟩ := hp4
      subst hp4
      obtain ⟨b5, o5, rfl, hc5⟩ := (HH.out.2.below hbw).at (k := f) (by rw [List.length_map]; exact hfl)
      have hf5 := hc5 f (by rw [List.length_map]; exact hfl)
      rw [List.getElem_map] at hf5
      have hfi := hI.firm _ (List.getElem_mem hfl)
      have hdl := hd _ (List.getElem_mem hfl)
      have hde : A.files[f].1 = datP A f := by unfold datP; rw [List.getElem?_eq_getElem hfl]; rfl
      have hfe : A.files[f].2 = firmP A f := by unfold firmP; rw [List.getElem?_eq_getElem hfl]; rfl
      rw [hde] at hdl
      rw [hde, hfe] at hfi
      rw [hfe] at hf5
      obtain ⟨D, hD⟩ : ∃ D, D = datP A f := ⟨_, rfl⟩
      obtain ⟨m, hm⟩ : ∃ m, m = firmP A f := ⟨_, rfl⟩
      rw [← hD] at hd9 hdw9 hd9l hin9 hinw9 hfi hdl hcp9
      rw [← hm] at hf5 hfi
      obtain ⟨TT, hTT⟩ : ∃ TT : List FT, TT = (M.take j).map fun x => (x.1, leftDP A K x.2) := ⟨_, rfl⟩
      rw [← hTT] at hown
      have hTTl : TT.length ≤ 4000000000000 := by rw [hTT, List.length_map, List.length_take]; omega
      have HTT := Lib.hid hTT
      clear hTT
      have HX := Lib.hid (And.intro hx (And.intro hf (And.intro hD hm)))
      have HO := Lib.hid (And.intro hown (And.intro hb (And.intro hbw hin9)))
      clear hx hf hD hm hc5 hde hfe hown hb hbw hin9
      by_cases hkf : f < kl
      · have hkf2 : (f : Int) < (kl : Int) := by omega
        have hkK : f < K.length := by omega
        obtain ⟨b6, o6, rfl, hc6⟩ := hK.at (k := f) (by rw [List.length_map]; exact hkK)
        have hz6 := cell_keep (hc6 f (by rw [List.length_map]; exact hkK)) HO.out.2.2.1
        rw [List.getElem_map] at hz6
        have hKz : K[f]? = some K[f] := List.getElem?_eq_getElem hkK
        obtain ⟨z, hz⟩ : ∃ z, z = K[f] := ⟨_, rfl⟩
        rw [← hz] at hz6 hKz
        have HKZ := Lib.hid hKz
        clear hz hc6 hKz
        by_cases hz0 : 0 < z
        · obtain ⟨zn, rfl⟩ : ∃ zn : Nat, z = (zn : Int) := ⟨z.toNat, by omega⟩
          by_cases hzl : (zn : Int) < (D.length : Int) - (m : Int)
          · have HL := Lib.hid (show leftDP A K f = D.take (m + zn) from by
              rw [left_part (A := A) (keep := K) (i := f) (z := (zn : Int)) HKZ.out hz0 (by rw [← HX.out.2.2.1, ← HX.out.2.2.2]; omega), ← HX.out.2.2.1, ← HX.out.2.2.2]
              rfl)
            go_wp2_with fail
            obtain ⟨n9, hn9⟩ : ∃ n9 : Nat, n9 = m + zn := ⟨_, rfl⟩
            have hcast : ((m : Int) + (zn : Int)) = (n9 : Int) := by omega
            rw [hcast]
            have hn9l : n9 ≤ D.length := by omega
            obtain ⟨y, hy⟩ : ∃ y, y = D.take n9 := ⟨_, rfl⟩
            have hyl : y.length = n9 := by rw [hy, List.length_take]; omega
            have hcut := HO.out.2.2.2.take n9
            rw [← hy] at hcut
            obtain ⟨S, hS⟩ : ∃ S : World → Prop, S = fun W => W.cell? ⟨b, o + j * 2, none⟩ = some (.string x) ∧ W.cell? ⟨w.heap.size, 3, none⟩ = some (.slice (some ⟨b4, o4, none⟩) A.files.length d4) ∧ W.cell? ⟨b4, o4 + f, none⟩ = some (.slice q9 D.length c9) := ⟨_, rfl⟩
            have HSS := Lib.hid (fun W => show S W ↔ W.cell? ⟨b, o + j * 2, none⟩ = some (.string x) ∧ W.cell? ⟨w.heap.size, 3, none⟩ = some (.slice (some ⟨b4, o4, none⟩) A.files.length d4) ∧ W.cell? ⟨b4, o4 + f, none⟩ = some (.slice q9 D.length c9) by rw [hS])
            have step : ∀ W, Below wa.heap.size wa W → S W := fun W hb => by rw [hS]; exact ⟨cell_keep hxw1 hb, (HC.out.1 W hb).1.2.2.2.1, cell_keep hdw9 (HC.out.2.trans (hb.mono HC.out.2.size))⟩
            have HST := Lib.hid step
            have HK0 := Lib.hid (step _ HO.out.2.1.drew)
            have HCL := Lib.hid (show Calls Tryz.prog 14 #[.slice q9 n9 c9] wr.drew fun e w' => ∃ qv cv, e = .returned (.slice qv n9 cv) ∧ Own8 w' wa.heap.size (.slice qv n9 cv) y ∧ Below wr.heap.size wr w' ∧ S w' ∧ S (w'.alloc (.cells #[.string x, .slice qv n9 cv] 89)) from
              (copyBytes_any y q9 _ c9 hyl (by omega) wr.drew (hcut.below (Below.refl _ wr).drew)).mono fun _ w' ⟨v, h1, h2, h3⟩ => by
                obtain ⟨qv, cv, rfl, _⟩ := h2.in8n hyl
                have hb4 : Below wr.heap.size wr w' := ((Below.refl _ wr).drew).trans h3
                have hb5 := HO.out.2.1.trans (hb4.mono HO.out.2.1.size)
                exact ⟨qv, cv, h1, h2.mono HO.out.2.1.size, hb4, step _ hb5, step _ (hb5.alloc (Nat.le_trans HO.out.2.1.size hb4.size) _)⟩)
            have HY := Lib.hid (show leftDP A K f = y from by rw [hy, hn9]; exact HL.out)
            have i1 : (0 : Int) ≤ (n9 : Int) := by omega
            have i2 : (n9 : Int) ≤ (c9 : Int) := by omega
            have i3 : n9 ≤ c9 := by omega
            have HN9 := Lib.hid hn9
            clear hy hS step hcut hn9 hcast
            go_region_held3 (fun W => W.cell? ⟨b, o + j * 2, none⟩ = some (.string x) ∧ W.cell? ⟨w.heap.size, 3, none⟩ = some (.slice (some ⟨b4, o4, none⟩) A.files.length d4) ∧ W.cell? ⟨b4, o4 + f, none⟩ = some (.slice q9 D.length c9))
              (first | (with_reducible exact (HSS.out _).1 HK0.out) | (with_reducible exact (HSS.out _).1 HK1.out) | (with_reducible exact (HSS.out _).1 HK2.out) | (with_reducible exact (HSS.out _).1 HK3.out))
              (first
                | (go_at_call 14; with_reducible refine HCL.out.mono ?_; rintro e w4 ⟨qv, cv, rfl, hown4, hb4, hk1, hk2⟩; have HK1 := Lib.hid hk1; have HK2 := Lib.hid hk2; have HO4 := Lib.hid (And.intro hown4 hb4); clear hk1 hk2 hown4 hb4)
                | (refine step_appendFs rfl _ _ rfl wa.heap.size _ TT rfl (HO.out.1.below (HO4.out.2.alloc HO4.out.2.size (.cells #[.string x, .slice qv n9 cv] 89))) w4.heap.size _ x.data.toList (.slice qv n9 cv) y rfl (InE.one w4 x _ _) (HO4.out.1.alloc _) (by omega) (by have h1 := HO.out.2.1.size; have h2 := HO4.out.2.size; simp only [World.size_alloc]; omega) ?_; intro v6 w6 hfs6 hg6; have HB6 := Lib.hid ((HO.out.1.below (HO4.out.2.alloc HO4.out.2.size (.cells #[.string x, .slice qv n9 cv] 89))).grown ((HO.out.2.1.trans (HO4.out.2.mono HO.out.2.1.size)).alloc (Nat.le_trans HO.out.2.1.size HO4.out.2.size) _) (by have h1 := HO.out.2.1.size; have h2 := HO4.out.2.size; simp only [World.size_alloc]; omega) hg6); have HK3 := Lib.hid (HST.out _ HB6.out); have HF6 := Lib.hid hfs6; clear hfs6 hg6))
            all_goals
              go_wp2_with fail
              go_roundw
              case rel => exact ⟨j + 1, by omega, by go_num, by rw [takes hjl, List.map_append, List.map_cons, List.map_nil, ← HX.out.1, ← HX.out.2.1, HY.out, ← HTT.out]; exact HF6.out, HB6.out⟩
              case measure => simp [intOf]; omega
          · have HL := Lib.hid (show leftDP A K f = D.take (m + (D.length - m)) from by
              rw [left_all HKZ.out (by rw [← HX.out.2.2.1, ← HX.out.2.2.2]; omega) (by rw [← HX.out.2.2.1, ← HX.out.2.2.2]; exact hfi), ← HX.out.2.2.1]
              exact (List.take_of_length_le (by omega)).symm)
            go_wp2_with fail
            obtain ⟨n9, hn9⟩ : ∃ n9 : Nat, n9 = m + (D.length - m) := ⟨_, rfl⟩
            have hcast : ((m : Int) + ((D.length : Int) - (m : Int))) = (n9 : Int) := by omega
            rw [hcast]
            have hn9l : n9 ≤ D.length := by omega
            obtain ⟨y, hy⟩ : ∃ y, y = D.take n9 := ⟨_, rfl⟩
            have hyl : y.length = n9 := by rw [hy, List.length_take]; omega
            have hcut := HO.out.2.2.2.take n9
            rw [← hy] at hcut
            obtain ⟨S, hS⟩ : ∃ S : World → Prop, S = fun W => W.cell? ⟨b, o + j * 2, none⟩ = some (.string x) ∧ W.cell? ⟨w.heap.size, 3, none⟩ = some (.slice (some ⟨b4, o4, none⟩) A.files.length d4) ∧ W.cell? ⟨b4, o4 + f, none⟩ = some (.slice q9 D.length c9) := ⟨_, rfl⟩
            have HSS := Lib.hid (fun W => show S W ↔ W.cell? ⟨b, o + j * 2, none⟩ = some (.string x) ∧ W.cell? ⟨w.heap.size, 3, none⟩ = some (.slice (some ⟨b4, o4, none⟩) A.files.length d4) ∧ W.cell? ⟨b4, o4 + f, none⟩ = some (.slice q9 D.length c9) by rw [hS])
            have step : ∀ W, Below wa.heap.size wa W → S W := fun W hb => by rw [hS]; exact ⟨cell_keep hxw1 hb, (HC.out.1 W hb).1.2.2.2.1, cell_keep hdw9 (HC.out.2.trans (hb.mono HC.out.2.size))⟩
            have HST := Lib.hid step
            have HK0 := Lib.hid (step _ HO.out.2.1.drew)
            have HCL := Lib.hid (show Calls Tryz.prog 14 #[.slice q9 n9 c9] wr.drew fun e w' => ∃ qv cv, e = .returned (.slice qv n9 cv) ∧ Own8 w' wa.heap.size (.slice qv n9 cv) y ∧ Below wr.heap.size wr w' ∧ S w' ∧ S (w'.alloc (.cells #[.string x, .slice qv n9 cv] 89)) from
              (copyBytes_any y q9 _ c9 hyl (by omega) wr.drew (hcut.below (Below.refl _ wr).drew)).mono fun _ w' ⟨v, h1, h2, h3⟩ => by
                obtain ⟨qv, cv, rfl, _⟩ := h2.in8n hyl
                have hb4 : Below wr.heap.size wr w' := ((Below.refl _ wr).drew).trans h3
                have hb5 := HO.out.2.1.trans (hb4.mono HO.out.2.1.size)
                exact ⟨qv, cv, h1, h2.mono HO.out.2.1.size, hb4, step _ hb5, step _ (hb5.alloc (Nat.le_trans HO.out.2.1.size hb4.size) _)⟩)
            have HY := Lib.hid (show leftDP A K f = y from by rw [hy, hn9]; exact HL.out)
            have i1 : (0 : Int) ≤ (n9 : Int) := by omega
            have i2 : (n9 : Int) ≤ (c9 : Int) := by omega
            have i3 : n9 ≤ c9 := by omega
            have HN9 := Lib.hid hn9
            clear hy hS step hcut hn9 hcast
            go_region_held3 (fun W => W.cell? ⟨b, o + j * 2, none⟩ = some (.string x) ∧ W.cell? ⟨w.heap.size, 3, none⟩ = some (.slice (some ⟨b4, o4, none⟩) A.files.length d4) ∧ W.cell? ⟨b4, o4 + f, none⟩ = some (.slice q9 D.length c9))
              (first | (with_reducible exact (HSS.out _).1 HK0.out) | (with_reducible exact (HSS.out _).1 HK1.out) | (with_reducible exact (HSS.out _).1 HK2.out) | (with_reducible exact (HSS.out _).1 HK3.out))
              (first
                | (go_at_call 14; with_reducible refine HCL.out.mono ?_; rintro e w4 ⟨qv, cv, rfl, hown4, hb4, hk1, hk2⟩; have HK1 := Lib.hid hk1; have HK2 := Lib.hid hk2; have HO4 := Lib.hid (And.intro hown4 hb4); clear hk1 hk2 hown4 hb4)
                | (refine step_appendFs rfl _ _ rfl wa.heap.size _ TT rfl (HO.out.1.below (HO4.out.2.alloc HO4.out.2.size (.cells #[.string x, .slice qv n9 cv] 89))) w4.heap.size _ x.data.toList (.slice qv n9 cv) y rfl (InE.one w4 x _ _) (HO4.out.1.alloc _) (by omega) (by have h1 := HO.out.2.1.size; have h2 := HO4.out.2.size; simp only [World.size_alloc]; omega) ?_; intro v6 w6 hfs6 hg6; have HB6 := Lib.hid ((HO.out.1.below (HO4.out.2.alloc HO4.out.2.size (.cells #[.string x, .slice qv n9 cv] 89))).grown ((HO.out.2.1.trans (HO4.out.2.mono HO.out.2.1.size)).alloc (Nat.le_trans HO.out.2.1.size HO4.out.2.size) _) (by have h1 := HO.out.2.1.size; have h2 := HO4.out.2.size; simp only [World.size_alloc]; omega) hg6); have HK3 := Lib.hid (HST.out _ HB6.out); have HF6 := Lib.hid hfs6; clear hfs6 hg6))
            all_goals
              go_wp2_with fail
              go_roundw
              case rel => exact ⟨j + 1, by omega, by go_num, by rw [takes hjl, List.map_append, List.map_cons, List.map_nil, ← HX.out.1, ← HX.out.2.1, HY.out, ← HTT.out]; exact HF6.out, HB6.out⟩
              case measure => simp [intOf]; omega
        · have HL := Lib.hid (show leftDP A K f = D.take m from by rw [HX.out.2.2.1, HX.out.2.2.2]; exact left_none (fun z' hz' => by rw [HKZ.out] at hz'; injection hz' with hz'; omega))
          go_wp2_with fail
          obtain ⟨y, hy⟩ : ∃ y, y = D.take m := ⟨_, rfl⟩
          have hyl : y.length = m := by rw [hy, List.length_take]; omega
          have hcut := HO.out.2.2.2.take (m)
          rw [← hy] at hcut
          obtain ⟨S, hS⟩ : ∃ S : World → Prop, S = fun W => W.cell? ⟨b, o + j * 2, none⟩ = some (.string x) ∧ W.cell? ⟨w.heap.size, 3, none⟩ = some (.slice (some ⟨b4, o4, none⟩) A.files.length d4) ∧ W.cell? ⟨b4, o4 + f, none⟩ = some (.slice q9 D.length c9) := ⟨_, rfl⟩
          have HSS := Lib.hid (fun W => show S W ↔ W.cell? ⟨b, o + j * 2, none⟩ = some (.string x) ∧ W.cell? ⟨w.heap.size, 3, none⟩ = some (.slice (some ⟨b4, o4, none⟩) A.files.length d4) ∧ W.cell? ⟨b4, o4 + f, none⟩ = some (.slice q9 D.length c9) by rw [hS])
          have step : ∀ W, Below wa.heap.size wa W → S W := fun W hb => by rw [hS]; exact ⟨cell_keep hxw1 hb, (HC.out.1 W hb).1.2.2.2.1, cell_keep hdw9 (HC.out.2.trans (hb.mono HC.out.2.size))⟩
          have HST := Lib.hid step
          have HK0 := Lib.hid (step _ HO.out.2.1.drew)
          have HCL := Lib.hid (show Calls Tryz.prog 14 #[.slice q9 m c9] wr.drew fun e w' => ∃ qv cv, e = .returned (.slice qv m cv) ∧ Own8 w' wa.heap.size (.slice qv m cv) y ∧ Below wr.heap.size wr w' ∧ S w' ∧ S (w'.alloc (.cells #[.string x, .slice qv m cv] 89)) from
            (copyBytes_any y q9 _ c9 hyl (by omega) wr.drew (hcut.below (Below.refl _ wr).drew)).mono fun _ w' ⟨v, h1, h2, h3⟩ => by
              obtain ⟨qv, cv, rfl, _⟩ := h2.in8n hyl
              have hb4 : Below wr.heap.size wr w' := ((Below.refl _ wr).drew).trans h3
              have hb5 := HO.out.2.1.trans (hb4.mono HO.out.2.1.size)
              exact ⟨qv, cv, h1, h2.mono HO.out.2.1.size, hb4, step _ hb5, step _ (hb5.alloc (Nat.le_trans HO.out.2.1.size hb4.size) _)⟩)
          have HY := Lib.hid (show leftDP A K f = y from by rw [hy]; exact HL.out)
          have i1 : (0 : Int) ≤ (m : Int) := by omega
          have i2 : (m : Int) ≤ (c9 : Int) := by omega
          have i3 : m ≤ c9 := by omega
          clear hy hS step hcut
          go_region_held3 (fun W => W.cell? ⟨b, o + j * 2, none⟩ = some (.string x) ∧ W.cell? ⟨w.heap.size, 3, none⟩ = some (.slice (some ⟨b4, o4, none⟩) A.files.length d4) ∧ W.cell? ⟨b4, o4 + f, none⟩ = some (.slice q9 D.length c9))
            (first | (with_reducible exact (HSS.out _).1 HK0.out) | (with_reducible exact (HSS.out _).1 HK1.out) | (with_reducible exact (HSS.out _).1 HK2.out) | (with_reducible exact (HSS.out _).1 HK3.out))
            (first
              | (go_at_call 14; with_reducible refine HCL.out.mono ?_; rintro e w4 ⟨qv, cv, rfl, hown4, hb4, hk1, hk2⟩; have HK1 := Lib.hid hk1; have HK2 := Lib.hid hk2; have HO4 := Lib.hid (And.intro hown4 hb4); clear hk1 hk2 hown4 hb4)
              | (refine step_appendFs rfl _ _ rfl wa.heap.size _ TT rfl (HO.out.1.below (HO4.out.2.alloc HO4.out.2.size (.cells #[.string x, .slice qv m cv] 89))) w4.heap.size _ x.data.toList (.slice qv m cv) y rfl (InE.one w4 x _ _) (HO4.out.1.alloc _) (by omega) (by have h1 := HO.out.2.1.size; have h2 := HO4.out.2.size; simp only [World.size_alloc]; omega) ?_; intro v6 w6 hfs6 hg6; have HB6 := Lib.hid ((HO.out.1.below (HO4.out.2.alloc HO4.out.2.size (.cells #[.string x, .slice qv m cv] 89))).grown ((HO.out.2.1.trans (HO4.out.2.mono HO.out.2.1.size)).alloc (Nat.le_trans HO.out.2.1.size HO4.out.2.size) _) (by have h1 := HO.out.2.1.size; have h2 := HO4.out.2.size; simp only [World.size_alloc]; omega) hg6); have HK3 := Lib.hid (HST.out _ HB6.out); have HF6 := Lib.hid hfs6; clear hfs6 hg6))
          all_goals
            go_wp2_with fail
            go_roundw
            case rel => exact ⟨j + 1, by omega, by go_num, by rw [takes hjl, List.map_append, List.map_cons, List.map_nil, ← HX.out.1, ← HX.out.2.1, HY.out, ← HTT.out]; exact HF6.out, HB6.out⟩
            case measure => simp [intOf]; omega
      · have hkf2 : ¬ (f : Int) < (kl : Int) := by omega
        have HL := Lib.hid (show leftDP A K f = D.take m from by rw [HX.out.2.2.1, HX.out.2.2.2]; exact left_none (fun z hz => by have := (List.getElem?_eq_some_iff.1 hz).1; omega))
        go_wp2_with fail
        obtain ⟨y, hy⟩ : ∃ y, y = D.take m := ⟨_, rfl⟩
        have hyl : y.length = m := by rw [hy, List.length_take]; omega
        have hcut := HO.out.2.2.2.take (m)
        rw [← hy] at hcut
        obtain ⟨S, hS⟩ : ∃ S : World → Prop, S = fun W => W.cell? ⟨b, o + j * 2, none⟩ = some (.string x) ∧ W.cell? ⟨w.heap.size, 3, none⟩ = some (.slice (some ⟨b4, o4, none⟩) A.files.length d4) ∧ W.cell? ⟨b4, o4 + f, none⟩ = some (.slice q9 D.length c9) := ⟨_, rfl⟩
        have HSS := Lib.hid (fun W => show S W ↔ W.cell? ⟨b, o + j * 2, none⟩ = some (.string x) ∧ W.cell? ⟨w.heap.size, 3, none⟩ = some (.slice (some ⟨b4, o4, none⟩) A.files.length d4) ∧ W.cell? ⟨b4, o4 + f, none⟩ = some (.slice q9 D.length c9) by rw [hS])
        have step : ∀ W, Below wa.heap.size wa W → S W := fun W hb => by rw [hS]; exact ⟨cell_keep hxw1 hb, (HC.out.1 W hb).1.2.2.2.1, cell_keep hdw9 (HC.out.2.trans (hb.mono HC.out.2.size))⟩
        have HST := Lib.hid step
        have HK0 := Lib.hid (step _ HO.out.2.1.drew)
        have HCL := Lib.hid (show Calls Tryz.prog 14 #[.slice q9 m c9] wr.drew fun e w' => ∃ qv cv, e = .returned (.slice qv m cv) ∧ Own8 w' wa.heap.size (.slice qv m cv) y ∧ Below wr.heap.size wr w' ∧ S w' ∧ S (w'.alloc (.cells #[.string x, .slice qv m cv] 89)) from
          (copyBytes_any y q9 _ c9 hyl (by omega) wr.drew (hcut.below (Below.refl _ wr).drew)).mono fun _ w' ⟨v, h1, h2, h3⟩ => by
            obtain ⟨qv, cv, rfl, _⟩ := h2.in8n hyl
            have hb4 : Below wr.heap.size wr w' := ((Below.refl _ wr).drew).trans h3
            have hb5 := HO.out.2.1.trans (hb4.mono HO.out.2.1.size)
            exact ⟨qv, cv, h1, h2.mono HO.out.2.1.size, hb4, step _ hb5, step _ (hb5.alloc (Nat.le_trans HO.out.2.1.size hb4.size) _)⟩)
        have HY := Lib.hid (show leftDP A K f = y from by rw [hy]; exact HL.out)
        have i1 : (0 : Int) ≤ (m : Int) := by omega
        have i2 : (m : Int) ≤ (c9 : Int) := by omega
        have i3 : m ≤ c9 := by omega
        clear hy hS step hcut
        go_region_held3 (fun W => W.cell? ⟨b, o + j * 2, none⟩ = some (.string x) ∧ W.cell? ⟨w.heap.size, 3, none⟩ = some (.slice (some ⟨b4, o4, none⟩) A.files.length d4) ∧ W.cell? ⟨b4, o4 + f, none⟩ = some (.slice q9 D.length c9))
          (first | (with_reducible exact (HSS.out _).1 HK0.out) | (with_reducible exact (HSS.out _).1 HK1.out) | (with_reducible exact (HSS.out _).1 HK2.out) | (with_reducible exact (HSS.out _).1 HK3.out))
          (first
            | (go_at_call 14; with_reducible refine HCL.out.mono ?_; rintro e w4 ⟨qv, cv, rfl, hown4, hb4, hk1, hk2⟩; have HK1 := Lib.hid hk1; have HK2 := Lib.hid hk2; have HO4 := Lib.hid (And.intro hown4 hb4); clear hk1 hk2 hown4 hb4)
            | (refine step_appendFs rfl _ _ rfl wa.heap.size _ TT rfl (HO.out.1.below (HO4.out.2.alloc HO4.out.2.size (.cells #[.string x, .slice qv m cv] 89))) w4.heap.size _ x.data.toList (.slice qv m cv) y rfl (InE.one w4 x _ _) (HO4.out.1.alloc _) (by omega) (by have h1 := HO.out.2.1.size; have h2 := HO4.out.2.size; simp only [World.size_alloc]; omega) ?_; intro v6 w6 hfs6 hg6; have HB6 := Lib.hid ((HO.out.1.below (HO4.out.2.alloc HO4.out.2.size (.cells #[.string x, .slice qv m cv] 89))).grown ((HO.out.2.1.trans (HO4.out.2.mono HO.out.2.1.size)).alloc (Nat.le_trans HO.out.2.1.size HO4.out.2.size) _) (by have h1 := HO.out.2.1.size; have h2 := HO4.out.2.size; simp only [World.size_alloc]; omega) hg6); have HK3 := Lib.hid (HST.out _ HB6.out); have HF6 := Lib.hid hfs6; clear hfs6 hg6))
        all_goals
          go_wp2_with fail
          go_roundw
          case rel => exact ⟨j + 1, by omega, by go_num, by rw [takes hjl, List.map_append, List.map_cons, List.map_nil, ← HX.out.1, ← HX.out.2.1, HY.out, ← HTT.out]; exact HF6.out, HB6.out⟩
          case measure => simp [intOf]; omega
    · obtain rfl : j = M.length := by omega
      rw [List.take_length, ← HM.out.2] at hown
      go_wp2_with fail
      go_ret
      exact ⟨_, rfl, hown.mono HC.out.2.size, hbw⟩
end Go.Proofs.YtheoklhmlnfgjaaGreatDoor
