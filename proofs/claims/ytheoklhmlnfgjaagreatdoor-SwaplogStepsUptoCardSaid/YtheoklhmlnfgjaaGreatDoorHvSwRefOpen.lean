/-
  The document's Open.
-/
import Derived.Test.YtheoklhmlnfgjaaGreatDoorHvSwRefRew
import Derived.Test.YtheoklhmlnfgjaaGreatDoorPk5
namespace Go.Proofs.YtheoklhmlnfgjaaGreatDoor
open Go.RowKit Go.Maps
set_option linter.unusedVariables false

/-- the boxes of Open: the state, the result -/
structure OSt (w : World) (P : Nat → Prop) (r : RC) (A : Pl) (W : World) : Prop where
  s : W.heap[w.heap.size]? = some (.cells (stC r A) 51 (0, 0))
  z : W.heap[w.heap.size + 1]? = some (.cells #[.slice none 0 0, .slice none 0 0, .slice none 0 0, .slice none 0 0, .slice none 0 0, .int .i64 0, .slice none 0 0, .int .i64 0, .int .i64 0, .int .i64 0] 58 (0, 0))
  rp : RefP (fun g => P g ∨ g = w.heap.size ∨ g = w.heap.size + 1) W r A
  b : Below w.heap.size w W
theorem OSt.start {w : World} {P : Nat → Prop} {r : RC} {A : Pl} (h : RefP P w r A) :
    OSt w P r A ((w.alloc (.cells (stC r A) 51)).alloc (.cells #[.slice none 0 0, .slice none 0 0, .slice none 0 0, .slice none 0 0, .slice none 0 0, .int .i64 0, .slice none 0 0, .int .i64 0, .int .i64 0, .int .i64 0] 58)) := by
  have hb : Below w.heap.size w ((w.alloc (.cells (stC r A) 51)).alloc (.cells #[.slice none 0 0, .slice none 0 0, .slice none 0 0, .slice none 0 0, .slice none 0 0, .int .i64 0, .slice none 0 0, .int .i64 0, .int .i64 0, .int .i64 0] 58)) := ((Below.refl _ w).alloc (Nat.le_refl _) _).alloc (by simp) _
  refine ⟨(heap_alloc_old _ _ (by simp)).trans (heap_alloc_new w _), ?_, h.step (fun k hk _ => hb.block k hk) fun k hk => ?_, hb⟩
  · have := heap_alloc_new (w.alloc (.cells (stC r A) 51)) (.cells #[.slice none 0 0, .slice none 0 0, .slice none 0 0, .slice none 0 0, .slice none 0 0, .int .i64 0, .slice none 0 0, .int .i64 0, .int .i64 0, .int .i64 0] 58)
    rw [World.size_alloc] at this
    exact this
  · rcases hk with hk | hk | hk
    · exact .inl hk
    · exact .inr (by omega)
    · exact .inr (by omega)
section
variable {w W W' : World} {P : Nat → Prop} {r r' : RC} {A A' : Pl}
theorem OSt.size (h : OSt w P r A W) : w.heap.size + 2 ≤ W.heap.size := lt_of_heap h.z
theorem OSt.lt (hP : ∀ g, P g → g < w.heap.size) (h : OSt w P r A W) : ∀ g, (P g ∨ g = w.heap.size ∨ g = w.heap.size + 1) → g < W.heap.size := by
  have := h.size
  rintro g (hg | hg | hg)
  · have := hP g hg; omega
  · omega
  · omega
theorem OSt.below (h : OSt w P r A W) (hb : Below W.heap.size W W') : OSt w P r A W' :=
  ⟨Below.heap hb h.s, Below.heap hb h.z, h.rp.below hb, h.b.trans (hb.mono h.b.size)⟩
/-- the state's box is written -/
theorem OSt.put (h : OSt w P r A W) (hb : Below W.heap.size W W') (hr : RefP (fun g => P g ∨ g = w.heap.size ∨ g = w.heap.size + 1) W' r' A') :
    OSt w P r' A' (put9 W' w.heap.size (.slice r'.p1 A'.now.length r'.c1) (.slice r'.p2 A'.safe.length r'.c2) (.slice r'.p3 A'.pend.length r'.c3) (.slice r'.p4 A'.files.length r'.c4) (.slice r'.p5 A'.files.length r'.c5) (.int .i64 (A'.room : Int)) (.slice r'.p6 A'.fails.length r'.c6) (.int .i64 A'.power) (.int .i64 (A'.steps : Int))) :=
  ⟨put9_same (Below.heap hb h.s), (put9_heap _ (by omega)).trans (Below.heap hb h.z), hr.step (fun k _ hn => put9_heap k fun e => hn (.inr (.inl e))) (fun k hk => .inl hk), put9_below (h.b.trans (hb.mono h.b.size)) (Nat.le_refl _)⟩
/-- the result's box is written -/
theorem OSt.res (h : OSt w P r A W) (v0 v1 v2 v3 v4 v5 v6 v7 v8 v9 : Value) :
    RefP P (put10 W (w.heap.size + 1) v0 v1 v2 v3 v4 v5 v6 v7 v8 v9) r A ∧ Below w.heap.size w (put10 W (w.heap.size + 1) v0 v1 v2 v3 v4 v5 v6 v7 v8 v9) :=
  ⟨h.rp.step (fun k _ hn => put10_heap k fun e => hn (.inr (.inr e))) (fun k hk => .inl (.inl hk)), put10_below h.b (by omega)⟩
theorem res10 (hr : RefP (fun g => P g ∨ g = w.heap.size ∨ g = w.heap.size + 1) W r A) (hb : Below w.heap.size w W) (v0 v1 v2 v3 v4 v5 v6 v7 v8 v9 : Value) :
    RefP P (put10 W (w.heap.size + 1) v0 v1 v2 v3 v4 v5 v6 v7 v8 v9) r A ∧ Below w.heap.size w (put10 W (w.heap.size + 1) v0 v1 v2 v3 v4 v5 v6 v7 v8 v9) :=
  ⟨hr.step (fun k _ hn => put10_heap k fun e => hn (.inr (.inr e))) (fun k hk => .inl (.inl hk)), put10_below hb (by omega)⟩
end

/-- what the loop over the names has done: the name of a log that was begun lies among the first k -/
def Swept (B : Pl) (L : List BS) (k : Nat) (A : Pl) : Prop := if newN ∈ L.take k then doP B (.remove newN) = (A, 0) else A = B
theorem rises_nodup {M : NM} (h : Rises M) : (M.map (·.1)).Nodup := by
  unfold List.Nodup
  rw [List.pairwise_map]
  exact h.imp fun {a b} hl e => by rw [e] at hl; exact List.lt_irrefl _ hl
theorem list_nodup {B : Pl} (hI : Inv B) : (listP B).Nodup := by
  unfold listP
  split
  · exact List.nodup_nil
  · exact (rises_nodup hI.rnow)
theorem Swept.zero (B : Pl) (L : List BS) : Swept B L 0 B := by unfold Swept; rw [if_neg (by simp)]
theorem Swept.miss {B A : Pl} {L : List BS} {k : Nat} (h : Swept B L k A) (hk : k < L.length) (hn : L[k] ≠ newN) : Swept B L (k + 1) A := by
  unfold Swept at h ⊢
  rw [List.take_succ_eq_append_getElem hk]
  by_cases hm : newN ∈ L.take k
  · rw [if_pos hm] at h
    rw [if_pos (List.mem_append_left _ hm)]; exact h
  · rw [if_neg hm] at h
    rw [if_neg (fun e => by
      rcases List.mem_append.1 e with e | e
      · exact hm e
      · exact hn (List.mem_singleton.1 e).symm)]
    exact h
theorem Swept.hit {B A : Pl} {L : List BS} {k : Nat} (hnd : L.Nodup) (h : Swept B L k A) (hk : k < L.length) (hn : L[k] = newN) : A = B ∧ newN ∈ L ∧ ∀ A', doP B (.remove newN) = (A', 0) → Swept B L (k + 1) A' := by
  have hm : ¬ newN ∈ L.take k := fun e => by
    obtain ⟨j, hj, e2⟩ := List.getElem_of_mem e
    rw [List.length_take] at hj
    rw [List.getElem_take] at e2
    exact (List.pairwise_iff_getElem.1 hnd) j k (by omega) hk (by omega) (e2.trans hn.symm)
  unfold Swept at h
  rw [if_neg hm] at h
  refine ⟨h, hn ▸ List.getElem_mem hk, fun A' e => ?_⟩
  unfold Swept
  rw [List.take_succ_eq_append_getElem hk, if_pos (List.mem_append_right _ (by rw [hn]; exact List.mem_singleton.2 rfl))]
  exact e
theorem Swept.all {B A : Pl} (h : Swept B (listP B) (listP B).length A) : sweepP B = (A, 0) := by
  unfold Swept at h
  rw [List.take_length] at h
  unfold sweepP
  split
  · rename_i hm; rw [if_pos hm] at h; exact h
  · rename_i hm; rw [if_neg hm] at h; rw [h]
/-- texts stand where they stood when a state's box is written -/
theorem InS.other {W W' : World} {p : Option Addr} {L : List BS} {x : Nat} {r : RC} {A : Pl} {T : TypeId} {fr : Nat × Nat} (h : InS W p L) (hs : W.heap[x]? = some (.cells (stC r A) T fr)) (hE : ∀ g, g ≠ x → W'.heap[g]? = W.heap[g]?) : InS W' p L := by
  intro h0
  obtain ⟨b, o, rfl, hc⟩ := h h0
  have hb : b ≠ x := by
    rintro rfl
    have h1 := hc 0 h0
    rw [cell_of_row _ _ _ _ _ _ hs] at h1
    rw [stC_eq] at h1
    simp only [tx, List.getElem_map] at h1
    rcases o with _ | _ | _ | _ | _ | _ | _ | _ | _ | o <;> simp at h1
  refine ⟨b, o, rfl, fun i hi => ?_⟩
  have h1 := hc i hi
  unfold World.cell? at h1 ⊢
  rw [hE b hb]
  exact h1
theorem InRc.keep {W W' : World} {p : Option Addr} {L : List Rcd} (h : InRc W p L) (hE : ∀ b o, p = some ⟨b, o, none⟩ → W'.heap[b]? = W.heap[b]?) : InRc W' p L := by
  intro h0
  obtain ⟨b, o, rfl, hc⟩ := h h0
  refine ⟨b, o, rfl, fun j v hv => ?_⟩
  have h1 := hc j v hv
  unfold World.cell? at h1 ⊢
  rw [hE b o rfl]
  exact h1
theorem put10_same {W : World} {b : Nat} {v0 v1 v2 v3 v4 v5 v6 v7 v8 v9 x0 x1 x2 x3 x4 x5 x6 x7 x8 x9 : Value} {T : TypeId} (h : W.heap[b]? = some (.cells #[x0, x1, x2, x3, x4, x5, x6, x7, x8, x9] T (0, 0))) : (put10 W b v0 v1 v2 v3 v4 v5 v6 v7 v8 v9).heap[b]? = some (.cells #[v0, v1, v2, v3, v4, v5, v6, v7, v8, v9] T (0, 0)) := by
  unfold put10
  rw [heap_setCell_same _ b 9 _ T v9 (put9_ten h)]
  simp

set_option maxRecDepth 100000 in
set_option maxHeartbeats 8000000 in
theorem refOpen_any (P : Nat → Prop) (r : RC) (B : Pl) {g : Nat} (hB : GoodS g B) (hg : g ≤ 970000) (hfl : ∀ f ∈ B.files, f.1.length ≤ 1500000) (w : World) (hP : ∀ g, P g → g < w.heap.size) (h : RefP P w r B) :
    Calls Tryz.prog 19 #[.agg (stC r B)] w fun e w' => ∃ r' p c n, e = .returned (.tuple #[.agg (lgC r' (openP B).1 n), .slice p (openP B).2.1.length c, .int .i64 (openP B).2.2]) ∧ ((openP B).2.2 = 0 → n = (openP B).2.1.length) ∧ InRc w' p (openP B).2.1 ∧ RefP P w' r' (openP B).1 ∧ Below w.heap.size w w' := by
  obtain ⟨w1, hw1⟩ : ∃ x, x = (w.alloc (.cells (stC r B) 51)).alloc (.cells #[.slice none 0 0, .slice none 0 0, .slice none 0 0, .slice none 0 0, .slice none 0 0, .int .i64 0, .slice none 0 0, .int .i64 0, .int .i64 0, .int .i64 0] 58) := ⟨_, rfl⟩
  have hst : OSt w P r B w1 := by rw [hw1]; exact OSt.start h
  have hls := refList_any r B w1 hst.rp.plain.now (by have := hB.good.fit.now; omega)
  have hs := hst.s
  rw [stC_eq] at hw1 hls hs
  obtain ⟨a0, a1, a2, a3, a4, a5, a6, a7, a8, af⟩ := st9v hs
  have HW := Lib.hid (And.intro hw1 hst)
  clear hst hs hw1
  rw [stC_eq r B]
  go_enter Tryz.func19, Tryz.ntmps19
  rw [HW.out.1] at a0 a1 a2 a3 a4 a5 a6 a7 a8 af hls
  go_wp2_with fail
  refine hls.mono ?_
  rw [← HW.out.1]
  rintro e w2 ⟨pn, cn, rfl, hinL, hb2⟩
  obtain ⟨NL, hNL⟩ : ∃ NL, NL = listP B := ⟨_, rfl⟩
  rw [← hNL] at hinL ⊢
  have hnl : NL.length ≤ 4000000000000 := by rw [hNL]; unfold listP; have := hB.good.fit.now; split <;> simp <;> omega
  have HL := Lib.hid (And.intro hinL (And.intro hNL (And.intro (show NL.Nodup by rw [hNL]; exact list_nodup hB.good.inv) (HW.out.2.below hb2))))
  clear hls hinL hb2 hNL a0 a1 a2 a3 a4 a5 a6 a7 a8 af
  go_wp2_with fail
  go_loopw [6] (fun i wr => ∃ (k : Nat) (rr : RC) (A : Pl), k ≤ NL.length ∧ i = .int .i64 k ∧ OSt w P rr A wr ∧ Swept B NL k A ∧ GoodS (g + 1) A ∧ InS wr pn NL) (fun i _ => NL.length - (intOf i).toNat)
  case atStart => exact ⟨0, r, B, Nat.zero_le _, rfl, HL.out.2.2.2, Swept.zero _ _, hB.more (by omega), HL.out.1⟩
  case round =>
    obtain ⟨k, rr, A, hk, rfl, hst, hsw, hgd, hin⟩ := hrel
    by_cases hlt : k < NL.length
    · obtain ⟨b, o, rfl, x, hx1, hx⟩ := hin.at hlt
      have hs := hst.s
      rw [stC_eq] at hs
      obtain ⟨a0, a1, a2, a3, a4, a5, a6, a7, a8, af⟩ := st9v hs
      clear hs
      by_cases heq : x.data.toList = newN
      · have hbool : (x.toList == [108, 111, 103, 46, 110, 101, 119]) = true := by rw [Lib.toList_data]; exact beq_iff_eq.2 heq
        rw [hx] at heq
        obtain ⟨rfl, hmem, hnx⟩ := hsw.hit HL.out.2.2.1 hlt heq
        have hstp := refStep_any _ rr A 6 ⟨#[108, 111, 103, 46, 110, 101, 119]⟩ ⟨#[]⟩ [] none 0 0 rfl wr (hst.lt hP) hst.rp (fun h => absurd h (by simp)) hgd.good.inv (hgd.fitP (by omega)) (by decide) (by decide) (by omega)
        rw [show stepI 6 = 6 from rfl] at hstp
        have ho : opOf 6 (⟨#[108, 111, 103, 46, 110, 101, 119]⟩ : ByteArray).data.toList (⟨#[]⟩ : ByteArray).data.toList [] = .remove newN := rfl
        rw [ho] at hstp
        rw [stC_eq rr A] at hstp
        have H := Lib.hid (And.intro hst (And.intro hnx (And.intro hin (And.intro (hB.step (.remove newN)) hmem))))
        clear ho heq hsw hgd hst hnx hin hx hmem
        go_wp2_with fail
        refine hstp.mono ?_
        rintro e w6 ⟨r6, rfl, hr6, hb6⟩
        obtain ⟨A6, hA6⟩ : ∃ A6, A6 = (doP A (.remove newN)).1 := ⟨_, rfl⟩
        obtain ⟨z6, hz6⟩ : ∃ z6, z6 = (doP A (.remove newN)).2 := ⟨_, rfl⟩
        rw [← hA6] at hr6 ⊢
        rw [← hz6, stC_eq r6 A6]
        have HR6 := Lib.hid (And.intro hr6 (And.intro hb6 (And.intro hA6 hz6)))
        clear hstp hr6 hb6 hA6 hz6 a0 a1 a2 a3 a4 a5 a6 a7 a8 af
        dsimp only
        rename_i k0 hk0 k1 hk1 k2 hk2
        have HK0 := Lib.hid hk0
        have HK1 := Lib.hid hk1
        clear hk0 hk1
        refine hk2 _ _ ?_
        clear hk2
        go_wp2_with fail
        obtain ⟨w7, hw7⟩ : ∃ x, x = w6.alloc (.cells (stC r6 A6) 51) := ⟨_, rfl⟩
        have hb7 : Below w6.heap.size w6 w7 := by rw [hw7]; exact (Below.refl _ w6).alloc (Nat.le_refl _) _
        have hx7 : w7.heap[w6.heap.size]? = some (.cells (stC r6 A6) 51 (0, 0)) := by rw [hw7]; exact heap_alloc_new w6 _
        rw [stC_eq] at hw7 hx7
        rw [← hw7]
        have hbw7 := HR6.out.2.1.trans (hb7.mono HR6.out.2.1.size)
        have hst7 := H.out.1.below hbw7
        have HP0 := Lib.hid (And.intro (H.out.1.put hbw7 (HR6.out.1.below hb7)) (And.intro hst7.s (H.out.2.2.1.below (hst7.b |> fun _ => hbw7))))
        have hs7 := hst7.s
        rw [stC_eq] at hs7
        obtain ⟨d0, d1, d2, d3, d4, d5, d6, d7, d8, df⟩ := st9v hs7
        obtain ⟨n0, n1, n2, n3, n4, n5, n6, n7, n8, nf⟩ := st9v hx7
        clear hw7 hb7 hx7 hbw7 hst7 hs7 nf
        refine HK1.out _ _ ?_
        refine wp_seq_k ?_
        intro K5 hK5
        have HK5 := Lib.hid hK5
        clear hK5
        go_wp2_with fail
        obtain ⟨wx, hwx⟩ : ∃ x, x = put9 w7 w.heap.size (.slice r6.p1 A6.now.length r6.c1) (.slice r6.p2 A6.safe.length r6.c2) (.slice r6.p3 A6.pend.length r6.c3) (.slice r6.p4 A6.files.length r6.c4) (.slice r6.p5 A6.files.length r6.c5) (.int .i64 (A6.room : Int)) (.slice r6.p6 A6.fails.length r6.c6) (.int .i64 A6.power) (.int .i64 (A6.steps : Int)) := ⟨_, rfl⟩
        have HP := Lib.hid (show OSt w P r6 A6 wx ∧ InS wx (some ⟨b, o, none⟩) NL from by rw [hwx]; exact ⟨HP0.out.1, HP0.out.2.2.other HP0.out.2.1 fun g hg => put9_heap g hg⟩)
        unfold put9 at hwx
        rw [← hwx]
        clear hwx HP0 d0 d1 d2 d3 d4 d5 d6 d7 d8 df n0 n1 n2 n3 n4 n5 n6 n7 n8
        refine HK5.out _ _ ?_
        have hs3 := HP.out.1.s
        have hz3 := HP.out.1.z
        rw [stC_eq] at hs3
        obtain ⟨e0, e1, e2, e3, e4, e5, e6, e7, e8, ef⟩ := st9v hs3
        obtain ⟨z0, z1, z2, z3, z4, z5, z6', z7, z8, z9, zf⟩ := lg10v hz3
        clear hs3 hz3
        by_cases hz : z6 = 0
        · rw [hz]
          have HZ := Lib.hid (show doP A (.remove newN) = (A6, 0) by rw [← hz, HR6.out.2.2.1, HR6.out.2.2.2])
          clear hz
          go_wp2_with fail
          refine HK0.out _ _ ?_
          go_wp2_with fail
          go_roundw
          case rel => exact ⟨k + 1, r6, A6, by omega, by go_num, HP.out.1, H.out.2.1 A6 HZ.out, by rw [HR6.out.2.2.1]; exact H.out.2.2.2.1, HP.out.2⟩
          case measure => simp [intOf]; omega
        · have q1 : (z6 == 0) = false := beq_eq_false_iff_ne.2 hz
          have q2 : (z6 != 0) = true := by simp [bne, q1]
          have HE := Lib.hid (show openP A = (A6, [], z6) by
            have h1 := open_swept (B := A) (by rw [← HL.out.2.1]; exact H.out.2.2.2.2) (by rw [← HR6.out.2.2.2]; exact hz)
            rw [h1, HR6.out.2.2.1, HR6.out.2.2.2])
          have HZ := Lib.hid hz
          clear hz
          go_wp2_with fail
          refine bodyPost_ret (v := .tuple #[.agg (lgC r6 A6 0), .slice none 0 0, .int .i64 z6]) (by rw [lgC_eq]; simp [results, Tryz.results19, go_sem, z0, z1, z2, z3, z4, z5, z6', z7, z8, z9]) rfl ?_
          rw [HE.out]
          exact ⟨r6, none, 0, 0, rfl, fun e => absurd e HZ.out, fun h => absurd h (by simp), HP.out.1.res _ _ _ _ _ _ _ _ _ _⟩
      · have hbool : (x.toList == [108, 111, 103, 46, 110, 101, 119]) = false := by rw [Lib.toList_data]; exact beq_eq_false_iff_ne.2 heq
        have hsw2 := hsw.miss hlt (by rw [← hx]; exact heq)
        have H := Lib.hid (And.intro hst (And.intro hsw2 (And.intro hgd hin)))
        clear hst hsw hsw2 hgd hin heq hx
        go_wp2_with fail
        go_roundw
        case rel => exact ⟨k + 1, rr, A, by omega, by go_num, H.out.1, H.out.2.1, H.out.2.2.1, H.out.2.2.2⟩
        case measure => simp [intOf]; omega
    · obtain rfl : k = NL.length := by omega
      have hsp : sweepP B = (A, 0) := by
        have h1 := hsw
        rw [HL.out.2.1] at h1
        exact h1.all
      have hrl := hgd.readP logN
      have hrd := refReadQ_any rr A ⟨#[108, 111, 103]⟩ wr hst.rp.plain hgd.good.inv (by have := hgd.good.fit.now; omega) (by decide) (by show (readP A logN).length ≤ _; omega)
      rw [show (⟨#[108, 111, 103]⟩ : ByteArray).data.toList = logN from rfl] at hrd
      obtain ⟨R, hR⟩ : ∃ R, R = readP A logN := ⟨_, rfl⟩
      obtain ⟨z, hz⟩ : ∃ z, z = readEP A logN := ⟨_, rfl⟩
      rw [← hR] at hrl
      rw [← hR, ← hz, stC_eq rr A] at hrd
      have hs := hst.s
      rw [stC_eq] at hs
      obtain ⟨a0, a1, a2, a3, a4, a5, a6, a7, a8, af⟩ := st9v hs
      have H := Lib.hid (And.intro hst (And.intro hsp (And.intro hgd (And.intro hR (And.intro hz hrl)))))
      clear hst hsp hgd hR hz hrl hs hsw hin hlt
      go_wp2_with fail
      refine hrd.mono ?_
      rintro e w3 ⟨p3, c3, rfl, hin3, hpl3, hlc3, hcm3, hb3⟩
      have hst3 := H.out.1.below hb3
      have H3 := Lib.hid (And.intro hst3 (And.intro hin3 (And.intro hpl3 (And.intro hlc3 hcm3))))
      obtain ⟨m, hm⟩ : ∃ m, m = R.length := ⟨_, rfl⟩
      rw [← hm]
      have HM := Lib.hid hm
      have hs3 := hst3.s
      have hz3 := hst3.z
      rw [stC_eq] at hs3
      clear hrd hin3 hpl3 hlc3 hcm3 hb3 hst3 hm a0 a1 a2 a3 a4 a5 a6 a7 a8 af
      by_cases h90 : z = 90
      · rw [h90]
        obtain ⟨a0, a1, a2, a3, a4, a5, a6, a7, a8, af⟩ := st9v hs3
        have HZ := Lib.hid (show readEP A logN = 90 by rw [← H.out.2.2.2.2.1]; exact h90)
        clear h90 hs3 hz3
        have hops : ∀ W, Below w3.heap.size w3 W → W.heap[w3.heap.size]? = some (.cells #[.int .i64 1, .string ⟨#[108, 111, 103]⟩, .string ⟨#[]⟩, .slice none 0 0, .int .i64 3, .string ⟨#[108, 111, 103]⟩, .string ⟨#[]⟩, .slice none 0 0, .int .i64 4, .string ⟨#[]⟩, .string ⟨#[]⟩, .slice none 0 0] 104 (0, 0)) → InOps W (some ⟨w3.heap.size, 0, none⟩) [(1, logN, [], []), (3, logN, [], []), (4, [], [], [])] := fun W hb hx => InOps.row hx _ fun j hj => by
          rcases j with _ | _ | _ | j
          · exact ⟨⟨#[108, 111, 103]⟩, ⟨#[]⟩, none, 0, rfl, rfl, rfl, rfl, rfl, rfl, fun h => absurd h (by simp)⟩
          · exact ⟨⟨#[108, 111, 103]⟩, ⟨#[]⟩, none, 0, rfl, rfl, rfl, rfl, rfl, rfl, fun h => absurd h (by simp)⟩
          · exact ⟨⟨#[]⟩, ⟨#[]⟩, none, 0, rfl, rfl, rfl, rfl, rfl, rfl, fun h => absurd h (by simp)⟩
          · exact absurd hj (by simp only [List.length_cons, List.length_nil]; omega)
        obtain ⟨w4, hw4⟩ : ∃ x, x = w3.alloc (.cells #[.int .i64 1, .string ⟨#[108, 111, 103]⟩, .string ⟨#[]⟩, .slice none 0 0, .int .i64 3, .string ⟨#[108, 111, 103]⟩, .string ⟨#[]⟩, .slice none 0 0, .int .i64 4, .string ⟨#[]⟩, .string ⟨#[]⟩, .slice none 0 0] 104) := ⟨_, rfl⟩
        have hb4 : Below w3.heap.size w3 w4 := by rw [hw4]; exact (Below.refl _ w3).alloc (Nat.le_refl _) _
        have hst4 := H3.out.1.below hb4
        have hll : logN.length = 3 := rfl
        have hsteps := refSteps_any _ [(1, logN, [], []), (3, logN, [], []), (4, [], [], [])] 3 3 rfl (by omega) (some ⟨w3.heap.size, 0, none⟩) rr A H.out.2.2.1 (by omega) w4 (hst4.lt hP) hst4.rp (hops w4 hb4 (by rw [hw4]; exact heap_alloc_new w3 _)) (fun x hx => by
          simp only [List.mem_cons, List.not_mem_nil, or_false] at hx
          rcases hx with rfl | rfl | rfl
          · exact ⟨⟨show (1 : Int) ≤ 1 by decide, show (1 : Int) ≤ 6 by decide⟩, by simp only [List.length_nil]; omega⟩
          · exact ⟨⟨show (1 : Int) ≤ 3 by decide, show (3 : Int) ≤ 6 by decide⟩, by simp only [List.length_nil]; omega⟩
          · exact ⟨⟨show (1 : Int) ≤ 4 by decide, show (4 : Int) ≤ 6 by decide⟩, by simp only [List.length_nil]; omega⟩)
        have hcs : stepsP A (opsL [(1, logN, [], []), (3, logN, [], []), (4, [], [], [])]) = stepsP A [.create logN, .sync logN, .names] := rfl
        rw [hcs] at hsteps
        obtain ⟨⟨A', kk, ez⟩, hS⟩ : ∃ X, stepsP A [.create logN, .sync logN, .names] = X := ⟨_, rfl⟩
        rw [hS] at hsteps
        dsimp only at hsteps
        have HS := Lib.hid (And.intro (open_none H.out.2.1 HZ.out hS) (And.intro hw4 hst4))
        rw [stC_eq rr A, hw4] at hsteps
        clear hcs hS hops hw4 hst4 hb4 hll
        go_wp2_with fail
        refine hsteps.mono ?_
        rw [← HS.out.2.1]
        rintro e w5 ⟨r', rfl, hr5, hb5⟩
        rw [stC_eq r' A']
        clear hsteps a0 a1 a2 a3 a4 a5 a6 a7 a8 af
        have HR5 := Lib.hid (And.intro hr5 hb5)
        clear hr5 hb5
        dsimp only
        rename_i k1 hk1 k2 hk2
        have HK1 := Lib.hid hk1
        clear hk1
        refine hk2 _ _ ?_
        clear hk2
        go_wp2_with fail
        obtain ⟨w6, hw6⟩ : ∃ x, x = w5.alloc (.cells (stC r' A') 51) := ⟨_, rfl⟩
        have hb6 : Below w5.heap.size w5 w6 := by rw [hw6]; exact (Below.refl _ w5).alloc (Nat.le_refl _) _
        have hx6 : w6.heap[w5.heap.size]? = some (.cells (stC r' A') 51 (0, 0)) := by rw [hw6]; exact heap_alloc_new w5 _
        rw [stC_eq] at hw6 hx6
        rw [← hw6]
        have hst6 := HS.out.2.2.below (HR5.out.2.trans (hb6.mono HR5.out.2.size))
        have H6 := Lib.hid (And.intro (HR5.out.1.below hb6) hst6.b)
        obtain ⟨n0, n1, n2, n3, n4, n5, n6, n7, n8, nf⟩ := st9v hx6
        obtain ⟨z0, z1, z2, z3, z4, z5, z6, z7, z8, z9, zf⟩ := lg10v hst6.z
        clear hw6 hb6 hx6 hst6
        refine HK1.out _ _ ?_
        go_wp2_with fail
        refine bodyPost_ret (v := .tuple #[.agg (lgC r' A' 0), .slice none 0 0, .int .i64 ez]) (by rw [lgC_eq]; simp [results, Tryz.results19, go_sem, z0, z1, z2, z3, z4, z5, z6, z7, z8, z9]) rfl ?_
        rw [HS.out.1]
        exact ⟨r', none, 0, 0, rfl, fun _ => rfl, fun h => absurd h (by simp), res10 H6.out.1 H6.out.2 _ _ _ _ _ _ _ _ _ _⟩
      · have q0 : (z == 90) = false := beq_eq_false_iff_ne.2 h90
        by_cases h0 : z = 0
        · have hrsm : R.length ≤ 1500000 := by rw [H.out.2.2.2.1]; exact read_small (by rw [sweep_files H.out.2.1]; exact hfl) _
          have hrep := refReplay_any R p3 m c3 H3.out.2.2.1 HM.out.symm (by rw [HM.out]; omega) (by rw [HM.out]; exact H3.out.2.2.2.1) H3.out.2.2.2.2 w3 H3.out.2.1
          have hnl3 := repN_le R
          have hrl3 := rep_len R
          rw [← repR_length] at hrl3
          rw [h0]
          have HZ := Lib.hid (show readEP A logN = 0 by rw [← H.out.2.2.2.2.1]; exact h0)
          obtain ⟨nn, hnn⟩ : ∃ nn, nn = repN R := ⟨_, rfl⟩
          obtain ⟨L4, hL4⟩ : ∃ L4, L4 = repR R := ⟨_, rfl⟩
          rw [← hnn] at hrep hnl3
          rw [← hL4] at hrep hrl3
          have hml : L4.length ≤ 100000 := by omega
          have hnm : nn ≤ 2000000 := by omega
          have hm2 : m ≤ 2000000 := by rw [HM.out]; omega
          have HN := Lib.hid (And.intro hnn hL4)
          clear hnn hL4 hrl3 hnl3 hrsm h0 h90
          go_wp2_with fail
          refine hrep.mono ?_
          rintro e w4 ⟨v4, rfl, hown4, hb4⟩
          obtain ⟨m4, hm4⟩ : ∃ m4, m4 = L4.length := ⟨_, rfl⟩
          obtain ⟨p4, c4, rfl, hn4, hc4, hin4, hrr4⟩ := hown4.shape hm4.symm
          have HP4 := Lib.hid hrr4
          clear hrr4
          rw [← hm4] at hml
          have hst4 := H3.out.1.below hb4
          have HSZ4 := Lib.hid hb4.size
          have H4 := Lib.hid (And.intro hst4 (And.intro hin4 (And.intro hm4 (And.intro hn4 hc4))))
          have hs4 := hst4.s
          rw [stC_eq] at hs4
          obtain ⟨a0, a1, a2, a3, a4, a5, a6, a7, a8, af⟩ := st9v hs4
          clear hrep hown4 hb4 hin4 hm4 hn4 hc4 hst4 hs4 hs3 hz3
          dsimp only
          rename_i k1 hk1 k2 hk2
          have HK1 := Lib.hid hk1
          clear hk1
          refine hk2 _ _ ?_
          clear hk2
          go_wp2_with fail
          refine HK1.out _ _ ?_
          refine wp_seq_k ?_
          intro K5 hK5
          have HK5 := Lib.hid hK5
          clear hK5
          go_wp2_with fail
          obtain ⟨w5, hw5⟩ : ∃ x, x = w4.alloc (.cells (lgC rr A (m4 : Int)) 58) := ⟨_, rfl⟩
          have hb5 : Below w4.heap.size w4 w5 := by rw [hw5]; exact (Below.refl _ w4).alloc (Nat.le_refl _) _
          have hx5 : w5.heap[w4.heap.size]? = some (.cells (lgC rr A (m4 : Int)) 58 (0, 0)) := by rw [hw5]; exact heap_alloc_new w4 _
          rw [lgC_eq] at hw5
          rw [← hw5]
          have hst5 := H4.out.1.below hb5
          have hrp5 : RefP (fun g => (P g ∨ g = w.heap.size ∨ g = w.heap.size + 1) ∨ g = w4.heap.size) w5 rr A := H4.out.1.rp.step (fun k hk _ => hb5.block k hk) fun k hk => hk.imp id fun e => Nat.le_of_eq e.symm
          have HP5 := Lib.hid (And.intro hst5 (And.intro hrp5 (And.intro hb5 hx5)))
          have hxx := hx5
          rw [lgC_eq] at hxx
          obtain ⟨n0, n1, n2, n3, n4, n5, n6, n7, n8, n9, nf⟩ := lg10v hxx
          clear hw5 hb5 hx5 hst5 hrp5 hxx a0 a1 a2 a3 a4 a5 a6 a7 a8 af nf
          refine HK5.out _ _ ?_
          by_cases hlt : nn < m
          · have hrw := refRewrite_any (fun g => (P g ∨ g = w.heap.size ∨ g = w.heap.size + 1) ∨ g = w4.heap.size) rr A (m4 : Int) L4 p4 m4 c4 H4.out.2.2.1.symm (by omega) (Nat.le_trans (encB_length L4 0) (by rw [← H4.out.2.2.1]; omega)) H.out.2.2.1 (by omega) w5 (fun g hg => by
              have h1 := HP5.out.1.lt hP
              rcases hg with hg | hg
              · exact h1 g hg
              · have := lt_of_heap HP5.out.2.2.2; omega) HP5.out.2.1 (H4.out.2.1.below HP5.out.2.2.1)
            obtain ⟨⟨A', cc, ez⟩, hS⟩ : ∃ X, rewriteP A (m4 : Int) L4 = X := ⟨_, rfl⟩
            rw [hS] at hrw
            dsimp only at hrw
            have hoe := open_mend (m := (m4 : Int)) (A' := A') (c := cc) (z := ez) H.out.2.1 HZ.out (by rw [← H.out.2.2.2.1, ← HM.out, ← HN.out.1]; exact hlt) (by rw [← H.out.2.2.2.1, ← HN.out.2]; exact hS)
            rw [← H.out.2.2.2.1, ← HN.out.2] at hoe
            have HOE := Lib.hid hoe
            rw [lgC_eq rr A] at hrw
            have hltZ : (nn : Int) < (m : Int) := by omega
            clear hS hoe
            go_wp2_with fail
            refine hrw.mono ?_
            rintro e w6 ⟨r', rfl, hr6, hb6⟩
            rw [lgC_eq r' A']
            have HR6 := Lib.hid (And.intro hr6 hb6)
            clear hrw hr6 hb6 n0 n1 n2 n3 n4 n5 n6 n7 n8 n9
            dsimp only
            rename_i k0 hk0 k1' hk1 k2 hk2
            have HK0 := Lib.hid hk0
            have HK2 := Lib.hid hk1
            clear hk0 hk1
            refine hk2 _ _ ?_
            clear hk2
            go_wp2_with fail
            obtain ⟨w7, hw7⟩ : ∃ x, x = w6.alloc (.cells (lgC r' A' cc) 58) := ⟨_, rfl⟩
            have hb7 : Below w6.heap.size w6 w7 := by rw [hw7]; exact (Below.refl _ w6).alloc (Nat.le_refl _) _
            have hx7 : w7.heap[w6.heap.size]? = some (.cells (lgC r' A' cc) 58 (0, 0)) := by rw [hw7]; exact heap_alloc_new w6 _
            rw [lgC_eq] at hw7 hx7
            rw [← hw7]
            have hbw7 := HR6.out.2.trans (hb7.mono HR6.out.2.size)
            have hl7 := Below.heap hbw7 HP5.out.2.2.2
            have hst7 := HP5.out.1.below hbw7
            have hz7 := hst7.z
            rw [lgC_eq] at hl7
            have HP7 := Lib.hid (And.intro (HR6.out.1.below hb7) (And.intro hst7.b (And.intro hl7 (And.intro hz7 (show InRc w7 p4 L4 from H4.out.2.1.below (HP5.out.2.2.1.trans (hbw7.mono HP5.out.2.2.1.size)))))))
            have HSZ := Lib.hid (show w.heap.size + 2 ≤ w3.heap.size ∧ w3.heap.size ≤ w4.heap.size from ⟨H3.out.1.size, H4.out.1.b.size |> fun _ => HSZ4.out⟩)
            obtain ⟨n0, n1, n2, n3, n4, n5, n6, n7, n8, n9, nf⟩ := lg10v hx7
            clear hw7 hb7 hx7 hbw7 hst7 nf
            refine HK2.out _ _ ?_
            by_cases hz : ez = 0
            · rw [hz]
              obtain ⟨d0, d1, d2, d3, d4, d5, d6, d7, d8, d9, df⟩ := lg10v hl7
              have HE := Lib.hid (show openP B = (A', L4, 0) ∧ cc = (L4.length : Int) by
                have h1 := HOE.out
                rw [hz] at h1
                exact ⟨by rw [h1.1, if_neg (by simp)], h1.2 rfl⟩)
              clear hz hl7 hz7
              go_wp2_with fail
              obtain ⟨wx, hwx⟩ : ∃ x, x = put10 w7 w4.heap.size (.slice r'.p1 A'.now.length r'.c1) (.slice r'.p2 A'.safe.length r'.c2) (.slice r'.p3 A'.pend.length r'.c3) (.slice r'.p4 A'.files.length r'.c4) (.slice r'.p5 A'.files.length r'.c5) (.int .i64 (A'.room : Int)) (.slice r'.p6 A'.fails.length r'.c6) (.int .i64 A'.power) (.int .i64 (A'.steps : Int)) (.int .i64 cc) := ⟨_, rfl⟩
              have hs34 := HSZ.out
              have hlx : wx.heap[w4.heap.size]? = some (.cells #[.slice r'.p1 A'.now.length r'.c1, .slice r'.p2 A'.safe.length r'.c2, .slice r'.p3 A'.pend.length r'.c3, .slice r'.p4 A'.files.length r'.c4, .slice r'.p5 A'.files.length r'.c5, .int .i64 (A'.room : Int), .slice r'.p6 A'.fails.length r'.c6, .int .i64 A'.power, .int .i64 (A'.steps : Int), .int .i64 cc] 58 (0, 0)) := by rw [hwx]; exact put10_same HP7.out.2.2.1
              have hzx : wx.heap[w.heap.size + 1]? = some (.cells #[.slice none 0 0, .slice none 0 0, .slice none 0 0, .slice none 0 0, .slice none 0 0, .int .i64 0, .slice none 0 0, .int .i64 0, .int .i64 0, .int .i64 0] 58 (0, 0)) := by rw [hwx]; exact (put10_heap _ (by omega)).trans HP7.out.2.2.2.1
              have hrx : RefP (fun g => P g ∨ g = w.heap.size ∨ g = w.heap.size + 1) wx r' A' := by rw [hwx]; exact HP7.out.1.step (fun k _ hn => put10_heap k fun e => hn (.inr e)) fun k hk => .inl (.inl hk)
              have hbx : Below w.heap.size w wx := by rw [hwx]; exact put10_below HP7.out.2.1 (by omega)
              have hix : InRc wx p4 L4 := by
                rw [hwx]
                refine HP7.out.2.2.2.2.keep fun b o e => put10_heap _ ?_
                have := (HP4.out _ e).2.1
                simp only at this
                omega
              have HX := Lib.hid (And.intro hrx (And.intro hbx hix))
              unfold put10 put9 at hwx
              rw [← hwx]
              clear hwx d0 d1 d2 d3 d4 d5 d6 d7 d8 d9 df n0 n1 n2 n3 n4 n5 n6 n7 n8 n9 hs34 hrx hbx hix
              refine HK0.out _ _ ?_
              obtain ⟨e0, e1, e2, e3, e4, e5, e6, e7, e8, e9, ef⟩ := lg10v hlx
              obtain ⟨z0, z1, z2, z3, z4, z5, z6, z7, z8, z9, zf⟩ := lg10v hzx
              clear hlx hzx ef
              go_wp2_with fail
              refine bodyPost_ret (v := .tuple #[.agg (lgC r' A' cc), .slice p4 m4 c4, .int .i64 0]) (by rw [lgC_eq]; simp [results, Tryz.results19, go_sem, z0, z1, z2, z3, z4, z5, z6, z7, z8, z9]) rfl ?_
              rw [HE.out.1]
              refine ⟨r', p4, c4, cc, by rw [H4.out.2.2.1], fun _ => HE.out.2, ?_, res10 HX.out.1 HX.out.2.1 _ _ _ _ _ _ _ _ _ _⟩
              refine HX.out.2.2.keep fun b o e => put10_heap _ ?_
              have := (HP4.out _ e).1
              have := H3.out.1.size
              simp only at *
              omega
            · have q1 : (ez == 0) = false := beq_eq_false_iff_ne.2 hz
              have q2 : (ez != 0) = true := by simp [bne, q1]
              have HE := Lib.hid (show openP B = (A', [], ez) by rw [HOE.out.1, if_pos hz])
              have HZ2 := Lib.hid hz
              obtain ⟨z0, z1, z2, z3, z4, z5, z6, z7, z8, z9, zf⟩ := lg10v hz7
              clear hz hl7 hz7
              go_wp2_with fail
              refine bodyPost_ret (v := .tuple #[.agg (lgC r' A' cc), .slice none 0 0, .int .i64 ez]) (by rw [lgC_eq]; simp [results, Tryz.results19, go_sem, z0, z1, z2, z3, z4, z5, z6, z7, z8, z9]) rfl ?_
              rw [HE.out]
              exact ⟨r', none, 0, cc, rfl, fun e => absurd e HZ2.out, fun h => absurd h (by simp), res10 (HP7.out.1.step (fun _ _ _ => rfl) fun k hk => .inl (.inl hk)) HP7.out.2.1 _ _ _ _ _ _ _ _ _ _⟩
          · have hltZ : ¬ (nn : Int) < (m : Int) := by omega
            have HE := Lib.hid (show openP B = (A, L4, 0) by
              have h1 := open_whole H.out.2.1 HZ.out (by rw [← H.out.2.2.2.1, ← HM.out, ← HN.out.1]; exact hlt)
              rw [h1, ← H.out.2.2.2.1, ← HN.out.2])
            obtain ⟨z0, z1, z2, z3, z4, z5, z6, z7, z8, z9, zf⟩ := lg10v HP5.out.1.z
            clear hlt
            go_wp2_with fail
            refine bodyPost_ret (v := .tuple #[.agg (lgC rr A (m4 : Int)), .slice p4 m4 c4, .int .i64 0]) (by rw [lgC_eq]; simp [results, Tryz.results19, go_sem, z0, z1, z2, z3, z4, z5, z6, z7, z8, z9]) rfl ?_
            rw [HE.out]
            refine ⟨rr, p4, c4, m4, by rw [H4.out.2.2.1], fun _ => by rw [H4.out.2.2.1], ?_, HP5.out.1.res _ _ _ _ _ _ _ _ _ _⟩
            refine (H4.out.2.1.below HP5.out.2.2.1).keep fun b o e => put10_heap _ ?_
            have := (HP4.out _ e).1
            have := H3.out.1.size
            simp only at *
            omega
        · have q1 : (z == 0) = false := beq_eq_false_iff_ne.2 h0
          have q2 : (z != 0) = true := by simp [bne, q1]
          have HE := Lib.hid (show openP B = (A, [], z) by
            have h1 := open_bad H.out.2.1 (by rw [← H.out.2.2.2.2.1]; exact h90) (by rw [← H.out.2.2.2.2.1]; exact h0)
            rw [h1, ← H.out.2.2.2.2.1])
          have HZ := Lib.hid h0
          obtain ⟨a0, a1, a2, a3, a4, a5, a6, a7, a8, af⟩ := st9v hs3
          obtain ⟨z0, z1, z2, z3, z4, z5, z6, z7, z8, z9, zf⟩ := lg10v hz3
          clear h0 h90 hs3 hz3
          go_wp2_with fail
          refine bodyPost_ret (v := .tuple #[.agg (lgC rr A 0), .slice none 0 0, .int .i64 z]) (by rw [lgC_eq]; simp [results, Tryz.results19, go_sem, z0, z1, z2, z3, z4, z5, z6, z7, z8, z9]) rfl ?_
          rw [HE.out]
          exact ⟨rr, none, 0, 0, rfl, fun e => absurd e HZ.out, fun h => absurd h (by simp), H3.out.1.res _ _ _ _ _ _ _ _ _ _⟩
end Go.Proofs.YtheoklhmlnfgjaaGreatDoor
