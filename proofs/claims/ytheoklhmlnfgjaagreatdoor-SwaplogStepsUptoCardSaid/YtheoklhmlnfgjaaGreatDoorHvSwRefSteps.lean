/-
  The document's Steps: steps of a state in their order, up to the first that answers an error.
-/
import Derived.Test.YtheoklhmlnfgjaaGreatDoorPk5
import Derived.Test.YtheoklhmlnfgjaaGreatDoorPk6
import Derived.Test.YtheoklhmlnfgjaaGreatDoorPk1
namespace Go.Proofs.YtheoklhmlnfgjaaGreatDoor
open Go.RowKit Go.Maps
set_option linter.unusedVariables false

def opsL (L : List OpT) : List Opp := L.map fun x => opOf x.1 x.2.1 x.2.2.1 x.2.2.2
theorem stepI_id {wh : Int} (h : 1 ≤ wh ∧ wh ≤ 6) : stepI wh = wh := by
  unfold stepI
  rw [if_neg (by omega)]

theorem stC_eq (r : RC) (A : Pl) : stC r A = #[.slice r.p1 A.now.length r.c1, .slice r.p2 A.safe.length r.c2, .slice r.p3 A.pend.length r.c3, .slice r.p4 A.files.length r.c4, .slice r.p5 A.files.length r.c5, .int .i64 (A.room : Int), .slice r.p6 A.fails.length r.c6, .int .i64 A.power, .int .i64 (A.steps : Int)] := rfl
/-- the boxes of Steps: the state, the result -/
structure RSt (w : World) (P : Nat → Prop) (r : RC) (A : Pl) (W : World) : Prop where
  s : W.heap[w.heap.size]? = some (.cells (stC r A) 51 (0, 0))
  z : W.heap[w.heap.size + 1]? = some (.cells #[.slice none 0 0, .slice none 0 0, .slice none 0 0, .slice none 0 0, .slice none 0 0, .int .i64 0, .slice none 0 0, .int .i64 0, .int .i64 0] 51 (0, 0))
  rp : RefP (fun g => P g ∨ g = w.heap.size ∨ g = w.heap.size + 1) W r A
  b : Below w.heap.size w W
theorem RSt.start {w : World} {P : Nat → Prop} {r : RC} {A : Pl} (h : RefP P w r A) :
    RSt w P r A ((w.alloc (.cells (stC r A) 51)).alloc (.cells #[.slice none 0 0, .slice none 0 0, .slice none 0 0, .slice none 0 0, .slice none 0 0, .int .i64 0, .slice none 0 0, .int .i64 0, .int .i64 0] 51)) := by
  have hb : Below w.heap.size w ((w.alloc (.cells (stC r A) 51)).alloc (.cells #[.slice none 0 0, .slice none 0 0, .slice none 0 0, .slice none 0 0, .slice none 0 0, .int .i64 0, .slice none 0 0, .int .i64 0, .int .i64 0] 51)) := ((Below.refl _ w).alloc (Nat.le_refl _) _).alloc (by simp) _
  refine ⟨(heap_alloc_old _ _ (by simp)).trans (heap_alloc_new w _), ?_, h.step (fun k hk _ => hb.block k hk) fun k hk => ?_, hb⟩
  · have := heap_alloc_new (w.alloc (.cells (stC r A) 51)) (.cells #[.slice none 0 0, .slice none 0 0, .slice none 0 0, .slice none 0 0, .slice none 0 0, .int .i64 0, .slice none 0 0, .int .i64 0, .int .i64 0] 51)
    rw [World.size_alloc] at this
    exact this
  · rcases hk with hk | hk | hk
    · exact .inl hk
    · exact .inr (by omega)
    · exact .inr (by omega)
theorem RSt.size {w W : World} {P : Nat → Prop} {r : RC} {A : Pl} (h : RSt w P r A W) : w.heap.size + 2 ≤ W.heap.size := lt_of_heap h.z
theorem RSt.lt {w W : World} {P : Nat → Prop} {r : RC} {A : Pl} (hP : ∀ g, P g → g < w.heap.size) (h : RSt w P r A W) : ∀ g, (P g ∨ g = w.heap.size ∨ g = w.heap.size + 1) → g < W.heap.size := by
  have := h.size
  rintro g (hg | hg | hg)
  · have := hP g hg; omega
  · omega
  · omega
theorem RSt.below {w W W' : World} {P : Nat → Prop} {r : RC} {A : Pl} (h : RSt w P r A W) (hb : Below W.heap.size W W') : RSt w P r A W' :=
  ⟨Below.heap hb h.s, Below.heap hb h.z, h.rp.below hb, h.b.trans (hb.mono h.b.size)⟩
/-- the state's box is written -/
theorem RSt.put {w W W' : World} {P : Nat → Prop} {r r' : RC} {A A' : Pl} (h : RSt w P r A W) (hb : Below W.heap.size W W') (hr : RefP (fun g => P g ∨ g = w.heap.size ∨ g = w.heap.size + 1) W' r' A') :
    RSt w P r' A' (put9 W' w.heap.size (.slice r'.p1 A'.now.length r'.c1) (.slice r'.p2 A'.safe.length r'.c2) (.slice r'.p3 A'.pend.length r'.c3) (.slice r'.p4 A'.files.length r'.c4) (.slice r'.p5 A'.files.length r'.c5) (.int .i64 (A'.room : Int)) (.slice r'.p6 A'.fails.length r'.c6) (.int .i64 A'.power) (.int .i64 (A'.steps : Int))) :=
  ⟨put9_same (Below.heap hb h.s), (put9_heap _ (by omega)).trans (Below.heap hb h.z), hr.step (fun k _ hn => put9_heap k fun e => hn (.inr (.inl e))) (fun k hk => .inl hk), put9_below (h.b.trans (hb.mono h.b.size)) (Nat.le_refl _)⟩
/-- the result's box is written -/
theorem RSt.res {w W : World} {P : Nat → Prop} {r : RC} {A : Pl} (h : RSt w P r A W) (v0 v1 v2 v3 v4 v5 v6 v7 v8 : Value) :
    RefP P (put9 W (w.heap.size + 1) v0 v1 v2 v3 v4 v5 v6 v7 v8) r A ∧ Below w.heap.size w (put9 W (w.heap.size + 1) v0 v1 v2 v3 v4 v5 v6 v7 v8) :=
  ⟨h.rp.step (fun k _ hn => put9_heap k fun e => hn (.inr (.inr e))) (fun k hk => .inl (.inl hk)), put9_below h.b (by omega)⟩

set_option maxRecDepth 100000 in
set_option maxHeartbeats 8000000 in
theorem refSteps_any (P : Nat → Prop) (L : List OpT) (n c : Nat) (hn : L.length = n) (hnl : n ≤ 1000) (p : Option Addr) (r : RC) (B : Pl) {g : Nat} (hB : GoodS g B) (hg : g ≤ 990000) (w : World) (hP : ∀ g, P g → g < w.heap.size) (h : RefP P w r B) (hin : InOps w p L)
    (hL : ∀ x ∈ L, (1 ≤ x.1 ∧ x.1 ≤ 6) ∧ x.2.1.length + x.2.2.1.length + x.2.2.2.length ≤ 1000000000) :
    Calls Tryz.prog 53 #[.agg (stC r B), .slice p n c] w fun e w' => ∃ r', e = .returned (.tuple #[.agg (stC r' (stepsP B (opsL L)).1), .int .i64 ((stepsP B (opsL L)).2.1 : Int), .int .i64 (stepsP B (opsL L)).2.2]) ∧ RefP P w' r' (stepsP B (opsL L)).1 ∧ Below w.heap.size w w' := by
  go_enter Tryz.func53, Tryz.ntmps53
  go_wp2_with fail
  have hst0 := RSt.start h
  unfold stC at hst0
  go_loopw [7] (fun i wr => ∃ (k : Nat) (rr : RC), k ≤ n ∧ i = .int .i64 k ∧ RSt w P rr (stA B (opsL L) k) wr ∧ ∀ j, j < k → stE B (opsL L) j = 0) (fun i _ => n - (intOf i).toNat)
  case atStart => exact ⟨0, r, Nat.zero_le _, rfl, by rw [stA_zero]; exact hst0, fun j hj => absurd hj (by omega)⟩
  case round =>
    obtain ⟨k, rr, hk, rfl, hst, hz⟩ := hrel
    clear hst0
    have hgd := hB.st (opsL L) k (by unfold opsL; rw [List.length_map]; omega)
    by_cases hlt : k < n
    · have hlo : k < (opsL L).length := by unfold opsL; rw [List.length_map]; omega
      have h1 := stA_succ B (opsL L) hlo
      have h2 := stE_get B (opsL L) hlo
      have hsz := hL (L[k]'(by omega)) (List.getElem_mem _)
      have hop : (opsL L)[k] = opOf (L[k]'(by omega)).1 (L[k]'(by omega)).2.1 (L[k]'(by omega)).2.2.1 (L[k]'(by omega)).2.2.2 := by simp [opsL]
      rw [hop] at h1 h2
      obtain ⟨b, o, rfl, na, nb, qo, co, o0, o1, o2, o3, o4, o5, o6⟩ := hin k (by omega)
      generalize L[k]'(by omega) = x at o0 o1 o2 o3 o4 o5 o6 hsz h1 h2
      obtain ⟨wh, ba, bb, bl⟩ := x
      simp only at o0 o1 o2 o3 o4 o5 o6 hsz h1 h2
      subst o4 o5
      have s1 := size_list na
      have s2 := size_list nb
      have hstep := fun W (hb : Below wr.heap.size wr W) (Q : Nat → Prop) (hQ : ∀ g, Q g → (P g ∨ g = w.heap.size ∨ g = w.heap.size + 1) ∨ (wr.heap.size ≤ g ∧ g < W.heap.size)) => refStep_any Q rr _ wh na nb bl qo _ co rfl W (fun g hg => (hQ g hg).elim (fun e => Nat.lt_of_lt_of_le (hst.lt hP g e) hb.size) (fun e => e.2)) (hst.rp.step (fun k hk _ => hb.block k hk) fun k hk => (hQ k hk).imp id fun e => e.1) (o6.below (hst.below hb).b) hgd.good.inv (hgd.fitP (by omega)) (by omega) (by omega) (by omega)
      rw [stepI_id hsz.1] at hstep
      obtain ⟨A, hA⟩ : ∃ A, A = stA B (opsL L) k := ⟨_, rfl⟩
      rw [← hA] at hst h1 h2 hstep hgd
      obtain ⟨S, hS⟩ : ∃ S : World → Prop, S = fun W => W.cell? ⟨w.heap.size, 0, none⟩ = some (.slice rr.p1 A.now.length rr.c1) ∧ W.cell? ⟨w.heap.size, 1, none⟩ = some (.slice rr.p2 A.safe.length rr.c2) ∧ W.cell? ⟨w.heap.size, 2, none⟩ = some (.slice rr.p3 A.pend.length rr.c3) ∧ W.cell? ⟨w.heap.size, 3, none⟩ = some (.slice rr.p4 A.files.length rr.c4) ∧ W.cell? ⟨w.heap.size, 4, none⟩ = some (.slice rr.p5 A.files.length rr.c5) ∧ W.cell? ⟨w.heap.size, 5, none⟩ = some (.int .i64 (A.room : Int)) ∧ W.cell? ⟨w.heap.size, 6, none⟩ = some (.slice rr.p6 A.fails.length rr.c6) ∧ W.cell? ⟨w.heap.size, 7, none⟩ = some (.int .i64 A.power) ∧ W.cell? ⟨w.heap.size, 8, none⟩ = some (.int .i64 (A.steps : Int)) ∧ W.cell? ⟨b, o + k * 4, none⟩ = some (.int .i64 wh) ∧ W.cell? ⟨b, o + k * 4 + 1, none⟩ = some (.string na) ∧ W.cell? ⟨b, o + k * 4 + 2, none⟩ = some (.string nb) ∧ W.cell? ⟨b, o + k * 4 + 3, none⟩ = some (.slice qo bl.length co) := ⟨_, rfl⟩
      have HSS := Lib.hid (fun W => show S W ↔ W.cell? ⟨w.heap.size, 0, none⟩ = some (.slice rr.p1 A.now.length rr.c1) ∧ W.cell? ⟨w.heap.size, 1, none⟩ = some (.slice rr.p2 A.safe.length rr.c2) ∧ W.cell? ⟨w.heap.size, 2, none⟩ = some (.slice rr.p3 A.pend.length rr.c3) ∧ W.cell? ⟨w.heap.size, 3, none⟩ = some (.slice rr.p4 A.files.length rr.c4) ∧ W.cell? ⟨w.heap.size, 4, none⟩ = some (.slice rr.p5 A.files.length rr.c5) ∧ W.cell? ⟨w.heap.size, 5, none⟩ = some (.int .i64 (A.room : Int)) ∧ W.cell? ⟨w.heap.size, 6, none⟩ = some (.slice rr.p6 A.fails.length rr.c6) ∧ W.cell? ⟨w.heap.size, 7, none⟩ = some (.int .i64 A.power) ∧ W.cell? ⟨w.heap.size, 8, none⟩ = some (.int .i64 (A.steps : Int)) ∧ W.cell? ⟨b, o + k * 4, none⟩ = some (.int .i64 wh) ∧ W.cell? ⟨b, o + k * 4 + 1, none⟩ = some (.string na) ∧ W.cell? ⟨b, o + k * 4 + 2, none⟩ = some (.string nb) ∧ W.cell? ⟨b, o + k * 4 + 3, none⟩ = some (.slice qo bl.length co) by rw [hS])
      have HST := Lib.hid (fun W (hb : Below wr.heap.size wr W) => show S W by
        rw [hS]
        have hs := (hst.below hb).s
        unfold stC at hs
        obtain ⟨a0, a1, a2, a3, a4, a5, a6, a7, a8, af⟩ := st9v hs
        have hb' := hst.b.trans (hb.mono hst.b.size)
        exact ⟨a0, a1, a2, a3, a4, a5, a6, a7, a8, cell_keep o0 hb', cell_keep o1 hb', cell_keep o2 hb', cell_keep o3 hb'⟩)
      have HK0 := Lib.hid (HST.out _ (Below.refl _ wr))
      have HK1 := Lib.hid (HST.out _ (Below.refl _ wr).drew)
      have H := Lib.hid (And.intro hst (And.intro hz (And.intro h1 (And.intro h2 (And.intro hlo hk)))))
      unfold stC at hstep
      have HSTEP := Lib.hid hstep
      have hbz : Below wr.heap.size wr (wr.alloc (.cells #[.slice none 0 0, .slice none 0 0, .slice none 0 0, .slice none 0 0, .slice none 0 0, .int .i64 0, .slice none 0 0, .int .i64 0, .int .i64 0] 51)) := (Below.refl _ wr).alloc (Nat.le_refl _) _
      have HK5 := Lib.hid (HST.out _ hbz)
      have HK6 := Lib.hid (HST.out _ hbz.drew)
      have HBZ := Lib.hid hbz
      clear hbz
      clear hst hz h1 h2 hA o0 o1 o2 o3 o6 hop hsz s1 s2 hgd hS hstep
      go_wp2_with fail
      go_region_held3 (fun W => W.cell? ⟨w.heap.size, 0, none⟩ = some (.slice rr.p1 A.now.length rr.c1) ∧ W.cell? ⟨w.heap.size, 1, none⟩ = some (.slice rr.p2 A.safe.length rr.c2) ∧ W.cell? ⟨w.heap.size, 2, none⟩ = some (.slice rr.p3 A.pend.length rr.c3) ∧ W.cell? ⟨w.heap.size, 3, none⟩ = some (.slice rr.p4 A.files.length rr.c4) ∧ W.cell? ⟨w.heap.size, 4, none⟩ = some (.slice rr.p5 A.files.length rr.c5) ∧ W.cell? ⟨w.heap.size, 5, none⟩ = some (.int .i64 (A.room : Int)) ∧ W.cell? ⟨w.heap.size, 6, none⟩ = some (.slice rr.p6 A.fails.length rr.c6) ∧ W.cell? ⟨w.heap.size, 7, none⟩ = some (.int .i64 A.power) ∧ W.cell? ⟨w.heap.size, 8, none⟩ = some (.int .i64 (A.steps : Int)) ∧ W.cell? ⟨b, o + k * 4, none⟩ = some (.int .i64 wh) ∧ W.cell? ⟨b, o + k * 4 + 1, none⟩ = some (.string na) ∧ W.cell? ⟨b, o + k * 4 + 2, none⟩ = some (.string nb) ∧ W.cell? ⟨b, o + k * 4 + 3, none⟩ = some (.slice qo bl.length co))
        (first | (with_reducible exact (HSS.out _).1 HK0.out) | (with_reducible exact (HSS.out _).1 HK1.out) | (with_reducible exact (HSS.out _).1 HK2.out) | (with_reducible exact (HSS.out _).1 HK3.out) | (with_reducible exact (HSS.out _).1 HK4.out) | (with_reducible exact (HSS.out _).1 HK5.out) | (with_reducible exact (HSS.out _).1 HK6.out) | (with_reducible exact (HSS.out _).1 HK7.out) | (with_reducible exact (HSS.out _).1 HK8.out))
        (first | (go_at_call 51; refine (HSTEP.out _ (Below.refl _ wr).drew (fun g => P g ∨ g = w.heap.size ∨ g = w.heap.size + 1) (fun g hg => .inl hg)).mono ?_; rintro e w2 ⟨r', rfl, hr', hb2⟩; obtain ⟨A', hA'⟩ : ∃ A', A' = (doP A (opOf wh na.data.toList nb.data.toList bl)).1 := ⟨_, rfl⟩; obtain ⟨z, hz⟩ : ∃ z, z = (doP A (opOf wh na.data.toList nb.data.toList bl)).2 := ⟨_, rfl⟩; rw [← hA']; rw [← hz]; rw [← hA'] at hr'; rw [stC_eq r' A']; have hbw := ((Below.refl _ wr).drew).trans (hb2.mono (show wr.heap.size ≤ wr.drew.heap.size by simp)); have HK2 := Lib.hid (HST.out _ hbw); have HK3 := Lib.hid (HST.out _ (hbw.alloc hbw.size (.cells #[.slice none 0 0, .slice none 0 0, .slice none 0 0, .slice none 0 0, .slice none 0 0, .int .i64 0, .slice none 0 0, .int .i64 0, .int .i64 0] 51))); have HK4 := Lib.hid (HST.out _ (hbw.alloc hbw.size (.cells (stC r' A') 51))); unfold stC at HK4; have HR2 := Lib.hid (And.intro hr' (And.intro hbw (And.intro hA' (And.intro hz trivial)))); clear hr' hb2 hA' hz hbw) | (go_at_call 51; refine (HSTEP.out _ HBZ.out.drew (fun g => (P g ∨ g = w.heap.size ∨ g = w.heap.size + 1) ∨ g = wr.heap.size) (fun g hg => hg.imp id fun e => ⟨by omega, by rw [e]; simp⟩)).mono ?_; rintro e w2 ⟨r', rfl, hr', hb2⟩; obtain ⟨A', hA'⟩ : ∃ A', A' = (doP A (opOf wh na.data.toList nb.data.toList bl)).1 := ⟨_, rfl⟩; obtain ⟨z, hz⟩ : ∃ z, z = (doP A (opOf wh na.data.toList nb.data.toList bl)).2 := ⟨_, rfl⟩; rw [← hA']; rw [← hz]; rw [← hA'] at hr'; rw [stC_eq r' A']; have hbw := HBZ.out.drew.trans (hb2.mono HBZ.out.drew.size); have hx : w2.heap[wr.heap.size]? = some (.cells #[.slice none 0 0, .slice none 0 0, .slice none 0 0, .slice none 0 0, .slice none 0 0, .int .i64 0, .slice none 0 0, .int .i64 0, .int .i64 0] 51 (0, 0)) := Below.heap hb2 (heap_alloc_new wr _); obtain ⟨z0, z1, z2, z3, z4, z5, z6, z7, z8, zf⟩ := st9v hx; have HK7 := Lib.hid (HST.out _ hbw); have HK8 := Lib.hid (HST.out _ (put9_below (v0 := .slice r'.p1 A'.now.length r'.c1) (v1 := .slice r'.p2 A'.safe.length r'.c2) (v2 := .slice r'.p3 A'.pend.length r'.c3) (v3 := .slice r'.p4 A'.files.length r'.c4) (v4 := .slice r'.p5 A'.files.length r'.c5) (v5 := .int .i64 (A'.room : Int)) (v6 := .slice r'.p6 A'.fails.length r'.c6) (v7 := .int .i64 A'.power) (v8 := .int .i64 (A'.steps : Int)) hbw (Nat.le_refl _))); unfold put9 at HK8; have HR2 := Lib.hid (And.intro hr' (And.intro hbw (And.intro hA' (And.intro hz hx)))); clear hr' hb2 hA' hz hbw hx))
      · obtain ⟨wn, hwn⟩ : ∃ x, x = w2.alloc (.cells (stC r' A') 51) := ⟨_, rfl⟩
        have hbn : Below wr.heap.size wr wn := by rw [hwn]; exact HR2.out.2.1.alloc HR2.out.2.1.size _
        have hnx : wn.heap[w2.heap.size]? = some (.cells (stC r' A') 51 (0, 0)) := by rw [hwn]; exact heap_alloc_new w2 _
        have hrn : RefP (fun g => P g ∨ g = w.heap.size ∨ g = w.heap.size + 1) wn r' A' := by rw [hwn]; exact HR2.out.1.below ((Below.refl _ w2).alloc (Nat.le_refl _) _)
        unfold stC at hwn
        rw [← hwn]
        have hlw := H.out.1.size
        have hs2 := (H.out.1.below hbn).s
        have hz2 := (H.out.1.below hbn).z
        have hput := H.out.1.put hbn hrn
        unfold stC at hs2 hnx
        obtain ⟨d0, d1, d2, d3, d4, d5, d6, d7, d8, df⟩ := st9v hs2
        obtain ⟨n0, n1, n2, n3, n4, n5, n6, n7, n8, nf⟩ := st9v hnx
        have HN := Lib.hid (And.intro hput hwn)
        clear hs2 hz2 hput hwn hbn hnx hrn hlw nf
        rename_i kk hkk hhd
        refine hkk _ _ ?_
        refine wp_seq_k ?_
        intro K5 hK5
        have HK5 := Lib.hid hK5
        clear hK5
        go_wp2_with fail
        obtain ⟨wx, hwx⟩ : ∃ x, x = put9 wn w.heap.size (.slice r'.p1 A'.now.length r'.c1) (.slice r'.p2 A'.safe.length r'.c2) (.slice r'.p3 A'.pend.length r'.c3) (.slice r'.p4 A'.files.length r'.c4) (.slice r'.p5 A'.files.length r'.c5) (.int .i64 (A'.room : Int)) (.slice r'.p6 A'.fails.length r'.c6) (.int .i64 A'.power) (.int .i64 (A'.steps : Int)) := ⟨_, rfl⟩
        have HP := Lib.hid HN.out.1
        rw [← hwx] at HP
        unfold put9 at hwx
        rw [← hwx]
        clear hwx d0 d1 d2 d3 d4 d5 d6 d7 d8 df n0 n1 n2 n3 n4 n5 n6 n7 n8
        refine HK5.out _ _ ?_
        have hs3 := HP.out.s
        have hz3 := HP.out.z
        unfold stC at hs3
        obtain ⟨e0, e1, e2, e3, e4, e5, e6, e7, e8, ef⟩ := st9v hs3
        obtain ⟨z0, z1, z2, z3, z4, z5, z6, z7, z8, zf⟩ := st9v hz3
        clear hs3 hz3
        by_cases hz : z = 0
        · rw [hz]
          have HZ := Lib.hid hz
          clear hz
          go_wp2_with fail
          go_roundw
          case rel => exact ⟨k + 1, r', hlt, by go_num, by rw [H.out.2.2.1, ← HR2.out.2.2.1]; exact HP.out, fun j hj => by
            rcases Nat.lt_or_ge j k with h | h
            · exact H.out.2.1 j h
            · obtain rfl : j = k := by omega
              rw [H.out.2.2.2.1, ← HR2.out.2.2.2.1]; exact HZ.out⟩
          case measure => simp [intOf]; omega
        · have q1 : (z == 0) = false := beq_eq_false_iff_ne.2 hz
          have q2 : (z != 0) = true := by simp [bne, q1]
          have HZ := Lib.hid hz
          clear hz
          go_wp2_with fail
          have hse := steps_err (opsL L) B k H.out.2.2.2.2.1 H.out.2.1 (by rw [H.out.2.2.2.1, ← HR2.out.2.2.2.1]; exact HZ.out)
          rw [H.out.2.2.1, H.out.2.2.2.1, ← HR2.out.2.2.1, ← HR2.out.2.2.2.1] at hse
          refine bodyPost_ret (v := .tuple #[.agg #[.slice r'.p1 A'.now.length r'.c1, .slice r'.p2 A'.safe.length r'.c2, .slice r'.p3 A'.pend.length r'.c3, .slice r'.p4 A'.files.length r'.c4, .slice r'.p5 A'.files.length r'.c5, .int .i64 (A'.room : Int), .slice r'.p6 A'.fails.length r'.c6, .int .i64 A'.power, .int .i64 (A'.steps : Int)], .int .i64 k, .int .i64 z]) (by simp [results, Tryz.results53, go_sem, z0, z1, z2, z3, z4, z5, z6, z7, z8]) rfl ?_
          rw [hse]
          exact ⟨r', rfl, HP.out.res _ _ _ _ _ _ _ _ _⟩
      · obtain ⟨wn, hwn⟩ : ∃ x, x = put9 w2 wr.heap.size (.slice r'.p1 A'.now.length r'.c1) (.slice r'.p2 A'.safe.length r'.c2) (.slice r'.p3 A'.pend.length r'.c3) (.slice r'.p4 A'.files.length r'.c4) (.slice r'.p5 A'.files.length r'.c5) (.int .i64 (A'.room : Int)) (.slice r'.p6 A'.fails.length r'.c6) (.int .i64 A'.power) (.int .i64 (A'.steps : Int)) := ⟨_, rfl⟩
        have hbn : Below wr.heap.size wr wn := by rw [hwn]; exact put9_below HR2.out.2.1 (Nat.le_refl _)
        have hnx : wn.heap[wr.heap.size]? = some (.cells (stC r' A') 51 (0, 0)) := by rw [hwn]; exact put9_same HR2.out.2.2.2.2
        have hrn : RefP (fun g => P g ∨ g = w.heap.size ∨ g = w.heap.size + 1) wn r' A' := by rw [hwn]; exact HR2.out.1.step (fun k _ hn => put9_heap k fun e => hn (.inr e)) (fun k hk => .inl (.inl hk))
        unfold put9 at hwn
        rw [← hwn]
        have hlw := H.out.1.size
        have hs2 := (H.out.1.below hbn).s
        have hz2 := (H.out.1.below hbn).z
        have hput := H.out.1.put hbn hrn
        unfold stC at hs2 hnx
        obtain ⟨d0, d1, d2, d3, d4, d5, d6, d7, d8, df⟩ := st9v hs2
        obtain ⟨n0, n1, n2, n3, n4, n5, n6, n7, n8, nf⟩ := st9v hnx
        have HN := Lib.hid (And.intro hput hwn)
        clear hs2 hz2 hput hwn hbn hnx hrn hlw nf
        rename_i kk hkk hhd
        refine hkk _ _ ?_
        refine wp_seq_k ?_
        intro K5 hK5
        have HK5 := Lib.hid hK5
        clear hK5
        go_wp2_with fail
        obtain ⟨wx, hwx⟩ : ∃ x, x = put9 wn w.heap.size (.slice r'.p1 A'.now.length r'.c1) (.slice r'.p2 A'.safe.length r'.c2) (.slice r'.p3 A'.pend.length r'.c3) (.slice r'.p4 A'.files.length r'.c4) (.slice r'.p5 A'.files.length r'.c5) (.int .i64 (A'.room : Int)) (.slice r'.p6 A'.fails.length r'.c6) (.int .i64 A'.power) (.int .i64 (A'.steps : Int)) := ⟨_, rfl⟩
        have HP := Lib.hid HN.out.1
        rw [← hwx] at HP
        unfold put9 at hwx
        rw [← hwx]
        clear hwx d0 d1 d2 d3 d4 d5 d6 d7 d8 df n0 n1 n2 n3 n4 n5 n6 n7 n8
        refine HK5.out _ _ ?_
        have hs3 := HP.out.s
        have hz3 := HP.out.z
        unfold stC at hs3
        obtain ⟨e0, e1, e2, e3, e4, e5, e6, e7, e8, ef⟩ := st9v hs3
        obtain ⟨z0, z1, z2, z3, z4, z5, z6, z7, z8, zf⟩ := st9v hz3
        clear hs3 hz3
        by_cases hz : z = 0
        · rw [hz]
          have HZ := Lib.hid hz
          clear hz
          go_wp2_with fail
          go_roundw
          case rel => exact ⟨k + 1, r', hlt, by go_num, by rw [H.out.2.2.1, ← HR2.out.2.2.1]; exact HP.out, fun j hj => by
            rcases Nat.lt_or_ge j k with h | h
            · exact H.out.2.1 j h
            · obtain rfl : j = k := by omega
              rw [H.out.2.2.2.1, ← HR2.out.2.2.2.1]; exact HZ.out⟩
          case measure => simp [intOf]; omega
        · have q1 : (z == 0) = false := beq_eq_false_iff_ne.2 hz
          have q2 : (z != 0) = true := by simp [bne, q1]
          have HZ := Lib.hid hz
          clear hz
          go_wp2_with fail
          have hse := steps_err (opsL L) B k H.out.2.2.2.2.1 H.out.2.1 (by rw [H.out.2.2.2.1, ← HR2.out.2.2.2.1]; exact HZ.out)
          rw [H.out.2.2.1, H.out.2.2.2.1, ← HR2.out.2.2.1, ← HR2.out.2.2.2.1] at hse
          refine bodyPost_ret (v := .tuple #[.agg #[.slice r'.p1 A'.now.length r'.c1, .slice r'.p2 A'.safe.length r'.c2, .slice r'.p3 A'.pend.length r'.c3, .slice r'.p4 A'.files.length r'.c4, .slice r'.p5 A'.files.length r'.c5, .int .i64 (A'.room : Int), .slice r'.p6 A'.fails.length r'.c6, .int .i64 A'.power, .int .i64 (A'.steps : Int)], .int .i64 k, .int .i64 z]) (by simp [results, Tryz.results53, go_sem, z0, z1, z2, z3, z4, z5, z6, z7, z8]) rfl ?_
          rw [hse]
          exact ⟨r', rfl, HP.out.res _ _ _ _ _ _ _ _ _⟩
    · obtain rfl : k = n := by omega
      have hse := steps_ok (opsL L) B (fun j hj => hz j (by unfold opsL at hj; rw [List.length_map] at hj; omega))
      rw [show (opsL L).length = k by unfold opsL; rw [List.length_map]; exact hn] at hse
      obtain ⟨A, hA⟩ : ∃ A, A = stA B (opsL L) k := ⟨_, rfl⟩
      rw [← hA] at hst hse
      have hs3 := hst.s
      have hz3 := hst.z
      unfold stC at hs3
      obtain ⟨e0, e1, e2, e3, e4, e5, e6, e7, e8, ef⟩ := st9v hs3
      obtain ⟨z0, z1, z2, z3, z4, z5, z6, z7, z8, zf⟩ := st9v hz3
      have H := Lib.hid (And.intro hst hse)
      clear hst hs3 hz3 hse hA hz
      go_wp2_with fail
      refine bodyPost_ret (v := .tuple #[.agg #[.slice rr.p1 A.now.length rr.c1, .slice rr.p2 A.safe.length rr.c2, .slice rr.p3 A.pend.length rr.c3, .slice rr.p4 A.files.length rr.c4, .slice rr.p5 A.files.length rr.c5, .int .i64 (A.room : Int), .slice rr.p6 A.fails.length rr.c6, .int .i64 A.power, .int .i64 (A.steps : Int)], .int .i64 k, .int .i64 0]) (by simp [results, Tryz.results53, go_sem, z0, z1, z2, z3, z4, z5, z6, z7, z8]) rfl ?_
      rw [H.out.2]
      exact ⟨rr, rfl, H.out.1.res _ _ _ _ _ _ _ _ _⟩
end Go.Proofs.YtheoklhmlnfgjaaGreatDoor
