/-
  MuxMemory: its lone loops.
-/
import Derived.Test.YtmllcfkgkkbkpaaHvMemBase
import Derived.Deep.RegionHeld3
namespace Go.Proofs.Ytmllcfkgkkbkpaa
open Go.RowKit
variable {T : Array Value} {x0 x1 x4 x5 x6 x7 x8 : Value}
set_option maxRecDepth 100000 in
set_option maxHeartbeats 8000000 in
theorem l2_lone {p q : Option Addr} {n c cq lo hi : Nat} {L : List (List Int)} (w : World) (hT : Tq T (.slice p n c) x1 x4 (.slice q n cq) x6 x7 x8) (hA : ∀ w' : World, (∀ x, x < lo → w'.heap[x]? = w.heap[x]?) → InLs w' p L) (hown : OwnK w lo hi (.slice q n cq) L 0) (hn : L.length = n) (hs : n ≤ 1000000) (hl : ∀ l ∈ L, l.length ≤ 1000000000000) (_hlo : lo ≤ w.heap.size) (hhi : hi ≤ w.heap.size) :
    l2Mm.wp Try.prog (fun e a' w' => e = .normal ∧ Tq a'.tmps (.slice p n c) x1 x4 (.slice q n cq) x6 x7 x8 ∧ a'.defers = [] ∧ Touch lo hi w w') ⟨T, []⟩ w := by
  obtain ⟨v2, v3, v9, v10, v11, v12, v13, v14, v15, v16, v17, v18, v19, v20, v21, v22, v23, v24, v25, v26, v27, v28, v29, v30, v31, v32, v33, v34, v35, v36, v37, v38, v39, v40, v41, v42, v43, v44, v45, v46, v47, v48, v49, v50, v51, v52, v53, v54, v55, v56, v57, v58, v59, v60, v61, v62, v63, v64, v65, v66, v67, v68, v69, v70, v71, v72, v73, v74, v75, v76, v77, v78, v79, v80, v81, v82, v83, v84, v85, v86, v87, v88, v89, v90, v91, v92, v93, v94, v95, v96, v97, v98, v99, v100, v101, v102, v103, v104, v105, v106, rfl⟩ := hT.open
  have HN := Lib.hid hn
  have HA := Lib.hid hA
  clear hn hA
  simp only [l2Mm, bodyMm, Try.f8, Option.getD_some]
  go_wp2
  go_loopw [10] (fun i wr => ∃ k : Nat, k ≤ n ∧ i = .int .i64 k ∧ OwnK wr lo hi (.slice q n cq) L k ∧ Touch lo hi w wr) (fun i _ => n - (intOf i).toNat)
  case atStart => exact ⟨0, Nat.zero_le _, rfl, hown, Touch.refl _ _ _⟩
  case round =>
    obtain ⟨k, hk, rfl, hown', ht⟩ := hrel
    by_cases hlt : k < n
    · have hkL : k < L.length := by rw [HN.out]; exact hlt
      obtain ⟨g, cap, qu, cu, e, hg1, hg2, hcg, hfg, hit⟩ := hown'.at hkL
      rw [HN.out] at e
      simp only [Value.slice.injEq] at e
      obtain ⟨rfl, _, rfl⟩ := e
      have hin : InLs wr p L := HA.out wr fun x hx => ht.out x (by omega) (.inl hx)
      obtain ⟨b, o, qa, ca, rfl, hca, hia⟩ := hin.at hkL
      have hll := hl L[k] (List.getElem_mem hkL)
      have hib : InI wr qu L[k] := (hit.shape rfl).elim fun _ h => h.elim fun _ h => by
        obtain ⟨e, _, _, h4, _⟩ := h
        simp only [Value.slice.injEq, true_and] at e
        obtain ⟨rfl, rfl⟩ := e
        exact h4
      have HLK := Lib.hid (List.getElem?_eq_getElem hkL)
      obtain ⟨l, hll0⟩ : ∃ l, l = L[k] := ⟨_, rfl⟩
      rw [← hll0] at hcg hit hca hia hib hll
      have HLK2 := Lib.hid (show L[k]? = some l by rw [hll0]; exact List.getElem?_eq_getElem hkL)
      clear hll0 HLK
      obtain ⟨S, hSS⟩ : ∃ S : World → Prop, S = fun W => W.cell? ⟨b, o + k, none⟩ = some (.slice qa l.length ca) ∧ W.cell? ⟨g, k, none⟩ = some (.slice qu l.length cu) := ⟨_, rfl⟩
      have HSS := Lib.hid (fun W => show S W ↔ W.cell? ⟨b, o + k, none⟩ = some (.slice qa l.length ca) ∧ W.cell? ⟨g, k, none⟩ = some (.slice qu l.length cu) by rw [hSS])
      have HK0 := Lib.hid (show S wr.drew by rw [hSS]; exact ⟨hca, hcg⟩)
      have HCL := Lib.hid (show Calls Try.prog 13 #[.slice qu l.length cu, .slice qa l.length ca] wr.drew fun e w' => e = .returned (.bool true) ∧ S w' ∧ Below wr.heap.size wr w' from
        (sameInts_any wr.drew (hib.below (Below.refl _ wr).drew) (hia.below (Below.refl _ wr).drew) rfl rfl (by omega)).mono fun e w' ⟨h1, h2⟩ => by
          have hb4 : Below wr.heap.size wr w' := ((Below.refl _ wr).drew).trans h2
          refine ⟨by rw [h1]; simp, ?_, hb4⟩
          rw [hSS]
          exact ⟨(hb4.cell (World.block_lt_of_cell? wr _ hca)).trans hca, (hb4.cell (World.block_lt_of_cell? wr _ hcg)).trans hcg⟩)
      have HOW := Lib.hid hown'
      have HT := Lib.hid ht
      have hgs : g < wr.heap.size := World.block_lt_of_cell? wr _ hcg
      clear hSS hca hcg hia hib hit hown' ht hin hfg
      go_wp2_with fail
      go_region_held3 (fun W => W.cell? ⟨b, o + k, none⟩ = some (.slice qa l.length ca) ∧ W.cell? ⟨g, k, none⟩ = some (.slice qu l.length cu))
        (first | (with_reducible exact (HSS.out _).1 HK0.out) | (with_reducible exact (HSS.out _).1 HK1.out))
        (first
          | (go_at_call 13; with_reducible refine HCL.out.mono ?_; rintro e w4 ⟨rfl, hk1, hb4⟩; have HK1 := Lib.hid hk1; have HB4 := Lib.hid hb4; clear hk1 hb4))
      all_goals
        have hk4 : OwnK w4 lo hi (.slice (some ⟨g, 0, none⟩) n cq) (L.set k l) k := by
          have : L.set k l = L := by
            have h1 := HLK2.out
            rw [List.getElem?_eq_getElem hkL] at h1
            rw [← Option.some.inj h1]
            exact List.set_getElem_self hkL
          rw [this]
          exact HOW.out.keep fun x _ hx => HB4.out.block x (by have := HT.out.size; omega)
        have ht4 := HT.out.below HB4.out
        go_wp2_with fail
        go_loopw [11] (fun j wi => ∃ (t : Nat) (l' : List Int), t ≤ l.length ∧ j = .int .i64 t ∧ l'.length = l.length ∧ OwnK wi lo hi (.slice (some ⟨g, 0, none⟩) n cq) (L.set k l') k ∧ Touch lo hi w wi) (fun j _ => l.length - (intOf j).toNat)
        case atStart => exact ⟨0, l, Nat.zero_le _, rfl, rfl, hk4, ht4⟩
        case round =>
          obtain ⟨t, l', htl, rfl, hl', hown2, ht2⟩ := hrel
          have hkS : k < (L.set k l').length := by rw [List.length_set]; exact hkL
          obtain ⟨g2, cap2, qu2, cu2, e2, _, _, hcg2, hfg2, hit2⟩ := hown2.at hkS
          rw [List.length_set, HN.out] at e2
          simp only [Value.slice.injEq, Option.some.injEq, Addr.mk.injEq, and_true, true_and] at e2
          obtain ⟨rfl, rfl⟩ := e2
          rw [List.getElem_set_self, hl'] at hcg2
          rw [List.getElem_set_self] at hit2
          by_cases hlt2 : t < l.length
          · obtain ⟨gu, cu3, e3, _, _⟩ := owns_block hit2 (by omega)
            simp only [Value.slice.injEq] at e3
            obtain ⟨rfl, _, rfl⟩ := e3
            obtain ⟨hput, hfz, hne, hgu1, hgu2⟩ := hown2.put (j := t) (x := -9) (by rw [List.length_set, HN.out]) (List.getElem?_set_self hkL) hcg2 hl'
            rw [List.set_set] at hput
            have htl' : t < l'.length := by omega
            have hct : wr.cell? ⟨gu, t, none⟩ = some (.int .i64 l'[t]) := by
              unfold OwnI at hit2
              rw [World.ownsRow.cellAt hit2 t (by omega)]
              unfold iv
              rw [List.getElem?_map, List.getElem?_eq_getElem htl']
              rfl
            have HP := Lib.hid (And.intro hput (ht2.set (i := t) (v := .int .i64 (-9)) hgu1 hgu2))
            have HL' := Lib.hid hl'
            generalize l'[t] = y at hct
            clear hput hit2 ht2 hown2 hl' hfg2
            go_wp2_with fail
            go_roundw
            case rel => exact ⟨t + 1, l'.set t (-9), by omega, by go_num, by rw [List.length_set]; exact HL'.out, HP.out.1, HP.out.2⟩
            case measure => simp [intOf]; omega
          · obtain rfl : t = l.length := by omega
            have HD := Lib.hid (And.intro ((hown2.drop (by rw [List.length_set, HN.out])).unset) (ht2.set (i := k) (v := .slice none 0 0) hg1 hg2))
            clear hown2 ht2 hit2 hl'
            go_wp2_with fail
            go_roundw
            case rel => exact ⟨k + 1, by omega, by go_num, HD.out.1, HD.out.2⟩
            case measure => simp [intOf]; omega
    · obtain rfl : k = n := by omega
      have HT := Lib.hid ht
      clear hown' ht
      go_wp2
      first | exact ⟨(Tq.mk rfl rfl rfl rfl rfl rfl rfl rfl), HT.out⟩ | exact ⟨(Tq.mk rfl rfl rfl rfl rfl rfl rfl rfl), rfl, HT.out⟩ | trace_state
end Go.Proofs.Ytmllcfkgkkbkpaa
