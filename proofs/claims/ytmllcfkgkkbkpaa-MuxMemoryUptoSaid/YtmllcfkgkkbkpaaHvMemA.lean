/-
  MuxMemory: its lone loops.
-/
import Derived.Test.YtmllcfkgkkbkpaaHvMemBase
import Derived.Deep.RegionHeld3
namespace Go.Proofs.Ytmllcfkgkkbkpaa
open Go.RowKit
variable {T : Array Value} {x0 x1 x4 x5 x6 x7 x8 : Value}
set_option maxRecDepth 100000 in
set_option maxHeartbeats 8000000 in
theorem l1_lone {q : Option Addr} {m cq lo hi : Nat} {l : List Int} (w : World) (hT : Tq T x0 x1 x4 x5 x6 (.slice q m cq) x8) (hown : OwnI w lo (.slice q m cq) l) (hn : l.length = m) (hm : m ≤ 1000000000000) (hhi : ∀ a, q = some a → a.block < hi) :
    l1Mm.wp Try.prog (fun e a' w' => e = .normal ∧ Tq a'.tmps x0 x1 x4 x5 x6 (.slice q m cq) x8 ∧ a'.defers = [] ∧ Touch lo hi w w') ⟨T, []⟩ w := by
  obtain ⟨v2, v3, v9, v10, v11, v12, v13, v14, v15, v16, v17, v18, v19, v20, v21, v22, v23, v24, v25, v26, v27, v28, v29, v30, v31, v32, v33, v34, v35, v36, v37, v38, v39, v40, v41, v42, v43, v44, v45, v46, v47, v48, v49, v50, v51, v52, v53, v54, v55, v56, v57, v58, v59, v60, v61, v62, v63, v64, v65, v66, v67, v68, v69, v70, v71, v72, v73, v74, v75, v76, v77, v78, v79, v80, v81, v82, v83, v84, v85, v86, v87, v88, v89, v90, v91, v92, v93, v94, v95, v96, v97, v98, v99, v100, v101, v102, v103, v104, v105, v106, rfl⟩ := hT.open
  have HH := Lib.hid hhi
  clear hhi
  simp only [l1Mm, bodyMm, Try.f8, Option.getD_some]
  go_wp2
  go_loopw [9] (fun i wr => ∃ (k : Nat) (l' : List Int), k ≤ m ∧ i = .int .i64 k ∧ l'.length = m ∧ OwnI wr lo (.slice q m cq) l' ∧ Touch lo hi w wr) (fun i _ => m - (intOf i).toNat)
  case atStart => exact ⟨0, l, Nat.zero_le _, rfl, hn, hown, Touch.refl _ _ _⟩
  case round =>
    obtain ⟨k, l', hk, rfl, hn', hown', ht⟩ := hrel
    by_cases hlt : k < m
    · obtain ⟨g, cap, e, hlo, _⟩ := owns_block hown' (by omega)
      simp only [Value.slice.injEq] at e
      obtain ⟨rfl, _, rfl⟩ := e
      obtain ⟨hst, hoth, hfz⟩ := OwnI.stored hn' hown' k (-7)
      have hkl : k < l'.length := by omega
      have hc : wr.cell? ⟨g, k, none⟩ = some (.int .i64 l'[k]) := by
        have h5 := hown'
        unfold OwnI at h5
        rw [hn'] at h5
        rw [World.ownsRow.cellAt h5 k (by omega)]
        unfold iv
        rw [List.getElem?_map, List.getElem?_eq_getElem hkl]
        rfl
      have HST := Lib.hid (show OwnI (wr.setCell ⟨g, k, none⟩ (.int .i64 (-7))) lo (.slice (some ⟨g, 0, none⟩) m cq) (l'.set k (-7)) ∧ (l'.set k (-7)).length = m ∧ Touch lo hi w (wr.setCell ⟨g, k, none⟩ (.int .i64 (-7))) from ⟨hst, by rw [List.length_set]; exact hn', ht.set hlo (HH.out _ rfl)⟩)
      generalize l'[k] = y at hc
      clear hst hoth hown' ht hn'
      go_wp2
      go_roundw
      case rel => exact ⟨k + 1, l'.set k (-7), by omega, by go_num, HST.out.2.1, HST.out.1, HST.out.2.2⟩
      case measure => simp [intOf]; omega
    · obtain rfl : k = m := by omega
      have HT := Lib.hid ht
      clear hown' ht hn'
      go_wp2
      first | exact ⟨(Tq.mk rfl rfl rfl rfl rfl rfl rfl rfl), HT.out⟩ | exact ⟨(Tq.mk rfl rfl rfl rfl rfl rfl rfl rfl), rfl, HT.out⟩ | trace_state
set_option maxRecDepth 100000 in
set_option maxHeartbeats 8000000 in
theorem l3_lone {q : Option Addr} {m cq lo hi : Nat} {l : List Int} (w : World) (hT : Tq T x0 x1 x4 x5 (.slice q m cq) x7 x8) (hown : OwnI w lo (.slice q m cq) l) (hn : l.length = m) (hm : m ≤ 1000000000000) (hhi : ∀ a, q = some a → a.block < hi) :
    l3Mm.wp Try.prog (fun e a' w' => e = .normal ∧ Tq a'.tmps x0 x1 x4 x5 (.slice q m cq) x7 x8 ∧ a'.defers = [] ∧ Touch lo hi w w') ⟨T, []⟩ w := by
  obtain ⟨v2, v3, v9, v10, v11, v12, v13, v14, v15, v16, v17, v18, v19, v20, v21, v22, v23, v24, v25, v26, v27, v28, v29, v30, v31, v32, v33, v34, v35, v36, v37, v38, v39, v40, v41, v42, v43, v44, v45, v46, v47, v48, v49, v50, v51, v52, v53, v54, v55, v56, v57, v58, v59, v60, v61, v62, v63, v64, v65, v66, v67, v68, v69, v70, v71, v72, v73, v74, v75, v76, v77, v78, v79, v80, v81, v82, v83, v84, v85, v86, v87, v88, v89, v90, v91, v92, v93, v94, v95, v96, v97, v98, v99, v100, v101, v102, v103, v104, v105, v106, rfl⟩ := hT.open
  have HH := Lib.hid hhi
  clear hhi
  simp only [l3Mm, bodyMm, Try.f8, Option.getD_some]
  go_wp2
  go_loopw [12] (fun i wr => ∃ (k : Nat) (l' : List Int), k ≤ m ∧ i = .int .i64 k ∧ l'.length = m ∧ OwnI wr lo (.slice q m cq) l' ∧ Touch lo hi w wr) (fun i _ => m - (intOf i).toNat)
  case atStart => exact ⟨0, l, Nat.zero_le _, rfl, hn, hown, Touch.refl _ _ _⟩
  case round =>
    obtain ⟨k, l', hk, rfl, hn', hown', ht⟩ := hrel
    by_cases hlt : k < m
    · obtain ⟨g, cap, e, hlo, _⟩ := owns_block hown' (by omega)
      simp only [Value.slice.injEq] at e
      obtain ⟨rfl, _, rfl⟩ := e
      obtain ⟨hst, hoth, hfz⟩ := OwnI.stored hn' hown' k (3)
      have hkl : k < l'.length := by omega
      have hc : wr.cell? ⟨g, k, none⟩ = some (.int .i64 l'[k]) := by
        have h5 := hown'
        unfold OwnI at h5
        rw [hn'] at h5
        rw [World.ownsRow.cellAt h5 k (by omega)]
        unfold iv
        rw [List.getElem?_map, List.getElem?_eq_getElem hkl]
        rfl
      have HST := Lib.hid (show OwnI (wr.setCell ⟨g, k, none⟩ (.int .i64 (3))) lo (.slice (some ⟨g, 0, none⟩) m cq) (l'.set k (3)) ∧ (l'.set k (3)).length = m ∧ Touch lo hi w (wr.setCell ⟨g, k, none⟩ (.int .i64 (3))) from ⟨hst, by rw [List.length_set]; exact hn', ht.set hlo (HH.out _ rfl)⟩)
      generalize l'[k] = y at hc
      clear hst hoth hown' ht hn'
      go_wp2
      go_roundw
      case rel => exact ⟨k + 1, l'.set k (3), by omega, by go_num, HST.out.2.1, HST.out.1, HST.out.2.2⟩
      case measure => simp [intOf]; omega
    · obtain rfl : k = m := by omega
      have HT := Lib.hid ht
      clear hown' ht hn'
      go_wp2
      first | exact ⟨(Tq.mk rfl rfl rfl rfl rfl rfl rfl rfl), HT.out⟩ | exact ⟨(Tq.mk rfl rfl rfl rfl rfl rfl rfl rfl), rfl, HT.out⟩ | trace_state
end Go.Proofs.Ytmllcfkgkkbkpaa
