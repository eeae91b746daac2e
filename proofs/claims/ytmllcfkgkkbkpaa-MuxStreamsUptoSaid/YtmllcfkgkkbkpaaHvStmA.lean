/-
  MuxStreams: lone pieces.
-/
import Derived.Test.YtmllcfkgkkbkpaaHvStmBase
namespace Go.Proofs.Ytmllcfkgkkbkpaa
open Go.RowKit
variable {T : Array Value} {x0 x1 x5 x6 x7 x8 x9 x11 x12 x13 x14 x15 : Value}
set_option maxRecDepth 100000 in
set_option maxHeartbeats 8000000 in
theorem pA_lone {b8 b11 b13 q8 o8 q11 o11 m c8 c11 k : Nat} {i y : Int} (w : World) (hT : Tm T x5 x6 x7 (.pointer (some ⟨b8, 0, none⟩)) (.pointer (some ⟨b11, 0, none⟩)) x12 (.pointer (some ⟨b13, 0, none⟩)) (.int .i64 i) (.int .i64 y)) (h13 : w.cell? ⟨b13, 0, none⟩ = some (.int .i64 k)) (h8 : w.cell? ⟨b8, 0, none⟩ = some (.slice (some ⟨q8, o8, none⟩) m c8)) (h11 : w.cell? ⟨b11, 0, none⟩ = some (.slice (some ⟨q11, o11, none⟩) m c11)) (hk : k < m) (hc8 : w.cell? ⟨q8, o8 + k, none⟩ = some (.int .i64 y)) (hc11 : w.cell? ⟨q11, o11 + k, none⟩ = some (.int .i64 i)) (_hm : m ≤ 1000000000000) :
    pASt.wp Try.prog (fun e a' w' => e = .normal ∧ Tm a'.tmps x5 x6 x7 (.pointer (some ⟨b8, 0, none⟩)) (.pointer (some ⟨b11, 0, none⟩)) x12 (.pointer (some ⟨b13, 0, none⟩)) (.int .i64 i) (.int .i64 y) ∧ a'.defers = [] ∧ w' = w) ⟨T, []⟩ w := by
  obtain ⟨v0, v1, v2, v3, v4, v9, v10, v16, v17, v18, v19, v20, v21, v22, v23, v24, v25, v26, v27, v28, v29, v30, v31, v32, v33, v34, v35, v36, v37, v38, v39, v40, v41, v42, v43, v44, v45, v46, v47, v48, v49, v50, v51, v52, v53, v54, v55, v56, v57, v58, v59, v60, v61, v62, v63, v64, v65, v66, v67, v68, v69, v70, v71, v72, v73, v74, v75, v76, v77, v78, v79, v80, v81, v82, v83, v84, v85, v86, v87, v88, v89, v90, v91, v92, v93, v94, v95, v96, v97, rfl⟩ := hT.open
  simp only [pASt, bdSt, rfSt, rcSt, lpSt, bodySt, Try.f5, Option.getD_some]
  go_wp2
  first | exact (Tm.mk rfl rfl rfl rfl rfl rfl rfl rfl rfl rfl) | exact ⟨(Tm.mk rfl rfl rfl rfl rfl rfl rfl rfl rfl rfl), rfl⟩ | trace_state
set_option maxRecDepth 100000 in
set_option maxHeartbeats 8000000 in
theorem p22_lone {b13 k : Nat} (w : World) (hT : Tm T x5 x6 x7 x8 x11 x12 (.pointer (some ⟨b13, 0, none⟩)) x14 x15) (h13 : w.cell? ⟨b13, 0, none⟩ = some (.int .i64 k)) (hf : w.frozen? ⟨b13, 0, none⟩ = false) (hk : k < 1000000000000) :
    p22St.wp Try.prog (fun e a' w' => e = .normal ∧ Tm a'.tmps x5 x6 x7 x8 x11 x12 (.pointer (some ⟨b13, 0, none⟩)) x14 x15 ∧ a'.defers = [] ∧ w' = w.setCell ⟨b13, 0, none⟩ (.int .i64 ((k : Int) + 1))) ⟨T, []⟩ w := by
  obtain ⟨v0, v1, v2, v3, v4, v9, v10, v16, v17, v18, v19, v20, v21, v22, v23, v24, v25, v26, v27, v28, v29, v30, v31, v32, v33, v34, v35, v36, v37, v38, v39, v40, v41, v42, v43, v44, v45, v46, v47, v48, v49, v50, v51, v52, v53, v54, v55, v56, v57, v58, v59, v60, v61, v62, v63, v64, v65, v66, v67, v68, v69, v70, v71, v72, v73, v74, v75, v76, v77, v78, v79, v80, v81, v82, v83, v84, v85, v86, v87, v88, v89, v90, v91, v92, v93, v94, v95, v96, v97, rfl⟩ := hT.open
  simp only [p22St, bdSt, rfSt, rcSt, lpSt, bodySt, Try.f5, Option.getD_some]
  have hw1 : IntKind.i64.wrap ((k : Int) + 1) = (k : Int) + 1 := by rw [IntKind.wrap_i64]; omega
  go_wp2
  first | exact (Tm.mk rfl rfl rfl rfl rfl rfl rfl rfl rfl rfl) | exact ⟨(Tm.mk rfl rfl rfl rfl rfl rfl rfl rfl rfl rfl), rfl⟩ | trace_state
end Go.Proofs.Ytmllcfkgkkbkpaa
