/-
  MuxMemory: the last loop's lone pieces.
-/
import Derived.Test.YtmllcfkgkkbkpaaHvMemBase
namespace Go.Proofs.Ytmllcfkgkkbkpaa
open Go.RowKit
noncomputable def rfMm : Code := match bodyMm with | .seq _ (.seq _ (.seq _ (.seq _ (.seq _ (.seq _ (.seq _ (.seq _ (.seq _ (.seq _ (.seq _ (.seq _ (.seq x _)))))))))))) => x | _ => .skip
noncomputable def r34Mm : Code := match bodyMm with | .seq _ (.seq _ (.seq _ (.seq _ (.seq _ (.seq _ (.seq _ (.seq _ (.seq _ (.seq _ (.seq _ (.seq _ (.seq _ (.seq x _))))))))))))) => x | _ => .skip
noncomputable def r29Mm : Code := match rfMm with | .seq x _ => x | _ => .skip
noncomputable def loMm : Code := match rfMm with | .seq _ (.block _ x) => x | _ => .skip
noncomputable def asMm : Code := match loMm with | .rangeFunc _ _ x _ => x | _ => .skip
noncomputable def bdMm : Code := match loMm with | .rangeFunc _ _ _ x => x | _ => .skip
noncomputable def pBMm : Code := match bdMm with | .block _ (.seq x _) => x | _ => .skip
noncomputable def r33Mm : Code := match bdMm with | .block _ (.seq _ x) => x | _ => .skip
theorem bdMm_eq : bdMm = .block 9 (.seq pBMm r33Mm) := rfl
theorem rfMm_eq : ∃ c, rfMm = .seq r29Mm (.block 8 (.rangeFunc c #[87, 88] asMm bdMm)) ∧ ∀ a : Act, a.eval c = a.tmps.getD 86 undef := ⟨_, rfl, fun _ => rfl⟩
variable {T : Array Value} {x4 x8 x13 x14 x16 : Value}
set_option maxRecDepth 100000 in
set_option maxHeartbeats 8000000 in
theorem pB_lone {b13 b14 q o m c k : Nat} {y : Int} (w : World) (hT : Tb T x4 x8 (.pointer (some ⟨b13, 0, none⟩)) (.pointer (some ⟨b14, 0, none⟩)) (.int .i64 y)) (h14 : w.cell? ⟨b14, 0, none⟩ = some (.int .i64 k)) (h13 : w.cell? ⟨b13, 0, none⟩ = some (.slice (some ⟨q, o, none⟩) m c)) (hk : k < m) (hc : w.cell? ⟨q, o + k, none⟩ = some (.int .i64 y)) (_hm : m ≤ 1000000000000) :
    pBMm.wp Try.prog (fun e a' w' => e = .normal ∧ Tb a'.tmps x4 x8 (.pointer (some ⟨b13, 0, none⟩)) (.pointer (some ⟨b14, 0, none⟩)) (.int .i64 y) ∧ a'.defers = [] ∧ w' = w) ⟨T, []⟩ w := by
  obtain ⟨v0, v1, v2, v3, v5, v6, v7, v9, v10, v11, v12, v15, v17, v18, v19, v20, v21, v22, v23, v24, v25, v26, v27, v28, v29, v30, v31, v32, v33, v34, v35, v36, v37, v38, v39, v40, v41, v42, v43, v44, v45, v46, v47, v48, v49, v50, v51, v52, v53, v54, v55, v56, v57, v58, v59, v60, v61, v62, v63, v64, v65, v66, v67, v68, v69, v70, v71, v72, v73, v74, v75, v76, v77, v78, v79, v80, v81, v82, v83, v84, v85, v86, v87, v88, v89, v90, v91, v92, v93, v94, v95, v96, v97, v98, v99, v100, v101, v102, v103, v104, v105, v106, rfl⟩ := hT.open
  simp only [pBMm, bdMm, loMm, rfMm, bodyMm, Try.f8, Option.getD_some]
  go_wp2
  first | exact (Tb.mk rfl rfl rfl rfl rfl rfl) | exact ⟨(Tb.mk rfl rfl rfl rfl rfl rfl), rfl⟩ | trace_state
set_option maxRecDepth 100000 in
set_option maxHeartbeats 8000000 in
theorem r33_lone {b14 k : Nat} (w : World) (hT : Tb T x4 x8 x13 (.pointer (some ⟨b14, 0, none⟩)) x16) (h14 : w.cell? ⟨b14, 0, none⟩ = some (.int .i64 k)) (hf : w.frozen? ⟨b14, 0, none⟩ = false) (hk : k < 1000000000000) :
    r33Mm.wp Try.prog (fun e a' w' => e = .normal ∧ Tb a'.tmps x4 x8 x13 (.pointer (some ⟨b14, 0, none⟩)) x16 ∧ a'.defers = [] ∧ w' = w.setCell ⟨b14, 0, none⟩ (.int .i64 ((k : Int) + 1))) ⟨T, []⟩ w := by
  obtain ⟨v0, v1, v2, v3, v5, v6, v7, v9, v10, v11, v12, v15, v17, v18, v19, v20, v21, v22, v23, v24, v25, v26, v27, v28, v29, v30, v31, v32, v33, v34, v35, v36, v37, v38, v39, v40, v41, v42, v43, v44, v45, v46, v47, v48, v49, v50, v51, v52, v53, v54, v55, v56, v57, v58, v59, v60, v61, v62, v63, v64, v65, v66, v67, v68, v69, v70, v71, v72, v73, v74, v75, v76, v77, v78, v79, v80, v81, v82, v83, v84, v85, v86, v87, v88, v89, v90, v91, v92, v93, v94, v95, v96, v97, v98, v99, v100, v101, v102, v103, v104, v105, v106, rfl⟩ := hT.open
  simp only [r33Mm, bdMm, loMm, rfMm, bodyMm, Try.f8, Option.getD_some]
  have hw1 : IntKind.i64.wrap ((k : Int) + 1) = (k : Int) + 1 := by rw [IntKind.wrap_i64]; omega
  go_wp2
  first | exact (Tb.mk rfl rfl rfl rfl rfl rfl) | exact ⟨(Tb.mk rfl rfl rfl rfl rfl rfl), rfl⟩ | trace_state
set_option maxRecDepth 100000 in
set_option maxHeartbeats 8000000 in
theorem r29_lone (w : World) (hT : Tb T x4 x8 x13 x14 x16) :
    r29Mm.wp Try.prog (fun e a' w' => e = .normal ∧ (Tb a'.tmps x4 x8 x13 x14 x16 ∧ a'.tmps.getD 86 undef = x8) ∧ a'.defers = [] ∧ w' = w) ⟨T, []⟩ w := by
  obtain ⟨v0, v1, v2, v3, v5, v6, v7, v9, v10, v11, v12, v15, v17, v18, v19, v20, v21, v22, v23, v24, v25, v26, v27, v28, v29, v30, v31, v32, v33, v34, v35, v36, v37, v38, v39, v40, v41, v42, v43, v44, v45, v46, v47, v48, v49, v50, v51, v52, v53, v54, v55, v56, v57, v58, v59, v60, v61, v62, v63, v64, v65, v66, v67, v68, v69, v70, v71, v72, v73, v74, v75, v76, v77, v78, v79, v80, v81, v82, v83, v84, v85, v86, v87, v88, v89, v90, v91, v92, v93, v94, v95, v96, v97, v98, v99, v100, v101, v102, v103, v104, v105, v106, rfl⟩ := hT.open
  simp only [r29Mm, rfMm, bodyMm, Try.f8, Option.getD_some]
  go_wp2
  first | exact (Tb.mk rfl rfl rfl rfl rfl rfl) | exact ⟨(Tb.mk rfl rfl rfl rfl rfl rfl), rfl⟩ | trace_state
set_option maxRecDepth 100000 in
set_option maxHeartbeats 8000000 in
theorem r34_lone {b4 b13 b14 m c : Nat} {q : Option Addr} {v0 : Value} (w : World) (hT : Tb T (.pointer (some ⟨b4, 0, none⟩)) x8 (.pointer (some ⟨b13, 0, none⟩)) (.pointer (some ⟨b14, 0, none⟩)) x16) (h14 : w.cell? ⟨b14, 0, none⟩ = some (.int .i64 m)) (h13 : w.cell? ⟨b13, 0, none⟩ = some (.slice q m c)) (h4 : w.cell? ⟨b4, 0, none⟩ = some v0) (hf : w.frozen? ⟨b4, 0, none⟩ = false) (_hm : m ≤ 1000000000000) :
    r34Mm.wp Try.prog (fun e a' w' => e = .normal ∧ Tb a'.tmps (.pointer (some ⟨b4, 0, none⟩)) x8 (.pointer (some ⟨b13, 0, none⟩)) (.pointer (some ⟨b14, 0, none⟩)) x16 ∧ a'.defers = [] ∧ w' = w.setCell ⟨b4, 0, none⟩ (.bool true)) ⟨T, []⟩ w := by
  obtain ⟨v0, v1, v2, v3, v5, v6, v7, v9, v10, v11, v12, v15, v17, v18, v19, v20, v21, v22, v23, v24, v25, v26, v27, v28, v29, v30, v31, v32, v33, v34, v35, v36, v37, v38, v39, v40, v41, v42, v43, v44, v45, v46, v47, v48, v49, v50, v51, v52, v53, v54, v55, v56, v57, v58, v59, v60, v61, v62, v63, v64, v65, v66, v67, v68, v69, v70, v71, v72, v73, v74, v75, v76, v77, v78, v79, v80, v81, v82, v83, v84, v85, v86, v87, v88, v89, v90, v91, v92, v93, v94, v95, v96, v97, v98, v99, v100, v101, v102, v103, v104, v105, v106, rfl⟩ := hT.open
  simp only [r34Mm, bodyMm, Try.f8, Option.getD_some]
  go_wp2
  first | exact (Tb.mk rfl rfl rfl rfl rfl rfl) | exact ⟨(Tb.mk rfl rfl rfl rfl rfl rfl), rfl⟩ | trace_state
end Go.Proofs.Ytmllcfkgkkbkpaa
