/-
  MuxMemory: its code's parts.
-/
import Derived.Test.YtmllcfkgkkbkpaaPk2
import Derived.Test.YtmllcfkgkkbkpaaPk5
import Derived.Test.YtmllcfkgkkbkpaaPk0
import Derived.Deep.QuietTactic
namespace Go.Proofs.Ytmllcfkgkkbkpaa
open Go.RowKit
noncomputable def bodyMm : Code := (Try.f8.body).getD .skip
noncomputable def l1Mm : Code := match bodyMm with | .seq _ (.seq _ (.seq _ (.seq _ (.seq _ (.seq _ (.seq _ (.seq x _))))))) => x | _ => .skip
noncomputable def l2Mm : Code := match bodyMm with | .seq _ (.seq _ (.seq _ (.seq _ (.seq _ (.seq _ (.seq _ (.seq _ (.seq x _)))))))) => x | _ => .skip
noncomputable def l3Mm : Code := match bodyMm with | .seq _ (.seq _ (.seq _ (.seq _ (.seq _ (.seq _ (.seq _ (.seq _ (.seq _ (.seq x _))))))))) => x | _ => .skip
def Tq (T : Array Value) (x0 x1 x4 x5 x6 x7 x8 : Value) : Prop := T.size = 107 ∧ T[0]? = some x0 ∧ T[1]? = some x1 ∧ T[4]? = some x4 ∧ T[5]? = some x5 ∧ T[6]? = some x6 ∧ T[7]? = some x7 ∧ T[8]? = some x8
set_option maxRecDepth 100000 in
theorem Tq.open {T : Array Value} {x0 x1 x4 x5 x6 x7 x8 : Value} (h : Tq T x0 x1 x4 x5 x6 x7 x8) : ∃ v2 v3 v9 v10 v11 v12 v13 v14 v15 v16 v17 v18 v19 v20 v21 v22 v23 v24 v25 v26 v27 v28 v29 v30 v31 v32 v33 v34 v35 v36 v37 v38 v39 v40 v41 v42 v43 v44 v45 v46 v47 v48 v49 v50 v51 v52 v53 v54 v55 v56 v57 v58 v59 v60 v61 v62 v63 v64 v65 v66 v67 v68 v69 v70 v71 v72 v73 v74 v75 v76 v77 v78 v79 v80 v81 v82 v83 v84 v85 v86 v87 v88 v89 v90 v91 v92 v93 v94 v95 v96 v97 v98 v99 v100 v101 v102 v103 v104 v105 v106, T = #[x0, x1, v2, v3, x4, x5, x6, x7, x8, v9, v10, v11, v12, v13, v14, v15, v16, v17, v18, v19, v20, v21, v22, v23, v24, v25, v26, v27, v28, v29, v30, v31, v32, v33, v34, v35, v36, v37, v38, v39, v40, v41, v42, v43, v44, v45, v46, v47, v48, v49, v50, v51, v52, v53, v54, v55, v56, v57, v58, v59, v60, v61, v62, v63, v64, v65, v66, v67, v68, v69, v70, v71, v72, v73, v74, v75, v76, v77, v78, v79, v80, v81, v82, v83, v84, v85, v86, v87, v88, v89, v90, v91, v92, v93, v94, v95, v96, v97, v98, v99, v100, v101, v102, v103, v104, v105, v106] := by
  obtain ⟨h, t0, t1, t4, t5, t6, t7, t8⟩ := h
  obtain ⟨v0, v1, v2, v3, v4, v5, v6, v7, v8, v9, v10, v11, v12, v13, v14, v15, v16, v17, v18, v19, v20, v21, v22, v23, v24, v25, v26, v27, v28, v29, v30, v31, v32, v33, v34, v35, v36, v37, v38, v39, v40, v41, v42, v43, v44, v45, v46, v47, v48, v49, v50, v51, v52, v53, v54, v55, v56, v57, v58, v59, v60, v61, v62, v63, v64, v65, v66, v67, v68, v69, v70, v71, v72, v73, v74, v75, v76, v77, v78, v79, v80, v81, v82, v83, v84, v85, v86, v87, v88, v89, v90, v91, v92, v93, v94, v95, v96, v97, v98, v99, v100, v101, v102, v103, v104, v105, v106, rfl⟩ := array107 T h
  simp only [List.getElem?_toArray, List.getElem?_cons_zero, List.getElem?_cons_succ, Option.some.injEq] at t0 t1 t4 t5 t6 t7 t8
  subst t0 t1 t4 t5 t6 t7 t8
  exact ⟨_, _, _, _, _, _, _, _, _, _, _, _, _, _, _, _, _, _, _, _, _, _, _, _, _, _, _, _, _, _, _, _, _, _, _, _, _, _, _, _, _, _, _, _, _, _, _, _, _, _, _, _, _, _, _, _, _, _, _, _, _, _, _, _, _, _, _, _, _, _, _, _, _, _, _, _, _, _, _, _, _, _, _, _, _, _, _, _, _, _, _, _, _, _, _, _, _, _, _, _, rfl⟩
theorem Tq.mk {T : Array Value} {x0 x1 x4 x5 x6 x7 x8 : Value} (h : T.size = 107) (t0 : T[0]? = some x0) (t1 : T[1]? = some x1) (t4 : T[4]? = some x4) (t5 : T[5]? = some x5) (t6 : T[6]? = some x6) (t7 : T[7]? = some x7) (t8 : T[8]? = some x8) : Tq T x0 x1 x4 x5 x6 x7 x8 := ⟨h, t0, t1, t4, t5, t6, t7, t8⟩
def Tb (T : Array Value) (x4 x8 x13 x14 x16 : Value) : Prop := T.size = 107 ∧ T[4]? = some x4 ∧ T[8]? = some x8 ∧ T[13]? = some x13 ∧ T[14]? = some x14 ∧ T[16]? = some x16
set_option maxRecDepth 100000 in
theorem Tb.open {T : Array Value} {x4 x8 x13 x14 x16 : Value} (h : Tb T x4 x8 x13 x14 x16) : ∃ v0 v1 v2 v3 v5 v6 v7 v9 v10 v11 v12 v15 v17 v18 v19 v20 v21 v22 v23 v24 v25 v26 v27 v28 v29 v30 v31 v32 v33 v34 v35 v36 v37 v38 v39 v40 v41 v42 v43 v44 v45 v46 v47 v48 v49 v50 v51 v52 v53 v54 v55 v56 v57 v58 v59 v60 v61 v62 v63 v64 v65 v66 v67 v68 v69 v70 v71 v72 v73 v74 v75 v76 v77 v78 v79 v80 v81 v82 v83 v84 v85 v86 v87 v88 v89 v90 v91 v92 v93 v94 v95 v96 v97 v98 v99 v100 v101 v102 v103 v104 v105 v106, T = #[v0, v1, v2, v3, x4, v5, v6, v7, x8, v9, v10, v11, v12, x13, x14, v15, x16, v17, v18, v19, v20, v21, v22, v23, v24, v25, v26, v27, v28, v29, v30, v31, v32, v33, v34, v35, v36, v37, v38, v39, v40, v41, v42, v43, v44, v45, v46, v47, v48, v49, v50, v51, v52, v53, v54, v55, v56, v57, v58, v59, v60, v61, v62, v63, v64, v65, v66, v67, v68, v69, v70, v71, v72, v73, v74, v75, v76, v77, v78, v79, v80, v81, v82, v83, v84, v85, v86, v87, v88, v89, v90, v91, v92, v93, v94, v95, v96, v97, v98, v99, v100, v101, v102, v103, v104, v105, v106] := by
  obtain ⟨h, t4, t8, t13, t14, t16⟩ := h
  obtain ⟨v0, v1, v2, v3, v4, v5, v6, v7, v8, v9, v10, v11, v12, v13, v14, v15, v16, v17, v18, v19, v20, v21, v22, v23, v24, v25, v26, v27, v28, v29, v30, v31, v32, v33, v34, v35, v36, v37, v38, v39, v40, v41, v42, v43, v44, v45, v46, v47, v48, v49, v50, v51, v52, v53, v54, v55, v56, v57, v58, v59, v60, v61, v62, v63, v64, v65, v66, v67, v68, v69, v70, v71, v72, v73, v74, v75, v76, v77, v78, v79, v80, v81, v82, v83, v84, v85, v86, v87, v88, v89, v90, v91, v92, v93, v94, v95, v96, v97, v98, v99, v100, v101, v102, v103, v104, v105, v106, rfl⟩ := array107 T h
  simp only [List.getElem?_toArray, List.getElem?_cons_zero, List.getElem?_cons_succ, Option.some.injEq] at t4 t8 t13 t14 t16
  subst t4 t8 t13 t14 t16
  exact ⟨_, _, _, _, _, _, _, _, _, _, _, _, _, _, _, _, _, _, _, _, _, _, _, _, _, _, _, _, _, _, _, _, _, _, _, _, _, _, _, _, _, _, _, _, _, _, _, _, _, _, _, _, _, _, _, _, _, _, _, _, _, _, _, _, _, _, _, _, _, _, _, _, _, _, _, _, _, _, _, _, _, _, _, _, _, _, _, _, _, _, _, _, _, _, _, _, _, _, _, _, _, _, rfl⟩
theorem Tb.mk {T : Array Value} {x4 x8 x13 x14 x16 : Value} (h : T.size = 107) (t4 : T[4]? = some x4) (t8 : T[8]? = some x8) (t13 : T[13]? = some x13) (t14 : T[14]? = some x14) (t16 : T[16]? = some x16) : Tb T x4 x8 x13 x14 x16 := ⟨h, t4, t8, t13, t14, t16⟩
end Go.Proofs.Ytmllcfkgkkbkpaa
