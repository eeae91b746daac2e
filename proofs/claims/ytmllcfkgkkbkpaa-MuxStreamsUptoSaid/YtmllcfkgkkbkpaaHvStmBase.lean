/-
  MuxStreams: its lone pieces.
-/
import Derived.Test.YtmllcfkgkkbkpaaPk2
import Derived.Test.YtmllcfkgkkbkpaaPk5
import Derived.Test.YtmllcfkgkkbkpaaPk0
import Derived.Deep.QuietTactic
namespace Go.Proofs.Ytmllcfkgkkbkpaa
open Go.RowKit
noncomputable def bodySt : Code := (Try.f5.body).getD .skip
noncomputable def lpSt : Code := match bodySt with | .seq _ (.seq _ (.seq _ (.seq _ (.seq _ (.seq _ (.seq _ (.seq _ (.seq x _)))))))) => x | _ => .skip
noncomputable def szSt : Code := match bodySt with | .seq _ (.seq _ (.seq _ (.seq _ (.seq _ (.seq _ (.seq x _)))))) => x | _ => .skip
noncomputable def r13St : Code := match lpSt with | .seq x _ => x | _ => .skip
noncomputable def rcSt : Code := match lpSt with | .seq _ (.block _ (.loop x)) => x | _ => .skip
noncomputable def r14St : Code := match rcSt with | .seq (.seq x _) _ => x | _ => .skip
noncomputable def p15St : Code := match rcSt with | .seq _ (.seq _ x) => x | _ => .skip
noncomputable def r16St : Code := match rcSt with | .seq _ (.seq (.block _ (.seq x _)) _) => x | _ => .skip
noncomputable def r17St : Code := match rcSt with | .seq _ (.seq (.block _ (.seq _ (.seq (.seq x _) _))) _) => x | _ => .skip
noncomputable def p24St : Code := match rcSt with | .seq _ (.seq (.block _ (.seq _ (.seq _ x))) _) => x | _ => .skip
noncomputable def rfSt : Code := match rcSt with | .seq _ (.seq (.block _ (.seq _ (.seq (.seq _ (.block _ x)) _))) _) => x | _ => .skip
noncomputable def asSt : Code := match rfSt with | .rangeFunc _ _ x _ => x | _ => .skip
noncomputable def bdSt : Code := match rfSt with | .rangeFunc _ _ _ x => x | _ => .skip
noncomputable def pASt : Code := match bdSt with | .block _ (.seq x _) => x | _ => .skip
noncomputable def p22St : Code := match bdSt with | .block _ (.seq _ (.seq x _)) => x | _ => .skip
noncomputable def p23St : Code := match bdSt with | .block _ (.seq _ (.seq _ (.seq x _))) => x | _ => .skip
theorem bdSt_eq : ∃ c, bdSt = .block 5 (.seq pASt (.seq p22St (.seq p23St (.cond c (.exit 4) .skip)))) ∧ ∀ a : Act, a.eval c = a.tmps.getD 82 undef := ⟨_, rfl, fun _ => rfl⟩
theorem rcSt_eq : ∃ c47 c50, rcSt = .seq (.seq r14St (.cond c47 .skip (.exit 2))) (.seq (.block 3 (.seq r16St (.seq (.seq r17St (.block 4 (.rangeFunc c50 #[51, 52] asSt bdSt))) p24St))) p15St) ∧ (∀ a : Act, a.eval c47 = a.tmps.getD 47 undef) ∧ ∀ a : Act, a.eval c50 = a.tmps.getD 50 undef := ⟨_, _, rfl, fun _ => rfl, fun _ => rfl⟩
theorem lpSt_eq : lpSt = .seq r13St (.block 2 (.loop rcSt)) := rfl
def Tm (T : Array Value) (x5 x6 x7 x8 x11 x12 x13 x14 x15 : Value) : Prop := T.size = 98 ∧ T[5]? = some x5 ∧ T[6]? = some x6 ∧ T[7]? = some x7 ∧ T[8]? = some x8 ∧ T[11]? = some x11 ∧ T[12]? = some x12 ∧ T[13]? = some x13 ∧ T[14]? = some x14 ∧ T[15]? = some x15
set_option maxRecDepth 100000 in
theorem Tm.open {T : Array Value} {x5 x6 x7 x8 x11 x12 x13 x14 x15 : Value} (h : Tm T x5 x6 x7 x8 x11 x12 x13 x14 x15) : ∃ v0 v1 v2 v3 v4 v9 v10 v16 v17 v18 v19 v20 v21 v22 v23 v24 v25 v26 v27 v28 v29 v30 v31 v32 v33 v34 v35 v36 v37 v38 v39 v40 v41 v42 v43 v44 v45 v46 v47 v48 v49 v50 v51 v52 v53 v54 v55 v56 v57 v58 v59 v60 v61 v62 v63 v64 v65 v66 v67 v68 v69 v70 v71 v72 v73 v74 v75 v76 v77 v78 v79 v80 v81 v82 v83 v84 v85 v86 v87 v88 v89 v90 v91 v92 v93 v94 v95 v96 v97, T = #[v0, v1, v2, v3, v4, x5, x6, x7, x8, v9, v10, x11, x12, x13, x14, x15, v16, v17, v18, v19, v20, v21, v22, v23, v24, v25, v26, v27, v28, v29, v30, v31, v32, v33, v34, v35, v36, v37, v38, v39, v40, v41, v42, v43, v44, v45, v46, v47, v48, v49, v50, v51, v52, v53, v54, v55, v56, v57, v58, v59, v60, v61, v62, v63, v64, v65, v66, v67, v68, v69, v70, v71, v72, v73, v74, v75, v76, v77, v78, v79, v80, v81, v82, v83, v84, v85, v86, v87, v88, v89, v90, v91, v92, v93, v94, v95, v96, v97] := by
  obtain ⟨h, t5, t6, t7, t8, t11, t12, t13, t14, t15⟩ := h
  obtain ⟨v0, v1, v2, v3, v4, v5, v6, v7, v8, v9, v10, v11, v12, v13, v14, v15, v16, v17, v18, v19, v20, v21, v22, v23, v24, v25, v26, v27, v28, v29, v30, v31, v32, v33, v34, v35, v36, v37, v38, v39, v40, v41, v42, v43, v44, v45, v46, v47, v48, v49, v50, v51, v52, v53, v54, v55, v56, v57, v58, v59, v60, v61, v62, v63, v64, v65, v66, v67, v68, v69, v70, v71, v72, v73, v74, v75, v76, v77, v78, v79, v80, v81, v82, v83, v84, v85, v86, v87, v88, v89, v90, v91, v92, v93, v94, v95, v96, v97, rfl⟩ := array98 T h
  simp only [List.getElem?_toArray, List.getElem?_cons_zero, List.getElem?_cons_succ, Option.some.injEq] at t5 t6 t7 t8 t11 t12 t13 t14 t15
  subst t5 t6 t7 t8 t11 t12 t13 t14 t15
  exact ⟨_, _, _, _, _, _, _, _, _, _, _, _, _, _, _, _, _, _, _, _, _, _, _, _, _, _, _, _, _, _, _, _, _, _, _, _, _, _, _, _, _, _, _, _, _, _, _, _, _, _, _, _, _, _, _, _, _, _, _, _, _, _, _, _, _, _, _, _, _, _, _, _, _, _, _, _, _, _, _, _, _, _, _, _, _, _, _, _, _, rfl⟩
theorem Tm.mk {T : Array Value} {x5 x6 x7 x8 x11 x12 x13 x14 x15 : Value} (h : T.size = 98) (t5 : T[5]? = some x5) (t6 : T[6]? = some x6) (t7 : T[7]? = some x7) (t8 : T[8]? = some x8) (t11 : T[11]? = some x11) (t12 : T[12]? = some x12) (t13 : T[13]? = some x13) (t14 : T[14]? = some x14) (t15 : T[15]? = some x15) : Tm T x5 x6 x7 x8 x11 x12 x13 x14 x15 := ⟨h, t5, t6, t7, t8, t11, t12, t13, t14, t15⟩
def Tz (T : Array Value) (x0 x1 x5 x6 x7 x8 x9 : Value) : Prop := T.size = 98 ∧ T[0]? = some x0 ∧ T[1]? = some x1 ∧ T[5]? = some x5 ∧ T[6]? = some x6 ∧ T[7]? = some x7 ∧ T[8]? = some x8 ∧ T[9]? = some x9
set_option maxRecDepth 100000 in
theorem Tz.open {T : Array Value} {x0 x1 x5 x6 x7 x8 x9 : Value} (h : Tz T x0 x1 x5 x6 x7 x8 x9) : ∃ v2 v3 v4 v10 v11 v12 v13 v14 v15 v16 v17 v18 v19 v20 v21 v22 v23 v24 v25 v26 v27 v28 v29 v30 v31 v32 v33 v34 v35 v36 v37 v38 v39 v40 v41 v42 v43 v44 v45 v46 v47 v48 v49 v50 v51 v52 v53 v54 v55 v56 v57 v58 v59 v60 v61 v62 v63 v64 v65 v66 v67 v68 v69 v70 v71 v72 v73 v74 v75 v76 v77 v78 v79 v80 v81 v82 v83 v84 v85 v86 v87 v88 v89 v90 v91 v92 v93 v94 v95 v96 v97, T = #[x0, x1, v2, v3, v4, x5, x6, x7, x8, x9, v10, v11, v12, v13, v14, v15, v16, v17, v18, v19, v20, v21, v22, v23, v24, v25, v26, v27, v28, v29, v30, v31, v32, v33, v34, v35, v36, v37, v38, v39, v40, v41, v42, v43, v44, v45, v46, v47, v48, v49, v50, v51, v52, v53, v54, v55, v56, v57, v58, v59, v60, v61, v62, v63, v64, v65, v66, v67, v68, v69, v70, v71, v72, v73, v74, v75, v76, v77, v78, v79, v80, v81, v82, v83, v84, v85, v86, v87, v88, v89, v90, v91, v92, v93, v94, v95, v96, v97] := by
  obtain ⟨h, t0, t1, t5, t6, t7, t8, t9⟩ := h
  obtain ⟨v0, v1, v2, v3, v4, v5, v6, v7, v8, v9, v10, v11, v12, v13, v14, v15, v16, v17, v18, v19, v20, v21, v22, v23, v24, v25, v26, v27, v28, v29, v30, v31, v32, v33, v34, v35, v36, v37, v38, v39, v40, v41, v42, v43, v44, v45, v46, v47, v48, v49, v50, v51, v52, v53, v54, v55, v56, v57, v58, v59, v60, v61, v62, v63, v64, v65, v66, v67, v68, v69, v70, v71, v72, v73, v74, v75, v76, v77, v78, v79, v80, v81, v82, v83, v84, v85, v86, v87, v88, v89, v90, v91, v92, v93, v94, v95, v96, v97, rfl⟩ := array98 T h
  simp only [List.getElem?_toArray, List.getElem?_cons_zero, List.getElem?_cons_succ, Option.some.injEq] at t0 t1 t5 t6 t7 t8 t9
  subst t0 t1 t5 t6 t7 t8 t9
  exact ⟨_, _, _, _, _, _, _, _, _, _, _, _, _, _, _, _, _, _, _, _, _, _, _, _, _, _, _, _, _, _, _, _, _, _, _, _, _, _, _, _, _, _, _, _, _, _, _, _, _, _, _, _, _, _, _, _, _, _, _, _, _, _, _, _, _, _, _, _, _, _, _, _, _, _, _, _, _, _, _, _, _, _, _, _, _, _, _, _, _, _, _, rfl⟩
theorem Tz.mk {T : Array Value} {x0 x1 x5 x6 x7 x8 x9 : Value} (h : T.size = 98) (t0 : T[0]? = some x0) (t1 : T[1]? = some x1) (t5 : T[5]? = some x5) (t6 : T[6]? = some x6) (t7 : T[7]? = some x7) (t8 : T[8]? = some x8) (t9 : T[9]? = some x9) : Tz T x0 x1 x5 x6 x7 x8 x9 := ⟨h, t0, t1, t5, t6, t7, t8, t9⟩
end Go.Proofs.Ytmllcfkgkkbkpaa
