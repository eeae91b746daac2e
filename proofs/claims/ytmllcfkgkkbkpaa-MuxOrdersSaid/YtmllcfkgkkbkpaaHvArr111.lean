/-
  A row of 111 temporaries, taken apart.
-/
import Derived.Test.YtmllcfkgkkbkpaaProg
namespace Go.Proofs.Ytmllcfkgkkbkpaa
open Go
set_option maxRecDepth 100000 in
theorem array111 (T : Array Value) (h : T.size = 111) : ∃ v0 v1 v2 v3 v4 v5 v6 v7 v8 v9 v10 v11 v12 v13 v14 v15 v16 v17 v18 v19 v20 v21 v22 v23 v24 v25 v26 v27 v28 v29 v30 v31 v32 v33 v34 v35 v36 v37 v38 v39 v40 v41 v42 v43 v44 v45 v46 v47 v48 v49 v50 v51 v52 v53 v54 v55 v56 v57 v58 v59 v60 v61 v62 v63 v64 v65 v66 v67 v68 v69 v70 v71 v72 v73 v74 v75 v76 v77 v78 v79 v80 v81 v82 v83 v84 v85 v86 v87 v88 v89 v90 v91 v92 v93 v94 v95 v96 v97 v98 v99 v100 v101 v102 v103 v104 v105 v106 v107 v108 v109 v110, T = #[v0, v1, v2, v3, v4, v5, v6, v7, v8, v9, v10, v11, v12, v13, v14, v15, v16, v17, v18, v19, v20, v21, v22, v23, v24, v25, v26, v27, v28, v29, v30, v31, v32, v33, v34, v35, v36, v37, v38, v39, v40, v41, v42, v43, v44, v45, v46, v47, v48, v49, v50, v51, v52, v53, v54, v55, v56, v57, v58, v59, v60, v61, v62, v63, v64, v65, v66, v67, v68, v69, v70, v71, v72, v73, v74, v75, v76, v77, v78, v79, v80, v81, v82, v83, v84, v85, v86, v87, v88, v89, v90, v91, v92, v93, v94, v95, v96, v97, v98, v99, v100, v101, v102, v103, v104, v105, v106, v107, v108, v109, v110] := by
  obtain ⟨l⟩ := T
  rcases l with _ | ⟨v0, l⟩
  · simp at h
  rcases l with _ | ⟨v1, l⟩
  · simp at h
  rcases l with _ | ⟨v2, l⟩
  · simp at h
  rcases l with _ | ⟨v3, l⟩
  · simp at h
  rcases l with _ | ⟨v4, l⟩
  · simp at h
  rcases l with _ | ⟨v5, l⟩
  · simp at h
  rcases l with _ | ⟨v6, l⟩
  · simp at h
  rcases l with _ | ⟨v7, l⟩
  · simp at h
  rcases l with _ | ⟨v8, l⟩
  · simp at h
  rcases l with _ | ⟨v9, l⟩
  · simp at h
  rcases l with _ | ⟨v10, l⟩
  · simp at h
  rcases l with _ | ⟨v11, l⟩
  · simp at h
  rcases l with _ | ⟨v12, l⟩
  · simp at h
  rcases l with _ | ⟨v13, l⟩
  · simp at h
  rcases l with _ | ⟨v14, l⟩
  · simp at h
  rcases l with _ | ⟨v15, l⟩
  · simp at h
  rcases l with _ | ⟨v16, l⟩
  · simp at h
  rcases l with _ | ⟨v17, l⟩
  · simp at h
  rcases l with _ | ⟨v18, l⟩
  · simp at h
  rcases l with _ | ⟨v19, l⟩
  · simp at h
  rcases l with _ | ⟨v20, l⟩
  · simp at h
  rcases l with _ | ⟨v21, l⟩
  · simp at h
  rcases l with _ | ⟨v22, l⟩
  · simp at h
  rcases l with _ | ⟨v23, l⟩
  · simp at h
  rcases l with _ | ⟨v24, l⟩
  · simp at h
  rcases l with _ | ⟨v25, l⟩
  · simp at h
  rcases l with _ | ⟨v26, l⟩
  · simp at h
  rcases l with _ | ⟨v27, l⟩
  · simp at h
  rcases l with _ | ⟨v28, l⟩
  · simp at h
  rcases l with _ | ⟨v29, l⟩
  · simp at h
  rcases l with _ | ⟨v30, l⟩
  · simp at h
  rcases l with _ | ⟨v31, l⟩
  · simp at h
  rcases l with _ | ⟨v32, l⟩
  · simp at h
  rcases l with _ | ⟨v33, l⟩
  · simp at h
  rcases l with _ | ⟨v34, l⟩
  · simp at h
  rcases l with _ | ⟨v35, l⟩
  · simp at h
  rcases l with _ | ⟨v36, l⟩
  · simp at h
  rcases l with _ | ⟨v37, l⟩
  · simp at h
  rcases l with _ | ⟨v38, l⟩
  · simp at h
  rcases l with _ | ⟨v39, l⟩
  · simp at h
  rcases l with _ | ⟨v40, l⟩
  · simp at h
  rcases l with _ | ⟨v41, l⟩
  · simp at h
  rcases l with _ | ⟨v42, l⟩
  · simp at h
  rcases l with _ | ⟨v43, l⟩
  · simp at h
  rcases l with _ | ⟨v44, l⟩
  · simp at h
  rcases l with _ | ⟨v45, l⟩
  · simp at h
  rcases l with _ | ⟨v46, l⟩
  · simp at h
  rcases l with _ | ⟨v47, l⟩
  · simp at h
  rcases l with _ | ⟨v48, l⟩
  · simp at h
  rcases l with _ | ⟨v49, l⟩
  · simp at h
  rcases l with _ | ⟨v50, l⟩
  · simp at h
  rcases l with _ | ⟨v51, l⟩
  · simp at h
  rcases l with _ | ⟨v52, l⟩
  · simp at h
  rcases l with _ | ⟨v53, l⟩
  · simp at h
  rcases l with _ | ⟨v54, l⟩
  · simp at h
  rcases l with _ | ⟨v55, l⟩
  · simp at h
  rcases l with _ | ⟨v56, l⟩
  · simp at h
  rcases l with _ | ⟨v57, l⟩
  · simp at h
  rcases l with _ | ⟨v58, l⟩
  · simp at h
  rcases l with _ | ⟨v59, l⟩
  · simp at h
  rcases l with _ | ⟨v60, l⟩
  · simp at h
  rcases l with _ | ⟨v61, l⟩
  · simp at h
  rcases l with _ | ⟨v62, l⟩
  · simp at h
  rcases l with _ | ⟨v63, l⟩
  · simp at h
  rcases l with _ | ⟨v64, l⟩
  · simp at h
  rcases l with _ | ⟨v65, l⟩
  · simp at h
  rcases l with _ | ⟨v66, l⟩
  · simp at h
  rcases l with _ | ⟨v67, l⟩
  · simp at h
  rcases l with _ | ⟨v68, l⟩
  · simp at h
  rcases l with _ | ⟨v69, l⟩
  · simp at h
  rcases l with _ | ⟨v70, l⟩
  · simp at h
  rcases l with _ | ⟨v71, l⟩
  · simp at h
  rcases l with _ | ⟨v72, l⟩
  · simp at h
  rcases l with _ | ⟨v73, l⟩
  · simp at h
  rcases l with _ | ⟨v74, l⟩
  · simp at h
  rcases l with _ | ⟨v75, l⟩
  · simp at h
  rcases l with _ | ⟨v76, l⟩
  · simp at h
  rcases l with _ | ⟨v77, l⟩
  · simp at h
  rcases l with _ | ⟨v78, l⟩
  · simp at h
  rcases l with _ | ⟨v79, l⟩
  · simp at h
  rcases l with _ | ⟨v80, l⟩
  · simp at h
  rcases l with _ | ⟨v81, l⟩
  · simp at h
  rcases l with _ | ⟨v82, l⟩
  · simp at h
  rcases l with _ | ⟨v83, l⟩
  · simp at h
  rcases l with _ | ⟨v84, l⟩
  · simp at h
  rcases l with _ | ⟨v85, l⟩
  · simp at h
  rcases l with _ | ⟨v86, l⟩
  · simp at h
  rcases l with _ | ⟨v87, l⟩
  · simp at h
  rcases l with _ | ⟨v88, l⟩
  · simp at h
  rcases l with _ | ⟨v89, l⟩
  · simp at h
  rcases l with _ | ⟨v90, l⟩
  · simp at h
  rcases l with _ | ⟨v91, l⟩
  · simp at h
  rcases l with _ | ⟨v92, l⟩
  · simp at h
  rcases l with _ | ⟨v93, l⟩
  · simp at h
  rcases l with _ | ⟨v94, l⟩
  · simp at h
  rcases l with _ | ⟨v95, l⟩
  · simp at h
  rcases l with _ | ⟨v96, l⟩
  · simp at h
  rcases l with _ | ⟨v97, l⟩
  · simp at h
  rcases l with _ | ⟨v98, l⟩
  · simp at h
  rcases l with _ | ⟨v99, l⟩
  · simp at h
  rcases l with _ | ⟨v100, l⟩
  · simp at h
  rcases l with _ | ⟨v101, l⟩
  · simp at h
  rcases l with _ | ⟨v102, l⟩
  · simp at h
  rcases l with _ | ⟨v103, l⟩
  · simp at h
  rcases l with _ | ⟨v104, l⟩
  · simp at h
  rcases l with _ | ⟨v105, l⟩
  · simp at h
  rcases l with _ | ⟨v106, l⟩
  · simp at h
  rcases l with _ | ⟨v107, l⟩
  · simp at h
  rcases l with _ | ⟨v108, l⟩
  · simp at h
  rcases l with _ | ⟨v109, l⟩
  · simp at h
  rcases l with _ | ⟨v110, l⟩
  · simp at h
  rcases l with _ | ⟨v, l⟩
  · exact ⟨v0, v1, v2, v3, v4, v5, v6, v7, v8, v9, v10, v11, v12, v13, v14, v15, v16, v17, v18, v19, v20, v21, v22, v23, v24, v25, v26, v27, v28, v29, v30, v31, v32, v33, v34, v35, v36, v37, v38, v39, v40, v41, v42, v43, v44, v45, v46, v47, v48, v49, v50, v51, v52, v53, v54, v55, v56, v57, v58, v59, v60, v61, v62, v63, v64, v65, v66, v67, v68, v69, v70, v71, v72, v73, v74, v75, v76, v77, v78, v79, v80, v81, v82, v83, v84, v85, v86, v87, v88, v89, v90, v91, v92, v93, v94, v95, v96, v97, v98, v99, v100, v101, v102, v103, v104, v105, v106, v107, v108, v109, v110, rfl⟩
  · simp at h
end Go.Proofs.Ytmllcfkgkkbkpaa
