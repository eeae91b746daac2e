/-
  MuxStreams: lone pieces.
-/
import Derived.Test.YtmllcfkgkkbkpaaHvStmBase
namespace Go.Proofs.Ytmllcfkgkkbkpaa
open Go.RowKit
variable {T : Array Value} {x0 x1 x5 x6 x7 x8 x9 x11 x12 x13 x14 x15 : Value}
set_option maxRecDepth 100000 in
set_option maxHeartbeats 8000000 in
theorem r14_lone {b12 : Nat} {r : Int} (w : World) (hT : Tm T x5 x6 x7 x8 x11 (.pointer (some ⟨b12, 0, none⟩)) x13 x14 x15) (h12 : w.cell? ⟨b12, 0, none⟩ = some (.int .i64 r)) :
    r14St.wp Try.prog (fun e a' w' => e = .normal ∧ (Tm a'.tmps x5 x6 x7 x8 x11 (.pointer (some ⟨b12, 0, none⟩)) x13 x14 x15 ∧ a'.tmps.getD 47 undef = .bool (decide (r < 2))) ∧ a'.defers = [] ∧ w' = w) ⟨T, []⟩ w := by
  obtain ⟨v0, v1, v2, v3, v4, v9, v10, v16, v17, v18, v19, v20, v21, v22, v23, v24, v25, v26, v27, v28, v29, v30, v31, v32, v33, v34, v35, v36, v37, v38, v39, v40, v41, v42, v43, v44, v45, v46, v47, v48, v49, v50, v51, v52, v53, v54, v55, v56, v57, v58, v59, v60, v61, v62, v63, v64, v65, v66, v67, v68, v69, v70, v71, v72, v73, v74, v75, v76, v77, v78, v79, v80, v81, v82, v83, v84, v85, v86, v87, v88, v89, v90, v91, v92, v93, v94, v95, v96, v97, rfl⟩ := hT.open
  simp only [r14St, rcSt, lpSt, bodySt, Try.f5, Option.getD_some]
  go_wp2
  first | exact (Tm.mk rfl rfl rfl rfl rfl rfl rfl rfl rfl rfl) | exact ⟨(Tm.mk rfl rfl rfl rfl rfl rfl rfl rfl rfl rfl), rfl⟩ | trace_state
set_option maxRecDepth 100000 in
set_option maxHeartbeats 8000000 in
theorem r17_lone (w : World) (hT : Tm T x5 x6 x7 x8 x11 x12 x13 x14 x15) :
    r17St.wp Try.prog (fun e a' w' => e = .normal ∧ (Tm a'.tmps x5 x6 x7 x8 x11 x12 x13 x14 x15 ∧ a'.tmps.getD 50 undef = x7) ∧ a'.defers = [] ∧ w' = w) ⟨T, []⟩ w := by
  obtain ⟨v0, v1, v2, v3, v4, v9, v10, v16, v17, v18, v19, v20, v21, v22, v23, v24, v25, v26, v27, v28, v29, v30, v31, v32, v33, v34, v35, v36, v37, v38, v39, v40, v41, v42, v43, v44, v45, v46, v47, v48, v49, v50, v51, v52, v53, v54, v55, v56, v57, v58, v59, v60, v61, v62, v63, v64, v65, v66, v67, v68, v69, v70, v71, v72, v73, v74, v75, v76, v77, v78, v79, v80, v81, v82, v83, v84, v85, v86, v87, v88, v89, v90, v91, v92, v93, v94, v95, v96, v97, rfl⟩ := hT.open
  simp only [r17St, rcSt, lpSt, bodySt, Try.f5, Option.getD_some]
  go_wp2
  first | exact (Tm.mk rfl rfl rfl rfl rfl rfl rfl rfl rfl rfl) | exact ⟨(Tm.mk rfl rfl rfl rfl rfl rfl rfl rfl rfl rfl), rfl⟩ | trace_state
/-- A box was made. -/
def NewAt (w w' : World) (v : Value) (e : TypeId) : Prop := w'.heap[w.heap.size]? = some (.cells #[v] e) ∧ Below w.heap.size w w'
theorem newAt_alloc {w : World} {v : Value} {e : TypeId} : NewAt w (w.alloc (.cells #[v] e)) v e := ⟨heap_alloc_new w _, (Below.refl _ w).alloc (Nat.le_refl _) _⟩
theorem NewAt.set {w w' : World} {u v : Value} {e : TypeId} (h : NewAt w w' u e) : NewAt w (w'.setCell ⟨w.heap.size, 0, none⟩ v) v e := by
  refine ⟨?_, h.2.setCell (Nat.le_refl _) v⟩
  rw [heap_setCell_same w' w.heap.size 0 _ _ _ h.1]
  rfl
set_option maxRecDepth 100000 in
set_option maxHeartbeats 8000000 in
theorem r16_lone (w : World) (hT : Tm T x5 x6 x7 x8 x11 x12 x13 x14 x15) :
    r16St.wp Try.prog (fun e a' w' => e = .normal ∧ Tm a'.tmps x5 x6 x7 x8 x11 x12 (.pointer (some ⟨w.heap.size, 0, none⟩)) x14 x15 ∧ a'.defers = [] ∧ NewAt w w' (.int .i64 0) 3) ⟨T, []⟩ w := by
  obtain ⟨v0, v1, v2, v3, v4, v9, v10, v16, v17, v18, v19, v20, v21, v22, v23, v24, v25, v26, v27, v28, v29, v30, v31, v32, v33, v34, v35, v36, v37, v38, v39, v40, v41, v42, v43, v44, v45, v46, v47, v48, v49, v50, v51, v52, v53, v54, v55, v56, v57, v58, v59, v60, v61, v62, v63, v64, v65, v66, v67, v68, v69, v70, v71, v72, v73, v74, v75, v76, v77, v78, v79, v80, v81, v82, v83, v84, v85, v86, v87, v88, v89, v90, v91, v92, v93, v94, v95, v96, v97, rfl⟩ := hT.open
  simp only [r16St, rcSt, lpSt, bodySt, Try.f5, Option.getD_some]
  go_wp2
  first | exact ⟨(Tm.mk rfl rfl rfl rfl rfl rfl rfl rfl rfl rfl), newAt_alloc⟩ | exact ⟨(Tm.mk rfl rfl rfl rfl rfl rfl rfl rfl rfl rfl), rfl, newAt_alloc⟩ | exact ⟨(Tm.mk rfl rfl rfl rfl rfl rfl rfl rfl rfl rfl), newAt_alloc.set⟩ | exact ⟨(Tm.mk rfl rfl rfl rfl rfl rfl rfl rfl rfl rfl), newAt_alloc.set.set⟩ | trace_state
set_option maxRecDepth 100000 in
set_option maxHeartbeats 8000000 in
theorem r13_lone (w : World) (hT : Tm T x5 x6 x7 x8 x11 x12 x13 x14 x15) :
    r13St.wp Try.prog (fun e a' w' => e = .normal ∧ Tm a'.tmps x5 x6 x7 x8 x11 (.pointer (some ⟨w.heap.size, 0, none⟩)) x13 x14 x15 ∧ a'.defers = [] ∧ NewAt w w' (.int .i64 0) 3) ⟨T, []⟩ w := by
  obtain ⟨v0, v1, v2, v3, v4, v9, v10, v16, v17, v18, v19, v20, v21, v22, v23, v24, v25, v26, v27, v28, v29, v30, v31, v32, v33, v34, v35, v36, v37, v38, v39, v40, v41, v42, v43, v44, v45, v46, v47, v48, v49, v50, v51, v52, v53, v54, v55, v56, v57, v58, v59, v60, v61, v62, v63, v64, v65, v66, v67, v68, v69, v70, v71, v72, v73, v74, v75, v76, v77, v78, v79, v80, v81, v82, v83, v84, v85, v86, v87, v88, v89, v90, v91, v92, v93, v94, v95, v96, v97, rfl⟩ := hT.open
  simp only [r13St, lpSt, bodySt, Try.f5, Option.getD_some]
  go_wp2
  first | exact ⟨(Tm.mk rfl rfl rfl rfl rfl rfl rfl rfl rfl rfl), newAt_alloc⟩ | exact ⟨(Tm.mk rfl rfl rfl rfl rfl rfl rfl rfl rfl rfl), rfl, newAt_alloc⟩ | exact ⟨(Tm.mk rfl rfl rfl rfl rfl rfl rfl rfl rfl rfl), newAt_alloc.set⟩ | exact ⟨(Tm.mk rfl rfl rfl rfl rfl rfl rfl rfl rfl rfl), newAt_alloc.set.set⟩ | trace_state
set_option maxRecDepth 100000 in
set_option maxHeartbeats 8000000 in
theorem p15_lone {b12 : Nat} {r : Int} (w : World) (hT : Tm T x5 x6 x7 x8 x11 (.pointer (some ⟨b12, 0, none⟩)) x13 x14 x15) (h12 : w.cell? ⟨b12, 0, none⟩ = some (.int .i64 r)) (hr : r = 0 ∨ r = 1) :
    p15St.wp Try.prog (fun e a' w' => e = .normal ∧ Tm a'.tmps x5 x6 x7 x8 x11 (.pointer (some ⟨w.heap.size, 0, none⟩)) x13 x14 x15 ∧ a'.defers = [] ∧ NewAt w w' (.int .i64 (r + 1)) 3) ⟨T, []⟩ w := by
  obtain ⟨v0, v1, v2, v3, v4, v9, v10, v16, v17, v18, v19, v20, v21, v22, v23, v24, v25, v26, v27, v28, v29, v30, v31, v32, v33, v34, v35, v36, v37, v38, v39, v40, v41, v42, v43, v44, v45, v46, v47, v48, v49, v50, v51, v52, v53, v54, v55, v56, v57, v58, v59, v60, v61, v62, v63, v64, v65, v66, v67, v68, v69, v70, v71, v72, v73, v74, v75, v76, v77, v78, v79, v80, v81, v82, v83, v84, v85, v86, v87, v88, v89, v90, v91, v92, v93, v94, v95, v96, v97, rfl⟩ := hT.open
  simp only [p15St, rcSt, lpSt, bodySt, Try.f5, Option.getD_some]
  have hw1 : IntKind.i64.wrap (r + 1) = r + 1 := by rw [IntKind.wrap_i64]; omega
  go_wp2
  first | exact ⟨(Tm.mk rfl rfl rfl rfl rfl rfl rfl rfl rfl rfl), newAt_alloc⟩ | exact ⟨(Tm.mk rfl rfl rfl rfl rfl rfl rfl rfl rfl rfl), rfl, newAt_alloc⟩ | exact ⟨(Tm.mk rfl rfl rfl rfl rfl rfl rfl rfl rfl rfl), newAt_alloc.set⟩ | exact ⟨(Tm.mk rfl rfl rfl rfl rfl rfl rfl rfl rfl rfl), newAt_alloc.set.set⟩ | trace_state
end Go.Proofs.Ytmllcfkgkkbkpaa
