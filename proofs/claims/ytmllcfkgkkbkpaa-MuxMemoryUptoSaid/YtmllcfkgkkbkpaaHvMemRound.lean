/-
  MuxMemory: a round of the last loop.
-/
import Derived.Test.YtmllcfkgkkbkpaaHvMemC
import Derived.Test.YtmllcfkgkkbkpaaPk6
namespace Go.Proofs.Ytmllcfkgkkbkpaa
open Go Go.Conc Go.RowKit Go.Conc.Lib Go.ConcR.Gen
open Go.ConcN (upd upd_ne upd_same WgLive)
open Go.ConcR (KK wgBlock WgAt stA smA rd wr mk DC0)
theorem calmPB : calmCode ptM SM cvM pBMm = true := by kernel_rfl
theorem calmR33 : calmCode ptM SM cvM r33Mm = true := by kernel_rfl
section
variable {b13 b14 : Nat} {p13 : Option Addr} {m c13 : Nat} {W : List Int}
def MmB (b13 b14 : Nat) (p13 : Option Addr) (m : Nat) (x : Nat) : Prop := x = b13 ∨ x = b14 ∨ (0 < m ∧ ∃ a, p13 = some a ∧ a.block = x)
variable (b13 b14 p13 m c13 W) in
/-- What a round finds. -/
def MmI (B : Nat → Prop) (d : List (Nat × Value)) (w : World) : Prop :=
  w.heap[b13]? = some (.cells #[.slice p13 m c13] 23) ∧ InI w p13 W ∧ w.heap[b14]? = some (.cells #[.int .i64 (d.length : Nat)] 3) ∧ ∀ x, B x ↔ MmB b13 b14 p13 m x
theorem MmI.stab (hW : W.length = m) : Stable (MmI b13 b14 p13 m c13 W) := by
  rintro B d w w' ⟨h1, h2, h3, h4⟩ hk _
  exact ⟨(hk _ ((h4 _).2 (.inl rfl))).trans h1, InV.keep h2 fun a e h0 => hk _ ((h4 _).2 (.inr (.inr ⟨by rw [iv_length, hW] at h0; exact h0, a, e, rfl⟩))), (hk _ ((h4 _).2 (.inr (.inl rfl)))).trans h3, h4⟩
variable {Post : Value → World → Prop}
set_option maxRecDepth 100000 in
set_option maxHeartbeats 8000000 in
theorem mm_round {l : Nat} {T : Array Value} {x4 x8 x16 : Value} {All : List (Nat × Value)} (hT : Tb T x4 x8 (.pointer (some ⟨b13, 0, none⟩)) (.pointer (some ⟨b14, 0, none⟩)) x16) (hW : W.length = m) (hm : m ≤ 100000000000) (h1314 : b13 ≠ b14) (hp13 : ∀ a, p13 = some a → a.block ≠ b14)
    (hget : ∀ (k i : Nat) (v : Value), All[k]? = some (i, v) → ∃ y, v = .int .i64 y ∧ W[k]? = some y) :
    RoundOk Post 8 l 8 All (MmI b13 b14 p13 m c13 W) (fun _ _ _ => False) T #[87, 88] asMm bdMm := by
  rintro B dn i v rest σ pw hAll hI hB hF
  have hG : ∀ b, σ.F b → Try.prog.globals.size ≤ b := fun b hb => (hF b hb).1
  have hkA : All[dn.length]? = some (i, v) := by rw [hAll]; simp
  obtain ⟨y, rfl, hWk⟩ := hget _ _ _ hkA
  clear hget hkA hAll
  obtain ⟨v0, v1, v2, v3, v5, v6, v7, v9, v10, v11, v12, v15, v17, v18, v19, v20, v21, v22, v23, v24, v25, v26, v27, v28, v29, v30, v31, v32, v33, v34, v35, v36, v37, v38, v39, v40, v41, v42, v43, v44, v45, v46, v47, v48, v49, v50, v51, v52, v53, v54, v55, v56, v57, v58, v59, v60, v61, v62, v63, v64, v65, v66, v67, v68, v69, v70, v71, v72, v73, v74, v75, v76, v77, v78, v79, v80, v81, v82, v83, v84, v85, v86, v87, v88, v89, v90, v91, v92, v93, v94, v95, v96, v97, v98, v99, v100, v101, v102, v103, v104, v105, v106, rfl⟩ := hT.open
  clear hT
  rw [bdMm_eq]
  simp only [asMm, loMm, rfMm, bodyMm, Try.f8, Option.getD_some]
  refine wpM_region ?_
  simp only [List.size_toArray, List.length_cons, List.length_nil, Nat.zero_add, List.range, List.range.loop]
  refine opsM_k calmM hG rfl rfl rfl (fun t d K hK => ?_)
  go_simp
  refine hK _ _ (opsM_re ?_)
  clear hK
  walk_nrm
  refine opsM_nil ⟨rfl, rfl, rfl, fun w3 hI3 hsz3 => ?_⟩
  clear hI
  obtain ⟨h13, hr13, h14, hBx⟩ := hI3
  obtain ⟨k, hk⟩ : ∃ k, k = dn.length := ⟨_, rfl⟩
  rw [← hk] at h14 hWk
  have hkm : k < m := by rw [← hW]; exact (List.getElem?_eq_some_iff.1 hWk).1
  have hkW : k < W.length := by rw [hW]; exact hkm
  have h14s : b14 < w3.heap.size := (Array.getElem?_eq_some_iff.1 h14).1
  have hB3 : ∀ x, B x → x < w3.heap.size := fun x hx => by
    rcases (hBx x).1 hx with rfl | rfl | ⟨h0, a, e, rfl⟩
    · exact (Array.getElem?_eq_some_iff.1 h13).1
    · exact h14s
    · exact hr13.low a e (by rw [iv_length, hW]; exact h0)
  obtain ⟨q13, o13, rfl, hc13⟩ := hr13.at hkW
  rw [List.getElem?_eq_getElem hkW] at hWk
  rw [Option.some.inj hWk] at hc13
  have hq : q13 ≠ b14 := hp13 _ rfl
  have hk9 : k < 1000000000000 := by omega
  obtain ⟨h14c, h14f⟩ := cell_row1 h14
  refine wpM_block ?_
  refine wpM_seq (wpM_piece calmM hG calmPB (noRet_true _) (R := fun t d a' w' => Tb a'.tmps x4 x8 (.pointer (some ⟨b13, 0, none⟩)) (.pointer (some ⟨b14, 0, none⟩)) (.int .i64 y) ∧ a'.defers = [] ∧ w' = (w3).re t d) (fun t d => pB_lone (w3.re t d) (Tb.mk rfl rfl rfl rfl rfl rfl) h14c (cell_row1 h13).1 hkm hc13 (by omega)) (fun a' w4 hR => ?_))
  obtain ⟨t, d, t', d', hT, hd, hw⟩ := hR
  obtain ⟨T, D⟩ := a'
  simp only at hd hT
  subst hd
  obtain ⟨ew4, ow4, uw4⟩ := re_eq hw
  clear hw
  show wpM _ _ _ _ _ _ _ _ _ _ _
  have h144 : w4.heap[b14]? = some (.cells #[.int .i64 (k : Nat)] 3) := by rw [ew4]; exact h14
  obtain ⟨h14c4, h14f4⟩ := cell_row1 h144
  refine wpM_piece calmM hG calmR33 (noRet_true _) (R := fun t d a' w' => Tb a'.tmps x4 x8 (.pointer (some ⟨b13, 0, none⟩)) (.pointer (some ⟨b14, 0, none⟩)) (.int .i64 y) ∧ a'.defers = [] ∧ w' = (w4.setCell ⟨b14, 0, none⟩ (.int .i64 ((k : Int) + 1))).re t d) (fun t d => r33_lone (w4.re t d) hT h14c4 h14f4 hk9) (fun a' w5 hR => ?_)
  obtain ⟨t, d, t', d', hT, hd, hw⟩ := hR
  obtain ⟨T, D⟩ := a'
  simp only at hd hT
  subst hd
  obtain ⟨ew5, ow5, uw5⟩ := re_eq hw
  clear hw
  have h145 : w5.heap[b14]? = some (.cells #[.int .i64 ((k : Int) + 1)] 3) := by
    rw [ew5, heap_setCell_same w4 b14 0 _ _ _ h144]
    rfl
  have hoth : ∀ x, x ≠ b14 → w5.heap[x]? = w3.heap[x]? := fun x hx => by
    rw [ew5, heap_setCell_other w4 ⟨b14, 0, none⟩ x _ hx, ew4]
  have hsz5 : w5.heap.size = w3.heap.size := by
    rw [ew5]
    have : (w4.setCell ⟨b14, 0, none⟩ (.int .i64 ((k : Int) + 1))).heap.size = w4.heap.size := by simp
    rw [this, ew4]
  refine ⟨rfl, .inl ⟨rfl, B, ⟨(hoth _ h1314).trans h13, InV.keep hr13 fun a e _ => hoth _ ?_, ?_, hBx⟩, ⟨by rw [hsz5]; exact Nat.le_refl _, fun x _ hnB => hoth x fun e => hnB ((hBx x).2 (.inr (.inl e))), fun x hx => ⟨by rw [hsz5]; exact hB3 x hx, .inl hx⟩, ?_, ?_⟩⟩⟩
  · cases e
    exact hq
  · rw [h145, List.length_append, List.length_singleton, ← hk]
    rfl
  · rw [ow5]
    exact ow4
  · rw [uw5]
    exact uw4
end
end Go.Proofs.Ytmllcfkgkkbkpaa
