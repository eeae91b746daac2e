/-
  THE WALK THROUGH Wait, AS THE STARTER's DEFERRED CALL.
-/
import Derived.Test.YtmllcfkgkkbkpaaHvWgAdd
namespace Go.Proofs.Ytmllcfkgkkbkpaa
open Go Go.Conc Go.RowKit Go.Conc.Lib Go.ConcR.Gen
open Go.ConcN (WgLive st_flag st_waiters)
open Go.ConcN.Gen (WgLive.cell0 WgLive.cell1)
open Go.ConcR (KK wgBlock WgAt stA smA rd wr mk DC0)

/-- At the head of Wait's loop. -/
def AnchX (L : WgLink) (Wg : Nat) (c : Frame) (cs : List Frame) (g : Goroutine) (w : World) : Prop :=
  ∃ T : Array Value, g = G ((baseD L.wait).at ⟨T, []⟩ [.code (L7 L), .inLoop (L7 L), .inBlock 0]) (c :: cs) ∧ T.size = 84 ∧ T[0]? = some (.pointer (some ⟨Wg, 0, none⟩)) ∧ WgLive L.tWg Wg w

section
variable {P : Program} {L : WgLink} {Wg : Nat} {R : World → World → Prop} {c : Frame} {cs : List Frame} {Fin : Goroutine → World → Prop}
set_option maxRecDepth 100000 in
set_option maxHeartbeats 8000000 in
theorem waitStartX (H : WgLib P L) (hR : ∀ w w₁, R w w₁ → WgLive L.tWg Wg w → WgLive L.tWg Wg w₁) (w : World) (hF : WgLive L.tWg Wg w) :
    ∃ m, Goes P true R DC0 (MKd P R (AnchX L Wg c cs)) m (G ((baseD L.wait).at ⟨#[.pointer (some ⟨Wg, 0, none⟩), undef, undef, undef, undef, undef, undef, undef, undef, undef, undef, undef, undef, undef, undef, undef, undef, undef, undef, undef, undef, undef, undef, undef, undef, undef, undef, undef, undef, undef, undef, undef, undef, undef, undef, undef, undef, undef, undef, undef, undef, undef, undef, undef, undef, undef, undef, undef, undef, undef, undef, undef, undef, undef, undef, undef, undef, undef, undef, undef, undef, undef, undef, undef, undef, undef, undef, undef, undef, undef, undef, undef, undef, undef, undef, undef, undef, undef, undef, undef, undef, undef, undef, undef], []⟩ [.code (body_wait L)]) (c :: cs)) w := by
  lib_facts
  simp only [body_wait, waitFn, Option.getD_some]
  refine ⟨300, ?_⟩
  u_c stepG_seq (lv hR) hF
  u_cond true (lv hR) hF
  u_reg (lv hR) hF
  refine Goes.stop (fun w₁ h₁ => ?_)
  replace hF := lv hR hF h₁
  clear h₁
  refine ⟨rfl, _, stepG_mark0 .disable (by simp) rfl rfl (by k_ne) rfl H.f_disable (x_disable_n L) (x_disable_b L) (x_disable_x L) (x_disable_f L), 300, ?_⟩
  walk_nrm
  u_c stepG_region_end (lv hR) hF
  u_c stepG_block (lv hR) hF
  u_c stepG_loop (lv hR) hF
  exact Goes.stop (fun w₂ h₂ => ⟨_, rfl, by simp, by simp, lv hR hF h₂⟩)

set_option maxRecDepth 100000 in
set_option maxHeartbeats 16000000 in
theorem waitRoundX (H : WgLib P L) (hR : ∀ w w₁, R w w₁ → WgLive L.tWg Wg w → WgLive L.tWg Wg w₁) (hcm : c.mode = .returning) (hT : ∀ w, WgLive L.tWg Wg w → Fin (G c cs) w)
    (g : Goroutine) (w : World) (h : AnchX L Wg c cs g w) : ∃ m, Goes P true R DC0 (MW1 P L.tWg Wg R (AnchX L Wg c cs) Fin) m g w := by
  lib_facts
  obtain ⟨T, rfl, hT84, t0, hF⟩ := h
  obtain ⟨v0, v1, v2, v3, v4, v5, v6, v7, v8, v9, v10, v11, v12, v13, v14, v15, v16, v17, v18, v19, v20, v21, v22, v23, v24, v25, v26, v27, v28, v29, v30, v31, v32, v33, v34, v35, v36, v37, v38, v39, v40, v41, v42, v43, v44, v45, v46, v47, v48, v49, v50, v51, v52, v53, v54, v55, v56, v57, v58, v59, v60, v61, v62, v63, v64, v65, v66, v67, v68, v69, v70, v71, v72, v73, v74, v75, v76, v77, v78, v79, v80, v81, v82, v83, rfl⟩ := array84 T hT84
  simp only [List.getElem?_toArray, List.getElem?_cons_zero, Option.some.injEq] at t0
  subst t0
  refine ⟨300, ?_⟩
  simp only [L7, body_wait, waitFn, Option.getD_some]
  u_c stepG_block (lv hR) hF
  u_c stepG_seq (lv hR) hF
  u_reg (lv hR) hF
  u_conv H.underlying_tPU32 H.room_tU32 (WgLive.cell1 hF).choose_spec (lv hR) hF
  u_conv H.underlying_tPU32 H.room_tU32 (WgLive.cell1 hF).choose_spec (lv hR) hF
  u_op (lv hR) hF
  u_call H.f_uLoad (nm_uLoad L) uLoadFn (lv hR) hF
  u_c stepG_seq (lv hR) hF
  u_reg (lv hR) hF
  u_conv H.underlying_tPU32 H.room_tU32 (WgLive.cell1 hF).choose_spec (lv hR) hF
  u_c stepG_region_end (lv hR) hF
  u_c stepG_seq (lv hR) hF
  u_reg (lv hR) hF
  u_conv H.underlying_tPU32 H.room_tU32 (WgLive.cell1 hF).choose_spec (lv hR) hF
  u_conv H.underlying_tPU32 H.room_tU32 (WgLive.cell1 hF).choose_spec (lv hR) hF
  u_op (lv hR) hF
  refine Goes.stop (fun w₁ h₁ => ?_)
  replace hF := lv hR hF h₁
  clear h₁
  refine ⟨rfl, fun v hv hw => ?_⟩
  obtain ⟨S, hS⟩ : ∃ S : Int, (v : Int) * KK = S := ⟨_, rfl⟩
  have a1 : S / 4294967296 = (v : Int) := by rw [← hS]; simp only [KK]; omega
  have b1 : bits .and .u64 S 2147483648 = 0 := by rw [← hS]; have := st_flag v 0 (by omega) (by omega); simpa [KK] using this
  have b2 : bits .and .u64 S 2147483647 = 0 := by rw [← hS]; have := st_waiters v 0 (by omega) (by omega); simpa [KK] using this
  have c1 : IntKind.i32.wrap (v : Int) = (v : Int) := by rw [IntKind.wrap_i32]; omega
  have w1 : IntKind.u64.wrap (S + 1) = S + 1 := by rw [IntKind.wrap_u64, ← hS]; simp only [KK]; omega
  have q3 : decide ((v : Int) < 0) = false := decide_eq_false (by omega)
  rw [hS] at hw
  refine ⟨_, stepG_load_atomic (v := S) rfl rfl (by k_ne) rfl H.f_loadU64 (x_loadU64_n L) (x_loadU64_b L) (x_loadU64_x L) .u64 (x_loadU64_f L) rfl hw.cellSt, fun hv0 => ⟨300, ?_⟩, fun hv0 => ⟨300, ?_⟩⟩
  · -- THE COUNT IS 0
    have q5 : ((v : Int) == 0) = true := by simp; omega
    have q6 : decide ((v : Int) = 0) = true := decide_eq_true (by omega)
    clear hw hS
    walk_nrm
    --CUTA
    u_conv H.underlying_tPU32 H.room_tU32 (WgLive.cell1 hF).choose_spec (lv hR) hF
    u_c stepG_region_end (lv hR) hF
    u_c stepG_ret' (lv hR) hF
    u_leave1 H.f_uLoad (lv hR) hF
    u_conv H.underlying_tPU32 H.room_tU32 (WgLive.cell1 hF).choose_spec (lv hR) hF
    u_c stepG_region_end (lv hR) hF
    u_c stepG_seq (lv hR) hF
    u_reg (lv hR) hF
    u_conv H.underlying_tPU32 H.room_tU32 (WgLive.cell1 hF).choose_spec (lv hR) hF
    u_conv H.underlying_tPU32 H.room_tU32 (WgLive.cell1 hF).choose_spec (lv hR) hF
    u_op (lv hR) hF
    u_conv H.underlying_tPU32 H.room_tU32 (WgLive.cell1 hF).choose_spec (lv hR) hF
    u_c stepG_region_end (lv hR) hF
    u_c stepG_seq (lv hR) hF
    u_reg (lv hR) hF
    u_conv H.underlying_tPU32 H.room_tU32 (WgLive.cell1 hF).choose_spec (lv hR) hF
    u_conv H.underlying_tPU32 H.room_tU32 (WgLive.cell1 hF).choose_spec (lv hR) hF
    u_op (lv hR) hF
    u_conv H.underlying_tPU32 H.room_tU32 (WgLive.cell1 hF).choose_spec (lv hR) hF
    u_c stepG_region_end (lv hR) hF
    u_c stepG_seq (lv hR) hF
    u_c stepG_seq (lv hR) hF
    u_reg (lv hR) hF
    u_conv H.underlying_tPU32 H.room_tU32 (WgLive.cell1 hF).choose_spec (lv hR) hF
    u_conv H.underlying_tPU32 H.room_tU32 (WgLive.cell1 hF).choose_spec (lv hR) hF
    u_c stepG_region_end (lv hR) hF
    u_cond true (lv hR) hF
    u_c stepG_seq (lv hR) hF
    u_cond true (lv hR) hF
    u_c stepG_seq (lv hR) hF
    u_reg (lv hR) hF
    refine Goes.stop (fun w5 h5 => ?_)
    replace hF := lv hR hF h5
    clear h5
    refine ⟨rfl, _, stepG_mark0 .enable (by simp) rfl rfl (by k_ne) rfl H.f_enable (x_enable_n L) (x_enable_b L) (x_enable_x L) (x_enable_f L), 300, ?_⟩
    walk_nrm
    u_c stepG_region_end (lv hR) hF
    u_reg (lv hR) hF
    u_conv H.underlying_tPU32 H.room_tU32 (WgLive.cell1 hF).choose_spec (lv hR) hF
    u_conv H.underlying_tWgP H.room_tWg (WgLive.cell0 hF).choose_spec (lv hR) hF
    refine Goes.stop (fun w8 h8 => ?_)
    replace hF := lv hR hF h8
    clear h8
    refine ⟨rfl, _, stepG_markAt .acquire (by simp) rfl rfl (by k_ne) rfl H.f_acquire (x_acquire_n L) (x_acquire_b L) (x_acquire_x L) (x_acquire_f L) (by simp [Act.eval, stA]), 300, ?_⟩
    walk_nrm
    u_c stepG_region_end (lv hR) hF
    u_c stepG_seq (lv hR) hF
    u_c stepG_seq (lv hR) hF
    u_reg (lv hR) hF
    u_conv H.underlying_tPU32 H.room_tU32 (WgLive.cell1 hF).choose_spec (lv hR) hF
    u_conv H.underlying_tPU32 H.room_tU32 (WgLive.cell1 hF).choose_spec (lv hR) hF
    u_conv H.underlying_tPU32 H.room_tU32 (WgLive.cell1 hF).choose_spec (lv hR) hF
    u_conv H.underlying_tPU32 H.room_tU32 (WgLive.cell1 hF).choose_spec (lv hR) hF
    u_conv H.underlying_tPU32 H.room_tU32 (WgLive.cell1 hF).choose_spec (lv hR) hF
    u_conv H.underlying_tPU32 H.room_tU32 (WgLive.cell1 hF).choose_spec (lv hR) hF
    u_conv H.underlying_tPU32 H.room_tU32 (WgLive.cell1 hF).choose_spec (lv hR) hF
    u_conv H.underlying_tPU32 H.room_tU32 (WgLive.cell1 hF).choose_spec (lv hR) hF
    u_skip (lv hR) hF
    u_skip (lv hR) hF
    u_conv H.underlying_tPU32 H.room_tU32 (WgLive.cell1 hF).choose_spec (lv hR) hF
    u_c stepG_region_end (lv hR) hF
    u_cond false (lv hR) hF
    u_c stepG_skip (lv hR) hF
    u_c stepG_ret' (lv hR) hF
    u_in (lv hR) hF
    rw [stepG_leave_deferred (v := .tuple #[]) rfl rfl H.f_wait (results_none rfl _ _ _) (events_results_none rfl _ _) hcm]
    simp only [goes_go]
    refine ⟨by u_nil, ?_⟩
    exact Goes.stop fun w99 h99 => hT _ (lv hR hF h99)
  · -- IT IS MORE
    have q4 : decide (0 < (v : Int)) = true := decide_eq_true (by omega)
    have q5 : ((v : Int) == 0) = false := by simp; omega
    have q6 : decide ((v : Int) = 0) = false := decide_eq_false (by omega)
    clear hw
    walk_nrm
    --CUTB
    u_conv H.underlying_tPU32 H.room_tU32 (WgLive.cell1 hF).choose_spec (lv hR) hF
    u_c stepG_region_end (lv hR) hF
    u_c stepG_ret' (lv hR) hF
    u_leave1 H.f_uLoad (lv hR) hF
    u_conv H.underlying_tPU32 H.room_tU32 (WgLive.cell1 hF).choose_spec (lv hR) hF
    u_c stepG_region_end (lv hR) hF
    u_c stepG_seq (lv hR) hF
    u_reg (lv hR) hF
    u_conv H.underlying_tPU32 H.room_tU32 (WgLive.cell1 hF).choose_spec (lv hR) hF
    u_conv H.underlying_tPU32 H.room_tU32 (WgLive.cell1 hF).choose_spec (lv hR) hF
    u_op (lv hR) hF
    u_conv H.underlying_tPU32 H.room_tU32 (WgLive.cell1 hF).choose_spec (lv hR) hF
    u_c stepG_region_end (lv hR) hF
    u_c stepG_seq (lv hR) hF
    u_reg (lv hR) hF
    u_conv H.underlying_tPU32 H.room_tU32 (WgLive.cell1 hF).choose_spec (lv hR) hF
    u_conv H.underlying_tPU32 H.room_tU32 (WgLive.cell1 hF).choose_spec (lv hR) hF
    u_op (lv hR) hF
    u_conv H.underlying_tPU32 H.room_tU32 (WgLive.cell1 hF).choose_spec (lv hR) hF
    u_c stepG_region_end (lv hR) hF
    u_c stepG_seq (lv hR) hF
    u_c stepG_seq (lv hR) hF
    u_reg (lv hR) hF
    u_conv H.underlying_tPU32 H.room_tU32 (WgLive.cell1 hF).choose_spec (lv hR) hF
    u_conv H.underlying_tPU32 H.room_tU32 (WgLive.cell1 hF).choose_spec (lv hR) hF
    u_c stepG_region_end (lv hR) hF
    u_cond false (lv hR) hF
    u_c stepG_skip (lv hR) hF
    u_c stepG_seq (lv hR) hF
    u_reg (lv hR) hF
    u_conv H.underlying_tPU32 H.room_tU32 (WgLive.cell1 hF).choose_spec (lv hR) hF
    u_conv H.underlying_tPU32 H.room_tU32 (WgLive.cell1 hF).choose_spec (lv hR) hF
    u_op (lv hR) hF
    u_conv H.underlying_tPU32 H.room_tU32 (WgLive.cell1 hF).choose_spec (lv hR) hF
    u_conv H.underlying_tPU32 H.room_tU32 (WgLive.cell1 hF).choose_spec (lv hR) hF
    u_conv H.underlying_tPU32 H.room_tU32 (WgLive.cell1 hF).choose_spec (lv hR) hF
    u_call H.f_uCas (nm_uCas L) uCasFn (lv hR) hF
    u_c stepG_seq (lv hR) hF
    u_reg (lv hR) hF
    u_conv H.underlying_tPU32 H.room_tU32 (WgLive.cell1 hF).choose_spec (lv hR) hF
    u_c stepG_region_end (lv hR) hF
    u_c stepG_seq (lv hR) hF
    u_reg (lv hR) hF
    u_conv H.underlying_tPU32 H.room_tU32 (WgLive.cell1 hF).choose_spec (lv hR) hF
    u_conv H.underlying_tPU32 H.room_tU32 (WgLive.cell1 hF).choose_spec (lv hR) hF
    u_op (lv hR) hF
    u_conv H.underlying_tPU32 H.room_tU32 (WgLive.cell1 hF).choose_spec (lv hR) hF
    u_conv H.underlying_tPU32 H.room_tU32 (WgLive.cell1 hF).choose_spec (lv hR) hF
    refine Goes.stop (fun w2 h2 => ?_)
    replace hF := lv hR hF h2
    clear h2
    refine ⟨rfl, fun v' hv' hw => ⟨fun e => ?_, fun e => ?_⟩⟩
    · -- THE CompareAndSwap HITS: REGISTERED
      subst e
      rw [hS] at hw ⊢
      refine ⟨_, (stepG_cas_hit (v := S) (n := S + 1) rfl rfl (by k_ne) rfl H.f_casU64 (x_casU64_n L) (x_casU64_b L) (x_casU64_x L) .u64 (x_casU64_f L) rfl rfl rfl hw.cellSt (hw.thaw 0)).trans (by rfl), 300, ?_⟩
      replace hF : WgLive L.tWg Wg (w2.setCell (stA Wg) (.int .u64 (S + 1))) := ⟨_, _, hw.setSt _⟩
      clear hw
      walk_nrm
      u_conv H.underlying_tPU32 H.room_tU32 (WgLive.cell1 hF).choose_spec (lv hR) hF
      u_c stepG_region_end (lv hR) hF
      u_c stepG_ret' (lv hR) hF
      u_leave1 H.f_uCas (lv hR) hF
      u_c stepG_region_end (lv hR) hF
      u_cond true (lv hR) hF
      u_c stepG_seq (lv hR) hF
      u_c stepG_seq (lv hR) hF
      u_reg (lv hR) hF
      u_conv H.underlying_tPU32 H.room_tU32 (WgLive.cell1 hF).choose_spec (lv hR) hF
      u_conv H.underlying_tPU32 H.room_tU32 (WgLive.cell1 hF).choose_spec (lv hR) hF
      u_conv H.underlying_tPU32 H.room_tU32 (WgLive.cell1 hF).choose_spec (lv hR) hF
      u_conv H.underlying_tPU32 H.room_tU32 (WgLive.cell1 hF).choose_spec (lv hR) hF
      u_c stepG_region_end (lv hR) hF
      u_cond true (lv hR) hF
      u_reg (lv hR) hF
      u_conv H.underlying_tPU32 H.room_tU32 (WgLive.cell1 hF).choose_spec (lv hR) hF
      u_conv H.underlying_tPU32 H.room_tU32 (WgLive.cell1 hF).choose_spec (lv hR) hF
      u_op (lv hR) hF
      u_conv H.underlying_tPU32 H.room_tU32 (WgLive.cell1 hF).choose_spec (lv hR) hF
      refine Goes.stop (fun w3 h3 => ?_)
      replace hF := lv hR hF h3
      clear h3
      refine ⟨rfl, _, stepG_markAt .write (by simp) rfl rfl (by k_ne) rfl H.f_raceWrite (x_raceWrite_n L) (x_raceWrite_b L) (x_raceWrite_x L) (x_raceWrite_f L) (ad := ⟨Wg, 1, none⟩) (by simp [Act.eval]), 300, ?_⟩
      walk_nrm
      u_c stepG_region_end (lv hR) hF
      u_c stepG_seq (lv hR) hF
      u_reg (lv hR) hF
      u_conv H.underlying_tPU32 H.room_tU32 (WgLive.cell1 hF).choose_spec (lv hR) hF
      u_c stepG_region_end (lv hR) hF
      u_c stepG_seq (lv hR) hF
      u_c stepG_seq (lv hR) hF
      u_reg (lv hR) hF
      u_conv H.underlying_tPU32 H.room_tU32 (WgLive.cell1 hF).choose_spec (lv hR) hF
      u_conv H.underlying_tPU32 H.room_tU32 (WgLive.cell1 hF).choose_spec (lv hR) hF
      u_conv H.underlying_tPU32 H.room_tU32 (WgLive.cell1 hF).choose_spec (lv hR) hF
      u_conv H.underlying_tPU32 H.room_tU32 (WgLive.cell1 hF).choose_spec (lv hR) hF
      u_skip (lv hR) hF
      u_conv H.underlying_tPU32 H.room_tU32 (WgLive.cell1 hF).choose_spec (lv hR) hF
      u_c stepG_region_end (lv hR) hF
      u_cond false (lv hR) hF
      u_c stepG_skip (lv hR) hF
      u_c stepG_seq (lv hR) hF
      u_reg (lv hR) hF
      u_conv H.underlying_tPU32 H.room_tU32 (WgLive.cell1 hF).choose_spec (lv hR) hF
      u_conv H.underlying_tPU32 H.room_tU32 (WgLive.cell1 hF).choose_spec (lv hR) hF
      u_op (lv hR) hF
      u_conv H.underlying_tPU32 H.room_tU32 (WgLive.cell1 hF).choose_spec (lv hR) hF
      refine Goes.stop (fun w4 h4 => ?_)
      replace hF := lv hR hF h4
      clear h4
      refine ⟨rfl, rfl, fun ⟨st, hw⟩ => stepG_semacquire_wait rfl rfl rfl H.f_semacquire (x_semacquire_n L) (x_semacquire_b L) (x_semacquire_x L) (x_semacquire_f L) (by simp [Act.eval, smA]) hw.cellSm, fun hf => ?_⟩
      refine ⟨_, (stepG_semacquire (n := 1) rfl rfl (by k_ne) rfl H.f_semacquire (x_semacquire_n L) (x_semacquire_b L) (x_semacquire_x L) (x_semacquire_f L) (by simp [Act.eval, smA]) hf.cellSm (by k_ne) (hf.thaw 1)).trans (by rfl), 300, ?_⟩
      replace hF : WgLive L.tWg Wg (w4.setCell (smA Wg) (.int .u32 0)) := ⟨_, _, hf.setSm 0⟩
      clear hf
      walk_nrm
      u_c stepG_region_end (lv hR) hF
      u_c stepG_seq (lv hR) hF
      u_reg (lv hR) hF
      u_conv H.underlying_tPU32 H.room_tU32 (WgLive.cell1 hF).choose_spec (lv hR) hF
      u_conv H.underlying_tPU32 H.room_tU32 (WgLive.cell1 hF).choose_spec (lv hR) hF
      u_op (lv hR) hF
      u_call H.f_uLoad (nm_uLoad L) uLoadFn (lv hR) hF
      u_c stepG_seq (lv hR) hF
      u_reg (lv hR) hF
      u_conv H.underlying_tPU32 H.room_tU32 (WgLive.cell1 hF).choose_spec (lv hR) hF
      u_c stepG_region_end (lv hR) hF
      u_c stepG_seq (lv hR) hF
      u_reg (lv hR) hF
      u_conv H.underlying_tPU32 H.room_tU32 (WgLive.cell1 hF).choose_spec (lv hR) hF
      u_conv H.underlying_tPU32 H.room_tU32 (WgLive.cell1 hF).choose_spec (lv hR) hF
      u_op (lv hR) hF
      refine Goes.stop (fun w6 h6 => ?_)
      replace hF := lv hR hF h6
      clear h6
      refine ⟨rfl, fun hw => ⟨_, stepG_load_atomic (v := 0) rfl rfl (by k_ne) rfl H.f_loadU64 (x_loadU64_n L) (x_loadU64_b L) (x_loadU64_x L) .u64 (x_loadU64_f L) rfl hw.cellSt, 300, ?_⟩⟩
      clear hw
      walk_nrm
      u_conv H.underlying_tPU32 H.room_tU32 (WgLive.cell1 hF).choose_spec (lv hR) hF
      u_c stepG_region_end (lv hR) hF
      u_c stepG_ret' (lv hR) hF
      u_leave1 H.f_uLoad (lv hR) hF
      u_conv H.underlying_tPU32 H.room_tU32 (WgLive.cell1 hF).choose_spec (lv hR) hF
      u_conv H.underlying_tPU32 H.room_tU32 (WgLive.cell1 hF).choose_spec (lv hR) hF
      u_c stepG_region_end (lv hR) hF
      u_c stepG_seq (lv hR) hF
      u_cond true (lv hR) hF
      u_c stepG_seq (lv hR) hF
      u_reg (lv hR) hF
      refine Goes.stop (fun w5 h5 => ?_)
      replace hF := lv hR hF h5
      clear h5
      refine ⟨rfl, _, stepG_mark0 .enable (by simp) rfl rfl (by k_ne) rfl H.f_enable (x_enable_n L) (x_enable_b L) (x_enable_x L) (x_enable_f L), 300, ?_⟩
      walk_nrm
      u_c stepG_region_end (lv hR) hF
      u_reg (lv hR) hF
      u_conv H.underlying_tPU32 H.room_tU32 (WgLive.cell1 hF).choose_spec (lv hR) hF
      u_conv H.underlying_tWgP H.room_tWg (WgLive.cell0 hF).choose_spec (lv hR) hF
      refine Goes.stop (fun w8 h8 => ?_)
      replace hF := lv hR hF h8
      clear h8
      refine ⟨rfl, _, stepG_markAt .acquire (by simp) rfl rfl (by k_ne) rfl H.f_acquire (x_acquire_n L) (x_acquire_b L) (x_acquire_x L) (x_acquire_f L) (by simp [Act.eval, stA]), 300, ?_⟩
      walk_nrm
      u_c stepG_region_end (lv hR) hF
      u_c stepG_seq (lv hR) hF
      u_c stepG_seq (lv hR) hF
      u_reg (lv hR) hF
      u_conv H.underlying_tPU32 H.room_tU32 (WgLive.cell1 hF).choose_spec (lv hR) hF
      u_c stepG_region_end (lv hR) hF
      u_cond false (lv hR) hF
      u_c stepG_skip (lv hR) hF
      u_c stepG_ret' (lv hR) hF
      u_in (lv hR) hF
      rw [stepG_leave_deferred (v := .tuple #[]) rfl rfl H.f_wait (results_none rfl _ _ _) (events_results_none rfl _ _) hcm]
      simp only [goes_go]
      refine ⟨by u_nil, ?_⟩
      exact Goes.stop fun w99 h99 => hT _ (lv hR hF h99)
    · -- IT MISSES: BACK TO THE LOOP's HEAD
      have hne : (v' : Int) * KK ≠ S := by rw [← hS]; simp only [KK]; omega
      refine ⟨_, stepG_cas_miss (v := (v' : Int) * KK) (old := S) (n := S + 1) rfl rfl (by k_ne) rfl H.f_casU64 (x_casU64_n L) (x_casU64_b L) (x_casU64_x L) .u64 (x_casU64_f L) rfl rfl rfl hw.cellSt (hw.thaw 0) hne, 300, ?_⟩
      clear hw
      walk_nrm
      u_op (lv hR) hF
      u_c stepG_region_end (lv hR) hF
      u_c stepG_ret' (lv hR) hF
      u_leave1 H.f_uCas (lv hR) hF
      u_c stepG_region_end (lv hR) hF
      u_cond false (lv hR) hF
      u_c stepG_skip (lv hR) hF
      u_c stepG_inBlock (lv hR) hF
      u_c stepG_inLoop (lv hR) hF
      exact Goes.stop (fun w99 h99 => ⟨_, rfl, by simp, by simp, lv hR hF h99⟩)
end
end Go.Proofs.Ytmllcfkgkkbkpaa
