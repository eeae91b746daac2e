/-
  THE WALKS THROUGH Add(1), IN COMPANY, under whatever rely that leaves the group a group.
-/
import Derived.Test.YtmllcfkgkkbkpaaPk1
import Derived.Conc.WgGenN3
namespace Go.Proofs.Ytmllcfkgkkbkpaa
open Go Go.Conc Go.RowKit Go.Conc.Lib Go.ConcR.Gen
open Go.ConcN (WgLive st_flag st_waiters)
open Go.ConcN.Gen (WgLive.cell0 WgLive.cell1)
open Go.ConcR (KK wgBlock WgAt stA smA rd wr mk DC0)

section
variable {P : Program} {L : WgLink} {Wg : Nat} {R : World → World → Prop} {c : Frame} {cs : List Frame} {Fin : Goroutine → World → Prop}
theorem lv (hR : ∀ w w₁, R w w₁ → WgLive L.tWg Wg w → WgLive L.tWg Wg w₁) {w w₁ : World} (h : WgLive L.tWg Wg w) (r : R w w₁) : WgLive L.tWg Wg w₁ := hR _ _ r h
set_option maxRecDepth 100000 in
set_option maxHeartbeats 8000000 in
theorem addPosX (H : WgLib P L) (hR : ∀ w w₁, R w w₁ → WgLive L.tWg Wg w → WgLive L.tWg Wg w₁)
    (hT : ∀ w, WgLive L.tWg Wg w → Fin (G (c.finish (.tuple #[])) cs) w) (w : World) (hF : WgLive L.tWg Wg w) :
    ∃ m, Goes P true R DC0 (MKd P R (MA1 P L.tWg Wg R Fin)) m
      (G ((base L.add).at ⟨#[.pointer (some ⟨Wg, 0, none⟩), .int .i64 1, undef, undef, undef, undef, undef, undef, undef, undef, undef, undef, undef, undef, undef, undef, undef, undef, undef, undef, undef, undef, undef, undef, undef, undef, undef, undef, undef, undef, undef, undef, undef, undef, undef, undef, undef, undef, undef, undef, undef, undef, undef, undef, undef, undef, undef, undef, undef, undef, undef, undef, undef, undef, undef, undef, undef, undef, undef, undef, undef, undef, undef, undef, undef, undef, undef, undef, undef, undef, undef, undef, undef, undef, undef, undef, undef, undef, undef, undef, undef, undef, undef, undef, undef, undef, undef, undef, undef, undef, undef, undef, undef, undef, undef, undef, undef, undef, undef, undef, undef, undef, undef, undef, undef, undef, undef, undef, undef, undef, undef, undef, undef, undef, undef, undef, undef], []⟩ [.code (body_add L)]) (c :: cs)) w := by
  lib_facts
  simp only [body_add, addFn, Option.getD_some]
  refine ⟨300, ?_⟩
  u_c stepG_seq (lv hR) hF
  u_cond true (lv hR) hF
  u_c stepG_seq (lv hR) hF
  u_c stepG_seq (lv hR) hF
  u_reg (lv hR) hF
  u_conv H.underlying_tPU32 H.room_tU32 (WgLive.cell1 hF).choose_spec (lv hR) hF
  u_conv H.underlying_tPU32 H.room_tU32 (WgLive.cell1 hF).choose_spec (lv hR) hF
  u_c stepG_region_end (lv hR) hF
  u_cond false (lv hR) hF
  u_c stepG_skip (lv hR) hF
  u_c stepG_seq (lv hR) hF
  u_reg (lv hR) hF
  refine Goes.stop (fun w₁ h₁ => ?_)
  replace hF := lv hR hF h₁
  clear h₁
  refine ⟨rfl, _, stepG_mark0 .disable (by simp) rfl rfl (by k_ne) rfl H.f_disable (x_disable_n L) (x_disable_b L) (x_disable_x L) (x_disable_f L), 300, ?_⟩
  walk_nrm
  u_c stepG_region_end (lv hR) hF
  u_reg (lv hR) hF
  u_defer (lv hR) hF
  u_c stepG_region_end (lv hR) hF
  u_c stepG_seq (lv hR) hF
  u_reg (lv hR) hF
  u_conv H.underlying_tPU32 H.room_tU32 (WgLive.cell1 hF).choose_spec (lv hR) hF
  u_c stepG_region_end (lv hR) hF
  u_c stepG_seq (lv hR) hF
  u_c stepG_seq (lv hR) hF
  u_reg (lv hR) hF
  u_bub (lv hR) hF
  u_c stepG_region_end (lv hR) hF
  u_cond false (lv hR) hF
  u_c stepG_skip (lv hR) hF
  u_c stepG_seq (lv hR) hF
  u_reg (lv hR) hF
  u_conv H.underlying_tPU32 H.room_tU32 (WgLive.cell1 hF).choose_spec (lv hR) hF
  u_conv H.underlying_tPU32 H.room_tU32 (WgLive.cell1 hF).choose_spec (lv hR) hF
  u_op (lv hR) hF
  u_conv H.underlying_tPU32 H.room_tU32 (WgLive.cell1 hF).choose_spec (lv hR) hF
  u_op (lv hR) hF
  u_conv H.underlying_tPU32 H.room_tU32 (WgLive.cell1 hF).choose_spec (lv hR) hF
  u_call H.f_uAdd (nm_uAdd L) uAddFn (lv hR) hF
  u_c stepG_seq (lv hR) hF
  u_reg (lv hR) hF
  u_conv H.underlying_tPU32 H.room_tU32 (WgLive.cell1 hF).choose_spec (lv hR) hF
  u_c stepG_region_end (lv hR) hF
  u_c stepG_seq (lv hR) hF
  u_reg (lv hR) hF
  u_conv H.underlying_tPU32 H.room_tU32 (WgLive.cell1 hF).choose_spec (lv hR) hF
  u_conv H.underlying_tPU32 H.room_tU32 (WgLive.cell1 hF).choose_spec (lv hR) hF
  u_op (lv hR) hF
  u_conv H.underlying_tPU32 H.room_tU32 (WgLive.cell1 hF).choose_spec (lv hR) hF
  refine Goes.stop (fun w₂ h₂ => ?_)
  replace hF := lv hR hF h₂
  clear h₂
  refine ⟨rfl, fun v hv hw => ?_⟩
  obtain ⟨V, hV⟩ : ∃ V : Int, V = (v : Int) + 1 := ⟨_, rfl⟩
  obtain ⟨S, hS⟩ : ∃ S : Int, S = V * KK := ⟨_, rfl⟩
  have eS : IntKind.u64.wrap ((v : Int) * KK + 4294967296) = S := by rw [IntKind.wrap_u64, hS, hV]; simp only [KK]; omega
  rw [← hV, ← hS]
  have a1 : S / 4294967296 = V := by rw [hS]; simp only [KK]; omega
  have b1 : bits .and .u64 S 2147483648 = 0 := by rw [hS, hV]; have := st_flag (v + 1) 0 (by omega) (by omega); simpa [KK] using this
  have b2 : bits .and .u64 S 2147483647 = 0 := by rw [hS, hV]; have := st_waiters (v + 1) 0 (by omega) (by omega); simpa [KK] using this
  have c1 : IntKind.i32.wrap V = V := by rw [IntKind.wrap_i32]; omega
  have q3 : decide (V < 0) = false := decide_eq_false (by omega)
  have q4 : decide (0 < V) = true := decide_eq_true (by omega)
  have q5 : (V == 0) = false := by simp; omega
  have q6 : decide (V = 0) = false := decide_eq_false (by omega)
  refine ⟨_, (stepG_add_atomic rfl rfl (by k_ne) rfl H.f_addU64 (x_addU64_n L) (x_addU64_b L) (x_addU64_x L) .u64 (x_addU64_f L) rfl rfl hw.cellSt (hw.thaw 0)).trans (by rw [eS]; rfl), fun hv0 => ?_, fun hv0 => ?_⟩
  · -- THE COUNT IS NOW 1
    have e1 : V = 1 := by omega
    have q1 : (V == 1) = true := by simp [e1]
    have q2 : decide (V = 1) = true := decide_eq_true e1
    replace hF : WgLive L.tWg Wg (w₂.setCell (stA Wg) (.int .u64 S)) := ⟨_, _, hw.setSt _⟩
    clear hw hS hV eS
    refine ⟨300, ?_⟩
    walk_nrm
    u_conv H.underlying_tPU32 H.room_tU32 (WgLive.cell1 hF).choose_spec (lv hR) hF
    u_c stepG_region_end (lv hR) hF
    u_c stepG_ret' (lv hR) hF
    u_leave1 H.f_uAdd (lv hR) hF
    u_conv H.underlying_tPU32 H.room_tU32 (WgLive.cell1 hF).choose_spec (lv hR) hF
    u_c stepG_region_end (lv hR) hF
    u_c stepG_seq (lv hR) hF
    u_c stepG_seq (lv hR) hF
    u_reg (lv hR) hF
    u_conv H.underlying_tPU32 H.room_tU32 (WgLive.cell1 hF).choose_spec (lv hR) hF
    u_conv H.underlying_tPU32 H.room_tU32 (WgLive.cell1 hF).choose_spec (lv hR) hF
    u_conv H.underlying_tPU32 H.room_tU32 (WgLive.cell1 hF).choose_spec (lv hR) hF
    u_conv H.underlying_tPU32 H.room_tU32 (WgLive.cell1 hF).choose_spec (lv hR) hF
    u_skip (lv hR) hF
    u_skip (lv hR) hF
    u_conv H.underlying_tPU32 H.room_tU32 (WgLive.cell1 hF).choose_spec (lv hR) hF
    u_c stepG_region_end (lv hR) hF
    u_cond false (lv hR) hF
    u_c stepG_skip (lv hR) hF
    u_c stepG_seq (lv hR) hF
    u_reg (lv hR) hF
    u_conv H.underlying_tPU32 H.room_tU32 (WgLive.cell1 hF).choose_spec (lv hR) hF
    u_conv H.underlying_tPU32 H.room_tU32 (WgLive.cell1 hF).choose_spec (lv hR) hF
    u_op (lv hR) hF
    u_conv H.underlying_tPU32 H.room_tU32 (WgLive.cell1 hF).choose_spec (lv hR) hF
    u_c stepG_region_end (lv hR) hF
    u_c stepG_seq (lv hR) hF
    u_reg (lv hR) hF
    u_conv H.underlying_tPU32 H.room_tU32 (WgLive.cell1 hF).choose_spec (lv hR) hF
    u_conv H.underlying_tPU32 H.room_tU32 (WgLive.cell1 hF).choose_spec (lv hR) hF
    u_op (lv hR) hF
    u_conv H.underlying_tPU32 H.room_tU32 (WgLive.cell1 hF).choose_spec (lv hR) hF
    u_c stepG_region_end (lv hR) hF
    u_c stepG_seq (lv hR) hF
    u_c stepG_seq (lv hR) hF
    u_reg (lv hR) hF
    u_conv H.underlying_tPU32 H.room_tU32 (WgLive.cell1 hF).choose_spec (lv hR) hF
    u_conv H.underlying_tPU32 H.room_tU32 (WgLive.cell1 hF).choose_spec (lv hR) hF
    u_conv H.underlying_tPU32 H.room_tU32 (WgLive.cell1 hF).choose_spec (lv hR) hF
    u_conv H.underlying_tPU32 H.room_tU32 (WgLive.cell1 hF).choose_spec (lv hR) hF
    u_conv H.underlying_tPU32 H.room_tU32 (WgLive.cell1 hF).choose_spec (lv hR) hF
    u_conv H.underlying_tPU32 H.room_tU32 (WgLive.cell1 hF).choose_spec (lv hR) hF
    u_conv H.underlying_tPU32 H.room_tU32 (WgLive.cell1 hF).choose_spec (lv hR) hF
    u_op (lv hR) hF
    u_conv H.underlying_tPU32 H.room_tU32 (WgLive.cell1 hF).choose_spec (lv hR) hF
    u_conv H.underlying_tPU32 H.room_tU32 (WgLive.cell1 hF).choose_spec (lv hR) hF
    u_c stepG_region_end (lv hR) hF
    u_cond true (lv hR) hF
    u_reg (lv hR) hF
    u_conv H.underlying_tPU32 H.room_tU32 (WgLive.cell1 hF).choose_spec (lv hR) hF
    u_conv H.underlying_tPU32 H.room_tU32 (WgLive.cell1 hF).choose_spec (lv hR) hF
    u_op (lv hR) hF
    u_conv H.underlying_tPU32 H.room_tU32 (WgLive.cell1 hF).choose_spec (lv hR) hF
    refine Goes.stop (fun w₃ h₃ => ?_)
    replace hF := lv hR hF h₃
    clear h₃
    refine ⟨rfl, _, stepG_markAt .read (by simp) rfl rfl (by k_ne) rfl H.f_raceRead (x_raceRead_n L) (x_raceRead_b L) (x_raceRead_x L) (x_raceRead_f L) (ad := ⟨Wg, 1, none⟩) (by simp [Act.eval]), 300, ?_⟩
    walk_nrm
    u_c stepG_region_end (lv hR) hF
    u_c stepG_seq (lv hR) hF
    u_c stepG_seq (lv hR) hF
    u_reg (lv hR) hF
    u_conv H.underlying_tPU32 H.room_tU32 (WgLive.cell1 hF).choose_spec (lv hR) hF
    u_conv H.underlying_tPU32 H.room_tU32 (WgLive.cell1 hF).choose_spec (lv hR) hF
    u_c stepG_region_end (lv hR) hF
    u_cond false (lv hR) hF
    u_c stepG_skip (lv hR) hF
    u_c stepG_seq (lv hR) hF
    u_c stepG_seq (lv hR) hF
    u_reg (lv hR) hF
    u_conv H.underlying_tPU32 H.room_tU32 (WgLive.cell1 hF).choose_spec (lv hR) hF
    u_conv H.underlying_tPU32 H.room_tU32 (WgLive.cell1 hF).choose_spec (lv hR) hF
    u_conv H.underlying_tPU32 H.room_tU32 (WgLive.cell1 hF).choose_spec (lv hR) hF
    u_skip (lv hR) hF
    u_skip (lv hR) hF
    u_conv H.underlying_tPU32 H.room_tU32 (WgLive.cell1 hF).choose_spec (lv hR) hF
    u_conv H.underlying_tPU32 H.room_tU32 (WgLive.cell1 hF).choose_spec (lv hR) hF
    u_skip (lv hR) hF
    u_skip (lv hR) hF
    u_skip (lv hR) hF
    u_skip (lv hR) hF
    u_conv H.underlying_tPU32 H.room_tU32 (WgLive.cell1 hF).choose_spec (lv hR) hF
    u_c stepG_region_end (lv hR) hF
    u_cond false (lv hR) hF
    u_c stepG_skip (lv hR) hF
    u_c stepG_seq (lv hR) hF
    u_c stepG_seq (lv hR) hF
    u_reg (lv hR) hF
    u_conv H.underlying_tPU32 H.room_tU32 (WgLive.cell1 hF).choose_spec (lv hR) hF
    u_conv H.underlying_tPU32 H.room_tU32 (WgLive.cell1 hF).choose_spec (lv hR) hF
    u_conv H.underlying_tPU32 H.room_tU32 (WgLive.cell1 hF).choose_spec (lv hR) hF
    u_skip (lv hR) hF
    u_skip (lv hR) hF
    u_conv H.underlying_tPU32 H.room_tU32 (WgLive.cell1 hF).choose_spec (lv hR) hF
    u_c stepG_region_end (lv hR) hF
    u_cond true (lv hR) hF
    u_c stepG_ret' (lv hR) hF
    refine Goes.stop (fun w₄ h₄ => ?_)
    replace hF := lv hR hF h₄
    clear h₄
    refine ⟨rfl, _, stepG_unwind_entry (v := .tuple #[]) (evs := #[mk .enable]) rfl H.f_enable (x_enable_n L) (x_enable_b L) (x_enable_x L) (x_enable_f L) (by simp [Extern.Race.none_]) (by simp [mk]) (by simp [mk]), 3, ?_⟩
    u_in (lv hR) hF
    rw [stepG_leave (v := .tuple #[]) rfl rfl H.f_add (results_none rfl _ _ _) (events_results_none rfl _ _)]
    simp only [goes_go]
    refine ⟨by u_nil, ?_⟩
    exact Goes.stop fun w₅ h₅ => hT _ (lv hR hF h₅)
  · -- IT IS MORE
    have q1 : (V == 1) = false := by simp; omega
    have q2 : decide (V = 1) = false := decide_eq_false (by omega)
    replace hF : WgLive L.tWg Wg (w₂.setCell (stA Wg) (.int .u64 S)) := ⟨_, _, hw.setSt _⟩
    clear hw hS hV eS
    refine ⟨300, ?_⟩
    walk_nrm
    u_conv H.underlying_tPU32 H.room_tU32 (WgLive.cell1 hF).choose_spec (lv hR) hF
    u_c stepG_region_end (lv hR) hF
    u_c stepG_ret' (lv hR) hF
    u_leave1 H.f_uAdd (lv hR) hF
    u_conv H.underlying_tPU32 H.room_tU32 (WgLive.cell1 hF).choose_spec (lv hR) hF
    u_c stepG_region_end (lv hR) hF
    u_c stepG_seq (lv hR) hF
    u_c stepG_seq (lv hR) hF
    u_reg (lv hR) hF
    u_conv H.underlying_tPU32 H.room_tU32 (WgLive.cell1 hF).choose_spec (lv hR) hF
    u_conv H.underlying_tPU32 H.room_tU32 (WgLive.cell1 hF).choose_spec (lv hR) hF
    u_conv H.underlying_tPU32 H.room_tU32 (WgLive.cell1 hF).choose_spec (lv hR) hF
    u_conv H.underlying_tPU32 H.room_tU32 (WgLive.cell1 hF).choose_spec (lv hR) hF
    u_skip (lv hR) hF
    u_skip (lv hR) hF
    u_conv H.underlying_tPU32 H.room_tU32 (WgLive.cell1 hF).choose_spec (lv hR) hF
    u_c stepG_region_end (lv hR) hF
    u_cond false (lv hR) hF
    u_c stepG_skip (lv hR) hF
    u_c stepG_seq (lv hR) hF
    u_reg (lv hR) hF
    u_conv H.underlying_tPU32 H.room_tU32 (WgLive.cell1 hF).choose_spec (lv hR) hF
    u_conv H.underlying_tPU32 H.room_tU32 (WgLive.cell1 hF).choose_spec (lv hR) hF
    u_op (lv hR) hF
    u_conv H.underlying_tPU32 H.room_tU32 (WgLive.cell1 hF).choose_spec (lv hR) hF
    u_c stepG_region_end (lv hR) hF
    u_c stepG_seq (lv hR) hF
    u_reg (lv hR) hF
    u_conv H.underlying_tPU32 H.room_tU32 (WgLive.cell1 hF).choose_spec (lv hR) hF
    u_conv H.underlying_tPU32 H.room_tU32 (WgLive.cell1 hF).choose_spec (lv hR) hF
    u_op (lv hR) hF
    u_conv H.underlying_tPU32 H.room_tU32 (WgLive.cell1 hF).choose_spec (lv hR) hF
    u_c stepG_region_end (lv hR) hF
    u_c stepG_seq (lv hR) hF
    u_c stepG_seq (lv hR) hF
    u_reg (lv hR) hF
    u_conv H.underlying_tPU32 H.room_tU32 (WgLive.cell1 hF).choose_spec (lv hR) hF
    u_conv H.underlying_tPU32 H.room_tU32 (WgLive.cell1 hF).choose_spec (lv hR) hF
    u_conv H.underlying_tPU32 H.room_tU32 (WgLive.cell1 hF).choose_spec (lv hR) hF
    u_conv H.underlying_tPU32 H.room_tU32 (WgLive.cell1 hF).choose_spec (lv hR) hF
    u_conv H.underlying_tPU32 H.room_tU32 (WgLive.cell1 hF).choose_spec (lv hR) hF
    u_conv H.underlying_tPU32 H.room_tU32 (WgLive.cell1 hF).choose_spec (lv hR) hF
    u_conv H.underlying_tPU32 H.room_tU32 (WgLive.cell1 hF).choose_spec (lv hR) hF
    u_op (lv hR) hF
    u_conv H.underlying_tPU32 H.room_tU32 (WgLive.cell1 hF).choose_spec (lv hR) hF
    u_conv H.underlying_tPU32 H.room_tU32 (WgLive.cell1 hF).choose_spec (lv hR) hF
    u_c stepG_region_end (lv hR) hF
    u_cond false (lv hR) hF
    u_c stepG_skip (lv hR) hF
    u_c stepG_seq (lv hR) hF
    u_c stepG_seq (lv hR) hF
    u_reg (lv hR) hF
    u_conv H.underlying_tPU32 H.room_tU32 (WgLive.cell1 hF).choose_spec (lv hR) hF
    u_conv H.underlying_tPU32 H.room_tU32 (WgLive.cell1 hF).choose_spec (lv hR) hF
    u_c stepG_region_end (lv hR) hF
    u_cond false (lv hR) hF
    u_c stepG_skip (lv hR) hF
    u_c stepG_seq (lv hR) hF
    u_c stepG_seq (lv hR) hF
    u_reg (lv hR) hF
    u_conv H.underlying_tPU32 H.room_tU32 (WgLive.cell1 hF).choose_spec (lv hR) hF
    u_conv H.underlying_tPU32 H.room_tU32 (WgLive.cell1 hF).choose_spec (lv hR) hF
    u_conv H.underlying_tPU32 H.room_tU32 (WgLive.cell1 hF).choose_spec (lv hR) hF
    u_skip (lv hR) hF
    u_skip (lv hR) hF
    u_conv H.underlying_tPU32 H.room_tU32 (WgLive.cell1 hF).choose_spec (lv hR) hF
    u_conv H.underlying_tPU32 H.room_tU32 (WgLive.cell1 hF).choose_spec (lv hR) hF
    u_skip (lv hR) hF
    u_skip (lv hR) hF
    u_skip (lv hR) hF
    u_skip (lv hR) hF
    u_conv H.underlying_tPU32 H.room_tU32 (WgLive.cell1 hF).choose_spec (lv hR) hF
    u_c stepG_region_end (lv hR) hF
    u_cond false (lv hR) hF
    u_c stepG_skip (lv hR) hF
    u_c stepG_seq (lv hR) hF
    u_c stepG_seq (lv hR) hF
    u_reg (lv hR) hF
    u_conv H.underlying_tPU32 H.room_tU32 (WgLive.cell1 hF).choose_spec (lv hR) hF
    u_conv H.underlying_tPU32 H.room_tU32 (WgLive.cell1 hF).choose_spec (lv hR) hF
    u_conv H.underlying_tPU32 H.room_tU32 (WgLive.cell1 hF).choose_spec (lv hR) hF
    u_skip (lv hR) hF
    u_skip (lv hR) hF
    u_conv H.underlying_tPU32 H.room_tU32 (WgLive.cell1 hF).choose_spec (lv hR) hF
    u_c stepG_region_end (lv hR) hF
    u_cond true (lv hR) hF
    u_c stepG_ret' (lv hR) hF
    refine Goes.stop (fun w₄ h₄ => ?_)
    replace hF := lv hR hF h₄
    clear h₄
    refine ⟨rfl, _, stepG_unwind_entry (v := .tuple #[]) (evs := #[mk .enable]) rfl H.f_enable (x_enable_n L) (x_enable_b L) (x_enable_x L) (x_enable_f L) (by simp [Extern.Race.none_]) (by simp [mk]) (by simp [mk]), 3, ?_⟩
    u_in (lv hR) hF
    rw [stepG_leave (v := .tuple #[]) rfl rfl H.f_add (results_none rfl _ _ _) (events_results_none rfl _ _)]
    simp only [goes_go]
    refine ⟨by u_nil, ?_⟩
    exact Goes.stop fun w₅ h₅ => hT _ (lv hR hF h₅)
end
end Go.Proofs.Ytmllcfkgkkbkpaa
