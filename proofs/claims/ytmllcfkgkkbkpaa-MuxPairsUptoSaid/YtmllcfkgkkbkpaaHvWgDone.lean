/-
  THE WALK THROUGH Done, AS A WORKER's DEFERRED CALL.
-/
import Derived.Test.YtmllcfkgkkbkpaaPk1
import Derived.Conc.WgGenN3
namespace Go.Proofs.Ytmllcfkgkkbkpaa
open Go Go.Conc Go.RowKit Go.Conc.Lib Go.ConcR.Gen
open Go.ConcN (WgLive st_flag st_waiters)
open Go.ConcN.Gen (WgLive.cell0 WgLive.cell1)
open Go.ConcR (KK wgBlock WgAt stA smA rd wr mk DC0)

section
variable {P : Program} {L : WgLink} {Wg : Nat} {K : Nat → Prop} {b₀ : Frame} {a₀ : Act} {ops₀ : Array Oper} {i₀ : Nat} {rest₀ : List Nat} {k₀ : List Item} {cs : List Frame}
theorem rwl {w w₁ : World} (h : WgLive L.tWg Wg w) (r : RWk L.tWg Wg K w w₁) : WgLive L.tWg Wg w₁ := r.live h
set_option maxRecDepth 100000 in
set_option maxHeartbeats 8000000 in
theorem addNegX (H : WgLib P L) {qt : Nat} (hT : QuitsD P qt 0 (G (b₀.at (a₀.put ((ops₀[i₀]?).bind (·.dst)) (.tuple #[])) (.inRegion ops₀ rest₀ :: k₀)) cs)) (w : World) (hF : WgLive L.tWg Wg w) :
    Goes P false (RWk L.tWg Wg K) DC0 (WR0 P L.tWg Wg K) 300
      (G ((base L.add).at ⟨#[.pointer (some ⟨Wg, 0, none⟩), .int .i64 (-1), undef, undef, undef, undef, undef, undef, undef, undef, undef, undef, undef, undef, undef, undef, undef, undef, undef, undef, undef, undef, undef, undef, undef, undef, undef, undef, undef, undef, undef, undef, undef, undef, undef, undef, undef, undef, undef, undef, undef, undef, undef, undef, undef, undef, undef, undef, undef, undef, undef, undef, undef, undef, undef, undef, undef, undef, undef, undef, undef, undef, undef, undef, undef, undef, undef, undef, undef, undef, undef, undef, undef, undef, undef, undef, undef, undef, undef, undef, undef, undef, undef, undef, undef, undef, undef, undef, undef, undef, undef, undef, undef, undef, undef, undef, undef, undef, undef, undef, undef, undef, undef, undef, undef, undef, undef, undef, undef, undef, undef, undef, undef, undef, undef, undef, undef], []⟩ [.code (body_add L)]) (b₀.at a₀ (.inRegion ops₀ (i₀ :: rest₀) :: k₀) :: cs)) w := by
  lib_facts
  simp only [body_add, addFn, Option.getD_some]
  u_c stepG_seq rwl hF
  u_cond true rwl hF
  u_c stepG_seq rwl hF
  u_c stepG_seq rwl hF
  u_reg rwl hF
  u_op rwl hF
  u_op rwl hF
  u_c stepG_region_end rwl hF
  u_cond true rwl hF
  u_reg rwl hF
  u_op rwl hF
  u_conv H.underlying_tWgP H.room_tWg (WgLive.cell0 hF).choose_spec rwl hF
  refine Goes.stop (fun w₁ h₁ => ?_)
  replace hF := rwl hF h₁
  clear h₁
  refine ⟨rfl, _, stepG_markAt .releaseMerge (by simp) rfl rfl (by k_ne) rfl H.f_relMerge (x_relMerge_n L) (x_relMerge_b L) (x_relMerge_x L) (x_relMerge_f L) (by simp [Act.eval, stA]), 300, ?_⟩
  walk_nrm
  u_c stepG_region_end rwl hF
  u_c stepG_seq rwl hF
  u_reg rwl hF
  refine Goes.stop (fun w₁ h₁ => ?_)
  replace hF := rwl hF h₁
  clear h₁
  refine ⟨rfl, _, stepG_mark0 .disable (by simp) rfl rfl (by k_ne) rfl H.f_disable (x_disable_n L) (x_disable_b L) (x_disable_x L) (x_disable_f L), 300, ?_⟩
  walk_nrm
  u_c stepG_region_end rwl hF
  u_reg rwl hF
  u_defer rwl hF
  u_c stepG_region_end rwl hF
  u_c stepG_seq rwl hF
  u_reg rwl hF
  u_op rwl hF
  u_c stepG_region_end rwl hF
  u_c stepG_seq rwl hF
  u_c stepG_seq rwl hF
  u_reg rwl hF
  u_bub rwl hF
  u_c stepG_region_end rwl hF
  u_cond false rwl hF
  u_c stepG_skip rwl hF
  u_c stepG_seq rwl hF
  u_reg rwl hF
  u_op rwl hF
  u_op rwl hF
  u_op rwl hF
  u_op rwl hF
  u_op rwl hF
  u_op rwl hF
  u_call H.f_uAdd (nm_uAdd L) uAddFn rwl hF
  u_c stepG_seq rwl hF
  u_reg rwl hF
  u_op rwl hF
  u_c stepG_region_end rwl hF
  u_c stepG_seq rwl hF
  u_reg rwl hF
  u_op rwl hF
  u_op rwl hF
  u_op rwl hF
  u_op rwl hF
  refine Goes.stop (fun w₁ h₁ => ?_)
  clear h₁ hF
  refine ⟨rfl, fun v wt hwt hv hw => ?_⟩
  by_cases hl : v = 0 ∧ wt = 1
  · -- THE LAST ONE, and the starter waits
    obtain ⟨rfl, rfl⟩ := hl
    have e1 : IntKind.u64.wrap (KK + 1 + 18446744069414584320) = 1 := by decide
    replace hw : WgAt L.tWg Wg w₁ (KK + 1) 0 := by simpa using hw
    have z : ((0 : Nat) : Int) * KK + ((1 : Nat) : Int) = 1 := by simp
    rw [z]
    refine ⟨_, (stepG_add_atomic rfl rfl (by k_ne) rfl H.f_addU64 (x_addU64_n L) (x_addU64_b L) (x_addU64_x L) .u64 (x_addU64_f L) rfl rfl hw.cellSt (hw.thaw 0)).trans (by rw [e1]; rfl), fun _ => ⟨300, ?_⟩, fun hl => absurd ⟨rfl, rfl⟩ hl⟩
    have hF : WgLive L.tWg Wg (w₁.setCell (stA Wg) (.int .u64 1)) := ⟨_, _, hw.setSt 1⟩
    clear hw
    walk_nrm
    u_op rwl hF
    u_c stepG_region_end rwl hF
    u_c stepG_ret' rwl hF
    u_leave1 H.f_uAdd rwl hF
    u_op rwl hF
    u_c stepG_region_end rwl hF
    u_c stepG_seq rwl hF
    u_c stepG_seq rwl hF
    u_reg rwl hF
    u_op rwl hF
    u_op rwl hF
    u_op rwl hF
    u_op rwl hF
    u_skip rwl hF
    u_skip rwl hF
    u_op rwl hF
    u_c stepG_region_end rwl hF
    u_cond false rwl hF
    u_c stepG_skip rwl hF
    u_c stepG_seq rwl hF
    u_reg rwl hF
    u_op rwl hF
    u_op rwl hF
    u_op rwl hF
    u_op rwl hF
    u_c stepG_region_end rwl hF
    u_c stepG_seq rwl hF
    u_reg rwl hF
    u_op rwl hF
    u_op rwl hF
    u_op rwl hF
    u_op rwl hF
    u_c stepG_region_end rwl hF
    u_c stepG_seq rwl hF
    u_c stepG_seq rwl hF
    u_reg rwl hF
    u_op rwl hF
    u_op rwl hF
    u_op rwl hF
    u_op rwl hF
    u_op rwl hF
    u_skip rwl hF
    u_skip rwl hF
    u_skip rwl hF
    u_skip rwl hF
    u_op rwl hF
    u_c stepG_region_end rwl hF
    u_cond false rwl hF
    u_c stepG_skip rwl hF
    u_c stepG_seq rwl hF
    u_c stepG_seq rwl hF
    u_reg rwl hF
    u_op rwl hF
    u_op rwl hF
    u_c stepG_region_end rwl hF
    u_cond false rwl hF
    u_c stepG_skip rwl hF
    u_c stepG_seq rwl hF
    u_c stepG_seq rwl hF
    u_reg rwl hF
    u_op rwl hF
    u_op rwl hF
    u_op rwl hF
    u_op rwl hF
    u_op rwl hF
    u_op rwl hF
    u_op rwl hF
    u_skip rwl hF
    u_skip rwl hF
    u_skip rwl hF
    u_skip rwl hF
    u_op rwl hF
    u_c stepG_region_end rwl hF
    u_cond false rwl hF
    u_c stepG_skip rwl hF
    u_c stepG_seq rwl hF
    u_c stepG_seq rwl hF
    u_reg rwl hF
    u_op rwl hF
    u_op rwl hF
    u_op rwl hF
    u_op rwl hF
    u_op rwl hF
    u_op rwl hF
    u_c stepG_region_end rwl hF
    u_cond false rwl hF
    u_c stepG_skip rwl hF
    u_c stepG_seq rwl hF
    u_c stepG_seq rwl hF
    u_reg rwl hF
    u_op rwl hF
    u_op rwl hF
    u_op rwl hF
    u_call H.f_uLoad (nm_uLoad L) uLoadFn rwl hF
    u_c stepG_seq rwl hF
    u_reg rwl hF
    u_op rwl hF
    u_c stepG_region_end rwl hF
    u_c stepG_seq rwl hF
    u_reg rwl hF
    u_op rwl hF
    u_op rwl hF
    u_op rwl hF
    refine Goes.stop (fun w₂ h₂ => ?_)
    clear h₂ hF
    refine ⟨rfl, fun hw => ⟨_, stepG_load_atomic rfl rfl (by k_ne) rfl H.f_loadU64 (x_loadU64_n L) (x_loadU64_b L) (x_loadU64_x L) .u64 (x_loadU64_f L) rfl hw.cellSt, 300, ?_⟩⟩
    have hF : WgLive L.tWg Wg w₂ := ⟨_, _, hw⟩
    clear hw
    walk_nrm
    u_op rwl hF
    u_c stepG_region_end rwl hF
    u_c stepG_ret' rwl hF
    u_leave1 H.f_uLoad rwl hF
    u_op rwl hF
    u_op rwl hF
    u_c stepG_region_end rwl hF
    u_cond false rwl hF
    u_c stepG_skip rwl hF
    u_c stepG_seq rwl hF
    u_reg rwl hF
    u_op rwl hF
    u_op rwl hF
    u_op rwl hF
    u_call H.f_uStore (nm_uStore L) uStoreFn rwl hF
    u_reg rwl hF
    u_op rwl hF
    u_op rwl hF
    u_op rwl hF
    u_op rwl hF
    refine Goes.stop (fun w₃ h₃ => ?_)
    clear h₃ hF
    refine ⟨rfl, fun hw => ⟨_, stepG_store_atomic rfl rfl (by k_ne) rfl H.f_storeU64 (x_storeU64_n L) (x_storeU64_b L) (x_storeU64_x L) (x_storeU64_f L) rfl rfl hw.cellSt (hw.thaw 0), 300, ?_⟩⟩
    have hF : WgLive L.tWg Wg (w₃.setCell (stA Wg) (.int .u64 0)) := ⟨_, _, hw.setSt 0⟩
    clear hw
    walk_nrm
    u_c stepG_region_end rwl hF
    u_c stepG_end rwl hF
    u_leave0 H.f_uStore rwl hF
    u_c stepG_region_end rwl hF
    u_c stepG_seq rwl hF
    u_c stepG_seq rwl hF
    u_reg rwl hF
    u_op rwl hF
    u_c stepG_region_end rwl hF
    u_cond false rwl hF
    u_c stepG_skip rwl hF
    u_c stepG_block rwl hF
    u_c stepG_loop rwl hF
    u_c stepG_seq rwl hF
    u_c stepG_seq rwl hF
    u_reg rwl hF
    u_op rwl hF
    u_op rwl hF
    u_c stepG_region_end rwl hF
    u_cond true rwl hF
    u_c stepG_skip rwl hF
    u_c stepG_seq rwl hF
    u_c stepG_block rwl hF
    u_reg rwl hF
    u_op rwl hF
    u_op rwl hF
    u_op rwl hF
    refine Goes.stop (fun w₄ h₄ => ?_)
    clear h₄ hF
    refine ⟨rfl, mayWake_entry rfl rfl H.f_semrelease (x_semrelease_b L), fun hw => ⟨_, (stepG_semrelease rfl rfl (by k_ne) rfl H.f_semrelease (x_semrelease_n L) (x_semrelease_b L) (x_semrelease_x L) (x_semrelease_f L) (by simp [Act.eval, smA]) hw.cellSm (hw.thaw 1)).trans (by rfl), qt + 19, ?_⟩⟩
    clear hw
    walk_nrm
    q_c stepG_region_end
    q_c stepG_inBlock
    q_reg
    (refine QuitsD.value (.int .u32 1) rfl rfl (by k_ne) (fun _ => by go_simp; try (first | omega | (w_num; omega) | w_num | decide)) (fun _ => by simp [go_sem, *]) ?_; walk_nrm)
    (refine QuitsD.value (.int .u32 0) rfl rfl (by k_ne) (fun _ => by go_simp; try (first | omega | (w_num; omega) | w_num | decide)) (fun _ => by simp [go_sem, *]) ?_; walk_nrm)
    (refine QuitsD.value (.int .u32 0) rfl rfl (by k_ne) (fun _ => by go_simp; try (first | omega | (w_num; omega) | w_num | decide)) (fun _ => by simp [go_sem, *]) ?_; walk_nrm)
    q_c stepG_region_end
    q_c stepG_inLoop
    q_c stepG_seq
    q_c stepG_seq
    q_reg
    (refine QuitsD.value (.int .u32 0) rfl rfl (by k_ne) (fun _ => by go_simp; try (first | omega | (w_num; omega) | w_num | decide)) (fun _ => by simp [go_sem, *]) ?_; walk_nrm)
    (refine QuitsD.value (.bool false) rfl rfl (by k_ne) (fun _ => by go_simp; try (first | omega | (w_num; omega) | w_num | decide)) (fun _ => by simp [go_sem, *]) ?_; walk_nrm)
    q_c stepG_region_end
    q_cond false
    q_exit
    q_c stepG_end
    q_enable
    q_leave0 H.f_add
    exact hT
  · -- IT ONLY LEAVES
    rcases Nat.eq_zero_or_pos v with rfl | hvp
    · obtain rfl : wt = 0 := by omega
      replace hw : WgAt L.tWg Wg w₁ KK 0 := by simpa using hw
      have e0 : IntKind.u64.wrap (KK + 18446744069414584320) = 0 := by decide
      have z : ((0 : Nat) : Int) * KK + ((0 : Nat) : Int) = 0 := by simp
      rw [z]
      refine ⟨_, (stepG_add_atomic rfl rfl (by k_ne) rfl H.f_addU64 (x_addU64_n L) (x_addU64_b L) (x_addU64_x L) .u64 (x_addU64_f L) rfl rfl hw.cellSt (hw.thaw 0)).trans (by rw [e0]; rfl), fun h => absurd h hl, fun _ => ⟨qt + 89, ?_⟩⟩
      clear hw
      walk_nrm
      (refine QuitsD.value (.int .u64 0) rfl rfl (by k_ne) (fun _ => by go_simp; try (first | omega | (w_num; omega) | w_num | decide)) (fun _ => by simp [go_sem, *]) ?_; walk_nrm)
      q_c stepG_region_end
      q_c stepG_ret'
      q_leave1 H.f_uAdd
      (refine QuitsD.value (.int .u64 0) rfl rfl (by k_ne) (fun _ => by go_simp; try (first | omega | (w_num; omega) | w_num | decide)) (fun _ => by simp [go_sem, *]) ?_; walk_nrm)
      q_c stepG_region_end
      q_c stepG_seq
      q_c stepG_seq
      q_reg
      (refine QuitsD.value (.int .u64 0) rfl rfl (by k_ne) (fun _ => by go_simp; try (first | omega | (w_num; omega) | w_num | decide)) (fun _ => by simp [go_sem, *]) ?_; walk_nrm)
      (refine QuitsD.value (.int .u64 0) rfl rfl (by k_ne) (fun _ => by go_simp; try (first | omega | (w_num; omega) | w_num | decide)) (fun _ => by simp [go_sem, *]) ?_; walk_nrm)
      (refine QuitsD.value (.bool false) rfl rfl (by k_ne) (fun _ => by go_simp; try (first | omega | (w_num; omega) | w_num | decide)) (fun _ => by simp [go_sem, *]) ?_; walk_nrm)
      (refine QuitsD.value (.bool false) rfl rfl (by k_ne) (fun _ => by go_simp; try (first | omega | (w_num; omega) | w_num | decide)) (fun _ => by simp [go_sem, *]) ?_; walk_nrm)
      q_skip
      q_skip
      (refine QuitsD.value (.bool false) rfl rfl (by k_ne) (fun _ => by go_simp; try (first | omega | (w_num; omega) | w_num | decide)) (fun _ => by simp [go_sem, *]) ?_; walk_nrm)
      q_c stepG_region_end
      q_cond false
      q_c stepG_skip
      q_c stepG_seq
      q_reg
      (refine QuitsD.value (.int .u64 0) rfl rfl (by k_ne) (fun _ => by go_simp; try (first | omega | (w_num; omega) | w_num | decide)) (fun _ => by simp [go_sem, *]) ?_; walk_nrm)
      (refine QuitsD.value (.int .u64 0) rfl rfl (by k_ne) (fun _ => by go_simp; try (first | omega | (w_num; omega) | w_num | decide)) (fun _ => by simp [go_sem, *]) ?_; walk_nrm)
      (refine QuitsD.value (.int .i32 0) rfl rfl (by k_ne) (fun _ => by go_simp; try (first | omega | (w_num; omega) | w_num | decide)) (fun _ => by simp [go_sem, *]) ?_; walk_nrm)
      (refine QuitsD.value (.int .i32 0) rfl rfl (by k_ne) (fun _ => by go_simp; try (first | omega | (w_num; omega) | w_num | decide)) (fun _ => by simp [go_sem, *]) ?_; walk_nrm)
      q_c stepG_region_end
      q_c stepG_seq
      q_reg
      (refine QuitsD.value (.int .u64 0) rfl rfl (by k_ne) (fun _ => by go_simp; try (first | omega | (w_num; omega) | w_num | decide)) (fun _ => by simp [go_sem, *]) ?_; walk_nrm)
      (refine QuitsD.value (.int .u64 0) rfl rfl (by k_ne) (fun _ => by go_simp; try (first | omega | (w_num; omega) | w_num | decide)) (fun _ => by simp [go_sem, *]) ?_; walk_nrm)
      (refine QuitsD.value (.int .u32 0) rfl rfl (by k_ne) (fun _ => by go_simp; try (first | omega | (w_num; omega) | w_num | decide)) (fun _ => by simp [go_sem, *]) ?_; walk_nrm)
      (refine QuitsD.value (.int .u32 0) rfl rfl (by k_ne) (fun _ => by go_simp; try (first | omega | (w_num; omega) | w_num | decide)) (fun _ => by simp [go_sem, *]) ?_; walk_nrm)
      q_c stepG_region_end
      q_c stepG_seq
      q_c stepG_seq
      q_reg
      (refine QuitsD.value (.bool true) rfl rfl (by k_ne) (fun _ => by go_simp; try (first | omega | (w_num; omega) | w_num | decide)) (fun _ => by simp [go_sem, *]) ?_; walk_nrm)
      (refine QuitsD.value (.int .i64 (-1)) rfl rfl (by k_ne) (fun _ => by go_simp; try (first | omega | (w_num; omega) | w_num | decide)) (fun _ => by simp [go_sem, *]) ?_; walk_nrm)
      (refine QuitsD.value (.bool false) rfl rfl (by k_ne) (fun _ => by go_simp; try (first | omega | (w_num; omega) | w_num | decide)) (fun _ => by simp [go_sem, *]) ?_; walk_nrm)
      (refine QuitsD.value (.bool false) rfl rfl (by k_ne) (fun _ => by go_simp; try (first | omega | (w_num; omega) | w_num | decide)) (fun _ => by simp [go_sem, *]) ?_; walk_nrm)
      (refine QuitsD.value (.bool false) rfl rfl (by k_ne) (fun _ => by go_simp; try (first | omega | (w_num; omega) | w_num | decide)) (fun _ => by simp [go_sem, *]) ?_; walk_nrm)
      q_skip
      q_skip
      q_skip
      q_skip
      (refine QuitsD.value (.bool false) rfl rfl (by k_ne) (fun _ => by go_simp; try (first | omega | (w_num; omega) | w_num | decide)) (fun _ => by simp [go_sem, *]) ?_; walk_nrm)
      q_c stepG_region_end
      q_cond false
      q_c stepG_skip
      q_c stepG_seq
      q_c stepG_seq
      q_reg
      (refine QuitsD.value (.int .i32 0) rfl rfl (by k_ne) (fun _ => by go_simp; try (first | omega | (w_num; omega) | w_num | decide)) (fun _ => by simp [go_sem, *]) ?_; walk_nrm)
      (refine QuitsD.value (.bool false) rfl rfl (by k_ne) (fun _ => by go_simp; try (first | omega | (w_num; omega) | w_num | decide)) (fun _ => by simp [go_sem, *]) ?_; walk_nrm)
      q_c stepG_region_end
      q_cond false
      q_c stepG_skip
      q_c stepG_seq
      q_c stepG_seq
      q_reg
      (refine QuitsD.value (.int .u32 0) rfl rfl (by k_ne) (fun _ => by go_simp; try (first | omega | (w_num; omega) | w_num | decide)) (fun _ => by simp [go_sem, *]) ?_; walk_nrm)
      (refine QuitsD.value (.bool false) rfl rfl (by k_ne) (fun _ => by go_simp; try (first | omega | (w_num; omega) | w_num | decide)) (fun _ => by simp [go_sem, *]) ?_; walk_nrm)
      (refine QuitsD.value (.bool false) rfl rfl (by k_ne) (fun _ => by go_simp; try (first | omega | (w_num; omega) | w_num | decide)) (fun _ => by simp [go_sem, *]) ?_; walk_nrm)
      q_skip
      q_skip
      (refine QuitsD.value (.bool false) rfl rfl (by k_ne) (fun _ => by go_simp; try (first | omega | (w_num; omega) | w_num | decide)) (fun _ => by simp [go_sem, *]) ?_; walk_nrm)
      (refine QuitsD.value (.bool false) rfl rfl (by k_ne) (fun _ => by go_simp; try (first | omega | (w_num; omega) | w_num | decide)) (fun _ => by simp [go_sem, *]) ?_; walk_nrm)
      q_skip
      q_skip
      q_skip
      q_skip
      (refine QuitsD.value (.bool false) rfl rfl (by k_ne) (fun _ => by go_simp; try (first | omega | (w_num; omega) | w_num | decide)) (fun _ => by simp [go_sem, *]) ?_; walk_nrm)
      q_c stepG_region_end
      q_cond false
      q_c stepG_skip
      q_c stepG_seq
      q_c stepG_seq
      q_reg
      (refine QuitsD.value (.int .i32 0) rfl rfl (by k_ne) (fun _ => by go_simp; try (first | omega | (w_num; omega) | w_num | decide)) (fun _ => by simp [go_sem, *]) ?_; walk_nrm)
      (refine QuitsD.value (.bool false) rfl rfl (by k_ne) (fun _ => by go_simp; try (first | omega | (w_num; omega) | w_num | decide)) (fun _ => by simp [go_sem, *]) ?_; walk_nrm)
      (refine QuitsD.value (.bool false) rfl rfl (by k_ne) (fun _ => by go_simp; try (first | omega | (w_num; omega) | w_num | decide)) (fun _ => by simp [go_sem, *]) ?_; walk_nrm)
      (refine QuitsD.value (.int .u32 0) rfl rfl (by k_ne) (fun _ => by go_simp; try (first | omega | (w_num; omega) | w_num | decide)) (fun _ => by simp [go_sem, *]) ?_; walk_nrm)
      (refine QuitsD.value (.bool true) rfl rfl (by k_ne) (fun _ => by go_simp; try (first | omega | (w_num; omega) | w_num | decide)) (fun _ => by simp [go_sem, *]) ?_; walk_nrm)
      (refine QuitsD.value (.bool true) rfl rfl (by k_ne) (fun _ => by go_simp; try (first | omega | (w_num; omega) | w_num | decide)) (fun _ => by simp [go_sem, *]) ?_; walk_nrm)
      q_c stepG_region_end
      q_cond true
      q_c stepG_ret'
      q_enable
      q_leave0 H.f_add
      exact hT
    · have eS : IntKind.u64.wrap (((v : Int) + 1) * KK + (wt : Int) + 18446744069414584320) = (v : Int) * KK + (wt : Int) := by rw [IntKind.wrap_u64]; simp only [KK]; omega
      obtain ⟨S, hS⟩ : ∃ S : Int, S = (v : Int) * KK + (wt : Int) := ⟨_, rfl⟩
      rw [← hS] at eS ⊢
      have a1 : S / 4294967296 = (v : Int) := by rw [hS]; simp only [KK]; omega
      have a2 : 0 ≤ S ∧ S < 9223372036854775808 := by rw [hS]; simp only [KK]; omega
      have b1 : bits .and .u64 S 2147483648 = 0 := by rw [hS]; have := st_flag v wt (by omega) hwt; simpa [KK] using this
      have b2 : bits .and .u64 S 2147483647 = (wt : Int) := by rw [hS]; have := st_waiters v wt (by omega) hwt; simpa [KK] using this
      refine ⟨_, (stepG_add_atomic rfl rfl (by k_ne) rfl H.f_addU64 (x_addU64_n L) (x_addU64_b L) (x_addU64_x L) .u64 (x_addU64_f L) rfl rfl hw.cellSt (hw.thaw 0)).trans (by rw [eS]; rfl), fun h => absurd h hl, fun _ => ⟨qt + 89, ?_⟩⟩
      clear hS hw eS
      rcases (by omega : wt = 0 ∨ wt = 1) with rfl | rfl
      · replace b2 : bits .and .u64 S 2147483647 = 0 := b2
        clear hl
        walk_nrm
        (refine QuitsD.value (.int .u64 S) rfl rfl (by k_ne) (fun _ => by go_simp; try (first | omega | (w_num; omega) | w_num | decide)) (fun _ => by simp [go_sem, *]) ?_; walk_nrm)
        q_c stepG_region_end
        q_c stepG_ret'
        q_leave1 H.f_uAdd
        (refine QuitsD.value (.int .u64 S) rfl rfl (by k_ne) (fun _ => by go_simp; try (first | omega | (w_num; omega) | w_num | decide)) (fun _ => by simp [go_sem, *]) ?_; walk_nrm)
        q_c stepG_region_end
        q_c stepG_seq
        q_c stepG_seq
        q_reg
        (refine QuitsD.value (.int .u64 S) rfl rfl (by k_ne) (fun _ => by go_simp; try (first | omega | (w_num; omega) | w_num | decide)) (fun _ => by simp [go_sem, *]) ?_; walk_nrm)
        (refine QuitsD.value (.int .u64 0) rfl rfl (by k_ne) (fun _ => by go_simp; try (first | omega | (w_num; omega) | w_num | decide)) (fun _ => by simp [go_sem, *]) ?_; walk_nrm)
        (refine QuitsD.value (.bool false) rfl rfl (by k_ne) (fun _ => by go_simp; try (first | omega | (w_num; omega) | w_num | decide)) (fun _ => by simp [go_sem, *]) ?_; walk_nrm)
        (refine QuitsD.value (.bool false) rfl rfl (by k_ne) (fun _ => by go_simp; try (first | omega | (w_num; omega) | w_num | decide)) (fun _ => by simp [go_sem, *]) ?_; walk_nrm)
        q_skip
        q_skip
        (refine QuitsD.value (.bool false) rfl rfl (by k_ne) (fun _ => by go_simp; try (first | omega | (w_num; omega) | w_num | decide)) (fun _ => by simp [go_sem, *]) ?_; walk_nrm)
        q_c stepG_region_end
        q_cond false
        q_c stepG_skip
        q_c stepG_seq
        q_reg
        (refine QuitsD.value (.int .u64 S) rfl rfl (by k_ne) (fun _ => by go_simp; try (first | omega | (w_num; omega) | w_num | decide)) (fun _ => by simp [go_sem, *]) ?_; walk_nrm)
        (refine QuitsD.value (.int .u64 (v : Int)) rfl rfl (by k_ne) (fun _ => by go_simp; try (first | omega | (w_num; omega) | w_num | decide)) (fun _ => by simp [go_sem, *]) ?_; walk_nrm)
        (refine QuitsD.value (.int .i32 (v : Int)) rfl rfl (by k_ne) (fun _ => by go_simp; try (first | omega | (w_num; omega) | w_num | decide)) (fun _ => by simp [go_sem, *]) ?_; walk_nrm)
        (refine QuitsD.value (.int .i32 (v : Int)) rfl rfl (by k_ne) (fun _ => by go_simp; try (first | omega | (w_num; omega) | w_num | decide)) (fun _ => by simp [go_sem, *]) ?_; walk_nrm)
        q_c stepG_region_end
        q_c stepG_seq
        q_reg
        (refine QuitsD.value (.int .u64 S) rfl rfl (by k_ne) (fun _ => by go_simp; try (first | omega | (w_num; omega) | w_num | decide)) (fun _ => by simp [go_sem, *]) ?_; walk_nrm)
        (refine QuitsD.value (.int .u64 0) rfl rfl (by k_ne) (fun _ => by go_simp; try (first | omega | (w_num; omega) | w_num | decide)) (fun _ => by simp [go_sem, *]) ?_; walk_nrm)
        (refine QuitsD.value (.int .u32 0) rfl rfl (by k_ne) (fun _ => by go_simp; try (first | omega | (w_num; omega) | w_num | decide)) (fun _ => by simp [go_sem, *]) ?_; walk_nrm)
        (refine QuitsD.value (.int .u32 0) rfl rfl (by k_ne) (fun _ => by go_simp; try (first | omega | (w_num; omega) | w_num | decide)) (fun _ => by simp [go_sem, *]) ?_; walk_nrm)
        q_c stepG_region_end
        q_c stepG_seq
        q_c stepG_seq
        q_reg
        (refine QuitsD.value (.bool true) rfl rfl (by k_ne) (fun _ => by go_simp; try (first | omega | (w_num; omega) | w_num | decide)) (fun _ => by simp [go_sem, *]) ?_; walk_nrm)
        (refine QuitsD.value (.int .i64 (-1)) rfl rfl (by k_ne) (fun _ => by go_simp; try (first | omega | (w_num; omega) | w_num | decide)) (fun _ => by simp [go_sem, *]) ?_; walk_nrm)
        (refine QuitsD.value (.bool false) rfl rfl (by k_ne) (fun _ => by go_simp; try (first | omega | (w_num; omega) | w_num | decide)) (fun _ => by simp [go_sem, *]) ?_; walk_nrm)
        (refine QuitsD.value (.bool false) rfl rfl (by k_ne) (fun _ => by go_simp; try (first | omega | (w_num; omega) | w_num | decide)) (fun _ => by simp [go_sem, *]) ?_; walk_nrm)
        (refine QuitsD.value (.bool false) rfl rfl (by k_ne) (fun _ => by go_simp; try (first | omega | (w_num; omega) | w_num | decide)) (fun _ => by simp [go_sem, *]) ?_; walk_nrm)
        q_skip
        q_skip
        q_skip
        q_skip
        (refine QuitsD.value (.bool false) rfl rfl (by k_ne) (fun _ => by go_simp; try (first | omega | (w_num; omega) | w_num | decide)) (fun _ => by simp [go_sem, *]) ?_; walk_nrm)
        q_c stepG_region_end
        q_cond false
        q_c stepG_skip
        q_c stepG_seq
        q_c stepG_seq
        q_reg
        (refine QuitsD.value (.int .i32 (v : Int)) rfl rfl (by k_ne) (fun _ => by go_simp; try (first | omega | (w_num; omega) | w_num | decide)) (fun _ => by simp [go_sem, *]) ?_; walk_nrm)
        (refine QuitsD.value (.bool false) rfl rfl (by k_ne) (fun _ => by go_simp; try (first | omega | (w_num; omega) | w_num | decide)) (fun _ => by simp [go_sem, *]) ?_; walk_nrm)
        q_c stepG_region_end
        q_cond false
        q_c stepG_skip
        q_c stepG_seq
        q_c stepG_seq
        q_reg
        (refine QuitsD.value (.int .u32 0) rfl rfl (by k_ne) (fun _ => by go_simp; try (first | omega | (w_num; omega) | w_num | decide)) (fun _ => by simp [go_sem, *]) ?_; walk_nrm)
        (refine QuitsD.value (.bool false) rfl rfl (by k_ne) (fun _ => by go_simp; try (first | omega | (w_num; omega) | w_num | decide)) (fun _ => by simp [go_sem, *]) ?_; walk_nrm)
        (refine QuitsD.value (.bool false) rfl rfl (by k_ne) (fun _ => by go_simp; try (first | omega | (w_num; omega) | w_num | decide)) (fun _ => by simp [go_sem, *]) ?_; walk_nrm)
        q_skip
        q_skip
        (refine QuitsD.value (.bool false) rfl rfl (by k_ne) (fun _ => by go_simp; try (first | omega | (w_num; omega) | w_num | decide)) (fun _ => by simp [go_sem, *]) ?_; walk_nrm)
        (refine QuitsD.value (.bool false) rfl rfl (by k_ne) (fun _ => by go_simp; try (first | omega | (w_num; omega) | w_num | decide)) (fun _ => by simp [go_sem, *]) ?_; walk_nrm)
        q_skip
        q_skip
        q_skip
        q_skip
        (refine QuitsD.value (.bool false) rfl rfl (by k_ne) (fun _ => by go_simp; try (first | omega | (w_num; omega) | w_num | decide)) (fun _ => by simp [go_sem, *]) ?_; walk_nrm)
        q_c stepG_region_end
        q_cond false
        q_c stepG_skip
        q_c stepG_seq
        q_c stepG_seq
        q_reg
        (refine QuitsD.value (.int .i32 (v : Int)) rfl rfl (by k_ne) (fun _ => by go_simp; try (first | omega | (w_num; omega) | w_num | decide)) (fun _ => by simp [go_sem, *]) ?_; walk_nrm)
        (refine QuitsD.value (.bool true) rfl rfl (by k_ne) (fun _ => by go_simp; try (first | omega | (w_num; omega) | w_num | decide)) (fun _ => by simp [go_sem, *]) ?_; walk_nrm)
        (refine QuitsD.value (.bool true) rfl rfl (by k_ne) (fun _ => by go_simp; try (first | omega | (w_num; omega) | w_num | decide)) (fun _ => by simp [go_sem, *]) ?_; walk_nrm)
        q_skip
        q_skip
        (refine QuitsD.value (.bool true) rfl rfl (by k_ne) (fun _ => by go_simp; try (first | omega | (w_num; omega) | w_num | decide)) (fun _ => by simp [go_sem, *]) ?_; walk_nrm)
        q_c stepG_region_end
        q_cond true
        q_c stepG_ret'
        q_enable
        q_leave0 H.f_add
        exact hT
      · replace b2 : bits .and .u64 S 2147483647 = 1 := b2
        clear hl
        walk_nrm
        (refine QuitsD.value (.int .u64 S) rfl rfl (by k_ne) (fun _ => by go_simp; try (first | omega | (w_num; omega) | w_num | decide)) (fun _ => by simp [go_sem, *]) ?_; walk_nrm)
        q_c stepG_region_end
        q_c stepG_ret'
        q_leave1 H.f_uAdd
        (refine QuitsD.value (.int .u64 S) rfl rfl (by k_ne) (fun _ => by go_simp; try (first | omega | (w_num; omega) | w_num | decide)) (fun _ => by simp [go_sem, *]) ?_; walk_nrm)
        q_c stepG_region_end
        q_c stepG_seq
        q_c stepG_seq
        q_reg
        (refine QuitsD.value (.int .u64 S) rfl rfl (by k_ne) (fun _ => by go_simp; try (first | omega | (w_num; omega) | w_num | decide)) (fun _ => by simp [go_sem, *]) ?_; walk_nrm)
        (refine QuitsD.value (.int .u64 0) rfl rfl (by k_ne) (fun _ => by go_simp; try (first | omega | (w_num; omega) | w_num | decide)) (fun _ => by simp [go_sem, *]) ?_; walk_nrm)
        (refine QuitsD.value (.bool false) rfl rfl (by k_ne) (fun _ => by go_simp; try (first | omega | (w_num; omega) | w_num | decide)) (fun _ => by simp [go_sem, *]) ?_; walk_nrm)
        (refine QuitsD.value (.bool false) rfl rfl (by k_ne) (fun _ => by go_simp; try (first | omega | (w_num; omega) | w_num | decide)) (fun _ => by simp [go_sem, *]) ?_; walk_nrm)
        q_skip
        q_skip
        (refine QuitsD.value (.bool false) rfl rfl (by k_ne) (fun _ => by go_simp; try (first | omega | (w_num; omega) | w_num | decide)) (fun _ => by simp [go_sem, *]) ?_; walk_nrm)
        q_c stepG_region_end
        q_cond false
        q_c stepG_skip
        q_c stepG_seq
        q_reg
        (refine QuitsD.value (.int .u64 S) rfl rfl (by k_ne) (fun _ => by go_simp; try (first | omega | (w_num; omega) | w_num | decide)) (fun _ => by simp [go_sem, *]) ?_; walk_nrm)
        (refine QuitsD.value (.int .u64 (v : Int)) rfl rfl (by k_ne) (fun _ => by go_simp; try (first | omega | (w_num; omega) | w_num | decide)) (fun _ => by simp [go_sem, *]) ?_; walk_nrm)
        (refine QuitsD.value (.int .i32 (v : Int)) rfl rfl (by k_ne) (fun _ => by go_simp; try (first | omega | (w_num; omega) | w_num | decide)) (fun _ => by simp [go_sem, *]) ?_; walk_nrm)
        (refine QuitsD.value (.int .i32 (v : Int)) rfl rfl (by k_ne) (fun _ => by go_simp; try (first | omega | (w_num; omega) | w_num | decide)) (fun _ => by simp [go_sem, *]) ?_; walk_nrm)
        q_c stepG_region_end
        q_c stepG_seq
        q_reg
        (refine QuitsD.value (.int .u64 S) rfl rfl (by k_ne) (fun _ => by go_simp; try (first | omega | (w_num; omega) | w_num | decide)) (fun _ => by simp [go_sem, *]) ?_; walk_nrm)
        (refine QuitsD.value (.int .u64 1) rfl rfl (by k_ne) (fun _ => by go_simp; try (first | omega | (w_num; omega) | w_num | decide)) (fun _ => by simp [go_sem, *]) ?_; walk_nrm)
        (refine QuitsD.value (.int .u32 1) rfl rfl (by k_ne) (fun _ => by go_simp; try (first | omega | (w_num; omega) | w_num | decide)) (fun _ => by simp [go_sem, *]) ?_; walk_nrm)
        (refine QuitsD.value (.int .u32 1) rfl rfl (by k_ne) (fun _ => by go_simp; try (first | omega | (w_num; omega) | w_num | decide)) (fun _ => by simp [go_sem, *]) ?_; walk_nrm)
        q_c stepG_region_end
        q_c stepG_seq
        q_c stepG_seq
        q_reg
        (refine QuitsD.value (.bool true) rfl rfl (by k_ne) (fun _ => by go_simp; try (first | omega | (w_num; omega) | w_num | decide)) (fun _ => by simp [go_sem, *]) ?_; walk_nrm)
        (refine QuitsD.value (.int .i64 (-1)) rfl rfl (by k_ne) (fun _ => by go_simp; try (first | omega | (w_num; omega) | w_num | decide)) (fun _ => by simp [go_sem, *]) ?_; walk_nrm)
        (refine QuitsD.value (.bool false) rfl rfl (by k_ne) (fun _ => by go_simp; try (first | omega | (w_num; omega) | w_num | decide)) (fun _ => by simp [go_sem, *]) ?_; walk_nrm)
        (refine QuitsD.value (.bool false) rfl rfl (by k_ne) (fun _ => by go_simp; try (first | omega | (w_num; omega) | w_num | decide)) (fun _ => by simp [go_sem, *]) ?_; walk_nrm)
        (refine QuitsD.value (.bool false) rfl rfl (by k_ne) (fun _ => by go_simp; try (first | omega | (w_num; omega) | w_num | decide)) (fun _ => by simp [go_sem, *]) ?_; walk_nrm)
        q_skip
        q_skip
        q_skip
        q_skip
        (refine QuitsD.value (.bool false) rfl rfl (by k_ne) (fun _ => by go_simp; try (first | omega | (w_num; omega) | w_num | decide)) (fun _ => by simp [go_sem, *]) ?_; walk_nrm)
        q_c stepG_region_end
        q_cond false
        q_c stepG_skip
        q_c stepG_seq
        q_c stepG_seq
        q_reg
        (refine QuitsD.value (.int .i32 (v : Int)) rfl rfl (by k_ne) (fun _ => by go_simp; try (first | omega | (w_num; omega) | w_num | decide)) (fun _ => by simp [go_sem, *]) ?_; walk_nrm)
        (refine QuitsD.value (.bool false) rfl rfl (by k_ne) (fun _ => by go_simp; try (first | omega | (w_num; omega) | w_num | decide)) (fun _ => by simp [go_sem, *]) ?_; walk_nrm)
        q_c stepG_region_end
        q_cond false
        q_c stepG_skip
        q_c stepG_seq
        q_c stepG_seq
        q_reg
        (refine QuitsD.value (.int .u32 1) rfl rfl (by k_ne) (fun _ => by go_simp; try (first | omega | (w_num; omega) | w_num | decide)) (fun _ => by simp [go_sem, *]) ?_; walk_nrm)
        (refine QuitsD.value (.bool true) rfl rfl (by k_ne) (fun _ => by go_simp; try (first | omega | (w_num; omega) | w_num | decide)) (fun _ => by simp [go_sem, *]) ?_; walk_nrm)
        (refine QuitsD.value (.bool true) rfl rfl (by k_ne) (fun _ => by go_simp; try (first | omega | (w_num; omega) | w_num | decide)) (fun _ => by simp [go_sem, *]) ?_; walk_nrm)
        (refine QuitsD.value (.int .i64 (-1)) rfl rfl (by k_ne) (fun _ => by go_simp; try (first | omega | (w_num; omega) | w_num | decide)) (fun _ => by simp [go_sem, *]) ?_; walk_nrm)
        (refine QuitsD.value (.bool false) rfl rfl (by k_ne) (fun _ => by go_simp; try (first | omega | (w_num; omega) | w_num | decide)) (fun _ => by simp [go_sem, *]) ?_; walk_nrm)
        (refine QuitsD.value (.bool false) rfl rfl (by k_ne) (fun _ => by go_simp; try (first | omega | (w_num; omega) | w_num | decide)) (fun _ => by simp [go_sem, *]) ?_; walk_nrm)
        (refine QuitsD.value (.bool false) rfl rfl (by k_ne) (fun _ => by go_simp; try (first | omega | (w_num; omega) | w_num | decide)) (fun _ => by simp [go_sem, *]) ?_; walk_nrm)
        q_skip
        q_skip
        q_skip
        q_skip
        (refine QuitsD.value (.bool false) rfl rfl (by k_ne) (fun _ => by go_simp; try (first | omega | (w_num; omega) | w_num | decide)) (fun _ => by simp [go_sem, *]) ?_; walk_nrm)
        q_c stepG_region_end
        q_cond false
        q_c stepG_skip
        q_c stepG_seq
        q_c stepG_seq
        q_reg
        (refine QuitsD.value (.int .i32 (v : Int)) rfl rfl (by k_ne) (fun _ => by go_simp; try (first | omega | (w_num; omega) | w_num | decide)) (fun _ => by simp [go_sem, *]) ?_; walk_nrm)
        (refine QuitsD.value (.bool true) rfl rfl (by k_ne) (fun _ => by go_simp; try (first | omega | (w_num; omega) | w_num | decide)) (fun _ => by simp [go_sem, *]) ?_; walk_nrm)
        (refine QuitsD.value (.bool true) rfl rfl (by k_ne) (fun _ => by go_simp; try (first | omega | (w_num; omega) | w_num | decide)) (fun _ => by simp [go_sem, *]) ?_; walk_nrm)
        q_skip
        q_skip
        (refine QuitsD.value (.bool true) rfl rfl (by k_ne) (fun _ => by go_simp; try (first | omega | (w_num; omega) | w_num | decide)) (fun _ => by simp [go_sem, *]) ?_; walk_nrm)
        q_c stepG_region_end
        q_cond true
        q_c stepG_ret'
        q_enable
        q_leave0 H.f_add
        exact hT
/-- Done, entered as a deferred call. -/
theorem doneX (H : WgLib P L) {c : Frame} {cs : List Frame} {qt : Nat} (hcm : c.mode = .returning) (hT : QuitsD P qt 0 (G c cs)) (w : World) (hF : WgLive L.tWg Wg w) :
    Goes P false (RWk L.tWg Wg K) DC0 (WR0 P L.tWg Wg K) 303 (G ((baseD L.done).at ⟨#[.pointer (some ⟨Wg, 0, none⟩), undef, undef, undef], []⟩ [.code (body_done L)]) (c :: cs)) w := by
  lib_facts
  have hA := @addNegX P L Wg K
  simp only [body_done, body_add, doneFn, addFn, Option.getD_some] at hA ⊢
  u_reg rwl hF
  u_op rwl hF
  u_in rwl hF
  refine goes_call rfl rfl (by k_ne) rfl H.f_add (nm_add L) rfl ⟨by u_nil, ?_⟩
  walk_nrmf addFn
  refine hA H (qt := qt + 3) ?_ _ hF
  q_c stepG_region_end
  q_c stepG_end
  exact QuitsD.leaveD rfl rfl H.f_done rfl hcm hT
end
end Go.Proofs.Ytmllcfkgkkbkpaa
