/-
  Chapter 9, texts merged: CreateD, SyncNames, RemoveD, StepsP, RenameD, UsedD, Keep, AppendD, CloneB, PlLaw, PlFit.
-/
import Derived.Test.YtnhfnfdmpcpcoaaDoorM9b
import Derived.Test.YtnhfnfdmpcpcoaaDoorOwn
import Derived.Deep.LoopGhost
import Derived.Deep.RegionHeld3

/-
  Create: a new file.
-/
namespace Go.Proofs.YtnhfnfdmpcpcoaaDoor
open Go.RowKit Go.Maps

/-- what the walks ask of a disk's sizes -/
structure FitP (A : Pl) : Prop where
  steps : A.steps ≤ 1000000
  pend : A.pend.length ≤ 1000000
  now : A.now.length ≤ 4000000000000
  safe : A.safe.length ≤ 4000000000000
  files : A.files.length ≤ 4000000000000
  fails : A.fails.length ≤ 17592186043904
  used : usedP A ≤ 140737488351232
  room : A.room ≤ 1073741824
def StepPost (w : World) (P : Nat → Prop) (dd : Nat) (A : Pl) (o : Opp) : Ending → World → Prop := fun e w' =>
  e = .returned (.int .i64 (doP A o).2) ∧ (∃ P', DiskP w' P' dd (doP A o).1 ∧ ∀ g, P' g → P g ∨ w.heap.size ≤ g) ∧ Only P w w'

theorem abs_add {S : DiskC} (f : FileC) (hnow : ∀ x ∈ S.now, HasFile S x.2) (hsafe : ∀ x ∈ S.safe, HasFile S x.2) (hpend : ∀ c ∈ S.pend, ChgFile S c) :
    absD { S with files := S.files ++ [f] } = { absD S with files := (absD S).files ++ [(f.data, f.firm)] } := by
  unfold absD
  simp only [Pl.mk.injEq, List.map_append, List.map_cons, List.map_nil, and_true]
  refine ⟨mapN_congr fun x hx => noF_app _ _ _ (hnow x hx), mapN_congr fun x hx => noF_app _ _ _ (hsafe x hx), List.map_congr_left fun c hc => ?_⟩
  have := hpend c hc
  cases c with
  | put k g => show Chg.put _ _ = Chg.put _ _; rw [noF_app _ _ _ this]
  | ren a k g => show Chg.ren _ _ _ = Chg.ren _ _ _; rw [noF_app _ _ _ this]
  | del k => rfl
theorem DiskAt.pendF {w : World} {P : Nat → Prop} {dd : Nat} {S : DiskC} (h : DiskAt w P dd S) : ∀ c ∈ S.pend, ChgFile S c := by
  intro c hc
  obtain ⟨i, hi, e⟩ := List.getElem_of_mem hc
  have hl : S.pvals.length = S.pend.length := by have := h.row.1; omega
  exact (h.chg i (S.pvals[i]'(by omega)) c (List.getElem?_eq_getElem (by omega)) (by rw [List.getElem?_eq_getElem hi, e])).2
theorem abs_chg (S : DiskC) (c : Chg) (pv : Value) (vs : List Value) : absD { S with now := applyC c S.now, pend := S.pend ++ [c], pvals := vs, pv := pv } = { absD S with now := applyC (mapC (noF S.files) c) (absD S).now, pend := (absD S).pend ++ [mapC (noF S.files) c] } := by
  unfold absD
  simp only [Pl.mk.injEq, List.map_append, List.map_cons, List.map_nil, and_true]
  exact (applyC_map _ c S.now).symm

theorem tick_rest (A : Pl) : (tickP A).now = A.now ∧ (tickP A).pend = A.pend ∧ (tickP A).files = A.files ∧ (tickP A).safe = A.safe ∧ (tickP A).room = A.room ∧ (tickP A).fails = A.fails ∧ (tickP A).power = A.power := by
  unfold tickP
  split <;> exact ⟨rfl, rfl, rfl, rfl, rfl, rfl, rfl⟩
set_option maxHeartbeats 1000000 in
theorem create_mid {w1 w4 : World} {P : Nat → Prop} {dd : Nat} {S : DiskC} (h1 : DiskAt w1 P dd (beginS S)) (nm : ByteArray) (hnm : nm.size ≤ 140737488351232) (q bx : Nat)
    (hw4 : w4 = ((((w1.drewN q).alloc (.cells #[.int .i64 S.files.length, .slice none 0 0, .int .i64 0] 81)).setCell ⟨dd, 3, none⟩ (.int .i64 ((S.files.length : Int) + 1))).alloc (.cells #[.pointer (some ⟨w1.heap.size, 0, none⟩)] 75)))
    (hbx1 : w1.heap[bx]? = some (.cells #[.string nm] 9 (0, 0))) (hn : S.now.length ≤ 4000000000000) (hp : S.pend.length ≤ 1000000) :
    Calls Tryd.prog 43 #[.pointer (some ⟨dd, 0, none⟩), .func (.func 44) #[] #[.pointer (some ⟨w1.heap.size + 1, 0, none⟩), .pointer (some ⟨bx, 0, none⟩)]] w4 fun e w' => e = .returned (.int .i64 0) ∧
      (∃ P', DiskP w' P' dd { chgP (absD S) (.put nm.data.toList (absD S).files.length) with files := (absD S).files ++ [([], 0)] } ∧ ∀ g, P' g → P g ∨ w1.heap.size ≤ g) ∧ Only P w1 w' := by
  obtain ⟨wa, hwa⟩ : ∃ W0, W0 = (w1.drewN q).alloc (.cells #[.int .i64 S.files.length, .slice none 0 0, .int .i64 0] 81) := ⟨_, rfl⟩
  obtain ⟨wb, hwb⟩ : ∃ W0, W0 = wa.setCell ⟨dd, 3, none⟩ (.int .i64 ((S.files.length : Int) + 1)) := ⟨_, rfl⟩
  rw [← hwa, ← hwb] at hw4
  have hr := beginS_rest S
  have hdd1 : dd < w1.heap.size := lt_of_heap h1.blk
  have sza : wa.heap.size = w1.heap.size + 1 := by rw [hwa]; simp
  have szb : wb.heap.size = w1.heap.size + 1 := by rw [hwb]; simp only [World.setCell]; simp; exact sza
  have sz4 : w4.heap.size = w1.heap.size + 2 := by rw [hw4]; simp; omega
  have e4 : ∀ g, g < wb.heap.size → w4.heap[g]? = wb.heap[g]? := fun g hg => by rw [hw4]; exact heap_alloc_old _ _ hg
  have eb : ∀ g, g ≠ dd → wb.heap[g]? = wa.heap[g]? := fun g hg => by rw [hwb]; exact Below.heap_setCell _ _ _ _ hg
  have ea : ∀ g, g < w1.heap.size → wa.heap[g]? = w1.heap[g]? := fun g hg => by rw [hwa]; exact heap_alloc_old (w1.drewN q) _ hg
  have hfile : w4.heap[w1.heap.size]? = some (.cells #[.int .i64 S.files.length, .slice none 0 0, .int .i64 0] 81 (0, 0)) := by
    rw [e4 _ (by omega), eb _ (by omega), hwa]
    exact heap_alloc_new (w1.drewN q) _
  have hptr : w4.heap[w1.heap.size + 1]? = some (.cells #[.pointer (some ⟨w1.heap.size, 0, none⟩)] 75 (0, 0)) := by
    have := heap_alloc_new wb (.cells #[.pointer (some ⟨w1.heap.size, 0, none⟩)] 75)
    rw [szb] at this
    rw [hw4]; exact this
  have hother : ∀ g, g < w1.heap.size → g ≠ dd → w4.heap[g]? = w1.heap[g]? := fun g hg hne => ((e4 g (by omega)).trans (eb g hne)).trans (ea g hg)
  have hblk : w4.heap[dd]? = some (.cells (diskCells { beginS S with files := (beginS S).files ++ [⟨w1.heap.size, .slice none 0 0, [], 0⟩] }) 79 (0, 0)) := by
    rw [e4 _ (by omega), hwb]
    simp only [World.setCell, Array.getElem?_modify, (ea dd hdd1).trans h1.blk]
    simp [diskCells, hr.2.2.1]
  have h4 := h1.addFile ⟨w1.heap.size, .slice none 0 0, [], 0⟩ (w' := w4) (fun g hg hne _ => hother g hg hne) hblk (by rw [hr.2.2.1]; exact hfile) (World.ownsRow_nil _ _ _ _) (Nat.le_refl _) (fun r e => by cases e) (Nat.le_refl _)
  have hbxl : bx < w1.heap.size := lt_of_heap hbx1
  have hchg : IsChg w4 (.func (.func 44) #[] #[.pointer (some ⟨w1.heap.size + 1, 0, none⟩), .pointer (some ⟨bx, 0, none⟩)]) (.put nm.data.toList w1.heap.size) :=
    ⟨w1.heap.size + 1, bx, nm, rfl, by unfold maxLen; omega, rfl, hptr, (hother bx hbxl (blk_ne hbx1 h1.blk (by decide))).trans hbx1⟩
  have hfresh : ∀ f ∈ (beginS S).files, f.blk ≠ w1.heap.size := fun f hf e => by
    obtain ⟨j, hj, e2⟩ := List.getElem_of_mem hf
    have := lt_of_heap (h1.files j f (by rw [List.getElem?_eq_getElem hj, e2])).1
    omega
  refine (alter_any h4 _ _ hchg (hasFile_new ⟨w1.heap.size, .slice none 0 0, [], 0⟩) (by rw [(beginS_now S).1]; exact hn) (by show (beginS S).pend.length ≤ _; rw [hr.2.1]; exact hp)).mono ?_
  rintro e w5 ⟨rfl, ⟨pv', P', h5, hP'⟩, ho5⟩
  refine ⟨rfl, ⟨P', ⟨_, h5, ?_⟩, fun g hg => ?_⟩, ?_⟩
  · have ea := abs_add (S := beginS S) ⟨w1.heap.size, .slice none 0 0, [], 0⟩ h1.nowF h1.safeF h1.pendF
    have ec := abs_chg { beginS S with files := (beginS S).files ++ [⟨w1.heap.size, .slice none 0 0, [], 0⟩] } (.put nm.data.toList w1.heap.size) pv' ((beginS S).pvals ++ [.func (.func 44) #[] #[.pointer (some ⟨w1.heap.size + 1, 0, none⟩), .pointer (some ⟨bx, 0, none⟩)]])
    have en : noF ((beginS S).files ++ [⟨w1.heap.size, .slice none 0 0, [], 0⟩]) w1.heap.size = (absD S).files.length := by
      have := noF_new ⟨w1.heap.size, .slice none 0 0, [], 0⟩ (beginS S).files hfresh
      rw [this, hr.2.2.1]; unfold absD; simp
    refine ec.trans ?_
    rw [ea, ← abs_tick]
    have ht := tick_rest (absD S)
    unfold chgP mapC
    simp only [ht.1, ht.2.1, ht.2.2.1, en]
  · rcases hP' g hg with hg | hg
    · rcases hg with hg | hg | hg
      · exact .inl hg
      · exact .inr (by rw [hg]; exact Nat.le_refl _)
      · cases hg
    · exact .inr (by omega)
  · refine ⟨ho5.os.trans (by rw [hw4, hwb, hwa]; rfl), ho5.tape.trans (by rw [hw4, hwb, hwa]; rfl), ho5.output.trans (by rw [hw4, hwb, hwa]; rfl), by have := ho5.size; omega, fun k hk hnk => ?_⟩
    exact (ho5.block k (by omega) (fun e => by
      rcases e with e | e | e
      · exact hnk e
      · simp only at e; omega
      · cases e)).trans (hother k hk (fun e => hnk (by rw [e]; exact h1.inP.1)))

set_option maxHeartbeats 4000000 in
set_option maxRecDepth 100000 in
theorem create_p {w : World} {P : Nat → Prop} {dd : Nat} {A : Pl} (h : DiskP w P dd A) (nm : ByteArray) (hnm : nm.size ≤ 140737488351232) (hfit : FitP A) :
    Calls Tryd.prog 12 #[.pointer (some ⟨dd, 0, none⟩), .string nm] w (StepPost w P dd A (.create nm.data.toList)) := by
  obtain ⟨S, h, rfl⟩ := h
  obtain ⟨f1, f2, f3, f4, f5, f6, f7, f8⟩ := hfit
  obtain ⟨wa, hwa⟩ : ∃ W0, W0 = (w.alloc (.cells #[.string nm] 9)).alloc (.cells #[.string nm] 9) := ⟨_, rfl⟩
  have hba : Below w.heap.size w wa := by rw [hwa]; exact ((Below.refl _ w).alloc (Nat.le_refl _) _).alloc (by simp) _
  have hq : InS wa (some ⟨w.heap.size + 1, 0, none⟩) [nm.data.toList] := by
    rw [hwa]
    have := InS.one (w.alloc (.cells #[.string nm] 9)) nm
    simpa using this
  have hbeg := begin_any (h.below hba) [nm.data.toList] (some ⟨w.heap.size + 1, 0, none⟩) 1 1 rfl (by omega) (fun x hx => by rw [List.mem_singleton.1 hx, size_list]; exact hnm) hq f1 f6
  rw [hwa] at hbeg
  have HWA := Lib.hid hwa
  clear hq hwa hba
  have hD : doP (absD S) (.create nm.data.toList) = if beginE S [nm.data.toList] ≠ 0 then (tickP (absD S), beginE S [nm.data.toList]) else if lookN (absD S).now nm.data.toList ≠ none then (tickP (absD S), 91) else ({ chgP (absD S) (.put nm.data.toList (absD S).files.length) with files := (absD S).files ++ [([], 0)] }, 0) := rfl
  obtain ⟨en, hen⟩ : ∃ en, en = beginE S [nm.data.toList] := ⟨_, rfl⟩
  rw [← hen] at hbeg hD
  have HD := Lib.hid hD
  clear hen hD
  have hsub : ∀ w', Only (fun g => g = dd) ((w.alloc (.cells #[.string nm] 9)).alloc (.cells #[.string nm] 9)) w' → Only P w w' := fun w' ho =>
    have hz := ho.size
    ⟨ho.os, ho.tape, ho.output, by simp at hz; omega, fun k hk hnk => ((ho.block k (by simp; omega) (fun e => hnk (by rw [e]; exact h.inP.1))).trans (heap_alloc_old _ _ (by simp; omega))).trans (heap_alloc_old _ _ hk)⟩
  go_enter Tryd.func12, Tryd.ntmps12
  go_wp2_with fail
  refine hbeg.mono ?_
  rintro e w1 ⟨rfl, h1, ho1⟩
  clear hbeg
  by_cases hz : en = 0
  · subst hz
    have c0 : w1.cell? ⟨dd, 0, none⟩ = some (.map (some S.bn)) := by
      have := h1.cell 0
      rw [this]
      unfold diskCells
      rw [(beginS_now S).2]; rfl
    have hmap : OwnN w1 S.bn S.now := by
      have := h1.now
      rwa [(beginS_now S).1, (beginS_now S).2] at this
    have hbx := heap_alloc_new w (.cells #[.string nm] 9)
    have hdd : dd < w.heap.size := lt_of_heap h.blk
    have hbx1 : w1.heap[w.heap.size]? = some (.cells #[.string nm] 9 (0, 0)) := by
      have := ho1.block w.heap.size (by simp; omega) (by omega)
      rw [this]
      exact heap_alloc_old _ _ (lt_of_heap hbx) |>.trans hbx
    have cbx : w1.cell? ⟨w.heap.size, 0, none⟩ = some (.string nm) := by rw [cell_of_row _ _ _ _ _ _ hbx1]; rfl
    have hrun := fun m => run_lookF (hmap.below (bdrewN (Below.refl _ w1) m)) nm (by unfold maxLen; omega)
    have hmf : ∀ (fn : Fn) (first cap : Array Value) (w : World), (Instr.makeFunc fn first cap).run Tryd.prog w = .ok (.func fn first cap) w := fun _ _ _ _ => rfl
    cases hl : lookN S.now nm.data.toList with
    | some g =>
      rw [hl] at hrun
      unfold fileV at hrun
      have HR := Lib.hid (show doP (absD S) (.create nm.data.toList) = (tickP (absD S), 91) by rw [HD.out, if_neg (by simp), if_pos (by rw [abs_look, hl]; simp)])
      have HO := Lib.hid (hsub _ ho1)
      clear hl ho1 hsub
      go_wp2_with fail
      go_quiet (fail)
      go_wp2_with fail
      go_ret
      exact ⟨by rw [HR.out]; rfl, ⟨P, ⟨_, h1.below (bdrewN (Below.refl _ _) _), by rw [HR.out, abs_tick]⟩, fun g hg => .inl hg⟩, HO.out.drewN _⟩
    | none =>
      have HR := Lib.hid (show doP (absD S) (.create nm.data.toList) = ({ chgP (absD S) (.put nm.data.toList (absD S).files.length) with files := (absD S).files ++ [([], 0)] }, 0) by rw [HD.out, if_neg (by simp), if_neg (by rw [abs_look, hl]; simp)])
      have HO := Lib.hid (hsub _ ho1)
      have c3 : w1.cell? ⟨dd, 3, none⟩ = some (.int .i64 S.files.length) := by rw [h1.cell 3]; show some (Value.int .i64 ((beginS S).files.length : Int)) = _; rw [(beginS_rest S).2.2.1]
      have hdd1 : dd < w1.heap.size := lt_of_heap h1.blk
      have hnl : S.now.length ≤ 4000000000000 := by
        have e : (absD S).now.length = S.now.length := by show (mapN _ _).length = _; unfold mapN; simp
        omega

      have hpl : S.pend.length ≤ 1000000 := by
        have e : (absD S).pend.length = S.pend.length := by unfold absD; simp
        omega
      have hfl : S.files.length ≤ 4000000000000 := by
        have e : (absD S).files.length = S.files.length := by unfold absD; simp
        omega
      have hblkN : ∀ (m : Nat) (o1 o2 : Obj), (((w1.drewN m).alloc o1).alloc o2).heap[dd]? = some (.cells (diskCells (beginS S)) 79 (0, 0)) := fun m o1 o2 => (heap_alloc_old _ _ (by simp; omega)).trans ((heap_alloc_old _ _ hdd1).trans h1.blk)
      have c3' : ∀ (m : Nat) (o1 o2 : Obj), (((w1.drewN m).alloc o1).alloc o2).cell? ⟨dd, 3, none⟩ = some (.int .i64 S.files.length) := fun m o1 o2 => by
        rw [cell_of_row _ _ _ _ _ _ (hblkN m o1 o2)]; show some (Value.int .i64 ((beginS S).files.length : Int)) = _; rw [(beginS_rest S).2.2.1]
      have f3' : ∀ (m : Nat) (o1 o2 : Obj), (((w1.drewN m).alloc o1).alloc o2).frozen? ⟨dd, 3, none⟩ = false := fun m o1 o2 => frozen_of_row _ dd 3 _ _ (hblkN m o1 o2)
      have HBN := Lib.hid hblkN
      clear hblkN
      rw [hl] at hrun
      unfold fileV at hrun
      clear hl ho1 hsub
      go_wp2_with fail
      go_quiet (fail)
      have HWR := Lib.hid (show wrap64 ((S.files.length : Int) + 1) = (S.files.length : Int) + 1 from IntWalk.wrap64_in _ ⟨by omega, by omega⟩)
      clear hfl
      go_wp2_with fail
      rw [HWR.out]
      obtain ⟨w4, hw4⟩ : ∃ W0, W0 = ((((w1.drewN nq).alloc (.cells #[.int .i64 S.files.length, .slice none 0 0, .int .i64 0] 81)).setCell ⟨dd, 3, none⟩ (.int .i64 ((S.files.length : Int) + 1))).alloc (.cells #[.pointer (some ⟨w1.heap.size, 0, none⟩)] 75)) := ⟨_, rfl⟩
      rw [← hw4]
      have hmid := create_mid h1 nm hnm nq w.heap.size hw4 hbx1 hnl hpl
      refine hmid.mono ?_
      rintro e w5 ⟨rfl, ⟨P', h5, hP'⟩, ho5⟩
      clear hmid
      go_wp2_with fail
      go_ret
      have ho := HO.out
      exact ⟨by rw [HR.out]; rfl, ⟨P', by rw [HR.out]; exact h5, fun g hg => (hP' g hg).imp id (fun e => Nat.le_trans ho.size e)⟩, ⟨ho5.os.trans ho.os, ho5.tape.trans ho.tape, ho5.output.trans ho.output, Nat.le_trans ho.size ho5.size, fun k hk hnk => (ho5.block k (Nat.lt_of_lt_of_le hk ho.size) hnk).trans (ho.block k hk hnk)⟩⟩
  · have hz2 : (en == 0) = false := beq_eq_false_iff_ne.2 hz
    have hz3 : (en != 0) = true := by simp [bne, hz2]
    have HR := Lib.hid (show doP (absD S) (.create nm.data.toList) = (tickP (absD S), en) by rw [HD.out, if_pos hz])
    have HO := Lib.hid (hsub _ ho1)
    clear ho1 hsub
    go_wp2_with fail
    go_ret
    exact ⟨by rw [HR.out]; rfl, ⟨P, ⟨_, h1, by rw [HR.out, abs_tick]⟩, fun g hg => .inl hg⟩, HO.out⟩
end Go.Proofs.YtnhfnfdmpcpcoaaDoor

/-
  SyncNames: the names are safe.
-/
namespace Go.Proofs.YtnhfnfdmpcpcoaaDoor
open Go.RowKit Go.Maps

def syncNamesS (S : DiskC) (b : Nat) : DiskC := if beginE S [] = 0 then { beginS S with bs := b, safe := S.now, pv := .slice none 0 0, pend := [], pvals := [] } else beginS S

set_option maxHeartbeats 4000000 in
theorem syncNames_any {w : World} {P : Nat → Prop} {dd : Nat} {S : DiskC} (h : DiskAt w P dd S) (hst : S.steps ≤ 1000000) (hfl : S.fails.length ≤ 17592186043904) :
    Calls Tryd.prog 16 #[.pointer (some ⟨dd, 0, none⟩)] w fun e w' => e = .returned (.int .i64 (beginE S [])) ∧ (∃ b P', DiskAt w' P' dd (syncNamesS S b) ∧ ∀ g, P' g → P g ∨ w.heap.size ≤ g) ∧ Only P w w' := by
  have hbeg := begin_any h [] none 0 0 rfl (by omega) (by simp) (fun h0 => absurd h0 (by simp [tx])) hst hfl
  obtain ⟨en, hen⟩ : ∃ en, en = beginE S [] := ⟨_, rfl⟩
  have hS0 : ∀ b, syncNamesS S b = if en = 0 then { beginS S with bs := b, safe := S.now, pv := .slice none 0 0, pend := [], pvals := [] } else beginS S := fun b => by rw [hen]; rfl
  rw [← hen] at hbeg ⊢
  have HS0 := Lib.hid hS0
  have hsub : ∀ w', Only (fun g => g = dd) w w' → Only P w w' := fun w' ho => ⟨ho.os, ho.tape, ho.output, ho.size, fun k hk hne => ho.block k hk (fun e => hne (by rw [e]; exact h.inP.1))⟩
  have HSUB := Lib.hid hsub
  clear hen hsub hS0
  by_cases hz : en = 0
  · subst hz
    have HS1 := Lib.hid (fun b => (HS0.out b).trans (if_pos rfl))
    go_enter Tryd.func16, Tryd.ntmps16
    go_wp2_with fail
    refine hbeg.mono ?_
    rintro e w1 ⟨rfl, h1, ho1⟩
    clear hbeg
    have c0 : w1.cell? ⟨dd, 0, none⟩ = some (.map (some S.bn)) := by
      have := h1.cell 0
      rw [this]
      unfold diskCells
      rw [(beginS_now S).2]; rfl
    have hmap : OwnN w1 S.bn S.now := by
      have := h1.now
      rwa [(beginS_now S).1, (beginS_now S).2] at this
    have hcl := cloneF_any hmap
    go_wp2_with fail
    refine hcl.mono ?_
    rintro e w2 ⟨rfl, hmap2, hb2⟩
    clear hcl
    have h2 := h1.below hb2
    have c1 : w2.cell? ⟨dd, 1, none⟩ = some (.map (some (beginS S).bs)) := h2.cell 1
    have c2 : w2.cell? ⟨dd, 2, none⟩ = some (beginS S).pv := h2.cell 2
    have hfz := fun i => h2.unfrozen i
    go_wp2_with fail
    go_ret
    obtain ⟨w3, hw3⟩ : ∃ W0, W0 = (w2.setCell ⟨dd, 1, none⟩ (.map (some w1.heap.size))).setCell ⟨dd, 2, none⟩ (.slice none 0 0) := ⟨_, rfl⟩
    rw [← hw3]
    have hblk : w3.heap[dd]? = some (.cells (diskCells { beginS S with bs := w1.heap.size, safe := S.now, pv := .slice none 0 0, pend := [], pvals := [] }) 79 (0, 0)) := by
      rw [hw3]
      simp only [World.setCell, Array.getElem?_modify, h2.blk]
      simp [diskCells]
    have hE : Else w2 w3 dd := fun g hg => by
      rw [hw3]
      exact (Below.heap_setCell _ _ _ _ hg).trans (Below.heap_setCell _ _ _ _ hg)
    have hT : Typed w2 w3 := fun g cs T fr hg t1 _ => (hE g (blk_ne hg h2.blk t1)).trans hg
    have hlt := hmap.lt
    have hdd : dd < w1.heap.size := lt_of_heap h1.blk
    have hs2 := hb2.size
    have hnow2 : OwnN w3 S.bn S.now := (hmap.below hb2).kept (hE _ (map_ne (hmap.below hb2) h2.blk))
    have hsafe2 : OwnN w3 w1.heap.size S.now := hmap2.kept (hE _ (map_ne hmap2 h2.blk))
    have hbn := beginS_now S
    have hd : DiskAt w3 (fun g => P g ∨ g = w1.heap.size) dd { beginS S with bs := w1.heap.size, safe := S.now, pv := .slice none 0 0, pend := [], pvals := [] } := by
      refine h1.turn ((Typed.below hb2).trans hT) hblk rfl ⟨rfl, rfl, rfl, rfl⟩ (fun a ha h0 => (hE _ (fun e => h1.fails.2.2 a ha h0 (by rw [e]; exact h1.inP.1))).trans (by
        obtain ⟨b, o, e, hc⟩ := h1.fails.2.1 (by simpa using h0)
        have hlt2 := World.block_lt_of_cell? w1 _ (hc 0 (by simpa using h0))
        rw [e] at ha
        injection ha with ha
        subst ha
        exact hb2.block _ hlt2)) ?_ hsafe2 ?_ (World.ownsRow_nil _ _ _ _) ?_ h2.nowF ?_ (fun g hg => .inl hg) ?_ ⟨.inl h2.inP.2.1, .inr rfl, fun r hr => by cases hr⟩
      · show OwnN w3 (beginS S).bn (beginS S).now
        rw [hbn.1, hbn.2]; exact hnow2
      · show (beginS S).bn ≠ w1.heap.size
        rw [hbn.2]; omega
      · intro i v c h1
        simp at h1
      · intro x hx
        exact h2.nowF x (by rw [hbn.1]; exact hx)
      · intro g hg
        rcases hg with hg | hg
        · exact .inl hg
        · exact .inr (by omega)
    have ho := HSUB.out _ ho1
    have ho3 : Only P w w3 := by
      refine ⟨?_, ?_, ?_, ?_, fun k hk hnk => ?_⟩
      · rw [hw3]; exact hb2.os.trans ho.os
      · rw [hw3]; exact hb2.tape.trans ho.tape
      · rw [hw3]; exact hb2.output.trans ho.output
      · rw [hw3]; simp only [World.setCell]; simp; have := ho.size; omega
      · have hk1 : k < w1.heap.size := Nat.lt_of_lt_of_le hk ho.size
        exact ((hE k (fun e => hnk (by rw [e]; exact h.inP.1))).trans (hb2.block k hk1)).trans (ho.block k hk hnk)
    refine ⟨rfl, ⟨w1.heap.size, _, by rw [HS1.out]; exact hd, fun g hg => ?_⟩, ho3⟩
    rcases hg with hg | hg
    · exact .inl hg
    · exact .inr (by rw [hg]; exact ho.size)
  · have hz2 : (en == 0) = false := beq_eq_false_iff_ne.2 hz
    go_enter Tryd.func16, Tryd.ntmps16
    go_wp2_with fail
    refine hbeg.mono ?_
    rintro e w1 ⟨rfl, h1, ho1⟩
    clear hbeg
    go_wp2_with fail
    go_ret
    exact ⟨rfl, ⟨0, P, by rw [HS0.out, if_neg hz]; exact h1, fun _ hg => .inl hg⟩, HSUB.out _ ho1⟩
end Go.Proofs.YtnhfnfdmpcpcoaaDoor

/-
  Remove: a name is taken away.
-/
namespace Go.Proofs.YtnhfnfdmpcpcoaaDoor
open Go.RowKit Go.Maps

theorem onE_none (S : DiskC) (L : List (List UInt8)) (k : List UInt8) (h : onE S L k = 0) : ∃ g, onF S L k = some g ∧ lookN S.now k = some g := by
  unfold onE at h
  unfold onF
  by_cases h1 : beginE S (L ++ [k]) ≠ 0
  · rw [if_pos h1] at h; exact absurd h h1
  · rw [if_neg h1] at h ⊢
    cases hl : lookN S.now k with
    | none => rw [hl] at h; simp at h
    | some g => exact ⟨g, rfl, rfl⟩

set_option maxHeartbeats 4000000 in
set_option maxRecDepth 100000 in
theorem remove_any {w : World} {P : Nat → Prop} {dd : Nat} {S : DiskC} (h : DiskAt w P dd S) (nm : ByteArray) (hnm : nm.size ≤ 140737488351232) (hst : S.steps ≤ 1000000) (hfl : S.fails.length ≤ 17592186043904) (hl : S.now.length ≤ 4000000000000) (hp : S.pend.length ≤ 1000000) :
    Calls Tryd.prog 53 #[.pointer (some ⟨dd, 0, none⟩), .string nm] w fun e w' => e = .returned (.int .i64 (onE S [] nm.data.toList)) ∧
      (∃ P', (∀ g, P' g → P g ∨ w.heap.size ≤ g) ∧ ((onE S [] nm.data.toList ≠ 0 ∧ DiskAt w' P' dd (beginS S)) ∨ (onE S [] nm.data.toList = 0 ∧ ∃ pv' v, DiskAt w' P' dd { beginS S with now := delN nm.data.toList S.now, pend := (beginS S).pend ++ [.del nm.data.toList], pvals := (beginS S).pvals ++ [v], pv := pv' }))) ∧ Only P w w' := by
  have hb0 : Below w.heap.size w (w.alloc (.cells #[.string nm] 9)) := (Below.refl _ w).alloc (Nat.le_refl _) _
  have hon := on_any h hb0 nm hnm (.slice none 0 0) [] (OwnS.nil _ _) (by simp) (by simp) hst hfl
  have hmf : ∀ (fn : Fn) (first cap : Array Value) (w : World), (Instr.makeFunc fn first cap).run Tryd.prog w = .ok (.func fn first cap) w := fun _ _ _ _ => rfl
  have hbx := heap_alloc_new w (.cells #[.string nm] 9)
  have cbx : (w.alloc (.cells #[.string nm] 9)).cell? ⟨w.heap.size, 0, none⟩ = some (.string nm) := by rw [cell_of_row _ _ _ _ _ _ hbx]; rfl
  go_enter Tryd.func53, Tryd.ntmps53
  obtain ⟨en, hen⟩ : ∃ en, en = onE S [] nm.data.toList := ⟨_, rfl⟩
  rw [← hen] at hon ⊢
  clear hen
  have hdd : dd < w.heap.size := lt_of_heap h.blk
  have hfr : ∀ w', Only (fun g => g = dd ∨ (Value.slice none 0 0).ownBlock = some g) (w.alloc (.cells #[.string nm] 9)) w' → Only P w w' := fun w' ho =>
    have hz := ho.size
    ⟨ho.os, ho.tape, ho.output, by simp at hz; omega, fun k hk hnk => (ho.block k (by simp; omega) (fun e => by
      rcases e with e | e
      · exact hnk (by rw [e]; exact h.inP.1)
      · cases e)).trans (heap_alloc_old _ _ hk)⟩
  have HFR := Lib.hid hfr
  have HBX := Lib.hid hbx
  clear hfr hbx
  go_wp2_with fail
  refine hon.mono ?_
  rintro e w1 ⟨rfl, h1, _, ho1⟩
  clear hon
  have HO1 := Lib.hid ho1
  by_cases hz : en = 0
  · subst hz
    have hbx1 : w1.heap[w.heap.size]? = some (.cells #[.string nm] 9 (0, 0)) := (ho1.block w.heap.size (by simp) (fun e => by
      rcases e with e | e
      · omega
      · cases e)).trans HBX.out
    have hchg : IsChg w1 (.func (.func 67) #[] #[.pointer (some ⟨w.heap.size, 0, none⟩)]) (.del nm.data.toList) := ⟨w.heap.size, nm, rfl, by unfold maxLen; omega, rfl, hbx1⟩
    have hbs := beginS_now S
    have hpend : (beginS S).pend = S.pend := by unfold beginS; split <;> rfl
    have halt := alter_any h1 _ _ hchg trivial (by rw [hbs.1]; exact hl) (by rw [hpend]; exact hp)
    have HBS := Lib.hid hbs
    clear ho1 hbs hpend
    go_wp2_with fail
    refine halt.mono ?_
    rintro e w2 ⟨rfl, ⟨pv', P', h2, hP'⟩, ho2⟩
    clear halt
    go_wp2_with fail
    go_ret
    have hsz := (HFR.out _ HO1.out).size
    refine ⟨rfl, ⟨P', fun k hk => (hP' k hk).imp id (fun e => Nat.le_trans hsz e), pv', .func (.func 67) #[] #[.pointer (some ⟨w.heap.size, 0, none⟩)], ?_⟩, ?_⟩
    · have e : applyC (.del nm.data.toList) (beginS S).now = delN nm.data.toList S.now := by rw [HBS.out.1]; rfl
      rw [e] at h2
      exact h2
    · have ho := HFR.out _ HO1.out
      exact ⟨ho2.os.trans ho.os, ho2.tape.trans ho.tape, ho2.output.trans ho.output, Nat.le_trans ho.size ho2.size, fun k hk hnk => (ho2.block k (Nat.lt_of_lt_of_le hk ho.size) hnk).trans (ho.block k hk hnk)⟩
  · have hz2 : (en == 0) = false := beq_eq_false_iff_ne.2 hz
    have hz3 : (en != 0) = true := by simp [bne, hz2]
    clear ho1
    go_wp2_with fail
    go_ret
    exact ⟨rfl, ⟨P, fun _ hk => .inl hk, .inl ⟨hz, h1⟩⟩, HFR.out _ HO1.out⟩
end Go.Proofs.YtnhfnfdmpcpcoaaDoor

/-
  Sync, SyncNames, Remove, by the plain disk.
-/
namespace Go.Proofs.YtnhfnfdmpcpcoaaDoor
open Go.RowKit Go.Maps

theorem modify_set {α : Type} (l : List α) (i : Nat) (u : α → α) (x : α) (h : l[i]? = some x) : l.modify i u = l.set i (u x) := by
  apply List.ext_getElem?
  intro j
  rw [List.getElem?_modify, List.getElem?_set]
  by_cases e : i = j
  · subst e
    have hi := (List.getElem?_eq_some_iff.1 h).1
    rw [h]; simp [hi]
  · simp [e]
theorem abs_setFile {S : DiskC} {i : Nat} {f f' : FileC} (hf : S.files[i]? = some f) (hb : f'.blk = f.blk) : absD { S with files := S.files.set i f' } = { absD S with files := (absD S).files.set i (f'.data, f'.firm) } := by
  have hn : noF (S.files.set i f') = noF S.files := noF_congr _ _ (by
    obtain ⟨hi, ei⟩ := List.getElem?_eq_some_iff.1 hf
    rw [List.map_set]
    apply List.ext_getElem (by simp)
    intro j h1 h2
    rw [List.getElem_set]
    split
    · rename_i e; subst e; rw [List.getElem_map, ei, hb]
    · rfl)
  unfold absD
  simp only [hn, List.map_set]
theorem abs_turn {S : DiskC} (hap : ApartF S.files) {k : BS} {g i : Nat} {f f' : FileC} (hl : lookN S.now k = some g) (hf : S.files[i]? = some f) (hg : f.blk = g) (hb : f'.blk = f.blk) (up : BS × Nat → BS × Nat) (hup : (f'.data, f'.firm) = up (f.data, f.firm)) :
    absD { beginS S with files := S.files.set i f' } = { tickP (absD S) with files := (absD S).files.modify (atP (absD S) k) up } := by
  have hr := beginS_rest S
  have e1 := abs_setFile (S := beginS S) (f' := f') (by rw [hr.2.2.1]; exact hf) hb
  rw [hr.2.2.1] at e1
  rw [e1, ← abs_tick]
  have ea : atP (absD S) k = i := by
    unfold atP
    rw [abs_look, hl]
    subst hg
    exact noF_at S.files i f hap hf
  rw [ea, modify_set _ i up (f.data, f.firm) (by unfold absD; simp [hf]), ← hup, (tick_rest (absD S)).2.2.1]

theorem onF_zero {S : DiskC} {L : List BS} {k : BS} {g : Nat} (h : onF S L k = some g) : lookN S.now k = some g ∧ onE S L k = 0 := by
  refine ⟨?_, (onE_F S L k).2 ⟨g, h⟩⟩
  unfold onF at h
  split at h
  · cases h
  · exact h
theorem onF_none {S : DiskC} {L : List BS} {k : BS} (h : onF S L k = none) : onE S L k ≠ 0 := fun e => by
  obtain ⟨g, e2⟩ := (onE_F S L k).1 e
  rw [h] at e2; cases e2
theorem do_sync {S : DiskC} (hap : ApartF S.files) (hnow : ∀ x ∈ S.now, HasFile S x.2) (k : BS) : absD (syncS S k) = (doP (absD S) (.sync k)).1 ∧ onE S [] k = (doP (absD S) (.sync k)).2 := by
  have hD : doP (absD S) (.sync k) = if onE S [] k ≠ 0 then (tickP (absD S), onE S [] k) else ({ tickP (absD S) with files := (absD S).files.modify (atP (absD S) k) fun x => (x.1, x.1.length) }, 0) := by rw [← abs_on]; rfl
  rw [hD]
  cases h : onF S [] k with
  | none =>
    rw [if_pos (onF_none h)]
    refine ⟨?_, rfl⟩
    unfold syncS
    rw [h, abs_tick]
  | some g =>
    obtain ⟨hl, hz⟩ := onF_zero h
    rw [hz, if_neg (by simp)]
    refine ⟨?_, rfl⟩
    unfold syncS
    rw [h]
    obtain ⟨f, hf, hg⟩ := hnow _ (lookN_mem _ _ _ hl)
    obtain ⟨i, hi, ei⟩ := List.getElem_of_mem hf
    have hfi : S.files[i]? = some f := by rw [List.getElem?_eq_getElem hi, ei]
    simp only
    rw [(beginS_rest S).2.2.1, setF_set g _ S.files i f hfi hg hap]
    exact abs_turn (f' := { f with firm := f.data.length }) hap hl hfi hg rfl (fun x => (x.1, x.1.length)) rfl
theorem sync_p {w : World} {P : Nat → Prop} {dd : Nat} {A : Pl} (h : DiskP w P dd A) (nm : ByteArray) (hnm : nm.size ≤ 140737488351232) (hfit : FitP A) :
    Calls Tryd.prog 15 #[.pointer (some ⟨dd, 0, none⟩), .string nm] w (StepPost w P dd A (.sync nm.data.toList)) := by
  obtain ⟨S, h, rfl⟩ := h
  refine (sync_any h nm hnm hfit.steps hfit.fails).mono ?_
  rintro e w' ⟨rfl, ⟨P', h', hP'⟩, ho⟩
  obtain ⟨e1, e2⟩ := do_sync h.apart h.nowF nm.data.toList
  exact ⟨by rw [e2], ⟨P', ⟨_, h', e1⟩, fun g hg => .inl (hP' g hg)⟩, ho⟩
theorem do_names (S : DiskC) (b : Nat) : absD (syncNamesS S b) = (doP (absD S) .names).1 ∧ beginE S [] = (doP (absD S) .names).2 := by
  have hD : doP (absD S) .names = if beginE S [] ≠ 0 then (tickP (absD S), beginE S []) else ({ tickP (absD S) with safe := (absD S).now, pend := [] }, 0) := rfl
  rw [hD]
  unfold syncNamesS
  by_cases h : beginE S [] = 0
  · rw [h, if_pos rfl, if_neg (by simp)]
    refine ⟨?_, rfl⟩
    rw [abs_tick]
    unfold absD
    simp only [(beginS_rest S).2.2.1, List.map_nil, (beginS_now S).1]
  · rw [if_neg h, if_pos h]
    exact ⟨(abs_tick S).symm, rfl⟩
theorem names_p {w : World} {P : Nat → Prop} {dd : Nat} {A : Pl} (h : DiskP w P dd A) (hfit : FitP A) :
    Calls Tryd.prog 16 #[.pointer (some ⟨dd, 0, none⟩)] w (StepPost w P dd A .names) := by
  obtain ⟨S, h, rfl⟩ := h
  refine (syncNames_any h hfit.steps hfit.fails).mono ?_
  rintro e w' ⟨rfl, ⟨b, P', h', hP'⟩, ho⟩
  obtain ⟨e1, e2⟩ := do_names S b
  exact ⟨by rw [e2], ⟨P', ⟨_, h', e1⟩, hP'⟩, ho⟩
theorem abs_len (S : DiskC) : (absD S).now.length = S.now.length ∧ (absD S).pend.length = S.pend.length ∧ (absD S).files.length = S.files.length ∧ (absD S).safe.length = S.safe.length := by
  unfold absD mapN
  simp
theorem do_chg (S : DiskC) (c : Chg) (pv : Value) (vs : List Value) : absD { beginS S with now := applyC c S.now, pend := (beginS S).pend ++ [c], pvals := vs, pv := pv } = chgP (absD S) (mapC (noF S.files) c) := by
  have := abs_chg (beginS S) c pv vs
  rw [(beginS_now S).1] at this
  rw [this, ← abs_tick]
  have ht := tick_rest (absD S)
  unfold chgP
  rw [ht.1, ht.2.1, (beginS_rest S).2.2.1]
theorem remove_p {w : World} {P : Nat → Prop} {dd : Nat} {A : Pl} (h : DiskP w P dd A) (nm : ByteArray) (hnm : nm.size ≤ 140737488351232) (hfit : FitP A) :
    Calls Tryd.prog 53 #[.pointer (some ⟨dd, 0, none⟩), .string nm] w (StepPost w P dd A (.remove nm.data.toList)) := by
  obtain ⟨S, h, rfl⟩ := h
  have hn := hfit.now
  have hp := hfit.pend
  rw [(abs_len S).1] at hn
  rw [(abs_len S).2.1] at hp
  refine (remove_any h nm hnm hfit.steps hfit.fails hn hp).mono ?_
  rintro e w' ⟨rfl, ⟨P', hP', h'⟩, ho⟩
  have hD : doP (absD S) (.remove nm.data.toList) = if onE S [] nm.data.toList ≠ 0 then (tickP (absD S), onE S [] nm.data.toList) else (chgP (absD S) (.del nm.data.toList), 0) := by rw [← abs_on]; rfl
  rcases h' with ⟨hz, h'⟩ | ⟨hz, pv', v, h'⟩
  · rw [if_pos hz] at hD
    exact ⟨by rw [hD], ⟨P', ⟨_, h', by rw [hD, abs_tick]⟩, hP'⟩, ho⟩
  · rw [hz, if_neg (by simp)] at hD
    exact ⟨by rw [hD, hz], ⟨P', ⟨_, h', by rw [hD]; exact do_chg S (.del nm.data.toList) pv' _⟩, hP'⟩, ho⟩
end Go.Proofs.YtnhfnfdmpcpcoaaDoor

/-
  Rename: another name for a file.
-/
namespace Go.Proofs.YtnhfnfdmpcpcoaaDoor
open Go.RowKit Go.Maps

set_option maxHeartbeats 4000000 in
set_option maxRecDepth 100000 in
theorem rename_p {w : World} {P : Nat → Prop} {dd : Nat} {A : Pl} (h : DiskP w P dd A) (na nb : ByteArray) (hna : na.size ≤ 140737488351232) (hnb : nb.size ≤ 140737488351232) (hfit : FitP A) :
    Calls Tryd.prog 52 #[.pointer (some ⟨dd, 0, none⟩), .string na, .string nb] w (StepPost w P dd A (.rename na.data.toList nb.data.toList)) := by
  obtain ⟨S, h, rfl⟩ := h
  have hmf : ∀ (fn : Fn) (first cap : Array Value) (w : World), (Instr.makeFunc fn first cap).run Tryd.prog w = .ok (.func fn first cap) w := fun _ _ _ _ => rfl
  obtain ⟨f1, f2, f3, f4, f5, f6, f7, f8⟩ := hfit
  have hnl : S.now.length ≤ 4000000000000 := by rw [← (abs_len S).1]; exact f3
  have hpl : S.pend.length ≤ 1000000 := by rw [← (abs_len S).2.1]; exact f2
  clear f2 f3 f4 f5 f7 f8
  obtain ⟨wa, hwa⟩ : ∃ W0, W0 = ((w.alloc (.cells #[.string na] 9)).alloc (.cells #[.string nb] 9)).alloc (.cells #[.string nb] 9) := ⟨_, rfl⟩
  have hba : Below w.heap.size w wa := by rw [hwa]; exact (((Below.refl _ w).alloc (Nat.le_refl _) _).alloc (by simp) _).alloc (by simp; omega) _
  have hrow : OwnS wa w.heap.size (.slice (some ⟨w.heap.size + 1 + 1, 0, none⟩) 1 1) [nb.data.toList] := by
    rw [hwa]
    have := World.ownsRow_lit (e := 9) (size := 1) ((w.alloc (.cells #[.string na] 9)).alloc (.cells #[.string nb] 9)) #[.string nb] 1 (Nat.le_refl _) (by unfold maxLen; omega) rfl
    unfold OwnS
    have e : tx [nb.data.toList] = [Value.string nb] := by simp [tx]
    refine ownsRow_mono (base := w.heap.size + 1 + 1) ?_ (by omega)
    rw [e]
    simpa using this
  have hon := on_any h hba na hna (.slice (some ⟨w.heap.size + 1 + 1, 0, none⟩) 1 1) [nb.data.toList] hrow (by simp) (fun x hx => by rw [List.mem_singleton.1 hx, size_list]; exact hnb) f1 f6
  have sza : wa.heap.size = w.heap.size + 3 := by rw [hwa]; simp
  have ba : wa.heap[w.heap.size]? = some (.cells #[.string na] 9 (0, 0)) := by
    rw [hwa]
    exact (heap_alloc_old _ _ (by simp; omega)).trans ((heap_alloc_old _ _ (by simp)).trans (heap_alloc_new w _))
  have bb : wa.heap[w.heap.size + 1]? = some (.cells #[.string nb] 9 (0, 0)) := by
    rw [hwa]
    have := heap_alloc_new (w.alloc (.cells #[.string na] 9)) (.cells #[.string nb] 9)
    rw [World.size_alloc] at this
    exact (heap_alloc_old _ _ (by simp)).trans this
  rw [hwa] at hon
  have HWA := Lib.hid hwa
  have HSZ := Lib.hid sza
  clear hrow hwa hba sza
  have hD : doP (absD S) (.rename na.data.toList nb.data.toList) = if onE S [nb.data.toList] na.data.toList ≠ 0 then (tickP (absD S), onE S [nb.data.toList] na.data.toList) else if na.data.toList = nb.data.toList then (tickP (absD S), 0) else (chgP (absD S) (.ren na.data.toList nb.data.toList (atP (absD S) na.data.toList)), 0) := by rw [← abs_on]; rfl
  have hif := onE_F S [nb.data.toList] na.data.toList
  obtain ⟨en, hen⟩ : ∃ en, en = onE S [nb.data.toList] na.data.toList := ⟨_, rfl⟩
  rw [← hen] at hon hD hif
  have HD := Lib.hid hD
  have HIF := Lib.hid hif
  clear hen hD hif
  obtain ⟨fo, hfo⟩ : ∃ fo, fo = onF S [nb.data.toList] na.data.toList := ⟨_, rfl⟩
  rw [← hfo] at hon
  obtain ⟨q, hq⟩ : ∃ q, fileV fo = .pointer q := by cases fo <;> exact ⟨_, rfl⟩
  rw [hq] at hon
  have HFO := Lib.hid hfo
  have HQ := Lib.hid hq
  clear hfo hq
  have hdd : dd < w.heap.size := lt_of_heap h.blk
  have hs0 := size_list na
  have hs1 := size_list nb
  have ca : (((w.alloc (.cells #[.string na] 9)).alloc (.cells #[.string nb] 9))).cell? ⟨w.heap.size, 0, none⟩ = some (.string na) := by
    rw [cell_of_row _ _ _ _ _ _ ((heap_alloc_old _ _ (by simp)).trans (heap_alloc_new w _))]; rfl
  go_enter Tryd.func52, Tryd.ntmps52
  go_wp2_with fail
  refine hon.mono ?_
  rintro e w1 ⟨rfl, h1, ho0, ho1⟩
  clear hon
  have hdd1 : dd < w1.heap.size := lt_of_heap h1.blk
  have sz1 := ho1.size
  simp only [World.size_alloc] at sz1
  have ba1 : w1.heap[w.heap.size]? = some (.cells #[.string na] 9 (0, 0)) := by
    rw [← HWA.out] at ho1
    refine (ho1.block w.heap.size (by rw [HSZ.out]; omega) (fun e => ?_)).trans ba
    rcases e with e | e
    · omega
    · have e : some (w.heap.size + 1 + 1) = some w.heap.size := e
      injection e with e; omega
  have bb1 : w1.heap[w.heap.size + 1]? = some (.cells #[.string nb] 9 (0, 0)) := by
    rw [← HWA.out] at ho1
    refine (ho1.block (w.heap.size + 1) (by rw [HSZ.out]; omega) (fun e => ?_)).trans bb
    rcases e with e | e
    · omega
    · have e : some (w.heap.size + 1 + 1) = some (w.heap.size + 1) := e
      injection e with e; omega
  have ca1 : ∀ o, (w1.alloc o).cell? ⟨w.heap.size, 0, none⟩ = some (.string na) := fun o => by
    rw [cell_of_row _ _ _ _ _ _ ((heap_alloc_old _ _ (lt_of_heap ba1)).trans ba1)]; rfl
  have cb1 : ∀ o, (w1.alloc o).cell? ⟨w.heap.size + 1, 0, none⟩ = some (.string nb) := fun o => by
    rw [cell_of_row _ _ _ _ _ _ ((heap_alloc_old _ _ (lt_of_heap bb1)).trans bb1)]; rfl
  have hsub : Only P w w1 := ⟨ho0.os, ho0.tape, ho0.output, ho0.size, fun k hk hnk => ho0.block k hk (fun e => hnk (by rw [e]; exact h.inP.1))⟩
  have HO := Lib.hid hsub
  clear hsub
  have HS1 := Lib.hid sz1
  clear ho0 ho1 ba bb sz1 hs0 hs1 ca
  by_cases hz : en = 0
  · subst hz
    by_cases hab : na.data.toList = nb.data.toList
    · have hbool : (na.toList == nb.toList) = true := by rw [strs_eq]; exact decide_eq_true hab
      have HR := Lib.hid (show doP (absD S) (.rename na.data.toList nb.data.toList) = (tickP (absD S), 0) by rw [HD.out, if_neg (by simp), if_pos hab])
      clear hab
      go_wp2_with fail
      go_ret
      exact ⟨by rw [HR.out]; rfl, ⟨P, ⟨_, h1.below ((Below.refl _ w1).alloc (Nat.le_refl _) _), by rw [HR.out, abs_tick]⟩, fun g hg => .inl hg⟩, HO.out.alloc _⟩
    · have hbool : (na.toList == nb.toList) = false := by rw [strs_eq]; exact decide_eq_false hab
      have HR := Lib.hid (show doP (absD S) (.rename na.data.toList nb.data.toList) = (chgP (absD S) (.ren na.data.toList nb.data.toList (atP (absD S) na.data.toList)), 0) by rw [HD.out, if_neg (by simp), if_neg hab])
      clear hab
      obtain ⟨g, hg⟩ := HIF.out.1 rfl
      have hfg : fo = some g := HFO.out.trans hg
      have hqg : q = some ⟨g, 0, none⟩ := by
        have := HQ.out
        rw [hfg] at this
        unfold fileV at this
        injection this with this
        exact this.symm
      subst hqg
      have hlk := (onF_zero hg).1
      obtain ⟨wf, hwf⟩ : ∃ W0, W0 = w1.alloc (.cells #[.pointer (some ⟨g, 0, none⟩)] 75) := ⟨_, rfl⟩
      have hbf : Below w1.heap.size w1 wf := by rw [hwf]; exact (Below.refl _ w1).alloc (Nat.le_refl _) _
      have bf1 : wf.heap[w1.heap.size]? = some (.cells #[.pointer (some ⟨g, 0, none⟩)] 75 (0, 0)) := by rw [hwf]; exact heap_alloc_new w1 _
      have h1f := h1.below hbf
      have hchg : IsChg wf (.func (.func 66) #[] #[.pointer (some ⟨w.heap.size, 0, none⟩), .pointer (some ⟨w1.heap.size, 0, none⟩), .pointer (some ⟨w.heap.size + 1, 0, none⟩)]) (.ren na.data.toList nb.data.toList g) :=
        ⟨w.heap.size, w1.heap.size, w.heap.size + 1, na, nb, rfl, rfl, by unfold maxLen; omega, by unfold maxLen; omega, rfl, Below.heap hbf ba1, bf1, Below.heap hbf bb1⟩
      have hfile : HasFile (beginS S) g := by
        obtain ⟨f, hf, e⟩ := h1.nowF (na.data.toList, g) (by rw [(beginS_now S).1]; exact lookN_mem _ _ _ hlk)
        exact ⟨f, hf, e⟩
      have halt := alter_any h1f _ _ hchg hfile (by rw [(beginS_now S).1]; exact hnl) (by rw [(beginS_rest S).2.1]; exact hpl)
      rw [hwf] at halt
      have HSF := Lib.hid (show w1.heap.size ≤ wf.heap.size from hbf.size)
      have HBF := Lib.hid hbf
      have HW := Lib.hid hwf
      have hat : atP (absD S) na.data.toList = noF S.files g := by unfold atP; rw [abs_look, hlk]; rfl
      have HAT := Lib.hid hat
      clear hbf hwf hg hfg hat bf1 h1f hchg hfile hlk
      go_wp2_with fail
      refine halt.mono ?_
      rintro e w2 ⟨rfl, ⟨pv', P', h2, hP'⟩, ho2⟩
      clear halt
      go_wp2_with fail
      go_ret
      rw [← HW.out] at hP' ho2
      have ho := HO.out
      have hbf := HBF.out
      refine ⟨by rw [HR.out]; rfl, ⟨P', ⟨_, h2, ?_⟩, fun k hk => (hP' k hk).imp id (fun e => by have := ho.size; have := HSF.out; omega)⟩, ?_⟩
      · rw [HR.out, HAT.out]
        have := do_chg S (.ren na.data.toList nb.data.toList g) pv' ((beginS S).pvals ++ [.func (.func 66) #[] #[.pointer (some ⟨w.heap.size, 0, none⟩), .pointer (some ⟨w1.heap.size, 0, none⟩), .pointer (some ⟨w.heap.size + 1, 0, none⟩)]])
        rw [← (beginS_now S).1] at this
        exact this
      · exact ⟨ho2.os.trans (hbf.os.trans ho.os), ho2.tape.trans (hbf.tape.trans ho.tape), ho2.output.trans (hbf.output.trans ho.output), Nat.le_trans ho.size (Nat.le_trans hbf.size ho2.size), fun k hk hnk => ((ho2.block k (Nat.lt_of_lt_of_le hk (Nat.le_trans ho.size hbf.size)) hnk).trans (hbf.block k (Nat.lt_of_lt_of_le hk ho.size))).trans (ho.block k hk hnk)⟩
  · have hz2 : (en == 0) = false := beq_eq_false_iff_ne.2 hz
    have hz3 : (en != 0) = true := by simp [bne, hz2]
    have HR := Lib.hid (show doP (absD S) (.rename na.data.toList nb.data.toList) = (tickP (absD S), en) by rw [HD.out, if_pos hz])
    go_wp2_with fail
    go_ret
    exact ⟨by rw [HR.out]; rfl, ⟨P, ⟨_, h1.below ((Below.refl _ w1).alloc (Nat.le_refl _) _), by rw [HR.out, abs_tick]⟩, fun g hg => .inl hg⟩, HO.out.alloc _⟩
end Go.Proofs.YtnhfnfdmpcpcoaaDoor

/-
  Used: the bytes of all files.
-/
namespace Go.Proofs.YtnhfnfdmpcpcoaaDoor
open Go.RowKit Go.Maps

theorem fileR_form : ∀ v y, fileR v = some y → ∃ o : Option Nat, v = fileV o := by
  intro v y h
  unfold fileR at h
  split at h
  · exact ⟨none, rfl⟩
  · exact ⟨some _, rfl⟩
  · cases h
theorem keyOf_str_inv {key : Value} {kl : Lit} (h : keyOf Tryd.prog 9 key = some kl) : ∃ s : ByteArray, key = .string s ∧ kl = .string s.data.toList := by
  have hk := Tryd.underlying9
  cases key <;> simp [keyOf, hk, mapKey] at h
  rename_i s
  refine ⟨s, rfl, ?_⟩
  first | exact h.symm | exact h.2.symm | exact (h.2).symm

set_option maxHeartbeats 4000000 in
theorem used_any {w : World} {P : Nat → Prop} {dd : Nat} {S : DiskC} (h : DiskAt w P dd S) (hu : usedS S ≤ 1000000000000000) :
    Calls Tryd.prog 32 #[.pointer (some ⟨dd, 0, none⟩)] w fun e w' => e = .returned (.int .i64 (usedS S)) ∧ Below w.heap.size w w' := by
  have c0 : w.cell? ⟨dd, 0, none⟩ = some (.map (some S.bn)) := h.cell 0
  have H := Lib.hid h
  have hown := h.now.2
  have hri := Lib.hid h.now.1
  have hlt := h.now.lt
  clear h
  go_enter Tryd.func32, Tryd.ntmps32
  go_wp2_with (first
    | (at_range; refine wpList_range_own _ rfl _ 76 rfl 9 75 keyedS mapT fileR S.bn S.now.length (Dm S.now) rfl hown ?_; intro w0 hrg0 hg0 hs0)
    | go_in)
  go_frame
  go_loopw [3] (fun v wr => ∃ (left : Lit → Bool) (cnt : Nat), wr.ranges Tryd.prog 9 fileR S.bn w.heap.size S.now.length (Dm S.now) left cnt ∧ w.grownBy wr none ∧ v = .int .i64 (sumF (fun x => (datF S x.2).length) left S.now))
    (fun _ wr => wr.rangeLeft S.bn w.heap.size)
  case atStart => exact ⟨_, _, hrg0, hg0, by rw [sumF_start _ _ _ (fun x hx => Dm_has_mem _ x hx)]; rfl⟩
  case round =>
    obtain ⟨left, cnt, hrg, hgw, rfl⟩ := hrel
    go_wp2_with (first
      | (at_next; refine wpList_next_ranges _ rfl _ rfl 9 keyedS fileR Value.string fileV (fun key kl hk => by obtain ⟨s, e, _⟩ := keyOf_str_inv hk; exact ⟨s, e⟩) fileR_form S.bn w.heap.size S.now.length _ _ _ rfl hrg ?_ ?_)
      | go_in)
    · intro _ hl0
      go_wp2_with fail
      go_ret
      exact ⟨ret_int (by rw [sumF_end _ _ hl0]; rfl), ⟨hgw.os, hgw.tape, hgw.output, hgw.size, fun k hk => hgw.block k hk (by simp)⟩⟩
    · intro x c kl y yp w1 cnt1 hkey hlx hv hat hrg1 hlt1 hg1 hs1 hen
      obtain ⟨x', ex, rfl⟩ := keyOf_str_inv hkey
      injection ex with ex
      subst ex
      rw [fileR_mk] at hv
      injection hv with hv
      injection hv with hv _
      subst hv
      obtain ⟨b, rfl, hmem⟩ := Dm_mem hat
      obtain ⟨f, hf, hfb⟩ := H.out.nowF _ hmem
      have hd : datF S b = f.data := by have := datF_mem H.out.apart hf; rw [hfb] at this; exact this
      simp only at hfb
      subst hfb
      obtain ⟨j, hj, ej⟩ := List.getElem_of_mem hf
      obtain ⟨b1, b2, b3, b4, b5⟩ := H.out.files j f (by rw [List.getElem?_eq_getElem hj, ej])
      obtain ⟨pv, cv, hval, _, _, _⟩ := b2.in8n rfl
      have hgw1 : w.grownBy w1 none := hgw.andThen hg1 (fun j hj => by cases hj; exact Or.inl (Nat.le_refl _))
      have hb1 : w1.heap[f.blk]? = some (.cells #[.int .i64 j, f.val, .int .i64 f.firm] 81 (0, 0)) := (hgw1.block _ (lt_of_heap b1) (by simp)).trans b1
      have c1 : w1.cell? ⟨f.blk, 1, none⟩ = some (.slice pv f.data.length cv) := by rw [cell_of_row _ _ _ _ _ _ hb1, ← hval]; rfl
      have hstep := sumF_step (fun x => (datF S x.2).length) left x.data.toList f.blk hlx S.now hri.out hmem
      have hle := sumF_le (fun x => (datF S x.2).length) (fun z => left z && !z.sameKey (.string x.data.toList)) S.now
      have hus : sumF (fun x => (datF S x.2).length) (fun z => left z && !z.sameKey (.string x.data.toList)) S.now ≤ usedS S := hle
      simp only [hd] at hstep
      obtain ⟨n0, hn0⟩ : ∃ n0, n0 = sumF (fun x => (datF S x.2).length) left S.now := ⟨_, rfl⟩
      rw [← hn0] at hstep ⊢
      have HST := Lib.hid hstep
      have hb0 : n0 + f.data.length ≤ 1000000000000000 := by omega
      have HRG := Lib.hid hrg
      clear hat hmem hstep hle hus hn0 hrg b2 hd
      unfold fileV at hen
      go_wp2_with fail
      go_roundw
      case rel => exact ⟨_, _, hrg1, hgw1, by rw [HST.out]; go_num⟩
      case measure => rw [hrg1.left_eq, HRG.out.left_eq]; exact hlt1
end Go.Proofs.YtnhfnfdmpcpcoaaDoor

/-
  What stays as it was from world to world.
-/
namespace Go.Proofs.YtnhfnfdmpcpcoaaDoor
open Go.RowKit

theorem cell_keep {w w' : World} {a : Addr} {v : Value} (h : w.cell? a = some v) (hb : Below w.heap.size w w') : w'.cell? a = some v :=
  (hb.cell (World.block_lt_of_cell? w _ h)).trans h
theorem ba_self (s : ByteArray) : (⟨s.data.toList.toArray⟩ : ByteArray) = s := by cases s; simp
theorem ba_ext {a b : ByteArray} (h : a.data.toList = b.data.toList) : a = b := by
  cases a with | mk x => cases b with | mk y => have : x = y := Array.toList_inj.1 h; rw [this]
theorem below_on {B : Nat} {w w1 w2 : World} (h : Below B w w1) (hs : B ≤ w.heap.size) (h2 : Below w1.heap.size w1 w2) : Below B w w2 :=
  h.trans (h2.mono (Nat.le_trans hs h.size))
end Go.Proofs.YtnhfnfdmpcpcoaaDoor

/-
  Append: data behind a file's bytes.
-/
namespace Go.Proofs.YtnhfnfdmpcpcoaaDoor
open Go.RowKit Go.Maps

theorem wpList_append8y {w : World} {ops : Array Oper} {rest : List Oper} {o : Oper} {a : Act} {Q : Exit → Act → World → Prop} (hgd : o.guard = none) (s x : Operand)
    (ho : o.op = .call { callee := .builtin .append, args := #[s, x], argTypes := #[26, 26] })
    (base : Nat) (v : Value) (l : List UInt8) (hv : a.eval s = v) (hown : Own8 w base v l)
    (p : Option Addr) (m c : Nat) (l2 : List UInt8) (hm : l2.length = m) (hx : a.eval x = .slice p m c) (hin : In8 w p l2)
    (hr : l.length + m ≤ 140737488355328) (hbase : base ≤ w.heap.size)
    (h : ∀ v' w', Own8 w' base v' (l ++ l2) → w.grownBy w' v.ownBlock → Way w v v' → wpList Tryd.prog ops Q rest (a.put o.dst v') w') : wpList Tryd.prog ops Q (o :: rest) a w := by
  subst hm
  refine wpList_append_way w hgd s x 26 26 ho base 5 (.int .u8 0) 1 1 Tryd.underlying26 info8 rfl v l.length (by8 l) hv hown _ l2.length (by8 l2) hx (Src.of8 hin) (by unfold maxLen; omega) (by omega) hbase ?_
  intro v' w' ho' hg hn
  exact h v' w' (by unfold Own8; rw [List.length_append, by8_append]; exact ho') hg hn

theorem dat_le_used {S : DiskC} {x : BS × Nat} (h : x ∈ S.now) : (datF S x.2).length ≤ usedS S := by
  unfold usedS
  obtain ⟨s, t, e⟩ := List.append_of_mem h
  rw [e, List.map_append, List.sum_append, List.map_cons, List.sum_cons]
  omega
theorem usedS_begin (S : DiskC) : usedS (beginS S) = usedS S := by
  unfold beginS
  split <;> rfl

theorem append_fin {w1 W W' W2 : World} {P : Nat → Prop} {dd i : Nat} {S : DiskC} {f : FileC} {k l : BS} {v' : Value} (h1 : DiskAt w1 P dd (beginS S)) (hb : Below w1.heap.size w1 W) (hfi : (beginS S).files[i]? = some f) (hl : lookN S.now k = some f.blk)
    (hown : Own8 W' 0 v' (f.data ++ l)) (hg : W.grownBy W' f.val.ownBlock) (hway : Way W f.val v') (h2 : W2 = W'.setCell ⟨f.blk, 1, none⟩ v') :
    (∃ P', DiskP W2 P' dd { tickP (absD S) with files := (absD S).files.modify (atP (absD S) k) fun x => (x.1 ++ l, x.2) } ∧ ∀ g, P' g → P g ∨ w1.heap.size ≤ g) ∧ Only P w1 W2 := by
  have h := h1.below hb
  obtain ⟨b1, b2, b3, b4, b5⟩ := h.files i f hfi
  have hne := row_ne b2 b1 (by decide)
  have hs := hg.size
  have hblk' : W'.heap[f.blk]? = some (.cells #[.int .i64 i, f.val, .int .i64 f.firm] 81 (0, 0)) := (hg.block _ (lt_of_heap b1) (fun e => hne e.symm)).trans b1
  have hcell : W2.heap[f.blk]? = some (.cells #[.int .i64 i, v', .int .i64 f.firm] 81 (0, 0)) := by
    rw [h2]
    simp only [World.setCell, Array.getElem?_modify, hblk']
    simp
  have hother : ∀ g, g ≠ f.blk → W2.heap[g]? = W'.heap[g]? := fun g hg => by rw [h2]; exact Below.heap_setCell _ _ _ _ hg
  have hE : Else2 W W2 f.blk f.val.ownBlock := fun g hgl h3 h4 => (hother g h3).trans (hg.block g hgl h4)
  have hE2 : Else W' W2 f.blk := fun g hg => hother g hg
  have hway2 : ∀ r, v'.ownBlock = some r → f.val.ownBlock = some r ∨ W.heap.size ≤ r := fun r hr => hway r hr
  have hown2 : Own8 W2 0 v' (f.data ++ l) := rowElse hown hE2 (row_ne hown hblk' (by decide))
  have hd := h.setFile (f' := { f with val := v', data := f.data ++ l }) hfi rfl hcell hE hown2 hway2 (by show f.firm ≤ (f.data ++ l).length; rw [List.length_append]; omega)
  have hr := (beginS_rest S).2.2.1
  have hfi' : S.files[i]? = some f := by rw [← hr]; exact hfi
  have hap : ApartF S.files := by rw [← hr]; exact h1.apart
  refine ⟨⟨_, ⟨_, hd, ?_⟩, fun g hg => ?_⟩, ?_⟩
  · rw [hr]
    exact abs_turn (f' := { f with val := v', data := f.data ++ l }) hap hl hfi' rfl rfl (fun x => (x.1 ++ l, x.2)) rfl
  · rcases hg with hg | hg
    · exact .inl hg
    · rcases hway2 g hg with e | e
      · exact .inl (b3 g e)
      · exact .inr (Nat.le_trans hb.size e)
  · refine ⟨?_, ?_, ?_, ?_, fun g hgl hng => ?_⟩
    · rw [h2]; exact hg.os.trans hb.os
    · rw [h2]; exact hg.tape.trans hb.tape
    · rw [h2]; exact hg.output.trans hb.output
    · rw [h2]; have := hb.size; simp only [World.setCell]; simp; omega
    · exact (hE g (Nat.lt_of_lt_of_le hgl hb.size) (fun e => hng (by rw [e]; exact b4)) (fun e => hng (b3 g e.symm))).trans (hb.block g hgl)

set_option maxRecDepth 100000 in
set_option maxHeartbeats 4000000 in
theorem append_p {w : World} {P : Nat → Prop} {dd : Nat} {A : Pl} (h : DiskP w P dd A) (nm : ByteArray) (hnm : nm.size ≤ 140737488351232) (l : BS) (p : Option Addr) (n c : Nat) (hn : l.length = n) (hl : n ≤ 140737488351232) (hin : In8 w p l) (hfit : FitP A) :
    Calls Tryd.prog 13 #[.pointer (some ⟨dd, 0, none⟩), .string nm, .slice p n c] w (StepPost w P dd A (.append nm.data.toList l)) := by
  obtain ⟨S, h, rfl⟩ := h
  subst hn
  have hus := hfit.used
  rw [abs_used h.nowF] at hus
  have hroom := hfit.room
  have hon := on_any h (Below.refl _ w) nm hnm (.slice none 0 0) [] (OwnS.nil _ _) (by simp) (by simp) hfit.steps hfit.fails
  have hif := onE_F S [] nm.data.toList
  have hD : doP (absD S) (.append nm.data.toList l) = if onE S [] nm.data.toList ≠ 0 then (tickP (absD S), onE S [] nm.data.toList) else if 0 < l.length ∧ S.room < usedS S + l.length then (tickP (absD S), 92) else ({ tickP (absD S) with files := (absD S).files.modify (atP (absD S) nm.data.toList) fun x => (x.1 ++ l, x.2) }, 0) := by
    rw [← abs_on, ← abs_used h.nowF]
    rfl
  obtain ⟨en, hen⟩ : ∃ en, en = onE S [] nm.data.toList := ⟨_, rfl⟩
  rw [← hen] at hon hif hD
  have HD := Lib.hid hD
  have hsub : ∀ w', Only (fun g => g = dd) w w' → Only P w w' := fun w' ho => ⟨ho.os, ho.tape, ho.output, ho.size, fun k hk hne => ho.block k hk (fun e => hne (by rw [e]; exact h.inP.1))⟩
  have HSUB := Lib.hid hsub
  clear hen hsub hD
  cases hf : onF S [] nm.data.toList with
  | none =>
    have hz : ¬ en = 0 := fun e => by obtain ⟨g, e2⟩ := hif.1 e; rw [hf] at e2; cases e2
    have hz2 : (en == 0) = false := beq_eq_false_iff_ne.2 hz
    have hz3 : (en != 0) = true := by simp [bne, hz2]
    have HR := Lib.hid (show doP (absD S) (.append nm.data.toList l) = (tickP (absD S), en) by rw [HD.out, if_pos hz])
    rw [hf] at hon
    clear hif hf
    go_enter Tryd.func13, Tryd.ntmps13
    go_wp2_with fail
    refine hon.mono ?_
    rintro e w1 ⟨rfl, h1, ho1, _⟩
    clear hon
    go_wp2_with fail
    go_ret
    exact ⟨by rw [HR.out]; rfl, ⟨P, ⟨_, h1, by rw [HR.out, abs_tick]⟩, fun _ hg => .inl hg⟩, HSUB.out _ ho1⟩
  | some g =>
    have hz : en = 0 := hif.2 ⟨g, hf⟩
    subst hz
    have hnow := (onF_zero hf).1
    have hmem := lookN_mem _ _ _ hnow
    rw [hf] at hon
    unfold fileV at hon
    have HL := Lib.hid hnow
    have HAP := Lib.hid h.apart
    clear hif hf hnow
    go_enter Tryd.func13, Tryd.ntmps13
    go_wp2_with fail
    refine hon.mono ?_
    rintro e w1 ⟨rfl, h1, ho1, _⟩
    clear hon
    have hin1 : In8 w1 p l := by
      intro h0
      obtain ⟨b, o, e, hc⟩ := hin h0
      refine ⟨b, o, e, fun i hi => ?_⟩
      have hck := hc i hi
      have hlt := World.block_lt_of_cell? w _ hck
      have hbd : b ≠ dd := by
        rintro rfl
        have h2 := h.cell (o + i)
        rw [h2] at hck
        unfold diskCells at hck
        obtain ⟨a, c', e⟩ := h.pvForm
        rw [e, h.fails.1] at hck
        have : o + i = 0 ∨ o + i = 1 ∨ o + i = 2 ∨ o + i = 3 ∨ o + i = 4 ∨ o + i = 5 ∨ o + i = 6 ∨ o + i = 7 := by
          have := (Array.getElem?_eq_some_iff.1 hck).1
          simp at this
          omega
        rcases this with e | e | e | e | e | e | e | e <;> rw [e] at hck <;> simp at hck
      have := ho1.block b hlt hbd
      simp only [World.cell?, this]
      exact hck
    have hmem1 : (nm.data.toList, g) ∈ (beginS S).now := by rw [(beginS_now S).1]; exact hmem
    obtain ⟨f, hfm, hfg⟩ := h1.nowF _ hmem1
    obtain ⟨i, hi, ei⟩ := List.getElem_of_mem hfm
    have hfi : (beginS S).files[i]? = some f := by rw [List.getElem?_eq_getElem hi, ei]
    simp only at hfg
    subst hfg
    have hdat : f.data.length ≤ usedS S := by
      have h2 := dat_le_used hmem
      have h3 := datF_mem h1.apart hfm
      have h4 : datF S f.blk = datF (beginS S) f.blk := by unfold datF; rw [(beginS_rest S).2.2.1]
      rw [h4, h3] at h2
      exact h2
    have hus1 : usedS (beginS S) = usedS S := usedS_begin S
    have hu := used_any h1 (by rw [hus1]; omega)
    rw [hus1] at hu
    have c4 : w1.cell? ⟨dd, 4, none⟩ = some (.int .i64 S.room) := by rw [h1.cell 4]; show some (Value.int .i64 ((beginS S).room : Int)) = _; rw [(beginS_rest S).2.2.2.1]
    have H1 := Lib.hid h1
    have HO := Lib.hid (HSUB.out _ ho1)
    have HN := Lib.hid (And.intro hfi hdat)
    have hroom' : (S.room : Int) ≤ 1073741824 := by have : S.room ≤ 1073741824 := hroom; omega
    clear hmem hmem1 hfm hi ei hroom
    obtain ⟨u, hu0⟩ : ∃ u, u = usedS S := ⟨_, rfl⟩
    rw [← hu0] at hu hus
    have HU0 := Lib.hid hu0
    clear hu0 hus1 hdat
    by_cases h0 : 0 < l.length
    · have hgt : decide (0 < (l.length : Int)) = true := decide_eq_true (by omega)
      have hS0 : w1.drew.cell? ⟨dd, 4, none⟩ = some (.int .i64 S.room) ∧ Below w1.heap.size w1 w1.drew := ⟨c4, (Below.refl _ w1).drew⟩
      have HK0 := Lib.hid hS0
      have HU := Lib.hid (fun W (hW : W.cell? ⟨dd, 4, none⟩ = some (.int .i64 S.room) ∧ Below w1.heap.size w1 W) => show Calls Tryd.prog 32 #[.pointer (some ⟨dd, 0, none⟩)] W fun e w' => e = .returned (.int .i64 u) ∧ w'.cell? ⟨dd, 4, none⟩ = some (.int .i64 S.room) ∧ Below w1.heap.size w1 w' from by
        have hq := used_any (H1.out.below hW.2) (by rw [usedS_begin, ← HU0.out]; omega)
        rw [usedS_begin, ← HU0.out] at hq
        refine hq.mono ?_
        rintro e w' ⟨rfl, hb⟩
        exact ⟨rfl, cell_keep hW.1 hb, hW.2.trans (hb.mono hW.2.size)⟩)
      have HWR := Lib.hid (show IntKind.i64.wrap ((u : Int) + (l.length : Int)) = (u : Int) + (l.length : Int) by rw [IntKind.wrap_i64]; omega)
      clear hu hin hS0
      by_cases hfull : S.room < u + l.length
      · have HR := Lib.hid (show doP (absD S) (.append nm.data.toList l) = (tickP (absD S), 92) by rw [HD.out, if_neg (by simp), if_pos (by rw [← HU0.out]; exact ⟨h0, hfull⟩)])
        have hcmp : decide ((S.room : Int) < (u : Int) + (l.length : Int)) = true := decide_eq_true (by omega)
        have HCMP := Lib.hid hcmp
        clear hfull hcmp
        go_wp2_with fail
        go_region_held3 (fun W => W.cell? ⟨dd, 4, none⟩ = some (.int .i64 S.room) ∧ Below w1.heap.size w1 W)
          (first | (with_reducible exact HK0.out) | (with_reducible exact HK1.out))
          (first | (go_at_call 32; with_reducible refine (HU.out _ HK0.out).mono ?_; rintro e w2 ⟨rfl, hk⟩; have HK1 := Lib.hid hk; clear hk))
        all_goals
          rw [HWR.out, HCMP.out]
          have hb := HK1.out.2
          go_wp2_with fail
          go_ret
          have ho := HO.out
          exact ⟨by rw [HR.out]; rfl, ⟨P, ⟨_, H1.out.below hb, by rw [HR.out, abs_tick]⟩, fun g hg => .inl hg⟩, ⟨hb.os.trans ho.os, hb.tape.trans ho.tape, hb.output.trans ho.output, Nat.le_trans ho.size hb.size, fun k hk hnk => (hb.block k (Nat.lt_of_lt_of_le hk ho.size)).trans (ho.block k hk hnk)⟩⟩
      · have HR := Lib.hid (show doP (absD S) (.append nm.data.toList l) = ({ tickP (absD S) with files := (absD S).files.modify (atP (absD S) nm.data.toList) fun x => (x.1 ++ l, x.2) }, 0) by rw [HD.out, if_neg (by simp), if_neg (by rw [← HU0.out]; exact fun e => hfull e.2)])
        have hcmp : decide ((S.room : Int) < (u : Int) + (l.length : Int)) = false := decide_eq_false (by omega)
        have HCMP := Lib.hid hcmp
        have hlenD : f.data.length + l.length ≤ 140737488355328 := by have := HN.out.2; have := HU0.out; omega
        clear hfull hcmp
        go_wp2_with fail
        go_region_held3 (fun W => W.cell? ⟨dd, 4, none⟩ = some (.int .i64 S.room) ∧ Below w1.heap.size w1 W)
          (first | (with_reducible exact HK0.out) | (with_reducible exact HK1.out))
          (first | (go_at_call 32; with_reducible refine (HU.out _ HK0.out).mono ?_; rintro e w2 ⟨rfl, hk⟩; have HK1 := Lib.hid hk; clear hk))
        all_goals
          rw [HWR.out, HCMP.out]
          have hb := HK1.out.2
          obtain ⟨b1, b2, b3, b4, b5⟩ := (H1.out.below hb).files i f HN.out.1
          have hne := row_ne b2 b1 (by decide)
          obtain ⟨pv, cv, hval, _, _, _⟩ := b2.in8n rfl
          have c1 : w2.cell? ⟨f.blk, 1, none⟩ = some (.slice pv f.data.length cv) := by rw [cell_of_row _ _ _ _ _ _ b1, ← hval]; rfl
          have hin2 := hin1.below hb
          have hown2 : Own8 w2 0 (.slice pv f.data.length cv) f.data := by rw [← hval]; exact b2
          have hne2 : (Value.slice pv f.data.length cv).ownBlock ≠ some f.blk := by rw [← hval]; exact hne
          have HB1 := Lib.hid b1
          have HV := Lib.hid hval
          clear b1 b2 b3 b4 b5 hval hne
          go_wp2_with (
            at_builtin
            refine wpList_append8y rfl _ _ rfl 0 _ f.data rfl hown2 _ _ _ l rfl rfl hin2 (by omega) (Nat.zero_le _) ?_
            intro v3 w3 hown3 hgrow3 hway3
            have f3 := frozen_of_row w3 f.blk 1 _ _ ((hgrow3.block _ (lt_of_heap HB1.out) (fun e => hne2 e.symm)).trans HB1.out)
            have d3 : w3.cell? ⟨f.blk, 1, none⟩ = some (.slice pv f.data.length cv) := by rw [cell_of_row _ _ _ _ _ _ ((hgrow3.block _ (lt_of_heap HB1.out) (fun e => hne2 e.symm)).trans HB1.out), HV.out]; rfl
            have HO3 := Lib.hid hown3
            obtain ⟨p3, c3, rfl, _, _, _⟩ := hown3.in8n (n := f.data.length + l.length) (by rw [List.length_append])
            have HG3 := Lib.hid hgrow3
            have HW3 := Lib.hid hway3
            clear hown3 hgrow3 hway3)
          go_ret
          have ho := HO.out
          have hg3 := HG3.out
          have hw3 := HW3.out
          rw [← HV.out] at hg3 hw3
          obtain ⟨⟨P', hd, hP'⟩, hon⟩ := append_fin (k := nm.data.toList) (l := l) H1.out hb HN.out.1 HL.out HO3.out hg3 hw3 rfl
          exact ⟨by rw [HR.out]; rfl, ⟨P', by rw [HR.out]; exact hd, fun k hk => (hP' k hk).imp id (fun e => Nat.le_trans ho.size e)⟩, ⟨hon.os.trans ho.os, hon.tape.trans ho.tape, hon.output.trans ho.output, Nat.le_trans ho.size hon.size, fun k hk hnk => (hon.block k (Nat.lt_of_lt_of_le hk ho.size) hnk).trans (ho.block k hk hnk)⟩⟩
    · have hl0 : l.length = 0 := by omega
      have hgt : decide (0 < (l.length : Int)) = false := decide_eq_false (by omega)
      have HR := Lib.hid (show doP (absD S) (.append nm.data.toList l) = ({ tickP (absD S) with files := (absD S).files.modify (atP (absD S) nm.data.toList) fun x => (x.1 ++ l, x.2) }, 0) by rw [HD.out, if_neg (by simp), if_neg (fun e => h0 e.1)])
      clear hu hin hgt
      obtain rfl : l = [] := List.eq_nil_of_length_eq_zero hl0
      clear hl0 h0
      obtain ⟨b1, b2, b3, b4, b5⟩ := H1.out.files i f HN.out.1
      have hne := row_ne b2 b1 (by decide)
      obtain ⟨pv, cv, hval, _, _, _⟩ := b2.in8n rfl
      have c1 : w1.cell? ⟨f.blk, 1, none⟩ = some (.slice pv f.data.length cv) := by rw [cell_of_row _ _ _ _ _ _ b1, ← hval]; rfl
      have hown2 : Own8 w1 0 (.slice pv f.data.length cv) f.data := by rw [← hval]; exact b2
      have hne2 : (Value.slice pv f.data.length cv).ownBlock ≠ some f.blk := by rw [← hval]; exact hne
      have HB1 := Lib.hid b1
      have HV := Lib.hid hval
      have hlenD : f.data.length ≤ 140737488355328 := by have := HN.out.2; have := HU0.out; omega
      clear b1 b2 b3 b4 b5 hval hne
      go_wp2_with fail
      go_quiet (fail)
      have hb : Below w1.heap.size w1 (w1.drewN nq) := bdrewN (Below.refl _ w1) _
      have hin2 := hin1.below hb
      have hown4 := hown2.below hb
      go_wp2_with (
        at_builtin
        refine wpList_append8y rfl _ _ rfl 0 _ f.data rfl hown4 _ _ _ [] rfl rfl hin2 (by simpa using hlenD) (Nat.zero_le _) ?_
        intro v3 w3 hown3 hgrow3 hway3
        have f3 := frozen_of_row w3 f.blk 1 _ _ ((hgrow3.block _ (lt_of_heap HB1.out) (fun e => hne2 e.symm)).trans HB1.out)
        have d3 : w3.cell? ⟨f.blk, 1, none⟩ = some (.slice pv f.data.length cv) := by rw [cell_of_row _ _ _ _ _ _ ((hgrow3.block _ (lt_of_heap HB1.out) (fun e => hne2 e.symm)).trans HB1.out), HV.out]; rfl
        have HO3 := Lib.hid hown3
        obtain ⟨p3, c3, rfl, _, _, _⟩ := hown3.in8n (n := f.data.length) (by simp)
        have HG3 := Lib.hid hgrow3
        have HW3 := Lib.hid hway3
        clear hown3 hgrow3 hway3)
      go_ret
      have ho := HO.out
      have hg3 := HG3.out
      have hw3 := HW3.out
      rw [← HV.out] at hg3 hw3
      obtain ⟨⟨P', hd, hP'⟩, hon⟩ := append_fin (k := nm.data.toList) (l := []) H1.out hb HN.out.1 HL.out HO3.out hg3 hw3 rfl
      exact ⟨by rw [HR.out]; rfl, ⟨P', by rw [HR.out]; exact hd, fun k hk => (hP' k hk).imp id (fun e => Nat.le_trans ho.size e)⟩, ⟨hon.os.trans ho.os, hon.tape.trans ho.tape, hon.output.trans ho.output, Nat.le_trans ho.size hon.size, fun k hk hnk => (hon.block k (Nat.lt_of_lt_of_le hk ho.size) hnk).trans (ho.block k hk hnk)⟩⟩

end Go.Proofs.YtnhfnfdmpcpcoaaDoor

/-
  slices.Clone of bytes; List, Read: what only reads a disk's files.
-/
namespace Go.Proofs.YtnhfnfdmpcpcoaaDoor
open Go.RowKit Go.Maps

set_option maxRecDepth 100000 in
set_option maxHeartbeats 1000000 in
theorem cloneB_any (l : List UInt8) (p : Option Addr) (n c : Nat) (hn : l.length = n) (hr : n ≤ 140737488355328) (hc : p = none → c = 0) (w : World) (h : In8 w p l) :
    Calls Tryd.prog 48 #[.slice p n c] w fun e w' => ∃ v, e = .returned v ∧ Own8 w' w.heap.size v l ∧ Below w.heap.size w w' := by
  subst hn
  cases p with
  | none =>
    have hl : l = [] := by
      by_cases h0 : 0 < l.length
      · obtain ⟨b, o, e, _⟩ := h h0; cases e
      · exact List.eq_nil_of_length_eq_zero (by omega)
    subst hl
    rw [hc rfl]
    have he : ∀ w : World, (binOp .eql 26 (.slice none 0 0) (.slice none 0 0)).run Tryd.prog w = .ok (.bool true) w := fun _ => rfl
    go_enter Tryd.func48, Tryd.ntmps48
    go_wp2_with fail
    go_ret
    exact ⟨_, rfl, Own8.nil _ _, Below.refl _ _⟩
  | some a =>
    have he : ∀ w : World, (binOp .eql 26 (.slice (some a) l.length c) (.slice none 0 0)).run Tryd.prog w = .ok (.bool false) w := fun _ => rfl
    have hin := h.alloc (.cells #[] 5)
    have hown := Own8.made w
    go_enter Tryd.func48, Tryd.ntmps48
    go_wp2_with (at_builtin; refine wpList_append8 rfl _ _ rfl w.heap.size _ [] rfl hown _ _ _ l rfl rfl hin (by simp; omega) (by simp) ?_; intro v1 w1 hown1 hgrow1 _)
    go_ret
    exact ⟨v1, rfl, hown1, ((Below.refl _ w).alloc (Nat.le_refl _) _).grown hgrow1 (by simp) (fun k e => by cases e; exact Nat.le_refl _)⟩

set_option maxHeartbeats 1000000 in
theorem list_p {w : World} {P : Nat → Prop} {dd : Nat} {A : Pl} (h : DiskP w P dd A) (hn : A.now.length ≤ 4000000000000) :
    Calls Tryd.prog 30 #[.pointer (some ⟨dd, 0, none⟩)] w fun e w' => ∃ v, e = .returned v ∧ OwnS w' w.heap.size v (listP A) ∧ Below w.heap.size w w' := by
  obtain ⟨S, h, rfl⟩ := h
  have hl : (absD S).now.length = S.now.length := by show (mapN _ _).length = _; unfold mapN; simp
  rw [hl] at hn
  have hnames : (absD S).now.map (·.1) = S.now.map (·.1) := by show (mapN _ _).map _ = _; unfold mapN; rw [List.map_map]; rfl
  have hdown := down_any h
  cases hd : downS S with
  | true =>
    rw [hd] at hdown
    have HL := Lib.hid (show listP (absD S) = [] by unfold listP; rw [abs_down, if_pos hd])
    clear hd hl hnames
    go_enter Tryd.func30, Tryd.ntmps30
    go_wp2_with fail
    refine hdown.mono ?_
    rintro e w1 ⟨rfl, hb1⟩
    clear hdown
    go_wp2_with fail
    go_ret
    exact ⟨_, rfl, by rw [HL.out]; exact OwnS.nil _ _, hb1⟩
  | false =>
    rw [hd] at hdown
    have HL := Lib.hid (show listP (absD S) = S.now.map (·.1) by unfold listP; rw [abs_down, if_neg (by rw [hd]; simp), hnames])
    clear hd hl hnames
    go_enter Tryd.func30, Tryd.ntmps30
    go_wp2_with fail
    refine hdown.mono ?_
    rintro e w1 ⟨rfl, hb1⟩
    clear hdown
    have h1 := h.below hb1
    have c0 : w1.cell? ⟨dd, 0, none⟩ = some (.map (some S.bn)) := h1.cell 0
    have hk := keysF_any (some S.bn) w1
    have hso := sortedF_any w1 h1.now (by omega)
    go_wp2_with fail
    refine hk.mono ?_
    rintro e w2 ⟨rfl, rfl⟩
    clear hk
    go_wp2_with fail
    refine hso.mono ?_
    rintro e w3 ⟨v, rfl, hown, hb3⟩
    clear hso
    have HO := Lib.hid hown
    obtain ⟨pv, cv, rfl, k1, k2, _⟩ := hown.shape (n := S.now.length) (by simp)
    clear hown
    go_wp2_with fail
    go_ret
    exact ⟨_, rfl, by rw [HL.out]; exact HO.out.mono hb1.size, hb1.trans (hb3.mono hb1.size)⟩
end Go.Proofs.YtnhfnfdmpcpcoaaDoor

/-
  The plain disk's laws: what every step keeps. No program is in sight here.
-/
namespace Go.Proofs.YtnhfnfdmpcpcoaaDoor

theorem doP_create (A : Pl) (k : BS) : doP A (.create k) = if begP A [k] ≠ 0 then (tickP A, begP A [k]) else if lookN A.now k ≠ none then (tickP A, 91) else ({ chgP A (.put k A.files.length) with files := A.files ++ [([], 0)] }, 0) := rfl
theorem doP_append (A : Pl) (k d : BS) : doP A (.append k d) = if onP A [] k ≠ 0 then (tickP A, onP A [] k) else if 0 < d.length ∧ A.room < usedP A + d.length then (tickP A, 92) else ({ tickP A with files := A.files.modify (atP A k) fun x => (x.1 ++ d, x.2) }, 0) := rfl
theorem doP_sync (A : Pl) (k : BS) : doP A (.sync k) = if onP A [] k ≠ 0 then (tickP A, onP A [] k) else ({ tickP A with files := A.files.modify (atP A k) fun x => (x.1, x.1.length) }, 0) := rfl
theorem doP_names (A : Pl) : doP A .names = if begP A [] ≠ 0 then (tickP A, begP A []) else ({ tickP A with safe := A.now, pend := [] }, 0) := rfl
theorem doP_rename (A : Pl) (a b : BS) : doP A (.rename a b) = if onP A [b] a ≠ 0 then (tickP A, onP A [b] a) else if a = b then (tickP A, 0) else (chgP A (.ren a b (atP A a)), 0) := rfl
theorem doP_remove (A : Pl) (k : BS) : doP A (.remove k) = if onP A [] k ≠ 0 then (tickP A, onP A [] k) else (chgP A (.del k), 0) := rfl

theorem insN_perm (k : BS) (f : Nat) : ∀ M : NM, Rises M → (insN k f M).Perm ((k, f) :: delN k M)
  | [], _ => List.Perm.refl _
  | (m, g) :: M, h => by
    have h' := List.pairwise_cons.1 h
    unfold insN
    by_cases e : m = k
    · subst e
      rw [if_pos rfl]
      have hd : delN m ((m, g) :: M) = M := by
        have h0 := delN_out m M fun x hx e => by
          have := h'.1 x hx
          rw [e] at this
          exact absurd this (List.lt_irrefl _)
        unfold delN at h0 ⊢
        rw [List.filter_cons]
        simp only [ne_eq, not_true, decide_false, Bool.false_eq_true, if_false]
        exact h0
      rw [hd]
    · rw [if_neg e]
      have hd : delN k ((m, g) :: M) = (m, g) :: delN k M := by
        unfold delN
        rw [List.filter_cons]
        simp [e]
      by_cases hlt : k < m
      · rw [if_pos hlt]
        have h0 : delN k ((m, g) :: M) = (m, g) :: M := delN_out k _ fun x hx e2 => by
          rcases List.mem_cons.1 hx with rfl | hx
          · exact e e2
          · have := List.lt_trans hlt (h'.1 x hx)
            rw [e2] at this
            exact absurd this (List.lt_irrefl _)
        rw [h0]
      · rw [if_neg hlt, hd]
        exact ((insN_perm k f M h'.2).cons (m, g)).trans (List.Perm.swap _ _ _)
theorem insN_length (k : BS) (f : Nat) : ∀ M : NM, (insN k f M).length ≤ M.length + 1
  | [] => Nat.le_refl _
  | (m, g) :: M => by
    have := insN_length k f M
    unfold insN
    split
    · simp
    · split
      · simp
      · simp only [List.length_cons]; omega
theorem delN_length (k : BS) (M : NM) : (delN k M).length ≤ M.length := List.length_filter_le _ _
theorem delN_mem {k : BS} {M : NM} {x : BS × Nat} (h : x ∈ delN k M) : x ∈ M ∧ x.1 ≠ k := by
  have := List.mem_filter.1 h
  exact ⟨this.1, by simpa using this.2⟩
theorem lookN_of_mem {M : NM} (hr : Rises M) {k : BS} {f : Nat} (h : (k, f) ∈ M) : lookN M k = some f := by
  induction M with
  | nil => cases h
  | cons x M ih =>
    have h' := List.pairwise_cons.1 hr
    obtain ⟨m, g⟩ := x
    rw [lookN_cons]
    rcases List.mem_cons.1 h with e | e
    · injection e with e1 e2
      rw [if_pos e1.symm, e2]
    · rw [if_neg (fun e2 => by
        have := h'.1 _ e
        simp only [e2] at this
        exact absurd this (List.lt_irrefl _)), ih h'.2 e]

def NoC (P : BS → Prop) : Chg → Prop
  | .put k _ => P k
  | .ren _ k _ => P k
  | .del _ => True
structure Inv (A : Pl) : Prop where
  rnow : Rises A.now
  rsafe : Rises A.safe
  fold : A.pend.foldl (fun M c => applyC c M) A.safe = A.now
  gnow : ∀ x ∈ A.now, badN x.1 = false
  gsafe : ∀ x ∈ A.safe, badN x.1 = false
  gpend : ∀ c ∈ A.pend, NoC (fun k => badN k = false) c
  fnow : ∀ x ∈ A.now, x.2 < A.files.length
  inj : (A.now.map (·.2)).Nodup
  firm : ∀ x ∈ A.files, x.2 ≤ x.1.length

theorem applyC_rises (c : Chg) (M : NM) (h : Rises M) : Rises (applyC c M) := by
  cases c with
  | put k f => exact insN_rises k f M h
  | ren a k f => exact insN_rises k f _ (delN_rises a M h)
  | del k => exact delN_rises k M h
theorem applyC_good {Q : BS → Prop} (c : Chg) (M : NM) (h : ∀ x ∈ M, Q x.1) (hc : NoC Q c) : ∀ x ∈ applyC c M, Q x.1 := by
  intro x hx
  cases c with
  | put k f =>
    rcases insN_mem k f x M hx with e | e
    · rw [e]; exact hc
    · exact h x e
  | ren a k f =>
    rcases insN_mem k f x _ hx with e | e
    · rw [e]; exact hc
    · exact h x (delN_mem e).1
  | del k => exact h x (delN_mem hx).1
theorem applyC_length (c : Chg) (M : NM) : (applyC c M).length ≤ M.length + 1 := by
  cases c with
  | put k f => exact insN_length k f M
  | ren a k f => exact Nat.le_trans (insN_length k f _) (by have := delN_length a M; omega)
  | del k => exact Nat.le_trans (delN_length k M) (by omega)
theorem fold_rises : ∀ (C : List Chg) (M : NM), Rises M → Rises (C.foldl (fun M c => applyC c M) M)
  | [], _, h => h
  | c :: C, M, h => fold_rises C _ (applyC_rises c M h)
theorem fold_good {Q : BS → Prop} : ∀ (C : List Chg) (M : NM), (∀ x ∈ M, Q x.1) → (∀ c ∈ C, NoC Q c) → ∀ x ∈ C.foldl (fun M c => applyC c M) M, Q x.1
  | [], _, h, _ => h
  | c :: C, M, h, hc => fold_good C _ (applyC_good c M h (hc c (List.mem_cons_self ..))) fun d hd => hc d (List.mem_cons_of_mem _ hd)
theorem fold_length : ∀ (C : List Chg) (M : NM), (C.foldl (fun M c => applyC c M) M).length ≤ M.length + C.length
  | [], _ => Nat.le_refl _
  | c :: C, M => by
    have h1 := fold_length C (applyC c M)
    have h2 := applyC_length c M
    simp only [List.foldl_cons, List.length_cons]
    omega
theorem leftN_rises {A : Pl} (h : Inv A) (n : Int) : Rises (leftNP A n) := fold_rises _ _ h.rsafe
theorem leftN_good {A : Pl} (h : Inv A) (n : Int) : ∀ x ∈ leftNP A n, badN x.1 = false :=
  fold_good (Q := fun k => badN k = false) _ _ h.gsafe fun c hc => h.gpend c (List.mem_of_mem_take hc)

theorem nodup_ins {k : BS} {f : Nat} {M : NM} (h : Rises M) (hn : ((delN k M).map (·.2)).Nodup) (hf : f ∉ (delN k M).map (·.2)) : ((insN k f M).map (·.2)).Nodup :=
  (((insN_perm k f M h).map (·.2)).nodup_iff).2 (by rw [List.map_cons, List.nodup_cons]; exact ⟨hf, hn⟩)
theorem nodup_del {k : BS} {M : NM} (h : (M.map (·.2)).Nodup) : ((delN k M).map (·.2)).Nodup := List.Nodup.sublist (List.Sublist.map _ List.filter_sublist) h
theorem inj_eq {M : NM} (h : (M.map (·.2)).Nodup) {a b : BS} {f : Nat} (ha : (a, f) ∈ M) (hb : (b, f) ∈ M) : a = b := by
  induction M with
  | nil => cases ha
  | cons x M ih =>
    rw [List.map_cons, List.nodup_cons] at h
    rcases List.mem_cons.1 ha with e1 | e1
    · rcases List.mem_cons.1 hb with e2 | e2
      · rw [← e1] at e2; injection e2 with e2 _; exact e2.symm
      · exact absurd (List.mem_map.2 ⟨_, e2, by rw [← e1]⟩) h.1
    · rcases List.mem_cons.1 hb with e2 | e2
      · exact absurd (List.mem_map.2 ⟨_, e1, by rw [← e2]⟩) h.1
      · exact ih h.2 e1 e2

theorem inv_tick {A : Pl} (h : Inv A) : Inv (tickP A) := by
  unfold tickP
  split
  · exact h
  · exact ⟨h.rnow, h.rsafe, h.fold, h.gnow, h.gsafe, h.gpend, h.fnow, h.inj, h.firm⟩
theorem inv_files {A : Pl} (h : Inv A) {F : List (BS × Nat)} (hl : F.length = A.files.length) (hf : ∀ x ∈ F, x.2 ≤ x.1.length) : Inv { A with files := F } :=
  ⟨h.rnow, h.rsafe, h.fold, h.gnow, h.gsafe, h.gpend, fun x hx => by show x.2 < F.length; rw [hl]; exact h.fnow x hx, h.inj, hf⟩
theorem modify_all {α : Type} {P : α → Prop} {u : α → α} (hu : ∀ x, P x → P (u x)) : ∀ (l : List α) (i : Nat), (∀ x ∈ l, P x) → ∀ x ∈ l.modify i u, P x := by
  intro l i h x hx
  obtain ⟨j, hj, e⟩ := List.getElem_of_mem hx
  rw [List.length_modify] at hj
  rw [List.getElem_modify] at e
  split at e
  · rw [← e]; exact hu _ (h _ (List.getElem_mem _))
  · rw [← e]; exact h _ (List.getElem_mem _)
theorem inv_chg {A : Pl} (h : Inv A) (c : Chg) (hg : NoC (fun k => badN k = false) c) (hf : ∀ x ∈ applyC c A.now, x.2 < A.files.length) (hi : ((applyC c A.now).map (·.2)).Nodup) : Inv (chgP A c) := by
  have ht := tick_rest A
  unfold chgP
  refine ⟨applyC_rises c _ h.rnow, by show Rises (tickP A).safe; rw [ht.2.2.2.1]; exact h.rsafe, ?_, applyC_good (Q := fun k => badN k = false) c _ h.gnow hg, by show ∀ x ∈ (tickP A).safe, _; rw [ht.2.2.2.1]; exact h.gsafe, ?_, by show ∀ x ∈ applyC c A.now, x.2 < (tickP A).files.length; rw [ht.2.2.1]; exact hf, hi, by show ∀ x ∈ (tickP A).files, _; rw [ht.2.2.1]; exact h.firm⟩
  · show (A.pend ++ [c]).foldl _ (tickP A).safe = _
    rw [ht.2.2.2.1, List.foldl_append, h.fold]
    rfl
  · intro d hd
    rcases List.mem_append.1 hd with e | e
    · exact h.gpend d e
    · rw [List.mem_singleton.1 e]; exact hg
theorem begP_good {A : Pl} {L : List BS} (h : begP A L = 0) : ∀ k ∈ L, badN k = false := by
  unfold begP at h
  split at h
  · cases h
  · split at h
    · cases h
    · split at h
      · cases h
      · rename_i h3
        intro k hk
        have : ¬ badN k = true := fun e => h3 (List.any_eq_true.2 ⟨k, hk, e⟩)
        simpa using this
theorem onP_zero {A : Pl} {L : List BS} {k : BS} (h : onP A L k = 0) : begP A (L ++ [k]) = 0 ∧ lookN A.now k = some (atP A k) ∧ (k, atP A k) ∈ A.now := by
  unfold onP at h
  split at h
  · rename_i h1; exact absurd h h1
  · rename_i h1
    split at h
    · cases h
    · rename_i h2
      have h1 : begP A (L ++ [k]) = 0 := by simpa using h1
      obtain ⟨f, hf⟩ := Option.ne_none_iff_exists'.1 h2
      have e : atP A k = f := by unfold atP; rw [hf]; rfl
      rw [e]
      exact ⟨h1, hf, lookN_mem _ _ _ hf⟩
/-- every step keeps the laws -/
theorem inv_do {A : Pl} (h : Inv A) (o : Opp) : Inv (doP A o).1 := by
  have ht := tick_rest A
  cases o with
  | create k =>
    rw [doP_create]
    split
    · exact inv_tick h
    · rename_i h1
      have h1 : begP A [k] = 0 := by simpa using h1
      split
      · exact inv_tick h
      · rename_i h2
        have h2 : lookN A.now k = none := by simpa using h2
        have hd : delN k A.now = A.now := delN_out k _ fun x hx e => by
          have := lookN_of_mem h.rnow (k := x.1) (f := x.2) hx
          rw [e, h2] at this; cases this
        have hg := begP_good h1 k (by simp)
        have hlt : ∀ x ∈ insN k A.files.length A.now, x.2 < A.files.length + 1 := fun x hx => by
          rcases insN_mem _ _ x _ hx with e | e
          · rw [e]; exact Nat.lt_succ_self _
          · exact Nat.lt_succ_of_lt (h.fnow x e)
        have hi : ((insN k A.files.length A.now).map (·.2)).Nodup := nodup_ins h.rnow (by rw [hd]; exact h.inj) (by
          rw [hd]
          intro e
          obtain ⟨x, hx, e⟩ := List.mem_map.1 e
          have := h.fnow x hx
          omega)
        have hc := inv_chg (A := { A with files := A.files ++ [([], 0)] }) ⟨h.rnow, h.rsafe, h.fold, h.gnow, h.gsafe, h.gpend, fun x hx => by show x.2 < (A.files ++ [([], 0)]).length; rw [List.length_append]; exact Nat.lt_succ_of_lt (h.fnow x hx), h.inj, fun x hx => by
          rcases List.mem_append.1 hx with e | e
          · exact h.firm x e
          · rw [List.mem_singleton.1 e]; exact Nat.le_refl _⟩ (.put k A.files.length) hg (by show ∀ x ∈ insN k A.files.length A.now, x.2 < (A.files ++ [([], 0)]).length; rw [List.length_append]; exact hlt) hi
        have e : ({ chgP A (.put k A.files.length) with files := A.files ++ [([], 0)] } : Pl) = chgP { A with files := A.files ++ [([], 0)] } (.put k A.files.length) := by
          unfold chgP tickP
          show _ = Pl.mk _ _ _ _ _ _ _ _
          have : downP { A with files := A.files ++ [([], 0)] } = downP A := rfl
          rw [this]
          split <;> rfl
        show Inv { chgP A (.put k A.files.length) with files := A.files ++ [([], 0)] }
        rw [e]
        exact hc
  | append k d =>
    rw [doP_append]
    split
    · exact inv_tick h
    · split
      · exact inv_tick h
      · refine inv_files (inv_tick h) (by rw [List.length_modify, ht.2.2.1]) ?_
        exact modify_all (P := fun x : BS × Nat => x.2 ≤ x.1.length) (fun x hx => by simp only [List.length_append]; omega) _ _ h.firm
  | sync k =>
    rw [doP_sync]
    split
    · exact inv_tick h
    · refine inv_files (inv_tick h) (by rw [List.length_modify, ht.2.2.1]) ?_
      exact modify_all (P := fun x : BS × Nat => x.2 ≤ x.1.length) (fun x _ => Nat.le_refl _) _ _ h.firm
  | names =>
    rw [doP_names]
    split
    · exact inv_tick h
    · have := inv_tick h
      refine ⟨this.rnow, h.rnow, ?_, this.gnow, h.gnow, (fun c hc => by cases hc), this.fnow, this.inj, this.firm⟩
      show A.now = (tickP A).now
      rw [ht.1]
  | rename a b =>
    rw [doP_rename]
    split
    · exact inv_tick h
    · rename_i h1
      have h1 : onP A [b] a = 0 := by simpa using h1
      obtain ⟨h2, h3, h4⟩ := onP_zero h1
      split
      · exact inv_tick h
      · have hr := delN_rises a _ h.rnow
        refine inv_chg h (.ren a b (atP A a)) (begP_good h2 b (by simp)) (fun x hx => ?_) (nodup_ins hr (nodup_del (nodup_del h.inj)) fun e => ?_)
        · rcases insN_mem _ _ x _ hx with e | e
          · rw [e]; show atP A a < _; exact h.fnow _ h4
          · exact h.fnow x (delN_mem e).1
        · obtain ⟨x, hx, e⟩ := List.mem_map.1 e
          have m1 := (delN_mem hx).1
          have m2 := delN_mem m1
          obtain ⟨y, z⟩ := x
          simp only at e
          subst e
          exact m2.2 (inj_eq h.inj m2.1 h4)
  | remove k =>
    rw [doP_remove]
    split
    · exact inv_tick h
    · exact inv_chg h (.del k) trivial (fun x hx => h.fnow x (delN_mem hx).1) (nodup_del h.inj)

/-- an error changes nothing but the count -/
theorem do_err {A : Pl} (o : Opp) (h : (doP A o).2 ≠ 0) : (doP A o).1 = tickP A := by
  cases o with
  | create k => rw [doP_create] at h ⊢; (repeat' split at h) <;> simp_all
  | append k d => rw [doP_append] at h ⊢; (repeat' split at h) <;> simp_all
  | sync k => rw [doP_sync] at h ⊢; (repeat' split at h) <;> simp_all
  | names => rw [doP_names] at h ⊢; (repeat' split at h) <;> simp_all
  | rename a b => rw [doP_rename] at h ⊢; (repeat' split at h) <;> simp_all
  | remove k => rw [doP_remove] at h ⊢; (repeat' split at h) <;> simp_all
end Go.Proofs.YtnhfnfdmpcpcoaaDoor

/-
  The plain disk's sizes, and the bytes that are used. No program is in sight here.
-/
namespace Go.Proofs.YtnhfnfdmpcpcoaaDoor

theorem sum_perm {α : Type} (f : α → Nat) {L M : List α} (h : L.Perm M) : (L.map f).sum = (M.map f).sum := by
  induction h with
  | nil => rfl
  | cons x _ ih => simp only [List.map_cons, List.sum_cons, ih]
  | swap x y l => simp only [List.map_cons, List.sum_cons]; omega
  | trans _ _ h1 h2 => exact h1.trans h2
theorem sum_sub {α : Type} (f : α → Nat) {L M : List α} (h : L.Sublist M) : (L.map f).sum ≤ (M.map f).sum := by
  induction h with
  | slnil => exact Nat.le_refl _
  | cons x _ ih => simp only [List.map_cons, List.sum_cons]; omega
  | cons_cons x _ ih => simp only [List.map_cons, List.sum_cons]; omega
theorem sum_same (f g : Nat → Nat) (i : Nat) (ho : ∀ j, j ≠ i → g j = f j) : ∀ M : NM, i ∉ M.map (·.2) → (M.map fun x => g x.2).sum = (M.map fun x => f x.2).sum
  | [], _ => rfl
  | x :: M, h => by
    rw [List.map_cons, List.mem_cons, not_or] at h
    simp only [List.map_cons, List.sum_cons]
    rw [sum_same f g i ho M h.2, ho x.2 (fun e => h.1 e.symm)]
theorem sum_one (f g : Nat → Nat) (i d : Nat) (hi : g i ≤ f i + d) (ho : ∀ j, j ≠ i → g j = f j) : ∀ M : NM, (M.map (·.2)).Nodup → (M.map fun x => g x.2).sum ≤ (M.map fun x => f x.2).sum + d
  | [], _ => Nat.zero_le _
  | x :: M, h => by
    rw [List.map_cons, List.nodup_cons] at h
    simp only [List.map_cons, List.sum_cons]
    by_cases e : x.2 = i
    · rw [sum_same f g i ho M (by rw [← e]; exact h.1), e]; omega
    · have := sum_one f g i d hi ho M h.2
      rw [ho x.2 e]; omega
def lenF (F : List (BS × Nat)) (i : Nat) : Nat := ((F[i]?.map (·.1)).getD []).length
theorem usedP_eq (A : Pl) : usedP A = (A.now.map fun x => lenF A.files x.2).sum := rfl
theorem lenF_modify {F : List (BS × Nat)} {i : Nat} {u : BS × Nat → BS × Nat} {d : Nat} (hu : ∀ x, (u x).1.length = x.1.length + d) : lenF (F.modify i u) i ≤ lenF F i + d ∧ ∀ j, j ≠ i → lenF (F.modify i u) j = lenF F j := by
  unfold lenF
  constructor
  · rw [List.getElem?_modify]
    cases F[i]? with
    | none => simp
    | some x => simp [hu x]
  · intro j hj
    have hj' : ¬ i = j := fun e => hj e.symm
    rw [List.getElem?_modify]
    simp only [hj', if_false]
    cases F[j]? <;> rfl
theorem lenF_add (F : List (BS × Nat)) (i : Nat) : lenF (F ++ [([], 0)]) i = lenF F i := by
  unfold lenF
  by_cases h : i < F.length
  · rw [List.getElem?_append_left h]
  · rw [List.getElem?_append_right (by omega), List.getElem?_eq_none (by omega : F.length ≤ i)]
    cases i - F.length <;> rfl
theorem lenF_out (F : List (BS × Nat)) (i : Nat) (h : F.length ≤ i) : lenF F i = 0 := by
  unfold lenF; rw [List.getElem?_eq_none h]; rfl
theorem insN_same {M : NM} (h : Rises M) {k : BS} {f : Nat} (hk : (k, f) ∈ M) : insN k f M = M :=
  nm_ext _ _ (insN_rises k f M h) h fun j => by
    by_cases e : j = k
    · subst e; rw [lookN_ins_same, lookN_of_mem h hk]
    · rw [lookN_ins_other k j f e]
theorem sum_del {M : NM} (f : BS × Nat → Nat) (h : Rises M) {k : BS} {i : Nat} (hk : (k, i) ∈ M) : (M.map f).sum = f (k, i) + ((delN k M).map f).sum := by
  have := sum_perm f (insN_perm k i M h)
  rw [insN_same h hk] at this
  rw [this, List.map_cons, List.sum_cons]
/-- a step's bytes: no more than before, or no more than there is room for -/
theorem used_do {A : Pl} (h : Inv A) (o : Opp) : usedP (doP A o).1 ≤ usedP A ∨ usedP (doP A o).1 ≤ A.room := by
  have ht := tick_rest A
  have hu : usedP (tickP A) = usedP A := by rw [usedP_eq, usedP_eq, ht.1, ht.2.2.1]
  cases o with
  | create k =>
    rw [doP_create]
    split
    · exact .inl (Nat.le_of_eq hu)
    · split
      · exact .inl (Nat.le_of_eq hu)
      · left
        show ((insN k A.files.length A.now).map fun x => lenF (A.files ++ [([], 0)]) x.2).sum ≤ _
        rw [show (fun x : BS × Nat => lenF (A.files ++ [([], 0)]) x.2) = fun x => lenF A.files x.2 from funext fun x => lenF_add _ _]
        rw [sum_perm _ (insN_perm k A.files.length A.now h.rnow), List.map_cons, List.sum_cons, lenF_out _ _ (Nat.le_refl _), usedP_eq, Nat.zero_add]
        exact sum_sub _ List.filter_sublist
  | append k d =>
    rw [doP_append]
    split
    · exact .inl (Nat.le_of_eq hu)
    · split
      · exact .inl (Nat.le_of_eq hu)
      · rename_i h2
        have hm := lenF_modify (F := A.files) (i := atP A k) (u := fun x => (x.1 ++ d, x.2)) (d := d.length) (fun x => List.length_append ..)
        have := sum_one _ _ _ d.length hm.1 hm.2 A.now h.inj
        rw [← usedP_eq] at this
        have e : usedP { tickP A with files := A.files.modify (atP A k) fun x => (x.1 ++ d, x.2) } = (A.now.map fun x => lenF (A.files.modify (atP A k) fun x => (x.1 ++ d, x.2)) x.2).sum := by rw [usedP_eq]; show ((tickP A).now.map _).sum = _; rw [ht.1]
        rw [e]
        by_cases h0 : 0 < d.length
        · right
          have : ¬ A.room < usedP A + d.length := fun e => h2 ⟨h0, e⟩
          omega
        · left; omega
  | sync k =>
    rw [doP_sync]
    split
    · exact .inl (Nat.le_of_eq hu)
    · left
      have hm := lenF_modify (F := A.files) (i := atP A k) (u := fun x => (x.1, x.1.length)) (d := 0) (fun x => rfl)
      have := sum_one _ _ _ 0 hm.1 hm.2 A.now h.inj
      rw [← usedP_eq] at this
      have e : usedP { tickP A with files := A.files.modify (atP A k) fun x => (x.1, x.1.length) } = (A.now.map fun x => lenF (A.files.modify (atP A k) fun x => (x.1, x.1.length)) x.2).sum := by rw [usedP_eq]; show ((tickP A).now.map _).sum = _; rw [ht.1]
      rw [e]
      exact this
  | names =>
    rw [doP_names]
    split
    · exact .inl (Nat.le_of_eq hu)
    · exact .inl (Nat.le_of_eq hu)
  | rename a b =>
    rw [doP_rename]
    split
    · exact .inl (Nat.le_of_eq hu)
    · rename_i h1
      have h1 : onP A [b] a = 0 := by simpa using h1
      obtain ⟨h2, h3, h4⟩ := onP_zero h1
      split
      · exact .inl (Nat.le_of_eq hu)
      · left
        have e : usedP (chgP A (.ren a b (atP A a))) = ((insN b (atP A a) (delN a A.now)).map fun x => lenF A.files x.2).sum := by
          rw [usedP_eq]; rw [show ∀ c, (chgP A c).files = A.files from fun c => ht.2.2.1]; rfl
        rw [e, sum_perm _ (insN_perm b _ _ (delN_rises a _ h.rnow)), List.map_cons, List.sum_cons, usedP_eq, sum_del _ h.rnow h4]
        have := sum_sub (fun x : BS × Nat => lenF A.files x.2) (List.filter_sublist (p := fun x : BS × Nat => decide (x.1 ≠ b)) (l := delN a A.now))
        exact Nat.add_le_add_left this _
  | remove k =>
    rw [doP_remove]
    split
    · exact .inl (Nat.le_of_eq hu)
    · left
      have e : usedP (chgP A (.del k)) = ((delN k A.now).map fun x => lenF A.files x.2).sum := by
        rw [usedP_eq]; rw [show ∀ c, (chgP A c).files = A.files from fun c => ht.2.2.1]; rfl
      rw [e, usedP_eq]
      exact sum_sub _ List.filter_sublist

theorem do_rest (A : Pl) (o : Opp) : (doP A o).1.room = A.room ∧ (doP A o).1.fails = A.fails ∧ (doP A o).1.power = A.power := by
  have ht := tick_rest A
  have e : ∀ c, (chgP A c).room = A.room ∧ (chgP A c).fails = A.fails ∧ (chgP A c).power = A.power := fun c => ⟨ht.2.2.2.2.1, ht.2.2.2.2.2.1, ht.2.2.2.2.2.2⟩
  have e0 : (tickP A).room = A.room ∧ (tickP A).fails = A.fails ∧ (tickP A).power = A.power := ⟨ht.2.2.2.2.1, ht.2.2.2.2.2.1, ht.2.2.2.2.2.2⟩
  cases o with
  | create k => rw [doP_create]; (repeat' split) <;> first | exact e0 | exact e _
  | append k d => rw [doP_append]; (repeat' split) <;> first | exact e0 | exact e _
  | sync k => rw [doP_sync]; (repeat' split) <;> first | exact e0 | exact e _
  | names => rw [doP_names]; (repeat' split) <;> first | exact e0 | exact e _
  | rename a b => rw [doP_rename]; (repeat' split) <;> first | exact e0 | exact e _
  | remove k => rw [doP_remove]; (repeat' split) <;> first | exact e0 | exact e _
structure FitN (A : Pl) (n : Nat) : Prop where
  steps : A.steps ≤ n
  pend : A.pend.length ≤ n
  now : A.now.length ≤ 3518437208780 + n
  safe : A.safe.length ≤ 3518437208780 + n
  files : A.files.length ≤ 3518437208780 + n
  fails : A.fails.length ≤ 17592186043904
  used : usedP A ≤ 140737488351232 ∨ usedP A ≤ A.room
  room : A.room ≤ 1073741824
theorem FitN.fit {A : Pl} {n : Nat} (h : FitN A n) (hn : n ≤ 1000000) : FitP A :=
  ⟨by have := h.steps; omega, by have := h.pend; omega, by have := h.now; omega, by have := h.safe; omega, by have := h.files; omega, by have := h.fails; omega, by have := h.room; rcases h.used with h | h <;> omega, h.room⟩
theorem tick_steps (A : Pl) : (tickP A).steps ≤ A.steps + 1 := by
  unfold tickP
  split
  · exact Nat.le_succ _
  · exact Nat.le_refl _
theorem fit_do {n : Nat} {A : Pl} (h : Inv A) (hf : FitN A n) (o : Opp) : FitN (doP A o).1 (n + 1) := by
  have ht := tick_rest A
  have hr := do_rest A o
  have hs := tick_steps A
  obtain ⟨f1, f2, f3, f4, f5, f6, f7, f8⟩ := hf
  have sh : (doP A o).1.steps ≤ A.steps + 1 ∧ (doP A o).1.pend.length ≤ A.pend.length + 1 ∧ (doP A o).1.now.length ≤ A.now.length + 1 ∧ ((doP A o).1.safe.length ≤ A.safe.length ∨ (doP A o).1.safe.length ≤ A.now.length) ∧ (doP A o).1.files.length ≤ A.files.length + 1 := by
    have e0 : (tickP A).steps ≤ A.steps + 1 ∧ (tickP A).pend.length ≤ A.pend.length + 1 ∧ (tickP A).now.length ≤ A.now.length + 1 ∧ ((tickP A).safe.length ≤ A.safe.length ∨ (tickP A).safe.length ≤ A.now.length) ∧ (tickP A).files.length ≤ A.files.length + 1 := by
      rw [ht.1, ht.2.1, ht.2.2.1, ht.2.2.2.1]
      exact ⟨hs, by omega, by omega, .inl (Nat.le_refl _), by omega⟩
    have e1 : ∀ c, (chgP A c).steps ≤ A.steps + 1 ∧ (chgP A c).pend.length ≤ A.pend.length + 1 ∧ (chgP A c).now.length ≤ A.now.length + 1 ∧ ((chgP A c).safe.length ≤ A.safe.length ∨ (chgP A c).safe.length ≤ A.now.length) ∧ (chgP A c).files.length ≤ A.files.length + 1 := by
      intro c
      refine ⟨hs, ?_, applyC_length c _, .inl (by show (tickP A).safe.length ≤ _; rw [ht.2.2.2.1]; exact Nat.le_refl _), by show (tickP A).files.length ≤ _; rw [ht.2.2.1]; omega⟩
      show (A.pend ++ [c]).length ≤ _
      simp
    cases o with
    | create k =>
      rw [doP_create]
      repeat' split
      · exact e0
      · exact e0
      · obtain ⟨a, b, c, d, e⟩ := e1 (.put k A.files.length)
        exact ⟨a, b, c, d, by simp⟩
    | append k d =>
      rw [doP_append]
      repeat' split
      · exact e0
      · exact e0
      · obtain ⟨a, b, c, d, e⟩ := e0
        exact ⟨a, b, c, d, by simp⟩
    | sync k =>
      rw [doP_sync]
      repeat' split
      · exact e0
      · obtain ⟨a, b, c, d, e⟩ := e0
        exact ⟨a, b, c, d, by simp⟩
    | names =>
      rw [doP_names]
      repeat' split
      · exact e0
      · obtain ⟨a, b, c, d, e⟩ := e0
        exact ⟨a, by simp, c, .inr (Nat.le_refl _), e⟩
    | rename a b =>
      rw [doP_rename]
      repeat' split
      · exact e0
      · exact e0
      · exact e1 _
    | remove k =>
      rw [doP_remove]
      repeat' split
      · exact e0
      · exact e1 _
  obtain ⟨s1, s2, s3, s4, s5⟩ := sh
  refine ⟨by omega, by omega, by omega, by omega, by omega, by rw [hr.2.1]; exact f6, ?_, by rw [hr.1]; exact f8⟩
  rw [hr.1]
  rcases used_do h o with h1 | h1
  · rcases f7 with f7 | f7
    · exact .inl (Nat.le_trans h1 f7)
    · exact .inr (Nat.le_trans h1 f7)
  · exact .inr h1
theorem lenF_used {A : Pl} {x : BS × Nat} (h : x ∈ A.now) : lenF A.files x.2 ≤ usedP A := by
  rw [usedP_eq]
  obtain ⟨s, t, e⟩ := List.append_of_mem h
  rw [e, List.map_append, List.sum_append, List.map_cons, List.sum_cons]
  omega
/-- no file is longer than memory -/
def DatN (A : Pl) : Prop := ∀ f ∈ A.files, f.1.length ≤ 140737488351232
theorem dat_do {A : Pl} (hd : DatN A) (hr : A.room ≤ 1073741824) (o : Opp) : DatN (doP A o).1 := by
  have ht := tick_rest A
  have e0 : DatN (tickP A) := by unfold DatN; rw [ht.2.2.1]; exact hd
  have e1 : ∀ c, DatN (chgP A c) := fun c => by show ∀ f ∈ (tickP A).files, _; rw [ht.2.2.1]; exact hd
  cases o with
  | create k =>
    rw [doP_create]
    (repeat' split) <;> first | exact e0 | skip
    intro f hf
    rcases List.mem_append.1 hf with e | e
    · exact hd f e
    · rw [List.mem_singleton.1 e]; exact Nat.zero_le _
  | append k d =>
    rw [doP_append]
    split
    · exact e0
    · rename_i h1
      split
      · exact e0
      · rename_i h2
        obtain ⟨_, _, g3⟩ := onP_zero (by simpa using h1)
        have hu : lenF A.files (atP A k) ≤ usedP A := lenF_used g3
        intro f hf
        have hf : f ∈ A.files.modify (atP A k) fun x => (x.1 ++ d, x.2) := hf
        obtain ⟨i, hi, e⟩ := List.getElem_of_mem hf
        rw [List.length_modify] at hi
        rw [List.getElem_modify] at e
        split at e
        · rename_i e2
          subst e2
          have : lenF A.files (atP A k) = A.files[atP A k].1.length := by unfold lenF; rw [List.getElem?_eq_getElem hi]; rfl
          rw [← e]
          simp only [List.length_append]
          rcases Nat.eq_zero_or_pos d.length with h0 | h0
          · have := hd _ (List.getElem_mem hi); omega
          · have : ¬ A.room < usedP A + d.length := fun e => h2 ⟨h0, e⟩
            omega
        · rw [← e]; exact hd _ (List.getElem_mem hi)
  | sync k =>
    rw [doP_sync]
    split
    · exact e0
    · exact modify_all (P := fun x : BS × Nat => x.1.length ≤ 140737488351232) (u := fun x : BS × Nat => (x.1, x.1.length)) (fun x hx => hx) _ _ hd
  | names =>
    rw [doP_names]
    split
    · exact e0
    · exact e0
  | rename a b =>
    rw [doP_rename]
    (repeat' split) <;> first | exact e0 | exact e1 _
  | remove k =>
    rw [doP_remove]
    (repeat' split) <;> first | exact e0 | exact e1 _
end Go.Proofs.YtnhfnfdmpcpcoaaDoor
