/-
  Chapter 9, texts merged: OnD, DiskTurn, Alter, DiskAdd, UsedLaw, SyncD, PlainD, CreateD, SyncNames, RemoveD, StepsP, RenameD, UsedD, Keep.
-/
import Derived.Test.YtnhfnfdmpcpcoaaDoorN9b
import Derived.Test.YtnhfnfdmpcpcoaaDoorN9a
import Derived.Test.YtnhfnfdmpcpcoaaDoorOwn
import Derived.Maps.RangeWalk
import Derived.Deep.LoopGhost

/-
  on: a step about a file that is there.
-/
namespace Go.Proofs.YtnhfnfdmpcpcoaaDoor
open Go.RowKit Go.Maps

def onE (S : DiskC) (L : List (List UInt8)) (k : List UInt8) : Int := if beginE S (L ++ [k]) ≠ 0 then beginE S (L ++ [k]) else if lookN S.now k = none then 90 else 0
def onF (S : DiskC) (L : List (List UInt8)) (k : List UInt8) : Option Nat := if beginE S (L ++ [k]) ≠ 0 then none else lookN S.now k
theorem beginS_now (S : DiskC) : (beginS S).now = S.now ∧ (beginS S).bn = S.bn := by unfold beginS; split <;> exact ⟨rfl, rfl⟩
theorem beginE_cases (S : DiskC) (L : List (List UInt8)) : beginE S L = 93 ∨ beginE S L = 94 ∨ beginE S L = 95 ∨ beginE S L = 0 := by
  unfold beginE
  split
  · exact .inl rfl
  · split
    · exact .inr (.inl rfl)
    · split
      · exact .inr (.inr (.inl rfl))
      · exact .inr (.inr (.inr rfl))

set_option maxHeartbeats 4000000 in
theorem on_any {w0 w : World} {P : Nat → Prop} {dd : Nat} {S : DiskC} (h : DiskAt w0 P dd S) (hb0 : Below w0.heap.size w0 w) (nm : ByteArray) (hnm : nm.size ≤ 140737488351232) (vm : Value) (L : List (List UInt8)) (hvm : OwnS w w0.heap.size vm L) (hL : L.length ≤ 100) (hsz : ∀ x ∈ L, x.length ≤ 140737488351232) (hst : S.steps ≤ 1000000) (hfl : S.fails.length ≤ 17592186043904) :
    Calls Tryd.prog 45 #[.pointer (some ⟨dd, 0, none⟩), .string nm, vm] w fun e w' => e = .returned (.tuple #[fileV (onF S L nm.data.toList), .int .i64 (onE S L nm.data.toList)]) ∧ DiskAt w' P dd (beginS S) ∧ Only (fun g => g = dd) w0 w' ∧ Only (fun g => g = dd ∨ vm.ownBlock = some g) w w' := by
  have hs0 := hb0.size
  have hown := hvm.alloc (.cells #[.string nm] 9)
  have hin := fun W => InS.one W nm
  go_enter Tryd.func45, Tryd.ntmps45
  go_wp2_with (at_builtin; refine wpList_appendS rfl _ _ rfl w0.heap.size _ _ rfl hown _ _ _ _ rfl rfl (hin _) (by simp; omega) (by simp; omega) ?_; intro v1 w1 hown1 hgrow1 _; have hB1 := OwnS.grown (hb0.alloc hs0 _) (by simp; omega) hown hgrow1; obtain ⟨q1, c1, rfl, k1, k2, hq1, _⟩ := hown1.shape rfl)
  have h1 := h.below hB1
  have hbeg := begin_any h1 (L ++ [nm.data.toList]) q1 (L.length + 1) c1 (by simp) (by omega) (fun x hx => by
    rcases List.mem_append.1 hx with hx | hx
    · exact hsz x hx
    · rw [List.mem_singleton.1 hx, size_list]; exact hnm) hq1 hst hfl
  obtain ⟨en, hen⟩ : ∃ en, en = beginE S (L ++ [nm.data.toList]) := ⟨_, rfl⟩
  have hE : onE S L nm.data.toList = if en ≠ 0 then en else if lookN S.now nm.data.toList = none then 90 else 0 := by rw [hen]; rfl
  have hF : onF S L nm.data.toList = if en ≠ 0 then none else lookN S.now nm.data.toList := by rw [hen]; rfl
  have hcs := beginE_cases S (L ++ [nm.data.toList])
  rw [← hen] at hbeg hcs
  have HE := Lib.hid hE
  have HF := Lib.hid hF
  have hone : ∀ w', Only (fun g => g = dd) w1 w' → Only (fun g => g = dd) w0 w' := fun w' ho =>
    ⟨ho.os.trans hB1.os, ho.tape.trans hB1.tape, ho.output.trans hB1.output, Nat.le_trans hB1.size ho.size, fun k hk hne => (ho.block k (Nat.lt_of_lt_of_le hk hB1.size) hne).trans (hB1.block k hk)⟩
  have htwo : ∀ w', Only (fun g => g = dd) w1 w' → Only (fun g => g = dd ∨ vm.ownBlock = some g) w w' := fun w' ho =>
    have hz := hgrow1.size
    have hba : Below w.heap.size w (w.alloc (.cells #[.string nm] 9)) := (Below.refl _ w).alloc (Nat.le_refl _) _
    have hzs : (w.alloc (.cells #[.string nm] 9)).heap.size = w.heap.size + 1 := by simp
    ⟨ho.os.trans (hgrow1.os.trans hba.os), ho.tape.trans (hgrow1.tape.trans hba.tape), ho.output.trans (hgrow1.output.trans hba.output), by have := ho.size; omega, fun k hk hne =>
      ((ho.block k (by omega) (fun e => hne (.inl e))).trans (hgrow1.block k (by omega) (fun e => hne (.inr e.symm)))).trans (hba.block k hk)⟩
  have HONE := Lib.hid hone
  have HTWO := Lib.hid htwo
  clear htwo
  clear hE hF hen hone hown hgrow1 hown1 hvm hq1
  refine hbeg.mono ?_
  rintro e w2 ⟨rfl, h2, ho2⟩
  have H2 := Lib.hid h2
  have HO2 := Lib.hid (show Only (fun g => g = dd) w0 w2 ∧ Only (fun g => g = dd ∨ vm.ownBlock = some g) w w2 from ⟨HONE.out _ ho2, HTWO.out _ ho2⟩)
  have c0 : w2.cell? ⟨dd, 0, none⟩ = some (.map (some S.bn)) := by
    have := h2.cell 0
    rw [this]
    unfold diskCells
    rw [(beginS_now S).2]; rfl
  have hmap : OwnN w2 S.bn S.now := by
    have := h2.now
    rwa [(beginS_now S).1, (beginS_now S).2] at this
  have hrun := run_lookF hmap nm (by unfold maxLen; omega)
  clear hbeg h2 ho2 hmap
  by_cases hz : en = 0
  · subst hz
    cases hl : lookN S.now nm.data.toList with
    | none =>
      have HR := Lib.hid (show onE S L nm.data.toList = 90 ∧ onF S L nm.data.toList = none by rw [HE.out, HF.out, hl]; exact ⟨rfl, rfl⟩)
      rw [hl] at hrun
      unfold fileV at hrun
      clear hl
      go_wp2_with fail
      go_ret2
      exact ⟨by rw [HR.out.1, HR.out.2]; rfl, H2.out, HO2.out⟩
    | some f =>
      have HR := Lib.hid (show onE S L nm.data.toList = 0 ∧ onF S L nm.data.toList = some f by rw [HE.out, HF.out, hl]; exact ⟨rfl, rfl⟩)
      rw [hl] at hrun
      unfold fileV at hrun
      clear hl
      go_wp2_with fail
      go_ret2
      exact ⟨by rw [HR.out.1, HR.out.2]; rfl, H2.out, HO2.out⟩
  · have HR := Lib.hid (show onE S L nm.data.toList = en ∧ onF S L nm.data.toList = none by rw [HE.out, HF.out, if_pos hz, if_pos hz]; exact ⟨rfl, rfl⟩)
    have hz2 : (en == 0) = false := beq_eq_false_iff_ne.2 hz
    have hz3 : (en != 0) = true := by simp [bne, hz2]
    go_wp2_with fail
    go_ret2
    exact ⟨by rw [HR.out.1, HR.out.2]; rfl, H2.out, HO2.out⟩
end Go.Proofs.YtnhfnfdmpcpcoaaDoor

/-
  A disk behind a change of its names, its maps or its pending changes.
-/
namespace Go.Proofs.YtnhfnfdmpcpcoaaDoor
open Go.RowKit Go.Maps

/-- what is cells of another type than a disk's or a row of changes' is as it was -/
def Typed (w w' : World) : Prop := ∀ (g : Nat) (cs : Array Value) (T : TypeId) (fr : Nat × Nat), w.heap[g]? = some (Obj.cells cs T fr) → T ≠ 79 → T ≠ 88 → w'.heap[g]? = some (Obj.cells cs T fr)
theorem Typed.trans {w w1 w2 : World} (h : Typed w w1) (h2 : Typed w1 w2) : Typed w w2 := fun g cs T fr e a b => h2 g cs T fr (h g cs T fr e a b) a b
theorem Typed.below {w w' : World} (hb : Below w.heap.size w w') : Typed w w' := fun _ _ _ _ e _ _ => Below.heap hb e
theorem chgTyped {w w' : World} {v : Value} {c : Chg} (h : IsChg w v c) (hT : Typed w w') : IsChg w' v c := by
  have k : ∀ (g : Nat) (cs : Array Value) (T : TypeId) (fr : Nat × Nat), w.heap[g]? = some (Obj.cells cs T fr) → T = 75 ∨ T = 9 → w'.heap[g]? = some (Obj.cells cs T fr) := fun g cs T fr h1 h2 =>
    hT g cs T fr h1 (by rcases h2 with rfl | rfl <;> decide) (by rcases h2 with rfl | rfl <;> decide)
  cases c with
  | put a f =>
    obtain ⟨bf, bk, nm, e1, e2, e3, e4, e5⟩ := h
    exact ⟨bf, bk, nm, e1, e2, e3, k _ _ _ _ e4 (.inl rfl), k _ _ _ _ e5 (.inr rfl)⟩
  | ren a b f =>
    obtain ⟨ba, bf, bk, na, nm, e1, e2, e3, e4, e5, e6, e7, e8⟩ := h
    exact ⟨ba, bf, bk, na, nm, e1, e2, e3, e4, e5, k _ _ _ _ e6 (.inr rfl), k _ _ _ _ e7 (.inl rfl), k _ _ _ _ e8 (.inr rfl)⟩
  | del a =>
    obtain ⟨bk, nm, e1, e2, e3, e4⟩ := h
    exact ⟨bk, nm, e1, e2, e3, k _ _ _ _ e4 (.inr rfl)⟩
theorem rowTyped {w w' : World} {base size n : Nat} {e : TypeId} {v : Value} {xs : List Value} (h : w.ownsRow base e size v n xs) (hT : Typed w w') (h1 : e ≠ 79) (h2 : e ≠ 88) : w'.ownsRow base e size v n xs := by
  refine ⟨h.1, ?_⟩
  rcases h.2 with h0 | ⟨g, cap, cur, rfl, hb, hg, r⟩
  · exact .inl h0
  · exact .inr ⟨g, cap, cur, rfl, hb, hT g _ _ _ hg h1 h2, r⟩

/-- the disk's cells, maps and pending changes turn; its files stay -/
theorem DiskAt.turn {w w' : World} {P P' : Nat → Prop} {dd : Nat} {S S' : DiskC} (h : DiskAt w P dd S) (hT : Typed w w') (hblk : w'.heap[dd]? = some (.cells (diskCells S') 79 (0, 0)))
    (hfiles : S'.files = S.files) (hfail : S'.fv = S.fv ∧ S'.fp = S.fp ∧ S'.fc = S.fc ∧ S'.fails = S.fails) (hcell : ∀ a, S.fp = some a → 0 < S.fails.length → w'.heap[a.block]? = w.heap[a.block]?)
    (hnow : OwnN w' S'.bn S'.now) (hsafe : OwnN w' S'.bs S'.safe) (hne : S'.bn ≠ S'.bs) (hrow : w'.ownsRow 0 88 1 S'.pv S'.pend.length S'.pvals)
    (hchg : ∀ (i : Nat) (v : Value) (c : Chg), S'.pvals[i]? = some v → S'.pend[i]? = some c → IsChg w' v c ∧ ChgFile S c) (hnowF : ∀ x ∈ S'.now, HasFile S x.2) (hsafeF : ∀ x ∈ S'.safe, HasFile S x.2)
    (hP : ∀ g, P g → P' g) (hP' : ∀ g, P' g → P g ∨ w.heap.size ≤ g) (hin : P' S'.bn ∧ P' S'.bs ∧ ∀ r, S'.pv.ownBlock = some r → P' r) : DiskAt w' P' dd S' := by
  have hf : ∀ g, HasFile S g → HasFile S' g := fun g ⟨f, hm, e⟩ => ⟨f, by rw [hfiles]; exact hm, e⟩
  refine ⟨hblk, hnow, hsafe, hne, hrow, ?_, ?_, ?_, ?_, ?_, ?_, ⟨hP _ h.inP.1, hin⟩⟩
  · intro i v c h1 h2
    obtain ⟨a, b⟩ := hchg i v c h1 h2
    refine ⟨a, ?_⟩
    cases c with
    | put k f => exact hf _ b
    | ren k j f => exact hf _ b
    | del k => trivial
  · obtain ⟨e1, e2, e3, e4⟩ := hfail
    rw [e1, e2, e3, e4]
    refine ⟨h.fails.1, ?_, fun a ha h0 hp => ?_⟩
    · intro h0
      obtain ⟨b, o, e, hc⟩ := h.fails.2.1 h0
      have hb := hcell _ e (by simpa using h0)
      refine ⟨b, o, e, fun k hk => ?_⟩
      have hck := hc k hk
      simp only at hb
      simp only [World.cell?, hb]
      exact hck
    · rcases hP' _ hp with h1 | h1
      · exact h.fails.2.2 a ha h0 h1
      · obtain ⟨b, o, e, hc⟩ := h.fails.2.1 (by simpa using h0)
        have hlt := World.block_lt_of_cell? w _ (hc 0 (by simpa using h0))
        have ha : S.fp = some a := ha
        rw [e] at ha
        injection ha with ha
        subst ha
        simp only at h1 hlt
        omega
  · intro i f hi
    rw [hfiles] at hi
    obtain ⟨a1, a2, a3, a4, a5⟩ := h.files i f hi
    exact ⟨hT _ _ _ _ a1 (by decide) (by decide), rowTyped a2 hT (by decide) (by decide), fun r hr => hP r (a3 r hr), hP _ a4, a5⟩
  · rw [hfiles]; exact h.apart
  · exact fun x hx => hf _ (hnowF x hx)
  · exact fun x hx => hf _ (hsafeF x hx)
end Go.Proofs.YtnhfnfdmpcpcoaaDoor

/-
  alter: a change is made and kept.
-/
namespace Go.Proofs.YtnhfnfdmpcpcoaaDoor
open Go.RowKit Go.Maps

theorem infoC : (Tryd.prog.info? 88).map (fun i => (i.zero, i.size, i.bytes)) = some (some .nilFunc, 1, 8) := by kernel_rfl
theorem chg_form {w : World} {v : Value} {c : Chg} (h : IsChg w v c) : v.oneCell' = true := by
  cases c with
  | put k f => obtain ⟨bf, bk, nm, _, _, rfl, _⟩ := h; rfl
  | ren a k f => obtain ⟨ba, bf, bk, na, nm, _, _, _, _, rfl, _⟩ := h; rfl
  | del k => obtain ⟨bk, nm, _, _, rfl, _⟩ := h; rfl

set_option maxHeartbeats 4000000 in
theorem chg_enter {w : World} {g : Nat} {cap : Array Value} {c : Chg} (hc : IsChg w (.func (.func g) #[] cap) c) : ∀ (args : Array Value) (w : World), (callFunc g args).run Tryd.prog w = .ok (.enter g args) w := by
  cases c with
  | put k f =>
    obtain ⟨bf, bk, nm, _, _, e, _⟩ := hc
    injection e with e
    injection e with e
    subst e
    exact enters_of Tryd.func44 (by kernel_rfl) rfl
  | ren a k f =>
    obtain ⟨ba, bf, bk, na, nm, _, _, _, _, e, _⟩ := hc
    injection e with e
    injection e with e
    subst e
    exact enters_of Tryd.func66 (by kernel_rfl) rfl
  | del k =>
    obtain ⟨bk, nm, _, _, e, _⟩ := hc
    injection e with e
    injection e with e
    subst e
    exact enters_of Tryd.func67 (by kernel_rfl) rfl

set_option maxHeartbeats 4000000 in
set_option maxRecDepth 100000 in
theorem alter_any {w : World} {P : Nat → Prop} {dd : Nat} {S : DiskC} (h : DiskAt w P dd S) (v : Value) (c : Chg) (hc : IsChg w v c) (hcf : ChgFile S c) (hl : S.now.length ≤ 4000000000000) (hp : S.pend.length ≤ 1000000) :
    Calls Tryd.prog 43 #[.pointer (some ⟨dd, 0, none⟩), v] w fun e w' => e = .returned (.int .i64 0) ∧ (∃ pv' P', DiskAt w' P' dd { S with now := applyC c S.now, pend := S.pend ++ [c], pvals := S.pvals ++ [v], pv := pv' } ∧ ∀ g, P' g → P g ∨ w.heap.size ≤ g) ∧ Only P w w' := by
  obtain ⟨g, cap, rfl, hcall⟩ := chg_call h.now hc (by unfold maxLen; omega)
  have c0 : w.cell? ⟨dd, 0, none⟩ = some (.map (some S.bn)) := h.cell 0
  have hent := chg_enter hc
  go_enter Tryd.func43, Tryd.ntmps43
  go_wp2_with fail
  refine hcall.mono ?_
  rintro e w1 ⟨rfl, hnow1, hg1, hsz1⟩
  clear hcall hent
  have hE1 : Else w w1 S.bn := fun k hk => by
    by_cases hlt : k < w.heap.size
    · exact hg1.block k hlt (fun e => hk (by injection e))
    · rw [Array.getElem?_eq_none (by omega), Array.getElem?_eq_none (by omega)]
  have hmn : ∀ (k : Nat) (cs : Array Value) (T : TypeId) (fr : Nat × Nat), w.heap[k]? = some (Obj.cells cs T fr) → w1.heap[k]? = some (Obj.cells cs T fr) := fun k cs T fr hk => (hE1 k (fun e => map_ne h.now hk e.symm)).trans hk
  have hblk1 := hmn _ _ _ _ h.blk
  have hrow1 : w1.ownsRow 0 88 1 S.pv S.pend.length S.pvals := rowElse h.row hE1 (fun e => by
    obtain ⟨cur, hc2⟩ := rowBlk h.row e
    exact map_ne h.now hc2 rfl)
  have hc1 : IsChg w1 (.func (.func g) #[] cap) c := chgTyped hc (fun k cs T fr hk _ _ => hmn k cs T fr hk)
  have hsafe1 : OwnN w1 S.bs S.safe := h.safe.kept (hE1 _ (fun e => h.ne e.symm))
  have c2 : w1.cell? ⟨dd, 2, none⟩ = some S.pv := by rw [cell_of_row _ _ _ _ _ _ hblk1]; rfl
  have hown3 := World.ownsRow.alloc hrow1 (.cells #[.func (.func g) #[] cap] 88)
  have hsrc := srcV (c := 1) (e := 88) (t := 77) Tryd.underlying77 (InV.one w1 (.func (.func g) #[] cap) 88) (by intro u hu; rw [List.mem_singleton.1 hu]; rfl)
  have H := Lib.hid h
  have HC1 := Lib.hid hc1
  have HC := Lib.hid hc
  have HSZ := Lib.hid hsz1
  clear hc hc1 h hsz1
  go_wp2_with (
    at_builtin
    refine wpList_append_way _ rfl _ _ 77 77 rfl 0 88 .nilFunc 1 8 Tryd.underlying77 infoC rfl _ S.pend.length S.pvals rfl hown3 _ 1 [.func (.func g) #[] cap] rfl hsrc (by unfold maxLen; omega) (by omega) (by omega) ?_
    intro v4 w4 hown4 hgrow4 hway4
    have hblk4 := (hgrow4.block dd (by have := lt_of_heap hblk1; simp; omega) (fun e => row_ne hrow1 hblk1 (by decide) e.symm)).trans ((heap_alloc_old _ _ (lt_of_heap hblk1)).trans hblk1)
    have d2 : w4.cell? ⟨dd, 2, none⟩ = some S.pv := by rw [cell_of_row _ _ _ _ _ _ hblk4]; rfl
    have f4 := fun i => frozen_of_row w4 dd i _ _ hblk4
    have H4 := Lib.hid hway4
    obtain ⟨p4, c4, rfl, z1, z2, _, _⟩ := owns_shape hown4)
  go_ret
  have h := H.out
  have hsz := HSZ.out
  obtain ⟨wa, hwa⟩ : ∃ W0, W0 = w1.alloc (.cells #[.func (.func g) #[] cap] 88) := ⟨_, rfl⟩
  have hba : Below w1.heap.size w1 wa := by rw [hwa]; exact (Below.refl _ w1).alloc (Nat.le_refl _) _
  have hga : wa.grownBy w4 S.pv.ownBlock := by rw [hwa]; exact hgrow4
  have hwy : Way wa S.pv (.slice p4 (S.pend.length + 1) c4) := by rw [hwa]; exact hway4
  obtain ⟨w5, hw5⟩ : ∃ W0, W0 = w4.setCell ⟨dd, 2, none⟩ (.slice p4 (S.pend.length + 1) c4) := ⟨_, rfl⟩
  rw [← hw5]
  have hE5 : Else w4 w5 dd := fun k hk => by rw [hw5]; exact Below.heap_setCell _ _ _ _ hk
  have hblk5 : w5.heap[dd]? = some (.cells (diskCells { S with now := applyC c S.now, pend := S.pend ++ [c], pvals := S.pvals ++ [.func (.func g) #[] cap], pv := .slice p4 (S.pend.length + 1) c4 }) 79 (0, 0)) := by
    rw [hw5]
    simp only [World.setCell, Array.getElem?_modify, hblk4]
    simp [diskCells]
  have pvr : ∀ (k : Nat) (cs : Array Value) (T : TypeId) (fr : Nat × Nat), w1.heap[k]? = some (Obj.cells cs T fr) → T ≠ 88 → w4.heap[k]? = some (Obj.cells cs T fr) := fun k cs T fr hk hT =>
    have hk2 := Below.heap hba hk
    (hga.block k (lt_of_heap hk2) (fun e => row_ne hrow1 hk (fun e2 => hT e2.symm) e.symm)).trans hk2
  have hT15 : Typed w w5 := fun k cs T fr hk t1 t2 => by
    have h4 := pvr k cs T fr (hmn k cs T fr hk) t2
    exact (hE5 k (blk_ne h4 hblk4 t1)).trans h4
  have mapk : ∀ (b : Nat) (M : NM), OwnN w1 b M → OwnN w5 b M := fun b M hM => by
    have h2 := hM.below hba
    have h4 : OwnN w4 b M := h2.kept (hga.block b h2.lt (fun e => by
      obtain ⟨cur, hc⟩ := rowBlk hrow1 e.symm
      exact map_ne hM hc rfl))
    exact h4.kept (hE5 b (map_ne h4 hblk4))
  have hlen : S.pvals.length = S.pend.length := by have := h.row.1; omega
  have hd : DiskAt w5 (fun k => P k ∨ (Value.slice p4 (S.pend.length + 1) c4).ownBlock = some k) dd { S with now := applyC c S.now, pend := S.pend ++ [c], pvals := S.pvals ++ [.func (.func g) #[] cap], pv := .slice p4 (S.pend.length + 1) c4 } := by
    refine h.turn hT15 hblk5 rfl ⟨rfl, rfl, rfl, rfl⟩ (fun a ha h0 => ?_) (mapk _ _ hnow1) (mapk _ _ hsafe1) h.ne ?_ ?_ ?_ h.safeF (fun k hk => .inl hk) ?_ ⟨.inl h.inP.2.1, .inl h.inP.2.2.1, fun r hr => .inr hr⟩
    · have hnp := h.fails.2.2 a ha h0
      obtain ⟨b, o, e, hcc⟩ := h.fails.2.1 (by simpa using h0)
      have hlt := World.block_lt_of_cell? w _ (hcc 0 (by simpa using h0))
      rw [e] at ha
      injection ha with ha
      subst ha
      simp only at hlt hnp
      have e1 := hE1 b (fun e => hnp (by rw [e]; exact h.inP.2.1))
      have e2 := hba.block b (by omega)
      have e3 := hga.block b (by have := hba.size; omega) (fun e => hnp (h.inP.2.2.2 b e.symm))
      have e4 := hE5 b (fun e => hnp (by rw [e]; exact h.inP.1))
      exact ((e4.trans e3).trans e2).trans e1
    · show w5.ownsRow 0 88 1 (.slice p4 (S.pend.length + 1) c4) (S.pend ++ [c]).length (S.pvals ++ [.func (.func g) #[] cap])
      rw [List.length_append]
      exact rowElse hown4 hE5 (row_ne hown4 hblk4 (by decide))
    · intro j v' c' h1 h2
      simp only at h1 h2
      by_cases hj : j < S.pend.length
      · rw [List.getElem?_append_left (by omega)] at h1 h2
        obtain ⟨a, b⟩ := h.chg j v' c' h1 h2
        exact ⟨chgTyped a hT15, b⟩
      · have hlt2 := (List.getElem?_eq_some_iff.1 h2).1
        rw [List.length_append] at hlt2
        simp only [List.length_cons, List.length_nil] at hlt2
        obtain rfl : j = S.pend.length := by omega
        rw [List.getElem?_append_right (by omega)] at h1 h2
        simp only [Nat.sub_self, hlen, List.getElem?_cons_zero, Option.some.injEq] at h1 h2
        subst h1 h2
        exact ⟨chgTyped HC.out hT15, hcf⟩
    · intro x hx
      cases c with
      | put k f =>
        rcases insN_mem k f x S.now hx with e | e
        · rw [e]; exact hcf
        · exact h.nowF x e
      | ren a k f =>
        rcases insN_mem k f x _ hx with e | e
        · rw [e]; exact hcf
        · exact h.nowF x (List.mem_filter.1 e).1
      | del k => exact h.nowF x (List.mem_filter.1 hx).1
    · intro k hk
      rcases hk with hk | hk
      · exact .inl hk
      · rcases hwy k hk with e | e
        · exact .inl (h.inP.2.2.2 k e)
        · have := hba.size; exact .inr (by omega)
  refine ⟨rfl, ⟨_, _, hd, fun k hk => ?_⟩, ?_⟩
  · rcases hk with hk | hk
    · exact .inl hk
    · rcases hwy k hk with e | e
      · exact .inl (h.inP.2.2.2 k e)
      · have := hba.size; exact .inr (by omega)
  · have hos : w4.os = w.os := hga.os.trans (hba.os.trans hg1.os)
    have hot : w4.tape = w.tape := hga.tape.trans (hba.tape.trans hg1.tape)
    have hoo : w4.output = w.output := hga.output.trans (hba.output.trans hg1.output)
    have hz4 := hga.size
    have hza := hba.size
    refine ⟨by rw [hw5]; exact hos, by rw [hw5]; exact hot, by rw [hw5]; exact hoo, by rw [hw5]; simp only [World.setCell]; simp; omega, fun k hk hnk => ?_⟩
    have e1 := hE1 k (fun e => hnk (by rw [e]; exact h.inP.2.1))
    have e2 := hba.block k (by omega)
    have e3 := hga.block k (by omega) (fun e => hnk (h.inP.2.2.2 k e.symm))
    have e4 := hE5 k (fun e => hnk (by rw [e]; exact h.inP.1))
    exact ((e4.trans e3).trans e2).trans e1
end Go.Proofs.YtnhfnfdmpcpcoaaDoor

/-
  A disk behind a new file.
-/
namespace Go.Proofs.YtnhfnfdmpcpcoaaDoor
open Go.RowKit Go.Maps

theorem hasFile_add {S : DiskC} (f : FileC) {g : Nat} (h : HasFile S g) : HasFile { S with files := S.files ++ [f] } g := by
  obtain ⟨z, hz, e⟩ := h
  exact ⟨z, List.mem_append_left _ hz, e⟩
theorem hasFile_new {S : DiskC} (f : FileC) : HasFile { S with files := S.files ++ [f] } f.blk := ⟨f, by simp, rfl⟩

/-- one file more -/
theorem DiskAt.addFile {w w' : World} {P : Nat → Prop} {dd : Nat} {S : DiskC} (h : DiskAt w P dd S) (f : FileC) (hE : Else2 w w' dd none) (hblk : w'.heap[dd]? = some (.cells (diskCells { S with files := S.files ++ [f] }) 79 (0, 0)))
    (hcell : w'.heap[f.blk]? = some (.cells #[.int .i64 S.files.length, f.val, .int .i64 f.firm] 81 (0, 0))) (hown : Own8 w' 0 f.val f.data) (hnew : w.heap.size ≤ f.blk) (hrow : ∀ r, f.val.ownBlock = some r → w.heap.size ≤ r) (hfm : f.firm ≤ f.data.length) :
    DiskAt w' (fun g => P g ∨ g = f.blk ∨ f.val.ownBlock = some g) dd { S with files := S.files ++ [f] } := by
  have nn : ∀ g : Nat, some g ≠ none := fun g e => by cases e
  have ty : ∀ (g : Nat) (cs : Array Value) (T : TypeId) (fr : Nat × Nat), w.heap[g]? = some (Obj.cells cs T fr) → T ≠ 79 → g ≠ dd := fun g cs T fr hg t1 => blk_ne hg h.blk t1
  refine ⟨hblk, ?_, ?_, h.ne, ?_, ?_, ?_, ?_, ?_, ?_, ?_, ?_⟩
  · exact h.now.kept (hE _ h.now.lt (map_ne h.now h.blk) (nn _))
  · exact h.safe.kept (hE _ h.safe.lt (map_ne h.safe h.blk) (nn _))
  · exact rowElse2 h.row hE (row_ne h.row h.blk (by decide)) (fun r hr e => by cases e)
  · intro j v c h1 h2
    refine ⟨chgElse2 (h.chg j v c h1 h2).1 hE fun g cs T fr hg hT => ⟨ty g cs T fr hg ?_, nn _⟩, ?_⟩
    · rcases hT with rfl | rfl <;> decide
    · have := (h.chg j v c h1 h2).2
      cases c with
      | put a b => exact hasFile_add f this
      | ren a b d => exact hasFile_add f this
      | del a => trivial
  · refine ⟨h.fails.1, ?_, fun a ha h0 hP => ?_⟩
    · intro h0
      obtain ⟨b, o, e, hc⟩ := h.fails.2.1 h0
      have hnp := h.fails.2.2 ⟨b, o, none⟩ e (by simpa using h0)
      refine ⟨b, o, e, fun k hk => ?_⟩
      have hck := hc k hk
      have hlt := World.block_lt_of_cell? w _ hck
      have hb2 := hE b hlt (fun e2 => hnp (by rw [e2]; exact h.inP.1)) (nn _)
      simp only [World.cell?, hb2]
      exact hck
    · obtain ⟨b, o, e, hc⟩ := h.fails.2.1 (by simpa using h0)
      have hlt := World.block_lt_of_cell? w _ (hc 0 (by simpa using h0))
      have hnp := h.fails.2.2 a ha h0
      have ha : S.fp = some a := ha
      rw [e] at ha
      injection ha with ha
      subst ha
      simp only at hlt hP hnp
      rcases hP with hP | hP | hP
      · exact hnp hP
      · omega
      · have := hrow _ hP; omega
  · intro j z hz
    by_cases hj : j < S.files.length
    · rw [List.getElem?_append_left hj] at hz
      obtain ⟨e1, e2, e3, e4, e5⟩ := h.files j z hz
      exact ⟨keep2 hE e1 (ty _ _ _ _ e1 (by decide)) (nn _), rowElse2 e2 hE (row_ne e2 h.blk (by decide)) (fun r hr e => by cases e), fun r hr => .inl (e3 r hr), .inl e4, e5⟩
    · have hlt2 := (List.getElem?_eq_some_iff.1 hz).1
      rw [List.length_append] at hlt2
      simp only [List.length_cons, List.length_nil] at hlt2
      obtain rfl : j = S.files.length := by omega
      rw [List.getElem?_append_right (Nat.le_refl _)] at hz
      simp only [Nat.sub_self, List.getElem?_cons_zero, Option.some.injEq] at hz
      subst hz
      exact ⟨hcell, hown, fun r hr => .inr (.inr hr), .inr (.inl rfl), hfm⟩
  · rw [List.pairwise_append]
    refine ⟨h.apart, List.pairwise_singleton _ _, fun z hz y hy => ?_⟩
    rw [List.mem_singleton.1 hy]
    obtain ⟨j, hj, e⟩ := List.getElem_of_mem hz
    obtain ⟨e1, e2, _⟩ := h.files j z (by rw [List.getElem?_eq_getElem hj, e])
    refine ⟨fun e3 => ?_, fun r hr e3 => ?_⟩
    · have := lt_of_heap e1; omega
    · obtain ⟨cur, hc⟩ := rowBlk e2 hr
      have := lt_of_heap hc
      have := hrow r e3
      omega
  · exact fun x hx => hasFile_add f (h.nowF x hx)
  · exact fun x hx => hasFile_add f (h.safeF x hx)
  · exact ⟨.inl h.inP.1, .inl h.inP.2.1, .inl h.inP.2.2.1, fun r hr => .inl (h.inP.2.2.2 r hr)⟩
end Go.Proofs.YtnhfnfdmpcpcoaaDoor

/-
  The bytes of all files, in whatever order they come.
-/
namespace Go.Proofs.YtnhfnfdmpcpcoaaDoor
open Go.RowKit Go.Maps

def datF (S : DiskC) (g : Nat) : BS := match S.files.find? (fun f => decide (f.blk = g)) with | some f => f.data | none => []
def sumF (f : BS × Nat → Nat) (left : Lit → Bool) (M : NM) : Nat := ((M.filter fun x => !left (.string x.1)).map f).sum
def usedS (S : DiskC) : Nat := (S.now.map fun x => (datF S x.2).length).sum

theorem sumF_start (f : BS × Nat → Nat) (left : Lit → Bool) : ∀ M : NM, (∀ x ∈ M, left (.string x.1) = true) → sumF f left M = 0
  | [], _ => rfl
  | x :: M, h => by
    unfold sumF
    rw [List.filter_cons, if_neg (by rw [h x (List.mem_cons_self ..)]; simp)]
    exact sumF_start f left M fun y hy => h y (List.mem_cons_of_mem _ hy)
theorem sumF_end (f : BS × Nat → Nat) (left : Lit → Bool) (h : ∀ kl, left kl = false) (M : NM) : sumF f left M = (M.map f).sum := by
  unfold sumF
  rw [List.filter_eq_self.2 (fun x _ => by rw [h]; rfl)]
theorem sumF_same (f : BS × Nat → Nat) (left : Lit → Bool) (k : BS) (M : NM) (h : ∀ x ∈ M, x.1 ≠ k) : sumF f (fun z => left z && !z.sameKey (.string k)) M = sumF f left M := by
  unfold sumF
  congr 2
  apply List.filter_congr
  intro x hx
  show (!(left (.string x.1) && !(Lit.string x.1).sameKey (.string k))) = _
  rw [same_str, decide_eq_false (h x hx)]
  simp
theorem sumF_step (f : BS × Nat → Nat) (left : Lit → Bool) (k : BS) (b : Nat) (hl : left (.string k) = true) : ∀ M : NM, Rises M → (k, b) ∈ M → sumF f (fun z => left z && !z.sameKey (.string k)) M = sumF f left M + f (k, b)
  | [], _, h => by cases h
  | (m, g) :: M, hr, h => by
    unfold Rises at hr
    rw [List.pairwise_cons] at hr
    by_cases e : m = k
    · subst e
      have hne : ∀ x ∈ M, x.1 ≠ m := fun x hx e2 => by have := hr.1 x hx; simp only at this; rw [e2] at this; exact List.lt_irrefl _ this
      have hg : g = b := by
        rcases List.mem_cons.1 h with h | h
        · injection h with _ h; exact h.symm
        · exact absurd rfl (hne _ h)
      subst hg
      have hs := sumF_same f left m M hne
      unfold sumF at hs ⊢
      rw [List.filter_cons, if_pos (by show (!(left (.string m) && !(Lit.string m).sameKey (.string m))) = true; rw [same_str]; simp), List.filter_cons, if_neg (by rw [hl]; simp), List.map_cons, List.sum_cons, hs]
      omega
    · have h2 : (k, b) ∈ M := by
        rcases List.mem_cons.1 h with h | h
        · injection h with h _; exact absurd h.symm e
        · exact h
      have ih := sumF_step f left k b hl M hr.2 h2
      unfold sumF at ih ⊢
      rw [List.filter_cons, List.filter_cons]
      have hp : (!(left (.string m) && !(Lit.string m).sameKey (.string k))) = !left (.string m) := by rw [same_str, decide_eq_false e]; simp
      simp only [hp]
      split
      · rw [List.map_cons, List.sum_cons, List.map_cons, List.sum_cons, ih]; omega
      · exact ih
theorem sumF_le (f : BS × Nat → Nat) (left : Lit → Bool) : ∀ M : NM, sumF f left M ≤ (M.map f).sum
  | [] => Nat.le_refl _
  | x :: M => by
    have ih := sumF_le f left M
    unfold sumF at ih ⊢
    rw [List.filter_cons]
    split
    · rw [List.map_cons, List.sum_cons, List.map_cons, List.sum_cons]; omega
    · rw [List.map_cons, List.sum_cons]; omega
theorem Dm_has (k : BS) (M : NM) : Maps.has (Dm M) (.string k) = M.any fun x => decide (x.1 = k) := by
  show (M.map encN).any _ = _
  rw [List.any_map]
  congr 1
  funext x
  exact same_str x.1 k
theorem Dm_has_mem (M : NM) (x : BS × Nat) (h : x ∈ M) : Maps.has (Dm M) (.string x.1) = true := by
  rw [Dm_has, List.any_eq_true]
  exact ⟨x, h, by simp⟩
theorem Dm_mem {M : NM} {k : BS} {o : Option Nat} (h : ∀ zd, (Dm M).atKey (.string k) zd = fileD o) : ∃ b, o = some b ∧ (k, b) ∈ M := by
  have h1 := h (fileD none)
  rw [Dm_at] at h1
  have e : lookN M k = o := by
    have := fileR_inv (v := fileV (lookN M k)) (o := o) (ps := []) (by rw [fileR_mk, h1])
    cases hl : lookN M k with
    | none => rw [hl] at this; cases o with
      | none => rfl
      | some b => cases this
    | some a => rw [hl] at this; cases o with
      | none => cases this
      | some b => injection this with e; injection e with e; injection e with e; rw [e]
  cases o with
  | some b => exact ⟨b, rfl, lookN_mem _ _ _ e⟩
  | none =>
    exfalso
    have h2 := h (.lit (.int .i64 7))
    have h3 : ∀ (L : NM) (zd : DataW Unit), lookN L k = none → (Dm L).atKey (.string k) zd = zd := by
      intro L zd
      induction L with
      | nil => intro _; rfl
      | cons y L ih =>
        intro hl
        rw [lookN_cons] at hl
        split at hl
        · cases hl
        · rename_i hne
          have ih := ih hl
          unfold Dm DataW.atKey at ih ⊢
          simp only [List.map_cons, List.find?_cons]
          have : ((encN y).1.sameKey (.string k)) = false := by
            show (Lit.string y.1).sameKey (.string k) = false
            rw [same_str]; exact decide_eq_false hne
          simp only [this]
          exact ih
    rw [h3 M _ e] at h2
    simp [fileD] at h2
theorem datF_mem {S : DiskC} {f : FileC} (hp : S.files.Pairwise fun f g => f.blk ≠ g.blk ∧ ∀ r, f.val.ownBlock = some r → g.val.ownBlock ≠ some r) (hf : f ∈ S.files) : datF S f.blk = f.data := by
  have : ∀ F : List FileC, (F.Pairwise fun f g => f.blk ≠ g.blk ∧ ∀ r, f.val.ownBlock = some r → g.val.ownBlock ≠ some r) → f ∈ F → F.find? (fun z => decide (z.blk = f.blk)) = some f := by
    intro F
    induction F with
    | nil => intro _ h; cases h
    | cons z F ih =>
      intro hp h
      rw [List.pairwise_cons] at hp
      rw [List.find?_cons]
      rcases List.mem_cons.1 h with h | h
      · subst h; simp
      · have : decide (z.blk = f.blk) = false := decide_eq_false (hp.1 f h).1
        rw [this]
        exact ih hp.2 h
  unfold datF
  rw [this _ hp hf]
end Go.Proofs.YtnhfnfdmpcpcoaaDoor

/-
  Sync: a file's bytes are safe.
-/
namespace Go.Proofs.YtnhfnfdmpcpcoaaDoor
open Go.RowKit Go.Maps

/-- the files, of which the one in block g turns -/
def setF (g : Nat) (u : FileC → FileC) (F : List FileC) : List FileC := F.map fun f => if f.blk = g then u f else f
theorem setF_set (g : Nat) (u : FileC → FileC) (F : List FileC) (i : Nat) (f : FileC) (hf : F[i]? = some f) (hg : f.blk = g) (ha : F.Pairwise fun f g => f.blk ≠ g.blk ∧ ∀ r, f.val.ownBlock = some r → g.val.ownBlock ≠ some r) : setF g u F = F.set i (u f) := by
  obtain ⟨hi, ei⟩ := List.getElem?_eq_some_iff.1 hf
  unfold setF
  apply List.ext_getElem
  · simp
  · intro j h1 h2
    have hj : j < F.length := by simpa using h1
    rw [List.getElem_map, List.getElem_set]
    by_cases hij : i = j
    · subst hij
      rw [if_pos rfl, ei, if_pos hg]
    · rw [if_neg hij, if_neg]
      intro e
      have hp := List.pairwise_iff_getElem.1 ha
      rcases Nat.lt_or_gt_of_ne hij with hlt | hlt
      · have := (hp i j hi hj hlt).1
        rw [ei, hg] at this
        exact this e.symm
      · have := (hp j i hj hi hlt).1
        rw [ei, hg] at this
        exact this e
def syncS (S : DiskC) (k : List UInt8) : DiskC :=
  match onF S [] k with
  | none => beginS S
  | some g => { beginS S with files := setF g (fun f => { f with firm := f.data.length }) (beginS S).files }
theorem onE_F (S : DiskC) (L : List (List UInt8)) (k : List UInt8) : (onE S L k = 0 ↔ ∃ g, onF S L k = some g) := by
  unfold onE onF
  by_cases h : beginE S (L ++ [k]) ≠ 0
  · rw [if_pos h, if_pos h]
    exact ⟨fun e => absurd e h, fun ⟨g, e⟩ => by cases e⟩
  · rw [if_neg h, if_neg h]
    cases lookN S.now k with
    | none => simp
    | some g => simp

set_option maxHeartbeats 4000000 in
theorem sync_any {w : World} {P : Nat → Prop} {dd : Nat} {S : DiskC} (h : DiskAt w P dd S) (nm : ByteArray) (hnm : nm.size ≤ 140737488351232) (hst : S.steps ≤ 1000000) (hfl : S.fails.length ≤ 17592186043904) :
    Calls Tryd.prog 15 #[.pointer (some ⟨dd, 0, none⟩), .string nm] w fun e w' => e = .returned (.int .i64 (onE S [] nm.data.toList)) ∧ (∃ P', DiskAt w' P' dd (syncS S nm.data.toList) ∧ ∀ g, P' g → P g) ∧ Only P w w' := by
  have hon := on_any h (Below.refl _ w) nm hnm (.slice none 0 0) [] (OwnS.nil _ _) (by simp) (by simp) hst hfl
  have hif := onE_F S [] nm.data.toList
  obtain ⟨en, hen⟩ : ∃ en, en = onE S [] nm.data.toList := ⟨_, rfl⟩
  rw [← hen] at hon hif ⊢
  have hsub : ∀ w', Only (fun g => g = dd) w w' → Only P w w' := fun w' ho => ⟨ho.os, ho.tape, ho.output, ho.size, fun k hk hne => ho.block k hk (fun e => hne (by rw [e]; exact h.inP.1))⟩
  have HSUB := Lib.hid hsub
  clear hen hsub
  cases hf : onF S [] nm.data.toList with
  | none =>
    have hz : ¬ en = 0 := fun e => by obtain ⟨g, e2⟩ := hif.1 e; rw [hf] at e2; cases e2
    have hz2 : (en == 0) = false := beq_eq_false_iff_ne.2 hz
    have HS := Lib.hid (show syncS S nm.data.toList = beginS S by unfold syncS; rw [hf])
    rw [hf] at hon
    clear hif hf
    go_enter Tryd.func15, Tryd.ntmps15
    go_wp2_with fail
    refine hon.mono ?_
    rintro e w1 ⟨rfl, h1, ho1, _⟩
    clear hon
    go_wp2_with fail
    go_ret
    exact ⟨rfl, ⟨P, by rw [HS.out]; exact h1, fun _ hg => hg⟩, HSUB.out _ ho1⟩
  | some g =>
    have hz : en = 0 := hif.2 ⟨g, hf⟩
    subst hz
    have HS := Lib.hid (show syncS S nm.data.toList = { beginS S with files := setF g (fun f => { f with firm := f.data.length }) (beginS S).files } by unfold syncS; rw [hf])
    have hnow : lookN S.now nm.data.toList = some g := by
      unfold onF at hf
      split at hf
      · cases hf
      · exact hf
    have hmem := lookN_mem _ _ _ hnow
    rw [hf] at hon
    unfold fileV at hon
    clear hif hf hnow
    go_enter Tryd.func15, Tryd.ntmps15
    go_wp2_with fail
    refine hon.mono ?_
    rintro e w1 ⟨rfl, h1, ho1, _⟩
    clear hon
    have hmem1 : (nm.data.toList, g) ∈ (beginS S).now := by rw [(beginS_now S).1]; exact hmem
    obtain ⟨f, hfm, hfg⟩ := h1.nowF _ hmem1
    obtain ⟨i, hi, ei⟩ := List.getElem_of_mem hfm
    have hfi : (beginS S).files[i]? = some f := by rw [List.getElem?_eq_getElem hi, ei]
    obtain ⟨b1, b2, b3, b4, b5⟩ := h1.files i f hfi
    simp only at hfg
    subst hfg
    obtain ⟨pv, cv, hval, k1, k2, _⟩ := b2.in8n rfl
    have c1 : w1.cell? ⟨f.blk, 1, none⟩ = some (.slice pv f.data.length cv) := by rw [cell_of_row _ _ _ _ _ _ b1, ← hval]; rfl
    have c2 : w1.cell? ⟨f.blk, 2, none⟩ = some (.int .i64 f.firm) := by rw [cell_of_row _ _ _ _ _ _ b1]; rfl
    have f2 := fun i => frozen_of_row w1 f.blk i _ _ b1
    go_wp2_with fail
    go_ret
    obtain ⟨w2, hw2⟩ : ∃ W0, W0 = w1.setCell ⟨f.blk, 2, none⟩ (.int .i64 f.data.length) := ⟨_, rfl⟩
    rw [← hw2]
    have hcell : w2.heap[f.blk]? = some (.cells #[.int .i64 i, f.val, .int .i64 f.data.length] 81 (0, 0)) := by
      rw [hw2]
      simp only [World.setCell, Array.getElem?_modify, b1]
      simp
    have hother : ∀ k, k ≠ f.blk → w2.heap[k]? = w1.heap[k]? := fun k hk => by rw [hw2]; exact Below.heap_setCell _ _ _ _ hk
    have hne := row_ne b2 b1 (by decide)
    have h2 := h1.setFile (f' := { f with firm := f.data.length }) hfi rfl hcell (fun k _ hk _ => hother k hk) (rowElse b2 hother hne) (fun r hr => .inl hr) (Nat.le_refl _)
    have ho2 : Only P w w2 := by
      have ho := HSUB.out _ ho1
      refine ⟨?_, ?_, ?_, ?_, fun k hk hnk => (hother k (fun e => hnk (by rw [e]; exact b4))).trans (ho.block k hk hnk)⟩
      · rw [hw2]; exact ho.os
      · rw [hw2]; exact ho.tape
      · rw [hw2]; exact ho.output
      · rw [hw2]; simpa [World.setCell] using ho.size
    refine ⟨rfl, ⟨fun g => P g ∨ f.val.ownBlock = some g, ?_, fun g hg => ?_⟩, ho2⟩
    · rw [HS.out, setF_set f.blk _ _ i f hfi rfl h1.apart]
      exact h2
    · rcases hg with hg | hg
      · exact hg
      · exact b3 g hg
end Go.Proofs.YtnhfnfdmpcpcoaaDoor

/-
  A disk as plain data: the files by their numbers.
-/
namespace Go.Proofs.YtnhfnfdmpcpcoaaDoor
open Go.RowKit Go.Maps

structure Pl where
  now : NM
  safe : NM
  pend : List Chg
  files : List (BS × Nat)
  room : Nat
  fails : List Int
  power : Int
  steps : Nat
inductive Opp where
  | create (k : BS)
  | append (k d : BS)
  | sync (k : BS)
  | names
  | rename (a b : BS)
  | remove (k : BS)
def downP (A : Pl) : Bool := decide (0 ≤ A.power ∧ (A.steps : Int) = A.power)
def begP (A : Pl) (L : List BS) : Int := if downP A = true then 93 else if A.fails.contains ((A.steps : Int) + 1) = true then 94 else if L.any badN = true then 95 else 0
def tickP (A : Pl) : Pl := if downP A = true then A else { A with steps := A.steps + 1 }
def onP (A : Pl) (L : List BS) (k : BS) : Int := if begP A (L ++ [k]) ≠ 0 then begP A (L ++ [k]) else if lookN A.now k = none then 90 else 0
def datP (A : Pl) (i : Nat) : BS := (A.files[i]?.map (·.1)).getD []
def firmP (A : Pl) (i : Nat) : Nat := (A.files[i]?.map (·.2)).getD 0
def usedP (A : Pl) : Nat := (A.now.map fun x => (datP A x.2).length).sum
def atP (A : Pl) (k : BS) : Nat := (lookN A.now k).getD 0
def chgP (A : Pl) (c : Chg) : Pl := { tickP A with now := applyC c A.now, pend := A.pend ++ [c] }
/-- a step, and what it answers -/
def doP (A : Pl) : Opp → Pl × Int
  | .create k => if begP A [k] ≠ 0 then (tickP A, begP A [k]) else if lookN A.now k ≠ none then (tickP A, 91) else ({ chgP A (.put k A.files.length) with files := A.files ++ [([], 0)] }, 0)
  | .append k d => if onP A [] k ≠ 0 then (tickP A, onP A [] k) else if 0 < d.length ∧ A.room < usedP A + d.length then (tickP A, 92) else ({ tickP A with files := A.files.modify (atP A k) fun x => (x.1 ++ d, x.2) }, 0)
  | .sync k => if onP A [] k ≠ 0 then (tickP A, onP A [] k) else ({ tickP A with files := A.files.modify (atP A k) fun x => (x.1, x.1.length) }, 0)
  | .names => if begP A [] ≠ 0 then (tickP A, begP A []) else ({ tickP A with safe := A.now, pend := [] }, 0)
  | .rename a b => if onP A [b] a ≠ 0 then (tickP A, onP A [b] a) else if a = b then (tickP A, 0) else (chgP A (.ren a b (atP A a)), 0)
  | .remove k => if onP A [] k ≠ 0 then (tickP A, onP A [] k) else (chgP A (.del k), 0)
def readEP (A : Pl) (k : BS) : Int := if downP A = true then 93 else if badN k = true then 95 else if lookN A.now k = none then 90 else 0
def readP (A : Pl) (k : BS) : BS := if readEP A k = 0 then datP A (atP A k) else []
def listP (A : Pl) : List BS := if downP A = true then [] else A.now.map (·.1)
def leftNP (A : Pl) (n : Int) : NM := (A.pend.take n.toNat).foldl (fun M c => applyC c M) A.safe
def moreP (keep : List Int) (i n : Nat) : Nat := match keep[i]? with | none => 0 | some z => (min z n).toNat
def leftDP (A : Pl) (keep : List Int) (i : Nat) : BS := (datP A i).take (firmP A i + moreP keep i ((datP A i).length - firmP A i))
def leftP (A : Pl) (n : Int) (keep : List Int) : List (BS × BS) := (leftNP A n).map fun x => (x.1, leftDP A keep x.2)

/-- a file's number -/
def noF : List FileC → Nat → Nat
  | [], _ => 0
  | f :: F, g => if f.blk = g then 0 else noF F g + 1
theorem noF_app (G : List FileC) (g : Nat) : ∀ F : List FileC, (∃ f ∈ F, f.blk = g) → noF (F ++ G) g = noF F g
  | [], h => by obtain ⟨f, h, _⟩ := h; cases h
  | f :: F, h => by
    rw [List.cons_append]
    unfold noF
    by_cases e : f.blk = g
    · rw [if_pos e, if_pos e]
    · rw [if_neg e, if_neg e, noF_app G g F]
      obtain ⟨z, hz, hb⟩ := h
      rcases List.mem_cons.1 hz with rfl | hz
      · exact absurd hb e
      · exact ⟨z, hz, hb⟩
theorem noF_new (f0 : FileC) : ∀ F : List FileC, (∀ f ∈ F, f.blk ≠ f0.blk) → noF (F ++ [f0]) f0.blk = F.length
  | [], _ => by unfold noF; rw [List.nil_append]; simp
  | f :: F, h => by
    rw [List.cons_append]
    unfold noF
    rw [if_neg (h f (List.mem_cons_self ..)), noF_new f0 F fun z hz => h z (List.mem_cons_of_mem _ hz), List.length_cons]
theorem noF_congr : ∀ F G : List FileC, F.map (·.blk) = G.map (·.blk) → noF F = noF G
  | [], [], _ => rfl
  | [], _ :: _, h => by cases h
  | _ :: _, [], h => by cases h
  | f :: F, f' :: G, h => by
    simp only [List.map_cons, List.cons.injEq] at h
    funext g
    unfold noF
    rw [h.1, noF_congr F G h.2]
theorem noF_get (g : Nat) : ∀ F : List FileC, (∃ f ∈ F, f.blk = g) → ∃ f, F[noF F g]? = some f ∧ f.blk = g ∧ F.find? (fun z => decide (z.blk = g)) = some f
  | [], h => by obtain ⟨f, h, _⟩ := h; cases h
  | f :: F, h => by
    unfold noF
    by_cases e : f.blk = g
    · rw [if_pos e]; exact ⟨f, rfl, e, by rw [List.find?_cons, decide_eq_true e]⟩
    · rw [if_neg e]
      obtain ⟨z, h1, h2, h3⟩ := noF_get g F (by
        obtain ⟨z, hz, hb⟩ := h
        rcases List.mem_cons.1 hz with rfl | hz
        · exact absurd hb e
        · exact ⟨z, hz, hb⟩)
      exact ⟨z, by rw [List.getElem?_cons_succ]; exact h1, h2, by rw [List.find?_cons, decide_eq_false e]; exact h3⟩
abbrev ApartF (F : List FileC) : Prop := F.Pairwise fun f g => f.blk ≠ g.blk ∧ ∀ r, f.val.ownBlock = some r → g.val.ownBlock ≠ some r
theorem noF_at : ∀ (F : List FileC) (i : Nat) (f : FileC), ApartF F → F[i]? = some f → noF F f.blk = i
  | [], i, f, _, h => by cases h
  | z :: F, 0, f, _, h => by
    obtain rfl : z = f := by simpa using h
    unfold noF
    rw [if_pos rfl]
  | z :: F, i + 1, f, hp, h => by
    rw [List.getElem?_cons_succ] at h
    have hp := List.pairwise_cons.1 hp
    unfold noF
    rw [if_neg (hp.1 f (List.mem_of_getElem? h)).1, noF_at F i f hp.2 h]

def mapN (φ : Nat → Nat) (M : NM) : NM := M.map fun x => (x.1, φ x.2)
def mapC (φ : Nat → Nat) : Chg → Chg
  | .put k f => .put k (φ f)
  | .ren a k f => .ren a k (φ f)
  | .del k => .del k
theorem lookN_map (φ : Nat → Nat) (k : BS) : ∀ M : NM, lookN (mapN φ M) k = (lookN M k).map φ
  | [] => rfl
  | (m, g) :: M => by
    have ih := lookN_map φ k M
    unfold mapN at ih ⊢
    rw [List.map_cons, lookN_cons, lookN_cons, ih]
    split <;> rfl
theorem delN_map (φ : Nat → Nat) (k : BS) (M : NM) : delN k (mapN φ M) = mapN φ (delN k M) := by
  unfold delN mapN
  rw [List.filter_map]
  rfl
theorem insN_map (φ : Nat → Nat) (k : BS) (f : Nat) : ∀ M : NM, insN k (φ f) (mapN φ M) = mapN φ (insN k f M)
  | [] => rfl
  | (m, g) :: M => by
    have ih := insN_map φ k f M
    unfold mapN at ih ⊢
    rw [List.map_cons]
    unfold insN
    split
    · rfl
    · split
      · rfl
      · rw [List.map_cons, ih]
theorem applyC_map (φ : Nat → Nat) (c : Chg) (M : NM) : applyC (mapC φ c) (mapN φ M) = mapN φ (applyC c M) := by
  cases c with
  | put k f => exact insN_map φ k f M
  | ren a k f => show insN k (φ f) (delN a (mapN φ M)) = mapN φ (insN k f (delN a M)); rw [delN_map, insN_map]
  | del k => exact delN_map φ k M
theorem mapN_congr {φ ψ : Nat → Nat} {M : NM} (h : ∀ x ∈ M, φ x.2 = ψ x.2) : mapN φ M = mapN ψ M := by
  unfold mapN
  exact List.map_congr_left fun x hx => by rw [h x hx]
theorem fold_map (φ : Nat → Nat) : ∀ (C : List Chg) (M : NM), (C.map (mapC φ)).foldl (fun M c => applyC c M) (mapN φ M) = mapN φ (C.foldl (fun M c => applyC c M) M)
  | [], _ => rfl
  | c :: C, M => by
    rw [List.map_cons, List.foldl_cons, List.foldl_cons, applyC_map, fold_map φ C]

def absD (S : DiskC) : Pl where
  now := mapN (noF S.files) S.now
  safe := mapN (noF S.files) S.safe
  pend := S.pend.map (mapC (noF S.files))
  files := S.files.map fun f => (f.data, f.firm)
  room := S.room
  fails := S.fails
  power := S.power
  steps := S.steps
theorem abs_down (S : DiskC) : downP (absD S) = downS S := rfl
theorem abs_beg (S : DiskC) (L : List BS) : begP (absD S) L = beginE S L := rfl
theorem abs_tick (S : DiskC) : tickP (absD S) = absD (beginS S) := by
  unfold tickP beginS
  rw [abs_down]
  split <;> rfl
theorem abs_look (S : DiskC) (k : BS) : lookN (absD S).now k = (lookN S.now k).map (noF S.files) := lookN_map _ _ _
theorem abs_on (S : DiskC) (L : List BS) (k : BS) : onP (absD S) L k = onE S L k := by
  unfold onP onE
  rw [abs_beg, abs_look]
  cases lookN S.now k <;> rfl
theorem beginS_rest (S : DiskC) : (beginS S).safe = S.safe ∧ (beginS S).pend = S.pend ∧ (beginS S).files = S.files ∧ (beginS S).room = S.room ∧ (beginS S).pvals = S.pvals ∧ (beginS S).fails = S.fails ∧ (beginS S).power = S.power := by
  unfold beginS
  split <;> exact ⟨rfl, rfl, rfl, rfl, rfl, rfl, rfl⟩
theorem datP_of {S : DiskC} {i : Nat} {f : FileC} (h : S.files[i]? = some f) : datP (absD S) i = f.data ∧ firmP (absD S) i = f.firm := by
  unfold datP firmP absD
  simp only [List.getElem?_map, h]
  exact ⟨rfl, rfl⟩
theorem abs_dat {S : DiskC} {g : Nat} (h : HasFile S g) : datP (absD S) (noF S.files g) = datF S g := by
  obtain ⟨f, h1, h2, h3⟩ := noF_get g S.files h
  rw [(datP_of h1).1]
  unfold datF
  rw [h3]
theorem abs_used {S : DiskC} (h : ∀ x ∈ S.now, HasFile S x.2) : usedP (absD S) = usedS S := by
  unfold usedP usedS
  show ((mapN (noF S.files) S.now).map _).sum = _
  unfold mapN
  rw [List.map_map]
  congr 1
  exact List.map_congr_left fun x hx => by
    show (datP (absD S) (noF S.files x.2)).length = _
    rw [abs_dat (h x hx)]
/-- a disk as plain data, in the heap -/
def DiskP (w : World) (P : Nat → Prop) (dd : Nat) (A : Pl) : Prop := ∃ S, DiskAt w P dd S ∧ absD S = A
end Go.Proofs.YtnhfnfdmpcpcoaaDoor

/-
  Create: a new file.
-/
namespace Go.Proofs.YtnhfnfdmpcpcoaaDoor
open Go.RowKit Go.Maps

/-- what the walks ask of a disk's sizes -/
structure FitP (A : Pl) : Prop where
  steps : A.steps ≤ 1000000
  pend : A.pend.length ≤ 1000000
  now : A.now.length ≤ 4000000000000
  safe : A.safe.length ≤ 4000000000000
  files : A.files.length ≤ 4000000000000
  fails : A.fails.length ≤ 17592186043904
  used : usedP A ≤ 140737488351232
  room : A.room ≤ 1073741824
def StepPost (w : World) (P : Nat → Prop) (dd : Nat) (A : Pl) (o : Opp) : Ending → World → Prop := fun e w' =>
  e = .returned (.int .i64 (doP A o).2) ∧ (∃ P', DiskP w' P' dd (doP A o).1 ∧ ∀ g, P' g → P g ∨ w.heap.size ≤ g) ∧ Only P w w'

theorem abs_add {S : DiskC} (f : FileC) (hnow : ∀ x ∈ S.now, HasFile S x.2) (hsafe : ∀ x ∈ S.safe, HasFile S x.2) (hpend : ∀ c ∈ S.pend, ChgFile S c) :
    absD { S with files := S.files ++ [f] } = { absD S with files := (absD S).files ++ [(f.data, f.firm)] } := by
  unfold absD
  simp only [Pl.mk.injEq, List.map_append, List.map_cons, List.map_nil, and_true]
  refine ⟨mapN_congr fun x hx => noF_app _ _ _ (hnow x hx), mapN_congr fun x hx => noF_app _ _ _ (hsafe x hx), List.map_congr_left fun c hc => ?_⟩
  have := hpend c hc
  cases c with
  | put k g => show Chg.put _ _ = Chg.put _ _; rw [noF_app _ _ _ this]
  | ren a k g => show Chg.ren _ _ _ = Chg.ren _ _ _; rw [noF_app _ _ _ this]
  | del k => rfl
theorem DiskAt.pendF {w : World} {P : Nat → Prop} {dd : Nat} {S : DiskC} (h : DiskAt w P dd S) : ∀ c ∈ S.pend, ChgFile S c := by
  intro c hc
  obtain ⟨i, hi, e⟩ := List.getElem_of_mem hc
  have hl : S.pvals.length = S.pend.length := by have := h.row.1; omega
  exact (h.chg i (S.pvals[i]'(by omega)) c (List.getElem?_eq_getElem (by omega)) (by rw [List.getElem?_eq_getElem hi, e])).2
theorem abs_chg (S : DiskC) (c : Chg) (pv : Value) (vs : List Value) : absD { S with now := applyC c S.now, pend := S.pend ++ [c], pvals := vs, pv := pv } = { absD S with now := applyC (mapC (noF S.files) c) (absD S).now, pend := (absD S).pend ++ [mapC (noF S.files) c] } := by
  unfold absD
  simp only [Pl.mk.injEq, List.map_append, List.map_cons, List.map_nil, and_true]
  exact (applyC_map _ c S.now).symm

theorem tick_rest (A : Pl) : (tickP A).now = A.now ∧ (tickP A).pend = A.pend ∧ (tickP A).files = A.files ∧ (tickP A).safe = A.safe ∧ (tickP A).room = A.room ∧ (tickP A).fails = A.fails ∧ (tickP A).power = A.power := by
  unfold tickP
  split <;> exact ⟨rfl, rfl, rfl, rfl, rfl, rfl, rfl⟩
set_option maxHeartbeats 1000000 in
theorem create_mid {w1 w4 : World} {P : Nat → Prop} {dd : Nat} {S : DiskC} (h1 : DiskAt w1 P dd (beginS S)) (nm : ByteArray) (hnm : nm.size ≤ 140737488351232) (q bx : Nat)
    (hw4 : w4 = ((((w1.drewN q).alloc (.cells #[.int .i64 S.files.length, .slice none 0 0, .int .i64 0] 81)).setCell ⟨dd, 3, none⟩ (.int .i64 ((S.files.length : Int) + 1))).alloc (.cells #[.pointer (some ⟨w1.heap.size, 0, none⟩)] 75)))
    (hbx1 : w1.heap[bx]? = some (.cells #[.string nm] 9 (0, 0))) (hn : S.now.length ≤ 4000000000000) (hp : S.pend.length ≤ 1000000) :
    Calls Tryd.prog 43 #[.pointer (some ⟨dd, 0, none⟩), .func (.func 44) #[] #[.pointer (some ⟨w1.heap.size + 1, 0, none⟩), .pointer (some ⟨bx, 0, none⟩)]] w4 fun e w' => e = .returned (.int .i64 0) ∧
      (∃ P', DiskP w' P' dd { chgP (absD S) (.put nm.data.toList (absD S).files.length) with files := (absD S).files ++ [([], 0)] } ∧ ∀ g, P' g → P g ∨ w1.heap.size ≤ g) ∧ Only P w1 w' := by
  obtain ⟨wa, hwa⟩ : ∃ W0, W0 = (w1.drewN q).alloc (.cells #[.int .i64 S.files.length, .slice none 0 0, .int .i64 0] 81) := ⟨_, rfl⟩
  obtain ⟨wb, hwb⟩ : ∃ W0, W0 = wa.setCell ⟨dd, 3, none⟩ (.int .i64 ((S.files.length : Int) + 1)) := ⟨_, rfl⟩
  rw [← hwa, ← hwb] at hw4
  have hr := beginS_rest S
  have hdd1 : dd < w1.heap.size := lt_of_heap h1.blk
  have sza : wa.heap.size = w1.heap.size + 1 := by rw [hwa]; simp
  have szb : wb.heap.size = w1.heap.size + 1 := by rw [hwb]; simp only [World.setCell]; simp; exact sza
  have sz4 : w4.heap.size = w1.heap.size + 2 := by rw [hw4]; simp; omega
  have e4 : ∀ g, g < wb.heap.size → w4.heap[g]? = wb.heap[g]? := fun g hg => by rw [hw4]; exact heap_alloc_old _ _ hg
  have eb : ∀ g, g ≠ dd → wb.heap[g]? = wa.heap[g]? := fun g hg => by rw [hwb]; exact Below.heap_setCell _ _ _ _ hg
  have ea : ∀ g, g < w1.heap.size → wa.heap[g]? = w1.heap[g]? := fun g hg => by rw [hwa]; exact heap_alloc_old (w1.drewN q) _ hg
  have hfile : w4.heap[w1.heap.size]? = some (.cells #[.int .i64 S.files.length, .slice none 0 0, .int .i64 0] 81 (0, 0)) := by
    rw [e4 _ (by omega), eb _ (by omega), hwa]
    exact heap_alloc_new (w1.drewN q) _
  have hptr : w4.heap[w1.heap.size + 1]? = some (.cells #[.pointer (some ⟨w1.heap.size, 0, none⟩)] 75 (0, 0)) := by
    have := heap_alloc_new wb (.cells #[.pointer (some ⟨w1.heap.size, 0, none⟩)] 75)
    rw [szb] at this
    rw [hw4]; exact this
  have hother : ∀ g, g < w1.heap.size → g ≠ dd → w4.heap[g]? = w1.heap[g]? := fun g hg hne => ((e4 g (by omega)).trans (eb g hne)).trans (ea g hg)
  have hblk : w4.heap[dd]? = some (.cells (diskCells { beginS S with files := (beginS S).files ++ [⟨w1.heap.size, .slice none 0 0, [], 0⟩] }) 79 (0, 0)) := by
    rw [e4 _ (by omega), hwb]
    simp only [World.setCell, Array.getElem?_modify, (ea dd hdd1).trans h1.blk]
    simp [diskCells, hr.2.2.1]
  have h4 := h1.addFile ⟨w1.heap.size, .slice none 0 0, [], 0⟩ (w' := w4) (fun g hg hne _ => hother g hg hne) hblk (by rw [hr.2.2.1]; exact hfile) (World.ownsRow_nil _ _ _ _) (Nat.le_refl _) (fun r e => by cases e) (Nat.le_refl _)
  have hbxl : bx < w1.heap.size := lt_of_heap hbx1
  have hchg : IsChg w4 (.func (.func 44) #[] #[.pointer (some ⟨w1.heap.size + 1, 0, none⟩), .pointer (some ⟨bx, 0, none⟩)]) (.put nm.data.toList w1.heap.size) :=
    ⟨w1.heap.size + 1, bx, nm, rfl, by unfold maxLen; omega, rfl, hptr, (hother bx hbxl (blk_ne hbx1 h1.blk (by decide))).trans hbx1⟩
  have hfresh : ∀ f ∈ (beginS S).files, f.blk ≠ w1.heap.size := fun f hf e => by
    obtain ⟨j, hj, e2⟩ := List.getElem_of_mem hf
    have := lt_of_heap (h1.files j f (by rw [List.getElem?_eq_getElem hj, e2])).1
    omega
  refine (alter_any h4 _ _ hchg (hasFile_new ⟨w1.heap.size, .slice none 0 0, [], 0⟩) (by rw [(beginS_now S).1]; exact hn) (by show (beginS S).pend.length ≤ _; rw [hr.2.1]; exact hp)).mono ?_
  rintro e w5 ⟨rfl, ⟨pv', P', h5, hP'⟩, ho5⟩
  refine ⟨rfl, ⟨P', ⟨_, h5, ?_⟩, fun g hg => ?_⟩, ?_⟩
  · have ea := abs_add (S := beginS S) ⟨w1.heap.size, .slice none 0 0, [], 0⟩ h1.nowF h1.safeF h1.pendF
    have ec := abs_chg { beginS S with files := (beginS S).files ++ [⟨w1.heap.size, .slice none 0 0, [], 0⟩] } (.put nm.data.toList w1.heap.size) pv' ((beginS S).pvals ++ [.func (.func 44) #[] #[.pointer (some ⟨w1.heap.size + 1, 0, none⟩), .pointer (some ⟨bx, 0, none⟩)]])
    have en : noF ((beginS S).files ++ [⟨w1.heap.size, .slice none 0 0, [], 0⟩]) w1.heap.size = (absD S).files.length := by
      have := noF_new ⟨w1.heap.size, .slice none 0 0, [], 0⟩ (beginS S).files hfresh
      rw [this, hr.2.2.1]; unfold absD; simp
    refine ec.trans ?_
    rw [ea, ← abs_tick]
    have ht := tick_rest (absD S)
    unfold chgP mapC
    simp only [ht.1, ht.2.1, ht.2.2.1, en]
  · rcases hP' g hg with hg | hg
    · rcases hg with hg | hg | hg
      · exact .inl hg
      · exact .inr (by rw [hg]; exact Nat.le_refl _)
      · cases hg
    · exact .inr (by omega)
  · refine ⟨ho5.os.trans (by rw [hw4, hwb, hwa]; rfl), ho5.tape.trans (by rw [hw4, hwb, hwa]; rfl), ho5.output.trans (by rw [hw4, hwb, hwa]; rfl), by have := ho5.size; omega, fun k hk hnk => ?_⟩
    exact (ho5.block k (by omega) (fun e => by
      rcases e with e | e | e
      · exact hnk e
      · simp only at e; omega
      · cases e)).trans (hother k hk (fun e => hnk (by rw [e]; exact h1.inP.1)))

set_option maxHeartbeats 4000000 in
set_option maxRecDepth 100000 in
theorem create_p {w : World} {P : Nat → Prop} {dd : Nat} {A : Pl} (h : DiskP w P dd A) (nm : ByteArray) (hnm : nm.size ≤ 140737488351232) (hfit : FitP A) :
    Calls Tryd.prog 12 #[.pointer (some ⟨dd, 0, none⟩), .string nm] w (StepPost w P dd A (.create nm.data.toList)) := by
  obtain ⟨S, h, rfl⟩ := h
  obtain ⟨f1, f2, f3, f4, f5, f6, f7, f8⟩ := hfit
  obtain ⟨wa, hwa⟩ : ∃ W0, W0 = (w.alloc (.cells #[.string nm] 9)).alloc (.cells #[.string nm] 9) := ⟨_, rfl⟩
  have hba : Below w.heap.size w wa := by rw [hwa]; exact ((Below.refl _ w).alloc (Nat.le_refl _) _).alloc (by simp) _
  have hq : InS wa (some ⟨w.heap.size + 1, 0, none⟩) [nm.data.toList] := by
    rw [hwa]
    have := InS.one (w.alloc (.cells #[.string nm] 9)) nm
    simpa using this
  have hbeg := begin_any (h.below hba) [nm.data.toList] (some ⟨w.heap.size + 1, 0, none⟩) 1 1 rfl (by omega) (fun x hx => by rw [List.mem_singleton.1 hx, size_list]; exact hnm) hq f1 f6
  rw [hwa] at hbeg
  have HWA := Lib.hid hwa
  clear hq hwa hba
  have hD : doP (absD S) (.create nm.data.toList) = if beginE S [nm.data.toList] ≠ 0 then (tickP (absD S), beginE S [nm.data.toList]) else if lookN (absD S).now nm.data.toList ≠ none then (tickP (absD S), 91) else ({ chgP (absD S) (.put nm.data.toList (absD S).files.length) with files := (absD S).files ++ [([], 0)] }, 0) := rfl
  obtain ⟨en, hen⟩ : ∃ en, en = beginE S [nm.data.toList] := ⟨_, rfl⟩
  rw [← hen] at hbeg hD
  have HD := Lib.hid hD
  clear hen hD
  have hsub : ∀ w', Only (fun g => g = dd) ((w.alloc (.cells #[.string nm] 9)).alloc (.cells #[.string nm] 9)) w' → Only P w w' := fun w' ho =>
    have hz := ho.size
    ⟨ho.os, ho.tape, ho.output, by simp at hz; omega, fun k hk hnk => ((ho.block k (by simp; omega) (fun e => hnk (by rw [e]; exact h.inP.1))).trans (heap_alloc_old _ _ (by simp; omega))).trans (heap_alloc_old _ _ hk)⟩
  go_enter Tryd.func12, Tryd.ntmps12
  go_wp2_with fail
  refine hbeg.mono ?_
  rintro e w1 ⟨rfl, h1, ho1⟩
  clear hbeg
  by_cases hz : en = 0
  · subst hz
    have c0 : w1.cell? ⟨dd, 0, none⟩ = some (.map (some S.bn)) := by
      have := h1.cell 0
      rw [this]
      unfold diskCells
      rw [(beginS_now S).2]; rfl
    have hmap : OwnN w1 S.bn S.now := by
      have := h1.now
      rwa [(beginS_now S).1, (beginS_now S).2] at this
    have hbx := heap_alloc_new w (.cells #[.string nm] 9)
    have hdd : dd < w.heap.size := lt_of_heap h.blk
    have hbx1 : w1.heap[w.heap.size]? = some (.cells #[.string nm] 9 (0, 0)) := by
      have := ho1.block w.heap.size (by simp; omega) (by omega)
      rw [this]
      exact heap_alloc_old _ _ (lt_of_heap hbx) |>.trans hbx
    have cbx : w1.cell? ⟨w.heap.size, 0, none⟩ = some (.string nm) := by rw [cell_of_row _ _ _ _ _ _ hbx1]; rfl
    have hrun := fun m => run_lookF (hmap.below (bdrewN (Below.refl _ w1) m)) nm (by unfold maxLen; omega)
    have hmf : ∀ (fn : Fn) (first cap : Array Value) (w : World), (Instr.makeFunc fn first cap).run Tryd.prog w = .ok (.func fn first cap) w := fun _ _ _ _ => rfl
    cases hl : lookN S.now nm.data.toList with
    | some g =>
      rw [hl] at hrun
      unfold fileV at hrun
      have HR := Lib.hid (show doP (absD S) (.create nm.data.toList) = (tickP (absD S), 91) by rw [HD.out, if_neg (by simp), if_pos (by rw [abs_look, hl]; simp)])
      have HO := Lib.hid (hsub _ ho1)
      clear hl ho1 hsub
      go_wp2_with fail
      go_quiet (fail)
      go_wp2_with fail
      go_ret
      exact ⟨by rw [HR.out]; rfl, ⟨P, ⟨_, h1.below (bdrewN (Below.refl _ _) _), by rw [HR.out, abs_tick]⟩, fun g hg => .inl hg⟩, HO.out.drewN _⟩
    | none =>
      have HR := Lib.hid (show doP (absD S) (.create nm.data.toList) = ({ chgP (absD S) (.put nm.data.toList (absD S).files.length) with files := (absD S).files ++ [([], 0)] }, 0) by rw [HD.out, if_neg (by simp), if_neg (by rw [abs_look, hl]; simp)])
      have HO := Lib.hid (hsub _ ho1)
      have c3 : w1.cell? ⟨dd, 3, none⟩ = some (.int .i64 S.files.length) := by rw [h1.cell 3]; show some (Value.int .i64 ((beginS S).files.length : Int)) = _; rw [(beginS_rest S).2.2.1]
      have hdd1 : dd < w1.heap.size := lt_of_heap h1.blk
      have hnl : S.now.length ≤ 4000000000000 := by
        have e : (absD S).now.length = S.now.length := by show (mapN _ _).length = _; unfold mapN; simp
        omega

      have hpl : S.pend.length ≤ 1000000 := by
        have e : (absD S).pend.length = S.pend.length := by unfold absD; simp
        omega
      have hfl : S.files.length ≤ 4000000000000 := by
        have e : (absD S).files.length = S.files.length := by unfold absD; simp
        omega
      have hblkN : ∀ (m : Nat) (o1 o2 : Obj), (((w1.drewN m).alloc o1).alloc o2).heap[dd]? = some (.cells (diskCells (beginS S)) 79 (0, 0)) := fun m o1 o2 => (heap_alloc_old _ _ (by simp; omega)).trans ((heap_alloc_old _ _ hdd1).trans h1.blk)
      have c3' : ∀ (m : Nat) (o1 o2 : Obj), (((w1.drewN m).alloc o1).alloc o2).cell? ⟨dd, 3, none⟩ = some (.int .i64 S.files.length) := fun m o1 o2 => by
        rw [cell_of_row _ _ _ _ _ _ (hblkN m o1 o2)]; show some (Value.int .i64 ((beginS S).files.length : Int)) = _; rw [(beginS_rest S).2.2.1]
      have f3' : ∀ (m : Nat) (o1 o2 : Obj), (((w1.drewN m).alloc o1).alloc o2).frozen? ⟨dd, 3, none⟩ = false := fun m o1 o2 => frozen_of_row _ dd 3 _ _ (hblkN m o1 o2)
      have HBN := Lib.hid hblkN
      clear hblkN
      rw [hl] at hrun
      unfold fileV at hrun
      clear hl ho1 hsub
      go_wp2_with fail
      go_quiet (fail)
      have HWR := Lib.hid (show wrap64 ((S.files.length : Int) + 1) = (S.files.length : Int) + 1 from IntWalk.wrap64_in _ ⟨by omega, by omega⟩)
      clear hfl
      go_wp2_with fail
      rw [HWR.out]
      obtain ⟨w4, hw4⟩ : ∃ W0, W0 = ((((w1.drewN nq).alloc (.cells #[.int .i64 S.files.length, .slice none 0 0, .int .i64 0] 81)).setCell ⟨dd, 3, none⟩ (.int .i64 ((S.files.length : Int) + 1))).alloc (.cells #[.pointer (some ⟨w1.heap.size, 0, none⟩)] 75)) := ⟨_, rfl⟩
      rw [← hw4]
      have hmid := create_mid h1 nm hnm nq w.heap.size hw4 hbx1 hnl hpl
      refine hmid.mono ?_
      rintro e w5 ⟨rfl, ⟨P', h5, hP'⟩, ho5⟩
      clear hmid
      go_wp2_with fail
      go_ret
      have ho := HO.out
      exact ⟨by rw [HR.out]; rfl, ⟨P', by rw [HR.out]; exact h5, fun g hg => (hP' g hg).imp id (fun e => Nat.le_trans ho.size e)⟩, ⟨ho5.os.trans ho.os, ho5.tape.trans ho.tape, ho5.output.trans ho.output, Nat.le_trans ho.size ho5.size, fun k hk hnk => (ho5.block k (Nat.lt_of_lt_of_le hk ho.size) hnk).trans (ho.block k hk hnk)⟩⟩
  · have hz2 : (en == 0) = false := beq_eq_false_iff_ne.2 hz
    have hz3 : (en != 0) = true := by simp [bne, hz2]
    have HR := Lib.hid (show doP (absD S) (.create nm.data.toList) = (tickP (absD S), en) by rw [HD.out, if_pos hz])
    have HO := Lib.hid (hsub _ ho1)
    clear ho1 hsub
    go_wp2_with fail
    go_ret
    exact ⟨by rw [HR.out]; rfl, ⟨P, ⟨_, h1, by rw [HR.out, abs_tick]⟩, fun g hg => .inl hg⟩, HO.out⟩
end Go.Proofs.YtnhfnfdmpcpcoaaDoor

/-
  SyncNames: the names are safe.
-/
namespace Go.Proofs.YtnhfnfdmpcpcoaaDoor
open Go.RowKit Go.Maps

def syncNamesS (S : DiskC) (b : Nat) : DiskC := if beginE S [] = 0 then { beginS S with bs := b, safe := S.now, pv := .slice none 0 0, pend := [], pvals := [] } else beginS S

set_option maxHeartbeats 4000000 in
theorem syncNames_any {w : World} {P : Nat → Prop} {dd : Nat} {S : DiskC} (h : DiskAt w P dd S) (hst : S.steps ≤ 1000000) (hfl : S.fails.length ≤ 17592186043904) :
    Calls Tryd.prog 16 #[.pointer (some ⟨dd, 0, none⟩)] w fun e w' => e = .returned (.int .i64 (beginE S [])) ∧ (∃ b P', DiskAt w' P' dd (syncNamesS S b) ∧ ∀ g, P' g → P g ∨ w.heap.size ≤ g) ∧ Only P w w' := by
  have hbeg := begin_any h [] none 0 0 rfl (by omega) (by simp) (fun h0 => absurd h0 (by simp [tx])) hst hfl
  obtain ⟨en, hen⟩ : ∃ en, en = beginE S [] := ⟨_, rfl⟩
  have hS0 : ∀ b, syncNamesS S b = if en = 0 then { beginS S with bs := b, safe := S.now, pv := .slice none 0 0, pend := [], pvals := [] } else beginS S := fun b => by rw [hen]; rfl
  rw [← hen] at hbeg ⊢
  have HS0 := Lib.hid hS0
  have hsub : ∀ w', Only (fun g => g = dd) w w' → Only P w w' := fun w' ho => ⟨ho.os, ho.tape, ho.output, ho.size, fun k hk hne => ho.block k hk (fun e => hne (by rw [e]; exact h.inP.1))⟩
  have HSUB := Lib.hid hsub
  clear hen hsub hS0
  by_cases hz : en = 0
  · subst hz
    have HS1 := Lib.hid (fun b => (HS0.out b).trans (if_pos rfl))
    go_enter Tryd.func16, Tryd.ntmps16
    go_wp2_with fail
    refine hbeg.mono ?_
    rintro e w1 ⟨rfl, h1, ho1⟩
    clear hbeg
    have c0 : w1.cell? ⟨dd, 0, none⟩ = some (.map (some S.bn)) := by
      have := h1.cell 0
      rw [this]
      unfold diskCells
      rw [(beginS_now S).2]; rfl
    have hmap : OwnN w1 S.bn S.now := by
      have := h1.now
      rwa [(beginS_now S).1, (beginS_now S).2] at this
    have hcl := cloneF_any hmap
    go_wp2_with fail
    refine hcl.mono ?_
    rintro e w2 ⟨rfl, hmap2, hb2⟩
    clear hcl
    have h2 := h1.below hb2
    have c1 : w2.cell? ⟨dd, 1, none⟩ = some (.map (some (beginS S).bs)) := h2.cell 1
    have c2 : w2.cell? ⟨dd, 2, none⟩ = some (beginS S).pv := h2.cell 2
    have hfz := fun i => h2.unfrozen i
    go_wp2_with fail
    go_ret
    obtain ⟨w3, hw3⟩ : ∃ W0, W0 = (w2.setCell ⟨dd, 1, none⟩ (.map (some w1.heap.size))).setCell ⟨dd, 2, none⟩ (.slice none 0 0) := ⟨_, rfl⟩
    rw [← hw3]
    have hblk : w3.heap[dd]? = some (.cells (diskCells { beginS S with bs := w1.heap.size, safe := S.now, pv := .slice none 0 0, pend := [], pvals := [] }) 79 (0, 0)) := by
      rw [hw3]
      simp only [World.setCell, Array.getElem?_modify, h2.blk]
      simp [diskCells]
    have hE : Else w2 w3 dd := fun g hg => by
      rw [hw3]
      exact (Below.heap_setCell _ _ _ _ hg).trans (Below.heap_setCell _ _ _ _ hg)
    have hT : Typed w2 w3 := fun g cs T fr hg t1 _ => (hE g (blk_ne hg h2.blk t1)).trans hg
    have hlt := hmap.lt
    have hdd : dd < w1.heap.size := lt_of_heap h1.blk
    have hs2 := hb2.size
    have hnow2 : OwnN w3 S.bn S.now := (hmap.below hb2).kept (hE _ (map_ne (hmap.below hb2) h2.blk))
    have hsafe2 : OwnN w3 w1.heap.size S.now := hmap2.kept (hE _ (map_ne hmap2 h2.blk))
    have hbn := beginS_now S
    have hd : DiskAt w3 (fun g => P g ∨ g = w1.heap.size) dd { beginS S with bs := w1.heap.size, safe := S.now, pv := .slice none 0 0, pend := [], pvals := [] } := by
      refine h1.turn ((Typed.below hb2).trans hT) hblk rfl ⟨rfl, rfl, rfl, rfl⟩ (fun a ha h0 => (hE _ (fun e => h1.fails.2.2 a ha h0 (by rw [e]; exact h1.inP.1))).trans (by
        obtain ⟨b, o, e, hc⟩ := h1.fails.2.1 (by simpa using h0)
        have hlt2 := World.block_lt_of_cell? w1 _ (hc 0 (by simpa using h0))
        rw [e] at ha
        injection ha with ha
        subst ha
        exact hb2.block _ hlt2)) ?_ hsafe2 ?_ (World.ownsRow_nil _ _ _ _) ?_ h2.nowF ?_ (fun g hg => .inl hg) ?_ ⟨.inl h2.inP.2.1, .inr rfl, fun r hr => by cases hr⟩
      · show OwnN w3 (beginS S).bn (beginS S).now
        rw [hbn.1, hbn.2]; exact hnow2
      · show (beginS S).bn ≠ w1.heap.size
        rw [hbn.2]; omega
      · intro i v c h1
        simp at h1
      · intro x hx
        exact h2.nowF x (by rw [hbn.1]; exact hx)
      · intro g hg
        rcases hg with hg | hg
        · exact .inl hg
        · exact .inr (by omega)
    have ho := HSUB.out _ ho1
    have ho3 : Only P w w3 := by
      refine ⟨?_, ?_, ?_, ?_, fun k hk hnk => ?_⟩
      · rw [hw3]; exact hb2.os.trans ho.os
      · rw [hw3]; exact hb2.tape.trans ho.tape
      · rw [hw3]; exact hb2.output.trans ho.output
      · rw [hw3]; simp only [World.setCell]; simp; have := ho.size; omega
      · have hk1 : k < w1.heap.size := Nat.lt_of_lt_of_le hk ho.size
        exact ((hE k (fun e => hnk (by rw [e]; exact h.inP.1))).trans (hb2.block k hk1)).trans (ho.block k hk hnk)
    refine ⟨rfl, ⟨w1.heap.size, _, by rw [HS1.out]; exact hd, fun g hg => ?_⟩, ho3⟩
    rcases hg with hg | hg
    · exact .inl hg
    · exact .inr (by rw [hg]; exact ho.size)
  · have hz2 : (en == 0) = false := beq_eq_false_iff_ne.2 hz
    go_enter Tryd.func16, Tryd.ntmps16
    go_wp2_with fail
    refine hbeg.mono ?_
    rintro e w1 ⟨rfl, h1, ho1⟩
    clear hbeg
    go_wp2_with fail
    go_ret
    exact ⟨rfl, ⟨0, P, by rw [HS0.out, if_neg hz]; exact h1, fun _ hg => .inl hg⟩, HSUB.out _ ho1⟩
end Go.Proofs.YtnhfnfdmpcpcoaaDoor

/-
  Remove: a name is taken away.
-/
namespace Go.Proofs.YtnhfnfdmpcpcoaaDoor
open Go.RowKit Go.Maps

theorem onE_none (S : DiskC) (L : List (List UInt8)) (k : List UInt8) (h : onE S L k = 0) : ∃ g, onF S L k = some g ∧ lookN S.now k = some g := by
  unfold onE at h
  unfold onF
  by_cases h1 : beginE S (L ++ [k]) ≠ 0
  · rw [if_pos h1] at h; exact absurd h h1
  · rw [if_neg h1] at h ⊢
    cases hl : lookN S.now k with
    | none => rw [hl] at h; simp at h
    | some g => exact ⟨g, rfl, rfl⟩

set_option maxHeartbeats 4000000 in
set_option maxRecDepth 100000 in
theorem remove_any {w : World} {P : Nat → Prop} {dd : Nat} {S : DiskC} (h : DiskAt w P dd S) (nm : ByteArray) (hnm : nm.size ≤ 140737488351232) (hst : S.steps ≤ 1000000) (hfl : S.fails.length ≤ 17592186043904) (hl : S.now.length ≤ 4000000000000) (hp : S.pend.length ≤ 1000000) :
    Calls Tryd.prog 53 #[.pointer (some ⟨dd, 0, none⟩), .string nm] w fun e w' => e = .returned (.int .i64 (onE S [] nm.data.toList)) ∧
      (∃ P', (∀ g, P' g → P g ∨ w.heap.size ≤ g) ∧ ((onE S [] nm.data.toList ≠ 0 ∧ DiskAt w' P' dd (beginS S)) ∨ (onE S [] nm.data.toList = 0 ∧ ∃ pv' v, DiskAt w' P' dd { beginS S with now := delN nm.data.toList S.now, pend := (beginS S).pend ++ [.del nm.data.toList], pvals := (beginS S).pvals ++ [v], pv := pv' }))) ∧ Only P w w' := by
  have hb0 : Below w.heap.size w (w.alloc (.cells #[.string nm] 9)) := (Below.refl _ w).alloc (Nat.le_refl _) _
  have hon := on_any h hb0 nm hnm (.slice none 0 0) [] (OwnS.nil _ _) (by simp) (by simp) hst hfl
  have hmf : ∀ (fn : Fn) (first cap : Array Value) (w : World), (Instr.makeFunc fn first cap).run Tryd.prog w = .ok (.func fn first cap) w := fun _ _ _ _ => rfl
  have hbx := heap_alloc_new w (.cells #[.string nm] 9)
  have cbx : (w.alloc (.cells #[.string nm] 9)).cell? ⟨w.heap.size, 0, none⟩ = some (.string nm) := by rw [cell_of_row _ _ _ _ _ _ hbx]; rfl
  go_enter Tryd.func53, Tryd.ntmps53
  obtain ⟨en, hen⟩ : ∃ en, en = onE S [] nm.data.toList := ⟨_, rfl⟩
  rw [← hen] at hon ⊢
  clear hen
  have hdd : dd < w.heap.size := lt_of_heap h.blk
  have hfr : ∀ w', Only (fun g => g = dd ∨ (Value.slice none 0 0).ownBlock = some g) (w.alloc (.cells #[.string nm] 9)) w' → Only P w w' := fun w' ho =>
    have hz := ho.size
    ⟨ho.os, ho.tape, ho.output, by simp at hz; omega, fun k hk hnk => (ho.block k (by simp; omega) (fun e => by
      rcases e with e | e
      · exact hnk (by rw [e]; exact h.inP.1)
      · cases e)).trans (heap_alloc_old _ _ hk)⟩
  have HFR := Lib.hid hfr
  have HBX := Lib.hid hbx
  clear hfr hbx
  go_wp2_with fail
  refine hon.mono ?_
  rintro e w1 ⟨rfl, h1, _, ho1⟩
  clear hon
  have HO1 := Lib.hid ho1
  by_cases hz : en = 0
  · subst hz
    have hbx1 : w1.heap[w.heap.size]? = some (.cells #[.string nm] 9 (0, 0)) := (ho1.block w.heap.size (by simp) (fun e => by
      rcases e with e | e
      · omega
      · cases e)).trans HBX.out
    have hchg : IsChg w1 (.func (.func 67) #[] #[.pointer (some ⟨w.heap.size, 0, none⟩)]) (.del nm.data.toList) := ⟨w.heap.size, nm, rfl, by unfold maxLen; omega, rfl, hbx1⟩
    have hbs := beginS_now S
    have hpend : (beginS S).pend = S.pend := by unfold beginS; split <;> rfl
    have halt := alter_any h1 _ _ hchg trivial (by rw [hbs.1]; exact hl) (by rw [hpend]; exact hp)
    have HBS := Lib.hid hbs
    clear ho1 hbs hpend
    go_wp2_with fail
    refine halt.mono ?_
    rintro e w2 ⟨rfl, ⟨pv', P', h2, hP'⟩, ho2⟩
    clear halt
    go_wp2_with fail
    go_ret
    have hsz := (HFR.out _ HO1.out).size
    refine ⟨rfl, ⟨P', fun k hk => (hP' k hk).imp id (fun e => Nat.le_trans hsz e), pv', .func (.func 67) #[] #[.pointer (some ⟨w.heap.size, 0, none⟩)], ?_⟩, ?_⟩
    · have e : applyC (.del nm.data.toList) (beginS S).now = delN nm.data.toList S.now := by rw [HBS.out.1]; rfl
      rw [e] at h2
      exact h2
    · have ho := HFR.out _ HO1.out
      exact ⟨ho2.os.trans ho.os, ho2.tape.trans ho.tape, ho2.output.trans ho.output, Nat.le_trans ho.size ho2.size, fun k hk hnk => (ho2.block k (Nat.lt_of_lt_of_le hk ho.size) hnk).trans (ho.block k hk hnk)⟩
  · have hz2 : (en == 0) = false := beq_eq_false_iff_ne.2 hz
    have hz3 : (en != 0) = true := by simp [bne, hz2]
    clear ho1
    go_wp2_with fail
    go_ret
    exact ⟨rfl, ⟨P, fun _ hk => .inl hk, .inl ⟨hz, h1⟩⟩, HFR.out _ HO1.out⟩
end Go.Proofs.YtnhfnfdmpcpcoaaDoor

/-
  Sync, SyncNames, Remove, by the plain disk.
-/
namespace Go.Proofs.YtnhfnfdmpcpcoaaDoor
open Go.RowKit Go.Maps

theorem modify_set {α : Type} (l : List α) (i : Nat) (u : α → α) (x : α) (h : l[i]? = some x) : l.modify i u = l.set i (u x) := by
  apply List.ext_getElem?
  intro j
  rw [List.getElem?_modify, List.getElem?_set]
  by_cases e : i = j
  · subst e
    have hi := (List.getElem?_eq_some_iff.1 h).1
    rw [h]; simp [hi]
  · simp [e]
theorem abs_setFile {S : DiskC} {i : Nat} {f f' : FileC} (hf : S.files[i]? = some f) (hb : f'.blk = f.blk) : absD { S with files := S.files.set i f' } = { absD S with files := (absD S).files.set i (f'.data, f'.firm) } := by
  have hn : noF (S.files.set i f') = noF S.files := noF_congr _ _ (by
    obtain ⟨hi, ei⟩ := List.getElem?_eq_some_iff.1 hf
    rw [List.map_set]
    apply List.ext_getElem (by simp)
    intro j h1 h2
    rw [List.getElem_set]
    split
    · rename_i e; subst e; rw [List.getElem_map, ei, hb]
    · rfl)
  unfold absD
  simp only [hn, List.map_set]
theorem abs_turn {S : DiskC} (hap : ApartF S.files) {k : BS} {g i : Nat} {f f' : FileC} (hl : lookN S.now k = some g) (hf : S.files[i]? = some f) (hg : f.blk = g) (hb : f'.blk = f.blk) (up : BS × Nat → BS × Nat) (hup : (f'.data, f'.firm) = up (f.data, f.firm)) :
    absD { beginS S with files := S.files.set i f' } = { tickP (absD S) with files := (absD S).files.modify (atP (absD S) k) up } := by
  have hr := beginS_rest S
  have e1 := abs_setFile (S := beginS S) (f' := f') (by rw [hr.2.2.1]; exact hf) hb
  rw [hr.2.2.1] at e1
  rw [e1, ← abs_tick]
  have ea : atP (absD S) k = i := by
    unfold atP
    rw [abs_look, hl]
    subst hg
    exact noF_at S.files i f hap hf
  rw [ea, modify_set _ i up (f.data, f.firm) (by unfold absD; simp [hf]), ← hup, (tick_rest (absD S)).2.2.1]

theorem onF_zero {S : DiskC} {L : List BS} {k : BS} {g : Nat} (h : onF S L k = some g) : lookN S.now k = some g ∧ onE S L k = 0 := by
  refine ⟨?_, (onE_F S L k).2 ⟨g, h⟩⟩
  unfold onF at h
  split at h
  · cases h
  · exact h
theorem onF_none {S : DiskC} {L : List BS} {k : BS} (h : onF S L k = none) : onE S L k ≠ 0 := fun e => by
  obtain ⟨g, e2⟩ := (onE_F S L k).1 e
  rw [h] at e2; cases e2
theorem do_sync {S : DiskC} (hap : ApartF S.files) (hnow : ∀ x ∈ S.now, HasFile S x.2) (k : BS) : absD (syncS S k) = (doP (absD S) (.sync k)).1 ∧ onE S [] k = (doP (absD S) (.sync k)).2 := by
  have hD : doP (absD S) (.sync k) = if onE S [] k ≠ 0 then (tickP (absD S), onE S [] k) else ({ tickP (absD S) with files := (absD S).files.modify (atP (absD S) k) fun x => (x.1, x.1.length) }, 0) := by rw [← abs_on]; rfl
  rw [hD]
  cases h : onF S [] k with
  | none =>
    rw [if_pos (onF_none h)]
    refine ⟨?_, rfl⟩
    unfold syncS
    rw [h, abs_tick]
  | some g =>
    obtain ⟨hl, hz⟩ := onF_zero h
    rw [hz, if_neg (by simp)]
    refine ⟨?_, rfl⟩
    unfold syncS
    rw [h]
    obtain ⟨f, hf, hg⟩ := hnow _ (lookN_mem _ _ _ hl)
    obtain ⟨i, hi, ei⟩ := List.getElem_of_mem hf
    have hfi : S.files[i]? = some f := by rw [List.getElem?_eq_getElem hi, ei]
    simp only
    rw [(beginS_rest S).2.2.1, setF_set g _ S.files i f hfi hg hap]
    exact abs_turn (f' := { f with firm := f.data.length }) hap hl hfi hg rfl (fun x => (x.1, x.1.length)) rfl
theorem sync_p {w : World} {P : Nat → Prop} {dd : Nat} {A : Pl} (h : DiskP w P dd A) (nm : ByteArray) (hnm : nm.size ≤ 140737488351232) (hfit : FitP A) :
    Calls Tryd.prog 15 #[.pointer (some ⟨dd, 0, none⟩), .string nm] w (StepPost w P dd A (.sync nm.data.toList)) := by
  obtain ⟨S, h, rfl⟩ := h
  refine (sync_any h nm hnm hfit.steps hfit.fails).mono ?_
  rintro e w' ⟨rfl, ⟨P', h', hP'⟩, ho⟩
  obtain ⟨e1, e2⟩ := do_sync h.apart h.nowF nm.data.toList
  exact ⟨by rw [e2], ⟨P', ⟨_, h', e1⟩, fun g hg => .inl (hP' g hg)⟩, ho⟩
theorem do_names (S : DiskC) (b : Nat) : absD (syncNamesS S b) = (doP (absD S) .names).1 ∧ beginE S [] = (doP (absD S) .names).2 := by
  have hD : doP (absD S) .names = if beginE S [] ≠ 0 then (tickP (absD S), beginE S []) else ({ tickP (absD S) with safe := (absD S).now, pend := [] }, 0) := rfl
  rw [hD]
  unfold syncNamesS
  by_cases h : beginE S [] = 0
  · rw [h, if_pos rfl, if_neg (by simp)]
    refine ⟨?_, rfl⟩
    rw [abs_tick]
    unfold absD
    simp only [(beginS_rest S).2.2.1, List.map_nil, (beginS_now S).1]
  · rw [if_neg h, if_pos h]
    exact ⟨(abs_tick S).symm, rfl⟩
theorem names_p {w : World} {P : Nat → Prop} {dd : Nat} {A : Pl} (h : DiskP w P dd A) (hfit : FitP A) :
    Calls Tryd.prog 16 #[.pointer (some ⟨dd, 0, none⟩)] w (StepPost w P dd A .names) := by
  obtain ⟨S, h, rfl⟩ := h
  refine (syncNames_any h hfit.steps hfit.fails).mono ?_
  rintro e w' ⟨rfl, ⟨b, P', h', hP'⟩, ho⟩
  obtain ⟨e1, e2⟩ := do_names S b
  exact ⟨by rw [e2], ⟨P', ⟨_, h', e1⟩, hP'⟩, ho⟩
theorem abs_len (S : DiskC) : (absD S).now.length = S.now.length ∧ (absD S).pend.length = S.pend.length ∧ (absD S).files.length = S.files.length ∧ (absD S).safe.length = S.safe.length := by
  unfold absD mapN
  simp
theorem do_chg (S : DiskC) (c : Chg) (pv : Value) (vs : List Value) : absD { beginS S with now := applyC c S.now, pend := (beginS S).pend ++ [c], pvals := vs, pv := pv } = chgP (absD S) (mapC (noF S.files) c) := by
  have := abs_chg (beginS S) c pv vs
  rw [(beginS_now S).1] at this
  rw [this, ← abs_tick]
  have ht := tick_rest (absD S)
  unfold chgP
  rw [ht.1, ht.2.1, (beginS_rest S).2.2.1]
theorem remove_p {w : World} {P : Nat → Prop} {dd : Nat} {A : Pl} (h : DiskP w P dd A) (nm : ByteArray) (hnm : nm.size ≤ 140737488351232) (hfit : FitP A) :
    Calls Tryd.prog 53 #[.pointer (some ⟨dd, 0, none⟩), .string nm] w (StepPost w P dd A (.remove nm.data.toList)) := by
  obtain ⟨S, h, rfl⟩ := h
  have hn := hfit.now
  have hp := hfit.pend
  rw [(abs_len S).1] at hn
  rw [(abs_len S).2.1] at hp
  refine (remove_any h nm hnm hfit.steps hfit.fails hn hp).mono ?_
  rintro e w' ⟨rfl, ⟨P', hP', h'⟩, ho⟩
  have hD : doP (absD S) (.remove nm.data.toList) = if onE S [] nm.data.toList ≠ 0 then (tickP (absD S), onE S [] nm.data.toList) else (chgP (absD S) (.del nm.data.toList), 0) := by rw [← abs_on]; rfl
  rcases h' with ⟨hz, h'⟩ | ⟨hz, pv', v, h'⟩
  · rw [if_pos hz] at hD
    exact ⟨by rw [hD], ⟨P', ⟨_, h', by rw [hD, abs_tick]⟩, hP'⟩, ho⟩
  · rw [hz, if_neg (by simp)] at hD
    exact ⟨by rw [hD, hz], ⟨P', ⟨_, h', by rw [hD]; exact do_chg S (.del nm.data.toList) pv' _⟩, hP'⟩, ho⟩
end Go.Proofs.YtnhfnfdmpcpcoaaDoor

/-
  Rename: another name for a file.
-/
namespace Go.Proofs.YtnhfnfdmpcpcoaaDoor
open Go.RowKit Go.Maps

set_option maxHeartbeats 4000000 in
set_option maxRecDepth 100000 in
theorem rename_p {w : World} {P : Nat → Prop} {dd : Nat} {A : Pl} (h : DiskP w P dd A) (na nb : ByteArray) (hna : na.size ≤ 140737488351232) (hnb : nb.size ≤ 140737488351232) (hfit : FitP A) :
    Calls Tryd.prog 52 #[.pointer (some ⟨dd, 0, none⟩), .string na, .string nb] w (StepPost w P dd A (.rename na.data.toList nb.data.toList)) := by
  obtain ⟨S, h, rfl⟩ := h
  have hmf : ∀ (fn : Fn) (first cap : Array Value) (w : World), (Instr.makeFunc fn first cap).run Tryd.prog w = .ok (.func fn first cap) w := fun _ _ _ _ => rfl
  obtain ⟨f1, f2, f3, f4, f5, f6, f7, f8⟩ := hfit
  have hnl : S.now.length ≤ 4000000000000 := by rw [← (abs_len S).1]; exact f3
  have hpl : S.pend.length ≤ 1000000 := by rw [← (abs_len S).2.1]; exact f2
  clear f2 f3 f4 f5 f7 f8
  obtain ⟨wa, hwa⟩ : ∃ W0, W0 = ((w.alloc (.cells #[.string na] 9)).alloc (.cells #[.string nb] 9)).alloc (.cells #[.string nb] 9) := ⟨_, rfl⟩
  have hba : Below w.heap.size w wa := by rw [hwa]; exact (((Below.refl _ w).alloc (Nat.le_refl _) _).alloc (by simp) _).alloc (by simp; omega) _
  have hrow : OwnS wa w.heap.size (.slice (some ⟨w.heap.size + 1 + 1, 0, none⟩) 1 1) [nb.data.toList] := by
    rw [hwa]
    have := World.ownsRow_lit (e := 9) (size := 1) ((w.alloc (.cells #[.string na] 9)).alloc (.cells #[.string nb] 9)) #[.string nb] 1 (Nat.le_refl _) (by unfold maxLen; omega) rfl
    unfold OwnS
    have e : tx [nb.data.toList] = [Value.string nb] := by simp [tx]
    refine ownsRow_mono (base := w.heap.size + 1 + 1) ?_ (by omega)
    rw [e]
    simpa using this
  have hon := on_any h hba na hna (.slice (some ⟨w.heap.size + 1 + 1, 0, none⟩) 1 1) [nb.data.toList] hrow (by simp) (fun x hx => by rw [List.mem_singleton.1 hx, size_list]; exact hnb) f1 f6
  have sza : wa.heap.size = w.heap.size + 3 := by rw [hwa]; simp
  have ba : wa.heap[w.heap.size]? = some (.cells #[.string na] 9 (0, 0)) := by
    rw [hwa]
    exact (heap_alloc_old _ _ (by simp; omega)).trans ((heap_alloc_old _ _ (by simp)).trans (heap_alloc_new w _))
  have bb : wa.heap[w.heap.size + 1]? = some (.cells #[.string nb] 9 (0, 0)) := by
    rw [hwa]
    have := heap_alloc_new (w.alloc (.cells #[.string na] 9)) (.cells #[.string nb] 9)
    rw [World.size_alloc] at this
    exact (heap_alloc_old _ _ (by simp)).trans this
  rw [hwa] at hon
  have HWA := Lib.hid hwa
  have HSZ := Lib.hid sza
  clear hrow hwa hba sza
  have hD : doP (absD S) (.rename na.data.toList nb.data.toList) = if onE S [nb.data.toList] na.data.toList ≠ 0 then (tickP (absD S), onE S [nb.data.toList] na.data.toList) else if na.data.toList = nb.data.toList then (tickP (absD S), 0) else (chgP (absD S) (.ren na.data.toList nb.data.toList (atP (absD S) na.data.toList)), 0) := by rw [← abs_on]; rfl
  have hif := onE_F S [nb.data.toList] na.data.toList
  obtain ⟨en, hen⟩ : ∃ en, en = onE S [nb.data.toList] na.data.toList := ⟨_, rfl⟩
  rw [← hen] at hon hD hif
  have HD := Lib.hid hD
  have HIF := Lib.hid hif
  clear hen hD hif
  obtain ⟨fo, hfo⟩ : ∃ fo, fo = onF S [nb.data.toList] na.data.toList := ⟨_, rfl⟩
  rw [← hfo] at hon
  obtain ⟨q, hq⟩ : ∃ q, fileV fo = .pointer q := by cases fo <;> exact ⟨_, rfl⟩
  rw [hq] at hon
  have HFO := Lib.hid hfo
  have HQ := Lib.hid hq
  clear hfo hq
  have hdd : dd < w.heap.size := lt_of_heap h.blk
  have hs0 := size_list na
  have hs1 := size_list nb
  have ca : (((w.alloc (.cells #[.string na] 9)).alloc (.cells #[.string nb] 9))).cell? ⟨w.heap.size, 0, none⟩ = some (.string na) := by
    rw [cell_of_row _ _ _ _ _ _ ((heap_alloc_old _ _ (by simp)).trans (heap_alloc_new w _))]; rfl
  go_enter Tryd.func52, Tryd.ntmps52
  go_wp2_with fail
  refine hon.mono ?_
  rintro e w1 ⟨rfl, h1, ho0, ho1⟩
  clear hon
  have hdd1 : dd < w1.heap.size := lt_of_heap h1.blk
  have sz1 := ho1.size
  simp only [World.size_alloc] at sz1
  have ba1 : w1.heap[w.heap.size]? = some (.cells #[.string na] 9 (0, 0)) := by
    rw [← HWA.out] at ho1
    refine (ho1.block w.heap.size (by rw [HSZ.out]; omega) (fun e => ?_)).trans ba
    rcases e with e | e
    · omega
    · have e : some (w.heap.size + 1 + 1) = some w.heap.size := e
      injection e with e; omega
  have bb1 : w1.heap[w.heap.size + 1]? = some (.cells #[.string nb] 9 (0, 0)) := by
    rw [← HWA.out] at ho1
    refine (ho1.block (w.heap.size + 1) (by rw [HSZ.out]; omega) (fun e => ?_)).trans bb
    rcases e with e | e
    · omega
    · have e : some (w.heap.size + 1 + 1) = some (w.heap.size + 1) := e
      injection e with e; omega
  have ca1 : ∀ o, (w1.alloc o).cell? ⟨w.heap.size, 0, none⟩ = some (.string na) := fun o => by
    rw [cell_of_row _ _ _ _ _ _ ((heap_alloc_old _ _ (lt_of_heap ba1)).trans ba1)]; rfl
  have cb1 : ∀ o, (w1.alloc o).cell? ⟨w.heap.size + 1, 0, none⟩ = some (.string nb) := fun o => by
    rw [cell_of_row _ _ _ _ _ _ ((heap_alloc_old _ _ (lt_of_heap bb1)).trans bb1)]; rfl
  have hsub : Only P w w1 := ⟨ho0.os, ho0.tape, ho0.output, ho0.size, fun k hk hnk => ho0.block k hk (fun e => hnk (by rw [e]; exact h.inP.1))⟩
  have HO := Lib.hid hsub
  clear hsub
  have HS1 := Lib.hid sz1
  clear ho0 ho1 ba bb sz1 hs0 hs1 ca
  by_cases hz : en = 0
  · subst hz
    by_cases hab : na.data.toList = nb.data.toList
    · have hbool : (na.toList == nb.toList) = true := by rw [strs_eq]; exact decide_eq_true hab
      have HR := Lib.hid (show doP (absD S) (.rename na.data.toList nb.data.toList) = (tickP (absD S), 0) by rw [HD.out, if_neg (by simp), if_pos hab])
      clear hab
      go_wp2_with fail
      go_ret
      exact ⟨by rw [HR.out]; rfl, ⟨P, ⟨_, h1.below ((Below.refl _ w1).alloc (Nat.le_refl _) _), by rw [HR.out, abs_tick]⟩, fun g hg => .inl hg⟩, HO.out.alloc _⟩
    · have hbool : (na.toList == nb.toList) = false := by rw [strs_eq]; exact decide_eq_false hab
      have HR := Lib.hid (show doP (absD S) (.rename na.data.toList nb.data.toList) = (chgP (absD S) (.ren na.data.toList nb.data.toList (atP (absD S) na.data.toList)), 0) by rw [HD.out, if_neg (by simp), if_neg hab])
      clear hab
      obtain ⟨g, hg⟩ := HIF.out.1 rfl
      have hfg : fo = some g := HFO.out.trans hg
      have hqg : q = some ⟨g, 0, none⟩ := by
        have := HQ.out
        rw [hfg] at this
        unfold fileV at this
        injection this with this
        exact this.symm
      subst hqg
      have hlk := (onF_zero hg).1
      obtain ⟨wf, hwf⟩ : ∃ W0, W0 = w1.alloc (.cells #[.pointer (some ⟨g, 0, none⟩)] 75) := ⟨_, rfl⟩
      have hbf : Below w1.heap.size w1 wf := by rw [hwf]; exact (Below.refl _ w1).alloc (Nat.le_refl _) _
      have bf1 : wf.heap[w1.heap.size]? = some (.cells #[.pointer (some ⟨g, 0, none⟩)] 75 (0, 0)) := by rw [hwf]; exact heap_alloc_new w1 _
      have h1f := h1.below hbf
      have hchg : IsChg wf (.func (.func 66) #[] #[.pointer (some ⟨w.heap.size, 0, none⟩), .pointer (some ⟨w1.heap.size, 0, none⟩), .pointer (some ⟨w.heap.size + 1, 0, none⟩)]) (.ren na.data.toList nb.data.toList g) :=
        ⟨w.heap.size, w1.heap.size, w.heap.size + 1, na, nb, rfl, rfl, by unfold maxLen; omega, by unfold maxLen; omega, rfl, Below.heap hbf ba1, bf1, Below.heap hbf bb1⟩
      have hfile : HasFile (beginS S) g := by
        obtain ⟨f, hf, e⟩ := h1.nowF (na.data.toList, g) (by rw [(beginS_now S).1]; exact lookN_mem _ _ _ hlk)
        exact ⟨f, hf, e⟩
      have halt := alter_any h1f _ _ hchg hfile (by rw [(beginS_now S).1]; exact hnl) (by rw [(beginS_rest S).2.1]; exact hpl)
      rw [hwf] at halt
      have HSF := Lib.hid (show w1.heap.size ≤ wf.heap.size from hbf.size)
      have HBF := Lib.hid hbf
      have HW := Lib.hid hwf
      have hat : atP (absD S) na.data.toList = noF S.files g := by unfold atP; rw [abs_look, hlk]; rfl
      have HAT := Lib.hid hat
      clear hbf hwf hg hfg hat bf1 h1f hchg hfile hlk
      go_wp2_with fail
      refine halt.mono ?_
      rintro e w2 ⟨rfl, ⟨pv', P', h2, hP'⟩, ho2⟩
      clear halt
      go_wp2_with fail
      go_ret
      rw [← HW.out] at hP' ho2
      have ho := HO.out
      have hbf := HBF.out
      refine ⟨by rw [HR.out]; rfl, ⟨P', ⟨_, h2, ?_⟩, fun k hk => (hP' k hk).imp id (fun e => by have := ho.size; have := HSF.out; omega)⟩, ?_⟩
      · rw [HR.out, HAT.out]
        have := do_chg S (.ren na.data.toList nb.data.toList g) pv' ((beginS S).pvals ++ [.func (.func 66) #[] #[.pointer (some ⟨w.heap.size, 0, none⟩), .pointer (some ⟨w1.heap.size, 0, none⟩), .pointer (some ⟨w.heap.size + 1, 0, none⟩)]])
        rw [← (beginS_now S).1] at this
        exact this
      · exact ⟨ho2.os.trans (hbf.os.trans ho.os), ho2.tape.trans (hbf.tape.trans ho.tape), ho2.output.trans (hbf.output.trans ho.output), Nat.le_trans ho.size (Nat.le_trans hbf.size ho2.size), fun k hk hnk => ((ho2.block k (Nat.lt_of_lt_of_le hk (Nat.le_trans ho.size hbf.size)) hnk).trans (hbf.block k (Nat.lt_of_lt_of_le hk ho.size))).trans (ho.block k hk hnk)⟩
  · have hz2 : (en == 0) = false := beq_eq_false_iff_ne.2 hz
    have hz3 : (en != 0) = true := by simp [bne, hz2]
    have HR := Lib.hid (show doP (absD S) (.rename na.data.toList nb.data.toList) = (tickP (absD S), en) by rw [HD.out, if_pos hz])
    go_wp2_with fail
    go_ret
    exact ⟨by rw [HR.out]; rfl, ⟨P, ⟨_, h1.below ((Below.refl _ w1).alloc (Nat.le_refl _) _), by rw [HR.out, abs_tick]⟩, fun g hg => .inl hg⟩, HO.out.alloc _⟩
end Go.Proofs.YtnhfnfdmpcpcoaaDoor

/-
  Used: the bytes of all files.
-/
namespace Go.Proofs.YtnhfnfdmpcpcoaaDoor
open Go.RowKit Go.Maps

theorem fileR_form : ∀ v y, fileR v = some y → ∃ o : Option Nat, v = fileV o := by
  intro v y h
  unfold fileR at h
  split at h
  · exact ⟨none, rfl⟩
  · exact ⟨some _, rfl⟩
  · cases h
theorem keyOf_str_inv {key : Value} {kl : Lit} (h : keyOf Tryd.prog 9 key = some kl) : ∃ s : ByteArray, key = .string s ∧ kl = .string s.data.toList := by
  have hk := Tryd.underlying9
  cases key <;> simp [keyOf, hk, mapKey] at h
  rename_i s
  refine ⟨s, rfl, ?_⟩
  first | exact h.symm | exact h.2.symm | exact (h.2).symm

set_option maxHeartbeats 4000000 in
theorem used_any {w : World} {P : Nat → Prop} {dd : Nat} {S : DiskC} (h : DiskAt w P dd S) (hu : usedS S ≤ 1000000000000000) :
    Calls Tryd.prog 32 #[.pointer (some ⟨dd, 0, none⟩)] w fun e w' => e = .returned (.int .i64 (usedS S)) ∧ Below w.heap.size w w' := by
  have c0 : w.cell? ⟨dd, 0, none⟩ = some (.map (some S.bn)) := h.cell 0
  have H := Lib.hid h
  have hown := h.now.2
  have hri := Lib.hid h.now.1
  have hlt := h.now.lt
  clear h
  go_enter Tryd.func32, Tryd.ntmps32
  go_wp2_with (first
    | (at_range; refine wpList_range_own _ rfl _ 76 rfl 9 75 keyedS mapT fileR S.bn S.now.length (Dm S.now) rfl hown ?_; intro w0 hrg0 hg0 hs0)
    | go_in)
  go_frame
  go_loopw [3] (fun v wr => ∃ (left : Lit → Bool) (cnt : Nat), wr.ranges Tryd.prog 9 fileR S.bn w.heap.size S.now.length (Dm S.now) left cnt ∧ w.grownBy wr none ∧ v = .int .i64 (sumF (fun x => (datF S x.2).length) left S.now))
    (fun _ wr => wr.rangeLeft S.bn w.heap.size)
  case atStart => exact ⟨_, _, hrg0, hg0, by rw [sumF_start _ _ _ (fun x hx => Dm_has_mem _ x hx)]; rfl⟩
  case round =>
    obtain ⟨left, cnt, hrg, hgw, rfl⟩ := hrel
    go_wp2_with (first
      | (at_next; refine wpList_next_ranges _ rfl _ rfl 9 keyedS fileR Value.string fileV (fun key kl hk => by obtain ⟨s, e, _⟩ := keyOf_str_inv hk; exact ⟨s, e⟩) fileR_form S.bn w.heap.size S.now.length _ _ _ rfl hrg ?_ ?_)
      | go_in)
    · intro _ hl0
      go_wp2_with fail
      go_ret
      exact ⟨ret_int (by rw [sumF_end _ _ hl0]; rfl), ⟨hgw.os, hgw.tape, hgw.output, hgw.size, fun k hk => hgw.block k hk (by simp)⟩⟩
    · intro x c kl y yp w1 cnt1 hkey hlx hv hat hrg1 hlt1 hg1 hs1 hen
      obtain ⟨x', ex, rfl⟩ := keyOf_str_inv hkey
      injection ex with ex
      subst ex
      rw [fileR_mk] at hv
      injection hv with hv
      injection hv with hv _
      subst hv
      obtain ⟨b, rfl, hmem⟩ := Dm_mem hat
      obtain ⟨f, hf, hfb⟩ := H.out.nowF _ hmem
      have hd : datF S b = f.data := by have := datF_mem H.out.apart hf; rw [hfb] at this; exact this
      simp only at hfb
      subst hfb
      obtain ⟨j, hj, ej⟩ := List.getElem_of_mem hf
      obtain ⟨b1, b2, b3, b4, b5⟩ := H.out.files j f (by rw [List.getElem?_eq_getElem hj, ej])
      obtain ⟨pv, cv, hval, _, _, _⟩ := b2.in8n rfl
      have hgw1 : w.grownBy w1 none := hgw.andThen hg1 (fun j hj => by cases hj; exact Or.inl (Nat.le_refl _))
      have hb1 : w1.heap[f.blk]? = some (.cells #[.int .i64 j, f.val, .int .i64 f.firm] 81 (0, 0)) := (hgw1.block _ (lt_of_heap b1) (by simp)).trans b1
      have c1 : w1.cell? ⟨f.blk, 1, none⟩ = some (.slice pv f.data.length cv) := by rw [cell_of_row _ _ _ _ _ _ hb1, ← hval]; rfl
      have hstep := sumF_step (fun x => (datF S x.2).length) left x.data.toList f.blk hlx S.now hri.out hmem
      have hle := sumF_le (fun x => (datF S x.2).length) (fun z => left z && !z.sameKey (.string x.data.toList)) S.now
      have hus : sumF (fun x => (datF S x.2).length) (fun z => left z && !z.sameKey (.string x.data.toList)) S.now ≤ usedS S := hle
      simp only [hd] at hstep
      obtain ⟨n0, hn0⟩ : ∃ n0, n0 = sumF (fun x => (datF S x.2).length) left S.now := ⟨_, rfl⟩
      rw [← hn0] at hstep ⊢
      have HST := Lib.hid hstep
      have hb0 : n0 + f.data.length ≤ 1000000000000000 := by omega
      have HRG := Lib.hid hrg
      clear hat hmem hstep hle hus hn0 hrg b2 hd
      unfold fileV at hen
      go_wp2_with fail
      go_roundw
      case rel => exact ⟨_, _, hrg1, hgw1, by rw [HST.out]; go_num⟩
      case measure => rw [hrg1.left_eq, HRG.out.left_eq]; exact hlt1
end Go.Proofs.YtnhfnfdmpcpcoaaDoor

/-
  What stays as it was from world to world.
-/
namespace Go.Proofs.YtnhfnfdmpcpcoaaDoor
open Go.RowKit

theorem cell_keep {w w' : World} {a : Addr} {v : Value} (h : w.cell? a = some v) (hb : Below w.heap.size w w') : w'.cell? a = some v :=
  (hb.cell (World.block_lt_of_cell? w _ h)).trans h
theorem ba_self (s : ByteArray) : (⟨s.data.toList.toArray⟩ : ByteArray) = s := by cases s; simp
theorem ba_ext {a b : ByteArray} (h : a.data.toList = b.data.toList) : a = b := by
  cases a with | mk x => cases b with | mk y => have : x = y := Array.toList_inj.1 h; rw [this]
theorem below_on {B : Nat} {w w1 w2 : World} (h : Below B w w1) (hs : B ≤ w.heap.size) (h2 : Below w1.heap.size w1 w2) : Below B w w2 :=
  h.trans (h2.mono (Nat.le_trans hs h.size))
end Go.Proofs.YtnhfnfdmpcpcoaaDoor
