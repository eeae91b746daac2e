/-
  Chapter 9, texts merged: DoD, BytesOpen, Open9, OpenOps, SameTexts, Help9, Begin9, Start9, Alive9, Run9, UsedP, ReadD, ReadP.
-/
import Derived.Test.YtnhfnfdmpcpcoaaDoorM9c
import Derived.Test.YtnhfnfdmpcpcoaaDoorM9d
import Derived.Test.YtnhfnfdmpcpcoaaDoorOpenS
import Derived.Test.YtnhfnfdmpcpcoaaDoorM9a
import Derived.Deep.SlicePairs
import Derived.Deep.RegionHeld3
import Derived.Laws.ResultCell

/-
  The steps of a script: do, step, cut; copies of numbers and fates.
-/
namespace Go.Proofs.YtnhfnfdmpcpcoaaDoor
open Go.RowKit Go.Maps

/-- the step that an op means -/
def opOf (wh : Int) (a b d : BS) : Opp := if wh = 1 then .create a else if wh = 2 then .append a d else if wh = 3 then .sync a else if wh = 4 then .names else if wh = 5 then .rename a b else .remove a
theorem StepPost.from {w wa : World} {P : Nat → Prop} {dd : Nat} {A : Pl} {o : Opp} {e : Ending} {w' : World} (hb : Below w.heap.size w wa) (h : StepPost wa P dd A o e w') : StepPost w P dd A o e w' := by
  obtain ⟨h1, ⟨P', h2, h3⟩, h4⟩ := h
  exact ⟨h1, ⟨P', h2, fun g hg => (h3 g hg).imp id (fun e => Nat.le_trans hb.size e)⟩, ⟨h4.os.trans hb.os, h4.tape.trans hb.tape, h4.output.trans hb.output, Nat.le_trans hb.size h4.size, fun k hk hnk => (h4.block k (Nat.lt_of_lt_of_le hk hb.size) hnk).trans (hb.block k hk)⟩⟩
theorem DiskP.below {w w' : World} {P : Nat → Prop} {dd : Nat} {A : Pl} (h : DiskP w P dd A) (hb : Below w.heap.size w w') : DiskP w' P dd A := by
  obtain ⟨S, h, e⟩ := h
  exact ⟨S, h.below hb, e⟩

theorem DiskAt.shrink {w : World} {P : Nat → Prop} {dd : Nat} {S : DiskC} (h : DiskAt w P dd S) : DiskAt w (fun g => P g ∧ g < w.heap.size) dd S where
  blk := h.blk
  now := h.now
  safe := h.safe
  ne := h.ne
  row := h.row
  chg := h.chg
  fails := ⟨h.fails.1, h.fails.2.1, fun a ha h0 hP => h.fails.2.2 a ha h0 hP.1⟩
  files := fun i f hf => by
    obtain ⟨h1, h2, h3, h4, h5⟩ := h.files i f hf
    exact ⟨h1, h2, fun r hr => ⟨h3 r hr, (World.ownsRow.lt h2 r hr).2⟩, ⟨h4, lt_of_heap h1⟩, h5⟩
  apart := h.apart
  nowF := h.nowF
  safeF := h.safeF
  inP := ⟨⟨h.inP.1, lt_of_heap h.blk⟩, ⟨h.inP.2.1, h.now.lt⟩, ⟨h.inP.2.2.1, h.safe.lt⟩, fun r hr => ⟨h.inP.2.2.2 r hr, (World.ownsRow.lt h.row r hr).2⟩⟩
theorem DiskP.shrink {w : World} {P : Nat → Prop} {dd : Nat} {A : Pl} (h : DiskP w P dd A) : DiskP w (fun g => P g ∧ g < w.heap.size) dd A := by
  obtain ⟨S, h, e⟩ := h
  exact ⟨S, h.shrink, e⟩
theorem StepPost.weak {w : World} {P Q : Nat → Prop} (hPQ : ∀ g, P g → Q g) {dd : Nat} {A : Pl} {o : Opp} {e : Ending} {w' : World} (h : StepPost w P dd A o e w') : StepPost w Q dd A o e w' := by
  obtain ⟨h1, ⟨P', h2, h3⟩, h4⟩ := h
  exact ⟨h1, ⟨P', h2, fun g hg => (h3 g hg).imp (hPQ g) id⟩, ⟨h4.os, h4.tape, h4.output, h4.size, fun k hk hnk => h4.block k hk (fun e => hnk (hPQ k e))⟩⟩

set_option maxRecDepth 100000 in
set_option maxHeartbeats 4000000 in
theorem do_any {w : World} {P : Nat → Prop} {dd : Nat} {A : Pl} (h : DiskP w P dd A) (wh : Int) (na nb : ByteArray) (l : BS) (q : Option Addr) (m c : Nat) (hm : l.length = m) (hna : na.size ≤ 140737488351232) (hnb : nb.size ≤ 140737488351232) (hl : m ≤ 140737488351232) (hin : In8 w q l) (hfit : FitP A) :
    Calls Tryd.prog 25 #[.pointer (some ⟨dd, 0, none⟩), .agg #[.int .i64 wh, .string na, .string nb, .slice q m c]] w (StepPost w P dd A (opOf wh na.data.toList nb.data.toList l)) := by
  subst hm
  obtain ⟨wa, hwa⟩ : ∃ W0, W0 = w.alloc (.cells #[.int .i64 wh, .string na, .string nb, .slice q l.length c] 57) := ⟨_, rfl⟩
  have hba : Below w.heap.size w wa := by rw [hwa]; exact (Below.refl _ w).alloc (Nat.le_refl _) _
  have hha := h.below hba
  have hina := hin.below hba
  have h1 := create_p hha na hna hfit
  have h2 := copyBytes_any l q _ c rfl (by omega) wa hina
  have h3 := sync_p hha na hna hfit
  have h4 := names_p hha hfit
  have h5 := rename_p hha na nb hna hnb hfit
  have h6 := remove_p hha na hna hfit
  rw [hwa] at h1 h2 h3 h4 h5 h6
  have HW := Lib.hid (And.intro hwa (And.intro hba hha))
  clear hwa hba hha hina
  by_cases e1 : wh = 1
  · subst e1
    have HO := Lib.hid (show opOf 1 na.data.toList nb.data.toList l = .create na.data.toList from rfl)
    clear h2 h3 h4 h5 h6
    go_enter Tryd.func25, Tryd.ntmps25
    go_wp2_with fail
    refine h1.mono ?_
    rw [← HW.out.1]
    rintro e w2 hp
    obtain ⟨rfl, hr⟩ := hp
    clear h1
    go_wp2_with fail
    go_ret
    exact StepPost.from HW.out.2.1 (by rw [HO.out]; exact ⟨rfl, hr⟩)
  · by_cases e2 : wh = 2
    · subst e2
      have HO := Lib.hid (show opOf 2 na.data.toList nb.data.toList l = .append na.data.toList l from rfl)
      clear h1 h2 h3 h4 h5 h6
      obtain ⟨hwa, hba, hha⟩ := HW.out
      have hsa : w.heap.size < wa.heap.size := by rw [hwa]; simp
      have hbox : wa.heap[w.heap.size]? = some (.cells #[.int .i64 2, .string na, .string nb, .slice q l.length c] 57 (0, 0)) := by rw [hwa]; exact heap_alloc_new w _
      obtain ⟨S, hS⟩ : ∃ S : World → Prop, S = fun W => W.cell? ⟨w.heap.size, 1, none⟩ = some (.string na) ∧ W.cell? ⟨w.heap.size, 3, none⟩ = some (.slice q l.length c) := ⟨_, rfl⟩
      have HSS := Lib.hid (fun W => show S W ↔ W.cell? ⟨w.heap.size, 1, none⟩ = some (.string na) ∧ W.cell? ⟨w.heap.size, 3, none⟩ = some (.slice q l.length c) by rw [hS])
      have step : ∀ W : World, W.heap[w.heap.size]? = wa.heap[w.heap.size]? → S W := fun W hb => by
        rw [hS]
        exact ⟨by rw [cell_of_row _ _ _ _ _ _ (hb.trans hbox)]; rfl, by rw [cell_of_row _ _ _ _ _ _ (hb.trans hbox)]; rfl⟩
      have HK0 := Lib.hid (step wa.drew rfl)
      have HCB := Lib.hid (show Calls Tryd.prog 14 #[.slice q l.length c] wa.drew fun e w' => ∃ qv cv, e = .returned (.slice qv l.length cv) ∧ S w' ∧ Calls Tryd.prog 13 #[.pointer (some ⟨dd, 0, none⟩), .string na, .slice qv l.length cv] w' fun e w' => ∃ z, e = .returned (.int .i64 z) ∧ z = (doP A (.append na.data.toList l)).2 ∧ StepPost w P dd A (.append na.data.toList l) (.returned (.int .i64 z)) w' ∧ S w' from
        (copyBytes_any l q _ c rfl (by omega) wa.drew ((hin.below hba).below (Below.refl _ wa).drew)).mono fun _ w2 ⟨v, h1, h2, h3⟩ => by
          obtain ⟨qv, cv, rfl, _, _, hin2⟩ := h2.in8n rfl
          have hb2 : Below wa.heap.size wa w2 := ((Below.refl _ wa).drew).trans h3
          have hbw : Below w.heap.size w w2 := hba.trans (hb2.mono hba.size)
          refine ⟨qv, cv, h1, step _ (hb2.block _ hsa), (append_p (h.shrink.below hbw) na hna l qv _ cv rfl hl hin2 hfit).mono ?_⟩
          rintro e w3 hp
          have hp2 := hp
          obtain ⟨rfl, _, ho⟩ := hp
          refine ⟨_, rfl, rfl, StepPost.from hbw (StepPost.weak (fun g hg => hg.1) hp2), step _ ((ho.block _ (Nat.lt_of_lt_of_le hsa hb2.size) (fun e => Nat.lt_irrefl _ e.2)).trans (hb2.block _ hsa))⟩)
      clear hS step hbox hba hha hsa
      rw [hwa] at HCB HK0
      have HWA := Lib.hid hwa
      clear hwa
      go_enter Tryd.func25, Tryd.ntmps25
      go_wp2_with fail
      go_region_held3 (fun W => W.cell? ⟨w.heap.size, 1, none⟩ = some (.string na) ∧ W.cell? ⟨w.heap.size, 3, none⟩ = some (.slice q l.length c))
        (first | (with_reducible exact (HSS.out _).1 HK0.out) | (with_reducible exact (HSS.out _).1 HK1.out) | (with_reducible exact (HSS.out _).1 HK2.out))
        (first
          | (go_at_call 14; with_reducible refine HCB.out.mono ?_; rintro e w2 ⟨qv, cv, rfl, hk1, hap⟩; have HK1 := Lib.hid hk1; have HAP := Lib.hid hap; clear hk1 hap)
          | (go_at_call 13; with_reducible refine HAP.out.mono ?_; rintro e w3 ⟨z, rfl, hz, hp, hk2⟩; have HK2 := Lib.hid hk2; have HP := Lib.hid hp; clear hk2 hp hz))
      all_goals
        go_wp2_with fail
        go_ret
        rw [HO.out]
        exact HP.out
    · by_cases e3 : wh = 3
      · subst e3
        have HO := Lib.hid (show opOf 3 na.data.toList nb.data.toList l = .sync na.data.toList from rfl)
        clear h1 h2 h4 h5 h6
        go_enter Tryd.func25, Tryd.ntmps25
        go_wp2_with fail
        refine h3.mono ?_
        rw [← HW.out.1]
        rintro e w2 hp
        obtain ⟨rfl, hr⟩ := hp
        clear h3
        go_wp2_with fail
        go_ret
        exact StepPost.from HW.out.2.1 (by rw [HO.out]; exact ⟨rfl, hr⟩)
      · by_cases e4 : wh = 4
        · subst e4
          have HO := Lib.hid (show opOf 4 na.data.toList nb.data.toList l = .names from rfl)
          clear h1 h2 h3 h5 h6
          go_enter Tryd.func25, Tryd.ntmps25
          go_wp2_with fail
          refine h4.mono ?_
          rw [← HW.out.1]
          rintro e w2 hp
          obtain ⟨rfl, hr⟩ := hp
          clear h4
          go_wp2_with fail
          go_ret
          exact StepPost.from HW.out.2.1 (by rw [HO.out]; exact ⟨rfl, hr⟩)
        · by_cases e5 : wh = 5
          · subst e5
            have HO := Lib.hid (show opOf 5 na.data.toList nb.data.toList l = .rename na.data.toList nb.data.toList from rfl)
            clear h1 h2 h3 h4 h6
            go_enter Tryd.func25, Tryd.ntmps25
            go_wp2_with fail
            refine h5.mono ?_
            rw [← HW.out.1]
            rintro e w2 hp
            obtain ⟨rfl, hr⟩ := hp
            clear h5
            go_wp2_with fail
            go_ret
            exact StepPost.from HW.out.2.1 (by rw [HO.out]; exact ⟨rfl, hr⟩)
          · have HO := Lib.hid (show opOf wh na.data.toList nb.data.toList l = .remove na.data.toList by unfold opOf; rw [if_neg e1, if_neg e2, if_neg e3, if_neg e4, if_neg e5])
            have q1 : (wh == 1) = false := beq_eq_false_iff_ne.2 e1
            have q2 : (wh == 2) = false := beq_eq_false_iff_ne.2 e2
            have q3 : (wh == 3) = false := beq_eq_false_iff_ne.2 e3
            have q4 : (wh == 4) = false := beq_eq_false_iff_ne.2 e4
            have q5 : (wh == 5) = false := beq_eq_false_iff_ne.2 e5
            clear h1 h2 h3 h4 h5
            go_enter Tryd.func25, Tryd.ntmps25
            go_wp2_with fail
            refine h6.mono ?_
            rw [← HW.out.1]
            rintro e w2 hp
            obtain ⟨rfl, hr⟩ := hp
            clear h6
            go_wp2_with fail
            go_ret
            exact StepPost.from HW.out.2.1 (by rw [HO.out]; exact ⟨rfl, hr⟩)
end Go.Proofs.YtnhfnfdmpcpcoaaDoor

/-
  An argument that is a slice of bytes, weighed.
-/
namespace Go.Proofs.YtnhfnfdmpcpcoaaDoor
open Go.ChangeShapes Go.WideShapes Go.ChangeAt Go.RowKit

theorem bulk_lits {H : Type} (k : IntKind) (zs : List Int) : Rows.uptoBulkAll (lits (H := H) k zs) = zs.length := by
  induction zs with
  | nil => simp [lits, Rows.uptoBulkAll]
  | cons z zs ih =>
    have e : lits (H := H) k (z :: zs) = .lit (.int k z) :: lits k zs := rfl
    rw [e, List.length_cons, ← ih]
    simp only [Rows.uptoBulk, Rows.uptoBulkAll]
    omega
set_option maxRecDepth 100000 in
theorem open_bytesU {H : Type} {enc : TypeId × Value → H} {W : World} {r : Reach} {b0 : Nat} {v : Value} {d : DataW H} {ps : List MemPlace}
    (hv : Value.okWide Tryd.prog W r b0 26 v) (h : DataW.Trod enc Tryd.prog W 0 (fun _ => true) true 26 v d ps) :
    ∃ p l c, v = .slice p (List.length l) c ∧ In8 W p l ∧ l.length ≤ c ∧ c ≤ maxLen ∧ l.length ≤ Rows.uptoBulk d := by
  obtain ⟨a0, len, cap, rfl⟩ := okWide_slice Tryd.underlying26 hv
  obtain ⟨fuel, hf⟩ := h
  rcases open_ints Tryd.underlying26 Tryd.underlying5 cells8 hf with ⟨hcs, _⟩ | ⟨x, l, c, zs, hcs, _, hl, hm, hz, hx, hcell, hwz⟩
  · simp [Value.cells] at hcs
    obtain ⟨rfl, rfl, rfl⟩ := hcs
    exact ⟨none, [], 0, rfl, fun h => absurd h (by simp), by simp, by unfold maxLen; omega, by simp⟩
  · simp [Value.cells] at hcs
    obtain ⟨rfl, rfl, rfl⟩ := hcs
    simp only [if_true] at hz
    simp only [Prod.mk.injEq] at hx
    have hlen : ((zs.take len).map ubyte).length = len := by simp; omega
    refine ⟨some x, (zs.take len).map ubyte, cap, by rw [hlen], ?_, by omega, hm, ?_⟩
    · intro h0
      obtain ⟨b, o, s⟩ := x
      have hs : s = none := by simpa [Addr.add] using World.cell?_spot (hcell 0 (by omega))
      subst hs
      refine ⟨b, o, rfl, fun i hi => ?_⟩
      have hi2 : i < (zs.take len).length := by simpa using hi
      have := hcell i (by omega)
      rw [add_plain] at this
      rw [this, bt_of_ints _ (fun n hn => hwz n (List.mem_of_mem_take hn)) i hi2]
      simp only [List.getD_eq_getElem?_getD]
      rw [List.getElem?_take_of_lt (by omega)]
    · rw [hlen, hx.1]
      simp only [Rows.uptoBulk, bulk_lits, List.length_take, List.length_drop]
      omega
end Go.Proofs.YtnhfnfdmpcpcoaaDoor

/-
  Arguments: files, numbers, a beginning, a fate, a script, rows of bytes; in the words of the walks.
-/
namespace Go.Proofs.YtnhfnfdmpcpcoaaDoor
open Go.ChangeShapes Go.WideShapes Go.ChangeAt Go.RowKit

theorem cellsB9 : Tryd.prog.cellsOf 26 = 1 := by kernel_rfl
theorem cellsS9 : Tryd.prog.cellsOf 9 = 1 := by kernel_rfl
theorem cellsI9 : Tryd.prog.cellsOf 3 = 1 := by kernel_rfl
theorem cellsIs9 : Tryd.prog.cellsOf 23 = 1 := by kernel_rfl
theorem cellsFs9 : Tryd.prog.cellsOf 22 = 1 := by kernel_rfl
theorem cellsF9 : Tryd.prog.cellsOf 45 = 2 := by kernel_rfl
theorem cellsO9 : Tryd.prog.cellsOf 57 = 4 := by kernel_rfl
theorem cellsSt9 : Tryd.prog.cellsOf 25 = 4 := by kernel_rfl
theorem cellsFa9 : Tryd.prog.cellsOf 29 = 2 := by kernel_rfl

section
variable {H : Type} {enc : TypeId × Value → H} {W : World} {fuel : Nat} {cs : List Value} {d : DataW H} {ps : List MemPlace}
set_option maxRecDepth 100000 in
theorem open_bytesV (hf : DataW.trod enc Tryd.prog W 0 (fun _ => true) true fuel 26 cs = some (d, ps)) : ∃ v l, cs = [v] ∧ ByteV W v l ∧ l.length + 1 ≤ Rows.uptoBulk d := by
  rcases open_ints Tryd.underlying26 Tryd.underlying5 cells8 hf with ⟨hcs, hx⟩ | ⟨x, l, c, zs, hcs, _, hl, hm, hz, hx, hcell, hwz⟩
  · simp only [Prod.mk.injEq] at hx
    refine ⟨_, [], hcs, ⟨none, 0, rfl, fun _ => rfl, by unfold maxLen; simp, fun h => absurd h (by simp)⟩, ?_⟩
    rw [hx.1]
    simp [Rows.uptoBulk]
  · simp only [if_true] at hz
    simp only [Prod.mk.injEq] at hx
    have hlen : ((zs.take l).map ubyte).length = l := by simp; omega
    refine ⟨_, (zs.take l).map ubyte, hcs, ⟨some x, c, by rw [hlen], (fun e => by cases e), by rw [hlen]; omega, ?_⟩, ?_⟩
    · intro h0
      obtain ⟨b, o, s⟩ := x
      have hs : s = none := by simpa [Addr.add] using World.cell?_spot (hcell 0 (by omega))
      subst hs
      refine ⟨b, o, rfl, fun i hi => ?_⟩
      have hi2 : i < (zs.take l).length := by simpa using hi
      have := hcell i (by omega)
      rw [add_plain] at this
      rw [this, bt_of_ints _ (fun n hn => hwz n (List.mem_of_mem_take hn)) i hi2]
      simp only [List.getD_eq_getElem?_getD]
      rw [List.getElem?_take_of_lt (by omega)]
    · rw [hlen, hx.1]
      simp only [Rows.uptoBulk, bulk_lits, List.length_take, List.length_drop]
      omega
set_option maxRecDepth 100000 in
theorem open_intsC (hf : DataW.trod enc Tryd.prog W 0 (fun _ => true) true fuel 23 cs = some (d, ps)) : ∃ p Z c, cs = [.slice p (List.length Z) c] ∧ InV W p (Z.map (Value.int .i64)) ∧ Z.length + 1 ≤ Rows.uptoBulk d := by
  rcases open_ints Tryd.underlying23 Tryd.underlying3 cellsI9 hf with ⟨hcs, hx⟩ | ⟨x, l, c, zs, hcs, _, hl, hm, hz, hx, hcell, _⟩
  · simp only [Prod.mk.injEq] at hx
    exact ⟨none, [], 0, hcs, fun h => absurd h (by simp), by rw [hx.1]; simp [Rows.uptoBulk]⟩
  · simp only [if_true] at hz
    simp only [Prod.mk.injEq] at hx
    have hlen : (zs.take l).length = l := by simp; omega
    refine ⟨some x, zs.take l, c, by rw [hcs, hlen], ?_, ?_⟩
    · intro h0
      rw [List.length_map, hlen] at h0
      obtain ⟨b, o, s⟩ := x
      have hs : s = none := by simpa [Addr.add] using World.cell?_spot (hcell 0 (by omega))
      subst hs
      refine ⟨b, o, rfl, fun i hi => ?_⟩
      rw [List.length_map, hlen] at hi
      have := hcell i (by omega)
      rw [add_plain] at this
      rw [this, List.getElem_map, List.getElem_take]
      simp only [List.getD_eq_getElem?_getD]
      rw [List.getElem?_eq_getElem (by omega)]
      rfl
    · rw [hlen, hx.1]
      simp only [Rows.uptoBulk, bulk_lits, List.length_take, List.length_drop]
      omega

/-- what files weigh -/
def bulkFs (L : List FT) : Nat := (L.map fun x => x.1.length + x.2.length + 1).sum
theorem bulkAll_range {H : Type} (D : Nat → DataW H) (f : Nat → FT) : ∀ l : Nat, (∀ i, i < l → (f i).1.length + (f i).2.length + 1 ≤ Rows.uptoBulk (D i)) → bulkFs ((List.range l).map f) ≤ Rows.uptoBulkAll ((List.range l).map D)
  | 0, _ => by simp [bulkFs, Rows.uptoBulkAll]
  | l + 1, h => by
    have ih := bulkAll_range D f l fun i hi => h i (by omega)
    have h1 := h l (by omega)
    have e : ∀ (A B : List (DataW H)), Rows.uptoBulkAll (A ++ B) = Rows.uptoBulkAll A + Rows.uptoBulkAll B := by
      intro A B
      induction A with
      | nil => simp [Rows.uptoBulkAll]
      | cons x A ih => rw [List.cons_append]; simp only [Rows.uptoBulkAll, ih]; omega
    rw [List.range_succ, List.map_append, List.map_append, e]
    unfold bulkFs at ih ⊢
    rw [List.map_append, List.sum_append]
    simp only [List.map_cons, List.map_nil, List.sum_cons, List.sum_nil, Rows.uptoBulkAll]
    omega
theorem bulkFs_length (L : List FT) : L.length ≤ bulkFs L := by
  induction L with
  | nil => simp [bulkFs]
  | cons x L ih => unfold bulkFs at ih ⊢; simp only [List.map_cons, List.sum_cons, List.length_cons]; omega
theorem bulkFs_mem (L : List FT) : ∀ x ∈ L, x.1.length + x.2.length ≤ bulkFs L := by
  induction L with
  | nil => simp
  | cons y L ih =>
    intro x hx
    unfold bulkFs at ih ⊢
    simp only [List.map_cons, List.sum_cons]
    rcases List.mem_cons.1 hx with rfl | hx
    · omega
    · have := ih x hx; omega
theorem bulkFs_sum (L : List FT) : (L.map fun x => x.2.length).sum ≤ bulkFs L := by
  induction L with
  | nil => simp [bulkFs]
  | cons y L ih =>
    unfold bulkFs at ih ⊢
    simp only [List.map_cons, List.sum_cons]
    omega
theorem fc_at (E : List (List UInt8 × Value)) (j : Nat) (v : Value) (h : (fc E)[j]? = some v) : ∃ i, ∃ hi : i < E.length, (j = i * 2 ∧ v = .string ⟨E[i].1.toArray⟩) ∨ (j = i * 2 + 1 ∧ v = E[i].2) := by
  have hl := (List.getElem?_eq_some_iff.1 h).1
  rw [fc_length] at hl
  have hi : j / 2 < E.length := by omega
  obtain ⟨h1, h2⟩ := fc_get E (j / 2) hi
  refine ⟨j / 2, hi, ?_⟩
  rcases Nat.mod_two_eq_zero_or_one j with hm | hm
  · left
    have ej : j = j / 2 * 2 := by omega
    refine ⟨ej, ?_⟩
    rw [← ej, h] at h1
    exact Option.some.inj h1
  · right
    have ej : j = j / 2 * 2 + 1 := by omega
    refine ⟨ej, ?_⟩
    rw [← ej, h] at h2
    exact Option.some.inj h2
set_option maxRecDepth 100000 in
theorem open_filesC (hf : DataW.trod enc Tryd.prog W 0 (fun _ => true) true fuel 22 cs = some (d, ps)) : ∃ p L c, cs = [.slice p (List.length L) c] ∧ InFs W p L ∧ bulkFs L + 1 ≤ Rows.uptoBulk d := by
  rcases Go.Deep.open_slice_pairs Tryd.underlying22 Tryd.underlying45 cellsF9 rfl rfl cellsS9 cellsB9 hf with ⟨hcs, hx⟩ | ⟨x, l, c, m, n, V0, V1, D0, D1, P0, P1, hcs, _, hl, hm, hmm, hx, hat⟩
  · simp only [Prod.mk.injEq] at hx
    refine ⟨none, [], 0, hcs, InFs.nil _ _, ?_⟩
    rw [hx.1]
    simp [Rows.uptoBulk, bulkFs]
  · simp only [if_true] at hmm
    subst hmm
    simp only [Prod.mk.injEq] at hx
    have each : ∀ i, i < m → ∃ q : ByteArray × List UInt8, V0 i = .string q.1 ∧ D0 i = .lit (.string q.1.data.toList) ∧ ByteV W (V1 i) q.2 ∧ q.2.length + 1 ≤ Rows.uptoBulk (D1 i) := by
      intro i hi
      obtain ⟨_, _, h0, h1⟩ := hat i hi
      obtain ⟨s, e1, e2, z⟩ := DataW.trod_string Tryd.underlying9 h0
      obtain ⟨v, b, e3, e4, e5⟩ := open_bytesV h1
      simp only [Prod.mk.injEq] at e2
      simp only [List.cons.injEq, and_true] at e1 e3
      exact ⟨(s, b), e1, e2.1, by rw [e3]; exact e4, e5⟩
    obtain ⟨q, hq⟩ := Go.Deep.choose_lt each
    have hlen : ((List.range l).map fun i => (((q i).1.data.toList, (q i).2) : FT)).length = l := by simp
    refine ⟨some x, (List.range l).map fun i => ((q i).1.data.toList, (q i).2), m, by rw [hlen]; exact hcs, ⟨(List.range l).map fun i => ((q i).1.data.toList, V1 i), ?_, by simp, ?_⟩, ?_⟩
    · intro h0
      have h0 : 0 < l := by simpa using h0
      obtain ⟨b, o, s⟩ := x
      have hs : s = none := by simpa [Addr.add] using World.cell?_spot (hat 0 (by omega)).1
      subst hs
      refine ⟨b, o, rfl, fun j v hv => ?_⟩
      obtain ⟨i, hi, h2⟩ := fc_at _ j v hv
      have hi : i < l := by simpa using hi
      obtain ⟨c0, c1, _, _⟩ := hat i (by omega)
      obtain ⟨e0, _⟩ := hq i (by omega)
      rw [add_plain] at c0 c1
      simp only [List.getElem_map, List.getElem_range] at h2
      rcases h2 with ⟨rfl, rfl⟩ | ⟨rfl, rfl⟩
      · rw [c0, e0]
      · rw [← Nat.add_assoc] at c1 ⊢
        rw [c1]
    · intro i e y he hy
      have hi : i < l := by have := (List.getElem?_eq_some_iff.1 he).1; simpa using this
      rw [List.getElem?_map, List.getElem?_range hi] at he hy
      simp only [Option.map_some, Option.some.injEq] at he hy
      subst he hy
      exact ⟨rfl, (hq i (by omega)).2.2.1⟩
    · rw [hx.1]
      have := bulkAll_range (fun i => (.agg [D0 i, D1 i] : DataW H)) (fun i => ((q i).1.data.toList, (q i).2)) l fun i hi => by
        obtain ⟨_, e2, _, e4⟩ := hq i (by omega)
        simp only [Rows.uptoBulk, Rows.uptoBulkAll, e2]
        omega
      simp only [Rows.uptoBulk]
      omega
end

theorem array2 {α : Type} {cs : Array α} (h : cs.size = 2) : ∃ c0 c1, cs = #[c0, c1] := by
  obtain ⟨l⟩ := cs
  match l, h with
  | [c0, c1], _ => exact ⟨c0, c1, rfl⟩
theorem array4 {α : Type} {cs : Array α} (h : cs.size = 4) : ∃ c0 c1 c2 c3, cs = #[c0, c1, c2, c3] := by
  obtain ⟨l⟩ := cs
  match l, h with
  | [c0, c1, c2, c3], _ => exact ⟨c0, c1, c2, c3, rfl⟩
set_option maxRecDepth 100000 in
theorem open_fate {H : Type} {enc : TypeId × Value → H} {W : World} {r : Reach} {b0 : Nat} {v : Value} {d : DataW H} {ps : List MemPlace}
    (hv : Value.okWide Tryd.prog W r b0 29 v) (h : DataW.Trod enc Tryd.prog W 0 (fun _ => true) true 29 v d ps) :
    ∃ (n : Int) (p : Option Addr) (K : List Int) (c : Nat), v = .agg #[.int .i64 n, .slice p K.length c] ∧ InV W p (K.map (Value.int .i64)) ∧ K.length ≤ Rows.uptoBulk d := by
  obtain ⟨cs, rfl, hsz⟩ := okWide_struct Tryd.underlying29 hv
  obtain ⟨c0, c1, rfl⟩ := array2 (hsz.trans cellsFa9)
  obtain ⟨fuel, hf⟩ := h
  obtain ⟨xs, n, _, hx, _, hlen, hat⟩ := DataW.trod_struct Tryd.underlying29 hf
  match xs, hlen with
  | [y0, y1], _ =>
    have h0 := hat 0 _ rfl
    have h1 := hat 1 _ rfl
    simp [Value.cells, cellsI9, cellsIs9] at h0 h1
    obtain ⟨a, e0, rfl, _⟩ := DataW.trod_int Tryd.underlying3 h0
    obtain ⟨y10, y11⟩ := y1
    obtain ⟨p, Z, c, e1, hin, hb⟩ := open_intsC h1
    simp at e0 e1
    subst e0 e1
    refine ⟨a, p, Z, c, rfl, hin, ?_⟩
    simp only [Prod.mk.injEq] at hx
    rw [hx.1]
    simp only [List.map_cons, List.map_nil, Rows.uptoBulk, Rows.uptoBulkAll]
    omega
set_option maxRecDepth 100000 in
theorem open_start {H : Type} {enc : TypeId × Value → H} {W : World} {r : Reach} {b0 : Nat} {v : Value} {d : DataW H} {ps : List MemPlace}
    (hv : Value.okWide Tryd.prog W r b0 25 v) (h : DataW.Trod enc Tryd.prog W 0 (fun _ => true) true 25 v d ps) :
    ∃ (p : Option Addr) (F : List FT) (c : Nat) (room : Int) (q : Option Addr) (Z : List Int) (e : Nat) (power : Int), v = .agg #[.slice p F.length c, .int .i64 room, .slice q Z.length e, .int .i64 power] ∧ InFs W p F ∧ InV W q (Z.map (Value.int .i64)) ∧ bulkFs F + Z.length ≤ Rows.uptoBulk d := by
  obtain ⟨cs, rfl, hsz⟩ := okWide_struct Tryd.underlying25 hv
  obtain ⟨c0, c1, c2, c3, rfl⟩ := array4 (hsz.trans cellsSt9)
  obtain ⟨fuel, hf⟩ := h
  obtain ⟨xs, n, _, hx, _, hlen, hat⟩ := DataW.trod_struct Tryd.underlying25 hf
  match xs, hlen with
  | [y0, y1, y2, y3], _ =>
    have h0 := hat 0 _ rfl
    have h1 := hat 1 _ rfl
    have h2 := hat 2 _ rfl
    have h3 := hat 3 _ rfl
    simp [Value.cells, cellsI9, cellsIs9, cellsFs9] at h0 h1 h2 h3
    obtain ⟨y00, y01⟩ := y0
    obtain ⟨p, F, c, e0, hin0, hb0⟩ := open_filesC h0
    obtain ⟨a, e1, rfl, _⟩ := DataW.trod_int Tryd.underlying3 h1
    obtain ⟨y20, y21⟩ := y2
    obtain ⟨q, Z, e, e2, hin2, hb2⟩ := open_intsC h2
    obtain ⟨g, e3, rfl, _⟩ := DataW.trod_int Tryd.underlying3 h3
    simp at e0 e1 e2 e3
    subst e0 e1 e2 e3
    refine ⟨p, F, c, a, q, Z, e, g, rfl, hin0, hin2, ?_⟩
    simp only [Prod.mk.injEq] at hx
    rw [hx.1]
    simp only [List.map_cons, List.map_nil, Rows.uptoBulk, Rows.uptoBulkAll]
    omega
end Go.Proofs.YtnhfnfdmpcpcoaaDoor

/-
  Arguments: a script of steps, rows of bytes; in the words of the walks.
-/
namespace Go.Proofs.YtnhfnfdmpcpcoaaDoor
open Go.ChangeShapes Go.WideShapes Go.ChangeAt Go.RowKit

abbrev OpT := Int × List UInt8 × List UInt8 × List UInt8
def InOps (w : World) (p : Option Addr) (L : List OpT) : Prop :=
  ∀ k, (hk : k < L.length) → ∃ b o, p = some ⟨b, o, none⟩ ∧ ∃ (na nb : ByteArray) (q : Option Addr) (c : Nat), w.cell? ⟨b, o + k * 4, none⟩ = some (.int .i64 L[k].1) ∧ w.cell? ⟨b, o + k * 4 + 1, none⟩ = some (.string na) ∧ w.cell? ⟨b, o + k * 4 + 2, none⟩ = some (.string nb) ∧ w.cell? ⟨b, o + k * 4 + 3, none⟩ = some (.slice q L[k].2.2.2.length c) ∧
    na.data.toList = L[k].2.1 ∧ nb.data.toList = L[k].2.2.1 ∧ In8 w q L[k].2.2.2
theorem InOps.below {w w' : World} {p : Option Addr} {L : List OpT} (h : InOps w p L) (hb : Below w.heap.size w w') : InOps w' p L := by
  intro k hk
  obtain ⟨b, o, e, na, nb, q, c, h1, h2, h3, h4, h5, h6, h7⟩ := h k hk
  exact ⟨b, o, e, na, nb, q, c, (hb.cell (World.block_lt_of_cell? w _ h1)).trans h1, (hb.cell (World.block_lt_of_cell? w _ h2)).trans h2, (hb.cell (World.block_lt_of_cell? w _ h3)).trans h3, (hb.cell (World.block_lt_of_cell? w _ h4)).trans h4, h5, h6, h7.below hb⟩
theorem InOps.take {w : World} {p : Option Addr} {L : List OpT} (h : InOps w p L) (m : Nat) : InOps w p (L.take m) := by
  intro k hk
  have hk2 : k < L.length := by rw [List.length_take] at hk; omega
  have := h k hk2
  rw [List.getElem_take]
  exact this
def bulkOps (L : List OpT) : Nat := (L.map fun x => x.2.1.length + x.2.2.1.length + x.2.2.2.length + 1).sum
theorem bulkOps_mem (L : List OpT) : ∀ x ∈ L, x.2.1.length + x.2.2.1.length + x.2.2.2.length ≤ bulkOps L := by
  induction L with
  | nil => simp
  | cons y L ih =>
    intro x hx
    unfold bulkOps at ih ⊢
    simp only [List.map_cons, List.sum_cons]
    rcases List.mem_cons.1 hx with rfl | hx
    · omega
    · have := ih x hx; omega
theorem bulkOps_length (L : List OpT) : L.length ≤ bulkOps L := by
  induction L with
  | nil => simp [bulkOps]
  | cons x L ih => unfold bulkOps at ih ⊢; simp only [List.map_cons, List.sum_cons, List.length_cons]; omega
theorem bulkAll_app {H : Type} (A B : List (DataW H)) : Rows.uptoBulkAll (A ++ B) = Rows.uptoBulkAll A + Rows.uptoBulkAll B := by
  induction A with
  | nil => simp [Rows.uptoBulkAll]
  | cons x A ih => rw [List.cons_append]; simp only [Rows.uptoBulkAll, ih]; omega
theorem bulkAll_sum {H : Type} {α : Type} (D : Nat → DataW H) (f : Nat → α) (g : α → Nat) : ∀ l : Nat, (∀ i, i < l → g (f i) ≤ Rows.uptoBulk (D i)) → (((List.range l).map f).map g).sum ≤ Rows.uptoBulkAll ((List.range l).map D)
  | 0, _ => by simp
  | l + 1, h => by
    have ih := bulkAll_sum D f g l fun i hi => h i (by omega)
    have h1 := h l (by omega)
    rw [List.range_succ, List.map_append, List.map_append, List.map_append, bulkAll_app, List.sum_append]
    simp only [List.map_cons, List.map_nil, List.sum_cons, List.sum_nil, Rows.uptoBulkAll]
    omega
set_option maxRecDepth 100000 in
theorem open_ops {H : Type} {enc : TypeId × Value → H} {W : World} {r : Reach} {b0 : Nat} {v : Value} {d : DataW H} {ps : List MemPlace}
    (hv : Value.okWide Tryd.prog W r b0 48 v) (h : DataW.Trod enc Tryd.prog W 0 (fun _ => true) true 48 v d ps) :
    ∃ (p : Option Addr) (L : List OpT) (c : Nat), v = .slice p L.length c ∧ InOps W p L ∧ bulkOps L ≤ Rows.uptoBulk d ∧ L.length ≤ c := by
  obtain ⟨a0, len, cap, rfl⟩ := okWide_slice Tryd.underlying48 hv
  obtain ⟨fuel, hf⟩ := h
  rcases Go.Deep.open_slice Tryd.underlying48 hf with ⟨hcs, hx⟩ | ⟨x, l, c, m, n, D, Pl, hcs, _, hl, hm, hmm, hx, hat⟩
  · simp [Value.cells] at hcs
    obtain ⟨rfl, rfl, rfl⟩ := hcs
    exact ⟨none, [], 0, rfl, fun k hk => absurd hk (by simp), by simp [bulkOps], Nat.le_refl _⟩
  · simp [Value.cells] at hcs
    obtain ⟨rfl, rfl, rfl⟩ := hcs
    simp only [if_true] at hmm
    subst hmm
    simp only [Prod.mk.injEq] at hx
    have each : ∀ i, i < m → ∃ q : (Int × ByteArray × ByteArray) × (Option Addr × Nat × List UInt8), W.cell? (x.add (i * 4)) = some (.int .i64 q.1.1) ∧ W.cell? (x.add (i * 4 + 1)) = some (.string q.1.2.1) ∧ W.cell? (x.add (i * 4 + 2)) = some (.string q.1.2.2) ∧ W.cell? (x.add (i * 4 + 3)) = some (.slice q.2.1 q.2.2.2.length q.2.2.1) ∧ In8 W q.2.1 q.2.2.2 ∧ q.1.2.1.data.toList.length + q.1.2.2.data.toList.length + q.2.2.2.length + 1 ≤ Rows.uptoBulk (D i) := by
      intro i hi
      obtain ⟨cs', h1, h2⟩ := hat i hi
      rw [cellsO9] at h1
      obtain ⟨_, hlen, hcell⟩ := World.cells?_some h1
      obtain ⟨xs, k, hk, hxy, _, hxl, hat2⟩ := DataW.trod_struct Tryd.underlying57 h2
      match xs, hxl, cs', hlen with
      | [y0, y1, y2, y3], _, [v0, v1, v2, v3], _ =>
        have g0 := hat2 0 _ rfl
        have g1 := hat2 1 _ rfl
        have g2 := hat2 2 _ rfl
        have g3 := hat2 3 _ rfl
        simp [cellsI9, cellsS9, cellsB9] at g0 g1 g2 g3
        have e0 := hcell 0 (by omega)
        have e1 := hcell 1 (by omega)
        have e2 := hcell 2 (by omega)
        have e3 := hcell 3 (by omega)
        rw [Go.Deep.add_add] at e0 e1 e2 e3
        obtain ⟨a, f0, rfl, _⟩ := DataW.trod_int Tryd.underlying3 g0
        obtain ⟨na, f1, rfl, _⟩ := DataW.trod_string Tryd.underlying9 g1
        obtain ⟨nb, f2, rfl, _⟩ := DataW.trod_string Tryd.underlying9 g2
        obtain ⟨y30, y31⟩ := y3
        obtain ⟨vv, b, f3, ⟨q, cq, f4, _, _, f5⟩, f6⟩ := open_bytesV g3
        simp at f0 f1 f2 f3
        subst f0 f1 f2 f3
        rw [f4] at e3
        refine ⟨((a, na, nb), (q, cq, b)), by simpa using e0, by simpa using e1, by simpa using e2, by simpa using e3, f5, ?_⟩
        simp only [Prod.mk.injEq] at hxy
        rw [hxy.1]
        simp only [List.map_cons, List.map_nil, Rows.uptoBulk, Rows.uptoBulkAll]
        omega
    obtain ⟨q, hq⟩ := Go.Deep.choose_lt each
    have hlen : ((List.range len).map fun i => (((q i).1.1, (q i).1.2.1.data.toList, (q i).1.2.2.data.toList, (q i).2.2.2) : OpT)).length = len := by simp
    refine ⟨some x, (List.range len).map fun i => ((q i).1.1, (q i).1.2.1.data.toList, (q i).1.2.2.data.toList, (q i).2.2.2), _, by rw [hlen], ?_, ?_, by rw [hlen]; exact hl⟩
    · intro k hk
      have hk2 : k < len := by rw [hlen] at hk; exact hk
      obtain ⟨b, o, s⟩ := x
      have hs : s = none := by simpa [Addr.add] using World.cell?_spot (hq 0 (by omega)).1
      subst hs
      obtain ⟨c0, c1, c2, c3, c4, _⟩ := hq k (by omega)
      rw [add_plain] at c0 c1 c2 c3
      rw [← Nat.add_assoc] at c1 c2 c3
      simp only [List.getElem_map, List.getElem_range]
      exact ⟨b, o, rfl, _, _, _, _, c0, c1, c2, c3, rfl, rfl, c4⟩
    · rw [hx.1]
      have := bulkAll_sum D (fun i => (((q i).1.1, (q i).1.2.1.data.toList, (q i).1.2.2.data.toList, (q i).2.2.2) : OpT)) (fun x => x.2.1.length + x.2.2.1.length + x.2.2.2.length + 1) len fun i hi => (hq i (by omega)).2.2.2.2.2
      refine Nat.le_trans this ?_
      simp only [Rows.uptoBulk]
      omega

def InBs (w : World) (p : Option Addr) (L : List (List UInt8)) : Prop :=
  ∀ k, (hk : k < L.length) → ∃ b o, p = some ⟨b, o, none⟩ ∧ ∃ (q : Option Addr) (c : Nat), w.cell? ⟨b, o + k, none⟩ = some (.slice q L[k].length c) ∧ In8 w q L[k]
theorem InBs.below {w w' : World} {p : Option Addr} {L : List (List UInt8)} (h : InBs w p L) (hb : Below w.heap.size w w') : InBs w' p L := by
  intro k hk
  obtain ⟨b, o, e, q, c, h1, h2⟩ := h k hk
  exact ⟨b, o, e, q, c, (hb.cell (World.block_lt_of_cell? w _ h1)).trans h1, h2.below hb⟩
def bulkBs (L : List (List UInt8)) : Nat := (L.map fun x => x.length + 1).sum
theorem bulkBs_mem (L : List (List UInt8)) : ∀ x ∈ L, x.length ≤ bulkBs L := by
  induction L with
  | nil => simp
  | cons y L ih =>
    intro x hx
    unfold bulkBs at ih ⊢
    simp only [List.map_cons, List.sum_cons]
    rcases List.mem_cons.1 hx with rfl | hx
    · omega
    · have := ih x hx; omega
theorem bulkBs_length (L : List (List UInt8)) : L.length ≤ bulkBs L := by
  induction L with
  | nil => simp [bulkBs]
  | cons x L ih => unfold bulkBs at ih ⊢; simp only [List.map_cons, List.sum_cons, List.length_cons]; omega
set_option maxRecDepth 100000 in
theorem open_rowsB {H : Type} {enc : TypeId × Value → H} {W : World} {r : Reach} {b0 : Nat} {v : Value} {d : DataW H} {ps : List MemPlace}
    (hv : Value.okWide Tryd.prog W r b0 27 v) (h : DataW.Trod enc Tryd.prog W 0 (fun _ => true) true 27 v d ps) :
    ∃ (p : Option Addr) (L : List (List UInt8)) (c : Nat), v = .slice p L.length c ∧ InBs W p L ∧ bulkBs L ≤ Rows.uptoBulk d := by
  obtain ⟨a0, len, cap, rfl⟩ := okWide_slice Tryd.underlying27 hv
  obtain ⟨fuel, hf⟩ := h
  rcases Go.Deep.open_slice1 Tryd.underlying27 cellsB9 hf with ⟨hcs, hx⟩ | ⟨x, l, c, m, n, V, D, Pl, hcs, _, hl, hm, hmm, hx, hat⟩
  · simp [Value.cells] at hcs
    obtain ⟨rfl, rfl, rfl⟩ := hcs
    exact ⟨none, [], 0, rfl, fun k hk => absurd hk (by simp), by simp [bulkBs]⟩
  · simp [Value.cells] at hcs
    obtain ⟨rfl, rfl, rfl⟩ := hcs
    simp only [if_true] at hmm
    subst hmm
    simp only [Prod.mk.injEq] at hx
    have each : ∀ i, i < m → ∃ q : Option Addr × Nat × List UInt8, W.cell? (x.add i) = some (.slice q.1 q.2.2.length q.2.1) ∧ In8 W q.1 q.2.2 ∧ q.2.2.length + 1 ≤ Rows.uptoBulk (D i) := by
      intro i hi
      obtain ⟨h1, h2⟩ := hat i hi
      obtain ⟨vv, b, f3, ⟨q, cq, f4, _, _, f5⟩, f6⟩ := open_bytesV h2
      simp at f3
      rw [f3, f4] at h1
      exact ⟨(q, cq, b), h1, f5, f6⟩
    obtain ⟨q, hq⟩ := Go.Deep.choose_lt each
    have hlen : ((List.range len).map fun i => (q i).2.2).length = len := by simp
    refine ⟨some x, (List.range len).map fun i => (q i).2.2, _, by rw [hlen], ?_, ?_⟩
    · intro k hk
      have hk2 : k < len := by rw [hlen] at hk; exact hk
      obtain ⟨b, o, s⟩ := x
      have hs : s = none := by simpa [Addr.add] using World.cell?_spot (hq 0 (by omega)).1
      subst hs
      obtain ⟨c0, c1, _⟩ := hq k (by omega)
      rw [add_plain] at c0
      simp only [List.getElem_map, List.getElem_range]
      exact ⟨b, o, rfl, _, _, c0, c1⟩
    · rw [hx.1]
      have := bulkAll_sum D (fun i => (q i).2.2) (fun x => x.length + 1) len fun i hi => (hq i (by omega)).2.2
      refine Nat.le_trans this ?_
      simp only [Rows.uptoBulk]
      omega
end Go.Proofs.YtnhfnfdmpcpcoaaDoor

/-
  SameTexts: are two lists of texts alike?
-/
namespace Go.Proofs.YtnhfnfdmpcpcoaaDoor
open Go.RowKit

theorem take_eq_succL {α : Type} (l m : List α) (k : Nat) (h1 : k < l.length) (h2 : k < m.length) (h : l.take k = m.take k) (e : l[k] = m[k]) : l.take (k + 1) = m.take (k + 1) := by
  rw [List.take_succ_eq_append_getElem h1, List.take_succ_eq_append_getElem h2, h, e]
theorem ne_of_get {α : Type} (l m : List α) (k : Nat) (h1 : k < l.length) (h2 : k < m.length) (e : ¬ l[k] = m[k]) : l ≠ m := by rintro rfl; exact e rfl

set_option maxHeartbeats 1000000 in
theorem sameTexts_any (L M : List (List UInt8)) (p q : Option Addr) (n c n2 d : Nat) (hn : L.length = n) (hn2 : M.length = n2) (hm : n ≤ maxLen) (hm2 : n2 ≤ maxLen) (w : World) (h : InS w p L) (h2 : InS w q M) :
    Calls Tryd.prog 29 #[.slice p n c, .slice q n2 d] w fun e w' => e = .returned (.bool (decide (L = M))) ∧ Below w.heap.size w w' := by
  subst hn
  subst hn2
  unfold maxLen at hm hm2
  by_cases hlen : L.length = M.length
  · have hne : ((L.length : Int) != (M.length : Int)) = false := by simp [hlen]
    go_enter Tryd.func29, Tryd.ntmps29
    go_wp2
    go_loopw [5] (fun i wr => ∃ k : Nat, k ≤ L.length ∧ i = .int .i64 k ∧ L.take k = M.take k ∧ Below w.heap.size w wr) (fun i _ => L.length - (intOf i).toNat)
    case atStart => exact ⟨0, Nat.zero_le _, rfl, rfl, Below.refl _ _⟩
    case round =>
      obtain ⟨k, hk, rfl, hpre, hb⟩ := hrel
      by_cases hlt : k < L.length
      · have hlt2 : k < M.length := by omega
        obtain ⟨b, o, rfl, x, hck, hx⟩ := (h.below hb).at hlt
        obtain ⟨b2, o2, rfl, y, hck2, hy⟩ := (h2.below hb).at hlt2
        have HP := Lib.hid hpre
        have HL := Lib.hid hlen
        have HX := Lib.hid hx
        have HY := Lib.hid hy
        clear h h2 hpre hlen hx hy
        by_cases heq : x.data.toList = y.data.toList
        · have hbool : (x.toList == y.toList) = true := by rw [strs_eq]; simp [heq]
          have hbool2 : (x.toList != y.toList) = false := by simp [bne, hbool]
          have HE := Lib.hid heq
          clear heq
          go_wp2
          go_quiet (fail)
          go_wp2
          go_roundw
          case rel => exact ⟨k + 1, by omega, by go_num, take_eq_succL L M k hlt hlt2 HP.out (by rw [← HX.out, ← HY.out]; exact HE.out), bdrewN hb _⟩
          case measure => simp [intOf]; omega
        · have hbool : (x.toList == y.toList) = false := by rw [strs_eq]; simp [heq]
          have hbool2 : (x.toList != y.toList) = true := by simp [bne, hbool]
          have hno := ne_of_get L M k hlt hlt2 (by rw [← HX.out, ← HY.out]; exact heq)
          have HE := Lib.hid heq
          clear heq
          go_wp2
          go_quiet (fail)
          go_wp2
          go_ret
          exact ⟨ret_bool (by simp [hno]), bdrewN hb _⟩
      · obtain rfl : k = L.length := by omega
        go_wp2
        go_ret
        refine ⟨ret_bool ?_, hb⟩
        rw [List.take_length, hlen, List.take_length] at hpre
        simp [hpre]
  · have hne : ((L.length : Int) != (M.length : Int)) = true := by simp; omega
    have hno : L ≠ M := by rintro rfl; exact hlen rfl
    clear hlen
    go_enter Tryd.func29, Tryd.ntmps29
    go_wp2
    go_ret
    exact ⟨ret_bool (by simp [hno]), Below.refl _ _⟩

/-- the same texts -/
theorem sameTexts_same (M : List (List UInt8)) (p q : Option Addr) (n c n2 d : Nat) (hn : M.length = n) (hn2 : M.length = n2) (hm : n ≤ maxLen) (w : World) (h : InS w p M) (h2 : InS w q M) :
    Calls Tryd.prog 29 #[.slice p n c, .slice q n2 d] w fun e w' => e = .returned (.bool true) ∧ Below w.heap.size w w' := by
  have h3 := sameTexts_any M M p q n c n2 d hn hn2 hm (by omega) w h h2
  rw [show decide (M = M) = true from decide_eq_true rfl] at h3
  exact h3
end Go.Proofs.YtnhfnfdmpcpcoaaDoor

/-
  CopyFiles, SameFiles, names: rows of files.
-/
namespace Go.Proofs.YtnhfnfdmpcpcoaaDoor
open Go.RowKit

theorem takes {α : Type} {L : List α} {k : Nat} (h : k < L.length) : L.take (k + 1) = L.take k ++ [L[k]] := List.take_succ_eq_append_getElem h

set_option maxRecDepth 100000 in
set_option maxHeartbeats 2000000 in
theorem copyFiles_any (F : List FT) (p : Option Addr) (n c : Nat) (hn : F.length = n) (hFl : F.length ≤ 4000000000000) (hFd : ∀ f ∈ F, f.2.length ≤ 140737488351232) (w : World) (hF : InFs w p F) :
    Calls Tryd.prog 35 #[.slice p n c] w fun e w' => ∃ v, e = .returned v ∧ OwnFs w' w.heap.size v F ∧ Below w.heap.size w w' := by
  subst hn
  have hmade := OwnFs.made w
  have hb0 : Below w.heap.size w (w.alloc (.cells #[] 45)) := (Below.refl _ w).alloc (Nat.le_refl _) _
  go_enter Tryd.func35, Tryd.ntmps35
  go_wp2_with fail
  go_loopw [3, 4] (fun v i wr => ∃ k : Nat, k ≤ F.length ∧ i = .int .i64 k ∧ OwnFs wr w.heap.size v (F.take k) ∧ Below w.heap.size w wr) (fun _ i _ => F.length - (intOf i).toNat)
  case atStart => exact ⟨0, Nat.zero_le _, rfl, by rw [List.take_zero]; exact hmade, hb0⟩
  case round =>
    obtain ⟨k, hk, rfl, hown, hb⟩ := hrel
    by_cases hlt : k < F.length
    · obtain ⟨b, o, rfl, x, q, cq, hcx, hcd, hx, hqc, hdl, hind⟩ := hF.at hlt
      obtain ⟨l, hl⟩ : ∃ l, l = F[k].2 := ⟨_, rfl⟩
      rw [← hl] at hcd hdl hind
      have hll : l.length ≤ 140737488351232 := by rw [hl]; exact hFd F[k] (List.getElem_mem hlt)
      have HX := Lib.hid (And.intro hx hl)
      have HOW := Lib.hid hown
      have HB := Lib.hid hb
      obtain ⟨S, hS⟩ : ∃ S : World → Prop, S = fun W => W.cell? ⟨b, o + k * 2, none⟩ = some (.string x) ∧ W.cell? ⟨b, o + k * 2 + 1, none⟩ = some (.slice q l.length cq) := ⟨_, rfl⟩
      have HSS := Lib.hid (fun W => show S W ↔ W.cell? ⟨b, o + k * 2, none⟩ = some (.string x) ∧ W.cell? ⟨b, o + k * 2 + 1, none⟩ = some (.slice q l.length cq) by rw [hS])
      have step : ∀ W, Below w.heap.size w W → S W := fun W hb => by rw [hS]; exact ⟨cell_keep hcx hb, cell_keep hcd hb⟩
      have HST := Lib.hid step
      have HK0 := Lib.hid (step _ hb.drew)
      have HCL := Lib.hid (show Calls Tryd.prog 14 #[.slice q l.length cq] wr.drew fun e w' => ∃ qv cv, e = .returned (.slice qv l.length cv) ∧ Own8 w' w.heap.size (.slice qv l.length cv) l ∧ Below wr.heap.size wr w' ∧ S w' ∧ S (w'.alloc (.cells #[.string x, .slice qv l.length cv] 45)) from
        (copyBytes_any l q _ cq rfl (by omega) wr.drew (hind.below hb.drew)).mono fun _ w' ⟨v, h1, h2, h3⟩ => by
          obtain ⟨qv, cv, rfl, _, _, _⟩ := h2.in8n rfl
          have hb4 : Below wr.heap.size wr w' := ((Below.refl _ wr).drew).trans h3
          have hb5 := hb.trans (hb4.mono hb.size)
          exact ⟨qv, cv, h1, h2.mono hb.size, hb4, step _ hb5, step _ (hb5.alloc (Nat.le_trans hb.size hb4.size) _)⟩)
      clear hS step hind hcx hcd hx hl hown hb hdl
      go_wp2_with fail
      go_region_held3 (fun W => W.cell? ⟨b, o + k * 2, none⟩ = some (.string x) ∧ W.cell? ⟨b, o + k * 2 + 1, none⟩ = some (.slice q l.length cq))
        (first | (with_reducible exact (HSS.out _).1 HK0.out) | (with_reducible exact (HSS.out _).1 HK1.out) | (with_reducible exact (HSS.out _).1 HK2.out) | (with_reducible exact (HSS.out _).1 HK3.out))
        (first
          | (go_at_call 14; with_reducible refine HCL.out.mono ?_; rintro e w4 ⟨qv, cv, rfl, hown4, hb4, hk1, hk2⟩; have HK1 := Lib.hid hk1; have HK2 := Lib.hid hk2; have HO4 := Lib.hid (And.intro hown4 hb4); clear hk1 hk2 hown4 hb4)
          | (refine step_appendFs rfl _ _ rfl w.heap.size _ (F.take k) rfl (HOW.out.below (HO4.out.2.alloc HO4.out.2.size (.cells #[.string x, .slice qv l.length cv] 45))) w4.heap.size _ x.data.toList (.slice qv l.length cv) l rfl (InE.one w4 x _ _) (HO4.out.1.alloc _) (by rw [List.length_take]; omega) (by have h1 := HB.out.size; have h2 := HO4.out.2.size; simp only [World.size_alloc]; omega) ?_; intro v6 w6 hfs6 hg6; have HB6 := Lib.hid ((HOW.out.below (HO4.out.2.alloc HO4.out.2.size (.cells #[.string x, .slice qv l.length cv] 45))).grown ((HB.out.trans (HO4.out.2.mono HB.out.size)).alloc (Nat.le_trans HB.out.size HO4.out.2.size) _) (by have h1 := HB.out.size; have h2 := HO4.out.2.size; simp only [World.size_alloc]; omega) hg6); have HK3 := Lib.hid (HST.out _ HB6.out); have HF6 := Lib.hid hfs6; clear hfs6 hg6))
      all_goals
        go_wp2_with fail
        go_roundw
        case rel => exact ⟨k + 1, by omega, by go_num, by rw [takes hlt, show F[k] = (x.data.toList, l) from Prod.ext HX.out.1.symm HX.out.2.symm]; exact HF6.out, HB6.out⟩
        case measure => simp [intOf]; omega
    · obtain rfl : k = F.length := by omega
      go_wp2_with fail
      go_ret
      rw [List.take_length] at hown
      exact ⟨_, rfl, hown, hb⟩

set_option maxRecDepth 100000 in
set_option maxHeartbeats 2000000 in
theorem sameFiles_any (F G : List FT) (p q : Option Addr) (n c n2 d : Nat) (hn : F.length = n) (hn2 : G.length = n2) (hm : n ≤ 140737488351232) (hm2 : n2 ≤ 140737488351232) (w : World) (hF : InFs w p F) (hG : InFs w q G) :
    Calls Tryd.prog 27 #[.slice p n c, .slice q n2 d] w fun e w' => e = .returned (.bool (decide (F = G))) ∧ Below w.heap.size w w' := by
  subst hn
  subst hn2
  by_cases hlen : F.length = G.length
  · have hne : ((F.length : Int) != (G.length : Int)) = false := by simp [hlen]
    go_enter Tryd.func27, Tryd.ntmps27
    go_wp2
    go_loopw [5] (fun i wr => ∃ k : Nat, k ≤ F.length ∧ i = .int .i64 k ∧ F.take k = G.take k ∧ Below w.heap.size w wr) (fun i _ => F.length - (intOf i).toNat)
    case atStart => exact ⟨0, Nat.zero_le _, rfl, rfl, Below.refl _ _⟩
    case round =>
      obtain ⟨k, hk, rfl, hpre, hb⟩ := hrel
      by_cases hlt : k < F.length
      · have hlt2 : k < G.length := by omega
        obtain ⟨b, o, rfl, x, px, cx, hx1, hx2, hx, _, hxl, hxi⟩ := hF.at hlt
        obtain ⟨b2, o2, rfl, y, py, cy, hy1, hy2, hy, _, hyl, hyi⟩ := hG.at hlt2
        obtain ⟨l, hl⟩ : ∃ l, l = F[k].2 := ⟨_, rfl⟩
        obtain ⟨m, hm⟩ : ∃ l, l = G[k].2 := ⟨_, rfl⟩
        rw [← hl] at hx2 hxl hxi
        rw [← hm] at hy2 hyl hyi
        have HX := Lib.hid (And.intro hx hl)
        have HY := Lib.hid (And.intro hy hm)
        have HP := Lib.hid hpre
        have HL := Lib.hid hlen
        have HB := Lib.hid hb
        obtain ⟨S, hS⟩ : ∃ S : World → Prop, S = fun W => W.cell? ⟨b, o + k * 2, none⟩ = some (.string x) ∧ W.cell? ⟨b, o + k * 2 + 1, none⟩ = some (.slice px l.length cx) ∧ W.cell? ⟨b2, o2 + k * 2, none⟩ = some (.string y) ∧ W.cell? ⟨b2, o2 + k * 2 + 1, none⟩ = some (.slice py m.length cy) := ⟨_, rfl⟩
        have HSS := Lib.hid (fun W => show S W ↔ W.cell? ⟨b, o + k * 2, none⟩ = some (.string x) ∧ W.cell? ⟨b, o + k * 2 + 1, none⟩ = some (.slice px l.length cx) ∧ W.cell? ⟨b2, o2 + k * 2, none⟩ = some (.string y) ∧ W.cell? ⟨b2, o2 + k * 2 + 1, none⟩ = some (.slice py m.length cy) by rw [hS])
        have step : ∀ W, Below w.heap.size w W → S W := fun W hb => by rw [hS]; exact ⟨cell_keep hx1 hb, cell_keep hx2 hb, cell_keep hy1 hb, cell_keep hy2 hb⟩
        have HST := Lib.hid step
        have HK0 := Lib.hid (step _ hb.drew)
        have HSB := Lib.hid (show Calls Tryd.prog 21 #[.slice px l.length cx, .slice py m.length cy] wr.drew fun e w' => e = .returned (.bool (decide (l = m))) ∧ Below w.heap.size w w' ∧ S w' from
          (sameBytes_any l m px py _ cx _ cy rfl rfl hxl hyl wr.drew (hxi.below hb.drew) (hyi.below hb.drew)).mono fun _ w' ⟨h1, h2⟩ => ⟨h1, hb.drew.trans (h2.mono hb.drew.size), step _ (hb.drew.trans (h2.mono hb.drew.size))⟩)
        have e1 := hb.cell (World.block_lt_of_cell? w _ hx1)
        have e2 := hb.cell (World.block_lt_of_cell? w _ hy1)
        rw [hx1] at e1
        rw [hy1] at e2
        clear hS step hx1 hx2 hy1 hy2 hxi hyi hx hy hl hm hpre hlen hb
        by_cases heq : x.data.toList = y.data.toList
        · have hbool : (x.toList == y.toList) = true := by rw [strs_eq]; simp [heq]
          have hbool2 : (x.toList != y.toList) = false := by simp [bne, hbool]
          have HE := Lib.hid heq
          clear heq
          cases hd : decide (l = m) with
          | true =>
            rw [hd] at HSB
            have HLM := Lib.hid (of_decide_eq_true hd)
            clear hd
            go_wp2_with fail
            go_region_held3 (fun W => W.cell? ⟨b, o + k * 2, none⟩ = some (.string x) ∧ W.cell? ⟨b, o + k * 2 + 1, none⟩ = some (.slice px l.length cx) ∧ W.cell? ⟨b2, o2 + k * 2, none⟩ = some (.string y) ∧ W.cell? ⟨b2, o2 + k * 2 + 1, none⟩ = some (.slice py m.length cy))
              (first | (with_reducible exact (HSS.out _).1 HK0.out) | (with_reducible exact (HSS.out _).1 HK1.out))
              (first | (go_at_call 21; with_reducible refine HSB.out.mono ?_; rintro e w4 ⟨rfl, hb4, hk1⟩; have HK1 := Lib.hid hk1; have HB4 := Lib.hid hb4; clear hk1 hb4))
            all_goals
              go_wp2_with fail
              go_roundw
              case rel => exact ⟨k + 1, by omega, by go_num, take_eq_succL F G k hlt hlt2 HP.out (Prod.ext (by rw [← HX.out.1, ← HY.out.1]; exact HE.out) (by rw [← HX.out.2, ← HY.out.2]; exact HLM.out)), HB4.out⟩
              case measure => simp [intOf]; omega
          | false =>
            rw [hd] at HSB
            have hno : F ≠ G := ne_of_get F G k hlt hlt2 (fun e => by
              have := of_decide_eq_false hd
              rw [HX.out.2, HY.out.2, e] at this
              exact this rfl)
            clear hd
            go_wp2_with fail
            go_region_held3 (fun W => W.cell? ⟨b, o + k * 2, none⟩ = some (.string x) ∧ W.cell? ⟨b, o + k * 2 + 1, none⟩ = some (.slice px l.length cx) ∧ W.cell? ⟨b2, o2 + k * 2, none⟩ = some (.string y) ∧ W.cell? ⟨b2, o2 + k * 2 + 1, none⟩ = some (.slice py m.length cy))
              (first | (with_reducible exact (HSS.out _).1 HK0.out) | (with_reducible exact (HSS.out _).1 HK1.out))
              (first | (go_at_call 21; with_reducible refine HSB.out.mono ?_; rintro e w4 ⟨rfl, hb4, hk1⟩; have HK1 := Lib.hid hk1; have HB4 := Lib.hid hb4; clear hk1 hb4))
            all_goals
              go_wp2_with fail
              go_ret
              exact ⟨ret_bool (by simp [hno]), HB4.out⟩
        · have hbool : (x.toList == y.toList) = false := by rw [strs_eq]; simp [heq]
          have hbool2 : (x.toList != y.toList) = true := by simp [bne, hbool]
          have hno : F ≠ G := ne_of_get F G k hlt hlt2 (fun e => by
            have h3 := HX.out.1
            have h4 := HY.out.1
            rw [e] at h3
            exact heq (h3.trans h4.symm))
          clear heq
          go_wp2_with fail
          go_quiet (fail)
          go_wp2_with fail
          go_ret
          exact ⟨ret_bool (by simp [hno]), bdrewN HB.out _⟩
      · obtain rfl : k = F.length := by omega
        go_wp2
        go_ret
        refine ⟨ret_bool ?_, hb⟩
        rw [List.take_length, hlen, List.take_length] at hpre
        simp [hpre]
  · have hne : ((F.length : Int) != (G.length : Int)) = true := by simp; omega
    have hno : F ≠ G := by rintro rfl; exact hlen rfl
    clear hlen
    go_enter Tryd.func27, Tryd.ntmps27
    go_wp2
    go_ret
    exact ⟨ret_bool (by simp [hno]), Below.refl _ _⟩

set_option maxRecDepth 100000 in
set_option maxHeartbeats 2000000 in
theorem namesL_any (F : List FT) (p : Option Addr) (n c : Nat) (hn : F.length = n) (hFl : F.length ≤ 4000000000000) (w : World) (hF : InFs w p F) :
    Calls Tryd.prog 36 #[.slice p n c] w fun e w' => ∃ v, e = .returned v ∧ OwnS w' w.heap.size v (F.map (·.1)) ∧ Below w.heap.size w w' := by
  subst hn
  have hmade := OwnS.made w
  have hb0 : Below w.heap.size w (w.alloc (.cells #[] 9)) := (Below.refl _ w).alloc (Nat.le_refl _) _
  go_enter Tryd.func36, Tryd.ntmps36
  go_wp2_with fail
  go_loopw [3, 4] (fun v i wr => ∃ k : Nat, k ≤ F.length ∧ i = .int .i64 k ∧ OwnS wr w.heap.size v ((F.take k).map (·.1)) ∧ Below w.heap.size w wr) (fun _ i _ => F.length - (intOf i).toNat)
  case atStart => exact ⟨0, Nat.zero_le _, rfl, by rw [List.take_zero]; exact hmade, hb0⟩
  case round =>
    obtain ⟨k, hk, rfl, hown, hb⟩ := hrel
    by_cases hlt : k < F.length
    · obtain ⟨b, o, rfl, x, q, cq, hcx, _, hx, _, _, _⟩ := (hF.below hb).at hlt
      have HX := Lib.hid hx
      have hown2 := hown.alloc (.cells #[.string x] 9)
      have hin := InS.one wr x
      have hbs := hb.size
      clear hx
      go_wp2_with (at_builtin; refine wpList_appendS rfl _ _ rfl w.heap.size _ _ rfl hown2 _ _ _ _ rfl rfl hin (by simp; omega) (by simp; omega) ?_; intro v1 w1 hown1 hgrow1 _; have hB1 := OwnS.grown (hb.alloc hbs _) (by simp; omega) hown2 hgrow1)
      go_roundw
      case rel => exact ⟨k + 1, by omega, by go_num, by rw [takes hlt, List.map_append, List.map_cons, List.map_nil, ← HX.out]; exact hown1, hB1⟩
      case measure => simp [intOf]; omega
    · obtain rfl : k = F.length := by omega
      go_wp2_with fail
      go_ret
      rw [List.take_length] at hown
      exact ⟨_, rfl, hown, hb⟩
end Go.Proofs.YtnhfnfdmpcpcoaaDoor

/-
  copyInts, CopyFate, step, cut.
-/
namespace Go.Proofs.YtnhfnfdmpcpcoaaDoor
open Go.RowKit Go.Maps

theorem infoI : (Tryd.prog.info? 3).map (fun i => (i.zero, i.size, i.bytes)) = some (some (.int .i64 0), 1, 8) := by kernel_rfl
theorem ints_one (Z : List Int) : ∀ u ∈ Z.map (Value.int .i64), u.oneCell' = true := by
  intro u hu
  obtain ⟨z, _, rfl⟩ := List.mem_map.1 hu
  rfl
theorem ownI_made (w : World) : (w.alloc (.cells #[] 3)).ownsRow w.heap.size 3 1 (.slice (some ⟨w.heap.size, 0, none⟩) 0 0) 0 [] :=
  ⟨rfl, .inr ⟨w.heap.size, 0, #[], rfl, Nat.le_refl _, heap_alloc_new w _, by simp, by unfold maxLen; omega, rfl, rfl⟩⟩
set_option maxRecDepth 100000 in
set_option maxHeartbeats 1000000 in
theorem copyInts_any (Z : List Int) (q : Option Addr) (m d : Nat) (hm : Z.length = m) (hl : m ≤ 17592186043904) (w : World) (h : InV w q (Z.map (Value.int .i64))) :
    Calls Tryd.prog 38 #[.slice q m d] w fun e w' => ∃ p c, e = .returned (.slice p Z.length c) ∧ InV w' p (Z.map (Value.int .i64)) ∧ (∀ a, p = some a → w.heap.size ≤ a.block) ∧ Below w.heap.size w w' := by
  subst hm
  have hmade := ownI_made w
  have hb0 : Below w.heap.size w (w.alloc (.cells #[] 3)) := (Below.refl _ w).alloc (Nat.le_refl _) _
  have hs := srcV (c := d) (e := 3) Tryd.underlying23 (h.below hb0) (ints_one Z)
  rw [List.length_map] at hs
  go_enter Tryd.func38, Tryd.ntmps38
  go_wp2_with (at_builtin; refine wpList_append_way _ rfl _ _ 23 23 rfl w.heap.size 3 (.int .i64 0) 1 8 Tryd.underlying23 infoI rfl _ 0 [] rfl hmade _ Z.length (Z.map (Value.int .i64)) rfl hs (by unfold maxLen; omega) (by omega) (by simp) ?_; intro v1 w1 hown1 hgrow1 _)
  go_ret
  rw [List.nil_append, Nat.zero_add] at hown1
  obtain ⟨p, c, rfl, _, _, hin, hp⟩ := owns_shape hown1
  exact ⟨p, c, rfl, hin, fun a ha => (hp a ha).1, hb0.grown hgrow1 (by simp) (fun k e => by cases e; exact Nat.le_refl _)⟩

set_option maxRecDepth 100000 in
set_option maxHeartbeats 2000000 in
theorem copyFate_any (n : Int) (K : List Int) (q : Option Addr) (m d : Nat) (hm : K.length = m) (hl : m ≤ 17592186043904) (w : World) (h : InV w q (K.map (Value.int .i64))) :
    Calls Tryd.prog 20 #[.agg #[.int .i64 n, .slice q m d]] w fun e w' => ∃ p c, e = .returned (.agg #[.int .i64 n, .slice p K.length c]) ∧ InV w' p (K.map (Value.int .i64)) ∧ (∀ a, p = some a → w.heap.size ≤ a.block) ∧ Below w.heap.size w w' := by
  subst hm
  obtain ⟨wc, hwc⟩ : ∃ W0, W0 = ((w.alloc (.cells #[.int .i64 n, .slice q K.length d] 29)).alloc (.cells #[.int .i64 0, .slice none 0 0] 29)).alloc (.cells #[.int .i64 n, .slice none 0 0] 29) := ⟨_, rfl⟩
  have hbc : Below w.heap.size w wc := by rw [hwc]; exact (((Below.refl _ w).alloc (Nat.le_refl _) _).alloc (by simp) _).alloc (by simp; omega) _
  have hsc : wc.heap.size = w.heap.size + 3 := by rw [hwc]; simp
  have b0 : wc.heap[w.heap.size]? = some (.cells #[.int .i64 n, .slice q K.length d] 29 (0, 0)) := by
    rw [hwc]
    exact (heap_alloc_old _ _ (by simp; omega)).trans ((heap_alloc_old _ _ (by simp)).trans (heap_alloc_new w _))
  have b1 : wc.heap[w.heap.size + 1]? = some (.cells #[.int .i64 0, .slice none 0 0] 29 (0, 0)) := by
    rw [hwc]
    have := heap_alloc_new (w.alloc (.cells #[.int .i64 n, .slice q K.length d] 29)) (.cells #[.int .i64 0, .slice none 0 0] 29)
    rw [World.size_alloc] at this
    exact (heap_alloc_old _ _ (by simp)).trans this
  have b2 : wc.heap[w.heap.size + 2]? = some (.cells #[.int .i64 n, .slice none 0 0] 29 (0, 0)) := by
    rw [hwc]
    have := heap_alloc_new ((w.alloc (.cells #[.int .i64 n, .slice q K.length d] 29)).alloc (.cells #[.int .i64 0, .slice none 0 0] 29)) (.cells #[.int .i64 n, .slice none 0 0] 29)
    rw [World.size_alloc, World.size_alloc] at this
    exact this
  have hs := srcV (c := d) (e := 3) Tryd.underlying23 (h.below hbc) (ints_one K)
  rw [List.length_map] at hs
  have hnil := World.ownsRow_nil wc w.heap.size 3 1
  have HC := Lib.hid (And.intro hbc (And.intro b0 (And.intro b1 (And.intro b2 (And.intro hwc hsc)))))
  rw [hwc] at hs hnil
  clear hbc hsc b0 b1 b2 hwc
  go_enter Tryd.func20, Tryd.ntmps20
  go_wp2_with (
    at_builtin
    refine wpList_append_way _ rfl _ _ 23 23 rfl w.heap.size 3 (.int .i64 0) 1 8 Tryd.underlying23 infoI rfl _ 0 [] rfl hnil _ K.length (K.map (Value.int .i64)) rfl hs (by unfold maxLen; omega) (by omega) (by simp; omega) ?_
    intro v1 w1 hown1 hgrow1 _
    rw [← HC.out.2.2.2.2.1] at hgrow1
    rw [List.nil_append, Nat.zero_add] at hown1
    obtain ⟨hbc, b0, b1, b2, hwc, hsc⟩ := HC.out
    have g1 := (hgrow1.block (w.heap.size + 1) (by omega) (fun e => by cases e)).trans b1
    have g2 := (hgrow1.block (w.heap.size + 2) (by omega) (fun e => by cases e)).trans b2
    have e20 : w1.cell? ⟨w.heap.size + 2, 0, none⟩ = some (.int .i64 n) := by rw [cell_of_row _ _ _ _ _ _ g2]; rfl
    have e21 : w1.cell? ⟨w.heap.size + 2, 1, none⟩ = some (.slice none 0 0) := by rw [cell_of_row _ _ _ _ _ _ g2]; rfl
    have e10 : w1.cell? ⟨w.heap.size + 1, 0, none⟩ = some (.int .i64 0) := by rw [cell_of_row _ _ _ _ _ _ g1]; rfl
    have e11 : w1.cell? ⟨w.heap.size + 1, 1, none⟩ = some (.slice none 0 0) := by rw [cell_of_row _ _ _ _ _ _ g1]; rfl
    have f2 := fun i => frozen_of_row w1 (w.heap.size + 2) i _ _ g2
    have f1 := fun i => frozen_of_row w1 (w.heap.size + 1) i _ _ g1
    have HG := Lib.hid (And.intro hgrow1 hown1)
    obtain ⟨p1, c1, rfl, _, _, _, _⟩ := owns_shape hown1
    clear hgrow1 hown1 hbc b0 b1 b2 hwc hsc g1 g2)
  obtain ⟨hgrow1, hown1⟩ := HG.out
  obtain ⟨hbc, _, _, _, hwc, hsc⟩ := HC.out
  have hb1 : Below w.heap.size w w1 := hbc.grown hgrow1 hbc.size (fun k e => by cases e)
  have hlt := World.ownsRow.lt hown1
  obtain ⟨p2, c2, e, _, _, hin, hp⟩ := owns_shape hown1
  injection e with e _ _
  subst e
  have hI : ∀ (W : World), (∀ g, g ≠ w.heap.size + 1 → g ≠ w.heap.size + 2 → W.heap[g]? = w1.heap[g]?) → InV W p1 (K.map (Value.int .i64)) := fun W hW h0 => by
    obtain ⟨b, o, e, hc⟩ := hin h0
    have hob := (hp ⟨b, o, none⟩ e)
    have hbn : b ≠ w.heap.size + 1 ∧ b ≠ w.heap.size + 2 := by
      subst e
      obtain ⟨cur, hcur⟩ := rowBlk hown1 (g := b) rfl
      exact ⟨blk_ne hcur ((hgrow1.block (w.heap.size + 1) (by omega) (fun e => by cases e)).trans (by assumption)) (by decide), blk_ne hcur ((hgrow1.block (w.heap.size + 2) (by omega) (fun e => by cases e)).trans (by assumption)) (by decide)⟩
    refine ⟨b, o, e, fun i hi => ?_⟩
    have := hc i hi
    simp only [World.cell?, hW b hbn.1 hbn.2]
    exact this
  refine bodyPost_ret (v := .agg #[.int .i64 n, .slice p1 K.length c1]) (by simp [results, Tryd.results20, go_sem, e10, e11]) rfl ⟨_, _, rfl, ?_, fun a ha => (hp a ha).1, ?_⟩
  · refine hI _ fun g h1 h2 => ?_
    exact ((Below.heap_setCell _ _ _ _ h1).trans (Below.heap_setCell _ _ _ _ h1)).trans (Below.heap_setCell _ _ _ _ h2)
  · exact ((hb1.setCell (p := ⟨w.heap.size + 2, 1, none⟩) (by simp) _).setCell (p := ⟨w.heap.size + 1, 0, none⟩) (by simp) _).setCell (p := ⟨w.heap.size + 1, 1, none⟩) (by simp) _

/-- the op as it is meant -/
def stepI (wh : Int) : Int := if wh < 1 ∨ 6 < wh then 6 else wh
theorem opOf_step (wh : Int) (a b d : BS) : opOf (stepI wh) a b d = opOf wh a b d := by
  unfold stepI
  split
  · rename_i h
    unfold opOf
    have h1 : ¬ wh = 1 := by omega
    have h2 : ¬ wh = 2 := by omega
    have h3 : ¬ wh = 3 := by omega
    have h4 : ¬ wh = 4 := by omega
    have h5 : ¬ wh = 5 := by omega
    rw [if_neg h1, if_neg h2, if_neg h3, if_neg h4, if_neg h5]
    rfl
  · rfl
set_option maxRecDepth 100000 in
set_option maxHeartbeats 2000000 in
theorem step_any (wh : Int) (na nb : ByteArray) (v : Value) (q : Option Addr) (m c : Nat) (hv : v = .slice q m c) (w : World) :
    Calls Tryd.prog 24 #[.agg #[.int .i64 wh, .string na, .string nb, v]] w fun e w' => e = .returned (.agg #[.int .i64 (stepI wh), .string na, .string nb, v]) ∧ Below w.heap.size w w' := by
  subst hv
  by_cases h : wh < 1
  · have e1 : decide (wh < 1) = true := decide_eq_true h
    have e : stepI wh = 6 := by unfold stepI; rw [if_pos (by omega)]
    rw [e]
    clear e h
    go_enter Tryd.func24, Tryd.ntmps24
    go_wp2_with fail
    refine bodyPost_ret (v := .agg #[.int .i64 6, .string na, .string nb, .slice q m c]) (by simp [results, Tryd.results24, go_sem]) rfl ⟨rfl, ?_⟩
    exact ((Below.refl _ w).alloc (Nat.le_refl _) _).alloc (by simp) _
  · have e1 : decide (wh < 1) = false := decide_eq_false h
    by_cases h6 : 6 < wh
    · have e2 : decide (6 < wh) = true := decide_eq_true h6
      have e : stepI wh = 6 := by unfold stepI; rw [if_pos (by omega)]
      rw [e]
      clear e h h6
      go_enter Tryd.func24, Tryd.ntmps24
      go_wp2_with fail
      refine bodyPost_ret (v := .agg #[.int .i64 6, .string na, .string nb, .slice q m c]) (by simp [results, Tryd.results24, go_sem]) rfl ⟨rfl, ?_⟩
      exact ((Below.refl _ w).alloc (Nat.le_refl _) _).alloc (by simp) _
    · have e2 : decide (6 < wh) = false := decide_eq_false h6
      have e : stepI wh = wh := by unfold stepI; rw [if_neg (by omega)]
      rw [e]
      clear e h h6
      go_enter Tryd.func24, Tryd.ntmps24
      go_wp2_with fail
      refine bodyPost_ret (v := .agg #[.int .i64 wh, .string na, .string nb, .slice q m c]) (by simp [results, Tryd.results24, go_sem]) rfl ⟨rfl, ?_⟩
      exact ((Below.refl _ w).alloc (Nat.le_refl _) _).alloc (by simp) _
set_option maxRecDepth 100000 in
set_option maxHeartbeats 2000000 in
theorem cut_any (L : List OpT) (p : Option Addr) (n c : Nat) (hn : L.length = n) (hc : n ≤ c) (w : World) :
    Calls Tryd.prog 23 #[.slice p n c] w fun e w' => ∃ c', e = .returned (.slice p (L.take 300).length c') ∧ Below w.heap.size w w' := by
  subst hn
  by_cases h : 300 < L.length
  · have e : (L.take 300).length = 300 := by rw [List.length_take]; omega
    rw [e]
    have hI : (300 : Int) < (L.length : Int) := by omega
    have hI2 : (300 : Int) ≤ (c : Int) := by omega
    go_enter Tryd.func23, Tryd.ntmps23
    go_wp2_with fail
    go_ret
    first | exact ⟨_, rfl, Below.refl _ _⟩ | exact ⟨⟨_, rfl⟩, Below.refl _ _⟩ | exact Below.refl _ _
  · have e : (L.take 300).length = L.length := by rw [List.length_take]; omega
    rw [e]
    have hI : ¬ (300 : Int) < (L.length : Int) := by omega
    go_enter Tryd.func23, Tryd.ntmps23
    go_wp2_with fail
    go_ret
    first | exact ⟨_, rfl, Below.refl _ _⟩ | exact ⟨⟨_, rfl⟩, Below.refl _ _⟩ | exact Below.refl _ _
end Go.Proofs.YtnhfnfdmpcpcoaaDoor

/-
  begin: a disk of copies.
-/
namespace Go.Proofs.YtnhfnfdmpcpcoaaDoor
open Go.RowKit Go.Maps

def NewPost (w : World) (F : List FT) (room : Int) (Z : List Int) (power : Int) : Ending → World → Prop := fun e w' =>
  (newE F room ≠ 0 ∧ e = .returned (.tuple #[.pointer none, .int .i64 (newE F room)]) ∨ newE F room = 0 ∧ ∃ dd P, e = .returned (.tuple #[.pointer (some ⟨dd, 0, none⟩), .int .i64 0]) ∧ DiskP w' P dd (newP F room Z power) ∧ ∀ g, P g → w.heap.size ≤ g) ∧ Below w.heap.size w w'
theorem NewPost.from {w wa : World} {F : List FT} {room : Int} {Z : List Int} {power : Int} {e : Ending} {w' : World} (hb : Below w.heap.size w wa) (h : NewPost wa F room Z power e w') : NewPost w F room Z power e w' := by
  obtain ⟨h1, h2⟩ := h
  refine ⟨?_, hb.trans (h2.mono hb.size)⟩
  rcases h1 with h1 | ⟨h3, dd, P, h4, h5, h6⟩
  · exact .inl h1
  · exact .inr ⟨h3, dd, P, h4, h5, fun g hg => Nat.le_trans hb.size (h6 g hg)⟩

set_option maxRecDepth 100000 in
set_option maxHeartbeats 4000000 in
theorem begin_c (F : List FT) (p : Option Addr) (n c : Nat) (hn : F.length = n) (room : Int) (Z : List Int) (q : Option Addr) (m d : Nat) (hm : Z.length = m) (power : Int) (w : World) (hF : InFs w p F) (hZ : InV w q (Z.map (Value.int .i64))) (hFl : F.length ≤ 3518437208780) (hFn : ∀ f ∈ F, f.1.length ≤ 140737488351232 ∧ f.2.length ≤ 140737488351232) (hZl : Z.length ≤ 4000000000000) :
    Calls Tryd.prog 11 #[.agg #[.slice p n c, .int .i64 room, .slice q m d, .int .i64 power]] w (NewPost w F room Z power) := by
  subst hn
  subst hm
  obtain ⟨wa, hwa⟩ : ∃ W0, W0 = w.alloc (.cells #[.slice p F.length c, .int .i64 room, .slice q Z.length d, .int .i64 power] 25) := ⟨_, rfl⟩
  have hba : Below w.heap.size w wa := by rw [hwa]; exact (Below.refl _ w).alloc (Nat.le_refl _) _
  have hsa : w.heap.size < wa.heap.size := by rw [hwa]; simp
  have hbox : wa.heap[w.heap.size]? = some (.cells #[.slice p F.length c, .int .i64 room, .slice q Z.length d, .int .i64 power] 25 (0, 0)) := by rw [hwa]; exact heap_alloc_new w _
  have C4 : ∀ W : World, W.heap[w.heap.size]? = wa.heap[w.heap.size]? → W.cell? ⟨w.heap.size, 0, none⟩ = some (.slice p F.length c) ∧ W.cell? ⟨w.heap.size, 1, none⟩ = some (.int .i64 room) ∧ W.cell? ⟨w.heap.size, 2, none⟩ = some (.slice q Z.length d) ∧ W.cell? ⟨w.heap.size, 3, none⟩ = some (.int .i64 power) := fun W hb =>
    ⟨by rw [cell_of_row _ _ _ _ _ _ (hb.trans hbox)]; rfl, by rw [cell_of_row _ _ _ _ _ _ (hb.trans hbox)]; rfl, by rw [cell_of_row _ _ _ _ _ _ (hb.trans hbox)]; rfl, by rw [cell_of_row _ _ _ _ _ _ (hb.trans hbox)]; rfl⟩
  obtain ⟨S, hS⟩ : ∃ S : World → Prop, S = fun W => W.cell? ⟨w.heap.size, 0, none⟩ = some (.slice p F.length c) ∧ W.cell? ⟨w.heap.size, 1, none⟩ = some (.int .i64 room) ∧ W.cell? ⟨w.heap.size, 2, none⟩ = some (.slice q Z.length d) ∧ W.cell? ⟨w.heap.size, 3, none⟩ = some (.int .i64 power) := ⟨_, rfl⟩
  have HSS := Lib.hid (fun W => show S W ↔ W.cell? ⟨w.heap.size, 0, none⟩ = some (.slice p F.length c) ∧ W.cell? ⟨w.heap.size, 1, none⟩ = some (.int .i64 room) ∧ W.cell? ⟨w.heap.size, 2, none⟩ = some (.slice q Z.length d) ∧ W.cell? ⟨w.heap.size, 3, none⟩ = some (.int .i64 power) by rw [hS])
  have step : ∀ W, Below wa.heap.size wa W → S W := fun W hb => by rw [hS]; exact C4 W (hb.block _ hsa)
  have HK0 := Lib.hid (step wa.drew (Below.refl _ wa).drew)
  have HCF := Lib.hid (show Calls Tryd.prog 35 #[.slice p F.length c] wa.drew fun e w1 => ∃ p1 c1, e = .returned (.slice p1 F.length c1) ∧ S w1 ∧ Calls Tryd.prog 38 #[.slice q Z.length d] w1 fun e w2 => ∃ q2 c2, e = .returned (.slice q2 Z.length c2) ∧ S w2 ∧ Calls Tryd.prog 34 #[.slice p1 F.length c1, .int .i64 room, .slice q2 Z.length c2, .int .i64 power] w2 fun e w3 => ∃ x y, e = .returned (.tuple #[.pointer x, .int .i64 y]) ∧ NewPost w F room Z power (.returned (.tuple #[.pointer x, .int .i64 y])) w3 ∧ S w3 from
    (copyFiles_any F p _ c rfl (by omega) (fun f hf => (hFn f hf).2) wa.drew ((hF.below hba).below (Below.refl _ wa).drew)).mono fun _ w1 ⟨v, h1, h2, h3⟩ => by
      obtain ⟨p1, c1, rfl, _, _, hin1, _⟩ := h2.shape rfl
      have hb1 : Below wa.heap.size wa w1 := ((Below.refl _ wa).drew).trans h3
      have hB1 := hba.trans (hb1.mono hba.size)
      refine ⟨p1, c1, h1, step _ hb1, (copyInts_any Z q _ d rfl (by omega) w1 (hZ.below hB1)).mono fun _ w2 ⟨q2, c2, g1, g2, _, g3⟩ => ?_⟩
      have hb2 := hb1.trans (g3.mono hb1.size)
      have hB2 := hba.trans (hb2.mono hba.size)
      refine ⟨q2, c2, g1, step _ hb2, (new_p F p1 _ c1 rfl room Z q2 _ c2 rfl power w2 (hin1.below g3) g2 (by omega) hFn (by omega)).mono fun e w3 hp => ?_⟩
      have hb3 := hb2.trans (hp.2.mono hb2.size)
      have hq := NewPost.from hB2 hp
      rcases hp.1 with ⟨_, he⟩ | ⟨_, dd, P, he, _⟩
      · exact ⟨_, _, he, by rw [← he]; exact hq, step _ hb3⟩
      · exact ⟨_, _, he, by rw [← he]; exact hq, step _ hb3⟩)
  clear hS step C4 hbox hba hsa
  rw [hwa] at HCF HK0
  clear hwa
  go_enter Tryd.func11, Tryd.ntmps11
  go_wp2_with fail
  go_region_held3 (fun W => W.cell? ⟨w.heap.size, 0, none⟩ = some (.slice p F.length c) ∧ W.cell? ⟨w.heap.size, 1, none⟩ = some (.int .i64 room) ∧ W.cell? ⟨w.heap.size, 2, none⟩ = some (.slice q Z.length d) ∧ W.cell? ⟨w.heap.size, 3, none⟩ = some (.int .i64 power))
    (first | (with_reducible exact (HSS.out _).1 HK0.out) | (with_reducible exact (HSS.out _).1 HK1.out) | (with_reducible exact (HSS.out _).1 HK2.out) | (with_reducible exact (HSS.out _).1 HK3.out))
    (first
      | (go_at_call 35; with_reducible refine HCF.out.mono ?_; rintro e w4 ⟨p1, c1, rfl, hk1, hci⟩; have HK1 := Lib.hid hk1; have HCI := Lib.hid hci; clear hk1 hci)
      | (go_at_call 38; with_reducible refine HCI.out.mono ?_; rintro e w5 ⟨q2, c2, rfl, hk2, hcn⟩; have HK2 := Lib.hid hk2; have HCN := Lib.hid hcn; clear hk2 hcn)
      | (go_at_call 34; with_reducible refine HCN.out.mono ?_; rintro e w6 ⟨x, y, rfl, hp, hk3⟩; have HK3 := Lib.hid hk3; have HP := Lib.hid hp; clear hk3 hp))
  all_goals
    go_wp2_with fail
    go_ret2
    exact HP.out
end Go.Proofs.YtnhfnfdmpcpcoaaDoor

/-
  alive, of chapter 09: calls whose answers the document fixes.
-/
namespace Go.Proofs.YtnhfnfdmpcpcoaaDoor
open Go.RowKit Go.Maps

/-- a disk that lies at or behind B, all below B as it was in w0 -/
def DP (w0 : World) (dd : Nat) (A : Pl) (W : World) : Prop := ∃ P, DiskP W P dd A ∧ (∀ g, P g → w0.heap.size ≤ g) ∧ Below w0.heap.size w0 W
theorem DP.step {w0 W w' : World} {dd : Nat} {A : Pl} {P : Nat → Prop} {o : Opp} {e : Ending} (hb : Below w0.heap.size w0 W) (hP : ∀ g, P g → w0.heap.size ≤ g) (h : StepPost W P dd A o e w') : DP w0 dd (doP A o).1 w' := by
  obtain ⟨_, ⟨P', h2, h3⟩, h4⟩ := h
  refine ⟨P', h2, fun g hg => ?_, ?_⟩
  · rcases h3 g hg with h | h
    · exact hP g h
    · exact Nat.le_trans hb.size h
  · exact ⟨h4.os.trans hb.os, h4.tape.trans hb.tape, h4.output.trans hb.output, Nat.le_trans hb.size h4.size, fun k hk => (h4.block k (Nat.lt_of_lt_of_le hk hb.size) (fun e => by have := hP k e; omega)).trans (hb.block k hk)⟩
theorem DP.below {w0 W w' : World} {dd : Nat} {A : Pl} (h : DP w0 dd A W) (hb : Below W.heap.size W w') : DP w0 dd A w' := by
  obtain ⟨P, h1, h2, h3⟩ := h
  exact ⟨P, h1.below hb, h2, h3.trans (hb.mono h3.size)⟩
def al0 : Pl := newP [] 9 [3] 4
def al1 : Pl := ⟨[([97], 0)], [], [.put [97] 0], [([], 0)], 9, [3], 4, 1⟩
def al2 : Pl := ⟨[([97], 0)], [], [.put [97] 0], [([120, 121], 0)], 9, [3], 4, 2⟩
def al3 : Pl := ⟨[([97], 0)], [], [.put [97] 0], [([120, 121], 0)], 9, [3], 4, 3⟩
def al4 : Pl := ⟨[([97], 0)], [([97], 0)], [], [([120, 121], 0)], 9, [3], 4, 4⟩
theorem al_1 : doP al0 (.create [97]) = (al1, 0) := by kernel_rfl
theorem al_2 : doP al1 (.append [97] [120, 121]) = (al2, 0) := by kernel_rfl
theorem al_3 : doP al2 (.sync [97]) = (al3, 94) := by kernel_rfl
theorem al_4 : doP al3 .names = (al4, 0) := by kernel_rfl
theorem al_5 : doP al4 (.sync [97]) = (al4, 93) := by kernel_rfl
theorem al_6 : downP al4 = true := by kernel_rfl
theorem al_7 : leftP al4 0 [] = [([97], [])] := by kernel_rfl
theorem al_f0 : FitP al0 := ⟨by decide, by decide, by decide, by decide, by decide, by decide, by decide, by decide⟩
theorem al_f1 : FitP al1 := ⟨by decide, by decide, by decide, by decide, by decide, by decide, by decide, by decide⟩
theorem al_f2 : FitP al2 := ⟨by decide, by decide, by decide, by decide, by decide, by decide, by decide, by decide⟩
theorem al_f3 : FitP al3 := ⟨by decide, by decide, by decide, by decide, by decide, by decide, by decide, by decide⟩
theorem al_f4 : FitP al4 := ⟨by decide, by decide, by decide, by decide, by decide, by decide, by decide, by decide⟩
theorem al_i4 : Inv al4 := by
  have n1 : ∀ x ∈ ([([97], 0)] : NM), x = ([97], 0) := fun x hx => List.mem_singleton.1 hx
  have g1 : badN [97] = false := by kernel_rfl
  refine ⟨List.pairwise_singleton _ _, List.pairwise_singleton _ _, rfl, fun x hx => ?_, fun x hx => ?_, (fun c hc => by cases hc), fun x hx => ?_, by decide, fun x hx => ?_⟩
  · rw [n1 x hx]; exact g1
  · rw [n1 x hx]; exact g1
  · rw [n1 x hx]; decide
  · have hx : x ∈ ([([120, 121], 0)] : List (BS × Nat)) := hx
    rw [List.mem_singleton.1 hx]; decide
theorem al_new : newE [] 9 = 0 := by
  unfold newE
  rw [if_neg (by omega), if_pos ⟨(fun f hf => by cases hf), List.Pairwise.nil⟩]

set_option maxRecDepth 100000 in
set_option maxHeartbeats 8000000 in
theorem alive9_any (w : World) : Calls Tryd.prog 10 #[] w fun e w' => e = .returned (.bool true) ∧ Below w.heap.size w w' := by
  have hb0 : Below w.heap.size w (w.alloc (.cells #[.int .i64 3] 3)) := (Below.refl _ w).alloc (Nat.le_refl _) _
  have hnew := new_p [] none 0 0 rfl 9 [3] (some ⟨w.heap.size, 0, none⟩) 1 1 rfl 4 (w.alloc (.cells #[.int .i64 3] 3)) (InFs.nil _ _) (InV.lit w _ #[.int .i64 3] _ (0, 0) rfl) (by decide) (fun f hf => by cases hf) (by decide)
  rw [al_new] at hnew
  have HB0 := Lib.hid hb0
  clear hb0
  go_enter Tryd.func10, Tryd.ntmps10
  go_wp2_with fail
  refine hnew.mono ?_
  rintro e w1 ⟨⟨h0, _⟩ | ⟨_, dd, P, rfl, hd, hP⟩, hb1⟩
  · exact absurd rfl h0
  clear hnew
  have hD0 : DP w dd al0 w1 := ⟨P, hd, fun g hg => Nat.le_trans HB0.out.size (hP g hg), HB0.out.trans (hb1.mono HB0.out.size)⟩
  have HD0 := Lib.hid hD0
  clear hd hP hD0
  have HC1 := Lib.hid (fun W (h : DP w dd al0 W) => show Calls Tryd.prog 12 #[.pointer (some ⟨dd, 0, none⟩), .string ⟨#[97]⟩] W fun e w' => e = .returned (.int .i64 0) ∧ DP w dd al1 w' from by
    obtain ⟨P, h1, h2, h3⟩ := h
    refine (create_p h1 ⟨#[97]⟩ (by decide) al_f0).mono fun e w' hp => ⟨?_, ?_⟩
    · have := hp.1; rw [show (⟨#[97]⟩ : ByteArray).data.toList = [97] from rfl, al_1] at this; exact this
    · have := DP.step h3 h2 hp; rw [show (⟨#[97]⟩ : ByteArray).data.toList = [97] from rfl, al_1] at this; exact this)
  have HC2 := Lib.hid (fun W (h : DP w dd al1 W) => show Calls Tryd.prog 13 #[.pointer (some ⟨dd, 0, none⟩), .string ⟨#[97]⟩, .slice (some ⟨W.heap.size, 0, none⟩) 2 2] (W.alloc (.cells #[.int .u8 120, .int .u8 121] 5 (2, 3))) fun e w' => e = .returned (.int .i64 0) ∧ DP w dd al2 w' from by
    obtain ⟨P, h1, h2, h3⟩ := h
    have hb : Below W.heap.size W (W.alloc (.cells #[.int .u8 120, .int .u8 121] 5 (2, 3))) := (Below.refl _ W).alloc (Nat.le_refl _) _
    refine (append_p (h1.below hb) ⟨#[97]⟩ (by decide) [120, 121] (some ⟨W.heap.size, 0, none⟩) 2 2 rfl (by decide) (In8.lit W [120, 121] #[.int .u8 120, .int .u8 121] (2, 3) rfl) al_f1).mono fun e w' hp => ⟨?_, ?_⟩
    · have := hp.1; rw [show (⟨#[97]⟩ : ByteArray).data.toList = [97] from rfl, al_2] at this; exact this
    · have := DP.step (h3.trans (hb.mono h3.size)) h2 hp; rw [show (⟨#[97]⟩ : ByteArray).data.toList = [97] from rfl, al_2] at this; exact this)
  have HC3 := Lib.hid (fun W (h : DP w dd al2 W) => show Calls Tryd.prog 15 #[.pointer (some ⟨dd, 0, none⟩), .string ⟨#[97]⟩] W fun e w' => e = .returned (.int .i64 94) ∧ DP w dd al3 w' from by
    obtain ⟨P, h1, h2, h3⟩ := h
    refine (sync_p h1 ⟨#[97]⟩ (by decide) al_f2).mono fun e w' hp => ⟨?_, ?_⟩
    · have := hp.1; rw [show (⟨#[97]⟩ : ByteArray).data.toList = [97] from rfl, al_3] at this; exact this
    · have := DP.step h3 h2 hp; rw [show (⟨#[97]⟩ : ByteArray).data.toList = [97] from rfl, al_3] at this; exact this)
  have HC4 := Lib.hid (fun W (h : DP w dd al3 W) => show Calls Tryd.prog 16 #[.pointer (some ⟨dd, 0, none⟩)] W fun e w' => e = .returned (.int .i64 0) ∧ DP w dd al4 w' from by
    obtain ⟨P, h1, h2, h3⟩ := h
    refine (names_p h1 al_f3).mono fun e w' hp => ⟨?_, ?_⟩
    · have := hp.1; rw [al_4] at this; exact this
    · have := DP.step h3 h2 hp; rw [al_4] at this; exact this)
  have HC5 := Lib.hid (fun W (h : DP w dd al4 W) => show Calls Tryd.prog 15 #[.pointer (some ⟨dd, 0, none⟩), .string ⟨#[97]⟩] W fun e w' => e = .returned (.int .i64 93) ∧ DP w dd al4 w' from by
    obtain ⟨P, h1, h2, h3⟩ := h
    refine (sync_p h1 ⟨#[97]⟩ (by decide) al_f4).mono fun e w' hp => ⟨?_, ?_⟩
    · have := hp.1; rw [show (⟨#[97]⟩ : ByteArray).data.toList = [97] from rfl, al_5] at this; exact this
    · have := DP.step h3 h2 hp; rw [show (⟨#[97]⟩ : ByteArray).data.toList = [97] from rfl, al_5] at this; exact this)
  have HC6 := Lib.hid (fun W (h : DP w dd al4 W) => show Calls Tryd.prog 33 #[.pointer (some ⟨dd, 0, none⟩)] W fun e w' => e = .returned (.bool true) ∧ DP w dd al4 w' from by
    have h' := h
    obtain ⟨P, ⟨S, h1, he⟩, h2, h3⟩ := h
    refine (down_any h1).mono fun e w' hp => ⟨?_, h'.below hp.2⟩
    rw [hp.1, ← abs_down, he, al_6])
  have HC7 := Lib.hid (fun W (h : DP w dd al4 W) => show Calls Tryd.prog 19 #[.pointer (some ⟨dd, 0, none⟩), .agg #[.int .i64 0, .slice none 0 0]] W fun e w' => ∃ p c, e = .returned (.slice p 1 c) ∧ Below w.heap.size w w' from by
    obtain ⟨P, h1, h2, h3⟩ := h
    refine (left_p h1 0 [] none 0 (fun h => absurd h (by simp)) al_i4 (by decide) (by decide) (fun f hf => by
      have hf : f ∈ ([([120, 121], 0)] : List (BS × Nat)) := hf
      rw [List.mem_singleton.1 hf]; decide)).mono fun e w' hp => ?_
    obtain ⟨v, rfl, hown, hb⟩ := hp
    rw [al_7] at hown
    obtain ⟨p, c, rfl, _⟩ := hown.shape (n := 1) rfl
    exact ⟨p, c, rfl, h3.trans (hb.mono h3.size)⟩)
  have kc := fun (w : World) (C : Array Value) (n c : Nat) => Lib.run_convert_bytes_const (P := Tryd.prog) w 26 5 C n c Tryd.underlying26 Tryd.underlying5
  go_wp2_with fail
  refine (HC1.out _ HD0.out).mono ?_
  rintro e w2 ⟨rfl, hd⟩
  have HD1 := Lib.hid hd
  clear hd
  go_wp2_with fail
  refine (HC2.out _ HD1.out).mono ?_
  rintro e w3 ⟨rfl, hd⟩
  have HD2 := Lib.hid hd
  clear hd kc
  go_wp2_with fail
  refine (HC3.out _ HD2.out).mono ?_
  rintro e w4 ⟨rfl, hd⟩
  have HD3 := Lib.hid hd
  clear hd
  go_wp2_with fail
  refine (HC4.out _ HD3.out).mono ?_
  rintro e w5 ⟨rfl, hd⟩
  have HD4 := Lib.hid hd
  clear hd
  go_wp2_with fail
  refine (HC5.out _ HD4.out).mono ?_
  rintro e w6 ⟨rfl, hd⟩
  have HD5 := Lib.hid hd
  clear hd
  go_wp2_with fail
  refine (HC6.out _ HD5.out).mono ?_
  rintro e w7 ⟨rfl, hd⟩
  have HD6 := Lib.hid hd
  clear hd
  go_wp2_with fail
  refine (HC7.out _ HD6.out).mono ?_
  rintro e w8 ⟨p8, c8, rfl, hb8⟩
  have HB8 := Lib.hid hb8
  clear hb8
  go_wp2_with fail
  go_ret
  exact ⟨rfl, HB8.out⟩
end Go.Proofs.YtnhfnfdmpcpcoaaDoor

/-
  What every disk of a script keeps; the steps of a script, Left, in the words of the laws.
-/
namespace Go.Proofs.YtnhfnfdmpcpcoaaDoor
open Go.RowKit Go.Maps

/-- what every disk of a script keeps -/
structure GoodA (n : Nat) (A : Pl) : Prop where
  inv : Inv A
  fit : FitN A n
  dat : DatN A
theorem GoodA.step {n : Nat} {A : Pl} (h : GoodA n A) (o : Opp) : GoodA (n + 1) (doP A o).1 := ⟨inv_do h.inv o, fit_do h.inv h.fit o, dat_do h.dat h.fit.room o⟩
theorem GoodA.new {F : List FT} {room : Int} {Z : List Int} (power : Int) (hE : newE F room = 0) (hk : bulkFs F + Z.length ≤ 1048576) : GoodA 0 (newP F room Z power) := by
  obtain ⟨h1, h2, h3⟩ := newE_zero hE
  have hs := bulkFs_sum F
  have hl := bulkFs_length F
  refine ⟨inv_new h1 _ _ _, fit_new power h3 (by omega) (Nat.le_trans hs (by omega)) (by omega), fun f hf => ?_⟩
  obtain ⟨x, hx, e⟩ := List.mem_map.1 hf
  have := bulkFs_mem F x hx
  rw [← e]
  show x.2.length ≤ _
  omega
theorem GoodA.fitP {n : Nat} {A : Pl} (h : GoodA n A) (hn : n ≤ 1000000) : FitP A := h.fit.fit hn
/-- a disk behind a script -/
def runA (A : Pl) (L : List OpT) : Pl := L.foldl (fun A x => (doP A (opOf x.1 x.2.1 x.2.2.1 x.2.2.2)).1) A
theorem runA_snoc (A : Pl) {L : List OpT} {k : Nat} (h : k < L.length) : runA A (L.take (k + 1)) = (doP (runA A (L.take k)) (opOf L[k].1 L[k].2.1 L[k].2.2.1 L[k].2.2.2)).1 := by
  unfold runA
  rw [List.take_succ_eq_append_getElem h, List.foldl_append]
  rfl
theorem GoodA.run {A : Pl} (h : GoodA 0 A) (L : List OpT) : ∀ k, k ≤ L.length → GoodA k (runA A (L.take k))
  | 0, _ => by simpa [runA] using h
  | k + 1, hk => by
    rw [runA_snoc A (by omega)]
    exact (GoodA.run h L k (by omega)).step _

theorem left_bounds {n : Nat} {A : Pl} (h : GoodA n A) (hn : n ≤ 1000000) (k : Int) (keep : List Int) : (leftP A k keep).length ≤ 3600000000000 ∧ ∀ f ∈ leftP A k keep, f.1.length ≤ 140737488351232 ∧ f.2.length ≤ 140737488351232 := by
  refine ⟨?_, fun f hf => ?_⟩
  · unfold leftP leftNP
    rw [List.length_map]
    have h1 := fold_length (A.pend.take k.toNat) A.safe
    have h2 := h.fit.safe
    have h3 := h.fit.pend
    rw [List.length_take] at h1
    omega
  · obtain ⟨x, hx, e⟩ := List.mem_map.1 hf
    have hg := good_len (leftN_good h.inv k x hx)
    rw [← e]
    refine ⟨by show x.1.length ≤ _; omega, ?_⟩
    show (leftDP A keep x.2).length ≤ _
    unfold leftDP
    rw [List.length_take]
    unfold datP
    cases hx2 : A.files[x.2]? with
    | none => simp
    | some y =>
      have := h.dat y (List.mem_of_getElem? hx2)
      simp only [Option.map_some, Option.getD_some]
      omega
theorem left_dp {n : Nat} {w0 W : World} {dd : Nat} {A : Pl} (h : DP w0 dd A W) (hA : GoodA n A) (hn : n ≤ 1000000) (k : Int) (K : List Int) (kp : Option Addr) (m kc : Nat) (hm : K.length = m) (hK : InV W kp (K.map (Value.int .i64))) :
    Calls Tryd.prog 19 #[.pointer (some ⟨dd, 0, none⟩), .agg #[.int .i64 k, .slice kp m kc]] W fun e w' => ∃ p c, e = .returned (.slice p (leftP A k K).length c) ∧ OwnFs w' W.heap.size (.slice p (leftP A k K).length c) (leftP A k K) ∧ InFs w' p (leftP A k K) ∧ Below W.heap.size W w' := by
  subst hm
  obtain ⟨P, h1, h2, h3⟩ := h
  refine (left_p h1 k K kp kc hK hA.inv (hA.fitP hn).pend (hA.fitP hn).safe hA.dat).mono fun e w' hp => ?_
  obtain ⟨v, rfl, hown, hb⟩ := hp
  obtain ⟨p, c, rfl, _, _, hin, _⟩ := hown.shape rfl
  exact ⟨p, c, rfl, hown, hin, hb⟩
theorem do_dp {w0 W : World} {dd : Nat} {A : Pl} (h : DP w0 dd A W) (wh : Int) (na nb : ByteArray) (l : BS) (q : Option Addr) (m c : Nat) (hm : l.length = m) (hs : na.data.toList.length + nb.data.toList.length + l.length ≤ 1048576) (hin : In8 W q l) (hfit : FitP A) :
    Calls Tryd.prog 25 #[.pointer (some ⟨dd, 0, none⟩), .agg #[.int .i64 (stepI wh), .string na, .string nb, .slice q m c]] W fun e w' => ∃ z, e = .returned (.int .i64 z) ∧ z = (doP A (opOf wh na.data.toList nb.data.toList l)).2 ∧ DP w0 dd (doP A (opOf wh na.data.toList nb.data.toList l)).1 w' := by
  obtain ⟨P, h1, h2, h3⟩ := h
  rw [size_list, size_list] at hs
  have := do_any h1 (stepI wh) na nb l q m c hm (by omega) (by omega) (by omega) hin hfit
  rw [opOf_step] at this
  exact this.mono fun e w' hp => ⟨_, hp.1, rfl, DP.step h3 h2 hp⟩

end Go.Proofs.YtnhfnfdmpcpcoaaDoor

/-
  Used, List, Down of a disk, in the words of the laws; the sizes of boxes.
-/
namespace Go.Proofs.YtnhfnfdmpcpcoaaDoor
open Go.RowKit Go.Maps

theorem used_dp {n : Nat} {w0 W : World} {dd : Nat} {A : Pl} (h : DP w0 dd A W) (hA : GoodA n A) (hn : n ≤ 1000000) :
    Calls Tryd.prog 32 #[.pointer (some ⟨dd, 0, none⟩)] W fun e w' => e = .returned (.int .i64 (usedP A)) ∧ Below W.heap.size W w' := by
  obtain ⟨P, ⟨S, h1, he⟩, h2, h3⟩ := h
  have hu : usedP A = usedS S := by rw [← he, abs_used h1.nowF]
  rw [hu]
  exact used_any h1 (by rw [← hu]; have := (hA.fitP hn).used; omega)
theorem down_dp {w0 W : World} {dd : Nat} {A : Pl} (h : DP w0 dd A W) :
    Calls Tryd.prog 33 #[.pointer (some ⟨dd, 0, none⟩)] W fun e w' => e = .returned (.bool (downP A)) ∧ Below W.heap.size W w' := by
  obtain ⟨P, ⟨S, h1, he⟩, h2, h3⟩ := h
  rw [← he, abs_down]
  exact down_any h1
theorem list_dp {n : Nat} {w0 W : World} {dd : Nat} {A : Pl} (h : DP w0 dd A W) (hA : GoodA n A) (hn : n ≤ 1000000) :
    Calls Tryd.prog 30 #[.pointer (some ⟨dd, 0, none⟩)] W fun e w' => ∃ p c, e = .returned (.slice p (listP A).length c) ∧ OwnS w' W.heap.size (.slice p (listP A).length c) (listP A) ∧ InS w' p (listP A) ∧ Below W.heap.size W w' := by
  obtain ⟨P, h1, h2, h3⟩ := h
  refine (list_p h1 (hA.fitP hn).now).mono fun e w' hp => ?_
  obtain ⟨v, rfl, hown, hb⟩ := hp
  have hown2 := hown
  obtain ⟨p, c, rfl, _, _, hin, _⟩ := hown.shape rfl
  exact ⟨p, c, rfl, hown2, hin, hb⟩
theorem usedP_tick (A : Pl) : usedP (tickP A) = usedP A := by
  have ht := tick_rest A
  rw [usedP_eq, usedP_eq, ht.1, ht.2.2.1]
theorem down_tick (A : Pl) (h : downP (tickP A) = false) : downP A = false := by
  unfold tickP at h
  split at h
  · exact h
  · rename_i h1; simpa using h1
theorem listP_tick (A : Pl) (h : downP (tickP A) = false) : listP (tickP A) = listP A := by
  unfold listP
  rw [h, down_tick A h, (tick_rest A).1]
theorem leftP_tick (A : Pl) (n : Int) (K : List Int) : leftP (tickP A) n K = leftP A n K := by
  have ht := tick_rest A
  unfold leftP leftNP leftDP datP firmP
  rw [ht.2.1, ht.2.2.1, ht.2.2.2.1]
/-- what is owned behind a disk stays where the disk alone turns -/
theorem ownS_only {P : Nat → Prop} {w w' : World} {base : Nat} {v : Value} {L : List BS} (h : OwnS w base v L) (ho : Only P w w') (hP : ∀ g, P g → g < base) : OwnS w' base v L := by
  refine ⟨h.1, ?_⟩
  rcases h.2 with h0 | ⟨g, cap, cur, e, c1, c2, r⟩
  · exact .inl h0
  · exact .inr ⟨g, cap, cur, e, c1, (ho.block g (lt_of_heap c2) (fun e2 => by have := hP g e2; omega)).trans c2, r⟩
theorem own8_only {P : Nat → Prop} {w w' : World} {base : Nat} {v : Value} {L : BS} (h : Own8 w base v L) (ho : Only P w w') (hP : ∀ g, P g → g < base) : Own8 w' base v L := by
  refine ⟨h.1, ?_⟩
  rcases h.2 with h0 | ⟨g, cap, cur, e, c1, c2, r⟩
  · exact .inl h0
  · exact .inr ⟨g, cap, cur, e, c1, (ho.block g (lt_of_heap c2) (fun e2 => by have := hP g e2; omega)).trans c2, r⟩
theorem ownFs_only {P : Nat → Prop} {w w' : World} {base : Nat} {v : Value} {L : List FT} (h : OwnFs w base v L) (ho : Only P w w') (hP : ∀ g, P g → g < base) : OwnFs w' base v L := by
  obtain ⟨E, h1, h2, h3⟩ := h
  refine ⟨E, ⟨h1.1, ?_⟩, h2, fun i e x he hx => ⟨(h3 i e x he hx).1, own8_only (h3 i e x he hx).2 ho hP⟩⟩
  rcases h1.2 with h0 | ⟨g, cap, cur, e, c1, c2, r⟩
  · exact .inl h0
  · exact .inr ⟨g, cap, cur, e, c1, (ho.block g (lt_of_heap c2) (fun e2 => by have := hP g e2; omega)).trans c2, r⟩
/-- a step, while rows of the law's own lie behind the disk -/
theorem do_keep {w0 W0 W : World} {dd : Nat} {A : Pl} (h : DP w0 dd A W0) (hb0 : Below W0.heap.size W0 W) (wh : Int) (na nb : ByteArray) (l : BS) (q : Option Addr) (m c : Nat) (hm : l.length = m) (hs : na.data.toList.length + nb.data.toList.length + l.length ≤ 1048576) (hin : In8 W q l) (hfit : FitP A) :
    Calls Tryd.prog 25 #[.pointer (some ⟨dd, 0, none⟩), .agg #[.int .i64 (stepI wh), .string na, .string nb, .slice q m c]] W fun e w' => ∃ z, e = .returned (.int .i64 z) ∧ z = (doP A (opOf wh na.data.toList nb.data.toList l)).2 ∧ DP w0 dd (doP A (opOf wh na.data.toList nb.data.toList l)).1 w' ∧ Only (fun g => w0.heap.size ≤ g ∧ g < W0.heap.size) W w' := by
  obtain ⟨P, h1, h2, h3⟩ := h
  have h1s := h1.shrink.below hb0
  rw [size_list, size_list] at hs
  have := do_any h1s (stepI wh) na nb l q m c hm (by omega) (by omega) (by omega) hin hfit
  rw [opOf_step] at this
  refine this.mono fun e w' hp => ⟨_, hp.1, rfl, DP.step (h3.trans (hb0.mono h3.size)) (fun g hg => h2 g hg.1) hp, ?_⟩
  obtain ⟨_, _, ho⟩ := hp
  exact ⟨ho.os, ho.tape, ho.output, ho.size, fun k hk hnk => ho.block k hk (fun e => hnk ⟨h2 k e.1, e.2⟩)⟩
end Go.Proofs.YtnhfnfdmpcpcoaaDoor

/-
  Read: a file's bytes.
-/
namespace Go.Proofs.YtnhfnfdmpcpcoaaDoor
open Go.RowKit Go.Maps

set_option maxRecDepth 100000 in
set_option maxHeartbeats 4000000 in
theorem read_p {w : World} {P : Nat → Prop} {dd : Nat} {A : Pl} (h : DiskP w P dd A) (nm : ByteArray) (hnm : nm.size ≤ 140737488351232) (hus : usedP A ≤ 140737488351232) :
    Calls Tryd.prog 17 #[.pointer (some ⟨dd, 0, none⟩), .string nm] w fun e w' => ∃ v, e = .returned (.tuple #[v, .int .i64 (readEP A nm.data.toList)]) ∧ Own8 w' w.heap.size v (readP A nm.data.toList) ∧ Below w.heap.size w w' := by
  obtain ⟨S, h, rfl⟩ := h
  rw [abs_used h.nowF] at hus
  have hE : readEP (absD S) nm.data.toList = if downS S = true then 93 else if badN nm.data.toList = true then 95 else if lookN S.now nm.data.toList = none then 90 else 0 := by
    unfold readEP
    rw [abs_down, abs_look]
    cases lookN S.now nm.data.toList <;> rfl
  have hR : readP (absD S) nm.data.toList = if readEP (absD S) nm.data.toList = 0 then datP (absD S) (atP (absD S) nm.data.toList) else [] := rfl
  have HR0 := Lib.hid hR
  have HE0 := Lib.hid hE
  have c0 : w.cell? ⟨dd, 0, none⟩ = some (.map (some S.bn)) := h.cell 0
  have hrun := run_lookF h.now nm (by unfold maxLen; omega)
  have hdown := down_any h
  obtain ⟨q, hq⟩ : ∃ q, fileV (lookN S.now nm.data.toList) = .pointer q := by cases lookN S.now nm.data.toList <;> exact ⟨_, rfl⟩
  rw [hq] at hrun
  have HQ := Lib.hid hq
  clear hR hE hq
  cases hd : downS S with
  | true =>
    rw [hd] at hdown
    have HE := Lib.hid (show readEP (absD S) nm.data.toList = 93 by rw [HE0.out, if_pos hd])
    have HRR := Lib.hid (show readP (absD S) nm.data.toList = [] by rw [HR0.out, HE.out]; rfl)
    clear hd
    go_enter Tryd.func17, Tryd.ntmps17
    go_wp2_with fail
    refine hdown.mono ?_
    rintro e w1 ⟨rfl, hb1⟩
    clear hdown
    go_wp2_with fail
    go_ret2
    exact ⟨_, by rw [HE.out]; rfl, by rw [HRR.out]; exact Own8.nil _ _, hb1⟩
  | false =>
    rw [hd] at hdown
    have HE1 := Lib.hid (show readEP (absD S) nm.data.toList = if badN nm.data.toList = true then 95 else if lookN S.now nm.data.toList = none then 90 else 0 by rw [HE0.out, if_neg (by rw [hd]; simp)])
    clear hd
    have hgood := fun W => good_any nm W hnm
    cases hb : goodN nm.data.toList with
    | false =>
      rw [hb] at hgood
      have HE := Lib.hid (show readEP (absD S) nm.data.toList = 95 by rw [HE1.out, if_pos (by unfold badN; rw [hb]; rfl)])
      have HRR := Lib.hid (show readP (absD S) nm.data.toList = [] by rw [HR0.out, HE.out]; rfl)
      clear hb
      go_enter Tryd.func17, Tryd.ntmps17
      go_wp2_with fail
      refine hdown.mono ?_
      rintro e w1 ⟨rfl, hb1⟩
      clear hdown
      go_wp2_with fail
      refine (hgood _).mono ?_
      rintro e w2 ⟨rfl, hb2⟩
      clear hgood
      go_wp2_with fail
      go_ret2
      exact ⟨_, by rw [HE.out]; rfl, by rw [HRR.out]; exact Own8.nil _ _, hb1.trans (hb2.mono hb1.size)⟩
    | true =>
      rw [hb] at hgood
      have HE2 := Lib.hid (show readEP (absD S) nm.data.toList = if lookN S.now nm.data.toList = none then 90 else 0 by rw [HE1.out, if_neg (by unfold badN; rw [hb]; simp)])
      clear hb
      cases hl : lookN S.now nm.data.toList with
      | none =>
        have HE := Lib.hid (show readEP (absD S) nm.data.toList = 90 by rw [HE2.out, if_pos hl])
        have HRR := Lib.hid (show readP (absD S) nm.data.toList = [] by rw [HR0.out, HE.out]; rfl)
        have hq := HQ.out
        rw [hl] at hq
        unfold fileV at hq
        injection hq with hq
        subst hq
        clear hl
        go_enter Tryd.func17, Tryd.ntmps17
        go_wp2_with fail
        refine hdown.mono ?_
        rintro e w1 ⟨rfl, hb1⟩
        clear hdown
        go_wp2_with fail
        refine (hgood _).mono ?_
        rintro e w2 ⟨rfl, hb2⟩
        clear hgood
        go_wp2_with fail
        go_ret2
        exact ⟨_, by rw [HE.out]; rfl, by rw [HRR.out]; exact Own8.nil _ _, hb1.trans (hb2.mono hb1.size)⟩
      | some g =>
        have HE := Lib.hid (show readEP (absD S) nm.data.toList = 0 by rw [HE2.out, if_neg (by rw [hl]; simp)])
        have hq := HQ.out
        rw [hl] at hq
        unfold fileV at hq
        injection hq with hq
        subst hq
        have hmem := lookN_mem _ _ _ hl
        have hfile := h.nowF _ hmem
        simp only at hfile
        have hat : atP (absD S) nm.data.toList = noF S.files g := by unfold atP; rw [abs_look, hl]; rfl
        have HRR := Lib.hid (show readP (absD S) nm.data.toList = datF S g by rw [HR0.out, if_pos HE.out, hat, abs_dat hfile])
        have hdl := dat_le_used hmem
        simp only at hdl
        obtain ⟨f, hfm, hfg⟩ := hfile
        obtain ⟨i, hi, ei⟩ := List.getElem_of_mem hfm
        have hfi : S.files[i]? = some f := by rw [List.getElem?_eq_getElem hi, ei]
        have hdf := datF_mem h.apart hfm
        rw [hfg] at hdf
        subst hfg
        rw [hdf] at hdl
        have HDF := Lib.hid hdf
        have HFI := Lib.hid hfi
        clear hl hat hmem hfm hi ei hdf hfi
        go_enter Tryd.func17, Tryd.ntmps17
        go_wp2_with fail
        refine hdown.mono ?_
        rintro e w1 ⟨rfl, hb1⟩
        clear hdown
        go_wp2_with fail
        refine (hgood _).mono ?_
        rintro e w2 ⟨rfl, hb2⟩
        clear hgood
        have hB := hb1.trans (hb2.mono hb1.size)
        obtain ⟨b1, b2, b3, b4, b5⟩ := (h.below hB).files i f HFI.out
        obtain ⟨pv, cv, hval, hc1, hc2, hin⟩ := b2.in8n rfl
        have c1 : w2.cell? ⟨f.blk, 1, none⟩ = some (.slice pv f.data.length cv) := by rw [cell_of_row _ _ _ _ _ _ b1, ← hval]; rfl
        have hcl := cloneB_any f.data pv _ cv rfl (by omega) (fun e => by
          subst e
          rcases b2.2 with ⟨e, _⟩ | ⟨g', cap, cur, e, _⟩
          · rw [hval] at e; injection e
          · rw [hval] at e; injection e with e; cases e) w2 hin
        have HB := Lib.hid hB
        clear b1 b2 b3 b4 b5 hval hc1 hc2 hin hB
        go_wp2_with fail
        refine hcl.mono ?_
        rintro e w3 ⟨v, rfl, hown, hb3⟩
        clear hcl
        go_wp2_with fail
        go_ret2
        have hB := HB.out
        exact ⟨_, by rw [HE.out]; rfl, by rw [HRR.out, HDF.out]; exact hown.mono hB.size, hB.trans (hb3.mono hB.size)⟩
end Go.Proofs.YtnhfnfdmpcpcoaaDoor

/-
  Read of a disk, in the words of the laws.
-/
namespace Go.Proofs.YtnhfnfdmpcpcoaaDoor
open Go.RowKit Go.Maps

theorem read_dp {n : Nat} {w0 W : World} {dd : Nat} {A : Pl} (h : DP w0 dd A W) (hA : GoodA n A) (hn : n ≤ 1000000) (nm : ByteArray) (hnm : nm.size ≤ 140737488351232) :
    Calls Tryd.prog 17 #[.pointer (some ⟨dd, 0, none⟩), .string nm] W fun e w' => ∃ p c, e = .returned (.tuple #[.slice p (readP A nm.data.toList).length c, .int .i64 (readEP A nm.data.toList)]) ∧ In8 w' p (readP A nm.data.toList) ∧ (readP A nm.data.toList).length ≤ c ∧ c ≤ maxLen ∧ (∀ a, p = some a → W.heap.size ≤ a.block) ∧ Own8 w' W.heap.size (.slice p (readP A nm.data.toList).length c) (readP A nm.data.toList) ∧ Below W.heap.size W w' := by
  obtain ⟨P, h1, h2, h3⟩ := h
  refine (read_p h1 nm hnm (hA.fitP hn).used).mono fun e w' hp => ?_
  obtain ⟨v, rfl, hown, hb⟩ := hp
  have hown2 := hown
  obtain ⟨p, c, rfl, h4, h5, hin⟩ := hown.in8n rfl
  refine ⟨p, c, rfl, hin, h4, h5, fun a ha => ?_, hown2, hb⟩
  subst ha
  exact (World.ownsRow.lt hown2 a.block rfl).1
theorem readP_len {n : Nat} {A : Pl} (hA : GoodA n A) (k : BS) : (readP A k).length ≤ 140737488351232 := by
  unfold readP
  split
  · unfold datP
    cases hx : A.files[atP A k]? with
    | none => simp
    | some y =>
      have := hA.dat y (List.mem_of_getElem? hx)
      simp only [Option.map_some, Option.getD_some]
      exact this
  · simp
end Go.Proofs.YtnhfnfdmpcpcoaaDoor
