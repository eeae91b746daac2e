/-
  Chapter 9, texts merged: AppendD, CloneB, PlLaw, PlFit, PlNew, NewAt.
-/
import Derived.Test.YtnhfnfdmpcpcoaaDoorN9c
import Derived.Test.YtnhfnfdmpcpcoaaDoorN9b
import Derived.Deep.RegionHeld3

/-
  Append: data behind a file's bytes.
-/
namespace Go.Proofs.YtnhfnfdmpcpcoaaDoor
open Go.RowKit Go.Maps

theorem wpList_append8y {w : World} {ops : Array Oper} {rest : List Oper} {o : Oper} {a : Act} {Q : Exit → Act → World → Prop} (hgd : o.guard = none) (s x : Operand)
    (ho : o.op = .call { callee := .builtin .append, args := #[s, x], argTypes := #[26, 26] })
    (base : Nat) (v : Value) (l : List UInt8) (hv : a.eval s = v) (hown : Own8 w base v l)
    (p : Option Addr) (m c : Nat) (l2 : List UInt8) (hm : l2.length = m) (hx : a.eval x = .slice p m c) (hin : In8 w p l2)
    (hr : l.length + m ≤ 140737488355328) (hbase : base ≤ w.heap.size)
    (h : ∀ v' w', Own8 w' base v' (l ++ l2) → w.grownBy w' v.ownBlock → Way w v v' → wpList Tryd.prog ops Q rest (a.put o.dst v') w') : wpList Tryd.prog ops Q (o :: rest) a w := by
  subst hm
  refine wpList_append_way w hgd s x 26 26 ho base 5 (.int .u8 0) 1 1 Tryd.underlying26 info8 rfl v l.length (by8 l) hv hown _ l2.length (by8 l2) hx (Src.of8 hin) (by unfold maxLen; omega) (by omega) hbase ?_
  intro v' w' ho' hg hn
  exact h v' w' (by unfold Own8; rw [List.length_append, by8_append]; exact ho') hg hn

theorem dat_le_used {S : DiskC} {x : BS × Nat} (h : x ∈ S.now) : (datF S x.2).length ≤ usedS S := by
  unfold usedS
  obtain ⟨s, t, e⟩ := List.append_of_mem h
  rw [e, List.map_append, List.sum_append, List.map_cons, List.sum_cons]
  omega
theorem usedS_begin (S : DiskC) : usedS (beginS S) = usedS S := by
  unfold beginS
  split <;> rfl

theorem append_fin {w1 W W' W2 : World} {P : Nat → Prop} {dd i : Nat} {S : DiskC} {f : FileC} {k l : BS} {v' : Value} (h1 : DiskAt w1 P dd (beginS S)) (hb : Below w1.heap.size w1 W) (hfi : (beginS S).files[i]? = some f) (hl : lookN S.now k = some f.blk)
    (hown : Own8 W' 0 v' (f.data ++ l)) (hg : W.grownBy W' f.val.ownBlock) (hway : Way W f.val v') (h2 : W2 = W'.setCell ⟨f.blk, 1, none⟩ v') :
    (∃ P', DiskP W2 P' dd { tickP (absD S) with files := (absD S).files.modify (atP (absD S) k) fun x => (x.1 ++ l, x.2) } ∧ ∀ g, P' g → P g ∨ w1.heap.size ≤ g) ∧ Only P w1 W2 := by
  have h := h1.below hb
  obtain ⟨b1, b2, b3, b4, b5⟩ := h.files i f hfi
  have hne := row_ne b2 b1 (by decide)
  have hs := hg.size
  have hblk' : W'.heap[f.blk]? = some (.cells #[.int .i64 i, f.val, .int .i64 f.firm] 81 (0, 0)) := (hg.block _ (lt_of_heap b1) (fun e => hne e.symm)).trans b1
  have hcell : W2.heap[f.blk]? = some (.cells #[.int .i64 i, v', .int .i64 f.firm] 81 (0, 0)) := by
    rw [h2]
    simp only [World.setCell, Array.getElem?_modify, hblk']
    simp
  have hother : ∀ g, g ≠ f.blk → W2.heap[g]? = W'.heap[g]? := fun g hg => by rw [h2]; exact Below.heap_setCell _ _ _ _ hg
  have hE : Else2 W W2 f.blk f.val.ownBlock := fun g hgl h3 h4 => (hother g h3).trans (hg.block g hgl h4)
  have hE2 : Else W' W2 f.blk := fun g hg => hother g hg
  have hway2 : ∀ r, v'.ownBlock = some r → f.val.ownBlock = some r ∨ W.heap.size ≤ r := fun r hr => hway r hr
  have hown2 : Own8 W2 0 v' (f.data ++ l) := rowElse hown hE2 (row_ne hown hblk' (by decide))
  have hd := h.setFile (f' := { f with val := v', data := f.data ++ l }) hfi rfl hcell hE hown2 hway2 (by show f.firm ≤ (f.data ++ l).length; rw [List.length_append]; omega)
  have hr := (beginS_rest S).2.2.1
  have hfi' : S.files[i]? = some f := by rw [← hr]; exact hfi
  have hap : ApartF S.files := by rw [← hr]; exact h1.apart
  refine ⟨⟨_, ⟨_, hd, ?_⟩, fun g hg => ?_⟩, ?_⟩
  · rw [hr]
    exact abs_turn (f' := { f with val := v', data := f.data ++ l }) hap hl hfi' rfl rfl (fun x => (x.1 ++ l, x.2)) rfl
  · rcases hg with hg | hg
    · exact .inl hg
    · rcases hway2 g hg with e | e
      · exact .inl (b3 g e)
      · exact .inr (Nat.le_trans hb.size e)
  · refine ⟨?_, ?_, ?_, ?_, fun g hgl hng => ?_⟩
    · rw [h2]; exact hg.os.trans hb.os
    · rw [h2]; exact hg.tape.trans hb.tape
    · rw [h2]; exact hg.output.trans hb.output
    · rw [h2]; have := hb.size; simp only [World.setCell]; simp; omega
    · exact (hE g (Nat.lt_of_lt_of_le hgl hb.size) (fun e => hng (by rw [e]; exact b4)) (fun e => hng (b3 g e.symm))).trans (hb.block g hgl)

set_option maxRecDepth 100000 in
set_option maxHeartbeats 4000000 in
theorem append_p {w : World} {P : Nat → Prop} {dd : Nat} {A : Pl} (h : DiskP w P dd A) (nm : ByteArray) (hnm : nm.size ≤ 140737488351232) (l : BS) (p : Option Addr) (n c : Nat) (hn : l.length = n) (hl : n ≤ 140737488351232) (hin : In8 w p l) (hfit : FitP A) :
    Calls Tryd.prog 13 #[.pointer (some ⟨dd, 0, none⟩), .string nm, .slice p n c] w (StepPost w P dd A (.append nm.data.toList l)) := by
  obtain ⟨S, h, rfl⟩ := h
  subst hn
  have hus := hfit.used
  rw [abs_used h.nowF] at hus
  have hroom := hfit.room
  have hon := on_any h (Below.refl _ w) nm hnm (.slice none 0 0) [] (OwnS.nil _ _) (by simp) (by simp) hfit.steps hfit.fails
  have hif := onE_F S [] nm.data.toList
  have hD : doP (absD S) (.append nm.data.toList l) = if onE S [] nm.data.toList ≠ 0 then (tickP (absD S), onE S [] nm.data.toList) else if 0 < l.length ∧ S.room < usedS S + l.length then (tickP (absD S), 92) else ({ tickP (absD S) with files := (absD S).files.modify (atP (absD S) nm.data.toList) fun x => (x.1 ++ l, x.2) }, 0) := by
    rw [← abs_on, ← abs_used h.nowF]
    rfl
  obtain ⟨en, hen⟩ : ∃ en, en = onE S [] nm.data.toList := ⟨_, rfl⟩
  rw [← hen] at hon hif hD
  have HD := Lib.hid hD
  have hsub : ∀ w', Only (fun g => g = dd) w w' → Only P w w' := fun w' ho => ⟨ho.os, ho.tape, ho.output, ho.size, fun k hk hne => ho.block k hk (fun e => hne (by rw [e]; exact h.inP.1))⟩
  have HSUB := Lib.hid hsub
  clear hen hsub hD
  cases hf : onF S [] nm.data.toList with
  | none =>
    have hz : ¬ en = 0 := fun e => by obtain ⟨g, e2⟩ := hif.1 e; rw [hf] at e2; cases e2
    have hz2 : (en == 0) = false := beq_eq_false_iff_ne.2 hz
    have hz3 : (en != 0) = true := by simp [bne, hz2]
    have HR := Lib.hid (show doP (absD S) (.append nm.data.toList l) = (tickP (absD S), en) by rw [HD.out, if_pos hz])
    rw [hf] at hon
    clear hif hf
    go_enter Tryd.func13, Tryd.ntmps13
    go_wp2_with fail
    refine hon.mono ?_
    rintro e w1 ⟨rfl, h1, ho1, _⟩
    clear hon
    go_wp2_with fail
    go_ret
    exact ⟨by rw [HR.out]; rfl, ⟨P, ⟨_, h1, by rw [HR.out, abs_tick]⟩, fun _ hg => .inl hg⟩, HSUB.out _ ho1⟩
  | some g =>
    have hz : en = 0 := hif.2 ⟨g, hf⟩
    subst hz
    have hnow := (onF_zero hf).1
    have hmem := lookN_mem _ _ _ hnow
    rw [hf] at hon
    unfold fileV at hon
    have HL := Lib.hid hnow
    have HAP := Lib.hid h.apart
    clear hif hf hnow
    go_enter Tryd.func13, Tryd.ntmps13
    go_wp2_with fail
    refine hon.mono ?_
    rintro e w1 ⟨rfl, h1, ho1, _⟩
    clear hon
    have hin1 : In8 w1 p l := by
      intro h0
      obtain ⟨b, o, e, hc⟩ := hin h0
      refine ⟨b, o, e, fun i hi => ?_⟩
      have hck := hc i hi
      have hlt := World.block_lt_of_cell? w _ hck
      have hbd : b ≠ dd := by
        rintro rfl
        have h2 := h.cell (o + i)
        rw [h2] at hck
        unfold diskCells at hck
        obtain ⟨a, c', e⟩ := h.pvForm
        rw [e, h.fails.1] at hck
        have : o + i = 0 ∨ o + i = 1 ∨ o + i = 2 ∨ o + i = 3 ∨ o + i = 4 ∨ o + i = 5 ∨ o + i = 6 ∨ o + i = 7 := by
          have := (Array.getElem?_eq_some_iff.1 hck).1
          simp at this
          omega
        rcases this with e | e | e | e | e | e | e | e <;> rw [e] at hck <;> simp at hck
      have := ho1.block b hlt hbd
      simp only [World.cell?, this]
      exact hck
    have hmem1 : (nm.data.toList, g) ∈ (beginS S).now := by rw [(beginS_now S).1]; exact hmem
    obtain ⟨f, hfm, hfg⟩ := h1.nowF _ hmem1
    obtain ⟨i, hi, ei⟩ := List.getElem_of_mem hfm
    have hfi : (beginS S).files[i]? = some f := by rw [List.getElem?_eq_getElem hi, ei]
    simp only at hfg
    subst hfg
    have hdat : f.data.length ≤ usedS S := by
      have h2 := dat_le_used hmem
      have h3 := datF_mem h1.apart hfm
      have h4 : datF S f.blk = datF (beginS S) f.blk := by unfold datF; rw [(beginS_rest S).2.2.1]
      rw [h4, h3] at h2
      exact h2
    have hus1 : usedS (beginS S) = usedS S := usedS_begin S
    have hu := used_any h1 (by rw [hus1]; omega)
    rw [hus1] at hu
    have c4 : w1.cell? ⟨dd, 4, none⟩ = some (.int .i64 S.room) := by rw [h1.cell 4]; show some (Value.int .i64 ((beginS S).room : Int)) = _; rw [(beginS_rest S).2.2.2.1]
    have H1 := Lib.hid h1
    have HO := Lib.hid (HSUB.out _ ho1)
    have HN := Lib.hid (And.intro hfi hdat)
    have hroom' : (S.room : Int) ≤ 1073741824 := by have : S.room ≤ 1073741824 := hroom; omega
    clear hmem hmem1 hfm hi ei hroom
    obtain ⟨u, hu0⟩ : ∃ u, u = usedS S := ⟨_, rfl⟩
    rw [← hu0] at hu hus
    have HU0 := Lib.hid hu0
    clear hu0 hus1 hdat
    by_cases h0 : 0 < l.length
    · have hgt : decide (0 < (l.length : Int)) = true := decide_eq_true (by omega)
      have hS0 : w1.drew.cell? ⟨dd, 4, none⟩ = some (.int .i64 S.room) ∧ Below w1.heap.size w1 w1.drew := ⟨c4, (Below.refl _ w1).drew⟩
      have HK0 := Lib.hid hS0
      have HU := Lib.hid (fun W (hW : W.cell? ⟨dd, 4, none⟩ = some (.int .i64 S.room) ∧ Below w1.heap.size w1 W) => show Calls Tryd.prog 32 #[.pointer (some ⟨dd, 0, none⟩)] W fun e w' => e = .returned (.int .i64 u) ∧ w'.cell? ⟨dd, 4, none⟩ = some (.int .i64 S.room) ∧ Below w1.heap.size w1 w' from by
        have hq := used_any (H1.out.below hW.2) (by rw [usedS_begin, ← HU0.out]; omega)
        rw [usedS_begin, ← HU0.out] at hq
        refine hq.mono ?_
        rintro e w' ⟨rfl, hb⟩
        exact ⟨rfl, cell_keep hW.1 hb, hW.2.trans (hb.mono hW.2.size)⟩)
      have HWR := Lib.hid (show IntKind.i64.wrap ((u : Int) + (l.length : Int)) = (u : Int) + (l.length : Int) by rw [IntKind.wrap_i64]; omega)
      clear hu hin hS0
      by_cases hfull : S.room < u + l.length
      · have HR := Lib.hid (show doP (absD S) (.append nm.data.toList l) = (tickP (absD S), 92) by rw [HD.out, if_neg (by simp), if_pos (by rw [← HU0.out]; exact ⟨h0, hfull⟩)])
        have hcmp : decide ((S.room : Int) < (u : Int) + (l.length : Int)) = true := decide_eq_true (by omega)
        have HCMP := Lib.hid hcmp
        clear hfull hcmp
        go_wp2_with fail
        go_region_held3 (fun W => W.cell? ⟨dd, 4, none⟩ = some (.int .i64 S.room) ∧ Below w1.heap.size w1 W)
          (first | (with_reducible exact HK0.out) | (with_reducible exact HK1.out))
          (first | (go_at_call 32; with_reducible refine (HU.out _ HK0.out).mono ?_; rintro e w2 ⟨rfl, hk⟩; have HK1 := Lib.hid hk; clear hk))
        all_goals
          rw [HWR.out, HCMP.out]
          have hb := HK1.out.2
          go_wp2_with fail
          go_ret
          have ho := HO.out
          exact ⟨by rw [HR.out]; rfl, ⟨P, ⟨_, H1.out.below hb, by rw [HR.out, abs_tick]⟩, fun g hg => .inl hg⟩, ⟨hb.os.trans ho.os, hb.tape.trans ho.tape, hb.output.trans ho.output, Nat.le_trans ho.size hb.size, fun k hk hnk => (hb.block k (Nat.lt_of_lt_of_le hk ho.size)).trans (ho.block k hk hnk)⟩⟩
      · have HR := Lib.hid (show doP (absD S) (.append nm.data.toList l) = ({ tickP (absD S) with files := (absD S).files.modify (atP (absD S) nm.data.toList) fun x => (x.1 ++ l, x.2) }, 0) by rw [HD.out, if_neg (by simp), if_neg (by rw [← HU0.out]; exact fun e => hfull e.2)])
        have hcmp : decide ((S.room : Int) < (u : Int) + (l.length : Int)) = false := decide_eq_false (by omega)
        have HCMP := Lib.hid hcmp
        have hlenD : f.data.length + l.length ≤ 140737488355328 := by have := HN.out.2; have := HU0.out; omega
        clear hfull hcmp
        go_wp2_with fail
        go_region_held3 (fun W => W.cell? ⟨dd, 4, none⟩ = some (.int .i64 S.room) ∧ Below w1.heap.size w1 W)
          (first | (with_reducible exact HK0.out) | (with_reducible exact HK1.out))
          (first | (go_at_call 32; with_reducible refine (HU.out _ HK0.out).mono ?_; rintro e w2 ⟨rfl, hk⟩; have HK1 := Lib.hid hk; clear hk))
        all_goals
          rw [HWR.out, HCMP.out]
          have hb := HK1.out.2
          obtain ⟨b1, b2, b3, b4, b5⟩ := (H1.out.below hb).files i f HN.out.1
          have hne := row_ne b2 b1 (by decide)
          obtain ⟨pv, cv, hval, _, _, _⟩ := b2.in8n rfl
          have c1 : w2.cell? ⟨f.blk, 1, none⟩ = some (.slice pv f.data.length cv) := by rw [cell_of_row _ _ _ _ _ _ b1, ← hval]; rfl
          have hin2 := hin1.below hb
          have hown2 : Own8 w2 0 (.slice pv f.data.length cv) f.data := by rw [← hval]; exact b2
          have hne2 : (Value.slice pv f.data.length cv).ownBlock ≠ some f.blk := by rw [← hval]; exact hne
          have HB1 := Lib.hid b1
          have HV := Lib.hid hval
          clear b1 b2 b3 b4 b5 hval hne
          go_wp2_with (
            at_builtin
            refine wpList_append8y rfl _ _ rfl 0 _ f.data rfl hown2 _ _ _ l rfl rfl hin2 (by omega) (Nat.zero_le _) ?_
            intro v3 w3 hown3 hgrow3 hway3
            have f3 := frozen_of_row w3 f.blk 1 _ _ ((hgrow3.block _ (lt_of_heap HB1.out) (fun e => hne2 e.symm)).trans HB1.out)
            have d3 : w3.cell? ⟨f.blk, 1, none⟩ = some (.slice pv f.data.length cv) := by rw [cell_of_row _ _ _ _ _ _ ((hgrow3.block _ (lt_of_heap HB1.out) (fun e => hne2 e.symm)).trans HB1.out), HV.out]; rfl
            have HO3 := Lib.hid hown3
            obtain ⟨p3, c3, rfl, _, _, _⟩ := hown3.in8n (n := f.data.length + l.length) (by rw [List.length_append])
            have HG3 := Lib.hid hgrow3
            have HW3 := Lib.hid hway3
            clear hown3 hgrow3 hway3)
          go_ret
          have ho := HO.out
          have hg3 := HG3.out
          have hw3 := HW3.out
          rw [← HV.out] at hg3 hw3
          obtain ⟨⟨P', hd, hP'⟩, hon⟩ := append_fin (k := nm.data.toList) (l := l) H1.out hb HN.out.1 HL.out HO3.out hg3 hw3 rfl
          exact ⟨by rw [HR.out]; rfl, ⟨P', by rw [HR.out]; exact hd, fun k hk => (hP' k hk).imp id (fun e => Nat.le_trans ho.size e)⟩, ⟨hon.os.trans ho.os, hon.tape.trans ho.tape, hon.output.trans ho.output, Nat.le_trans ho.size hon.size, fun k hk hnk => (hon.block k (Nat.lt_of_lt_of_le hk ho.size) hnk).trans (ho.block k hk hnk)⟩⟩
    · have hl0 : l.length = 0 := by omega
      have hgt : decide (0 < (l.length : Int)) = false := decide_eq_false (by omega)
      have HR := Lib.hid (show doP (absD S) (.append nm.data.toList l) = ({ tickP (absD S) with files := (absD S).files.modify (atP (absD S) nm.data.toList) fun x => (x.1 ++ l, x.2) }, 0) by rw [HD.out, if_neg (by simp), if_neg (fun e => h0 e.1)])
      clear hu hin hgt
      obtain rfl : l = [] := List.eq_nil_of_length_eq_zero hl0
      clear hl0 h0
      obtain ⟨b1, b2, b3, b4, b5⟩ := H1.out.files i f HN.out.1
      have hne := row_ne b2 b1 (by decide)
      obtain ⟨pv, cv, hval, _, _, _⟩ := b2.in8n rfl
      have c1 : w1.cell? ⟨f.blk, 1, none⟩ = some (.slice pv f.data.length cv) := by rw [cell_of_row _ _ _ _ _ _ b1, ← hval]; rfl
      have hown2 : Own8 w1 0 (.slice pv f.data.length cv) f.data := by rw [← hval]; exact b2
      have hne2 : (Value.slice pv f.data.length cv).ownBlock ≠ some f.blk := by rw [← hval]; exact hne
      have HB1 := Lib.hid b1
      have HV := Lib.hid hval
      have hlenD : f.data.length ≤ 140737488355328 := by have := HN.out.2; have := HU0.out; omega
      clear b1 b2 b3 b4 b5 hval hne
      go_wp2_with fail
      go_quiet (fail)
      have hb : Below w1.heap.size w1 (w1.drewN nq) := bdrewN (Below.refl _ w1) _
      have hin2 := hin1.below hb
      have hown4 := hown2.below hb
      go_wp2_with (
        at_builtin
        refine wpList_append8y rfl _ _ rfl 0 _ f.data rfl hown4 _ _ _ [] rfl rfl hin2 (by simpa using hlenD) (Nat.zero_le _) ?_
        intro v3 w3 hown3 hgrow3 hway3
        have f3 := frozen_of_row w3 f.blk 1 _ _ ((hgrow3.block _ (lt_of_heap HB1.out) (fun e => hne2 e.symm)).trans HB1.out)
        have d3 : w3.cell? ⟨f.blk, 1, none⟩ = some (.slice pv f.data.length cv) := by rw [cell_of_row _ _ _ _ _ _ ((hgrow3.block _ (lt_of_heap HB1.out) (fun e => hne2 e.symm)).trans HB1.out), HV.out]; rfl
        have HO3 := Lib.hid hown3
        obtain ⟨p3, c3, rfl, _, _, _⟩ := hown3.in8n (n := f.data.length) (by simp)
        have HG3 := Lib.hid hgrow3
        have HW3 := Lib.hid hway3
        clear hown3 hgrow3 hway3)
      go_ret
      have ho := HO.out
      have hg3 := HG3.out
      have hw3 := HW3.out
      rw [← HV.out] at hg3 hw3
      obtain ⟨⟨P', hd, hP'⟩, hon⟩ := append_fin (k := nm.data.toList) (l := []) H1.out hb HN.out.1 HL.out HO3.out hg3 hw3 rfl
      exact ⟨by rw [HR.out]; rfl, ⟨P', by rw [HR.out]; exact hd, fun k hk => (hP' k hk).imp id (fun e => Nat.le_trans ho.size e)⟩, ⟨hon.os.trans ho.os, hon.tape.trans ho.tape, hon.output.trans ho.output, Nat.le_trans ho.size hon.size, fun k hk hnk => (hon.block k (Nat.lt_of_lt_of_le hk ho.size) hnk).trans (ho.block k hk hnk)⟩⟩

end Go.Proofs.YtnhfnfdmpcpcoaaDoor

/-
  slices.Clone of bytes; List, Read: what only reads a disk's files.
-/
namespace Go.Proofs.YtnhfnfdmpcpcoaaDoor
open Go.RowKit Go.Maps

set_option maxRecDepth 100000 in
set_option maxHeartbeats 1000000 in
theorem cloneB_any (l : List UInt8) (p : Option Addr) (n c : Nat) (hn : l.length = n) (hr : n ≤ 140737488355328) (hc : p = none → c = 0) (w : World) (h : In8 w p l) :
    Calls Tryd.prog 48 #[.slice p n c] w fun e w' => ∃ v, e = .returned v ∧ Own8 w' w.heap.size v l ∧ Below w.heap.size w w' := by
  subst hn
  cases p with
  | none =>
    have hl : l = [] := by
      by_cases h0 : 0 < l.length
      · obtain ⟨b, o, e, _⟩ := h h0; cases e
      · exact List.eq_nil_of_length_eq_zero (by omega)
    subst hl
    rw [hc rfl]
    have he : ∀ w : World, (binOp .eql 26 (.slice none 0 0) (.slice none 0 0)).run Tryd.prog w = .ok (.bool true) w := fun _ => rfl
    go_enter Tryd.func48, Tryd.ntmps48
    go_wp2_with fail
    go_ret
    exact ⟨_, rfl, Own8.nil _ _, Below.refl _ _⟩
  | some a =>
    have he : ∀ w : World, (binOp .eql 26 (.slice (some a) l.length c) (.slice none 0 0)).run Tryd.prog w = .ok (.bool false) w := fun _ => rfl
    have hin := h.alloc (.cells #[] 5)
    have hown := Own8.made w
    go_enter Tryd.func48, Tryd.ntmps48
    go_wp2_with (at_builtin; refine wpList_append8 rfl _ _ rfl w.heap.size _ [] rfl hown _ _ _ l rfl rfl hin (by simp; omega) (by simp) ?_; intro v1 w1 hown1 hgrow1 _)
    go_ret
    exact ⟨v1, rfl, hown1, ((Below.refl _ w).alloc (Nat.le_refl _) _).grown hgrow1 (by simp) (fun k e => by cases e; exact Nat.le_refl _)⟩

set_option maxHeartbeats 1000000 in
theorem list_p {w : World} {P : Nat → Prop} {dd : Nat} {A : Pl} (h : DiskP w P dd A) (hn : A.now.length ≤ 4000000000000) :
    Calls Tryd.prog 30 #[.pointer (some ⟨dd, 0, none⟩)] w fun e w' => ∃ v, e = .returned v ∧ OwnS w' w.heap.size v (listP A) ∧ Below w.heap.size w w' := by
  obtain ⟨S, h, rfl⟩ := h
  have hl : (absD S).now.length = S.now.length := by show (mapN _ _).length = _; unfold mapN; simp
  rw [hl] at hn
  have hnames : (absD S).now.map (·.1) = S.now.map (·.1) := by show (mapN _ _).map _ = _; unfold mapN; rw [List.map_map]; rfl
  have hdown := down_any h
  cases hd : downS S with
  | true =>
    rw [hd] at hdown
    have HL := Lib.hid (show listP (absD S) = [] by unfold listP; rw [abs_down, if_pos hd])
    clear hd hl hnames
    go_enter Tryd.func30, Tryd.ntmps30
    go_wp2_with fail
    refine hdown.mono ?_
    rintro e w1 ⟨rfl, hb1⟩
    clear hdown
    go_wp2_with fail
    go_ret
    exact ⟨_, rfl, by rw [HL.out]; exact OwnS.nil _ _, hb1⟩
  | false =>
    rw [hd] at hdown
    have HL := Lib.hid (show listP (absD S) = S.now.map (·.1) by unfold listP; rw [abs_down, if_neg (by rw [hd]; simp), hnames])
    clear hd hl hnames
    go_enter Tryd.func30, Tryd.ntmps30
    go_wp2_with fail
    refine hdown.mono ?_
    rintro e w1 ⟨rfl, hb1⟩
    clear hdown
    have h1 := h.below hb1
    have c0 : w1.cell? ⟨dd, 0, none⟩ = some (.map (some S.bn)) := h1.cell 0
    have hk := keysF_any (some S.bn) w1
    have hso := sortedF_any w1 h1.now (by omega)
    go_wp2_with fail
    refine hk.mono ?_
    rintro e w2 ⟨rfl, rfl⟩
    clear hk
    go_wp2_with fail
    refine hso.mono ?_
    rintro e w3 ⟨v, rfl, hown, hb3⟩
    clear hso
    have HO := Lib.hid hown
    obtain ⟨pv, cv, rfl, k1, k2, _⟩ := hown.shape (n := S.now.length) (by simp)
    clear hown
    go_wp2_with fail
    go_ret
    exact ⟨_, rfl, by rw [HL.out]; exact HO.out.mono hb1.size, hb1.trans (hb3.mono hb1.size)⟩
end Go.Proofs.YtnhfnfdmpcpcoaaDoor

/-
  The plain disk's laws: what every step keeps. No program is in sight here.
-/
namespace Go.Proofs.YtnhfnfdmpcpcoaaDoor

theorem doP_create (A : Pl) (k : BS) : doP A (.create k) = if begP A [k] ≠ 0 then (tickP A, begP A [k]) else if lookN A.now k ≠ none then (tickP A, 91) else ({ chgP A (.put k A.files.length) with files := A.files ++ [([], 0)] }, 0) := rfl
theorem doP_append (A : Pl) (k d : BS) : doP A (.append k d) = if onP A [] k ≠ 0 then (tickP A, onP A [] k) else if 0 < d.length ∧ A.room < usedP A + d.length then (tickP A, 92) else ({ tickP A with files := A.files.modify (atP A k) fun x => (x.1 ++ d, x.2) }, 0) := rfl
theorem doP_sync (A : Pl) (k : BS) : doP A (.sync k) = if onP A [] k ≠ 0 then (tickP A, onP A [] k) else ({ tickP A with files := A.files.modify (atP A k) fun x => (x.1, x.1.length) }, 0) := rfl
theorem doP_names (A : Pl) : doP A .names = if begP A [] ≠ 0 then (tickP A, begP A []) else ({ tickP A with safe := A.now, pend := [] }, 0) := rfl
theorem doP_rename (A : Pl) (a b : BS) : doP A (.rename a b) = if onP A [b] a ≠ 0 then (tickP A, onP A [b] a) else if a = b then (tickP A, 0) else (chgP A (.ren a b (atP A a)), 0) := rfl
theorem doP_remove (A : Pl) (k : BS) : doP A (.remove k) = if onP A [] k ≠ 0 then (tickP A, onP A [] k) else (chgP A (.del k), 0) := rfl

theorem insN_perm (k : BS) (f : Nat) : ∀ M : NM, Rises M → (insN k f M).Perm ((k, f) :: delN k M)
  | [], _ => List.Perm.refl _
  | (m, g) :: M, h => by
    have h' := List.pairwise_cons.1 h
    unfold insN
    by_cases e : m = k
    · subst e
      rw [if_pos rfl]
      have hd : delN m ((m, g) :: M) = M := by
        have h0 := delN_out m M fun x hx e => by
          have := h'.1 x hx
          rw [e] at this
          exact absurd this (List.lt_irrefl _)
        unfold delN at h0 ⊢
        rw [List.filter_cons]
        simp only [ne_eq, not_true, decide_false, Bool.false_eq_true, if_false]
        exact h0
      rw [hd]
    · rw [if_neg e]
      have hd : delN k ((m, g) :: M) = (m, g) :: delN k M := by
        unfold delN
        rw [List.filter_cons]
        simp [e]
      by_cases hlt : k < m
      · rw [if_pos hlt]
        have h0 : delN k ((m, g) :: M) = (m, g) :: M := delN_out k _ fun x hx e2 => by
          rcases List.mem_cons.1 hx with rfl | hx
          · exact e e2
          · have := List.lt_trans hlt (h'.1 x hx)
            rw [e2] at this
            exact absurd this (List.lt_irrefl _)
        rw [h0]
      · rw [if_neg hlt, hd]
        exact ((insN_perm k f M h'.2).cons (m, g)).trans (List.Perm.swap _ _ _)
theorem insN_length (k : BS) (f : Nat) : ∀ M : NM, (insN k f M).length ≤ M.length + 1
  | [] => Nat.le_refl _
  | (m, g) :: M => by
    have := insN_length k f M
    unfold insN
    split
    · simp
    · split
      · simp
      · simp only [List.length_cons]; omega
theorem delN_length (k : BS) (M : NM) : (delN k M).length ≤ M.length := List.length_filter_le _ _
theorem delN_mem {k : BS} {M : NM} {x : BS × Nat} (h : x ∈ delN k M) : x ∈ M ∧ x.1 ≠ k := by
  have := List.mem_filter.1 h
  exact ⟨this.1, by simpa using this.2⟩
theorem lookN_of_mem {M : NM} (hr : Rises M) {k : BS} {f : Nat} (h : (k, f) ∈ M) : lookN M k = some f := by
  induction M with
  | nil => cases h
  | cons x M ih =>
    have h' := List.pairwise_cons.1 hr
    obtain ⟨m, g⟩ := x
    rw [lookN_cons]
    rcases List.mem_cons.1 h with e | e
    · injection e with e1 e2
      rw [if_pos e1.symm, e2]
    · rw [if_neg (fun e2 => by
        have := h'.1 _ e
        simp only [e2] at this
        exact absurd this (List.lt_irrefl _)), ih h'.2 e]

def NoC (P : BS → Prop) : Chg → Prop
  | .put k _ => P k
  | .ren _ k _ => P k
  | .del _ => True
structure Inv (A : Pl) : Prop where
  rnow : Rises A.now
  rsafe : Rises A.safe
  fold : A.pend.foldl (fun M c => applyC c M) A.safe = A.now
  gnow : ∀ x ∈ A.now, badN x.1 = false
  gsafe : ∀ x ∈ A.safe, badN x.1 = false
  gpend : ∀ c ∈ A.pend, NoC (fun k => badN k = false) c
  fnow : ∀ x ∈ A.now, x.2 < A.files.length
  inj : (A.now.map (·.2)).Nodup
  firm : ∀ x ∈ A.files, x.2 ≤ x.1.length

theorem applyC_rises (c : Chg) (M : NM) (h : Rises M) : Rises (applyC c M) := by
  cases c with
  | put k f => exact insN_rises k f M h
  | ren a k f => exact insN_rises k f _ (delN_rises a M h)
  | del k => exact delN_rises k M h
theorem applyC_good {Q : BS → Prop} (c : Chg) (M : NM) (h : ∀ x ∈ M, Q x.1) (hc : NoC Q c) : ∀ x ∈ applyC c M, Q x.1 := by
  intro x hx
  cases c with
  | put k f =>
    rcases insN_mem k f x M hx with e | e
    · rw [e]; exact hc
    · exact h x e
  | ren a k f =>
    rcases insN_mem k f x _ hx with e | e
    · rw [e]; exact hc
    · exact h x (delN_mem e).1
  | del k => exact h x (delN_mem hx).1
theorem applyC_length (c : Chg) (M : NM) : (applyC c M).length ≤ M.length + 1 := by
  cases c with
  | put k f => exact insN_length k f M
  | ren a k f => exact Nat.le_trans (insN_length k f _) (by have := delN_length a M; omega)
  | del k => exact Nat.le_trans (delN_length k M) (by omega)
theorem fold_rises : ∀ (C : List Chg) (M : NM), Rises M → Rises (C.foldl (fun M c => applyC c M) M)
  | [], _, h => h
  | c :: C, M, h => fold_rises C _ (applyC_rises c M h)
theorem fold_good {Q : BS → Prop} : ∀ (C : List Chg) (M : NM), (∀ x ∈ M, Q x.1) → (∀ c ∈ C, NoC Q c) → ∀ x ∈ C.foldl (fun M c => applyC c M) M, Q x.1
  | [], _, h, _ => h
  | c :: C, M, h, hc => fold_good C _ (applyC_good c M h (hc c (List.mem_cons_self ..))) fun d hd => hc d (List.mem_cons_of_mem _ hd)
theorem fold_length : ∀ (C : List Chg) (M : NM), (C.foldl (fun M c => applyC c M) M).length ≤ M.length + C.length
  | [], _ => Nat.le_refl _
  | c :: C, M => by
    have h1 := fold_length C (applyC c M)
    have h2 := applyC_length c M
    simp only [List.foldl_cons, List.length_cons]
    omega
theorem leftN_rises {A : Pl} (h : Inv A) (n : Int) : Rises (leftNP A n) := fold_rises _ _ h.rsafe
theorem leftN_good {A : Pl} (h : Inv A) (n : Int) : ∀ x ∈ leftNP A n, badN x.1 = false :=
  fold_good (Q := fun k => badN k = false) _ _ h.gsafe fun c hc => h.gpend c (List.mem_of_mem_take hc)

theorem nodup_ins {k : BS} {f : Nat} {M : NM} (h : Rises M) (hn : ((delN k M).map (·.2)).Nodup) (hf : f ∉ (delN k M).map (·.2)) : ((insN k f M).map (·.2)).Nodup :=
  (((insN_perm k f M h).map (·.2)).nodup_iff).2 (by rw [List.map_cons, List.nodup_cons]; exact ⟨hf, hn⟩)
theorem nodup_del {k : BS} {M : NM} (h : (M.map (·.2)).Nodup) : ((delN k M).map (·.2)).Nodup := List.Nodup.sublist (List.Sublist.map _ List.filter_sublist) h
theorem inj_eq {M : NM} (h : (M.map (·.2)).Nodup) {a b : BS} {f : Nat} (ha : (a, f) ∈ M) (hb : (b, f) ∈ M) : a = b := by
  induction M with
  | nil => cases ha
  | cons x M ih =>
    rw [List.map_cons, List.nodup_cons] at h
    rcases List.mem_cons.1 ha with e1 | e1
    · rcases List.mem_cons.1 hb with e2 | e2
      · rw [← e1] at e2; injection e2 with e2 _; exact e2.symm
      · exact absurd (List.mem_map.2 ⟨_, e2, by rw [← e1]⟩) h.1
    · rcases List.mem_cons.1 hb with e2 | e2
      · exact absurd (List.mem_map.2 ⟨_, e1, by rw [← e2]⟩) h.1
      · exact ih h.2 e1 e2

theorem inv_tick {A : Pl} (h : Inv A) : Inv (tickP A) := by
  unfold tickP
  split
  · exact h
  · exact ⟨h.rnow, h.rsafe, h.fold, h.gnow, h.gsafe, h.gpend, h.fnow, h.inj, h.firm⟩
theorem inv_files {A : Pl} (h : Inv A) {F : List (BS × Nat)} (hl : F.length = A.files.length) (hf : ∀ x ∈ F, x.2 ≤ x.1.length) : Inv { A with files := F } :=
  ⟨h.rnow, h.rsafe, h.fold, h.gnow, h.gsafe, h.gpend, fun x hx => by show x.2 < F.length; rw [hl]; exact h.fnow x hx, h.inj, hf⟩
theorem modify_all {α : Type} {P : α → Prop} {u : α → α} (hu : ∀ x, P x → P (u x)) : ∀ (l : List α) (i : Nat), (∀ x ∈ l, P x) → ∀ x ∈ l.modify i u, P x := by
  intro l i h x hx
  obtain ⟨j, hj, e⟩ := List.getElem_of_mem hx
  rw [List.length_modify] at hj
  rw [List.getElem_modify] at e
  split at e
  · rw [← e]; exact hu _ (h _ (List.getElem_mem _))
  · rw [← e]; exact h _ (List.getElem_mem _)
theorem inv_chg {A : Pl} (h : Inv A) (c : Chg) (hg : NoC (fun k => badN k = false) c) (hf : ∀ x ∈ applyC c A.now, x.2 < A.files.length) (hi : ((applyC c A.now).map (·.2)).Nodup) : Inv (chgP A c) := by
  have ht := tick_rest A
  unfold chgP
  refine ⟨applyC_rises c _ h.rnow, by show Rises (tickP A).safe; rw [ht.2.2.2.1]; exact h.rsafe, ?_, applyC_good (Q := fun k => badN k = false) c _ h.gnow hg, by show ∀ x ∈ (tickP A).safe, _; rw [ht.2.2.2.1]; exact h.gsafe, ?_, by show ∀ x ∈ applyC c A.now, x.2 < (tickP A).files.length; rw [ht.2.2.1]; exact hf, hi, by show ∀ x ∈ (tickP A).files, _; rw [ht.2.2.1]; exact h.firm⟩
  · show (A.pend ++ [c]).foldl _ (tickP A).safe = _
    rw [ht.2.2.2.1, List.foldl_append, h.fold]
    rfl
  · intro d hd
    rcases List.mem_append.1 hd with e | e
    · exact h.gpend d e
    · rw [List.mem_singleton.1 e]; exact hg
theorem begP_good {A : Pl} {L : List BS} (h : begP A L = 0) : ∀ k ∈ L, badN k = false := by
  unfold begP at h
  split at h
  · cases h
  · split at h
    · cases h
    · split at h
      · cases h
      · rename_i h3
        intro k hk
        have : ¬ badN k = true := fun e => h3 (List.any_eq_true.2 ⟨k, hk, e⟩)
        simpa using this
theorem onP_zero {A : Pl} {L : List BS} {k : BS} (h : onP A L k = 0) : begP A (L ++ [k]) = 0 ∧ lookN A.now k = some (atP A k) ∧ (k, atP A k) ∈ A.now := by
  unfold onP at h
  split at h
  · rename_i h1; exact absurd h h1
  · rename_i h1
    split at h
    · cases h
    · rename_i h2
      have h1 : begP A (L ++ [k]) = 0 := by simpa using h1
      obtain ⟨f, hf⟩ := Option.ne_none_iff_exists'.1 h2
      have e : atP A k = f := by unfold atP; rw [hf]; rfl
      rw [e]
      exact ⟨h1, hf, lookN_mem _ _ _ hf⟩
/-- every step keeps the laws -/
theorem inv_do {A : Pl} (h : Inv A) (o : Opp) : Inv (doP A o).1 := by
  have ht := tick_rest A
  cases o with
  | create k =>
    rw [doP_create]
    split
    · exact inv_tick h
    · rename_i h1
      have h1 : begP A [k] = 0 := by simpa using h1
      split
      · exact inv_tick h
      · rename_i h2
        have h2 : lookN A.now k = none := by simpa using h2
        have hd : delN k A.now = A.now := delN_out k _ fun x hx e => by
          have := lookN_of_mem h.rnow (k := x.1) (f := x.2) hx
          rw [e, h2] at this; cases this
        have hg := begP_good h1 k (by simp)
        have hlt : ∀ x ∈ insN k A.files.length A.now, x.2 < A.files.length + 1 := fun x hx => by
          rcases insN_mem _ _ x _ hx with e | e
          · rw [e]; exact Nat.lt_succ_self _
          · exact Nat.lt_succ_of_lt (h.fnow x e)
        have hi : ((insN k A.files.length A.now).map (·.2)).Nodup := nodup_ins h.rnow (by rw [hd]; exact h.inj) (by
          rw [hd]
          intro e
          obtain ⟨x, hx, e⟩ := List.mem_map.1 e
          have := h.fnow x hx
          omega)
        have hc := inv_chg (A := { A with files := A.files ++ [([], 0)] }) ⟨h.rnow, h.rsafe, h.fold, h.gnow, h.gsafe, h.gpend, fun x hx => by show x.2 < (A.files ++ [([], 0)]).length; rw [List.length_append]; exact Nat.lt_succ_of_lt (h.fnow x hx), h.inj, fun x hx => by
          rcases List.mem_append.1 hx with e | e
          · exact h.firm x e
          · rw [List.mem_singleton.1 e]; exact Nat.le_refl _⟩ (.put k A.files.length) hg (by show ∀ x ∈ insN k A.files.length A.now, x.2 < (A.files ++ [([], 0)]).length; rw [List.length_append]; exact hlt) hi
        have e : ({ chgP A (.put k A.files.length) with files := A.files ++ [([], 0)] } : Pl) = chgP { A with files := A.files ++ [([], 0)] } (.put k A.files.length) := by
          unfold chgP tickP
          show _ = Pl.mk _ _ _ _ _ _ _ _
          have : downP { A with files := A.files ++ [([], 0)] } = downP A := rfl
          rw [this]
          split <;> rfl
        show Inv { chgP A (.put k A.files.length) with files := A.files ++ [([], 0)] }
        rw [e]
        exact hc
  | append k d =>
    rw [doP_append]
    split
    · exact inv_tick h
    · split
      · exact inv_tick h
      · refine inv_files (inv_tick h) (by rw [List.length_modify, ht.2.2.1]) ?_
        exact modify_all (P := fun x : BS × Nat => x.2 ≤ x.1.length) (fun x hx => by simp only [List.length_append]; omega) _ _ h.firm
  | sync k =>
    rw [doP_sync]
    split
    · exact inv_tick h
    · refine inv_files (inv_tick h) (by rw [List.length_modify, ht.2.2.1]) ?_
      exact modify_all (P := fun x : BS × Nat => x.2 ≤ x.1.length) (fun x _ => Nat.le_refl _) _ _ h.firm
  | names =>
    rw [doP_names]
    split
    · exact inv_tick h
    · have := inv_tick h
      refine ⟨this.rnow, h.rnow, ?_, this.gnow, h.gnow, (fun c hc => by cases hc), this.fnow, this.inj, this.firm⟩
      show A.now = (tickP A).now
      rw [ht.1]
  | rename a b =>
    rw [doP_rename]
    split
    · exact inv_tick h
    · rename_i h1
      have h1 : onP A [b] a = 0 := by simpa using h1
      obtain ⟨h2, h3, h4⟩ := onP_zero h1
      split
      · exact inv_tick h
      · have hr := delN_rises a _ h.rnow
        refine inv_chg h (.ren a b (atP A a)) (begP_good h2 b (by simp)) (fun x hx => ?_) (nodup_ins hr (nodup_del (nodup_del h.inj)) fun e => ?_)
        · rcases insN_mem _ _ x _ hx with e | e
          · rw [e]; show atP A a < _; exact h.fnow _ h4
          · exact h.fnow x (delN_mem e).1
        · obtain ⟨x, hx, e⟩ := List.mem_map.1 e
          have m1 := (delN_mem hx).1
          have m2 := delN_mem m1
          obtain ⟨y, z⟩ := x
          simp only at e
          subst e
          exact m2.2 (inj_eq h.inj m2.1 h4)
  | remove k =>
    rw [doP_remove]
    split
    · exact inv_tick h
    · exact inv_chg h (.del k) trivial (fun x hx => h.fnow x (delN_mem hx).1) (nodup_del h.inj)

/-- an error changes nothing but the count -/
theorem do_err {A : Pl} (o : Opp) (h : (doP A o).2 ≠ 0) : (doP A o).1 = tickP A := by
  cases o with
  | create k => rw [doP_create] at h ⊢; (repeat' split at h) <;> simp_all
  | append k d => rw [doP_append] at h ⊢; (repeat' split at h) <;> simp_all
  | sync k => rw [doP_sync] at h ⊢; (repeat' split at h) <;> simp_all
  | names => rw [doP_names] at h ⊢; (repeat' split at h) <;> simp_all
  | rename a b => rw [doP_rename] at h ⊢; (repeat' split at h) <;> simp_all
  | remove k => rw [doP_remove] at h ⊢; (repeat' split at h) <;> simp_all
end Go.Proofs.YtnhfnfdmpcpcoaaDoor

/-
  The plain disk's sizes, and the bytes that are used. No program is in sight here.
-/
namespace Go.Proofs.YtnhfnfdmpcpcoaaDoor

theorem sum_perm {α : Type} (f : α → Nat) {L M : List α} (h : L.Perm M) : (L.map f).sum = (M.map f).sum := by
  induction h with
  | nil => rfl
  | cons x _ ih => simp only [List.map_cons, List.sum_cons, ih]
  | swap x y l => simp only [List.map_cons, List.sum_cons]; omega
  | trans _ _ h1 h2 => exact h1.trans h2
theorem sum_sub {α : Type} (f : α → Nat) {L M : List α} (h : L.Sublist M) : (L.map f).sum ≤ (M.map f).sum := by
  induction h with
  | slnil => exact Nat.le_refl _
  | cons x _ ih => simp only [List.map_cons, List.sum_cons]; omega
  | cons_cons x _ ih => simp only [List.map_cons, List.sum_cons]; omega
theorem sum_same (f g : Nat → Nat) (i : Nat) (ho : ∀ j, j ≠ i → g j = f j) : ∀ M : NM, i ∉ M.map (·.2) → (M.map fun x => g x.2).sum = (M.map fun x => f x.2).sum
  | [], _ => rfl
  | x :: M, h => by
    rw [List.map_cons, List.mem_cons, not_or] at h
    simp only [List.map_cons, List.sum_cons]
    rw [sum_same f g i ho M h.2, ho x.2 (fun e => h.1 e.symm)]
theorem sum_one (f g : Nat → Nat) (i d : Nat) (hi : g i ≤ f i + d) (ho : ∀ j, j ≠ i → g j = f j) : ∀ M : NM, (M.map (·.2)).Nodup → (M.map fun x => g x.2).sum ≤ (M.map fun x => f x.2).sum + d
  | [], _ => Nat.zero_le _
  | x :: M, h => by
    rw [List.map_cons, List.nodup_cons] at h
    simp only [List.map_cons, List.sum_cons]
    by_cases e : x.2 = i
    · rw [sum_same f g i ho M (by rw [← e]; exact h.1), e]; omega
    · have := sum_one f g i d hi ho M h.2
      rw [ho x.2 e]; omega
def lenF (F : List (BS × Nat)) (i : Nat) : Nat := ((F[i]?.map (·.1)).getD []).length
theorem usedP_eq (A : Pl) : usedP A = (A.now.map fun x => lenF A.files x.2).sum := rfl
theorem lenF_modify {F : List (BS × Nat)} {i : Nat} {u : BS × Nat → BS × Nat} {d : Nat} (hu : ∀ x, (u x).1.length = x.1.length + d) : lenF (F.modify i u) i ≤ lenF F i + d ∧ ∀ j, j ≠ i → lenF (F.modify i u) j = lenF F j := by
  unfold lenF
  constructor
  · rw [List.getElem?_modify]
    cases F[i]? with
    | none => simp
    | some x => simp [hu x]
  · intro j hj
    have hj' : ¬ i = j := fun e => hj e.symm
    rw [List.getElem?_modify]
    simp only [hj', if_false]
    cases F[j]? <;> rfl
theorem lenF_add (F : List (BS × Nat)) (i : Nat) : lenF (F ++ [([], 0)]) i = lenF F i := by
  unfold lenF
  by_cases h : i < F.length
  · rw [List.getElem?_append_left h]
  · rw [List.getElem?_append_right (by omega), List.getElem?_eq_none (by omega : F.length ≤ i)]
    cases i - F.length <;> rfl
theorem lenF_out (F : List (BS × Nat)) (i : Nat) (h : F.length ≤ i) : lenF F i = 0 := by
  unfold lenF; rw [List.getElem?_eq_none h]; rfl
theorem insN_same {M : NM} (h : Rises M) {k : BS} {f : Nat} (hk : (k, f) ∈ M) : insN k f M = M :=
  nm_ext _ _ (insN_rises k f M h) h fun j => by
    by_cases e : j = k
    · subst e; rw [lookN_ins_same, lookN_of_mem h hk]
    · rw [lookN_ins_other k j f e]
theorem sum_del {M : NM} (f : BS × Nat → Nat) (h : Rises M) {k : BS} {i : Nat} (hk : (k, i) ∈ M) : (M.map f).sum = f (k, i) + ((delN k M).map f).sum := by
  have := sum_perm f (insN_perm k i M h)
  rw [insN_same h hk] at this
  rw [this, List.map_cons, List.sum_cons]
/-- a step's bytes: no more than before, or no more than there is room for -/
theorem used_do {A : Pl} (h : Inv A) (o : Opp) : usedP (doP A o).1 ≤ usedP A ∨ usedP (doP A o).1 ≤ A.room := by
  have ht := tick_rest A
  have hu : usedP (tickP A) = usedP A := by rw [usedP_eq, usedP_eq, ht.1, ht.2.2.1]
  cases o with
  | create k =>
    rw [doP_create]
    split
    · exact .inl (Nat.le_of_eq hu)
    · split
      · exact .inl (Nat.le_of_eq hu)
      · left
        show ((insN k A.files.length A.now).map fun x => lenF (A.files ++ [([], 0)]) x.2).sum ≤ _
        rw [show (fun x : BS × Nat => lenF (A.files ++ [([], 0)]) x.2) = fun x => lenF A.files x.2 from funext fun x => lenF_add _ _]
        rw [sum_perm _ (insN_perm k A.files.length A.now h.rnow), List.map_cons, List.sum_cons, lenF_out _ _ (Nat.le_refl _), usedP_eq, Nat.zero_add]
        exact sum_sub _ List.filter_sublist
  | append k d =>
    rw [doP_append]
    split
    · exact .inl (Nat.le_of_eq hu)
    · split
      · exact .inl (Nat.le_of_eq hu)
      · rename_i h2
        have hm := lenF_modify (F := A.files) (i := atP A k) (u := fun x => (x.1 ++ d, x.2)) (d := d.length) (fun x => List.length_append ..)
        have := sum_one _ _ _ d.length hm.1 hm.2 A.now h.inj
        rw [← usedP_eq] at this
        have e : usedP { tickP A with files := A.files.modify (atP A k) fun x => (x.1 ++ d, x.2) } = (A.now.map fun x => lenF (A.files.modify (atP A k) fun x => (x.1 ++ d, x.2)) x.2).sum := by rw [usedP_eq]; show ((tickP A).now.map _).sum = _; rw [ht.1]
        rw [e]
        by_cases h0 : 0 < d.length
        · right
          have : ¬ A.room < usedP A + d.length := fun e => h2 ⟨h0, e⟩
          omega
        · left; omega
  | sync k =>
    rw [doP_sync]
    split
    · exact .inl (Nat.le_of_eq hu)
    · left
      have hm := lenF_modify (F := A.files) (i := atP A k) (u := fun x => (x.1, x.1.length)) (d := 0) (fun x => rfl)
      have := sum_one _ _ _ 0 hm.1 hm.2 A.now h.inj
      rw [← usedP_eq] at this
      have e : usedP { tickP A with files := A.files.modify (atP A k) fun x => (x.1, x.1.length) } = (A.now.map fun x => lenF (A.files.modify (atP A k) fun x => (x.1, x.1.length)) x.2).sum := by rw [usedP_eq]; show ((tickP A).now.map _).sum = _; rw [ht.1]
      rw [e]
      exact this
  | names =>
    rw [doP_names]
    split
    · exact .inl (Nat.le_of_eq hu)
    · exact .inl (Nat.le_of_eq hu)
  | rename a b =>
    rw [doP_rename]
    split
    · exact .inl (Nat.le_of_eq hu)
    · rename_i h1
      have h1 : onP A [b] a = 0 := by simpa using h1
      obtain ⟨h2, h3, h4⟩ := onP_zero h1
      split
      · exact .inl (Nat.le_of_eq hu)
      · left
        have e : usedP (chgP A (.ren a b (atP A a))) = ((insN b (atP A a) (delN a A.now)).map fun x => lenF A.files x.2).sum := by
          rw [usedP_eq]; rw [show ∀ c, (chgP A c).files = A.files from fun c => ht.2.2.1]; rfl
        rw [e, sum_perm _ (insN_perm b _ _ (delN_rises a _ h.rnow)), List.map_cons, List.sum_cons, usedP_eq, sum_del _ h.rnow h4]
        have := sum_sub (fun x : BS × Nat => lenF A.files x.2) (List.filter_sublist (p := fun x : BS × Nat => decide (x.1 ≠ b)) (l := delN a A.now))
        exact Nat.add_le_add_left this _
  | remove k =>
    rw [doP_remove]
    split
    · exact .inl (Nat.le_of_eq hu)
    · left
      have e : usedP (chgP A (.del k)) = ((delN k A.now).map fun x => lenF A.files x.2).sum := by
        rw [usedP_eq]; rw [show ∀ c, (chgP A c).files = A.files from fun c => ht.2.2.1]; rfl
      rw [e, usedP_eq]
      exact sum_sub _ List.filter_sublist

theorem do_rest (A : Pl) (o : Opp) : (doP A o).1.room = A.room ∧ (doP A o).1.fails = A.fails ∧ (doP A o).1.power = A.power := by
  have ht := tick_rest A
  have e : ∀ c, (chgP A c).room = A.room ∧ (chgP A c).fails = A.fails ∧ (chgP A c).power = A.power := fun c => ⟨ht.2.2.2.2.1, ht.2.2.2.2.2.1, ht.2.2.2.2.2.2⟩
  have e0 : (tickP A).room = A.room ∧ (tickP A).fails = A.fails ∧ (tickP A).power = A.power := ⟨ht.2.2.2.2.1, ht.2.2.2.2.2.1, ht.2.2.2.2.2.2⟩
  cases o with
  | create k => rw [doP_create]; (repeat' split) <;> first | exact e0 | exact e _
  | append k d => rw [doP_append]; (repeat' split) <;> first | exact e0 | exact e _
  | sync k => rw [doP_sync]; (repeat' split) <;> first | exact e0 | exact e _
  | names => rw [doP_names]; (repeat' split) <;> first | exact e0 | exact e _
  | rename a b => rw [doP_rename]; (repeat' split) <;> first | exact e0 | exact e _
  | remove k => rw [doP_remove]; (repeat' split) <;> first | exact e0 | exact e _
structure FitN (A : Pl) (n : Nat) : Prop where
  steps : A.steps ≤ n
  pend : A.pend.length ≤ n
  now : A.now.length ≤ 3518437208780 + n
  safe : A.safe.length ≤ 3518437208780 + n
  files : A.files.length ≤ 3518437208780 + n
  fails : A.fails.length ≤ 17592186043904
  used : usedP A ≤ 140737488351232 ∨ usedP A ≤ A.room
  room : A.room ≤ 1073741824
theorem FitN.fit {A : Pl} {n : Nat} (h : FitN A n) (hn : n ≤ 1000000) : FitP A :=
  ⟨by have := h.steps; omega, by have := h.pend; omega, by have := h.now; omega, by have := h.safe; omega, by have := h.files; omega, by have := h.fails; omega, by have := h.room; rcases h.used with h | h <;> omega, h.room⟩
theorem tick_steps (A : Pl) : (tickP A).steps ≤ A.steps + 1 := by
  unfold tickP
  split
  · exact Nat.le_succ _
  · exact Nat.le_refl _
theorem fit_do {n : Nat} {A : Pl} (h : Inv A) (hf : FitN A n) (o : Opp) : FitN (doP A o).1 (n + 1) := by
  have ht := tick_rest A
  have hr := do_rest A o
  have hs := tick_steps A
  obtain ⟨f1, f2, f3, f4, f5, f6, f7, f8⟩ := hf
  have sh : (doP A o).1.steps ≤ A.steps + 1 ∧ (doP A o).1.pend.length ≤ A.pend.length + 1 ∧ (doP A o).1.now.length ≤ A.now.length + 1 ∧ ((doP A o).1.safe.length ≤ A.safe.length ∨ (doP A o).1.safe.length ≤ A.now.length) ∧ (doP A o).1.files.length ≤ A.files.length + 1 := by
    have e0 : (tickP A).steps ≤ A.steps + 1 ∧ (tickP A).pend.length ≤ A.pend.length + 1 ∧ (tickP A).now.length ≤ A.now.length + 1 ∧ ((tickP A).safe.length ≤ A.safe.length ∨ (tickP A).safe.length ≤ A.now.length) ∧ (tickP A).files.length ≤ A.files.length + 1 := by
      rw [ht.1, ht.2.1, ht.2.2.1, ht.2.2.2.1]
      exact ⟨hs, by omega, by omega, .inl (Nat.le_refl _), by omega⟩
    have e1 : ∀ c, (chgP A c).steps ≤ A.steps + 1 ∧ (chgP A c).pend.length ≤ A.pend.length + 1 ∧ (chgP A c).now.length ≤ A.now.length + 1 ∧ ((chgP A c).safe.length ≤ A.safe.length ∨ (chgP A c).safe.length ≤ A.now.length) ∧ (chgP A c).files.length ≤ A.files.length + 1 := by
      intro c
      refine ⟨hs, ?_, applyC_length c _, .inl (by show (tickP A).safe.length ≤ _; rw [ht.2.2.2.1]; exact Nat.le_refl _), by show (tickP A).files.length ≤ _; rw [ht.2.2.1]; omega⟩
      show (A.pend ++ [c]).length ≤ _
      simp
    cases o with
    | create k =>
      rw [doP_create]
      repeat' split
      · exact e0
      · exact e0
      · obtain ⟨a, b, c, d, e⟩ := e1 (.put k A.files.length)
        exact ⟨a, b, c, d, by simp⟩
    | append k d =>
      rw [doP_append]
      repeat' split
      · exact e0
      · exact e0
      · obtain ⟨a, b, c, d, e⟩ := e0
        exact ⟨a, b, c, d, by simp⟩
    | sync k =>
      rw [doP_sync]
      repeat' split
      · exact e0
      · obtain ⟨a, b, c, d, e⟩ := e0
        exact ⟨a, b, c, d, by simp⟩
    | names =>
      rw [doP_names]
      repeat' split
      · exact e0
      · obtain ⟨a, b, c, d, e⟩ := e0
        exact ⟨a, by simp, c, .inr (Nat.le_refl _), e⟩
    | rename a b =>
      rw [doP_rename]
      repeat' split
      · exact e0
      · exact e0
      · exact e1 _
    | remove k =>
      rw [doP_remove]
      repeat' split
      · exact e0
      · exact e1 _
  obtain ⟨s1, s2, s3, s4, s5⟩ := sh
  refine ⟨by omega, by omega, by omega, by omega, by omega, by rw [hr.2.1]; exact f6, ?_, by rw [hr.1]; exact f8⟩
  rw [hr.1]
  rcases used_do h o with h1 | h1
  · rcases f7 with f7 | f7
    · exact .inl (Nat.le_trans h1 f7)
    · exact .inr (Nat.le_trans h1 f7)
  · exact .inr h1
theorem lenF_used {A : Pl} {x : BS × Nat} (h : x ∈ A.now) : lenF A.files x.2 ≤ usedP A := by
  rw [usedP_eq]
  obtain ⟨s, t, e⟩ := List.append_of_mem h
  rw [e, List.map_append, List.sum_append, List.map_cons, List.sum_cons]
  omega
/-- no file is longer than memory -/
def DatN (A : Pl) : Prop := ∀ f ∈ A.files, f.1.length ≤ 140737488351232
theorem dat_do {A : Pl} (hd : DatN A) (hr : A.room ≤ 1073741824) (o : Opp) : DatN (doP A o).1 := by
  have ht := tick_rest A
  have e0 : DatN (tickP A) := by unfold DatN; rw [ht.2.2.1]; exact hd
  have e1 : ∀ c, DatN (chgP A c) := fun c => by show ∀ f ∈ (tickP A).files, _; rw [ht.2.2.1]; exact hd
  cases o with
  | create k =>
    rw [doP_create]
    (repeat' split) <;> first | exact e0 | skip
    intro f hf
    rcases List.mem_append.1 hf with e | e
    · exact hd f e
    · rw [List.mem_singleton.1 e]; exact Nat.zero_le _
  | append k d =>
    rw [doP_append]
    split
    · exact e0
    · rename_i h1
      split
      · exact e0
      · rename_i h2
        obtain ⟨_, _, g3⟩ := onP_zero (by simpa using h1)
        have hu : lenF A.files (atP A k) ≤ usedP A := lenF_used g3
        intro f hf
        have hf : f ∈ A.files.modify (atP A k) fun x => (x.1 ++ d, x.2) := hf
        obtain ⟨i, hi, e⟩ := List.getElem_of_mem hf
        rw [List.length_modify] at hi
        rw [List.getElem_modify] at e
        split at e
        · rename_i e2
          subst e2
          have : lenF A.files (atP A k) = A.files[atP A k].1.length := by unfold lenF; rw [List.getElem?_eq_getElem hi]; rfl
          rw [← e]
          simp only [List.length_append]
          rcases Nat.eq_zero_or_pos d.length with h0 | h0
          · have := hd _ (List.getElem_mem hi); omega
          · have : ¬ A.room < usedP A + d.length := fun e => h2 ⟨h0, e⟩
            omega
        · rw [← e]; exact hd _ (List.getElem_mem hi)
  | sync k =>
    rw [doP_sync]
    split
    · exact e0
    · exact modify_all (P := fun x : BS × Nat => x.1.length ≤ 140737488351232) (u := fun x : BS × Nat => (x.1, x.1.length)) (fun x hx => hx) _ _ hd
  | names =>
    rw [doP_names]
    split
    · exact e0
    · exact e0
  | rename a b =>
    rw [doP_rename]
    (repeat' split) <;> first | exact e0 | exact e1 _
  | remove k =>
    rw [doP_remove]
    (repeat' split) <;> first | exact e0 | exact e1 _
end Go.Proofs.YtnhfnfdmpcpcoaaDoor

/-
  The plain disk's beginning, and the laws without the document's answer. No program is in sight here.
-/
namespace Go.Proofs.YtnhfnfdmpcpcoaaDoor

def numF : Nat → List (BS × BS) → NM
  | _, [] => []
  | i, f :: F => (f.1, i) :: numF (i + 1) F
theorem numF_get : ∀ (F : List (BS × BS)) (j i : Nat), (numF j F)[i]? = (F[i]?).map fun f => (f.1, j + i)
  | [], _, _ => by simp [numF]
  | f :: F, j, 0 => by simp [numF]
  | f :: F, j, i + 1 => by
    unfold numF
    rw [List.getElem?_cons_succ, List.getElem?_cons_succ, numF_get F (j + 1) i]
    have e : j + 1 + i = j + (i + 1) := by omega
    rw [e]
theorem numF_length : ∀ (F : List (BS × BS)) (j : Nat), (numF j F).length = F.length
  | [], _ => rfl
  | f :: F, j => by unfold numF; rw [List.length_cons, List.length_cons, numF_length F]
theorem numF_snoc (f : BS × BS) : ∀ (F : List (BS × BS)) (j : Nat), numF j (F ++ [f]) = numF j F ++ [(f.1, j + F.length)]
  | [], j => rfl
  | g :: F, j => by
    rw [List.cons_append]
    unfold numF
    rw [numF_snoc f F (j + 1), List.cons_append, List.length_cons]
    have e : j + 1 + F.length = j + (F.length + 1) := by omega
    rw [e]
theorem numF_names : ∀ (F : List (BS × BS)) (j : Nat), (numF j F).map (·.1) = F.map (·.1)
  | [], _ => rfl
  | f :: F, j => by unfold numF; rw [List.map_cons, List.map_cons, numF_names F]
theorem numF_nums : ∀ (F : List (BS × BS)) (j : Nat), (numF j F).map (·.2) = List.range' j F.length
  | [], _ => rfl
  | f :: F, j => by unfold numF; rw [List.map_cons, List.length_cons, List.range'_succ, numF_nums F]
def okF (F : List (BS × BS)) : Prop := (∀ f ∈ F, badN f.1 = false) ∧ F.Pairwise fun f g => f.1 < g.1
open Classical in
noncomputable def newE (F : List (BS × BS)) (room : Int) : Int := if room < 0 ∨ 1073741824 < room then 131 else if okF F then 0 else 95
def newP (F : List (BS × BS)) (room : Int) (fails : List Int) (power : Int) : Pl where
  now := numF 0 F
  safe := numF 0 F
  pend := []
  files := F.map fun f => (f.2, f.2.length)
  room := room.toNat
  fails := fails
  power := power
  steps := 0
theorem newE_zero {F : List (BS × BS)} {room : Int} (h : newE F room = 0) : okF F ∧ 0 ≤ room ∧ room ≤ 1073741824 := by
  unfold newE at h
  split at h
  · cases h
  · rename_i h1
    split at h
    · rename_i h2; exact ⟨h2, by omega, by omega⟩
    · cases h
theorem numF_rises {F : List (BS × BS)} (h : okF F) (j : Nat) : Rises (numF j F) := by
  have h2 := h.2
  unfold Rises
  have e : (numF j F).Pairwise (fun p q => p.1 < q.1) ↔ ((numF j F).map (·.1)).Pairwise (· < ·) := List.pairwise_map.symm
  rw [e, numF_names]
  exact List.pairwise_map.2 h2
theorem numF_mem {F : List (BS × BS)} {x : BS × Nat} (h : x ∈ numF 0 F) : ∃ f, F[x.2]? = some f ∧ x.1 = f.1 := by
  obtain ⟨i, hi, e⟩ := List.getElem_of_mem h
  have := numF_get F 0 i
  rw [List.getElem?_eq_getElem hi, e] at this
  cases hf : F[i]? with
  | none => rw [hf] at this; cases this
  | some f =>
    rw [hf] at this
    simp only [Option.map_some, Option.some.injEq] at this
    subst this
    exact ⟨f, by simpa using hf, rfl⟩
theorem inv_new {F : List (BS × BS)} (h : okF F) (room : Int) (fails : List Int) (power : Int) : Inv (newP F room fails power) := by
  have hg : ∀ x ∈ numF 0 F, badN x.1 = false := fun x hx => by
    obtain ⟨f, hf, e⟩ := numF_mem hx
    rw [e]; exact h.1 f (List.mem_of_getElem? hf)
  refine ⟨numF_rises h 0, numF_rises h 0, rfl, hg, hg, (fun c hc => by cases hc), fun x hx => ?_, ?_, fun x hx => ?_⟩
  · obtain ⟨f, hf, _⟩ := numF_mem hx
    have := (List.getElem?_eq_some_iff.1 hf).1
    show x.2 < (F.map _).length
    simpa using this
  · show ((numF 0 F).map (·.2)).Nodup
    rw [numF_nums]
    exact List.nodup_range'
  · obtain ⟨f, _, e⟩ := List.mem_map.1 hx
    rw [← e]; exact Nat.le_refl _
theorem used_numF (G : List (BS × Nat)) : ∀ (F : List (BS × BS)) (j : Nat), (∀ i f, F[i]? = some f → lenF G (j + i) = f.2.length) → ((numF j F).map fun x => lenF G x.2).sum = (F.map fun f => f.2.length).sum
  | [], _, _ => rfl
  | f :: F, j, h => by
    unfold numF
    have h0 := h 0 f rfl
    simp only [List.map_cons, List.sum_cons]
    rw [used_numF G F (j + 1) fun i g hg => by
      have := h (i + 1) g (by rw [List.getElem?_cons_succ]; exact hg)
      rw [← this]; congr 1; omega]
    rw [Nat.add_zero] at h0
    rw [h0]
theorem used_new (F : List (BS × BS)) (room : Int) (fails : List Int) (power : Int) : usedP (newP F room fails power) = (F.map fun f => f.2.length).sum := by
  rw [usedP_eq]
  exact used_numF _ F 0 fun i f hf => by
    unfold lenF newP
    rw [List.getElem?_map, Nat.zero_add, hf]; rfl
theorem fit_new {F : List (BS × BS)} {room : Int} {fails : List Int} (power : Int) (hr : room ≤ 1073741824) (hl : F.length ≤ 3518437208780) (hs : (F.map fun f => f.2.length).sum ≤ 140737488351232) (hf : fails.length ≤ 17592186043904) : FitN (newP F room fails power) 0 := by
  refine ⟨Nat.le_refl _, Nat.le_refl _, ?_, ?_, ?_, hf, .inl (by rw [used_new]; exact hs), ?_⟩
  · show (numF 0 F).length ≤ _; rw [numF_length]; exact hl
  · show (numF 0 F).length ≤ _; rw [numF_length]; exact hl
  · show (F.map _).length ≤ _; rw [List.length_map]; exact hl
  · show room.toNat ≤ _; omega
/-- what a disk of files leaves at once: the files -/
theorem left_new (F : List (BS × BS)) (room : Int) (fails : List Int) (power n : Int) (keep : List Int) : leftP (newP F room fails power) n keep = F := by
  unfold leftP
  have e : leftNP (newP F room fails power) n = numF 0 F := by
    unfold leftNP newP
    simp
  rw [e]
  apply List.ext_getElem?
  intro i
  rw [List.getElem?_map, numF_get]
  cases hf : F[i]? with
  | none => rfl
  | some f =>
    simp only [Option.map_some]
    unfold leftDP datP firmP newP
    simp only [List.getElem?_map, Nat.zero_add, hf, Option.map_some, Option.getD_some]
    rw [List.take_of_length_le (by omega)]
theorem leftP_names (A : Pl) (n : Int) (keep : List Int) : (leftP A n keep).map (·.1) = (leftNP A n).map (·.1) := by
  unfold leftP
  rw [List.map_map]
  rfl
theorem left_ok {A : Pl} (h : Inv A) (n : Int) (keep : List Int) : okF (leftP A n keep) := by
  refine ⟨fun f hf => ?_, ?_⟩
  · obtain ⟨x, hx, e⟩ := List.mem_map.1 hf
    rw [← e]
    exact leftN_good h n x hx
  · unfold leftP
    exact List.pairwise_map.2 (leftN_rises h n)

/-- what a Sync and a SyncNames have made safe -/
structure SafeI (k : BS) (i : Nat) (held : BS) (B : Pl) : Prop where
  inv : Inv B
  look : lookN B.now k = some i
  safe : lookN B.safe k = some i
  pend : ∀ c ∈ B.pend, ∃ j f, c = .put j f ∧ j ≠ k
  firm : firmP B i = held.length
  held : held <+: datP B i
theorem dat_congr {A B : Pl} (h : A.files = B.files) (i : Nat) : datP A i = datP B i ∧ firmP A i = firmP B i := by
  unfold datP firmP
  rw [h]
  exact ⟨rfl, rfl⟩
theorem SafeI.tick {k : BS} {i : Nat} {held : BS} {B : Pl} (h : SafeI k i held B) : SafeI k i held (tickP B) := by
  have ht := tick_rest B
  have hd := dat_congr (A := tickP B) (B := B) ht.2.2.1 i
  exact ⟨inv_tick h.inv, by rw [ht.1]; exact h.look, by rw [ht.2.2.2.1]; exact h.safe, by rw [ht.2.1]; exact h.pend, by rw [hd.2]; exact h.firm, by rw [hd.1]; exact h.held⟩
theorem dat_modify (B : Pl) (F : List (BS × Nat)) (d : BS) (j i : Nat) (hF : B.files = F.modify j fun x => (x.1 ++ d, x.2)) (A : Pl) (hA : A.files = F) : (datP A i <+: datP B i) ∧ firmP B i = firmP A i := by
  unfold datP firmP
  rw [hF, hA, List.getElem?_modify]
  cases F[i]? with
  | none => exact ⟨List.prefix_refl _, rfl⟩
  | some x =>
    simp only [Option.map_some, Option.getD_some]
    split
    · exact ⟨List.prefix_append _ _, rfl⟩
    · exact ⟨List.prefix_refl _, rfl⟩
theorem SafeI.append {k : BS} {i : Nat} {held : BS} {B : Pl} (h : SafeI k i held B) (j d : BS) : SafeI k i held (doP B (.append j d)).1 := by
  have hi := inv_do h.inv (.append j d)
  have ht := h.tick
  have hr := tick_rest B
  rw [doP_append] at hi ⊢
  split at hi
  · rename_i h1; rw [if_pos h1]; exact ht
  · rename_i h1
    rw [if_neg h1]
    split at hi
    · rename_i h2; rw [if_pos h2]; exact ht
    · rename_i h2
      rw [if_neg h2]
      have hd := dat_modify { tickP B with files := B.files.modify (atP B j) fun x => (x.1 ++ d, x.2) } B.files d (atP B j) i rfl (tickP B) hr.2.2.1
      exact ⟨hi, ht.look, ht.safe, ht.pend, by rw [hd.2]; exact ht.firm, List.IsPrefix.trans ht.held hd.1⟩
theorem SafeI.create {k : BS} {i : Nat} {held : BS} {B : Pl} (h : SafeI k i held B) (j : BS) : SafeI k i held (doP B (.create j)).1 := by
  have hi := inv_do h.inv (.create j)
  have ht := h.tick
  have hr := tick_rest B
  rw [doP_create] at hi ⊢
  split at hi
  · rename_i h1; rw [if_pos h1]; exact ht
  · rename_i h1
    rw [if_neg h1]
    split at hi
    · rename_i h2; rw [if_pos h2]; exact ht
    · rename_i h2
      rw [if_neg h2]
      have h2 : lookN B.now j = none := by simpa using h2
      have hne : j ≠ k := fun e => by
        have := h.look
        rw [← e, h2] at this; cases this
      have hlt := h.inv.fnow _ (lookN_mem _ _ _ h.look)
      simp only at hlt
      refine ⟨hi, ?_, ht.safe, ?_, ?_, ?_⟩
      · show lookN (insN j B.files.length B.now) k = _
        rw [lookN_ins_other j k _ (fun e => hne e.symm)]; exact h.look
      · intro c hc
        rcases List.mem_append.1 hc with e | e
        · exact h.pend c e
        · exact ⟨j, _, List.mem_singleton.1 e, hne⟩
      · have := h.firm
        unfold firmP at this ⊢
        simp only
        rw [List.getElem?_append_left hlt]; exact this
      · have := h.held
        unfold datP at this ⊢
        simp only
        rw [List.getElem?_append_left hlt]; exact this
theorem fold_puts (k : BS) : ∀ (C : List Chg) (M : NM), (∀ c ∈ C, ∃ j f, c = .put j f ∧ j ≠ k) → lookN (C.foldl (fun M c => applyC c M) M) k = lookN M k
  | [], _, _ => rfl
  | c :: C, M, h => by
    rw [List.foldl_cons, fold_puts k C _ fun d hd => h d (List.mem_cons_of_mem _ hd)]
    obtain ⟨j, f, rfl, hne⟩ := h c (List.mem_cons_self ..)
    exact lookN_ins_other j k f (fun e => hne e.symm) M
theorem SafeI.left {k : BS} {i : Nat} {held : BS} {B : Pl} (h : SafeI k i held B) (n : Int) (keep : List Int) : (∃ x ∈ leftP B n keep, x.1 = k) ∧ ∀ x ∈ leftP B n keep, x.1 = k → held <+: x.2 := by
  have hl : lookN (leftNP B n) k = some i := by
    unfold leftNP
    rw [fold_puts k _ _ fun c hc => h.pend c (List.mem_of_mem_take hc)]
    exact h.safe
  refine ⟨⟨_, List.mem_map.2 ⟨(k, i), lookN_mem _ _ _ hl, rfl⟩, rfl⟩, fun x hx e => ?_⟩
  obtain ⟨y, hy, e2⟩ := List.mem_map.1 hx
  have e1 : y.1 = k := by rw [← e, ← e2]
  have := lookN_of_mem (leftN_rises h.inv n) (k := y.1) (f := y.2) hy
  rw [e1, hl] at this
  injection this with this
  rw [← e2]
  show held <+: leftDP B keep y.2
  rw [← this]
  unfold leftDP
  rw [h.firm]
  obtain ⟨r, hr⟩ := h.held
  rw [← hr, List.take_length_add_append]
  exact List.prefix_append _ _
/-- behind a Sync and a SyncNames -/
theorem safe_start {A : Pl} (h : Inv A) (hp : A.power = -1) (k : BS) (h1 : (doP A (.sync k)).2 = 0) (h2 : (doP (doP A (.sync k)).1 .names).2 = 0) :
    ∃ i, SafeI k i (readP (doP (doP A (.sync k)).1 .names).1 k) (doP (doP A (.sync k)).1 .names).1 ∧ readEP (doP (doP A (.sync k)).1 .names).1 k = 0 := by
  obtain ⟨B, hB⟩ : ∃ B, B = (doP A (.sync k)).1 := ⟨_, rfl⟩
  have hi := inv_do h (.sync k)
  have hi2 := inv_do hi .names
  have hpw : (doP B .names).1.power = -1 := by rw [(do_rest B .names).2.2, hB, (do_rest A (.sync k)).2.2, hp]
  rw [← hB] at h2 hi hi2 ⊢
  have ht := tick_rest A
  rw [doP_sync] at h1 hB
  split at h1
  · rename_i h3; exact absurd h1 h3
  · rename_i h3
    rw [if_neg h3] at hB
    obtain ⟨g1, g2, g3⟩ := onP_zero (by simpa using h3)
    have hgood : badN k = false := begP_good g1 k (by simp)
    have hD : (doP B .names).1 = { tickP B with safe := B.now, pend := [] } := by
      rw [doP_names] at h2 ⊢
      split at h2
      · rename_i h4; exact absurd h2 h4
      · rename_i h4; rw [if_neg h4]
    have hl : lookN B.now k = some (atP A k) := by rw [hB]; show lookN (tickP A).now k = _; rw [ht.1]; exact g2
    have hlt := h.fnow _ g3
    simp only at hlt
    have hBt := tick_rest B
    obtain ⟨D, hD0⟩ : ∃ D, D = (doP B .names).1 := ⟨_, rfl⟩
    rw [← hD0] at hD hpw hi2 ⊢
    have dnow : D.now = B.now := by rw [hD]; exact hBt.1
    have dfiles : D.files = B.files := by rw [hD]; exact hBt.2.2.1
    have dl : lookN D.now k = some (atP A k) := by rw [dnow]; exact hl
    have dd : downP D = false := by unfold downP; rw [hpw]; simp
    have he : readEP D k = 0 := by
      unfold readEP
      rw [dd, hgood, dl]; simp
    have hr : readP D k = datP D (atP A k) := by
      unfold readP
      rw [if_pos he]
      unfold atP
      rw [dl]; rfl
    refine ⟨atP A k, ⟨hi2, dl, by rw [hD]; exact hl, by rw [hD]; exact (fun c hc => by cases hc), ?_, by rw [hr]; exact List.prefix_refl _⟩, he⟩
    rw [hr, (dat_congr dfiles _).1, (dat_congr dfiles _).2]
    unfold firmP datP
    have : B.files = A.files.modify (atP A k) fun x => (x.1, x.1.length) := by rw [hB]
    rw [this, List.getElem?_modify, List.getElem?_eq_getElem hlt]
    simp

/-- a life of Appends and Syncs alone -/
structure BegI (F : List (BS × BS)) (B : Pl) : Prop where
  inv : Inv B
  now : B.now = numF 0 F
  safe : B.safe = numF 0 F
  pend : B.pend = []
  len : B.files.length = F.length
  firm : ∀ (i : Nat) (x : BS × Nat) (f : BS × BS), B.files[i]? = some x → F[i]? = some f → f.2.length ≤ x.2
  room : ∀ x ∈ B.files, x.1.length = x.2 ∨ x.1.length ≤ B.room
  rm : B.room ≤ 1073741824
theorem beg_new {F : List (BS × BS)} (h : okF F) {room : Int} (hr : room ≤ 1073741824) (fails : List Int) (power : Int) : BegI F (newP F room fails power) := by
  refine ⟨inv_new h room fails power, rfl, rfl, rfl, by simp [newP], fun i x f hx hf => ?_, fun x hx => ?_, by show room.toNat ≤ _; omega⟩
  · unfold newP at hx
    simp only [List.getElem?_map, hf, Option.map_some, Option.some.injEq] at hx
    rw [← hx]; exact Nat.le_refl _
  · obtain ⟨f, _, e⟩ := List.mem_map.1 hx
    rw [← e]; exact .inl rfl
theorem BegI.tick {F : List (BS × BS)} {B : Pl} (h : BegI F B) : BegI F (tickP B) := by
  have ht := tick_rest B
  exact ⟨inv_tick h.inv, by rw [ht.1]; exact h.now, by rw [ht.2.2.2.1]; exact h.safe, by rw [ht.2.1]; exact h.pend, by rw [ht.2.2.1]; exact h.len, by rw [ht.2.2.1]; exact h.firm, by rw [ht.2.2.1, ht.2.2.2.2.1]; exact h.room, by rw [ht.2.2.2.2.1]; exact h.rm⟩
theorem BegI.append {F : List (BS × BS)} {B : Pl} (h : BegI F B) (k d : BS) : BegI F (doP B (.append k d)).1 := by
  have hi := inv_do h.inv (.append k d)
  have ht := h.tick
  have hr := tick_rest B
  rw [doP_append] at hi ⊢
  split at hi
  · rename_i h1; rw [if_pos h1]; exact ht
  · rename_i h1
    rw [if_neg h1]
    split at hi
    · rename_i h2; rw [if_pos h2]; exact ht
    · rename_i h2
      rw [if_neg h2]
      obtain ⟨g1, g2, g3⟩ := onP_zero (by simpa using h1)
      have hlt := h.inv.fnow _ g3
      simp only at hlt
      have hu := lenF_used g3
      refine ⟨hi, ht.now, ht.safe, ht.pend, by show (B.files.modify _ _).length = _; rw [List.length_modify]; exact h.len, fun i x f hx hf => ?_, fun x hx => ?_, ht.rm⟩
      · have hx : (B.files.modify (atP B k) fun x => (x.1 ++ d, x.2))[i]? = some x := hx
        rw [List.getElem?_modify] at hx
        cases hb : B.files[i]? with
        | none => rw [hb] at hx; cases hx
        | some y =>
          rw [hb] at hx
          have := h.firm i y f hb hf
          simp only [Option.map_eq_map, Option.map_some, Option.some.injEq] at hx
          split at hx <;> (rw [← hx]; exact this)
      · have hx : x ∈ B.files.modify (atP B k) fun x => (x.1 ++ d, x.2) := hx
        show _ ∨ x.1.length ≤ (tickP B).room
        rw [hr.2.2.2.2.1]
        obtain ⟨i, hi2, e⟩ := List.getElem_of_mem hx
        rw [List.length_modify] at hi2
        rw [List.getElem_modify] at e
        split at e
        · rename_i e2
          subst e2
          have : lenF B.files (atP B k) = B.files[atP B k].1.length := by unfold lenF; rw [List.getElem?_eq_getElem hi2]; rfl
          rw [← e]
          simp only [List.length_append]
          rcases Nat.eq_zero_or_pos d.length with h0 | h0
          · rcases h.room _ (List.getElem_mem hi2) with h3 | h3
            · left; omega
            · right; omega
          · right
            have : ¬ B.room < usedP B + d.length := fun e => h2 ⟨h0, e⟩
            simp only at hu
            omega
        · rw [← e]; exact h.room _ (List.getElem_mem hi2)
theorem BegI.sync {F : List (BS × BS)} {B : Pl} (h : BegI F B) (k : BS) : BegI F (doP B (.sync k)).1 := by
  have hi := inv_do h.inv (.sync k)
  have ht := h.tick
  have hr := tick_rest B
  rw [doP_sync] at hi ⊢
  split at hi
  · rename_i h1; rw [if_pos h1]; exact ht
  · rename_i h1
    rw [if_neg h1]
    refine ⟨hi, ht.now, ht.safe, ht.pend, by show (B.files.modify _ _).length = _; rw [List.length_modify]; exact h.len, fun i x f hx hf => ?_, fun x hx => ?_, ht.rm⟩
    · have hx : (B.files.modify (atP B k) fun x => (x.1, x.1.length))[i]? = some x := hx
      rw [List.getElem?_modify] at hx
      cases hb : B.files[i]? with
      | none => rw [hb] at hx; cases hx
      | some y =>
        rw [hb] at hx
        have := h.firm i y f hb hf
        have h4 := h.inv.firm y (List.mem_of_getElem? hb)
        simp only [Option.map_eq_map, Option.map_some, Option.some.injEq] at hx
        split at hx
        · rw [← hx]; simp only; omega
        · rw [← hx]; exact this
    · have hx : x ∈ B.files.modify (atP B k) fun x => (x.1, x.1.length) := hx
      show _ ∨ x.1.length ≤ (tickP B).room
      rw [hr.2.2.2.2.1]
      obtain ⟨i, hi2, e⟩ := List.getElem_of_mem hx
      rw [List.length_modify] at hi2
      rw [List.getElem_modify] at e
      split at e
      · rw [← e]; exact .inl rfl
      · rw [← e]; exact h.room _ (List.getElem_mem hi2)
theorem BegI.leftN {F : List (BS × BS)} {B : Pl} (h : BegI F B) (n : Int) : leftNP B n = numF 0 F := by
  unfold leftNP
  rw [h.pend, h.safe]
  simp
theorem BegI.left {F : List (BS × BS)} {B : Pl} (h : BegI F B) (n : Int) (keep : List Int) : (leftP B n keep).length = F.length ∧ (leftP B n keep).map (·.1) = F.map (·.1) := by
  refine ⟨?_, ?_⟩
  · unfold leftP; rw [List.length_map, h.leftN, numF_length]
  · rw [leftP_names, h.leftN, numF_names]
theorem BegI.read {F : List (BS × BS)} {B : Pl} (h : BegI F B) (hd : downP B = false) (n : Int) (keep : List Int) {i : Nat} {x : BS × BS} (hx : (leftP B n keep)[i]? = some x) :
    ∃ f, F[i]? = some f ∧ x.1 = f.1 ∧ readEP B x.1 = 0 ∧ readP B x.1 = datP B i ∧ x.2 = leftDP B keep i ∧ f.2.length ≤ firmP B i ∧ firmP B i ≤ (datP B i).length ∧ ((datP B i).length = firmP B i ∨ (datP B i).length ≤ 1073741824) := by
  unfold leftP at hx
  rw [List.getElem?_map, h.leftN, numF_get] at hx
  cases hf : F[i]? with
  | none => rw [hf] at hx; cases hx
  | some f =>
    rw [hf] at hx
    simp only [Option.map_some, Option.some.injEq, Nat.zero_add] at hx
    subst hx
    have hilt : i < B.files.length := by rw [h.len]; exact (List.getElem?_eq_some_iff.1 hf).1
    have hB : B.files[i]? = some B.files[i] := List.getElem?_eq_getElem hilt
    have hmem : (f.1, i) ∈ B.now := by
      rw [h.now]
      have := numF_get F 0 i
      rw [hf] at this
      simp only [Option.map_some, Nat.zero_add] at this
      exact List.mem_of_getElem? this
    have hl := lookN_of_mem h.inv.rnow hmem
    have hg := h.inv.gnow _ hmem
    have he : readEP B f.1 = 0 := by
      unfold readEP
      rw [hd, hg, hl]; simp
    refine ⟨f, rfl, rfl, he, ?_, rfl, ?_, ?_, ?_⟩
    · unfold readP
      rw [if_pos he]
      unfold atP
      rw [hl]; rfl
    · have := h.firm i _ f hB hf
      unfold firmP
      rw [hB]; exact this
    · have := h.inv.firm _ (List.getElem_mem hilt)
      unfold firmP datP
      rw [hB]; exact this
    · have := h.room _ (List.getElem_mem hilt)
      have hrm := h.rm
      unfold firmP datP
      rw [hB]
      simp only [Option.map_some, Option.getD_some]
      omega
theorem leftD_prefix (B : Pl) (keep : List Int) (i : Nat) : leftDP B keep i <+: datP B i := List.take_prefix _ _
theorem leftD_length {B : Pl} (keep : List Int) (i : Nat) (h : firmP B i ≤ (datP B i).length) : firmP B i ≤ (leftDP B keep i).length := by
  unfold leftDP
  rw [List.length_take]
  omega
theorem leftD_whole {B : Pl} {keep : List Int} {i : Nat} {z : Int} (hk : keep[i]? = some z) (hz : 1073741824 ≤ z) (h : firmP B i ≤ (datP B i).length) (hr : (datP B i).length = firmP B i ∨ (datP B i).length ≤ 1073741824) : leftDP B keep i = datP B i := by
  unfold leftDP moreP
  rw [hk]
  exact List.take_of_length_le (by simp only; omega)
/-- what is left makes a disk of just these files -/
theorem again_new {A : Pl} (h : Inv A) (n : Int) (keep : List Int) : okF (leftP A n keep) := left_ok h n keep
theorem list_new {F : List (BS × BS)} (room : Int) (fails : List Int) : listP (newP F room fails (-1)) = F.map (·.1) := by
  unfold listP
  have : downP (newP F room fails (-1)) = false := by unfold downP newP; simp
  rw [this]
  exact numF_names F 0
end Go.Proofs.YtnhfnfdmpcpcoaaDoor

/-
  A disk that New is making, with its first files.
-/
namespace Go.Proofs.YtnhfnfdmpcpcoaaDoor
open Go.RowKit Go.Maps

def zipN (F : List FT) (G : List FileC) : NM := List.zipWith (fun x f => (x.1, f.blk)) F G
structure NewAt (wr : World) (F : List FT) (k dd bn : Nat) (room : Int) (fv : Value) (power : Int) (P : Nat → Prop) (G : List FileC) : Prop where
  blk : wr.heap[dd]? = some (.cells #[.map (some bn), .map none, .slice none 0 0, .int .i64 k, .int .i64 room, fv, .int .i64 power, .int .i64 0] 79 (0, 0))
  now : OwnN wr bn (zipN (F.take k) G)
  len : G.length = k
  kf : k ≤ F.length
  files : ∀ (i : Nat) (f : FileC), G[i]? = some f → FileAt wr P i f ∧ ∀ x, F[i]? = some x → f.data = x.2 ∧ f.firm = x.2.length
  apart : ApartF G
  ok : okF (F.take k)
theorem insN_last (k : BS) (f : Nat) : ∀ M : NM, (∀ y ∈ M, y.1 < k) → insN k f M = M ++ [(k, f)]
  | [], _ => rfl
  | (m, g) :: M, h => by
    have hm := h (m, g) (List.mem_cons_self ..)
    unfold insN
    rw [if_neg (fun e => by simp only [e] at hm; exact absurd hm (List.lt_irrefl _)), if_neg (fun e => absurd (List.lt_trans hm e) (List.lt_irrefl _)), insN_last k f M fun y hy => h y (List.mem_cons_of_mem _ hy)]
    rfl
theorem zipN_snoc {F : List FT} {G : List FileC} (x : FT) (f : FileC) (h : F.length = G.length) : zipN (F ++ [x]) (G ++ [f]) = zipN F G ++ [(x.1, f.blk)] := by
  unfold zipN
  rw [List.zipWith_append h]
  rfl
theorem zipN_mem {F : List FT} {G : List FileC} {y : BS × Nat} (h : y ∈ zipN F G) : (∃ x ∈ F, x.1 = y.1) ∧ ∃ f ∈ G, f.blk = y.2 := by
  unfold zipN at h
  obtain ⟨i, hi, e⟩ := List.getElem_of_mem h
  rw [List.getElem_zipWith] at e
  rw [← e]
  exact ⟨⟨_, List.getElem_mem _, rfl⟩, _, List.getElem_mem _, rfl⟩
theorem okF_snoc {F : List FT} {k : Nat} {x : FT} (hx : F[k]? = some x) (h : okF (F.take k)) (hg : badN x.1 = false) (hl : ∀ y, 0 < k → F[k - 1]? = some y → y.1 < x.1) : okF (F.take (k + 1)) ∧ ∀ y ∈ F.take k, y.1 < x.1 := by
  obtain ⟨hk, ex⟩ := List.getElem?_eq_some_iff.1 hx
  have hall : ∀ y ∈ F.take k, y.1 < x.1 := by
    intro y hy
    obtain ⟨i, hi, e⟩ := List.getElem_of_mem hy
    rw [List.length_take] at hi
    have hlast := hl F[k - 1] (by omega) (List.getElem?_eq_getElem (by omega))
    by_cases h1 : i = k - 1
    · subst h1
      rw [List.getElem_take] at e
      rw [← e]; exact hlast
    · have hp := List.pairwise_iff_getElem.1 h.2 i (k - 1) (by rw [List.length_take]; omega) (by rw [List.length_take]; omega) (by omega)
      rw [List.getElem_take, List.getElem_take] at hp
      rw [List.getElem_take] at e
      rw [← e]
      exact List.lt_trans hp hlast
  refine ⟨?_, hall⟩
  rw [List.take_succ_eq_append_getElem hk, ex]
  refine ⟨fun y hy => ?_, ?_⟩
  · rcases List.mem_append.1 hy with e | e
    · exact h.1 y e
    · rw [List.mem_singleton.1 e]; exact hg
  · rw [List.pairwise_append]
    refine ⟨h.2, List.pairwise_singleton _ _, fun a ha b hb => ?_⟩
    rw [List.mem_singleton.1 hb]
    exact hall a ha
theorem okF_bad {F : List FT} {k : Nat} {x : FT} (hx : F[k]? = some x) (h : badN x.1 = true ∨ ∃ y, 0 < k ∧ F[k - 1]? = some y ∧ ¬ y.1 < x.1) : ¬ okF F := by
  intro ho
  obtain ⟨hk, ex⟩ := List.getElem?_eq_some_iff.1 hx
  rcases h with h | ⟨y, h0, hy, hn⟩
  · have := ho.1 x (List.mem_of_getElem? hx)
    rw [h] at this; cases this
  · obtain ⟨hk2, ey⟩ := List.getElem?_eq_some_iff.1 hy
    have := List.pairwise_iff_getElem.1 ho.2 (k - 1) k hk2 hk (by omega)
    rw [ey, ex] at this
    exact hn this

/-- one file more -/
theorem NewAt.step {wr W4 W5 W6 : World} {F : List FT} {k dd bn g0 : Nat} {room power : Int} {fv v : Value} {P : Nat → Prop} {G : List FileC} {x : FT} (h : NewAt wr F k dd bn room fv power P G) (hx : F[k]? = some x)
    (hb : Below wr.heap.size wr W4) (hg0 : wr.heap.size ≤ g0) (hfile : W4.heap[g0]? = some (.cells #[.int .i64 k, v, .int .i64 x.2.length] 81 (0, 0))) (hown : Own8 W4 wr.heap.size v x.2)
    (hgr : W4.grownBy W5 (some bn)) (hmap : OwnN W5 bn (insN x.1 g0 (zipN (F.take k) G))) (h6 : W6 = W5.setCell ⟨dd, 3, none⟩ (.int .i64 ((k : Int) + 1))) (hP : ∀ g, wr.heap.size ≤ g → P g) (hok : okF (F.take (k + 1))) (hlast : ∀ y ∈ F.take k, y.1 < x.1) :
    NewAt W6 F (k + 1) dd bn room fv power P (G ++ [⟨g0, v, x.2, x.2.length⟩]) := by
  obtain ⟨hk, ex⟩ := List.getElem?_eq_some_iff.1 hx
  have hbn := map_ne h.now h.blk
  have hbnl := h.now.lt
  have keep : ∀ g, g < wr.heap.size → g ≠ bn → g ≠ dd → W6.heap[g]? = wr.heap[g]? := fun g h1 h2 h3 => by
    rw [h6]
    exact ((Below.heap_setCell _ _ _ _ h3).trans (hgr.block g (Nat.lt_of_lt_of_le h1 hb.size) (fun e => h2 (by injection e)))).trans (hb.block g h1)
  have keep4 : ∀ g, g < W4.heap.size → g ≠ bn → g ≠ dd → W6.heap[g]? = W4.heap[g]? := fun g h1 h2 h3 => by
    rw [h6]
    exact (Below.heap_setCell _ _ _ _ h3).trans (hgr.block g h1 (fun e => h2 (by injection e)))
  have hddl := lt_of_heap h.blk
  have hdd5 : W5.heap[dd]? = some (.cells #[.map (some bn), .map none, .slice none 0 0, .int .i64 k, .int .i64 room, fv, .int .i64 power, .int .i64 0] 79 (0, 0)) :=
    ((hgr.block dd (Nat.lt_of_lt_of_le hddl hb.size) (fun e => hbn (by injection e with e; exact e.symm))).trans (hb.block dd hddl)).trans h.blk
  refine ⟨?_, ?_, by rw [List.length_append, h.len]; rfl, by omega, ?_, ?_, hok⟩
  · rw [h6]
    simp only [World.setCell, Array.getElem?_modify, hdd5]
    simp
  · have e : zipN (F.take (k + 1)) (G ++ [⟨g0, v, x.2, x.2.length⟩]) = insN x.1 g0 (zipN (F.take k) G) := by
      rw [List.take_succ_eq_append_getElem hk, ex, zipN_snoc x _ (by rw [List.length_take, h.len]; omega), insN_last _ _ _ fun y hy => ?_]
      obtain ⟨⟨z, hz, e⟩, _⟩ := zipN_mem hy
      rw [← e]; exact hlast z hz
    rw [e]
    exact hmap.kept (by rw [h6]; exact Below.heap_setCell _ _ _ _ hbn)
  · intro i f hf
    by_cases hi : i < G.length
    · rw [List.getElem?_append_left hi] at hf
      obtain ⟨⟨a1, a2, a3, a4, a5⟩, a6⟩ := h.files i f hf
      have hf1 := lt_of_heap a1
      refine ⟨⟨(keep _ hf1 (fun e => map_ne h.now a1 e.symm) (blk_ne a1 h.blk (by decide))).trans a1, ?_, a3, a4, a5⟩, a6⟩
      refine ⟨a2.1, ?_⟩
      rcases a2.2 with h0 | ⟨g, cap, cur, e, c1, c2, r⟩
      · exact .inl h0
      · exact .inr ⟨g, cap, cur, e, c1, (keep g (lt_of_heap c2) (fun e => map_ne h.now c2 e.symm) (blk_ne c2 h.blk (by decide))).trans c2, r⟩
    · have hlt := (List.getElem?_eq_some_iff.1 hf).1
      rw [List.length_append] at hlt
      simp only [List.length_cons, List.length_nil] at hlt
      obtain rfl : i = G.length := by omega
      rw [List.getElem?_append_right (Nat.le_refl _)] at hf
      simp only [Nat.sub_self, List.getElem?_cons_zero, Option.some.injEq] at hf
      subst hf
      have hgk := h.len
      refine ⟨⟨?_, ?_, fun r hr => hP r (World.ownsRow.lt hown r hr).1, hP _ hg0, Nat.le_refl _⟩, fun y hy => ?_⟩
      · show W6.heap[g0]? = some (.cells #[.int .i64 (G.length : Nat), v, .int .i64 (x.2.length : Nat)] 81 (0, 0))
        rw [hgk]
        exact (keep4 g0 (lt_of_heap hfile) (by omega) (by omega)).trans hfile
      · show Own8 W6 0 v x.2
        refine ⟨hown.1, ?_⟩
        rcases hown.2 with h0 | ⟨g, cap, cur, e, c1, c2, r⟩
        · exact .inl h0
        · exact .inr ⟨g, cap, cur, e, Nat.zero_le _, (keep4 g (lt_of_heap c2) (by omega) (by omega)).trans c2, r⟩
      · rw [hgk] at hy
        rw [hx] at hy
        injection hy with hy
        rw [← hy]
        exact ⟨rfl, rfl⟩
  · show List.Pairwise _ _
    rw [List.pairwise_append]
    refine ⟨h.apart, List.pairwise_singleton _ _, fun z hz y hy => ?_⟩
    rw [List.mem_singleton.1 hy]
    obtain ⟨j, hj, e⟩ := List.getElem_of_mem hz
    obtain ⟨⟨a1, a2, _⟩, _⟩ := h.files j z (by rw [List.getElem?_eq_getElem hj, e])
    refine ⟨fun e3 => ?_, fun r hr e3 => ?_⟩
    · have := lt_of_heap a1
      simp only at e3
      omega
    · obtain ⟨cur, hc⟩ := rowBlk a2 hr
      have h1 := lt_of_heap hc
      have h2 := (World.ownsRow.lt hown r e3).1
      omega

/-- the disk is made -/
theorem NewAt.done {wr w1 W : World} {F : List FT} {dd bn bs : Nat} {room power : Int} {fv : Value} {fp : Option Addr} {fc : Nat} {Z : List Int} {B : Nat} {G : List FileC} (h : NewAt wr F F.length dd bn room fv power (fun g => B ≤ g ∧ fv.ownBlock ≠ some g) G)
    (hfv : fv = .slice fp Z.length fc) (hrow : wr.ownsRow B 3 1 fv Z.length (Z.map (Value.int .i64))) (hb : Below wr.heap.size wr w1) (hbs : bs = wr.heap.size) (hsafe : OwnN w1 bs (zipN F G)) (hW : W = w1.setCell ⟨dd, 1, none⟩ (.map (some bs))) (h0 : 0 ≤ room) (hB : B ≤ dd ∧ B ≤ bn) (hBs : B ≤ wr.heap.size) :
    ∃ S, DiskAt W (fun g => B ≤ g ∧ fv.ownBlock ≠ some g) dd S ∧ absD S = newP F room Z power ∧ ∀ a, S.fp = some a → B ≤ a.block := by
  obtain ⟨fq, hfq, hBf⟩ : ∃ fq : Option Nat, fp = fq.map (fun b => (⟨b, 0, none⟩ : Addr)) ∧ ∀ a, fp = some a → B ≤ a.block := by
    rcases hrow.2 with ⟨e, _⟩ | ⟨g, cap, cur, e, hg, _⟩
    · rw [hfv] at e
      injection e with e _ _
      exact ⟨none, e, fun a ha => by rw [e] at ha; cases ha⟩
    · rw [hfv] at e
      injection e with e _ _
      exact ⟨some g, e, fun a ha => by rw [e] at ha; injection ha with ha; subst ha; exact hg⟩
  subst hfq
  have hnow := h.now
  rw [List.take_length] at hnow
  have hbnl := hnow.lt
  have hddl := lt_of_heap h.blk
  have hbn := map_ne hnow h.blk
  have keep : ∀ g, g < wr.heap.size → g ≠ dd → W.heap[g]? = wr.heap[g]? := fun g h1 h2 => by
    rw [hW]
    exact (Below.heap_setCell _ _ _ _ h2).trans (hb.block g h1)
  have hrm : (room.toNat : Int) = room := by omega
  have hblk : W.heap[dd]? = some (.cells (diskCells ⟨bn, bs, zipN F G, zipN F G, .slice none 0 0, [], [], G, room.toNat, fv, fq, fc, Z, power, 0⟩) 79 (0, 0)) := by
    have hdd1 := (hb.block dd hddl).trans h.blk
    rw [hW]
    simp only [World.setCell, Array.getElem?_modify, hdd1]
    simp [diskCells, h.len, hrm]
  have hfl : ∀ (g : Nat), fv.ownBlock = some g → ∃ cur, wr.heap[g]? = some (.cells cur 3 (0, 0)) := fun g hg => rowBlk hrow hg
  refine ⟨⟨bn, bs, zipN F G, zipN F G, .slice none 0 0, [], [], G, room.toNat, fv, fq, fc, Z, power, 0⟩, ⟨hblk, ?_, ?_, by show bn ≠ bs; omega, World.ownsRow_nil _ _ _ _, fun i v c h1 => by simp at h1, ⟨hfv, ?_, ?_⟩, ?_, h.apart, ?_, ?_, ⟨⟨hB.1, fun e => ?_⟩, ⟨hB.2, fun e => ?_⟩, ⟨by show B ≤ bs; omega, fun e => ?_⟩, fun r hr => by cases hr⟩⟩, ?_, hBf⟩
  · exact hnow.kept (keep bn hbnl hbn)
  · have hne : bs ≠ dd := by omega
    exact hsafe.kept (by rw [hW]; exact Below.heap_setCell _ _ _ _ hne)
  · obtain ⟨p', c', e, _, _, hin, _⟩ := owns_shape hrow
    rw [hfv] at e
    injection e with e _ _
    subst e
    intro h1
    obtain ⟨b, o, e, hc⟩ := hin h1
    have hob : fv.ownBlock = some b := by rw [hfv, e]; rfl
    obtain ⟨cur, hcur⟩ := hfl b hob
    refine ⟨b, o, e, fun i hi => ?_⟩
    have := hc i hi
    have hk := keep b (lt_of_heap hcur) (blk_ne hcur h.blk (by decide))
    simp only [World.cell?, hk]
    exact this
  · intro a ha h1 hPa
    have ha : fq.map (fun b => (⟨b, 0, none⟩ : Addr)) = some a := ha
    exact hPa.2 (by rw [hfv, ha]; rfl)
  · intro i f hf
    obtain ⟨⟨a1, a2, a3, a4, a5⟩, _⟩ := h.files i f hf
    refine ⟨(keep _ (lt_of_heap a1) (blk_ne a1 h.blk (by decide))).trans a1, ?_, a3, a4, a5⟩
    refine ⟨a2.1, ?_⟩
    rcases a2.2 with h0 | ⟨g, cap, cur, e, c1, c2, r⟩
    · exact .inl h0
    · exact .inr ⟨g, cap, cur, e, c1, (keep g (lt_of_heap c2) (blk_ne c2 h.blk (by decide))).trans c2, r⟩
  · intro x hx
    obtain ⟨_, f, hf, e⟩ := zipN_mem hx
    exact ⟨f, hf, e⟩
  · intro x hx
    obtain ⟨_, f, hf, e⟩ := zipN_mem hx
    exact ⟨f, hf, e⟩
  · obtain ⟨cur, hc⟩ := hfl dd e
    exact blk_ne hc h.blk (by decide) rfl
  · obtain ⟨cur, hc⟩ := hfl bn e
    exact map_ne hnow hc rfl
  · obtain ⟨cur, hc⟩ := hfl bs e
    have := lt_of_heap hc
    omega
  · have hz : mapN (noF G) (zipN F G) = numF 0 F := by
      apply List.ext_getElem?
      intro i
      unfold mapN zipN
      rw [List.getElem?_map, numF_get, List.getElem?_zipWith]
      cases hF : F[i]? with
      | none => simp
      | some x =>
        have hi := (List.getElem?_eq_some_iff.1 hF).1
        have hlen := h.len
        have hG : G[i]? = some G[i] := List.getElem?_eq_getElem (by omega)
        rw [hG]
        simp only [Option.map_some, Nat.zero_add, Option.some.injEq, Prod.mk.injEq, true_and]
        exact noF_at G i _ h.apart hG
    unfold absD newP
    simp only [hz, Pl.mk.injEq, List.map_nil, true_and, and_true]
    apply List.ext_getElem?
    intro i
    rw [List.getElem?_map, List.getElem?_map]
    have hlen := h.len
    cases hF : F[i]? with
    | none =>
      have : F.length ≤ i := List.getElem?_eq_none_iff.1 hF
      rw [List.getElem?_eq_none (by omega)]; rfl
    | some x =>
      have hi := (List.getElem?_eq_some_iff.1 hF).1
      have hG : G[i]? = some G[i] := List.getElem?_eq_getElem (by omega)
      obtain ⟨_, a6⟩ := h.files i _ hG
      obtain ⟨e1, e2⟩ := a6 x hF
      rw [hG]
      simp only [Option.map_some, e1, e2]
end Go.Proofs.YtnhfnfdmpcpcoaaDoor
