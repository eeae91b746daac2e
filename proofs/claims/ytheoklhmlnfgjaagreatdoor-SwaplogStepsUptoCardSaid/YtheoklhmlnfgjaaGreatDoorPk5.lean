/-
  Used, List, Down of a disk, in the words of the laws; the sizes of boxes.
-/
import Derived.Test.YtheoklhmlnfgjaaGreatDoorPk4
import Derived.Test.YtheoklhmlnfgjaaGreatDoorPk3
import Derived.Test.YtheoklhmlnfgjaaGreatDoorPk1
import Derived.Test.YtheoklhmlnfgjaaGreatDoorPk2
import Derived.Deep.RegionWith
import Derived.Laws.Cover1
namespace Go.Proofs.YtheoklhmlnfgjaaGreatDoor
open Go.RowKit Go.Maps

theorem used_dp {n : Nat} {w0 W : World} {dd : Nat} {A : Pl} (h : DP w0 dd A W) (hA : GoodA n A) (hn : n ≤ 1000000) :
    Calls Tryz.prog 32 #[.pointer (some ⟨dd, 0, none⟩)] W fun e w' => e = .returned (.int .i64 (usedP A)) ∧ Below W.heap.size W w' := by
  obtain ⟨P, ⟨S, h1, he⟩, h2, h3⟩ := h
  have hu : usedP A = usedS S := by rw [← he, abs_used h1.nowF]
  rw [hu]
  exact used_any h1 (by rw [← hu]; have := (hA.fitP hn).used; omega)
theorem down_dp {w0 W : World} {dd : Nat} {A : Pl} (h : DP w0 dd A W) :
    Calls Tryz.prog 76 #[.pointer (some ⟨dd, 0, none⟩)] W fun e w' => e = .returned (.bool (downP A)) ∧ Below W.heap.size W w' := by
  obtain ⟨P, ⟨S, h1, he⟩, h2, h3⟩ := h
  rw [← he, abs_down]
  exact down_any h1
theorem list_dp {n : Nat} {w0 W : World} {dd : Nat} {A : Pl} (h : DP w0 dd A W) (hA : GoodA n A) (hn : n ≤ 1000000) :
    Calls Tryz.prog 41 #[.pointer (some ⟨dd, 0, none⟩)] W fun e w' => ∃ p c, e = .returned (.slice p (listP A).length c) ∧ OwnS w' W.heap.size (.slice p (listP A).length c) (listP A) ∧ InS w' p (listP A) ∧ Below W.heap.size W w' := by
  obtain ⟨P, h1, h2, h3⟩ := h
  refine (list_p h1 (hA.fitP hn).now).mono fun e w' hp => ?_
  obtain ⟨v, rfl, hown, hb⟩ := hp
  have hown2 := hown
  obtain ⟨p, c, rfl, _, _, hin, _⟩ := hown.shape rfl
  exact ⟨p, c, rfl, hown2, hin, hb⟩
theorem usedP_tick (A : Pl) : usedP (tickP A) = usedP A := by
  have ht := tick_rest A
  rw [usedP_eq, usedP_eq, ht.1, ht.2.2.1]
theorem down_tick (A : Pl) (h : downP (tickP A) = false) : downP A = false := by
  unfold tickP at h
  split at h
  · exact h
  · rename_i h1; simpa using h1
theorem listP_tick (A : Pl) (h : downP (tickP A) = false) : listP (tickP A) = listP A := by
  unfold listP
  rw [h, down_tick A h, (tick_rest A).1]
theorem leftP_tick (A : Pl) (n : Int) (K : List Int) : leftP (tickP A) n K = leftP A n K := by
  have ht := tick_rest A
  unfold leftP leftNP leftDP datP firmP
  rw [ht.2.1, ht.2.2.1, ht.2.2.2.1]
/-- what is owned behind a disk stays where the disk alone turns -/
theorem ownS_only {P : Nat → Prop} {w w' : World} {base : Nat} {v : Value} {L : List BS} (h : OwnS w base v L) (ho : Only P w w') (hP : ∀ g, P g → g < base) : OwnS w' base v L := by
  refine ⟨h.1, ?_⟩
  rcases h.2 with h0 | ⟨g, cap, cur, e, c1, c2, r⟩
  · exact .inl h0
  · exact .inr ⟨g, cap, cur, e, c1, (ho.block g (lt_of_heap c2) (fun e2 => by have := hP g e2; omega)).trans c2, r⟩
theorem own8_only {P : Nat → Prop} {w w' : World} {base : Nat} {v : Value} {L : BS} (h : Own8 w base v L) (ho : Only P w w') (hP : ∀ g, P g → g < base) : Own8 w' base v L := by
  refine ⟨h.1, ?_⟩
  rcases h.2 with h0 | ⟨g, cap, cur, e, c1, c2, r⟩
  · exact .inl h0
  · exact .inr ⟨g, cap, cur, e, c1, (ho.block g (lt_of_heap c2) (fun e2 => by have := hP g e2; omega)).trans c2, r⟩
theorem ownFs_only {P : Nat → Prop} {w w' : World} {base : Nat} {v : Value} {L : List FT} (h : OwnFs w base v L) (ho : Only P w w') (hP : ∀ g, P g → g < base) : OwnFs w' base v L := by
  obtain ⟨E, h1, h2, h3⟩ := h
  refine ⟨E, ⟨h1.1, ?_⟩, h2, fun i e x he hx => ⟨(h3 i e x he hx).1, own8_only (h3 i e x he hx).2 ho hP⟩⟩
  rcases h1.2 with h0 | ⟨g, cap, cur, e, c1, c2, r⟩
  · exact .inl h0
  · exact .inr ⟨g, cap, cur, e, c1, (ho.block g (lt_of_heap c2) (fun e2 => by have := hP g e2; omega)).trans c2, r⟩
end Go.Proofs.YtheoklhmlnfgjaaGreatDoor
/-
  Read: a file's bytes.
-/
namespace Go.Proofs.YtheoklhmlnfgjaaGreatDoor
open Go.RowKit Go.Maps

set_option maxRecDepth 100000 in
set_option maxHeartbeats 4000000 in
theorem read_p {w : World} {P : Nat → Prop} {dd : Nat} {A : Pl} (h : DiskP w P dd A) (nm : ByteArray) (hnm : nm.size ≤ 140737488351232) (hus : usedP A ≤ 140737488351232) :
    Calls Tryz.prog 43 #[.pointer (some ⟨dd, 0, none⟩), .string nm] w fun e w' => ∃ v, e = .returned (.tuple #[v, .int .i64 (readEP A nm.data.toList)]) ∧ Own8 w' w.heap.size v (readP A nm.data.toList) ∧ Below w.heap.size w w' := by
  obtain ⟨S, h, rfl⟩ := h
  rw [abs_used h.nowF] at hus
  have hE : readEP (absD S) nm.data.toList = if downS S = true then 93 else if badN nm.data.toList = true then 95 else if lookN S.now nm.data.toList = none then 90 else 0 := by
    unfold readEP
    rw [abs_down, abs_look]
    cases lookN S.now nm.data.toList <;> rfl
  have hR : readP (absD S) nm.data.toList = if readEP (absD S) nm.data.toList = 0 then datP (absD S) (atP (absD S) nm.data.toList) else [] := rfl
  have HR0 := Lib.hid hR
  have HE0 := Lib.hid hE
  have c0 : w.cell? ⟨dd, 0, none⟩ = some (.map (some S.bn)) := h.cell 0
  have hrun := run_lookF h.now nm (by unfold maxLen; omega)
  have hdown := down_any h
  obtain ⟨q, hq⟩ : ∃ q, fileV (lookN S.now nm.data.toList) = .pointer q := by cases lookN S.now nm.data.toList <;> exact ⟨_, rfl⟩
  rw [hq] at hrun
  have HQ := Lib.hid hq
  clear hR hE hq
  cases hd : downS S with
  | true =>
    rw [hd] at hdown
    have HE := Lib.hid (show readEP (absD S) nm.data.toList = 93 by rw [HE0.out, if_pos hd])
    have HRR := Lib.hid (show readP (absD S) nm.data.toList = [] by rw [HR0.out, HE.out]; rfl)
    clear hd
    go_enter Tryz.func43, Tryz.ntmps43
    go_wp2_with fail
    refine hdown.mono ?_
    rintro e w1 ⟨rfl, hb1⟩
    clear hdown
    go_wp2_with fail
    go_ret2
    exact ⟨_, by rw [HE.out]; rfl, by rw [HRR.out]; exact Own8.nil _ _, hb1⟩
  | false =>
    rw [hd] at hdown
    have HE1 := Lib.hid (show readEP (absD S) nm.data.toList = if badN nm.data.toList = true then 95 else if lookN S.now nm.data.toList = none then 90 else 0 by rw [HE0.out, if_neg (by rw [hd]; simp)])
    clear hd
    have hgood := fun W => good_any nm W hnm
    cases hb : goodN nm.data.toList with
    | false =>
      rw [hb] at hgood
      have HE := Lib.hid (show readEP (absD S) nm.data.toList = 95 by rw [HE1.out, if_pos (by unfold badN; rw [hb]; rfl)])
      have HRR := Lib.hid (show readP (absD S) nm.data.toList = [] by rw [HR0.out, HE.out]; rfl)
      clear hb
      go_enter Tryz.func43, Tryz.ntmps43
      go_wp2_with fail
      refine hdown.mono ?_
      rintro e w1 ⟨rfl, hb1⟩
      clear hdown
      go_wp2_with fail
      refine (hgood _).mono ?_
      rintro e w2 ⟨rfl, hb2⟩
      clear hgood
      go_wp2_with fail
      go_ret2
      exact ⟨_, by rw [HE.out]; rfl, by rw [HRR.out]; exact Own8.nil _ _, hb1.trans (hb2.mono hb1.size)⟩
    | true =>
      rw [hb] at hgood
      have HE2 := Lib.hid (show readEP (absD S) nm.data.toList = if lookN S.now nm.data.toList = none then 90 else 0 by rw [HE1.out, if_neg (by unfold badN; rw [hb]; simp)])
      clear hb
      cases hl : lookN S.now nm.data.toList with
      | none =>
        have HE := Lib.hid (show readEP (absD S) nm.data.toList = 90 by rw [HE2.out, if_pos hl])
        have HRR := Lib.hid (show readP (absD S) nm.data.toList = [] by rw [HR0.out, HE.out]; rfl)
        have hq := HQ.out
        rw [hl] at hq
        unfold fileV at hq
        injection hq with hq
        subst hq
        clear hl
        go_enter Tryz.func43, Tryz.ntmps43
        go_wp2_with fail
        refine hdown.mono ?_
        rintro e w1 ⟨rfl, hb1⟩
        clear hdown
        go_wp2_with fail
        refine (hgood _).mono ?_
        rintro e w2 ⟨rfl, hb2⟩
        clear hgood
        go_wp2_with fail
        go_ret2
        exact ⟨_, by rw [HE.out]; rfl, by rw [HRR.out]; exact Own8.nil _ _, hb1.trans (hb2.mono hb1.size)⟩
      | some g =>
        have HE := Lib.hid (show readEP (absD S) nm.data.toList = 0 by rw [HE2.out, if_neg (by rw [hl]; simp)])
        have hq := HQ.out
        rw [hl] at hq
        unfold fileV at hq
        injection hq with hq
        subst hq
        have hmem := lookN_mem _ _ _ hl
        have hfile := h.nowF _ hmem
        simp only at hfile
        have hat : atP (absD S) nm.data.toList = noF S.files g := by unfold atP; rw [abs_look, hl]; rfl
        have HRR := Lib.hid (show readP (absD S) nm.data.toList = datF S g by rw [HR0.out, if_pos HE.out, hat, abs_dat hfile])
        have hdl := dat_le_used hmem
        simp only at hdl
        obtain ⟨f, hfm, hfg⟩ := hfile
        obtain ⟨i, hi, ei⟩ := List.getElem_of_mem hfm
        have hfi : S.files[i]? = some f := by rw [List.getElem?_eq_getElem hi, ei]
        have hdf := datF_mem h.apart hfm
        rw [hfg] at hdf
        subst hfg
        rw [hdf] at hdl
        have HDF := Lib.hid hdf
        have HFI := Lib.hid hfi
        clear hl hat hmem hfm hi ei hdf hfi
        go_enter Tryz.func43, Tryz.ntmps43
        go_wp2_with fail
        refine hdown.mono ?_
        rintro e w1 ⟨rfl, hb1⟩
        clear hdown
        go_wp2_with fail
        refine (hgood _).mono ?_
        rintro e w2 ⟨rfl, hb2⟩
        clear hgood
        have hB := hb1.trans (hb2.mono hb1.size)
        obtain ⟨b1, b2, b3, b4, b5⟩ := (h.below hB).files i f HFI.out
        obtain ⟨pv, cv, hval, hc1, hc2, hin⟩ := b2.in8n rfl
        have c1 : w2.cell? ⟨f.blk, 1, none⟩ = some (.slice pv f.data.length cv) := by rw [cell_of_row _ _ _ _ _ _ b1, ← hval]; rfl
        have hcl := cloneB_any f.data pv _ cv rfl (by omega) (fun e => by
          subst e
          rcases b2.2 with ⟨e, _⟩ | ⟨g', cap, cur, e, _⟩
          · rw [hval] at e; injection e
          · rw [hval] at e; injection e with e; cases e) w2 hin
        have HB := Lib.hid hB
        clear b1 b2 b3 b4 b5 hval hc1 hc2 hin hB
        go_wp2_with fail
        refine hcl.mono ?_
        rintro e w3 ⟨v, rfl, hown, hb3⟩
        clear hcl
        go_wp2_with fail
        go_ret2
        have hB := HB.out
        exact ⟨_, by rw [HE.out]; rfl, by rw [HRR.out, HDF.out]; exact hown.mono hB.size, hB.trans (hb3.mono hB.size)⟩
end Go.Proofs.YtheoklhmlnfgjaaGreatDoor
/-
  Read of a disk, in the words of the laws.
-/
namespace Go.Proofs.YtheoklhmlnfgjaaGreatDoor
open Go.RowKit Go.Maps

theorem read_dp {n : Nat} {w0 W : World} {dd : Nat} {A : Pl} (h : DP w0 dd A W) (hA : GoodA n A) (hn : n ≤ 1000000) (nm : ByteArray) (hnm : nm.size ≤ 140737488351232) :
    Calls Tryz.prog 43 #[.pointer (some ⟨dd, 0, none⟩), .string nm] W fun e w' => ∃ p c, e = .returned (.tuple #[.slice p (readP A nm.data.toList).length c, .int .i64 (readEP A nm.data.toList)]) ∧ In8 w' p (readP A nm.data.toList) ∧ (readP A nm.data.toList).length ≤ c ∧ c ≤ maxLen ∧ (∀ a, p = some a → W.heap.size ≤ a.block) ∧ Own8 w' W.heap.size (.slice p (readP A nm.data.toList).length c) (readP A nm.data.toList) ∧ Below W.heap.size W w' := by
  obtain ⟨P, h1, h2, h3⟩ := h
  refine (read_p h1 nm hnm (hA.fitP hn).used).mono fun e w' hp => ?_
  obtain ⟨v, rfl, hown, hb⟩ := hp
  have hown2 := hown
  obtain ⟨p, c, rfl, h4, h5, hin⟩ := hown.in8n rfl
  refine ⟨p, c, rfl, hin, h4, h5, fun a ha => ?_, hown2, hb⟩
  subst ha
  exact (World.ownsRow.lt hown2 a.block rfl).1
theorem readP_len {n : Nat} {A : Pl} (hA : GoodA n A) (k : BS) : (readP A k).length ≤ 140737488351232 := by
  unfold readP
  split
  · unfold datP
    cases hx : A.files[atP A k]? with
    | none => simp
    | some y =>
      have := hA.dat y (List.mem_of_getElem? hx)
      simp only [Option.map_some, Option.getD_some]
      exact this
  · simp
end Go.Proofs.YtheoklhmlnfgjaaGreatDoor
/-
  first: steps up to the first that answers an error.
-/
namespace Go.Proofs.YtheoklhmlnfgjaaGreatDoor
open Go.RowKit Go.Maps

/-- the state behind the first k steps, all of them done -/
def stA (A : Pl) (L : List Opp) (k : Nat) : Pl := (L.take k).foldl (fun A o => (doP A o).1) A
def stE (A : Pl) (L : List Opp) (k : Nat) : Int := match L[k]? with | some o => (doP (stA A L k) o).2 | none => 0
/-- steps up to the first that answers an error: the state behind, how many answered OK, the error -/
def stepsP : Pl → List Opp → Pl × Nat × Int
  | A, [] => (A, 0, 0)
  | A, o :: L => if (doP A o).2 ≠ 0 then ((doP A o).1, 0, (doP A o).2) else ((stepsP (doP A o).1 L).1, (stepsP (doP A o).1 L).2.1 + 1, (stepsP (doP A o).1 L).2.2)
theorem stA_zero (A : Pl) (L : List Opp) : stA A L 0 = A := by simp [stA]
theorem stA_cons (A : Pl) (o : Opp) (L : List Opp) (k : Nat) : stA A (o :: L) (k + 1) = stA (doP A o).1 L k := by simp [stA]
theorem stE_cons (A : Pl) (o : Opp) (L : List Opp) (k : Nat) : stE A (o :: L) (k + 1) = stE (doP A o).1 L k := by unfold stE; rw [List.getElem?_cons_succ, stA_cons]
theorem stE_zero (A : Pl) (o : Opp) (L : List Opp) : stE A (o :: L) 0 = (doP A o).2 := by simp [stE, stA]
theorem stA_succ (A : Pl) (L : List Opp) {k : Nat} (h : k < L.length) : stA A L (k + 1) = (doP (stA A L k) L[k]).1 := by
  unfold stA
  rw [List.take_succ_eq_append_getElem h, List.foldl_append]
  rfl
theorem stE_get (A : Pl) (L : List Opp) {k : Nat} (h : k < L.length) : stE A L k = (doP (stA A L k) L[k]).2 := by
  unfold stE
  rw [List.getElem?_eq_getElem h]
theorem steps_err : ∀ (L : List Opp) (A : Pl) (k : Nat), k < L.length → (∀ j, j < k → stE A L j = 0) → stE A L k ≠ 0 → stepsP A L = (stA A L (k + 1), k, stE A L k)
  | [], _, _, h, _, _ => absurd h (by simp)
  | o :: L, A, 0, _, _, h3 => by
    rw [stE_zero] at h3
    unfold stepsP
    rw [if_pos h3, stE_zero, stA_cons, stA_zero]
  | o :: L, A, k + 1, h1, h2, h3 => by
    have h0 := h2 0 (by omega)
    rw [stE_zero] at h0
    rw [stE_cons] at h3
    have := steps_err L (doP A o).1 k (by simpa using h1) (fun j hj => by have := h2 (j + 1) (by omega); rwa [stE_cons] at this) h3
    unfold stepsP
    rw [if_neg (by simp [h0]), this, stA_cons, stE_cons]
theorem steps_ok : ∀ (L : List Opp) (A : Pl), (∀ j, j < L.length → stE A L j = 0) → stepsP A L = (stA A L L.length, L.length, 0)
  | [], A, _ => rfl
  | o :: L, A, h2 => by
    have h0 := h2 0 (by simp)
    rw [stE_zero] at h0
    have := steps_ok L (doP A o).1 (fun j hj => by have := h2 (j + 1) (by simpa using hj); rwa [stE_cons] at this)
    unfold stepsP
    rw [if_neg (by simp [h0]), this, List.length_cons, stA_cons]

set_option maxRecDepth 100000 in
set_option maxHeartbeats 4000000 in
/-- first, whatever the steps are: St k is what holds when k steps are over -/
theorem first_any (vs : List Value) (n c : Nat) (hn : vs.length = n) (hnl : n ≤ 1000) (p : Option Addr) (St : Nat → World → Prop) (er : Nat → Int)
    (hrow : ∀ k W, St k W → InV W p vs)
    (hv : ∀ k, k < n → ∃ g pre cap, vs[k]? = some (.func (.func g) pre cap) ∧ (∀ args w, (callFunc g args).run Tryz.prog w = .ok (.enter g args) w) ∧ ∀ W, St k W → Calls Tryz.prog g (pre ++ cap) W fun e w' => e = .returned (.int .i64 (er k)) ∧ St (k + 1) w')
    (w : World) (h0 : St 0 w) :
    Calls Tryz.prog 44 #[.slice p n c] w fun e w' =>
      (∃ k, k < n ∧ e = .returned (.tuple #[.int .i64 k, .int .i64 (er k)]) ∧ er k ≠ 0 ∧ (∀ j, j < k → er j = 0) ∧ St (k + 1) w') ∨ (e = .returned (.tuple #[.int .i64 n, .int .i64 0]) ∧ (∀ j, j < n → er j = 0) ∧ St n w') := by
  go_enter Tryz.func44, Tryz.ntmps44
  go_wp2_with fail
  go_loopw [9] (fun i wr => ∃ k : Nat, k ≤ n ∧ i = .int .i64 k ∧ St k wr ∧ ∀ j, j < k → er j = 0) (fun i _ => n - (intOf i).toNat)
  case atStart => exact ⟨0, Nat.zero_le _, rfl, h0, fun j hj => absurd hj (by omega)⟩
  case round =>
    obtain ⟨k, hk, rfl, hst, hz⟩ := hrel
    by_cases hlt : k < n
    · obtain ⟨b, o, rfl, hc⟩ := hrow k wr hst (by omega)
      obtain ⟨g, pre, cap, hg, hen, hcall⟩ := hv k hlt
      have hc0 := hc k (by omega)
      rw [List.getElem?_eq_getElem (by omega)] at hg
      rw [Option.some.inj hg] at hc0
      have hca := hcall wr hst
      have H := Lib.hid hz
      clear hst hz hcall hc
      go_wp2_with fail
      refine hca.mono ?_
      rintro e w2 ⟨rfl, hst2⟩
      have HS := Lib.hid hst2
      clear hst2 hca hc0
      by_cases hz : er k = 0
      · rw [hz]
        have HZ := Lib.hid hz
        clear hz
        go_wp2_with fail
        go_roundw
        case rel => exact ⟨k + 1, hlt, by go_num, HS.out, fun j hj => by
          rcases Nat.lt_or_ge j k with h | h
          · exact H.out j h
          · obtain rfl : j = k := by omega
            exact HZ.out⟩
        case measure => simp [intOf]; omega
      · obtain ⟨z, hz2⟩ : ∃ z, z = er k := ⟨_, rfl⟩
        rw [← hz2] at hz ⊢
        have q1 : (z == 0) = false := beq_eq_false_iff_ne.2 hz
        have q2 : (z != 0) = true := by simp [bne, q1]
        have HZ := Lib.hid (And.intro hz hz2)
        clear hz hz2
        go_wp2_with fail
        exact bodyPost_ret (results_tmp2 rfl _ _ _) rfl (.inl ⟨k, hlt, by rw [← HZ.out.2]; rfl, by rw [← HZ.out.2]; exact HZ.out.1, H.out, HS.out⟩)
    · obtain rfl : k = n := by omega
      have H := Lib.hid (And.intro hst hz)
      clear hst hz
      go_wp2_with fail
      exact bodyPost_ret (results_tmp2 rfl _ _ _) rfl (.inr ⟨rfl, H.out.2, H.out.1⟩)
end Go.Proofs.YtheoklhmlnfgjaaGreatDoor
/-
  A disk beside blocks that it does not touch; the steps that the log hands on.
-/
namespace Go.Proofs.YtheoklhmlnfgjaaGreatDoor
open Go.RowKit Go.Maps

/-- a disk that was DiskP at w; none of it in the blocks N; only blocks of P and new ones have turned since w -/
def DK (w : World) (P N : Nat → Prop) (dd : Nat) (A : Pl) (W : World) : Prop := (∃ P', DiskP W P' dd A ∧ ∀ g, P' g → (P g ∨ w.heap.size ≤ g) ∧ ¬ N g) ∧ (∀ g, N g → g < W.heap.size) ∧ Only P w W
section
variable {w W W' : World} {P N : Nat → Prop} {dd : Nat} {A : Pl}
theorem Only.then {Q : Nat → Prop} (h : Only P w W) (hb : Only Q W W') (hQ : ∀ g, Q g → P g ∨ w.heap.size ≤ g) : Only P w W' :=
  ⟨hb.os.trans h.os, hb.tape.trans h.tape, hb.output.trans h.output, Nat.le_trans h.size hb.size, fun k hk hn => (hb.block k (Nat.lt_of_lt_of_le hk h.size) fun e => by
    rcases hQ k e with e | e
    · exact hn e
    · omega).trans (h.block k hk hn)⟩
theorem Only.wide {Q : Nat → Prop} (h : Only P w W) (hQ : ∀ g, P g → Q g) : Only Q w W := ⟨h.os, h.tape, h.output, h.size, fun k hk hn => h.block k hk fun e => hn (hQ k e)⟩
theorem Below.only (hb : Below W.heap.size W W') : Only P W W' := ⟨hb.os, hb.tape, hb.output, hb.size, fun k hk _ => hb.block k hk⟩
theorem DK.begin (h : DiskP w P dd A) (hb : Below w.heap.size w W) (hN : ∀ g, N g → g < W.heap.size ∧ (w.heap.size ≤ g ∨ ¬ P g)) : DK w P N dd A W := by
  refine ⟨⟨_, h.shrink.below hb, fun g hg => ⟨.inl hg.1, fun e => ?_⟩⟩, fun g hg => (hN g hg).1, Below.only hb⟩
  rcases (hN g e).2 with e2 | e2
  · have := hg.2; omega
  · exact e2 hg.1
theorem DK.add (h : DK w P N dd A W) (hb : Below W.heap.size W W') (N' : Nat → Prop) (hN : ∀ g, N' g → N g ∨ (W.heap.size ≤ g ∧ g < W'.heap.size)) : DK w P N' dd A W' := by
  obtain ⟨⟨P', h1, h2⟩, h3, h4⟩ := h
  refine ⟨⟨_, h1.shrink.below hb, fun g hg => ⟨(h2 g hg.1).1, fun e => ?_⟩⟩, fun g hg => ?_, h4.then (Below.only (P := fun _ => False) hb) fun g hg => hg.elim⟩
  · rcases hN g e with e | e
    · exact (h2 g hg.1).2 e
    · have := hg.2; omega
  · rcases hN g hg with e | e
    · exact Nat.lt_of_lt_of_le (h3 g e) hb.size
    · exact e.2
theorem DK.below (h : DK w P N dd A W) (hb : Below W.heap.size W W') : DK w P N dd A W' := h.add hb N fun _ hg => .inl hg
theorem DK.step {o : Opp} {e : Ending} {P' : Nat → Prop} (h2 : ∀ g, P' g → (P g ∨ w.heap.size ≤ g) ∧ ¬ N g) (h3 : ∀ g, N g → g < W.heap.size) (h4 : Only P w W) (hp : StepPost W P' dd A o e W') :
    DK w P N dd (doP A o).1 W' ∧ ∀ g, N g → W'.heap[g]? = W.heap[g]? := by
  obtain ⟨_, ⟨P2, g1, g2⟩, ho⟩ := hp
  refine ⟨⟨⟨P2, g1, fun g hg => ?_⟩, fun g hg => Nat.lt_of_lt_of_le (h3 g hg) ho.size, h4.then ho fun g hg => (h2 g hg).1⟩, fun g hg => ho.block g (h3 g hg) fun e => (h2 g e).2 hg⟩
  rcases g2 g hg with e | e
  · exact h2 g e
  · exact ⟨.inr (Nat.le_trans h4.size e), fun e2 => by have := h3 g e2; omega⟩
/-- a call of a step -/
theorem DK.call {f : FuncId} {args : Array Value} {o : Opp} (h : DK w P N dd A W) (hc : ∀ P', DiskP W P' dd A → Calls Tryz.prog f args W (StepPost W P' dd A o)) :
    Calls Tryz.prog f args W fun e W' => e = .returned (.int .i64 (doP A o).2) ∧ DK w P N dd (doP A o).1 W' ∧ ∀ g, N g → W'.heap[g]? = W.heap[g]? := by
  obtain ⟨⟨P', h1, h2⟩, h3, h4⟩ := h
  exact (hc P' h1).mono fun e W' hp => ⟨hp.1, DK.step h2 h3 h4 hp⟩
end

/-- the names of the log's files -/
def logN : BS := [108, 111, 103]
def newN : BS := [108, 111, 103, 46, 110, 101, 119]

section
variable {W : World} {P : Nat → Prop} {dd bd lb bb : Nat} {A : Pl} {cv : Value}
set_option maxRecDepth 100000
theorem open1_any (h : DiskP W P dd A) (hc : W.cell? ⟨bd, 0, none⟩ = some (.pointer (some ⟨dd, 0, none⟩))) (hfit : FitP A) : Calls Tryz.prog 45 #[.pointer (some ⟨bd, 0, none⟩)] W (StepPost W P dd A (.create logN)) := by
  have hcall := create_p h ⟨#[108, 111, 103]⟩ (by decide) hfit
  go_enter Tryz.func45, Tryz.ntmps45
  go_wp2_with fail
  refine hcall.mono ?_
  rintro e w2 ⟨rfl, hr⟩
  go_wp2_with fail
  go_ret
  exact ⟨rfl, hr⟩
theorem open2_any (h : DiskP W P dd A) (hc : W.cell? ⟨bd, 0, none⟩ = some (.pointer (some ⟨dd, 0, none⟩))) (hfit : FitP A) : Calls Tryz.prog 47 #[.pointer (some ⟨bd, 0, none⟩)] W (StepPost W P dd A (.sync logN)) := by
  have hcall := sync_p h ⟨#[108, 111, 103]⟩ (by decide) hfit
  go_enter Tryz.func47, Tryz.ntmps47
  go_wp2_with fail
  refine hcall.mono ?_
  rintro e w2 ⟨rfl, hr⟩
  go_wp2_with fail
  go_ret
  exact ⟨rfl, hr⟩
theorem rew1_any (h : DiskP W P dd A) (hc : W.cell? ⟨bd, 0, none⟩ = some (.pointer (some ⟨lb, 0, none⟩))) (hl : W.cell? ⟨lb, 0, none⟩ = some (.pointer (some ⟨dd, 0, none⟩))) (hfit : FitP A) : Calls Tryz.prog 59 #[.pointer (some ⟨bd, 0, none⟩)] W (StepPost W P dd A (.create newN)) := by
  have hcall := create_p h ⟨#[108, 111, 103, 46, 110, 101, 119]⟩ (by decide) hfit
  go_enter Tryz.func59, Tryz.ntmps59
  go_wp2_with fail
  refine hcall.mono ?_
  rintro e w2 ⟨rfl, hr⟩
  go_wp2_with fail
  go_ret
  exact ⟨rfl, hr⟩
theorem rew2_any (h : DiskP W P dd A) (hc : W.cell? ⟨bd, 0, none⟩ = some (.pointer (some ⟨lb, 0, none⟩))) (hl : W.cell? ⟨lb, 0, none⟩ = some (.pointer (some ⟨dd, 0, none⟩))) (p : Option Addr) (n c : Nat) (l : BS) (hb : W.cell? ⟨bb, 0, none⟩ = some (.slice p n c)) (hn : l.length = n) (hnl : n ≤ 140737488351232) (hin : In8 W p l) (hfit : FitP A) : Calls Tryz.prog 60 #[.pointer (some ⟨bd, 0, none⟩), .pointer (some ⟨bb, 0, none⟩)] W (StepPost W P dd A (.append newN l)) := by
  have hb2 : Below W.heap.size W W.drew := (Below.refl _ W).drew
  have HC := Lib.hid (show Calls Tryz.prog 61 #[.pointer (some ⟨dd, 0, none⟩), .string ⟨#[108, 111, 103, 46, 110, 101, 119]⟩, .slice p n c] W.drew fun e w' => e = .returned (.int .i64 (doP A (.append newN l)).2) ∧ StepPost W P dd A (.append newN l) e w' from
    (append_p (h.below hb2) ⟨#[108, 111, 103, 46, 110, 101, 119]⟩ (by decide) l p n c hn hnl (hin.below hb2) hfit).mono fun _ _ hp => ⟨hp.1, StepPost.from hb2 hp⟩)
  clear h hin hn hnl hfit hb2
  go_enter Tryz.func60, Tryz.ntmps60
  go_wp2_with fail
  go_region_with (go_at_call 61; with_reducible refine HC.out.mono ?_; rintro e w2 ⟨rfl, hr⟩; have HR := Lib.hid hr; clear hr)
  all_goals
    go_wp2_with fail
    go_ret
    exact HR.out
theorem rew3_any (h : DiskP W P dd A) (hc : W.cell? ⟨bd, 0, none⟩ = some (.pointer (some ⟨lb, 0, none⟩))) (hl : W.cell? ⟨lb, 0, none⟩ = some (.pointer (some ⟨dd, 0, none⟩))) (hfit : FitP A) : Calls Tryz.prog 62 #[.pointer (some ⟨bd, 0, none⟩)] W (StepPost W P dd A (.sync newN)) := by
  have hcall := sync_p h ⟨#[108, 111, 103, 46, 110, 101, 119]⟩ (by decide) hfit
  go_enter Tryz.func62, Tryz.ntmps62
  go_wp2_with fail
  refine hcall.mono ?_
  rintro e w2 ⟨rfl, hr⟩
  go_wp2_with fail
  go_ret
  exact ⟨rfl, hr⟩
theorem rew4_any (h : DiskP W P dd A) (hc : W.cell? ⟨bd, 0, none⟩ = some (.pointer (some ⟨lb, 0, none⟩))) (hl : W.cell? ⟨lb, 0, none⟩ = some (.pointer (some ⟨dd, 0, none⟩))) (hfit : FitP A) : Calls Tryz.prog 63 #[.pointer (some ⟨bd, 0, none⟩)] W (StepPost W P dd A (.rename newN logN)) := by
  have hcall := rename_p h ⟨#[108, 111, 103, 46, 110, 101, 119]⟩ ⟨#[108, 111, 103]⟩ (by decide) (by decide) hfit
  go_enter Tryz.func63, Tryz.ntmps63
  go_wp2_with fail
  refine hcall.mono ?_
  rintro e w2 ⟨rfl, hr⟩
  go_wp2_with fail
  go_ret
  exact ⟨rfl, hr⟩
end
end Go.Proofs.YtheoklhmlnfgjaaGreatDoor
/-
  The log, as plain functions over the plain disk.
-/
namespace Go.Proofs.YtheoklhmlnfgjaaGreatDoor

/-- what is written of records, the i-th bears the number i; the first error -/
def encB : List Rcd → Nat → BS
  | [], _ => []
  | x :: L, i => encOf (i : Int) x.op x.no x.ident ++ encB L (i + 1)
def encZ : List Rcd → Nat → Int
  | [], _ => 0
  | x :: L, i => if encErr (i : Int) x.op x.no x.ident.length ≠ 0 then encErr (i : Int) x.op x.no x.ident.length else encZ L (i + 1)
theorem encB_app : ∀ (L M : List Rcd) (i : Nat), encB (L ++ M) i = encB L i ++ encB M (i + L.length)
  | [], M, i => by simp [encB]
  | x :: L, M, i => by
    rw [List.cons_append]
    unfold encB
    rw [encB_app L M (i + 1), List.append_assoc, List.length_cons, show i + 1 + L.length = i + (L.length + 1) by omega]
    cases M <;> rfl
theorem encZ_app : ∀ (L M : List Rcd) (i : Nat), encZ L i = 0 → encZ (L ++ M) i = encZ M (i + L.length)
  | [], M, i, _ => by simp
  | x :: L, M, i, h => by
    rw [List.cons_append]
    unfold encZ at h ⊢
    by_cases h0 : encErr (i : Int) x.op x.no x.ident.length ≠ 0
    · rw [if_pos h0] at h; exact absurd h h0
    · rw [if_neg h0] at h ⊢
      rw [encZ_app L M (i + 1) h, List.length_cons, show i + 1 + L.length = i + (L.length + 1) by omega]
      cases M <;> rfl
theorem encZ_bad : ∀ (L M : List Rcd) (i : Nat), encZ L i ≠ 0 → encZ (L ++ M) i = encZ L i
  | [], M, i, h => absurd rfl h
  | x :: L, M, i, h => by
    rw [List.cons_append]
    unfold encZ at h ⊢
    by_cases h0 : encErr (i : Int) x.op x.no x.ident.length ≠ 0
    · rw [if_pos h0, if_pos h0]
    · rw [if_neg h0] at h
      rw [if_neg h0, if_neg h0]
      exact encZ_bad L M (i + 1) h
theorem encB_snoc {L : List Rcd} {k : Nat} (h : k < L.length) : encB (L.take (k + 1)) 0 = encB (L.take k) 0 ++ encOf (k : Int) L[k].op L[k].no L[k].ident := by
  rw [List.take_succ_eq_append_getElem h, encB_app, List.length_take, Nat.min_eq_left (by omega), Nat.zero_add]
  simp [encB]
theorem encZ_snoc {L : List Rcd} {k : Nat} (h : k < L.length) (h0 : encZ (L.take k) 0 = 0) : encZ (L.take (k + 1)) 0 = encErr (k : Int) L[k].op L[k].no L[k].ident.length := by
  rw [List.take_succ_eq_append_getElem h, encZ_app _ _ _ h0, List.length_take, Nat.min_eq_left (by omega), Nat.zero_add]
  simp only [encZ]
  split
  · rfl
  · rename_i h1; simpa using (Classical.not_not.1 h1).symm
theorem encZ_at {L : List Rcd} {k : Nat} (h : k < L.length) (h0 : encZ (L.take k) 0 = 0) (h1 : encErr (k : Int) L[k].op L[k].no L[k].ident.length ≠ 0) : encZ L 0 = encErr (k : Int) L[k].op L[k].no L[k].ident.length := by
  have := encZ_snoc h h0
  rw [← this] at h1 ⊢
  rw [← encZ_bad (L.take (k + 1)) (L.drop (k + 1)) 0 h1, List.take_append_drop]
theorem encErr_len {s o n : Int} {k : Nat} (h : encErr s o n k = 0) : k ≤ 4096 := by
  unfold encErr at h
  repeat' split at h
  all_goals first | omega | (exfalso; revert h; decide) | skip
theorem encOf_length (s o n : Int) (id : BS) : (encOf s o n id).length ≤ 4111 := by
  unfold encOf
  split
  · rename_i h
    have := encErr_len h
    rw [encAll_len]
    omega
  · simp
theorem encB_length : ∀ (L : List Rcd) (i : Nat), (encB L i).length ≤ 4111 * L.length
  | [], _ => by simp [encB]
  | x :: L, i => by
    unfold encB
    rw [List.length_append, List.length_cons]
    have := encOf_length (i : Int) x.op x.no x.ident
    have := encB_length L (i + 1)
    omega

/-- another list of records: the disk, the count, the answer -/
def rewriteP (A : Pl) (n : Int) (L : List Rcd) : Pl × Int × Int :=
  if encZ L 0 ≠ 0 then (A, n, encZ L 0)
  else
    let s := stepsP A [.create newN, .append newN (encB L 0), .sync newN, .rename newN logN]
    if s.2.1 = 4 then ((doP s.1 .names).1, (L.length : Int), (doP s.1 .names).2)
    else if s.2.1 = 0 then (s.1, n, s.2.2) else ((doP s.1 (.remove newN)).1, n, s.2.2)
/-- one record more -/
def addP (A : Pl) (n op no : Int) (id : BS) : Pl × Int × Int :=
  if encErr n op no id.length ≠ 0 then (A, n, encErr n op no id.length)
  else if (doP A (.append logN (encOf n op no id))).2 ≠ 0 then ((doP A (.append logN (encOf n op no id))).1, n, (doP A (.append logN (encOf n op no id))).2)
  else ((doP (doP A (.append logN (encOf n op no id))).1 (.sync logN)).1, n + 1, (doP (doP A (.append logN (encOf n op no id))).1 (.sync logN)).2)
/-- a log that was begun and not ended is taken away -/
def sweepP (A : Pl) : Pl × Int := if newN ∈ listP A then doP A (.remove newN) else (A, 0)
/-- the log of a disk: the disk behind, the records, the answer -/
def openP (A : Pl) : Pl × List Rcd × Int :=
  let s := sweepP A
  if s.2 ≠ 0 then (s.1, [], s.2)
  else if readEP s.1 logN = 90 then
    let t := stepsP s.1 [.create logN, .sync logN, .names]
    (t.1, [], t.2.2)
  else if readEP s.1 logN ≠ 0 then (s.1, [], readEP s.1 logN)
  else
    let b := readP s.1 logN
    if repN b < b.length then
      let r := rewriteP s.1 0 (repR b)
      if r.2.2 ≠ 0 then (r.1, [], r.2.2) else (r.1, repR b, 0)
    else (s.1, repR b, 0)

/-- no file is longer than 2^30 bytes -/
def DatS (A : Pl) : Prop := ∀ f ∈ A.files, f.1.length ≤ 1073741824
theorem datS_do {A : Pl} (hd : DatS A) (hr : A.room ≤ 1073741824) (o : Opp) : DatS (doP A o).1 := by
  have ht := tick_rest A
  have e0 : DatS (tickP A) := by unfold DatS; rw [ht.2.2.1]; exact hd
  have e1 : ∀ c, DatS (chgP A c) := fun c => by show ∀ f ∈ (tickP A).files, _; rw [ht.2.2.1]; exact hd
  cases o with
  | create k =>
    rw [doP_create]
    (repeat' split) <;> first | exact e0 | skip
    intro f hf
    rcases List.mem_append.1 hf with e | e
    · exact hd f e
    · rw [List.mem_singleton.1 e]; exact Nat.zero_le _
  | append k d =>
    rw [doP_append]
    split
    · exact e0
    · rename_i h1
      split
      · exact e0
      · rename_i h2
        obtain ⟨_, _, g3⟩ := onP_zero (by simpa using h1)
        have hu : lenF A.files (atP A k) ≤ usedP A := lenF_used g3
        intro f hf
        have hf : f ∈ A.files.modify (atP A k) fun x => (x.1 ++ d, x.2) := hf
        obtain ⟨i, hi, e⟩ := List.getElem_of_mem hf
        rw [List.length_modify] at hi
        rw [List.getElem_modify] at e
        split at e
        · rename_i e2
          subst e2
          have : lenF A.files (atP A k) = A.files[atP A k].1.length := by unfold lenF; rw [List.getElem?_eq_getElem hi]; rfl
          rw [← e]
          simp only [List.length_append]
          rcases Nat.eq_zero_or_pos d.length with h0 | h0
          · have := hd _ (List.getElem_mem hi); omega
          · have : ¬ A.room < usedP A + d.length := fun e => h2 ⟨h0, e⟩
            omega
        · rw [← e]; exact hd _ (List.getElem_mem hi)
  | sync k =>
    rw [doP_sync]
    split
    · exact e0
    · exact modify_all (P := fun x : BS × Nat => x.1.length ≤ 1073741824) (u := fun x : BS × Nat => (x.1, x.1.length)) (fun x hx => hx) _ _ hd
  | names =>
    rw [doP_names]
    split
    · exact e0
    · exact e0
  | rename a b =>
    rw [doP_rename]
    (repeat' split) <;> first | exact e0 | exact e1 _
  | remove k =>
    rw [doP_remove]
    (repeat' split) <;> first | exact e0 | exact e1 _
structure GoodS (n : Nat) (A : Pl) : Prop where
  good : GoodA n A
  dat : DatS A
theorem GoodS.step {n : Nat} {A : Pl} (h : GoodS n A) (o : Opp) : GoodS (n + 1) (doP A o).1 := ⟨h.good.step o, datS_do h.dat h.good.fit.room o⟩
theorem GoodA.more {n m : Nat} {A : Pl} (h : GoodA n A) (hm : n ≤ m) : GoodA m A :=
  ⟨h.inv, ⟨by have := h.fit.steps; omega, by have := h.fit.pend; omega, by have := h.fit.now; omega, by have := h.fit.safe; omega, by have := h.fit.files; omega, h.fit.fails, h.fit.used, h.fit.room⟩, h.dat⟩
theorem GoodS.more {n m : Nat} {A : Pl} (h : GoodS n A) (hm : n ≤ m) : GoodS m A := ⟨h.good.more hm, h.dat⟩
theorem GoodS.fitP {n : Nat} {A : Pl} (h : GoodS n A) (hn : n ≤ 1000000) : FitP A := h.good.fitP hn
theorem GoodS.st {n : Nat} {A : Pl} (h : GoodS n A) (L : List Opp) : ∀ k, k ≤ L.length → GoodS (n + k) (stA A L k)
  | 0, _ => by rw [stA_zero]; exact h
  | k + 1, hk => by
    rw [stA_succ A L (by omega)]
    exact (GoodS.st h L k (by omega)).step _
theorem GoodS.steps {n : Nat} : ∀ (L : List Opp) {A : Pl} (_ : GoodS n A), GoodS (n + L.length) (stepsP A L).1
  | [], A, h => by exact h
  | o :: L, A, h => by
    unfold stepsP
    split
    · exact (h.step o).more (by simp only [List.length_cons]; omega)
    · have := (GoodS.steps (n := n + 1) L (h.step o)).more (m := n + (o :: L).length) (by simp only [List.length_cons]; omega)
      exact this
theorem GoodS.readP {n : Nat} {A : Pl} (h : GoodS n A) (k : BS) : (readP A k).length ≤ 1073741824 := by
  unfold Go.Proofs.YtheoklhmlnfgjaaGreatDoor.readP
  split
  · unfold datP
    cases hx : A.files[atP A k]? with
    | none => simp
    | some y =>
      simp only [Option.map_some, Option.getD_some]
      exact h.dat y (List.mem_of_getElem? hx)
  · simp
theorem GoodS.sweep {n : Nat} {A : Pl} (h : GoodS n A) : GoodS (n + 1) (sweepP A).1 := by
  unfold sweepP
  split
  · exact h.step _
  · exact h.more (by omega)
theorem GoodS.rewrite {n : Nat} {A : Pl} (h : GoodS n A) (c : Int) (L : List Rcd) : GoodS (n + 5) (rewriteP A c L).1 := by
  have hs := GoodS.steps [.create newN, .append newN (encB L 0), .sync newN, .rename newN logN] h
  unfold rewriteP
  split
  · exact h.more (by omega)
  · simp only
    split
    · exact hs.step _
    · split
      · exact hs.more (by simp only [List.length_cons, List.length_nil]; omega)
      · exact hs.step _
theorem GoodS.add {n : Nat} {A : Pl} (h : GoodS n A) (c op no : Int) (id : BS) : GoodS (n + 2) (addP A c op no id).1 := by
  unfold addP
  split
  · exact h.more (by omega)
  · split
    · exact (h.step _).more (by omega)
    · exact (h.step _).step _
theorem GoodS.open {n : Nat} {A : Pl} (h : GoodS n A) : GoodS (n + 6) (openP A).1 := by
  have hs := h.sweep
  unfold openP
  simp only
  split
  · exact hs.more (by omega)
  · split
    · exact (GoodS.steps [.create logN, .sync logN, .names] hs).more (by simp only [List.length_cons, List.length_nil]; omega)
    · split
      · exact hs.more (by omega)
      · split
        · split
          · exact (hs.rewrite 0 _)
          · exact (hs.rewrite 0 _)
        · exact hs.more (by omega)
end Go.Proofs.YtheoklhmlnfgjaaGreatDoor
/-
  A store beside a disk; Steps of a disk.
-/
namespace Go.Proofs.YtheoklhmlnfgjaaGreatDoor
open Go.RowKit Go.Maps
set_option linter.unusedVariables false

/-- a store into a block that is none of the disk's -/
theorem DiskAt.elseAt {w w' : World} {P : Nat → Prop} {dd x : Nat} {S : DiskC} {cs : Array Value} {T : TypeId} {fr : Nat × Nat} (h : DiskAt w P dd S) (hx : w.heap[x]? = some (.cells cs T fr)) (hP : ¬ P x) (h1 : 117 ≠ T) (h2 : 9 ≠ T)
    (h0 : ∀ z, cs[0]? ≠ some (.int .i64 z)) (hE : Else w w' x) : DiskAt w' P dd S where
  blk := (hE _ (fun e => hP (e ▸ h.inP.1))).trans h.blk
  now := h.now.kept (hE _ (fun e => hP (e ▸ h.inP.2.1)))
  safe := h.safe.kept (hE _ (fun e => hP (e ▸ h.inP.2.2.1)))
  ne := h.ne
  row := rowElse h.row hE (fun e => hP (h.inP.2.2.2 x e))
  chg := fun i v c hv hc => ⟨chgElse (h.chg i v c hv hc).1 hE hx h1 h2, (h.chg i v c hv hc).2⟩
  fails := ⟨h.fails.1, invElse h.fails.2.1 hE (fun a ha hn e => by
    have hn : 0 < S.fails.length := by simpa using hn
    obtain ⟨b, o, e2, hc⟩ := h.fails.2.1 (by simpa using hn)
    have ho : o = 0 := by
      have e3 : S.fq.map (fun b => (⟨b, 0, none⟩ : Addr)) = some ⟨b, o, none⟩ := e2
      cases hq : S.fq with
      | none => rw [hq] at e3; cases e3
      | some b' =>
        rw [hq] at e3
        simp only [Option.map_some, Option.some.injEq, Addr.mk.injEq] at e3
        exact e3.2.1.symm
    have ha2 : a = ⟨b, o, none⟩ := Option.some.inj (ha.symm.trans e2)
    subst ha2
    have e : b = x := e
    subst e
    have := hc 0 (by simpa using hn)
    rw [List.getElem_map, ho, cell_of_row _ _ _ _ _ _ hx] at this
    exact h0 _ this), h.fails.2.2⟩
  files := fun i f hf => by
    obtain ⟨a1, a2, a3, a4, a5⟩ := h.files i f hf
    exact ⟨(hE _ (fun e => hP (e ▸ a4))).trans a1, rowElse a2 hE (fun e => hP (a3 x e)), a3, a4, a5⟩
  apart := h.apart
  nowF := h.nowF
  safeF := h.safeF
  inP := h.inP
theorem steps_dp {w0 W : World} {dd : Nat} {A : Pl} (h : DP w0 dd A W) :
    Calls Tryz.prog 31 #[.pointer (some ⟨dd, 0, none⟩)] W fun e w' => e = .returned (.int .i64 (A.steps : Int)) ∧ Below W.heap.size W w' := by
  obtain ⟨P, ⟨S, h1, he⟩, h2, h3⟩ := h
  rw [← he]
  exact steps_any h1
end Go.Proofs.YtheoklhmlnfgjaaGreatDoor
/-
  Add: one record more.
-/
namespace Go.Proofs.YtheoklhmlnfgjaaGreatDoor
open Go.RowKit Go.Maps
set_option linter.unusedVariables false

/-- a log: its disk, its count -/
def LogBox (W : World) (lb dd : Nat) (n : Int) : Prop := W.heap[lb]? = some (.cells #[.pointer (some ⟨dd, 0, none⟩), .int .i64 n] 93 (0, 0))
/-- what a call of the log's leaves -/
def LogPost (w : World) (P : Nat → Prop) (lb dd : Nat) (A : Pl) (n : Int) (w' : World) : Prop :=
  (∃ P', DiskP w' P' dd A ∧ ∀ g, P' g → P g ∨ w.heap.size ≤ g) ∧ LogBox w' lb dd n ∧ Only (fun g => P g ∨ g = lb) w w'
section
variable {w W W' : World} {P Q N : Nat → Prop} {dd lb : Nat} {A : Pl} {n : Int}
theorem DK.wide (h : DK w P N dd A W) (hQ : ∀ g, P g → Q g) : DK w Q N dd A W := by
  obtain ⟨⟨P', h1, h2⟩, h3, h4⟩ := h
  exact ⟨⟨P', h1, fun g hg => ⟨(h2 g hg).1.imp (hQ g) id, (h2 g hg).2⟩⟩, h3, h4.wide hQ⟩
theorem LogBox.below (h : LogBox W lb dd n) (hb : Below W.heap.size W W') : LogBox W' lb dd n := Below.heap hb h
theorem LogBox.lt (h : LogBox W lb dd n) : lb < W.heap.size := lt_of_heap h
theorem LogBox.same (h : LogBox W lb dd n) (hs : W'.heap[lb]? = W.heap[lb]?) : LogBox W' lb dd n := hs.trans h
theorem LogBox.c0 (h : LogBox W lb dd n) : W.cell? ⟨lb, 0, none⟩ = some (.pointer (some ⟨dd, 0, none⟩)) := by rw [cell_of_row _ _ _ _ _ _ h]; rfl
theorem LogBox.c1 (h : LogBox W lb dd n) : W.cell? ⟨lb, 1, none⟩ = some (.int .i64 n) := by rw [cell_of_row _ _ _ _ _ _ h]; rfl
theorem LogBox.fr (h : LogBox W lb dd n) (i : Nat) : W.frozen? ⟨lb, i, none⟩ = false := frozen_of_row W lb i _ _ h
theorem LogBox.set (h : LogBox W lb dd n) (m : Int) : LogBox (W.setCell ⟨lb, 1, none⟩ (.int .i64 m)) lb dd m := heap_setCell_same _ _ _ _ _ _ h
/-- the log's count is stored -/
theorem DK.count (h : DK w Q N dd A W) (hl : LogBox W lb dd n) (hN : N lb) (hQ : Q lb) (m : Int) : DK w Q N dd A (W.setCell ⟨lb, 1, none⟩ (.int .i64 m)) := by
  obtain ⟨⟨P', ⟨S, h1, he⟩, h2⟩, h3, h4⟩ := h
  refine ⟨⟨P', ⟨S, h1.elseAt hl (fun e => (h2 lb e).2 hN) (by decide) (by decide) (fun z e => by cases e) (fun g hg => Below.heap_setCell _ _ _ _ hg), he⟩, h2⟩, fun g hg => by rw [World.size_setCell]; exact h3 g hg, h4.setCell hQ _⟩
theorem DK.post (h : DK w (fun g => P g ∨ g = lb) N dd A W) (hN : N lb) (hl : LogBox W lb dd n) : LogPost w P lb dd A n W := by
  obtain ⟨⟨P', h1, h2⟩, h3, h4⟩ := h
  refine ⟨⟨P', h1, fun g hg => ?_⟩, hl, h4⟩
  obtain ⟨e, hn⟩ := h2 g hg
  rcases e with (e | e) | e
  · exact .inl e
  · subst e; exact absurd hN hn
  · exact .inr e
end

set_option maxRecDepth 100000 in
set_option maxHeartbeats 4000000 in
theorem add_p {w : World} {P : Nat → Prop} {lb dd g : Nat} {A : Pl} {n : Int} (h : DiskP w P dd A) (hl : LogBox w lb dd n) (hlb : ¬ P lb) (hA : GoodS g A) (hg : g ≤ 999000) (hn0 : 0 ≤ n) (hn1 : n ≤ 1000000000000) (op no : Int) (id : ByteArray) :
    Calls Tryz.prog 26 #[.pointer (some ⟨lb, 0, none⟩), .int .i64 op, .int .i64 no, .string id] w fun e w' => e = .returned (.int .i64 (addP A n op no id.data.toList).2.2) ∧ LogPost w P lb dd (addP A n op no id.data.toList).1 (addP A n op no id.data.toList).2.1 w' := by
  have hD : DK w (fun g => P g ∨ g = lb) (fun g => g = lb) dd A w := (DK.begin h (Below.refl _ w) (fun g hg => ⟨by rw [hg]; exact hl.lt, .inr (by rw [hg]; exact hlb)⟩)).wide fun _ h => .inl h
  have c0 := hl.c0
  have c1 := hl.c1
  have HH := Lib.hid (And.intro hD hl)
  clear hD h hl
  go_enter Tryz.func26, Tryz.ntmps26
  go_wp2_with fail
  refine (recEnc_any n op no id w).mono ?_
  rintro e w1 ⟨v, rfl, hown, hb1⟩
  have hz1 : encErr n op no id.size = encErr n op no id.data.toList.length := by rw [size_list]
  obtain ⟨z, hz⟩ : ∃ z, z = encErr n op no id.size := ⟨_, rfl⟩
  rw [← hz]
  rw [← hz] at hz1
  by_cases h0 : z = 0
  · subst h0
    obtain ⟨l, hl⟩ : ∃ l, l = encOf n op no id.data.toList := ⟨_, rfl⟩
    have hll : l.length ≤ 4111 := by rw [hl]; exact encOf_length _ _ _ _
    rw [← hl] at hown
    obtain ⟨p, c, rfl, hlc, hcm, hin⟩ := hown.in8n rfl
    have hD1 := HH.out.1.below hb1
    have hb1' := HH.out.2.below hb1
    have c0 := hb1'.c0
    have c1 := hb1'.c1
    have hap := hD1.call (fun P' h => append_p h ⟨#[108, 111, 103]⟩ (by decide) l p _ c rfl (by omega) hin (hA.fitP (by omega)))
    have hadd : addP A n op no id.data.toList = if (doP A (.append logN l)).2 ≠ 0 then ((doP A (.append logN l)).1, n, (doP A (.append logN l)).2) else ((doP (doP A (.append logN l)).1 (.sync logN)).1, n + 1, (doP (doP A (.append logN l)).1 (.sync logN)).2) := by
      unfold addP
      rw [← hz1, if_neg (by simp), ← hl]
    rw [show (⟨#[108, 111, 103]⟩ : ByteArray).data.toList = logN from rfl] at hap
    have HL := Lib.hid hb1'
    have HADD := Lib.hid hadd
    clear hz hz1 hl hown hin hb1 hD1 hb1' hadd hll
    go_wp2_with fail
    refine hap.mono ?_
    rintro e w2 ⟨rfl, hD2, hs2⟩
    clear hap c0 c1
    obtain ⟨z2, hz2⟩ : ∃ z, z = (doP A (.append logN l)).2 := ⟨_, rfl⟩
    rw [← hz2]
    by_cases h2 : z2 = 0
    · subst h2
      have hl2 := HL.out.same (hs2 lb rfl)
      have c0 := hl2.c0
      have c1 := hl2.c1
      have cf := hl2.fr 1
      have hD3 := hD2.count hl2 rfl (.inr rfl) (n + 1)
      have hl3 := hl2.set (n + 1)
      have hA1 := hA.step (.append logN l)
      have hwr : wrap64 (n + 1) = n + 1 := IntWalk.wrap64_in _ ⟨by omega, by omega⟩
      have d0 := hl3.c0
      have hsy := hD3.call (fun P' h => sync_p h ⟨#[108, 111, 103]⟩ (by decide) (hA1.fitP (by omega)))
      rw [show (⟨#[108, 111, 103]⟩ : ByteArray).data.toList = logN from rfl] at hsy
      have HW := Lib.hid hl3
      have HA := Lib.hid (show addP A n op no id.data.toList = ((doP (doP A (.append logN l)).1 (.sync logN)).1, n + 1, (doP (doP A (.append logN l)).1 (.sync logN)).2) by rw [HADD.out, if_neg (by rw [← hz2]; simp)])
      clear hz2 hD2 hs2 hl2 hD3 hl3 hA1
      go_wp2_with fail
      refine hsy.mono ?_
      rintro e w4 ⟨rfl, hD4, hs4⟩
      clear hsy
      have HP := Lib.hid (hD4.post rfl (HW.out.same (hs4 lb rfl)))
      clear hD4 hs4
      go_wp2_with fail
      go_ret
      rw [HA.out]
      exact ⟨rfl, HP.out⟩
    · have q1 : (z2 == 0) = false := beq_eq_false_iff_ne.2 h2
      have q2 : (z2 != 0) = true := by simp [bne, q1]
      have HP := Lib.hid (hD2.post rfl (HL.out.same (hs2 lb rfl)))
      have HA := Lib.hid (show addP A n op no id.data.toList = ((doP A (.append logN l)).1, n, z2) by rw [HADD.out, if_pos (by rw [← hz2]; exact h2), hz2])
      clear hz2 hD2 hs2 h2
      go_wp2_with fail
      go_ret
      rw [HA.out]
      exact ⟨rfl, HP.out⟩
  · have q1 : (z == 0) = false := beq_eq_false_iff_ne.2 h0
    have q2 : (z != 0) = true := by simp [bne, q1]
    have HP := Lib.hid ((HH.out.1.below hb1).post rfl (HH.out.2.below hb1))
    have HA := Lib.hid (show addP A n op no id.data.toList = (A, n, z) by unfold addP; rw [← hz1, if_pos h0])
    clear hz hz1 hown hb1 h0
    go_wp2_with fail
    go_ret
    rw [HA.out]
    exact ⟨rfl, HP.out⟩

set_option maxHeartbeats 400000 in
theorem count_any {W : World} {lb dd : Nat} {n : Int} (h : LogBox W lb dd n) :
    Calls Tryz.prog 27 #[.pointer (some ⟨lb, 0, none⟩)] W fun e w' => e = .returned (.int .i64 n) ∧ w' = W := by
  have c1 := h.c1
  clear h
  go_enter Tryz.func27, Tryz.ntmps27
  go_wp2_with fail
  go_ret
  exact ⟨rfl, rfl⟩
end Go.Proofs.YtheoklhmlnfgjaaGreatDoor
/-
  Rewrite: the log with other records.
-/
namespace Go.Proofs.YtheoklhmlnfgjaaGreatDoor
open Go.RowKit Go.Maps
set_option linter.unusedVariables false

theorem own8_in {w : World} {base n c : Nat} {p : Option Addr} {l : BS} (h : Own8 w base (.slice p n c) l) : In8 w p l := by
  obtain ⟨p', c', e, _, _, h⟩ := h.in8
  injection e with e1 e2 e3
  subst e1
  exact h
theorem steps_len : ∀ (L : List Opp) (A : Pl), (stepsP A L).2.1 ≤ L.length ∧ ((stepsP A L).2.1 = L.length → (stepsP A L).2.2 = 0)
  | [], A => ⟨Nat.le_refl _, fun _ => rfl⟩
  | o :: L, A => by
    unfold stepsP
    split
    · exact ⟨Nat.zero_le _, fun h => absurd h (by simp)⟩
    · have := steps_len L (doP A o).1
      simp only [List.length_cons]
      exact ⟨by omega, fun h => this.2 (by omega)⟩
/-- first, over a disk -/
theorem first_dk {w W : World} {Q N : Nat → Prop} {dd rb n c : Nat} {A : Pl} (ops : List Opp) (vs : List Value) (cs : Array Value) (T : TypeId) (hn : ops.length = n) (hvs : vs.length = n) (hnl : n ≤ 1000) (hD : DK w Q N dd A W) (hNr : N rb) (hrow : W.heap[rb]? = some (.cells cs T (0, 0))) (hcs : cs.toList = vs)
    (hv : ∀ k (hk : k < ops.length), ∃ g pre cap, vs[k]? = some (.func (.func g) pre cap) ∧ (∀ args w, (callFunc g args).run Tryz.prog w = .ok (.enter g args) w) ∧ ∀ W' P', (∀ g, N g → W'.heap[g]? = W.heap[g]?) → DiskP W' P' dd (stA A ops k) → Calls Tryz.prog g (pre ++ cap) W' (StepPost W' P' dd (stA A ops k) ops[k])) :
    Calls Tryz.prog 44 #[.slice (some ⟨rb, 0, none⟩) n c] W fun e w' => e = .returned (.tuple #[.int .i64 ((stepsP A ops).2.1 : Nat), .int .i64 (stepsP A ops).2.2]) ∧ DK w Q N dd (stepsP A ops).1 w' ∧ ∀ g, N g → w'.heap[g]? = W.heap[g]? := by
  subst hn
  refine (first_any vs ops.length c hvs hnl (some ⟨rb, 0, none⟩) (fun k W' => DK w Q N dd (stA A ops k) W' ∧ ∀ g, N g → W'.heap[g]? = W.heap[g]?) (fun k => stE A ops k) ?_ ?_ W ⟨by rw [stA_zero]; exact hD, fun _ _ => rfl⟩).mono ?_
  · rintro k W' ⟨_, hs⟩ h0
    refine ⟨rb, 0, rfl, fun i hi => ?_⟩
    rw [cell_of_row _ _ _ _ _ _ ((hs rb hNr).trans hrow), Nat.zero_add, ← Array.getElem?_toList, hcs, List.getElem?_eq_getElem hi]
  · intro k hk
    obtain ⟨g, pre, cap, h1, h2, h3⟩ := hv k hk
    refine ⟨g, pre, cap, h1, h2, ?_⟩
    rintro W' ⟨hD', hs⟩
    refine (hD'.call (o := ops[k]) fun P' h => h3 W' P' hs h).mono ?_
    rintro e w' ⟨rfl, hd, hs'⟩
    exact ⟨by rw [stE_get A ops hk], by rw [stA_succ A ops hk]; exact hd, fun g hg => (hs' g hg).trans (hs g hg)⟩
  · rintro e w' (⟨k, hk, rfl, h1, h2, h3, h4⟩ | ⟨rfl, h2, h3, h4⟩)
    · rw [steps_err ops A k hk h2 h1]
      exact ⟨rfl, h3, h4⟩
    · rw [steps_ok ops A h2]
      exact ⟨rfl, h3, h4⟩

set_option maxRecDepth 100000 in
set_option maxHeartbeats 4000000 in
theorem rewrite_p {w : World} {P : Nat → Prop} {lb dd g : Nat} {A : Pl} {n : Int} (h : DiskP w P dd A) (hl : LogBox w lb dd n) (hlb : ¬ P lb) (hA : GoodS g A) (hg : g ≤ 999000) (L : List Rcd) (p : Option Addr) (m c : Nat) (hL : L.length = m) (hm : m ≤ 1000000000) (hin : InRc w p L) :
    Calls Tryz.prog 24 #[.pointer (some ⟨lb, 0, none⟩), .slice p m c] w fun e w' => e = .returned (.int .i64 (rewriteP A n L).2.2) ∧ LogPost w P lb dd (rewriteP A n L).1 (rewriteP A n L).2.1 w' := by
  subst hL
  have c0 := hl.c0
  have c1 := hl.c1
  have HH := Lib.hid (And.intro h hl)
  clear h hl
  go_enter Tryz.func24, Tryz.ntmps24
  go_wp2_with fail
  obtain ⟨w0, hw0⟩ : ∃ x, x = (w.alloc (.cells #[.pointer (some ⟨lb, 0, none⟩)] 54)).alloc (.cells #[.slice none 0 0] 22) := ⟨_, rfl⟩
  have hb0 : Below w.heap.size w w0 := by rw [hw0]; exact ((Below.refl _ w).alloc (Nat.le_refl _) _).alloc (by simp) _
  have bL : Boxed w0 w.heap.size 54 (.pointer (some ⟨lb, 0, none⟩)) := by rw [hw0]; exact (Boxed.new w _ _).alloc _
  have bB : Boxed w0 (w.heap.size + 1) 22 (.slice none 0 0) := by
    rw [hw0]
    have := Boxed.new (w.alloc (.cells #[.pointer (some ⟨lb, 0, none⟩)] 54)) 22 (.slice none 0 0)
    rw [World.size_alloc] at this
    exact this
  rw [← hw0]
  have HW := Lib.hid hw0
  clear hw0
  go_loopw [14] (fun i wr => ∃ (k : Nat) (v : Value), k ≤ L.length ∧ i = .int .i64 k ∧ encZ (L.take k) 0 = 0 ∧ Boxed wr w.heap.size 54 (.pointer (some ⟨lb, 0, none⟩)) ∧ Boxed wr (w.heap.size + 1) 22 v ∧ Own8 wr w.heap.size v (encB (L.take k) 0) ∧ Below w.heap.size w wr) (fun i _ => L.length - (intOf i).toNat)
  case atStart => exact ⟨0, _, Nat.zero_le _, rfl, rfl, bL, bB, Own8.nil _ _, hb0⟩
  case round =>
    obtain ⟨k, v, hk, rfl, hz, b1, b2, hown, hb⟩ := hrel
    clear bL bB hb0
    by_cases hlt : k < L.length
    · obtain ⟨b, o, rfl, x, x0, x1, x2, x3, hx⟩ := (hin.below hb).at hlt
      have hsn := encB_snoc hlt
      have hzs := encZ_snoc hlt hz
      have hza := encZ_at hlt hz
      have hbl := encB_length (L.take k) 0
      rw [List.length_take] at hbl
      obtain ⟨r, hr⟩ : ∃ r, r = L[k] := ⟨_, rfl⟩
      rw [← hr] at x0 x1 x2 hx hsn hzs hza
      obtain ⟨sq, op, no, id⟩ := r
      dsimp only at x0 x1 x2 hx hsn hzs hza
      subst hx
      have c2 := b2.cell
      have H := Lib.hid (And.intro hsn (And.intro hzs (And.intro hza (And.intro b1 (And.intro b2 (And.intro hown (And.intro hb hz)))))))
      have HBL := Lib.hid hbl
      clear hsn hzs hza b1 b2 hown hb hz hr hbl
      go_wp2_with fail
      refine (recEnc_any (k : Int) op no x _).mono ?_
      rintro e w1 ⟨v1, rfl, hown1, hb1⟩
      have hz1 : encErr (k : Int) op no x.size = encErr (k : Int) op no x.data.toList.length := by rw [size_list]
      obtain ⟨z, hz⟩ : ∃ z, z = encErr (k : Int) op no x.size := ⟨_, rfl⟩
      rw [← hz]
      rw [← hz] at hz1
      have hbw : Below wr.heap.size wr w1 := ((Below.refl _ wr).alloc (Nat.le_refl _) _).trans (hb1.mono (by simp))
      have hb1s : w.heap.size ≤ w1.heap.size := Nat.le_trans H.out.2.2.2.2.2.2.1.size hbw.size
      by_cases h0 : z = 0
      · subst h0
        have c3 : w1.cell? ⟨w.heap.size + 1, 0, none⟩ = some v := (cell_keep c2 hbw)
        have HB := Lib.hid (And.intro hbw hz1)
        obtain ⟨p1, m1, rfl, hm1, hm2, hin1⟩ := hown1.in8
        have hel := encOf_length (k : Int) op no x.data.toList
        have HI := Lib.hid (And.intro hin1 hel)
        have HBS := Lib.hid hb1s
        obtain ⟨pv, mv, hv, _, _, _⟩ := H.out.2.2.2.2.2.1.in8
        subst hv
        have b2' : Boxed w1 (w.heap.size + 1) 22 (.slice pv (encB (L.take k) 0).length mv) := Below.heap HB.out.1 H.out.2.2.2.2.1
        have hB2 := Lib.hid b2'
        have fr : w1.frozen? ⟨w.heap.size + 1, 0, none⟩ = false := b2'.frozen
        clear hz hbw hz1 hown1 hin1 hb1 hb1s c2 hel b2'
        go_wp2_with (at_builtin; refine wpList_append8 rfl _ _ rfl w.heap.size _ (encB (L.take k) 0) rfl (H.out.2.2.2.2.2.1.below HB.out.1) _ _ _ _ rfl rfl HI.out.1 (by have := HBL.out; have := HI.out.2; omega) HBS.out ?_; intro v2 w2 hown2 hgrow2 _; have hX := hown2; obtain ⟨p2, m2, rfl, _, _, _⟩ := hown2.in8n List.length_append; have b3 := hB2.out.kept hgrow2 (hB2.out.not_row (e := 5) (by decide) (H.out.2.2.2.2.2.1.below HB.out.1)); have c5 := b3.cell; have f5 := b3.frozen; have HX := Lib.hid (And.intro hX (And.intro hgrow2 b3)); clear hX hgrow2 b3 c3 fr)
        go_roundw
        case rel =>
          have hb2 := own_grown (H.out.2.2.2.2.2.2.1.trans (HB.out.1.mono H.out.2.2.2.2.2.2.1.size)) HBS.out (H.out.2.2.2.2.2.1.below HB.out.1) HX.out.2.1
          have b1w : Boxed w2 w.heap.size 54 (.pointer (some ⟨lb, 0, none⟩)) := (Boxed.kept (Below.heap HB.out.1 H.out.2.2.2.1) HX.out.2.1 (Boxed.not_row (e := 5) (Below.heap HB.out.1 H.out.2.2.2.1) (by decide) (H.out.2.2.2.2.2.1.below HB.out.1)))
          refine ⟨k + 1, _, hlt, by go_num, by rw [H.out.2.1, ← HB.out.2], b1w.other (by omega) _, HX.out.2.2.set _, ?_, hb2.setCell (p := ⟨w.heap.size + 1, 0, none⟩) (by simp) _⟩
          rw [H.out.1]
          exact HX.out.1.setOther (a := ⟨w.heap.size + 1, 0, none⟩) (fun e => (HX.out.2.2.not_row (e := 5) (by decide) HX.out.1) e.symm) _
        case measure => simp [intOf]; omega
      · have q1 : (z == 0) = false := beq_eq_false_iff_ne.2 h0
        have q2 : (z != 0) = true := by simp [bne, q1]
        have hbn : Below w.heap.size w w1 := H.out.2.2.2.2.2.2.1.trans (hbw.mono H.out.2.2.2.2.2.2.1.size)
        have HP := Lib.hid (((DK.begin (N := fun g => g = lb) HH.out.1 hbn (fun g hg => ⟨by rw [hg]; exact Nat.lt_of_lt_of_le HH.out.2.lt hbn.size, .inr (by rw [hg]; exact hlb)⟩)).wide fun _ h => .inl h).post rfl (HH.out.2.below hbn))
        have HA := Lib.hid (show rewriteP A n L = (A, n, z) by
          have h1 := H.out.2.2.1 (by rw [← hz1]; exact h0)
          unfold rewriteP
          rw [h1, ← hz1, if_pos h0])
        clear hz hz1 hbw hown1 hb1 hb1s hbn h0 c2
        go_wp2_with fail
        go_ret
        rw [HA.out]
        exact ⟨rfl, HP.out⟩
    · obtain rfl : k = L.length := by omega
      rw [List.take_length] at hz hown
      have H := Lib.hid (And.intro b1 (And.intro b2 (And.intro hown (And.intro hb hz))))
      clear b1 b2 hown hb hz hin hk hlt
      obtain ⟨B, hB⟩ : ∃ B, B = encB L 0 := ⟨_, rfl⟩
      rw [← hB] at H
      have hBl : B.length ≤ 4111 * L.length := by rw [hB]; exact encB_length L 0
      obtain ⟨pv, mv, rfl, _, _, hinB⟩ := H.out.2.2.1.in8
      obtain ⟨wv, hwv⟩ : ∃ x, x = wr.alloc (.cells #[.func (.func 59) #[] #[.pointer (some ⟨w.heap.size, 0, none⟩)], .func (.func 60) #[] #[.pointer (some ⟨w.heap.size, 0, none⟩), .pointer (some ⟨w.heap.size + 1, 0, none⟩)], .func (.func 62) #[] #[.pointer (some ⟨w.heap.size, 0, none⟩)], .func (.func 63) #[] #[.pointer (some ⟨w.heap.size, 0, none⟩)]] 101) := ⟨_, rfl⟩
      have hbv : Below wr.heap.size wr wv := by rw [hwv]; exact (Below.refl _ wr).alloc (Nat.le_refl _) _
      have hrow := heap_alloc_new wr (.cells #[.func (.func 59) #[] #[.pointer (some ⟨w.heap.size, 0, none⟩)], .func (.func 60) #[] #[.pointer (some ⟨w.heap.size, 0, none⟩), .pointer (some ⟨w.heap.size + 1, 0, none⟩)], .func (.func 62) #[] #[.pointer (some ⟨w.heap.size, 0, none⟩)], .func (.func 63) #[] #[.pointer (some ⟨w.heap.size, 0, none⟩)]] 101)
      rw [← hwv] at hrow
      have hbw : Below w.heap.size w wv := H.out.2.2.2.1.trans (hbv.mono H.out.2.2.2.1.size)
      have hvlt := fun g (e : (Value.slice pv B.length mv).ownBlock = some g) => H.out.2.2.1.lt g e
      have hD : DK w (fun g => P g ∨ g = lb) (fun g => g = lb ∨ g = w.heap.size ∨ g = w.heap.size + 1 ∨ g = wr.heap.size ∨ (Value.slice pv B.length mv).ownBlock = some g) dd A wv := (DK.begin HH.out.1 hbw (fun g hg => by
        have h1 := hbw.size
        have h2 := hbv.size
        have h3 := HH.out.2.lt
        have h4 := H.out.2.1.lt
        have h5 := lt_of_heap hrow
        rcases hg with rfl | rfl | rfl | rfl | e
        · exact ⟨by omega, .inr hlb⟩
        · exact ⟨by omega, .inl (by omega)⟩
        · exact ⟨by omega, .inl (by omega)⟩
        · exact ⟨by omega, .inl H.out.2.2.2.1.size⟩
        · have := hvlt g e
          exact ⟨by omega, .inl this.1⟩)).wide fun _ h => .inl h
      have hl0 := HH.out.2.below hbw
      have bLv : Boxed wv w.heap.size 54 (.pointer (some ⟨lb, 0, none⟩)) := Below.heap hbv H.out.1
      have bBv : Boxed wv (w.heap.size + 1) 22 (.slice pv B.length mv) := Below.heap hbv H.out.2.1
      have hinv := H.out.2.2.1.below hbv
      have hfirst := first_dk (c := 4) [.create newN, .append newN B, .sync newN, .rename newN logN] _ _ _ rfl rfl (by simp) hD (.inr (.inr (.inr (.inl rfl)))) hrow rfl (fun k hk => by
        have hA' := hA.st [.create newN, .append newN B, .sync newN, .rename newN logN] k (by omega)
        have hk4 : k < 4 := hk
        have hfit := hA'.fitP (by omega)
        rcases k with _ | _ | _ | _ | k
        · exact ⟨_, _, _, rfl, enters_of Tryz.func59 (by kernel_rfl) rfl, fun W' P' hs h => rew1_any h ((World.cell?_of_block (hs w.heap.size (.inr (.inl rfl)))).trans bLv.cell) ((World.cell?_of_block (hs lb (.inl rfl))).trans hl0.c0) hfit⟩
        · exact ⟨_, _, _, rfl, enters_of Tryz.func60 (by kernel_rfl) rfl, fun W' P' hs h => rew2_any h ((World.cell?_of_block (hs w.heap.size (.inr (.inl rfl)))).trans bLv.cell) ((World.cell?_of_block (hs lb (.inl rfl))).trans hl0.c0) pv B.length mv B ((World.cell?_of_block (hs (w.heap.size + 1) (.inr (.inr (.inl rfl))))).trans bBv.cell) rfl (by omega) (own8_in (rowKeep hinv fun g cur e _ => hs g (.inr (.inr (.inr (.inr e)))))) hfit⟩
        · exact ⟨_, _, _, rfl, enters_of Tryz.func62 (by kernel_rfl) rfl, fun W' P' hs h => rew3_any h ((World.cell?_of_block (hs w.heap.size (.inr (.inl rfl)))).trans bLv.cell) ((World.cell?_of_block (hs lb (.inl rfl))).trans hl0.c0) hfit⟩
        · exact ⟨_, _, _, rfl, enters_of Tryz.func63 (by kernel_rfl) rfl, fun W' P' hs h => rew4_any h ((World.cell?_of_block (hs w.heap.size (.inr (.inl rfl)))).trans bLv.cell) ((World.cell?_of_block (hs lb (.inl rfl))).trans hl0.c0) hfit⟩
        · omega)
      obtain ⟨st, hst⟩ : ∃ x, x = stepsP A [.create newN, .append newN B, .sync newN, .rename newN logN] := ⟨_, rfl⟩
      rw [← hst, hwv] at hfirst
      have hgs : GoodS (g + 4) st.1 := by rw [hst]; exact GoodS.steps [.create newN, .append newN B, .sync newN, .rename newN logN] hA
      have hst4 : st.2.1 ≤ 4 ∧ (st.2.1 = 4 → st.2.2 = 0) := by rw [hst]; exact steps_len _ _
      have HREW := Lib.hid (show rewriteP A n L = if st.2.1 = 4 then ((doP st.1 .names).1, (L.length : Int), (doP st.1 .names).2) else if st.2.1 = 0 then (st.1, n, st.2.2) else ((doP st.1 (.remove newN)).1, n, st.2.2) by
        unfold rewriteP
        rw [if_neg (by rw [H.out.2.2.2.2]; simp), ← hB, ← hst])
      have HV := Lib.hid (And.intro hwv hl0)
      have HG := Lib.hid (And.intro hgs hst4)
      have HBV := Lib.hid bLv
      clear hwv hbv hrow hbw hvlt hD bBv hinv hinB hst hgs hst4 hl0 hB hBl bLv
      go_wp2_with fail
      refine hfirst.mono ?_
      rw [← HV.out.1]
      rintro e w5 ⟨rfl, hD5, hs5⟩
      clear hfirst
      have hl5 := HV.out.2.same (hs5 lb (.inl rfl))
      have bL5 : Boxed w5 w.heap.size 54 (.pointer (some ⟨lb, 0, none⟩)) := (hs5 w.heap.size (.inr (.inl rfl))).trans HBV.out
      have c0 := hl5.c0
      have c1 := hl5.c1
      have cf := hl5.fr 1
      have cb := bL5.cell
      obtain ⟨S, k, z⟩ := st
      have hk4 := HG.out.2.1
      dsimp only at hD5 hk4 HREW HG ⊢
      have H5 := Lib.hid (And.intro hD5 hl5)
      clear hD5 hs5 hl5 bL5
      rcases k with _ | _ | _ | _ | _ | k
      · go_wp2_with fail
        go_ret
        rw [HREW.out, if_neg (by decide), if_pos trivial]
        exact ⟨rfl, H5.out.1.post (.inl rfl) H5.out.2⟩
      · have hrm := H5.out.1.call (fun P' h => remove_p h ⟨#[108, 111, 103, 46, 110, 101, 119]⟩ (by decide) (HG.out.1.fitP (by omega)))
        rw [show (⟨#[108, 111, 103, 46, 110, 101, 119]⟩ : ByteArray).data.toList = newN from rfl] at hrm
        go_wp2_with fail
        refine hrm.mono ?_
        rintro e w6 ⟨rfl, hD6, hs6⟩
        have HP := Lib.hid (hD6.post (.inl rfl) (H5.out.2.same (hs6 lb (.inl rfl))))
        clear hrm hD6 hs6
        go_wp2_with fail
        go_ret
        rw [HREW.out, if_neg (by decide), if_neg (by decide)]
        exact ⟨rfl, HP.out⟩
      · have hrm := H5.out.1.call (fun P' h => remove_p h ⟨#[108, 111, 103, 46, 110, 101, 119]⟩ (by decide) (HG.out.1.fitP (by omega)))
        rw [show (⟨#[108, 111, 103, 46, 110, 101, 119]⟩ : ByteArray).data.toList = newN from rfl] at hrm
        go_wp2_with fail
        refine hrm.mono ?_
        rintro e w6 ⟨rfl, hD6, hs6⟩
        have HP := Lib.hid (hD6.post (.inl rfl) (H5.out.2.same (hs6 lb (.inl rfl))))
        clear hrm hD6 hs6
        go_wp2_with fail
        go_ret
        rw [HREW.out, if_neg (by decide), if_neg (by decide)]
        exact ⟨rfl, HP.out⟩
      · have hrm := H5.out.1.call (fun P' h => remove_p h ⟨#[108, 111, 103, 46, 110, 101, 119]⟩ (by decide) (HG.out.1.fitP (by omega)))
        rw [show (⟨#[108, 111, 103, 46, 110, 101, 119]⟩ : ByteArray).data.toList = newN from rfl] at hrm
        go_wp2_with fail
        refine hrm.mono ?_
        rintro e w6 ⟨rfl, hD6, hs6⟩
        have HP := Lib.hid (hD6.post (.inl rfl) (H5.out.2.same (hs6 lb (.inl rfl))))
        clear hrm hD6 hs6
        go_wp2_with fail
        go_ret
        rw [HREW.out, if_neg (by decide), if_neg (by decide)]
        exact ⟨rfl, HP.out⟩
      · have hD6 := H5.out.1.count H5.out.2 (.inl rfl) (.inr rfl) (L.length : Int)
        have hl6 := H5.out.2.set (L.length : Int)
        have d0 := hl6.c0
        have hsy := hD6.call (fun P' h => names_p h (HG.out.1.fitP (by omega)))
        have H6 := Lib.hid hl6
        clear hD6 hl6
        go_wp2_with fail
        refine hsy.mono ?_
        rintro e w6 ⟨rfl, hD7, hs7⟩
        have HP := Lib.hid (hD7.post (.inl rfl) (H6.out.same (hs7 lb (.inl rfl))))
        clear hsy hD7 hs7
        go_wp2_with fail
        go_ret
        rw [HREW.out, if_pos trivial]
        exact ⟨rfl, HP.out⟩
      · omega
end Go.Proofs.YtheoklhmlnfgjaaGreatDoor
/-
  The document's disk in the heap: rows of names with numbers, rows of rows; the nine values of a state.
-/
namespace Go.Proofs.YtheoklhmlnfgjaaGreatDoor
open Go.RowKit Go.Maps

/-- names with numbers, as cells -/
def nc (M : NM) : List (BS × Value) := M.map fun x => (x.1, .int .i64 (x.2 : Int))
theorem nc_length (M : NM) : (nc M).length = M.length := by simp [nc]
theorem nc_append (M N : NM) : nc (M ++ N) = nc M ++ nc N := by simp [nc]
def InN (w : World) (p : Option Addr) (M : NM) : Prop := InE w p (nc M)
theorem InN.below {w w' : World} {p : Option Addr} {M : NM} (h : InN w p M) (hb : Below w.heap.size w w') : InN w' p M := InE.below h hb
theorem InN.nil (w : World) (p : Option Addr) : InN w p [] := fun h => absurd h (by simp [nc])
theorem InN.at {w : World} {p : Option Addr} {M : NM} (h : InN w p M) {k : Nat} (hk : k < M.length) :
    ∃ b o, p = some ⟨b, o, none⟩ ∧ ∃ x : ByteArray, w.cell? ⟨b, o + k * 2, none⟩ = some (.string x) ∧ w.cell? ⟨b, o + k * 2 + 1, none⟩ = some (.int .i64 (M[k].2 : Int)) ∧ x.data.toList = M[k].1 := by
  have hk2 : k < (nc M).length := by rw [nc_length]; exact hk
  obtain ⟨b, o, e, hc⟩ := h (by omega)
  obtain ⟨g1, g2⟩ := fc_get (nc M) k hk2
  have e1 : (nc M)[k] = (M[k].1, .int .i64 (M[k].2 : Int)) := by simp [nc]
  rw [e1] at g1 g2
  exact ⟨b, o, e, _, hc _ _ g1, by have := hc _ _ g2; rwa [← Nat.add_assoc] at this, rfl⟩
/-- a slice of names, as a value -/
def NamV (w : World) (v : Value) (M : NM) : Prop := ∃ p c, v = .slice p M.length c ∧ InN w p M
theorem NamV.below {w w' : World} {v : Value} {M : NM} (h : NamV w v M) (hb : Below w.heap.size w w') : NamV w' v M := by
  obtain ⟨p, c, e, h⟩ := h
  exact ⟨p, c, e, h.below hb⟩
theorem NamV.one {w : World} {v : Value} {M : NM} (h : NamV w v M) : v.oneCell' = true := by
  obtain ⟨p, c, e, _⟩ := h
  rw [e]; rfl
/-- names that the call owns -/
def OwnM (w : World) (base : Nat) (v : Value) (M : NM) : Prop := w.ownsRow base 91 2 v M.length (fc (nc M))
theorem OwnM.made (w : World) : OwnM (w.alloc (.cells #[] 91)) w.heap.size (.slice (some ⟨w.heap.size, 0, none⟩) 0 0) [] :=
  ⟨rfl, .inr ⟨w.heap.size, 0, #[], rfl, Nat.le_refl _, heap_alloc_new w _, by simp, by unfold maxLen; omega, rfl, rfl⟩⟩
theorem OwnM.nil (w : World) (base : Nat) : OwnM w base (.slice none 0 0) [] := World.ownsRow_nil _ _ _ _
theorem OwnM.below {w w' : World} {base : Nat} {v : Value} {M : NM} (h : OwnM w base v M) (hb : Below w.heap.size w w') : OwnM w' base v M := ownsRow_below h hb
theorem OwnM.mono {w : World} {base base' : Nat} {v : Value} {M : NM} (h : OwnM w base v M) (hb : base' ≤ base) : OwnM w base' v M := ownsRow_mono h hb
theorem OwnM.shape {w : World} {base n : Nat} {v : Value} {M : NM} (h : OwnM w base v M) (hn : M.length = n) : ∃ p c, v = .slice p n c ∧ InN w p M := by
  subst hn
  rcases h.2 with ⟨rfl, hn⟩ | ⟨g, cap, cur, rfl, hb, hg, hnc, hcm, hcs, ht⟩
  · exact ⟨none, 0, by rw [hn], fun h0 => by rw [nc_length] at h0; omega⟩
  · refine ⟨some ⟨g, 0, none⟩, cap, rfl, fun h0 => ⟨g, 0, rfl, fun j v hv => ?_⟩⟩
    rw [cell_of_row _ _ _ _ _ _ hg, Nat.zero_add, ← Array.getElem?_toList]
    have hj : j < M.length * 2 := by rw [← nc_length, ← fc_length]; exact (List.getElem?_eq_some_iff.1 hv).1
    rw [← ht, List.getElem?_take_of_lt hj] at hv
    exact hv
theorem OwnM.namV {w : World} {base : Nat} {v : Value} {M : NM} (h : OwnM w base v M) : NamV w v M := h.shape rfl
theorem OwnM.grown {w w1 w' : World} {B : Nat} {v : Value} {M : NM} (hB : Below B w w1) (hs : B ≤ w1.heap.size) (hown : OwnM w1 B v M) (hg : w1.grownBy w' v.ownBlock) : Below B w w' :=
  hB.grown hg hs (fun _ e => (World.ownsRow.lt hown _ e).1)
theorem infoN9 : (Tryz.prog.info? 91).map (fun i => (i.zero, i.size, i.bytes)) = some (some (.agg #[.string .empty, .int .i64 0]), 2, 24) := by kernel_rfl
theorem src_name {w : World} {b c : Nat} {k : BS} {u : Value} (hin : InE w (some ⟨b, 0, none⟩) [(k, u)]) (hone : u.oneCell' = true) : Src Tryz.prog 2 47 (.slice (some ⟨b, 0, none⟩) 1 c) 1 (fc [(k, u)]) w := by
  obtain ⟨b', o', e, hc⟩ := hin (by simp)
  obtain ⟨rfl, rfl⟩ : b = b' ∧ 0 = o' := by injection e with e; injection e with e1 e2; exact ⟨e1, e2⟩
  refine Src.ofSlice w Tryz.underlying47 ⟨b, 0, none⟩ 1 c (fc [(k, u)]) (by rw [fc_length]; rfl) (fun j z hz => ?_) (fc_one fun e he => by rw [List.mem_singleton.1 he]; exact hone)
  rw [Go.WideShapes.add_plain]; exact hc j z hz

section
variable {w : World}
/-- one name more -/
theorem wpList_appendM {ops : Array Oper} {rest : List Oper} {o : Oper} {a : Act} {Q : Exit → Act → World → Prop} (hgd : o.guard = none) (s x : Operand)
    (ho : o.op = .call { callee := .builtin .append, args := #[s, x], argTypes := #[47, 47] })
    (base : Nat) (v : Value) (M : NM) (hv : a.eval s = v) (hown : OwnM w base v M)
    (b c : Nat) (k : BS) (f : Nat) (hx : a.eval x = .slice (some ⟨b, 0, none⟩) 1 c) (hin : InE w (some ⟨b, 0, none⟩) [(k, .int .i64 (f : Int))])
    (hr : M.length ≤ 4500000000000) (hbase : base ≤ w.heap.size)
    (h : ∀ v' w', OwnM w' base v' (M ++ [(k, f)]) → w.grownBy w' v.ownBlock → wpList Tryz.prog ops Q rest (a.put o.dst v') w') : wpList Tryz.prog ops Q (o :: rest) a w := by
  refine wpList_append_way w hgd s x 47 47 ho base 91 (.agg #[.string .empty, .int .i64 0]) 2 24 Tryz.underlying47 infoN9 rfl v M.length (fc (nc M)) hv hown _ 1 (fc [(k, .int .i64 (f : Int))]) hx (src_name hin rfl) (by unfold maxLen; omega) (by omega) hbase ?_
  intro v' w' ho' hg _
  exact h v' w' (by unfold OwnM; rw [List.length_append, nc_append, fc_append]; exact ho') hg
/-- the same, as a step of a region that draws -/
theorem step_appendM {ops : Array Oper} {o : Oper} {a : Act} {K : Act → World → Prop} {Q : Exit → Act → World → Prop} {P : Prop} (hgd : o.guard = none) (s x : Operand)
    (ho : o.op = .call { callee := .builtin .append, args := #[s, x], argTypes := #[47, 47] })
    (base : Nat) (v : Value) (M : NM) (hv : a.eval s = v) (hown : OwnM w base v M)
    (b c : Nat) (k : BS) (f : Nat) (hx : a.eval x = .slice (some ⟨b, 0, none⟩) 1 c) (hin : InE w (some ⟨b, 0, none⟩) [(k, .int .i64 (f : Int))])
    (hr : M.length ≤ 4500000000000) (hbase : base ≤ w.heap.size)
    (h : ∀ v' w', OwnM w' base v' (M ++ [(k, f)]) → w.grownBy w' v.ownBlock → K (a.put o.dst v') w') :
    if Region.wanted o (yielded ops a.tmps) = true then Oper.wp Tryz.prog o a w K Q else P := by
  refine step_append_fit hgd s x 47 47 ho base 91 (.agg #[.string .empty, .int .i64 0]) 2 24 Tryz.underlying47 infoN9 rfl v M.length (fc (nc M)) hv hown _ 1 (fc [(k, .int .i64 (f : Int))]) hx (src_name hin rfl) (by unfold maxLen; omega) (by omega) hbase ?_
  intro v' w' ho' hg
  exact h v' w' (by unfold OwnM; rw [List.length_append, nc_append, fc_append]; exact ho') hg
end

/-- a row of values, each of which reads as a thing of the list -/
def InR {α : Type} (R : World → Value → α → Prop) (w : World) (p : Option Addr) (L : List α) : Prop :=
  ∃ vs, InV w p vs ∧ vs.length = L.length ∧ ∀ (i : Nat) (v : Value) (x : α), vs[i]? = some v → L[i]? = some x → R w v x
theorem InR.below {α : Type} {R : World → Value → α → Prop} (hR : ∀ {w w' v x}, R w v x → Below w.heap.size w w' → R w' v x) {w w' : World} {p : Option Addr} {L : List α} (h : InR R w p L) (hb : Below w.heap.size w w') : InR R w' p L := by
  obtain ⟨vs, h1, h2, h3⟩ := h
  exact ⟨vs, h1.below hb, h2, fun i v x hv hx => hR (h3 i v x hv hx) hb⟩
theorem InR.nil {α : Type} (R : World → Value → α → Prop) (w : World) (p : Option Addr) : InR R w p [] := ⟨[], fun h => absurd h (by simp), rfl, fun i v x hv => by simp at hv⟩
theorem InR.at {α : Type} {R : World → Value → α → Prop} {w : World} {p : Option Addr} {L : List α} (h : InR R w p L) {k : Nat} (hk : k < L.length) :
    ∃ b o, p = some ⟨b, o, none⟩ ∧ ∃ v, w.cell? ⟨b, o + k, none⟩ = some v ∧ R w v L[k] := by
  obtain ⟨vs, h1, h2, h3⟩ := h
  have hk2 : k < vs.length := by omega
  obtain ⟨b, o, e, hc⟩ := h1 (by omega)
  exact ⟨b, o, e, vs[k], hc k hk2, h3 k _ _ (List.getElem?_eq_getElem hk2) (List.getElem?_eq_getElem hk)⟩
/-- a slice of bytes, as a value, with its room -/
def DatV (w : World) (v : Value) (l : BS) : Prop := ∃ q c, v = .slice q l.length c ∧ (q = none → c = 0) ∧ l.length ≤ maxLen ∧ In8 w q l ∧ l.length ≤ c
theorem DatV.below {w w' : World} {v : Value} {l : BS} (h : DatV w v l) (hb : Below w.heap.size w w') : DatV w' v l := by
  obtain ⟨q, c, e, h1, h2, h3, h4⟩ := h
  exact ⟨q, c, e, h1, h2, h3.below hb, h4⟩
theorem DatV.one {w : World} {v : Value} {l : BS} (h : DatV w v l) : v.oneCell' = true := by
  obtain ⟨q, c, e, _⟩ := h
  rw [e]; rfl
theorem Own8.datV {w : World} {base : Nat} {v : Value} {l : BS} (h : Own8 w base v l) : DatV w v l := by
  obtain ⟨q, c, e, h1, h2, h3⟩ := h.byteV
  obtain ⟨q2, c2, e2, m1, _⟩ := h.in8
  rw [e] at e2
  injection e2 with _ _ e4
  exact ⟨q, c, e, h1, h2, h3, by rw [e4]; exact m1⟩
abbrev InDs := InR DatV
abbrev InNs := InR NamV
theorem InDs.below {w w' : World} {p : Option Addr} {L : List BS} (h : InDs w p L) (hb : Below w.heap.size w w') : InDs w' p L := InR.below (fun h hb => h.below hb) h hb
theorem InNs.below {w w' : World} {p : Option Addr} {L : List NM} (h : InNs w p L) (hb : Below w.heap.size w w') : InNs w' p L := InR.below (fun h hb => h.below hb) h hb
/-- a row of values that the call owns -/
def OwnR {α : Type} (R : World → Value → α → Prop) (e : TypeId) (w : World) (base : Nat) (v : Value) (L : List α) : Prop :=
  ∃ vs, w.ownsRow base e 1 v L.length vs ∧ vs.length = L.length ∧ ∀ (i : Nat) (v : Value) (x : α), vs[i]? = some v → L[i]? = some x → R w v x
theorem OwnR.made {α : Type} (R : World → Value → α → Prop) (e : TypeId) (w : World) : OwnR R e (w.alloc (.cells #[] e)) w.heap.size (.slice (some ⟨w.heap.size, 0, none⟩) 0 0) [] :=
  ⟨[], ⟨rfl, .inr ⟨w.heap.size, 0, #[], rfl, Nat.le_refl _, heap_alloc_new w _, by simp, by unfold maxLen; omega, rfl, rfl⟩⟩, rfl, fun i v x hv => by simp at hv⟩
theorem OwnR.nil {α : Type} (R : World → Value → α → Prop) (e : TypeId) (w : World) (base : Nat) : OwnR R e w base (.slice none 0 0) [] := ⟨[], World.ownsRow_nil _ _ _ _, rfl, fun i v x hv => by simp at hv⟩
theorem OwnR.inR {α : Type} {R : World → Value → α → Prop} {e : TypeId} {w : World} {base n : Nat} {v : Value} {L : List α} (h : OwnR R e w base v L) (hn : L.length = n) : ∃ p c, v = .slice p n c ∧ InR R w p L := by
  subst hn
  obtain ⟨vs, h1, h2, h3⟩ := h
  obtain ⟨p, c, e, _, _, hin, _⟩ := owns_shape h1
  exact ⟨p, c, e, vs, hin, h2, h3⟩

/-- the names behind each change -/
def pendN (A : Pl) : List NM := (List.range A.pend.length).map fun i => (A.pend.take (i + 1)).foldl (fun M c => applyC c M) A.safe
theorem pendN_length (A : Pl) : (pendN A).length = A.pend.length := by simp [pendN]
theorem pendN_get (A : Pl) (i : Nat) (h : i < A.pend.length) : (pendN A)[i]? = some ((A.pend.take (i + 1)).foldl (fun M c => applyC c M) A.safe) := by
  unfold pendN
  rw [List.getElem?_map, List.getElem?_range h]; rfl
structure RC where
  p1 : Option Addr
  c1 : Nat
  p2 : Option Addr
  c2 : Nat
  p3 : Option Addr
  c3 : Nat
  p4 : Option Addr
  c4 : Nat
  p5 : Option Addr
  c5 : Nat
  p6 : Option Addr
  c6 : Nat
def stC (r : RC) (A : Pl) : Array Value := #[.slice r.p1 A.now.length r.c1, .slice r.p2 A.safe.length r.c2, .slice r.p3 A.pend.length r.c3, .slice r.p4 A.files.length r.c4, .slice r.p5 A.files.length r.c5, .int .i64 (A.room : Int), .slice r.p6 A.fails.length r.c6, .int .i64 A.power, .int .i64 (A.steps : Int)]
/-- the document's state in the heap -/
structure RefAt (w : World) (r : RC) (A : Pl) : Prop where
  now : InN w r.p1 A.now
  safe : InN w r.p2 A.safe
  pend : InNs w r.p3 (pendN A)
  data : InDs w r.p4 (A.files.map (·.1))
  firm : InV w r.p5 (A.files.map fun f => .int .i64 (f.2 : Int))
  fails : InV w r.p6 (A.fails.map (Value.int .i64))
theorem RefAt.below {w w' : World} {r : RC} {A : Pl} (h : RefAt w r A) (hb : Below w.heap.size w w') : RefAt w' r A :=
  ⟨h.now.below hb, h.safe.below hb, InNs.below h.pend hb, InDs.below h.data hb, h.firm.below hb, h.fails.below hb⟩

/-- what stands in a cell of w stands there in w' -/
def Keeps (w w' : World) : Prop := ∀ a v, w.cell? a = some v → w'.cell? a = some v
theorem Below.keeps {w w' : World} (hb : Below w.heap.size w w') : Keeps w w' := fun a _ h => (hb.cell (p := a) (World.block_lt_of_cell? w _ h)).trans h
theorem In8.keeps {w w' : World} {p : Option Addr} {l : BS} (h : In8 w p l) (hk : Keeps w w') : In8 w' p l := by
  intro h0
  obtain ⟨b, o, rfl, hc⟩ := h h0
  exact ⟨b, o, rfl, fun i hi => hk _ _ (hc i hi)⟩
theorem InV.keeps {w w' : World} {p : Option Addr} {xs : List Value} (h : InV w p xs) (hk : Keeps w w') : InV w' p xs := by
  intro h0
  obtain ⟨b, o, rfl, hc⟩ := h h0
  exact ⟨b, o, rfl, fun i hi => hk _ _ (hc i hi)⟩
theorem InN.keeps {w w' : World} {p : Option Addr} {M : NM} (h : InN w p M) (hk : Keeps w w') : InN w' p M := by
  intro h0
  obtain ⟨b, o, rfl, hc⟩ := h h0
  exact ⟨b, o, rfl, fun j v hv => hk _ _ (hc j v hv)⟩
theorem ByteV.keeps {w w' : World} {v : Value} {l : BS} (h : ByteV w v l) (hk : Keeps w w') : ByteV w' v l := by
  obtain ⟨q, c, e, h1, h2, h3⟩ := h
  exact ⟨q, c, e, h1, h2, h3.keeps hk⟩
theorem DatV.keeps {w w' : World} {v : Value} {l : BS} (h : DatV w v l) (hk : Keeps w w') : DatV w' v l := by
  obtain ⟨q, c, e, h1, h2, h3, h4⟩ := h
  exact ⟨q, c, e, h1, h2, h3.keeps hk, h4⟩
theorem NamV.keeps {w w' : World} {v : Value} {M : NM} (h : NamV w v M) (hk : Keeps w w') : NamV w' v M := by
  obtain ⟨p, c, e, h⟩ := h
  exact ⟨p, c, e, h.keeps hk⟩
theorem InR.keeps {α : Type} {R : World → Value → α → Prop} (hR : ∀ {w w' v x}, R w v x → Keeps w w' → R w' v x) {w w' : World} {p : Option Addr} {L : List α} (h : InR R w p L) (hk : Keeps w w') : InR R w' p L := by
  obtain ⟨vs, h1, h2, h3⟩ := h
  exact ⟨vs, h1.keeps hk, h2, fun i v x hv hx => hR (h3 i v x hv hx) hk⟩
theorem RefAt.keeps {w w' : World} {r : RC} {A : Pl} (h : RefAt w r A) (hk : Keeps w w') : RefAt w' r A :=
  ⟨h.now.keeps hk, h.safe.keeps hk, InR.keeps (fun h hk => h.keeps hk) h.pend hk, InR.keeps (fun h hk => h.keeps hk) h.data hk, h.firm.keeps hk, h.fails.keeps hk⟩
/-- w without what lies in the blocks P -/
structure IsMask (P : Nat → Prop) (w g : World) : Prop where
  size : g.heap.size = w.heap.size
  same : ∀ k, ¬ P k → g.heap[k]? = w.heap[k]?
  none : ∀ a v, P a.block → g.cell? a ≠ some v
open Classical in
theorem mask_ex (P : Nat → Prop) (w : World) : ∃ g, IsMask P w g := by
  refine ⟨{ w with heap := w.heap.mapIdx fun k o => if P k then .cells #[] 0 (0, 0) else o }, ?_, fun k hk => ?_, fun a v ha => ?_⟩
  · simp
  · simp only [Array.getElem?_mapIdx, if_neg hk]
    cases w.heap[k]? <;> rfl
  · unfold World.cell?
    simp only [Array.getElem?_mapIdx, if_pos ha]
    cases w.heap[a.block]? <;> simp
theorem IsMask.keeps {P : Nat → Prop} {w g : World} (h : IsMask P w g) : Keeps g w := by
  intro a v hc
  by_cases hP : P a.block
  · exact absurd hc (h.none a v hP)
  · unfold World.cell? at hc ⊢
    rw [← h.same _ hP]
    exact hc
/-- w' keeps what lies outside P, and masks no more of what was there -/
theorem IsMask.step {P P' : Nat → Prop} {w w' g g' : World} (h : IsMask P w g) (h' : IsMask P' w' g') (hs : ∀ k, k < w.heap.size → ¬ P k → w'.heap[k]? = w.heap[k]?) (hP : ∀ k, P' k → P k ∨ w.heap.size ≤ k) : Keeps g g' := by
  intro a v hc
  have hlt : a.block < w.heap.size := World.block_lt_of_cell? w _ (h.keeps a v hc)
  by_cases hPa : P a.block
  · exact absurd hc (h.none a v hPa)
  · have hPa' : ¬ P' a.block := fun e => by
      rcases hP _ e with e | e
      · exact hPa e
      · omega
    unfold World.cell? at hc ⊢
    rw [h'.same _ hPa', hs _ hlt hPa, ← h.same _ hPa]
    exact hc
theorem IsMask.below {P : Nat → Prop} {w w' g g' : World} (h : IsMask P w g) (h' : IsMask P w' g') (hb : Below w.heap.size w w') : Keeps g g' :=
  h.step h' (fun k hk _ => hb.block k hk) fun _ hk => .inl hk
theorem IsMask.owns {P : Nat → Prop} {w g : World} (h : IsMask P w g) {base e size n : Nat} {v : Value} {xs : List Value} (hown : w.ownsRow base e size v n xs) (hP : ∀ k, P k → k < base) : g.ownsRow base e size v n xs := by
  refine ⟨hown.1, ?_⟩
  rcases hown.2 with h0 | ⟨k, cap, cur, e, c1, c2, r⟩
  · exact .inl h0
  · exact .inr ⟨k, cap, cur, e, c1, (h.same k (fun e => by have := hP k e; omega)).trans c2, r⟩
/-- the document's state, none of it in the blocks P -/
def RefP (P : Nat → Prop) (w : World) (r : RC) (A : Pl) : Prop := ∃ g, IsMask P w g ∧ RefAt g r A
theorem RefP.plain {P : Nat → Prop} {w : World} {r : RC} {A : Pl} (h : RefP P w r A) : RefAt w r A := by
  obtain ⟨g, h1, h2⟩ := h
  exact h2.keeps h1.keeps
theorem RefP.step {P P' : Nat → Prop} {w w' : World} {r : RC} {A : Pl} (h : RefP P w r A) (hs : ∀ k, k < w.heap.size → ¬ P k → w'.heap[k]? = w.heap[k]?) (hP : ∀ k, P' k → P k ∨ w.heap.size ≤ k) : RefP P' w' r A := by
  obtain ⟨g, h1, h2⟩ := h
  obtain ⟨g', h'⟩ := mask_ex P' w'
  exact ⟨g', h', h2.keeps (h1.step h' hs hP)⟩
theorem RefP.below {P : Nat → Prop} {w w' : World} {r : RC} {A : Pl} (h : RefP P w r A) (hb : Below w.heap.size w w') : RefP P w' r A :=
  h.step (fun k hk _ => hb.block k hk) fun _ hk => .inl hk
end Go.Proofs.YtheoklhmlnfgjaaGreatDoor
/-
  The document's disk: Down, Used, At, List, Read: what only reads a state.
-/
namespace Go.Proofs.YtheoklhmlnfgjaaGreatDoor
open Go.RowKit Go.Maps

/-- the box of a state that came as an argument -/
theorem box_below (w : World) (cs : Array Value) (t : TypeId) : Below w.heap.size w (w.alloc (.cells cs t)) := (Below.refl _ w).alloc (Nat.le_refl _) _
theorem box_cell {w W : World} {cs : Array Value} {t : TypeId} (hb : Below (w.alloc (.cells cs t)).heap.size (w.alloc (.cells cs t)) W) (i : Nat) : W.cell? ⟨w.heap.size, i, none⟩ = cs[i]? := by
  have g : (w.alloc (.cells cs t)).heap[w.heap.size]? = some (.cells cs t (0, 0)) := heap_alloc_new w _
  exact cell_of_row _ _ _ _ _ _ ((hb.block w.heap.size (by simp)).trans g)

set_option maxHeartbeats 1000000 in
theorem refDown_any (r : RC) (A : Pl) (w : World) :
    Calls Tryz.prog 82 #[.agg (stC r A)] w fun e w' => e = .returned (.bool (downP A)) ∧ Below w.heap.size w w' := by
  show Calls Tryz.prog 82 #[.agg #[.slice r.p1 A.now.length r.c1, .slice r.p2 A.safe.length r.c2, .slice r.p3 A.pend.length r.c3, .slice r.p4 A.files.length r.c4, .slice r.p5 A.files.length r.c5, .int .i64 (A.room : Int), .slice r.p6 A.fails.length r.c6, .int .i64 A.power, .int .i64 (A.steps : Int)]] w _
  by_cases h1 : 0 ≤ A.power
  · have hd : ((A.steps : Int) == A.power) = downP A := by
      unfold downP
      rw [Bool.eq_iff_iff, beq_iff_eq, decide_eq_true_eq]
      exact ⟨fun e => ⟨h1, e⟩, fun e => e.2⟩
    obtain ⟨b, hb⟩ : ∃ b, b = downP A := ⟨_, rfl⟩
    rw [← hb] at hd ⊢
    clear hb
    go_enter Tryz.func82, Tryz.ntmps82
    go_wp2
    go_ret
    exact ⟨rfl, box_below _ _ _⟩
  · have hd : downP A = false := by unfold downP; exact decide_eq_false (fun e => h1 e.1)
    rw [hd]
    have h2 : decide (0 ≤ A.power) = false := decide_eq_false h1
    have h3 : A.power < 0 := by omega
    clear hd
    go_enter Tryz.func82, Tryz.ntmps82
    go_wp2
    go_ret
    exact ⟨rfl, box_below _ _ _⟩

/-- the number of a name's file, -1: none -/
def atI (M : NM) (k : BS) : Int := match lookN M k with | none => -1 | some f => (f : Int)
theorem lookN_take_none {M : NM} {k : BS} {i : Nat} (h : i < M.length) (hn : lookN (M.take i) k = none) : lookN (M.take (i + 1)) k = if M[i].1 = k then some M[i].2 else none := by
  rw [takes h]
  unfold lookN at hn ⊢
  rw [List.find?_append]
  cases hf : List.find? (fun x => decide (x.1 = k)) (M.take i) with
  | some y => rw [hf] at hn; cases hn
  | none =>
    rw [Option.none_or, List.find?_cons]
    by_cases e : M[i].1 = k
    · rw [if_pos e, decide_eq_true e]; rfl
    · rw [if_neg e, decide_eq_false e]; rfl
theorem lookN_take_some {M : NM} {k : BS} {i f : Nat} (h : lookN (M.take i) k = some f) : lookN M k = some f := by
  unfold lookN at h ⊢
  conv => lhs; rw [← List.take_append_drop i M]
  rw [List.find?_append]
  cases hf : List.find? (fun x => decide (x.1 = k)) (M.take i) with
  | none => rw [hf] at h; cases h
  | some y => rw [hf] at h; exact h

set_option maxRecDepth 100000 in
set_option maxHeartbeats 2000000 in
theorem refAt_any (r : RC) (A : Pl) (nm : ByteArray) (w : World) (hN : InN w r.p1 A.now) (hl : A.now.length ≤ 4000000000000) :
    Calls Tryz.prog 83 #[.agg (stC r A), .string nm] w fun e w' => e = .returned (.int .i64 (atI A.now nm.data.toList)) ∧ Below w.heap.size w w' := by
  show Calls Tryz.prog 83 #[.agg #[.slice r.p1 A.now.length r.c1, .slice r.p2 A.safe.length r.c2, .slice r.p3 A.pend.length r.c3, .slice r.p4 A.files.length r.c4, .slice r.p5 A.files.length r.c5, .int .i64 (A.room : Int), .slice r.p6 A.fails.length r.c6, .int .i64 A.power, .int .i64 (A.steps : Int)], .string nm] w _
  go_enter Tryz.func83, Tryz.ntmps83
  go_wp2_with fail
  obtain ⟨wa, hwa⟩ : ∃ W0, W0 = w.alloc (.cells #[.slice r.p1 A.now.length r.c1, .slice r.p2 A.safe.length r.c2, .slice r.p3 A.pend.length r.c3, .slice r.p4 A.files.length r.c4, .slice r.p5 A.files.length r.c5, .int .i64 (A.room : Int), .slice r.p6 A.fails.length r.c6, .int .i64 A.power, .int .i64 (A.steps : Int)] 51) := ⟨_, rfl⟩
  have hc0 := fun W (hb : Below wa.heap.size wa W) => by rw [hwa] at hb; exact box_cell hb 0
  have hba := box_below w #[.slice r.p1 A.now.length r.c1, .slice r.p2 A.safe.length r.c2, .slice r.p3 A.pend.length r.c3, .slice r.p4 A.files.length r.c4, .slice r.p5 A.files.length r.c5, .int .i64 (A.room : Int), .slice r.p6 A.fails.length r.c6, .int .i64 A.power, .int .i64 (A.steps : Int)] 51
  rw [← hwa] at hba ⊢
  have HC := Lib.hid (fun W (hb : Below wa.heap.size wa W) => show W.cell? ⟨w.heap.size, 0, none⟩ = some (.slice r.p1 A.now.length r.c1) from hc0 W hb)
  have HA0 := Lib.hid hba
  clear hc0 hwa hba
  go_loopw [5] (fun i wr => ∃ k : Nat, k ≤ A.now.length ∧ i = .int .i64 k ∧ lookN (A.now.take k) nm.data.toList = none ∧ Below wa.heap.size wa wr) (fun i _ => A.now.length - (intOf i).toNat)
  case atStart => exact ⟨0, Nat.zero_le _, rfl, rfl, Below.refl _ _⟩
  case round =>
    obtain ⟨k, hk, rfl, hnone, hb⟩ := hrel
    have c0 := HC.out wr hb
    have hbw := HA0.out.trans (hb.mono HA0.out.size)
    by_cases hlt : k < A.now.length
    · obtain ⟨b, o, hp, x, hx1, hx2, hx⟩ := (hN.below hbw).at hlt
      have hst := lookN_take_none hlt hnone
      rw [hp] at c0
      have HB := Lib.hid (And.intro hb hbw)
      clear hp hnone hb hbw
      by_cases heq : x.data.toList = nm.data.toList
      · have hbool : (x.toList == nm.toList) = true := by rw [strs_eq]; simp [heq]
        have hat : atI A.now nm.data.toList = (A.now[k].2 : Int) := by
          rw [← hx, if_pos heq] at hst
          unfold atI
          rw [lookN_take_some hst]
        have HA := Lib.hid hat
        clear hat heq hst hx
        generalize A.now[k].2 = f at hx2 HA
        go_wp2_with fail
        go_ret
        exact ⟨by rw [HA.out]; rfl, HB.out.2⟩
      · have hbool : (x.toList == nm.toList) = false := by rw [strs_eq]; simp [heq]
        rw [← hx, if_neg heq] at hst
        have HST := Lib.hid hst
        clear heq hst hx
        go_wp2_with fail
        go_roundw
        case rel => exact ⟨k + 1, by omega, by go_num, HST.out, HB.out.1⟩
        case measure => simp [intOf]; omega
    · obtain rfl : k = A.now.length := by omega
      have HA := Lib.hid (show atI A.now nm.data.toList = -1 by rw [List.take_length] at hnone; unfold atI; rw [hnone])
      clear hnone
      go_wp2_with fail
      go_ret
      exact ⟨by rw [HA.out]; rfl, hbw⟩
end Go.Proofs.YtheoklhmlnfgjaaGreatDoor
/-
  The document's names with one more, or without one.
-/
namespace Go.Proofs.YtheoklhmlnfgjaaGreatDoor
open Go.RowKit Go.Maps

/-- one name of the list looked at: what has come out, and whether the new one is in it -/
def nmStep (k : BS) (f : Nat) (s : NM × Bool) (x : BS × Nat) : NM × Bool :=
  if x.1 = k then s else if s.2 = false ∧ k < x.1 then (s.1 ++ [(k, f)] ++ [x], true) else (s.1 ++ [x], s.2)
def nmRun (k : BS) (f : Nat) (put : Bool) (M : NM) : NM × Bool := M.foldl (nmStep k f) ([], put)
def nmEnd (k : BS) (f : Nat) (s : NM × Bool) : NM := if s.2 then s.1 else s.1 ++ [(k, f)]
theorem nmRun_snoc (k : BS) (f : Nat) (put : Bool) {M : NM} {i : Nat} (h : i < M.length) : nmRun k f put (M.take (i + 1)) = nmStep k f (nmRun k f put (M.take i)) M[i] := by
  unfold nmRun
  rw [List.take_succ_eq_append_getElem h, List.foldl_append]
  rfl
theorem nm_true (k : BS) (f : Nat) : ∀ (M S : NM), M.foldl (nmStep k f) (S, true) = (S ++ delN k M, true)
  | [], S => by simp [delN]
  | x :: M, S => by
    rw [List.foldl_cons]
    unfold nmStep
    by_cases e : x.1 = k
    · rw [if_pos e]
      show M.foldl (nmStep k f) (S, true) = _
      rw [nm_true k f M S]
      simp [delN, e]
    · rw [if_neg e, if_neg (by simp)]
      show M.foldl (nmStep k f) (S ++ [x], true) = _
      rw [nm_true k f M]
      simp [delN, e]
theorem ins_out {k : BS} {f : Nat} {M : NM} (h : ∀ x ∈ M, k < x.1) : insN k f M = (k, f) :: M := by
  cases M with
  | nil => rfl
  | cons x M =>
    obtain ⟨m, g⟩ := x
    have := h (m, g) (List.mem_cons_self ..)
    unfold insN
    rw [if_neg (fun e => by rw [e] at this; exact absurd this (List.lt_irrefl _)), if_pos this]
theorem nm_false (k : BS) (f : Nat) : ∀ (M S : NM), Rises M → nmEnd k f (M.foldl (nmStep k f) (S, false)) = S ++ insN k f M
  | [], S, _ => rfl
  | x :: M, S, h => by
    have h' := List.pairwise_cons.1 h
    obtain ⟨m, g⟩ := x
    rw [List.foldl_cons]
    unfold nmStep insN
    by_cases e : m = k
    · rw [if_pos e, if_pos e]
      show nmEnd k f (M.foldl (nmStep k f) (S, false)) = _
      rw [nm_false k f M S h'.2, ins_out (fun y hy => by rw [← e]; exact h'.1 y hy)]
    · rw [if_neg e, if_neg e]
      by_cases hlt : k < m
      · rw [if_pos ⟨rfl, hlt⟩, if_pos hlt]
        show nmEnd k f (M.foldl (nmStep k f) (S ++ [(k, f)] ++ [(m, g)], true)) = _
        rw [nm_true k f M]
        have hd : delN k M = M := delN_out k M fun y hy e2 => by
          have := List.lt_trans hlt (h'.1 y hy)
          rw [e2] at this
          exact absurd this (List.lt_irrefl _)
        rw [hd]
        unfold nmEnd
        simp
      · rw [if_neg (fun h => hlt h.2), if_neg hlt]
        show nmEnd k f (M.foldl (nmStep k f) (S ++ [(m, g)], false)) = _
        rw [nm_false k f M _ h'.2]
        simp
theorem nmRun_length (k : BS) (f : Nat) (put : Bool) (M : NM) : (nmRun k f put M).1.length ≤ M.length + 1 := by
  have : ∀ (M S : NM) (b : Bool), (M.foldl (nmStep k f) (S, b)).1.length ≤ S.length + M.length + (if b then 0 else 1) := by
    intro M
    induction M with
    | nil => intro S b; simp
    | cons x M ih =>
      intro S b
      rw [List.foldl_cons]
      obtain ⟨s, hs⟩ : ∃ s, s = nmStep k f (S, b) x := ⟨_, rfl⟩
      rw [← hs]
      have h1 : s.1.length + (if s.2 then 0 else 1) ≤ S.length + 1 + (if b then 0 else 1) := by
        rw [hs]
        unfold nmStep
        split
        · simp only; omega
        · split
          · rename_i h
            have hb : b = false := h.1
            subst hb
            simp
          · simp
      have h2 := ih s.1 s.2
      simp only [List.length_cons]
      have h3 : (List.foldl (nmStep k f) (s.1, s.2) M) = List.foldl (nmStep k f) s M := rfl
      rw [h3] at h2
      omega
  have h := this M [] put
  simp only [List.length_nil, Nat.zero_add] at h
  unfold nmRun
  split at h <;> omega

/-- the names, the number being what the code was given -/
def putI (k : BS) (no : Int) (M : NM) : NM := if no < 0 then delN k M else insN k no.toNat M

set_option maxRecDepth 100000 in
set_option maxHeartbeats 8000000 in
theorem refNamed_any (M : NM) (hR : Rises M) (hl : M.length ≤ 4000000000000) (p : Option Addr) (n c : Nat) (hn : M.length = n) (nm : ByteArray) (no : Int) (w : World) (hin : InN w p M) :
    Calls Tryz.prog 85 #[.slice p n c, .string nm, .int .i64 no] w fun e w' => ∃ v, e = .returned v ∧ OwnM w' w.heap.size v (putI nm.data.toList no M) ∧ Below w.heap.size w w' := by
  subst hn
  have hmade := OwnM.made w
  have hb0 : Below w.heap.size w (w.alloc (.cells #[] 91)) := (Below.refl _ w).alloc (Nat.le_refl _) _
  obtain ⟨neg, hneg⟩ : ∃ neg, neg = decide (no < 0) := ⟨_, rfl⟩
  obtain ⟨f, hf⟩ : ∃ f, f = no.toNat := ⟨_, rfl⟩
  have hfno : neg = false → (f : Int) = no := fun e => by rw [e] at hneg; have := of_decide_eq_false hneg.symm; omega
  have hfin : ∀ s, s = nmRun nm.data.toList f neg M → putI nm.data.toList no M = nmEnd nm.data.toList f s := by
    intro s hs
    unfold putI
    cases neg with
    | true =>
      rw [if_pos (of_decide_eq_true hneg.symm), hs]
      unfold nmRun nmEnd
      rw [nm_true]
      simp
    | false =>
      rw [if_neg (of_decide_eq_false hneg.symm), hs, ← hf]
      unfold nmRun
      rw [nm_false _ _ _ _ hR]
      rfl
  have HFIN := Lib.hid (And.intro hfin hfno)
  have HNEG := Lib.hid hneg
  clear hfin hR hf hfno
  go_enter Tryz.func85, Tryz.ntmps85
  go_wp2_with fail
  rw [← hneg]
  clear hneg
  go_loopw [7, 8, 9] (fun v pt i wr => ∃ k : Nat, k ≤ M.length ∧ i = .int .i64 k ∧ pt = .bool (nmRun nm.data.toList f neg (M.take k)).2 ∧ OwnM wr w.heap.size v (nmRun nm.data.toList f neg (M.take k)).1 ∧ Below w.heap.size w wr ∧ ((nmRun nm.data.toList f neg (M.take k)).2 = false → neg = false)) (fun _ _ i _ => M.length - (intOf i).toNat)
  case atStart => exact ⟨0, Nat.zero_le _, rfl, rfl, by rw [List.take_zero]; exact hmade, hb0, id⟩
  case round =>
    obtain ⟨k, hk, rfl, rfl, hown, hb, hpn⟩ := hrel
    have hrl := nmRun_length nm.data.toList f neg (M.take k)
    rw [List.length_take] at hrl
    by_cases hlt : k < M.length
    · obtain ⟨b, o, rfl, x, hw1, hw2, hx⟩ := hin.at hlt
      have hx1 := cell_keep hw1 hb
      have hx2 := cell_keep hw2 hb
      have hsn := nmRun_snoc nm.data.toList f neg hlt
      have hM : M[k] = (x.data.toList, M[k].2) := Prod.ext hx.symm rfl
      rw [hM] at hsn
      obtain ⟨g, hg⟩ : ∃ g, g = M[k].2 := ⟨_, rfl⟩
      rw [← hg] at hx2 hw2 hsn
      obtain ⟨s, hs⟩ : ∃ s, s = nmRun nm.data.toList f neg (M.take k) := ⟨_, rfl⟩
      rw [← hs] at hsn hown hpn hrl ⊢
      obtain ⟨so, sp⟩ := s
      simp only at hown hpn hrl ⊢
      have hbs := hb.size
      clear hM hx hg hs hmade hb0
      by_cases heq : x.data.toList = nm.data.toList
      · have hbool : (x.toList == nm.toList) = true := by rw [strs_eq]; simp [heq]
        have HSN := Lib.hid (show nmRun nm.data.toList f neg (M.take (k + 1)) = (so, sp) by rw [hsn]; unfold nmStep; rw [if_pos heq])
        have HPN := Lib.hid hpn
        clear hsn heq hpn
        go_wp2_with fail
        go_roundw
        case rel => exact ⟨k + 1, by omega, by go_num, by rw [HSN.out], by rw [HSN.out]; exact hown, hb, by rw [HSN.out]; exact HPN.out⟩
        case measure => simp [intOf]; omega
      · have hbool : (x.toList == nm.toList) = false := by rw [strs_eq]; simp [heq]
        have hless := lessN x nm
        by_cases hput : sp = false ∧ nm.data.toList < x.data.toList
        · obtain ⟨rfl, hgt⟩ := hput
          rw [decide_eq_false (fun e => absurd (List.lt_trans hgt e) (List.lt_irrefl _))] at hless
          have HSN := Lib.hid (show nmRun nm.data.toList f neg (M.take (k + 1)) = (so ++ [(nm.data.toList, f)] ++ [(x.data.toList, g)], true) by rw [hsn]; unfold nmStep; rw [if_neg heq, if_pos ⟨rfl, hgt⟩])
          have hno := HFIN.out.2 (hpn rfl)
          subst hno
          have hown2 := hown.below ((Below.refl _ wr).alloc (Nat.le_refl _) (.cells #[.string nm, .int .i64 (f : Int)] 91))
          have hine := InE.one wr nm (.int .i64 (f : Int)) 91
          have hB1 := hb.alloc hbs (.cells #[.string nm, .int .i64 (f : Int)] 91)
          clear hsn heq hpn hgt
          go_wp2_with (first
            | (at_builtin; refine wpList_appendM rfl _ _ rfl w.heap.size _ so rfl hown2 _ _ nm.data.toList f rfl hine (by omega) (by simp; omega) ?_; intro v1 w1 hown1 hg1; have hb1 := OwnM.grown hB1 (by simp; omega) hown2 hg1; have hs1 := hb1.size; have hx1' := cell_keep hw1 hb1; have hx2' := cell_keep hw2 hb1; have hown3 := hown1.below ((Below.refl _ w1).alloc (Nat.le_refl _) (.cells #[.string x, .int .i64 (g : Int)] 91)); have hine2 := InE.one w1 x (.int .i64 (g : Int)) 91; have hB2 := hb1.alloc hs1 (.cells #[.string x, .int .i64 (g : Int)] 91); clear hown1 hown2 hg1 hine)
            | (at_builtin; refine wpList_appendM rfl _ _ rfl w.heap.size _ (so ++ [(nm.data.toList, f)]) rfl hown3 _ _ x.data.toList g rfl hine2 (by simp; omega) (by simp; omega) ?_; intro v2 w2 hown4 hg2; have hb2 := OwnM.grown hB2 (by simp; omega) hown3 hg2))
          go_roundw
          case rel => exact ⟨k + 1, by omega, by go_num, by rw [HSN.out], by rw [HSN.out]; exact hown4, hb2, by rw [HSN.out]; intro e; cases e⟩
          case measure => simp [intOf]; omega
        · have HSN := Lib.hid (show nmRun nm.data.toList f neg (M.take (k + 1)) = (so ++ [(x.data.toList, g)], sp) by rw [hsn]; unfold nmStep; rw [if_neg heq, if_neg hput])
          have hown2 := hown.below ((Below.refl _ wr).alloc (Nat.le_refl _) (.cells #[.string x, .int .i64 (g : Int)] 91))
          have hine := InE.one wr x (.int .i64 (g : Int)) 91
          have hB1 := hb.alloc hbs (.cells #[.string x, .int .i64 (g : Int)] 91)
          have HPN := Lib.hid hpn
          cases sp with
          | true =>
            clear hsn heq hpn hput hless
            go_wp2_with (at_builtin; refine wpList_appendM rfl _ _ rfl w.heap.size _ so rfl hown2 _ _ x.data.toList g rfl hine (by omega) (by simp; omega) ?_; intro v1 w1 hown1 hg1; have hb1 := OwnM.grown hB1 (by simp; omega) hown2 hg1)
            go_roundw
            case rel => exact ⟨k + 1, by omega, by go_num, by rw [HSN.out], by rw [HSN.out]; exact hown1, hb1, by rw [HSN.out]; exact HPN.out⟩
            case measure => simp [intOf]; omega
          | false =>
            rw [decide_eq_true (lt_of_le_ne (List.not_lt.1 fun e => hput ⟨rfl, e⟩) (fun e => heq e.symm))] at hless
            clear hsn heq hpn hput
            go_wp2_with (at_builtin; refine wpList_appendM rfl _ _ rfl w.heap.size _ so rfl hown2 _ _ x.data.toList g rfl hine (by omega) (by simp; omega) ?_; intro v1 w1 hown1 hg1; have hb1 := OwnM.grown hB1 (by simp; omega) hown2 hg1)
            go_roundw
            case rel => exact ⟨k + 1, by omega, by go_num, by rw [HSN.out], by rw [HSN.out]; exact hown1, hb1, by rw [HSN.out]; exact HPN.out⟩
            case measure => simp [intOf]; omega
    · obtain rfl : k = M.length := by omega
      rw [List.take_length] at hown hpn hrl
      obtain ⟨s, hs⟩ : ∃ s, s = nmRun nm.data.toList f neg M := ⟨_, rfl⟩
      rw [List.take_length]
      rw [← hs] at hown hpn hrl ⊢
      have HF := Lib.hid (HFIN.out.1 s hs)
      have HNO := Lib.hid (fun e => HFIN.out.2 (hpn e))
      obtain ⟨so, sp⟩ := s
      simp only at hown hpn hrl HNO ⊢
      have hbs := hb.size
      clear hs hpn hmade hb0
      cases sp with
      | true =>
        have HF2 := Lib.hid (show putI nm.data.toList no M = so from HF.out)
        obtain ⟨p', c', rfl, _⟩ := hown.shape rfl
        go_wp2_with fail
        go_ret
        exact ⟨_, rfl, by rw [HF2.out]; exact hown, hb⟩
      | false =>
        have hno := HNO.out rfl
        subst hno
        have HF2 := Lib.hid (show putI nm.data.toList (f : Int) M = so ++ [(nm.data.toList, f)] from HF.out)
        have hown2 := hown.below ((Below.refl _ wr).alloc (Nat.le_refl _) (.cells #[.string nm, .int .i64 (f : Int)] 91))
        have hine := InE.one wr nm (.int .i64 (f : Int)) 91
        have hB1 := hb.alloc hbs (.cells #[.string nm, .int .i64 (f : Int)] 91)
        go_wp2_with (at_builtin; refine wpList_appendM rfl _ _ rfl w.heap.size _ so rfl hown2 _ _ nm.data.toList f rfl hine (by omega) (by simp; omega) ?_; intro v1 w1 hown1 hg1; have hb1 := OwnM.grown hB1 (by simp; omega) hown2 hg1)
        go_ret
        exact ⟨_, rfl, by rw [HF2.out]; exact hown1, hb1⟩
end Go.Proofs.YtheoklhmlnfgjaaGreatDoor
/-
  The document's disk: Used, List, Read, renamed.
-/
namespace Go.Proofs.YtheoklhmlnfgjaaGreatDoor
open Go.RowKit Go.Maps

theorem usedP_take (A : Pl) {k : Nat} (h : k < A.now.length) : ((A.now.take (k + 1)).map fun x => (datP A x.2).length).sum = ((A.now.take k).map fun x => (datP A x.2).length).sum + (datP A A.now[k].2).length := by
  rw [takes h, List.map_append, List.sum_append]
  simp
theorem usedP_take_le (A : Pl) (k : Nat) : ((A.now.take k).map fun x => (datP A x.2).length).sum ≤ usedP A := by
  unfold usedP
  conv => rhs; rw [← List.take_append_drop k A.now]
  rw [List.map_append, List.sum_append]
  omega
/-- the bytes of a file, as they lie in a state -/
theorem RefAt.dat {w : World} {r : RC} {A : Pl} (h : RefAt w r A) {i : Nat} (hi : i < A.files.length) :
    ∃ b o, r.p4 = some ⟨b, o, none⟩ ∧ ∃ q c, w.cell? ⟨b, o + i, none⟩ = some (.slice q (datP A i).length c) ∧ (datP A i).length ≤ maxLen ∧ In8 w q (datP A i) ∧ (q = none → c = 0) ∧ (datP A i).length ≤ c := by
  obtain ⟨b, o, e, v, hc, q, c, rfl, h1, h2, h3, h4⟩ := h.data.at (k := i) (by rw [List.length_map]; exact hi)
  rw [List.getElem_map] at hc h2 h3 h4
  have hd : datP A i = A.files[i].1 := by unfold datP; rw [List.getElem?_eq_getElem hi]; rfl
  rw [hd]
  exact ⟨b, o, e, q, c, hc, h2, h3, h1, h4⟩

set_option maxRecDepth 100000 in
set_option maxHeartbeats 2000000 in
theorem refUsed_any (r : RC) (A : Pl) (w : World) (h : RefAt w r A) (hl : A.now.length ≤ 4000000000000) (hf : ∀ x ∈ A.now, x.2 < A.files.length) (hu : usedP A ≤ 1000000000000000) :
    Calls Tryz.prog 54 #[.agg (stC r A)] w fun e w' => e = .returned (.int .i64 (usedP A)) ∧ Below w.heap.size w w' := by
  show Calls Tryz.prog 54 #[.agg #[.slice r.p1 A.now.length r.c1, .slice r.p2 A.safe.length r.c2, .slice r.p3 A.pend.length r.c3, .slice r.p4 A.files.length r.c4, .slice r.p5 A.files.length r.c5, .int .i64 (A.room : Int), .slice r.p6 A.fails.length r.c6, .int .i64 A.power, .int .i64 (A.steps : Int)]] w _
  go_enter Tryz.func54, Tryz.ntmps54
  go_wp2_with fail
  obtain ⟨wa, hwa⟩ : ∃ W0, W0 = w.alloc (.cells #[.slice r.p1 A.now.length r.c1, .slice r.p2 A.safe.length r.c2, .slice r.p3 A.pend.length r.c3, .slice r.p4 A.files.length r.c4, .slice r.p5 A.files.length r.c5, .int .i64 (A.room : Int), .slice r.p6 A.fails.length r.c6, .int .i64 A.power, .int .i64 (A.steps : Int)] 51) := ⟨_, rfl⟩
  have hc0 := fun i W (hb : Below wa.heap.size wa W) => by rw [hwa] at hb; exact box_cell hb i
  have hba := box_below w #[.slice r.p1 A.now.length r.c1, .slice r.p2 A.safe.length r.c2, .slice r.p3 A.pend.length r.c3, .slice r.p4 A.files.length r.c4, .slice r.p5 A.files.length r.c5, .int .i64 (A.room : Int), .slice r.p6 A.fails.length r.c6, .int .i64 A.power, .int .i64 (A.steps : Int)] 51
  rw [← hwa] at hba ⊢
  have HC := Lib.hid (fun W (hb : Below wa.heap.size wa W) => (show W.cell? ⟨w.heap.size, 0, none⟩ = some (.slice r.p1 A.now.length r.c1) ∧ W.cell? ⟨w.heap.size, 3, none⟩ = some (.slice r.p4 A.files.length r.c4) from ⟨hc0 0 W hb, hc0 3 W hb⟩))
  have HA0 := Lib.hid hba
  have HR := Lib.hid h
  clear hc0 hwa hba h
  go_loopw [3, 4] (fun v i wr => ∃ k : Nat, k ≤ A.now.length ∧ i = .int .i64 k ∧ v = .int .i64 ((((A.now.take k).map fun x => (datP A x.2).length).sum : Nat) : Int) ∧ Below wa.heap.size wa wr) (fun _ i _ => A.now.length - (intOf i).toNat)
  case atStart => exact ⟨0, Nat.zero_le _, rfl, rfl, Below.refl _ _⟩
  case round =>
    obtain ⟨k, hk, rfl, rfl, hb⟩ := hrel
    obtain ⟨c0, c3⟩ := HC.out wr hb
    have hbw := HA0.out.trans (hb.mono HA0.out.size)
    by_cases hlt : k < A.now.length
    · obtain ⟨b, o, hp, x, hx1, hx2, hx⟩ := (HR.out.below hbw).now.at hlt
      have hfl := hf _ (List.getElem_mem hlt)
      obtain ⟨b4, o4, hp4, q, c, hd, hdl, _⟩ := (HR.out.below hbw).dat hfl
      have hst := usedP_take A hlt
      have hle := usedP_take_le A (k + 1)
      rw [hp] at c0
      rw [hp4] at c3
      obtain ⟨l, hl2⟩ : ∃ l, l = (datP A A.now[k].2).length := ⟨_, rfl⟩
      obtain ⟨n0, hn0⟩ : ∃ n0, n0 = ((A.now.take k).map fun x => (datP A x.2).length).sum := ⟨_, rfl⟩
      rw [← hl2] at hst hd hdl
      rw [← hn0] at hst ⊢
      have hle2 : n0 + l ≤ 1000000000000000 := by omega
      have HST := Lib.hid hst
      have HB := Lib.hid hb
      generalize A.now[k].2 = f at hx2 hfl hd hl2
      clear hp hp4 hst hle hb hbw hl2 hn0 hx
      unfold maxLen at hdl
      go_wp2_with fail
      go_quiet (fail)
      go_wp2_with fail
      go_roundw
      case rel => exact ⟨k + 1, by omega, by go_num, by rw [HST.out]; go_num, bdrewN HB.out _⟩
      case measure => simp [intOf]; omega
    · obtain rfl : k = A.now.length := by omega
      have hu2 : ((A.now.take A.now.length).map fun x => (datP A x.2).length).sum = usedP A := by rw [List.take_length]; rfl
      rw [hu2]
      clear hu2
      go_wp2_with fail
      go_ret
      exact ⟨rfl, hbw⟩

/-- the nine cells of a state's box -/
theorem st9 {W : World} {b : Nat} {r : RC} {A : Pl} (h : W.heap[b]? = some (.cells (stC r A) 51 (0, 0))) :
    W.cell? ⟨b, 0, none⟩ = some (.slice r.p1 A.now.length r.c1) ∧ W.cell? ⟨b, 1, none⟩ = some (.slice r.p2 A.safe.length r.c2) ∧ W.cell? ⟨b, 2, none⟩ = some (.slice r.p3 A.pend.length r.c3) ∧ W.cell? ⟨b, 3, none⟩ = some (.slice r.p4 A.files.length r.c4) ∧ W.cell? ⟨b, 4, none⟩ = some (.slice r.p5 A.files.length r.c5) ∧ W.cell? ⟨b, 5, none⟩ = some (.int .i64 (A.room : Int)) ∧ W.cell? ⟨b, 6, none⟩ = some (.slice r.p6 A.fails.length r.c6) ∧ W.cell? ⟨b, 7, none⟩ = some (.int .i64 A.power) ∧ W.cell? ⟨b, 8, none⟩ = some (.int .i64 (A.steps : Int)) := by
  refine ⟨?_, ?_, ?_, ?_, ?_, ?_, ?_, ?_, ?_⟩ <;> (rw [cell_of_row _ _ _ _ _ _ h]; rfl)
theorem stBox {w W : World} {r : RC} {A : Pl} (hb : Below (w.alloc (.cells (stC r A) 51)).heap.size (w.alloc (.cells (stC r A) 51)) W) : W.heap[w.heap.size]? = some (.cells (stC r A) 51 (0, 0)) :=
  (hb.block w.heap.size (by simp)).trans (heap_alloc_new w _)

set_option maxRecDepth 100000 in
set_option maxHeartbeats 2000000 in
theorem refList_any (r : RC) (A : Pl) (w : World) (h : InN w r.p1 A.now) (hl : A.now.length ≤ 4000000000000) :
    Calls Tryz.prog 50 #[.agg (stC r A)] w fun e w' => ∃ p c, e = .returned (.slice p (listP A).length c) ∧ InS w' p (listP A) ∧ Below w.heap.size w w' := by
  have hdn := fun W => refDown_any r A W
  unfold stC at hdn
  show Calls Tryz.prog 50 #[.agg #[.slice r.p1 A.now.length r.c1, .slice r.p2 A.safe.length r.c2, .slice r.p3 A.pend.length r.c3, .slice r.p4 A.files.length r.c4, .slice r.p5 A.files.length r.c5, .int .i64 (A.room : Int), .slice r.p6 A.fails.length r.c6, .int .i64 A.power, .int .i64 (A.steps : Int)]] w _
  have HL := Lib.hid (show listP A = if downP A = true then [] else A.now.map (·.1) from rfl)
  obtain ⟨dn, hdn2⟩ : ∃ dn, dn = downP A := ⟨_, rfl⟩
  rw [← hdn2] at hdn HL
  clear hdn2
  go_enter Tryz.func50, Tryz.ntmps50
  go_wp2_with fail
  obtain ⟨wa, hwa⟩ : ∃ W0, W0 = w.alloc (.cells (stC r A) 51) := ⟨_, rfl⟩
  have hc0 := fun W (hb : Below wa.heap.size wa W) => by rw [hwa] at hb; exact st9 (stBox hb)
  have hba := box_below w (stC r A) 51
  rw [← hwa] at hba
  unfold stC at hwa
  have hmade : OwnS (wa.alloc (.cells #[] 9)) wa.heap.size (.slice (some ⟨wa.heap.size, 0, none⟩) 0 0) [] := OwnS.made wa
  have hbm := (Below.refl _ wa).alloc (Nat.le_refl _) (.cells #[] 9)
  have hsz : wa.heap.size = w.heap.size + 1 := by rw [hwa]; simp
  rw [← hsz, ← hwa]
  have HC := Lib.hid hc0
  have HA0 := Lib.hid hba
  clear hc0 hba hsz hwa
  go_loopw [3, 4] (fun v i wr => ∃ k : Nat, k ≤ A.now.length ∧ i = .int .i64 k ∧ OwnS wr wa.heap.size v ((A.now.take k).map (·.1)) ∧ Below wa.heap.size wa wr ∧ (dn = true → k = 0)) (fun _ i _ => A.now.length - (intOf i).toNat)
  case atStart => exact ⟨0, Nat.zero_le _, rfl, hmade, hbm, fun _ => rfl⟩
  case round =>
    obtain ⟨k, hk, rfl, hown, hb, hk0⟩ := hrel
    obtain ⟨c0, c1, c2, c3, c4, c5, c6, c7, c8⟩ := HC.out wr hb
    have hbw := HA0.out.trans (hb.mono HA0.out.size)
    by_cases hlt : k < A.now.length
    · obtain ⟨b, o, hp, x, hx1, hx2, hx⟩ := (h.below hbw).at hlt
      cases dn with
      | true =>
        obtain rfl := hk0 rfl
        have HO := Lib.hid (And.intro hown hbw)
        have HB := Lib.hid hb
        clear hown hbw hb hp hx1 hx2 hx hmade hbm
        go_wp2_with fail
        refine (hdn _).mono ?_
        rintro e w2 ⟨rfl, hb2⟩
        go_wp2_with fail
        obtain ⟨p, c, rfl, _, _, hin, _⟩ := HO.out.1.shape (n := 0) rfl
        go_ret
        exact ⟨p, c, by rw [HL.out]; rfl, by rw [HL.out]; exact hin.below hb2, HO.out.2.trans (hb2.mono HO.out.2.size)⟩
      | false =>
        rw [hp] at c0
        simp only [hp] at hdn
        have HO := Lib.hid (And.intro hown hx)
        have HB := Lib.hid hb
        clear hown hbw hb hx hmade hbm hp hk0
        go_wp2_with fail
        refine (hdn _).mono ?_
        rintro e w2 ⟨rfl, hb2⟩
        have hB2 := HB.out.trans (hb2.mono HB.out.size)
        have d0 := cell_keep c0 hb2
        have d1 := cell_keep hx1 hb2
        have hown2 := (HO.out.1.below hb2).below ((Below.refl _ w2).alloc (Nat.le_refl _) (.cells #[.string x] 9))
        have hin := InS.one w2 x
        have hB3 := hB2.alloc hB2.size (.cells #[.string x] 9)
        have hs2 := hB2.size
        have HB3 := Lib.hid hB3
        clear hb2 hB2 hB3
        go_wp2_with (at_builtin; refine wpList_appendS rfl _ _ rfl wa.heap.size _ _ rfl hown2 _ _ _ _ rfl rfl hin (by simp; omega) (by simp; omega) ?_; intro v1 w3 hown3 hgrow3 _; have hB4 := OwnS.grown HB3.out (by simp; omega) hown2 hgrow3)
        go_roundw
        case rel => exact ⟨k + 1, by omega, by go_num, by rw [takes hlt, List.map_append, List.map_cons, List.map_nil, ← HO.out.2]; exact hown3, hB4, fun e => by cases e⟩
        case measure => simp [intOf]; omega
    · obtain rfl : k = A.now.length := by omega
      rw [List.take_length] at hown
      have HLL : Hid (listP A = A.now.map (·.1)) := Lib.hid (by
        rw [HL.out]
        cases dn with
        | false => rfl
        | true =>
          have := hk0 rfl
          rw [if_pos rfl, List.eq_nil_of_length_eq_zero this]; rfl)
      obtain ⟨p, c, rfl, _, _, hin, _⟩ := hown.shape (n := A.now.length) (by simp)
      go_wp2_with fail
      go_ret
      exact ⟨p, c, by rw [HLL.out, List.length_map]; rfl, by rw [HLL.out]; exact hin, hbw⟩
end Go.Proofs.YtheoklhmlnfgjaaGreatDoor
/-
  The document's disk: renamed: the state with other names.
-/
namespace Go.Proofs.YtheoklhmlnfgjaaGreatDoor
open Go.RowKit Go.Maps

theorem infoNs : (Tryz.prog.info? 47).map (fun i => (i.zero, i.size, i.bytes)) = some (some (.slice none 0 0), 1, 24) := by kernel_rfl
theorem infoB9 : (Tryz.prog.info? 22).map (fun i => (i.zero, i.size, i.bytes)) = some (some (.slice none 0 0), 1, 24) := by kernel_rfl
def zeroSt : Array Value := #[.slice none 0 0, .slice none 0 0, .slice none 0 0, .slice none 0 0, .slice none 0 0, .int .i64 0, .slice none 0 0, .int .i64 0, .int .i64 0]

set_option maxRecDepth 100000 in
set_option maxHeartbeats 4000000 in
theorem refRenamed_any (r : RC) (n0 n2 n4 n5 n6 : Nat) (room power steps : Int) (q : Option Addr) (m c : Nat) (w : World) (n : Nat) (vs : List Value) (hvl : vs.length = n) (hvs : InV w r.p3 vs) (hv1 : ∀ u ∈ vs, u.oneCell' = true) (hp : n ≤ 1000000000000) :
    Calls Tryz.prog 84 #[.agg #[.slice r.p1 n0 r.c1, .slice r.p2 n2 r.c2, .slice r.p3 n r.c3, .slice r.p4 n4 r.c4, .slice r.p5 n5 r.c5, .int .i64 room, .slice r.p6 n6 r.c6, .int .i64 power, .int .i64 steps], .slice q m c] w fun e w' =>
      ∃ p3 c3, e = .returned (.agg #[.slice q m c, .slice r.p2 n2 r.c2, .slice p3 (n + 1) c3, .slice r.p4 n4 r.c4, .slice r.p5 n5 r.c5, .int .i64 room, .slice r.p6 n6 r.c6, .int .i64 power, .int .i64 steps]) ∧ w'.ownsRow w.heap.size 47 1 (.slice p3 (n + 1) c3) (n + 1) (vs ++ [.slice q m c]) ∧ Below w.heap.size w w' := by
  subst hvl
  obtain ⟨wa, hwa⟩ : ∃ x, x = ((w.alloc (.cells #[.slice q m c, .slice r.p2 n2 r.c2, .slice r.p3 vs.length r.c3, .slice r.p4 n4 r.c4, .slice r.p5 n5 r.c5, .int .i64 room, .slice r.p6 n6 r.c6, .int .i64 power, .int .i64 steps] 51)).alloc (.cells #[.slice none 0 0, .slice none 0 0, .slice none 0 0, .slice none 0 0, .slice none 0 0, .int .i64 0, .slice none 0 0, .int .i64 0, .int .i64 0] 51)).alloc (.cells #[] 47) := ⟨_, rfl⟩
  have hba : Below w.heap.size w wa := by rw [hwa]; exact (((Below.refl _ w).alloc (Nat.le_refl _) _).alloc (by simp) _).alloc (by simp; omega) _
  have hsa : wa.heap.size = w.heap.size + 3 := by rw [hwa]; simp
  have g0 : wa.heap[w.heap.size]? = some (.cells #[.slice q m c, .slice r.p2 n2 r.c2, .slice r.p3 vs.length r.c3, .slice r.p4 n4 r.c4, .slice r.p5 n5 r.c5, .int .i64 room, .slice r.p6 n6 r.c6, .int .i64 power, .int .i64 steps] 51 (0, 0)) := by
    rw [hwa]
    exact (heap_alloc_old _ _ (by simp; omega)).trans ((heap_alloc_old _ _ (by simp)).trans (heap_alloc_new w _))
  have g1 : wa.heap[w.heap.size + 1]? = some (.cells #[.slice none 0 0, .slice none 0 0, .slice none 0 0, .slice none 0 0, .slice none 0 0, .int .i64 0, .slice none 0 0, .int .i64 0, .int .i64 0] 51 (0, 0)) := by
    rw [hwa]
    have := heap_alloc_new (w.alloc (.cells #[.slice q m c, .slice r.p2 n2 r.c2, .slice r.p3 vs.length r.c3, .slice r.p4 n4 r.c4, .slice r.p5 n5 r.c5, .int .i64 room, .slice r.p6 n6 r.c6, .int .i64 power, .int .i64 steps] 51)) (.cells #[.slice none 0 0, .slice none 0 0, .slice none 0 0, .slice none 0 0, .slice none 0 0, .int .i64 0, .slice none 0 0, .int .i64 0, .int .i64 0] 51)
    rw [World.size_alloc] at this
    exact (heap_alloc_old _ _ (by simp)).trans this
  have hown0 : wa.ownsRow (w.heap.size + 2) 47 1 (.slice (some ⟨w.heap.size + 1 + 1, 0, none⟩) 0 0) 0 [] := by
    refine ⟨rfl, .inr ⟨w.heap.size + 1 + 1, 0, #[], rfl, by omega, ?_, by simp, by unfold maxLen; omega, rfl, rfl⟩⟩
    rw [hwa]
    have := heap_alloc_new ((w.alloc (.cells #[.slice q m c, .slice r.p2 n2 r.c2, .slice r.p3 vs.length r.c3, .slice r.p4 n4 r.c4, .slice r.p5 n5 r.c5, .int .i64 room, .slice r.p6 n6 r.c6, .int .i64 power, .int .i64 steps] 51)).alloc (.cells #[.slice none 0 0, .slice none 0 0, .slice none 0 0, .slice none 0 0, .slice none 0 0, .int .i64 0, .slice none 0 0, .int .i64 0, .int .i64 0] 51)) (.cells #[] 47)
    rw [World.size_alloc, World.size_alloc] at this
    exact this
  have hs := srcV (c := r.c3) (e := 47) Tryz.underlying48 (hvs.below hba) hv1
  have HC := Lib.hid (And.intro hba (And.intro hsa (And.intro g0 (And.intro g1 hwa))))
  rw [hwa] at hs hown0
  clear hba hsa g0 g1 hwa
  go_enter Tryz.func84, Tryz.ntmps84
  go_wp2_with (first
    | (at_builtin; (
       refine wpList_append_way _ rfl _ _ 48 48 rfl (w.heap.size + 2) 47 (.slice none 0 0) 1 24 Tryz.underlying48 infoNs rfl _ 0 [] rfl hown0 _ vs.length vs rfl hs (by unfold maxLen; omega) (by omega) (by simp) ?_
       intro v1 w1 hown1 hgrow1 _
       rw [← HC.out.2.2.2.2] at hgrow1
       rw [List.nil_append, Nat.zero_add] at hown1
       obtain ⟨hba, hsa, g0, g1, _⟩ := HC.out
       have k0 := (hgrow1.block w.heap.size (by omega) (fun e => by have := Option.some.inj (show some w.heap.size = some (w.heap.size + 1 + 1) from e); omega)).trans g0
       have k1 := (hgrow1.block (w.heap.size + 1) (by omega) (fun e => by have := Option.some.inj (show some (w.heap.size + 1) = some (w.heap.size + 1 + 1) from e); omega)).trans g1
       have hb1 : Below w.heap.size w w1 := hba.grown hgrow1 hba.size (fun k e => by have := Option.some.inj (show some (w.heap.size + 1 + 1) = some k from e); omega)
       have hs1 := hgrow1.size
       obtain ⟨w2, hw2⟩ : ∃ x, x = w1.alloc (.cells #[.slice q m c] 47) := ⟨_, rfl⟩
       have hown2 : w2.ownsRow (w.heap.size + 2) 47 1 v1 vs.length vs := by rw [hw2]; exact hown1.alloc _
       have hb2 : Below w.heap.size w w2 := by rw [hw2]; exact hb1.alloc hb1.size _
       have l0 := (heap_alloc_old w1 (.cells #[.slice q m c] 47) (lt_of_heap k0)).trans k0
       have l1 := (heap_alloc_old w1 (.cells #[.slice q m c] 47) (lt_of_heap k1)).trans k1
       rw [← hw2] at l0 l1
       have hsrc : Src Tryz.prog 1 48 (.slice (some ⟨w1.heap.size, 0, none⟩) 1 1) 1 [.slice q m c] w2 := by
         have := srcV (c := 1) (e := 47) (xs := [.slice q m c]) Tryz.underlying48 (InV.one w1 (.slice q m c) 47) (fun u hu => by rw [List.mem_singleton.1 hu]; rfl)
         rw [hw2]; exact this
       have hsz2 : w.heap.size + 2 ≤ w2.heap.size := by rw [hw2]; simp; omega
       have H2 := Lib.hid (And.intro hown2 (And.intro hb2 (And.intro l0 (And.intro l1 hsz2))))
       rw [hw2] at hsrc hown2 hsz2
       have HW2 := Lib.hid hw2
       clear hw2 hb2 l0 l1 hown1 hgrow1 hba hsa g0 g1 k0 k1 hb1 hs1))
    | (at_builtin; (
       refine wpList_append_way _ rfl _ _ 48 48 rfl (w.heap.size + 2) 47 (.slice none 0 0) 1 24 Tryz.underlying48 infoNs rfl _ vs.length vs rfl hown2 _ 1 [.slice q m c] rfl hsrc (by unfold maxLen; omega) (by omega) hsz2 ?_
       intro v3 w3 hown3 hgrow3 _
       rw [← HW2.out] at hgrow3
       obtain ⟨hown2', hb2, l0, l1, hsz2'⟩ := H2.out
       have n0 := (hgrow3.block w.heap.size (lt_of_heap l0) (fun e => by have := (World.ownsRow.lt hown2' _ e.symm).1; omega)).trans l0
       have n1 := (hgrow3.block (w.heap.size + 1) (lt_of_heap l1) (fun e => by have := (World.ownsRow.lt hown2' _ e.symm).1; omega)).trans l1
       have hb3 : Below w.heap.size w w3 := hb2.grown hgrow3 hb2.size (fun k e => by have := (World.ownsRow.lt hown2' _ e).1; omega)
       have HG := Lib.hid (And.intro hown3 hb3)
       have HN := Lib.hid (And.intro n0 n1)
       have f0 := fun i => frozen_of_row w3 w.heap.size i _ _ n0
       have f1 := fun i => frozen_of_row w3 (w.heap.size + 1) i _ _ n1
       have c0 := fun i => cell_of_row w3 w.heap.size i _ _ _ n0
       have c1 := fun i => cell_of_row w3 (w.heap.size + 1) i _ _ _ n1
       obtain ⟨p3, c3, rfl, _, _, _, _⟩ := owns_shape hown3
       clear hown3 hgrow3 hown2' hb2 l0 l1 hsz2' n0 n1 hb3)))
  obtain ⟨hown3, hb3⟩ := HG.out
  obtain ⟨n0, n1⟩ := HN.out
  refine bodyPost_ret (v := .agg #[.slice q m c, .slice r.p2 n2 r.c2, .slice p3 (vs.length + 1) c3, .slice r.p4 n4 r.c4, .slice r.p5 n5 r.c5, .int .i64 room, .slice r.p6 n6 r.c6, .int .i64 power, .int .i64 steps]) (by simp [results, Tryz.results84, go_sem, c1]) rfl ⟨_, _, rfl, ?_, ?_⟩
  · have hlt := fun (a : Addr) (v : Value) => fun (W : World) (h : W.ownsRow (w.heap.size + 2) 47 1 (.slice p3 (vs.length + 1) c3) (vs.length + 1) (vs ++ [.slice q m c])) (ha : a.block < w.heap.size + 2) => ownsRow_setCell_below h ha v
    refine ownsRow_mono ?_ (show w.heap.size ≤ w.heap.size + 2 by omega)
    exact hlt ⟨w.heap.size + 1, 8, none⟩ _ _ (hlt ⟨w.heap.size + 1, 7, none⟩ _ _ (hlt ⟨w.heap.size + 1, 6, none⟩ _ _ (hlt ⟨w.heap.size + 1, 5, none⟩ _ _ (hlt ⟨w.heap.size + 1, 4, none⟩ _ _ (hlt ⟨w.heap.size + 1, 3, none⟩ _ _ (hlt ⟨w.heap.size + 1, 2, none⟩ _ _ (hlt ⟨w.heap.size + 1, 1, none⟩ _ _ (hlt ⟨w.heap.size + 1, 0, none⟩ _ _ (hlt ⟨w.heap.size, 2, none⟩ _ _ hown3 (by simp)) (by simp)) (by simp)) (by simp)) (by simp)) (by simp)) (by simp)) (by simp)) (by simp)) (by simp)
  · have hlt := fun (a : Addr) (v : Value) => fun (W : World) (h : Below w.heap.size w W) (ha : w.heap.size ≤ a.block) => h.setCell (p := a) ha v
    exact hlt ⟨w.heap.size + 1, 8, none⟩ _ _ (hlt ⟨w.heap.size + 1, 7, none⟩ _ _ (hlt ⟨w.heap.size + 1, 6, none⟩ _ _ (hlt ⟨w.heap.size + 1, 5, none⟩ _ _ (hlt ⟨w.heap.size + 1, 4, none⟩ _ _ (hlt ⟨w.heap.size + 1, 3, none⟩ _ _ (hlt ⟨w.heap.size + 1, 2, none⟩ _ _ (hlt ⟨w.heap.size + 1, 1, none⟩ _ _ (hlt ⟨w.heap.size + 1, 0, none⟩ _ _ (hlt ⟨w.heap.size, 2, none⟩ _ _ hb3 (by simp)) (by simp)) (by simp)) (by simp)) (by simp)) (by simp)) (by simp)) (by simp)) (by simp)) (by simp)
end Go.Proofs.YtheoklhmlnfgjaaGreatDoor
/-
  The document's disk: the boxes of a step, and what a state becomes: the plain part.
-/
namespace Go.Proofs.YtheoklhmlnfgjaaGreatDoor
open Go.RowKit Go.Maps

/-- the boxes of a step: the state, the op, the result -/
structure Fr (w W : World) (cs os : Array Value) : Prop where
  s : W.heap[w.heap.size]? = some (.cells cs 51 (0, 0))
  o : W.heap[w.heap.size + 1]? = some (.cells os 104 (0, 0))
  z : W.heap[w.heap.size + 2]? = some (.cells #[.slice none 0 0, .slice none 0 0, .slice none 0 0, .slice none 0 0, .slice none 0 0, .int .i64 0, .slice none 0 0, .int .i64 0, .int .i64 0] 51 (0, 0))
  b : Below w.heap.size w W
theorem Fr.size {w W : World} {cs os : Array Value} (h : Fr w W cs os) : w.heap.size + 3 ≤ W.heap.size := lt_of_heap h.z
theorem Fr.below {w W W' : World} {cs os : Array Value} (h : Fr w W cs os) (hb : Below W.heap.size W W') : Fr w W' cs os :=
  ⟨(hb.block _ (lt_of_heap h.s)).trans h.s, (hb.block _ (lt_of_heap h.o)).trans h.o, (hb.block _ (lt_of_heap h.z)).trans h.z, h.b.trans (hb.mono h.b.size)⟩
theorem Fr.set {w W : World} {cs os : Array Value} (h : Fr w W cs os) (i : Nat) (v : Value) : Fr w (W.setCell ⟨w.heap.size, i, none⟩ v) (cs.setIfInBounds i v) os :=
  ⟨heap_setCell_same _ _ _ _ _ _ h.s, (heap_setCell_other _ _ _ _ (by simp)).trans h.o, (heap_setCell_other _ _ _ _ (by simp)).trans h.z, h.b.setCell (p := ⟨w.heap.size, i, none⟩) (Nat.le_refl _) _⟩
theorem Fr.start (w : World) (cs os : Array Value) : Fr w (((w.alloc (.cells cs 51)).alloc (.cells os 104)).alloc (.cells #[.slice none 0 0, .slice none 0 0, .slice none 0 0, .slice none 0 0, .slice none 0 0, .int .i64 0, .slice none 0 0, .int .i64 0, .int .i64 0] 51)) cs os := by
  refine ⟨?_, ?_, ?_, (((Below.refl _ w).alloc (Nat.le_refl _) _).alloc (by simp) _).alloc (by simp; omega) _⟩
  · exact (heap_alloc_old _ _ (by simp; omega)).trans ((heap_alloc_old _ _ (by simp)).trans (heap_alloc_new w _))
  · have := heap_alloc_new (w.alloc (.cells cs 51)) (.cells os 104)
    rw [World.size_alloc] at this
    exact (heap_alloc_old _ _ (by simp)).trans this
  · have := heap_alloc_new ((w.alloc (.cells cs 51)).alloc (.cells os 104)) (.cells #[.slice none 0 0, .slice none 0 0, .slice none 0 0, .slice none 0 0, .slice none 0 0, .int .i64 0, .slice none 0 0, .int .i64 0, .int .i64 0] 51)
    rw [World.size_alloc, World.size_alloc] at this
    exact this
theorem st9v {W : World} {b : Nat} {T : TypeId} {a0 a1 a2 a3 a4 a5 a6 a7 a8 : Value} (h : W.heap[b]? = some (.cells #[a0, a1, a2, a3, a4, a5, a6, a7, a8] T (0, 0))) :
    W.cell? ⟨b, 0, none⟩ = some a0 ∧ W.cell? ⟨b, 1, none⟩ = some a1 ∧ W.cell? ⟨b, 2, none⟩ = some a2 ∧ W.cell? ⟨b, 3, none⟩ = some a3 ∧ W.cell? ⟨b, 4, none⟩ = some a4 ∧ W.cell? ⟨b, 5, none⟩ = some a5 ∧ W.cell? ⟨b, 6, none⟩ = some a6 ∧ W.cell? ⟨b, 7, none⟩ = some a7 ∧ W.cell? ⟨b, 8, none⟩ = some a8 ∧ ∀ i, W.frozen? ⟨b, i, none⟩ = false := by
  refine ⟨?_, ?_, ?_, ?_, ?_, ?_, ?_, ?_, ?_, fun i => frozen_of_row W b i _ _ h⟩ <;> (rw [cell_of_row _ _ _ _ _ _ h]; rfl)
theorem op4v {W : World} {b : Nat} {T : TypeId} {a0 a1 a2 a3 : Value} (h : W.heap[b]? = some (.cells #[a0, a1, a2, a3] T (0, 0))) :
    W.cell? ⟨b, 0, none⟩ = some a0 ∧ W.cell? ⟨b, 1, none⟩ = some a1 ∧ W.cell? ⟨b, 2, none⟩ = some a2 ∧ W.cell? ⟨b, 3, none⟩ = some a3 := by
  refine ⟨?_, ?_, ?_, ?_⟩ <;> (rw [cell_of_row _ _ _ _ _ _ h]; rfl)
/-- nine cells written -/
def put9 (W : World) (b : Nat) (v0 v1 v2 v3 v4 v5 v6 v7 v8 : Value) : World :=
  ((((((((W.setCell ⟨b, 0, none⟩ v0).setCell ⟨b, 1, none⟩ v1).setCell ⟨b, 2, none⟩ v2).setCell ⟨b, 3, none⟩ v3).setCell ⟨b, 4, none⟩ v4).setCell ⟨b, 5, none⟩ v5).setCell ⟨b, 6, none⟩ v6).setCell ⟨b, 7, none⟩ v7).setCell ⟨b, 8, none⟩ v8
section
variable {W : World} {b : Nat} {v0 v1 v2 v3 v4 v5 v6 v7 v8 : Value}
theorem put9_heap (k : Nat) (h : k ≠ b) : (put9 W b v0 v1 v2 v3 v4 v5 v6 v7 v8).heap[k]? = W.heap[k]? := by
  unfold put9
  repeat rw [heap_setCell_other _ _ _ _ h]
theorem put9_below {w : World} (hb : Below w.heap.size w W) (h : w.heap.size ≤ b) : Below w.heap.size w (put9 W b v0 v1 v2 v3 v4 v5 v6 v7 v8) := by
  unfold put9
  have hlt := fun (a : Addr) (v : Value) => fun (W : World) (h : Below w.heap.size w W) (ha : w.heap.size ≤ a.block) => h.setCell (p := a) ha v
  exact hlt ⟨b, 8, none⟩ _ _ (hlt ⟨b, 7, none⟩ _ _ (hlt ⟨b, 6, none⟩ _ _ (hlt ⟨b, 5, none⟩ _ _ (hlt ⟨b, 4, none⟩ _ _ (hlt ⟨b, 3, none⟩ _ _ (hlt ⟨b, 2, none⟩ _ _ (hlt ⟨b, 1, none⟩ _ _ (hlt ⟨b, 0, none⟩ _ _ hb h) h) h) h) h) h) h) h) h
theorem put9_size : (put9 W b v0 v1 v2 v3 v4 v5 v6 v7 v8).heap.size = W.heap.size := by
  unfold put9
  simp
theorem put9_same {x0 x1 x2 x3 x4 x5 x6 x7 x8 : Value} {T : TypeId} (h : W.heap[b]? = some (.cells #[x0, x1, x2, x3, x4, x5, x6, x7, x8] T (0, 0))) : (put9 W b v0 v1 v2 v3 v4 v5 v6 v7 v8).heap[b]? = some (.cells #[v0, v1, v2, v3, v4, v5, v6, v7, v8] T (0, 0)) := by
  unfold put9
  have := heap_setCell_same _ b 8 _ T v8 (heap_setCell_same _ b 7 _ T v7 (heap_setCell_same _ b 6 _ T v6 (heap_setCell_same _ b 5 _ T v5 (heap_setCell_same _ b 4 _ T v4 (heap_setCell_same _ b 3 _ T v3 (heap_setCell_same _ b 2 _ T v2 (heap_setCell_same _ b 1 _ T v1 (heap_setCell_same _ b 0 _ T v0 h))))))))
  rw [this]
  simp
end
theorem Fr.grown {w W W' : World} {cs os : Array Value} {row : Option Nat} (h : Fr w W cs os) (hg : W.grownBy W' row) (hr : ∀ g, row = some g → w.heap.size + 3 ≤ g) : Fr w W' cs os :=
  ⟨(hg.block _ (lt_of_heap h.s) fun e => by have := hr _ e.symm; omega).trans h.s, (hg.block _ (lt_of_heap h.o) fun e => by have := hr _ e.symm; omega).trans h.o, (hg.block _ (lt_of_heap h.z) fun e => by have := hr _ e.symm; omega).trans h.z, h.b.grown hg h.b.size fun g e => by have := hr g e; omega⟩
theorem Fr.alloc {w W : World} {cs os : Array Value} (h : Fr w W cs os) (o : Obj) : Fr w (W.alloc o) cs os := h.below ((Below.refl _ W).alloc (Nat.le_refl _) o)
/-- a state whose count, files' bytes, names or pending names turn -/
theorem RefP.parts {P : Nat → Prop} {w : World} {r : RC} {A : Pl} (h : RefP P w r A) {r' : RC} {A' : Pl} (hr : ∀ g, IsMask P w g → RefAt g r A → RefAt g r' A') : RefP P w r' A' := by
  obtain ⟨g, h1, h2⟩ := h
  exact ⟨g, h1, hr g h1 h2⟩
theorem RefAt.steps {g : World} {r : RC} {A : Pl} (h : RefAt g r A) (n : Nat) : RefAt g r { A with steps := n } := ⟨h.now, h.safe, h.pend, h.data, h.firm, h.fails⟩
theorem pendN_chg {A : Pl} (hI : Inv A) (c : Chg) (A' : Pl) (hs : A'.safe = A.safe) (hp : A'.pend = A.pend ++ [c]) : pendN A' = pendN A ++ [applyC c A.now] := by
  have e : pendN A' = (List.range (A.pend.length + 1)).map fun i => ((A.pend ++ [c]).take (i + 1)).foldl (fun M c => applyC c M) A.safe := by
    unfold pendN
    rw [hs, hp, List.length_append]
    rfl
  rw [e, List.range_succ, List.map_append]
  congr 1
  · unfold pendN
    refine List.map_congr_left fun i hi => ?_
    have := List.mem_range.1 hi
    rw [List.take_append_of_le_length (by omega)]
  · rw [List.map_cons, List.map_nil, List.take_of_length_le (by simp), List.foldl_append, hI.fold]
    rfl
theorem InR.snoc {α : Type} {R : World → Value → α → Prop} {g : World} {p' : Option Addr} {L : List α} {vs : List Value} {v : Value} {x : α} (h2 : vs.length = L.length) (h3 : ∀ (i : Nat) (v : Value) (x : α), vs[i]? = some v → L[i]? = some x → R g v x) (h1 : InV g p' (vs ++ [v])) (hv : R g v x) : InR R g p' (L ++ [x]) := by
  refine ⟨vs ++ [v], h1, by simp [h2], fun i u y hu hy => ?_⟩
  by_cases hi : i < vs.length
  · rw [List.getElem?_append_left hi] at hu
    rw [List.getElem?_append_left (by omega)] at hy
    exact h3 i u y hu hy
  · have hlt := (List.getElem?_eq_some_iff.1 hu).1
    rw [List.length_append] at hlt
    simp only [List.length_cons, List.length_nil] at hlt
    obtain rfl : i = vs.length := by omega
    rw [List.getElem?_append_right (Nat.le_refl _)] at hu
    rw [List.getElem?_append_right (by omega)] at hy
    simp only [Nat.sub_self, h2, List.getElem?_cons_zero, Option.some.injEq] at hu hy
    subst hu hy
    exact hv
theorem InR.put {α : Type} {R : World → Value → α → Prop} {g : World} {p' : Option Addr} {L : List α} {vs : List Value} {v : Value} {x : α} {k : Nat} (h2 : vs.length = L.length) (h3 : ∀ (i : Nat) (v : Value) (x : α), vs[i]? = some v → L[i]? = some x → R g v x) (h1 : InV g p' (vs.set k v)) (hv : R g v x) : InR R g p' (L.set k x) := by
  refine ⟨vs.set k v, h1, by simp [h2], fun i u y hu hy => ?_⟩
  rw [List.getElem?_set] at hu hy
  by_cases hi : k = i
  · subst hi
    rw [if_pos rfl] at hu hy
    split at hu
    · rename_i h4
      rw [if_pos (by omega)] at hy
      obtain rfl := Option.some.inj hu
      obtain rfl := Option.some.inj hy
      exact hv
    · cases hu
  · rw [if_neg hi] at hu hy
    exact h3 i u y hu hy
theorem ownsRow_put9 {W : World} {b : Nat} {v0 v1 v2 v3 v4 v5 v6 v7 v8 : Value} {base e size n : Nat} {v : Value} {xs : List Value} (h : W.ownsRow base e size v n xs) (hb : b < base) : (put9 W b v0 v1 v2 v3 v4 v5 v6 v7 v8).ownsRow base e size v n xs := by
  refine ⟨h.1, ?_⟩
  rcases h.2 with h0 | ⟨k, cap, cur, e, c1, c2, r⟩
  · exact .inl h0
  · exact .inr ⟨k, cap, cur, e, c1, (put9_heap k (by omega)).trans c2, r⟩
/-- other names, and the names behind one change more -/
theorem RefAt.chg {g g' : World} {r r' : RC} {A A' : Pl} {vsP : List Value} {M : NM} {v : Value} (hr : RefAt g r A) (hk : Keeps g g') (hI : Inv A) (c : Chg) (hs : A'.safe = A.safe) (hp : A'.pend = A.pend ++ [c]) (hn : A'.now = M) (hM : applyC c A.now = M) (hf : A'.fails = A.fails)
    (e2 : r'.p2 = r.p2) (e6 : r'.p6 = r.p6) (hnow : InN g' r'.p1 M) (hv : NamV g' v M)
    (hP2 : vsP.length = A.pend.length) (hP3 : ∀ (i : Nat) (v : Value) (x : NM), vsP[i]? = some v → (pendN A)[i]? = some x → NamV g v x) (hP : InV g' r'.p3 (vsP ++ [v]))
    (hdata : InDs g' r'.p4 (A'.files.map (·.1))) (hfirm : InV g' r'.p5 (A'.files.map fun f => .int .i64 (f.2 : Int))) : RefAt g' r' A' where
  now := by rw [hn]; exact hnow
  safe := by rw [hs, e2]; exact hr.safe.keeps hk
  pend := by
    rw [pendN_chg hI c A' hs hp, hM]
    exact InR.snoc (by rw [pendN_length]; exact hP2) (fun i u x hu hx => (hP3 i u x hu hx).keeps hk) hP hv
  data := hdata
  firm := hfirm
  fails := by rw [hf, e6]; exact hr.fails.keeps hk
end Go.Proofs.YtheoklhmlnfgjaaGreatDoor
/-
  The document's disk: Step: what its ways share.
-/
namespace Go.Proofs.YtheoklhmlnfgjaaGreatDoor
open Go.RowKit Go.Maps

def RStep (P : Nat → Prop) (w : World) (A : Pl) (o : Opp) : Ending → World → Prop := fun e w' =>
  ∃ r', e = .returned (.tuple #[.agg (stC r' (doP A o).1), .int .i64 (doP A o).2]) ∧ RefP P w' r' (doP A o).1 ∧ Below w.heap.size w w'

def tk (A : Pl) : Pl := { A with steps := A.steps + 1 }
theorem RStep.same {P : Nat → Prop} {w W : World} {A A' : Pl} {o : Opp} {r : RC} {z : Int} (h : RefP P w r A') (hb : Below w.heap.size w W) (hD : doP A o = (A', z)) (v0 v1 v2 v3 v4 v5 v6 v7 v8 : Value) :
    RStep P w A o (.returned (.tuple #[.agg (stC r A'), .int .i64 z])) (put9 W (w.heap.size + 2) v0 v1 v2 v3 v4 v5 v6 v7 v8) := by
  unfold RStep
  rw [hD]
  exact ⟨r, rfl, h.below (put9_below hb (by omega)), put9_below hb (by omega)⟩
theorem RStep.mk {P : Nat → Prop} {w W : World} {A A' : Pl} {o : Opp} {r : RC} {z : Int} {cs : Array Value} (h : RefP P W r A') (hb : Below w.heap.size w W) (hD : doP A o = (A', z)) (hc : stC r A' = cs) :
    RStep P w A o (.returned (.tuple #[.agg cs, .int .i64 z])) W := by
  unfold RStep
  rw [hD]
  exact ⟨r, by rw [hc], h, hb⟩
theorem ownR_made (e : TypeId) (w : World) : (w.alloc (.cells #[] e)).ownsRow w.heap.size e 1 (.slice (some ⟨w.heap.size, 0, none⟩) 0 0) 0 [] :=
  ⟨rfl, .inr ⟨w.heap.size, 0, #[], rfl, Nat.le_refl _, heap_alloc_new w _, by simp, by unfold maxLen; omega, rfl, rfl⟩⟩
theorem apart_kept {w w' : World} {base e size n : Nat} {v : Value} {xs : List Value} {row : Option Nat} (h : w.ownsRow base e size v n xs) (hg : w.grownBy w' row) (hne : ∀ g, v.ownBlock = some g → row = some g → False) : w'.ownsRow base e size v n xs :=
  h.kept hg (by
    cases hb : v.ownBlock with
    | none => exact .inl rfl
    | some g => exact .inr fun e => hne g hb e.symm)
theorem own_form9 {w : World} {base size n : Nat} {e : TypeId} {v : Value} {xs : List Value} (h : w.ownsRow base e size v n xs) (hn : 0 < n) : ∃ g cap, v = .slice (some ⟨g, 0, none⟩) n cap := by
  rcases h.2 with ⟨_, h0⟩ | ⟨g, cap, _, hv, _⟩
  · omega
  · exact ⟨g, cap, hv⟩
theorem contains_take {Z : List Int} {k : Nat} (h : k < Z.length) {x : Int} (hk : (Z.take k).contains x = false) (hx : Z[k] ≠ x) : (Z.take (k + 1)).contains x = false := by
  rw [takes h, List.contains_eq_any_beq, List.any_append]
  rw [List.contains_eq_any_beq] at hk
  rw [hk]
  simp
  exact fun e => hx e.symm
theorem contains_at {Z : List Int} {k : Nat} (h : k < Z.length) {x : Int} (hx : Z[k] = x) : Z.contains x = true := by
  rw [← hx]
  simp

end Go.Proofs.YtheoklhmlnfgjaaGreatDoor
/-
  Plain: Rewrite as five steps, the last of them apart.
-/
namespace Go.Proofs.YtheoklhmlnfgjaaGreatDoor

theorem steps_snoc : ∀ (L : List Opp) (A : Pl) (o : Opp), ((stepsP A L).2.1 = L.length ∧ stepsP A (L ++ [o]) = ((doP (stepsP A L).1 o).1, (if (doP (stepsP A L).1 o).2 ≠ 0 then L.length else L.length + 1), (doP (stepsP A L).1 o).2)) ∨ ((stepsP A L).2.1 < L.length ∧ stepsP A (L ++ [o]) = stepsP A L)
  | [], A, o => by
    refine .inl ⟨rfl, ?_⟩
    show stepsP A [o] = _
    unfold stepsP
    show (if (doP A o).2 ≠ 0 then ((doP A o).1, 0, (doP A o).2) else ((doP A o).1, 0 + 1, 0)) = ((doP A o).1, (if (doP A o).2 ≠ 0 then 0 else 0 + 1), (doP A o).2)
    by_cases h : (doP A o).2 = 0
    · rw [if_neg (by simpa using h), if_neg (by simpa using h), h]
    · rw [if_pos h, if_pos h]
  | x :: L, A, o => by
    rw [List.cons_append]
    by_cases h : (doP A x).2 = 0
    · have hn : ¬ (doP A x).2 ≠ 0 := by simpa using h
      have e1 : ∀ M, stepsP A (x :: M) = ((stepsP (doP A x).1 M).1, (stepsP (doP A x).1 M).2.1 + 1, (stepsP (doP A x).1 M).2.2) := fun M => by
        conv => lhs; unfold stepsP
        rw [if_neg hn]
      rw [e1 L, e1 (L ++ [o])]
      rcases steps_snoc L (doP A x).1 o with ⟨h1, h2⟩ | ⟨h1, h2⟩
      · refine .inl ⟨by simp only [h1, List.length_cons], ?_⟩
        rw [h2]
        simp only [List.length_cons]
        congr 2
        split <;> rfl
      · refine .inr ⟨by simp only [List.length_cons]; omega, ?_⟩
        rw [h2]
    · have e1 : ∀ M, stepsP A (x :: M) = ((doP A x).1, 0, (doP A x).2) := fun M => by
        conv => lhs; unfold stepsP
        rw [if_pos h]
      rw [e1 L, e1 (L ++ [o])]
      exact .inr ⟨by simp, rfl⟩

theorem rew_steps {B : Pl} {n : Int} {L : List Rcd} (hz : encZ L 0 = 0) {A' : Pl} {k : Nat} {z : Int}
    (h : stepsP B [.create newN, .append newN (encB L 0), .sync newN, .rename newN logN, .names] = (A', k, z)) :
    (4 ≤ k → rewriteP B n L = (A', (L.length : Int), z)) ∧ (k = 0 → rewriteP B n L = (A', n, z)) ∧ (1 ≤ k → k < 4 → rewriteP B n L = ((doP A' (.remove newN)).1, n, z)) := by
  have h1 := steps_snoc [.create newN, .append newN (encB L 0), .sync newN, .rename newN logN] B .names
  rw [List.cons_append, List.cons_append, List.cons_append, List.cons_append, List.nil_append, h] at h1
  unfold rewriteP
  rw [if_neg (by simpa using hz)]
  dsimp only
  generalize stepsP B [.create newN, .append newN (encB L 0), .sync newN, .rename newN logN] = s at h1 ⊢
  obtain ⟨s1, s2, s3⟩ := s
  dsimp only [List.length_cons, List.length_nil] at h1 ⊢
  rcases h1 with ⟨h1, h2⟩ | ⟨h1, h2⟩
  · injection h2 with e1 e2
    injection e2 with e2 e3
    rw [if_pos h1, ← e1, ← e3]
    have : 4 ≤ k := by rw [e2]; split <;> omega
    exact ⟨fun _ => rfl, fun h => by omega, fun _ h => by omega⟩
  · injection h2 with e1 e2
    injection e2 with e2 e3
    subst e1 e2 e3
    rw [if_neg (by omega)]
    refine ⟨fun h => by omega, fun h => by rw [if_pos h], fun h _ => by rw [if_neg (by omega)]⟩
end Go.Proofs.YtheoklhmlnfgjaaGreatDoor
/-
  The document's disk: Read, Left.
-/
namespace Go.Proofs.YtheoklhmlnfgjaaGreatDoor
open Go.RowKit Go.Maps

set_option maxRecDepth 100000 in
set_option maxHeartbeats 2000000 in
theorem refRead_any (r : RC) (A : Pl) (nm : ByteArray) (w : World) (h : RefAt w r A) (hI : Inv A) (hl : A.now.length ≤ 4000000000000) (hnm : nm.size ≤ 140737488351232) (hd : (readP A nm.data.toList).length ≤ 140737488355328) :
    Calls Tryz.prog 52 #[.agg (stC r A), .string nm] w fun e w' => ∃ p c, e = .returned (.tuple #[.slice p (readP A nm.data.toList).length c, .int .i64 (readEP A nm.data.toList)]) ∧ In8 w' p (readP A nm.data.toList) ∧ Below w.heap.size w w' := by
  have hdn := fun W => refDown_any r A W
  have hgA := fun W => refGood_any nm W hnm
  have hat := fun W (hW : Below w.heap.size w W) => refAt_any r A nm W (h.now.below hW) hl
  unfold stC at hdn hat
  show Calls Tryz.prog 52 #[.agg #[.slice r.p1 A.now.length r.c1, .slice r.p2 A.safe.length r.c2, .slice r.p3 A.pend.length r.c3, .slice r.p4 A.files.length r.c4, .slice r.p5 A.files.length r.c5, .int .i64 (A.room : Int), .slice r.p6 A.fails.length r.c6, .int .i64 A.power, .int .i64 (A.steps : Int)], .string nm] w _
  have HE := Lib.hid (show readEP A nm.data.toList = if downP A = true then 93 else if badN nm.data.toList = true then 95 else if lookN A.now nm.data.toList = none then 90 else 0 from rfl)
  have HR := Lib.hid (show readP A nm.data.toList = if readEP A nm.data.toList = 0 then datP A (atP A nm.data.toList) else [] from rfl)
  obtain ⟨wa, hwa⟩ : ∃ W0, W0 = w.alloc (.cells (stC r A) 51) := ⟨_, rfl⟩
  have hc0 := fun W (hb : Below wa.heap.size wa W) => by rw [hwa] at hb; exact st9 (stBox hb)
  have hba := box_below w (stC r A) 51
  rw [← hwa] at hba
  unfold stC at hwa
  have HC := Lib.hid (And.intro hc0 hba)
  have HW := Lib.hid hwa
  have HD := Lib.hid hd
  clear hc0 hba hwa hd
  cases hdown : downP A with
  | true =>
    rw [hdown] at hdn
    have HE1 := Lib.hid (show readEP A nm.data.toList = 93 by rw [HE.out, if_pos hdown])
    have HR1 := Lib.hid (show readP A nm.data.toList = [] by rw [HR.out, HE1.out]; rfl)
    clear hdown
    go_enter Tryz.func52, Tryz.ntmps52
    go_wp2_with fail
    refine (hdn _).mono ?_
    rw [← HW.out]
    rintro e w1 ⟨rfl, hb1⟩
    go_wp2_with fail
    go_ret2
    exact ⟨none, 0, by rw [HE1.out, HR1.out]; rfl, by rw [HR1.out]; exact fun h => absurd h (by simp), HC.out.2.trans (hb1.mono HC.out.2.size)⟩
  | false =>
    rw [hdown] at hdn
    have HE0 := Lib.hid (show readEP A nm.data.toList = if badN nm.data.toList = true then 95 else if lookN A.now nm.data.toList = none then 90 else 0 by rw [HE.out, if_neg (by rw [hdown]; simp)])
    clear hdown
    cases hg : goodN nm.data.toList with
    | false =>
      rw [hg] at hgA
      have HE1 := Lib.hid (show readEP A nm.data.toList = 95 by rw [HE0.out, if_pos (by unfold badN; rw [hg]; rfl)])
      have HR1 := Lib.hid (show readP A nm.data.toList = [] by rw [HR.out, HE1.out]; rfl)
      clear hg
      go_enter Tryz.func52, Tryz.ntmps52
      go_wp2_with fail
      refine (hdn _).mono ?_
      rw [← HW.out]
      rintro e w1 ⟨rfl, hb1⟩
      go_wp2_with fail
      refine (hgA _).mono ?_
      rintro e w2 ⟨rfl, hb2⟩
      have HB2 := Lib.hid (HC.out.2.trans ((hb1.trans (hb2.mono hb1.size)).mono HC.out.2.size))
      clear hb1 hb2
      go_wp2_with fail
      go_ret2
      exact ⟨none, 0, by rw [HE1.out, HR1.out]; rfl, by rw [HR1.out]; exact fun h => absurd h (by simp), HB2.out⟩
    | true =>
      rw [hg] at hgA
      have HE2 := Lib.hid (show readEP A nm.data.toList = if lookN A.now nm.data.toList = none then 90 else 0 by rw [HE0.out, if_neg (by unfold badN; rw [hg]; simp)])
      clear hg
      go_enter Tryz.func52, Tryz.ntmps52
      go_wp2_with fail
      refine (hdn _).mono ?_
      rw [← HW.out]
      rintro e w1 ⟨rfl, hb1⟩
      go_wp2_with fail
      refine (hgA _).mono ?_
      rintro e w2 ⟨rfl, hb2⟩
      have hb12 := hb1.trans (hb2.mono hb1.size)
      obtain ⟨a0, a1, a2, a3, a4, a5, a6, a7, a8⟩ := HC.out.1 w2 hb12
      have hbw2 := HC.out.2.trans (hb12.mono HC.out.2.size)
      have hat2 := hat w2 hbw2
      have HB2 := Lib.hid (And.intro hb12 hbw2)
      clear hb1 hb2 hb12 hbw2 hat hdn hgA
      go_wp2_with fail
      refine hat2.mono ?_
      rintro e w3 ⟨rfl, hb3⟩
      have hb13 := HB2.out.1.trans (hb3.mono HB2.out.1.size)
      obtain ⟨a0, a1, a2, a3, a4, a5, a6, a7, a8⟩ := HC.out.1 w3 hb13
      have hbw3 := HB2.out.2.trans (hb3.mono HB2.out.2.size)
      clear hat2 hb3 hb13
      cases hk : lookN A.now nm.data.toList with
      | none =>
        have hai : atI A.now nm.data.toList = -1 := by unfold atI; rw [hk]
        rw [hai]
        have HE1 := Lib.hid (show readEP A nm.data.toList = 90 by rw [HE2.out, hk]; rfl)
        have HR1 := Lib.hid (show readP A nm.data.toList = [] by rw [HR.out, HE1.out]; rfl)
        clear hai hk
        go_wp2_with fail
        go_ret2
        exact ⟨none, 0, by rw [HE1.out, HR1.out]; rfl, by rw [HR1.out]; exact fun h => absurd h (by simp), hbw3⟩
      | some f =>
        have hai : atI A.now nm.data.toList = (f : Int) := by unfold atI; rw [hk]
        rw [hai]
        have hfl : f < A.files.length := hI.fnow _ (lookN_mem _ _ _ hk)
        have HE1 := Lib.hid (show readEP A nm.data.toList = 0 by rw [HE2.out, hk]; rfl)
        have HR1 := Lib.hid (show readP A nm.data.toList = datP A f by rw [HR.out, HE1.out, if_pos rfl]; unfold atP; rw [hk]; rfl)
        obtain ⟨b, o, hp4, q9, c9, hd9, _, hin9, _⟩ := (h.below hbw3).dat hfl
        obtain ⟨B9, hB9⟩ : ∃ B9, B9 = datP A f := ⟨_, rfl⟩
        rw [← hB9] at hd9 hin9 HR1
        have hB9l : B9.length ≤ 140737488355328 := by rw [← HR1.out]; exact HD.out
        have hcp := copyBytes_any B9 q9 _ c9 rfl hB9l w3 hin9
        rw [hp4] at a3
        have HB3 := Lib.hid hbw3
        clear hai hk hB9 hp4 hin9 hbw3
        go_wp2_with fail
        refine hcp.mono ?_
        rintro e w4 ⟨v4, rfl, hown4, hb4⟩
        obtain ⟨p4, c4, rfl, _, _, hin4⟩ := hown4.in8n rfl
        clear hcp hown4
        go_wp2_with fail
        go_ret2
        exact ⟨p4, c4, by rw [HE1.out, HR1.out]; rfl, by rw [HR1.out]; exact hin4, HB3.out.trans (hb4.mono HB3.out.size)⟩
end Go.Proofs.YtheoklhmlnfgjaaGreatDoor
/-
  The document's Read, with where its answer lies.
-/
namespace Go.Proofs.YtheoklhmlnfgjaaGreatDoor
open Go.RowKit Go.Maps

set_option maxRecDepth 100000 in
set_option maxHeartbeats 2000000 in
theorem refReadQ_any (r : RC) (A : Pl) (nm : ByteArray) (w : World) (h : RefAt w r A) (hI : Inv A) (hl : A.now.length ≤ 4000000000000) (hnm : nm.size ≤ 140737488351232) (hd : (readP A nm.data.toList).length ≤ 140737488355328) :
    Calls Tryz.prog 52 #[.agg (stC r A), .string nm] w fun e w' => ∃ p c, e = .returned (.tuple #[.slice p (readP A nm.data.toList).length c, .int .i64 (readEP A nm.data.toList)]) ∧ In8 w' p (readP A nm.data.toList) ∧ PlainQ p c ∧ (readP A nm.data.toList).length ≤ c ∧ c ≤ maxLen ∧ Below w.heap.size w w' := by
  have hdn := fun W => refDown_any r A W
  have hgA := fun W => refGood_any nm W hnm
  have hat := fun W (hW : Below w.heap.size w W) => refAt_any r A nm W (h.now.below hW) hl
  unfold stC at hdn hat
  show Calls Tryz.prog 52 #[.agg #[.slice r.p1 A.now.length r.c1, .slice r.p2 A.safe.length r.c2, .slice r.p3 A.pend.length r.c3, .slice r.p4 A.files.length r.c4, .slice r.p5 A.files.length r.c5, .int .i64 (A.room : Int), .slice r.p6 A.fails.length r.c6, .int .i64 A.power, .int .i64 (A.steps : Int)], .string nm] w _
  have HE := Lib.hid (show readEP A nm.data.toList = if downP A = true then 93 else if badN nm.data.toList = true then 95 else if lookN A.now nm.data.toList = none then 90 else 0 from rfl)
  have HR := Lib.hid (show readP A nm.data.toList = if readEP A nm.data.toList = 0 then datP A (atP A nm.data.toList) else [] from rfl)
  obtain ⟨wa, hwa⟩ : ∃ W0, W0 = w.alloc (.cells (stC r A) 51) := ⟨_, rfl⟩
  have hc0 := fun W (hb : Below wa.heap.size wa W) => by rw [hwa] at hb; exact st9 (stBox hb)
  have hba := box_below w (stC r A) 51
  rw [← hwa] at hba
  unfold stC at hwa
  have HC := Lib.hid (And.intro hc0 hba)
  have HW := Lib.hid hwa
  have HD := Lib.hid hd
  clear hc0 hba hwa hd
  cases hdown : downP A with
  | true =>
    rw [hdown] at hdn
    have HE1 := Lib.hid (show readEP A nm.data.toList = 93 by rw [HE.out, if_pos hdown])
    have HR1 := Lib.hid (show readP A nm.data.toList = [] by rw [HR.out, HE1.out]; rfl)
    clear hdown
    go_enter Tryz.func52, Tryz.ntmps52
    go_wp2_with fail
    refine (hdn _).mono ?_
    rw [← HW.out]
    rintro e w1 ⟨rfl, hb1⟩
    go_wp2_with fail
    go_ret2
    exact ⟨none, 0, by rw [HE1.out, HR1.out]; rfl, by rw [HR1.out]; exact fun h => absurd h (by simp), .inl rfl, by rw [HR1.out]; exact Nat.le_refl _, by unfold maxLen; omega, HC.out.2.trans (hb1.mono HC.out.2.size)⟩
  | false =>
    rw [hdown] at hdn
    have HE0 := Lib.hid (show readEP A nm.data.toList = if badN nm.data.toList = true then 95 else if lookN A.now nm.data.toList = none then 90 else 0 by rw [HE.out, if_neg (by rw [hdown]; simp)])
    clear hdown
    cases hg : goodN nm.data.toList with
    | false =>
      rw [hg] at hgA
      have HE1 := Lib.hid (show readEP A nm.data.toList = 95 by rw [HE0.out, if_pos (by unfold badN; rw [hg]; rfl)])
      have HR1 := Lib.hid (show readP A nm.data.toList = [] by rw [HR.out, HE1.out]; rfl)
      clear hg
      go_enter Tryz.func52, Tryz.ntmps52
      go_wp2_with fail
      refine (hdn _).mono ?_
      rw [← HW.out]
      rintro e w1 ⟨rfl, hb1⟩
      go_wp2_with fail
      refine (hgA _).mono ?_
      rintro e w2 ⟨rfl, hb2⟩
      have HB2 := Lib.hid (HC.out.2.trans ((hb1.trans (hb2.mono hb1.size)).mono HC.out.2.size))
      clear hb1 hb2
      go_wp2_with fail
      go_ret2
      exact ⟨none, 0, by rw [HE1.out, HR1.out]; rfl, by rw [HR1.out]; exact fun h => absurd h (by simp), .inl rfl, by rw [HR1.out]; exact Nat.le_refl _, by unfold maxLen; omega, HB2.out⟩
    | true =>
      rw [hg] at hgA
      have HE2 := Lib.hid (show readEP A nm.data.toList = if lookN A.now nm.data.toList = none then 90 else 0 by rw [HE0.out, if_neg (by unfold badN; rw [hg]; simp)])
      clear hg
      go_enter Tryz.func52, Tryz.ntmps52
      go_wp2_with fail
      refine (hdn _).mono ?_
      rw [← HW.out]
      rintro e w1 ⟨rfl, hb1⟩
      go_wp2_with fail
      refine (hgA _).mono ?_
      rintro e w2 ⟨rfl, hb2⟩
      have hb12 := hb1.trans (hb2.mono hb1.size)
      obtain ⟨a0, a1, a2, a3, a4, a5, a6, a7, a8⟩ := HC.out.1 w2 hb12
      have hbw2 := HC.out.2.trans (hb12.mono HC.out.2.size)
      have hat2 := hat w2 hbw2
      have HB2 := Lib.hid (And.intro hb12 hbw2)
      clear hb1 hb2 hb12 hbw2 hat hdn hgA
      go_wp2_with fail
      refine hat2.mono ?_
      rintro e w3 ⟨rfl, hb3⟩
      have hb13 := HB2.out.1.trans (hb3.mono HB2.out.1.size)
      obtain ⟨a0, a1, a2, a3, a4, a5, a6, a7, a8⟩ := HC.out.1 w3 hb13
      have hbw3 := HB2.out.2.trans (hb3.mono HB2.out.2.size)
      clear hat2 hb3 hb13
      cases hk : lookN A.now nm.data.toList with
      | none =>
        have hai : atI A.now nm.data.toList = -1 := by unfold atI; rw [hk]
        rw [hai]
        have HE1 := Lib.hid (show readEP A nm.data.toList = 90 by rw [HE2.out, hk]; rfl)
        have HR1 := Lib.hid (show readP A nm.data.toList = [] by rw [HR.out, HE1.out]; rfl)
        clear hai hk
        go_wp2_with fail
        go_ret2
        exact ⟨none, 0, by rw [HE1.out, HR1.out]; rfl, by rw [HR1.out]; exact fun h => absurd h (by simp), .inl rfl, by rw [HR1.out]; exact Nat.le_refl _, by unfold maxLen; omega, hbw3⟩
      | some f =>
        have hai : atI A.now nm.data.toList = (f : Int) := by unfold atI; rw [hk]
        rw [hai]
        have hfl : f < A.files.length := hI.fnow _ (lookN_mem _ _ _ hk)
        have HE1 := Lib.hid (show readEP A nm.data.toList = 0 by rw [HE2.out, hk]; rfl)
        have HR1 := Lib.hid (show readP A nm.data.toList = datP A f by rw [HR.out, HE1.out, if_pos rfl]; unfold atP; rw [hk]; rfl)
        obtain ⟨b, o, hp4, q9, c9, hd9, _, hin9, _⟩ := (h.below hbw3).dat hfl
        obtain ⟨B9, hB9⟩ : ∃ B9, B9 = datP A f := ⟨_, rfl⟩
        rw [← hB9] at hd9 hin9 HR1
        have hB9l : B9.length ≤ 140737488355328 := by rw [← HR1.out]; exact HD.out
        have hcp := copyBytes_any B9 q9 _ c9 rfl hB9l w3 hin9
        rw [hp4] at a3
        have HB3 := Lib.hid hbw3
        clear hai hk hB9 hp4 hin9 hbw3
        go_wp2_with fail
        refine hcp.mono ?_
        rintro e w4 ⟨v4, rfl, hown4, hb4⟩
        obtain ⟨p4, c4, rfl, hnc4, hcm4, hin4⟩ := hown4.in8n rfl
        have HX4 := Lib.hid (And.intro hown4.plain.q (And.intro hnc4 hcm4))
        clear hcp hown4 hnc4 hcm4
        go_wp2_with fail
        go_ret2
        exact ⟨p4, c4, by rw [HE1.out, HR1.out]; rfl, by rw [HR1.out]; exact hin4, HX4.out.1, by rw [HR1.out]; exact HX4.out.2.1, HX4.out.2.2, HB3.out.trans (hb4.mono HB3.out.size)⟩
end Go.Proofs.YtheoklhmlnfgjaaGreatDoor
/-
  Plain: what Open answers, way by way.
-/
namespace Go.Proofs.YtheoklhmlnfgjaaGreatDoor

theorem steps_full : ∀ (L : List Opp) (A : Pl), (stepsP A L).2.2 = 0 → (stepsP A L).2.1 = L.length
  | [], _, _ => rfl
  | o :: L, A, h => by
    unfold stepsP at h ⊢
    split at h
    · rename_i h1; exact absurd h h1
    · rename_i h1
      rw [if_neg h1]
      have := steps_full L (doP A o).1 h
      simp only [List.length_cons, this]
/-- the count that is kept plays no part in the disk and the answer -/
theorem rewrite_count (A : Pl) (n m : Int) (L : List Rcd) : (rewriteP A n L).1 = (rewriteP A m L).1 ∧ (rewriteP A n L).2.2 = (rewriteP A m L).2.2 ∧ ((rewriteP A n L).2.2 = 0 → (rewriteP A n L).2.1 = (L.length : Int)) := by
  have hf := steps_full [.create newN, .append newN (encB L 0), .sync newN, .rename newN logN] A
  unfold rewriteP
  by_cases hz : encZ L 0 ≠ 0
  · simp only [if_pos hz]
    exact ⟨trivial, trivial, fun e => absurd e hz⟩
  · simp only [if_neg hz]
    generalize stepsP A [.create newN, .append newN (encB L 0), .sync newN, .rename newN logN] = s at hf ⊢
    by_cases h4 : s.2.1 = 4
    · simp only [if_pos h4]; exact ⟨trivial, trivial, fun _ => trivial⟩
    · simp only [if_neg h4]
      by_cases h0 : s.2.1 = 0
      · simp only [if_pos h0]; exact ⟨trivial, trivial, fun e => absurd (hf e) h4⟩
      · simp only [if_neg h0]; exact ⟨trivial, trivial, fun e => absurd (hf e) h4⟩
theorem remove_files (A : Pl) (k : BS) : (doP A (.remove k)).1.files = A.files := by
  have ht := tick_rest A
  rw [doP_remove]
  (repeat' split) <;> first | exact ht.2.2.1 | skip
theorem sweep_files {A B : Pl} (h : sweepP B = (A, 0)) : A.files = B.files := by
  unfold sweepP at h
  split at h
  · rw [← remove_files B newN, h]
  · injection h with h; rw [h]
theorem read_small {A : Pl} {n : Nat} (h : ∀ f ∈ A.files, f.1.length ≤ n) (k : BS) : (readP A k).length ≤ n := by
  unfold readP
  split
  · unfold datP
    cases hx : A.files[atP A k]? with
    | none => simp
    | some y =>
      simp only [Option.map_some, Option.getD_some]
      exact h y (List.mem_of_getElem? hx)
  · simp
section
variable {A B : Pl}
theorem open_swept (hm : newN ∈ listP B) (hz : (doP B (.remove newN)).2 ≠ 0) : openP B = ((doP B (.remove newN)).1, [], (doP B (.remove newN)).2) := by
  unfold openP sweepP
  rw [if_pos hm]
  simp only
  rw [if_pos hz]
theorem open_none (hs : sweepP B = (A, 0)) (he : readEP A logN = 90) {A' : Pl} {k : Nat} {z : Int} (h : stepsP A [.create logN, .sync logN, .names] = (A', k, z)) : openP B = (A', [], z) := by
  unfold openP
  rw [hs]
  simp only
  rw [if_neg (by simp), if_pos he, h]
theorem open_bad (hs : sweepP B = (A, 0)) (he : readEP A logN ≠ 90) (hz : readEP A logN ≠ 0) : openP B = (A, [], readEP A logN) := by
  unfold openP
  rw [hs]
  simp only
  rw [if_neg (by simp), if_neg he, if_pos hz]
theorem open_whole (hs : sweepP B = (A, 0)) (hz : readEP A logN = 0) (hn : ¬ repN (readP A logN) < (readP A logN).length) : openP B = (A, repR (readP A logN), 0) := by
  unfold openP
  rw [hs]
  simp only
  rw [if_neg (by simp), if_neg (by rw [hz]; decide), if_neg (by rw [hz]; decide), if_neg hn]
theorem open_mend (hs : sweepP B = (A, 0)) (hz : readEP A logN = 0) (hn : repN (readP A logN) < (readP A logN).length) {m : Int} {A' : Pl} {c z : Int} (h : rewriteP A m (repR (readP A logN)) = (A', c, z)) :
    openP B = (A', if z ≠ 0 then [] else repR (readP A logN), z) ∧ (z = 0 → c = ((repR (readP A logN)).length : Int)) := by
  obtain ⟨h1, h2, h3⟩ := rewrite_count A m 0 (repR (readP A logN))
  rw [h] at h1 h2 h3
  simp only at h1 h2 h3
  refine ⟨?_, h3⟩
  unfold openP
  rw [hs]
  simp only
  rw [if_neg (by simp), if_neg (by rw [hz]; decide), if_neg (by rw [hz]; decide), if_pos hn, ← h1, ← h2]
  split
  · rfl
  · rename_i h0
    have : z = 0 := by simpa using h0
    rw [this]
end
end Go.Proofs.YtheoklhmlnfgjaaGreatDoor
/-
  What is read of records that lie one behind the other: plain. No program is in sight here.
-/
namespace Go.Proofs.YtheoklhmlnfgjaaGreatDoor

/-- the records of the part that is sound from the number j on -/
def repFrom (l : BS) (j : Nat) : List Dec := repF l.length l j
theorem rep_from (l : BS) : rep l = repFrom l 0 := rfl
theorem repF_fuel : ∀ (f g : Nat) (l : BS) (j : Nat), l.length ≤ f → l.length ≤ g → repF f l j = repF g l j
  | 0, g, l, j, h, _ => by
    have hl : l = [] := List.eq_nil_of_length_eq_zero (by omega)
    subst hl
    cases g with
    | zero => rfl
    | succ g =>
      unfold repF
      rw [if_neg fun h => by have := dec_len _ h.1 h.2.1; simp at this; omega]
  | f + 1, 0, l, j, _, h => by
    have hl : l = [] := List.eq_nil_of_length_eq_zero (by omega)
    subst hl
    unfold repF
    rw [if_neg fun h => by have := dec_len _ h.1 h.2.1; simp at this; omega]
  | f + 1, g + 1, l, j, h, h' => by
    unfold repF
    by_cases hg : goesOn (dec l) j
    · have hn := dec_len l hg.1 hg.2.1
      rw [if_pos hg, if_pos hg, repF_fuel f g _ _ (by rw [List.length_drop]; omega) (by rw [List.length_drop]; omega)]
    · rw [if_neg hg, if_neg hg]
theorem repFrom_yes {l : BS} {j : Nat} (h : goesOn (dec l) j) : repFrom l j = dec l :: repFrom (l.drop (dec l).n.toNat) (j + 1) := by
  have hn := dec_len l h.1 h.2.1
  unfold repFrom
  obtain ⟨m, hm⟩ : ∃ m, l.length = m + 1 := ⟨l.length - 1, by omega⟩
  rw [hm]
  rw [repF, if_pos h]
  rw [repF_fuel m (l.drop (dec l).n.toNat).length _ _ (by rw [List.length_drop]; omega) (Nat.le_refl _)]
theorem repFrom_no {l : BS} {j : Nat} (h : ¬ goesOn (dec l) j) : repFrom l j = [] := by
  unfold repFrom
  cases hm : l.length with
  | zero => rfl
  | succ m => rw [repF, if_neg h]
theorem repFrom_nil (j : Nat) : repFrom [] j = [] := rfl

/-- the bytes are just these records, numbered from j on, whatever stands behind them -/
def Lays : List Dec → Nat → BS → Prop
  | [], _, c => c = []
  | d :: R, j, c => ∃ c1 c2, c = c1 ++ c2 ∧ (∀ rest, dec (c1 ++ rest) = d) ∧ goesOn d j ∧ d.n = (c1.length : Int) ∧ Lays R (j + 1) c2
theorem Lays.rep : ∀ {R : List Dec} {j : Nat} {c : BS}, Lays R j c → ∀ rest, repFrom (c ++ rest) j = R ++ repFrom rest (j + R.length)
  | [], j, c, h, rest => by
    have h : c = [] := h
    subst h
    rfl
  | d :: R, j, c, h, rest => by
    obtain ⟨c1, c2, rfl, h1, h2, h3, h4⟩ := h
    have e := h1 (c2 ++ rest)
    rw [List.append_assoc, repFrom_yes (by rw [e]; exact h2), e, h3, Int.toNat_natCast, List.drop_left, h4.rep rest, List.cons_append, List.length_cons, show j + 1 + R.length = j + (R.length + 1) by omega]
theorem Lays.len : ∀ {R : List Dec} {j : Nat} {c : BS}, Lays R j c → offs R R.length = c.length
  | [], j, c, h => by
    have h : c = [] := h
    subst h
    rfl
  | d :: R, j, c, h => by
    obtain ⟨c1, c2, rfl, h1, h2, h3, h4⟩ := h
    rw [List.length_cons, offs_cons, h4.len, h3, Int.toNat_natCast, List.length_append]
theorem Lays.app : ∀ {R : List Dec} {j : Nat} {c : BS} {R2 : List Dec} {c2 : BS}, Lays R j c → Lays R2 (j + R.length) c2 → Lays (R ++ R2) j (c ++ c2)
  | [], j, c, R2, c2, h, h2 => by
    have h : c = [] := h
    subst h
    exact h2
  | d :: R, j, c, R2, c2, h, h2 => by
    obtain ⟨c1, c3, rfl, g1, g2, g3, g4⟩ := h
    exact ⟨c1, c3 ++ c2, by rw [List.append_assoc], g1, g2, g3, g4.app (by rw [List.length_cons, show j + (R.length + 1) = j + 1 + R.length by omega] at h2; exact h2)⟩

theorem encErr_zero {s o n : Int} {k : Nat} (h : encErr s o n k = 0) : (o = 1 ∨ o = 2) ∧ (0 ≤ s ∧ s ≤ 4294967295) ∧ (0 ≤ n ∧ n ≤ 4294967295) ∧ k ≤ 4096 := by
  unfold encErr at h
  repeat' split at h
  · exact absurd h (by decide)
  · exact absurd h (by decide)
  · rename_i h1 h2
    refine ⟨?_, ?_, ?_, by omega⟩ <;> (apply Classical.byContradiction; intro hc; apply h1) <;> first | exact .inl (by simpa using hc) | exact .inr (.inl hc) | exact .inr (.inr hc)
/-- a record that is written, as it is read -/
def recD (s o n : Int) (id : BS) : Dec := ⟨s, o, n, id, (id.length + 15 : Nat), 0⟩
theorem enc_read {s o n : Int} {id : BS} (h : encErr s o n id.length = 0) (rest : BS) : dec (encOf s o n id ++ rest) = recD s o n id := by
  obtain ⟨h1, h2, h3, h4⟩ := encErr_zero h
  unfold encOf
  rw [if_pos h, enc_dec s.toNat o.toNat n.toNat id rest (by omega) (by omega) (by omega) h4]
  unfold recD
  congr 1 <;> omega
theorem encOf_len {s o n : Int} {id : BS} (h : encErr s o n id.length = 0) : (encOf s o n id).length = id.length + 15 := by
  unfold encOf
  rw [if_pos h, encAll_len]
theorem enc_lays {s : Nat} {o n : Int} {id : BS} (h : encErr (s : Int) o n id.length = 0) : Lays [recD s o n id] s (encOf s o n id) :=
  ⟨encOf s o n id, [], by rw [List.append_nil], enc_read h, ⟨rfl, by unfold recD; simp only; omega, rfl⟩, by rw [encOf_len h]; rfl, rfl⟩
/-- what goes on is read alike, whatever stands behind it -/
theorem dec_alone {l : BS} {j : Nat} (h : goesOn (dec l) j) (rest : BS) : dec (l.take (dec l).n.toNat ++ rest) = dec l := by
  rcases dec_cases l with e | e | ⟨e, h1, h2, h3, h4, h5⟩
  · rw [e] at h; exact absurd rfl h.2.1
  · rw [e] at h; exact absurd h.1 (by decide)
  · obtain ⟨g1, g2⟩ := good_enc l h1 h3 h4 h5
    have hn : (decGood l).n.toNat = decK l + 15 := by unfold decGood; simp only; omega
    have hid : (decGood l).ident.length = decK l := by unfold decGood; simp only; rw [sl_length _ _ _ (by omega)]; omega
    rw [e, hn, ← g2, enc_read g1]
    unfold recD
    rw [hid]
    unfold decGood
    rfl
theorem rep_lays : ∀ (f : Nat) (l : BS) (j : Nat), l.length ≤ f → Lays (repFrom l j) j (l.take (offs (repFrom l j) (repFrom l j).length))
  | 0, l, j, h => by
    have hl : l = [] := List.eq_nil_of_length_eq_zero (by omega)
    subst hl
    rfl
  | f + 1, l, j, h => by
    by_cases hg : goesOn (dec l) j
    · have hn := dec_len l hg.1 hg.2.1
      have ih := rep_lays f (l.drop (dec l).n.toNat) (j + 1) (by rw [List.length_drop]; omega)
      rw [repFrom_yes hg]
      refine ⟨l.take (dec l).n.toNat, _, ?_, dec_alone hg, hg, by rw [List.length_take]; omega, ih⟩
      rw [List.length_cons, offs_cons, List.take_add]
    · rw [repFrom_no hg]
      rfl
theorem sound_lays (b : BS) : Lays (rep b) 0 (b.take (repN b)) := rep_lays b.length b 0 (Nat.le_refl _)
theorem repN_le (b : BS) : repN b ≤ b.length := offs_le b _ (Nat.le_refl _)
/-- the sound part alone -/
theorem rep_sound (b : BS) : rep (b.take (repN b)) = rep b := by
  have := (sound_lays b).rep []
  rw [List.append_nil, repFrom_nil, List.append_nil] at this
  exact this
theorem repN_of {b c : BS} (h : rep c = rep b) : repN c = repN b := by unfold repN; rw [h]
/-- a record of the right number goes on -/
theorem rep_more (b : BS) {o n : Int} {id : BS} (h : encErr ((rep b).length : Int) o n id.length = 0) :
    rep (b.take (repN b) ++ encOf ((rep b).length : Int) o n id) = rep b ++ [recD (rep b).length o n id] ∧ repN (b.take (repN b) ++ encOf ((rep b).length : Int) o n id) = repN b + (encOf ((rep b).length : Int) o n id).length := by
  have hl := (sound_lays b).app (R2 := [recD (rep b).length o n id]) (by rw [Nat.zero_add]; exact enc_lays h)
  have h1 := hl.rep []
  rw [List.append_nil, repFrom_nil, List.append_nil] at h1
  refine ⟨h1, ?_⟩
  have e : repN (b.take (repN b) ++ encOf ((rep b).length : Int) o n id) = offs (rep b ++ [recD (rep b).length o n id]) (rep b ++ [recD (rep b).length o n id]).length := by
    have h1' : rep (b.take (repN b) ++ encOf ((rep b).length : Int) o n id) = rep b ++ [recD (rep b).length o n id] := h1
    show offs (rep _) (rep _).length = _
    rw [h1']
  rw [e, hl.len, List.length_append, List.length_take, Nat.min_eq_left (repN_le b)]
/-- a record of another number doesn't -/
theorem rep_wrong (b : BS) (o n : Int) (id : BS) : rep (b.take (repN b) ++ encOf (((rep b).length : Int) + 1) o n id) = rep b := by
  have h1 := (sound_lays b).rep (encOf (((rep b).length : Int) + 1) o n id)
  rw [rep_from, h1, Nat.zero_add]
  have : repFrom (encOf (((rep b).length : Int) + 1) o n id) (rep b).length = [] := by
    by_cases h : encErr (((rep b).length : Int) + 1) o n id.length = 0
    · refine repFrom_no fun hg => ?_
      have e := enc_read h []
      rw [List.append_nil] at e
      rw [e] at hg
      have := hg.2.2
      unfold recD at this
      simp only at this
      omega
    · unfold encOf
      rw [if_neg h]
      rfl
  rw [this, List.append_nil]

/-- records, numbered from j on, as they are read -/
def recsD : List Rcd → Nat → List Dec
  | [], _ => []
  | x :: L, j => recD j x.op x.no x.ident :: recsD L (j + 1)
def numR : List Rcd → Nat → List Rcd
  | [], _ => []
  | x :: L, j => ⟨j, x.op, x.no, x.ident⟩ :: numR L (j + 1)
theorem recsD_length : ∀ (L : List Rcd) (j : Nat), (recsD L j).length = L.length
  | [], _ => rfl
  | x :: L, j => by unfold recsD; rw [List.length_cons, List.length_cons, recsD_length L]
theorem recsD_rcd : ∀ (L : List Rcd) (j : Nat), (recsD L j).map Dec.rcd = numR L j
  | [], _ => rfl
  | x :: L, j => by unfold recsD numR; rw [List.map_cons, recsD_rcd L]; rfl
theorem numR_length : ∀ (L : List Rcd) (j : Nat), (numR L j).length = L.length
  | [], _ => rfl
  | x :: L, j => by unfold numR; rw [List.length_cons, List.length_cons, numR_length L]
theorem encB_lays : ∀ (L : List Rcd) (j : Nat), encZ L j = 0 → Lays (recsD L j) j (encB L j)
  | [], _, _ => rfl
  | x :: L, j, h => by
    unfold encZ at h
    by_cases h0 : encErr (j : Int) x.op x.no x.ident.length = 0
    · rw [if_neg (by simpa using h0)] at h
      refine ⟨encOf (j : Int) x.op x.no x.ident, encB L (j + 1), rfl, enc_read h0, ⟨rfl, by unfold recD; simp only; omega, rfl⟩, by rw [encOf_len h0]; rfl, encB_lays L (j + 1) h⟩
    · rw [if_pos h0] at h; exact absurd h h0
/-- records that are written are read -/
theorem rep_encB {L : List Rcd} (h : encZ L 0 = 0) : rep (encB L 0) = recsD L 0 ∧ repN (encB L 0) = (encB L 0).length := by
  have hl := encB_lays L 0 h
  have h1 := hl.rep []
  rw [List.append_nil, repFrom_nil, List.append_nil] at h1
  refine ⟨h1, ?_⟩
  unfold repN
  rw [show rep (encB L 0) = recsD L 0 from h1, hl.len]
/-- of a beginning of them a beginning is read: those that lie there whole -/
theorem rep_encB_take : ∀ (L : List Rcd) (j k : Nat), encZ L j = 0 → ∃ m, m ≤ L.length ∧ repFrom ((encB L j).take k) j = recsD (L.take m) j ∧ ∀ i, i ≤ L.length → (encB (L.take i) j).length ≤ k → i ≤ m
  | [], j, k, _ => ⟨0, Nat.le_refl _, by simp [encB, recsD, repFrom_nil], fun i hi _ => hi⟩
  | x :: L, j, k, h => by
    unfold encZ at h
    by_cases h0 : encErr (j : Int) x.op x.no x.ident.length = 0
    · rw [if_neg (by simpa using h0)] at h
      have hlen := encOf_len h0
      by_cases hk : k < (encOf (j : Int) x.op x.no x.ident).length
      · refine ⟨0, Nat.zero_le _, ?_, fun i hi hl => ?_⟩
        · unfold encB
          rw [List.take_append_of_le_length (by omega)]
          refine repFrom_no fun hg => ?_
          obtain ⟨h1, h2, h3, h4⟩ := encErr_zero h0
          have hc := enc_cut (j : Int).toNat x.op.toNat x.no.toNat x.ident (by omega) h4 k (by omega)
          have ee : encOf (j : Int) x.op x.no x.ident = encAll (j : Int).toNat x.op.toNat x.no.toNat x.ident := by unfold encOf; rw [if_pos h0]
          rw [← ee] at hc
          rw [hc] at hg
          exact hg.2.1 rfl
        · cases i with
          | zero => exact Nat.le_refl _
          | succ i =>
            rw [List.take_succ_cons] at hl
            unfold encB at hl
            rw [List.length_append] at hl
            omega
      · obtain ⟨m, h1, h2, h3⟩ := rep_encB_take L (j + 1) (k - (encOf (j : Int) x.op x.no x.ident).length) h
        refine ⟨m + 1, by simp only [List.length_cons]; omega, ?_, fun i hi hl => ?_⟩
        · unfold encB
          rw [List.take_append, List.take_of_length_le (by omega)]
          have hr := (enc_lays (s := j) h0).rep ((encB L (j + 1)).take (k - (encOf (j : Int) x.op x.no x.ident).length))
          rw [hr, List.length_singleton, h2, List.take_succ_cons]
          rfl
        · cases i with
          | zero => exact Nat.zero_le _
          | succ i =>
            rw [List.take_succ_cons] at hl
            unfold encB at hl
            rw [List.length_append] at hl
            have := h3 i (by simpa using hi) (by omega)
            omega
    · rw [if_pos h0] at h; exact absurd h h0
theorem recsD_take : ∀ (L : List Rcd) (j m : Nat), recsD (L.take m) j = (recsD L j).take m
  | [], _, _ => by simp [recsD]
  | x :: L, j, 0 => by simp [recsD]
  | x :: L, j, m + 1 => by rw [List.take_succ_cons]; unfold recsD; rw [List.take_succ_cons, recsD_take L]
end Go.Proofs.YtheoklhmlnfgjaaGreatDoor
/-
  The files that the safe names and the pending changes speak of are there; what is left, by cases. No program is in sight here.
-/
namespace Go.Proofs.YtheoklhmlnfgjaaGreatDoor

def ChgLt (n : Nat) : Chg → Prop
  | .put _ f => f < n
  | .ren _ _ f => f < n
  | .del _ => True
structure InvS (A : Pl) : Prop where
  safe : ∀ x ∈ A.safe, x.2 < A.files.length
  pend : ∀ c ∈ A.pend, ChgLt A.files.length c
theorem ChgLt.mono {n m : Nat} {c : Chg} (h : ChgLt n c) (hm : n ≤ m) : ChgLt m c := by
  cases c with
  | put k f => exact Nat.lt_of_lt_of_le h hm
  | ren a k f => exact Nat.lt_of_lt_of_le h hm
  | del k => trivial
theorem invS_new {F : List (BS × BS)} (h : okF F) (room : Int) (fails : List Int) (power : Int) : InvS (newP F room fails power) :=
  ⟨(inv_new h room fails power).fnow, fun c hc => by cases hc⟩
theorem invS_tick {A : Pl} (h : InvS A) : InvS (tickP A) := by
  have ht := tick_rest A
  exact ⟨by rw [ht.2.2.2.1, ht.2.2.1]; exact h.safe, by rw [ht.2.1, ht.2.2.1]; exact h.pend⟩
theorem invS_chg {A : Pl} (h : InvS A) (c : Chg) (hc : ChgLt A.files.length c) : InvS (chgP A c) := by
  have ht := tick_rest A
  unfold chgP
  refine ⟨?_, fun d hd => ?_⟩
  · show ∀ x ∈ (tickP A).safe, x.2 < (tickP A).files.length
    rw [ht.2.2.2.1, ht.2.2.1]; exact h.safe
  · show ChgLt (tickP A).files.length d
    rw [ht.2.2.1]
    rcases List.mem_append.1 hd with e | e
    · exact h.pend d e
    · rw [List.mem_singleton.1 e]; exact hc
theorem invS_do {A : Pl} (hI : Inv A) (h : InvS A) (o : Opp) : InvS (doP A o).1 := by
  have ht := tick_rest A
  cases o with
  | create k =>
    rw [doP_create]
    split
    · exact invS_tick h
    · split
      · exact invS_tick h
      · have e : (A.files ++ [(([], 0) : BS × Nat)]).length = A.files.length + 1 := by simp
        refine ⟨fun x hx => ?_, fun d hd => ?_⟩
        · have hx : x ∈ (tickP A).safe := hx
          rw [ht.2.2.2.1] at hx
          show x.2 < (A.files ++ [(([], 0) : BS × Nat)]).length
          have := h.safe x hx
          omega
        · show ChgLt (A.files ++ [(([], 0) : BS × Nat)]).length d
          rw [e]
          rcases List.mem_append.1 hd with e2 | e2
          · exact (h.pend d e2).mono (by omega)
          · rw [List.mem_singleton.1 e2]; exact Nat.lt_succ_self _
  | append k d =>
    rw [doP_append]
    split
    · exact invS_tick h
    · split
      · exact invS_tick h
      · have := invS_tick h
        refine ⟨fun x hx => ?_, fun c hc => ?_⟩
        · show x.2 < (A.files.modify _ _).length
          rw [List.length_modify]
          exact h.safe x (by rw [← ht.2.2.2.1]; exact hx)
        · show ChgLt (A.files.modify _ _).length c
          rw [List.length_modify]
          exact h.pend c (by rw [← ht.2.1]; exact hc)
  | sync k =>
    rw [doP_sync]
    split
    · exact invS_tick h
    · refine ⟨fun x hx => ?_, fun c hc => ?_⟩
      · show x.2 < (A.files.modify _ _).length
        rw [List.length_modify]
        exact h.safe x (by rw [← ht.2.2.2.1]; exact hx)
      · show ChgLt (A.files.modify _ _).length c
        rw [List.length_modify]
        exact h.pend c (by rw [← ht.2.1]; exact hc)
  | names =>
    rw [doP_names]
    split
    · exact invS_tick h
    · refine ⟨fun x hx => ?_, fun c hc => by cases hc⟩
      show x.2 < (tickP A).files.length
      rw [ht.2.2.1]
      exact hI.fnow x hx
  | rename a b =>
    rw [doP_rename]
    split
    · exact invS_tick h
    · rename_i h1
      obtain ⟨_, _, h4⟩ := onP_zero (by simpa using h1)
      split
      · exact invS_tick h
      · exact invS_chg h _ (hI.fnow _ h4)
  | remove k =>
    rw [doP_remove]
    split
    · exact invS_tick h
    · exact invS_chg h _ trivial
theorem applyC_lt {n : Nat} {c : Chg} {M : NM} (hc : ChgLt n c) (h : ∀ x ∈ M, x.2 < n) : ∀ x ∈ applyC c M, x.2 < n := by
  intro x hx
  cases c with
  | put k f =>
    rcases insN_mem k f x M hx with e | e
    · rw [e]; exact hc
    · exact h x e
  | ren a k f =>
    rcases insN_mem k f x _ hx with e | e
    · rw [e]; exact hc
    · exact h x (delN_mem e).1
  | del k => exact h x (delN_mem hx).1
theorem fold_lt {n : Nat} : ∀ (C : List Chg) (M : NM), (∀ c ∈ C, ChgLt n c) → (∀ x ∈ M, x.2 < n) → ∀ x ∈ C.foldl (fun M c => applyC c M) M, x.2 < n
  | [], _, _, h => h
  | c :: C, _, hc, h => fold_lt C _ (fun d hd => hc d (List.mem_cons_of_mem _ hd)) (applyC_lt (hc c (List.mem_cons_self ..)) h)
theorem InvS.left {A : Pl} (h : InvS A) (n : Int) : ∀ x ∈ leftNP A n, x.2 < A.files.length :=
  fold_lt _ _ (fun c hc => h.pend c (List.mem_of_mem_take hc)) h.safe
/-- no change is pending, or none is told -/
theorem leftN_none {A : Pl} {n : Int} (h : n ≤ 0 ∨ A.pend.length = 0) : leftNP A n = A.safe := by
  unfold leftNP
  rcases h with h | h
  · rw [show n.toNat = 0 by omega]; rfl
  · rw [List.eq_nil_of_length_eq_zero h]; simp
theorem leftN_some {A : Pl} {n : Int} {k : Nat} (hk : k < A.pend.length) (h : (k : Int) + 1 = n ∨ (k + 1 = A.pend.length ∧ (A.pend.length : Int) < n)) : (pendN A)[k]? = some (leftNP A n) := by
  rw [pendN_get A k hk]
  unfold leftNP
  rcases h with h | ⟨h, h2⟩
  · rw [show n.toNat = k + 1 by omega]
  · rw [h, List.take_of_length_le (Nat.le_refl _), List.take_of_length_le (by omega)]
/-- so much is left of a file -/
theorem left_none {A : Pl} {keep : List Int} {i : Nat} (h : ∀ z, keep[i]? = some z → z ≤ 0) : leftDP A keep i = (datP A i).take (firmP A i) := by
  unfold leftDP moreP
  cases hk : keep[i]? with
  | none => rfl
  | some z =>
    have := h z hk
    simp only
    rw [show (min z (((datP A i).length - firmP A i : Nat) : Int)).toNat = 0 by omega]
    rfl
theorem left_part {A : Pl} {keep : List Int} {i : Nat} {z : Int} (h : keep[i]? = some z) (hz : 0 < z) (hl : z < (((datP A i).length - firmP A i : Nat) : Int)) : leftDP A keep i = (datP A i).take (firmP A i + z.toNat) := by
  unfold leftDP moreP
  rw [h]
  simp only
  rw [show (min z (((datP A i).length - firmP A i : Nat) : Int)).toNat = z.toNat by omega]
theorem left_all {A : Pl} {keep : List Int} {i : Nat} {z : Int} (h : keep[i]? = some z) (hl : ¬ z < (((datP A i).length - firmP A i : Nat) : Int)) (hf : firmP A i ≤ (datP A i).length) : leftDP A keep i = datP A i := by
  unfold leftDP moreP
  rw [h]
  simp only
  rw [show (min z (((datP A i).length - firmP A i : Nat) : Int)).toNat = (datP A i).length - firmP A i by omega]
  exact List.take_of_length_le (by omega)
end Go.Proofs.YtheoklhmlnfgjaaGreatDoor
/-
  begin, cut of chapter 11: a disk of copies; a script's first hundred steps.
-/
namespace Go.Proofs.YtheoklhmlnfgjaaGreatDoor
open Go.RowKit Go.Maps
set_option linter.unusedVariables false

set_option maxRecDepth 100000 in
set_option maxHeartbeats 4000000 in
theorem begin11_any (F : List FT) (p : Option Addr) (n c : Nat) (hn : F.length = n) (room : Int) (Z : List Int) (q : Option Addr) (m d : Nat) (hm : Z.length = m) (power : Int) (w : World) (hF : InFs w p F) (hZ : InV w q (Z.map (Value.int .i64))) (hFl : F.length ≤ 3518437208780) (hFn : ∀ f ∈ F, f.1.length ≤ 140737488351232 ∧ f.2.length ≤ 140737488351232) (hZl : Z.length ≤ 4000000000000) :
    Calls Tryz.prog 16 #[.agg #[.slice p n c, .int .i64 room, .slice q m d, .int .i64 power]] w (NewPost w F room Z power) := by
  subst hn
  subst hm
  obtain ⟨wa, hwa⟩ : ∃ W0, W0 = w.alloc (.cells #[.slice p F.length c, .int .i64 room, .slice q Z.length d, .int .i64 power] 40) := ⟨_, rfl⟩
  have hba : Below w.heap.size w wa := by rw [hwa]; exact (Below.refl _ w).alloc (Nat.le_refl _) _
  have hsa : wa.heap.size = w.heap.size + 1 := by rw [hwa]; simp
  have hbox : wa.heap[w.heap.size]? = some (.cells #[.slice p F.length c, .int .i64 room, .slice q Z.length d, .int .i64 power] 40 (0, 0)) := by rw [hwa]; exact heap_alloc_new w _
  have C4 : ∀ W : World, Below wa.heap.size wa W → W.cell? ⟨w.heap.size, 0, none⟩ = some (.slice p F.length c) ∧ W.cell? ⟨w.heap.size, 1, none⟩ = some (.int .i64 room) ∧ W.cell? ⟨w.heap.size, 2, none⟩ = some (.slice q Z.length d) ∧ W.cell? ⟨w.heap.size, 3, none⟩ = some (.int .i64 power) := fun W hb => by
    have h1 := (hb.block _ (by omega)).trans hbox
    exact ⟨by rw [cell_of_row _ _ _ _ _ _ h1]; rfl, by rw [cell_of_row _ _ _ _ _ _ h1]; rfl, by rw [cell_of_row _ _ _ _ _ _ h1]; rfl, by rw [cell_of_row _ _ _ _ _ _ h1]; rfl⟩
  have hmade := ownI_made wa
  have hb0 : Below wa.heap.size wa (wa.alloc (.cells #[] 3)) := (Below.refl _ wa).alloc (Nat.le_refl _) _
  have hs := srcV (c := d) (e := 3) Tryz.underlying38 (hZ.below (hba.trans (hb0.mono hba.size))) (ints_one Z)
  rw [List.length_map] at hs
  obtain ⟨c0, c1, c2, c3⟩ := C4 _ hb0
  have H := Lib.hid (And.intro hba (And.intro hb0 C4))
  have HSA := Lib.hid hsa
  rw [hsa] at hmade
  rw [hwa] at hmade hs c0 c1 c2 c3
  have HWA := Lib.hid hwa
  clear hba hb0 hbox C4 hsa hwa
  go_enter Tryz.func16, Tryz.ntmps16
  go_wp2_with (at_builtin; refine wpList_append_way _ rfl _ _ 38 38 rfl (w.heap.size + 1) 3 (.int .i64 0) 1 8 Tryz.underlying38 infoI rfl _ 0 [] rfl hmade _ Z.length (Z.map (Value.int .i64)) rfl hs (by unfold maxLen; omega) (by omega) (by simp) ?_; intro v1 w1 hown1 hgrow1 _; rw [List.nil_append, Nat.zero_add] at hown1; obtain ⟨q1, d1, rfl, hl1, hc1, hin1, hq1⟩ := owns_shape hown1; have HI := Lib.hid (And.intro hin1 (And.intro hgrow1 hown1)); clear hin1 hgrow1 hown1 hl1 hc1 hq1)
  have hb1 : Below (w.heap.size + 1) wa w1 := by
    have h1 := HI.out.2.1
    rw [← HWA.out] at h1
    have h2 := H.out.2.1
    rw [HSA.out] at h2
    exact h2.grown h1 (by rw [← HSA.out]; exact H.out.2.1.size) (fun k e => by cases e; exact Nat.le_refl _)
  rw [← HSA.out] at hb1
  have hB1 := H.out.1.trans (hb1.mono H.out.1.size)
  have HK0 := Lib.hid (H.out.2.2 _ hb1.drew)
  have HCF := Lib.hid ((copyFiles_any F p _ c rfl (by omega) (fun f hf => (hFn f hf).2) w1.drew ((hF.below hB1).below (Below.refl _ w1).drew)).mono (R' := fun e w2 => ∃ p2 c2, e = .returned (.slice p2 F.length c2) ∧ InFs w2 p2 F ∧ Below w1.heap.size w1 w2) fun e w2 hp => by
    obtain ⟨v, h1, h2, h3⟩ := hp
    obtain ⟨p2, c2, rfl, _, _, hin2, _⟩ := h2.shape rfl
    exact ⟨p2, c2, h1, hin2, (Below.refl _ w1).drew.trans (h3.mono (show w1.heap.size ≤ w1.drew.heap.size by simp))⟩)
  have HNW := Lib.hid (fun p2 c2 w2 (hin2 : InFs w2 p2 F) (hb2 : Below w1.heap.size w1 w2) => (show Calls Tryz.prog 28 #[.slice p2 F.length c2, .int .i64 room, .slice q1 Z.length d1, .int .i64 power] w2 fun e w3 => ∃ x y, e = .returned (.tuple #[.pointer x, .int .i64 y]) ∧ NewPost w F room Z power (.returned (.tuple #[.pointer x, .int .i64 y])) w3 ∧ Below wa.heap.size wa w3 from
    (new_p F p2 _ c2 rfl room Z q1 _ d1 rfl power w2 hin2 (HI.out.1.below hb2) (by omega) hFn (by omega)).mono fun e w3 hp => by
      have hb3 := hb1.trans ((hb2.trans (hp.2.mono hb2.size)).mono hb1.size)
      have hq := NewPost.from (hB1.trans (hb2.mono hB1.size)) hp
      rcases hp.1 with ⟨_, he⟩ | ⟨_, dd, P, he, _⟩
      · exact ⟨_, _, he, by rw [← he]; exact hq, hb3⟩
      · exact ⟨_, _, he, by rw [← he]; exact hq, hb3⟩))
  have H1 := Lib.hid (And.intro hb1 hB1)
  clear hb1 hB1 hmade hs c0 c1 c2 c3
  go_region_held3 (fun W => W.cell? ⟨w.heap.size, 0, none⟩ = some (.slice p F.length c) ∧ W.cell? ⟨w.heap.size, 1, none⟩ = some (.int .i64 room) ∧ W.cell? ⟨w.heap.size, 2, none⟩ = some (.slice q Z.length d) ∧ W.cell? ⟨w.heap.size, 3, none⟩ = some (.int .i64 power))
    (first | (with_reducible exact HK0.out) | (with_reducible exact HK2.out) | (with_reducible exact HK3.out))
    (first
      | (go_at_call 38; with_reducible refine HCF.out.mono ?_; rintro e w2 ⟨p2, c2, rfl, hin2, hb2⟩; have HN := Lib.hid (HNW.out p2 c2 w2 hin2 hb2); have HK2 := Lib.hid (H.out.2.2 _ (H1.out.1.trans (hb2.mono H1.out.1.size))); have H2 := Lib.hid (And.intro hb2 trivial); clear hin2 hb2)
      | (go_at_call 28; with_reducible refine HN.out.mono ?_; rintro e w3 ⟨x, y, rfl, hp, hb3⟩; have HK3 := Lib.hid (H.out.2.2 _ hb3); have HP := Lib.hid hp; clear hp hb3))
  all_goals
    go_wp2_with fail
    go_ret2
    exact HP.out

set_option maxRecDepth 100000 in
set_option maxHeartbeats 2000000 in
theorem cut11_any (len : Nat) (p : Option Addr) (c : Nat) (hc : len ≤ c) (w : World) :
    Calls Tryz.prog 21 #[.slice p len c] w fun e w' => ∃ c', e = .returned (.slice p (if 100 < len then 100 else len) c') ∧ Below w.heap.size w w' := by
  by_cases h : 100 < len
  · rw [if_pos h]
    have hI : (100 : Int) < (len : Int) := by omega
    have hI2 : (100 : Int) ≤ (c : Int) := by omega
    go_enter Tryz.func21, Tryz.ntmps21
    go_wp2_with fail
    go_ret
    first | exact ⟨_, rfl, Below.refl _ _⟩ | exact ⟨⟨_, rfl⟩, Below.refl _ _⟩ | exact Below.refl _ _
  · rw [if_neg h]
    have hI : ¬ (100 : Int) < (len : Int) := by omega
    go_enter Tryz.func21, Tryz.ntmps21
    go_wp2_with fail
    go_ret
    first | exact ⟨_, rfl, Below.refl _ _⟩ | exact ⟨⟨_, rfl⟩, Below.refl _ _⟩ | exact Below.refl _ _
end Go.Proofs.YtheoklhmlnfgjaaGreatDoor
/-
  Arguments of SwaplogSteps: a beginning, a script of records and lists of records.
-/
namespace Go.Proofs.YtheoklhmlnfgjaaGreatDoor
open Go.ChangeShapes Go.WideShapes Go.ChangeAt Go.RowKit
set_option linter.unusedVariables false

theorem cellsSt11 : Tryz.prog.cellsOf 40 = 4 := by kernel_rfl
theorem cellsSp11 : Tryz.prog.cellsOf 64 = 5 := by kernel_rfl
/-- what records weigh -/
def bulkRc (L : List Rcd) : Nat := (L.map fun x => x.ident.length + 1).sum
theorem bulkRc_length (L : List Rcd) : L.length ≤ bulkRc L := by
  induction L with
  | nil => simp [bulkRc]
  | cons x L ih => unfold bulkRc at ih ⊢; simp only [List.map_cons, List.sum_cons, List.length_cons]; omega
theorem encB_bulk : ∀ (L : List Rcd) (i : Nat), (encB L i).length ≤ 16 * bulkRc L
  | [], _ => by simp [encB, bulkRc]
  | x :: L, i => by
    have h1 : (encOf (i : Int) x.op x.no x.ident).length ≤ x.ident.length + 15 := by
      unfold encOf
      split
      · rw [encAll_len]
        omega
      · simp
    have := encB_bulk L (i + 1)
    unfold encB
    unfold bulkRc at this ⊢
    rw [List.length_append]
    simp only [List.map_cons, List.sum_cons]
    omega
abbrev StepT := Rcd × List Rcd
def InSteps (w : World) (p : Option Addr) (L : List StepT) : Prop :=
  ∀ k, (hk : k < L.length) → ∃ b o, p = some ⟨b, o, none⟩ ∧ ∃ (x : ByteArray) (q : Option Addr) (c : Nat), w.cell? ⟨b, o + k * 5, none⟩ = some (.int .i64 L[k].1.seq) ∧ w.cell? ⟨b, o + k * 5 + 1, none⟩ = some (.int .i64 L[k].1.op) ∧ w.cell? ⟨b, o + k * 5 + 2, none⟩ = some (.int .i64 L[k].1.no) ∧ w.cell? ⟨b, o + k * 5 + 3, none⟩ = some (.string x) ∧ w.cell? ⟨b, o + k * 5 + 4, none⟩ = some (.slice q L[k].2.length c) ∧
    x.data.toList = L[k].1.ident ∧ InRc w q L[k].2
theorem InSteps.below {w w' : World} {p : Option Addr} {L : List StepT} (h : InSteps w p L) (hb : Below w.heap.size w w') : InSteps w' p L := by
  intro k hk
  obtain ⟨b, o, e, x, q, c, h1, h2, h3, h4, h5, h6, h7⟩ := h k hk
  exact ⟨b, o, e, x, q, c, (hb.cell (World.block_lt_of_cell? w _ h1)).trans h1, (hb.cell (World.block_lt_of_cell? w _ h2)).trans h2, (hb.cell (World.block_lt_of_cell? w _ h3)).trans h3, (hb.cell (World.block_lt_of_cell? w _ h4)).trans h4, (hb.cell (World.block_lt_of_cell? w _ h5)).trans h5, h6, h7.below hb⟩
def bulkSt (L : List StepT) : Nat := (L.map fun x => x.1.ident.length + bulkRc x.2 + 1).sum
theorem bulkSt_mem (L : List StepT) : ∀ x ∈ L, x.1.ident.length + bulkRc x.2 ≤ bulkSt L := by
  induction L with
  | nil => simp
  | cons y L ih =>
    intro x hx
    unfold bulkSt at ih ⊢
    simp only [List.map_cons, List.sum_cons]
    rcases List.mem_cons.1 hx with rfl | hx
    · omega
    · have := ih x hx; omega
section
variable {H : Type} {enc : TypeId × Value → H} {W : World} {fuel : Nat} {cs : List Value} {d : DataW H} {ps : List MemPlace}
set_option maxRecDepth 100000 in
theorem open_recsK (hf : DataW.trod enc Tryz.prog W 0 (fun _ => true) true fuel 25 cs = some (d, ps)) : ∃ p L c, cs = [.slice p (List.length L) c] ∧ InRc W p L ∧ bulkRc L + 1 ≤ Rows.uptoBulk d := by
  rcases Go.Deep.open_slice Tryz.underlying25 hf with ⟨hcs, hx⟩ | ⟨x, l, c, m, n, D, Pl, hcs, _, hl, hm, hmm, hx, hat⟩
  · simp only [Prod.mk.injEq] at hx
    refine ⟨none, [], 0, hcs, InRc.nil _ _, ?_⟩
    rw [hx.1]
    simp [Rows.uptoBulk, bulkRc]
  · simp only [if_true] at hmm
    subst hmm
    simp only [Prod.mk.injEq] at hx
    have each : ∀ i, i < m → ∃ q : Int × Int × Int × ByteArray, W.cell? (x.add (i * 4)) = some (.int .i64 q.1) ∧ W.cell? (x.add (i * 4 + 1)) = some (.int .i64 q.2.1) ∧ W.cell? (x.add (i * 4 + 2)) = some (.int .i64 q.2.2.1) ∧ W.cell? (x.add (i * 4 + 3)) = some (.string q.2.2.2) ∧ q.2.2.2.data.toList.length + 1 ≤ Rows.uptoBulk (D i) := by
      intro i hi
      obtain ⟨cs', h1, h2⟩ := hat i hi
      rw [cellsRc11] at h1
      obtain ⟨_, hlen, hcell⟩ := World.cells?_some h1
      obtain ⟨xs, k, hk, hxy, _, hxl, hat2⟩ := DataW.trod_struct Tryz.underlying35 h2
      match xs, hxl, cs', hlen with
      | [y0, y1, y2, y3], _, [v0, v1, v2, v3], _ =>
        have g0 := hat2 0 _ rfl
        have g1 := hat2 1 _ rfl
        have g2 := hat2 2 _ rfl
        have g3 := hat2 3 _ rfl
        simp [cellsI9, cellsS9] at g0 g1 g2 g3
        have e0 := hcell 0 (by omega)
        have e1 := hcell 1 (by omega)
        have e2 := hcell 2 (by omega)
        have e3 := hcell 3 (by omega)
        rw [Go.Deep.add_add] at e0 e1 e2 e3
        obtain ⟨a, f0, rfl, _⟩ := DataW.trod_int Tryz.underlying3 g0
        obtain ⟨a2, f1, rfl, _⟩ := DataW.trod_int Tryz.underlying3 g1
        obtain ⟨a3, f2, rfl, _⟩ := DataW.trod_int Tryz.underlying3 g2
        obtain ⟨na, f3, rfl, _⟩ := DataW.trod_string Tryz.underlying9 g3
        simp at f0 f1 f2 f3
        subst f0 f1 f2 f3
        refine ⟨(a, a2, a3, na), by simpa using e0, by simpa using e1, by simpa using e2, by simpa using e3, ?_⟩
        simp only [Prod.mk.injEq] at hxy
        rw [hxy.1]
        simp only [List.map_cons, List.map_nil, Rows.uptoBulk, Rows.uptoBulkAll]
        omega
    obtain ⟨q, hq⟩ := Go.Deep.choose_lt each
    have hlen : ((List.range l).map fun i => (⟨(q i).1, (q i).2.1, (q i).2.2.1, (q i).2.2.2.data.toList⟩ : Rcd)).length = l := by simp
    refine ⟨some x, (List.range l).map fun i => ⟨(q i).1, (q i).2.1, (q i).2.2.1, (q i).2.2.2.data.toList⟩, _, by rw [hlen]; exact hcs, ?_, ?_⟩
    · intro h0
      rw [hlen] at h0
      obtain ⟨b, o, s⟩ := x
      have hs : s = none := by simpa [Addr.add] using World.cell?_spot (hq 0 (by omega)).1
      subst hs
      refine ⟨b, o, rfl, fun j v hj => ?_⟩
      obtain ⟨i, hi, h4⟩ := rc_at _ j v hj
      rw [hlen] at hi
      obtain ⟨c0, c1, c2, c3, _⟩ := hq i (by omega)
      rw [add_plain] at c0 c1 c2 c3
      simp only [List.getElem_map, List.getElem_range] at h4
      rcases h4 with ⟨rfl, rfl⟩ | ⟨rfl, rfl⟩ | ⟨rfl, rfl⟩ | ⟨rfl, rfl⟩
      · exact c0
      · exact c1
      · exact c2
      · exact c3
    · rw [hx.1]
      have := bulkAll_sum D (fun i => (⟨(q i).1, (q i).2.1, (q i).2.2.1, (q i).2.2.2.data.toList⟩ : Rcd)) (fun x => x.ident.length + 1) l fun i hi => (hq i (by omega)).2.2.2.2
      simp only [Rows.uptoBulk]
      unfold bulkRc
      omega
end
set_option maxRecDepth 100000 in
theorem open_steps {H : Type} {enc : TypeId × Value → H} {W : World} {r : Reach} {b0 : Nat} {v : Value} {d : DataW H} {ps : List MemPlace}
    (hv : Value.okWide Tryz.prog W r b0 41 v) (h : DataW.Trod enc Tryz.prog W 0 (fun _ => true) true 41 v d ps) :
    ∃ (p : Option Addr) (L : List StepT) (c : Nat), v = .slice p L.length c ∧ InSteps W p L ∧ bulkSt L ≤ Rows.uptoBulk d ∧ L.length ≤ c := by
  obtain ⟨a0, len, cap, rfl⟩ := okWide_slice Tryz.underlying41 hv
  obtain ⟨fuel, hf⟩ := h
  rcases Go.Deep.open_slice Tryz.underlying41 hf with ⟨hcs, hx⟩ | ⟨x, l, c, m, n, D, Pl, hcs, _, hl, hm, hmm, hx, hat⟩
  · simp [Value.cells] at hcs
    obtain ⟨rfl, rfl, rfl⟩ := hcs
    exact ⟨none, [], 0, rfl, fun k hk => absurd hk (by simp), by simp [bulkSt], Nat.le_refl _⟩
  · simp [Value.cells] at hcs
    obtain ⟨rfl, rfl, rfl⟩ := hcs
    simp only [if_true] at hmm
    subst hmm
    simp only [Prod.mk.injEq] at hx
    have each : ∀ i, i < m → ∃ q : (Int × Int × Int × ByteArray) × (Option Addr × Nat × List Rcd), W.cell? (x.add (i * 5)) = some (.int .i64 q.1.1) ∧ W.cell? (x.add (i * 5 + 1)) = some (.int .i64 q.1.2.1) ∧ W.cell? (x.add (i * 5 + 2)) = some (.int .i64 q.1.2.2.1) ∧ W.cell? (x.add (i * 5 + 3)) = some (.string q.1.2.2.2) ∧ W.cell? (x.add (i * 5 + 4)) = some (.slice q.2.1 q.2.2.2.length q.2.2.1) ∧ InRc W q.2.1 q.2.2.2 ∧ q.1.2.2.2.data.toList.length + bulkRc q.2.2.2 + 1 ≤ Rows.uptoBulk (D i) := by
      intro i hi
      obtain ⟨cs', h1, h2⟩ := hat i hi
      rw [cellsSp11] at h1
      obtain ⟨_, hlen, hcell⟩ := World.cells?_some h1
      obtain ⟨xs, k, hk, hxy, _, hxl, hat2⟩ := DataW.trod_struct Tryz.underlying64 h2
      match xs, hxl, cs', hlen with
      | [y0, y1], _, [v0, v1, v2, v3, v4], _ =>
        have g0 := hat2 0 _ rfl
        have g1 := hat2 1 _ rfl
        simp [cellsRc11, cellsRs11] at g0 g1
        have e0 := hcell 0 (by omega)
        have e1 := hcell 1 (by omega)
        have e2 := hcell 2 (by omega)
        have e3 := hcell 3 (by omega)
        have e4 := hcell 4 (by omega)
        rw [Go.Deep.add_add] at e0 e1 e2 e3 e4
        obtain ⟨y00, y01⟩ := y0
        obtain ⟨zs, k2, hk2, hzy, _, hzl, hat3⟩ := DataW.trod_struct Tryz.underlying35 g0
        match zs, hzl with
        | [z0, z1, z2, z3], _ =>
          have j0 := hat3 0 _ rfl
          have j1 := hat3 1 _ rfl
          have j2 := hat3 2 _ rfl
          have j3 := hat3 3 _ rfl
          simp [cellsI9, cellsS9] at j0 j1 j2 j3
          obtain ⟨a, f0, rfl, _⟩ := DataW.trod_int Tryz.underlying3 j0
          obtain ⟨a2, f1, rfl, _⟩ := DataW.trod_int Tryz.underlying3 j1
          obtain ⟨a3, f2, rfl, _⟩ := DataW.trod_int Tryz.underlying3 j2
          obtain ⟨na, f3, rfl, _⟩ := DataW.trod_string Tryz.underlying9 j3
          obtain ⟨y10, y11⟩ := y1
          obtain ⟨q, L, cq, f4, hin, hbk⟩ := open_recsK g1
          simp at f0 f1 f2 f3 f4
          subst f0 f1 f2 f3
          rw [f4] at e4
          refine ⟨((a, a2, a3, na), (q, cq, L)), by simpa using e0, by simpa using e1, by simpa using e2, by simpa using e3, by simpa using e4, hin, ?_⟩
          simp only [Prod.mk.injEq] at hxy hzy
          rw [hxy.1]
          simp only [List.map_cons, List.map_nil, Rows.uptoBulk, Rows.uptoBulkAll, hzy.1]
          omega
    obtain ⟨q, hq⟩ := Go.Deep.choose_lt each
    have hlen : ((List.range len).map fun i => ((⟨(q i).1.1, (q i).1.2.1, (q i).1.2.2.1, (q i).1.2.2.2.data.toList⟩, (q i).2.2.2) : StepT)).length = len := by simp
    refine ⟨some x, (List.range len).map fun i => (⟨(q i).1.1, (q i).1.2.1, (q i).1.2.2.1, (q i).1.2.2.2.data.toList⟩, (q i).2.2.2), _, by rw [hlen], ?_, ?_, by rw [hlen]; exact hl⟩
    · intro k hk
      have hk2 : k < len := by rw [hlen] at hk; exact hk
      obtain ⟨b, o, s⟩ := x
      have hs : s = none := by simpa [Addr.add] using World.cell?_spot (hq 0 (by omega)).1
      subst hs
      obtain ⟨c0, c1, c2, c3, c4, c5, _⟩ := hq k (by omega)
      rw [add_plain] at c0 c1 c2 c3 c4
      rw [← Nat.add_assoc] at c1 c2 c3 c4
      simp only [List.getElem_map, List.getElem_range]
      exact ⟨b, o, rfl, _, _, _, c0, c1, c2, c3, c4, rfl, c5⟩
    · rw [hx.1]
      have := bulkAll_sum D (fun i => ((⟨(q i).1.1, (q i).1.2.1, (q i).1.2.2.1, (q i).1.2.2.2.data.toList⟩, (q i).2.2.2) : StepT)) (fun x => x.1.ident.length + bulkRc x.2 + 1) len fun i hi => (hq i (by omega)).2.2.2.2.2.2
      refine Nat.le_trans this ?_
      simp only [Rows.uptoBulk]
      omega
set_option maxRecDepth 100000 in
theorem open_start11 {H : Type} {enc : TypeId × Value → H} {W : World} {r : Reach} {b0 : Nat} {v : Value} {d : DataW H} {ps : List MemPlace}
    (hv : Value.okWide Tryz.prog W r b0 40 v) (h : DataW.Trod enc Tryz.prog W 0 (fun _ => true) true 40 v d ps) :
    ∃ (p : Option Addr) (F : List FT) (c : Nat) (room : Int) (q : Option Addr) (Z : List Int) (e : Nat) (power : Int), v = .agg #[.slice p F.length c, .int .i64 room, .slice q Z.length e, .int .i64 power] ∧ InFs W p F ∧ InV W q (Z.map (Value.int .i64)) ∧ bulkFs F + Z.length ≤ Rows.uptoBulk d := by
  obtain ⟨cs, rfl, hsz⟩ := okWide_struct Tryz.underlying40 hv
  obtain ⟨c0, c1, c2, c3, rfl⟩ := array4 (hsz.trans cellsSt11)
  obtain ⟨fuel, hf⟩ := h
  obtain ⟨xs, n, _, hx, _, hlen, hat⟩ := DataW.trod_struct Tryz.underlying40 hf
  match xs, hlen with
  | [y0, y1, y2, y3], _ =>
    have h0 := hat 0 _ rfl
    have h1 := hat 1 _ rfl
    have h2 := hat 2 _ rfl
    have h3 := hat 3 _ rfl
    simp [Value.cells, cellsI9, cellsIs9, cellsFs9] at h0 h1 h2 h3
    obtain ⟨y00, y01⟩ := y0
    obtain ⟨p, F, c, e0, hin0, hb0⟩ := open_filesC h0
    obtain ⟨a, e1, rfl, _⟩ := DataW.trod_int Tryz.underlying3 h1
    obtain ⟨y20, y21⟩ := y2
    obtain ⟨q, Z, e, e2, hin2, hb2⟩ := open_intsC h2
    obtain ⟨g, e3, rfl, _⟩ := DataW.trod_int Tryz.underlying3 h3
    simp at e0 e1 e2 e3
    subst e0 e1 e2 e3
    refine ⟨p, F, c, a, q, Z, e, g, rfl, hin0, hin2, ?_⟩
    simp only [Prod.mk.injEq] at hx
    rw [hx.1]
    simp only [List.map_cons, List.map_nil, Rows.uptoBulk, Rows.uptoBulkAll]
    omega
end Go.Proofs.YtheoklhmlnfgjaaGreatDoor
/-
  Plain: what holds of the disk behind the log's calls.
-/
namespace Go.Proofs.YtheoklhmlnfgjaaGreatDoor

structure GoodT (n : Nat) (A : Pl) : Prop where
  s : GoodS n A
  i : InvS A
theorem GoodT.more {n m : Nat} {A : Pl} (h : GoodT n A) (hm : n ≤ m) : GoodT m A := ⟨h.s.more hm, h.i⟩
theorem GoodT.step {n : Nat} {A : Pl} (h : GoodT n A) (o : Opp) : GoodT (n + 1) (doP A o).1 := ⟨h.s.step o, invS_do h.s.good.inv h.i o⟩
theorem GoodT.steps {n : Nat} : ∀ (L : List Opp) {A : Pl} (_ : GoodT n A), GoodT (n + L.length) (stepsP A L).1
  | [], A, h => by exact h
  | o :: L, A, h => by
    unfold stepsP
    split
    · exact (h.step o).more (by simp only [List.length_cons]; omega)
    · have := (GoodT.steps (n := n + 1) L (h.step o)).more (m := n + (o :: L).length) (by simp only [List.length_cons]; omega)
      exact this
theorem GoodT.sweep {n : Nat} {A : Pl} (h : GoodT n A) : GoodT (n + 1) (sweepP A).1 := by
  unfold sweepP
  split
  · exact h.step _
  · exact h.more (by omega)
theorem GoodT.rewrite {n : Nat} {A : Pl} (h : GoodT n A) (c : Int) (L : List Rcd) : GoodT (n + 5) (rewriteP A c L).1 := by
  have hs := GoodT.steps [.create newN, .append newN (encB L 0), .sync newN, .rename newN logN] h
  unfold rewriteP
  split
  · exact h.more (by omega)
  · simp only
    split
    · exact hs.step _
    · split
      · exact hs.more (by simp only [List.length_cons, List.length_nil]; omega)
      · exact hs.step _
theorem GoodT.add {n : Nat} {A : Pl} (h : GoodT n A) (c op no : Int) (id : BS) : GoodT (n + 2) (addP A c op no id).1 := by
  unfold addP
  split
  · exact h.more (by omega)
  · split
    · exact (h.step _).more (by omega)
    · exact (h.step _).step _
theorem GoodT.open {n : Nat} {A : Pl} (h : GoodT n A) : GoodT (n + 6) (openP A).1 := by
  have hs := h.sweep
  unfold openP
  simp only
  split
  · exact hs.more (by omega)
  · split
    · exact (GoodT.steps [.create logN, .sync logN, .names] hs).more (by simp only [List.length_cons, List.length_nil]; omega)
    · split
      · exact hs.more (by omega)
      · split
        · split
          · exact (hs.rewrite 0 _)
          · exact (hs.rewrite 0 _)
        · exact hs.more (by omega)
theorem files_new {F : List FT} {room : Int} {Z : List Int} (power : Int) (hk : bulkFs F + Z.length ≤ 1048576) : ∀ f ∈ (newP F room Z power).files, f.1.length ≤ 1048576 := fun f hf => by
  obtain ⟨x, hx, e⟩ := List.mem_map.1 hf
  have := bulkFs_mem F x hx
  rw [← e]
  show x.2.length ≤ _
  omega
theorem GoodT.new {F : List FT} {room : Int} {Z : List Int} (power : Int) (hE : newE F room = 0) (hk : bulkFs F + Z.length ≤ 1048576) : GoodT 0 (newP F room Z power) :=
  ⟨⟨GoodA.new power hE hk, fun f hf => Nat.le_trans (files_new power hk f hf) (by omega)⟩, invS_new (newE_zero hE).1 room Z power⟩
/-- how many records there are -/
theorem open_len {A : Pl} (hf : ∀ f ∈ A.files, f.1.length ≤ 1048576) : (openP A).2.1.length ≤ 100000 := by
  have hr : ∀ B : Pl, (∀ f ∈ B.files, f.1.length ≤ 1048576) → (repR (readP B logN)).length ≤ 100000 := fun B hB => by
    have h1 := rep_len (readP B logN)
    rw [← repR_length] at h1
    have h2 : (readP B logN).length ≤ 1048576 := by
      unfold Go.Proofs.YtheoklhmlnfgjaaGreatDoor.readP
      split
      · unfold datP
        cases hx : B.files[atP B logN]? with
        | none => simp
        | some y =>
          simp only [Option.map_some, Option.getD_some]
          exact hB y (List.mem_of_getElem? hx)
      · simp
    omega
  have hs : (sweepP A).1.files = A.files := by
    unfold sweepP
    split
    · have ht := tick_rest A
      rw [doP_remove]
      (repeat' split) <;> first | exact ht.2.2.1 | skip
    · rfl
  have h3 := hr (sweepP A).1 (by rw [hs]; exact hf)
  unfold openP
  simp only
  (repeat' split) <;> first | exact h3 | simp
theorem open_err_nil {A : Pl} (h : (openP A).2.2 ≠ 0) : (openP A).2.1 = [] := by
  revert h
  unfold openP
  simp only
  (repeat' split) <;> simp
theorem rewrite_n {A : Pl} {n : Int} {L : List Rcd} {b : Int} (h0 : 0 ≤ n) (h1 : n ≤ b) (hL : (L.length : Int) ≤ b) : 0 ≤ (rewriteP A n L).2.1 ∧ (rewriteP A n L).2.1 ≤ b := by
  unfold rewriteP
  simp only
  (repeat' split) <;> simp only <;> omega
theorem add_n {A : Pl} {n op no b : Int} {id : BS} (h0 : 0 ≤ n) (h1 : n ≤ b) : 0 ≤ (addP A n op no id).2.1 ∧ (addP A n op no id).2.1 ≤ b + 1 := by
  unfold addP
  (repeat' split) <;> simp only <;> omega
end Go.Proofs.YtheoklhmlnfgjaaGreatDoor
