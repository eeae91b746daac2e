/-
  Used, List, Down of a disk, in the words of the laws; the sizes of boxes.
-/
import Derived.Test.YtheoklhmlnfgjaaGreatDoorPk3
import Derived.Test.YtheoklhmlnfgjaaGreatDoorPk2
import Derived.Test.YtheoklhmlnfgjaaGreatDoorPk1
import Derived.Deep.RegionWith
import Derived.Deep.RegionHeld3
namespace Go.Proofs.YtheoklhmlnfgjaaGreatDoor
open Go.RowKit Go.Maps

theorem used_dp {n : Nat} {w0 W : World} {dd : Nat} {A : Pl} (h : DP w0 dd A W) (hA : GoodA n A) (hn : n ≤ 1000000) :
    Calls Tryz.prog 32 #[.pointer (some ⟨dd, 0, none⟩)] W fun e w' => e = .returned (.int .i64 (usedP A)) ∧ Below W.heap.size W w' := by
  obtain ⟨P, ⟨S, h1, he⟩, h2, h3⟩ := h
  have hu : usedP A = usedS S := by rw [← he, abs_used h1.nowF]
  rw [hu]
  exact used_any h1 (by rw [← hu]; have := (hA.fitP hn).used; omega)
theorem down_dp {w0 W : World} {dd : Nat} {A : Pl} (h : DP w0 dd A W) :
    Calls Tryz.prog 76 #[.pointer (some ⟨dd, 0, none⟩)] W fun e w' => e = .returned (.bool (downP A)) ∧ Below W.heap.size W w' := by
  obtain ⟨P, ⟨S, h1, he⟩, h2, h3⟩ := h
  rw [← he, abs_down]
  exact down_any h1
theorem list_dp {n : Nat} {w0 W : World} {dd : Nat} {A : Pl} (h : DP w0 dd A W) (hA : GoodA n A) (hn : n ≤ 1000000) :
    Calls Tryz.prog 41 #[.pointer (some ⟨dd, 0, none⟩)] W fun e w' => ∃ p c, e = .returned (.slice p (listP A).length c) ∧ OwnS w' W.heap.size (.slice p (listP A).length c) (listP A) ∧ InS w' p (listP A) ∧ Below W.heap.size W w' := by
  obtain ⟨P, h1, h2, h3⟩ := h
  refine (list_p h1 (hA.fitP hn).now).mono fun e w' hp => ?_
  obtain ⟨v, rfl, hown, hb⟩ := hp
  have hown2 := hown
  obtain ⟨p, c, rfl, _, _, hin, _⟩ := hown.shape rfl
  exact ⟨p, c, rfl, hown2, hin, hb⟩
theorem usedP_tick (A : Pl) : usedP (tickP A) = usedP A := by
  have ht := tick_rest A
  rw [usedP_eq, usedP_eq, ht.1, ht.2.2.1]
theorem down_tick (A : Pl) (h : downP (tickP A) = false) : downP A = false := by
  unfold tickP at h
  split at h
  · exact h
  · rename_i h1; simpa using h1
theorem listP_tick (A : Pl) (h : downP (tickP A) = false) : listP (tickP A) = listP A := by
  unfold listP
  rw [h, down_tick A h, (tick_rest A).1]
theorem leftP_tick (A : Pl) (n : Int) (K : List Int) : leftP (tickP A) n K = leftP A n K := by
  have ht := tick_rest A
  unfold leftP leftNP leftDP datP firmP
  rw [ht.2.1, ht.2.2.1, ht.2.2.2.1]
/-- what is owned behind a disk stays where the disk alone turns -/
theorem ownS_only {P : Nat → Prop} {w w' : World} {base : Nat} {v : Value} {L : List BS} (h : OwnS w base v L) (ho : Only P w w') (hP : ∀ g, P g → g < base) : OwnS w' base v L := by
  refine ⟨h.1, ?_⟩
  rcases h.2 with h0 | ⟨g, cap, cur, e, c1, c2, r⟩
  · exact .inl h0
  · exact .inr ⟨g, cap, cur, e, c1, (ho.block g (lt_of_heap c2) (fun e2 => by have := hP g e2; omega)).trans c2, r⟩
theorem own8_only {P : Nat → Prop} {w w' : World} {base : Nat} {v : Value} {L : BS} (h : Own8 w base v L) (ho : Only P w w') (hP : ∀ g, P g → g < base) : Own8 w' base v L := by
  refine ⟨h.1, ?_⟩
  rcases h.2 with h0 | ⟨g, cap, cur, e, c1, c2, r⟩
  · exact .inl h0
  · exact .inr ⟨g, cap, cur, e, c1, (ho.block g (lt_of_heap c2) (fun e2 => by have := hP g e2; omega)).trans c2, r⟩
theorem ownFs_only {P : Nat → Prop} {w w' : World} {base : Nat} {v : Value} {L : List FT} (h : OwnFs w base v L) (ho : Only P w w') (hP : ∀ g, P g → g < base) : OwnFs w' base v L := by
  obtain ⟨E, h1, h2, h3⟩ := h
  refine ⟨E, ⟨h1.1, ?_⟩, h2, fun i e x he hx => ⟨(h3 i e x he hx).1, own8_only (h3 i e x he hx).2 ho hP⟩⟩
  rcases h1.2 with h0 | ⟨g, cap, cur, e, c1, c2, r⟩
  · exact .inl h0
  · exact .inr ⟨g, cap, cur, e, c1, (ho.block g (lt_of_heap c2) (fun e2 => by have := hP g e2; omega)).trans c2, r⟩
end Go.Proofs.YtheoklhmlnfgjaaGreatDoor
/-
  Read: a file's bytes.
-/
namespace Go.Proofs.YtheoklhmlnfgjaaGreatDoor
open Go.RowKit Go.Maps

set_option maxRecDepth 100000 in
set_option maxHeartbeats 4000000 in
theorem read_p {w : World} {P : Nat → Prop} {dd : Nat} {A : Pl} (h : DiskP w P dd A) (nm : ByteArray) (hnm : nm.size ≤ 140737488351232) (hus : usedP A ≤ 140737488351232) :
    Calls Tryz.prog 43 #[.pointer (some ⟨dd, 0, none⟩), .string nm] w fun e w' => ∃ v, e = .returned (.tuple #[v, .int .i64 (readEP A nm.data.toList)]) ∧ Own8 w' w.heap.size v (readP A nm.data.toList) ∧ Below w.heap.size w w' := by
  obtain ⟨S, h, rfl⟩ := h
  rw [abs_used h.nowF] at hus
  have hE : readEP (absD S) nm.data.toList = if downS S = true then 93 else if badN nm.data.toList = true then 95 else if lookN S.now nm.data.toList = none then 90 else 0 := by
    unfold readEP
    rw [abs_down, abs_look]
    cases lookN S.now nm.data.toList <;> rfl
  have hR : readP (absD S) nm.data.toList = if readEP (absD S) nm.data.toList = 0 then datP (absD S) (atP (absD S) nm.data.toList) else [] := rfl
  have HR0 := Lib.hid hR
  have HE0 := Lib.hid hE
  have c0 : w.cell? ⟨dd, 0, none⟩ = some (.map (some S.bn)) := h.cell 0
  have hrun := run_lookF h.now nm (by unfold maxLen; omega)
  have hdown := down_any h
  obtain ⟨q, hq⟩ : ∃ q, fileV (lookN S.now nm.data.toList) = .pointer q := by cases lookN S.now nm.data.toList <;> exact ⟨_, rfl⟩
  rw [hq] at hrun
  have HQ := Lib.hid hq
  clear hR hE hq
  cases hd : downS S with
  | true =>
    rw [hd] at hdown
    have HE := Lib.hid (show readEP (absD S) nm.data.toList = 93 by rw [HE0.out, if_pos hd])
    have HRR := Lib.hid (show readP (absD S) nm.data.toList = [] by rw [HR0.out, HE.out]; rfl)
    clear hd
    go_enter Tryz.func43, Tryz.ntmps43
    go_wp2_with fail
    refine hdown.mono ?_
    rintro e w1 ⟨rfl, hb1⟩
    clear hdown
    go_wp2_with fail
    go_ret2
    exact ⟨_, by rw [HE.out]; rfl, by rw [HRR.out]; exact Own8.nil _ _, hb1⟩
  | false =>
    rw [hd] at hdown
    have HE1 := Lib.hid (show readEP (absD S) nm.data.toList = if badN nm.data.toList = true then 95 else if lookN S.now nm.data.toList = none then 90 else 0 by rw [HE0.out, if_neg (by rw [hd]; simp)])
    clear hd
    have hgood := fun W => good_any nm W hnm
    cases hb : goodN nm.data.toList with
    | false =>
      rw [hb] at hgood
      have HE := Lib.hid (show readEP (absD S) nm.data.toList = 95 by rw [HE1.out, if_pos (by unfold badN; rw [hb]; rfl)])
      have HRR := Lib.hid (show readP (absD S) nm.data.toList = [] by rw [HR0.out, HE.out]; rfl)
      clear hb
      go_enter Tryz.func43, Tryz.ntmps43
      go_wp2_with fail
      refine hdown.mono ?_
      rintro e w1 ⟨rfl, hb1⟩
      clear hdown
      go_wp2_with fail
      refine (hgood _).mono ?_
      rintro e w2 ⟨rfl, hb2⟩
      clear hgood
      go_wp2_with fail
      go_ret2
      exact ⟨_, by rw [HE.out]; rfl, by rw [HRR.out]; exact Own8.nil _ _, hb1.trans (hb2.mono hb1.size)⟩
    | true =>
      rw [hb] at hgood
      have HE2 := Lib.hid (show readEP (absD S) nm.data.toList = if lookN S.now nm.data.toList = none then 90 else 0 by rw [HE1.out, if_neg (by unfold badN; rw [hb]; simp)])
      clear hb
      cases hl : lookN S.now nm.data.toList with
      | none =>
        have HE := Lib.hid (show readEP (absD S) nm.data.toList = 90 by rw [HE2.out, if_pos hl])
        have HRR := Lib.hid (show readP (absD S) nm.data.toList = [] by rw [HR0.out, HE.out]; rfl)
        have hq := HQ.out
        rw [hl] at hq
        unfold fileV at hq
        injection hq with hq
        subst hq
        clear hl
        go_enter Tryz.func43, Tryz.ntmps43
        go_wp2_with fail
        refine hdown.mono ?_
        rintro e w1 ⟨rfl, hb1⟩
        clear hdown
        go_wp2_with fail
        refine (hgood _).mono ?_
        rintro e w2 ⟨rfl, hb2⟩
        clear hgood
        go_wp2_with fail
        go_ret2
        exact ⟨_, by rw [HE.out]; rfl, by rw [HRR.out]; exact Own8.nil _ _, hb1.trans (hb2.mono hb1.size)⟩
      | some g =>
        have HE := Lib.hid (show readEP (absD S) nm.data.toList = 0 by rw [HE2.out, if_neg (by rw [hl]; simp)])
        have hq := HQ.out
        rw [hl] at hq
        unfold fileV at hq
        injection hq with hq
        subst hq
        have hmem := lookN_mem _ _ _ hl
        have hfile := h.nowF _ hmem
        simp only at hfile
        have hat : atP (absD S) nm.data.toList = noF S.files g := by unfold atP; rw [abs_look, hl]; rfl
        have HRR := Lib.hid (show readP (absD S) nm.data.toList = datF S g by rw [HR0.out, if_pos HE.out, hat, abs_dat hfile])
        have hdl := dat_le_used hmem
        simp only at hdl
        obtain ⟨f, hfm, hfg⟩ := hfile
        obtain ⟨i, hi, ei⟩ := List.getElem_of_mem hfm
        have hfi : S.files[i]? = some f := by rw [List.getElem?_eq_getElem hi, ei]
        have hdf := datF_mem h.apart hfm
        rw [hfg] at hdf
        subst hfg
        rw [hdf] at hdl
        have HDF := Lib.hid hdf
        have HFI := Lib.hid hfi
        clear hl hat hmem hfm hi ei hdf hfi
        go_enter Tryz.func43, Tryz.ntmps43
        go_wp2_with fail
        refine hdown.mono ?_
        rintro e w1 ⟨rfl, hb1⟩
        clear hdown
        go_wp2_with fail
        refine (hgood _).mono ?_
        rintro e w2 ⟨rfl, hb2⟩
        clear hgood
        have hB := hb1.trans (hb2.mono hb1.size)
        obtain ⟨b1, b2, b3, b4, b5⟩ := (h.below hB).files i f HFI.out
        obtain ⟨pv, cv, hval, hc1, hc2, hin⟩ := b2.in8n rfl
        have c1 : w2.cell? ⟨f.blk, 1, none⟩ = some (.slice pv f.data.length cv) := by rw [cell_of_row _ _ _ _ _ _ b1, ← hval]; rfl
        have hcl := cloneB_any f.data pv _ cv rfl (by omega) (fun e => by
          subst e
          rcases b2.2 with ⟨e, _⟩ | ⟨g', cap, cur, e, _⟩
          · rw [hval] at e; injection e
          · rw [hval] at e; injection e with e; cases e) w2 hin
        have HB := Lib.hid hB
        clear b1 b2 b3 b4 b5 hval hc1 hc2 hin hB
        go_wp2_with fail
        refine hcl.mono ?_
        rintro e w3 ⟨v, rfl, hown, hb3⟩
        clear hcl
        go_wp2_with fail
        go_ret2
        have hB := HB.out
        exact ⟨_, by rw [HE.out]; rfl, by rw [HRR.out, HDF.out]; exact hown.mono hB.size, hB.trans (hb3.mono hB.size)⟩
end Go.Proofs.YtheoklhmlnfgjaaGreatDoor
/-
  Read of a disk, in the words of the laws.
-/
namespace Go.Proofs.YtheoklhmlnfgjaaGreatDoor
open Go.RowKit Go.Maps

theorem read_dp {n : Nat} {w0 W : World} {dd : Nat} {A : Pl} (h : DP w0 dd A W) (hA : GoodA n A) (hn : n ≤ 1000000) (nm : ByteArray) (hnm : nm.size ≤ 140737488351232) :
    Calls Tryz.prog 43 #[.pointer (some ⟨dd, 0, none⟩), .string nm] W fun e w' => ∃ p c, e = .returned (.tuple #[.slice p (readP A nm.data.toList).length c, .int .i64 (readEP A nm.data.toList)]) ∧ In8 w' p (readP A nm.data.toList) ∧ (readP A nm.data.toList).length ≤ c ∧ c ≤ maxLen ∧ (∀ a, p = some a → W.heap.size ≤ a.block) ∧ Own8 w' W.heap.size (.slice p (readP A nm.data.toList).length c) (readP A nm.data.toList) ∧ Below W.heap.size W w' := by
  obtain ⟨P, h1, h2, h3⟩ := h
  refine (read_p h1 nm hnm (hA.fitP hn).used).mono fun e w' hp => ?_
  obtain ⟨v, rfl, hown, hb⟩ := hp
  have hown2 := hown
  obtain ⟨p, c, rfl, h4, h5, hin⟩ := hown.in8n rfl
  refine ⟨p, c, rfl, hin, h4, h5, fun a ha => ?_, hown2, hb⟩
  subst ha
  exact (World.ownsRow.lt hown2 a.block rfl).1
theorem readP_len {n : Nat} {A : Pl} (hA : GoodA n A) (k : BS) : (readP A k).length ≤ 140737488351232 := by
  unfold readP
  split
  · unfold datP
    cases hx : A.files[atP A k]? with
    | none => simp
    | some y =>
      have := hA.dat y (List.mem_of_getElem? hx)
      simp only [Option.map_some, Option.getD_some]
      exact this
  · simp
end Go.Proofs.YtheoklhmlnfgjaaGreatDoor
/-
  first: steps up to the first that answers an error.
-/
namespace Go.Proofs.YtheoklhmlnfgjaaGreatDoor
open Go.RowKit Go.Maps

/-- the state behind the first k steps, all of them done -/
def stA (A : Pl) (L : List Opp) (k : Nat) : Pl := (L.take k).foldl (fun A o => (doP A o).1) A
def stE (A : Pl) (L : List Opp) (k : Nat) : Int := match L[k]? with | some o => (doP (stA A L k) o).2 | none => 0
/-- steps up to the first that answers an error: the state behind, how many answered OK, the error -/
def stepsP : Pl → List Opp → Pl × Nat × Int
  | A, [] => (A, 0, 0)
  | A, o :: L => if (doP A o).2 ≠ 0 then ((doP A o).1, 0, (doP A o).2) else ((stepsP (doP A o).1 L).1, (stepsP (doP A o).1 L).2.1 + 1, (stepsP (doP A o).1 L).2.2)
theorem stA_zero (A : Pl) (L : List Opp) : stA A L 0 = A := by simp [stA]
theorem stA_cons (A : Pl) (o : Opp) (L : List Opp) (k : Nat) : stA A (o :: L) (k + 1) = stA (doP A o).1 L k := by simp [stA]
theorem stE_cons (A : Pl) (o : Opp) (L : List Opp) (k : Nat) : stE A (o :: L) (k + 1) = stE (doP A o).1 L k := by unfold stE; rw [List.getElem?_cons_succ, stA_cons]
theorem stE_zero (A : Pl) (o : Opp) (L : List Opp) : stE A (o :: L) 0 = (doP A o).2 := by simp [stE, stA]
theorem stA_succ (A : Pl) (L : List Opp) {k : Nat} (h : k < L.length) : stA A L (k + 1) = (doP (stA A L k) L[k]).1 := by
  unfold stA
  rw [List.take_succ_eq_append_getElem h, List.foldl_append]
  rfl
theorem stE_get (A : Pl) (L : List Opp) {k : Nat} (h : k < L.length) : stE A L k = (doP (stA A L k) L[k]).2 := by
  unfold stE
  rw [List.getElem?_eq_getElem h]
theorem steps_err : ∀ (L : List Opp) (A : Pl) (k : Nat), k < L.length → (∀ j, j < k → stE A L j = 0) → stE A L k ≠ 0 → stepsP A L = (stA A L (k + 1), k, stE A L k)
  | [], _, _, h, _, _ => absurd h (by simp)
  | o :: L, A, 0, _, _, h3 => by
    rw [stE_zero] at h3
    unfold stepsP
    rw [if_pos h3, stE_zero, stA_cons, stA_zero]
  | o :: L, A, k + 1, h1, h2, h3 => by
    have h0 := h2 0 (by omega)
    rw [stE_zero] at h0
    rw [stE_cons] at h3
    have := steps_err L (doP A o).1 k (by simpa using h1) (fun j hj => by have := h2 (j + 1) (by omega); rwa [stE_cons] at this) h3
    unfold stepsP
    rw [if_neg (by simp [h0]), this, stA_cons, stE_cons]
theorem steps_ok : ∀ (L : List Opp) (A : Pl), (∀ j, j < L.length → stE A L j = 0) → stepsP A L = (stA A L L.length, L.length, 0)
  | [], A, _ => rfl
  | o :: L, A, h2 => by
    have h0 := h2 0 (by simp)
    rw [stE_zero] at h0
    have := steps_ok L (doP A o).1 (fun j hj => by have := h2 (j + 1) (by simpa using hj); rwa [stE_cons] at this)
    unfold stepsP
    rw [if_neg (by simp [h0]), this, List.length_cons, stA_cons]

set_option maxRecDepth 100000 in
set_option maxHeartbeats 4000000 in
/-- first, whatever the steps are: St k is what holds when k steps are over -/
theorem first_any (vs : List Value) (n c : Nat) (hn : vs.length = n) (hnl : n ≤ 1000) (p : Option Addr) (St : Nat → World → Prop) (er : Nat → Int)
    (hrow : ∀ k W, St k W → InV W p vs)
    (hv : ∀ k, k < n → ∃ g pre cap, vs[k]? = some (.func (.func g) pre cap) ∧ (∀ args w, (callFunc g args).run Tryz.prog w = .ok (.enter g args) w) ∧ ∀ W, St k W → Calls Tryz.prog g (pre ++ cap) W fun e w' => e = .returned (.int .i64 (er k)) ∧ St (k + 1) w')
    (w : World) (h0 : St 0 w) :
    Calls Tryz.prog 44 #[.slice p n c] w fun e w' =>
      (∃ k, k < n ∧ e = .returned (.tuple #[.int .i64 k, .int .i64 (er k)]) ∧ er k ≠ 0 ∧ (∀ j, j < k → er j = 0) ∧ St (k + 1) w') ∨ (e = .returned (.tuple #[.int .i64 n, .int .i64 0]) ∧ (∀ j, j < n → er j = 0) ∧ St n w') := by
  go_enter Tryz.func44, Tryz.ntmps44
  go_wp2_with fail
  go_loopw [9] (fun i wr => ∃ k : Nat, k ≤ n ∧ i = .int .i64 k ∧ St k wr ∧ ∀ j, j < k → er j = 0) (fun i _ => n - (intOf i).toNat)
  case atStart => exact ⟨0, Nat.zero_le _, rfl, h0, fun j hj => absurd hj (by omega)⟩
  case round =>
    obtain ⟨k, hk, rfl, hst, hz⟩ := hrel
    by_cases hlt : k < n
    · obtain ⟨b, o, rfl, hc⟩ := hrow k wr hst (by omega)
      obtain ⟨g, pre, cap, hg, hen, hcall⟩ := hv k hlt
      have hc0 := hc k (by omega)
      rw [List.getElem?_eq_getElem (by omega)] at hg
      rw [Option.some.inj hg] at hc0
      have hca := hcall wr hst
      have H := Lib.hid hz
      clear hst hz hcall hc
      go_wp2_with fail
      refine hca.mono ?_
      rintro e w2 ⟨rfl, hst2⟩
      have HS := Lib.hid hst2
      clear hst2 hca hc0
      by_cases hz : er k = 0
      · rw [hz]
        have HZ := Lib.hid hz
        clear hz
        go_wp2_with fail
        go_roundw
        case rel => exact ⟨k + 1, hlt, by go_num, HS.out, fun j hj => by
          rcases Nat.lt_or_ge j k with h | h
          · exact H.out j h
          · obtain rfl : j = k := by omega
            exact HZ.out⟩
        case measure => simp [intOf]; omega
      · obtain ⟨z, hz2⟩ : ∃ z, z = er k := ⟨_, rfl⟩
        rw [← hz2] at hz ⊢
        have q1 : (z == 0) = false := beq_eq_false_iff_ne.2 hz
        have q2 : (z != 0) = true := by simp [bne, q1]
        have HZ := Lib.hid (And.intro hz hz2)
        clear hz hz2
        go_wp2_with fail
        exact bodyPost_ret (results_tmp2 rfl _ _ _) rfl (.inl ⟨k, hlt, by rw [← HZ.out.2]; rfl, by rw [← HZ.out.2]; exact HZ.out.1, H.out, HS.out⟩)
    · obtain rfl : k = n := by omega
      have H := Lib.hid (And.intro hst hz)
      clear hst hz
      go_wp2_with fail
      exact bodyPost_ret (results_tmp2 rfl _ _ _) rfl (.inr ⟨rfl, H.out.2, H.out.1⟩)
end Go.Proofs.YtheoklhmlnfgjaaGreatDoor
/-
  A disk beside blocks that it does not touch; the steps that the log hands on.
-/
namespace Go.Proofs.YtheoklhmlnfgjaaGreatDoor
open Go.RowKit Go.Maps

/-- a disk that was DiskP at w; none of it in the blocks N; only blocks of P and new ones have turned since w -/
def DK (w : World) (P N : Nat → Prop) (dd : Nat) (A : Pl) (W : World) : Prop := (∃ P', DiskP W P' dd A ∧ ∀ g, P' g → (P g ∨ w.heap.size ≤ g) ∧ ¬ N g) ∧ (∀ g, N g → g < W.heap.size) ∧ Only P w W
section
variable {w W W' : World} {P N : Nat → Prop} {dd : Nat} {A : Pl}
theorem Only.then {Q : Nat → Prop} (h : Only P w W) (hb : Only Q W W') (hQ : ∀ g, Q g → P g ∨ w.heap.size ≤ g) : Only P w W' :=
  ⟨hb.os.trans h.os, hb.tape.trans h.tape, hb.output.trans h.output, Nat.le_trans h.size hb.size, fun k hk hn => (hb.block k (Nat.lt_of_lt_of_le hk h.size) fun e => by
    rcases hQ k e with e | e
    · exact hn e
    · omega).trans (h.block k hk hn)⟩
theorem Only.wide {Q : Nat → Prop} (h : Only P w W) (hQ : ∀ g, P g → Q g) : Only Q w W := ⟨h.os, h.tape, h.output, h.size, fun k hk hn => h.block k hk fun e => hn (hQ k e)⟩
theorem Below.only (hb : Below W.heap.size W W') : Only P W W' := ⟨hb.os, hb.tape, hb.output, hb.size, fun k hk _ => hb.block k hk⟩
theorem DK.begin (h : DiskP w P dd A) (hb : Below w.heap.size w W) (hN : ∀ g, N g → g < W.heap.size ∧ (w.heap.size ≤ g ∨ ¬ P g)) : DK w P N dd A W := by
  refine ⟨⟨_, h.shrink.below hb, fun g hg => ⟨.inl hg.1, fun e => ?_⟩⟩, fun g hg => (hN g hg).1, Below.only hb⟩
  rcases (hN g e).2 with e2 | e2
  · have := hg.2; omega
  · exact e2 hg.1
theorem DK.add (h : DK w P N dd A W) (hb : Below W.heap.size W W') (N' : Nat → Prop) (hN : ∀ g, N' g → N g ∨ (W.heap.size ≤ g ∧ g < W'.heap.size)) : DK w P N' dd A W' := by
  obtain ⟨⟨P', h1, h2⟩, h3, h4⟩ := h
  refine ⟨⟨_, h1.shrink.below hb, fun g hg => ⟨(h2 g hg.1).1, fun e => ?_⟩⟩, fun g hg => ?_, h4.then (Below.only (P := fun _ => False) hb) fun g hg => hg.elim⟩
  · rcases hN g e with e | e
    · exact (h2 g hg.1).2 e
    · have := hg.2; omega
  · rcases hN g hg with e | e
    · exact Nat.lt_of_lt_of_le (h3 g e) hb.size
    · exact e.2
theorem DK.below (h : DK w P N dd A W) (hb : Below W.heap.size W W') : DK w P N dd A W' := h.add hb N fun _ hg => .inl hg
theorem DK.step {o : Opp} {e : Ending} {P' : Nat → Prop} (h2 : ∀ g, P' g → (P g ∨ w.heap.size ≤ g) ∧ ¬ N g) (h3 : ∀ g, N g → g < W.heap.size) (h4 : Only P w W) (hp : StepPost W P' dd A o e W') :
    DK w P N dd (doP A o).1 W' ∧ ∀ g, N g → W'.heap[g]? = W.heap[g]? := by
  obtain ⟨_, ⟨P2, g1, g2⟩, ho⟩ := hp
  refine ⟨⟨⟨P2, g1, fun g hg => ?_⟩, fun g hg => Nat.lt_of_lt_of_le (h3 g hg) ho.size, h4.then ho fun g hg => (h2 g hg).1⟩, fun g hg => ho.block g (h3 g hg) fun e => (h2 g e).2 hg⟩
  rcases g2 g hg with e | e
  · exact h2 g e
  · exact ⟨.inr (Nat.le_trans h4.size e), fun e2 => by have := h3 g e2; omega⟩
/-- a call of a step -/
theorem DK.call {f : FuncId} {args : Array Value} {o : Opp} (h : DK w P N dd A W) (hc : ∀ P', DiskP W P' dd A → Calls Tryz.prog f args W (StepPost W P' dd A o)) :
    Calls Tryz.prog f args W fun e W' => e = .returned (.int .i64 (doP A o).2) ∧ DK w P N dd (doP A o).1 W' ∧ ∀ g, N g → W'.heap[g]? = W.heap[g]? := by
  obtain ⟨⟨P', h1, h2⟩, h3, h4⟩ := h
  exact (hc P' h1).mono fun e W' hp => ⟨hp.1, DK.step h2 h3 h4 hp⟩
end

/-- the names of the log's files -/
def logN : BS := [108, 111, 103]
def newN : BS := [108, 111, 103, 46, 110, 101, 119]

section
variable {W : World} {P : Nat → Prop} {dd bd lb bb : Nat} {A : Pl} {cv : Value}
set_option maxRecDepth 100000
theorem open1_any (h : DiskP W P dd A) (hc : W.cell? ⟨bd, 0, none⟩ = some (.pointer (some ⟨dd, 0, none⟩))) (hfit : FitP A) : Calls Tryz.prog 45 #[.pointer (some ⟨bd, 0, none⟩)] W (StepPost W P dd A (.create logN)) := by
  have hcall := create_p h ⟨#[108, 111, 103]⟩ (by decide) hfit
  go_enter Tryz.func45, Tryz.ntmps45
  go_wp2_with fail
  refine hcall.mono ?_
  rintro e w2 ⟨rfl, hr⟩
  go_wp2_with fail
  go_ret
  exact ⟨rfl, hr⟩
theorem open2_any (h : DiskP W P dd A) (hc : W.cell? ⟨bd, 0, none⟩ = some (.pointer (some ⟨dd, 0, none⟩))) (hfit : FitP A) : Calls Tryz.prog 47 #[.pointer (some ⟨bd, 0, none⟩)] W (StepPost W P dd A (.sync logN)) := by
  have hcall := sync_p h ⟨#[108, 111, 103]⟩ (by decide) hfit
  go_enter Tryz.func47, Tryz.ntmps47
  go_wp2_with fail
  refine hcall.mono ?_
  rintro e w2 ⟨rfl, hr⟩
  go_wp2_with fail
  go_ret
  exact ⟨rfl, hr⟩
theorem rew1_any (h : DiskP W P dd A) (hc : W.cell? ⟨bd, 0, none⟩ = some (.pointer (some ⟨lb, 0, none⟩))) (hl : W.cell? ⟨lb, 0, none⟩ = some (.pointer (some ⟨dd, 0, none⟩))) (hfit : FitP A) : Calls Tryz.prog 59 #[.pointer (some ⟨bd, 0, none⟩)] W (StepPost W P dd A (.create newN)) := by
  have hcall := create_p h ⟨#[108, 111, 103, 46, 110, 101, 119]⟩ (by decide) hfit
  go_enter Tryz.func59, Tryz.ntmps59
  go_wp2_with fail
  refine hcall.mono ?_
  rintro e w2 ⟨rfl, hr⟩
  go_wp2_with fail
  go_ret
  exact ⟨rfl, hr⟩
theorem rew2_any (h : DiskP W P dd A) (hc : W.cell? ⟨bd, 0, none⟩ = some (.pointer (some ⟨lb, 0, none⟩))) (hl : W.cell? ⟨lb, 0, none⟩ = some (.pointer (some ⟨dd, 0, none⟩))) (p : Option Addr) (n c : Nat) (l : BS) (hb : W.cell? ⟨bb, 0, none⟩ = some (.slice p n c)) (hn : l.length = n) (hnl : n ≤ 140737488351232) (hin : In8 W p l) (hfit : FitP A) : Calls Tryz.prog 60 #[.pointer (some ⟨bd, 0, none⟩), .pointer (some ⟨bb, 0, none⟩)] W (StepPost W P dd A (.append newN l)) := by
  have hb2 : Below W.heap.size W W.drew := (Below.refl _ W).drew
  have HC := Lib.hid (show Calls Tryz.prog 61 #[.pointer (some ⟨dd, 0, none⟩), .string ⟨#[108, 111, 103, 46, 110, 101, 119]⟩, .slice p n c] W.drew fun e w' => e = .returned (.int .i64 (doP A (.append newN l)).2) ∧ StepPost W P dd A (.append newN l) e w' from
    (append_p (h.below hb2) ⟨#[108, 111, 103, 46, 110, 101, 119]⟩ (by decide) l p n c hn hnl (hin.below hb2) hfit).mono fun _ _ hp => ⟨hp.1, StepPost.from hb2 hp⟩)
  clear h hin hn hnl hfit hb2
  go_enter Tryz.func60, Tryz.ntmps60
  go_wp2_with fail
  go_region_with (go_at_call 61; with_reducible refine HC.out.mono ?_; rintro e w2 ⟨rfl, hr⟩; have HR := Lib.hid hr; clear hr)
  all_goals
    go_wp2_with fail
    go_ret
    exact HR.out
theorem rew3_any (h : DiskP W P dd A) (hc : W.cell? ⟨bd, 0, none⟩ = some (.pointer (some ⟨lb, 0, none⟩))) (hl : W.cell? ⟨lb, 0, none⟩ = some (.pointer (some ⟨dd, 0, none⟩))) (hfit : FitP A) : Calls Tryz.prog 62 #[.pointer (some ⟨bd, 0, none⟩)] W (StepPost W P dd A (.sync newN)) := by
  have hcall := sync_p h ⟨#[108, 111, 103, 46, 110, 101, 119]⟩ (by decide) hfit
  go_enter Tryz.func62, Tryz.ntmps62
  go_wp2_with fail
  refine hcall.mono ?_
  rintro e w2 ⟨rfl, hr⟩
  go_wp2_with fail
  go_ret
  exact ⟨rfl, hr⟩
theorem rew4_any (h : DiskP W P dd A) (hc : W.cell? ⟨bd, 0, none⟩ = some (.pointer (some ⟨lb, 0, none⟩))) (hl : W.cell? ⟨lb, 0, none⟩ = some (.pointer (some ⟨dd, 0, none⟩))) (hfit : FitP A) : Calls Tryz.prog 63 #[.pointer (some ⟨bd, 0, none⟩)] W (StepPost W P dd A (.rename newN logN)) := by
  have hcall := rename_p h ⟨#[108, 111, 103, 46, 110, 101, 119]⟩ ⟨#[108, 111, 103]⟩ (by decide) (by decide) hfit
  go_enter Tryz.func63, Tryz.ntmps63
  go_wp2_with fail
  refine hcall.mono ?_
  rintro e w2 ⟨rfl, hr⟩
  go_wp2_with fail
  go_ret
  exact ⟨rfl, hr⟩
end
end Go.Proofs.YtheoklhmlnfgjaaGreatDoor
/-
  The log, as plain functions over the plain disk.
-/
namespace Go.Proofs.YtheoklhmlnfgjaaGreatDoor

/-- what is written of records, the i-th bears the number i; the first error -/
def encB : List Rcd → Nat → BS
  | [], _ => []
  | x :: L, i => encOf (i : Int) x.op x.no x.ident ++ encB L (i + 1)
def encZ : List Rcd → Nat → Int
  | [], _ => 0
  | x :: L, i => if encErr (i : Int) x.op x.no x.ident.length ≠ 0 then encErr (i : Int) x.op x.no x.ident.length else encZ L (i + 1)
theorem encB_app : ∀ (L M : List Rcd) (i : Nat), encB (L ++ M) i = encB L i ++ encB M (i + L.length)
  | [], M, i => by simp [encB]
  | x :: L, M, i => by
    rw [List.cons_append]
    unfold encB
    rw [encB_app L M (i + 1), List.append_assoc, List.length_cons, show i + 1 + L.length = i + (L.length + 1) by omega]
    cases M <;> rfl
theorem encZ_app : ∀ (L M : List Rcd) (i : Nat), encZ L i = 0 → encZ (L ++ M) i = encZ M (i + L.length)
  | [], M, i, _ => by simp
  | x :: L, M, i, h => by
    rw [List.cons_append]
    unfold encZ at h ⊢
    by_cases h0 : encErr (i : Int) x.op x.no x.ident.length ≠ 0
    · rw [if_pos h0] at h; exact absurd h h0
    · rw [if_neg h0] at h ⊢
      rw [encZ_app L M (i + 1) h, List.length_cons, show i + 1 + L.length = i + (L.length + 1) by omega]
      cases M <;> rfl
theorem encZ_bad : ∀ (L M : List Rcd) (i : Nat), encZ L i ≠ 0 → encZ (L ++ M) i = encZ L i
  | [], M, i, h => absurd rfl h
  | x :: L, M, i, h => by
    rw [List.cons_append]
    unfold encZ at h ⊢
    by_cases h0 : encErr (i : Int) x.op x.no x.ident.length ≠ 0
    · rw [if_pos h0, if_pos h0]
    · rw [if_neg h0] at h
      rw [if_neg h0, if_neg h0]
      exact encZ_bad L M (i + 1) h
theorem encB_snoc {L : List Rcd} {k : Nat} (h : k < L.length) : encB (L.take (k + 1)) 0 = encB (L.take k) 0 ++ encOf (k : Int) L[k].op L[k].no L[k].ident := by
  rw [List.take_succ_eq_append_getElem h, encB_app, List.length_take, Nat.min_eq_left (by omega), Nat.zero_add]
  simp [encB]
theorem encZ_snoc {L : List Rcd} {k : Nat} (h : k < L.length) (h0 : encZ (L.take k) 0 = 0) : encZ (L.take (k + 1)) 0 = encErr (k : Int) L[k].op L[k].no L[k].ident.length := by
  rw [List.take_succ_eq_append_getElem h, encZ_app _ _ _ h0, List.length_take, Nat.min_eq_left (by omega), Nat.zero_add]
  simp only [encZ]
  split
  · rfl
  · rename_i h1; simpa using (Classical.not_not.1 h1).symm
theorem encZ_at {L : List Rcd} {k : Nat} (h : k < L.length) (h0 : encZ (L.take k) 0 = 0) (h1 : encErr (k : Int) L[k].op L[k].no L[k].ident.length ≠ 0) : encZ L 0 = encErr (k : Int) L[k].op L[k].no L[k].ident.length := by
  have := encZ_snoc h h0
  rw [← this] at h1 ⊢
  rw [← encZ_bad (L.take (k + 1)) (L.drop (k + 1)) 0 h1, List.take_append_drop]
theorem encErr_len {s o n : Int} {k : Nat} (h : encErr s o n k = 0) : k ≤ 4096 := by
  unfold encErr at h
  repeat' split at h
  all_goals first | omega | (exfalso; revert h; decide) | skip
theorem encOf_length (s o n : Int) (id : BS) : (encOf s o n id).length ≤ 4111 := by
  unfold encOf
  split
  · rename_i h
    have := encErr_len h
    rw [encAll_len]
    omega
  · simp
theorem encB_length : ∀ (L : List Rcd) (i : Nat), (encB L i).length ≤ 4111 * L.length
  | [], _ => by simp [encB]
  | x :: L, i => by
    unfold encB
    rw [List.length_append, List.length_cons]
    have := encOf_length (i : Int) x.op x.no x.ident
    have := encB_length L (i + 1)
    omega

/-- another list of records: the disk, the count, the answer -/
def rewriteP (A : Pl) (n : Int) (L : List Rcd) : Pl × Int × Int :=
  if encZ L 0 ≠ 0 then (A, n, encZ L 0)
  else
    let s := stepsP A [.create newN, .append newN (encB L 0), .sync newN, .rename newN logN]
    if s.2.1 = 4 then ((doP s.1 .names).1, (L.length : Int), (doP s.1 .names).2)
    else if s.2.1 = 0 then (s.1, n, s.2.2) else ((doP s.1 (.remove newN)).1, n, s.2.2)
/-- one record more -/
def addP (A : Pl) (n op no : Int) (id : BS) : Pl × Int × Int :=
  if encErr n op no id.length ≠ 0 then (A, n, encErr n op no id.length)
  else if (doP A (.append logN (encOf n op no id))).2 ≠ 0 then ((doP A (.append logN (encOf n op no id))).1, n, (doP A (.append logN (encOf n op no id))).2)
  else ((doP (doP A (.append logN (encOf n op no id))).1 (.sync logN)).1, n + 1, (doP (doP A (.append logN (encOf n op no id))).1 (.sync logN)).2)
/-- a log that was begun and not ended is taken away -/
def sweepP (A : Pl) : Pl × Int := if newN ∈ listP A then doP A (.remove newN) else (A, 0)
/-- the log of a disk: the disk behind, the records, the answer -/
def openP (A : Pl) : Pl × List Rcd × Int :=
  let s := sweepP A
  if s.2 ≠ 0 then (s.1, [], s.2)
  else if readEP s.1 logN = 90 then
    let t := stepsP s.1 [.create logN, .sync logN, .names]
    (t.1, [], t.2.2)
  else if readEP s.1 logN ≠ 0 then (s.1, [], readEP s.1 logN)
  else
    let b := readP s.1 logN
    if repN b < b.length then
      let r := rewriteP s.1 0 (repR b)
      if r.2.2 ≠ 0 then (r.1, [], r.2.2) else (r.1, repR b, 0)
    else (s.1, repR b, 0)

/-- no file is longer than 2^30 bytes -/
def DatS (A : Pl) : Prop := ∀ f ∈ A.files, f.1.length ≤ 1073741824
theorem datS_do {A : Pl} (hd : DatS A) (hr : A.room ≤ 1073741824) (o : Opp) : DatS (doP A o).1 := by
  have ht := tick_rest A
  have e0 : DatS (tickP A) := by unfold DatS; rw [ht.2.2.1]; exact hd
  have e1 : ∀ c, DatS (chgP A c) := fun c => by show ∀ f ∈ (tickP A).files, _; rw [ht.2.2.1]; exact hd
  cases o with
  | create k =>
    rw [doP_create]
    (repeat' split) <;> first | exact e0 | skip
    intro f hf
    rcases List.mem_append.1 hf with e | e
    · exact hd f e
    · rw [List.mem_singleton.1 e]; exact Nat.zero_le _
  | append k d =>
    rw [doP_append]
    split
    · exact e0
    · rename_i h1
      split
      · exact e0
      · rename_i h2
        obtain ⟨_, _, g3⟩ := onP_zero (by simpa using h1)
        have hu : lenF A.files (atP A k) ≤ usedP A := lenF_used g3
        intro f hf
        have hf : f ∈ A.files.modify (atP A k) fun x => (x.1 ++ d, x.2) := hf
        obtain ⟨i, hi, e⟩ := List.getElem_of_mem hf
        rw [List.length_modify] at hi
        rw [List.getElem_modify] at e
        split at e
        · rename_i e2
          subst e2
          have : lenF A.files (atP A k) = A.files[atP A k].1.length := by unfold lenF; rw [List.getElem?_eq_getElem hi]; rfl
          rw [← e]
          simp only [List.length_append]
          rcases Nat.eq_zero_or_pos d.length with h0 | h0
          · have := hd _ (List.getElem_mem hi); omega
          · have : ¬ A.room < usedP A + d.length := fun e => h2 ⟨h0, e⟩
            omega
        · rw [← e]; exact hd _ (List.getElem_mem hi)
  | sync k =>
    rw [doP_sync]
    split
    · exact e0
    · exact modify_all (P := fun x : BS × Nat => x.1.length ≤ 1073741824) (u := fun x : BS × Nat => (x.1, x.1.length)) (fun x hx => hx) _ _ hd
  | names =>
    rw [doP_names]
    split
    · exact e0
    · exact e0
  | rename a b =>
    rw [doP_rename]
    (repeat' split) <;> first | exact e0 | exact e1 _
  | remove k =>
    rw [doP_remove]
    (repeat' split) <;> first | exact e0 | exact e1 _
structure GoodS (n : Nat) (A : Pl) : Prop where
  good : GoodA n A
  dat : DatS A
theorem GoodS.step {n : Nat} {A : Pl} (h : GoodS n A) (o : Opp) : GoodS (n + 1) (doP A o).1 := ⟨h.good.step o, datS_do h.dat h.good.fit.room o⟩
theorem GoodA.more {n m : Nat} {A : Pl} (h : GoodA n A) (hm : n ≤ m) : GoodA m A :=
  ⟨h.inv, ⟨by have := h.fit.steps; omega, by have := h.fit.pend; omega, by have := h.fit.now; omega, by have := h.fit.safe; omega, by have := h.fit.files; omega, h.fit.fails, h.fit.used, h.fit.room⟩, h.dat⟩
theorem GoodS.more {n m : Nat} {A : Pl} (h : GoodS n A) (hm : n ≤ m) : GoodS m A := ⟨h.good.more hm, h.dat⟩
theorem GoodS.fitP {n : Nat} {A : Pl} (h : GoodS n A) (hn : n ≤ 1000000) : FitP A := h.good.fitP hn
theorem GoodS.st {n : Nat} {A : Pl} (h : GoodS n A) (L : List Opp) : ∀ k, k ≤ L.length → GoodS (n + k) (stA A L k)
  | 0, _ => by rw [stA_zero]; exact h
  | k + 1, hk => by
    rw [stA_succ A L (by omega)]
    exact (GoodS.st h L k (by omega)).step _
theorem GoodS.steps {n : Nat} : ∀ (L : List Opp) {A : Pl} (_ : GoodS n A), GoodS (n + L.length) (stepsP A L).1
  | [], A, h => by exact h
  | o :: L, A, h => by
    unfold stepsP
    split
    · exact (h.step o).more (by simp only [List.length_cons]; omega)
    · have := (GoodS.steps (n := n + 1) L (h.step o)).more (m := n + (o :: L).length) (by simp only [List.length_cons]; omega)
      exact this
theorem GoodS.readP {n : Nat} {A : Pl} (h : GoodS n A) (k : BS) : (readP A k).length ≤ 1073741824 := by
  unfold Go.Proofs.YtheoklhmlnfgjaaGreatDoor.readP
  split
  · unfold datP
    cases hx : A.files[atP A k]? with
    | none => simp
    | some y =>
      simp only [Option.map_some, Option.getD_some]
      exact h.dat y (List.mem_of_getElem? hx)
  · simp
theorem GoodS.sweep {n : Nat} {A : Pl} (h : GoodS n A) : GoodS (n + 1) (sweepP A).1 := by
  unfold sweepP
  split
  · exact h.step _
  · exact h.more (by omega)
theorem GoodS.rewrite {n : Nat} {A : Pl} (h : GoodS n A) (c : Int) (L : List Rcd) : GoodS (n + 5) (rewriteP A c L).1 := by
  have hs := GoodS.steps [.create newN, .append newN (encB L 0), .sync newN, .rename newN logN] h
  unfold rewriteP
  split
  · exact h.more (by omega)
  · simp only
    split
    · exact hs.step _
    · split
      · exact hs.more (by simp only [List.length_cons, List.length_nil]; omega)
      · exact hs.step _
theorem GoodS.add {n : Nat} {A : Pl} (h : GoodS n A) (c op no : Int) (id : BS) : GoodS (n + 2) (addP A c op no id).1 := by
  unfold addP
  split
  · exact h.more (by omega)
  · split
    · exact (h.step _).more (by omega)
    · exact (h.step _).step _
theorem GoodS.open {n : Nat} {A : Pl} (h : GoodS n A) : GoodS (n + 6) (openP A).1 := by
  have hs := h.sweep
  unfold openP
  simp only
  split
  · exact hs.more (by omega)
  · split
    · exact (GoodS.steps [.create logN, .sync logN, .names] hs).more (by simp only [List.length_cons, List.length_nil]; omega)
    · split
      · exact hs.more (by omega)
      · split
        · split
          · exact (hs.rewrite 0 _)
          · exact (hs.rewrite 0 _)
        · exact hs.more (by omega)
end Go.Proofs.YtheoklhmlnfgjaaGreatDoor
/-
  A store beside a disk; Steps of a disk.
-/
namespace Go.Proofs.YtheoklhmlnfgjaaGreatDoor
open Go.RowKit Go.Maps
set_option linter.unusedVariables false

/-- a store into a block that is none of the disk's -/
theorem DiskAt.elseAt {w w' : World} {P : Nat → Prop} {dd x : Nat} {S : DiskC} {cs : Array Value} {T : TypeId} {fr : Nat × Nat} (h : DiskAt w P dd S) (hx : w.heap[x]? = some (.cells cs T fr)) (hP : ¬ P x) (h1 : 117 ≠ T) (h2 : 9 ≠ T)
    (h0 : ∀ z, cs[0]? ≠ some (.int .i64 z)) (hE : Else w w' x) : DiskAt w' P dd S where
  blk := (hE _ (fun e => hP (e ▸ h.inP.1))).trans h.blk
  now := h.now.kept (hE _ (fun e => hP (e ▸ h.inP.2.1)))
  safe := h.safe.kept (hE _ (fun e => hP (e ▸ h.inP.2.2.1)))
  ne := h.ne
  row := rowElse h.row hE (fun e => hP (h.inP.2.2.2 x e))
  chg := fun i v c hv hc => ⟨chgElse (h.chg i v c hv hc).1 hE hx h1 h2, (h.chg i v c hv hc).2⟩
  fails := ⟨h.fails.1, invElse h.fails.2.1 hE (fun a ha hn e => by
    have hn : 0 < S.fails.length := by simpa using hn
    obtain ⟨b, o, e2, hc⟩ := h.fails.2.1 (by simpa using hn)
    have ho : o = 0 := by
      have e3 : S.fq.map (fun b => (⟨b, 0, none⟩ : Addr)) = some ⟨b, o, none⟩ := e2
      cases hq : S.fq with
      | none => rw [hq] at e3; cases e3
      | some b' =>
        rw [hq] at e3
        simp only [Option.map_some, Option.some.injEq, Addr.mk.injEq] at e3
        exact e3.2.1.symm
    have ha2 : a = ⟨b, o, none⟩ := Option.some.inj (ha.symm.trans e2)
    subst ha2
    have e : b = x := e
    subst e
    have := hc 0 (by simpa using hn)
    rw [List.getElem_map, ho, cell_of_row _ _ _ _ _ _ hx] at this
    exact h0 _ this), h.fails.2.2⟩
  files := fun i f hf => by
    obtain ⟨a1, a2, a3, a4, a5⟩ := h.files i f hf
    exact ⟨(hE _ (fun e => hP (e ▸ a4))).trans a1, rowElse a2 hE (fun e => hP (a3 x e)), a3, a4, a5⟩
  apart := h.apart
  nowF := h.nowF
  safeF := h.safeF
  inP := h.inP
theorem steps_dp {w0 W : World} {dd : Nat} {A : Pl} (h : DP w0 dd A W) :
    Calls Tryz.prog 31 #[.pointer (some ⟨dd, 0, none⟩)] W fun e w' => e = .returned (.int .i64 (A.steps : Int)) ∧ Below W.heap.size W w' := by
  obtain ⟨P, ⟨S, h1, he⟩, h2, h3⟩ := h
  rw [← he]
  exact steps_any h1
end Go.Proofs.YtheoklhmlnfgjaaGreatDoor
/-
  Add: one record more.
-/
namespace Go.Proofs.YtheoklhmlnfgjaaGreatDoor
open Go.RowKit Go.Maps
set_option linter.unusedVariables false

/-- a log: its disk, its count -/
def LogBox (W : World) (lb dd : Nat) (n : Int) : Prop := W.heap[lb]? = some (.cells #[.pointer (some ⟨dd, 0, none⟩), .int .i64 n] 93 (0, 0))
/-- what a call of the log's leaves -/
def LogPost (w : World) (P : Nat → Prop) (lb dd : Nat) (A : Pl) (n : Int) (w' : World) : Prop :=
  (∃ P', DiskP w' P' dd A ∧ ∀ g, P' g → P g ∨ w.heap.size ≤ g) ∧ LogBox w' lb dd n ∧ Only (fun g => P g ∨ g = lb) w w'
section
variable {w W W' : World} {P Q N : Nat → Prop} {dd lb : Nat} {A : Pl} {n : Int}
theorem DK.wide (h : DK w P N dd A W) (hQ : ∀ g, P g → Q g) : DK w Q N dd A W := by
  obtain ⟨⟨P', h1, h2⟩, h3, h4⟩ := h
  exact ⟨⟨P', h1, fun g hg => ⟨(h2 g hg).1.imp (hQ g) id, (h2 g hg).2⟩⟩, h3, h4.wide hQ⟩
theorem LogBox.below (h : LogBox W lb dd n) (hb : Below W.heap.size W W') : LogBox W' lb dd n := Below.heap hb h
theorem LogBox.lt (h : LogBox W lb dd n) : lb < W.heap.size := lt_of_heap h
theorem LogBox.same (h : LogBox W lb dd n) (hs : W'.heap[lb]? = W.heap[lb]?) : LogBox W' lb dd n := hs.trans h
theorem LogBox.c0 (h : LogBox W lb dd n) : W.cell? ⟨lb, 0, none⟩ = some (.pointer (some ⟨dd, 0, none⟩)) := by rw [cell_of_row _ _ _ _ _ _ h]; rfl
theorem LogBox.c1 (h : LogBox W lb dd n) : W.cell? ⟨lb, 1, none⟩ = some (.int .i64 n) := by rw [cell_of_row _ _ _ _ _ _ h]; rfl
theorem LogBox.fr (h : LogBox W lb dd n) (i : Nat) : W.frozen? ⟨lb, i, none⟩ = false := frozen_of_row W lb i _ _ h
theorem LogBox.set (h : LogBox W lb dd n) (m : Int) : LogBox (W.setCell ⟨lb, 1, none⟩ (.int .i64 m)) lb dd m := heap_setCell_same _ _ _ _ _ _ h
/-- the log's count is stored -/
theorem DK.count (h : DK w Q N dd A W) (hl : LogBox W lb dd n) (hN : N lb) (hQ : Q lb) (m : Int) : DK w Q N dd A (W.setCell ⟨lb, 1, none⟩ (.int .i64 m)) := by
  obtain ⟨⟨P', ⟨S, h1, he⟩, h2⟩, h3, h4⟩ := h
  refine ⟨⟨P', ⟨S, h1.elseAt hl (fun e => (h2 lb e).2 hN) (by decide) (by decide) (fun z e => by cases e) (fun g hg => Below.heap_setCell _ _ _ _ hg), he⟩, h2⟩, fun g hg => by rw [World.size_setCell]; exact h3 g hg, h4.setCell hQ _⟩
theorem DK.post (h : DK w (fun g => P g ∨ g = lb) N dd A W) (hN : N lb) (hl : LogBox W lb dd n) : LogPost w P lb dd A n W := by
  obtain ⟨⟨P', h1, h2⟩, h3, h4⟩ := h
  refine ⟨⟨P', h1, fun g hg => ?_⟩, hl, h4⟩
  obtain ⟨e, hn⟩ := h2 g hg
  rcases e with (e | e) | e
  · exact .inl e
  · subst e; exact absurd hN hn
  · exact .inr e
end

set_option maxRecDepth 100000 in
set_option maxHeartbeats 4000000 in
theorem add_p {w : World} {P : Nat → Prop} {lb dd g : Nat} {A : Pl} {n : Int} (h : DiskP w P dd A) (hl : LogBox w lb dd n) (hlb : ¬ P lb) (hA : GoodS g A) (hg : g ≤ 999000) (hn0 : 0 ≤ n) (hn1 : n ≤ 1000000000000) (op no : Int) (id : ByteArray) :
    Calls Tryz.prog 26 #[.pointer (some ⟨lb, 0, none⟩), .int .i64 op, .int .i64 no, .string id] w fun e w' => e = .returned (.int .i64 (addP A n op no id.data.toList).2.2) ∧ LogPost w P lb dd (addP A n op no id.data.toList).1 (addP A n op no id.data.toList).2.1 w' := by
  have hD : DK w (fun g => P g ∨ g = lb) (fun g => g = lb) dd A w := (DK.begin h (Below.refl _ w) (fun g hg => ⟨by rw [hg]; exact hl.lt, .inr (by rw [hg]; exact hlb)⟩)).wide fun _ h => .inl h
  have c0 := hl.c0
  have c1 := hl.c1
  have HH := Lib.hid (And.intro hD hl)
  clear hD h hl
  go_enter Tryz.func26, Tryz.ntmps26
  go_wp2_with fail
  refine (recEnc_any n op no id w).mono ?_
  rintro e w1 ⟨v, rfl, hown, hb1⟩
  have hz1 : encErr n op no id.size = encErr n op no id.data.toList.length := by rw [size_list]
  obtain ⟨z, hz⟩ : ∃ z, z = encErr n op no id.size := ⟨_, rfl⟩
  rw [← hz]
  rw [← hz] at hz1
  by_cases h0 : z = 0
  · subst h0
    obtain ⟨l, hl⟩ : ∃ l, l = encOf n op no id.data.toList := ⟨_, rfl⟩
    have hll : l.length ≤ 4111 := by rw [hl]; exact encOf_length _ _ _ _
    rw [← hl] at hown
    obtain ⟨p, c, rfl, hlc, hcm, hin⟩ := hown.in8n rfl
    have hD1 := HH.out.1.below hb1
    have hb1' := HH.out.2.below hb1
    have c0 := hb1'.c0
    have c1 := hb1'.c1
    have hap := hD1.call (fun P' h => append_p h ⟨#[108, 111, 103]⟩ (by decide) l p _ c rfl (by omega) hin (hA.fitP (by omega)))
    have hadd : addP A n op no id.data.toList = if (doP A (.append logN l)).2 ≠ 0 then ((doP A (.append logN l)).1, n, (doP A (.append logN l)).2) else ((doP (doP A (.append logN l)).1 (.sync logN)).1, n + 1, (doP (doP A (.append logN l)).1 (.sync logN)).2) := by
      unfold addP
      rw [← hz1, if_neg (by simp), ← hl]
    rw [show (⟨#[108, 111, 103]⟩ : ByteArray).data.toList = logN from rfl] at hap
    have HL := Lib.hid hb1'
    have HADD := Lib.hid hadd
    clear hz hz1 hl hown hin hb1 hD1 hb1' hadd hll
    go_wp2_with fail
    refine hap.mono ?_
    rintro e w2 ⟨rfl, hD2, hs2⟩
    clear hap c0 c1
    obtain ⟨z2, hz2⟩ : ∃ z, z = (doP A (.append logN l)).2 := ⟨_, rfl⟩
    rw [← hz2]
    by_cases h2 : z2 = 0
    · subst h2
      have hl2 := HL.out.same (hs2 lb rfl)
      have c0 := hl2.c0
      have c1 := hl2.c1
      have cf := hl2.fr 1
      have hD3 := hD2.count hl2 rfl (.inr rfl) (n + 1)
      have hl3 := hl2.set (n + 1)
      have hA1 := hA.step (.append logN l)
      have hwr : wrap64 (n + 1) = n + 1 := IntWalk.wrap64_in _ ⟨by omega, by omega⟩
      have d0 := hl3.c0
      have hsy := hD3.call (fun P' h => sync_p h ⟨#[108, 111, 103]⟩ (by decide) (hA1.fitP (by omega)))
      rw [show (⟨#[108, 111, 103]⟩ : ByteArray).data.toList = logN from rfl] at hsy
      have HW := Lib.hid hl3
      have HA := Lib.hid (show addP A n op no id.data.toList = ((doP (doP A (.append logN l)).1 (.sync logN)).1, n + 1, (doP (doP A (.append logN l)).1 (.sync logN)).2) by rw [HADD.out, if_neg (by rw [← hz2]; simp)])
      clear hz2 hD2 hs2 hl2 hD3 hl3 hA1
      go_wp2_with fail
      refine hsy.mono ?_
      rintro e w4 ⟨rfl, hD4, hs4⟩
      clear hsy
      have HP := Lib.hid (hD4.post rfl (HW.out.same (hs4 lb rfl)))
      clear hD4 hs4
      go_wp2_with fail
      go_ret
      rw [HA.out]
      exact ⟨rfl, HP.out⟩
    · have q1 : (z2 == 0) = false := beq_eq_false_iff_ne.2 h2
      have q2 : (z2 != 0) = true := by simp [bne, q1]
      have HP := Lib.hid (hD2.post rfl (HL.out.same (hs2 lb rfl)))
      have HA := Lib.hid (show addP A n op no id.data.toList = ((doP A (.append logN l)).1, n, z2) by rw [HADD.out, if_pos (by rw [← hz2]; exact h2), hz2])
      clear hz2 hD2 hs2 h2
      go_wp2_with fail
      go_ret
      rw [HA.out]
      exact ⟨rfl, HP.out⟩
  · have q1 : (z == 0) = false := beq_eq_false_iff_ne.2 h0
    have q2 : (z != 0) = true := by simp [bne, q1]
    have HP := Lib.hid ((HH.out.1.below hb1).post rfl (HH.out.2.below hb1))
    have HA := Lib.hid (show addP A n op no id.data.toList = (A, n, z) by unfold addP; rw [← hz1, if_pos h0])
    clear hz hz1 hown hb1 h0
    go_wp2_with fail
    go_ret
    rw [HA.out]
    exact ⟨rfl, HP.out⟩

set_option maxHeartbeats 400000 in
theorem count_any {W : World} {lb dd : Nat} {n : Int} (h : LogBox W lb dd n) :
    Calls Tryz.prog 27 #[.pointer (some ⟨lb, 0, none⟩)] W fun e w' => e = .returned (.int .i64 n) ∧ w' = W := by
  have c1 := h.c1
  clear h
  go_enter Tryz.func27, Tryz.ntmps27
  go_wp2_with fail
  go_ret
  exact ⟨rfl, rfl⟩
end Go.Proofs.YtheoklhmlnfgjaaGreatDoor
/-
  Rewrite: the log with other records.
-/
namespace Go.Proofs.YtheoklhmlnfgjaaGreatDoor
open Go.RowKit Go.Maps
set_option linter.unusedVariables false

theorem own8_in {w : World} {base n c : Nat} {p : Option Addr} {l : BS} (h : Own8 w base (.slice p n c) l) : In8 w p l := by
  obtain ⟨p', c', e, _, _, h⟩ := h.in8
  injection e with e1 e2 e3
  subst e1
  exact h
theorem steps_len : ∀ (L : List Opp) (A : Pl), (stepsP A L).2.1 ≤ L.length ∧ ((stepsP A L).2.1 = L.length → (stepsP A L).2.2 = 0)
  | [], A => ⟨Nat.le_refl _, fun _ => rfl⟩
  | o :: L, A => by
    unfold stepsP
    split
    · exact ⟨Nat.zero_le _, fun h => absurd h (by simp)⟩
    · have := steps_len L (doP A o).1
      simp only [List.length_cons]
      exact ⟨by omega, fun h => this.2 (by omega)⟩
/-- first, over a disk -/
theorem first_dk {w W : World} {Q N : Nat → Prop} {dd rb n c : Nat} {A : Pl} (ops : List Opp) (vs : List Value) (cs : Array Value) (T : TypeId) (hn : ops.length = n) (hvs : vs.length = n) (hnl : n ≤ 1000) (hD : DK w Q N dd A W) (hNr : N rb) (hrow : W.heap[rb]? = some (.cells cs T (0, 0))) (hcs : cs.toList = vs)
    (hv : ∀ k (hk : k < ops.length), ∃ g pre cap, vs[k]? = some (.func (.func g) pre cap) ∧ (∀ args w, (callFunc g args).run Tryz.prog w = .ok (.enter g args) w) ∧ ∀ W' P', (∀ g, N g → W'.heap[g]? = W.heap[g]?) → DiskP W' P' dd (stA A ops k) → Calls Tryz.prog g (pre ++ cap) W' (StepPost W' P' dd (stA A ops k) ops[k])) :
    Calls Tryz.prog 44 #[.slice (some ⟨rb, 0, none⟩) n c] W fun e w' => e = .returned (.tuple #[.int .i64 ((stepsP A ops).2.1 : Nat), .int .i64 (stepsP A ops).2.2]) ∧ DK w Q N dd (stepsP A ops).1 w' ∧ ∀ g, N g → w'.heap[g]? = W.heap[g]? := by
  subst hn
  refine (first_any vs ops.length c hvs hnl (some ⟨rb, 0, none⟩) (fun k W' => DK w Q N dd (stA A ops k) W' ∧ ∀ g, N g → W'.heap[g]? = W.heap[g]?) (fun k => stE A ops k) ?_ ?_ W ⟨by rw [stA_zero]; exact hD, fun _ _ => rfl⟩).mono ?_
  · rintro k W' ⟨_, hs⟩ h0
    refine ⟨rb, 0, rfl, fun i hi => ?_⟩
    rw [cell_of_row _ _ _ _ _ _ ((hs rb hNr).trans hrow), Nat.zero_add, ← Array.getElem?_toList, hcs, List.getElem?_eq_getElem hi]
  · intro k hk
    obtain ⟨g, pre, cap, h1, h2, h3⟩ := hv k hk
    refine ⟨g, pre, cap, h1, h2, ?_⟩
    rintro W' ⟨hD', hs⟩
    refine (hD'.call (o := ops[k]) fun P' h => h3 W' P' hs h).mono ?_
    rintro e w' ⟨rfl, hd, hs'⟩
    exact ⟨by rw [stE_get A ops hk], by rw [stA_succ A ops hk]; exact hd, fun g hg => (hs' g hg).trans (hs g hg)⟩
  · rintro e w' (⟨k, hk, rfl, h1, h2, h3, h4⟩ | ⟨rfl, h2, h3, h4⟩)
    · rw [steps_err ops A k hk h2 h1]
      exact ⟨rfl, h3, h4⟩
    · rw [steps_ok ops A h2]
      exact ⟨rfl, h3, h4⟩

set_option maxRecDepth 100000 in
set_option maxHeartbeats 4000000 in
theorem rewrite_p {w : World} {P : Nat → Prop} {lb dd g : Nat} {A : Pl} {n : Int} (h : DiskP w P dd A) (hl : LogBox w lb dd n) (hlb : ¬ P lb) (hA : GoodS g A) (hg : g ≤ 999000) (L : List Rcd) (p : Option Addr) (m c : Nat) (hL : L.length = m) (hm : m ≤ 1000000000) (hin : InRc w p L) :
    Calls Tryz.prog 24 #[.pointer (some ⟨lb, 0, none⟩), .slice p m c] w fun e w' => e = .returned (.int .i64 (rewriteP A n L).2.2) ∧ LogPost w P lb dd (rewriteP A n L).1 (rewriteP A n L).2.1 w' := by
  subst hL
  have c0 := hl.c0
  have c1 := hl.c1
  have HH := Lib.hid (And.intro h hl)
  clear h hl
  go_enter Tryz.func24, Tryz.ntmps24
  go_wp2_with fail
  obtain ⟨w0, hw0⟩ : ∃ x, x = (w.alloc (.cells #[.pointer (some ⟨lb, 0, none⟩)] 54)).alloc (.cells #[.slice none 0 0] 22) := ⟨_, rfl⟩
  have hb0 : Below w.heap.size w w0 := by rw [hw0]; exact ((Below.refl _ w).alloc (Nat.le_refl _) _).alloc (by simp) _
  have bL : Boxed w0 w.heap.size 54 (.pointer (some ⟨lb, 0, none⟩)) := by rw [hw0]; exact (Boxed.new w _ _).alloc _
  have bB : Boxed w0 (w.heap.size + 1) 22 (.slice none 0 0) := by
    rw [hw0]
    have := Boxed.new (w.alloc (.cells #[.pointer (some ⟨lb, 0, none⟩)] 54)) 22 (.slice none 0 0)
    rw [World.size_alloc] at this
    exact this
  rw [← hw0]
  have HW := Lib.hid hw0
  clear hw0
  go_loopw [14] (fun i wr => ∃ (k : Nat) (v : Value), k ≤ L.length ∧ i = .int .i64 k ∧ encZ (L.take k) 0 = 0 ∧ Boxed wr w.heap.size 54 (.pointer (some ⟨lb, 0, none⟩)) ∧ Boxed wr (w.heap.size + 1) 22 v ∧ Own8 wr w.heap.size v (encB (L.take k) 0) ∧ Below w.heap.size w wr) (fun i _ => L.length - (intOf i).toNat)
  case atStart => exact ⟨0, _, Nat.zero_le _, rfl, rfl, bL, bB, Own8.nil _ _, hb0⟩
  case round =>
    obtain ⟨k, v, hk, rfl, hz, b1, b2, hown, hb⟩ := hrel
    clear bL bB hb0
    by_cases hlt : k < L.length
    · obtain ⟨b, o, rfl, x, x0, x1, x2, x3, hx⟩ := (hin.below hb).at hlt
      have hsn := encB_snoc hlt
      have hzs := encZ_snoc hlt hz
      have hza := encZ_at hlt hz
      have hbl := encB_length (L.take k) 0
      rw [List.length_take] at hbl
      obtain ⟨r, hr⟩ : ∃ r, r = L[k] := ⟨_, rfl⟩
      rw [← hr] at x0 x1 x2 hx hsn hzs hza
      obtain ⟨sq, op, no, id⟩ := r
      dsimp only at x0 x1 x2 hx hsn hzs hza
      subst hx
      have c2 := b2.cell
      have H := Lib.hid (And.intro hsn (And.intro hzs (And.intro hza (And.intro b1 (And.intro b2 (And.intro hown (And.intro hb hz)))))))
      have HBL := Lib.hid hbl
      clear hsn hzs hza b1 b2 hown hb hz hr hbl
      go_wp2_with fail
      refine (recEnc_any (k : Int) op no x _).mono ?_
      rintro e w1 ⟨v1, rfl, hown1, hb1⟩
      have hz1 : encErr (k : Int) op no x.size = encErr (k : Int) op no x.data.toList.length := by rw [size_list]
      obtain ⟨z, hz⟩ : ∃ z, z = encErr (k : Int) op no x.size := ⟨_, rfl⟩
      rw [← hz]
      rw [← hz] at hz1
      have hbw : Below wr.heap.size wr w1 := ((Below.refl _ wr).alloc (Nat.le_refl _) _).trans (hb1.mono (by simp))
      have hb1s : w.heap.size ≤ w1.heap.size := Nat.le_trans H.out.2.2.2.2.2.2.1.size hbw.size
      by_cases h0 : z = 0
      · subst h0
        have c3 : w1.cell? ⟨w.heap.size + 1, 0, none⟩ = some v := (cell_keep c2 hbw)
        have HB := Lib.hid (And.intro hbw hz1)
        obtain ⟨p1, m1, rfl, hm1, hm2, hin1⟩ := hown1.in8
        have hel := encOf_length (k : Int) op no x.data.toList
        have HI := Lib.hid (And.intro hin1 hel)
        have HBS := Lib.hid hb1s
        obtain ⟨pv, mv, hv, _, _, _⟩ := H.out.2.2.2.2.2.1.in8
        subst hv
        have b2' : Boxed w1 (w.heap.size + 1) 22 (.slice pv (encB (L.take k) 0).length mv) := Below.heap HB.out.1 H.out.2.2.2.2.1
        have hB2 := Lib.hid b2'
        have fr : w1.frozen? ⟨w.heap.size + 1, 0, none⟩ = false := b2'.frozen
        clear hz hbw hz1 hown1 hin1 hb1 hb1s c2 hel b2'
        go_wp2_with (at_builtin; refine wpList_append8 rfl _ _ rfl w.heap.size _ (encB (L.take k) 0) rfl (H.out.2.2.2.2.2.1.below HB.out.1) _ _ _ _ rfl rfl HI.out.1 (by have := HBL.out; have := HI.out.2; omega) HBS.out ?_; intro v2 w2 hown2 hgrow2 _; have hX := hown2; obtain ⟨p2, m2, rfl, _, _, _⟩ := hown2.in8n List.length_append; have b3 := hB2.out.kept hgrow2 (hB2.out.not_row (e := 5) (by decide) (H.out.2.2.2.2.2.1.below HB.out.1)); have c5 := b3.cell; have f5 := b3.frozen; have HX := Lib.hid (And.intro hX (And.intro hgrow2 b3)); clear hX hgrow2 b3 c3 fr)
        go_roundw
        case rel =>
          have hb2 := own_grown (H.out.2.2.2.2.2.2.1.trans (HB.out.1.mono H.out.2.2.2.2.2.2.1.size)) HBS.out (H.out.2.2.2.2.2.1.below HB.out.1) HX.out.2.1
          have b1w : Boxed w2 w.heap.size 54 (.pointer (some ⟨lb, 0, none⟩)) := (Boxed.kept (Below.heap HB.out.1 H.out.2.2.2.1) HX.out.2.1 (Boxed.not_row (e := 5) (Below.heap HB.out.1 H.out.2.2.2.1) (by decide) (H.out.2.2.2.2.2.1.below HB.out.1)))
          refine ⟨k + 1, _, hlt, by go_num, by rw [H.out.2.1, ← HB.out.2], b1w.other (by omega) _, HX.out.2.2.set _, ?_, hb2.setCell (p := ⟨w.heap.size + 1, 0, none⟩) (by simp) _⟩
          rw [H.out.1]
          exact HX.out.1.setOther (a := ⟨w.heap.size + 1, 0, none⟩) (fun e => (HX.out.2.2.not_row (e := 5) (by decide) HX.out.1) e.symm) _
        case measure => simp [intOf]; omega
      · have q1 : (z == 0) = false := beq_eq_false_iff_ne.2 h0
        have q2 : (z != 0) = true := by simp [bne, q1]
        have hbn : Below w.heap.size w w1 := H.out.2.2.2.2.2.2.1.trans (hbw.mono H.out.2.2.2.2.2.2.1.size)
        have HP := Lib.hid (((DK.begin (N := fun g => g = lb) HH.out.1 hbn (fun g hg => ⟨by rw [hg]; exact Nat.lt_of_lt_of_le HH.out.2.lt hbn.size, .inr (by rw [hg]; exact hlb)⟩)).wide fun _ h => .inl h).post rfl (HH.out.2.below hbn))
        have HA := Lib.hid (show rewriteP A n L = (A, n, z) by
          have h1 := H.out.2.2.1 (by rw [← hz1]; exact h0)
          unfold rewriteP
          rw [h1, ← hz1, if_pos h0])
        clear hz hz1 hbw hown1 hb1 hb1s hbn h0 c2
        go_wp2_with fail
        go_ret
        rw [HA.out]
        exact ⟨rfl, HP.out⟩
    · obtain rfl : k = L.length := by omega
      rw [List.take_length] at hz hown
      have H := Lib.hid (And.intro b1 (And.intro b2 (And.intro hown (And.intro hb hz))))
      clear b1 b2 hown hb hz hin hk hlt
      obtain ⟨B, hB⟩ : ∃ B, B = encB L 0 := ⟨_, rfl⟩
      rw [← hB] at H
      have hBl : B.length ≤ 4111 * L.length := by rw [hB]; exact encB_length L 0
      obtain ⟨pv, mv, rfl, _, _, hinB⟩ := H.out.2.2.1.in8
      obtain ⟨wv, hwv⟩ : ∃ x, x = wr.alloc (.cells #[.func (.func 59) #[] #[.pointer (some ⟨w.heap.size, 0, none⟩)], .func (.func 60) #[] #[.pointer (some ⟨w.heap.size, 0, none⟩), .pointer (some ⟨w.heap.size + 1, 0, none⟩)], .func (.func 62) #[] #[.pointer (some ⟨w.heap.size, 0, none⟩)], .func (.func 63) #[] #[.pointer (some ⟨w.heap.size, 0, none⟩)]] 101) := ⟨_, rfl⟩
      have hbv : Below wr.heap.size wr wv := by rw [hwv]; exact (Below.refl _ wr).alloc (Nat.le_refl _) _
      have hrow := heap_alloc_new wr (.cells #[.func (.func 59) #[] #[.pointer (some ⟨w.heap.size, 0, none⟩)], .func (.func 60) #[] #[.pointer (some ⟨w.heap.size, 0, none⟩), .pointer (some ⟨w.heap.size + 1, 0, none⟩)], .func (.func 62) #[] #[.pointer (some ⟨w.heap.size, 0, none⟩)], .func (.func 63) #[] #[.pointer (some ⟨w.heap.size, 0, none⟩)]] 101)
      rw [← hwv] at hrow
      have hbw : Below w.heap.size w wv := H.out.2.2.2.1.trans (hbv.mono H.out.2.2.2.1.size)
      have hvlt := fun g (e : (Value.slice pv B.length mv).ownBlock = some g) => H.out.2.2.1.lt g e
      have hD : DK w (fun g => P g ∨ g = lb) (fun g => g = lb ∨ g = w.heap.size ∨ g = w.heap.size + 1 ∨ g = wr.heap.size ∨ (Value.slice pv B.length mv).ownBlock = some g) dd A wv := (DK.begin HH.out.1 hbw (fun g hg => by
        have h1 := hbw.size
        have h2 := hbv.size
        have h3 := HH.out.2.lt
        have h4 := H.out.2.1.lt
        have h5 := lt_of_heap hrow
        rcases hg with rfl | rfl | rfl | rfl | e
        · exact ⟨by omega, .inr hlb⟩
        · exact ⟨by omega, .inl (by omega)⟩
        · exact ⟨by omega, .inl (by omega)⟩
        · exact ⟨by omega, .inl H.out.2.2.2.1.size⟩
        · have := hvlt g e
          exact ⟨by omega, .inl this.1⟩)).wide fun _ h => .inl h
      have hl0 := HH.out.2.below hbw
      have bLv : Boxed wv w.heap.size 54 (.pointer (some ⟨lb, 0, none⟩)) := Below.heap hbv H.out.1
      have bBv : Boxed wv (w.heap.size + 1) 22 (.slice pv B.length mv) := Below.heap hbv H.out.2.1
      have hinv := H.out.2.2.1.below hbv
      have hfirst := first_dk (c := 4) [.create newN, .append newN B, .sync newN, .rename newN logN] _ _ _ rfl rfl (by simp) hD (.inr (.inr (.inr (.inl rfl)))) hrow rfl (fun k hk => by
        have hA' := hA.st [.create newN, .append newN B, .sync newN, .rename newN logN] k (by omega)
        have hk4 : k < 4 := hk
        have hfit := hA'.fitP (by omega)
        rcases k with _ | _ | _ | _ | k
        · exact ⟨_, _, _, rfl, enters_of Tryz.func59 (by kernel_rfl) rfl, fun W' P' hs h => rew1_any h ((World.cell?_of_block (hs w.heap.size (.inr (.inl rfl)))).trans bLv.cell) ((World.cell?_of_block (hs lb (.inl rfl))).trans hl0.c0) hfit⟩
        · exact ⟨_, _, _, rfl, enters_of Tryz.func60 (by kernel_rfl) rfl, fun W' P' hs h => rew2_any h ((World.cell?_of_block (hs w.heap.size (.inr (.inl rfl)))).trans bLv.cell) ((World.cell?_of_block (hs lb (.inl rfl))).trans hl0.c0) pv B.length mv B ((World.cell?_of_block (hs (w.heap.size + 1) (.inr (.inr (.inl rfl))))).trans bBv.cell) rfl (by omega) (own8_in (rowKeep hinv fun g cur e _ => hs g (.inr (.inr (.inr (.inr e)))))) hfit⟩
        · exact ⟨_, _, _, rfl, enters_of Tryz.func62 (by kernel_rfl) rfl, fun W' P' hs h => rew3_any h ((World.cell?_of_block (hs w.heap.size (.inr (.inl rfl)))).trans bLv.cell) ((World.cell?_of_block (hs lb (.inl rfl))).trans hl0.c0) hfit⟩
        · exact ⟨_, _, _, rfl, enters_of Tryz.func63 (by kernel_rfl) rfl, fun W' P' hs h => rew4_any h ((World.cell?_of_block (hs w.heap.size (.inr (.inl rfl)))).trans bLv.cell) ((World.cell?_of_block (hs lb (.inl rfl))).trans hl0.c0) hfit⟩
        · omega)
      obtain ⟨st, hst⟩ : ∃ x, x = stepsP A [.create newN, .append newN B, .sync newN, .rename newN logN] := ⟨_, rfl⟩
      rw [← hst, hwv] at hfirst
      have hgs : GoodS (g + 4) st.1 := by rw [hst]; exact GoodS.steps [.create newN, .append newN B, .sync newN, .rename newN logN] hA
      have hst4 : st.2.1 ≤ 4 ∧ (st.2.1 = 4 → st.2.2 = 0) := by rw [hst]; exact steps_len _ _
      have HREW := Lib.hid (show rewriteP A n L = if st.2.1 = 4 then ((doP st.1 .names).1, (L.length : Int), (doP st.1 .names).2) else if st.2.1 = 0 then (st.1, n, st.2.2) else ((doP st.1 (.remove newN)).1, n, st.2.2) by
        unfold rewriteP
        rw [if_neg (by rw [H.out.2.2.2.2]; simp), ← hB, ← hst])
      have HV := Lib.hid (And.intro hwv hl0)
      have HG := Lib.hid (And.intro hgs hst4)
      have HBV := Lib.hid bLv
      clear hwv hbv hrow hbw hvlt hD bBv hinv hinB hst hgs hst4 hl0 hB hBl bLv
      go_wp2_with fail
      refine hfirst.mono ?_
      rw [← HV.out.1]
      rintro e w5 ⟨rfl, hD5, hs5⟩
      clear hfirst
      have hl5 := HV.out.2.same (hs5 lb (.inl rfl))
      have bL5 : Boxed w5 w.heap.size 54 (.pointer (some ⟨lb, 0, none⟩)) := (hs5 w.heap.size (.inr (.inl rfl))).trans HBV.out
      have c0 := hl5.c0
      have c1 := hl5.c1
      have cf := hl5.fr 1
      have cb := bL5.cell
      obtain ⟨S, k, z⟩ := st
      have hk4 := HG.out.2.1
      dsimp only at hD5 hk4 HREW HG ⊢
      have H5 := Lib.hid (And.intro hD5 hl5)
      clear hD5 hs5 hl5 bL5
      rcases k with _ | _ | _ | _ | _ | k
      · go_wp2_with fail
        go_ret
        rw [HREW.out, if_neg (by decide), if_pos trivial]
        exact ⟨rfl, H5.out.1.post (.inl rfl) H5.out.2⟩
      · have hrm := H5.out.1.call (fun P' h => remove_p h ⟨#[108, 111, 103, 46, 110, 101, 119]⟩ (by decide) (HG.out.1.fitP (by omega)))
        rw [show (⟨#[108, 111, 103, 46, 110, 101, 119]⟩ : ByteArray).data.toList = newN from rfl] at hrm
        go_wp2_with fail
        refine hrm.mono ?_
        rintro e w6 ⟨rfl, hD6, hs6⟩
        have HP := Lib.hid (hD6.post (.inl rfl) (H5.out.2.same (hs6 lb (.inl rfl))))
        clear hrm hD6 hs6
        go_wp2_with fail
        go_ret
        rw [HREW.out, if_neg (by decide), if_neg (by decide)]
        exact ⟨rfl, HP.out⟩
      · have hrm := H5.out.1.call (fun P' h => remove_p h ⟨#[108, 111, 103, 46, 110, 101, 119]⟩ (by decide) (HG.out.1.fitP (by omega)))
        rw [show (⟨#[108, 111, 103, 46, 110, 101, 119]⟩ : ByteArray).data.toList = newN from rfl] at hrm
        go_wp2_with fail
        refine hrm.mono ?_
        rintro e w6 ⟨rfl, hD6, hs6⟩
        have HP := Lib.hid (hD6.post (.inl rfl) (H5.out.2.same (hs6 lb (.inl rfl))))
        clear hrm hD6 hs6
        go_wp2_with fail
        go_ret
        rw [HREW.out, if_neg (by decide), if_neg (by decide)]
        exact ⟨rfl, HP.out⟩
      · have hrm := H5.out.1.call (fun P' h => remove_p h ⟨#[108, 111, 103, 46, 110, 101, 119]⟩ (by decide) (HG.out.1.fitP (by omega)))
        rw [show (⟨#[108, 111, 103, 46, 110, 101, 119]⟩ : ByteArray).data.toList = newN from rfl] at hrm
        go_wp2_with fail
        refine hrm.mono ?_
        rintro e w6 ⟨rfl, hD6, hs6⟩
        have HP := Lib.hid (hD6.post (.inl rfl) (H5.out.2.same (hs6 lb (.inl rfl))))
        clear hrm hD6 hs6
        go_wp2_with fail
        go_ret
        rw [HREW.out, if_neg (by decide), if_neg (by decide)]
        exact ⟨rfl, HP.out⟩
      · have hD6 := H5.out.1.count H5.out.2 (.inl rfl) (.inr rfl) (L.length : Int)
        have hl6 := H5.out.2.set (L.length : Int)
        have d0 := hl6.c0
        have hsy := hD6.call (fun P' h => names_p h (HG.out.1.fitP (by omega)))
        have H6 := Lib.hid hl6
        clear hD6 hl6
        go_wp2_with fail
        refine hsy.mono ?_
        rintro e w6 ⟨rfl, hD7, hs7⟩
        have HP := Lib.hid (hD7.post (.inl rfl) (H6.out.same (hs7 lb (.inl rfl))))
        clear hsy hD7 hs7
        go_wp2_with fail
        go_ret
        rw [HREW.out, if_pos trivial]
        exact ⟨rfl, HP.out⟩
      · omega
end Go.Proofs.YtheoklhmlnfgjaaGreatDoor
/-
  Open: the log of a disk, and its records.
-/
namespace Go.Proofs.YtheoklhmlnfgjaaGreatDoor
open Go.RowKit Go.Maps
set_option linter.unusedVariables false

section
variable {w W W' : World} {P N : Nat → Prop} {dd lb g : Nat} {A : Pl} {n : Int}
theorem DK.count0 (h : DK w P N dd A W) (hl : LogBox W lb dd n) (hN : N lb) (hw : w.heap.size ≤ lb) (m : Int) : DK w P N dd A (W.setCell ⟨lb, 1, none⟩ (.int .i64 m)) := by
  have h' := (h.wide (Q := fun g => P g ∨ g = lb) fun _ h => .inl h).count hl hN (.inr rfl) m
  obtain ⟨⟨P', h1, h2⟩, h3, h4⟩ := h'
  refine ⟨⟨P', h1, fun g hg => ⟨?_, (h2 g hg).2⟩⟩, h3, h.2.2.then (Q := fun g => g = lb) ((Only.refl (fun g => g = lb) W).setCell (a := ⟨lb, 1, none⟩) rfl _) fun g hg => .inr (by rw [hg]; exact hw)⟩
  rcases (h2 g hg).1 with (e | e) | e
  · exact .inl e
  · exact .inr (by rw [e]; exact hw)
  · exact .inr e
theorem DK.rewrite (h : DK w P N dd A W) (hl : LogBox W lb dd n) (hN : N lb) (hw : w.heap.size ≤ lb) (hA : GoodS g A) (hg : g ≤ 999000) (L : List Rcd) (p : Option Addr) (m c : Nat) (hL : L.length = m) (hm : m ≤ 1000000000) (hin : InRc W p L) :
    Calls Tryz.prog 24 #[.pointer (some ⟨lb, 0, none⟩), .slice p m c] W fun e W' => e = .returned (.int .i64 (rewriteP A n L).2.2) ∧ DK w P N dd (rewriteP A n L).1 W' ∧ LogBox W' lb dd (rewriteP A n L).2.1 ∧ ∀ g, N g → g ≠ lb → W'.heap[g]? = W.heap[g]? := by
  obtain ⟨⟨P', h1, h2⟩, h3, h4⟩ := h
  refine (rewrite_p h1 hl (fun e => (h2 lb e).2 hN) hA hg L p m c hL hm hin).mono ?_
  rintro e W' ⟨rfl, ⟨P2, g1, g2⟩, g3, g4⟩
  refine ⟨rfl, ⟨⟨P2, g1, fun g hg => ?_⟩, fun g hg => Nat.lt_of_lt_of_le (h3 g hg) g4.size, h4.then g4 fun g hg => ?_⟩, g3, fun g hg hne => g4.block g (h3 g hg) fun e => ?_⟩
  · rcases g2 g hg with e | e
    · exact h2 g e
    · exact ⟨.inr (Nat.le_trans h4.size e), fun e2 => by have := h3 g e2; omega⟩
  · rcases hg with e | e
    · exact (h2 g e).1
    · exact .inr (by rw [e]; exact hw)
  · rcases e with e | e
    · exact (h2 g e).2 hg
    · exact hne e
end
theorem InRc.same {w w' : World} {p : Option Addr} {L : List Rcd} (h : InRc w p L) (hs : ∀ a, p = some a → w'.heap[a.block]? = w.heap[a.block]?) : InRc w' p L := by
  intro h0
  obtain ⟨b, o, rfl, hc⟩ := h h0
  exact ⟨b, o, rfl, fun j v hv => (World.cell?_of_block (a := ⟨b, o + j, none⟩) (hs ⟨b, o, none⟩ rfl)).trans (hc j v hv)⟩
theorem listP_now (A : Pl) : (listP A).length ≤ A.now.length := by
  unfold listP
  split
  · simp
  · rw [List.length_map]; exact Nat.le_refl _

/-- what Open leaves -/
def OpenPost (w : World) (P : Nat → Prop) (dd : Nat) (A : Pl) (r : List Rcd) (z : Int) (e : Ending) (w' : World) : Prop :=
  (z ≠ 0 ∧ e = .returned (.tuple #[.pointer none, .slice none 0 0, .int .i64 z]) ∧ DK w P (fun _ => False) dd A w') ∨
  (z = 0 ∧ ∃ lb p c, e = .returned (.tuple #[.pointer (some ⟨lb, 0, none⟩), .slice p r.length c, .int .i64 0]) ∧ DK w P (fun g => g = lb ∨ ∃ a, p = some a ∧ a.block = g) dd A w' ∧ LogBox w' lb dd r.length ∧ w.heap.size ≤ lb ∧ (∀ a, p = some a → w.heap.size ≤ a.block) ∧ InRc w' p r)

set_option maxRecDepth 100000 in
set_option maxHeartbeats 8000000 in
theorem open_p {w : World} {P : Nat → Prop} {dd g : Nat} {A : Pl} (h : DiskP w P dd A) (hA : GoodS g A) (hg : g ≤ 990000) :
    Calls Tryz.prog 18 #[.pointer (some ⟨dd, 0, none⟩)] w fun e w' => OpenPost w P dd (openP A).1 (openP A).2.1 (openP A).2.2 e w' := by
  obtain ⟨w0, hw0⟩ : ∃ x, x = (w.alloc (.cells #[.pointer (some ⟨dd, 0, none⟩)] 44)).alloc (.cells #[.pointer (some ⟨dd, 0, none⟩), .int .i64 0] 93) := ⟨_, rfl⟩
  have hb0 : Below w.heap.size w w0 := by rw [hw0]; exact ((Below.refl _ w).alloc (Nat.le_refl _) _).alloc (by simp) _
  have bD : Boxed w0 w.heap.size 44 (.pointer (some ⟨dd, 0, none⟩)) := by rw [hw0]; exact (Boxed.new w _ _).alloc _
  have bL : LogBox w0 (w.heap.size + 1) dd 0 := by
    rw [hw0]
    have := heap_alloc_new (w.alloc (.cells #[.pointer (some ⟨dd, 0, none⟩)] 44)) (.cells #[.pointer (some ⟨dd, 0, none⟩), .int .i64 0] 93)
    rw [World.size_alloc] at this
    exact this
  have hD : DK w P (fun g => g = w.heap.size ∨ g = w.heap.size + 1) dd A w0 := DK.begin h hb0 fun g hg => by
    have := bL.lt
    rcases hg with rfl | rfl
    · exact ⟨by omega, .inl (Nat.le_refl _)⟩
    · exact ⟨by omega, .inl (by omega)⟩
  obtain ⟨P0, h0, _⟩ := hD.1
  have hls := list_p h0 (hA.fitP (by omega)).now
  have cD := bD.cell
  have H := Lib.hid (And.intro hD (And.intro bD bL))
  have HW := Lib.hid hw0
  rw [hw0] at hls cD
  clear h hw0 hb0 bD bL hD h0
  go_enter Tryz.func18, Tryz.ntmps18
  go_wp2_with fail
  refine hls.mono ?_
  rw [← HW.out]
  rintro e W ⟨v1, rfl, hown1, hb1⟩
  obtain ⟨p1, c1, rfl, _, _, hin1, _⟩ := hown1.shape rfl
  have hct := contains_in ⟨#[108, 111, 103, 46, 110, 101, 119]⟩ W rfl (by have := (hA.fitP (by omega)).now; have := listP_now A; omega) hin1 (c := c1)
  have H1 := Lib.hid (And.intro (H.out.1.below hb1) (And.intro (Below.heap hb1 H.out.2.1) (Below.heap hb1 H.out.2.2)))
  clear hls hown1 hin1 hb1 cD
  rw [show (⟨#[108, 111, 103, 46, 110, 101, 119]⟩ : ByteArray).data.toList = newN from rfl] at hct
  have hct := hct.mono fun _ _ h => (show _ ∧ W = _ from ⟨h.1, h.2.symm⟩)
  by_cases hin : newN ∈ listP A
  · rw [decide_eq_true hin] at hct
    have cD := Boxed.cell H1.out.2.1
    have hrm := H1.out.1.call (fun P' h => remove_p h ⟨#[108, 111, 103, 46, 110, 101, 119]⟩ (by decide) (hA.fitP (by omega)))
    rw [show (⟨#[108, 111, 103, 46, 110, 101, 119]⟩ : ByteArray).data.toList = newN from rfl] at hrm
    have hsw : sweepP A = doP A (.remove newN) := by unfold sweepP; rw [if_pos hin]
    have hAs := hA.step (.remove newN)
    obtain ⟨S, hS⟩ : ∃ S, S = (doP A (.remove newN)).1 := ⟨_, rfl⟩
    obtain ⟨z, hz⟩ : ∃ z, z = (doP A (.remove newN)).2 := ⟨_, rfl⟩
    rw [← hS] at hrm hAs
    rw [← hz] at hrm
    have hsw : sweepP A = (S, z) := by rw [hsw, hS, hz]
    have HA := Lib.hid (And.intro hsw hAs)
    clear hS hz hsw hAs hin
    go_wp2_with fail
    refine hct.mono ?_
    rintro e w2 ⟨rfl, rfl⟩
    clear hct
    go_wp2_with fail
    refine hrm.mono ?_
    rintro e W ⟨rfl, hD2, hs2⟩
    have H2 := Lib.hid (And.intro hD2 (And.intro ((hs2 w.heap.size (.inl rfl)).trans H1.out.2.1) (LogBox.same H1.out.2.2 (hs2 _ (.inr rfl)))))
    clear hrm hD2 hs2 cD
    by_cases h0 : z = 0
    · subst h0
      have HA1 := Lib.hid (And.intro HA.out.1 HA.out.2)
      have cD := Boxed.cell H2.out.2.1
      go_wp2_with fail
      clear cD
      obtain ⟨P2, h2, _⟩ := H2.out.1.1
      have hrd := read_p h2 ⟨#[108, 111, 103]⟩ (by decide) (HA1.out.2.fitP (by omega)).used
      rw [show (⟨#[108, 111, 103]⟩ : ByteArray).data.toList = logN from rfl] at hrd
      have hrl := HA1.out.2.readP logN
      have hr0 : readEP S logN ≠ 0 → readP S logN = [] := fun h => by unfold readP; rw [if_neg h]
      obtain ⟨re, hre⟩ : ∃ x, x = readEP S logN := ⟨_, rfl⟩
      obtain ⟨rb, hrb⟩ : ∃ x, x = readP S logN := ⟨_, rfl⟩
      rw [← hre, ← hrb] at hrd hr0
      rw [← hrb] at hrl
      have hop : openP A = if re = 90 then ((stepsP S [.create logN, .sync logN, .names]).1, [], (stepsP S [.create logN, .sync logN, .names]).2.2)
          else if re ≠ 0 then (S, [], re) else if repN rb < rb.length then (if (rewriteP S 0 (repR rb)).2.2 ≠ 0 then ((rewriteP S 0 (repR rb)).1, [], (rewriteP S 0 (repR rb)).2.2) else ((rewriteP S 0 (repR rb)).1, repR rb, 0)) else (S, repR rb, 0) := by
        unfold openP
        rw [HA1.out.1]
        simp only
        rw [if_neg (by simp), ← hre, ← hrb]
      have HOP := Lib.hid hop
      clear h2 hre hrb hop
      refine hrd.mono ?_
      rintro e W3 ⟨v3, rfl, hown3, hb3⟩
      obtain ⟨p3, c3, rfl, hc1, hc2, hin3⟩ := hown3.in8n rfl
      have hpl := hown3.plain
      have bD3 : Boxed W3 w.heap.size 44 (.pointer (some ⟨dd, 0, none⟩)) := Below.heap hb3 H2.out.2.1
      have H3 := Lib.hid (And.intro (H2.out.1.below hb3) (And.intro bD3 (H2.out.2.2.below hb3)))
      have cD := bD3.cell
      clear hrd hb3 hown3
      by_cases h90 : re = 90
      · subst h90
        obtain rfl : rb = [] := hr0 (by decide)
        obtain ⟨wv, hwv⟩ : ∃ x, x = W3.alloc (.cells #[.func (.func 45) #[] #[.pointer (some ⟨w.heap.size, 0, none⟩)], .func (.func 47) #[] #[.pointer (some ⟨w.heap.size, 0, none⟩)], .func (.func 49) #[.pointer (some ⟨dd, 0, none⟩)] #[]] 101) := ⟨_, rfl⟩
        have hbv : Below W3.heap.size W3 wv := by rw [hwv]; exact (Below.refl _ W3).alloc (Nat.le_refl _) _
        have hrow := heap_alloc_new W3 (.cells #[.func (.func 45) #[] #[.pointer (some ⟨w.heap.size, 0, none⟩)], .func (.func 47) #[] #[.pointer (some ⟨w.heap.size, 0, none⟩)], .func (.func 49) #[.pointer (some ⟨dd, 0, none⟩)] #[]] 101)
        rw [← hwv] at hrow
        have hD := H3.out.1.add hbv (fun g => g = w.heap.size ∨ g = w.heap.size + 1 ∨ g = W3.heap.size) (fun g hg => by
          rcases hg with e | e | e
          · exact .inl (.inl e)
          · exact .inl (.inr e)
          · exact .inr ⟨by rw [e]; exact Nat.le_refl _, by rw [e]; exact lt_of_heap hrow⟩)
        have bDv : Boxed wv w.heap.size 44 (.pointer (some ⟨dd, 0, none⟩)) := Below.heap hbv H3.out.2.1
        have hlv := H3.out.2.2.below hbv
        have hfirst := first_dk (c := 3) [.create logN, .sync logN, .names] _ _ _ rfl rfl (by simp) hD (.inr (.inr rfl)) hrow rfl (fun k hk => by
          have hA' := HA1.out.2.st [.create logN, .sync logN, .names] k (by omega)
          have hk3 : k < 3 := hk
          have hfit := hA'.fitP (by omega)
          rcases k with _ | _ | _ | k
          · exact ⟨_, _, _, rfl, enters_of Tryz.func45 (by kernel_rfl) rfl, fun W' P' hs h => open1_any h ((World.cell?_of_block (hs w.heap.size (.inl rfl))).trans bDv.cell) hfit⟩
          · exact ⟨_, _, _, rfl, enters_of Tryz.func47 (by kernel_rfl) rfl, fun W' P' hs h => open2_any h ((World.cell?_of_block (hs w.heap.size (.inl rfl))).trans bDv.cell) hfit⟩
          · exact ⟨_, _, _, rfl, enters_of Tryz.func49 (by kernel_rfl) rfl, fun W' P' hs h => names_p h hfit⟩
          · omega)
        obtain ⟨st, hst⟩ : ∃ x, x = stepsP S [.create logN, .sync logN, .names] := ⟨_, rfl⟩
        rw [← hst, hwv] at hfirst
        have HO := Lib.hid (show openP A = (st.1, [], st.2.2) by rw [HOP.out, if_pos rfl, hst])
        have HV := Lib.hid (And.intro hwv (And.intro hlv hbv))
        clear hwv hbv hrow hD bDv hlv hst
        go_wp2_with fail
        refine hfirst.mono ?_
        rw [← HV.out.1]
        rintro e W4 ⟨rfl, hD4, hs4⟩
        clear hfirst
        obtain ⟨T, k, z⟩ := st
        dsimp only at hD4 HO ⊢
        have H4 := Lib.hid (And.intro hD4 (HV.out.2.1.same (hs4 _ (.inr (.inl rfl)))))
        clear hD4 hs4
        by_cases hz : z = 0
        · subst hz
          have hrp := replay_any [] p3 0 c3 hpl rfl (by omega) hc1 hc2 W4 (fun h => absurd h (by simp))
          rw [show repN [] = 0 from rfl] at hrp
          go_wp2_with fail
          refine hrp.mono ?_
          rintro e W5 ⟨v5, rfl, hown5, _, hb5⟩
          obtain ⟨p5, c5, rfl, _, _, hin5, hpp5⟩ := hown5.shape (show (repR []).length = 0 from rfl)
          have hl5 := H4.out.2.below hb5
          have d1 := hl5.c1
          have df := hl5.fr 1
          have hD5 := (H4.out.1.add hb5 (fun g => g = w.heap.size + 1 ∨ ∃ a, p5 = some a ∧ a.block = g) (fun g hg => by
            rcases hg with e | ⟨a, ha, e⟩
            · exact .inl (.inr (.inl e))
            · have := hpp5 a ha
              exact .inr ⟨by rw [← e]; exact this.1, by rw [← e]; exact this.2.1⟩)).count0 hl5 (.inl rfl) (by omega) 0
          have H5 := Lib.hid (And.intro hD5 (And.intro (hl5.set 0) (And.intro (fun a ha => Nat.le_trans H4.out.1.2.2.size (hpp5 a ha).1) (InRc.nil (W5.setCell ⟨w.heap.size + 1, 1, none⟩ (.int .i64 0)) p5))))
          clear hrp hown5 hb5 hin5 hpp5 hl5 hD5 hin3 hpl
          go_wp2_with fail
          refine bodyPost_ret (results_tmp3 rfl _ _ _) rfl ?_
          rw [HO.out]
          exact .inr ⟨rfl, w.heap.size + 1, p5, c5, rfl, H5.out.1, H5.out.2.1, by omega, H5.out.2.2.1, H5.out.2.2.2⟩
        · have q1 : (z == 0) = false := beq_eq_false_iff_ne.2 hz
          have q2 : (z != 0) = true := by simp [bne, q1]
          have HZ := Lib.hid hz
          clear hz hin3 hpl
          go_wp2_with fail
          refine bodyPost_ret (results_tmp3 rfl _ _ _) rfl ?_
          rw [HO.out]
          exact .inl ⟨HZ.out, rfl, H4.out.1.add (Below.refl _ _) _ fun _ hg => hg.elim⟩
      · have q90 : (re == 90) = false := beq_eq_false_iff_ne.2 h90
        have HOP := Lib.hid (show openP A = if re ≠ 0 then (S, [], re) else if repN rb < rb.length then (if (rewriteP S 0 (repR rb)).2.2 ≠ 0 then ((rewriteP S 0 (repR rb)).1, [], (rewriteP S 0 (repR rb)).2.2) else ((rewriteP S 0 (repR rb)).1, repR rb, 0)) else (S, repR rb, 0) by rw [HOP.out, if_neg h90])
        clear h90
        by_cases hz : re = 0
        · subst hz
          have hrp := replay_any rb p3 rb.length c3 hpl rfl (by omega) hc1 hc2 W3 hin3
          have hrn : repN rb ≤ rb.length := offs_le rb _ (Nat.le_refl _)
          have hrc : (repR rb).length ≤ 1000000000 := by have := rep_len rb; rw [repR_length]; omega
          have HOP := Lib.hid (show openP A = if repN rb < rb.length then (if (rewriteP S 0 (repR rb)).2.2 ≠ 0 then ((rewriteP S 0 (repR rb)).1, [], (rewriteP S 0 (repR rb)).2.2) else ((rewriteP S 0 (repR rb)).1, repR rb, 0)) else (S, repR rb, 0) by rw [HOP.out, if_neg (by simp)])
          obtain ⟨rn, hrn2⟩ : ∃ x, x = repN rb := ⟨_, rfl⟩
          obtain ⟨R, hR⟩ : ∃ x, x = repR rb := ⟨_, rfl⟩
          obtain ⟨bl, hbl⟩ : ∃ x, x = rb.length := ⟨_, rfl⟩
          rw [← hrn2, ← hR, ← hbl] at hrp HOP
          rw [← hrn2, ← hbl] at hrn
          rw [← hR] at hrc
          rw [← hbl]
          have hblm : bl ≤ 1073741824 := by rw [hbl]; exact hrl
          clear hrn2 hbl hr0 hrl hin3 hpl hc1 hR
          go_wp2_with fail
          refine hrp.mono ?_
          rintro e W5 ⟨v5, rfl, hown5, _, hb5⟩
          obtain ⟨p5, c5, rfl, _, _, hin5, hpp5⟩ := hown5.shape rfl
          have hl5 := H3.out.2.2.below hb5
          have hD5 := H3.out.1.add hb5 (fun g => g = w.heap.size + 1 ∨ ∃ a, p5 = some a ∧ a.block = g) (fun g hg => by
            rcases hg with e | ⟨a, ha, e⟩
            · exact .inl (.inr e)
            · have := hpp5 a ha
              exact .inr ⟨by rw [← e]; exact this.1, by rw [← e]; exact this.2.1⟩)
          have hpb : ∀ a, p5 = some a → w.heap.size ≤ a.block ∧ a.block ≠ w.heap.size + 1 := fun a ha => ⟨Nat.le_trans H3.out.1.2.2.size (hpp5 a ha).1, fun e => by have h1 := H3.out.2.2.lt; have h2 := (hpp5 a ha).1; omega⟩
          have H5 := Lib.hid (And.intro hD5 (And.intro hl5 (And.intro hpb hin5)))
          clear hrp hown5 hb5 hin5 hpp5 hl5 hD5 hpb
          by_cases hlt : rn < bl
          · have hrw := H5.out.1.rewrite H5.out.2.1 (.inl rfl) (by omega) HA1.out.2 (by omega) R p5 R.length c5 rfl hrc H5.out.2.2.2
            have HOP := Lib.hid (show openP A = if (rewriteP S 0 R).2.2 ≠ 0 then ((rewriteP S 0 R).1, [], (rewriteP S 0 R).2.2) else ((rewriteP S 0 R).1, R, 0) by rw [HOP.out, if_pos hlt])
            obtain ⟨⟨T, cnt, z⟩, hT⟩ : ∃ x, x = rewriteP S 0 R := ⟨_, rfl⟩
            rw [← hT] at hrw HOP
            dsimp only at hrw HOP
            clear hT
            go_wp2_with fail
            refine hrw.mono ?_
            rintro e W6 ⟨rfl, hD6, hl6, hs6⟩
            have d1 := hl6.c1
            have df := hl6.fr 1
            have H6 := Lib.hid (And.intro hD6 (And.intro hl6 hs6))
            clear hrw hD6 hl6 hs6
            by_cases hz : z = 0
            · subst hz
              have HO := Lib.hid (show openP A = (T, R, 0) by rw [HOP.out, if_neg (by simp)])
              have hD7 := H6.out.1.count0 H6.out.2.1 (.inl rfl) (by omega) (R.length : Int)
              have H7 := Lib.hid (And.intro hD7 (And.intro (H6.out.2.1.set (R.length : Int)) (InRc.same (w' := W6.setCell ⟨w.heap.size + 1, 1, none⟩ (.int .i64 R.length)) H5.out.2.2.2 fun a ha => (Below.heap_setCell W6 ⟨w.heap.size + 1, 1, none⟩ _ a.block (H5.out.2.2.1 a ha).2).trans (H6.out.2.2 a.block (.inr ⟨a, ha, rfl⟩) (H5.out.2.2.1 a ha).2))))
              clear hD7
              go_wp2_with fail
              refine bodyPost_ret (results_tmp3 rfl _ _ _) rfl ?_
              rw [HO.out]
              exact .inr ⟨rfl, w.heap.size + 1, p5, c5, rfl, H7.out.1, H7.out.2.1, by omega, fun a ha => (H5.out.2.2.1 a ha).1, H7.out.2.2⟩
            · have q1 : (z == 0) = false := beq_eq_false_iff_ne.2 hz
              have q2 : (z != 0) = true := by simp [bne, q1]
              have HO := Lib.hid (show openP A = (T, [], z) by rw [HOP.out, if_pos hz])
              have HZ := Lib.hid hz
              clear hz
              go_wp2_with fail
              refine bodyPost_ret (results_tmp3 rfl _ _ _) rfl ?_
              rw [HO.out]
              exact .inl ⟨HZ.out, rfl, H6.out.1.add (Below.refl _ _) _ fun _ hg => hg.elim⟩
          · have HO := Lib.hid (show openP A = (S, R, 0) by rw [HOP.out, if_neg hlt])
            have d1 := H5.out.2.1.c1
            have df := H5.out.2.1.fr 1
            have hD7 := H5.out.1.count0 H5.out.2.1 (.inl rfl) (by omega) (R.length : Int)
            have H7 := Lib.hid (And.intro hD7 (And.intro (H5.out.2.1.set (R.length : Int)) (InRc.same (w' := W5.setCell ⟨w.heap.size + 1, 1, none⟩ (.int .i64 R.length)) H5.out.2.2.2 fun a ha => (Below.heap_setCell W5 ⟨w.heap.size + 1, 1, none⟩ _ a.block (H5.out.2.2.1 a ha).2))))
            clear hD7
            go_wp2_with fail
            refine bodyPost_ret (results_tmp3 rfl _ _ _) rfl ?_
            rw [HO.out]
            exact .inr ⟨rfl, w.heap.size + 1, p5, c5, rfl, H7.out.1, H7.out.2.1, by omega, fun a ha => (H5.out.2.2.1 a ha).1, H7.out.2.2⟩
        · have q1 : (re == 0) = false := beq_eq_false_iff_ne.2 hz
          have q2 : (re != 0) = true := by simp [bne, q1]
          have HO := Lib.hid (show openP A = (S, [], re) by rw [HOP.out, if_pos hz])
          have HZ := Lib.hid hz
          clear hz hin3 hpl
          go_wp2_with fail
          refine bodyPost_ret (results_tmp3 rfl _ _ _) rfl ?_
          rw [HO.out]
          exact .inl ⟨HZ.out, rfl, H3.out.1.add (Below.refl _ _) _ fun _ hg => hg.elim⟩
    · have q1 : (z == 0) = false := beq_eq_false_iff_ne.2 h0
      have q2 : (z != 0) = true := by simp [bne, q1]
      have HO := Lib.hid (show openP A = (S, [], z) by unfold openP; rw [HA.out.1]; simp only; rw [if_pos h0])
      have H0 := Lib.hid h0
      clear h0
      go_wp2_with fail
      refine bodyPost_ret (results_tmp3 rfl _ _ _) rfl ?_
      rw [HO.out]
      exact .inl ⟨H0.out, rfl, H2.out.1.add (Below.refl _ _) _ fun _ hg => hg.elim⟩
  · rw [decide_eq_false hin] at hct
    have cD := Boxed.cell H1.out.2.1
    have hsw : sweepP A = (A, 0) := by unfold sweepP; rw [if_neg hin]
    obtain ⟨S, hS⟩ : ∃ S, S = A := ⟨_, rfl⟩
    have HA1 := Lib.hid (show sweepP A = (S, 0) ∧ GoodS (g + 1) S by rw [hS]; exact ⟨hsw, hA.more (by omega)⟩)
    have H2 := Lib.hid (show DK w P (fun g => g = w.heap.size ∨ g = w.heap.size + 1) dd S W ∧ Boxed W w.heap.size 44 (.pointer (some ⟨dd, 0, none⟩)) ∧ LogBox W (w.heap.size + 1) dd 0 by rw [hS]; exact H1.out)
    clear hsw hin H1 hS
    go_wp2_with fail
    refine hct.mono ?_
    rintro e w2 ⟨rfl, rfl⟩
    clear hct
    go_wp2_with fail
    clear cD
    obtain ⟨P2, h2, _⟩ := H2.out.1.1
    have hrd := read_p h2 ⟨#[108, 111, 103]⟩ (by decide) (HA1.out.2.fitP (by omega)).used
    rw [show (⟨#[108, 111, 103]⟩ : ByteArray).data.toList = logN from rfl] at hrd
    have hrl := HA1.out.2.readP logN
    have hr0 : readEP S logN ≠ 0 → readP S logN = [] := fun h => by unfold readP; rw [if_neg h]
    obtain ⟨re, hre⟩ : ∃ x, x = readEP S logN := ⟨_, rfl⟩
    obtain ⟨rb, hrb⟩ : ∃ x, x = readP S logN := ⟨_, rfl⟩
    rw [← hre, ← hrb] at hrd hr0
    rw [← hrb] at hrl
    have hop : openP A = if re = 90 then ((stepsP S [.create logN, .sync logN, .names]).1, [], (stepsP S [.create logN, .sync logN, .names]).2.2)
        else if re ≠ 0 then (S, [], re) else if repN rb < rb.length then (if (rewriteP S 0 (repR rb)).2.2 ≠ 0 then ((rewriteP S 0 (repR rb)).1, [], (rewriteP S 0 (repR rb)).2.2) else ((rewriteP S 0 (repR rb)).1, repR rb, 0)) else (S, repR rb, 0) := by
      unfold openP
      rw [HA1.out.1]
      simp only
      rw [if_neg (by simp), ← hre, ← hrb]
    have HOP := Lib.hid hop
    clear h2 hre hrb hop
    refine hrd.mono ?_
    rintro e W3 ⟨v3, rfl, hown3, hb3⟩
    obtain ⟨p3, c3, rfl, hc1, hc2, hin3⟩ := hown3.in8n rfl
    have hpl := hown3.plain
    have bD3 : Boxed W3 w.heap.size 44 (.pointer (some ⟨dd, 0, none⟩)) := Below.heap hb3 H2.out.2.1
    have H3 := Lib.hid (And.intro (H2.out.1.below hb3) (And.intro bD3 (H2.out.2.2.below hb3)))
    have cD := bD3.cell
    clear hrd hb3 hown3
    by_cases h90 : re = 90
    · subst h90
      obtain rfl : rb = [] := hr0 (by decide)
      obtain ⟨wv, hwv⟩ : ∃ x, x = W3.alloc (.cells #[.func (.func 45) #[] #[.pointer (some ⟨w.heap.size, 0, none⟩)], .func (.func 47) #[] #[.pointer (some ⟨w.heap.size, 0, none⟩)], .func (.func 49) #[.pointer (some ⟨dd, 0, none⟩)] #[]] 101) := ⟨_, rfl⟩
      have hbv : Below W3.heap.size W3 wv := by rw [hwv]; exact (Below.refl _ W3).alloc (Nat.le_refl _) _
      have hrow := heap_alloc_new W3 (.cells #[.func (.func 45) #[] #[.pointer (some ⟨w.heap.size, 0, none⟩)], .func (.func 47) #[] #[.pointer (some ⟨w.heap.size, 0, none⟩)], .func (.func 49) #[.pointer (some ⟨dd, 0, none⟩)] #[]] 101)
      rw [← hwv] at hrow
      have hD := H3.out.1.add hbv (fun g => g = w.heap.size ∨ g = w.heap.size + 1 ∨ g = W3.heap.size) (fun g hg => by
        rcases hg with e | e | e
        · exact .inl (.inl e)
        · exact .inl (.inr e)
        · exact .inr ⟨by rw [e]; exact Nat.le_refl _, by rw [e]; exact lt_of_heap hrow⟩)
      have bDv : Boxed wv w.heap.size 44 (.pointer (some ⟨dd, 0, none⟩)) := Below.heap hbv H3.out.2.1
      have hlv := H3.out.2.2.below hbv
      have hfirst := first_dk (c := 3) [.create logN, .sync logN, .names] _ _ _ rfl rfl (by simp) hD (.inr (.inr rfl)) hrow rfl (fun k hk => by
        have hA' := HA1.out.2.st [.create logN, .sync logN, .names] k (by omega)
        have hk3 : k < 3 := hk
        have hfit := hA'.fitP (by omega)
        rcases k with _ | _ | _ | k
        · exact ⟨_, _, _, rfl, enters_of Tryz.func45 (by kernel_rfl) rfl, fun W' P' hs h => open1_any h ((World.cell?_of_block (hs w.heap.size (.inl rfl))).trans bDv.cell) hfit⟩
        · exact ⟨_, _, _, rfl, enters_of Tryz.func47 (by kernel_rfl) rfl, fun W' P' hs h => open2_any h ((World.cell?_of_block (hs w.heap.size (.inl rfl))).trans bDv.cell) hfit⟩
        · exact ⟨_, _, _, rfl, enters_of Tryz.func49 (by kernel_rfl) rfl, fun W' P' hs h => names_p h hfit⟩
        · omega)
      obtain ⟨st, hst⟩ : ∃ x, x = stepsP S [.create logN, .sync logN, .names] := ⟨_, rfl⟩
      rw [← hst, hwv] at hfirst
      have HO := Lib.hid (show openP A = (st.1, [], st.2.2) by rw [HOP.out, if_pos rfl, hst])
      have HV := Lib.hid (And.intro hwv (And.intro hlv hbv))
      clear hwv hbv hrow hD bDv hlv hst
      go_wp2_with fail
      refine hfirst.mono ?_
      rw [← HV.out.1]
      rintro e W4 ⟨rfl, hD4, hs4⟩
      clear hfirst
      obtain ⟨T, k, z⟩ := st
      dsimp only at hD4 HO ⊢
      have H4 := Lib.hid (And.intro hD4 (HV.out.2.1.same (hs4 _ (.inr (.inl rfl)))))
      clear hD4 hs4
      by_cases hz : z = 0
      · subst hz
        have hrp := replay_any [] p3 0 c3 hpl rfl (by omega) hc1 hc2 W4 (fun h => absurd h (by simp))
        rw [show repN [] = 0 from rfl] at hrp
        go_wp2_with fail
        refine hrp.mono ?_
        rintro e W5 ⟨v5, rfl, hown5, _, hb5⟩
        obtain ⟨p5, c5, rfl, _, _, hin5, hpp5⟩ := hown5.shape (show (repR []).length = 0 from rfl)
        have hl5 := H4.out.2.below hb5
        have d1 := hl5.c1
        have df := hl5.fr 1
        have hD5 := (H4.out.1.add hb5 (fun g => g = w.heap.size + 1 ∨ ∃ a, p5 = some a ∧ a.block = g) (fun g hg => by
          rcases hg with e | ⟨a, ha, e⟩
          · exact .inl (.inr (.inl e))
          · have := hpp5 a ha
            exact .inr ⟨by rw [← e]; exact this.1, by rw [← e]; exact this.2.1⟩)).count0 hl5 (.inl rfl) (by omega) 0
        have H5 := Lib.hid (And.intro hD5 (And.intro (hl5.set 0) (And.intro (fun a ha => Nat.le_trans H4.out.1.2.2.size (hpp5 a ha).1) (InRc.nil (W5.setCell ⟨w.heap.size + 1, 1, none⟩ (.int .i64 0)) p5))))
        clear hrp hown5 hb5 hin5 hpp5 hl5 hD5 hin3 hpl
        go_wp2_with fail
        refine bodyPost_ret (results_tmp3 rfl _ _ _) rfl ?_
        rw [HO.out]
        exact .inr ⟨rfl, w.heap.size + 1, p5, c5, rfl, H5.out.1, H5.out.2.1, by omega, H5.out.2.2.1, H5.out.2.2.2⟩
      · have q1 : (z == 0) = false := beq_eq_false_iff_ne.2 hz
        have q2 : (z != 0) = true := by simp [bne, q1]
        have HZ := Lib.hid hz
        clear hz hin3 hpl
        go_wp2_with fail
        refine bodyPost_ret (results_tmp3 rfl _ _ _) rfl ?_
        rw [HO.out]
        exact .inl ⟨HZ.out, rfl, H4.out.1.add (Below.refl _ _) _ fun _ hg => hg.elim⟩
    · have q90 : (re == 90) = false := beq_eq_false_iff_ne.2 h90
      have HOP := Lib.hid (show openP A = if re ≠ 0 then (S, [], re) else if repN rb < rb.length then (if (rewriteP S 0 (repR rb)).2.2 ≠ 0 then ((rewriteP S 0 (repR rb)).1, [], (rewriteP S 0 (repR rb)).2.2) else ((rewriteP S 0 (repR rb)).1, repR rb, 0)) else (S, repR rb, 0) by rw [HOP.out, if_neg h90])
      clear h90
      by_cases hz : re = 0
      · subst hz
        have hrp := replay_any rb p3 rb.length c3 hpl rfl (by omega) hc1 hc2 W3 hin3
        have hrn : repN rb ≤ rb.length := offs_le rb _ (Nat.le_refl _)
        have hrc : (repR rb).length ≤ 1000000000 := by have := rep_len rb; rw [repR_length]; omega
        have HOP := Lib.hid (show openP A = if repN rb < rb.length then (if (rewriteP S 0 (repR rb)).2.2 ≠ 0 then ((rewriteP S 0 (repR rb)).1, [], (rewriteP S 0 (repR rb)).2.2) else ((rewriteP S 0 (repR rb)).1, repR rb, 0)) else (S, repR rb, 0) by rw [HOP.out, if_neg (by simp)])
        obtain ⟨rn, hrn2⟩ : ∃ x, x = repN rb := ⟨_, rfl⟩
        obtain ⟨R, hR⟩ : ∃ x, x = repR rb := ⟨_, rfl⟩
        obtain ⟨bl, hbl⟩ : ∃ x, x = rb.length := ⟨_, rfl⟩
        rw [← hrn2, ← hR, ← hbl] at hrp HOP
        rw [← hrn2, ← hbl] at hrn
        rw [← hR] at hrc
        rw [← hbl]
        have hblm : bl ≤ 1073741824 := by rw [hbl]; exact hrl
        clear hrn2 hbl hr0 hrl hin3 hpl hc1 hR
        go_wp2_with fail
        refine hrp.mono ?_
        rintro e W5 ⟨v5, rfl, hown5, _, hb5⟩
        obtain ⟨p5, c5, rfl, _, _, hin5, hpp5⟩ := hown5.shape rfl
        have hl5 := H3.out.2.2.below hb5
        have hD5 := H3.out.1.add hb5 (fun g => g = w.heap.size + 1 ∨ ∃ a, p5 = some a ∧ a.block = g) (fun g hg => by
          rcases hg with e | ⟨a, ha, e⟩
          · exact .inl (.inr e)
          · have := hpp5 a ha
            exact .inr ⟨by rw [← e]; exact this.1, by rw [← e]; exact this.2.1⟩)
        have hpb : ∀ a, p5 = some a → w.heap.size ≤ a.block ∧ a.block ≠ w.heap.size + 1 := fun a ha => ⟨Nat.le_trans H3.out.1.2.2.size (hpp5 a ha).1, fun e => by have h1 := H3.out.2.2.lt; have h2 := (hpp5 a ha).1; omega⟩
        have H5 := Lib.hid (And.intro hD5 (And.intro hl5 (And.intro hpb hin5)))
        clear hrp hown5 hb5 hin5 hpp5 hl5 hD5 hpb
        by_cases hlt : rn < bl
        · have hrw := H5.out.1.rewrite H5.out.2.1 (.inl rfl) (by omega) HA1.out.2 (by omega) R p5 R.length c5 rfl hrc H5.out.2.2.2
          have HOP := Lib.hid (show openP A = if (rewriteP S 0 R).2.2 ≠ 0 then ((rewriteP S 0 R).1, [], (rewriteP S 0 R).2.2) else ((rewriteP S 0 R).1, R, 0) by rw [HOP.out, if_pos hlt])
          obtain ⟨⟨T, cnt, z⟩, hT⟩ : ∃ x, x = rewriteP S 0 R := ⟨_, rfl⟩
          rw [← hT] at hrw HOP
          dsimp only at hrw HOP
          clear hT
          go_wp2_with fail
          refine hrw.mono ?_
          rintro e W6 ⟨rfl, hD6, hl6, hs6⟩
          have d1 := hl6.c1
          have df := hl6.fr 1
          have H6 := Lib.hid (And.intro hD6 (And.intro hl6 hs6))
          clear hrw hD6 hl6 hs6
          by_cases hz : z = 0
          · subst hz
            have HO := Lib.hid (show openP A = (T, R, 0) by rw [HOP.out, if_neg (by simp)])
            have hD7 := H6.out.1.count0 H6.out.2.1 (.inl rfl) (by omega) (R.length : Int)
            have H7 := Lib.hid (And.intro hD7 (And.intro (H6.out.2.1.set (R.length : Int)) (InRc.same (w' := W6.setCell ⟨w.heap.size + 1, 1, none⟩ (.int .i64 R.length)) H5.out.2.2.2 fun a ha => (Below.heap_setCell W6 ⟨w.heap.size + 1, 1, none⟩ _ a.block (H5.out.2.2.1 a ha).2).trans (H6.out.2.2 a.block (.inr ⟨a, ha, rfl⟩) (H5.out.2.2.1 a ha).2))))
            clear hD7
            go_wp2_with fail
            refine bodyPost_ret (results_tmp3 rfl _ _ _) rfl ?_
            rw [HO.out]
            exact .inr ⟨rfl, w.heap.size + 1, p5, c5, rfl, H7.out.1, H7.out.2.1, by omega, fun a ha => (H5.out.2.2.1 a ha).1, H7.out.2.2⟩
          · have q1 : (z == 0) = false := beq_eq_false_iff_ne.2 hz
            have q2 : (z != 0) = true := by simp [bne, q1]
            have HO := Lib.hid (show openP A = (T, [], z) by rw [HOP.out, if_pos hz])
            have HZ := Lib.hid hz
            clear hz
            go_wp2_with fail
            refine bodyPost_ret (results_tmp3 rfl _ _ _) rfl ?_
            rw [HO.out]
            exact .inl ⟨HZ.out, rfl, H6.out.1.add (Below.refl _ _) _ fun _ hg => hg.elim⟩
        · have HO := Lib.hid (show openP A = (S, R, 0) by rw [HOP.out, if_neg hlt])
          have d1 := H5.out.2.1.c1
          have df := H5.out.2.1.fr 1
          have hD7 := H5.out.1.count0 H5.out.2.1 (.inl rfl) (by omega) (R.length : Int)
          have H7 := Lib.hid (And.intro hD7 (And.intro (H5.out.2.1.set (R.length : Int)) (InRc.same (w' := W5.setCell ⟨w.heap.size + 1, 1, none⟩ (.int .i64 R.length)) H5.out.2.2.2 fun a ha => (Below.heap_setCell W5 ⟨w.heap.size + 1, 1, none⟩ _ a.block (H5.out.2.2.1 a ha).2))))
          clear hD7
          go_wp2_with fail
          refine bodyPost_ret (results_tmp3 rfl _ _ _) rfl ?_
          rw [HO.out]
          exact .inr ⟨rfl, w.heap.size + 1, p5, c5, rfl, H7.out.1, H7.out.2.1, by omega, fun a ha => (H5.out.2.2.1 a ha).1, H7.out.2.2⟩
      · have q1 : (re == 0) = false := beq_eq_false_iff_ne.2 hz
        have q2 : (re != 0) = true := by simp [bne, q1]
        have HO := Lib.hid (show openP A = (S, [], re) by rw [HOP.out, if_pos hz])
        have HZ := Lib.hid hz
        clear hz hin3 hpl
        go_wp2_with fail
        refine bodyPost_ret (results_tmp3 rfl _ _ _) rfl ?_
        rw [HO.out]
        exact .inl ⟨HZ.out, rfl, H3.out.1.add (Below.refl _ _) _ fun _ hg => hg.elim⟩
end Go.Proofs.YtheoklhmlnfgjaaGreatDoor
/-
  alive, of chapter 11: calls whose answers the document fixes.
-/
namespace Go.Proofs.YtheoklhmlnfgjaaGreatDoor
open Go.RowKit Go.Maps
set_option linter.unusedVariables false

def sw0 : Pl := newP [] 999 [] (-1)
theorem sw_new : newE [] 999 = 0 := by
  unfold newE
  rw [if_neg (by omega), if_pos ⟨(fun f hf => by cases hf), List.Pairwise.nil⟩]
theorem sw_good : GoodS 0 sw0 := ⟨GoodA.new (-1) sw_new (by decide), fun f hf => by cases hf⟩
theorem sw_open : (openP sw0).2.1 = [] ∧ (openP sw0).2.2 = 0 ∧ (openP sw0).1.steps = 3 := ⟨by kernel_rfl, by kernel_rfl, by kernel_rfl⟩
theorem sw_add : (addP (openP sw0).1 0 1 0 [97]).2.1 = 1 ∧ (addP (openP sw0).1 0 1 0 [97]).2.2 = 0 ∧ (addP (openP sw0).1 0 1 0 [97]).1.steps = 5 ∧ usedP (addP (openP sw0).1 0 1 0 [97]).1 = 16 := ⟨by kernel_rfl, by kernel_rfl, by kernel_rfl, by kernel_rfl⟩
/-- a disk and its log that lie behind w0 -/
def LP (w0 : World) (lb dd : Nat) (A : Pl) (n : Int) (W : World) : Prop := ∃ P, DiskP W P dd A ∧ (∀ g, P g → w0.heap.size ≤ g ∧ g ≠ lb) ∧ w0.heap.size ≤ lb ∧ LogBox W lb dd n ∧ Below w0.heap.size w0 W
section
variable {w0 W W' : World} {lb dd : Nat} {A : Pl} {n : Int}
theorem LP.dp (h : LP w0 lb dd A n W) : DP w0 dd A W := by
  obtain ⟨P, h1, h2, _, _, h5⟩ := h
  exact ⟨P, h1, fun g hg => (h2 g hg).1, h5⟩
theorem LP.box (h : LP w0 lb dd A n W) : LogBox W lb dd n := by
  obtain ⟨P, _, _, _, h4, _⟩ := h
  exact h4
theorem LP.blw (h : LP w0 lb dd A n W) : Below w0.heap.size w0 W := by
  obtain ⟨P, _, _, _, _, h5⟩ := h
  exact h5
theorem LP.below (h : LP w0 lb dd A n W) (hb : Below W.heap.size W W') : LP w0 lb dd A n W' := by
  obtain ⟨P, h1, h2, h3, h4, h5⟩ := h
  exact ⟨P, h1.below hb, h2, h3, h4.below hb, h5.trans (hb.mono h5.size)⟩
theorem LP.post {P : Nat → Prop} {B : Pl} {m : Int} (h2 : ∀ g, P g → w0.heap.size ≤ g ∧ g ≠ lb) (h3 : w0.heap.size ≤ lb) (h4 : lb < W.heap.size) (h5 : Below w0.heap.size w0 W) (hp : LogPost W P lb dd B m W') : LP w0 lb dd B m W' := by
  obtain ⟨⟨P', g1, g2⟩, g3, g4⟩ := hp
  refine ⟨P', g1, fun g hg => ?_, h3, g3, h5.trans (g4.below (B := w0.heap.size) (fun k hk => ?_) h5.size)⟩
  · rcases g2 g hg with e | e
    · exact h2 g e
    · exact ⟨Nat.le_trans h5.size e, by omega⟩
  · rcases hk with e | e
    · exact (h2 k e).1
    · rw [e]; exact h3
theorem add_lp {g : Nat} (h : LP w0 lb dd A n W) (hA : GoodS g A) (hg : g ≤ 999000) (hn0 : 0 ≤ n) (hn1 : n ≤ 1000000000000) (op no : Int) (id : ByteArray) :
    Calls Tryz.prog 26 #[.pointer (some ⟨lb, 0, none⟩), .int .i64 op, .int .i64 no, .string id] W fun e w' => e = .returned (.int .i64 (addP A n op no id.data.toList).2.2) ∧ LP w0 lb dd (addP A n op no id.data.toList).1 (addP A n op no id.data.toList).2.1 w' := by
  obtain ⟨P, h1, h2, h3, h4, h5⟩ := h
  exact (add_p h1 h4 (fun e => (h2 lb e).2 rfl) hA hg hn0 hn1 op no id).mono fun e w' hp => ⟨hp.1, LP.post h2 h3 h4.lt h5 hp.2⟩
theorem open_lp {g : Nat} (h : DP w0 dd A W) (hA : GoodS g A) (hg : g ≤ 990000) :
    Calls Tryz.prog 18 #[.pointer (some ⟨dd, 0, none⟩)] W fun e w' =>
      ((openP A).2.2 ≠ 0 ∧ e = .returned (.tuple #[.pointer none, .slice none 0 0, .int .i64 (openP A).2.2]) ∧ DP w0 dd (openP A).1 w') ∨
      ((openP A).2.2 = 0 ∧ ∃ lb p c, e = .returned (.tuple #[.pointer (some ⟨lb, 0, none⟩), .slice p (openP A).2.1.length c, .int .i64 0]) ∧ LP w0 lb dd (openP A).1 (openP A).2.1.length w' ∧ InRc w' p (openP A).2.1) := by
  obtain ⟨P, h1, h2, h3⟩ := h
  have hsz := h3.size
  have bl : ∀ {N : Nat → Prop} {B : Pl} {w' : World}, DK W P N dd B w' → Below w0.heap.size w0 w' := fun hd => h3.trans (hd.2.2.below (fun k hk => h2 k hk) hsz)
  refine (open_p h1 hA hg).mono ?_
  rintro e w' (⟨hz, rfl, hd⟩ | ⟨hz, lb, p, c, rfl, hd, hl, hlb, hp, hin⟩)
  · refine .inl ⟨hz, rfl, ?_⟩
    have hb := bl hd
    obtain ⟨⟨P', g1, g2⟩, _, _⟩ := hd
    exact ⟨P', g1, fun g hg => (g2 g hg).1.elim (h2 g) (fun e => Nat.le_trans hsz e), hb⟩
  · refine .inr ⟨hz, lb, p, c, rfl, ?_, hin⟩
    have hb := bl hd
    obtain ⟨⟨P', g1, g2⟩, _, _⟩ := hd
    exact ⟨P', g1, fun g hg => ⟨(g2 g hg).1.elim (h2 g) (fun e => Nat.le_trans hsz e), fun e => (g2 g hg).2 (.inl e)⟩, Nat.le_trans hsz hlb, hl, hb⟩
end

set_option maxRecDepth 100000 in
set_option maxHeartbeats 8000000 in
theorem alive11_any (w : World) : Calls Tryz.prog 8 #[] w fun e w' => e = .returned (.bool true) ∧ Below w.heap.size w w' := by
  have hnew := new_p [] none 0 0 rfl 999 [] none 0 0 rfl (-1) w (InFs.nil _ _) (fun h => absurd h (by simp)) (by decide) (fun f hf => by cases hf) (by decide)
  rw [sw_new] at hnew
  obtain ⟨s1, s2, s3⟩ := sw_open
  obtain ⟨t1, t2, t3, t4⟩ := sw_add
  have g1 := sw_good.open
  have g2 := g1.add 0 1 0 [97]
  have hop := fun W dd (h : DP w dd sw0 W) => open_lp h sw_good (by decide)
  obtain ⟨B1, hB1⟩ : ∃ x, x = openP sw0 := ⟨_, rfl⟩
  rw [← hB1] at s1 s2 s3 g1 g2 t1 t2 t3 t4 hop
  obtain ⟨B2, hB2⟩ : ∃ x, x = addP B1.1 0 1 0 [97] := ⟨_, rfl⟩
  rw [← hB2] at t1 t2 t3 t4 g2
  rw [s1, s2] at hop
  have HG := Lib.hid (And.intro s3 (And.intro t1 (And.intro t2 (And.intro t3 (And.intro t4 (And.intro g1 (And.intro g2 hB2)))))))
  have HOP := Lib.hid hop
  clear s1 s2 s3 t1 t2 t3 t4 g1 g2 hop hB1 hB2
  go_enter Tryz.func8, Tryz.ntmps8
  go_wp2_with fail
  refine hnew.mono ?_
  rintro e w1 ⟨⟨h0, _⟩ | ⟨_, dd, P, rfl, hd, hP⟩, hb1⟩
  · exact absurd rfl h0
  clear hnew
  have H1 := Lib.hid (show DP w dd sw0 w1 from ⟨P, hd, hP, hb1⟩)
  clear hd hP hb1
  go_wp2_with fail
  refine (HOP.out _ _ H1.out).mono ?_
  rintro e w2 (⟨h0, _⟩ | ⟨_, lb, p, c, rfl, hl, _⟩)
  · exact absurd rfl h0
  have H2 := Lib.hid hl
  clear hl
  go_wp2_with fail
  refine (steps_dp H2.out.dp).mono ?_
  rintro e w3 ⟨rfl, hb3⟩
  rw [HG.out.1]
  have H3 := Lib.hid (H2.out.below hb3)
  clear hb3
  go_wp2_with fail
  refine (add_lp H3.out HG.out.2.2.2.2.2.1 (by omega) (Int.le_refl _) (by decide) 1 0 ⟨#[97]⟩).mono ?_
  rw [show (⟨#[97]⟩ : ByteArray).data.toList = [97] from rfl]
  rw [show (([] : List Rcd).length : Int) = 0 from rfl, ← HG.out.2.2.2.2.2.2.2, HG.out.2.1, HG.out.2.2.1]
  rintro e w4 ⟨rfl, hl4⟩
  have H4 := Lib.hid hl4
  clear hl4
  go_wp2_with fail
  refine (count_any H4.out.box).mono ?_
  rintro e w5 ⟨rfl, hw5⟩
  have H5 := Lib.hid (show LP w lb dd B2.1 1 w5 by rw [hw5]; exact H4.out)
  clear hw5
  go_wp2_with fail
  refine (steps_dp H5.out.dp).mono ?_
  rintro e w6 ⟨rfl, hb6⟩
  rw [HG.out.2.2.2.1]
  have H6 := Lib.hid (H5.out.below hb6)
  clear hb6
  go_wp2_with fail
  refine (used_dp H6.out.dp HG.out.2.2.2.2.2.2.1.good (by decide)).mono ?_
  rintro e w7 ⟨rfl, hb7⟩
  rw [HG.out.2.2.2.2.1]
  have H7 := Lib.hid (H6.out.below hb7)
  clear hb7
  go_wp2_with fail
  go_ret
  exact ⟨rfl, H7.out.blw⟩
end Go.Proofs.YtheoklhmlnfgjaaGreatDoor
/-
  A log and its disk, beside a row of records that grows.
-/
namespace Go.Proofs.YtheoklhmlnfgjaaGreatDoor
open Go.RowKit Go.Maps
set_option linter.unusedVariables false

theorem IsChg.elseLt {w w' : World} {x : Nat} {v : Value} {c : Chg} {cs : Array Value} {T : TypeId} {fr : Nat × Nat} (h : IsChg w v c) (hx : w.heap[x]? = some (.cells cs T fr)) (h1 : 117 ≠ T) (h2 : 9 ≠ T)
    (hE : ∀ g, g < w.heap.size → g ≠ x → w'.heap[g]? = w.heap[g]?) : IsChg w' v c := by
  have kf : ∀ (b : Nat) (u : Value), w.heap[b]? = some (.cells #[u] 117 (0, 0)) → w'.heap[b]? = some (.cells #[u] 117 (0, 0)) := fun b u hb => (hE b (lt_of_heap hb) (fun e => by
    subst e
    rw [hx] at hb
    injection hb with hb
    injection hb with _ e2 _
    exact h1 e2.symm)).trans hb
  have ks : ∀ (b : Nat) (u : Value), w.heap[b]? = some (.cells #[u] 9 (0, 0)) → w'.heap[b]? = some (.cells #[u] 9 (0, 0)) := fun b u hb => (hE b (lt_of_heap hb) (fun e => by
    subst e
    rw [hx] at hb
    injection hb with hb
    injection hb with _ e2 _
    exact h2 e2.symm)).trans hb
  cases c with
  | put k f =>
    obtain ⟨bf, bk, nm, g1, g2, g3, g4, g5⟩ := h
    exact ⟨bf, bk, nm, g1, g2, g3, kf _ _ g4, ks _ _ g5⟩
  | ren a k f =>
    obtain ⟨ba, bf, bk, na, nm, g1, g2, g3, g4, g5, g6, g7, g8⟩ := h
    exact ⟨ba, bf, bk, na, nm, g1, g2, g3, g4, g5, ks _ _ g6, kf _ _ g7, ks _ _ g8⟩
  | del k =>
    obtain ⟨bk, nm, g1, g2, g3, g4⟩ := h
    exact ⟨bk, nm, g1, g2, g3, ks _ _ g4⟩
/-- whatever turns in one block that is none of the disk's -/
theorem DiskAt.elseLt {w w' : World} {P : Nat → Prop} {dd x : Nat} {S : DiskC} {cs : Array Value} {T : TypeId} {fr : Nat × Nat} (h : DiskAt w P dd S) (hx : w.heap[x]? = some (.cells cs T fr)) (hP : ¬ P x) (h1 : 117 ≠ T) (h2 : 9 ≠ T)
    (hf : S.fails = []) (hE : ∀ g, g < w.heap.size → g ≠ x → w'.heap[g]? = w.heap[g]?) : DiskAt w' P dd S where
  blk := (hE _ (lt_of_heap h.blk) (fun e => hP (e ▸ h.inP.1))).trans h.blk
  now := h.now.kept (hE _ h.now.lt (fun e => hP (e ▸ h.inP.2.1)))
  safe := h.safe.kept (hE _ h.safe.lt (fun e => hP (e ▸ h.inP.2.2.1)))
  ne := h.ne
  row := rowKeep h.row fun g cur e hg => hE g (lt_of_heap hg) fun e2 => hP (e2 ▸ h.inP.2.2.2 g e)
  chg := fun i v c hv hc => ⟨(h.chg i v c hv hc).1.elseLt hx h1 h2 hE, (h.chg i v c hv hc).2⟩
  fails := ⟨h.fails.1, fun h0 => absurd h0 (by rw [hf]; simp), h.fails.2.2⟩
  files := fun i f hfi => by
    obtain ⟨a1, a2, a3, a4, a5⟩ := h.files i f hfi
    exact ⟨(hE _ (lt_of_heap a1) (fun e => hP (e ▸ a4))).trans a1, rowKeep a2 fun g cur e hg => hE g (lt_of_heap hg) fun e2 => hP (e2 ▸ a3 g e), a3, a4, a5⟩
  apart := h.apart
  nowF := h.nowF
  safeF := h.safeF
  inP := h.inP

/-- a disk and its log that lie behind w0, none of it in the blocks N -/
structure LPE (w0 : World) (lb dd : Nat) (A : Pl) (n : Int) (N : Nat → Prop) (W : World) : Prop where
  disk : ∃ P, DiskP W P dd A ∧ ∀ g, P g → w0.heap.size ≤ g ∧ g ≠ lb ∧ ¬ N g
  lbn : w0.heap.size ≤ lb ∧ ¬ N lb
  lt : ∀ g, N g → g < W.heap.size
  box : LogBox W lb dd n
  blw : Below w0.heap.size w0 W
section
variable {w0 W W' : World} {lb dd : Nat} {A : Pl} {n : Int} {N : Nat → Prop}
theorem LPE.lp (h : LPE w0 lb dd A n N W) : LP w0 lb dd A n W := by
  obtain ⟨P, h1, h2⟩ := h.disk
  exact ⟨P, h1, fun g hg => ⟨(h2 g hg).1, (h2 g hg).2.1⟩, h.lbn.1, h.box, h.blw⟩
theorem LPE.dp (h : LPE w0 lb dd A n N W) : DP w0 dd A W := h.lp.dp
theorem LP.lpe (h : LP w0 lb dd A n W) (hb : Below W.heap.size W W') (hN : ∀ g, N g → W.heap.size ≤ g ∧ g < W'.heap.size) : LPE w0 lb dd A n N W' := by
  obtain ⟨P, h1, h2, h3, h4, h5⟩ := h
  refine ⟨⟨_, h1.shrink.below hb, fun g hg => ⟨(h2 g hg.1).1, (h2 g hg.1).2, fun e => ?_⟩⟩, ⟨h3, fun e => ?_⟩, fun g hg => (hN g hg).2, h4.below hb, h5.trans (hb.mono h5.size)⟩
  · have := (hN g e).1; have := hg.2; omega
  · have := (hN lb e).1; have := h4.lt; omega
theorem LPE.add (h : LPE w0 lb dd A n N W) (hb : Below W.heap.size W W') (N' : Nat → Prop) (hN : ∀ g, N' g → N g ∨ (W.heap.size ≤ g ∧ g < W'.heap.size)) : LPE w0 lb dd A n N' W' := by
  obtain ⟨⟨P, h1, h2⟩, h3, h4, h5, h6⟩ := h
  refine ⟨⟨_, h1.shrink.below hb, fun g hg => ⟨(h2 g hg.1).1, (h2 g hg.1).2.1, fun e => ?_⟩⟩, ⟨h3.1, fun e => ?_⟩, fun g hg => ?_, h5.below hb, h6.trans (hb.mono h6.size)⟩
  · rcases hN g e with e | e
    · exact (h2 g hg.1).2.2 e
    · have := hg.2; omega
  · rcases hN lb e with e | e
    · exact h3.2 e
    · have := h5.lt; omega
  · rcases hN g hg with e | e
    · exact Nat.lt_of_lt_of_le (h4 g e) hb.size
    · exact e.2
theorem LPE.below (h : LPE w0 lb dd A n N W) (hb : Below W.heap.size W W') : LPE w0 lb dd A n N W' := h.add hb N fun _ hg => .inl hg
theorem LPE.post {P : Nat → Prop} {B : Pl} {m : Int} (h2 : ∀ g, P g → w0.heap.size ≤ g ∧ g ≠ lb ∧ ¬ N g) (h3 : w0.heap.size ≤ lb ∧ ¬ N lb) (h4 : ∀ g, N g → g < W.heap.size) (h5 : LogBox W lb dd n) (h6 : Below w0.heap.size w0 W) (hp : LogPost W P lb dd B m W') : LPE w0 lb dd B m N W' ∧ ∀ g, N g → W'.heap[g]? = W.heap[g]? := by
  obtain ⟨⟨P', g1, g2⟩, g3, g4⟩ := hp
  refine ⟨⟨⟨P', g1, fun g hg => ?_⟩, h3, fun g hg => Nat.lt_of_lt_of_le (h4 g hg) g4.size, g3, h6.trans (g4.below (B := w0.heap.size) (fun k hk => ?_) h6.size)⟩, fun g hg => g4.block g (h4 g hg) fun e => ?_⟩
  · rcases g2 g hg with e | e
    · exact h2 g e
    · exact ⟨Nat.le_trans h6.size e, fun e2 => by have := h5.lt; omega, fun e2 => by have := h4 g e2; omega⟩
  · rcases hk with e | e
    · exact (h2 k e).1
    · rw [e]; exact h3.1
  · rcases e with e | e
    · exact (h2 g e).2.2 hg
    · subst e; exact h3.2 hg
theorem add_lpe {g : Nat} (h : LPE w0 lb dd A n N W) (hA : GoodS g A) (hg : g ≤ 999000) (hn0 : 0 ≤ n) (hn1 : n ≤ 1000000000000) (op no : Int) (id : ByteArray) :
    Calls Tryz.prog 26 #[.pointer (some ⟨lb, 0, none⟩), .int .i64 op, .int .i64 no, .string id] W fun e w' => e = .returned (.int .i64 (addP A n op no id.data.toList).2.2) ∧ LPE w0 lb dd (addP A n op no id.data.toList).1 (addP A n op no id.data.toList).2.1 N w' ∧ ∀ g, N g → w'.heap[g]? = W.heap[g]? := by
  obtain ⟨⟨P, h1, h2⟩, h3, h4, h5, h6⟩ := h
  exact (add_p h1 h5 (fun e => (h2 lb e).2.1 rfl) hA hg hn0 hn1 op no id).mono fun e w' hp => ⟨hp.1, LPE.post h2 h3 h4 h5 h6 hp.2⟩
theorem rewrite_lpe {g : Nat} (h : LPE w0 lb dd A n N W) (hA : GoodS g A) (hg : g ≤ 999000) (L : List Rcd) (p : Option Addr) (m c : Nat) (hL : L.length = m) (hm : m ≤ 1000000000) (hin : InRc W p L) :
    Calls Tryz.prog 24 #[.pointer (some ⟨lb, 0, none⟩), .slice p m c] W fun e w' => e = .returned (.int .i64 (rewriteP A n L).2.2) ∧ LPE w0 lb dd (rewriteP A n L).1 (rewriteP A n L).2.1 N w' ∧ ∀ g, N g → w'.heap[g]? = W.heap[g]? := by
  obtain ⟨⟨P, h1, h2⟩, h3, h4, h5, h6⟩ := h
  exact (rewrite_p h1 h5 (fun e => (h2 lb e).2.1 rfl) hA hg L p m c hL hm hin).mono fun e w' hp => ⟨hp.1, LPE.post h2 h3 h4 h5 h6 hp.2⟩
/-- a row of records beside it grows -/
theorem LPE.grown {v v' : Value} {L M : List Rcd} {base : Nat} (h : LPE w0 lb dd A n (fun g => v.ownBlock = some g) W) (hf : A.fails = []) (hown : OwnRc W base v L) (hb0 : w0.heap.size ≤ base) (hg : W.grownBy W' v.ownBlock) (hw : Way W v v') (hown' : OwnRc W' base v' M) :
    LPE w0 lb dd A n (fun g => v'.ownBlock = some g) W' := by
  obtain ⟨⟨P, ⟨S, h1, he⟩, h2⟩, h3, h4, h5, h6⟩ := h
  have hfS : S.fails = [] := by rw [← he] at hf; exact hf
  have hE : ∀ g, g < W.heap.size → v.ownBlock ≠ some g → W'.heap[g]? = W.heap[g]? := fun g hlt hne => hg.block g hlt fun e => hne e.symm
  have hd : DiskAt W' (fun g => P g ∧ g < W.heap.size) dd S := by
    have hs := DiskAt.shrink h1
    rcases hown.2 with ⟨e, _⟩ | ⟨x, cap, cur, e, _, hx, _⟩
    · subst e
      exact hs.below ⟨hg.os, hg.tape, hg.output, hg.size, fun k hk => hg.block k hk (by simp [Value.ownBlock])⟩
    · refine hs.elseLt (x := x) hx (fun e2 => (h2 x e2.1).2.2 (by rw [e]; rfl)) (by decide) (by decide) hfS fun g hlt hne => hE g hlt fun e2 => hne ?_
      rw [e] at e2
      exact (Option.some.inj e2).symm
  refine ⟨⟨_, ⟨S, hd, he⟩, fun g hgp => ⟨(h2 g hgp.1).1, (h2 g hgp.1).2.1, fun e => ?_⟩⟩, ⟨h3.1, fun e => ?_⟩, fun g hgn => (World.ownsRow.lt hown' g hgn).2, (hE lb h5.lt h3.2).trans h5, h6.trans ?_⟩
  · rcases hw g e with e2 | e2
    · exact (h2 g hgp.1).2.2 e2
    · have := hgp.2; omega
  · rcases hw lb e with e2 | e2
    · exact h3.2 e2
    · have := h5.lt; omega
  · refine ⟨hg.os, hg.tape, hg.output, hg.size, fun k hk => hg.block k (Nat.lt_of_lt_of_le hk h6.size) fun e => ?_⟩
    have := (World.ownsRow.lt hown k e.symm).1
    omega
end

section
variable {w : World}
/-- one record more; where the row then lies -/
theorem wpList_appendRcw {ops : Array Oper} {rest : List Oper} {o : Oper} {a : Act} {Q : Exit → Act → World → Prop} (hgd : o.guard = none) (s x : Operand)
    (ho : o.op = .call { callee := .builtin .append, args := #[s, x], argTypes := #[25, 25] })
    (base : Nat) (v : Value) (L : List Rcd) (hv : a.eval s = v) (hown : OwnRc w base v L)
    (p : Option Addr) (m c : Nat) (M : List Rcd) (hm : M.length = m) (hx : a.eval x = .slice p m c) (hin : InRc w p M)
    (hr : L.length + m ≤ 4500000000000) (hbase : base ≤ w.heap.size)
    (h : ∀ v' w', OwnRc w' base v' (L ++ M) → w.grownBy w' v.ownBlock → Way w v v' → wpList Tryz.prog ops Q rest (a.put o.dst v') w') : wpList Tryz.prog ops Q (o :: rest) a w := by
  subst hm
  refine wpList_append_way w hgd s x 25 25 ho base 35 (.agg #[.int .i64 0, .int .i64 0, .int .i64 0, .string .empty]) 4 40 Tryz.underlying25 infoRc rfl v L.length (rc L) hv hown _ M.length (rc M) hx (srcRc hin) (by unfold maxLen; omega) (by omega) hbase ?_
  intro v' w' ho' hg hw
  exact h v' w' (by unfold OwnRc; rw [List.length_append, rc_append]; exact ho') hg hw
end
theorem OwnRc.same {w w' : World} {base : Nat} {v : Value} {L : List Rcd} (h : OwnRc w base v L) (hs : ∀ g, v.ownBlock = some g → w'.heap[g]? = w.heap[g]?) : OwnRc w' base v L := rowKeep h fun g cur e _ => hs g e
end Go.Proofs.YtheoklhmlnfgjaaGreatDoor
/-
  Append of a record, as a step of a region that draws.
-/
namespace Go.Proofs.YtheoklhmlnfgjaaGreatDoor
open Go.RowKit Go.Maps

/-- append onto a row of the call's own, with where the result lies, as a step of a region that draws -/
theorem step_append_way2 {P : Program} {w : World} {ops : Array Oper} {o : Oper} {a : Act} {K : Act → World → Prop} {Q : Exit → Act → World → Prop} {E : Prop} (hgd : o.guard = none) (s x : Operand) (t tx : TypeId)
    (ho : o.op = .call { callee := .builtin .append, args := #[s, x], argTypes := #[t, tx] })
    (base : Nat) (e : TypeId) (z : Value) (size bytes : Nat) (ht : P.underlying t = some (.slice e)) (hi : (P.info? e).map (fun i => (i.zero, i.size, i.bytes)) = some (some z, size, bytes))
    (hzs : z.cells.size = size)
    (v : Value) (n : Nat) (xs : List Value) (hv : a.eval s = v) (hown : w.ownsRow base e size v n xs)
    (y : Value) (m : Nat) (news : List Value) (hx : a.eval x = y) (hs : Src P size tx y m news w)
    (h63 : n + m ≤ maxLen) (hbytes : (n + m + (n + m) / 4 + 512) * bytes ≤ 281474976710656) (hbase : base ≤ w.heap.size)
    (h : ∀ v' w', w'.ownsRow base e size v' (n + m) (xs ++ news) → w.grownBy w' v.ownBlock → Way w v v' → K (a.put o.dst v') w') :
    if Region.wanted o (yielded ops a.tmps) = true then Oper.wp P o a w K Q else E := by
  have hw : Region.wanted o (yielded ops a.tmps) = true := by simp [Region.wanted, hgd]
  rw [if_pos hw]
  obtain ⟨i, hi, hz, hz1, hz2⟩ := info_parts hi
  obtain ⟨v', w', hr, h2, h3, h4⟩ := run_append_where (P := P) w base t tx o.type e i z size bytes ht hi hz hz1 hz2 hzs v n xs hown y m news hs h63 (fun old hold => Nat.le_trans (Nat.mul_le_mul_right _ (nextslicecap_le _ _ hold)) hbytes) hbase
  unfold Oper.wp execOp
  simp only [ho, resolve, invoke, builtin, Sem.run_bind, Sem.run_pure, Result.andThen_ok, List.map_toArray, List.map_cons, List.map_nil, hv, hx, hr]
  refine h v' w' h2 h3 fun g hg => ?_
  rcases h4 with ⟨g', cap, rfl, rfl⟩ | ⟨cap, rfl, _⟩ | ⟨rfl, _, _⟩
  · exact .inl hg
  · right
    have e : some w.heap.size = some g := hg
    injection e with e
    omega
  · exact .inl hg
theorem step_appendRcw {w : World} {ops : Array Oper} {o : Oper} {a : Act} {K : Act → World → Prop} {Q : Exit → Act → World → Prop} {P : Prop} (hgd : o.guard = none) (s x : Operand)
    (ho : o.op = .call { callee := .builtin .append, args := #[s, x], argTypes := #[25, 25] })
    (base : Nat) (v : Value) (L : List Rcd) (hv : a.eval s = v) (hown : OwnRc w base v L)
    (b c : Nat) (r : Rcd) (hx : a.eval x = .slice (some ⟨b, 0, none⟩) 1 c) (hin : InRc w (some ⟨b, 0, none⟩) [r])
    (hr : L.length ≤ 4500000000 ) (hbase : base ≤ w.heap.size)
    (h : ∀ v' w', OwnRc w' base v' (L ++ [r]) → w.grownBy w' v.ownBlock → Way w v v' → K (a.put o.dst v') w') :
    if Region.wanted o (yielded ops a.tmps) = true then Oper.wp Tryz.prog o a w K Q else P := by
  refine step_append_way2 hgd s x 25 25 ho base 35 (.agg #[.int .i64 0, .int .i64 0, .int .i64 0, .string .empty]) 4 40 Tryz.underlying25 infoRc rfl v L.length (rc L) hv hown _ 1 (rc [r]) hx (srcRc hin) (by unfold maxLen; omega) (by omega) hbase ?_
  intro v' w' ho' hg hw
  exact h v' w' (by unfold OwnRc; rw [List.length_append, rc_append]; exact ho') hg hw
end Go.Proofs.YtheoklhmlnfgjaaGreatDoor
/-
  What is read of records that lie one behind the other: plain. No program is in sight here.
-/
namespace Go.Proofs.YtheoklhmlnfgjaaGreatDoor

/-- the records of the part that is sound from the number j on -/
def repFrom (l : BS) (j : Nat) : List Dec := repF l.length l j
theorem rep_from (l : BS) : rep l = repFrom l 0 := rfl
theorem repF_fuel : ∀ (f g : Nat) (l : BS) (j : Nat), l.length ≤ f → l.length ≤ g → repF f l j = repF g l j
  | 0, g, l, j, h, _ => by
    have hl : l = [] := List.eq_nil_of_length_eq_zero (by omega)
    subst hl
    cases g with
    | zero => rfl
    | succ g =>
      unfold repF
      rw [if_neg fun h => by have := dec_len _ h.1 h.2.1; simp at this; omega]
  | f + 1, 0, l, j, _, h => by
    have hl : l = [] := List.eq_nil_of_length_eq_zero (by omega)
    subst hl
    unfold repF
    rw [if_neg fun h => by have := dec_len _ h.1 h.2.1; simp at this; omega]
  | f + 1, g + 1, l, j, h, h' => by
    unfold repF
    by_cases hg : goesOn (dec l) j
    · have hn := dec_len l hg.1 hg.2.1
      rw [if_pos hg, if_pos hg, repF_fuel f g _ _ (by rw [List.length_drop]; omega) (by rw [List.length_drop]; omega)]
    · rw [if_neg hg, if_neg hg]
theorem repFrom_yes {l : BS} {j : Nat} (h : goesOn (dec l) j) : repFrom l j = dec l :: repFrom (l.drop (dec l).n.toNat) (j + 1) := by
  have hn := dec_len l h.1 h.2.1
  unfold repFrom
  obtain ⟨m, hm⟩ : ∃ m, l.length = m + 1 := ⟨l.length - 1, by omega⟩
  rw [hm]
  rw [repF, if_pos h]
  rw [repF_fuel m (l.drop (dec l).n.toNat).length _ _ (by rw [List.length_drop]; omega) (Nat.le_refl _)]
theorem repFrom_no {l : BS} {j : Nat} (h : ¬ goesOn (dec l) j) : repFrom l j = [] := by
  unfold repFrom
  cases hm : l.length with
  | zero => rfl
  | succ m => rw [repF, if_neg h]
theorem repFrom_nil (j : Nat) : repFrom [] j = [] := rfl

/-- the bytes are just these records, numbered from j on, whatever stands behind them -/
def Lays : List Dec → Nat → BS → Prop
  | [], _, c => c = []
  | d :: R, j, c => ∃ c1 c2, c = c1 ++ c2 ∧ (∀ rest, dec (c1 ++ rest) = d) ∧ goesOn d j ∧ d.n = (c1.length : Int) ∧ Lays R (j + 1) c2
theorem Lays.rep : ∀ {R : List Dec} {j : Nat} {c : BS}, Lays R j c → ∀ rest, repFrom (c ++ rest) j = R ++ repFrom rest (j + R.length)
  | [], j, c, h, rest => by
    have h : c = [] := h
    subst h
    rfl
  | d :: R, j, c, h, rest => by
    obtain ⟨c1, c2, rfl, h1, h2, h3, h4⟩ := h
    have e := h1 (c2 ++ rest)
    rw [List.append_assoc, repFrom_yes (by rw [e]; exact h2), e, h3, Int.toNat_natCast, List.drop_left, h4.rep rest, List.cons_append, List.length_cons, show j + 1 + R.length = j + (R.length + 1) by omega]
theorem Lays.len : ∀ {R : List Dec} {j : Nat} {c : BS}, Lays R j c → offs R R.length = c.length
  | [], j, c, h => by
    have h : c = [] := h
    subst h
    rfl
  | d :: R, j, c, h => by
    obtain ⟨c1, c2, rfl, h1, h2, h3, h4⟩ := h
    rw [List.length_cons, offs_cons, h4.len, h3, Int.toNat_natCast, List.length_append]
theorem Lays.app : ∀ {R : List Dec} {j : Nat} {c : BS} {R2 : List Dec} {c2 : BS}, Lays R j c → Lays R2 (j + R.length) c2 → Lays (R ++ R2) j (c ++ c2)
  | [], j, c, R2, c2, h, h2 => by
    have h : c = [] := h
    subst h
    exact h2
  | d :: R, j, c, R2, c2, h, h2 => by
    obtain ⟨c1, c3, rfl, g1, g2, g3, g4⟩ := h
    exact ⟨c1, c3 ++ c2, by rw [List.append_assoc], g1, g2, g3, g4.app (by rw [List.length_cons, show j + (R.length + 1) = j + 1 + R.length by omega] at h2; exact h2)⟩

theorem encErr_zero {s o n : Int} {k : Nat} (h : encErr s o n k = 0) : (o = 1 ∨ o = 2) ∧ (0 ≤ s ∧ s ≤ 4294967295) ∧ (0 ≤ n ∧ n ≤ 4294967295) ∧ k ≤ 4096 := by
  unfold encErr at h
  repeat' split at h
  · exact absurd h (by decide)
  · exact absurd h (by decide)
  · rename_i h1 h2
    refine ⟨?_, ?_, ?_, by omega⟩ <;> (apply Classical.byContradiction; intro hc; apply h1) <;> first | exact .inl (by simpa using hc) | exact .inr (.inl hc) | exact .inr (.inr hc)
/-- a record that is written, as it is read -/
def recD (s o n : Int) (id : BS) : Dec := ⟨s, o, n, id, (id.length + 15 : Nat), 0⟩
theorem enc_read {s o n : Int} {id : BS} (h : encErr s o n id.length = 0) (rest : BS) : dec (encOf s o n id ++ rest) = recD s o n id := by
  obtain ⟨h1, h2, h3, h4⟩ := encErr_zero h
  unfold encOf
  rw [if_pos h, enc_dec s.toNat o.toNat n.toNat id rest (by omega) (by omega) (by omega) h4]
  unfold recD
  congr 1 <;> omega
theorem encOf_len {s o n : Int} {id : BS} (h : encErr s o n id.length = 0) : (encOf s o n id).length = id.length + 15 := by
  unfold encOf
  rw [if_pos h, encAll_len]
theorem enc_lays {s : Nat} {o n : Int} {id : BS} (h : encErr (s : Int) o n id.length = 0) : Lays [recD s o n id] s (encOf s o n id) :=
  ⟨encOf s o n id, [], by rw [List.append_nil], enc_read h, ⟨rfl, by unfold recD; simp only; omega, rfl⟩, by rw [encOf_len h]; rfl, rfl⟩
/-- what goes on is read alike, whatever stands behind it -/
theorem dec_alone {l : BS} {j : Nat} (h : goesOn (dec l) j) (rest : BS) : dec (l.take (dec l).n.toNat ++ rest) = dec l := by
  rcases dec_cases l with e | e | ⟨e, h1, h2, h3, h4, h5⟩
  · rw [e] at h; exact absurd rfl h.2.1
  · rw [e] at h; exact absurd h.1 (by decide)
  · obtain ⟨g1, g2⟩ := good_enc l h1 h3 h4 h5
    have hn : (decGood l).n.toNat = decK l + 15 := by unfold decGood; simp only; omega
    have hid : (decGood l).ident.length = decK l := by unfold decGood; simp only; rw [sl_length _ _ _ (by omega)]; omega
    rw [e, hn, ← g2, enc_read g1]
    unfold recD
    rw [hid]
    unfold decGood
    rfl
theorem rep_lays : ∀ (f : Nat) (l : BS) (j : Nat), l.length ≤ f → Lays (repFrom l j) j (l.take (offs (repFrom l j) (repFrom l j).length))
  | 0, l, j, h => by
    have hl : l = [] := List.eq_nil_of_length_eq_zero (by omega)
    subst hl
    rfl
  | f + 1, l, j, h => by
    by_cases hg : goesOn (dec l) j
    · have hn := dec_len l hg.1 hg.2.1
      have ih := rep_lays f (l.drop (dec l).n.toNat) (j + 1) (by rw [List.length_drop]; omega)
      rw [repFrom_yes hg]
      refine ⟨l.take (dec l).n.toNat, _, ?_, dec_alone hg, hg, by rw [List.length_take]; omega, ih⟩
      rw [List.length_cons, offs_cons, List.take_add]
    · rw [repFrom_no hg]
      rfl
theorem sound_lays (b : BS) : Lays (rep b) 0 (b.take (repN b)) := rep_lays b.length b 0 (Nat.le_refl _)
theorem repN_le (b : BS) : repN b ≤ b.length := offs_le b _ (Nat.le_refl _)
/-- the sound part alone -/
theorem rep_sound (b : BS) : rep (b.take (repN b)) = rep b := by
  have := (sound_lays b).rep []
  rw [List.append_nil, repFrom_nil, List.append_nil] at this
  exact this
theorem repN_of {b c : BS} (h : rep c = rep b) : repN c = repN b := by unfold repN; rw [h]
/-- a record of the right number goes on -/
theorem rep_more (b : BS) {o n : Int} {id : BS} (h : encErr ((rep b).length : Int) o n id.length = 0) :
    rep (b.take (repN b) ++ encOf ((rep b).length : Int) o n id) = rep b ++ [recD (rep b).length o n id] ∧ repN (b.take (repN b) ++ encOf ((rep b).length : Int) o n id) = repN b + (encOf ((rep b).length : Int) o n id).length := by
  have hl := (sound_lays b).app (R2 := [recD (rep b).length o n id]) (by rw [Nat.zero_add]; exact enc_lays h)
  have h1 := hl.rep []
  rw [List.append_nil, repFrom_nil, List.append_nil] at h1
  refine ⟨h1, ?_⟩
  have e : repN (b.take (repN b) ++ encOf ((rep b).length : Int) o n id) = offs (rep b ++ [recD (rep b).length o n id]) (rep b ++ [recD (rep b).length o n id]).length := by
    have h1' : rep (b.take (repN b) ++ encOf ((rep b).length : Int) o n id) = rep b ++ [recD (rep b).length o n id] := h1
    show offs (rep _) (rep _).length = _
    rw [h1']
  rw [e, hl.len, List.length_append, List.length_take, Nat.min_eq_left (repN_le b)]
/-- a record of another number doesn't -/
theorem rep_wrong (b : BS) (o n : Int) (id : BS) : rep (b.take (repN b) ++ encOf (((rep b).length : Int) + 1) o n id) = rep b := by
  have h1 := (sound_lays b).rep (encOf (((rep b).length : Int) + 1) o n id)
  rw [rep_from, h1, Nat.zero_add]
  have : repFrom (encOf (((rep b).length : Int) + 1) o n id) (rep b).length = [] := by
    by_cases h : encErr (((rep b).length : Int) + 1) o n id.length = 0
    · refine repFrom_no fun hg => ?_
      have e := enc_read h []
      rw [List.append_nil] at e
      rw [e] at hg
      have := hg.2.2
      unfold recD at this
      simp only at this
      omega
    · unfold encOf
      rw [if_neg h]
      rfl
  rw [this, List.append_nil]

/-- records, numbered from j on, as they are read -/
def recsD : List Rcd → Nat → List Dec
  | [], _ => []
  | x :: L, j => recD j x.op x.no x.ident :: recsD L (j + 1)
def numR : List Rcd → Nat → List Rcd
  | [], _ => []
  | x :: L, j => ⟨j, x.op, x.no, x.ident⟩ :: numR L (j + 1)
theorem recsD_length : ∀ (L : List Rcd) (j : Nat), (recsD L j).length = L.length
  | [], _ => rfl
  | x :: L, j => by unfold recsD; rw [List.length_cons, List.length_cons, recsD_length L]
theorem recsD_rcd : ∀ (L : List Rcd) (j : Nat), (recsD L j).map Dec.rcd = numR L j
  | [], _ => rfl
  | x :: L, j => by unfold recsD numR; rw [List.map_cons, recsD_rcd L]; rfl
theorem numR_length : ∀ (L : List Rcd) (j : Nat), (numR L j).length = L.length
  | [], _ => rfl
  | x :: L, j => by unfold numR; rw [List.length_cons, List.length_cons, numR_length L]
theorem encB_lays : ∀ (L : List Rcd) (j : Nat), encZ L j = 0 → Lays (recsD L j) j (encB L j)
  | [], _, _ => rfl
  | x :: L, j, h => by
    unfold encZ at h
    by_cases h0 : encErr (j : Int) x.op x.no x.ident.length = 0
    · rw [if_neg (by simpa using h0)] at h
      refine ⟨encOf (j : Int) x.op x.no x.ident, encB L (j + 1), rfl, enc_read h0, ⟨rfl, by unfold recD; simp only; omega, rfl⟩, by rw [encOf_len h0]; rfl, encB_lays L (j + 1) h⟩
    · rw [if_pos h0] at h; exact absurd h h0
/-- records that are written are read -/
theorem rep_encB {L : List Rcd} (h : encZ L 0 = 0) : rep (encB L 0) = recsD L 0 ∧ repN (encB L 0) = (encB L 0).length := by
  have hl := encB_lays L 0 h
  have h1 := hl.rep []
  rw [List.append_nil, repFrom_nil, List.append_nil] at h1
  refine ⟨h1, ?_⟩
  unfold repN
  rw [show rep (encB L 0) = recsD L 0 from h1, hl.len]
/-- of a beginning of them a beginning is read: those that lie there whole -/
theorem rep_encB_take : ∀ (L : List Rcd) (j k : Nat), encZ L j = 0 → ∃ m, m ≤ L.length ∧ repFrom ((encB L j).take k) j = recsD (L.take m) j ∧ ∀ i, i ≤ L.length → (encB (L.take i) j).length ≤ k → i ≤ m
  | [], j, k, _ => ⟨0, Nat.le_refl _, by simp [encB, recsD, repFrom_nil], fun i hi _ => hi⟩
  | x :: L, j, k, h => by
    unfold encZ at h
    by_cases h0 : encErr (j : Int) x.op x.no x.ident.length = 0
    · rw [if_neg (by simpa using h0)] at h
      have hlen := encOf_len h0
      by_cases hk : k < (encOf (j : Int) x.op x.no x.ident).length
      · refine ⟨0, Nat.zero_le _, ?_, fun i hi hl => ?_⟩
        · unfold encB
          rw [List.take_append_of_le_length (by omega)]
          refine repFrom_no fun hg => ?_
          obtain ⟨h1, h2, h3, h4⟩ := encErr_zero h0
          have hc := enc_cut (j : Int).toNat x.op.toNat x.no.toNat x.ident (by omega) h4 k (by omega)
          have ee : encOf (j : Int) x.op x.no x.ident = encAll (j : Int).toNat x.op.toNat x.no.toNat x.ident := by unfold encOf; rw [if_pos h0]
          rw [← ee] at hc
          rw [hc] at hg
          exact hg.2.1 rfl
        · cases i with
          | zero => exact Nat.le_refl _
          | succ i =>
            rw [List.take_succ_cons] at hl
            unfold encB at hl
            rw [List.length_append] at hl
            omega
      · obtain ⟨m, h1, h2, h3⟩ := rep_encB_take L (j + 1) (k - (encOf (j : Int) x.op x.no x.ident).length) h
        refine ⟨m + 1, by simp only [List.length_cons]; omega, ?_, fun i hi hl => ?_⟩
        · unfold encB
          rw [List.take_append, List.take_of_length_le (by omega)]
          have hr := (enc_lays (s := j) h0).rep ((encB L (j + 1)).take (k - (encOf (j : Int) x.op x.no x.ident).length))
          rw [hr, List.length_singleton, h2, List.take_succ_cons]
          rfl
        · cases i with
          | zero => exact Nat.zero_le _
          | succ i =>
            rw [List.take_succ_cons] at hl
            unfold encB at hl
            rw [List.length_append] at hl
            have := h3 i (by simpa using hi) (by omega)
            omega
    · rw [if_pos h0] at h; exact absurd h h0
theorem recsD_take : ∀ (L : List Rcd) (j m : Nat), recsD (L.take m) j = (recsD L j).take m
  | [], _, _ => by simp [recsD]
  | x :: L, j, 0 => by simp [recsD]
  | x :: L, j, m + 1 => by rw [List.take_succ_cons]; unfold recsD; rw [List.take_succ_cons, recsD_take L]
end Go.Proofs.YtheoklhmlnfgjaaGreatDoor
/-
  Steps of a plain disk whose power is on and that has no fails; and of one whose power is off: plain.
-/
namespace Go.Proofs.YtheoklhmlnfgjaaGreatDoor

section
variable {A : Pl}
theorem do_down (hd : downP A = true) (o : Opp) : doP A o = (A, 93) := by
  have hb : ∀ L, begP A L = 93 := fun L => by unfold begP; rw [if_pos hd]
  have ht : tickP A = A := by unfold tickP; rw [if_pos hd]
  have ho : ∀ L k, onP A L k = 93 := fun L k => by unfold onP; rw [hb, if_pos (by decide)]
  cases o with
  | create k => rw [doP_create, hb, if_pos (by decide), ht]
  | append k d => rw [doP_append, ho, if_pos (by decide), ht]
  | sync k => rw [doP_sync, ho, if_pos (by decide), ht]
  | names => rw [doP_names, hb, if_pos (by decide), ht]
  | rename a b => rw [doP_rename, ho, if_pos (by decide), ht]
  | remove k => rw [doP_remove, ho, if_pos (by decide), ht]
theorem up_beg (hd : downP A = false) (hf : A.fails = []) (L : List BS) (hL : L.any badN = false) : begP A L = 0 := by
  unfold begP
  rw [hd, hf, hL]
  rfl
theorem up_tick (hd : downP A = false) : tickP A = { A with steps := A.steps + 1 } := by
  unfold tickP
  rw [hd]
  rfl
theorem up_on (hd : downP A = false) (hf : A.fails = []) (L : List BS) (k : BS) (hL : (L ++ [k]).any badN = false) {i : Nat} (hk : lookN A.now k = some i) : onP A L k = 0 := by
  unfold onP
  rw [up_beg hd hf _ hL, if_neg (by simp), if_neg (by rw [hk]; simp)]
theorem up_create (hd : downP A = false) (hf : A.fails = []) {k : BS} (hg : badN k = false) (hk : lookN A.now k = none) :
    doP A (.create k) = ({ A with steps := A.steps + 1, now := insN k A.files.length A.now, pend := A.pend ++ [.put k A.files.length], files := A.files ++ [([], 0)] }, 0) := by
  rw [doP_create, up_beg hd hf _ (by simp [hg]), if_neg (by simp), if_neg (by rw [hk]; simp)]
  unfold chgP
  rw [up_tick hd]
  rfl
theorem up_append (hd : downP A = false) (hf : A.fails = []) {k d : BS} (hg : badN k = false) {i : Nat} (hk : lookN A.now k = some i) (hr : usedP A + d.length ≤ A.room) :
    doP A (.append k d) = ({ A with steps := A.steps + 1, files := A.files.modify i fun x => (x.1 ++ d, x.2) }, 0) := by
  rw [doP_append, up_on hd hf [] k (by simp [hg]) hk, if_neg (by simp), if_neg (by omega), up_tick hd]
  unfold atP
  rw [hk]
  rfl
theorem up_full (hd : downP A = false) (hf : A.fails = []) {k d : BS} (hg : badN k = false) {i : Nat} (hk : lookN A.now k = some i) (h0 : 0 < d.length) (hr : A.room < usedP A + d.length) :
    doP A (.append k d) = ({ A with steps := A.steps + 1 }, 92) := by
  rw [doP_append, up_on hd hf [] k (by simp [hg]) hk, if_neg (by simp), if_pos ⟨h0, hr⟩, up_tick hd]
theorem up_sync (hd : downP A = false) (hf : A.fails = []) {k : BS} (hg : badN k = false) {i : Nat} (hk : lookN A.now k = some i) :
    doP A (.sync k) = ({ A with steps := A.steps + 1, files := A.files.modify i fun x => (x.1, x.1.length) }, 0) := by
  rw [doP_sync, up_on hd hf [] k (by simp [hg]) hk, if_neg (by simp), up_tick hd]
  unfold atP
  rw [hk]
  rfl
theorem up_names (hd : downP A = false) (hf : A.fails = []) :
    doP A .names = ({ A with steps := A.steps + 1, safe := A.now, pend := [] }, 0) := by
  rw [doP_names, up_beg hd hf _ (by simp), if_neg (by simp), up_tick hd]
theorem up_rename (hd : downP A = false) (hf : A.fails = []) {a b : BS} (ha : badN a = false) (hb : badN b = false) (hne : a ≠ b) {i : Nat} (hk : lookN A.now a = some i) :
    doP A (.rename a b) = ({ A with steps := A.steps + 1, now := insN b i (delN a A.now), pend := A.pend ++ [.ren a b i] }, 0) := by
  rw [doP_rename, up_on hd hf [b] a (by simp [ha, hb]) hk, if_neg (by simp), if_neg hne]
  unfold chgP atP
  rw [up_tick hd, hk]
  rfl
theorem up_remove (hd : downP A = false) (hf : A.fails = []) {k : BS} (hg : badN k = false) {i : Nat} (hk : lookN A.now k = some i) :
    doP A (.remove k) = ({ A with steps := A.steps + 1, now := delN k A.now, pend := A.pend ++ [.del k] }, 0) := by
  rw [doP_remove, up_on hd hf [] k (by simp [hg]) hk, if_neg (by simp)]
  unfold chgP
  rw [up_tick hd]
  rfl
theorem steps_nil : stepsP A [] = (A, 0, 0) := rfl
theorem steps_bad {o : Opp} {L : List Opp} (h : (doP A o).2 ≠ 0) : stepsP A (o :: L) = ((doP A o).1, 0, (doP A o).2) := by
  rw [stepsP, if_pos h]
theorem steps_good {o : Opp} {L : List Opp} {B : Pl} (h : doP A o = (B, 0)) : stepsP A (o :: L) = ((stepsP B L).1, (stepsP B L).2.1 + 1, (stepsP B L).2.2) := by
  rw [stepsP, if_neg (by rw [h]; simp), h]
theorem steps_down (hd : downP A = true) (o : Opp) (L : List Opp) : stepsP A (o :: L) = (A, 0, 93) := by
  rw [steps_bad (by rw [do_down hd]; simp), do_down hd]
end
theorem logN_good : badN logN = false := by kernel_rfl
theorem newN_good : badN newN = false := by kernel_rfl
theorem log_new : newN ≠ logN := by decide
theorem new_log : logN ≠ newN := by decide
end Go.Proofs.YtheoklhmlnfgjaaGreatDoor
/-
  What a new Open reads of what is left: plain. No program is in sight here.
-/
namespace Go.Proofs.YtheoklhmlnfgjaaGreatDoor

abbrev roomS : Nat := 1048576
theorem rec_repR {L : List Rcd} {m j : Nat} {b : BS} (h : repFrom b j = recsD (L.take m) j) : (repFrom b j).map Dec.rcd = numR (L.take m) j := by rw [h, recsD_rcd]
theorem numR_take : ∀ (L : List Rcd) (j m : Nat), numR (L.take m) j = (numR L j).take m
  | [], _, _ => by simp [numR]
  | x :: L, j, 0 => by simp [numR]
  | x :: L, j, m + 1 => by rw [List.take_succ_cons]; unfold numR; rw [List.take_succ_cons, numR_take L]
theorem encB_num : ∀ (L : List Rcd) (j i : Nat), encB (numR L i) j = encB L j
  | [], _, _ => rfl
  | x :: L, j, i => by unfold numR encB; rw [encB_num L]
theorem encZ_num : ∀ (L : List Rcd) (j i : Nat), encZ (numR L i) j = encZ L j
  | [], _, _ => rfl
  | x :: L, j, i => by unfold numR encZ; rw [encZ_num L]
theorem encZ_take {L : List Rcd} (h : encZ L 0 = 0) (m : Nat) : encZ (L.take m) 0 = 0 := by
  apply Classical.byContradiction
  intro hc
  have := encZ_bad (L.take m) (L.drop m) 0 hc
  rw [List.take_append_drop, h] at this
  exact hc this.symm

/-- the disk of one file: the log -/
def oneP (b : BS) (pw : Int) : Pl := ⟨[(logN, 0)], [(logN, 0)], [], [(b, b.length)], roomS, [], pw, 0⟩
theorem one_new (b : BS) (pw : Int) : newP [(logN, b)] 1048576 [] pw = oneP b pw := rfl
theorem nil_new (pw : Int) : newP [] 1048576 [] pw = ⟨[], [], [], [], roomS, [], pw, 0⟩ := rfl
theorem two_new (b x : BS) (pw : Int) : newP [(logN, b), (newN, x)] 1048576 [] pw = ⟨[(logN, 0), (newN, 1)], [(logN, 0), (newN, 1)], [], [(b, b.length), (x, x.length)], roomS, [], pw, 0⟩ := rfl
theorem up_minus {A : Pl} (h : A.power = -1) : downP A = false := by
  unfold downP
  rw [h]
  simp
theorem read_log {A : Pl} (hd : downP A = false) {i : Nat} (hk : lookN A.now logN = some i) : readEP A logN = 0 ∧ readP A logN = datP A i := by
  have h0 : readEP A logN = 0 := by
    unfold readEP
    rw [hd, logN_good, hk]
    simp
  refine ⟨h0, ?_⟩
  unfold readP atP
  rw [if_pos h0, hk]
  rfl

theorem ins_used (M : NM) (k : BS) (F : List (BS × Nat)) : ((insN k F.length M).map fun x => lenF F x.2).sum ≤ (M.map fun x => lenF F x.2).sum := by
  induction M with
  | nil => simp [insN, lenF_out F F.length (Nat.le_refl _)]
  | cons x M ih =>
    obtain ⟨m, g⟩ := x
    unfold insN
    split
    · simp only [List.map_cons, List.sum_cons, lenF_out F F.length (Nat.le_refl _)]
      omega
    · split
      · simp only [List.map_cons, List.sum_cons, lenF_out F F.length (Nat.le_refl _)]
        omega
      · simp only [List.map_cons, List.sum_cons]
        omega
/-- a rewrite of a disk that is up for good goes through -/
theorem rewrite_up {A : Pl} (hp : A.power = -1) (hf : A.fails = []) (hn : lookN A.now newN = none) (R : List Rcd) (hz : encZ R 0 = 0) (hr : usedP A + (encB R 0).length ≤ A.room) (c : Int) : (rewriteP A c R).2.2 = 0 := by
  obtain ⟨B, hB⟩ : ∃ B, B = encB R 0 := ⟨_, rfl⟩
  rw [← hB] at hr
  have d0 := up_minus hp
  have s0 := up_create d0 hf newN_good hn
  obtain ⟨A1, hA1⟩ : ∃ X, X = ({ A with steps := A.steps + 1, now := insN newN A.files.length A.now, pend := A.pend ++ [.put newN A.files.length], files := A.files ++ [([], 0)] } : Pl) := ⟨_, rfl⟩
  rw [← hA1] at s0
  have p1 : A1.power = -1 := by rw [hA1]; exact hp
  have f1 : A1.fails = [] := by rw [hA1]; exact hf
  have l1 : lookN A1.now newN = some A.files.length := by rw [hA1]; exact lookN_ins_same _ _ _
  have r1 : A1.room = A.room := by rw [hA1]
  have u1 : usedP A1 ≤ usedP A := by
    have : A1 = (doP A (.create newN)).1 := by rw [s0]
    rw [hA1, usedP_eq, usedP_eq]
    show ((insN newN A.files.length A.now).map fun x => lenF (A.files ++ [([], 0)]) x.2).sum ≤ _
    rw [show (fun x : BS × Nat => lenF (A.files ++ [([], 0)]) x.2) = fun x => lenF A.files x.2 from funext fun x => lenF_add _ _]
    exact ins_used A.now newN A.files
  have s1 := up_append (up_minus p1) f1 newN_good l1 (d := B) (by rw [r1]; omega)
  obtain ⟨A2, hA2⟩ : ∃ X, X = ({ A1 with steps := A1.steps + 1, files := A1.files.modify A.files.length fun x => (x.1 ++ B, x.2) } : Pl) := ⟨_, rfl⟩
  rw [← hA2] at s1
  have p2 : A2.power = -1 := by rw [hA2]; exact p1
  have f2 : A2.fails = [] := by rw [hA2]; exact f1
  have l2 : lookN A2.now newN = some A.files.length := by rw [hA2]; exact l1
  have s2 := up_sync (up_minus p2) f2 newN_good l2
  obtain ⟨A3, hA3⟩ : ∃ X, X = ({ A2 with steps := A2.steps + 1, files := A2.files.modify A.files.length fun x => (x.1, x.1.length) } : Pl) := ⟨_, rfl⟩
  rw [← hA3] at s2
  have p3 : A3.power = -1 := by rw [hA3]; exact p2
  have f3 : A3.fails = [] := by rw [hA3]; exact f2
  have l3 : lookN A3.now newN = some A.files.length := by rw [hA3]; exact l2
  have s3 := up_rename (up_minus p3) f3 newN_good logN_good log_new l3
  obtain ⟨A4, hA4⟩ : ∃ X, X = ({ A3 with steps := A3.steps + 1, now := insN logN A.files.length (delN newN A3.now), pend := A3.pend ++ [.ren newN logN A.files.length] } : Pl) := ⟨_, rfl⟩
  rw [← hA4] at s3
  have p4 : A4.power = -1 := by rw [hA4]; exact p3
  have f4 : A4.fails = [] := by rw [hA4]; exact f3
  have s4 := up_names (up_minus p4) f4
  unfold rewriteP
  rw [if_neg (by rw [hz]; simp), ← hB, steps_good s0, steps_good s1, steps_good s2, steps_good s3, steps_nil]
  simp only [Nat.zero_add, Nat.reduceAdd, if_true]
  rw [s4]
/-- a disk that holds the log, whole or the beginning of one, and is up for good: its records are read -/
theorem open_log {A : Pl} (hp : A.power = -1) (hf : A.fails = []) (hn : A.now = [(logN, 0)]) (hroom : A.room = roomS) (L : List Rcd) (k : Nat) (hz : encZ L 0 = 0) (hb : datP A 0 = (encB L 0).take k) (hL : L.length ≤ 100) (hsw : sweepP A = (A, 0)) :
    ∃ m, m ≤ L.length ∧ (openP A).2.1 = (numR L 0).take m ∧ (openP A).2.2 = 0 ∧ ∀ i, i ≤ L.length → (encB (L.take i) 0).length ≤ k → i ≤ m := by
  have hd := up_minus hp
  have hlk : lookN A.now logN = some 0 := by rw [hn]; rfl
  obtain ⟨e1, e2⟩ := read_log hd hlk
  obtain ⟨m, h1, h2, h3⟩ := rep_encB_take L 0 k hz
  have hR : repR (datP A 0) = (numR L 0).take m := by
    rw [hb, ← numR_take]
    exact rec_repR h2
  have hbl : (datP A 0).length ≤ 411100 := by
    have := encB_length L 0
    rw [hb, List.length_take]
    omega
  have hrw : (rewriteP A 0 ((numR L 0).take m)).2.2 = 0 := by
    refine rewrite_up hp hf (by rw [hn]; decide) _ ?_ ?_ 0
    · rw [← numR_take, encZ_num]
      exact encZ_take hz m
    · have h4 := encB_length ((numR L 0).take m) 0
      have h5 : usedP A = (datP A 0).length := by unfold usedP; rw [hn]; simp
      rw [List.length_take, numR_length] at h4
      rw [hroom, h5]
      show _ ≤ 1048576
      omega
  refine ⟨m, h1, ?_, ?_, h3⟩
  all_goals
    unfold openP
    rw [hsw]
    simp only
    rw [if_neg (by simp), e1, if_neg (by decide), if_neg (by simp), e2, hR]
  · split
    · split
      · rename_i h
        exact absurd hrw h
      · rfl
    · rfl
  · split
    · split
      · rename_i h
        exact absurd hrw h
      · rfl
    · rfl
end Go.Proofs.YtheoklhmlnfgjaaGreatDoor
/-
  The log behind any number of records, and a loss of power: plain. No program is in sight here.
-/
namespace Go.Proofs.YtheoklhmlnfgjaaGreatDoor

def nilP (pw : Int) : Pl := ⟨[], [], [], [], roomS, [], pw, 0⟩
def begunP (pw : Int) : Pl := ⟨[(logN, 0)], [(logN, 0)], [], [([], 0)], roomS, [], pw, 3⟩
theorem down_is (A : Pl) : downP A = decide (0 ≤ A.power ∧ (A.steps : Int) = A.power) := rfl
theorem not_down {A : Pl} (h : ¬ (A.steps : Int) = A.power) : downP A = false := by
  rw [down_is]
  simp [h]
/-- the log of a disk that holds nothing -/
theorem open_nil (pw : Int) : (openP (nilP pw) = (begunP pw, [], 0)) ∨ ((openP (nilP pw)).2.1 = [] ∧ (openP (nilP pw)).2.2 = 93 ∧ ∀ fn K, leftP (openP (nilP pw)).1 fn K = [] ∨ leftP (openP (nilP pw)).1 fn K = [(logN, [])]) := by
  by_cases h0 : pw = 0
  · subst h0
    right
    have e : openP (nilP 0) = (nilP 0, [], 93) := by kernel_rfl
    rw [e]
    refine ⟨rfl, rfl, fun fn K => .inl ?_⟩
    unfold leftP leftNP nilP
    simp
  · by_cases h1 : pw = 1
    · subst h1
      right
      have e : openP (nilP 1) = (⟨[(logN, 0)], [], [.put logN 0], [([], 0)], roomS, [], 1, 1⟩, [], 93) := by kernel_rfl
      rw [e]
      exact ⟨rfl, rfl, fun fn K => left_put _ rfl rfl rfl fn K⟩
    · by_cases h2 : pw = 2
      · subst h2
        right
        have e : openP (nilP 2) = (⟨[(logN, 0)], [], [.put logN 0], [([], 0)], roomS, [], 2, 2⟩, [], 93) := by kernel_rfl
        rw [e]
        exact ⟨rfl, rfl, fun fn K => left_put _ rfl rfl rfl fn K⟩
      · left
        have d0 : downP (nilP pw) = false := not_down (by unfold nilP; simp only; omega)
        have s0 := up_create d0 rfl logN_good (show lookN (nilP pw).now logN = none from rfl)
        have d1 : downP ⟨[(logN, 0)], [], [.put logN 0], [([], 0)], roomS, [], pw, 1⟩ = false := not_down (by simp only; omega)
        have s1 := up_sync d1 rfl logN_good (show lookN [(logN, 0)] logN = some 0 from rfl)
        have d2 : downP ⟨[(logN, 0)], [], [.put logN 0], [([], 0)], roomS, [], pw, 2⟩ = false := not_down (by simp only; omega)
        have s2 := up_names d2 rfl
        have hl : listP (nilP pw) = [] := by unfold listP; rw [d0]; rfl
        have hs : sweepP (nilP pw) = (nilP pw, 0) := by unfold sweepP; rw [hl, if_neg (by simp)]
        have hr : readEP (nilP pw) logN = 90 := by unfold readEP; rw [d0, logN_good]; rfl
        unfold openP
        rw [hs]
        simp only
        rw [if_neg (by simp), if_pos hr, steps_good s0]
        have s1' : doP ({ nilP pw with steps := (nilP pw).steps + 1, now := insN logN (nilP pw).files.length (nilP pw).now, pend := (nilP pw).pend ++ [.put logN (nilP pw).files.length], files := (nilP pw).files ++ [([], 0)] } : Pl) (.sync logN) = (⟨[(logN, 0)], [], [.put logN 0], [([], 0)], roomS, [], pw, 2⟩, 0) := s1
        have s2' : doP ⟨[(logN, 0)], [], [.put logN 0], [([], 0)], roomS, [], pw, 2⟩ .names = (begunP pw, 0) := s2
        rw [steps_good s1', steps_good s2', steps_nil]
where
  left_put (A : Pl) (hs : A.safe = []) (hp : A.pend = [.put logN 0]) (hf : A.files = [([], 0)]) (fn : Int) (K : List Int) : leftP A fn K = [] ∨ leftP A fn K = [(logN, [])] := by
    unfold leftP leftNP
    rw [hs, hp]
    rcases Nat.eq_zero_or_pos fn.toNat with h | h
    · rw [h]
      exact .inl rfl
    · right
      rw [List.take_of_length_le (show 1 ≤ fn.toNat from h)]
      show [(logN, leftDP A K 0)] = _
      unfold leftDP datP
      rw [hf]
      simp

/-- the log with the records L; of the first of them, so many, all is safe -/
structure LogS (A : Pl) (L : List Rcd) (firm : Nat) (pw : Int) : Prop where
  now : A.now = [(logN, 0)]
  safe : A.safe = [(logN, 0)]
  pend : A.pend = []
  file : ∃ f, A.files = [(encB L 0, f)] ∧ f ≤ (encB L 0).length ∧ (encB (L.take firm) 0).length ≤ f
  fails : A.fails = []
  room : A.room = roomS
  power : A.power = pw
  good : encZ L 0 = 0
  firm : firm ≤ L.length
theorem LogS.start (pw : Int) : LogS (begunP pw) [] 0 pw := ⟨rfl, rfl, rfl, ⟨0, rfl, Nat.le_refl _, Nat.le_refl _⟩, rfl, rfl, rfl, rfl, Nat.le_refl _⟩
theorem LogS.tick {A : Pl} {L : List Rcd} {firm : Nat} {pw : Int} (h : LogS A L firm pw) (s : Nat) : LogS { A with steps := s } L firm pw := ⟨h.now, h.safe, h.pend, h.file, h.fails, h.room, h.power, h.good, h.firm⟩
theorem encErr_not {s o n : Int} {k : Nat} : encErr s o n k ≠ 93 := by
  unfold encErr
  repeat' split
  all_goals decide
theorem encB_mono (L : List Rcd) (x : Rcd) (firm : Nat) (h : firm ≤ L.length) : (L ++ [x]).take firm = L.take firm := List.take_append_of_le_length h
/-- one record more -/
theorem LogS.add {A : Pl} {L : List Rcd} {firm : Nat} {pw : Int} (h : LogS A L firm pw) (x : Rcd) (hL : L.length < 200) :
    ((addP A L.length x.op x.no x.ident).2.2 ≠ 0 ∧ (addP A L.length x.op x.no x.ident).2.2 ≠ 93 ∧ (addP A L.length x.op x.no x.ident).2.1 = L.length ∧ LogS (addP A L.length x.op x.no x.ident).1 L firm pw) ∨
    ((addP A L.length x.op x.no x.ident).2.2 = 93 ∧ pw ≠ -1 ∧ (((addP A L.length x.op x.no x.ident).2.1 = L.length ∧ encErr (L.length : Int) x.op x.no x.ident.length = 0 ∧ LogS (addP A L.length x.op x.no x.ident).1 L firm pw) ∨ ((addP A L.length x.op x.no x.ident).2.1 = (L.length : Int) + 1 ∧ LogS (addP A L.length x.op x.no x.ident).1 (L ++ [x]) firm pw))) ∨
    ((addP A L.length x.op x.no x.ident).2.2 = 0 ∧ (addP A L.length x.op x.no x.ident).2.1 = (L.length : Int) + 1 ∧ LogS (addP A L.length x.op x.no x.ident).1 (L ++ [x]) (L.length + 1) pw) := by
  obtain ⟨f, hf, hfl, hff⟩ := h.file
  have hlk : lookN A.now logN = some 0 := by rw [h.now]; rfl
  by_cases h0 : encErr (L.length : Int) x.op x.no x.ident.length = 0
  · obtain ⟨d, hd⟩ : ∃ d, d = encOf (L.length : Int) x.op x.no x.ident := ⟨_, rfl⟩
    have hadd : addP A L.length x.op x.no x.ident = if (doP A (.append logN d)).2 ≠ 0 then ((doP A (.append logN d)).1, (L.length : Int), (doP A (.append logN d)).2) else ((doP (doP A (.append logN d)).1 (.sync logN)).1, (L.length : Int) + 1, (doP (doP A (.append logN d)).1 (.sync logN)).2) := by
      unfold addP
      rw [if_neg (by simpa using h0), ← hd]
    by_cases hdn : downP A = true
    · rw [do_down hdn, if_pos (by simp)] at hadd
      rw [hadd]
      refine .inr (.inl ⟨rfl, ?_, .inl ⟨rfl, h0, h⟩⟩)
      rw [down_is, h.power] at hdn
      have := of_decide_eq_true hdn
      omega
    · have hdn : downP A = false := by simpa using hdn
      have hu : usedP A = (encB L 0).length := by
        unfold usedP datP
        rw [h.now, hf]
        simp
      have hel := encB_length L 0
      have hdl : d.length ≤ 4111 := by rw [hd]; exact encOf_length _ _ _ _
      have s0 := up_append hdn h.fails (d := d) logN_good hlk (by rw [hu, h.room]; show _ ≤ 1048576; omega)
      obtain ⟨A1, hA1⟩ : ∃ X, X = ({ A with steps := A.steps + 1, files := A.files.modify 0 fun x => (x.1 ++ d, x.2) } : Pl) := ⟨_, rfl⟩
      rw [← hA1] at s0
      rw [s0, if_neg (by simp)] at hadd
      have hB : encB (L ++ [x]) 0 = encB L 0 ++ d := by rw [encB_app, Nat.zero_add, hd]; simp [encB]
      have hZ : encZ (L ++ [x]) 0 = 0 := by
        rw [encZ_app _ _ _ h.good, Nat.zero_add]
        unfold encZ
        rw [if_neg (by simpa using h0)]
        rfl
      have f1 : A1.files = [(encB (L ++ [x]) 0, f)] := by rw [hA1, hB, hf]; rfl
      have hl1 : (encB L 0).length ≤ (encB (L ++ [x]) 0).length := by rw [hB, List.length_append]; omega
      have L1 : LogS A1 (L ++ [x]) firm pw := by
        rw [hA1] at f1 ⊢
        exact ⟨h.now, h.safe, h.pend, ⟨f, f1, by omega, by rw [encB_mono L x firm h.firm]; exact hff⟩, h.fails, h.room, h.power, hZ, by rw [List.length_append]; have := h.firm; omega⟩
      by_cases hd1 : downP A1 = true
      · rw [do_down hd1] at hadd
        rw [hadd]
        refine .inr (.inl ⟨rfl, ?_, .inr ⟨rfl, L1⟩⟩)
        rw [down_is, L1.power] at hd1
        have := of_decide_eq_true hd1
        omega
      · have hd1 : downP A1 = false := by simpa using hd1
        have s1 := up_sync hd1 L1.fails logN_good (show lookN A1.now logN = some 0 by rw [L1.now]; rfl)
        rw [s1] at hadd
        rw [hadd]
        refine .inr (.inr ⟨rfl, rfl, L1.now, L1.safe, L1.pend, ⟨(encB (L ++ [x]) 0).length, ?_, Nat.le_refl _, ?_⟩, L1.fails, L1.room, L1.power, hZ, by rw [List.length_append]; simp⟩)
        · show A1.files.modify 0 _ = _
          rw [f1]
          rfl
        · rw [List.take_of_length_le (by simp)]
          exact Nat.le_refl _
  · have hadd : addP A L.length x.op x.no x.ident = (A, (L.length : Int), encErr (L.length : Int) x.op x.no x.ident.length) := by
      unfold addP
      rw [if_pos (by simpa using h0)]
    rw [hadd]
    exact .inl ⟨h0, encErr_not, rfl, h⟩
/-- what a loss of power leaves of it -/
theorem LogS.left {A : Pl} {L : List Rcd} {firm : Nat} {pw : Int} (h : LogS A L firm pw) (fn : Int) (K : List Int) : ∃ k, leftP A fn K = [(logN, (encB L 0).take k)] ∧ (encB (L.take firm) 0).length ≤ k := by
  obtain ⟨f, hf, hfl, hff⟩ := h.file
  refine ⟨f + moreP K 0 ((encB L 0).length - f), ?_, by omega⟩
  unfold leftP leftNP
  rw [h.pend, h.safe]
  rw [List.take_nil]
  show [(logN, leftDP A K 0)] = _
  unfold leftDP datP firmP
  rw [hf]
  rfl
/-- a disk made of what is left: its log -/
theorem open_one (L : List Rcd) (k : Nat) (hz : encZ L 0 = 0) (hL : L.length ≤ 100) :
    ∃ m, m ≤ L.length ∧ (openP (oneP ((encB L 0).take k) (-1))).2.1 = (numR L 0).take m ∧ (openP (oneP ((encB L 0).take k) (-1))).2.2 = 0 ∧ ∀ i, i ≤ L.length → (encB (L.take i) 0).length ≤ k → i ≤ m := by
  refine open_log rfl rfl rfl rfl L k hz rfl hL ?_
  have hd : downP (oneP ((encB L 0).take k) (-1)) = false := up_minus rfl
  unfold sweepP listP
  rw [hd, if_neg]
  show ¬ newN ∈ [logN]
  decide
theorem open_nil1 : openP (nilP (-1)) = (begunP (-1), [], 0) := by
  rcases open_nil (-1) with h | ⟨_, h, _⟩
  · exact h
  · have : (openP (nilP (-1))).2.2 = 0 := by kernel_rfl
    rw [this] at h
    cases h
end Go.Proofs.YtheoklhmlnfgjaaGreatDoor
/-
  What the law of a loss of power asks of what is left: plain.
-/
namespace Go.Proofs.YtheoklhmlnfgjaaGreatDoor

/-- whatever a loss of power leaves makes a disk whose log has a beginning of T, and the first of them, so many -/
def EndP (A : Pl) (T : List Rcd) (firm : Nat) : Prop := ∀ (fn : Int) (K : List Int), newE (leftP A fn K) 1048576 = 0 ∧ GoodS 0 (newP (leftP A fn K) 1048576 [] (-1)) ∧
  ∃ m, m ≤ T.length ∧ firm ≤ m ∧ (openP (newP (leftP A fn K) 1048576 [] (-1))).2.1 = T.take m ∧ (openP (newP (leftP A fn K) 1048576 [] (-1))).2.2 = 0
theorem new_zero {F : List (BS × BS)} (h : okF F) : newE F 1048576 = 0 := by
  unfold newE
  rw [if_neg (by omega), if_pos h]
theorem ok_one (b : BS) : okF [(logN, b)] := ⟨fun f hf => by rw [List.mem_singleton.1 hf]; exact logN_good, List.pairwise_singleton _ _⟩
theorem good_one {b : BS} (pw : Int) (h : b.length ≤ 900000) : GoodS 0 (newP [(logN, b)] 1048576 [] pw) := by
  refine ⟨GoodA.new pw (new_zero (ok_one b)) ?_, fun f hf => ?_⟩
  · unfold bulkFs
    simp [logN]
    omega
  · rw [one_new] at hf
    have hf : f ∈ [(b, b.length)] := hf
    rw [List.mem_singleton.1 hf]
    simp only
    omega
theorem good_nil (pw : Int) : GoodS 0 (newP [] 1048576 [] pw) := ⟨GoodA.new pw (new_zero ⟨(fun f hf => by cases hf), List.Pairwise.nil⟩) (by decide), fun f hf => by cases hf⟩
theorem numR_app : ∀ (L M : List Rcd) (j : Nat), numR (L ++ M) j = numR L j ++ numR M (j + L.length)
  | [], M, j => rfl
  | x :: L, M, j => by
    rw [List.cons_append]
    unfold numR
    rw [numR_app L M, List.cons_append, List.length_cons, show j + 1 + L.length = j + (L.length + 1) by omega]
    cases M <;> rfl
theorem numR_snoc (L : List Rcd) (x : Rcd) : numR (L ++ [x]) 0 = numR L 0 ++ [⟨L.length, x.op, x.no, x.ident⟩] := by
  rw [numR_app, Nat.zero_add]
  rfl
theorem end_log {A : Pl} {L : List Rcd} {firm : Nat} {pw : Int} (h : LogS A L firm pw) (hL : L.length ≤ 100) (M : List Rcd) : EndP A (numR L 0 ++ M) firm := by
  intro fn K
  obtain ⟨k, h1, h2⟩ := h.left fn K
  rw [h1]
  have hb : ((encB L 0).take k).length ≤ 900000 := by
    have := encB_length L 0
    rw [List.length_take]
    omega
  refine ⟨new_zero (ok_one _), good_one _ hb, ?_⟩
  obtain ⟨m, g1, g2, g3, g4⟩ := open_one L k h.good hL
  rw [one_new]
  refine ⟨m, by rw [List.length_append, numR_length]; omega, g4 firm h.firm h2, ?_, g3⟩
  rw [g2, List.take_append_of_le_length (by rw [numR_length]; exact g1)]
theorem end_nil {A : Pl} (h : ∀ fn K, leftP A fn K = [] ∨ leftP A fn K = [(logN, [])]) : EndP A [] 0 := by
  intro fn K
  rcases h fn K with e | e
  · rw [e]
    refine ⟨new_zero ⟨(fun f hf => by cases hf), List.Pairwise.nil⟩, good_nil _, 0, Nat.le_refl _, Nat.le_refl _, ?_, ?_⟩
    · show (openP (nilP (-1))).2.1 = _
      rw [open_nil1]
      rfl
    · show (openP (nilP (-1))).2.2 = _
      rw [open_nil1]
  · rw [e]
    obtain ⟨m, g1, g2, g3, g4⟩ := open_one [] 0 rfl (by simp)
    refine ⟨new_zero (ok_one _), good_one _ (by simp), 0, Nat.le_refl _, Nat.le_refl _, ?_, ?_⟩
    · rw [one_new]
      rw [show (encB [] 0).take 0 = ([] : BS) from rfl] at g2
      rw [g2]
      simp [numR]
    · rw [one_new]
      exact g3
end Go.Proofs.YtheoklhmlnfgjaaGreatDoor
/-
  A loss of power in a rewrite: plain. No program is in sight here.
-/
namespace Go.Proofs.YtheoklhmlnfgjaaGreatDoor
set_option linter.unusedVariables false

/-- a disk that holds the log, whole or the beginning of one, and is up for good: its records are read -/
theorem open_logS {A S : Pl} (hsw : sweepP A = (S, 0)) (hp : S.power = -1) (hf : S.fails = []) (hn : S.now = [(logN, 0)]) (hroom : S.room = roomS) (L : List Rcd) (k : Nat) (hz : encZ L 0 = 0) (hb : datP S 0 = (encB L 0).take k) (hL : L.length ≤ 100) :
    ∃ m, m ≤ L.length ∧ (openP A).2.1 = (numR L 0).take m ∧ (openP A).2.2 = 0 ∧ ∀ i, i ≤ L.length → (encB (L.take i) 0).length ≤ k → i ≤ m := by
  have hd := up_minus hp
  have hlk : lookN S.now logN = some 0 := by rw [hn]; rfl
  obtain ⟨e1, e2⟩ := read_log hd hlk
  obtain ⟨m, h1, h2, h3⟩ := rep_encB_take L 0 k hz
  have hR : repR (datP S 0) = (numR L 0).take m := by
    rw [hb, ← numR_take]
    exact rec_repR h2
  have hbl : (datP S 0).length ≤ 411100 := by
    have := encB_length L 0
    rw [hb, List.length_take]
    omega
  have hrw : (rewriteP S 0 ((numR L 0).take m)).2.2 = 0 := by
    refine rewrite_up hp hf (by rw [hn]; decide) _ ?_ ?_ 0
    · rw [← numR_take, encZ_num]
      exact encZ_take hz m
    · have h4 := encB_length ((numR L 0).take m) 0
      have h5 : usedP S = (datP S 0).length := by unfold usedP; rw [hn]; simp
      rw [List.length_take, numR_length] at h4
      rw [hroom, h5]
      show _ ≤ 1048576
      omega
  refine ⟨m, h1, ?_, ?_, h3⟩
  all_goals
    unfold openP
    rw [hsw]
    simp only
    rw [if_neg (by simp), e1, if_neg (by decide), if_neg (by simp), e2, hR]
  · split
    · split
      · rename_i h
        exact absurd hrw h
      · rfl
    · rfl
  · split
    · split
      · rename_i h
        exact absurd hrw h
      · rfl
    · rfl
theorem not_new {A : Pl} {M : List BS} (h : listP A = M) (hm : newN ∉ M) : sweepP A = (A, 0) := by
  unfold sweepP
  rw [h, if_neg hm]
theorem list_up {A : Pl} (hd : downP A = false) : listP A = A.now.map (·.1) := by
  unfold listP
  rw [hd]
  rfl
theorem left_firm {C : Pl} {i : Nat} {d : BS} (h : C.files[i]? = some (d, d.length)) (K : List Int) : leftDP C K i = d := by
  unfold leftDP datP firmP
  rw [h]
  exact List.take_of_length_le (by simp)
theorem left_short (C : Pl) (K : List Int) (i : Nat) : (leftDP C K i).length ≤ (datP C i).length := by
  unfold leftDP
  rw [List.length_take]
  exact Nat.min_le_right _ _
/-- the log whole: its records -/
theorem open_whole {L : List Rcd} (hz : encZ L 0 = 0) (hL : L.length ≤ 100) : (openP (oneP (encB L 0) (-1))).2.1 = numR L 0 ∧ (openP (oneP (encB L 0) (-1))).2.2 = 0 := by
  obtain ⟨m, h1, h2, h3, h4⟩ := open_one L (encB L 0).length hz hL
  rw [List.take_length] at h2 h3
  have := h4 L.length (Nat.le_refl _) (by rw [List.take_length]; exact Nat.le_refl _)
  refine ⟨?_, h3⟩
  rw [h2, List.take_of_length_le (by rw [numR_length]; exact this)]
theorem open_wholeP {L : List Rcd} (hz : encZ L 0 = 0) {pw : Int} (hd : downP (oneP (encB L 0) pw) = false) : openP (oneP (encB L 0) pw) = (oneP (encB L 0) pw, numR L 0, 0) := by
  have hs : sweepP (oneP (encB L 0) pw) = (oneP (encB L 0) pw, 0) := not_new (M := [logN]) (list_up hd) (by decide)
  obtain ⟨e1, e2⟩ := read_log hd (show lookN (oneP (encB L 0) pw).now logN = some 0 from rfl)
  obtain ⟨r1, r2⟩ := rep_encB hz
  have hr : repR (encB L 0) = numR L 0 := by unfold repR; rw [r1, recsD_rcd]
  unfold openP
  rw [hs]
  simp only
  rw [if_neg (by simp), e1, if_neg (by decide), if_neg (by simp), e2, show datP (oneP (encB L 0) pw) 0 = encB L 0 from rfl, r2, if_neg (by omega), hr]
theorem open_downP {b : BS} {pw : Int} (hd : downP (oneP b pw) = true) : (openP (oneP b pw)).2.2 = 93 := by
  have hl : listP (oneP b pw) = [] := by unfold listP; rw [if_pos hd]
  have hr : readEP (oneP b pw) logN = 93 := by unfold readEP; rw [if_pos hd]
  unfold openP
  rw [not_new hl (by simp)]
  simp only
  rw [if_neg (by simp), hr, if_neg (by decide), if_pos (by decide)]
/-- beside the log one that was begun -/
theorem open_two {L : List Rcd} (hz : encZ L 0 = 0) (hL : L.length ≤ 100) (x : BS) : (openP (newP [(logN, encB L 0), (newN, x)] 1048576 [] (-1))).2.1 = numR L 0 ∧ (openP (newP [(logN, encB L 0), (newN, x)] 1048576 [] (-1))).2.2 = 0 := by
  rw [two_new]
  obtain ⟨A, hA⟩ : ∃ X, X = (⟨[(logN, 0), (newN, 1)], [(logN, 0), (newN, 1)], [], [(encB L 0, (encB L 0).length), (x, x.length)], roomS, [], -1, 0⟩ : Pl) := ⟨_, rfl⟩
  rw [← hA]
  have hp : A.power = -1 := by rw [hA]
  have hd := up_minus hp
  have hr := up_remove hd (by rw [hA]) newN_good (show lookN A.now newN = some 1 by rw [hA]; rfl)
  have hl : listP A = [logN, newN] := by rw [list_up hd, hA]; rfl
  have hs : sweepP A = (({ A with steps := A.steps + 1, now := delN newN A.now, pend := A.pend ++ [.del newN] } : Pl), 0) := by
    unfold sweepP
    rw [hl, if_pos (by simp), hr]
  obtain ⟨m, h1, h2, h3, h4⟩ := open_logS hs hp (by rw [hA]) (by rw [hA]; rfl) (by rw [hA]) L (encB L 0).length hz (by rw [hA, List.take_length]; rfl) hL
  have := h4 L.length (Nat.le_refl _) (by rw [List.take_length]; exact Nat.le_refl _)
  refine ⟨?_, h3⟩
  rw [h2, List.take_of_length_le (by rw [numR_length]; exact this)]
theorem ok_two (b x : BS) : okF [(logN, b), (newN, x)] := by
  refine ⟨fun f hf => ?_, ?_⟩
  · rcases List.mem_cons.1 hf with e | e
    · rw [e]; exact logN_good
    · rw [List.mem_singleton.1 e]; exact newN_good
  · rw [List.pairwise_cons]
    refine ⟨fun y hy => ?_, List.pairwise_singleton _ _⟩
    rw [List.mem_singleton.1 hy]
    show logN < newN
    decide
theorem good_two {b x : BS} (h : b.length + x.length ≤ 900000) : GoodS 0 (newP [(logN, b), (newN, x)] 1048576 [] (-1)) := by
  refine ⟨GoodA.new (-1) (new_zero (ok_two b x)) ?_, fun f hf => ?_⟩
  · unfold bulkFs
    simp [logN, newN]
    omega
  · rw [two_new] at hf
    have hf : f ∈ [(b, b.length), (x, x.length)] := hf
    rcases List.mem_cons.1 hf with e | e
    · rw [e]; simp only; omega
    · rw [List.mem_singleton.1 e]; simp only; omega

/-- what may be left: the old log, with or without a new one that was begun; the new log -/
def TurnF (F : List (BS × BS)) (b B : BS) (old new : Prop) : Prop := (old ∧ F = [(logN, b)]) ∨ (old ∧ ∃ x, x.length ≤ B.length ∧ F = [(logN, b), (newN, x)]) ∨ (new ∧ F = [(logN, B)])
theorem turn_seen {L M : List Rcd} (hz : encZ L 0 = 0) (hL : L.length ≤ 50) (hM : M.length ≤ 50) {F : List (BS × BS)} {old new : Prop} (hnew : new → encZ M 0 = 0) (h : TurnF F (encB L 0) (encB M 0) old new) :
    newE F 1048576 = 0 ∧ GoodS 0 (newP F 1048576 [] (-1)) ∧ (openP (newP F 1048576 [] (-1))).2.2 = 0 ∧ ((old ∧ (openP (newP F 1048576 [] (-1))).2.1 = numR L 0) ∨ (new ∧ (openP (newP F 1048576 [] (-1))).2.1 = numR M 0)) := by
  have l1 := encB_length L 0
  have l2 := encB_length M 0
  rcases h with ⟨ho, rfl⟩ | ⟨ho, x, hx, rfl⟩ | ⟨hn, rfl⟩
  · have := open_whole hz (by omega)
    exact ⟨new_zero (ok_one _), good_one _ (by omega), this.2, .inl ⟨ho, this.1⟩⟩
  · have := open_two hz (by omega) x
    exact ⟨new_zero (ok_two _ _), good_two (by omega), this.2, .inl ⟨ho, this.1⟩⟩
  · have := open_whole (hnew hn) (by omega)
    exact ⟨new_zero (ok_one _), good_one _ (by omega), this.2, .inr ⟨hn, this.1⟩⟩

theorem left_fold (C : Pl) (n : Nat) (fn : Int) (K : List Int) (hp : C.pend.length ≤ n) : ∃ j, j ≤ n ∧ leftP C fn K = ((C.pend.take j).foldl (fun M c => applyC c M) C.safe).map fun x => (x.1, leftDP C K x.2) := by
  refine ⟨min fn.toNat n, Nat.min_le_right _ _, ?_⟩
  unfold leftP leftNP
  rcases Nat.le_total fn.toNat n with h | h
  · rw [Nat.min_eq_left h]
  · rw [Nat.min_eq_right h, List.take_of_length_le hp, List.take_of_length_le (by omega)]
/-- a rewrite of the log, whatever the power -/
theorem turn_left {L M : List Rcd} (hz : encZ L 0 = 0) (hL : L.length ≤ 50) (hM : M.length ≤ 50) (pw n : Int) (fn : Int) (K : List Int) :
    TurnF (leftP (rewriteP (oneP (encB L 0) pw) n M).1 fn K) (encB L 0) (encB M 0) ((rewriteP (oneP (encB L 0) pw) n M).2.2 ≠ 0) (encZ M 0 = 0) := by
  obtain ⟨b, hb⟩ : ∃ b, b = encB L 0 := ⟨_, rfl⟩
  obtain ⟨B, hB⟩ : ∃ b, b = encB M 0 := ⟨_, rfl⟩
  have l1 := encB_length L 0
  have l2 := encB_length M 0
  rw [← hb] at l1 ⊢
  rw [← hB] at l2
  by_cases hM0 : encZ M 0 = 0
  · have e0 : rewriteP (oneP b pw) n M = (if (stepsP (oneP b pw) [.create newN, .append newN B, .sync newN, .rename newN logN]).2.1 = 4 then ((doP (stepsP (oneP b pw) [.create newN, .append newN B, .sync newN, .rename newN logN]).1 .names).1, (M.length : Int), (doP (stepsP (oneP b pw) [.create newN, .append newN B, .sync newN, .rename newN logN]).1 .names).2) else if (stepsP (oneP b pw) [.create newN, .append newN B, .sync newN, .rename newN logN]).2.1 = 0 then ((stepsP (oneP b pw) [.create newN, .append newN B, .sync newN, .rename newN logN]).1, n, (stepsP (oneP b pw) [.create newN, .append newN B, .sync newN, .rename newN logN]).2.2) else ((doP (stepsP (oneP b pw) [.create newN, .append newN B, .sync newN, .rename newN logN]).1 (.remove newN)).1, n, (stepsP (oneP b pw) [.create newN, .append newN B, .sync newN, .rename newN logN]).2.2)) := by
      unfold rewriteP
      rw [if_neg (by simpa using hM0), ← hB]
    rw [← hB]
    by_cases d0 : downP (oneP b pw) = true
    · rw [steps_down d0] at e0
      simp only [Nat.reduceEqDiff, if_false, if_true] at e0
      have e0 : rewriteP (oneP b pw) n M = (oneP b pw, n, 93) := e0
      rw [e0]
      refine .inl ⟨by simp, ?_⟩
      obtain ⟨j, hj, e⟩ := left_fold (oneP b pw) 0 fn K (Nat.le_refl _)
      obtain rfl : j = 0 := by omega
      rw [e]
      show [(logN, leftDP (oneP b pw) K 0)] = _
      rw [left_firm rfl]
    · have d0 : downP (oneP b pw) = false := by simpa using d0
      have s0 := up_create d0 rfl newN_good (show lookN (oneP b pw).now newN = none by rfl)
      obtain ⟨X1, hX1⟩ : ∃ X, X = (⟨[(logN, 0), (newN, 1)], [(logN, 0)], [.put newN 1], [(b, b.length), ([], 0)], roomS, [], pw, 1⟩ : Pl) := ⟨_, rfl⟩
      have s0 : doP (oneP b pw) (.create newN) = (X1, 0) := by rw [s0, hX1]; rfl
      -- what is left where the new log was only begun
      have two : ∀ C : Pl, C.safe = [(logN, 0)] → C.pend = [.put newN 1] → C.files[0]? = some (b, b.length) → (datP C 1).length ≤ B.length → ∀ z : Int, z ≠ 0 → TurnF (leftP C fn K) b B (z ≠ 0) (encZ M 0 = 0) := by
        intro C h1 h2 h3 h4 z hz
        obtain ⟨j, hj, e⟩ := left_fold C 1 fn K (by rw [h2]; exact Nat.le_refl _)
        rw [e, h1, h2]
        have hj : j = 0 ∨ j = 1 := by omega
        rcases hj with rfl | rfl
        · refine .inl ⟨hz, ?_⟩
          show [(logN, leftDP C K 0)] = _
          rw [left_firm h3]
        · refine .inr (.inl ⟨hz, leftDP C K 1, Nat.le_trans (left_short C K 1) h4, ?_⟩)
          show [(logN, leftDP C K 0), (newN, leftDP C K 1)] = _
          rw [left_firm h3]
      rw [steps_good s0] at e0
      by_cases d1 : downP X1 = true
      · rw [steps_down d1] at e0
        simp only [Nat.zero_add, Nat.reduceEqDiff, if_false, do_down d1] at e0
        rw [e0]
        exact two X1 (by rw [hX1]) (by rw [hX1]) (by rw [hX1]; rfl) (by rw [hX1]; exact Nat.zero_le _) 93 (by decide)
      · have d1 : downP X1 = false := by simpa using d1
        have s1 := up_append d1 (by rw [hX1]) newN_good (show lookN X1.now newN = some 1 by rw [hX1]; rfl) (d := B) (by
          rw [hX1]
          show b.length + (0 + 0) + B.length ≤ 1048576
          omega)
        obtain ⟨X2, hX2⟩ : ∃ X, X = (⟨[(logN, 0), (newN, 1)], [(logN, 0)], [.put newN 1], [(b, b.length), (B, 0)], roomS, [], pw, 2⟩ : Pl) := ⟨_, rfl⟩
        have s1 : doP X1 (.append newN B) = (X2, 0) := by rw [s1, hX1, hX2]; rfl
        rw [steps_good s1] at e0
        by_cases d2 : downP X2 = true
        · rw [steps_down d2] at e0
          simp only [Nat.zero_add, Nat.reduceAdd, Nat.reduceEqDiff, if_false, do_down d2] at e0
          rw [e0]
          exact two X2 (by rw [hX2]) (by rw [hX2]) (by rw [hX2]; rfl) (by rw [hX2]; exact Nat.le_refl _) 93 (by decide)
        · have d2 : downP X2 = false := by simpa using d2
          have s2 := up_sync d2 (by rw [hX2]) newN_good (show lookN X2.now newN = some 1 by rw [hX2]; rfl)
          obtain ⟨X3, hX3⟩ : ∃ X, X = (⟨[(logN, 0), (newN, 1)], [(logN, 0)], [.put newN 1], [(b, b.length), (B, B.length)], roomS, [], pw, 3⟩ : Pl) := ⟨_, rfl⟩
          have s2 : doP X2 (.sync newN) = (X3, 0) := by rw [s2, hX2, hX3]; rfl
          rw [steps_good s2] at e0
          by_cases d3 : downP X3 = true
          · rw [steps_down d3] at e0
            simp only [Nat.zero_add, Nat.reduceAdd, Nat.reduceEqDiff, if_false, do_down d3] at e0
            rw [e0]
            exact two X3 (by rw [hX3]) (by rw [hX3]) (by rw [hX3]; rfl) (by rw [hX3]; exact Nat.le_refl _) 93 (by decide)
          · have d3 : downP X3 = false := by simpa using d3
            have s3 := up_rename d3 (by rw [hX3]) newN_good logN_good log_new (show lookN X3.now newN = some 1 by rw [hX3]; rfl)
            obtain ⟨X4, hX4⟩ : ∃ X, X = (⟨[(logN, 1)], [(logN, 0)], [.put newN 1, .ren newN logN 1], [(b, b.length), (B, B.length)], roomS, [], pw, 4⟩ : Pl) := ⟨_, rfl⟩
            have s3 : doP X3 (.rename newN logN) = (X4, 0) := by rw [s3, hX3, hX4]; rfl
            rw [steps_good s3, steps_nil] at e0
            simp only [Nat.zero_add, Nat.reduceAdd, if_true] at e0
            by_cases d4 : downP X4 = true
            · rw [do_down d4] at e0
              rw [e0]
              obtain ⟨j, hj, e⟩ := left_fold X4 2 fn K (by rw [hX4]; exact Nat.le_refl _)
              simp only
              rw [e, hX4]
              have hj : j = 0 ∨ j = 1 ∨ j = 2 := by omega
              rcases hj with rfl | rfl | rfl
              · refine .inl ⟨by simp, ?_⟩
                show [(logN, leftDP _ K 0)] = _
                rw [left_firm rfl]
              · refine .inr (.inl ⟨by simp, B, Nat.le_refl _, ?_⟩)
                show [(logN, leftDP _ K 0), (newN, leftDP _ K 1)] = _
                rw [left_firm rfl, left_firm rfl]
              · refine .inr (.inr ⟨hM0, ?_⟩)
                show [(logN, leftDP _ K 1)] = _
                rw [left_firm rfl]
            · have d4 : downP X4 = false := by simpa using d4
              have s4 := up_names d4 (by rw [hX4])
              rw [s4] at e0
              rw [e0]
              obtain ⟨j, hj, e⟩ := left_fold ({ X4 with steps := X4.steps + 1, safe := X4.now, pend := [] } : Pl) 0 fn K (Nat.le_refl _)
              obtain rfl : j = 0 := by omega
              simp only
              rw [e, hX4]
              refine .inr (.inr ⟨hM0, ?_⟩)
              show [(logN, leftDP _ K 1)] = _
              rw [left_firm rfl]
  · have e0 : rewriteP (oneP b pw) n M = (oneP b pw, n, encZ M 0) := by
      unfold rewriteP
      rw [if_pos hM0]
    rw [e0]
    refine .inl ⟨hM0, ?_⟩
    obtain ⟨j, hj, e⟩ := left_fold (oneP b pw) 0 fn K (Nat.le_refl _)
    obtain rfl : j = 0 := by omega
    rw [e]
    show [(logN, leftDP (oneP b pw) K 0)] = _
    rw [left_firm rfl]
end Go.Proofs.YtheoklhmlnfgjaaGreatDoor
