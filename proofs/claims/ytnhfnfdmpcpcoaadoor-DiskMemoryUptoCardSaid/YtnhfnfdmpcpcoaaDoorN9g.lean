/-
  Chapter 9, texts merged: RefInv9, RefLeft9, GoodSame.
-/
import Derived.Test.YtnhfnfdmpcpcoaaDoorN9f
import Derived.Test.YtnhfnfdmpcpcoaaDoorN9b

/-
  The files that the safe names and the pending changes speak of are there; what is left, by cases. No program is in sight here.
-/
namespace Go.Proofs.YtnhfnfdmpcpcoaaDoor

def ChgLt (n : Nat) : Chg → Prop
  | .put _ f => f < n
  | .ren _ _ f => f < n
  | .del _ => True
structure InvS (A : Pl) : Prop where
  safe : ∀ x ∈ A.safe, x.2 < A.files.length
  pend : ∀ c ∈ A.pend, ChgLt A.files.length c
theorem ChgLt.mono {n m : Nat} {c : Chg} (h : ChgLt n c) (hm : n ≤ m) : ChgLt m c := by
  cases c with
  | put k f => exact Nat.lt_of_lt_of_le h hm
  | ren a k f => exact Nat.lt_of_lt_of_le h hm
  | del k => trivial
theorem invS_new {F : List (BS × BS)} (h : okF F) (room : Int) (fails : List Int) (power : Int) : InvS (newP F room fails power) :=
  ⟨(inv_new h room fails power).fnow, fun c hc => by cases hc⟩
theorem invS_tick {A : Pl} (h : InvS A) : InvS (tickP A) := by
  have ht := tick_rest A
  exact ⟨by rw [ht.2.2.2.1, ht.2.2.1]; exact h.safe, by rw [ht.2.1, ht.2.2.1]; exact h.pend⟩
theorem invS_chg {A : Pl} (h : InvS A) (c : Chg) (hc : ChgLt A.files.length c) : InvS (chgP A c) := by
  have ht := tick_rest A
  unfold chgP
  refine ⟨?_, fun d hd => ?_⟩
  · show ∀ x ∈ (tickP A).safe, x.2 < (tickP A).files.length
    rw [ht.2.2.2.1, ht.2.2.1]; exact h.safe
  · show ChgLt (tickP A).files.length d
    rw [ht.2.2.1]
    rcases List.mem_append.1 hd with e | e
    · exact h.pend d e
    · rw [List.mem_singleton.1 e]; exact hc
theorem invS_do {A : Pl} (hI : Inv A) (h : InvS A) (o : Opp) : InvS (doP A o).1 := by
  have ht := tick_rest A
  cases o with
  | create k =>
    rw [doP_create]
    split
    · exact invS_tick h
    · split
      · exact invS_tick h
      · have e : (A.files ++ [(([], 0) : BS × Nat)]).length = A.files.length + 1 := by simp
        refine ⟨fun x hx => ?_, fun d hd => ?_⟩
        · have hx : x ∈ (tickP A).safe := hx
          rw [ht.2.2.2.1] at hx
          show x.2 < (A.files ++ [(([], 0) : BS × Nat)]).length
          have := h.safe x hx
          omega
        · show ChgLt (A.files ++ [(([], 0) : BS × Nat)]).length d
          rw [e]
          rcases List.mem_append.1 hd with e2 | e2
          · exact (h.pend d e2).mono (by omega)
          · rw [List.mem_singleton.1 e2]; exact Nat.lt_succ_self _
  | append k d =>
    rw [doP_append]
    split
    · exact invS_tick h
    · split
      · exact invS_tick h
      · have := invS_tick h
        refine ⟨fun x hx => ?_, fun c hc => ?_⟩
        · show x.2 < (A.files.modify _ _).length
          rw [List.length_modify]
          exact h.safe x (by rw [← ht.2.2.2.1]; exact hx)
        · show ChgLt (A.files.modify _ _).length c
          rw [List.length_modify]
          exact h.pend c (by rw [← ht.2.1]; exact hc)
  | sync k =>
    rw [doP_sync]
    split
    · exact invS_tick h
    · refine ⟨fun x hx => ?_, fun c hc => ?_⟩
      · show x.2 < (A.files.modify _ _).length
        rw [List.length_modify]
        exact h.safe x (by rw [← ht.2.2.2.1]; exact hx)
      · show ChgLt (A.files.modify _ _).length c
        rw [List.length_modify]
        exact h.pend c (by rw [← ht.2.1]; exact hc)
  | names =>
    rw [doP_names]
    split
    · exact invS_tick h
    · refine ⟨fun x hx => ?_, fun c hc => by cases hc⟩
      show x.2 < (tickP A).files.length
      rw [ht.2.2.1]
      exact hI.fnow x hx
  | rename a b =>
    rw [doP_rename]
    split
    · exact invS_tick h
    · rename_i h1
      obtain ⟨_, _, h4⟩ := onP_zero (by simpa using h1)
      split
      · exact invS_tick h
      · exact invS_chg h _ (hI.fnow _ h4)
  | remove k =>
    rw [doP_remove]
    split
    · exact invS_tick h
    · exact invS_chg h _ trivial
theorem applyC_lt {n : Nat} {c : Chg} {M : NM} (hc : ChgLt n c) (h : ∀ x ∈ M, x.2 < n) : ∀ x ∈ applyC c M, x.2 < n := by
  intro x hx
  cases c with
  | put k f =>
    rcases insN_mem k f x M hx with e | e
    · rw [e]; exact hc
    · exact h x e
  | ren a k f =>
    rcases insN_mem k f x _ hx with e | e
    · rw [e]; exact hc
    · exact h x (delN_mem e).1
  | del k => exact h x (delN_mem hx).1
theorem fold_lt {n : Nat} : ∀ (C : List Chg) (M : NM), (∀ c ∈ C, ChgLt n c) → (∀ x ∈ M, x.2 < n) → ∀ x ∈ C.foldl (fun M c => applyC c M) M, x.2 < n
  | [], _, _, h => h
  | c :: C, _, hc, h => fold_lt C _ (fun d hd => hc d (List.mem_cons_of_mem _ hd)) (applyC_lt (hc c (List.mem_cons_self ..)) h)
theorem InvS.left {A : Pl} (h : InvS A) (n : Int) : ∀ x ∈ leftNP A n, x.2 < A.files.length :=
  fold_lt _ _ (fun c hc => h.pend c (List.mem_of_mem_take hc)) h.safe
/-- no change is pending, or none is told -/
theorem leftN_none {A : Pl} {n : Int} (h : n ≤ 0 ∨ A.pend.length = 0) : leftNP A n = A.safe := by
  unfold leftNP
  rcases h with h | h
  · rw [show n.toNat = 0 by omega]; rfl
  · rw [List.eq_nil_of_length_eq_zero h]; simp
theorem leftN_some {A : Pl} {n : Int} {k : Nat} (hk : k < A.pend.length) (h : (k : Int) + 1 = n ∨ (k + 1 = A.pend.length ∧ (A.pend.length : Int) < n)) : (pendN A)[k]? = some (leftNP A n) := by
  rw [pendN_get A k hk]
  unfold leftNP
  rcases h with h | ⟨h, h2⟩
  · rw [show n.toNat = k + 1 by omega]
  · rw [h, List.take_of_length_le (Nat.le_refl _), List.take_of_length_le (by omega)]
/-- so much is left of a file -/
theorem left_none {A : Pl} {keep : List Int} {i : Nat} (h : ∀ z, keep[i]? = some z → z ≤ 0) : leftDP A keep i = (datP A i).take (firmP A i) := by
  unfold leftDP moreP
  cases hk : keep[i]? with
  | none => rfl
  | some z =>
    have := h z hk
    simp only
    rw [show (min z (((datP A i).length - firmP A i : Nat) : Int)).toNat = 0 by omega]
    rfl
theorem left_part {A : Pl} {keep : List Int} {i : Nat} {z : Int} (h : keep[i]? = some z) (hz : 0 < z) (hl : z < (((datP A i).length - firmP A i : Nat) : Int)) : leftDP A keep i = (datP A i).take (firmP A i + z.toNat) := by
  unfold leftDP moreP
  rw [h]
  simp only
  rw [show (min z (((datP A i).length - firmP A i : Nat) : Int)).toNat = z.toNat by omega]
theorem left_all {A : Pl} {keep : List Int} {i : Nat} {z : Int} (h : keep[i]? = some z) (hl : ¬ z < (((datP A i).length - firmP A i : Nat) : Int)) (hf : firmP A i ≤ (datP A i).length) : leftDP A keep i = datP A i := by
  unfold leftDP moreP
  rw [h]
  simp only
  rw [show (min z (((datP A i).length - firmP A i : Nat) : Int)).toNat = (datP A i).length - firmP A i by omega]
  exact List.take_of_length_le (by omega)
end Go.Proofs.YtnhfnfdmpcpcoaaDoor

/-
  The document's disk: Read, Left.
-/
namespace Go.Proofs.YtnhfnfdmpcpcoaaDoor
open Go.RowKit Go.Maps

set_option maxRecDepth 100000 in
set_option maxHeartbeats 2000000 in
theorem refRead_any (r : RC) (A : Pl) (nm : ByteArray) (w : World) (h : RefAt w r A) (hI : Inv A) (hl : A.now.length ≤ 4000000000000) (hnm : nm.size ≤ 140737488351232) (hd : (readP A nm.data.toList).length ≤ 140737488355328) :
    Calls Tryd.prog 41 #[.agg (stC r A), .string nm] w fun e w' => ∃ p c, e = .returned (.tuple #[.slice p (readP A nm.data.toList).length c, .int .i64 (readEP A nm.data.toList)]) ∧ In8 w' p (readP A nm.data.toList) ∧ Below w.heap.size w w' := by
  have hdn := fun W => refDown_any r A W
  have hgA := fun W => refGood_any nm W hnm
  have hat := fun W (hW : Below w.heap.size w W) => refAt_any r A nm W (h.now.below hW) hl
  unfold stC at hdn hat
  show Calls Tryd.prog 41 #[.agg #[.slice r.p1 A.now.length r.c1, .slice r.p2 A.safe.length r.c2, .slice r.p3 A.pend.length r.c3, .slice r.p4 A.files.length r.c4, .slice r.p5 A.files.length r.c5, .int .i64 (A.room : Int), .slice r.p6 A.fails.length r.c6, .int .i64 A.power, .int .i64 (A.steps : Int)], .string nm] w _
  have HE := Lib.hid (show readEP A nm.data.toList = if downP A = true then 93 else if badN nm.data.toList = true then 95 else if lookN A.now nm.data.toList = none then 90 else 0 from rfl)
  have HR := Lib.hid (show readP A nm.data.toList = if readEP A nm.data.toList = 0 then datP A (atP A nm.data.toList) else [] from rfl)
  obtain ⟨wa, hwa⟩ : ∃ W0, W0 = w.alloc (.cells (stC r A) 52) := ⟨_, rfl⟩
  have hc0 := fun W (hb : Below wa.heap.size wa W) => by rw [hwa] at hb; exact st9 (stBox hb)
  have hba := box_below w (stC r A) 52
  rw [← hwa] at hba
  unfold stC at hwa
  have HC := Lib.hid (And.intro hc0 hba)
  have HW := Lib.hid hwa
  have HD := Lib.hid hd
  clear hc0 hba hwa hd
  cases hdown : downP A with
  | true =>
    rw [hdown] at hdn
    have HE1 := Lib.hid (show readEP A nm.data.toList = 93 by rw [HE.out, if_pos hdown])
    have HR1 := Lib.hid (show readP A nm.data.toList = [] by rw [HR.out, HE1.out]; rfl)
    clear hdown
    go_enter Tryd.func41, Tryd.ntmps41
    go_wp2_with fail
    refine (hdn _).mono ?_
    rw [← HW.out]
    rintro e w1 ⟨rfl, hb1⟩
    go_wp2_with fail
    go_ret2
    exact ⟨none, 0, by rw [HE1.out, HR1.out]; rfl, by rw [HR1.out]; exact fun h => absurd h (by simp), HC.out.2.trans (hb1.mono HC.out.2.size)⟩
  | false =>
    rw [hdown] at hdn
    have HE0 := Lib.hid (show readEP A nm.data.toList = if badN nm.data.toList = true then 95 else if lookN A.now nm.data.toList = none then 90 else 0 by rw [HE.out, if_neg (by rw [hdown]; simp)])
    clear hdown
    cases hg : goodN nm.data.toList with
    | false =>
      rw [hg] at hgA
      have HE1 := Lib.hid (show readEP A nm.data.toList = 95 by rw [HE0.out, if_pos (by unfold badN; rw [hg]; rfl)])
      have HR1 := Lib.hid (show readP A nm.data.toList = [] by rw [HR.out, HE1.out]; rfl)
      clear hg
      go_enter Tryd.func41, Tryd.ntmps41
      go_wp2_with fail
      refine (hdn _).mono ?_
      rw [← HW.out]
      rintro e w1 ⟨rfl, hb1⟩
      go_wp2_with fail
      refine (hgA _).mono ?_
      rintro e w2 ⟨rfl, hb2⟩
      have HB2 := Lib.hid (HC.out.2.trans ((hb1.trans (hb2.mono hb1.size)).mono HC.out.2.size))
      clear hb1 hb2
      go_wp2_with fail
      go_ret2
      exact ⟨none, 0, by rw [HE1.out, HR1.out]; rfl, by rw [HR1.out]; exact fun h => absurd h (by simp), HB2.out⟩
    | true =>
      rw [hg] at hgA
      have HE2 := Lib.hid (show readEP A nm.data.toList = if lookN A.now nm.data.toList = none then 90 else 0 by rw [HE0.out, if_neg (by unfold badN; rw [hg]; simp)])
      clear hg
      go_enter Tryd.func41, Tryd.ntmps41
      go_wp2_with fail
      refine (hdn _).mono ?_
      rw [← HW.out]
      rintro e w1 ⟨rfl, hb1⟩
      go_wp2_with fail
      refine (hgA _).mono ?_
      rintro e w2 ⟨rfl, hb2⟩
      have hb12 := hb1.trans (hb2.mono hb1.size)
      obtain ⟨a0, a1, a2, a3, a4, a5, a6, a7, a8⟩ := HC.out.1 w2 hb12
      have hbw2 := HC.out.2.trans (hb12.mono HC.out.2.size)
      have hat2 := hat w2 hbw2
      have HB2 := Lib.hid (And.intro hb12 hbw2)
      clear hb1 hb2 hb12 hbw2 hat hdn hgA
      go_wp2_with fail
      refine hat2.mono ?_
      rintro e w3 ⟨rfl, hb3⟩
      have hb13 := HB2.out.1.trans (hb3.mono HB2.out.1.size)
      obtain ⟨a0, a1, a2, a3, a4, a5, a6, a7, a8⟩ := HC.out.1 w3 hb13
      have hbw3 := HB2.out.2.trans (hb3.mono HB2.out.2.size)
      clear hat2 hb3 hb13
      cases hk : lookN A.now nm.data.toList with
      | none =>
        have hai : atI A.now nm.data.toList = -1 := by unfold atI; rw [hk]
        rw [hai]
        have HE1 := Lib.hid (show readEP A nm.data.toList = 90 by rw [HE2.out, hk]; rfl)
        have HR1 := Lib.hid (show readP A nm.data.toList = [] by rw [HR.out, HE1.out]; rfl)
        clear hai hk
        go_wp2_with fail
        go_ret2
        exact ⟨none, 0, by rw [HE1.out, HR1.out]; rfl, by rw [HR1.out]; exact fun h => absurd h (by simp), hbw3⟩
      | some f =>
        have hai : atI A.now nm.data.toList = (f : Int) := by unfold atI; rw [hk]
        rw [hai]
        have hfl : f < A.files.length := hI.fnow _ (lookN_mem _ _ _ hk)
        have HE1 := Lib.hid (show readEP A nm.data.toList = 0 by rw [HE2.out, hk]; rfl)
        have HR1 := Lib.hid (show readP A nm.data.toList = datP A f by rw [HR.out, HE1.out, if_pos rfl]; unfold atP; rw [hk]; rfl)
        obtain ⟨b, o, hp4, q9, c9, hd9, _, hin9, _⟩ := (h.below hbw3).dat hfl
        obtain ⟨B9, hB9⟩ : ∃ B9, B9 = datP A f := ⟨_, rfl⟩
        rw [← hB9] at hd9 hin9 HR1
        have hB9l : B9.length ≤ 140737488355328 := by rw [← HR1.out]; exact HD.out
        have hcp := copyBytes_any B9 q9 _ c9 rfl hB9l w3 hin9
        rw [hp4] at a3
        have HB3 := Lib.hid hbw3
        clear hai hk hB9 hp4 hin9 hbw3
        go_wp2_with fail
        refine hcp.mono ?_
        rintro e w4 ⟨v4, rfl, hown4, hb4⟩
        obtain ⟨p4, c4, rfl, _, _, hin4⟩ := hown4.in8n rfl
        clear hcp hown4
        go_wp2_with fail
        go_ret2
        exact ⟨p4, c4, by rw [HE1.out, HR1.out]; rfl, by rw [HR1.out]; exact hin4, HB3.out.trans (hb4.mono HB3.out.size)⟩
end Go.Proofs.YtnhfnfdmpcpcoaaDoor

/-
  Good of the document's disk leaves the world as it was.
-/
namespace Go.Proofs.YtnhfnfdmpcpcoaaDoor
open Go.RowKit

set_option maxHeartbeats 4000000 in
theorem refGood_same (s : ByteArray) (w : World) (hs : s.size ≤ 140737488351232) :
    Calls Tryd.prog 51 #[.string s] w fun e w' => e = .returned (.bool (goodN s.data.toList)) ∧ w = w' := by
  have hz := size_list s
  have HZ := Lib.hid hz
  clear hz
  go_enter Tryd.func51, Tryd.ntmps51
  go_wp2
  go_loopw [2, 3] (fun v i wr => ∃ k : Nat, k ≤ s.size ∧ v = .bool false ∧ i = .int .i64 k ∧ (s.data.toList.take k).all nameB = true ∧ w = wr) (fun _ i _ => s.size - (intOf i).toNat)
  case atStart => exact ⟨0, Nat.zero_le _, rfl, rfl, by simp, rfl⟩
  case round =>
    obtain ⟨k, hk, rfl, rfl, hall, hb⟩ := hrel
    have HB := Lib.hid hb
    clear hb
    have HALL := Lib.hid hall
    clear hall
    by_cases hlt : k < s.size
    · have hkl : k < s.data.toList.length := by rw [HZ.out]; exact hlt
      have hx : s.data.toList[k] = s[k] := by
        have := bt_str s k hlt
        rw [bt_get _ k hkl] at this
        exact UInt8.toNat_inj.1 (by omega)
      have HT := Lib.hid (all_take hkl nameB)
      have hnb := nameB_int s[k]
      rw [← hx] at hnb
      have HNB := Lib.hid hnb
      have HX := Lib.hid hx
      obtain ⟨c, hc⟩ : ∃ c : Int, c = (s[k].toNat : Int) := ⟨_, rfl⟩
      have h0 : 0 ≤ c := by omega
      have HC := Lib.hid hc
      clear hx hnb
      have hrg : (c < 45) ∨ (c = 45) ∨ (c = 46) ∨ (c = 47) ∨ (48 ≤ c ∧ c ≤ 57) ∨ (58 ≤ c ∧ c ≤ 94) ∨ (c = 95) ∨ (c = 96) ∨ (97 ≤ c ∧ c ≤ 122) ∨ (122 < c) := by omega
      rcases hrg with h | h | h | h | h | h | h | h | h | h
      · have : ¬ 97 ≤ (s[k].toNat : Int) := by omega
        have : (s[k].toNat : Int) ≤ 122 := by omega
        have : ¬ 48 ≤ (s[k].toNat : Int) := by omega
        have : (s[k].toNat : Int) ≤ 57 := by omega
        have : ((s[k].toNat : Int) == 46) = false := beq_eq_false_iff_ne.2 (by omega)
        have : ((s[k].toNat : Int) == 45) = false := beq_eq_false_iff_ne.2 (by omega)
        have : ((s[k].toNat : Int) == 95) = false := beq_eq_false_iff_ne.2 (by omega)
        have : ((s[k].toNat : Int) == 47) = false := beq_eq_false_iff_ne.2 (by omega)
        have hg : nameB s.data.toList[k] = false := by rw [HNB.out, HX.out]; exact decide_eq_false (by omega)
        have hgn : goodN s.data.toList = false := by
          unfold goodN
          rw [show s.data.toList.all nameB = false from by
            rw [Bool.eq_false_iff]
            intro ha
            have := List.all_eq_true.1 ha _ (List.getElem_mem hkl)
            rw [hg] at this; cases this]
          exact Bool.and_false _
        have HG := Lib.hid hgn
        clear hg hgn h hc
        go_wp2
        go_ret
        exact ⟨by rw [HG.out]; rfl, HB.out⟩
      · have : ¬ 97 ≤ (s[k].toNat : Int) := by omega
        have : (s[k].toNat : Int) ≤ 122 := by omega
        have : ¬ 48 ≤ (s[k].toNat : Int) := by omega
        have : (s[k].toNat : Int) ≤ 57 := by omega
        have : ((s[k].toNat : Int) == 46) = false := beq_eq_false_iff_ne.2 (by omega)
        have : ((s[k].toNat : Int) == 45) = true := beq_iff_eq.2 (by omega)
        have : ((s[k].toNat : Int) == 95) = false := beq_eq_false_iff_ne.2 (by omega)
        have : ((s[k].toNat : Int) == 47) = false := beq_eq_false_iff_ne.2 (by omega)
        have hg : nameB s.data.toList[k] = true := by rw [HNB.out, HX.out]; exact decide_eq_true (by omega)
        have HG := Lib.hid hg
        clear hg h hc
        go_wp2
        go_roundw
        case rel => exact ⟨k + 1, by omega, by trivial, by go_num, by rw [HT.out, HALL.out, HG.out]; rfl, HB.out⟩
        case measure => simp [intOf]; omega
      · have : ¬ 97 ≤ (s[k].toNat : Int) := by omega
        have : (s[k].toNat : Int) ≤ 122 := by omega
        have : ¬ 48 ≤ (s[k].toNat : Int) := by omega
        have : (s[k].toNat : Int) ≤ 57 := by omega
        have : ((s[k].toNat : Int) == 46) = true := beq_iff_eq.2 (by omega)
        have : ((s[k].toNat : Int) == 45) = false := beq_eq_false_iff_ne.2 (by omega)
        have : ((s[k].toNat : Int) == 95) = false := beq_eq_false_iff_ne.2 (by omega)
        have : ((s[k].toNat : Int) == 47) = false := beq_eq_false_iff_ne.2 (by omega)
        have hg : nameB s.data.toList[k] = true := by rw [HNB.out, HX.out]; exact decide_eq_true (by omega)
        have HG := Lib.hid hg
        clear hg h hc
        go_wp2
        go_roundw
        case rel => exact ⟨k + 1, by omega, by trivial, by go_num, by rw [HT.out, HALL.out, HG.out]; rfl, HB.out⟩
        case measure => simp [intOf]; omega
      · have : ¬ 97 ≤ (s[k].toNat : Int) := by omega
        have : (s[k].toNat : Int) ≤ 122 := by omega
        have : ¬ 48 ≤ (s[k].toNat : Int) := by omega
        have : (s[k].toNat : Int) ≤ 57 := by omega
        have : ((s[k].toNat : Int) == 46) = false := beq_eq_false_iff_ne.2 (by omega)
        have : ((s[k].toNat : Int) == 45) = false := beq_eq_false_iff_ne.2 (by omega)
        have : ((s[k].toNat : Int) == 95) = false := beq_eq_false_iff_ne.2 (by omega)
        have : ((s[k].toNat : Int) == 47) = true := beq_iff_eq.2 (by omega)
        have hg : nameB s.data.toList[k] = true := by rw [HNB.out, HX.out]; exact decide_eq_true (by omega)
        have HG := Lib.hid hg
        clear hg h hc
        go_wp2
        go_roundw
        case rel => exact ⟨k + 1, by omega, by trivial, by go_num, by rw [HT.out, HALL.out, HG.out]; rfl, HB.out⟩
        case measure => simp [intOf]; omega
      · have : ¬ 97 ≤ (s[k].toNat : Int) := by omega
        have : (s[k].toNat : Int) ≤ 122 := by omega
        have : 48 ≤ (s[k].toNat : Int) := by omega
        have : (s[k].toNat : Int) ≤ 57 := by omega
        have : ((s[k].toNat : Int) == 46) = false := beq_eq_false_iff_ne.2 (by omega)
        have : ((s[k].toNat : Int) == 45) = false := beq_eq_false_iff_ne.2 (by omega)
        have : ((s[k].toNat : Int) == 95) = false := beq_eq_false_iff_ne.2 (by omega)
        have : ((s[k].toNat : Int) == 47) = false := beq_eq_false_iff_ne.2 (by omega)
        have hg : nameB s.data.toList[k] = true := by rw [HNB.out, HX.out]; exact decide_eq_true (by omega)
        have HG := Lib.hid hg
        clear hg h hc
        go_wp2
        go_roundw
        case rel => exact ⟨k + 1, by omega, by trivial, by go_num, by rw [HT.out, HALL.out, HG.out]; rfl, HB.out⟩
        case measure => simp [intOf]; omega
      · have : ¬ 97 ≤ (s[k].toNat : Int) := by omega
        have : (s[k].toNat : Int) ≤ 122 := by omega
        have : 48 ≤ (s[k].toNat : Int) := by omega
        have : ¬ (s[k].toNat : Int) ≤ 57 := by omega
        have : ((s[k].toNat : Int) == 46) = false := beq_eq_false_iff_ne.2 (by omega)
        have : ((s[k].toNat : Int) == 45) = false := beq_eq_false_iff_ne.2 (by omega)
        have : ((s[k].toNat : Int) == 95) = false := beq_eq_false_iff_ne.2 (by omega)
        have : ((s[k].toNat : Int) == 47) = false := beq_eq_false_iff_ne.2 (by omega)
        have hg : nameB s.data.toList[k] = false := by rw [HNB.out, HX.out]; exact decide_eq_false (by omega)
        have hgn : goodN s.data.toList = false := by
          unfold goodN
          rw [show s.data.toList.all nameB = false from by
            rw [Bool.eq_false_iff]
            intro ha
            have := List.all_eq_true.1 ha _ (List.getElem_mem hkl)
            rw [hg] at this; cases this]
          exact Bool.and_false _
        have HG := Lib.hid hgn
        clear hg hgn h hc
        go_wp2
        go_ret
        exact ⟨by rw [HG.out]; rfl, HB.out⟩
      · have : ¬ 97 ≤ (s[k].toNat : Int) := by omega
        have : (s[k].toNat : Int) ≤ 122 := by omega
        have : 48 ≤ (s[k].toNat : Int) := by omega
        have : ¬ (s[k].toNat : Int) ≤ 57 := by omega
        have : ((s[k].toNat : Int) == 46) = false := beq_eq_false_iff_ne.2 (by omega)
        have : ((s[k].toNat : Int) == 45) = false := beq_eq_false_iff_ne.2 (by omega)
        have : ((s[k].toNat : Int) == 95) = true := beq_iff_eq.2 (by omega)
        have : ((s[k].toNat : Int) == 47) = false := beq_eq_false_iff_ne.2 (by omega)
        have hg : nameB s.data.toList[k] = true := by rw [HNB.out, HX.out]; exact decide_eq_true (by omega)
        have HG := Lib.hid hg
        clear hg h hc
        go_wp2
        go_roundw
        case rel => exact ⟨k + 1, by omega, by trivial, by go_num, by rw [HT.out, HALL.out, HG.out]; rfl, HB.out⟩
        case measure => simp [intOf]; omega
      · have : ¬ 97 ≤ (s[k].toNat : Int) := by omega
        have : (s[k].toNat : Int) ≤ 122 := by omega
        have : 48 ≤ (s[k].toNat : Int) := by omega
        have : ¬ (s[k].toNat : Int) ≤ 57 := by omega
        have : ((s[k].toNat : Int) == 46) = false := beq_eq_false_iff_ne.2 (by omega)
        have : ((s[k].toNat : Int) == 45) = false := beq_eq_false_iff_ne.2 (by omega)
        have : ((s[k].toNat : Int) == 95) = false := beq_eq_false_iff_ne.2 (by omega)
        have : ((s[k].toNat : Int) == 47) = false := beq_eq_false_iff_ne.2 (by omega)
        have hg : nameB s.data.toList[k] = false := by rw [HNB.out, HX.out]; exact decide_eq_false (by omega)
        have hgn : goodN s.data.toList = false := by
          unfold goodN
          rw [show s.data.toList.all nameB = false from by
            rw [Bool.eq_false_iff]
            intro ha
            have := List.all_eq_true.1 ha _ (List.getElem_mem hkl)
            rw [hg] at this; cases this]
          exact Bool.and_false _
        have HG := Lib.hid hgn
        clear hg hgn h hc
        go_wp2
        go_ret
        exact ⟨by rw [HG.out]; rfl, HB.out⟩
      · have : 97 ≤ (s[k].toNat : Int) := by omega
        have : (s[k].toNat : Int) ≤ 122 := by omega
        have : 48 ≤ (s[k].toNat : Int) := by omega
        have : ¬ (s[k].toNat : Int) ≤ 57 := by omega
        have : ((s[k].toNat : Int) == 46) = false := beq_eq_false_iff_ne.2 (by omega)
        have : ((s[k].toNat : Int) == 45) = false := beq_eq_false_iff_ne.2 (by omega)
        have : ((s[k].toNat : Int) == 95) = false := beq_eq_false_iff_ne.2 (by omega)
        have : ((s[k].toNat : Int) == 47) = false := beq_eq_false_iff_ne.2 (by omega)
        have hg : nameB s.data.toList[k] = true := by rw [HNB.out, HX.out]; exact decide_eq_true (by omega)
        have HG := Lib.hid hg
        clear hg h hc
        go_wp2
        go_roundw
        case rel => exact ⟨k + 1, by omega, by trivial, by go_num, by rw [HT.out, HALL.out, HG.out]; rfl, HB.out⟩
        case measure => simp [intOf]; omega
      · have : 97 ≤ (s[k].toNat : Int) := by omega
        have : ¬ (s[k].toNat : Int) ≤ 122 := by omega
        have : 48 ≤ (s[k].toNat : Int) := by omega
        have : ¬ (s[k].toNat : Int) ≤ 57 := by omega
        have : ((s[k].toNat : Int) == 46) = false := beq_eq_false_iff_ne.2 (by omega)
        have : ((s[k].toNat : Int) == 45) = false := beq_eq_false_iff_ne.2 (by omega)
        have : ((s[k].toNat : Int) == 95) = false := beq_eq_false_iff_ne.2 (by omega)
        have : ((s[k].toNat : Int) == 47) = false := beq_eq_false_iff_ne.2 (by omega)
        have hg : nameB s.data.toList[k] = false := by rw [HNB.out, HX.out]; exact decide_eq_false (by omega)
        have hgn : goodN s.data.toList = false := by
          unfold goodN
          rw [show s.data.toList.all nameB = false from by
            rw [Bool.eq_false_iff]
            intro ha
            have := List.all_eq_true.1 ha _ (List.getElem_mem hkl)
            rw [hg] at this; cases this]
          exact Bool.and_false _
        have HG := Lib.hid hgn
        clear hg hgn h hc
        go_wp2
        go_ret
        exact ⟨by rw [HG.out]; rfl, HB.out⟩
    · obtain rfl : k = s.size := by omega
      have hgn : goodN s.data.toList = decide (1 ≤ s.size ∧ s.size ≤ 64) := by
        have ha := HALL.out
        rw [← HZ.out, List.take_length] at ha
        unfold goodN
        rw [ha, HZ.out, Bool.and_true]
      have HGN := Lib.hid hgn
      clear hgn
      by_cases c1 : 1 ≤ s.size
      · by_cases c2 : s.size ≤ 64
        · have HG := Lib.hid (show goodN s.data.toList = true from HGN.out.trans (decide_eq_true ⟨c1, c2⟩))
          go_wp2
          go_ret
          exact ⟨ret_bool (by rw [HG.out]; exact decide_eq_true (by omega)), HB.out⟩
        · have HG := Lib.hid (show goodN s.data.toList = false from HGN.out.trans (decide_eq_false (fun e => c2 e.2)))
          go_wp2
          go_ret
          exact ⟨ret_bool (by rw [HG.out]; exact decide_eq_false (by omega)), HB.out⟩
      · have HG := Lib.hid (show goodN s.data.toList = false from HGN.out.trans (decide_eq_false (fun e => c1 e.1)))
        go_wp2
        go_ret
        exact ⟨by rw [HG.out]; rfl, HB.out⟩
end Go.Proofs.YtnhfnfdmpcpcoaaDoor
