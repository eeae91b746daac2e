/-
  Open: the log of a disk, and its records.
-/
import Derived.Test.YtheoklhmlnfgjaaGreatDoorPk5
import Derived.Test.YtheoklhmlnfgjaaGreatDoorPk1
namespace Go.Proofs.YtheoklhmlnfgjaaGreatDoor
open Go.RowKit Go.Maps
set_option linter.unusedVariables false

section
variable {w W W' : World} {P N : Nat → Prop} {dd lb g : Nat} {A : Pl} {n : Int}
theorem DK.count0 (h : DK w P N dd A W) (hl : LogBox W lb dd n) (hN : N lb) (hw : w.heap.size ≤ lb) (m : Int) : DK w P N dd A (W.setCell ⟨lb, 1, none⟩ (.int .i64 m)) := by
  have h' := (h.wide (Q := fun g => P g ∨ g = lb) fun _ h => .inl h).count hl hN (.inr rfl) m
  obtain ⟨⟨P', h1, h2⟩, h3, h4⟩ := h'
  refine ⟨⟨P', h1, fun g hg => ⟨?_, (h2 g hg).2⟩⟩, h3, h.2.2.then (Q := fun g => g = lb) ((Only.refl (fun g => g = lb) W).setCell (a := ⟨lb, 1, none⟩) rfl _) fun g hg => .inr (by rw [hg]; exact hw)⟩
  rcases (h2 g hg).1 with (e | e) | e
  · exact .inl e
  · exact .inr (by rw [e]; exact hw)
  · exact .inr e
theorem DK.rewrite (h : DK w P N dd A W) (hl : LogBox W lb dd n) (hN : N lb) (hw : w.heap.size ≤ lb) (hA : GoodS g A) (hg : g ≤ 999000) (L : List Rcd) (p : Option Addr) (m c : Nat) (hL : L.length = m) (hm : m ≤ 1000000000) (hin : InRc W p L) :
    Calls Tryz.prog 24 #[.pointer (some ⟨lb, 0, none⟩), .slice p m c] W fun e W' => e = .returned (.int .i64 (rewriteP A n L).2.2) ∧ DK w P N dd (rewriteP A n L).1 W' ∧ LogBox W' lb dd (rewriteP A n L).2.1 ∧ ∀ g, N g → g ≠ lb → W'.heap[g]? = W.heap[g]? := by
  obtain ⟨⟨P', h1, h2⟩, h3, h4⟩ := h
  refine (rewrite_p h1 hl (fun e => (h2 lb e).2 hN) hA hg L p m c hL hm hin).mono ?_
  rintro e W' ⟨rfl, ⟨P2, g1, g2⟩, g3, g4⟩
  refine ⟨rfl, ⟨⟨P2, g1, fun g hg => ?_⟩, fun g hg => Nat.lt_of_lt_of_le (h3 g hg) g4.size, h4.then g4 fun g hg => ?_⟩, g3, fun g hg hne => g4.block g (h3 g hg) fun e => ?_⟩
  · rcases g2 g hg with e | e
    · exact h2 g e
    · exact ⟨.inr (Nat.le_trans h4.size e), fun e2 => by have := h3 g e2; omega⟩
  · rcases hg with e | e
    · exact (h2 g e).1
    · exact .inr (by rw [e]; exact hw)
  · rcases e with e | e
    · exact (h2 g e).2 hg
    · exact hne e
end
theorem InRc.same {w w' : World} {p : Option Addr} {L : List Rcd} (h : InRc w p L) (hs : ∀ a, p = some a → w'.heap[a.block]? = w.heap[a.block]?) : InRc w' p L := by
  intro h0
  obtain ⟨b, o, rfl, hc⟩ := h h0
  exact ⟨b, o, rfl, fun j v hv => (World.cell?_of_block (a := ⟨b, o + j, none⟩) (hs ⟨b, o, none⟩ rfl)).trans (hc j v hv)⟩
theorem listP_now (A : Pl) : (listP A).length ≤ A.now.length := by
  unfold listP
  split
  · simp
  · rw [List.length_map]; exact Nat.le_refl _

/-- what Open leaves -/
def OpenPost (w : World) (P : Nat → Prop) (dd : Nat) (A : Pl) (r : List Rcd) (z : Int) (e : Ending) (w' : World) : Prop :=
  (z ≠ 0 ∧ e = .returned (.tuple #[.pointer none, .slice none 0 0, .int .i64 z]) ∧ DK w P (fun _ => False) dd A w') ∨
  (z = 0 ∧ ∃ lb p c, e = .returned (.tuple #[.pointer (some ⟨lb, 0, none⟩), .slice p r.length c, .int .i64 0]) ∧ DK w P (fun g => g = lb ∨ ∃ a, p = some a ∧ a.block = g) dd A w' ∧ LogBox w' lb dd r.length ∧ w.heap.size ≤ lb ∧ (∀ a, p = some a → w.heap.size ≤ a.block) ∧ InRc w' p r)

set_option maxRecDepth 100000 in
set_option maxHeartbeats 8000000 in
theorem open_p {w : World} {P : Nat → Prop} {dd g : Nat} {A : Pl} (h : DiskP w P dd A) (hA : GoodS g A) (hg : g ≤ 990000) :
    Calls Tryz.prog 18 #[.pointer (some ⟨dd, 0, none⟩)] w fun e w' => OpenPost w P dd (openP A).1 (openP A).2.1 (openP A).2.2 e w' := by
  obtain ⟨w0, hw0⟩ : ∃ x, x = (w.alloc (.cells #[.pointer (some ⟨dd, 0, none⟩)] 44)).alloc (.cells #[.pointer (some ⟨dd, 0, none⟩), .int .i64 0] 93) := ⟨_, rfl⟩
  have hb0 : Below w.heap.size w w0 := by rw [hw0]; exact ((Below.refl _ w).alloc (Nat.le_refl _) _).alloc (by simp) _
  have bD : Boxed w0 w.heap.size 44 (.pointer (some ⟨dd, 0, none⟩)) := by rw [hw0]; exact (Boxed.new w _ _).alloc _
  have bL : LogBox w0 (w.heap.size + 1) dd 0 := by
    rw [hw0]
    have := heap_alloc_new (w.alloc (.cells #[.pointer (some ⟨dd, 0, none⟩)] 44)) (.cells #[.pointer (some ⟨dd, 0, none⟩), .int .i64 0] 93)
    rw [World.size_alloc] at this
    exact this
  have hD : DK w P (fun g => g = w.heap.size ∨ g = w.heap.size + 1) dd A w0 := DK.begin h hb0 fun g hg => by
    have := bL.lt
    rcases hg with rfl | rfl
    · exact ⟨by omega, .inl (Nat.le_refl _)⟩
    · exact ⟨by omega, .inl (by omega)⟩
  obtain ⟨P0, h0, _⟩ := hD.1
  have hls := list_p h0 (hA.fitP (by omega)).now
  have cD := bD.cell
  have H := Lib.hid (And.intro hD (And.intro bD bL))
  have HW := Lib.hid hw0
  rw [hw0] at hls cD
  clear h hw0 hb0 bD bL hD h0
  go_enter Tryz.func18, Tryz.ntmps18
  go_wp2_with fail
  refine hls.mono ?_
  rw [← HW.out]
  rintro e W ⟨v1, rfl, hown1, hb1⟩
  obtain ⟨p1, c1, rfl, _, _, hin1, _⟩ := hown1.shape rfl
  have hct := contains_in ⟨#[108, 111, 103, 46, 110, 101, 119]⟩ W rfl (by have := (hA.fitP (by omega)).now; have := listP_now A; omega) hin1 (c := c1)
  have H1 := Lib.hid (And.intro (H.out.1.below hb1) (And.intro (Below.heap hb1 H.out.2.1) (Below.heap hb1 H.out.2.2)))
  clear hls hown1 hin1 hb1 cD
  rw [show (⟨#[108, 111, 103, 46, 110, 101, 119]⟩ : ByteArray).data.toList = newN from rfl] at hct
  have hct := hct.mono fun _ _ h => (show _ ∧ W = _ from ⟨h.1, h.2.symm⟩)
  by_cases hin : newN ∈ listP A
  · rw [decide_eq_true hin] at hct
    have cD := Boxed.cell H1.out.2.1
    have hrm := H1.out.1.call (fun P' h => remove_p h ⟨#[108, 111, 103, 46, 110, 101, 119]⟩ (by decide) (hA.fitP (by omega)))
    rw [show (⟨#[108, 111, 103, 46, 110, 101, 119]⟩ : ByteArray).data.toList = newN from rfl] at hrm
    have hsw : sweepP A = doP A (.remove newN) := by unfold sweepP; rw [if_pos hin]
    have hAs := hA.step (.remove newN)
    obtain ⟨S, hS⟩ : ∃ S, S = (doP A (.remove newN)).1 := ⟨_, rfl⟩
    obtain ⟨z, hz⟩ : ∃ z, z = (doP A (.remove newN)).2 := ⟨_, rfl⟩
    rw [← hS] at hrm hAs
    rw [← hz] at hrm
    have hsw : sweepP A = (S, z) := by rw [hsw, hS, hz]
    have HA := Lib.hid (And.intro hsw hAs)
    clear hS hz hsw hAs hin
    go_wp2_with fail
    refine hct.mono ?_
    rintro e w2 ⟨rfl, rfl⟩
    clear hct
    go_wp2_with fail
    refine hrm.mono ?_
    rintro e W ⟨rfl, hD2, hs2⟩
    have H2 := Lib.hid (And.intro hD2 (And.intro ((hs2 w.heap.size (.inl rfl)).trans H1.out.2.1) (LogBox.same H1.out.2.2 (hs2 _ (.inr rfl)))))
    clear hrm hD2 hs2 cD
    by_cases h0 : z = 0
    · subst h0
      have HA1 := Lib.hid (And.intro HA.out.1 HA.out.2)
      have cD := Boxed.cell H2.out.2.1
      go_wp2_with fail
      clear cD
      obtain ⟨P2, h2, _⟩ := H2.out.1.1
      have hrd := read_p h2 ⟨#[108, 111, 103]⟩ (by decide) (HA1.out.2.fitP (by omega)).used
      rw [show (⟨#[108, 111, 103]⟩ : ByteArray).data.toList = logN from rfl] at hrd
      have hrl := HA1.out.2.readP logN
      have hr0 : readEP S logN ≠ 0 → readP S logN = [] := fun h => by unfold readP; rw [if_neg h]
      obtain ⟨re, hre⟩ : ∃ x, x = readEP S logN := ⟨_, rfl⟩
      obtain ⟨rb, hrb⟩ : ∃ x, x = readP S logN := ⟨_, rfl⟩
      rw [← hre, ← hrb] at hrd hr0
      rw [← hrb] at hrl
      have hop : openP A = if re = 90 then ((stepsP S [.create logN, .sync logN, .names]).1, [], (stepsP S [.create logN, .sync logN, .names]).2.2)
          else if re ≠ 0 then (S, [], re) else if repN rb < rb.length then (if (rewriteP S 0 (repR rb)).2.2 ≠ 0 then ((rewriteP S 0 (repR rb)).1, [], (rewriteP S 0 (repR rb)).2.2) else ((rewriteP S 0 (repR rb)).1, repR rb, 0)) else (S, repR rb, 0) := by
        unfold openP
        rw [HA1.out.1]
        simp only
        rw [if_neg (by simp), ← hre, ← hrb]
      have HOP := Lib.hid hop
      clear h2 hre hrb hop
      refine hrd.mono ?_
      rintro e W3 ⟨v3, rfl, hown3, hb3⟩
      obtain ⟨p3, c3, rfl, hc1, hc2, hin3⟩ := hown3.in8n rfl
      have hpl := hown3.plain
      have bD3 : Boxed W3 w.heap.size 44 (.pointer (some ⟨dd, 0, none⟩)) := Below.heap hb3 H2.out.2.1
      have H3 := Lib.hid (And.intro (H2.out.1.below hb3) (And.intro bD3 (H2.out.2.2.below hb3)))
      have cD := bD3.cell
      clear hrd hb3 hown3
      by_cases h90 : re = 90
      · subst h90
        obtain rfl : rb = [] := hr0 (by decide)
        obtain ⟨wv, hwv⟩ : ∃ x, x = W3.alloc (.cells #[.func (.func 45) #[] #[.pointer (some ⟨w.heap.size, 0, none⟩)], .func (.func 47) #[] #[.pointer (some ⟨w.heap.size, 0, none⟩)], .func (.func 49) #[.pointer (some ⟨dd, 0, none⟩)] #[]] 101) := ⟨_, rfl⟩
        have hbv : Below W3.heap.size W3 wv := by rw [hwv]; exact (Below.refl _ W3).alloc (Nat.le_refl _) _
        have hrow := heap_alloc_new W3 (.cells #[.func (.func 45) #[] #[.pointer (some ⟨w.heap.size, 0, none⟩)], .func (.func 47) #[] #[.pointer (some ⟨w.heap.size, 0, none⟩)], .func (.func 49) #[.pointer (some ⟨dd, 0, none⟩)] #[]] 101)
        rw [← hwv] at hrow
        have hD := H3.out.1.add hbv (fun g => g = w.heap.size ∨ g = w.heap.size + 1 ∨ g = W3.heap.size) (fun g hg => by
          rcases hg with e | e | e
          · exact .inl (.inl e)
          · exact .inl (.inr e)
          · exact .inr ⟨by rw [e]; exact Nat.le_refl _, by rw [e]; exact lt_of_heap hrow⟩)
        have bDv : Boxed wv w.heap.size 44 (.pointer (some ⟨dd, 0, none⟩)) := Below.heap hbv H3.out.2.1
        have hlv := H3.out.2.2.below hbv
        have hfirst := first_dk (c := 3) [.create logN, .sync logN, .names] _ _ _ rfl rfl (by simp) hD (.inr (.inr rfl)) hrow rfl (fun k hk => by
          have hA' := HA1.out.2.st [.create logN, .sync logN, .names] k (by omega)
          have hk3 : k < 3 := hk
          have hfit := hA'.fitP (by omega)
          rcases k with _ | _ | _ | k
          · exact ⟨_, _, _, rfl, enters_of Tryz.func45 (by kernel_rfl) rfl, fun W' P' hs h => open1_any h ((World.cell?_of_block (hs w.heap.size (.inl rfl))).trans bDv.cell) hfit⟩
          · exact ⟨_, _, _, rfl, enters_of Tryz.func47 (by kernel_rfl) rfl, fun W' P' hs h => open2_any h ((World.cell?_of_block (hs w.heap.size (.inl rfl))).trans bDv.cell) hfit⟩
          · exact ⟨_, _, _, rfl, enters_of Tryz.func49 (by kernel_rfl) rfl, fun W' P' hs h => names_p h hfit⟩
          · omega)
        obtain ⟨st, hst⟩ : ∃ x, x = stepsP S [.create logN, .sync logN, .names] := ⟨_, rfl⟩
        rw [← hst, hwv] at hfirst
        have HO := Lib.hid (show openP A = (st.1, [], st.2.2) by rw [HOP.out, if_pos rfl, hst])
        have HV := Lib.hid (And.intro hwv (And.intro hlv hbv))
        clear hwv hbv hrow hD bDv hlv hst
        go_wp2_with fail
        refine hfirst.mono ?_
        rw [← HV.out.1]
        rintro e W4 ⟨rfl, hD4, hs4⟩
        clear hfirst
        obtain ⟨T, k, z⟩ := st
        dsimp only at hD4 HO ⊢
        have H4 := Lib.hid (And.intro hD4 (HV.out.2.1.same (hs4 _ (.inr (.inl rfl)))))
        clear hD4 hs4
        by_cases hz : z = 0
        · subst hz
          have hrp := replay_any [] p3 0 c3 hpl rfl (by omega) hc1 hc2 W4 (fun h => absurd h (by simp))
          rw [show repN [] = 0 from rfl] at hrp
          go_wp2_with fail
          refine hrp.mono ?_
          rintro e W5 ⟨v5, rfl, hown5, _, hb5⟩
          obtain ⟨p5, c5, rfl, _, _, hin5, hpp5⟩ := hown5.shape (show (repR []).length = 0 from rfl)
          have hl5 := H4.out.2.below hb5
          have d1 := hl5.c1
          have df := hl5.fr 1
          have hD5 := (H4.out.1.add hb5 (fun g => g = w.heap.size + 1 ∨ ∃ a, p5 = some a ∧ a.block = g) (fun g hg => by
            rcases hg with e | ⟨a, ha, e⟩
            · exact .inl (.inr (.inl e))
            · have := hpp5 a ha
              exact .inr ⟨by rw [← e]; exact this.1, by rw [← e]; exact this.2.1⟩)).count0 hl5 (.inl rfl) (by omega) 0
          have H5 := Lib.hid (And.intro hD5 (And.intro (hl5.set 0) (And.intro (fun a ha => Nat.le_trans H4.out.1.2.2.size (hpp5 a ha).1) (InRc.nil (W5.setCell ⟨w.heap.size + 1, 1, none⟩ (.int .i64 0)) p5))))
          clear hrp hown5 hb5 hin5 hpp5 hl5 hD5 hin3 hpl
          go_wp2_with fail
          refine bodyPost_ret (results_tmp3 rfl _ _ _) rfl ?_
          rw [HO.out]
          exact .inr ⟨rfl, w.heap.size + 1, p5, c5, rfl, H5.out.1, H5.out.2.1, by omega, H5.out.2.2.1, H5.out.2.2.2⟩
        · have q1 : (z == 0) = false := beq_eq_false_iff_ne.2 hz
          have q2 : (z != 0) = true := by simp [bne, q1]
          have HZ := Lib.hid hz
          clear hz hin3 hpl
          go_wp2_with fail
          refine bodyPost_ret (results_tmp3 rfl _ _ _) rfl ?_
          rw [HO.out]
          exact .inl ⟨HZ.out, rfl, H4.out.1.add (Below.refl _ _) _ fun _ hg => hg.elim⟩
      · have q90 : (re == 90) = false := beq_eq_false_iff_ne.2 h90
        have HOP := Lib.hid (show openP A = if re ≠ 0 then (S, [], re) else if repN rb < rb.length then (if (rewriteP S 0 (repR rb)).2.2 ≠ 0 then ((rewriteP S 0 (repR rb)).1, [], (rewriteP S 0 (repR rb)).2.2) else ((rewriteP S 0 (repR rb)).1, repR rb, 0)) else (S, repR rb, 0) by rw [HOP.out, if_neg h90])
        clear h90
        by_cases hz : re = 0
        · subst hz
          have hrp := replay_any rb p3 rb.length c3 hpl rfl (by omega) hc1 hc2 W3 hin3
          have hrn : repN rb ≤ rb.length := offs_le rb _ (Nat.le_refl _)
          have hrc : (repR rb).length ≤ 1000000000 := by have := rep_len rb; rw [repR_length]; omega
          have HOP := Lib.hid (show openP A = if repN rb < rb.length then (if (rewriteP S 0 (repR rb)).2.2 ≠ 0 then ((rewriteP S 0 (repR rb)).1, [], (rewriteP S 0 (repR rb)).2.2) else ((rewriteP S 0 (repR rb)).1, repR rb, 0)) else (S, repR rb, 0) by rw [HOP.out, if_neg (by simp)])
          obtain ⟨rn, hrn2⟩ : ∃ x, x = repN rb := ⟨_, rfl⟩
          obtain ⟨R, hR⟩ : ∃ x, x = repR rb := ⟨_, rfl⟩
          obtain ⟨bl, hbl⟩ : ∃ x, x = rb.length := ⟨_, rfl⟩
          rw [← hrn2, ← hR, ← hbl] at hrp HOP
          rw [← hrn2, ← hbl] at hrn
          rw [← hR] at hrc
          rw [← hbl]
          have hblm : bl ≤ 1073741824 := by rw [hbl]; exact hrl
          clear hrn2 hbl hr0 hrl hin3 hpl hc1 hR
          go_wp2_with fail
          refine hrp.mono ?_
          rintro e W5 ⟨v5, rfl, hown5, _, hb5⟩
          obtain ⟨p5, c5, rfl, _, _, hin5, hpp5⟩ := hown5.shape rfl
          have hl5 := H3.out.2.2.below hb5
          have hD5 := H3.out.1.add hb5 (fun g => g = w.heap.size + 1 ∨ ∃ a, p5 = some a ∧ a.block = g) (fun g hg => by
            rcases hg with e | ⟨a, ha, e⟩
            · exact .inl (.inr e)
            · have := hpp5 a ha
              exact .inr ⟨by rw [← e]; exact this.1, by rw [← e]; exact this.2.1⟩)
          have hpb : ∀ a, p5 = some a → w.heap.size ≤ a.block ∧ a.block ≠ w.heap.size + 1 := fun a ha => ⟨Nat.le_trans H3.out.1.2.2.size (hpp5 a ha).1, fun e => by have h1 := H3.out.2.2.lt; have h2 := (hpp5 a ha).1; omega⟩
          have H5 := Lib.hid (And.intro hD5 (And.intro hl5 (And.intro hpb hin5)))
          clear hrp hown5 hb5 hin5 hpp5 hl5 hD5 hpb
          by_cases hlt : rn < bl
          · have hrw := H5.out.1.rewrite H5.out.2.1 (.inl rfl) (by omega) HA1.out.2 (by omega) R p5 R.length c5 rfl hrc H5.out.2.2.2
            have HOP := Lib.hid (show openP A = if (rewriteP S 0 R).2.2 ≠ 0 then ((rewriteP S 0 R).1, [], (rewriteP S 0 R).2.2) else ((rewriteP S 0 R).1, R, 0) by rw [HOP.out, if_pos hlt])
            obtain ⟨⟨T, cnt, z⟩, hT⟩ : ∃ x, x = rewriteP S 0 R := ⟨_, rfl⟩
            rw [← hT] at hrw HOP
            dsimp only at hrw HOP
            clear hT
            go_wp2_with fail
            refine hrw.mono ?_
            rintro e W6 ⟨rfl, hD6, hl6, hs6⟩
            have d1 := hl6.c1
            have df := hl6.fr 1
            have H6 := Lib.hid (And.intro hD6 (And.intro hl6 hs6))
            clear hrw hD6 hl6 hs6
            by_cases hz : z = 0
            · subst hz
              have HO := Lib.hid (show openP A = (T, R, 0) by rw [HOP.out, if_neg (by simp)])
              have hD7 := H6.out.1.count0 H6.out.2.1 (.inl rfl) (by omega) (R.length : Int)
              have H7 := Lib.hid (And.intro hD7 (And.intro (H6.out.2.1.set (R.length : Int)) (InRc.same (w' := W6.setCell ⟨w.heap.size + 1, 1, none⟩ (.int .i64 R.length)) H5.out.2.2.2 fun a ha => (Below.heap_setCell W6 ⟨w.heap.size + 1, 1, none⟩ _ a.block (H5.out.2.2.1 a ha).2).trans (H6.out.2.2 a.block (.inr ⟨a, ha, rfl⟩) (H5.out.2.2.1 a ha).2))))
              clear hD7
              go_wp2_with fail
              refine bodyPost_ret (results_tmp3 rfl _ _ _) rfl ?_
              rw [HO.out]
              exact .inr ⟨rfl, w.heap.size + 1, p5, c5, rfl, H7.out.1, H7.out.2.1, by omega, fun a ha => (H5.out.2.2.1 a ha).1, H7.out.2.2⟩
            · have q1 : (z == 0) = false := beq_eq_false_iff_ne.2 hz
              have q2 : (z != 0) = true := by simp [bne, q1]
              have HO := Lib.hid (show openP A = (T, [], z) by rw [HOP.out, if_pos hz])
              have HZ := Lib.hid hz
              clear hz
              go_wp2_with fail
              refine bodyPost_ret (results_tmp3 rfl _ _ _) rfl ?_
              rw [HO.out]
              exact .inl ⟨HZ.out, rfl, H6.out.1.add (Below.refl _ _) _ fun _ hg => hg.elim⟩
          · have HO := Lib.hid (show openP A = (S, R, 0) by rw [HOP.out, if_neg hlt])
            have d1 := H5.out.2.1.c1
            have df := H5.out.2.1.fr 1
            have hD7 := H5.out.1.count0 H5.out.2.1 (.inl rfl) (by omega) (R.length : Int)
            have H7 := Lib.hid (And.intro hD7 (And.intro (H5.out.2.1.set (R.length : Int)) (InRc.same (w' := W5.setCell ⟨w.heap.size + 1, 1, none⟩ (.int .i64 R.length)) H5.out.2.2.2 fun a ha => (Below.heap_setCell W5 ⟨w.heap.size + 1, 1, none⟩ _ a.block (H5.out.2.2.1 a ha).2))))
            clear hD7
            go_wp2_with fail
            refine bodyPost_ret (results_tmp3 rfl _ _ _) rfl ?_
            rw [HO.out]
            exact .inr ⟨rfl, w.heap.size + 1, p5, c5, rfl, H7.out.1, H7.out.2.1, by omega, fun a ha => (H5.out.2.2.1 a ha).1, H7.out.2.2⟩
        · have q1 : (re == 0) = false := beq_eq_false_iff_ne.2 hz
          have q2 : (re != 0) = true := by simp [bne, q1]
          have HO := Lib.hid (show openP A = (S, [], re) by rw [HOP.out, if_pos hz])
          have HZ := Lib.hid hz
          clear hz hin3 hpl
          go_wp2_with fail
          refine bodyPost_ret (results_tmp3 rfl _ _ _) rfl ?_
          rw [HO.out]
          exact .inl ⟨HZ.out, rfl, H3.out.1.add (Below.refl _ _) _ fun _ hg => hg.elim⟩
    · have q1 : (z == 0) = false := beq_eq_false_iff_ne.2 h0
      have q2 : (z != 0) = true := by simp [bne, q1]
      have HO := Lib.hid (show openP A = (S, [], z) by unfold openP; rw [HA.out.1]; simp only; rw [if_pos h0])
      have H0 := Lib.hid h0
      clear h0
      go_wp2_with fail
      refine bodyPost_ret (results_tmp3 rfl _ _ _) rfl ?_
      rw [HO.out]
      exact .inl ⟨H0.out, rfl, H2.out.1.add (Below.refl _ _) _ fun _ hg => hg.elim⟩
  · rw [decide_eq_false hin] at hct
    have cD := Boxed.cell H1.out.2.1
    have hsw : sweepP A = (A, 0) := by unfold sweepP; rw [if_neg hin]
    obtain ⟨S, hS⟩ : ∃ S, S = A := ⟨_, rfl⟩
    have HA1 := Lib.hid (show sweepP A = (S, 0) ∧ GoodS (g + 1) S by rw [hS]; exact ⟨hsw, hA.more (by omega)⟩)
    have H2 := Lib.hid (show DK w P (fun g => g = w.heap.size ∨ g = w.heap.size + 1) dd S W ∧ Boxed W w.heap.size 44 (.pointer (some ⟨dd, 0, none⟩)) ∧ LogBox W (w.heap.size + 1) dd 0 by rw [hS]; exact H1.out)
    clear hsw hin H1 hS
    go_wp2_with fail
    refine hct.mono ?_
    rintro e w2 ⟨rfl, rfl⟩
    clear hct
    go_wp2_with fail
    clear cD
    obtain ⟨P2, h2, _⟩ := H2.out.1.1
    have hrd := read_p h2 ⟨#[108, 111, 103]⟩ (by decide) (HA1.out.2.fitP (by omega)).used
    rw [show (⟨#[108, 111, 103]⟩ : ByteArray).data.toList = logN from rfl] at hrd
    have hrl := HA1.out.2.readP logN
    have hr0 : readEP S logN ≠ 0 → readP S logN = [] := fun h => by unfold readP; rw [if_neg h]
    obtain ⟨re, hre⟩ : ∃ x, x = readEP S logN := ⟨_, rfl⟩
    obtain ⟨rb, hrb⟩ : ∃ x, x = readP S logN := ⟨_, rfl⟩
    rw [← hre, ← hrb] at hrd hr0
    rw [← hrb] at hrl
    have hop : openP A = if re = 90 then ((stepsP S [.create logN, .sync logN, .names]).1, [], (stepsP S [.create logN, .sync logN, .names]).2.2)
        else if re ≠ 0 then (S, [], re) else if repN rb < rb.length then (if (rewriteP S 0 (repR rb)).2.2 ≠ 0 then ((rewriteP S 0 (repR rb)).1, [], (rewriteP S 0 (repR rb)).2.2) else ((rewriteP S 0 (repR rb)).1, repR rb, 0)) else (S, repR rb, 0) := by
      unfold openP
      rw [HA1.out.1]
      simp only
      rw [if_neg (by simp), ← hre, ← hrb]
    have HOP := Lib.hid hop
    clear h2 hre hrb hop
    refine hrd.mono ?_
    rintro e W3 ⟨v3, rfl, hown3, hb3⟩
    obtain ⟨p3, c3, rfl, hc1, hc2, hin3⟩ := hown3.in8n rfl
    have hpl := hown3.plain
    have bD3 : Boxed W3 w.heap.size 44 (.pointer (some ⟨dd, 0, none⟩)) := Below.heap hb3 H2.out.2.1
    have H3 := Lib.hid (And.intro (H2.out.1.below hb3) (And.intro bD3 (H2.out.2.2.below hb3)))
    have cD := bD3.cell
    clear hrd hb3 hown3
    by_cases h90 : re = 90
    · subst h90
      obtain rfl : rb = [] := hr0 (by decide)
      obtain ⟨wv, hwv⟩ : ∃ x, x = W3.alloc (.cells #[.func (.func 45) #[] #[.pointer (some ⟨w.heap.size, 0, none⟩)], .func (.func 47) #[] #[.pointer (some ⟨w.heap.size, 0, none⟩)], .func (.func 49) #[.pointer (some ⟨dd, 0, none⟩)] #[]] 101) := ⟨_, rfl⟩
      have hbv : Below W3.heap.size W3 wv := by rw [hwv]; exact (Below.refl _ W3).alloc (Nat.le_refl _) _
      have hrow := heap_alloc_new W3 (.cells #[.func (.func 45) #[] #[.pointer (some ⟨w.heap.size, 0, none⟩)], .func (.func 47) #[] #[.pointer (some ⟨w.heap.size, 0, none⟩)], .func (.func 49) #[.pointer (some ⟨dd, 0, none⟩)] #[]] 101)
      rw [← hwv] at hrow
      have hD := H3.out.1.add hbv (fun g => g = w.heap.size ∨ g = w.heap.size + 1 ∨ g = W3.heap.size) (fun g hg => by
        rcases hg with e | e | e
        · exact .inl (.inl e)
        · exact .inl (.inr e)
        · exact .inr ⟨by rw [e]; exact Nat.le_refl _, by rw [e]; exact lt_of_heap hrow⟩)
      have bDv : Boxed wv w.heap.size 44 (.pointer (some ⟨dd, 0, none⟩)) := Below.heap hbv H3.out.2.1
      have hlv := H3.out.2.2.below hbv
      have hfirst := first_dk (c := 3) [.create logN, .sync logN, .names] _ _ _ rfl rfl (by simp) hD (.inr (.inr rfl)) hrow rfl (fun k hk => by
        have hA' := HA1.out.2.st [.create logN, .sync logN, .names] k (by omega)
        have hk3 : k < 3 := hk
        have hfit := hA'.fitP (by omega)
        rcases k with _ | _ | _ | k
        · exact ⟨_, _, _, rfl, enters_of Tryz.func45 (by kernel_rfl) rfl, fun W' P' hs h => open1_any h ((World.cell?_of_block (hs w.heap.size (.inl rfl))).trans bDv.cell) hfit⟩
        · exact ⟨_, _, _, rfl, enters_of Tryz.func47 (by kernel_rfl) rfl, fun W' P' hs h => open2_any h ((World.cell?_of_block (hs w.heap.size (.inl rfl))).trans bDv.cell) hfit⟩
        · exact ⟨_, _, _, rfl, enters_of Tryz.func49 (by kernel_rfl) rfl, fun W' P' hs h => names_p h hfit⟩
        · omega)
      obtain ⟨st, hst⟩ : ∃ x, x = stepsP S [.create logN, .sync logN, .names] := ⟨_, rfl⟩
      rw [← hst, hwv] at hfirst
      have HO := Lib.hid (show openP A = (st.1, [], st.2.2) by rw [HOP.out, if_pos rfl, hst])
      have HV := Lib.hid (And.intro hwv (And.intro hlv hbv))
      clear hwv hbv hrow hD bDv hlv hst
      go_wp2_with fail
      refine hfirst.mono ?_
      rw [← HV.out.1]
      rintro e W4 ⟨rfl, hD4, hs4⟩
      clear hfirst
      obtain ⟨T, k, z⟩ := st
      dsimp only at hD4 HO ⊢
      have H4 := Lib.hid (And.intro hD4 (HV.out.2.1.same (hs4 _ (.inr (.inl rfl)))))
      clear hD4 hs4
      by_cases hz : z = 0
      · subst hz
        have hrp := replay_any [] p3 0 c3 hpl rfl (by omega) hc1 hc2 W4 (fun h => absurd h (by simp))
        rw [show repN [] = 0 from rfl] at hrp
        go_wp2_with fail
        refine hrp.mono ?_
        rintro e W5 ⟨v5, rfl, hown5, _, hb5⟩
        obtain ⟨p5, c5, rfl, _, _, hin5, hpp5⟩ := hown5.shape (show (repR []).length = 0 from rfl)
        have hl5 := H4.out.2.below hb5
        have d1 := hl5.c1
        have df := hl5.fr 1
        have hD5 := (H4.out.1.add hb5 (fun g => g = w.heap.size + 1 ∨ ∃ a, p5 = some a ∧ a.block = g) (fun g hg => by
          rcases hg with e | ⟨a, ha, e⟩
          · exact .inl (.inr (.inl e))
          · have := hpp5 a ha
            exact .inr ⟨by rw [← e]; exact this.1, by rw [← e]; exact this.2.1⟩)).count0 hl5 (.inl rfl) (by omega) 0
        have H5 := Lib.hid (And.intro hD5 (And.intro (hl5.set 0) (And.intro (fun a ha => Nat.le_trans H4.out.1.2.2.size (hpp5 a ha).1) (InRc.nil (W5.setCell ⟨w.heap.size + 1, 1, none⟩ (.int .i64 0)) p5))))
        clear hrp hown5 hb5 hin5 hpp5 hl5 hD5 hin3 hpl
        go_wp2_with fail
        refine bodyPost_ret (results_tmp3 rfl _ _ _) rfl ?_
        rw [HO.out]
        exact .inr ⟨rfl, w.heap.size + 1, p5, c5, rfl, H5.out.1, H5.out.2.1, by omega, H5.out.2.2.1, H5.out.2.2.2⟩
      · have q1 : (z == 0) = false := beq_eq_false_iff_ne.2 hz
        have q2 : (z != 0) = true := by simp [bne, q1]
        have HZ := Lib.hid hz
        clear hz hin3 hpl
        go_wp2_with fail
        refine bodyPost_ret (results_tmp3 rfl _ _ _) rfl ?_
        rw [HO.out]
        exact .inl ⟨HZ.out, rfl, H4.out.1.add (Below.refl _ _) _ fun _ hg => hg.elim⟩
    · have q90 : (re == 90) = false := beq_eq_false_iff_ne.2 h90
      have HOP := Lib.hid (show openP A = if re ≠ 0 then (S, [], re) else if repN rb < rb.length then (if (rewriteP S 0 (repR rb)).2.2 ≠ 0 then ((rewriteP S 0 (repR rb)).1, [], (rewriteP S 0 (repR rb)).2.2) else ((rewriteP S 0 (repR rb)).1, repR rb, 0)) else (S, repR rb, 0) by rw [HOP.out, if_neg h90])
      clear h90
      by_cases hz : re = 0
      · subst hz
        have hrp := replay_any rb p3 rb.length c3 hpl rfl (by omega) hc1 hc2 W3 hin3
        have hrn : repN rb ≤ rb.length := offs_le rb _ (Nat.le_refl _)
        have hrc : (repR rb).length ≤ 1000000000 := by have := rep_len rb; rw [repR_length]; omega
        have HOP := Lib.hid (show openP A = if repN rb < rb.length then (if (rewriteP S 0 (repR rb)).2.2 ≠ 0 then ((rewriteP S 0 (repR rb)).1, [], (rewriteP S 0 (repR rb)).2.2) else ((rewriteP S 0 (repR rb)).1, repR rb, 0)) else (S, repR rb, 0) by rw [HOP.out, if_neg (by simp)])
        obtain ⟨rn, hrn2⟩ : ∃ x, x = repN rb := ⟨_, rfl⟩
        obtain ⟨R, hR⟩ : ∃ x, x = repR rb := ⟨_, rfl⟩
        obtain ⟨bl, hbl⟩ : ∃ x, x = rb.length := ⟨_, rfl⟩
        rw [← hrn2, ← hR, ← hbl] at hrp HOP
        rw [← hrn2, ← hbl] at hrn
        rw [← hR] at hrc
        rw [← hbl]
        have hblm : bl ≤ 1073741824 := by rw [hbl]; exact hrl
        clear hrn2 hbl hr0 hrl hin3 hpl hc1 hR
        go_wp2_with fail
        refine hrp.mono ?_
        rintro e W5 ⟨v5, rfl, hown5, _, hb5⟩
        obtain ⟨p5, c5, rfl, _, _, hin5, hpp5⟩ := hown5.shape rfl
        have hl5 := H3.out.2.2.below hb5
        have hD5 := H3.out.1.add hb5 (fun g => g = w.heap.size + 1 ∨ ∃ a, p5 = some a ∧ a.block = g) (fun g hg => by
          rcases hg with e | ⟨a, ha, e⟩
          · exact .inl (.inr e)
          · have := hpp5 a ha
            exact .inr ⟨by rw [← e]; exact this.1, by rw [← e]; exact this.2.1⟩)
        have hpb : ∀ a, p5 = some a → w.heap.size ≤ a.block ∧ a.block ≠ w.heap.size + 1 := fun a ha => ⟨Nat.le_trans H3.out.1.2.2.size (hpp5 a ha).1, fun e => by have h1 := H3.out.2.2.lt; have h2 := (hpp5 a ha).1; omega⟩
        have H5 := Lib.hid (And.intro hD5 (And.intro hl5 (And.intro hpb hin5)))
        clear hrp hown5 hb5 hin5 hpp5 hl5 hD5 hpb
        by_cases hlt : rn < bl
        · have hrw := H5.out.1.rewrite H5.out.2.1 (.inl rfl) (by omega) HA1.out.2 (by omega) R p5 R.length c5 rfl hrc H5.out.2.2.2
          have HOP := Lib.hid (show openP A = if (rewriteP S 0 R).2.2 ≠ 0 then ((rewriteP S 0 R).1, [], (rewriteP S 0 R).2.2) else ((rewriteP S 0 R).1, R, 0) by rw [HOP.out, if_pos hlt])
          obtain ⟨⟨T, cnt, z⟩, hT⟩ : ∃ x, x = rewriteP S 0 R := ⟨_, rfl⟩
          rw [← hT] at hrw HOP
          dsimp only at hrw HOP
          clear hT
          go_wp2_with fail
          refine hrw.mono ?_
          rintro e W6 ⟨rfl, hD6, hl6, hs6⟩
          have d1 := hl6.c1
          have df := hl6.fr 1
          have H6 := Lib.hid (And.intro hD6 (And.intro hl6 hs6))
          clear hrw hD6 hl6 hs6
          by_cases hz : z = 0
          · subst hz
            have HO := Lib.hid (show openP A = (T, R, 0) by rw [HOP.out, if_neg (by simp)])
            have hD7 := H6.out.1.count0 H6.out.2.1 (.inl rfl) (by omega) (R.length : Int)
            have H7 := Lib.hid (And.intro hD7 (And.intro (H6.out.2.1.set (R.length : Int)) (InRc.same (w' := W6.setCell ⟨w.heap.size + 1, 1, none⟩ (.int .i64 R.length)) H5.out.2.2.2 fun a ha => (Below.heap_setCell W6 ⟨w.heap.size + 1, 1, none⟩ _ a.block (H5.out.2.2.1 a ha).2).trans (H6.out.2.2 a.block (.inr ⟨a, ha, rfl⟩) (H5.out.2.2.1 a ha).2))))
            clear hD7
            go_wp2_with fail
            refine bodyPost_ret (results_tmp3 rfl _ _ _) rfl ?_
            rw [HO.out]
            exact .inr ⟨rfl, w.heap.size + 1, p5, c5, rfl, H7.out.1, H7.out.2.1, by omega, fun a ha => (H5.out.2.2.1 a ha).1, H7.out.2.2⟩
          · have q1 : (z == 0) = false := beq_eq_false_iff_ne.2 hz
            have q2 : (z != 0) = true := by simp [bne, q1]
            have HO := Lib.hid (show openP A = (T, [], z) by rw [HOP.out, if_pos hz])
            have HZ := Lib.hid hz
            clear hz
            go_wp2_with fail
            refine bodyPost_ret (results_tmp3 rfl _ _ _) rfl ?_
            rw [HO.out]
            exact .inl ⟨HZ.out, rfl, H6.out.1.add (Below.refl _ _) _ fun _ hg => hg.elim⟩
        · have HO := Lib.hid (show openP A = (S, R, 0) by rw [HOP.out, if_neg hlt])
          have d1 := H5.out.2.1.c1
          have df := H5.out.2.1.fr 1
          have hD7 := H5.out.1.count0 H5.out.2.1 (.inl rfl) (by omega) (R.length : Int)
          have H7 := Lib.hid (And.intro hD7 (And.intro (H5.out.2.1.set (R.length : Int)) (InRc.same (w' := W5.setCell ⟨w.heap.size + 1, 1, none⟩ (.int .i64 R.length)) H5.out.2.2.2 fun a ha => (Below.heap_setCell W5 ⟨w.heap.size + 1, 1, none⟩ _ a.block (H5.out.2.2.1 a ha).2))))
          clear hD7
          go_wp2_with fail
          refine bodyPost_ret (results_tmp3 rfl _ _ _) rfl ?_
          rw [HO.out]
          exact .inr ⟨rfl, w.heap.size + 1, p5, c5, rfl, H7.out.1, H7.out.2.1, by omega, fun a ha => (H5.out.2.2.1 a ha).1, H7.out.2.2⟩
      · have q1 : (re == 0) = false := beq_eq_false_iff_ne.2 hz
        have q2 : (re != 0) = true := by simp [bne, q1]
        have HO := Lib.hid (show openP A = (S, [], re) by rw [HOP.out, if_pos hz])
        have HZ := Lib.hid hz
        clear hz hin3 hpl
        go_wp2_with fail
        refine bodyPost_ret (results_tmp3 rfl _ _ _) rfl ?_
        rw [HO.out]
        exact .inl ⟨HZ.out, rfl, H3.out.1.add (Below.refl _ _) _ fun _ hg => hg.elim⟩
end Go.Proofs.YtheoklhmlnfgjaaGreatDoor
