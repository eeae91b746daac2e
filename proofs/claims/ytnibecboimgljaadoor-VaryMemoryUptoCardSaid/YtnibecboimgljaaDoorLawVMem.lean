/-
  VaryMemory: the names that are answered are new memory, each time.
-/
import Derived.Test.YtnibecboimgljaaDoorSameTexts
import Derived.Test.YtnibecboimgljaaDoorAlive17
import Derived.Test.YtnibecboimgljaaDoorVSize
namespace Go.Proofs.YtnibecboimgljaaDoor
open Go.RowKit

theorem grown_refl (w : World) (row : Option Nat) : w.grownBy w row := ⟨rfl, rfl, rfl, Nat.le_refl _, fun _ _ _ => rfl⟩
theorem grown_set {a w : World} {g : Nat} (h : a.grownBy w (some g)) (j : Nat) (u : Value) : a.grownBy (w.setCell ⟨g, j, none⟩ u) (some g) :=
  ⟨h.os, h.tape, h.output, by simpa [World.setCell] using h.size, fun i hi hne => (Below.heap_setCell w ⟨g, j, none⟩ u i (fun e => hne (by rw [e]))).trans (h.block i hi hne)⟩

set_option maxHeartbeats 4000000 in
/-- behind the marks: the other rows are as they were -/
theorem varyMemory_walk (L : List Pair) (p : Option Addr) (c : Nat) (w : World) (hin : In2 w p L) (hk : bulkF L ≤ 1048576) :
    Calls Tryd.prog 6 #[.slice p L.length c] w fun e w' => e = .returned (.bool true) ∧ Below w.heap.size w w' := by
  have hL3 := bulkF_length L
  have hTL := tokens_lenV L
  have HMM := Lib.hid (fun x hx => by have := bulkF_mem L x hx; exact (⟨by omega, by omega⟩ : x.1.length ≤ 140737488351232 ∧ x.2.length ≤ 4000000000))
  obtain ⟨M, hM⟩ : ∃ M, M = (namesT L).1 := ⟨_, rfl⟩
  obtain ⟨fl, hfl⟩ : ∃ b : Bool, b = (namesT L).2 := ⟨_, rfl⟩
  have hll : M.length ≤ bulkF L := by rw [hM]; exact Nat.le_trans (bulkT_length _) (namesT_bulk L)
  have HM := Lib.hid hM
  have HFL := Lib.hid hfl
  clear hM hfl
  go_enter Tryd.func6, Tryd.ntmps6
  go_wp2_with fail
  refine (alive17_any w).mono ?_
  rintro e w1 ⟨rfl, hb1⟩
  have hs1 := hb1.size
  have hin1 := hin.below hb1
  go_wp2_with fail
  refine (names_any L p _ c rfl (by omega) HMM.out (by omega) _ hin1).mono ?_
  rintro e w2 ⟨v2, rfl, hown2, hb2⟩
  have hs2 := hb2.size
  rw [← HM.out] at hown2
  rw [← HFL.out]
  have hin2 := hin1.below hb2
  go_wp2_with fail
  refine (names_any L p _ c rfl (by omega) HMM.out (by omega) _ hin2).mono ?_
  rintro e w3 ⟨v3, rfl, hown3, hb3⟩
  have hs3 := hb3.size
  rw [← HM.out] at hown3
  rw [← HFL.out]
  have hin3 := hin2.below hb3
  go_wp2_with fail
  refine (refNames_any L p _ c rfl (by omega) HMM.out (by omega) _ hin3).mono ?_
  rintro e w4 ⟨v4, rfl, hown4, hb4⟩
  have hs4 := hb4.size
  rw [← HM.out] at hown4
  rw [← HFL.out]
  clear hin hin1 hin2 hin3
  have ha4 := (hown2.below hb3).below hb4
  have hc4 := hown3.below hb4
  have hB4 := ((hb1.trans (hb2.mono hs1)).trans (hb3.mono (by omega))).trans (hb4.mono (by omega))
  obtain ⟨pa, ca, rfl, a1, a2, ina, ga⟩ := hown2.shape rfl
  obtain ⟨pb, cb, rfl, b1, b2, inb, gb⟩ := hown3.shape rfl
  obtain ⟨pc, cc, rfl, c1, c2, inc, gc⟩ := hown4.shape rfl
  have ina4 := (ina.below hb3).below hb4
  have inb4 := inb.below hb4
  have hML : M.length ≤ maxLen := by unfold maxLen; omega
  clear ina inb
  go_wp2_with fail
  refine (sameTexts_same M _ _ _ _ _ _ rfl rfl hML w4 ina4 inc).mono ?_
  rintro e w5 ⟨rfl, hb5⟩
  have hs5 := hb5.size
  go_wp2_with fail
  refine (sameTexts_same M _ _ _ _ _ _ rfl rfl hML w5 (inb4.below hb5) (inc.below hb5)).mono ?_
  rintro e w6 ⟨rfl, hb6⟩
  have hs6 := hb6.size
  have hB6 := (hB4.trans (hb5.mono (by omega))).trans (hb6.mono (by omega))
  have ha6 := (ha4.below hb5).below hb6
  have hb6' := (hc4.below hb5).below hb6
  have hc6 := (hown4.below hb5).below hb6
  unfold maxLen at a2
  clear ina4 inb4 inc hown2 hown3 hown4 ha4 hc4
  have HA := Lib.hid ha6
  have HBr := Lib.hid hb6'
  have HCr := Lib.hid hc6
  have HG := Lib.hid ga
  have HGb := Lib.hid gb
  have HGc := Lib.hid gc
  clear ha6 hb6' hc6 ga gb gc
  go_wp2_with fail
  have hz6 : w2.heap.size ≤ w6.heap.size := by omega
  -- the row that is marked: in a block of its own, or there is none
  have key : ∃ row : Option Nat, ((∃ g, pa = some ⟨g, 0, none⟩ ∧ row = some g) ∨ M.length = 0) ∧ ∀ g, row = some g → w1.heap.size ≤ g ∧ g < w2.heap.size := by
    cases pa with
    | none =>
      refine ⟨none, .inr ?_, fun g e => by cases e⟩
      rcases HA.out.2 with ⟨h0, h1⟩ | ⟨g, cap, cur, h0, _⟩
      · exact h1
      · simp at h0
    | some a =>
      obtain ⟨q1, q2, q3, q4⟩ := HG.out a rfl
      obtain ⟨gg, oo, ss⟩ := a
      simp only at q1 q2 q3 q4
      subst q3 q4
      exact ⟨some gg, .inl ⟨gg, rfl, rfl⟩, fun g e => by cases e; exact ⟨q1, q2⟩⟩
  obtain ⟨row, hpa, hg⟩ := key
  have HR := Lib.hid hg
  have HPA := Lib.hid hpa
  clear hg hpa
  go_loopw [9] (fun i wr => ∃ k : Nat, k ≤ M.length ∧ i = .int .i64 k ∧ w6.grownBy wr row ∧ ∃ xs, wr.ownsRow w1.heap.size 9 1 (.slice pa M.length ca) M.length xs) (fun i _ => M.length - (intOf i).toNat)
  case atStart => exact ⟨0, by omega, rfl, grown_refl _ _, _, HA.out⟩
  case round =>
    obtain ⟨k, hk, rfl, hgr, xs, hown⟩ := hrel
    by_cases hlt : k < M.length
    · rcases HPA.out with ⟨g, rfl, hrow⟩ | h0
      · subst hrow
        have hx := hown.cellAt (g := g) (cap := ca) k (by omega)
        have hxl : xs.length = M.length := by have := hown.1; omega
        rw [List.getElem?_eq_getElem (by omega)] at hx
        have hfz := hown.frozenAt (g := g) (cap := ca) k
        have hst := hown.stored (g := g) (cap := ca) k (.string ⟨#[109, 97, 114, 107]⟩)
        generalize xs[k] = xk at hx
        have HGR := Lib.hid (grown_set hgr k (.string ⟨#[109, 97, 114, 107]⟩))
        have HST := Lib.hid hst
        clear hst hgr hown
        go_wp2
        go_roundw
        case rel => exact ⟨k + 1, by omega, by go_num, HGR.out, _, HST.out.1⟩
        case measure => simp [intOf]; omega
      · omega
    · obtain rfl : k = M.length := by omega
      have other : ∀ (base : Nat) (p : Option Addr) (c : Nat), w2.heap.size ≤ base → (∀ a, p = some a → base ≤ a.block) → OwnS w6 base (.slice p M.length c) M → OwnS wr base (.slice p M.length c) M := by
        intro base p c hb2 hp ho
        refine World.ownsRow.kept ho hgr ?_
        cases p with
        | none => exact .inl rfl
        | some a =>
          refine .inr (fun e => ?_)
          have q1 := hp a rfl
          have e' : row = some a.block := by rw [← e]; rfl
          have := HR.out _ e'
          omega
      have hownb := other w2.heap.size pb cb (Nat.le_refl _) (fun a e => (HGb.out a e).1) HBr.out
      have hownc := other w3.heap.size pc cc hs3 (fun a e => (HGc.out a e).1) HCr.out
      obtain ⟨pb', cb', eb, _, _, inb, _⟩ := hownb.shape rfl
      obtain ⟨pc', cc', ec, _, _, inc, _⟩ := hownc.shape rfl
      simp only [Value.slice.injEq, true_and] at eb ec
      obtain ⟨rfl, rfl⟩ := eb
      obtain ⟨rfl, rfl⟩ := ec
      have hBr := hB6.grown hgr (by omega) (fun g e => by have := HR.out g e; omega)
      have hsr := hgr.size
      clear hownb hownc other
      go_wp2_with fail
      refine (sameTexts_same M _ _ _ _ _ _ rfl rfl hML wr inb inc).mono ?_
      rintro e w7 ⟨rfl, hb7⟩
      go_wp2_with fail
      go_ret
      exact ⟨rfl, hBr.trans (hb7.mono (by omega))⟩
end Go.Proofs.YtnibecboimgljaaDoor
