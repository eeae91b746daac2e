/-
  The sound part of a log: plain. No program is in sight here.
-/
import Derived.Test.YtheoklhmlnfgjaaGreatDoorHvDecRef
import Derived.Test.YtheoklhmlnfgjaaGreatDoorPk1
import Derived.RangeFuncNested
import Derived.RangeFuncBound
import Derived.RangeFuncCalls
import Derived.RangeFuncLeaves
import Derived.Shelf.Abstract
import Derived.Shelf.RegionOpen
import Derived.WalkKit
import Derived.OwnWalkIn
import Derived.TacticsInMore
import Derived.LoopNIn
import Derived.LoopIn
import Derived.RangeFuncBox
import Derived.RangeFuncFrom
import Derived.RangeFuncWrites
import Derived.Maps.AppendAt
import Derived.Sort.BigQuietIn
import Derived.Deep.QuietTactic
import Derived.BigQuiet
namespace Go.Proofs.YtheoklhmlnfgjaaGreatDoor

/-- the record at the beginning goes on: it is read, and bears the number that is awaited -/
def goesOn (d : Dec) (k : Nat) : Prop := d.err = 0 ∧ d.n ≠ 0 ∧ d.seq = k
instance (d : Dec) (k : Nat) : Decidable (goesOn d k) := by unfold goesOn; infer_instance
theorem dec_len (l : List UInt8) (h : (dec l).err = 0) (h0 : (dec l).n ≠ 0) : 15 ≤ (dec l).n ∧ (dec l).n ≤ l.length := by
  revert h h0
  refine dec_split (fun d => d.err = 0 → d.n ≠ 0 → 15 ≤ d.n ∧ d.n ≤ l.length) l ?_ ?_ ?_ ?_ ?_ ?_ ?_
  · intro _ _ h; exact absurd rfl h
  · intro _ _ _ _ h; exact absurd rfl h
  · intro _ _ _ _ h; exact absurd rfl h
  · intro _ _ _ _ h; exact absurd rfl h
  · intro _ _ _ _ _ h; exact absurd rfl h
  · intro _ _ _ _ _ _ h; exact absurd rfl h
  · intro _ _ _ hs _ _ _
    unfold decGood
    simp only
    omega
def repF : Nat → List UInt8 → Nat → List Dec
  | 0, _, _ => []
  | f + 1, l, k => if goesOn (dec l) k then dec l :: repF f (l.drop (dec l).n.toNat) (k + 1) else []
/-- the records of the sound part -/
def rep (l : List UInt8) : List Dec := repF l.length l 0
def offs (R : List Dec) (k : Nat) : Nat := ((R.take k).map fun d => d.n.toNat).sum
theorem offs_zero (R : List Dec) : offs R 0 = 0 := rfl
theorem offs_cons (d : Dec) (R : List Dec) (k : Nat) : offs (d :: R) (k + 1) = d.n.toNat + offs R k := by
  unfold offs
  rw [List.take_succ_cons, List.map_cons, List.sum_cons]
theorem offs_succ (R : List Dec) {k : Nat} (h : k < R.length) : offs R (k + 1) = offs R k + (R[k]).n.toNat := by
  unfold offs
  rw [List.take_succ_eq_append_getElem h, List.map_append, List.sum_append]
  simp
theorem repF_at : ∀ (f : Nat) (l : List UInt8) (j k : Nat) (h : k < (repF f l j).length), dec (l.drop (offs (repF f l j) k)) = (repF f l j)[k] ∧ goesOn (repF f l j)[k] (j + k) ∧ offs (repF f l j) (k + 1) ≤ l.length
  | 0, _, _, _, h => absurd h (by simp [repF])
  | f + 1, l, j, k, h => by
    by_cases hg : goesOn (dec l) j
    · have e : repF (f + 1) l j = dec l :: repF f (l.drop (dec l).n.toNat) (j + 1) := by simp only [repF, if_pos hg]
      have hn := dec_len l hg.1 hg.2.1
      cases k with
      | zero =>
        simp only [e, offs_zero, List.drop_zero, List.getElem_cons_zero]
        refine ⟨trivial, hg, ?_⟩
        rw [offs_cons, offs_zero]
        omega
      | succ k =>
        have h' : k < (repF f (l.drop (dec l).n.toNat) (j + 1)).length := by rw [e, List.length_cons] at h; omega
        obtain ⟨h1, h2, h3⟩ := repF_at f (l.drop (dec l).n.toNat) (j + 1) k h'
        simp only [e, List.getElem_cons_succ]
        rw [offs_cons, offs_cons, ← List.drop_drop]
        rw [List.length_drop] at h3
        refine ⟨h1, by rw [show j + (k + 1) = j + 1 + k by omega]; exact h2, by omega⟩
    · have e : repF (f + 1) l j = [] := by simp only [repF, if_neg hg]
      rw [e] at h
      exact absurd h (by simp)
theorem repF_end : ∀ (f : Nat) (l : List UInt8) (j : Nat), l.length ≤ f → ¬ goesOn (dec (l.drop (offs (repF f l j) (repF f l j).length))) (j + (repF f l j).length)
  | 0, l, j, h => by
    have hl : l = [] := List.eq_nil_of_length_eq_zero (by omega)
    subst hl
    intro hg
    have := dec_len _ hg.1 hg.2.1
    simp [repF] at this
    omega
  | f + 1, l, j, h => by
    by_cases hg : goesOn (dec l) j
    · have e : repF (f + 1) l j = dec l :: repF f (l.drop (dec l).n.toNat) (j + 1) := by simp only [repF, if_pos hg]
      have hn := dec_len l hg.1 hg.2.1
      rw [e, List.length_cons, offs_cons, ← List.drop_drop]
      have := repF_end f (l.drop (dec l).n.toNat) (j + 1) (by rw [List.length_drop]; omega)
      rw [show j + ((repF f (l.drop (dec l).n.toNat) (j + 1)).length + 1) = j + 1 + (repF f (l.drop (dec l).n.toNat) (j + 1)).length by omega]
      exact this
    · have e : repF (f + 1) l j = [] := by simp only [repF, if_neg hg]
      rw [e]
      exact hg
theorem rep_at (l : List UInt8) {k : Nat} (h : k < (rep l).length) : dec (l.drop (offs (rep l) k)) = (rep l)[k] ∧ goesOn (rep l)[k] k ∧ offs (rep l) (k + 1) ≤ l.length := by
  have := repF_at l.length l 0 k h
  rw [Nat.zero_add] at this
  exact this
theorem rep_end (l : List UInt8) : ¬ goesOn (dec (l.drop (offs (rep l) (rep l).length))) (rep l).length := by
  have := repF_end l.length l 0 (Nat.le_refl _)
  rw [Nat.zero_add] at this
  exact this
theorem offs_le (l : List UInt8) (k : Nat) (h : k ≤ (rep l).length) : offs (rep l) k ≤ l.length := by
  cases k with
  | zero => rw [offs_zero]; omega
  | succ k => exact (rep_at l (by omega)).2.2
theorem offs_mono15 (l : List UInt8) : ∀ k, k ≤ (rep l).length → 15 * k ≤ offs (rep l) k
  | 0, _ => Nat.zero_le _
  | k + 1, h => by
    have ih := offs_mono15 l k (by omega)
    rw [offs_succ _ (by omega)]
    obtain ⟨h1, h2, _⟩ := rep_at l (k := k) (by omega)
    have := dec_len (l.drop (offs (rep l) k)) (by rw [h1]; exact h2.1) (by rw [h1]; exact h2.2.1)
    rw [h1] at this
    omega
theorem rep_len (l : List UInt8) : 15 * (rep l).length ≤ l.length := Nat.le_trans (offs_mono15 l _ (Nat.le_refl _)) (offs_le l _ (Nat.le_refl _))
end Go.Proofs.YtheoklhmlnfgjaaGreatDoor
/-
  The iterator over a log's sound part.
-/
namespace Go.Proofs.YtheoklhmlnfgjaaGreatDoor
open Go.RowKit Go.Shelf
attribute [local go_sem] Oper.semAt_some

/-- a record, as the loop's first variable has it -/
def recV (d : Dec) : Value := .agg #[.int .i64 d.seq, .int .i64 d.op, .int .i64 d.no, .string ⟨d.ident.toArray⟩]
def encR (x : Dec × Nat) : Array Value := #[recV x.1, .int .i64 (x.2 : Int)]
/-- what has come when k rounds are over -/
def comeR (L : List UInt8) (k : Nat) : List (Dec × Nat) := (List.range k).map fun j => ((rep L)[j]?.getD (Dec.none 0), offs (rep L) (j + 1))
theorem comeR_succ (L : List UInt8) (k : Nat) : comeR L (k + 1) = comeR L k ++ [((rep L)[k]?.getD (Dec.none 0), offs (rep L) (k + 1))] := by simp [comeR, List.range_succ]
theorem comeR_length (L : List UInt8) (k : Nat) : (comeR L k).length = k := by simp [comeR]

theorem In8.dropped {w : World} {b o : Nat} {l : List UInt8} (h : In8 w (some ⟨b, o, none⟩) l) (k : Nat) : In8 w (some ⟨b, o + k, none⟩) (l.drop k) := by
  intro h0
  rw [List.length_drop] at h0
  obtain ⟨b', o', e, hc⟩ := h (by omega)
  obtain ⟨rfl, rfl⟩ : b = b' ∧ o = o' := by injection e with e; injection e with e1 e2; exact ⟨e1, e2⟩
  refine ⟨b, o + k, rfl, fun i hi => ?_⟩
  rw [List.length_drop] at hi
  have := hc (k + i) (by omega)
  rw [← Nat.add_assoc] at this
  rw [this, bt_get l (k + i) (by omega), bt_get (l.drop k) i (by rw [List.length_drop]; omega), List.getElem_drop]
theorem In8.belowN {n₀ : Nat} {w w' : World} {p : Option Addr} {l : List UInt8} (h : In8 w p l) (hb : Below n₀ w w') (hp : 0 < l.length → ∀ a, p = some a → a.block < n₀) : In8 w' p l := by
  intro h0
  obtain ⟨b, o, rfl, hc⟩ := h h0
  exact ⟨b, o, rfl, fun i hi => (hb.cell (p := ⟨b, o + i, none⟩) (show b < n₀ from hp h0 ⟨b, o, none⟩ rfl)).trans (hc i hi)⟩

/-- what a round keeps: all below n₀, and the box of the bytes -/
def KeepB (n₀ Bs : Nat) (W W' : World) : Prop := Below n₀ W W' ∧ W'.heap[Bs]? = W.heap[Bs]?
theorem KeepB.refl (n₀ Bs : Nat) (W : World) : KeepB n₀ Bs W W := ⟨Below.refl _ _, rfl⟩
theorem KeepB.trans {n₀ Bs : Nat} {A B C : World} (h : KeepB n₀ Bs A B) (k : KeepB n₀ Bs B C) : KeepB n₀ Bs A C := ⟨h.1.trans k.1, k.2.trans h.2⟩
theorem KeepB.of {n₀ Bs : Nat} {A B : World} (h : Below A.heap.size A B) (hn : n₀ ≤ A.heap.size) (hB : Bs < A.heap.size) : KeepB n₀ Bs A B := ⟨h.mono hn, h.block _ hB⟩
theorem KeepB.lt {n₀ Bs : Nat} {A B : World} (h : KeepB n₀ Bs A B) (hB : Bs < A.heap.size) : Bs < B.heap.size := Nat.lt_of_lt_of_le hB h.1.size

theorem dec_three (l : List UInt8) : dec l = .none 0 ∨ dec l = .none 100 ∨ ((dec l).err = 0 ∧ 15 ≤ (dec l).n ∧ (dec l).n ≤ l.length) := by
  refine dec_split (fun d => d = .none 0 ∨ d = .none 100 ∨ (d.err = 0 ∧ 15 ≤ d.n ∧ d.n ≤ l.length)) l ?_ ?_ ?_ ?_ ?_ ?_ ?_
  · intro _; exact .inl rfl
  · intro _ _ _; exact .inr (.inl rfl)
  · intro _ _ _; exact .inl rfl
  · intro _ _ _; exact .inr (.inl rfl)
  · intro _ _ _ _; exact .inl rfl
  · intro _ _ _ _ _; exact .inr (.inl rfl)
  · intro _ _ _ hs _
    refine .inr (.inr ⟨rfl, ?_, ?_⟩)
    · unfold decGood; simp only; omega
    · unfold decGood; simp only; omega

set_option maxRecDepth 100000 in
set_option maxHeartbeats 2000000 in
theorem records1_in (n : Nat) (hn : 3 ≤ n) (l Bs n₀ : Nat) (L : List UInt8) (b o : Nat) (m c : Nat) (hL : L.length = m) (hm : m ≤ 140737488351232) (hmc : m ≤ c) (hcm : c ≤ maxLen) (hpn : 0 < L.length → b < n₀) (J Jx : List (Dec × Nat) → World → Prop)
    (hJb : ∀ pre W W', J pre W → Below W.heap.size W W' → J pre W')
    (hY : ∀ pre x W, J pre W → pre.length < (rep L).length → YieldAt Fence.wide (n - 1) Tryz.prog l (encR x) W fun e W' =>
      (e = .returned (.bool true) ∧ J (pre ++ [x]) W' ∧ KeepB n₀ Bs W W') ∨ (e = .returned (.bool false) ∧ Jx (pre ++ [x]) W'))
    (W : World) (hn0 : n₀ ≤ W.heap.size) (hBl : Bs < W.heap.size) (hBs : W.cell? ⟨Bs, 0, none⟩ = some (.slice (some ⟨b, o, none⟩) m c)) (hin : In8 W (some ⟨b, o, none⟩) L) (h0 : J [] W) :
    CallsIn Fence.wide n Tryz.prog 71 #[.func (.yield l) #[] #[], .pointer (some ⟨Bs, 0, none⟩)] W fun e W' => (∃ v, e = .returned v) ∧
      ((J (comeR L (rep L).length) W') ∨ (∃ k, k ≤ (rep L).length ∧ Jx (comeR L k) W')) := by
  refine callsIn_of_wp Tryz.func71 rfl trivial ?_ rfl
  simp only [Tryz.ntmps71, List.size_toArray, List.length_cons, List.length_nil, Nat.reduceAdd, Nat.reduceSub, Array.replicate_succ, Array.replicate_zero, List.push_toArray, List.append_toArray, List.nil_append, List.cons_append]
  gi_wp2
  gi_loopw [3, 4] (fun a i wr => ∃ k : Nat, k ≤ (rep L).length ∧ a = .int .i64 ((offs (rep L) k : Nat) : Int) ∧ i = .int .i64 k ∧ J (comeR L k) wr ∧ KeepB n₀ Bs W wr)
    (fun _ i _ => (rep L).length - (intOf i).toNat)
  case atStart => exact ⟨0, Nat.zero_le _, rfl, rfl, h0, KeepB.refl _ _ _⟩
  case round =>
    obtain ⟨k, hk, rfl, rfl, hJs, hnx⟩ := hrel
    have hcb : wr.cell? ⟨Bs, 0, none⟩ = some (.slice (some ⟨b, o, none⟩) m c) := (World.cell?_of_block (a := ⟨Bs, 0, none⟩) hnx.2).trans hBs
    have hin2 := (hin.belowN hnx.1 (fun h0 a ha => by cases ha; exact hpn h0)).dropped (offs (rep L) k)
    have hof := offs_le L k hk
    obtain ⟨q, hq⟩ : ∃ q, q = offs (rep L) k := ⟨_, rfl⟩
    rw [← hq] at hin2 hof
    have i1 : (0 : Int) ≤ (q : Int) := by omega
    have i2 : (q : Int) ≤ (m : Int) := by omega
    have i3 : (q : Int) ≤ (c : Int) := by omega
    rw [← hq]
    have HQ := Lib.hid hq
    obtain ⟨d, hd⟩ : ∃ d, d = dec (L.drop q) := ⟨_, rfl⟩
    obtain ⟨a, ha, hdc⟩ : ∃ a, (if (c : Int) - (q : Int) = 0 then o else o + q) = a ∧ Calls Tryz.prog 72 #[.slice (some ⟨b, a, none⟩) (m - q) (c - q)] wr fun e w' => e = .returned d.val ∧ Below wr.heap.size wr w' := by
      refine ⟨_, rfl, ?_⟩
      rw [hd]
      refine recDec_any (L.drop q) _ (m - q) (c - q) (by rw [List.length_drop]; omega) (by omega) (by omega) wr ?_
      split
      · intro h0
        rw [List.length_drop] at h0
        omega
      · exact hin2
    unfold Dec.val at hdc
    have hn1 : 1 ≤ n := by omega
    by_cases hlt : k < (rep L).length
    · -- THE RECORD GOES ON
      obtain ⟨hat, ⟨he0, hn0', hs0⟩, hoff⟩ := rep_at L hlt
      rw [← hq, ← hd] at hat
      have hlen := dec_len (L.drop q) (by rw [← hd, hat]; exact he0) (by rw [← hd, hat]; exact hn0')
      rw [← hd] at hlen
      have hsu := offs_succ (rep L) hlt
      rw [← hq, ← hat] at hsu
      have hx : (rep L)[k]?.getD (Dec.none 0) = d := by rw [List.getElem?_eq_getElem hlt, Option.getD_some, hat]
      have hcs : comeR L (k + 1) = comeR L k ++ [(d, offs (rep L) (k + 1))] := by rw [comeR_succ, hx]
      rw [← hat] at he0 hn0' hs0
      obtain ⟨q2, hq2⟩ : ∃ q2, q2 = offs (rep L) (k + 1) := ⟨_, rfl⟩
      rw [← hq2] at hsu hcs hoff
      have HQ := Lib.hid (And.intro hq (And.intro hq2 (And.intro hd (And.intro hat (And.intro hsu hx)))))
      clear hat hx
      have hdn : d.n = ((d.n.toNat : Nat) : Int) := by omega
      obtain ⟨seq, op, no, ident, dn, derr⟩ := d
      dsimp only at he0 hn0' hs0 hlen hsu hdn hdc
      have hnn : (q : Int) + dn = (q2 : Int) := by omega
      have hq2m : q2 ≤ 140737488351232 := by omega
      have hn15 : 15 ≤ dn := hlen.1
      subst he0 hs0
      have hcq' : ¬ ((c : Int) - (q : Int) = 0) := by omega
      have hca : a = o + q := by rw [← ha, if_neg (by omega)]
      subst hca
      have hrl := rep_len L
      have hWR := Lib.hid (show wrap64 ((k : Int) + 1) = (k : Int) + 1 from IntWalk.wrap64_in _ ⟨by omega, by omega⟩)
      have HIN := Lib.hid (And.intro hin2 (And.intro hdn (And.intro hlen (And.intro hsu hlt))))
      have HK := Lib.hid hcs
      clear hq hq2 hd hin2 ha hcs hdn hlen hsu
      gi_wp2_with (refine ⟨trivial, ?_⟩; gi_at_call 72; refine (callsIn_wide.2 hdc).mono ?_; rintro e w1 ⟨rfl, hb1⟩; obtain ⟨fn, tmps, assign, body, hy, hR⟩ := hY _ (⟨(k : Int), op, no, ident, dn, 0⟩, q2) (w1.alloc (Obj.cells #[Value.int IntKind.i64 (k : Int), Value.int IntKind.i64 op, Value.int IntKind.i64 no, Value.string { data := ident.toArray }] 35)) (hJb _ _ _ hJs (hb1.alloc hb1.size _)) (by rw [comeR_length]; exact hlt); simp only [encR, recV] at hy)
      refine hR.mono ?_
      rintro e W3 (⟨rfl, hJ3, hk3⟩ | ⟨rfl, hJx3⟩)
      · gi_wp2
        go_roundw
        case rel =>
          refine ⟨k + 1, hlt, ?_, by simp, ?_, ?_⟩
          · rw [HQ.out.2.1]
          · rw [HK.out]; exact hJ3
          · exact (hnx.trans (KeepB.of (hb1.alloc hb1.size _) (Nat.le_trans hn0 hnx.1.size) (hnx.lt hBl))).trans hk3
        case measure => simp [intOf]; omega
      · gi_wp2
        refine bodyPost_ret (results_none rfl _ _ _) rfl ?_
        exact ⟨⟨_, rfl⟩, .inr ⟨k + 1, hlt, by rw [HK.out]; exact hJx3⟩⟩
    · -- THE END
      have hkl : k = (rep L).length := by omega
      have hend := rep_end L
      rw [← hkl, ← hq, ← hd] at hend
      have h3 := dec_three (L.drop q)
      rw [← hd] at h3
      have hcq0 : c = q → d = Dec.none 0 := fun e => by rw [hd, List.drop_eq_nil_of_le (by omega)]; rfl
      have HEND := Lib.hid (And.intro hkl (And.intro hJs hnx))
      have hlq : (L.drop q).length ≤ 140737488351232 := by rw [List.length_drop]; omega
      clear hq hd hin2 hJs hkl hlt hnx
      have fin : ∀ (w1 : World) (X : Obj), Below wr.heap.size wr w1 → J (comeR L (rep L).length) (w1.alloc X) := fun w1 X hb1 => by
        have := hJb _ _ _ HEND.out.2.1 (hb1.alloc hb1.size X)
        rw [HEND.out.1] at this
        exact this
      have FIN := Lib.hid fin
      clear fin
      by_cases hcq : c = q
      · have hca : a = o := by rw [← ha, if_pos (by omega)]
        have := hcq0 hcq
        have hmq : m = q := by omega
        subst hca hcq this hmq
        clear ha hcq0 h3 hend
        unfold Dec.none at hdc
        simp only [Nat.sub_self] at hdc
        gi_wp2_with (refine ⟨trivial, ?_⟩; gi_at_call 72; refine (callsIn_wide.2 hdc).mono ?_; rintro e w1 ⟨rfl, hb1⟩)
        refine ⟨fun _ h => (by cases h), ?_⟩
        gi_wp2
        refine bodyPost_ret (results_none rfl _ _ _) rfl ?_
        exact ⟨⟨_, rfl⟩, .inl (FIN.out _ _ hb1)⟩
      · have hca : a = o + q := by rw [← ha, if_neg (by omega)]
        subst hca
        have hcq' : ¬ ((c : Int) - (q : Int) = 0) := by omega
        clear ha hcq0
        rcases h3 with rfl | rfl | ⟨g1, g2, g3⟩
        · unfold Dec.none at hdc
          dsimp only at hdc
          clear hend
          gi_wp2_with (refine ⟨trivial, ?_⟩; gi_at_call 72; refine (callsIn_wide.2 hdc).mono ?_; rintro e w1 ⟨rfl, hb1⟩)
          refine ⟨fun _ h => (by cases h), ?_⟩
          gi_wp2
          refine bodyPost_ret (results_none rfl _ _ _) rfl ?_
          exact ⟨⟨_, rfl⟩, .inl (FIN.out _ _ hb1)⟩
        · unfold Dec.none at hdc
          dsimp only at hdc
          clear hend
          gi_wp2_with (refine ⟨trivial, ?_⟩; gi_at_call 72; refine (callsIn_wide.2 hdc).mono ?_; rintro e w1 ⟨rfl, hb1⟩)
          refine ⟨fun _ h => (by cases h), ?_⟩
          gi_wp2
          refine bodyPost_ret (results_none rfl _ _ _) rfl ?_
          exact ⟨⟨_, rfl⟩, .inl (FIN.out _ _ hb1)⟩
        · obtain ⟨seq, op, no, ident, dn, derr⟩ := d
          dsimp only at g1 g2 g3 hdc hend
          subst g1
          have hsk : ¬ seq = (k : Int) := fun e => hend ⟨rfl, (show dn ≠ 0 by omega), e⟩
          have q1 : (dn == 0) = false := by simp; omega
          have q2 : (seq == (k : Int)) = false := by simp [hsk]
          have q3 : (seq != (k : Int)) = true := by simp [hsk]
          clear hend
          gi_wp2_with (refine ⟨trivial, ?_⟩; gi_at_call 72; refine (callsIn_wide.2 hdc).mono ?_; rintro e w1 ⟨rfl, hb1⟩)
          refine ⟨fun _ h => (by cases h), ?_⟩
          gi_wp2
          refine bodyPost_ret (results_none rfl _ _ _) rfl ?_
          exact ⟨⟨_, rfl⟩, .inl (FIN.out _ _ hb1)⟩
end Go.Proofs.YtheoklhmlnfgjaaGreatDoor
/-
  Replay: the records of a log's sound part, and its length.
-/
namespace Go.Proofs.YtheoklhmlnfgjaaGreatDoor
open Go.RowKit Go.Shelf
attribute [local go_sem] Oper.semAt_some

set_option maxRecDepth 100000 in
set_option maxHeartbeats 2000000 in
theorem records1_nil (n : Nat) (hn : 1 ≤ n) (Bs : Nat) (l : Nat) (J : List (Dec × Nat) → World → Prop)
    (hJb : ∀ pre W W', J pre W → Below W.heap.size W W' → J pre W')
    (W : World) (hBs : W.cell? ⟨Bs, 0, none⟩ = some (.slice none 0 0)) (h0 : J [] W) :
    CallsIn Fence.wide n Tryz.prog 71 #[.func (.yield l) #[] #[], .pointer (some ⟨Bs, 0, none⟩)] W fun e W' => (∃ v, e = .returned v) ∧ J [] W' := by
  have hdc := recDec_any [] none 0 0 rfl (Nat.le_refl _) (by unfold maxLen; omega) W (fun h => absurd h (by simp))
  have hd0 : dec [] = Dec.none 0 := rfl
  rw [hd0] at hdc
  unfold Dec.val Dec.none at hdc
  dsimp only at hdc
  refine callsIn_of_wp Tryz.func71 rfl trivial ?_ rfl
  simp only [Tryz.ntmps71, List.size_toArray, List.length_cons, List.length_nil, Nat.reduceAdd, Nat.reduceSub, Array.replicate_succ, Array.replicate_zero, List.push_toArray, List.append_toArray, List.nil_append, List.cons_append]
  gi_wp2
  gi_loopw [3, 4] (fun a i wr => a = .int .i64 0 ∧ i = .int .i64 0 ∧ wr = W) (fun _ _ _ => 0)
  case atStart => exact ⟨rfl, rfl, rfl⟩
  case round =>
    obtain ⟨rfl, rfl, rfl⟩ := hrel
    gi_wp2_with (refine ⟨trivial, ?_⟩; gi_at_call 72; refine (callsIn_wide.2 hdc).mono ?_; rintro e w1 ⟨rfl, hb1⟩)
    refine ⟨fun _ h => (by cases h), ?_⟩
    gi_wp2
    refine bodyPost_ret (results_none rfl _ _ _) rfl ?_
    exact ⟨⟨_, rfl⟩, hJb _ _ _ h0 (hb1.alloc hb1.size _)⟩

set_option maxHeartbeats 1000000 in
theorem records_in (n : Nat) (p : Option Addr) (m c : Nat) (w : World) :
    CallsIn Fence.wide n Tryz.prog 33 #[.slice p m c] w fun e w' => e = .returned (.func (.func 71) #[] #[.pointer (some ⟨w.heap.size, 0, none⟩)]) ∧ w' = w.alloc (.cells #[.slice p m c] 22) := by
  refine callsIn_of_wp Tryz.func33 rfl trivial ?_ rfl
  simp only [Tryz.ntmps33, List.size_toArray, List.length_cons, List.length_nil, Nat.reduceAdd, Nat.reduceSub, Array.replicate_succ, Array.replicate_zero, List.push_toArray, List.append_toArray, List.nil_append, List.cons_append]
  gi_wp2
  go_ret
  exact ⟨rfl, rfl⟩

/-- the records of the sound part, its length -/
def repR (L : List UInt8) : List Rcd := (rep L).map Dec.rcd
def repN (L : List UInt8) : Nat := offs (rep L) (rep L).length
def comeD (pre : List (Dec × Nat)) : List Rcd := pre.map fun x => x.1.rcd
def comeN (pre : List (Dec × Nat)) : Nat := (pre.getLast?.map (·.2)).getD 0
theorem comeN_snoc (pre : List (Dec × Nat)) (x : Dec × Nat) : comeN (pre ++ [x]) = x.2 := by simp [comeN]
theorem comeD_snoc (pre : List (Dec × Nat)) (x : Dec × Nat) : comeD (pre ++ [x]) = comeD pre ++ [x.1.rcd] := by simp [comeD]
theorem comeR_rcd (L : List UInt8) : comeD (comeR L (rep L).length) = repR L := by
  unfold repR comeD
  apply List.ext_getElem
  · simp [comeR]
  · intro i h1 h2
    simp only [List.length_map] at h2
    simp [comeR, h2]
theorem comeR_end (L : List UInt8) : comeN (comeR L (rep L).length) = repN L := by
  unfold repN
  cases h : (rep L).length with
  | zero => rfl
  | succ k => rw [comeR_succ, comeN_snoc]
theorem repR_length (L : List UInt8) : (repR L).length = (rep L).length := by unfold repR; rw [List.length_map]

/-- the iterator, for whatever body -/
theorem records_stops (L : List UInt8) (b o m c : Nat) (hL : L.length = m) (hm : m ≤ 1000000000000) (hmc : m ≤ c) (hcm : c ≤ maxLen) (n Bs n₀ : Nat) (hn : 3 ≤ n) (w : World) (hn0 : n₀ ≤ w.heap.size) (hBl : Bs < w.heap.size) (hpn : 0 < L.length → b < n₀)
    (hBs : w.cell? ⟨Bs, 0, none⟩ = some (.slice (some ⟨b, o, none⟩) m c)) (hin : In8 w (some ⟨b, o, none⟩) L) :
    SeqStopsK Fence.wide n Tryz.prog 71 #[.pointer (some ⟨Bs, 0, none⟩)] encR (KeepB n₀ Bs) (fun ys => ys = comeR L (rep L).length) (fun pre => ∃ k, k ≤ (rep L).length ∧ pre = comeR L k) (rep L).length w := fun l J Jx W hW hJ hJx hY h0 =>
  (records1_in n hn l Bs n₀ L b o m c hL (by omega) hmc hcm hpn J Jx
    (fun pre W W' hp hb => hJ pre W W' none hp ⟨hb.os, hb.tape, hb.output, hb.size, fun k hk _ => hb.block k hk⟩ (fun r e => by cases e))
    hY W (Nat.le_trans hn0 hW.size) (Nat.lt_of_lt_of_le hBl hW.size) (cell_keep hBs hW) (hin.below hW) h0).mono fun e W' ⟨h1, h2⟩ => ⟨h1, by
      rcases h2 with h | ⟨k, hk, h⟩
      · exact .inl ⟨_, rfl, h⟩
      · exact .inr ⟨_, ⟨k, hk, rfl⟩, h⟩⟩

/-- where bytes lie that a walk may cut: nowhere, or at a plain place -/
def PlainP (p : Option Addr) (c : Nat) : Prop := (p = none ∧ c = 0) ∨ ∃ b o, p = some ⟨b, o, none⟩
theorem Own8.plain {w : World} {base n c : Nat} {p : Option Addr} {l : List UInt8} (h : Own8 w base (.slice p n c) l) : PlainP p c := by
  rcases h.2 with ⟨e, _⟩ | ⟨g, cap, cur, e, _⟩
  · injection e with e1 e2 e3; exact .inl ⟨e1, e3⟩
  · injection e with e1 e2 e3; exact .inr ⟨g, 0, e1⟩
theorem records_stopsV (L : List UInt8) (p : Option Addr) (m c : Nat) (hp : PlainP p c) (hL : L.length = m) (hm : m ≤ 1000000000000) (hmc : m ≤ c) (hcm : c ≤ maxLen) (n Bs n₀ : Nat) (hn : 3 ≤ n) (w : World) (hn0 : n₀ ≤ w.heap.size) (hBl : Bs < w.heap.size) (hpn : ∀ a, p = some a → 0 < L.length → a.block < n₀)
    (hBs : w.cell? ⟨Bs, 0, none⟩ = some (.slice p m c)) (hin : In8 w p L) :
    SeqStopsK Fence.wide n Tryz.prog 71 #[.pointer (some ⟨Bs, 0, none⟩)] encR (KeepB n₀ Bs) (fun ys => ys = comeR L (rep L).length) (fun pre => ∃ k, k ≤ (rep L).length ∧ pre = comeR L k) (rep L).length w := by
  rcases hp with ⟨rfl, rfl⟩ | ⟨b, o, rfl⟩
  · obtain rfl : m = 0 := by omega
    obtain rfl : L = [] := List.eq_nil_of_length_eq_zero hL
    exact fun l J Jx W hW hJ hJx hY h0 =>
      (records1_nil n (by omega) Bs l J (fun pre W W' hp hb => hJ pre W W' none hp ⟨hb.os, hb.tape, hb.output, hb.size, fun k hk _ => hb.block k hk⟩ (fun r e => by cases e)) W (cell_keep hBs hW) h0).mono fun e W' ⟨h1, h2⟩ => ⟨h1, .inl ⟨_, rfl, h2⟩⟩
  · exact records_stops L b o m c hL hm hmc hcm n Bs n₀ hn w hn0 hBl (hpn _ rfl) hBs hin

set_option maxRecDepth 100000 in
set_option maxHeartbeats 4000000 in
theorem replay_any (L : List UInt8) (p : Option Addr) (m c : Nat) (hp : PlainP p c) (hL : L.length = m) (hm : m ≤ 1000000000000) (hmc : m ≤ c) (hcm : c ≤ maxLen) (w : World) (hin : In8 w p L) :
    Calls Tryz.prog 10 #[.slice p m c] w fun e w' => ∃ v, e = .returned (.tuple #[v, .int .i64 (repN L)]) ∧ OwnRc w' w.heap.size v (repR L) ∧ (v = .slice none 0 0 ↔ repR L = []) ∧ Below w.heap.size w w' := by
  obtain ⟨i0, hi, hz0, hz1, hz2⟩ := info_parts infoRc
  have hrl := rep_len L
  refine (callsIn_wide (n := 6)).1 ?_
  refine callsIn_of_wp_marks Tryz.func10 rfl trivial ?_ rfl
  simp only [Tryz.ntmps10, List.size_toArray, List.length_cons, List.length_nil, Nat.reduceAdd, Nat.reduceSub, Array.replicate_succ, Array.replicate_zero, List.push_toArray, List.append_toArray, List.nil_append, List.cons_append]
  gi_wp2_with (refine ⟨trivial, ?_⟩; gi_at_call 33; refine (records_in _ _ _ _ _).mono ?_; rintro e w' ⟨rfl, rfl⟩)
  have bO := Boxed.new w 25 (.slice none 0 0)
  have bE := Boxed.new (w.alloc (.cells #[.slice none 0 0] 25)) 3 (.int .i64 0)
  have bN := Boxed.new ((w.alloc (.cells #[.slice none 0 0] 25)).alloc (.cells #[.int .i64 0] 3)) 22 (.slice p m c)
  simp only [World.size_alloc] at bE bN
  have hsz : (((w.alloc (.cells #[.slice none 0 0] 25)).alloc (.cells #[.int .i64 0] 3)).alloc (.cells #[.slice p m c] 22)).heap.size = w.heap.size + 3 := by simp
  have hB0 : Below w.heap.size w (((w.alloc (.cells #[.slice none 0 0] 25)).alloc (.cells #[.int .i64 0] 3)).alloc (.cells #[.slice p m c] 22)) := (((Below.refl _ w).alloc (Nat.le_refl _) _).alloc (by simp) _).alloc (by simp; omega) _
  have bO := (bO.alloc (.cells #[.int .i64 0] 3)).alloc (.cells #[.slice p m c] 22)
  have bE := bE.alloc (.cells #[.slice p m c] 22)
  obtain ⟨W0, hW0⟩ : ∃ W0, (((w.alloc (.cells #[.slice none 0 0] 25)).alloc (.cells #[.int .i64 0] 3)).alloc (.cells #[.slice p m c] 22)) = W0 := ⟨_, rfl⟩
  rw [hW0] at bO bE bN hB0 hsz ⊢
  clear hW0
  have hpn : ∀ a, p = some a → 0 < L.length → a.block < w.heap.size := fun a ha h0 => by
    obtain ⟨b', o', e, hc⟩ := hin h0
    have e2 := ha.symm.trans e
    injection e2 with e2
    subst e2
    exact World.block_lt_of_cell? w _ (hc 0 h0)
  refine wpIn_rangeFunc_ownH rfl (by omega) (gf := 71) (lb := #[.pointer (some ⟨w.heap.size + 1 + 1, 0, none⟩)]) rfl trivial (enters_of Tryz.func71 (by kernel_rfl) rfl)
    (records_stopsV L p m c hp hL hm hmc hcm 5 (w.heap.size + 1 + 1) w.heap.size (by omega) W0 (by omega) (by omega) hpn bN.cell (hin.below hB0)) (fun h k => h.trans k) (fun W l o o' hl ho h1 h2 => ⟨belowK_b (by omega) W l o o' hl ho h1 h2, World.putObj_heap_other (by omega)⟩) (Below.refl _ _) (fun _ => rfl)
    (fun pre W => (((∃ v, Boxed W w.heap.size 25 v ∧ W.ownsRow w.heap.size 35 4 v (comeD pre).length (rc (comeD pre)) ∧ (v = .slice none 0 0 ↔ comeD pre = [])) ∧ Boxed W (w.heap.size + 1) 3 (.int .i64 (comeN pre))) ∧ Boxed W (w.heap.size + 1 + 1) 22 (.slice p m c)) ∧ Below w.heap.size w W)
    (fun _ _ _ => False)
    (OwnFrom.and (OwnFrom.and (OwnFrom.and (Own.from (holdsRow_own w.heap.size w.heap.size 25 35 4 (fun pre => (comeD pre).length) (fun pre => rc (comeD pre)) (fun pre v => v = .slice none 0 0 ↔ comeD pre = [])) _) (Own.from (boxed_own _ _ _) _)) (Own.from (boxed_own _ _ _) _)) (ownFrom_below (Nat.le_refl _) (by omega)))
    (fun _ _ _ _ _ hs _ _ => hs)
    ⟨⟨⟨⟨_, bO, World.ownsRow_nil _ _ _ _, by simp [comeD]⟩, bE⟩, bN⟩, hB0⟩
    (fun x a' W => ∃ Bx, w.heap.size + 1 < Bx ∧ W.heap[Bx]? = some (.cells (rcA x.1.rcd) 35 (0, 0)) ∧ a' = { tmps := #[.slice p m c, undef, .slice none 0 0, .int .i64 0, .pointer (some ⟨w.heap.size, 0, none⟩), .pointer (some ⟨w.heap.size + 1, 0, none⟩), .pointer (some ⟨Bx, 0, none⟩), .int .i64 (x.2 : Int), .slice p m c, .func (.func 71) #[] #[.pointer (some ⟨w.heap.size + 1 + 1, 0, none⟩)], recV x.1, .int .i64 (x.2 : Int), undef, undef, undef, undef, undef, undef, undef], defers := [] })
    (fun x a' _ X Y row hs hg hr => by
      obtain ⟨Bx, h1, h2, h3⟩ := hs
      refine ⟨Bx, h1, (hg.block Bx (Array.getElem?_eq_some_iff.1 h2).1 fun e => ?_).trans h2, h3⟩
      obtain ⟨o', ho, hc⟩ := (hr Bx e.symm).2
      rw [h2] at ho
      cases ho
      cases hc)
    ?assign ?body ?done ?stop
  case assign =>
    rintro l pre x W K ⟨⟨⟨⟨v, hv, hrow, hnil⟩, hE⟩, hN⟩, hB1⟩ hK
    have hrs := hB1.size
    have HK := Lib.hid (hK _ _ ((KeepsOthers.alloc _ _).from _) (KeepB.of ((Below.refl _ W).alloc (Nat.le_refl _) _) hB1.size hN.lt) ⟨⟨⟨⟨v, hv.alloc _, World.ownsRow.alloc hrow _, hnil⟩, hE.alloc _⟩, hN.alloc _⟩, hB1.alloc hB1.size _⟩ ⟨W.heap.size, hE.lt, heap_alloc_new W (.cells (rcA x.1.rcd) 35), rfl⟩)
    obtain ⟨⟨seq, op, no, ident, dn, derr⟩, q⟩ := x
    clear hK hv hrow hnil hE hN hB1
    simp only [encR, recV] at *
    gi_wp2
    exact HK.out
  case body =>
    rintro l pre x a' W hl - ⟨⟨⟨⟨v, hv, hrow, hnil⟩, hE⟩, hN⟩, hB1⟩ ⟨Bx, hBx, hX, rfl⟩ hlt
    have hc := hv.cell
    have hpl : (comeD pre).length = pre.length := by simp [comeD]
    have x0 : W.cell? ⟨Bx, 0, none⟩ = some (.int .i64 x.1.seq) := by rw [cell_of_row _ _ _ _ _ _ hX]; rfl
    have x1 : W.cell? ⟨Bx, 1, none⟩ = some (.int .i64 x.1.op) := by rw [cell_of_row _ _ _ _ _ _ hX]; rfl
    have x2 : W.cell? ⟨Bx, 2, none⟩ = some (.int .i64 x.1.no) := by rw [cell_of_row _ _ _ _ _ _ hX]; rfl
    have x3 : W.cell? ⟨Bx, 3, none⟩ = some (.string ⟨x.1.ident.toArray⟩) := by rw [cell_of_row _ _ _ _ _ _ hX]; rfl
    gi_wp2_with (gi_at_builtin; refine wpListIn_append_own _ rfl _ _ 25 rfl w.heap.size 35 i0 _ 4 40 Tryz.underlying25 hi hz0 hz1 hz2 rfl (by decide) _ _ _ rfl (hrow.alloc _) ⟨W.heap.size, 0, none⟩ 1 1 (rcV x.1.rcd) rfl rfl ?_ (by simp [rcV, Value.oneCell', Dec.rcd]) (by omega) (by omega) (by have := hB1.size; simp; omega) ?_)
    · exact fun j u hu => by rw [Go.WideShapes.add_plain, cell_of_row _ _ _ _ _ _ (heap_alloc_new W _), Nat.zero_add, ← Array.getElem?_toList]; exact hu
    intro v' w1 hown' hgrow _
    obtain ⟨g', cap', rfl⟩ := ownsRow_succ hown'
    obtain ⟨hv1, hv2, hr2, hk2, hb2⟩ := hv.appended (by decide) hrow hB1.size (Nat.le_refl _) hown' hgrow
    have hE1 := (hE.alloc _).kept hgrow (hE.not_row (by decide) hrow)
    have hN1 := (hN.alloc _).kept hgrow (hN.not_row (by decide) hrow)
    have hc1 := hv1.cell
    have hf1 := hv1.frozen
    have hc3 := hE1.cell
    have hf3 := hE1.frozen
    clear hc
    gi_wp2
    have hne : w.heap.size + 1 ≠ w.heap.size := by omega
    have hN2 := (hN1.other (B' := w.heap.size) (by omega) (.slice (some ⟨g', 0, none⟩) (pre.length + 1) cap')).other (B' := w.heap.size + 1) (by omega) (.int .i64 (x.2 : Int))
    have hE2 := (hE1.other (B' := w.heap.size) (by omega) (.slice (some ⟨g', 0, none⟩) (pre.length + 1) cap'))
    have hr3 := hr2.kept (grownBy_setCell' _ (w.heap.size + 1) (.int .i64 (x.2 : Int))) (.inr (hE2.not_row (e := 35) (by decide) hr2).symm)
    have hl1 : (comeD (pre ++ [x])).length = (comeD pre).length + 1 := by rw [comeD_snoc, List.length_append]; rfl
    have hl2 : rc (comeD (pre ++ [x])) = rc (comeD pre) ++ rcV x.1.rcd := by rw [comeD_snoc, rc_append]; simp [rc]
    rw [hpl] at *
    refine ⟨(hk2.trans (KeepsOthers.setCell _ _ _)).from _, ⟨hb2.setCell (p := ⟨w.heap.size + 1, 0, none⟩) (by simp) _, hN2.trans hN.symm⟩, ⟨⟨⟨_, hv2.other (by omega) _, ?_, ?_⟩, ?_⟩, hN2⟩, hB1.trans (hb2.setCell (p := ⟨w.heap.size + 1, 0, none⟩) (by simp) _)⟩
    · rw [hl1, hl2]; exact hr3
    · rw [comeD_snoc]; simp
    · rw [comeN_snoc]; exact hE2.set _
  case done =>
    rintro D ys W hD rfl ⟨⟨⟨⟨v, hv, hrow, hnil⟩, hE⟩, hN⟩, hB1⟩ hK
    have hc := hv.cell
    have hc2 := hE.cell
    rw [comeR_end] at hc2
    rw [comeR_rcd] at hrow hnil
    gi_wp2
    gi_quiet (fail)
    gi_wp2
    refine ⟨by simp, .inl ⟨_, _, rfl, run_takeDeferred hK, ?_⟩⟩
    refine ⟨_, results_tmp2 rfl _ _ _, v, rfl, ?_, hnil, ?_⟩
    · exact ownsRow_putObj (W := W.drewN nq) hrow _ hK rfl
    · exact (bdrewN hB1 nq).trans (belowK_b (w := w) (Nat.le_refl _) (W.drewN nq) D _ _ (by omega) hK rfl rfl)
  case stop =>
    rintro D c' pre W _ _ h _
    exact h.elim
end Go.Proofs.YtheoklhmlnfgjaaGreatDoor
/-
  The document's Replay.
-/
namespace Go.Proofs.YtheoklhmlnfgjaaGreatDoor
open Go.RowKit

/-- where bytes lie that a walk may cut: no room, or a plain place -/
def PlainQ (p : Option Addr) (c : Nat) : Prop := c = 0 ∨ ∃ b o, p = some ⟨b, o, none⟩
theorem PlainP.q {p : Option Addr} {c : Nat} (h : PlainP p c) : PlainQ p c := h.imp (fun h => h.2) id
theorem repR_take (L : List UInt8) {k : Nat} (h : k < (rep L).length) : (repR L).take (k + 1) = (repR L).take k ++ [(rep L)[k].rcd] := by
  rw [List.take_succ_eq_append_getElem (by rw [repR_length]; exact h)]
  unfold repR
  rw [List.getElem_map]

set_option maxRecDepth 100000 in
set_option maxHeartbeats 4000000 in
theorem refReplay_any (L : List UInt8) (p : Option Addr) (m c : Nat) (hp : PlainQ p c) (hL : L.length = m) (hm : m ≤ 1000000000000) (hmc : m ≤ c) (hcm : c ≤ maxLen) (w : World) (hin : In8 w p L) :
    Calls Tryz.prog 11 #[.slice p m c] w fun e w' => ∃ v, e = .returned (.tuple #[v, .int .i64 (repN L)]) ∧ OwnRc w' w.heap.size v (repR L) ∧ Below w.heap.size w w' := by
  have hmade := OwnRc.made w
  have hb0 : Below w.heap.size w (w.alloc (.cells #[] 35)) := (Below.refl _ w).alloc (Nat.le_refl _) _
  have hrl := rep_len L
  rcases hp with rfl | ⟨b, o, rfl⟩
  · obtain rfl : m = 0 := by omega
    obtain rfl : L = [] := List.eq_nil_of_length_eq_zero hL
    rcases p with _ | x
    · have hdc := refDec_any [] none 0 0 rfl (Nat.le_refl _) (by unfold maxLen; omega) (w.alloc (.cells #[] 35)) (fun h => absurd h (by simp))
      have hd0 : dec [] = Dec.none 0 := rfl
      rw [hd0] at hdc
      unfold Dec.val Dec.none at hdc
      dsimp only at hdc
      have HH := Lib.hid (And.intro hmade hb0)
      clear hmade hb0 hd0 hin hL hmc hcm hm hrl
      go_enter Tryz.func11, Tryz.ntmps11
      go_wp2_with fail
      go_loopw [4, 5] (fun v a wr => v = .slice (some ⟨w.heap.size, 0, none⟩) 0 0 ∧ a = .int .i64 0 ∧ wr = w.alloc (.cells #[] 35)) (fun _ _ _ => 0)
      case atStart => exact ⟨rfl, rfl, rfl⟩
      case round =>
        obtain ⟨rfl, rfl, rfl⟩ := hrel
        go_wp2_with fail
        refine hdc.mono ?_
        rintro e w1 ⟨rfl, hb1⟩
        go_wp2_with fail
        refine bodyPost_ret (results_tmp2 rfl _ _ _) rfl ⟨_, rfl, ?_, ?_⟩
        · exact HH.out.1.below (hb1.alloc hb1.size _)
        · exact HH.out.2.trans ((hb1.alloc hb1.size _).mono HH.out.2.size)
    · have hdc := refDec_any [] (some x) 0 0 rfl (Nat.le_refl _) (by unfold maxLen; omega) (w.alloc (.cells #[] 35)) (fun h => absurd h (by simp))
      have hd0 : dec [] = Dec.none 0 := rfl
      rw [hd0] at hdc
      unfold Dec.val Dec.none at hdc
      dsimp only at hdc
      have HH := Lib.hid (And.intro hmade hb0)
      clear hmade hb0 hd0 hin hL hmc hcm hm hrl
      go_enter Tryz.func11, Tryz.ntmps11
      go_wp2_with fail
      go_loopw [4, 5] (fun v a wr => v = .slice (some ⟨w.heap.size, 0, none⟩) 0 0 ∧ a = .int .i64 0 ∧ wr = w.alloc (.cells #[] 35)) (fun _ _ _ => 0)
      case atStart => exact ⟨rfl, rfl, rfl⟩
      case round =>
        obtain ⟨rfl, rfl, rfl⟩ := hrel
        go_wp2_with fail
        refine hdc.mono ?_
        rintro e w1 ⟨rfl, hb1⟩
        go_wp2_with fail
        refine bodyPost_ret (results_tmp2 rfl _ _ _) rfl ⟨_, rfl, ?_, ?_⟩
        · exact HH.out.1.below (hb1.alloc hb1.size _)
        · exact HH.out.2.trans ((hb1.alloc hb1.size _).mono HH.out.2.size)
  · have HH := Lib.hid (And.intro hmade hb0)
    clear hmade hb0
    go_enter Tryz.func11, Tryz.ntmps11
    go_wp2_with fail
    go_loopw [4, 5] (fun v a wr => ∃ k : Nat, k ≤ (rep L).length ∧ a = .int .i64 ((offs (rep L) k : Nat) : Int) ∧ OwnRc wr w.heap.size v ((repR L).take k) ∧ Below w.heap.size w wr) (fun _ a _ => L.length - (intOf a).toNat)
    case atStart => exact ⟨0, Nat.zero_le _, rfl, by rw [List.take_zero]; exact HH.out.1, HH.out.2⟩
    case round =>
      obtain ⟨k, hk, rfl, hown, hb⟩ := hrel
      have hkl : ((repR L).take k).length = k := by rw [List.length_take, repR_length]; omega
      obtain ⟨vp, vc, rfl, hvc1, hvc2, _, _⟩ := hown.shape hkl
      have hin2 := (hin.below hb).dropped (offs (rep L) k)
      have hof := offs_le L k hk
      obtain ⟨q, hq⟩ : ∃ q, q = offs (rep L) k := ⟨_, rfl⟩
      rw [← hq] at hin2 hof
      have i1 : (0 : Int) ≤ (q : Int) := by omega
      have i2 : (q : Int) ≤ (m : Int) := by omega
      have i3 : (q : Int) ≤ (c : Int) := by omega
      rw [← hq]
      obtain ⟨d, hd⟩ : ∃ d, d = dec (L.drop q) := ⟨_, rfl⟩
      obtain ⟨a, ha, hdc⟩ : ∃ a, (if (c : Int) - (q : Int) = 0 then o else o + q) = a ∧ Calls Tryz.prog 34 #[.slice (some ⟨b, a, none⟩) (m - q) (c - q)] wr fun e w' => e = .returned d.val ∧ Below wr.heap.size wr w' := by
        refine ⟨_, rfl, ?_⟩
        rw [hd]
        refine refDec_any (L.drop q) _ (m - q) (c - q) (by rw [List.length_drop]; omega) (by omega) (by omega) wr ?_
        split
        · intro h0
          rw [List.length_drop] at h0
          omega
        · exact hin2
      unfold Dec.val at hdc
      by_cases hlt : k < (rep L).length
      · obtain ⟨hat, ⟨he0, hn0', hs0⟩, hoff⟩ := rep_at L hlt
        rw [← hq, ← hd] at hat
        have hlen := dec_len (L.drop q) (by rw [← hd, hat]; exact he0) (by rw [← hd, hat]; exact hn0')
        rw [← hd] at hlen
        have hsu := offs_succ (rep L) hlt
        rw [← hq, ← hat] at hsu
        have htk := repR_take L hlt
        rw [← hat] at htk he0 hn0' hs0
        obtain ⟨q2, hq2⟩ : ∃ q2, q2 = offs (rep L) (k + 1) := ⟨_, rfl⟩
        rw [← hq2] at hsu hoff
        have HQ := Lib.hid (And.intro hq2 (And.intro htk (And.intro hown (And.intro hb (And.intro hlt hk)))))
        have hdn : d.n = ((d.n.toNat : Nat) : Int) := by omega
        have hbs := hb.size
        obtain ⟨seq, op, no, ident, dn, derr⟩ := d
        dsimp only at he0 hn0' hs0 hlen hsu hdn hdc
        have hnn : (q : Int) + dn = (q2 : Int) := by omega
        have hq2m : q2 ≤ 140737488351232 := by omega
        have hn15 : 15 ≤ dn := hlen.1
        subst he0 hs0
        have hcq' : ¬ ((c : Int) - (q : Int) = 0) := by omega
        have hca : a = o + q := by rw [← ha, if_neg (by omega)]
        subst hca
        have HX := Lib.hid hkl
        clear hq2 htk hq hd hat hlen hsu hdn hin2 ha hown hb hk hkl
        go_wp2_with fail
        refine hdc.mono ?_
        rintro e w1 ⟨rfl, hb1⟩
        have HB1 := Lib.hid hb1
        clear hdc hb1
        have hone := InRc.one (w1.alloc (.cells (rcA ⟨(k : Int), op, no, ident⟩) 35)) ⟨(k : Int), op, no, ident⟩ 35
        rw [World.size_alloc] at hone
        have HO := Lib.hid hone
        clear hone
        have q0 : (dn == 0) = false := by simp; omega
        go_wp2_with (at_builtin; refine wpList_appendRc rfl _ _ rfl w.heap.size _ ((repR L).take k) rfl (((HQ.out.2.2.1.below HB1.out).alloc _).alloc _) _ _ _ [⟨(k : Int), op, no, ident⟩] rfl rfl HO.out (by rw [HX.out]; simp only [List.length_cons, List.length_nil]; omega) (by have := HB1.out.size; simp only [World.size_alloc]; omega) ?_; intro v2 w2 hown2 hgrow2 _; have hb2 := OwnRc.grown (((HQ.out.2.2.2.1.trans (HB1.out.mono HQ.out.2.2.2.1.size)).alloc (Nat.le_trans hbs HB1.out.size) _).alloc (by have := HB1.out.size; simp only [World.size_alloc]; omega) _) (by have := HB1.out.size; simp only [World.size_alloc]; omega) (((HQ.out.2.2.1.below HB1.out).alloc _).alloc _) hgrow2)
        go_roundw
        case rel =>
          exact ⟨k + 1, HQ.out.2.2.2.2.1, by rw [HQ.out.1], by rw [HQ.out.2.1]; exact hown2, hb2⟩
        case measure => simp [intOf]; omega
      · have hkl' : k = (rep L).length := by omega
        have hend := rep_end L
        rw [← hkl', ← hq, ← hd] at hend
        have h3 := dec_three (L.drop q)
        rw [← hd] at h3
        have hcq0 : c = q → d = Dec.none 0 := fun e => by rw [hd, List.drop_eq_nil_of_le (by omega)]; rfl
        have hlq : (L.drop q).length ≤ 140737488351232 := by rw [List.length_drop]; omega
        have fin : ∀ (w1 : World) (X : Obj), Below wr.heap.size wr w1 → OwnRc (w1.alloc X) w.heap.size (.slice vp k vc) (repR L) ∧ Below w.heap.size w (w1.alloc X) := fun w1 X hb1 => by
          refine ⟨?_, hb.trans ((hb1.alloc hb1.size X).mono hb.size)⟩
          have := (hown.below hb1).alloc X
          rw [hkl', ← repR_length, List.take_length] at this
          rw [hkl', ← repR_length]
          exact this
        have HE : q = repN L := by rw [hq, hkl']; rfl
        have FIN := Lib.hid fin
        have HEE := Lib.hid HE
        clear fin hq hd hin2 hown hb hkl' hkl hlt HE
        by_cases hcq : c = q
        · have hca : a = o := by rw [← ha, if_pos (by omega)]
          have := hcq0 hcq
          have hmq : m = q := by omega
          subst hca hcq this hmq
          clear ha hcq0 h3 hend
          unfold Dec.none at hdc
          simp only [Nat.sub_self] at hdc
          go_wp2_with fail
          refine hdc.mono ?_
          rintro e w1 ⟨rfl, hb1⟩
          go_wp2_with fail
          rw [HEE.out]
          exact bodyPost_ret (results_tmp2 rfl _ _ _) rfl ⟨_, rfl, FIN.out _ _ hb1⟩
        · have hca : a = o + q := by rw [← ha, if_neg (by omega)]
          subst hca
          have hcq' : ¬ ((c : Int) - (q : Int) = 0) := by omega
          clear ha hcq0
          rcases h3 with rfl | rfl | ⟨g1, g2, g3⟩
          · unfold Dec.none at hdc
            dsimp only at hdc
            clear hend
            go_wp2_with fail
            refine hdc.mono ?_
            rintro e w1 ⟨rfl, hb1⟩
            go_wp2_with fail
            rw [HEE.out]
            exact bodyPost_ret (results_tmp2 rfl _ _ _) rfl ⟨_, rfl, FIN.out _ _ hb1⟩
          · unfold Dec.none at hdc
            dsimp only at hdc
            clear hend
            go_wp2_with fail
            refine hdc.mono ?_
            rintro e w1 ⟨rfl, hb1⟩
            go_wp2_with fail
            rw [HEE.out]
            exact bodyPost_ret (results_tmp2 rfl _ _ _) rfl ⟨_, rfl, FIN.out _ _ hb1⟩
          · obtain ⟨seq, op, no, ident, dn, derr⟩ := d
            dsimp only at g1 g2 g3 hdc hend
            subst g1
            have hsk : ¬ seq = (k : Int) := fun e => hend ⟨rfl, (show dn ≠ 0 by omega), e⟩
            have q1 : (dn == 0) = false := by simp; omega
            have q2 : (seq == (k : Int)) = false := by simp [hsk]
            have q3 : (seq != (k : Int)) = true := by simp [hsk]
            clear hend
            go_wp2_with fail
            refine hdc.mono ?_
            rintro e w1 ⟨rfl, hb1⟩
            go_wp2_with fail
            rw [HEE.out]
            exact bodyPost_ret (results_tmp2 rfl _ _ _) rfl ⟨_, rfl, FIN.out _ _ hb1⟩
end Go.Proofs.YtheoklhmlnfgjaaGreatDoor
/-
  sameRecords, copyRecords.
-/
namespace Go.Proofs.YtheoklhmlnfgjaaGreatDoor
open Go.RowKit

theorem takeR {L : List Rcd} {k : Nat} (h : k < L.length) : L.take (k + 1) = L.take k ++ [L[k]] := List.take_succ_eq_append_getElem h
theorem rcd_ext {x y : Rcd} (h1 : x.seq = y.seq) (h2 : x.op = y.op) (h3 : x.no = y.no) (h4 : x.ident = y.ident) : x = y := by
  cases x; cases y; simp_all

set_option maxRecDepth 100000 in
set_option maxHeartbeats 4000000 in
theorem copyRecords_any (L : List Rcd) (p : Option Addr) (m c : Nat) (hL : L.length = m) (hm : m ≤ 4000000000000) (w : World) (hin : InRc w p L) :
    Calls Tryz.prog 22 #[.slice p m c] w fun e w' => ∃ v, e = .returned v ∧ OwnRc w' w.heap.size v L ∧ Below w.heap.size w w' := by
  have hmade := OwnRc.made w
  have hb0 : Below w.heap.size w (w.alloc (.cells #[] 35)) := (Below.refl _ w).alloc (Nat.le_refl _) _
  have hi := hin.below hb0
  go_enter Tryz.func22, Tryz.ntmps22
  go_wp2_with (at_builtin; refine wpList_appendRc rfl _ _ rfl w.heap.size _ [] rfl hmade _ _ _ L hL rfl hi (by simp; omega) (by simp) ?_; intro v2 w2 hown2 hgrow2 _; have hb2 := OwnRc.grown hb0 (by simp) hmade hgrow2)
  go_ret
  exact ⟨_, rfl, hown2, hb2⟩

set_option maxRecDepth 100000 in
set_option maxHeartbeats 4000000 in
theorem sameRecords_any (A B : List Rcd) (p q : Option Addr) (n c m d : Nat) (hn : A.length = n) (hm : B.length = m) (hnl : n ≤ 4000000000000) (hml : m ≤ 4000000000000) (w : World) (hA : InRc w p A) (hB : InRc w q B) :
    Calls Tryz.prog 12 #[.slice p n c, .slice q m d] w fun e w' => ∃ z : Bool, e = .returned (.bool z) ∧ (z = true ↔ A = B) ∧ Below w.heap.size w w' := by
  subst hn
  subst hm
  by_cases hlen : A.length = B.length
  · have hne : ((A.length : Int) != (B.length : Int)) = false := by simp [hlen]
    go_enter Tryz.func12, Tryz.ntmps12
    go_wp2
    go_loopw [5] (fun i wr => ∃ k : Nat, k ≤ A.length ∧ i = .int .i64 k ∧ A.take k = B.take k ∧ Below w.heap.size w wr) (fun i _ => A.length - (intOf i).toNat)
    case atStart => exact ⟨0, Nat.zero_le _, rfl, rfl, Below.refl _ _⟩
    case round =>
      obtain ⟨k, hk, rfl, hpre, hb⟩ := hrel
      by_cases hlt : k < A.length
      · have hlt2 : k < B.length := by omega
        obtain ⟨b, o, rfl, x, x0, x1, x2, x3, hx⟩ := (hA.below hb).at hlt
        obtain ⟨b2, o2, rfl, y, y0, y1, y2, y3, hy⟩ := (hB.below hb).at hlt2
        have hta := takeR hlt
        have htb := takeR hlt2
        obtain ⟨ra, hra⟩ : ∃ r, r = A[k] := ⟨_, rfl⟩
        obtain ⟨rb, hrb⟩ : ∃ r, r = B[k] := ⟨_, rfl⟩
        rw [← hra] at x0 x1 x2 hx hta
        rw [← hrb] at y0 y1 y2 hy htb
        have hne2 : ra ≠ rb → A ≠ B := fun h e => h (by subst e; rw [hra, hrb])
        obtain ⟨s1, o1, n1, d1⟩ := ra
        obtain ⟨s2, o2', n2, d2⟩ := rb
        dsimp only at x0 x1 x2 hx y0 y1 y2 hy
        subst hx
        subst hy
        have H := Lib.hid (And.intro hpre (And.intro hb (And.intro hta (And.intro htb hne2))))
        have HL := Lib.hid hlen
        clear hpre hta htb hne2 hra hrb hlen
        by_cases g : s1 = s2 ∧ o1 = o2' ∧ n1 = n2 ∧ x.data.toList = y.data.toList
        · obtain ⟨rfl, rfl, rfl, g4⟩ := g
          have hbool : (x.toList == y.toList) = true := by rw [strs_eq]; simp [g4]
          have G := Lib.hid g4
          clear g4 hb
          go_wp2_with fail
          go_quiet (fail)
          go_wp2_with fail
          refine ⟨⟨k + 1, hlt, by go_num, ?_, bdrewN H.out.2.1 _⟩, by simp [intOf]; omega⟩
          rw [H.out.2.2.1, H.out.2.2.2.1, H.out.1, G.out]
        · have hno : A ≠ B := H.out.2.2.2.2 fun e => g (by injection e with e1 e2 e3 e4; exact ⟨e1, e2, e3, e4⟩)
          have HNO := Lib.hid hno
          clear hno hb
          by_cases g1 : s1 = s2
          · subst g1
            by_cases g2 : o1 = o2'
            · subst g2
              by_cases g3 : n1 = n2
              · subst g3
                have hbool : (x.toList == y.toList) = false := by rw [strs_eq]; exact decide_eq_false fun e => g ⟨rfl, rfl, rfl, e⟩
                clear g
                go_wp2_with fail
                go_quiet (fail)
                go_wp2_with fail
                go_ret
                exact ⟨_, rfl, by simp [HNO.out], bdrewN H.out.2.1 _⟩
              · have q1 : (n1 == n2) = false := beq_eq_false_iff_ne.2 g3
                have q2 : (n1 != n2) = true := by simp [bne, q1]
                clear g
                go_wp2_with fail
                go_quiet (fail)
                go_wp2_with fail
                go_ret
                exact ⟨_, rfl, by simp [HNO.out], bdrewN H.out.2.1 _⟩
            · have q1 : (o1 == o2') = false := beq_eq_false_iff_ne.2 g2
              have q2 : (o1 != o2') = true := by simp [bne, q1]
              clear g
              go_wp2_with fail
              go_quiet (fail)
              go_wp2_with fail
              go_ret
              exact ⟨_, rfl, by simp [HNO.out], bdrewN H.out.2.1 _⟩
          · have q1 : (s1 == s2) = false := beq_eq_false_iff_ne.2 g1
            have q2 : (s1 != s2) = true := by simp [bne, q1]
            clear g
            go_wp2_with fail
            go_quiet (fail)
            go_wp2_with fail
            go_ret
            exact ⟨_, rfl, by simp [HNO.out], bdrewN H.out.2.1 _⟩
      · obtain rfl : k = A.length := by omega
        have HL := Lib.hid hlen
        clear hlen
        go_wp2
        go_ret
        refine ⟨_, rfl, ?_, hb⟩
        rw [List.take_length, HL.out, List.take_length] at hpre
        simp [hpre]
  · have hne : ((A.length : Int) != (B.length : Int)) = true := by simp; omega
    have hno : A ≠ B := by rintro rfl; exact hlen rfl
    clear hlen
    go_enter Tryz.func12, Tryz.ntmps12
    go_wp2
    go_ret
    exact ⟨_, rfl, by simp [hno], Below.refl _ _⟩
end Go.Proofs.YtheoklhmlnfgjaaGreatDoor
