/-
  Matches, the program's and the document's.
-/
import Derived.Test.YtnibecboimgljaaDoorEntry
import Derived.Test.YtnibecboimgljaaDoorVNames
import Derived.Test.YtnibecboimgljaaDoorVSize
import Derived.Deep.RegionHeld3
namespace Go.Proofs.YtnibecboimgljaaDoor
open Go.RowKit

/-- does an entry with these fields and this key of its variant match? -/
def matchB (L : List Pair) (v : List UInt8) (A : List Pair) : Bool := (namesT L).2 && decide (keyT (namesT L).1 A = v)

theorem sized_of_bulk (L : List Pair) (h : bulkF L ≤ 8388608) : ∀ x ∈ L, x.1.length ≤ 140737488351232 ∧ x.2.length ≤ 4000000000 := fun x hx => by
  have := bulkF_mem L x hx
  exact ⟨by omega, by omega⟩

set_option maxHeartbeats 2000000 in
theorem matches_any (k v : ByteArray) (st : Int) (rs : ByteArray) (mi a g : Int) (L : List Pair) (p : Option Addr) (n c : Nat) (hn : L.length = n) (x : Option Addr) (m y : Nat) (A : List Pair) (pa : Option Addr) (na ca : Nat) (hna : A.length = na) (hL : bulkF L ≤ 4194304) (hA : bulkF A ≤ 4194304) (w : World) (h : In2 w p L) (ha : In2 w pa A) :
    Calls Tryd.prog 20 #[.agg #[.string k, .string v, .int .i64 st, .string rs, .int .i64 mi, .slice p n c, .slice x m y, .int .i64 a, .int .i64 g], .slice pa na ca] w fun e w' => e = .returned (.bool (matchB L v.data.toList A)) ∧ Below w.heap.size w w' := by
  subst hn
  subst hna
  have hl3 := bulkF_length L
  have hl4 := bulkF_length A
  have hTL := tokens_lenV L
  have hNB := namesT_bulk L
  have hb0 := (Below.refl w.heap.size w).alloc (Nat.le_refl _) (.cells #[.string k, .string v, .int .i64 st, .string rs, .int .i64 mi, .slice p L.length c, .slice x m y, .int .i64 a, .int .i64 g] 41)
  have ha0 := heap_alloc_new w (.cells #[.string k, .string v, .int .i64 st, .string rs, .int .i64 mi, .slice p L.length c, .slice x m y, .int .i64 a, .int .i64 g] 41)
  have hcall := names_any L p _ c rfl (by omega) (sized_of_bulk L (by omega)) (by omega) _ (h.alloc (.cells #[.string k, .string v, .int .i64 st, .string rs, .int .i64 mi, .slice p L.length c, .slice x m y, .int .i64 a, .int .i64 g] 41))
  have HA2 := Lib.hid (sized_of_bulk A (by omega))
  have hmb : matchB L v.data.toList A = ((namesT L).2 && decide (keyT (namesT L).1 A = v.data.toList)) := rfl
  obtain ⟨N, hN⟩ : ∃ N, N = (namesT L).1 := ⟨_, rfl⟩
  obtain ⟨ok, hok⟩ : ∃ b, b = (namesT L).2 := ⟨_, rfl⟩
  rw [← hN, ← hok] at hcall hmb
  rw [← hN] at hNB
  obtain ⟨kb, hkb⟩ : ∃ kb, kb = decide (keyT N A = v.data.toList) := ⟨_, rfl⟩
  rw [hmb, ← hkb]
  have HKB := Lib.hid hkb
  clear hmb hok hN hkb
  have hNl := bulkT_length N
  have HNS := Lib.hid (fun x hx => by have := bulkT_mem N x hx; exact (by omega : x.length ≤ 4000000000))
  have HE := Lib.hid (fun x (_ : x ∈ N) => by have := elsOf_length A x; exact (by omega : (elsOf A x).length ≤ 8000000000000))
  have HK := Lib.hid (keyT_small N A (by omega) (by omega))
  go_enter Tryd.func20, Tryd.ntmps20
  go_wp2_with fail
  refine hcall.mono ?_
  rintro e w1 ⟨v1, rfl, hown1, hb1⟩
  have hB1 := hb0.trans (hb1.mono (by simp))
  have hs1 := hB1.size
  have hg1 := (hb1.block w.heap.size (by simp)).trans ha0
  have c1 : w1.cell? ⟨w.heap.size, 1, none⟩ = some (.string v) := by rw [cell_of_row _ _ _ _ _ _ hg1]; rfl
  obtain ⟨p1, c2, rfl, _, k2, hin1, _⟩ := hown1.shape rfl
  unfold maxLen at k2
  clear hcall hown1
  cases ok with
  | false =>
    go_wp2_with fail
    go_quiet (fail)
    go_wp2_with fail
    go_ret
    exact ⟨rfl, bdrewN hB1 _⟩
  | true =>
    obtain ⟨K, hK⟩ : ∃ K : ByteArray, K = ⟨(keyT N A).toArray⟩ := ⟨_, rfl⟩
    have hKd : (K.toList == v.toList) = kb := by rw [strs_eq, hK, HKB.out]
    obtain ⟨S, hS⟩ : ∃ S : World → Prop, S = fun W => W.cell? ⟨w.heap.size, 1, none⟩ = some (.string v) ∧ Below w1.heap.size w1 W := ⟨_, rfl⟩
    have HKEY := Lib.hid (fun W (hW : S W) => show Calls Tryd.prog 17 #[.slice p1 N.length c2, .slice pa A.length ca] W fun e w' => e = .returned (.string K) ∧ S w' by
      rw [hS] at hW
      rw [hK, hS]
      exact (key_any N p1 _ c2 rfl (by omega) A pa _ ca rfl (by omega) HNS.out HA2.out HE.out HK.out W (hin1.below hW.2) ((ha.below hB1).below hW.2)).mono fun _ _ ⟨h1, h2⟩ => ⟨h1, cell_keep hW.1 h2, hW.2.trans (h2.mono hW.2.size)⟩)
    have HSS := Lib.hid (fun W => show S W ↔ W.cell? ⟨w.heap.size, 1, none⟩ = some (.string v) ∧ Below w1.heap.size w1 W by rw [hS])
    have HK0 := Lib.hid (show S w1.drew by rw [hS]; exact ⟨c1, (Below.refl _ w1).drew⟩)
    clear hS hK c1
    go_wp2_with fail
    go_region_held3 (fun w' => w'.cell? ⟨w.heap.size, 1, none⟩ = some (.string v) ∧ Below w1.heap.size w1 w')
      (first | (with_reducible exact (HSS.out _).1 HK0.out) | (with_reducible exact (HSS.out _).1 HK1.out))
      (first | (go_at_call 17; (with_reducible refine (HKEY.out _ ?_).mono ?_; (with_reducible exact HK0.out); rintro e w2 ⟨rfl, hk⟩; have HK1 := Lib.hid hk; clear hk)))
    all_goals
      have hB2 := hB1.trans (((HSS.out _).1 HK1.out).2.mono hs1)
      go_wp2_with fail
      go_ret
      exact ⟨by simp, hB2⟩

set_option maxHeartbeats 2000000 in
theorem refMatches_any (k v : ByteArray) (st : Int) (rs : ByteArray) (mi a g : Int) (L : List Pair) (p : Option Addr) (n c : Nat) (hn : L.length = n) (x : Option Addr) (m y : Nat) (A : List Pair) (pa : Option Addr) (na ca : Nat) (hna : A.length = na) (hL : bulkF L ≤ 4194304) (hA : bulkF A ≤ 4194304) (w : World) (h : In2 w p L) (ha : In2 w pa A) :
    Calls Tryd.prog 21 #[.agg #[.string k, .string v, .int .i64 st, .string rs, .int .i64 mi, .slice p n c, .slice x m y, .int .i64 a, .int .i64 g], .slice pa na ca] w fun e w' => e = .returned (.bool (matchB L v.data.toList A)) ∧ Below w.heap.size w w' := by
  subst hn
  subst hna
  have hl3 := bulkF_length L
  have hl4 := bulkF_length A
  have hTL := tokens_lenV L
  have hNB := namesT_bulk L
  have hb0 := (Below.refl w.heap.size w).alloc (Nat.le_refl _) (.cells #[.string k, .string v, .int .i64 st, .string rs, .int .i64 mi, .slice p L.length c, .slice x m y, .int .i64 a, .int .i64 g] 41)
  have ha0 := heap_alloc_new w (.cells #[.string k, .string v, .int .i64 st, .string rs, .int .i64 mi, .slice p L.length c, .slice x m y, .int .i64 a, .int .i64 g] 41)
  have hcall := refNames_any L p _ c rfl (by omega) (sized_of_bulk L (by omega)) (by omega) _ (h.alloc (.cells #[.string k, .string v, .int .i64 st, .string rs, .int .i64 mi, .slice p L.length c, .slice x m y, .int .i64 a, .int .i64 g] 41))
  have HA2 := Lib.hid (sized_of_bulk A (by omega))
  have hmb : matchB L v.data.toList A = ((namesT L).2 && decide (keyT (namesT L).1 A = v.data.toList)) := rfl
  obtain ⟨N, hN⟩ : ∃ N, N = (namesT L).1 := ⟨_, rfl⟩
  obtain ⟨ok, hok⟩ : ∃ b, b = (namesT L).2 := ⟨_, rfl⟩
  rw [← hN, ← hok] at hcall hmb
  rw [← hN] at hNB
  obtain ⟨kb, hkb⟩ : ∃ kb, kb = decide (keyT N A = v.data.toList) := ⟨_, rfl⟩
  rw [hmb, ← hkb]
  have HKB := Lib.hid hkb
  clear hmb hok hN hkb
  have hNl := bulkT_length N
  have HNS := Lib.hid (fun x hx => by have := bulkT_mem N x hx; exact (by omega : x.length ≤ 4000000000))
  have HE := Lib.hid (fun x (_ : x ∈ N) => by have := elsOf_length A x; exact (by omega : (elsOf A x).length ≤ 8000000000000))
  have HK := Lib.hid (keyT_small N A (by omega) (by omega))
  go_enter Tryd.func21, Tryd.ntmps21
  go_wp2_with fail
  refine hcall.mono ?_
  rintro e w1 ⟨v1, rfl, hown1, hb1⟩
  have hB1 := hb0.trans (hb1.mono (by simp))
  have hs1 := hB1.size
  have hg1 := (hb1.block w.heap.size (by simp)).trans ha0
  have c1 : w1.cell? ⟨w.heap.size, 1, none⟩ = some (.string v) := by rw [cell_of_row _ _ _ _ _ _ hg1]; rfl
  obtain ⟨p1, c2, rfl, _, k2, hin1, _⟩ := hown1.shape rfl
  unfold maxLen at k2
  clear hcall hown1
  cases ok with
  | false =>
    go_wp2_with fail
    go_quiet (fail)
    go_wp2_with fail
    go_ret
    exact ⟨rfl, bdrewN hB1 _⟩
  | true =>
    obtain ⟨K, hK⟩ : ∃ K : ByteArray, K = ⟨(keyT N A).toArray⟩ := ⟨_, rfl⟩
    have hKd : (K.toList == v.toList) = kb := by rw [strs_eq, hK, HKB.out]
    obtain ⟨S, hS⟩ : ∃ S : World → Prop, S = fun W => W.cell? ⟨w.heap.size, 1, none⟩ = some (.string v) ∧ Below w1.heap.size w1 W := ⟨_, rfl⟩
    have HKEY := Lib.hid (fun W (hW : S W) => show Calls Tryd.prog 18 #[.slice p1 N.length c2, .slice pa A.length ca] W fun e w' => e = .returned (.string K) ∧ S w' by
      rw [hS] at hW
      rw [hK, hS]
      exact (refKey_any N p1 _ c2 rfl (by omega) A pa _ ca rfl (by omega) HNS.out HA2.out HE.out HK.out W (hin1.below hW.2) ((ha.below hB1).below hW.2)).mono fun _ _ ⟨h1, h2⟩ => ⟨h1, cell_keep hW.1 h2, hW.2.trans (h2.mono hW.2.size)⟩)
    have HSS := Lib.hid (fun W => show S W ↔ W.cell? ⟨w.heap.size, 1, none⟩ = some (.string v) ∧ Below w1.heap.size w1 W by rw [hS])
    have HK0 := Lib.hid (show S w1.drew by rw [hS]; exact ⟨c1, (Below.refl _ w1).drew⟩)
    clear hS hK c1
    go_wp2_with fail
    go_region_held3 (fun w' => w'.cell? ⟨w.heap.size, 1, none⟩ = some (.string v) ∧ Below w1.heap.size w1 w')
      (first | (with_reducible exact (HSS.out _).1 HK0.out) | (with_reducible exact (HSS.out _).1 HK1.out))
      (first | (go_at_call 18; (with_reducible refine (HKEY.out _ ?_).mono ?_; (with_reducible exact HK0.out); rintro e w2 ⟨rfl, hk⟩; have HK1 := Lib.hid hk; clear hk)))
    all_goals
      have hB2 := hB1.trans (((HSS.out _).1 HK1.out).2.mono hs1)
      go_wp2_with fail
      go_ret
      exact ⟨by simp, hB2⟩
end Go.Proofs.YtnibecboimgljaaDoor
