/-
  DeleteFunc over fields at Without's closure.
-/
import Derived.Test.YtpgjlepjhbjhfaaDoorDelete
namespace Go.Proofs.YtpgjlepjhbjhfaaDoor
open Go.RowKit

/-- what is kept -/
def keptF (N : List (List UInt8)) (L : List Pair) : List Pair := L.filter fun x => !outP N x
theorem keptF_none (N : List (List UInt8)) (L : List Pair) (h : outI N L = -1) : keptF N L = L := by
  unfold keptF
  rw [List.filter_eq_self]
  intro x hx
  unfold outI at h
  split at h
  · omega
  · rename_i h2
    have h3 : ¬ ∃ x ∈ L, outP N x = true := fun h => h2 (List.findIdx_lt_length.2 h)
    cases ho : outP N x with
    | false => rfl
    | true => exact absurd ⟨x, hx, ho⟩ h3
theorem keptF_snoc (N : List (List UInt8)) (L : List Pair) (k : Nat) (h : k < L.length) : keptF N (L.take (k + 1)) = keptF N (L.take k) ++ (if outP N L[k] = true then [] else [L[k]]) := by
  unfold keptF
  rw [List.take_succ_eq_append_getElem h, List.filter_append]
  congr 1
  by_cases hb : outP N L[k] = true
  · simp [hb]
  · simp [hb]
theorem keptF_first (N : List (List UInt8)) (L : List Pair) (k : Nat) (h : k < L.length) (hk : outI N L = k) : keptF N (L.take (k + 1)) = L.take k := by
  unfold outI at hk
  split at hk
  · rename_i h2
    have e : L.findIdx (outP N) = k := by omega
    have hp := (List.findIdx_eq h).1 e
    rw [keptF_snoc N L k h, if_pos hp.1, List.append_nil]
    unfold keptF
    rw [List.filter_eq_self]
    intro x hx
    obtain ⟨j, hj, rfl⟩ := List.getElem_of_mem hx
    rw [List.length_take] at hj
    rw [List.getElem_take]
    have := hp.2 j (by omega)
    simpa using this
  · omega

theorem pr_take (L : List Pair) (k : Nat) : pr (L.take k) = (pr L).take (k * 2) := by
  induction L generalizing k with
  | nil => simp [pr]
  | cons x L ih =>
    cases k with
    | zero => simp [pr]
    | succ k =>
      have e : (k + 1) * 2 = k * 2 + 1 + 1 := by omega
      rw [e]
      simp [pr, prV, ih]

theorem set2_take (l : List Value) (k : Nat) (x y : Value) (h : k + 2 ≤ l.length) : ((l.set k x).set (k + 1) y).take (k + 2) = l.take k ++ [x, y] := by
  apply List.ext_getElem?
  intro j
  simp only [List.getElem?_take, List.getElem?_set, List.getElem?_append, List.length_take, List.length_set]
  by_cases h1 : j < k
  · have e1 : j < k + 2 := by omega
    have e2 : ¬ k + 1 = j := by omega
    have e3 : ¬ k = j := by omega
    have e4 : j < min k l.length := by omega
    simp [e1, e2, e3, h1, e4]
  · have e4 : ¬ j < min k l.length := by omega
    have e5 : min k l.length = k := by omega
    by_cases h2 : j = k
    · subst h2
      have e2 : j < l.length := by omega
      simp [e5, e2]
    · by_cases h3 : j = k + 1
      · subst h3
        have e2 : k + 1 < l.length := by omega
        have e3 : ¬ k + 1 < k := by omega
        simp [e5, e2, e3]
      · have e1 : ¬ j < k + 2 := by omega
        obtain ⟨d, hd⟩ : ∃ d, j - k = d + 2 := ⟨j - k - 2, by omega⟩
        have e6 : ¬ j < k := by omega
        simp [e1, e5, e6, hd]
theorem set2_after (l : List Value) (k q : Nat) (x y : Value) (h : k + 1 < q) : ((l.set k x).set (k + 1) y)[q]? = l[q]? := by
  rw [List.getElem?_set_ne (by omega), List.getElem?_set_ne (by omega)]

/-- the row g, i of it kept, j of it looked at -/
def DelAt (N : List (List UInt8)) (L : List Pair) (cap g i j : Nat) (w : World) : Prop :=
  ∃ cur : Array Value, w.heap[g]? = some (.cells cur 26 (0, 0)) ∧ cur.size = cap * 2 ∧ (keptF N (L.take j)).length = i ∧ cur.toList.take (i * 2) = pr (keptF N (L.take j)) ∧ ∀ q, j * 2 ≤ q → q < L.length * 2 → cur.toList[q]? = (pr L)[q]?

theorem DelAt.start {N : List (List UInt8)} {L : List Pair} {cap g : Nat} {w : World} {cur : Array Value} (hg : w.heap[g]? = some (.cells cur 26 (0, 0))) (hcur : cur.size = cap * 2) (htk : cur.toList.take (L.length * 2) = pr L) {k : Nat} (h : k < L.length) (hk : outI N L = k) : DelAt N L cap g k (k + 1) w := by
  refine ⟨cur, hg, hcur, ?_, ?_, fun q _ hq => ?_⟩
  · rw [keptF_first N L k h hk, List.length_take]; omega
  · rw [keptF_first N L k h hk, pr_take, ← htk, List.take_take]
    congr 1
    omega
  · rw [← htk, List.getElem?_take_of_lt hq]
theorem DelAt.read {N : List (List UInt8)} {L : List Pair} {cap g i j : Nat} {w : World} (h : DelAt N L cap g i j w) (hj : j < L.length) :
    ∃ x y : ByteArray, w.cell? ⟨g, j * 2, none⟩ = some (.string x) ∧ w.cell? ⟨g, j * 2 + 1, none⟩ = some (.string y) ∧ x.data.toList = L[j].1 ∧ y.data.toList = L[j].2 := by
  obtain ⟨cur, hg, _, _, _, hr⟩ := h
  obtain ⟨h1, h2⟩ := pr_get L j hj
  refine ⟨⟨L[j].1.toArray⟩, ⟨L[j].2.toArray⟩, ?_, ?_, rfl, rfl⟩
  · rw [cell_of_row _ _ _ _ _ _ hg, ← Array.getElem?_toList, hr _ (by omega) (by omega), h1]
  · rw [cell_of_row _ _ _ _ _ _ hg, ← Array.getElem?_toList, hr _ (by omega) (by omega), h2]
theorem DelAt.below {N : List (List UInt8)} {L : List Pair} {cap g i j : Nat} {w w' : World} (h : DelAt N L cap g i j w) (hb : Below w.heap.size w w') : DelAt N L cap g i j w' := by
  obtain ⟨cur, hg, r⟩ := h
  have hlt : g < w.heap.size := (Array.getElem?_eq_some_iff.1 hg).1
  exact ⟨cur, (hb.block g hlt).trans hg, r⟩
theorem DelAt.lt {N : List (List UInt8)} {L : List Pair} {cap g i j : Nat} {w : World} (h : DelAt N L cap g i j w) : g < w.heap.size := by
  obtain ⟨cur, hg, r⟩ := h
  exact (Array.getElem?_eq_some_iff.1 hg).1
theorem DelAt.skip {N : List (List UInt8)} {L : List Pair} {cap g i j : Nat} {w : World} (h : DelAt N L cap g i j w) (hj : j < L.length) (ho : outP N L[j] = true) : DelAt N L cap g i (j + 1) w := by
  obtain ⟨cur, hg, hs, hl, ht, hr⟩ := h
  have e : keptF N (L.take (j + 1)) = keptF N (L.take j) := by rw [keptF_snoc N L j hj, if_pos ho, List.append_nil]
  exact ⟨cur, hg, hs, by rw [e]; exact hl, by rw [e]; exact ht, fun q h1 h2 => hr q (by omega) h2⟩
theorem DelAt.keep {N : List (List UInt8)} {L : List Pair} {cap g i j : Nat} {w : World} (h : DelAt N L cap g i j w) (hj : j < L.length) (hij : i < j) (hc : L.length ≤ cap) (ho : outP N L[j] = false) {x y : ByteArray} (hx : x.data.toList = L[j].1) (hy : y.data.toList = L[j].2) :
    DelAt N L cap g (i + 1) (j + 1) ((w.setCell ⟨g, i * 2, none⟩ (.string x)).setCell ⟨g, i * 2 + 1, none⟩ (.string y)) := by
  obtain ⟨cur, hg, hs, hl, ht, hr⟩ := h
  have e : keptF N (L.take (j + 1)) = keptF N (L.take j) ++ [L[j]] := by rw [keptF_snoc N L j hj, if_neg (by rw [ho]; simp)]
  have ex : x = ⟨L[j].1.toArray⟩ := ba_ext (by rw [hx])
  have ey : y = ⟨L[j].2.toArray⟩ := ba_ext (by rw [hy])
  refine ⟨_, heap_setCell_same _ _ _ _ _ _ (heap_setCell_same _ _ _ _ _ _ hg), by simpa using hs, by rw [e, List.length_append, hl]; rfl, ?_, fun q h1 h2 => ?_⟩
  · have e2 : (i + 1) * 2 = i * 2 + 2 := by omega
    rw [e, pr_append, ← ht, e2, Array.toList_setIfInBounds, Array.toList_setIfInBounds, set2_take _ _ _ _ (by rw [Array.length_toList]; omega), ex, ey]
    rfl
  · rw [Array.toList_setIfInBounds, Array.toList_setIfInBounds, set2_after _ _ _ _ _ (by omega)]
    exact hr q (by omega) h2
theorem DelAt.some0 {N : List (List UInt8)} {L : List Pair} {cap g i j : Nat} {w : World} (h : DelAt N L cap g i j w) (q : Nat) (hq : q < cap * 2) : (∃ u, w.cell? ⟨g, q, none⟩ = some u) ∧ w.frozen? ⟨g, q, none⟩ = false := by
  obtain ⟨cur, hg, hs, _⟩ := h
  refine ⟨?_, frozen_of_row _ _ _ _ _ hg⟩
  exact ⟨_, (cell_of_row _ _ _ _ _ _ hg).trans (Array.getElem?_eq_getElem (by rw [hs]; exact hq))⟩
theorem DelAt.set {N : List (List UInt8)} {L : List Pair} {cap g i j : Nat} {w : World} (h : DelAt N L cap g i j w) (v : Value) (q : Nat) (hq : q < cap * 2) (r : Nat) : (∃ u, (w.setCell ⟨g, r, none⟩ v).cell? ⟨g, q, none⟩ = some u) ∧ (w.setCell ⟨g, r, none⟩ v).frozen? ⟨g, q, none⟩ = false := by
  obtain ⟨cur, hg, hs, _⟩ := h
  have hg2 := heap_setCell_same w g r cur _ v hg
  refine ⟨?_, frozen_of_row _ _ _ _ _ hg2⟩
  exact ⟨_, (cell_of_row _ _ _ _ _ _ hg2).trans (Array.getElem?_eq_getElem (by rw [Array.size_setIfInBounds, hs]; exact hq))⟩

theorem zeroPair {t e : TypeId} (T : PairT t e) (w : World) : (zeroValue e).run Tryd.prog w = .ok (.agg #[.string .empty, .string .empty]) w := by
  have h := T.hi
  cases hi : Tryd.prog.info? e with
  | none => rw [hi] at h; simp at h
  | some i =>
    rw [hi] at h
    simp only [Option.map_some, Option.some.injEq, Prod.mk.injEq] at h
    simp [zeroValue, typeInfo, hi, h.1]

/-- clear of a row's tail: the head is kept -/
theorem run_clear2 {t e : TypeId} (T : PairT t e) (ty : TypeId) (w : World) (g i n c : Nat) (cur : Array Value) (e' : TypeId) (hg : w.heap[g]? = some (.cells cur e' (0, 0))) (hfit : i * 2 + n * 2 ≤ cur.size) :
    ∃ new : Array Value, new.size = cur.size ∧ new.toList.take (i * 2) = cur.toList.take (i * 2) ∧ (Builtin.clear_ #[t] ty #[.slice (some ⟨g, i * 2, none⟩) n c]).run Tryd.prog w = .ok (.tuple #[]) (w.setRow g new) := by
  cases n with
  | zero =>
    refine ⟨cur, rfl, rfl, ?_⟩
    rw [setRow_self w g cur e' (0, 0) hg]
    simp [Builtin.clear_, run_underlying T.ht]
  | succ n =>
    have hz : (Builtin.zeroCells #[.string .empty, .string .empty] (n + 1)).toList.length = (n + 1) * 2 := by simp [Builtin.zeroCells]
    have hst := run_storeCells_at Tryd.prog g (i * 2) e' (Builtin.zeroCells #[.string .empty, .string .empty] (n + 1)).toList 0 cur w hg (by rw [hz]; omega) (by
      intro v hv
      simp only [Builtin.zeroCells, Array.toList_map, List.mem_map] at hv
      obtain ⟨q, _, rfl⟩ := hv
      have h2 : q % (#[Value.string ByteArray.empty, Value.string ByteArray.empty] : Array Value).size < 2 := Nat.mod_lt _ (by decide)
      generalize q % (#[Value.string ByteArray.empty, Value.string ByteArray.empty] : Array Value).size = r at h2
      match r, h2 with
      | 0, _ => rfl
      | 1, _ => rfl)
    simp only [Nat.add_zero] at hst
    obtain ⟨new, hnew⟩ : ∃ new : Array Value, new = (cur.toList.take (i * 2) ++ (Builtin.zeroCells #[.string .empty, .string .empty] (n + 1)).toList ++ cur.toList.drop (i * 2 + (Builtin.zeroCells #[.string .empty, .string .empty] (n + 1)).toList.length)).toArray := ⟨_, rfl⟩
    rw [← hnew] at hst
    refine ⟨new, ?_, ?_, ?_⟩
    · rw [hnew, List.size_toArray, List.length_append, List.length_append, List.length_take, List.length_drop, hz, Array.length_toList]; omega
    · rw [hnew, List.append_assoc, List.take_append_of_le_length (by rw [List.length_take, Array.length_toList]; omega), List.take_take, Nat.min_self]
    · simp [Builtin.clear_, run_underlying T.ht, zeroPair T, Value.cells, hst]

theorem InS.belowG {w w' : World} {g : Nat} {p : Option Addr} {N : List (List UInt8)} (h : InS w p N) (hb : Below g w w') (hpg : 0 < N.length → ∀ a, p = some a → a.block < g) : InS w' p N := by
  intro h0
  obtain ⟨b, o, rfl, hc⟩ := h h0
  refine ⟨b, o, rfl, fun i hi => ?_⟩
  rw [hb.cell (p := ⟨b, o + i, none⟩) (show b < g from hpg (by rwa [tx_length] at h0) _ rfl)]
  exact hc i hi

set_option maxHeartbeats 8000000 in
theorem delete_any (L : List Pair) (g cap : Nat) (cur : Array Value) (m : Nat) (hm : L.length = m) (hmr : m ≤ 4400000000000) (hmc : m ≤ cap) (hcap : cap ≤ maxLen) (hcur : cur.size = cap * 2) (htk : cur.toList.take (m * 2) = pr L)
    (N : List (List UInt8)) (p : Option Addr) (n c : Nat) (hn : N.length = n) (hr : n ≤ 8800000000000) (bn : Nat) (w : World) (hg : w.heap[g]? = some (.cells cur 26 (0, 0)))
    (hL : ∀ x ∈ L, x.1.length ≤ 140737488351232) (hN : ∀ x ∈ N, x.length ≤ 140737488351232)
    (h0 : w.cell? ⟨bn, 0, none⟩ = some (.slice p n c)) (h : InS w p N) (h2 : In2 w (some ⟨g, 0, none⟩) L) (hbn : bn < g) (hpg : 0 < N.length → ∀ a, p = some a → a.block < g) :
    Calls Tryd.prog 43 #[.slice (some ⟨g, 0, none⟩) m cap, .func (.func 45) #[] #[.pointer (some ⟨bn, 0, none⟩)]] w fun e w' => ∃ v, e = .returned v ∧ OwnF w' g v (keptF N L) ∧ Below g w w' := by
  have hcall := indexF_any L (some ⟨g, 0, none⟩) m cap hm hmr N p n c hn hr bn w hL hN h0 h h2
  subst hm
  have hgs : g < w.heap.size := (Array.getElem?_eq_some_iff.1 hg).1
  go_enter Tryd.func43, Tryd.ntmps43
  go_wp2_with fail
  refine hcall.mono ?_
  rintro e w1 ⟨rfl, hb1⟩
  have hb1' := hb1.mono (Nat.le_of_lt hgs)
  have hs1 := hb1.size
  have hg1 := (hb1.block g hgs).trans hg
  by_cases hi : outI N L = -1
  · have HK := Lib.hid (keptF_none N L hi)
    rw [hi]
    clear hi
    go_wp2_with fail
    go_ret
    refine ⟨_, rfl, ?_, hb1'⟩
    rw [HK.out]
    exact ⟨by rw [pr_length], .inr ⟨g, cap, cur, rfl, Nat.le_refl _, hg1, hmc, hcap, hcur, htk⟩⟩
  · obtain ⟨k, hk, hkl⟩ : ∃ k : Nat, outI N L = k ∧ k < L.length := by
      unfold outI at hi ⊢
      split
      · rename_i h; exact ⟨_, rfl, h⟩
      · rename_i h; rw [if_neg h] at hi; exact absurd rfl hi
    have hd := DelAt.start hg1 hcur htk hkl hk
    rw [hk]
    have t1 : ((k : Int) == -1) = false := by simp
    clear hi
    clear hg hcur htk h2 hcall hgs hg1 hk
    have hM := Lib.hid hL
    clear hL
    go_wp2_with fail
    go_loopw [5, 6] (fun i j wr => ∃ a b : Nat, a < b ∧ b ≤ L.length ∧ i = .int .i64 a ∧ j = .int .i64 b ∧ DelAt N L cap g a b wr ∧ Below g w wr) (fun _ j _ => L.length - (intOf j).toNat)
    case atStart => exact ⟨k, k + 1, by omega, by omega, by go_num, by go_num, hd, hb1'⟩
    case round =>
      clear hd hb1 hb1' hs1 t1 hkl
      obtain ⟨a, b, hab, hbl, rfl, rfl, hd, hb⟩ := hrel
      have hgs := hd.lt
      by_cases hlt : b < L.length
      · obtain ⟨x, y, hx, hy, ex, ey⟩ := hd.read hlt
        have EX := Lib.hid ex
        have EY := Lib.hid ey
        have hxs : x.size ≤ 140737488351232 := by rw [← size_list, ex]; exact hM.out _ (List.getElem_mem hlt)
        have g0 := (hb.cell (p := ⟨bn, 0, none⟩) hbn).trans h0
        have gN : InS wr p N := h.belowG hb hpg
        clear ex ey
        have hb0 := hb.alloc (by omega) (.cells #[.string x, .string y] 26)
        have ha0 := heap_alloc_new wr (.cells #[.string x, .string y] 26)
        have hd0 := hd.below ((Below.refl _ wr).alloc (Nat.le_refl _) (.cells #[.string x, .string y] 26))
        have hs0 : (wr.alloc (.cells #[.string x, .string y] 26)).heap.size = wr.heap.size + 1 := by simp
        have g0' := (hb0.cell (p := ⟨bn, 0, none⟩) hbn).trans h0
        have gN' : InS (wr.alloc (.cells #[.string x, .string y] 26)) p N := h.belowG hb0 hpg
        have hcl := outer_any N p n c hn hr x y bn (wr.alloc (.cells #[.string x, .string y] 26)) hxs hN g0' gN'
        clear g0' gN' g0 gN
        go_wp2_with fail
        refine hcl.mono ?_
        rintro e w2 ⟨rfl, hb2⟩
        rw [EX.out]
        have hd2 := hd0.below hb2
        have hb2' := hb0.trans (hb2.mono (by rw [hs0]; omega))
        have ha2 := (hb2.block wr.heap.size (by rw [hs0]; omega)).trans ha0
        have c0 : w2.cell? ⟨wr.heap.size, 0, none⟩ = some (.string x) := by rw [cell_of_row _ _ _ _ _ _ ha2]; rfl
        have c1 : w2.cell? ⟨wr.heap.size, 1, none⟩ = some (.string y) := by rw [cell_of_row _ _ _ _ _ _ ha2]; rfl
        clear hcl hx hy hd0 ha0 hb0
        cases ho : amongT L[b].1 N
        · have HO := Lib.hid (show outP N L[b] = false from ho)
          obtain ⟨⟨_, z1⟩, z2⟩ := hd2.some0 (a * 2) (by omega)
          obtain ⟨⟨_, z3⟩, z4⟩ := hd2.set (.string x) (a * 2 + 1) (by omega) (a * 2)
          clear ho
          go_wp2_with fail
          refine ⟨⟨a + 1, b + 1, by omega, by omega, by go_num, by go_num, hd2.keep hlt hab hmc HO.out EX.out EY.out, (hb2'.setCell (Nat.le_refl _) _).setCell (Nat.le_refl _) _⟩, ?_⟩
          simp [intOf]; omega
        · have HO := Lib.hid (show outP N L[b] = true from ho)
          clear ho
          go_wp2_with fail
          go_roundw
          case rel => exact ⟨a, b + 1, by omega, by omega, rfl, by go_num, hd2.skip hlt HO.out, hb2'⟩
          case measure => simp [intOf]; omega
      · obtain rfl : b = L.length := by omega
        obtain ⟨cur, hg, hcs, hkl, hkt, _⟩ := hd
        rw [List.take_length] at hkl hkt
        obtain ⟨new, n1, n2, n3⟩ := run_clear2 parF 0 wr g a (L.length - a) (cap - a) cur 26 hg (by omega)
        have HG := Lib.hid (setRow_heap wr g cur new _ _ hg)
        have HK := Lib.hid hkl
        have HT := Lib.hid (n2.trans hkt)
        have HS := Lib.hid (n1.trans hcs)
        clear hg hcs hkl hkt n1 n2
        go_wp2_with fail
        go_ret
        refine ⟨_, rfl, ⟨by rw [pr_length], .inr ⟨g, cap, new, by rw [HK.out]; rfl, Nat.le_refl _, HG.out, by rw [HK.out]; omega, hcap, HS.out, by rw [HK.out]; exact HT.out⟩⟩, hb.trans ⟨rfl, rfl, rfl, by simp, fun q hq => setRow_other wr g q new (by omega)⟩⟩
end Go.Proofs.YtpgjlepjhbjhfaaDoor
