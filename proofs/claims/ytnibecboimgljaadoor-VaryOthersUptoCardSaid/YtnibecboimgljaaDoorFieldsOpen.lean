/-
  An argument that is a slice of fields, in the words of the walks.
-/
import Derived.Test.YtnibecboimgljaaDoorOpenS
import Derived.Test.YtnibecboimgljaaDoorPairs
import Derived.Deep.SlicePairs
namespace Go.Proofs.YtnibecboimgljaaDoor
open Go.ChangeShapes Go.WideShapes Go.ChangeAt Go.RowKit

theorem cellsF : Tryd.prog.cellsOf 35 = 2 := by kernel_rfl
theorem cellsS1 : Tryd.prog.cellsOf 9 = 1 := by kernel_rfl

/-- what fields weigh -/
def bulkF (L : List Pair) : Nat := (L.map fun x => x.1.length + x.2.length + 3).sum
theorem bulkF_cons (x : Pair) (L : List Pair) : bulkF (x :: L) = x.1.length + x.2.length + 3 + bulkF L := by simp [bulkF]
theorem bulkF_length (L : List Pair) : 3 * L.length ≤ bulkF L := by
  induction L with
  | nil => simp [bulkF]
  | cons x L ih => rw [bulkF_cons, List.length_cons]; omega
theorem bulkF_mem (L : List Pair) : ∀ x ∈ L, x.1.length + x.2.length + 3 ≤ bulkF L := by
  induction L with
  | nil => simp
  | cons y L ih =>
    intro x hx
    rw [bulkF_cons]
    rcases List.mem_cons.1 hx with rfl | hx
    · omega
    · have := ih x hx; omega

theorem bulk_all {H : Type} (L : List Pair) : Rows.uptoBulkAll (L.map fun x => (.agg [.lit (.string x.1), .lit (.string x.2)] : DataW H)) = bulkF L := by
  induction L with
  | nil => simp [Rows.uptoBulkAll, bulkF]
  | cons x L ih =>
    rw [List.map_cons, bulkF_cons, ← ih]
    simp [Rows.uptoBulk, Rows.uptoBulkAll]
    omega
theorem pr_at (L : List Pair) (j : Nat) (v : Value) (h : (pr L)[j]? = some v) : ∃ i, i < L.length ∧ ((j = i * 2 ∧ v = .string ⟨L[i]!.1.toArray⟩) ∨ (j = i * 2 + 1 ∧ v = .string ⟨L[i]!.2.toArray⟩)) := by
  have hl := (List.getElem?_eq_some_iff.1 h).1
  rw [pr_length] at hl
  have hi : j / 2 < L.length := by omega
  obtain ⟨h1, h2⟩ := pr_get L (j / 2) hi
  refine ⟨j / 2, hi, ?_⟩
  have e : L[j / 2]! = L[j / 2] := getElem!_pos L (j / 2) hi
  rw [e]
  rcases Nat.mod_two_eq_zero_or_one j with hm | hm
  · left
    have ej : j = j / 2 * 2 := by omega
    refine ⟨ej, ?_⟩
    rw [← ej, h] at h1
    exact Option.some.inj h1
  · right
    have ej : j = j / 2 * 2 + 1 := by omega
    refine ⟨ej, ?_⟩
    rw [← ej, h] at h2
    exact Option.some.inj h2

set_option maxRecDepth 100000 in
theorem open_fields {H : Type} {enc : TypeId × Value → H} {W : World} {r : Reach} {b0 : Nat} {v : Value} {d : DataW H} {ps : List MemPlace}
    (hv : Value.okWide Tryd.prog W r b0 22 v) (h : DataW.Trod enc Tryd.prog W 0 (fun _ => true) true 22 v d ps) :
    ∃ p L c, v = .slice p (List.length L) c ∧ In2 W p L ∧ L.length ≤ c ∧ c ≤ maxLen ∧ bulkF L + 1 ≤ Rows.uptoBulk d + 0 ∧ (∀ x ∈ L, x.1.length ≤ maxLen ∧ x.2.length ≤ maxLen) ∧ (d = .nil ∧ L = [] ∨ ∃ sp, d = .slice (L.map fun x => (.agg [.lit (.string x.1), .lit (.string x.2)] : DataW H)) sp) := by
  obtain ⟨a0, len, cap, rfl⟩ := okWide_slice Tryd.underlying22 hv
  obtain ⟨fuel, hf⟩ := h
  rcases Go.Deep.open_slice_pairs Tryd.underlying22 Tryd.underlying35 cellsF rfl rfl cellsS1 cellsS1 hf with ⟨hcs, hx⟩ | ⟨x, l, c, m, n, V0, V1, D0, D1, P0, P1, hcs, _, hl, hm, hmm, hx, hat⟩
  · simp [Value.cells] at hcs
    obtain ⟨rfl, rfl, rfl⟩ := hcs
    simp only [Prod.mk.injEq] at hx
    rw [hx.1]
    exact ⟨none, [], 0, rfl, fun h => absurd h (by simp), by simp, by unfold maxLen; omega, by simp [bulkF, Rows.uptoBulk], by simp, .inl ⟨rfl, rfl⟩⟩
  · simp [Value.cells] at hcs
    obtain ⟨rfl, rfl, rfl⟩ := hcs
    simp only [if_true] at hmm
    subst hmm
    simp only [Prod.mk.injEq] at hx
    have each : ∀ i, i < m → ∃ q : ByteArray × ByteArray, V0 i = .string q.1 ∧ V1 i = .string q.2 ∧ D0 i = .lit (.string q.1.data.toList) ∧ D1 i = .lit (.string q.2.data.toList) ∧ q.1.size ≤ maxLen ∧ q.2.size ≤ maxLen := by
      intro i hi
      obtain ⟨_, _, h0, h1⟩ := hat i hi
      obtain ⟨s, e1, e2, z⟩ := DataW.trod_string Tryd.underlying9 h0
      obtain ⟨s', e1', e2', z'⟩ := DataW.trod_string Tryd.underlying9 h1
      simp only [Prod.mk.injEq] at e2 e2'
      simp only [List.cons.injEq, and_true] at e1 e1'
      exact ⟨(s, s'), e1, e1', e2.1, e2'.1, z, z'⟩
    obtain ⟨q, hq⟩ := Go.Deep.choose_lt each
    have hlen : ((List.range len).map fun i => (((q i).1.data.toList, (q i).2.data.toList) : Pair)).length = len := by simp
    have e : ((List.range len).map fun i => (.agg [D0 i, D1 i] : DataW H)) = (((List.range len).map fun i => (((q i).1.data.toList, (q i).2.data.toList) : Pair))).map fun x => .agg [.lit (.string x.1), .lit (.string x.2)] := by
      rw [List.map_map]
      refine List.map_congr_left fun i hi => ?_
      have := List.mem_range.1 hi
      obtain ⟨_, _, e2, e3, _⟩ := hq i (by omega)
      simp [e2, e3]
    refine ⟨some x, (List.range len).map fun i => ((q i).1.data.toList, (q i).2.data.toList), m, by rw [hlen], ?_, by omega, hm, ?_, ?_, .inr ⟨_, by rw [hx.1, e]⟩⟩
    · intro h0
      rw [hlen] at h0
      obtain ⟨b, o, s⟩ := x
      have hs : s = none := by simpa [Addr.add] using World.cell?_spot (hat 0 (by omega)).1
      subst hs
      refine ⟨b, o, rfl, fun j v hv => ?_⟩
      obtain ⟨i, hi, h2⟩ := pr_at _ j v hv
      rw [hlen] at hi
      obtain ⟨c0, c1, _, _⟩ := hat i (by omega)
      obtain ⟨e0, e1, _⟩ := hq i (by omega)
      rw [add_plain] at c0 c1
      rw [getElem!_pos _ _ (by rw [hlen]; exact hi)] at h2
      simp only [List.getElem_map, List.getElem_range] at h2
      rcases h2 with ⟨rfl, rfl⟩ | ⟨rfl, rfl⟩
      · rw [c0, e0]
      · rw [← Nat.add_assoc] at c1 ⊢
        rw [c1, e1]
    · rw [hx.1]
      rw [e]
      simp only [Rows.uptoBulk, bulk_all]
      omega
    · intro y hy
      obtain ⟨i, hi, rfl⟩ := List.mem_map.1 hy
      have := List.mem_range.1 hi
      obtain ⟨_, _, _, _, z1, z2⟩ := hq i (by omega)
      rw [size_list, size_list]
      exact ⟨z1, z2⟩

theorem bytesF : Tryd.prog.bytesOf 35 = 32 := by kernel_rfl
theorem weightsAll_memF {H : Type} {e : TypeId} (ds : List (DataW H)) (d : DataW H) (hd : d ∈ ds) (n : Nat) (hn : n ∈ d.weights Tryd.prog e) : n ∈ DataW.weightsAll Tryd.prog e ds := by
  induction ds with
  | nil => cases hd
  | cons x ds ih =>
    simp only [DataW.weightsAll, List.mem_append]
    rcases List.mem_cons.1 hd with rfl | hd
    · exact .inl hn
    · exact .inr (ih hd)
/-- what the row says of the sizes of fields -/
theorem sized_fields {H : Type} {ts : List TypeId} {ds : List (DataW H)} (h : (DataW.weightsEach Tryd.prog ts ds).all (· ≤ reachBytes) = true) {j : Nat} {d : DataW H} (ht : ts[j]? = some 22) (hd : ds[j]? = some d)
    {L : List Pair} (hL : d = .nil ∧ L = [] ∨ ∃ sp, d = .slice (L.map fun x => (.agg [.lit (.string x.1), .lit (.string x.2)] : DataW H)) sp) : L.length * 32 ≤ 140737488351232 ∧ ∀ x ∈ L, x.1.length ≤ 140737488351232 ∧ x.2.length ≤ 140737488351232 := by
  rcases hL with ⟨_, rfl⟩ | ⟨sp, rfl⟩
  · simp
  · have hw := fun n hn => List.all_eq_true.1 h n (DataW.weights_mem_each ht hd n hn)
    have h1 := hw (((L.map fun x => (.agg [.lit (.string x.1), .lit (.string x.2)] : DataW H)).length + sp.length) * Tryd.prog.bytesOf 35) (by simp [DataW.weights, Tryd.underlying22])
    have h2 : ∀ x ∈ L, x.1.length ≤ reachBytes ∧ x.2.length ≤ reachBytes := by
      intro x hx
      have hin : ∀ n ∈ (.agg [.lit (.string x.1), .lit (.string x.2)] : DataW H).weights Tryd.prog 35, n ∈ (DataW.slice (L.map fun x => (.agg [.lit (.string x.1), .lit (.string x.2)] : DataW H)) sp).weights Tryd.prog 22 := by
        intro n hn
        simp only [DataW.weights, Tryd.underlying22, List.mem_cons, List.mem_append] at hn ⊢
        exact .inr (.inl (weightsAll_memF _ _ (List.mem_map.2 ⟨x, hx, rfl⟩) _ (by simpa [DataW.weights] using hn)))
      have a1 := hw x.1.length (hin _ (by simp [DataW.weights, Tryd.underlying35, DataW.weightsEach]))
      have a2 := hw x.2.length (hin _ (by simp [DataW.weights, Tryd.underlying35, DataW.weightsEach]))
      exact ⟨by simpa using a1, by simpa using a2⟩
    rw [bytesF, List.length_map] at h1
    have h1 := of_decide_eq_true h1
    have e : reachBytes = 140737488351232 := by decide
    rw [e] at h1 h2
    exact ⟨by omega, h2⟩
end Go.Proofs.YtnibecboimgljaaDoor
