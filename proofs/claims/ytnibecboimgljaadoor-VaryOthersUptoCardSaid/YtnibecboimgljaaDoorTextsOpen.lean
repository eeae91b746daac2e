/-
  An argument that is a slice of texts, in the words of the walks.
-/
import Derived.Test.YtnibecboimgljaaDoorOpenS
import Derived.Test.YtnibecboimgljaaDoorTexts
import Derived.SliceStrings
namespace Go.Proofs.YtnibecboimgljaaDoor
open Go.ChangeShapes Go.WideShapes Go.ChangeAt Go.RowKit

theorem cellsS : Tryd.prog.cellsOf 9 = 1 := by kernel_rfl
theorem bytesS : Tryd.prog.bytesOf 9 = 16 := by kernel_rfl

/-- what texts weigh -/
def bulkT (L : List (List UInt8)) : Nat := (L.map fun l => l.length + 1).sum
theorem bulkT_cons (l : List UInt8) (L : List (List UInt8)) : bulkT (l :: L) = l.length + 1 + bulkT L := by simp [bulkT]
theorem bulkT_length (L : List (List UInt8)) : L.length ≤ bulkT L := by
  induction L with
  | nil => simp [bulkT]
  | cons l L ih => rw [bulkT_cons, List.length_cons]; omega
theorem bulkT_mem (L : List (List UInt8)) : ∀ l ∈ L, l.length + 1 ≤ bulkT L := by
  induction L with
  | nil => simp
  | cons x L ih =>
    intro l hl
    rw [bulkT_cons]
    rcases List.mem_cons.1 hl with rfl | hl
    · omega
    · have := ih l hl; omega

theorem bulk_strs {H : Type} (ss : List ByteArray) : Rows.uptoBulkAll (strs (H := H) ss) = bulkT (ss.map (·.data.toList)) := by
  induction ss with
  | nil => simp [strs, Rows.uptoBulkAll, bulkT]
  | cons s ss ih =>
    have e : strs (H := H) (s :: ss) = .lit (.string s.data.toList) :: strs ss := rfl
    rw [e, List.map_cons, bulkT_cons, ← ih]
    simp [Rows.uptoBulkAll, Rows.uptoBulk]

theorem weightsAll_mem {H : Type} {e : TypeId} (ds : List (DataW H)) (d : DataW H) (hd : d ∈ ds) (n : Nat) (hn : n ∈ d.weights Tryd.prog e) : n ∈ DataW.weightsAll Tryd.prog e ds := by
  induction ds with
  | nil => cases hd
  | cons x ds ih =>
    simp only [DataW.weightsAll, List.mem_append]
    rcases List.mem_cons.1 hd with rfl | hd
    · exact .inl hn
    · exact .inr (ih hd)

set_option maxRecDepth 100000 in
theorem open_texts {H : Type} {enc : TypeId × Value → H} {W : World} {r : Reach} {b0 : Nat} {v : Value} {d : DataW H} {ps : List MemPlace}
    (hv : Value.okWide Tryd.prog W r b0 25 v) (h : DataW.Trod enc Tryd.prog W 0 (fun _ => true) true 25 v d ps) :
    ∃ p L c, v = .slice p (List.length L) c ∧ InS W p L ∧ L.length ≤ c ∧ c ≤ maxLen ∧ bulkT L + 1 ≤ Rows.uptoBulk d + 0 ∧ (∀ l ∈ L, l.length ≤ maxLen) ∧ (d = .nil ∧ L = [] ∨ ∃ sp, d = .slice (L.map fun l => (.lit (.string l) : DataW H)) sp) := by
  obtain ⟨a0, len, cap, rfl⟩ := okWide_slice Tryd.underlying25 hv
  obtain ⟨fuel, hf⟩ := h
  rcases open_strings Tryd.underlying25 Tryd.underlying9 cellsS hf with ⟨hcs, hx⟩ | ⟨x, l, c, ss, hcs, _, hl, hm, hz, hx, hcell, hsm⟩
  · simp [Value.cells] at hcs
    obtain ⟨rfl, rfl, rfl⟩ := hcs
    simp only [Prod.mk.injEq] at hx
    rw [hx.1]
    exact ⟨none, [], 0, rfl, fun h => absurd h (by simp [tx]), by simp, by unfold maxLen; omega, by simp [bulkT, Rows.uptoBulk], by simp, .inl ⟨rfl, rfl⟩⟩
  · simp [Value.cells] at hcs
    obtain ⟨rfl, rfl, rfl⟩ := hcs
    simp only [if_true] at hz
    simp only [Prod.mk.injEq] at hx
    have hlen : ((ss.take len).map (·.data.toList)).length = len := by simp; omega
    refine ⟨some x, (ss.take len).map (·.data.toList), cap, by rw [hlen], ?_, by omega, hm, ?_, ?_, .inr ⟨_, by rw [hx.1, List.map_map]; rfl⟩⟩
    · intro h0
      obtain ⟨b, o, s⟩ := x
      rw [tx_length, hlen] at h0
      have hs : s = none := by simpa [Addr.add] using World.cell?_spot (hcell 0 (by omega))
      subst hs
      refine ⟨b, o, rfl, fun i hi => ?_⟩
      rw [tx_length, hlen] at hi
      have := hcell i (by omega)
      rw [add_plain] at this
      rw [this]
      have hi2 : i < ss.length := by omega
      simp [tx, List.getD_eq_getElem?_getD, hi2]
    · rw [hx.1]
      simp only [Rows.uptoBulk, bulk_strs]
      omega
    · intro l hl2
      obtain ⟨s, hs, rfl⟩ := List.mem_map.1 hl2
      rw [size_list]
      exact hsm s (List.mem_of_mem_take hs)

/-- what the row says of the sizes of texts -/
theorem sized_texts {H : Type} {ts : List TypeId} {ds : List (DataW H)} (h : (DataW.weightsEach Tryd.prog ts ds).all (· ≤ reachBytes) = true) {j : Nat} {d : DataW H} (ht : ts[j]? = some 25) (hd : ds[j]? = some d)
    {L : List (List UInt8)} (hL : d = .nil ∧ L = [] ∨ ∃ sp, d = .slice (L.map fun l => (.lit (.string l) : DataW H)) sp) : L.length * 16 ≤ 140737488351232 ∧ ∀ l ∈ L, l.length ≤ 140737488351232 := by
  rcases hL with ⟨_, rfl⟩ | ⟨sp, rfl⟩
  · simp
  · have hw := fun n hn => List.all_eq_true.1 h n (DataW.weights_mem_each ht hd n hn)
    have h1 := hw (((L.map fun l => (.lit (.string l) : DataW H)).length + sp.length) * Tryd.prog.bytesOf 9) (by simp [DataW.weights, Tryd.underlying25])
    have h2 : ∀ l ∈ L, l.length ≤ reachBytes := by
      intro l hl
      have := hw l.length (by
        simp only [DataW.weights, Tryd.underlying25, List.mem_cons, List.mem_append]
        exact .inr (.inl (weightsAll_mem _ _ (List.mem_map.2 ⟨l, hl, rfl⟩) _ (by simp [DataW.weights]))))
      simpa using this
    rw [bytesS, List.length_map] at h1
    have h1 := of_decide_eq_true h1
    have e : reachBytes = 140737488351232 := by decide
    rw [e] at h1 h2
    exact ⟨by omega, h2⟩
end Go.Proofs.YtnibecboimgljaaDoor
