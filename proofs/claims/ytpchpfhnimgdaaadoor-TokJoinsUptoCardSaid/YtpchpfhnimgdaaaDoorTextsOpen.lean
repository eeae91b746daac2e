/-
  An argument that is a slice of texts, in the words of the walks.
-/
import Derived.Test.YtpchpfhnimgdaaaDoorOpenS
import Derived.Test.YtpchpfhnimgdaaaDoorTexts
import Derived.SliceStrings
namespace Go.Proofs.YtpchpfhnimgdaaaDoor
open Go.ChangeShapes Go.WideShapes Go.ChangeAt Go.RowKit

theorem cellsS : Tryd.prog.cellsOf 9 = 1 := by kernel_rfl
theorem bytesS : Tryd.prog.bytesOf 9 = 16 := by kernel_rfl

/-- what texts weigh -/
def bulkT (L : List (List UInt8)) : Nat := (L.map fun l => l.length + 1).sum
theorem bulkT_cons (l : List UInt8) (L : List (List UInt8)) : bulkT (l :: L) = l.length + 1 + bulkT L := by simp [bulkT]
theorem bulkT_length (L : List (List UInt8)) : L.length ≤ bulkT L := by
  induction L with
  | nil => simp [bulkT]
  | cons l L ih => rw [bulkT_cons, List.length_cons]; omega
theorem bulkT_mem (L : List (List UInt8)) : ∀ l ∈ L, l.length + 1 ≤ bulkT L := by
  induction L with
  | nil => simp
  | cons x L ih =>
    intro l hl
    rw [bulkT_cons]
    rcases List.mem_cons.1 hl with rfl | hl
    · omega
    · have := ih l hl; omega

theorem bulk_strs {H : Type} (ss : List ByteArray) : Rows.uptoBulkAll (strs (H := H) ss) = bulkT (ss.map (·.data.toList)) := by
  induction ss with
  | nil => simp [strs, Rows.uptoBulkAll, bulkT]
  | cons s ss ih =>
    have e : strs (H := H) (s :: ss) = .lit (.string s.data.toList) :: strs ss := rfl
    rw [e, List.map_cons, bulkT_cons, ← ih]
    simp [Rows.uptoBulkAll, Rows.uptoBulk]

theorem open_texts {H : Type} {enc : TypeId × Value → H} {W : World} {r : Reach} {b0 : Nat} {v : Value} {d : DataW H} {ps : List MemPlace}
    (hv : Value.okWide Tryd.prog W r b0 26 v) (h : DataW.Trod enc Tryd.prog W 0 (fun _ => true) true 26 v d ps) :
    ∃ p L c, v = .slice p (List.length L) c ∧ InS W p L ∧ L.length ≤ c ∧ c ≤ maxLen ∧ bulkT L + 1 ≤ Rows.uptoBulk d + 0 ∧ ∀ l ∈ L, l.length ≤ maxLen := by
  obtain ⟨a0, len, cap, rfl⟩ := okWide_slice Tryd.underlying26 hv
  obtain ⟨fuel, hf⟩ := h
  rcases open_strings Tryd.underlying26 Tryd.underlying9 cellsS hf with ⟨hcs, hx⟩ | ⟨x, l, c, ss, hcs, _, hl, hm, hz, hx, hcell, hsm⟩
  · simp [Value.cells] at hcs
    obtain ⟨rfl, rfl, rfl⟩ := hcs
    simp only [Prod.mk.injEq] at hx
    rw [hx.1]
    exact ⟨none, [], 0, rfl, fun h => absurd h (by simp [tx]), by simp, by unfold maxLen; omega, by simp [bulkT, Rows.uptoBulk], by simp⟩
  · simp [Value.cells] at hcs
    obtain ⟨rfl, rfl, rfl⟩ := hcs
    simp only [if_true] at hz
    simp only [Prod.mk.injEq] at hx
    have hlen : ((ss.take len).map (·.data.toList)).length = len := by simp; omega
    refine ⟨some x, (ss.take len).map (·.data.toList), cap, by rw [hlen], ?_, by omega, hm, ?_, ?_⟩
    · intro h0
      obtain ⟨b, o, s⟩ := x
      rw [tx_length, hlen] at h0
      have hs : s = none := by simpa [Addr.add] using World.cell?_spot (hcell 0 (by omega))
      subst hs
      refine ⟨b, o, rfl, fun i hi => ?_⟩
      rw [tx_length, hlen] at hi
      have := hcell i (by omega)
      rw [add_plain] at this
      rw [this]
      have hi2 : i < ss.length := by omega
      simp [tx, List.getD_eq_getElem?_getD, hi2]
    · rw [hx.1]
      simp only [Rows.uptoBulk, bulk_strs]
      omega
    · intro l hl2
      obtain ⟨s, hs, rfl⟩ := List.mem_map.1 hl2
      rw [size_list]
      exact hsm s (List.mem_of_mem_take hs)
end Go.Proofs.YtpchpfhnimgdaaaDoor
