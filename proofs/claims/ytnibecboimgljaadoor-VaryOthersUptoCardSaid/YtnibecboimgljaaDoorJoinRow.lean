/-
  strings.Join of a row of texts.
-/
import Derived.Test.YtnibecboimgljaaDoorTexts
import Derived.Test.YtnibecboimgljaaDoorShelf
namespace Go.Proofs.YtnibecboimgljaaDoor
open Go.RowKit

/-- Join of a row of texts -/
theorem join_any (V : List (List UInt8)) (p : Option Addr) (n c : Nat) (hn : V.length = n) (hc : n ≤ c) (hm : n ≤ 140737488355328) (sep : ByteArray) (hl : (Lib.join V sep.data.toList).length ≤ 140737488355328) (w : World) (h : InS w p V) :
    Calls Tryd.prog 33 #[.slice p n c, .string sep] w fun e w' => e = .returned (.string ⟨(Lib.join V sep.data.toList).toArray⟩) ∧ Below w.heap.size w w' := by
  subst hn
  cases V with
  | nil =>
    refine (Tryd.strings_Join_none p c sep w).mono ?_
    rintro e w' ⟨rfl, rfl⟩
    exact ⟨rfl, Below.refl _ _⟩
  | cons x r =>
    obtain ⟨b, o, rfl, a, hca, _⟩ := h.at (k := 0) (by simp)
    have hb := World.block_lt_of_cell? w _ hca
    obtain ⟨b', o', e, hall⟩ := InV.at h (k := 0) (by rw [tx_length]; simp)
    injection e with e
    injection e with e1 e2 _
    subst e1 e2
    have e : (((x :: r).map fun l => (⟨l.toArray⟩ : ByteArray)).map (·.data.toList)) = x :: r := by
      rw [List.map_map]; exact List.map_id' _
    have := Tryd.strings_Join b o c ((x :: r).map fun l => (⟨l.toArray⟩ : ByteArray)) sep w (fun j y hy => by
      rw [List.getElem?_map] at hy
      obtain ⟨l, hl, rfl⟩ := Option.map_eq_some_iff.1 hy
      obtain ⟨hj, e⟩ := List.getElem?_eq_some_iff.1 hl
      have := hall j (by rw [tx_length]; exact hj)
      rw [this]
      simp only [tx, List.getElem_map, e]) hb (by simpa using (by omega : (x :: r).length ≤ 140737488355328)) (by simpa using hc) (by rw [e]; exact hl)
    rw [e, List.length_map] at this
    exact this
end Go.Proofs.YtnibecboimgljaaDoor
