/-
  An argument that is one field, by value.
-/
import Derived.Test.YtnibecboimgljaaDoorEntryOpen
namespace Go.Proofs.YtnibecboimgljaaDoor
open Go.ChangeShapes Go.WideShapes Go.ChangeAt Go.RowKit

set_option maxRecDepth 100000 in
theorem open_field {H : Type} {enc : TypeId × Value → H} {W : World} {r : Reach} {b0 : Nat} {v : Value} {d : DataW H} {ps : List MemPlace}
    (hv : Value.okWide Tryd.prog W r b0 35 v) (h : DataW.Trod enc Tryd.prog W 0 (fun _ => true) true 35 v d ps) :
    ∃ (k va : ByteArray), v = .agg #[.string k, .string va] ∧ k.size + va.size ≤ Rows.uptoBulk d := by
  obtain ⟨cs, rfl, hsz⟩ := okWide_struct Tryd.underlying35 hv
  obtain ⟨c0, c1, rfl⟩ := Joins.array2 (hsz.trans cellsF)
  obtain ⟨fuel, hf⟩ := h
  obtain ⟨xs, n, _, hx, _, hlen, hat⟩ := DataW.trod_struct Tryd.underlying35 hf
  match xs, hlen with
  | [y0, y1], _ =>
    have h0 := hat 0 _ rfl
    have h1 := hat 1 _ rfl
    simp [Value.cells, cellsS1] at h0 h1
    obtain ⟨k, e0, rfl, _⟩ := DataW.trod_string Tryd.underlying9 h0
    obtain ⟨va, e1, rfl, _⟩ := DataW.trod_string Tryd.underlying9 h1
    simp at e0 e1
    subst e0 e1
    refine ⟨k, va, rfl, ?_⟩
    simp only [Prod.mk.injEq] at hx
    rw [hx.1]
    simp only [List.map_cons, List.map_nil, Rows.uptoBulk, Rows.uptoBulkAll, size_list]
    omega
end Go.Proofs.YtnibecboimgljaaDoor
