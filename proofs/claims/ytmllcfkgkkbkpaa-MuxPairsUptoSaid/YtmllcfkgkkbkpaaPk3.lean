/-
  Bytes made a text.
-/
import Derived.Test.YtmllcfkgkkbkpaaPk2
import Derived.Laws.BytesArg
namespace Go.Proofs.Ytmllcfkgkkbkpaa
open Go.RowKit

theorem strOf_bytes (l : List UInt8) : strOfNums (l.map fun b => (b.toNat : Int)) = ⟨l.toArray⟩ := by
  unfold strOfNums
  congr 2
  rw [List.map_map]
  conv => rhs; rw [← List.map_id l]
  apply List.map_congr_left
  intro b _
  simp

/-- bytes made a text -/
theorem run_toStr {w : World} {p : Option Addr} {l : List UInt8} (h : In8 w p l) (c : Nat) :
    (convert 43 9 (.slice p l.length c)).run Try.prog w = .ok (.string ⟨l.toArray⟩) w := by
  by_cases h0 : 0 < l.length
  · obtain ⟨b, o, rfl, hc⟩ := h h0
    rw [run_convert_bytes_arg (P := Try.prog) w 43 5 Try.underlying43 Try.underlying5 b o l.length c (l.map fun b => (b.toNat : Int)) (by simp) (fun i hi => ?_) 9 Try.underlying9, strOf_bytes]
    rw [hc i hi, bt_get l i hi]
    simp [List.getD_eq_getElem?_getD, hi]
  · obtain rfl : l = [] := List.eq_nil_of_length_eq_zero (by omega)
    show (convert 43 9 (.slice p 0 c)).run Try.prog w = .ok (.string ⟨#[]⟩) w
    rw [run_convert_bytes_string w 43 9 5 p 0 c Try.underlying43 Try.underlying5 Try.underlying9]
    cases p with
    | none => simp [Conv.bytesToString]; rfl
    | some a => exact run_bytesToString w a 0 c [] (by simp [loadCells, loadCellsFrom])
theorem toStr_at {w : World} {p : Option Addr} {l : List UInt8} {k : Nat} (h : In8 w p l) (hk : l.length = k) (c : Nat) :
    Sem.run Try.prog (convert 43 9 (.slice p k c)) w = .ok (.string ⟨l.toArray⟩) w := by
  subst hk; exact run_toStr h c

theorem ubyte_self (b : UInt8) : ubyte (b.toNat : Int) = b := by unfold ubyte; simp

/-- a byte stored into bytes at a known place -/
theorem In8.set {w : World} {b o : Nat} {l : List UInt8} (h : In8 w (some ⟨b, o, none⟩) l) (k : Nat) (z : Int) (h0 : 0 ≤ z) (h1 : z ≤ 255) :
    In8 (w.setCell ⟨b, o + k, none⟩ (.int .u8 z)) (some ⟨b, o, none⟩) (l.set k (ubyte z)) := by
  intro hl
  rw [List.length_set] at hl
  obtain ⟨b', o', e, hc⟩ := h hl
  simp only [Option.some.injEq, Addr.mk.injEq, and_true] at e
  obtain ⟨rfl, rfl⟩ := e
  refine ⟨b, o, rfl, fun i hi => ?_⟩
  rw [List.length_set] at hi
  by_cases hik : i = k
  · subst hik
    rw [World.cell?_setCell_same _ _ _ (hc i hi)]
    rw [bt_get (l.set i (ubyte z)) i (by simpa using hi), List.getElem_set_self, ubyte_toNat h0 h1]
  · rw [World.cell?_setCell_other _ _ _ _ (by simp <;> omega), hc i hi]
    rw [bt_get l i hi, bt_get (l.set k (ubyte z)) i (by simpa using hi), List.getElem_set_ne (by omega)]
end Go.Proofs.Ytmllcfkgkkbkpaa
