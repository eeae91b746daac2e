/-
  What is read of bytes: the plain words.
-/
import Derived.Test.YtfcdnjbahghllaaGet
import Derived.Test.YtfcdnjbahghllaaCrc
import Derived.Laws.BytesArg
namespace Go.Proofs.Ytfcdnjbahghllaa
open Go.RowKit

/-- the bytes from lo to hi -/
def sl (l : List UInt8) (lo hi : Nat) : List UInt8 := (l.take hi).drop lo
theorem sl_length (l : List UInt8) (lo hi : Nat) (h : hi ≤ l.length) : (sl l lo hi).length = hi - lo := by
  unfold sl; rw [List.length_drop, List.length_take]; omega
theorem bt_sl (l : List UInt8) (lo hi i : Nat) (hi' : lo + i < hi) : bt (sl l lo hi) i = bt l (lo + i) := by
  unfold bt sl
  simp only [List.getD_eq_getElem?_getD]
  rw [List.getElem?_drop, List.getElem?_take_of_lt hi']

/-- the cells of bytes at a known place -/
theorem In8.sl {w : World} {b o : Nat} {l : List UInt8} (hc : ∀ i, i < l.length → w.cell? ⟨b, o + i, none⟩ = some (.int .u8 (bt l i))) (lo hi : Nat) (h : hi ≤ l.length) :
    In8 w (some ⟨b, o + lo, none⟩) (sl l lo hi) := by
  intro h0
  refine ⟨b, o + lo, rfl, fun i hi' => ?_⟩
  rw [sl_length l lo hi h] at hi'
  rw [Nat.add_assoc, hc (lo + i) (by omega), bt_sl l lo hi i (by omega)]

theorem In8.take {w : World} {b o : Nat} {l : List UInt8} (hc : ∀ i, i < l.length → w.cell? ⟨b, o + i, none⟩ = some (.int .u8 (bt l i))) (hi : Nat) (h : hi ≤ l.length) :
    In8 w (some ⟨b, o, none⟩) (l.take hi) := by
  intro _
  refine ⟨b, o, rfl, fun i hi' => ?_⟩
  rw [List.length_take] at hi'
  rw [hc i (by omega)]
  unfold bt
  simp only [List.getD_eq_getElem?_getD]
  rw [List.getElem?_take_of_lt (by omega)]

/-- what is read: a record, its length, an error -/
structure Dec where
  seq : Int
  op : Int
  no : Int
  ident : List UInt8
  n : Int
  err : Int
def Dec.none (e : Int) : Dec := ⟨0, 0, 0, [], 0, e⟩
def Dec.val (d : Dec) : Value := .tuple #[.agg #[.int .i64 d.seq, .int .i64 d.op, .int .i64 d.no, .string ⟨d.ident.toArray⟩], .int .i64 d.n, .int .i64 d.err]
/-- the length of the id -/
def decK (l : List UInt8) : Nat := valB (Go.Proofs.Ytfcdnjbahghllaa.sl l 1 3)
def decGood (l : List UInt8) : Dec :=
  ⟨valB (Go.Proofs.Ytfcdnjbahghllaa.sl l 3 7), bt l 0 - 192, valB (Go.Proofs.Ytfcdnjbahghllaa.sl l 7 11), Go.Proofs.Ytfcdnjbahghllaa.sl l 11 (decK l + 11), decK l + 15, 0⟩
def dec (l : List UInt8) : Dec :=
  if l.length = 0 then .none 0 else if bt l 0 ≠ 193 ∧ bt l 0 ≠ 194 then .none 100 else if l.length < 3 then .none 0
  else if 4096 < decK l then .none 100 else if l.length < decK l + 15 then .none 0
  else if valB (Go.Proofs.Ytfcdnjbahghllaa.sl l (decK l + 11) (decK l + 15)) ≠ crc (l.take (decK l + 11)) then .none 100 else decGood l

theorem decK_lt (l : List UInt8) (h : 3 ≤ l.length) : decK l < 65536 := by
  have := valB_lt (Go.Proofs.Ytfcdnjbahghllaa.sl l 1 3)
  rw [sl_length l 1 3 h] at this
  exact this

theorem strOf_bytes (l : List UInt8) : strOfNums (l.map fun b => (b.toNat : Int)) = ⟨l.toArray⟩ := by
  unfold strOfNums
  congr 2
  rw [List.map_map]
  conv => rhs; rw [← List.map_id l]
  apply List.map_congr_left
  intro b _
  simp

/-- bytes made a text -/
theorem run_toStr {w : World} {p : Option Addr} {l : List UInt8} (h : In8 w p l) (c : Nat) :
    (convert 22 9 (.slice p l.length c)).run Try.prog w = .ok (.string ⟨l.toArray⟩) w := by
  by_cases h0 : 0 < l.length
  · obtain ⟨b, o, rfl, hc⟩ := h h0
    rw [run_convert_bytes_arg (P := Try.prog) w 22 5 Try.underlying22 Try.underlying5 b o l.length c (l.map fun b => (b.toNat : Int)) (by simp) (fun i hi => ?_) 9 Try.underlying9, strOf_bytes]
    rw [hc i hi, bt_get l i hi]
    simp [List.getD_eq_getElem?_getD, hi]
  · obtain rfl : l = [] := List.eq_nil_of_length_eq_zero (by omega)
    show (convert 22 9 (.slice p 0 c)).run Try.prog w = .ok (.string ⟨#[]⟩) w
    rw [run_convert_bytes_string w 22 9 5 p 0 c Try.underlying22 Try.underlying5 Try.underlying9]
    cases p with
    | none => simp [Conv.bytesToString]; rfl
    | some a => exact run_bytesToString w a 0 c [] (by simp [loadCells, loadCellsFrom])

end Go.Proofs.Ytfcdnjbahghllaa
