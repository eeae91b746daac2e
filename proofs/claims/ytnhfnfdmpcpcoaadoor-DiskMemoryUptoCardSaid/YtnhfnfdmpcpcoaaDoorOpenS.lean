/-
  What the arguments of a statement are, in the words of the walks: bytes, numbers, texts (for seats that have no record).
-/
import Derived.Test.YtnhfnfdmpcpcoaaDoorOwn
import Derived.Test.YtnhfnfdmpcpcoaaDoorRows
import Derived.ChangeOld
import Derived.ShutString
import Derived.Carry
import Derived.SizedLaws
import Derived.Lib.SmallJoins
namespace Go.Proofs.YtnhfnfdmpcpcoaaDoor
open Go.ChangeShapes Go.WideShapes Go.ChangeAt Go.RowKit
open Go.ChangeMaps (open_string shut_string)

theorem own : ownKnob Tryd.prog.godebug = none := by kernel_rfl
theorem laidOut : laidOutB Tryd.prog = true := by kernel_rfl
theorem cells8 : Tryd.prog.cellsOf 5 = 1 := by kernel_rfl
theorem bytes8 : Tryd.prog.bytesOf 5 = 1 := by kernel_rfl

theorem u8_bounds {n : Int} (h : (Lit.int .u8 n).wf = true) : 0 ≤ n ∧ n ≤ 255 := by
  simpa [Lit.wf, IntKind.min, IntKind.max, IntKind.signed, IntKind.bits] using h
theorem i64_bounds {n : Int} (h : (Lit.int .i64 n).wf = true) : -9223372036854775808 ≤ n ∧ n ≤ 9223372036854775807 := by
  simpa [Lit.wf, IntKind.min, IntKind.max, IntKind.signed, IntKind.bits] using h

theorem bt_of_ints (zs : List Int) (h : ∀ n ∈ zs, (Lit.int .u8 n).wf = true) (i : Nat) (hi : i < zs.length) : bt (zs.map ubyte) i = zs.getD i 0 := by
  have hb := u8_bounds (h zs[i] (List.getElem_mem hi))
  rw [bt_get _ i (by simpa using hi), List.getElem_map, ubyte_toNat hb.1 hb.2, List.getD_eq_getElem?_getD, List.getElem?_eq_getElem hi]; rfl

set_option maxRecDepth 100000 in
theorem open_bytes8 {H : Type} {enc : TypeId × Value → H} {W : World} {r : Reach} {b0 : Nat} {v : Value} {d : DataW H} {ps : List MemPlace}
    (hv : Value.okWide Tryd.prog W r b0 26 v) (h : DataW.Trod enc Tryd.prog W 0 (fun _ => true) true 26 v d ps)
    (hw : ∀ el sp, d = .slice el sp → (el.length + sp.length) * Tryd.prog.bytesOf 5 ≤ reachBytes) :
    ∃ p l c, v = .slice p (List.length l) c ∧ In8 W p l ∧ l.length ≤ c ∧ c ≤ 140737488351232 := by
  obtain ⟨a0, len, cap, rfl⟩ := okWide_slice Tryd.underlying26 hv
  obtain ⟨fuel, hf⟩ := h
  rcases open_ints Tryd.underlying26 Tryd.underlying5 cells8 hf with ⟨hcs, _⟩ | ⟨x, l, c, zs, hcs, _, hl, hm, hz, hx, hcell, hwz⟩
  · simp [Value.cells] at hcs
    obtain ⟨rfl, rfl, rfl⟩ := hcs
    exact ⟨none, [], 0, rfl, fun h => absurd h (by simp), by simp, by omega⟩
  · simp [Value.cells] at hcs
    obtain ⟨rfl, rfl, rfl⟩ := hcs
    simp only [if_true] at hz
    simp only [Prod.mk.injEq] at hx
    have hcap : cap ≤ 140737488351232 := by
      have := hw _ _ hx.1
      rw [bytes8] at this
      simp only [lits, List.length_map, List.length_take, List.length_drop, reachBytes] at this
      omega
    have hlen : ((zs.take len).map ubyte).length = len := by simp; omega
    refine ⟨some x, (zs.take len).map ubyte, cap, by rw [hlen], ?_, by omega, hcap⟩
    intro h0
    obtain ⟨b, o, s⟩ := x
    have hs : s = none := by simpa [Addr.add] using World.cell?_spot (hcell 0 (by omega))
    subst hs
    refine ⟨b, o, rfl, fun i hi => ?_⟩
    have hi2 : i < (zs.take len).length := by simpa using hi
    have := hcell i (by omega)
    rw [add_plain] at this
    rw [this, bt_of_ints _ (fun n hn => hwz n (List.mem_of_mem_take hn)) i hi2]
    simp only [List.getD_eq_getElem?_getD]
    rw [List.getElem?_take_of_lt (by omega)]

end Go.Proofs.YtnhfnfdmpcpcoaaDoor
