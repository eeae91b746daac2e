/-
  An argument that is an entry, by value, in the words of the walks.
-/
import Derived.Test.YtnibecboimgljaaDoorFieldsOpen
import Derived.Test.YtnibecboimgljaaDoorBytesOpen
import Derived.Lib.SmallJoins
namespace Go.Proofs.YtnibecboimgljaaDoor
open Go.ChangeShapes Go.WideShapes Go.ChangeAt Go.RowKit

set_option maxRecDepth 100000 in
theorem open_fieldsC {H : Type} {enc : TypeId × Value → H} {W : World} {fuel : Nat} {cs : List Value} {d : DataW H} {ps : List MemPlace}
    (hf : DataW.trod enc Tryd.prog W 0 (fun _ => true) true fuel 22 cs = some (d, ps)) :
    ∃ p L c, cs = [.slice p (List.length L) c] ∧ In2 W p L ∧ L.length ≤ c ∧ c ≤ maxLen ∧ bulkF L + 1 ≤ Rows.uptoBulk d + 0 ∧ (∀ x ∈ L, x.1.length ≤ maxLen ∧ x.2.length ≤ maxLen) ∧ (d = .nil ∧ L = [] ∨ ∃ sp, d = .slice (L.map fun x => (.agg [.lit (.string x.1), .lit (.string x.2)] : DataW H)) sp) := by
  rcases Go.Deep.open_slice_pairs Tryd.underlying22 Tryd.underlying35 cellsF rfl rfl cellsS1 cellsS1 hf with ⟨hcs, hx⟩ | ⟨x, l, c, m, n, V0, V1, D0, D1, P0, P1, hcs, _, hl, hm, hmm, hx, hat⟩
  · subst hcs
    simp only [Prod.mk.injEq] at hx
    rw [hx.1]
    exact ⟨none, [], 0, rfl, fun h => absurd h (by simp), by simp, by unfold maxLen; omega, by simp [bulkF, Rows.uptoBulk], by simp, .inl ⟨rfl, rfl⟩⟩
  · subst hcs
    simp only [if_true] at hmm
    subst hmm
    simp only [Prod.mk.injEq] at hx
    have each : ∀ i, i < m → ∃ q : ByteArray × ByteArray, V0 i = .string q.1 ∧ V1 i = .string q.2 ∧ D0 i = .lit (.string q.1.data.toList) ∧ D1 i = .lit (.string q.2.data.toList) ∧ q.1.size ≤ maxLen ∧ q.2.size ≤ maxLen := by
      intro i hi
      obtain ⟨_, _, h0, h1⟩ := hat i hi
      obtain ⟨s, e1, e2, z⟩ := DataW.trod_string Tryd.underlying9 h0
      obtain ⟨s', e1', e2', z'⟩ := DataW.trod_string Tryd.underlying9 h1
      simp only [Prod.mk.injEq] at e2 e2'
      simp only [List.cons.injEq, and_true] at e1 e1'
      exact ⟨(s, s'), e1, e1', e2.1, e2'.1, z, z'⟩
    obtain ⟨q, hq⟩ := Go.Deep.choose_lt each
    have hlen : ((List.range l).map fun i => (((q i).1.data.toList, (q i).2.data.toList) : Pair)).length = l := by simp
    have e : ((List.range l).map fun i => (.agg [D0 i, D1 i] : DataW H)) = (((List.range l).map fun i => (((q i).1.data.toList, (q i).2.data.toList) : Pair))).map fun x => .agg [.lit (.string x.1), .lit (.string x.2)] := by
      rw [List.map_map]
      refine List.map_congr_left fun i hi => ?_
      have := List.mem_range.1 hi
      obtain ⟨_, _, e2, e3, _⟩ := hq i (by omega)
      simp [e2, e3]
    refine ⟨some x, (List.range l).map fun i => ((q i).1.data.toList, (q i).2.data.toList), m, by rw [hlen], ?_, by omega, hm, ?_, ?_, .inr ⟨_, by rw [hx.1, e]⟩⟩
    · intro h0
      rw [hlen] at h0
      obtain ⟨b, o, s⟩ := x
      have hs : s = none := by simpa [Addr.add] using World.cell?_spot (hat 0 (by omega)).1
      subst hs
      refine ⟨b, o, rfl, fun j v hv => ?_⟩
      obtain ⟨i, hi, h2⟩ := pr_at _ j v hv
      rw [hlen] at hi
      obtain ⟨c0, c1, _, _⟩ := hat i (by omega)
      obtain ⟨e0, e1, _⟩ := hq i (by omega)
      rw [add_plain] at c0 c1
      rw [getElem!_pos _ _ (by rw [hlen]; exact hi)] at h2
      simp only [List.getElem_map, List.getElem_range] at h2
      rcases h2 with ⟨rfl, rfl⟩ | ⟨rfl, rfl⟩
      · rw [c0, e0]
      · rw [← Nat.add_assoc] at c1 ⊢
        rw [c1, e1]
    · rw [hx.1]
      rw [e]
      simp only [Rows.uptoBulk, bulk_all]
      omega
    · intro y hy
      obtain ⟨i, hi, rfl⟩ := List.mem_map.1 hy
      have := List.mem_range.1 hi
      obtain ⟨_, _, _, _, z1, z2⟩ := hq i (by omega)
      rw [size_list, size_list]
      exact ⟨z1, z2⟩

set_option maxRecDepth 100000 in
theorem open_bytesC {H : Type} {enc : TypeId × Value → H} {W : World} {fuel : Nat} {cs : List Value} {d : DataW H} {ps : List MemPlace}
    (hf : DataW.trod enc Tryd.prog W 0 (fun _ => true) true fuel 39 cs = some (d, ps)) :
    ∃ p l c, cs = [.slice p (List.length l) c] ∧ In8 W p l ∧ l.length ≤ c ∧ c ≤ maxLen ∧ l.length ≤ Rows.uptoBulk d := by
  rcases open_ints Tryd.underlying39 Tryd.underlying5 cells8 hf with ⟨hcs, _⟩ | ⟨x, l, c, zs, hcs, _, hl, hm, hz, hx, hcell, hwz⟩
  · subst hcs
    exact ⟨none, [], 0, rfl, fun h => absurd h (by simp), by simp, by unfold maxLen; omega, by simp⟩
  · subst hcs
    simp only [if_true] at hz
    simp only [Prod.mk.injEq] at hx
    have hlen : ((zs.take l).map ubyte).length = l := by simp; omega
    refine ⟨some x, (zs.take l).map ubyte, c, by rw [hlen], ?_, by omega, hm, ?_⟩
    · intro h0
      obtain ⟨b, o, s⟩ := x
      have hs : s = none := by simpa [Addr.add] using World.cell?_spot (hcell 0 (by omega))
      subst hs
      refine ⟨b, o, rfl, fun i hi => ?_⟩
      have hi2 : i < (zs.take l).length := by simpa using hi
      have := hcell i (by omega)
      rw [add_plain] at this
      rw [this, bt_of_ints _ (fun n hn => hwz n (List.mem_of_mem_take hn)) i hi2]
      simp only [List.getD_eq_getElem?_getD]
      rw [List.getElem?_take_of_lt (by omega)]
    · rw [hlen, hx.1]
      simp only [Rows.uptoBulk, bulk_lits, List.length_take, List.length_drop]
      omega

theorem array9 {α : Type} {cs : Array α} (h : cs.size = 9) : ∃ c0 c1 c2 c3 c4 c5 c6 c7 c8, cs = #[c0, c1, c2, c3, c4, c5, c6, c7, c8] := by
  obtain ⟨l⟩ := cs
  match l, h with
  | [c0, c1, c2, c3, c4, c5, c6, c7, c8], _ => exact ⟨c0, c1, c2, c3, c4, c5, c6, c7, c8, rfl⟩
theorem cellsR : Tryd.prog.cellsOf 38 = 4 := by kernel_rfl
theorem cellsE : Tryd.prog.cellsOf 41 = 9 := by kernel_rfl
theorem cellsI : Tryd.prog.cellsOf 3 = 1 := by kernel_rfl
theorem cellsSF : Tryd.prog.cellsOf 22 = 1 := by kernel_rfl
theorem cellsB : Tryd.prog.cellsOf 39 = 1 := by kernel_rfl

set_option maxRecDepth 100000 in
theorem open_entry {H : Type} {enc : TypeId × Value → H} {W : World} {r : Reach} {b0 : Nat} {v : Value} {d : DataW H} {ps : List MemPlace}
    (hv : Value.okWide Tryd.prog W r b0 41 v) (h : DataW.Trod enc Tryd.prog W 0 (fun _ => true) true 41 v d ps) :
    ∃ (k va : ByteArray) (st : Int) (rs : ByteArray) (mi : Int) (p : Option Addr) (L : List Pair) (c : Nat) (x : Option Addr) (l : List UInt8) (y : Nat) (a g : Int),
      v = .agg #[.string k, .string va, .int .i64 st, .string rs, .int .i64 mi, .slice p L.length c, .slice x l.length y, .int .i64 a, .int .i64 g] ∧ In2 W p L ∧ In8 W x l ∧ k.size + va.size + rs.size + bulkF L + l.length ≤ Rows.uptoBulk d := by
  obtain ⟨cs, rfl, hsz⟩ := okWide_struct Tryd.underlying41 hv
  obtain ⟨c0, c1, c2, c3, c4, c5, c6, c7, c8, rfl⟩ := array9 (hsz.trans cellsE)
  obtain ⟨fuel, hf⟩ := h
  obtain ⟨xs, n, _, hx, _, hlen, hat⟩ := DataW.trod_struct Tryd.underlying41 hf
  match xs, hlen with
  | [y0, y1, y2, y3, y4, y5], _ =>
    have h0 := hat 0 _ rfl
    have h1 := hat 1 _ rfl
    have h2 := hat 2 _ rfl
    have h3 := hat 3 _ rfl
    have h4 := hat 4 _ rfl
    have h5 := hat 5 _ rfl
    simp [Value.cells, cellsS1, cellsR, cellsB, cellsI] at h0 h1 h2 h3 h4 h5
    obtain ⟨k, e0, rfl, _⟩ := DataW.trod_string Tryd.underlying9 h0
    obtain ⟨va, e1, rfl, _⟩ := DataW.trod_string Tryd.underlying9 h1
    obtain ⟨y30, y31⟩ := y3
    obtain ⟨x, l, y, e3, i8, _, _, bb⟩ := open_bytesC h3
    obtain ⟨a, e4, rfl, _⟩ := DataW.trod_int Tryd.underlying3 h4
    obtain ⟨g, e5, rfl, _⟩ := DataW.trod_int Tryd.underlying3 h5
    obtain ⟨zs, n2, _, hx2, _, hlen2, hat2⟩ := DataW.trod_struct Tryd.underlying38 h2
    match zs, hlen2 with
    | [z0, z1, z2, z3], _ =>
      have g0 := hat2 0 _ rfl
      have g1 := hat2 1 _ rfl
      have g2 := hat2 2 _ rfl
      have g3 := hat2 3 _ rfl
      simp [cellsS1, cellsI, cellsSF] at g0 g1 g2 g3
      obtain ⟨st, f0, rfl, _⟩ := DataW.trod_int Tryd.underlying3 g0
      obtain ⟨rs, f1, rfl, _⟩ := DataW.trod_string Tryd.underlying9 g1
      obtain ⟨mi, f2, rfl, _⟩ := DataW.trod_int Tryd.underlying3 g2
      obtain ⟨z30, z31⟩ := z3
      obtain ⟨p, L, c, f3, i2, _, _, bL, _, _⟩ := open_fieldsC g3
      simp at e0 e1 e3 e4 e5 f0 f1 f2 f3
      subst e0 e1 e3 e4 e5 f0 f1 f2 f3
      refine ⟨k, va, st, rs, mi, p, L, c, x, l, y, a, g, rfl, i2, i8, ?_⟩
      simp only [Prod.mk.injEq] at hx
      rw [hx.1, hx2]
      simp only [List.map_cons, List.map_nil, Rows.uptoBulk, Rows.uptoBulkAll, size_list]
      omega
end Go.Proofs.YtnibecboimgljaaDoor
