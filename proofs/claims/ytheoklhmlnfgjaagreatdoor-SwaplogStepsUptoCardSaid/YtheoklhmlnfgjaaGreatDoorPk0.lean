/-
  Bytes as numbers and as cells; what it means that a slice of bytes reads as a list. No program is in sight here.
-/
import Derived.Test.YtheoklhmlnfgjaaGreatDoorProg
import Derived.Test.YtheoklhmlnfgjaaGreatDoorRows
import Derived.WalkKit
import Derived.ProofKit
import Derived.OpenShut
import Derived.Handy
import Derived.Lib.Hide
import Derived.Deep.AppendSrc
import Derived.Deep.QuietTactic
import Derived.BigQuiet
import Derived.ChangeOld
import Derived.ShutString
import Derived.Carry
import Derived.SizedLaws
import Derived.Lib.SmallJoins
import Derived.Lib.SlicesCompact
import Derived.Maps.Views
import Derived.Maps.Ext
import Derived.Lib.Strings
import Derived.Maps.OwnSet
import Derived.StringKeys
import Derived.Sort.KeysCollected
import Derived.Shelf.SlIter.Nil
import Derived.Shelf.SortM.Plain
import Derived.Shelf.SortM.SortNone
import Derived.Shelf.SlMaps.Clone
import Derived.Ground.GgzProg
import Derived.Ground.SlgmProg
import Derived.Ground.SlmcProg
import Derived.Laws.BytesArg
import Derived.Shelf.Strings.Trim
import Derived.Shelf.Small.Utf8
import Derived.Shelf.Small.Bits
import Derived.Shelf.Small.Strs
import Derived.Shelf.Strconv.Itoa0
import Derived.Shelf.Strings.Search1
import Derived.Shelf.Strings.Runes
import Derived.Shelf.Strings.AsciiSet
import Derived.Shelf.Unicode.DecodeSlow
import Derived.Shelf.Slices.Turned
import Derived.Ground.Names2Prog
import Derived.Shelf.Slices.Clone
import Derived.Shelf.Strings.SlTrimAscii
import Derived.Lib.SlTrimSet
import Derived.WalkSpells
import Derived.Lib.Builder
namespace Go.Proofs.YtheoklhmlnfgjaaGreatDoor
open Go.RowKit

theorem ret_int {k : IntKind} {a b : Int} (h : a = b) : Ending.returned (.int k a) = .returned (.int k b) := by rw [h]
theorem ret_bool {a b : Bool} (h : a = b) : Ending.returned (.bool a) = .returned (.bool b) := by rw [h]

/-- byte k of a list as a number; 0 beyond its end -/
def bt (l : List UInt8) (k : Nat) : Int := ((l.getD k 0).toNat : Int)
theorem bt_nonneg (l : List UInt8) (k : Nat) : 0 ≤ bt l k := by unfold bt; omega
theorem bt_le (l : List UInt8) (k : Nat) : bt l k ≤ 255 := by
  unfold bt; have := (l.getD k 0).toNat_lt; omega
theorem bt_get (l : List UInt8) (k : Nat) (h : k < l.length) : bt l k = (l[k].toNat : Int) := by
  unfold bt; rw [List.getD_eq_getElem?_getD, List.getElem?_eq_getElem h]; rfl
theorem take_snoc (l : List UInt8) (k : Nat) (h : k < l.length) : l.take (k + 1) = l.take k ++ [l[k]] := by
  rw [List.take_succ_eq_append_getElem h]

/-- the cells of a list of bytes -/
def by8 (l : List UInt8) : List Value := l.map fun b => .int .u8 (b.toNat : Int)
theorem by8_length (l : List UInt8) : (by8 l).length = l.length := by simp [by8]
theorem by8_append (a b : List UInt8) : by8 (a ++ b) = by8 a ++ by8 b := by simp [by8]
theorem by8_get (l : List UInt8) (k : Nat) (h : k < l.length) : (by8 l)[k]? = some (.int .u8 (bt l k)) := by
  rw [bt_get l k h]; simp [by8, h]

/-- the bytes l stand at the address (whatever it is, where there are none) -/
def In8 (w : World) (p : Option Addr) (l : List UInt8) : Prop :=
  0 < l.length → ∃ b o, p = some ⟨b, o, none⟩ ∧ ∀ i, i < l.length → w.cell? ⟨b, o + i, none⟩ = some (.int .u8 (bt l i))

theorem In8.at {w : World} {p : Option Addr} {l : List UInt8} (h : In8 w p l) {k : Nat} (hk : k < l.length) :
    ∃ b o, p = some ⟨b, o, none⟩ ∧ ∀ i, i < l.length → w.cell? ⟨b, o + i, none⟩ = some (.int .u8 (bt l i)) := h (by omega)

end Go.Proofs.YtheoklhmlnfgjaaGreatDoor
/-
  append onto a row that the call owns, of whatever is appended: a slice (nil, empty or not), a string's bytes. No program is in sight here.
-/
namespace Go.Proofs.YtheoklhmlnfgjaaGreatDoor
open Go.RowKit

section
variable {P : Program} (w : World)

theorem run_room_row (t tx ty e : TypeId) (i : TypeInfo) (ht : P.underlying t = some (.slice e)) (hi : P.info? e = some i)
    (g sLen sCap : Nat) (cur : Array Value) (hg : w.heap[g]? = some (.cells cur e (0, 0)))
    (x : Value) (m : Nat) (news : List Value) (hs : Src P i.size tx x m news w)
    (hroom : sLen + m ≤ sCap) (hfit : sLen * i.size + news.length ≤ cur.size) :
    (Builtin.append_ #[t, tx] ty #[.slice (some ⟨g, 0, none⟩) sLen sCap, x]).run P w =
      .ok (.slice (some ⟨g, 0, none⟩) (sLen + m) sCap) (w.setRow g (cur.toList.take (sLen * i.size) ++ news ++ cur.toList.drop (sLen * i.size + news.length)).toArray) := by
  have hst := run_storeCells_at P g (sLen * i.size) e news 0 cur w hg (by simpa using hfit) hs.one
  simp only [Nat.add_zero] at hst
  rcases hs.kind with ⟨e', hk⟩ | hk <;> simp [Builtin.append_, run_underlying ht, run_underlying hk, sizeOf, typeInfo, hi, hs.len, hroom, hs.cells, Addr.add_lit, hst]

theorem run_nothing_nil (t tx ty e : TypeId) (i : TypeInfo) (ht : P.underlying t = some (.slice e)) (hi : P.info? e = some i) (x : Value) (hs : Src P i.size tx x 0 [] w) :
    (Builtin.append_ #[t, tx] ty #[.slice none 0 0, x]).run P w = .ok (.slice none 0 0) w := by
  rcases hs.kind with ⟨e', hk⟩ | hk <;> simp [Builtin.append_, run_underlying ht, run_underlying hk, sizeOf, typeInfo, hi, hs.len, hs.cells]

theorem run_append_src (base : Nat) (t tx ty e : TypeId) (i : TypeInfo) (z : Value) (size bytes : Nat) (ht : P.underlying t = some (.slice e)) (hi : P.info? e = some i) (hz : i.zero = some z)
    (hsize : i.size = size) (hby : i.bytes = bytes) (hzs : z.cells.size = size)
    (v : Value) (n : Nat) (xs : List Value) (hown : w.ownsRow base e size v n xs)
    (x : Value) (m : Nat) (news : List Value) (hs : Src P size tx x m news w)
    (h63 : n + m ≤ maxLen) (hbytes : (n + m) * bytes ≤ 140737488355328) (hbase : base ≤ w.heap.size) :
    ∃ v' w', (Builtin.append_ #[t, tx] ty #[v, x]).run P w = .ok v' w' ∧ w'.ownsRow base e size v' (n + m) (xs ++ news) ∧ w.grownBy w' v.ownBlock ∧
      (v' = .slice none 0 0 ↔ v = .slice none 0 0 ∧ m = 0) := by
  subst hsize
  subst hby
  have hl : news.length = m * i.size := hs.newsLen
  have hsmall : n + m ≤ 9223372036854775807 := by simp only [maxLen] at h63; omega
  have hlen : (xs ++ news).length = (n + m) * i.size := by rw [List.length_append, hown.1, hl, Nat.add_mul]
  have grown : ∀ (old : Nat), old < n + m → ∀ (row : Option Nat),
      (w.drew.alloc (.cells ((xs ++ news).toArray ++ Builtin.zeroCells z.cells (grownCap w (n + m) old e - (n + m))) e)).ownsRow base e i.size
        (.slice (some ⟨w.heap.size, 0, none⟩) (n + m) (grownCap w (n + m) old e)) (n + m) (xs ++ news) ∧
      w.grownBy (w.drew.alloc (.cells ((xs ++ news).toArray ++ Builtin.zeroCells z.cells (grownCap w (n + m) old e - (n + m))) e)) row := by
    intro old ho row
    have hge := grownCap_ge w (n + m) old e
    have hcm : grownCap w (n + m) old e ≤ maxLen := grownCap_le_maxLen w (n + m) old e h63
    refine ⟨⟨hlen, .inr ⟨w.heap.size, _, _, rfl, hbase, heap_alloc_new w.drew _, hge, hcm, ?_, ?_⟩⟩, ⟨rfl, rfl, rfl, by simp, fun k hk _ => Below.heap_alloc w.drew _ k hk⟩⟩
    · simp only [Array.size_append, List.size_toArray, size_zeroCells, hzs, hlen, ← Nat.add_mul]
      congr 1
      omega
    · simp only [Array.toList_append]
      rw [← hlen]
      exact List.take_left
  rcases hown.2 with ⟨rfl, rfl⟩ | ⟨g, cap, cur, rfl, hbg, hg, hnc, hcm, hcs, htake⟩
  · have hx : xs = [] := List.eq_nil_of_length_eq_zero (by simpa using hown.1)
    subst hx
    by_cases hm : m = 0
    · subst hm
      have hn : news = [] := List.eq_nil_of_length_eq_zero (by simpa using hl)
      subst hn
      exact ⟨.slice none 0 0, w, run_nothing_nil w t tx ty e i ht hi x hs, World.ownsRow_nil w base e i.size, ⟨rfl, rfl, rfl, Nat.le_refl _, fun _ _ _ => rfl⟩, by simp⟩
    · have hr := run_append_grow_src (P := P) w t tx ty e i z ht hi hz none 0 0 [] (run_firstCells_none w.drew i.size 0 0 0) x m news hs (by omega) (by omega) (growslice_fits (by omega) (by simpa using hbytes))
      have hgr := grown 0 (by omega) (Value.ownBlock (.slice none 0 0))
      simp only [Nat.zero_add, List.nil_append] at hgr hr ⊢
      exact ⟨_, _, hr, hgr.1, hgr.2, by simp [hm]⟩
  · by_cases hroom : n + m ≤ cap
    · have hfit : n * i.size + news.length ≤ cur.size := by rw [hl, hcs, ← Nat.add_mul]; exact Nat.mul_le_mul_right _ hroom
      have hr := run_room_row (P := P) w t tx ty e i ht hi g n cap cur hg x m news hs hroom hfit
      refine ⟨_, _, hr, ⟨hlen, .inr ⟨g, cap, _, rfl, hbg, setRow_heap w g cur _ e _ hg, hroom, hcm, ?_, ?_⟩⟩, ⟨rfl, rfl, rfl, by simp, fun k _ hk => setRow_other w g k _ (fun e => hk (by simp [Value.ownBlock, e]))⟩, by simp⟩
      · simp only [List.size_toArray, List.length_append, List.length_take, List.length_drop, Array.length_toList]
        omega
      · rw [htake, ← hlen]
        exact List.take_left
    · have holds : ∀ j u, xs[j]? = some u → w.cell? ((⟨g, 0, none⟩ : Addr).add j) = some u := hown.cells (g := g) rfl
      have hold := run_firstCells_some (P := P) w.drew i.size n ⟨g, 0, none⟩ n cap xs hown.1 (by simpa using holds)
      have hr := run_append_grow_src (P := P) w t tx ty e i z ht hi hz (some ⟨g, 0, none⟩) n cap xs hold x m news hs (by omega) (by omega) (growslice_fits (by omega) hbytes)
      have hgr := grown cap (by omega) (Value.ownBlock (.slice (some ⟨g, 0, none⟩) n cap))
      exact ⟨_, _, hr, hgr.1, hgr.2, by simp⟩
end

section
variable {P : Program} (w : World)

/-- append as a law for the walk: the row is the call's own, the source whatever -/
theorem wpList_append_src {ops : Array Oper} {rest : List Oper} {o : Oper} {a : Act} {Q : Exit → Act → World → Prop} (hgd : o.guard = none) (s x : Operand) (t tx : TypeId)
    (ho : o.op = .call { callee := .builtin .append, args := #[s, x], argTypes := #[t, tx] })
    (base : Nat) (e : TypeId) (z : Value) (size bytes : Nat) (ht : P.underlying t = some (.slice e)) (hi : (P.info? e).map (fun i => (i.zero, i.size, i.bytes)) = some (some z, size, bytes))
    (hzs : z.cells.size = size)
    (v : Value) (n : Nat) (xs : List Value) (hv : a.eval s = v) (hown : w.ownsRow base e size v n xs)
    (y : Value) (m : Nat) (news : List Value) (hx : a.eval x = y) (hs : Src P size tx y m news w)
    (h63 : n + m ≤ maxLen) (hbytes : (n + m) * bytes ≤ 140737488355328) (hbase : base ≤ w.heap.size)
    (h : ∀ v' w', w'.ownsRow base e size v' (n + m) (xs ++ news) → w.grownBy w' v.ownBlock → (v' = .slice none 0 0 ↔ v = .slice none 0 0 ∧ m = 0) → wpList P ops Q rest (a.put o.dst v') w') : wpList P ops Q (o :: rest) a w := by
  refine wpList_plain hgd fun K hK => ?_
  obtain ⟨i, hi, hz, hz1, hz2⟩ := info_parts hi
  obtain ⟨v', w', hr, h2, h3, h4⟩ := run_append_src (P := P) w base t tx o.type e i z size bytes ht hi hz hz1 hz2 hzs v n xs hown y m news hs h63 hbytes hbase
  unfold Oper.wp execOp
  simp only [ho, resolve, invoke, builtin, Sem.run_bind, Sem.run_pure, Result.andThen_ok, List.map_toArray, List.map_cons, List.map_nil, hv, hx, hr]
  exact hK _ _ (h v' w' h2 h3 h4)
end
end Go.Proofs.YtheoklhmlnfgjaaGreatDoor
/-
  Rows of bytes that a call owns; what stays as it was. The numbers of the types are this seat's; no function is in sight here.
-/
namespace Go.Proofs.YtheoklhmlnfgjaaGreatDoor
open Go.RowKit

theorem info8 : (Tryz.prog.info? 5).map (fun i => (i.zero, i.size, i.bytes)) = some (some (.int .u8 0), 1, 1) := by kernel_rfl

/-- the slice v is a row of the call's own (in a block from base on, or nil) that holds the bytes l -/
def Own8 (w : World) (base : Nat) (v : Value) (l : List UInt8) : Prop := w.ownsRow base 5 1 v l.length (by8 l)

theorem Own8.nil (w : World) (base : Nat) : Own8 w base (.slice none 0 0) [] := World.ownsRow_nil _ _ _ _

theorem by8_mem_one (l : List UInt8) : ∀ u ∈ by8 l, u.oneCell' = true := by
  intro u hu; obtain ⟨b, _, rfl⟩ := List.mem_map.1 hu; rfl

theorem Own8.shape {w : World} {base : Nat} {v : Value} {l : List UInt8} (h : Own8 w base v l) :
    ∃ p c, v = .slice p l.length c ∧ l.length ≤ c ∧ c ≤ maxLen ∧ In8 w p l ∧ (∀ a, p = some a → base ≤ a.block ∧ a.block < w.heap.size ∧ a.off = 0 ∧ a.spot = none) := by
  have hlt := h.lt
  rcases h.2 with ⟨rfl, hn⟩ | ⟨g, cap, cur, rfl, hb, hg, hnc, hcm, hcs, ht⟩
  · refine ⟨none, 0, by rw [hn], by omega, by unfold maxLen; omega, fun h0 => by omega, fun a ha => by cases ha⟩
  · refine ⟨some ⟨g, 0, none⟩, cap, rfl, hnc, hcm, fun h0 => ⟨g, 0, rfl, fun i hi => ?_⟩, fun a ha => ?_⟩
    · have := h.cellAt (g := g) (cap := cap) i (by omega)
      rw [Nat.zero_add, this, by8_get l i hi]
    · obtain rfl := Option.some.inj ha
      exact ⟨hb, (hlt g rfl).2, rfl, rfl⟩

theorem Own8.in8 {w : World} {base : Nat} {v : Value} {l : List UInt8} (h : Own8 w base v l) : ∃ p c, v = .slice p l.length c ∧ l.length ≤ c ∧ c ≤ maxLen ∧ In8 w p l := by
  obtain ⟨p, c, h1, h2, h3, h4, _⟩ := h.shape
  exact ⟨p, c, h1, h2, h3, h4⟩

theorem Own8.in8n {w : World} {base : Nat} {v : Value} {l : List UInt8} {n : Nat} (h : Own8 w base v l) (hn : l.length = n) : ∃ p c, v = .slice p n c ∧ n ≤ c ∧ c ≤ maxLen ∧ In8 w p l := by
  subst hn; exact h.in8

theorem In8.below {w w' : World} {p : Option Addr} {l : List UInt8} (h : In8 w p l) (hb : Below w.heap.size w w') : In8 w' p l := by
  intro h0
  obtain ⟨b, o, rfl, hc⟩ := h h0
  refine ⟨b, o, rfl, fun i hi => ?_⟩
  have := hc i hi
  rw [hb.cell (p := ⟨b, o + i, none⟩) (World.block_lt_of_cell? w _ this)]
  exact this

theorem ownsRow_below {w w' : World} {base e size : Nat} {v : Value} {n : Nat} {xs : List Value} (h : w.ownsRow base e size v n xs) (hb : Below w.heap.size w w') : w'.ownsRow base e size v n xs := by
  refine ⟨h.1, ?_⟩
  rcases h.2 with hn | ⟨g, cap, cur, rfl, hbg, hg, r⟩
  · exact .inl hn
  · exact .inr ⟨g, cap, cur, rfl, hbg, by rw [hb.block g (Array.getElem?_eq_some_iff.1 hg).1]; exact hg, r⟩
theorem ownsRow_mono {w : World} {base base' e size : Nat} {v : Value} {n : Nat} {xs : List Value} (h : w.ownsRow base e size v n xs) (hb : base' ≤ base) : w.ownsRow base' e size v n xs := by
  refine ⟨h.1, ?_⟩
  rcases h.2 with hn | ⟨g, cap, cur, rfl, hbg, r⟩
  · exact .inl hn
  · exact .inr ⟨g, cap, cur, rfl, by omega, r⟩
theorem Own8.below {w w' : World} {base : Nat} {v : Value} {l : List UInt8} (h : Own8 w base v l) (hb : Below w.heap.size w w') : Own8 w' base v l := ownsRow_below h hb
theorem Own8.mono {w : World} {base base' : Nat} {v : Value} {l : List UInt8} (h : Own8 w base v l) (hb : base' ≤ base) : Own8 w base' v l := ownsRow_mono h hb
theorem Own8.alloc {w : World} {base : Nat} {v : Value} {l : List UInt8} (h : Own8 w base v l) (o : Obj) : Own8 (w.alloc o) base v l := World.ownsRow.alloc h o

/-- a source of bytes: a slice that reads as l, wherever it lies -/
theorem Src.of8 {w : World} {p : Option Addr} {l : List UInt8} {c : Nat} (h : In8 w p l) : Src Tryz.prog 1 22 (.slice p l.length c) l.length (by8 l) w := by
  by_cases h0 : 0 < l.length
  · obtain ⟨b, o, rfl, hc⟩ := h h0
    refine Src.ofSlice w Tryz.underlying22 ⟨b, o, none⟩ l.length c (by8 l) (by simp [by8]) (fun j u hu => ?_) (by8_mem_one l)
    have hj : j < l.length := by have := (List.getElem?_eq_some_iff.1 hu).1; simpa [by8] using this
    rw [by8_get l j hj] at hu
    rw [Go.WideShapes.add_plain, ← Option.some.inj hu]; exact hc j hj
  · obtain rfl : l = [] := List.eq_nil_of_length_eq_zero (by omega)
    cases p with
    | none => exact Src.ofNil w Tryz.underlying22 c
    | some a => exact Src.ofSlice w Tryz.underlying22 a 0 c [] rfl (fun j u hu => by simp at hu) (fun u hu => by cases hu)

theorem bt_append (l m : List UInt8) (i : Nat) (h : i < l.length) : bt (l ++ m) i = bt l i := by
  unfold bt; rw [List.getD_eq_getElem?_getD, List.getD_eq_getElem?_getD, List.getElem?_append_left h]
theorem In8.fore {w : World} {p : Option Addr} {l m : List UInt8} (h : In8 w p (l ++ m)) : In8 w p l := by
  intro h0
  obtain ⟨b, o, rfl, hc⟩ := h (by simp; omega)
  exact ⟨b, o, rfl, fun i hi => by rw [hc i (by simp; omega), bt_append l m i hi]⟩
theorem cell_past {w : World} {a : Addr} {v : Value} (h : w.cell? a = some v) (o : Obj) : (w.alloc o).cell? a = some v :=
  (((Below.refl w.heap.size w).alloc (Nat.le_refl _) o).cell (World.block_lt_of_cell? w _ h)).trans h
theorem In8.alloc {w : World} {p : Option Addr} {l : List UInt8} (h : In8 w p l) (o : Obj) : In8 (w.alloc o) p l := h.below ((Below.refl _ w).alloc (Nat.le_refl _) o)
theorem Own8.made (w : World) : Own8 (w.alloc (.cells #[] 5)) w.heap.size (.slice (some ⟨w.heap.size, 0, none⟩) 0 0) [] :=
  World.ownsRow_made w #[] 0 (Nat.le_refl _) (by unfold maxLen; omega) rfl

theorem bdrewN {B : Nat} {a w : World} (h : Below B a w) (n : Nat) : Below B a (w.drewN n) := ⟨h.os, h.tape, h.output, h.size, h.block⟩

theorem own_grown {w w1 w' : World} {B : Nat} {v : Value} {l : List UInt8} (hB : Below B w w1) (hs : B ≤ w1.heap.size) (hown : Own8 w1 B v l) (hg : w1.grownBy w' v.ownBlock) : Below B w w' :=
  hB.grown hg hs (fun k e => (hown.lt k e).1)

/-- the byte of a number -/
def ubyte (z : Int) : UInt8 := UInt8.ofNat z.toNat
theorem ubyte_toNat {z : Int} (h0 : 0 ≤ z) (h1 : z ≤ 255) : ((ubyte z).toNat : Int) = z := by
  unfold ubyte; rw [UInt8.toNat_ofNat']; omega
theorem ubyte_bt (l : List UInt8) (k : Nat) (h : k < l.length) : ubyte (bt l k) = l[k] := by
  rw [bt_get l k h]; unfold ubyte; simp

/-- a new block of bytes that are written out -/
theorem In8.lit (w : World) (l : List UInt8) (c : Array Value) (fr : Nat × Nat) (h : c.toList = by8 l) : In8 (w.alloc (.cells c 5 fr)) (some ⟨w.heap.size, 0, none⟩) l := by
  intro _
  refine ⟨w.heap.size, 0, rfl, fun i hi => ?_⟩
  rw [cell_of_row _ _ _ _ _ _ (heap_alloc_new w (.cells c 5 fr)), ← by8_get l i hi, ← h, Nat.zero_add, Array.getElem?_toList]

/-- a new block of one byte -/
theorem In8.one (w : World) (z : Int) (h0 : 0 ≤ z) (h1 : z ≤ 255) : In8 (w.alloc (.cells #[.int .u8 z] 5)) (some ⟨w.heap.size, 0, none⟩) [ubyte z] := by
  intro _
  refine ⟨w.heap.size, 0, rfl, fun i hi => ?_⟩
  obtain rfl : i = 0 := by simpa using hi
  have e : bt [ubyte z] 0 = z := by rw [bt_get _ 0 (by simp)]; exact ubyte_toNat h0 h1
  rw [e]
  simp only [World.cell?, heap_alloc_new w (.cells #[.int .u8 z] 5)]; rfl

section
variable {w : World}
/-- append of bytes onto bytes of the call's own -/
theorem wpList_append8 {ops : Array Oper} {rest : List Oper} {o : Oper} {a : Act} {Q : Exit → Act → World → Prop} (hgd : o.guard = none) (s x : Operand)
    (ho : o.op = .call { callee := .builtin .append, args := #[s, x], argTypes := #[22, 22] })
    (base : Nat) (v : Value) (l : List UInt8) (hv : a.eval s = v) (hown : Own8 w base v l)
    (p : Option Addr) (m c : Nat) (l2 : List UInt8) (hm : l2.length = m) (hx : a.eval x = .slice p m c) (hin : In8 w p l2)
    (hr : l.length + m ≤ 140737488355328) (hbase : base ≤ w.heap.size)
    (h : ∀ v' w', Own8 w' base v' (l ++ l2) → w.grownBy w' v.ownBlock → (v' = .slice none 0 0 ↔ v = .slice none 0 0 ∧ m = 0) → wpList Tryz.prog ops Q rest (a.put o.dst v') w') : wpList Tryz.prog ops Q (o :: rest) a w := by
  subst hm
  refine wpList_append_src w hgd s x 22 22 ho base 5 (.int .u8 0) 1 1 Tryz.underlying22 info8 rfl v l.length (by8 l) hv hown _ l2.length (by8 l2) hx (Src.of8 hin) (by unfold maxLen; omega) (by omega) hbase ?_
  intro v' w' ho' hg hn
  exact h v' w' (by unfold Own8; rw [List.length_append, by8_append]; exact ho') hg hn
/-- the same, the source being bytes of the call's own -/
theorem wpList_append8o {ops : Array Oper} {rest : List Oper} {o : Oper} {a : Act} {Q : Exit → Act → World → Prop} (hgd : o.guard = none) (s x : Operand)
    (ho : o.op = .call { callee := .builtin .append, args := #[s, x], argTypes := #[22, 22] })
    (base : Nat) (v : Value) (l : List UInt8) (hv : a.eval s = v) (hown : Own8 w base v l)
    (b2 : Nat) (y : Value) (l2 : List UInt8) (hx : a.eval x = y) (hin : Own8 w b2 y l2)
    (hr : l.length + l2.length ≤ 140737488355328) (hbase : base ≤ w.heap.size)
    (h : ∀ v' w', Own8 w' base v' (l ++ l2) → w.grownBy w' v.ownBlock → wpList Tryz.prog ops Q rest (a.put o.dst v') w') : wpList Tryz.prog ops Q (o :: rest) a w := by
  obtain ⟨p, c, rfl, _, _, h3⟩ := hin.in8
  exact wpList_append8 hgd s x ho base v l hv hown p _ c l2 rfl hx h3 hr hbase fun v' w' h1 h2 _ => h v' w' h1 h2
/-- a string's bytes -/
theorem wpList_append8s {ops : Array Oper} {rest : List Oper} {o : Oper} {a : Act} {Q : Exit → Act → World → Prop} (hgd : o.guard = none) (s x : Operand)
    (ho : o.op = .call { callee := .builtin .append, args := #[s, x], argTypes := #[22, 9] })
    (base : Nat) (v : Value) (l : List UInt8) (hv : a.eval s = v) (hown : Own8 w base v l)
    (t : ByteArray) (hx : a.eval x = .string t)
    (hr : l.length + t.size ≤ 140737488355328) (hbase : base ≤ w.heap.size)
    (h : ∀ v' w', Own8 w' base v' (l ++ t.data.toList) → w.grownBy w' v.ownBlock → wpList Tryz.prog ops Q rest (a.put o.dst v') w') : wpList Tryz.prog ops Q (o :: rest) a w := by
  have hs : t.data.toList.length = t.size := by rw [Array.length_toList]; rfl
  refine wpList_append_src w hgd s x 22 9 ho base 5 (.int .u8 0) 1 1 Tryz.underlying22 info8 rfl v l.length (by8 l) hv hown _ t.size (by8 t.data.toList) hx (Src.ofString w Tryz.underlying9 t) (by unfold maxLen; omega) (by omega) hbase ?_
  intro v' w' ho' hg _
  exact h v' w' (by unfold Own8; rw [List.length_append, by8_append, hs]; exact ho') hg
theorem Own8.lit (w : World) (z : Int) (h0 : 0 ≤ z) (h1 : z ≤ 255) : Own8 (w.alloc (.cells #[.int .u8 z] 5)) w.heap.size (.slice (some ⟨w.heap.size, 0, none⟩) 1 1) [ubyte z] := by
  have h := World.ownsRow_lit (e := 5) (size := 1) w #[.int .u8 z] 1 (Nat.le_refl _) (by unfold maxLen; omega) rfl
  have e : by8 [ubyte z] = [Value.int .u8 z] := by simp [by8, ubyte_toNat h0 h1]
  unfold Own8; rw [e]; exact h
end

section
variable {w : World}
theorem bt_bytes (t : ByteArray) (i : Nat) (h : i < t.size) : Value.int .u8 (bt t.data.toList i) = (t.data.map (fun b => Value.int .u8 (b.toNat : Int)))[i]'(by simpa using h) := by
  have hl : t.data.toList.length = t.size := by rw [Array.length_toList]; rfl
  rw [bt_get _ i (by omega)]; simp
/-- a text's bytes as a new slice -/
theorem wpList_toBytes {ops : Array Oper} {rest : List Oper} {o : Oper} {a : Act} {Q : Exit → Act → World → Prop} (hgd : o.guard = none) (x : Operand)
    (ho : o.op = .convert 9 22 x) (t : ByteArray) (hx : a.eval x = .string t) (hlen : t.size ≤ maxLen)
    (h : ∀ (g c : Nat) (w' : World), w.heap.size ≤ g → g < w'.heap.size → In8 w' (some ⟨g, 0, none⟩) t.data.toList → t.size ≤ c → c ≤ maxLen → Below w.heap.size w w' → (∀ i, i < c → w'.frozen? ⟨g, i, none⟩ = false) →
      wpList Tryz.prog ops Q rest (a.put o.dst (.slice (some ⟨g, 0, none⟩) t.size c)) w') : wpList Tryz.prog ops Q (o :: rest) a w := by
  refine wpList_plain hgd fun K hK => ?_
  have hrun := run_bytes_of_string (P := Tryz.prog) w 9 22 5 t Tryz.underlying9 Tryz.underlying22 Tryz.underlying5
  have hl : t.data.toList.length = t.size := by rw [Array.length_toList]; rfl
  have hge := grownCap_ge w t.size 0 5
  have hsz : (bytesRow t (grownCap w t.size 0 5)).size = grownCap w t.size 0 5 := by
    have h2 : t.data.size = t.size := rfl
    simp only [bytesRow, Array.size_append, Array.size_map, Array.size_replicate]; omega
  have hfin := h w.heap.size (grownCap w t.size 0 5) _ (Nat.le_refl _) (by simp) (fun _ => ⟨w.heap.size, 0, rfl, fun i hi => ?_⟩) hge (grownCap_le_maxLen w t.size 0 5 hlen)
    ((Below.refl _ w).drew.alloc (Nat.le_refl _) (.cells (bytesRow t (grownCap w t.size 0 5)) 5 ((bytesRow t (grownCap w t.size 0 5)).size, (bytesRow t (grownCap w t.size 0 5)).size + 1))) (fun i hi => ?_)
  · unfold Oper.wp execOp
    simp only [ho, hx, hrun, Sem.run_bind, Sem.run_pure, Result.andThen_ok]
    exact hK _ _ hfin
  · have hb : (w.drew.alloc (.cells (bytesRow t (grownCap w t.size 0 5)) 5 ((bytesRow t (grownCap w t.size 0 5)).size, (bytesRow t (grownCap w t.size 0 5)).size + 1))).heap[w.heap.size]? = some (.cells (bytesRow t (grownCap w t.size 0 5)) 5 ((bytesRow t (grownCap w t.size 0 5)).size, (bytesRow t (grownCap w t.size 0 5)).size + 1)) := heap_alloc_new w.drew _
    have hi' : i < (t.data.map (fun b => Value.int .u8 (b.toNat : Int))).size := by simpa [hl] using hi
    rw [cell_of_row _ _ _ _ _ _ hb, Nat.zero_add, bytesRow, Array.getElem?_append_left hi', Array.getElem?_eq_getElem hi', ← bt_bytes t i (by omega)]
  · have hb : (w.drew.alloc (.cells (bytesRow t (grownCap w t.size 0 5)) 5 ((bytesRow t (grownCap w t.size 0 5)).size, (bytesRow t (grownCap w t.size 0 5)).size + 1))).heap[w.heap.size]? = some (.cells (bytesRow t (grownCap w t.size 0 5)) 5 ((bytesRow t (grownCap w t.size 0 5)).size, (bytesRow t (grownCap w t.size 0 5)).size + 1)) := heap_alloc_new w.drew _
    unfold World.frozen?
    rw [hb, hsz]
    simp only [Bool.and_eq_false_iff, decide_eq_false_iff_not]
    omega
end
end Go.Proofs.YtheoklhmlnfgjaaGreatDoor
/-
  What the arguments of a statement are, in the words of the walks: bytes, numbers, texts (for seats that have no record).
-/
namespace Go.Proofs.YtheoklhmlnfgjaaGreatDoor
open Go.ChangeShapes Go.WideShapes Go.ChangeAt Go.RowKit
open Go.ChangeMaps (open_string shut_string)

theorem own : ownKnob Tryz.prog.godebug = none := by kernel_rfl
theorem laidOut : laidOutB Tryz.prog = true := by kernel_rfl
theorem cells8 : Tryz.prog.cellsOf 5 = 1 := by kernel_rfl
theorem bytes8 : Tryz.prog.bytesOf 5 = 1 := by kernel_rfl

theorem u8_bounds {n : Int} (h : (Lit.int .u8 n).wf = true) : 0 ≤ n ∧ n ≤ 255 := by
  simpa [Lit.wf, IntKind.min, IntKind.max, IntKind.signed, IntKind.bits] using h
theorem i64_bounds {n : Int} (h : (Lit.int .i64 n).wf = true) : -9223372036854775808 ≤ n ∧ n ≤ 9223372036854775807 := by
  simpa [Lit.wf, IntKind.min, IntKind.max, IntKind.signed, IntKind.bits] using h

theorem bt_of_ints (zs : List Int) (h : ∀ n ∈ zs, (Lit.int .u8 n).wf = true) (i : Nat) (hi : i < zs.length) : bt (zs.map ubyte) i = zs.getD i 0 := by
  have hb := u8_bounds (h zs[i] (List.getElem_mem hi))
  rw [bt_get _ i (by simpa using hi), List.getElem_map, ubyte_toNat hb.1 hb.2, List.getD_eq_getElem?_getD, List.getElem?_eq_getElem hi]; rfl

set_option maxRecDepth 100000 in
theorem open_bytes8 {H : Type} {enc : TypeId × Value → H} {W : World} {r : Reach} {b0 : Nat} {v : Value} {d : DataW H} {ps : List MemPlace}
    (hv : Value.okWide Tryz.prog W r b0 22 v) (h : DataW.Trod enc Tryz.prog W 0 (fun _ => true) true 22 v d ps)
    (hw : ∀ el sp, d = .slice el sp → (el.length + sp.length) * Tryz.prog.bytesOf 5 ≤ reachBytes) :
    ∃ p l c, v = .slice p (List.length l) c ∧ In8 W p l ∧ l.length ≤ c ∧ c ≤ 140737488351232 := by
  obtain ⟨a0, len, cap, rfl⟩ := okWide_slice Tryz.underlying22 hv
  obtain ⟨fuel, hf⟩ := h
  rcases open_ints Tryz.underlying22 Tryz.underlying5 cells8 hf with ⟨hcs, _⟩ | ⟨x, l, c, zs, hcs, _, hl, hm, hz, hx, hcell, hwz⟩
  · simp [Value.cells] at hcs
    obtain ⟨rfl, rfl, rfl⟩ := hcs
    exact ⟨none, [], 0, rfl, fun h => absurd h (by simp), by simp, by omega⟩
  · simp [Value.cells] at hcs
    obtain ⟨rfl, rfl, rfl⟩ := hcs
    simp only [if_true] at hz
    simp only [Prod.mk.injEq] at hx
    have hcap : cap ≤ 140737488351232 := by
      have := hw _ _ hx.1
      rw [bytes8] at this
      simp only [lits, List.length_map, List.length_take, List.length_drop, reachBytes] at this
      omega
    have hlen : ((zs.take len).map ubyte).length = len := by simp; omega
    refine ⟨some x, (zs.take len).map ubyte, cap, by rw [hlen], ?_, by omega, hcap⟩
    intro h0
    obtain ⟨b, o, s⟩ := x
    have hs : s = none := by simpa [Addr.add] using World.cell?_spot (hcell 0 (by omega))
    subst hs
    refine ⟨b, o, rfl, fun i hi => ?_⟩
    have hi2 : i < (zs.take len).length := by simpa using hi
    have := hcell i (by omega)
    rw [add_plain] at this
    rw [this, bt_of_ints _ (fun n hn => hwz n (List.mem_of_mem_take hn)) i hi2]
    simp only [List.getD_eq_getElem?_getD]
    rw [List.getElem?_take_of_lt (by omega)]

end Go.Proofs.YtheoklhmlnfgjaaGreatDoor
/-
  The names that Vary tells, plainly: sorted and each once, or put in one by one: the same.
-/
namespace Go.Proofs.YtheoklhmlnfgjaaGreatDoor


abbrev BS := List UInt8
/-- sorted, each once -/
def sortL (L : List BS) : List BS := L.mergeSort fun x y => decide (x ≤ y)
def namesOf (L : List BS) : List BS := Lib.compact (sortL L)

theorem lt_of_le_ne {a b : BS} (h : a ≤ b) (hn : b ≠ a) : a < b := by
  by_cases h2 : a < b
  · exact h2
  · exact absurd (List.le_antisymm (List.not_lt.1 h2) h) hn

theorem asc_ext : ∀ (l m : List BS), l.Pairwise (· < ·) → m.Pairwise (· < ·) → (∀ x, x ∈ l ↔ x ∈ m) → l = m
  | [], [], _, _, _ => rfl
  | [], b :: m, _, _, h => absurd ((h b).2 (List.mem_cons_self ..)) (by simp)
  | a :: l, [], _, _, h => absurd ((h a).1 (List.mem_cons_self ..)) (by simp)
  | a :: l, b :: m, h1, h2, h => by
    rw [List.pairwise_cons] at h1 h2
    have hab : a = b := by
      rcases List.mem_cons.1 ((h a).1 (List.mem_cons_self ..)) with e | e
      · exact e
      · rcases List.mem_cons.1 ((h b).2 (List.mem_cons_self ..)) with e2 | e2
        · exact e2.symm
        · exact absurd (List.lt_trans (h2.1 a e) (h1.1 b e2)) (List.lt_irrefl _)
    subst hab
    rw [asc_ext l m h1.2 h2.2 fun x => ⟨fun hx => ?_, fun hx => ?_⟩]
    · rcases List.mem_cons.1 ((h x).1 (List.mem_cons_of_mem _ hx)) with e | e
      · subst e; exact absurd (h1.1 _ hx) (List.lt_irrefl _)
      · exact e
    · rcases List.mem_cons.1 ((h x).2 (List.mem_cons_of_mem _ hx)) with e | e
      · subst e; exact absurd (h2.1 _ hx) (List.lt_irrefl _)
      · exact e

/-- compact of what rises -/
theorem compactUpTo_asc (d : Array BS) (n : Nat) (hs : ∀ i j, i ≤ j → j < n → d[i]! ≤ d[j]!) : ∀ m, m ≤ n → (Lib.compactUpTo d m).Pairwise (· < ·) ∧ (∀ x ∈ Lib.compactUpTo d m, ∃ i, i < m ∧ x = d[i]!) ∧ ∀ i, i < m → d[i]! ∈ Lib.compactUpTo d m
  | 0, _ => by refine ⟨by simp [Lib.compactUpTo], by simp [Lib.compactUpTo], fun i hi => by omega⟩
  | m + 1, hm => by
    obtain ⟨h1, h2, h3⟩ := compactUpTo_asc d n hs m (by omega)
    rw [Lib.compactUpTo_succ]
    by_cases hk : Lib.keeps d m = true
    · rw [if_pos hk]
      refine ⟨?_, fun x hx => ?_, fun i hi => ?_⟩
      · rw [List.pairwise_append]
        refine ⟨h1, List.pairwise_singleton .., fun x hx y hy => ?_⟩
        obtain rfl := List.mem_singleton.1 hy
        obtain ⟨i, hi, rfl⟩ := h2 x hx
        have e1 : d[i]! ≤ d[m - 1]! := hs i (m - 1) (by omega) (by omega)
        have e2 : d[m - 1]! ≤ d[m]! := hs (m - 1) m (by omega) (by omega)
        have e3 : d[m]! ≠ d[m - 1]! := fun e => by rw [Lib.keeps_neg (by omega) e] at hk; cases hk
        exact List.lt_of_le_of_lt e1 (lt_of_le_ne e2 e3)
      · rcases List.mem_append.1 hx with e | e
        · obtain ⟨i, hi, rfl⟩ := h2 x e; exact ⟨i, by omega, rfl⟩
        · exact ⟨m, by omega, List.mem_singleton.1 e⟩
      · rcases Nat.lt_or_ge i m with e | e
        · exact List.mem_append_left _ (h3 i e)
        · obtain rfl : i = m := by omega
          exact List.mem_append_right _ (List.mem_singleton.2 rfl)
    · rw [if_neg hk, List.append_nil]
      refine ⟨h1, fun x hx => ?_, fun i hi => ?_⟩
      · obtain ⟨i, hi, rfl⟩ := h2 x hx; exact ⟨i, by omega, rfl⟩
      · rcases Nat.lt_or_ge i m with e | e
        · exact h3 i e
        · obtain rfl : i = m := by omega
          by_cases h0 : i = 0
          · subst h0; exact absurd (Lib.keeps_lt_one d 0 (by omega)) hk
          · have e4 : d[i]! = d[i - 1]! := by
              by_cases e4 : d[i]! = d[i - 1]!
              · exact e4
              · exact absurd (Lib.keeps_pos e4) hk
            rw [e4]; exact h3 (i - 1) (by omega)

theorem sortL_pair (L : List BS) : (sortL L).Pairwise (· ≤ ·) := by
  have tr : ∀ a b c : BS, decide (a ≤ b) = true → decide (b ≤ c) = true → decide (a ≤ c) = true := fun a b c h1 h2 => by simp only [decide_eq_true_eq] at *; exact List.le_trans h1 h2
  have to : ∀ a b : BS, (decide (a ≤ b) || decide (b ≤ a)) = true := fun a b => by simp only [Bool.or_eq_true, decide_eq_true_eq]; exact List.le_total a b
  have := List.pairwise_mergeSort tr to L
  exact this.imp fun h => by simpa using h
theorem namesOf_spec (L : List BS) : (namesOf L).Pairwise (· < ·) ∧ ∀ x, x ∈ namesOf L ↔ x ∈ L := by
  have hp := sortL_pair L
  obtain ⟨h1, h2, h3⟩ := compactUpTo_asc (sortL L).toArray (sortL L).length (fun i j hij hj => by
    rw [getElem!_pos (sortL L).toArray i (by simp; omega), getElem!_pos (sortL L).toArray j (by simp; omega)]
    rcases Nat.lt_or_ge i j with h | h
    · have := List.pairwise_iff_getElem.1 hp i j (by omega) hj h
      simpa using this
    · obtain rfl : i = j := by omega
      exact List.le_refl _) (sortL L).length (Nat.le_refl _)
  refine ⟨h1, fun x => ?_⟩
  have hm : x ∈ sortL L ↔ x ∈ L := List.mem_mergeSort
  rw [← hm]
  constructor
  · intro hx
    obtain ⟨i, hi, rfl⟩ := h2 x hx
    rw [getElem!_pos (sortL L).toArray i (by simpa using hi)]
    simp
  · intro hx
    obtain ⟨i, hi, e⟩ := List.mem_iff_getElem.1 hx
    have h4 := h3 i hi
    rw [getElem!_pos (sortL L).toArray i (by simpa using hi), List.getElem_toArray, e] at h4
    exact h4

/-- the document's way: one word put in -/
def stepR (x : BS) (s : List BS × Bool) (y : BS) : List BS × Bool :=
  if s.2 = false ∧ ¬ y = x ∧ x < y then (s.1 ++ [x, y], true) else (s.1 ++ [y], s.2 || decide (y = x))
def partR (x : BS) (l : List BS) : List BS × Bool := l.foldl (stepR x) ([], false)
def insR (x : BS) (l : List BS) : List BS := if (partR x l).2 then (partR x l).1 else (partR x l).1 ++ [x]
theorem partR_snoc (x : BS) (l : List BS) (k : Nat) (h : k < l.length) : partR x (l.take (k + 1)) = stepR x (partR x (l.take k)) l[k] := by
  unfold partR
  rw [List.take_succ_eq_append_getElem h, List.foldl_append]; rfl
def insS (x : BS) : List BS → List BS
  | [] => [x]
  | y :: l => if y = x then y :: l else if x < y then x :: y :: l else y :: insS x l
theorem fold_put (x : BS) : ∀ (l acc : List BS), l.foldl (stepR x) (acc, true) = (acc ++ l, true)
  | [], acc => by simp
  | y :: l, acc => by
    rw [List.foldl_cons, show stepR x (acc, true) y = (acc ++ [y], true) by simp [stepR], fold_put x l]; simp
theorem fold_ins (x : BS) : ∀ (l acc : List BS), (if (l.foldl (stepR x) (acc, false)).2 then (l.foldl (stepR x) (acc, false)).1 else (l.foldl (stepR x) (acc, false)).1 ++ [x]) = acc ++ insS x l
  | [], acc => by simp [insS]
  | y :: l, acc => by
    rw [List.foldl_cons]
    by_cases h1 : y = x
    · rw [show stepR x (acc, false) y = (acc ++ [y], true) by simp [stepR, h1], fold_put x l]; simp [insS, h1]
    · by_cases h2 : x < y
      · rw [show stepR x (acc, false) y = (acc ++ [x, y], true) by simp [stepR, h1, h2], fold_put x l]; simp [insS, h1, h2]
      · rw [show stepR x (acc, false) y = (acc ++ [y], false) by simp [stepR, h1, h2], fold_ins x l]; simp [insS, h1, h2]
theorem insR_eq (x : BS) (l : List BS) : insR x l = insS x l := by
  unfold insR partR
  exact (fold_ins x l []).trans (List.nil_append _)
theorem insS_mem (x z : BS) : ∀ l : List BS, z ∈ insS x l ↔ z = x ∨ z ∈ l
  | [] => by simp [insS]
  | y :: l => by
    unfold insS
    split
    · rename_i h; subst h; simp
    · split
      · simp
      · simp only [List.mem_cons, insS_mem x z l]; grind
theorem insS_asc (x : BS) : ∀ l : List BS, l.Pairwise (· < ·) → (insS x l).Pairwise (· < ·)
  | [], _ => by simp [insS]
  | y :: l, h => by
    have h' := h
    rw [List.pairwise_cons] at h
    unfold insS
    split
    · exact h'
    · rename_i hne
      split
      · rename_i hlt
        rw [List.pairwise_cons]
        refine ⟨fun z hz => ?_, h'⟩
        rcases List.mem_cons.1 hz with e | e
        · rw [e]; exact hlt
        · exact List.lt_trans hlt (h.1 z e)
      · rename_i hlt
        rw [List.pairwise_cons]
        refine ⟨fun z hz => ?_, insS_asc x l h.2⟩
        rcases (insS_mem x z l).1 hz with e | e
        · rw [e]; exact lt_of_le_ne (List.not_lt.1 hlt) (fun e2 => hne e2.symm)
        · exact h.1 z e
def namesR (L : List BS) : List BS := L.foldl (fun out x => insR x out) []
theorem namesR_snoc (L : List BS) (k : Nat) (h : k < L.length) : namesR (L.take (k + 1)) = insR L[k] (namesR (L.take k)) := by
  unfold namesR
  rw [List.take_succ_eq_append_getElem h, List.foldl_append]; rfl
theorem foldR_spec : ∀ (L acc : List BS), acc.Pairwise (· < ·) → (L.foldl (fun out x => insR x out) acc).Pairwise (· < ·) ∧ ∀ x, x ∈ L.foldl (fun out x => insR x out) acc ↔ x ∈ acc ∨ x ∈ L
  | [], acc, h => ⟨h, fun x => by simp⟩
  | y :: L, acc, h => by
    obtain ⟨h1, h2⟩ := foldR_spec L (insR y acc) (by rw [insR_eq]; exact insS_asc y acc h)
    refine ⟨h1, fun x => ?_⟩
    rw [List.foldl_cons, h2, insR_eq, insS_mem, List.mem_cons]; grind
/-- the two ways: the same names -/
theorem namesR_eq (L : List BS) : namesR L = namesOf L := by
  obtain ⟨a1, a2⟩ := foldR_spec L [] List.Pairwise.nil
  obtain ⟨b1, b2⟩ := namesOf_spec L
  refine asc_ext _ _ a1 b1 fun x => ?_
  rw [b2]; unfold namesR; rw [a2]; simp
theorem insR_length (x : BS) (l : List BS) : (insR x l).length ≤ l.length + 1 := by
  rw [insR_eq]
  induction l with
  | nil => simp [insS]
  | cons y l ih => unfold insS; split <;> (try split) <;> simp <;> omega
theorem namesR_length (L : List BS) : ∀ k, (namesR (L.take k)).length ≤ k
  | 0 => by simp [namesR]
  | k + 1 => by
    by_cases h : k < L.length
    · rw [namesR_snoc L k h]; have := insR_length L[k] (namesR (L.take k)); have := namesR_length L k; omega
    · rw [List.take_of_length_le (by omega)]; have := namesR_length L k; rw [List.take_of_length_le (by omega)] at this; omega
theorem stepR_length (x : BS) (s : List BS × Bool) (y : BS) : (stepR x s y).1.length ≤ s.1.length + 2 := by
  unfold stepR; split <;> simp
theorem partR_length (x : BS) (l : List BS) : ∀ k, (partR x (l.take k)).1.length ≤ k + 1 ∧ ((partR x (l.take k)).2 = false → (partR x (l.take k)).1.length ≤ k)
  | 0 => by simp [partR]
  | k + 1 => by
    have ih := partR_length x l k
    by_cases h : k < l.length
    · rw [partR_snoc x l k h]
      unfold stepR
      split
      · rename_i hc
        have := ih.2 hc.1
        refine ⟨?_, fun e => by cases e⟩
        simp; omega
      · refine ⟨by simp; omega, fun e => ?_⟩
        simp only [Bool.or_eq_false_iff] at e
        have := ih.2 e.1
        simp; omega
    · rw [List.take_of_length_le (by omega)]; rw [List.take_of_length_le (by omega)] at ih
      exact ⟨by omega, fun e => by have := ih.2 e; omega⟩
/-- the order of the words makes no difference, nor how often -/
theorem namesOf_ext (L M : List BS) (h : ∀ x, x ∈ L ↔ x ∈ M) : namesOf L = namesOf M := by
  obtain ⟨a1, a2⟩ := namesOf_spec L
  obtain ⟨b1, b2⟩ := namesOf_spec M
  exact asc_ext _ _ a1 b1 fun x => by rw [a2, b2]; exact h x
theorem namesOf_length (L : List BS) : (namesOf L).length ≤ L.length := by
  rw [← namesR_eq]
  have := namesR_length L L.length
  rwa [List.take_length] at this
end Go.Proofs.YtheoklhmlnfgjaaGreatDoor
/-
  Names of files as a list that rises: look, put in, take out; and the datum of a map that reads so. No program is in sight here.
-/
namespace Go.Proofs.YtheoklhmlnfgjaaGreatDoor

/-- names, and what each leads to; they rise -/
abbrev NM := List (BS × Nat)
def Rises (M : NM) : Prop := M.Pairwise fun p q => p.1 < q.1
def lookN (M : NM) (k : BS) : Option Nat := (M.find? fun x => decide (x.1 = k)).map (·.2)
def delN (k : BS) (M : NM) : NM := M.filter fun x => decide (x.1 ≠ k)
def insN (k : BS) (f : Nat) : NM → NM
  | [] => [(k, f)]
  | (m, g) :: M => if m = k then (k, f) :: M else if k < m then (k, f) :: (m, g) :: M else (m, g) :: insN k f M

theorem insN_mem (k : BS) (f : Nat) (z : BS × Nat) : ∀ M : NM, z ∈ insN k f M → z = (k, f) ∨ z ∈ M
  | [], h => by simpa [insN] using h
  | (m, g) :: M, h => by
    unfold insN at h
    split at h
    · rcases List.mem_cons.1 h with h | h
      · exact .inl h
      · exact .inr (List.mem_cons_of_mem _ h)
    · split at h
      · rcases List.mem_cons.1 h with h | h
        · exact .inl h
        · exact .inr h
      · rcases List.mem_cons.1 h with h | h
        · exact .inr (h ▸ List.mem_cons_self ..)
        · rcases insN_mem k f z M h with h | h
          · exact .inl h
          · exact .inr (List.mem_cons_of_mem _ h)
theorem insN_rises (k : BS) (f : Nat) : ∀ M : NM, Rises M → Rises (insN k f M)
  | [], _ => by simp [insN, Rises]
  | (m, g) :: M, h => by
    have h' := h
    unfold Rises at h
    rw [List.pairwise_cons] at h
    unfold insN Rises
    split
    · rename_i e
      rw [List.pairwise_cons]
      exact ⟨fun z hz => by rw [← e]; exact h.1 z hz, h.2⟩
    · rename_i hne
      split
      · rename_i hlt
        rw [List.pairwise_cons]
        refine ⟨fun z hz => ?_, h'⟩
        rcases List.mem_cons.1 hz with e | e
        · rw [e]; exact hlt
        · exact List.lt_trans hlt (h.1 z e)
      · rename_i hlt
        rw [List.pairwise_cons]
        refine ⟨fun z hz => ?_, insN_rises k f M h.2⟩
        rcases insN_mem k f z M hz with e | e
        · rw [e]; exact lt_of_le_ne (List.not_lt.1 hlt) (fun e2 => hne e2.symm)
        · exact h.1 z e
theorem delN_rises (k : BS) (M : NM) (h : Rises M) : Rises (delN k M) := List.Pairwise.filter _ h
theorem lookN_cons (m : BS) (g : Nat) (M : NM) (k : BS) : lookN ((m, g) :: M) k = if m = k then some g else lookN M k := by
  unfold lookN
  rw [List.find?_cons]
  by_cases h : m = k <;> simp [h]
theorem lookN_none (M : NM) (k : BS) (h : ∀ x ∈ M, x.1 ≠ k) : lookN M k = none := by
  unfold lookN
  rw [List.find?_eq_none.2]
  · rfl
  · intro x hx; simpa using h x hx
theorem lookN_mem (M : NM) (k : BS) (f : Nat) (h : lookN M k = some f) : (k, f) ∈ M := by
  unfold lookN at h
  obtain ⟨x, hx, e⟩ := Option.map_eq_some_iff.1 h
  have h1 := List.mem_of_find?_eq_some hx
  have h2 := List.find?_some hx
  have h2 : x.1 = k := by simpa using h2
  rw [← h2, ← e]
  exact h1
theorem lookN_ins_same (k : BS) (f : Nat) : ∀ M : NM, lookN (insN k f M) k = some f
  | [] => by simp [insN, lookN_cons]
  | (m, g) :: M => by
    unfold insN
    split
    · simp [lookN_cons]
    · rename_i hne
      split
      · simp [lookN_cons]
      · rw [lookN_cons, if_neg hne, lookN_ins_same k f M]
theorem lookN_ins_other (k j : BS) (f : Nat) (hj : j ≠ k) : ∀ M : NM, lookN (insN k f M) j = lookN M j
  | [] => by
    have : ¬ k = j := fun e => hj e.symm
    simp [insN, lookN_cons, this]
  | (m, g) :: M => by
    have hk : ¬ k = j := fun e => hj e.symm
    unfold insN
    split
    · rename_i e
      rw [lookN_cons, lookN_cons, if_neg hk, if_neg (by rw [e]; exact hk)]
    · split
      · rw [lookN_cons, if_neg hk]
      · rw [lookN_cons, lookN_cons, lookN_ins_other k j f hj M]
theorem lookN_del_same (k : BS) (M : NM) : lookN (delN k M) k = none :=
  lookN_none _ _ fun x hx => by
    have := (List.mem_filter.1 hx).2
    simpa using this
theorem lookN_del_other (k j : BS) (hj : j ≠ k) : ∀ M : NM, lookN (delN k M) j = lookN M j
  | [] => rfl
  | (m, g) :: M => by
    unfold delN
    rw [List.filter_cons]
    have ih := lookN_del_other k j hj M
    unfold delN at ih
    by_cases h : m = k
    · subst h
      simp only [ne_eq, decide_not, decide_true, Bool.not_true, Bool.false_eq_true, if_false] at ih ⊢
      rw [ih, lookN_cons, if_neg (fun e => hj e.symm)]
    · simp only [ne_eq, h, not_false_eq_true, decide_true, if_true] at ih ⊢
      rw [lookN_cons, lookN_cons, ih]
/-- names that rise are known by their looks -/
theorem nm_ext : ∀ (M N : NM), Rises M → Rises N → (∀ k, lookN M k = lookN N k) → M = N
  | [], [], _, _, _ => rfl
  | [], (n, g) :: N, _, _, h => by have := h n; rw [lookN_cons, if_pos rfl] at this; cases this
  | (m, f) :: M, [], _, _, h => by have := h m; rw [lookN_cons, if_pos rfl] at this; cases this
  | (m, f) :: M, (n, g) :: N, h1, h2, h => by
    have h1' := h1
    have h2' := h2
    unfold Rises at h1 h2
    rw [List.pairwise_cons] at h1 h2
    have hmn : m = n := by
      have e1 := h m
      rw [lookN_cons, if_pos rfl] at e1
      have a1 := lookN_mem _ _ _ e1.symm
      have e2 := h n
      rw [lookN_cons (m := n), if_pos rfl] at e2
      have a2 := lookN_mem _ _ _ e2
      rcases List.mem_cons.1 a1 with e | a1
      · injection e
      · rcases List.mem_cons.1 a2 with e | a2
        · injection e with e; exact e.symm
        · exact absurd (List.lt_trans (h2.1 _ a1) (h1.1 _ a2)) (List.lt_irrefl _)
    subst hmn
    have hfg : f = g := by
      have := h m
      rw [lookN_cons, lookN_cons, if_pos rfl, if_pos rfl] at this
      injection this
    subst hfg
    rw [nm_ext M N h1.2 h2.2 fun k => ?_]
    by_cases hk : m = k
    · subst hk
      rw [lookN_none M m (fun x hx e => by have := h1.1 x hx; rw [e] at this; exact List.lt_irrefl _ this), lookN_none N m (fun x hx e => by have := h2.1 x hx; rw [e] at this; exact List.lt_irrefl _ this)]
    · have := h k
      rwa [lookN_cons, lookN_cons, if_neg hk, if_neg hk] at this
end Go.Proofs.YtheoklhmlnfgjaaGreatDoor
/-
  The bytes of a text.
-/
namespace Go.Proofs.YtheoklhmlnfgjaaGreatDoor
open Go.RowKit

theorem bt_str (s : ByteArray) (k : Nat) (h : k < s.size) : bt s.data.toList k = (s[k].toNat : Int) := by
  rw [bt_get _ k (by rw [Array.length_toList]; exact h)]; rfl
theorem size_list (s : ByteArray) : s.data.toList.length = s.size := by rw [Array.length_toList]; rfl
theorem empty_size (s : ByteArray) : decide (0 < s.size) = !s.data.toList.isEmpty := by
  rw [← size_list]; cases s.data.toList <;> simp
theorem byte_le (s : ByteArray) (k : Nat) (h : k < s.size) : 0 ≤ (s[k].toNat : Int) ∧ (s[k].toNat : Int) ≤ 255 := by
  have := s[k].toNat_lt; omega
end Go.Proofs.YtheoklhmlnfgjaaGreatDoor
/-
  A map from names to files (blocks): the words for the walk.
-/
namespace Go.Proofs.YtheoklhmlnfgjaaGreatDoor
open Go.RowKit Go.Maps

theorem before_lt : ∀ a b : BS, bytesBefore a b = decide (a < b)
  | [], [] => by simp [bytesBefore]
  | _ :: _, [] => by simp [bytesBefore]
  | [], _ :: _ => by simp [bytesBefore]
  | x :: a, y :: b => by
    have ih := before_lt a b
    simp only [bytesBefore, ih]
    rw [Bool.eq_iff_iff]
    simp [List.cons_lt_cons_iff]

/-- how a file's pointer reads: its block -/
def fileR : Value → Option (DataW Unit × List MemPlace)
  | .pointer none => some (.lit (.int .i64 (-1)), [])
  | .pointer (some ⟨b, 0, none⟩) => some (.lit (.int .i64 b), [])
  | _ => none
def fileV : Option Nat → Value
  | none => .pointer none
  | some b => .pointer (some ⟨b, 0, none⟩)
def fileD : Option Nat → DataW Unit
  | none => .lit (.int .i64 (-1))
  | some b => .lit (.int .i64 b)
theorem fileR_mk (o : Option Nat) : fileR (fileV o) = some (fileD o, []) := by cases o <;> rfl
theorem fileR_inv {v : Value} {o : Option Nat} {ps : List MemPlace} (h : fileR v = some (fileD o, ps)) : v = fileV o := by
  unfold fileR at h
  split at h
  · cases o with
    | none => rfl
    | some b =>
      simp only [Option.some.injEq, Prod.mk.injEq, fileD, DataW.lit.injEq, Lit.int.injEq, true_and] at h
      omega
  · rename_i b
    cases o with
    | none =>
      simp only [Option.some.injEq, Prod.mk.injEq, fileD, DataW.lit.injEq, Lit.int.injEq, true_and] at h
      omega
    | some c =>
      simp only [Option.some.injEq, Prod.mk.injEq, fileD, DataW.lit.injEq, Lit.int.injEq, true_and] at h
      have : b = c := by omega
      rw [this]; rfl
  · cases h

def encN (x : BS × Nat) : Lit × DataW Unit := (.string x.1, .lit (.int .i64 x.2))
def Dm (M : NM) : DataW Unit := .map (M.map encN)
theorem same_str (a b : BS) : (Lit.string a).sameKey (.string b) = decide (a = b) := by
  rw [Bool.eq_iff_iff]
  simp [Lit.sameKey]
theorem filter_enc (k : BS) (M : NM) : (M.map encN).filter (fun p => !p.1.sameKey (.string k)) = (delN k M).map encN := by
  unfold delN
  rw [List.filter_map]
  congr 1
  apply List.filter_congr
  intro x _
  show (!((Lit.string x.1).sameKey (.string k))) = decide (x.1 ≠ k)
  rw [same_str]
  simp
theorem delN_out (k : BS) (M : NM) (h : ∀ x ∈ M, x.1 ≠ k) : delN k M = M := by
  unfold delN
  rw [List.filter_eq_self]
  intro x hx
  simpa using h x hx
theorem insert_enc (k : BS) (f : Nat) : ∀ M : NM, Rises M → DataW.insert (encN (k, f)) ((delN k M).map encN) = (insN k f M).map encN
  | [], _ => rfl
  | (m, g) :: M, h => by
    have h' := h
    unfold Rises at h
    rw [List.pairwise_cons] at h
    have ih := insert_enc k f M h.2
    by_cases e : m = k
    · subst e
      have hd : delN m ((m, g) :: M) = M := by
        have : delN m ((m, g) :: M) = delN m M := by unfold delN; rw [List.filter_cons]; simp
        rw [this]
        exact delN_out m M fun x hx e2 => by have := h.1 x hx; rw [e2] at this; exact List.lt_irrefl _ this
      rw [hd]
      unfold insN
      rw [if_pos rfl]
      cases M with
      | nil => rfl
      | cons y M =>
        rw [List.map_cons, DataW.insert, if_pos]
        · rfl
        · show bytesBefore m y.1 = true
          rw [before_lt]; exact decide_eq_true (h.1 y (List.mem_cons_self ..))
    · have hd : delN k ((m, g) :: M) = (m, g) :: delN k M := by unfold delN; rw [List.filter_cons, if_pos (by simpa using e)]
      rw [hd]
      unfold insN
      rw [if_neg e]
      by_cases hlt : k < m
      · rw [if_pos hlt, List.map_cons, DataW.insert, if_pos]
        · rw [delN_out k M fun x hx e2 => by have := List.lt_trans hlt (h.1 x hx); rw [e2] at this; exact List.lt_irrefl _ this]
          rfl
        · show bytesBefore k m = true
          rw [before_lt]; exact decide_eq_true hlt
      · rw [if_neg hlt, List.map_cons, DataW.insert, if_neg, ih]
        · rfl
        · show ¬ bytesBefore k m = true
          rw [before_lt]; simpa using hlt
theorem Dm_put (k : BS) (f : Nat) (M : NM) (h : Rises M) : (Dm M).put (.string k) (fileD (some f)) = Dm (insN k f M) := by
  show DataW.map (DataW.insert (Lit.string k, fileD (some f)) ((M.map encN).filter fun p => !p.1.sameKey (.string k))) = _
  rw [filter_enc]
  exact congrArg DataW.map (insert_enc k f M h)
theorem Dm_del (k : BS) (M : NM) : (Dm M).del (.string k) = Dm (delN k M) := by
  show DataW.map ((M.map encN).filter fun p => !p.1.sameKey (.string k)) = _
  rw [filter_enc]; rfl
theorem Dm_at (k : BS) : ∀ M : NM, (Dm M).atKey (.string k) (fileD none) = fileD (lookN M k)
  | [] => rfl
  | (m, g) :: M => by
    have ih := Dm_at k M
    unfold Dm DataW.atKey at ih ⊢
    simp only at ih ⊢
    rw [lookN_cons, List.map_cons, List.find?_cons]
    rw [show (encN (m, g)).1.sameKey (.string k) = decide (m = k) from same_str m k]
    by_cases e : m = k
    · rw [if_pos e, decide_eq_true e]; rfl
    · rw [if_neg e, decide_eq_false e]; exact ih
theorem Dm_keys (M : NM) : strKeys (Dm M) = M.map (·.1) := by
  show (M.map encN).map (fun p => strOf p.1) = _
  rw [List.map_map]; rfl

/-- block b is a map that leads from the names to files' blocks -/
def OwnN (w : World) (b : Nat) (M : NM) : Prop := Rises M ∧ w.ownsMap Tryz.prog 9 fileR b M.length (Dm M)
theorem ownsMap_len {w : World} {b n : Nat} {M : NM} (h : w.ownsMap Tryz.prog 9 fileR b n (Dm M)) : w.ownsMap Tryz.prog 9 fileR b M.length (Dm M) := by
  obtain ⟨es, clock, hb, F, hs, hD⟩ := h
  refine ⟨es, clock, hb, F, ?_, hD⟩
  have e : (M.map encN).length = es.size := by
    have : M.map encN = (es.toList.map (Go.WideElems.rg Tryz.prog 9 fileR)).foldr DataW.insert [] := by
      unfold Dm at hD
      injection hD
    rw [this, length_sorted]; simp
  rw [List.length_map] at e
  omega
theorem OwnN.lt {w : World} {b : Nat} {M : NM} (h : OwnN w b M) : b < w.heap.size := h.2.lt
theorem OwnN.kept {w w' : World} {b : Nat} {M : NM} (h : OwnN w b M) (hb : w'.heap[b]? = w.heap[b]?) : OwnN w' b M := by
  obtain ⟨h1, es, clock, h2, r⟩ := h
  exact ⟨h1, es, clock, hb.trans h2, r⟩
theorem OwnN.below {w w' : World} {b : Nat} {M : NM} (h : OwnN w b M) (hb : Below w.heap.size w w') : OwnN w' b M := h.kept (hb.block b h.lt)
theorem OwnN.made (w : World) : OwnN (w.alloc (.map #[] 0)) w.heap.size [] := ⟨List.Pairwise.nil, World.ownsMap_made w _ _ _⟩
end Go.Proofs.YtheoklhmlnfgjaaGreatDoor
/-
  Structures of the library at this program's numbers.
-/
namespace Go.Proofs
open Go.Shelf
def Tryz.laysKeys_ren : Go.Shelf.Ren := ⟨fun | 7 => 70 | 10 => 92 | n => n, fun | 23 => 112 | 26 => 9 | 3 => 117 | 28 => 125 | 0 => 0 | 27 => 124 | 33 => 87 | 4 => 4 | n => n, fun | n => n⟩
theorem Tryz.laysKeys : Go.Proofs.SlLaysZ.n7 Tryz.prog Tryz.laysKeys_ren := {
  mixed := by kernel_rfl
  f7 := ⟨Tryz.f70.name, by decide, Tryz.func70.trans (congrArg some (by kernel_rfl))⟩
  f10 := ⟨Tryz.f92.name, by decide, Tryz.func92.trans (congrArg some (by kernel_rfl))⟩
  t0 := Tryz.underlying0
  a0 := Tryz.isAgg0
  z0 := Tryz.sizeOf0
  v0 := Tryz.zeroValue0
  t4 := Tryz.underlying4
  a4 := Tryz.isAgg4
  z4 := Tryz.sizeOf4
  v4 := Tryz.zeroValue4
  t23 := Tryz.underlying112
  a23 := Tryz.isAgg112
  z23 := Tryz.sizeOf112
  v23 := Tryz.zeroValue112
  t26 := Tryz.underlying9
  a26 := Tryz.isAgg9
  z26 := Tryz.sizeOf9
  v26 := Tryz.zeroValue9
  t27 := Tryz.underlying124
  a27 := Tryz.isAgg124
  z27 := Tryz.sizeOf124
  v27 := Tryz.zeroValue124
  t28 := Tryz.underlying125
  a28 := Tryz.isAgg125
  z28 := Tryz.sizeOf125
  v28 := Tryz.zeroValue125
  t33 := Tryz.underlying87
  a33 := Tryz.isAgg87
  z33 := Tryz.sizeOf87
  v33 := Tryz.zeroValue87 }
def Tryz.laysSorted_ren : Go.Shelf.Ren := ⟨fun | 6 => 69 | 8 => 90 | 9 => 91 | 11 => 104 | 13 => 106 | 12 => 105 | 23 => 122 | 24 => 123 | 14 => 113 | 15 => 114 | 16 => 115 | 17 => 116 | 18 => 117 | 19 => 118 | 20 => 119 | 21 => 120 | 22 => 121 | 25 => 127 | 26 => 128 | 27 => 129 | 28 => 130 | 29 => 131 | 30 => 132 | 31 => 137 | n => n, fun | 26 => 9 | 28 => 125 | 24 => 95 | 0 => 0 | 3 => 3 | 37 => 130 | 48 => 129 | 50 => 128 | 4 => 4 | 40 => 164 | 39 => 163 | 45 => 169 | 5 => 5 | 9 => 9 | 51 => 174 | 55 => 178 | 57 => 188 | 58 => 189 | 33 => 87 | n => n, fun | n => n⟩
theorem Tryz.laysSorted : Go.Proofs.SlLaysZ.n6 Tryz.prog Tryz.laysSorted_ren := {
  mixed := by kernel_rfl
  f6 := ⟨Tryz.f69.name, by decide, Tryz.func69.trans (congrArg some (by kernel_rfl))⟩
  f8 := ⟨Tryz.f90.name, by decide, Tryz.func90.trans (congrArg some (by kernel_rfl))⟩
  f11 := ⟨Tryz.f104.name, by decide, Tryz.func104.trans (congrArg some (by kernel_rfl))⟩
  t0 := Tryz.underlying0
  a0 := Tryz.isAgg0
  z0 := Tryz.sizeOf0
  v0 := Tryz.zeroValue0
  t24 := Tryz.underlying95
  a24 := Tryz.isAgg95
  z24 := Tryz.sizeOf95
  v24 := Tryz.zeroValue95
  t26 := Tryz.underlying9
  a26 := Tryz.isAgg9
  z26 := Tryz.sizeOf9
  v26 := Tryz.zeroValue9
  t28 := Tryz.underlying125
  a28 := Tryz.isAgg125
  z28 := Tryz.sizeOf125
  v28 := Tryz.zeroValue125
  i26 := by kernel_rfl }
def Tryz.laysSortM_ren : Go.Shelf.Ren := ⟨fun | 6 => 91 | 8 => 106 | 9 => 105 | 19 => 122 | 20 => 123 | 21 => 113 | 22 => 114 | 23 => 115 | 24 => 116 | 25 => 117 | 26 => 118 | 27 => 119 | 28 => 120 | 29 => 121 | 36 => 127 | 31 => 128 | 32 => 129 | 37 => 130 | 38 => 131 | 39 => 132 | 41 => 137 | n => n, fun | 27 => 95 | 29 => 9 | 3 => 3 | 32 => 130 | 26 => 95 | 0 => 0 | 44 => 129 | 46 => 128 | 4 => 4 | 36 => 164 | 35 => 163 | 41 => 169 | 5 => 5 | 9 => 9 | 53 => 174 | 57 => 178 | 63 => 188 | 64 => 189 | n => n, fun | n => n⟩
theorem Tryz.laysSortM : Go.Proofs.SlLaysM.n6 Tryz.prog Tryz.laysSortM_ren := {
  mixed := by kernel_rfl
  f6 := ⟨Tryz.f91.name, by decide, Tryz.func91.trans (congrArg some (by kernel_rfl))⟩
  f8 := Tryz.func106.trans (congrArg some (by kernel_rfl))
  f9 := ⟨Tryz.f105.name, by decide, Tryz.func105.trans (congrArg some (by kernel_rfl))⟩
  f19 := Tryz.func122.trans (congrArg some (by kernel_rfl))
  f20 := Tryz.func123.trans (congrArg some (by kernel_rfl))
  f21 := ⟨Tryz.f113.name, by decide, Tryz.func113.trans (congrArg some (by kernel_rfl))⟩
  f22 := ⟨Tryz.f114.name, by decide, Tryz.func114.trans (congrArg some (by kernel_rfl))⟩
  f23 := ⟨Tryz.f115.name, by decide, Tryz.func115.trans (congrArg some (by kernel_rfl))⟩
  f24 := ⟨Tryz.f116.name, by decide, Tryz.func116.trans (congrArg some (by kernel_rfl))⟩
  f25 := ⟨Tryz.f117.name, by decide, Tryz.func117.trans (congrArg some (by kernel_rfl))⟩
  f26 := ⟨Tryz.f118.name, by decide, Tryz.func118.trans (congrArg some (by kernel_rfl))⟩
  f27 := ⟨Tryz.f119.name, by decide, Tryz.func119.trans (congrArg some (by kernel_rfl))⟩
  f28 := ⟨Tryz.f120.name, by decide, Tryz.func120.trans (congrArg some (by kernel_rfl))⟩
  f29 := ⟨Tryz.f121.name, by decide, Tryz.func121.trans (congrArg some (by kernel_rfl))⟩
  f31 := Tryz.func128.trans (congrArg some (by kernel_rfl))
  f32 := Tryz.func129.trans (congrArg some (by kernel_rfl))
  f36 := ⟨Tryz.f127.name, by decide, Tryz.func127.trans (congrArg some (by kernel_rfl))⟩
  f37 := ⟨Tryz.f130.name, by decide, Tryz.func130.trans (congrArg some (by kernel_rfl))⟩
  f38 := ⟨Tryz.f131.name, by decide, Tryz.func131.trans (congrArg some (by kernel_rfl))⟩
  f39 := ⟨Tryz.f132.name, by decide, Tryz.func132.trans (congrArg some (by kernel_rfl))⟩
  f41 := ⟨Tryz.f137.name, by decide, Tryz.func137.trans (congrArg some (by kernel_rfl))⟩
  t0 := Tryz.underlying0
  a0 := Tryz.isAgg0
  z0 := Tryz.sizeOf0
  v0 := Tryz.zeroValue0
  t3 := Tryz.underlying3
  a3 := Tryz.isAgg3
  z3 := Tryz.sizeOf3
  v3 := Tryz.zeroValue3
  t4 := Tryz.underlying4
  a4 := Tryz.isAgg4
  z4 := Tryz.sizeOf4
  v4 := Tryz.zeroValue4
  t5 := Tryz.underlying5
  a5 := Tryz.isAgg5
  z5 := Tryz.sizeOf5
  v5 := Tryz.zeroValue5
  t9 := Tryz.underlying9
  a9 := Tryz.isAgg9
  z9 := Tryz.sizeOf9
  v9 := Tryz.zeroValue9
  t26 := Tryz.underlying95
  a26 := Tryz.isAgg95
  z26 := Tryz.sizeOf95
  v26 := Tryz.zeroValue95
  t27 := Tryz.underlying95
  a27 := Tryz.isAgg95
  z27 := Tryz.sizeOf95
  v27 := Tryz.zeroValue95
  t29 := Tryz.underlying9
  a29 := Tryz.isAgg9
  z29 := Tryz.sizeOf9
  v29 := Tryz.zeroValue9
  t32 := Tryz.underlying130
  a32 := Tryz.isAgg130
  z32 := Tryz.sizeOf130
  v32 := Tryz.zeroValue130
  t35 := Tryz.underlying163
  a35 := Tryz.isAgg163
  z35 := Tryz.sizeOf163
  v35 := Tryz.zeroValue163
  t36 := Tryz.underlying164
  a36 := Tryz.isAgg164
  z36 := Tryz.sizeOf164
  v36 := Tryz.zeroValue164
  t41 := Tryz.underlying169
  a41 := Tryz.isAgg169
  z41 := Tryz.sizeOf169
  v41 := Tryz.zeroValue169
  t44 := Tryz.underlying129
  a44 := Tryz.isAgg129
  z44 := Tryz.sizeOf129
  v44 := Tryz.zeroValue129
  t46 := Tryz.underlying128
  a46 := Tryz.isAgg128
  z46 := Tryz.sizeOf128
  v46 := Tryz.zeroValue128
  t53 := Tryz.underlying174
  a53 := Tryz.isAgg174
  z53 := Tryz.sizeOf174
  v53 := Tryz.zeroValue174
  t57 := Tryz.underlying178
  a57 := Tryz.isAgg178
  z57 := Tryz.sizeOf178
  v57 := Tryz.zeroValue178
  t63 := Tryz.underlying188
  a63 := Tryz.isAgg188
  z63 := Tryz.sizeOf188
  v63 := Tryz.zeroValue188
  t64 := Tryz.underlying189
  a64 := Tryz.isAgg189
  z64 := Tryz.sizeOf189
  v64 := Tryz.zeroValue189 }
def Tryz.laysClone_ren : Go.Shelf.Ren := ⟨fun | 5 => 68 | 7 => 89 | n => n, fun | 23 => 112 | 25 => 9 | 3 => 117 | 4 => 4 | 20 => 20 | n => n, fun | n => n⟩
theorem Tryz.laysClone : Go.Proofs.SlLaysW.n5 Tryz.prog Tryz.laysClone_ren := {
  mixed := by kernel_rfl
  f5 := ⟨Tryz.f68.name, by decide, Tryz.func68.trans (congrArg some (by kernel_rfl))⟩
  f7 := Tryz.func89.trans (congrArg some (by kernel_rfl))
  t4 := Tryz.underlying4
  a4 := Tryz.isAgg4
  z4 := Tryz.sizeOf4
  v4 := Tryz.zeroValue4
  t20 := Tryz.underlying20
  a20 := Tryz.isAgg20
  z20 := Tryz.sizeOf20
  v20 := Tryz.zeroValue20
  t23 := Tryz.underlying112
  a23 := Tryz.isAgg112
  z23 := Tryz.sizeOf112
  v23 := Tryz.zeroValue112 }
end Go.Proofs
/-
  append onto bytes of the call's own, a little beyond the guide's bound: what grows takes at most five quarters of what is wanted. No program is in sight here, but for the types' numbers.
-/
namespace Go.Proofs.YtheoklhmlnfgjaaGreatDoor
open Go.RowKit

theorem growBy_le (need : Nat) : ∀ (r c : Nat), c ≤ need + need / 4 + 192 → Builtin.growBy need r c ≤ need + need / 4 + 192 := by
  intro r
  induction r with
  | zero => intro c h; exact h
  | succ r ih =>
    intro c h
    unfold Builtin.growBy
    by_cases hc : c ≥ need
    · rw [if_pos hc]; exact h
    · rw [if_neg hc]; exact ih _ (by omega)
theorem nextslicecap_le (need old : Nat) (h : old < need) : Builtin.nextslicecap need old ≤ need + need / 4 + 512 := by
  unfold Builtin.nextslicecap
  split
  · omega
  · split
    · omega
    · have := growBy_le need 4 old (by omega); omega

section
variable {P : Program} (w : World)
theorem run_append_fit (base : Nat) (t tx ty e : TypeId) (i : TypeInfo) (z : Value) (size bytes : Nat) (ht : P.underlying t = some (.slice e)) (hi : P.info? e = some i) (hz : i.zero = some z)
    (hsize : i.size = size) (hby : i.bytes = bytes) (hzs : z.cells.size = size)
    (v : Value) (n : Nat) (xs : List Value) (hown : w.ownsRow base e size v n xs)
    (x : Value) (m : Nat) (news : List Value) (hs : Src P size tx x m news w)
    (h63 : n + m ≤ maxLen) (hfit : ∀ old, old < n + m → Builtin.nextslicecap (n + m) old * bytes ≤ 281474976710656) (hbase : base ≤ w.heap.size) :
    ∃ v' w', (Builtin.append_ #[t, tx] ty #[v, x]).run P w = .ok v' w' ∧ w'.ownsRow base e size v' (n + m) (xs ++ news) ∧ w.grownBy w' v.ownBlock ∧
      (v' = .slice none 0 0 ↔ v = .slice none 0 0 ∧ m = 0) := by
  subst hsize
  subst hby
  have hl : news.length = m * i.size := hs.newsLen
  have hsmall : n + m ≤ 9223372036854775807 := by simp only [maxLen] at h63; omega
  have hlen : (xs ++ news).length = (n + m) * i.size := by rw [List.length_append, hown.1, hl, Nat.add_mul]
  have grown : ∀ (old : Nat), old < n + m → ∀ (row : Option Nat),
      (w.drew.alloc (.cells ((xs ++ news).toArray ++ Builtin.zeroCells z.cells (grownCap w (n + m) old e - (n + m))) e)).ownsRow base e i.size
        (.slice (some ⟨w.heap.size, 0, none⟩) (n + m) (grownCap w (n + m) old e)) (n + m) (xs ++ news) ∧
      w.grownBy (w.drew.alloc (.cells ((xs ++ news).toArray ++ Builtin.zeroCells z.cells (grownCap w (n + m) old e - (n + m))) e)) row := by
    intro old ho row
    have hge := grownCap_ge w (n + m) old e
    have hcm : grownCap w (n + m) old e ≤ maxLen := grownCap_le_maxLen w (n + m) old e h63
    refine ⟨⟨hlen, .inr ⟨w.heap.size, _, _, rfl, hbase, heap_alloc_new w.drew _, hge, hcm, ?_, ?_⟩⟩, ⟨rfl, rfl, rfl, by simp, fun k hk _ => Below.heap_alloc w.drew _ k hk⟩⟩
    · simp only [Array.size_append, List.size_toArray, size_zeroCells, hzs, hlen, ← Nat.add_mul]
      congr 1
      omega
    · simp only [Array.toList_append]
      rw [← hlen]
      exact List.take_left
  rcases hown.2 with ⟨rfl, rfl⟩ | ⟨g, cap, cur, rfl, hbg, hg, hnc, hcm, hcs, htake⟩
  · have hx : xs = [] := List.eq_nil_of_length_eq_zero (by simpa using hown.1)
    subst hx
    by_cases hm : m = 0
    · subst hm
      have hn : news = [] := List.eq_nil_of_length_eq_zero (by simpa using hl)
      subst hn
      exact ⟨.slice none 0 0, w, run_nothing_nil w t tx ty e i ht hi x hs, World.ownsRow_nil w base e i.size, ⟨rfl, rfl, rfl, Nat.le_refl _, fun _ _ _ => rfl⟩, by simp⟩
    · have hr := run_append_grow_src (P := P) w t tx ty e i z ht hi hz none 0 0 [] (run_firstCells_none w.drew i.size 0 0 0) x m news hs (by omega) (by omega) (by have := hfit 0 (by omega); simpa using this)
      have hgr := grown 0 (by omega) (Value.ownBlock (.slice none 0 0))
      simp only [Nat.zero_add, List.nil_append] at hgr hr ⊢
      exact ⟨_, _, hr, hgr.1, hgr.2, by simp [hm]⟩
  · by_cases hroom : n + m ≤ cap
    · have hfit : n * i.size + news.length ≤ cur.size := by rw [hl, hcs, ← Nat.add_mul]; exact Nat.mul_le_mul_right _ hroom
      have hr := run_room_row (P := P) w t tx ty e i ht hi g n cap cur hg x m news hs hroom hfit
      refine ⟨_, _, hr, ⟨hlen, .inr ⟨g, cap, _, rfl, hbg, setRow_heap w g cur _ e _ hg, hroom, hcm, ?_, ?_⟩⟩, ⟨rfl, rfl, rfl, by simp, fun k _ hk => setRow_other w g k _ (fun e => hk (by simp [Value.ownBlock, e]))⟩, by simp⟩
      · simp only [List.size_toArray, List.length_append, List.length_take, List.length_drop, Array.length_toList]
        omega
      · rw [htake, ← hlen]
        exact List.take_left
    · have holds : ∀ j u, xs[j]? = some u → w.cell? ((⟨g, 0, none⟩ : Addr).add j) = some u := hown.cells (g := g) rfl
      have hold := run_firstCells_some (P := P) w.drew i.size n ⟨g, 0, none⟩ n cap xs hown.1 (by simpa using holds)
      have hr := run_append_grow_src (P := P) w t tx ty e i z ht hi hz (some ⟨g, 0, none⟩) n cap xs hold x m news hs (by omega) (by omega) (hfit cap (by omega))
      have hgr := grown cap (by omega) (Value.ownBlock (.slice (some ⟨g, 0, none⟩) n cap))
      exact ⟨_, _, hr, hgr.1, hgr.2, by simp⟩
end

/-- append onto a row of the call's own: what grows takes at most five quarters of what is wanted -/
theorem wpList_append_fit {P : Program} (w : World) {ops : Array Oper} {rest : List Oper} {o : Oper} {a : Act} {Q : Exit → Act → World → Prop} (hgd : o.guard = none) (s x : Operand) (t tx : TypeId)
    (ho : o.op = .call { callee := .builtin .append, args := #[s, x], argTypes := #[t, tx] })
    (base : Nat) (e : TypeId) (z : Value) (size bytes : Nat) (ht : P.underlying t = some (.slice e)) (hi : (P.info? e).map (fun i => (i.zero, i.size, i.bytes)) = some (some z, size, bytes))
    (hzs : z.cells.size = size)
    (v : Value) (n : Nat) (xs : List Value) (hv : a.eval s = v) (hown : w.ownsRow base e size v n xs)
    (y : Value) (m : Nat) (news : List Value) (hx : a.eval x = y) (hs : Src P size tx y m news w)
    (h63 : n + m ≤ maxLen) (hbytes : (n + m + (n + m) / 4 + 512) * bytes ≤ 281474976710656) (hbase : base ≤ w.heap.size)
    (h : ∀ v' w', w'.ownsRow base e size v' (n + m) (xs ++ news) → w.grownBy w' v.ownBlock → (v' = .slice none 0 0 ↔ v = .slice none 0 0 ∧ m = 0) → wpList P ops Q rest (a.put o.dst v') w') : wpList P ops Q (o :: rest) a w := by
  refine wpList_plain hgd fun K hK => ?_
  obtain ⟨i, hi, hz, hz1, hz2⟩ := info_parts hi
  obtain ⟨v', w', hr, h2, h3, h4⟩ := run_append_fit (P := P) w base t tx o.type e i z size bytes ht hi hz hz1 hz2 hzs v n xs hown y m news hs h63 (fun old hold => Nat.le_trans (Nat.mul_le_mul_right _ (nextslicecap_le _ _ hold)) hbytes) hbase
  unfold Oper.wp execOp
  simp only [ho, resolve, invoke, builtin, Sem.run_bind, Sem.run_pure, Result.andThen_ok, List.map_toArray, List.map_cons, List.map_nil, hv, hx, hr]
  exact hK _ _ (h v' w' h2 h3 h4)

section
variable {w : World}
/-- append of bytes onto bytes of the call's own: up to 200,000,000,000,000 of them -/
theorem wpList_append8w {ops : Array Oper} {rest : List Oper} {o : Oper} {a : Act} {Q : Exit → Act → World → Prop} (hgd : o.guard = none) (s x : Operand)
    (ho : o.op = .call { callee := .builtin .append, args := #[s, x], argTypes := #[22, 22] })
    (base : Nat) (v : Value) (l : List UInt8) (hv : a.eval s = v) (hown : Own8 w base v l)
    (p : Option Addr) (m c : Nat) (l2 : List UInt8) (hm : l2.length = m) (hx : a.eval x = .slice p m c) (hin : In8 w p l2)
    (hr : l.length + m ≤ 200000000000000) (hbase : base ≤ w.heap.size)
    (h : ∀ v' w', Own8 w' base v' (l ++ l2) → w.grownBy w' v.ownBlock → wpList Tryz.prog ops Q rest (a.put o.dst v') w') : wpList Tryz.prog ops Q (o :: rest) a w := by
  subst hm
  refine wpList_plain hgd fun K hK => ?_
  obtain ⟨i, hi, hz, hz1, hz2⟩ := info_parts info8
  obtain ⟨v', w', hr', h2, h3, _⟩ := run_append_fit (P := Tryz.prog) w base 22 22 o.type 5 i (.int .u8 0) 1 1 Tryz.underlying22 hi hz hz1 hz2 rfl v l.length (by8 l) hown _ l2.length (by8 l2) (Src.of8 (c := c) hin) (by unfold maxLen; omega) (fun old ho' => by have := nextslicecap_le _ _ ho'; omega) hbase
  unfold Oper.wp execOp
  simp only [ho, resolve, invoke, builtin, Sem.run_bind, Sem.run_pure, Result.andThen_ok, List.map_toArray, List.map_cons, List.map_nil, hv, hx, hr']
  exact hK _ _ (h v' w' (by unfold Own8; rw [List.length_append, by8_append]; exact h2) h3)
end
end Go.Proofs.YtheoklhmlnfgjaaGreatDoor
/-
  Bytes made a text.
-/
namespace Go.Proofs.YtheoklhmlnfgjaaGreatDoor
open Go.RowKit

theorem strOf_bytes (l : List UInt8) : strOfNums (l.map fun b => (b.toNat : Int)) = ⟨l.toArray⟩ := by
  unfold strOfNums
  congr 2
  rw [List.map_map]
  conv => rhs; rw [← List.map_id l]
  apply List.map_congr_left
  intro b _
  simp

/-- bytes made a text -/
theorem run_toStr {w : World} {p : Option Addr} {l : List UInt8} (h : In8 w p l) (c : Nat) :
    (convert 22 9 (.slice p l.length c)).run Tryz.prog w = .ok (.string ⟨l.toArray⟩) w := by
  by_cases h0 : 0 < l.length
  · obtain ⟨b, o, rfl, hc⟩ := h h0
    rw [run_convert_bytes_arg (P := Tryz.prog) w 22 5 Tryz.underlying22 Tryz.underlying5 b o l.length c (l.map fun b => (b.toNat : Int)) (by simp) (fun i hi => ?_) 9 Tryz.underlying9, strOf_bytes]
    rw [hc i hi, bt_get l i hi]
    simp [List.getD_eq_getElem?_getD, hi]
  · obtain rfl : l = [] := List.eq_nil_of_length_eq_zero (by omega)
    show (convert 22 9 (.slice p 0 c)).run Tryz.prog w = .ok (.string ⟨#[]⟩) w
    rw [run_convert_bytes_string w 22 9 5 p 0 c Tryz.underlying22 Tryz.underlying5 Tryz.underlying9]
    cases p with
    | none => simp [Conv.bytesToString]; rfl
    | some a => exact run_bytesToString w a 0 c [] (by simp [loadCells, loadCellsFrom])
theorem toStr_at {w : World} {p : Option Addr} {l : List UInt8} {k : Nat} (h : In8 w p l) (hk : l.length = k) (c : Nat) :
    Sem.run Tryz.prog (convert 22 9 (.slice p k c)) w = .ok (.string ⟨l.toArray⟩) w := by
  subst hk; exact run_toStr h c

theorem ubyte_self (b : UInt8) : ubyte (b.toNat : Int) = b := by unfold ubyte; simp

/-- a byte stored into bytes at a known place -/
theorem In8.set {w : World} {b o : Nat} {l : List UInt8} (h : In8 w (some ⟨b, o, none⟩) l) (k : Nat) (z : Int) (h0 : 0 ≤ z) (h1 : z ≤ 255) :
    In8 (w.setCell ⟨b, o + k, none⟩ (.int .u8 z)) (some ⟨b, o, none⟩) (l.set k (ubyte z)) := by
  intro hl
  rw [List.length_set] at hl
  obtain ⟨b', o', e, hc⟩ := h hl
  simp only [Option.some.injEq, Addr.mk.injEq, and_true] at e
  obtain ⟨rfl, rfl⟩ := e
  refine ⟨b, o, rfl, fun i hi => ?_⟩
  rw [List.length_set] at hi
  by_cases hik : i = k
  · subst hik
    rw [World.cell?_setCell_same _ _ _ (hc i hi)]
    rw [bt_get (l.set i (ubyte z)) i (by simpa using hi), List.getElem_set_self, ubyte_toNat h0 h1]
  · rw [World.cell?_setCell_other _ _ _ _ (by simp <;> omega), hc i hi]
    rw [bt_get l i hi, bt_get (l.set k (ubyte z)) i (by simpa using hi), List.getElem_set_ne (by omega)]
end Go.Proofs.YtheoklhmlnfgjaaGreatDoor
/-
  Rows of texts: what it means that a slice of texts reads as a list, that a call owns one; append of a text.
-/
namespace Go.Proofs.YtheoklhmlnfgjaaGreatDoor
open Go.RowKit

/-- cells of one value each stand at the address (whatever it is, where there are none) -/
def InV (w : World) (p : Option Addr) (xs : List Value) : Prop :=
  0 < xs.length → ∃ b o, p = some ⟨b, o, none⟩ ∧ ∀ i, (h : i < xs.length) → w.cell? ⟨b, o + i, none⟩ = some xs[i]
theorem InV.at {w : World} {p : Option Addr} {xs : List Value} (h : InV w p xs) {k : Nat} (hk : k < xs.length) :
    ∃ b o, p = some ⟨b, o, none⟩ ∧ ∀ i, (h : i < xs.length) → w.cell? ⟨b, o + i, none⟩ = some xs[i] := h (by omega)
theorem InV.below {w w' : World} {p : Option Addr} {xs : List Value} (h : InV w p xs) (hb : Below w.heap.size w w') : InV w' p xs := by
  intro h0
  obtain ⟨b, o, rfl, hc⟩ := h h0
  refine ⟨b, o, rfl, fun i hi => ?_⟩
  have := hc i hi
  rw [hb.cell (p := ⟨b, o + i, none⟩) (World.block_lt_of_cell? w _ this)]
  exact this
theorem InV.drewN {w : World} {p : Option Addr} {xs : List Value} (h : InV w p xs) (n : Nat) : InV (w.drewN n) p xs := h
theorem InV.one (w : World) (x : Value) (e : TypeId) : InV (w.alloc (.cells #[x] e)) (some ⟨w.heap.size, 0, none⟩) [x] := by
  intro _
  refine ⟨w.heap.size, 0, rfl, fun i hi => ?_⟩
  obtain rfl : i = 0 := by simpa using hi
  simp only [World.cell?, heap_alloc_new w (.cells #[x] e)]; rfl
theorem InV.lit (w : World) (xs : List Value) (c : Array Value) (e : TypeId) (fr : Nat × Nat) (h : c.toList = xs) : InV (w.alloc (.cells c e fr)) (some ⟨w.heap.size, 0, none⟩) xs := by
  subst h
  intro _
  refine ⟨w.heap.size, 0, rfl, fun i hi => ?_⟩
  rw [cell_of_row _ _ _ _ _ _ (heap_alloc_new w (.cells c e fr)), Nat.zero_add, ← Array.getElem?_toList, List.getElem?_eq_getElem hi]

theorem owns_shape {w : World} {base e n : Nat} {v : Value} {xs : List Value} (h : w.ownsRow base e 1 v n xs) :
    ∃ p c, v = .slice p n c ∧ n ≤ c ∧ c ≤ maxLen ∧ InV w p xs ∧ (∀ a, p = some a → base ≤ a.block ∧ a.block < w.heap.size ∧ a.off = 0 ∧ a.spot = none) := by
  have hlt := h.lt
  have hl : xs.length = n := by have := h.1; omega
  rcases h.2 with ⟨rfl, hn⟩ | ⟨g, cap, cur, rfl, hb, hg, hnc, hcm, hcs, ht⟩
  · refine ⟨none, 0, by rw [hn], by omega, by unfold maxLen; omega, fun h0 => by omega, fun a ha => by cases ha⟩
  · refine ⟨some ⟨g, 0, none⟩, cap, rfl, hnc, hcm, fun h0 => ⟨g, 0, rfl, fun i hi => ?_⟩, fun a ha => ?_⟩
    · have := h.cellAt (g := g) (cap := cap) i (by omega)
      rw [Nat.zero_add, this, List.getElem?_eq_getElem hi]
    · obtain rfl := Option.some.inj ha
      exact ⟨hb, (hlt g rfl).2, rfl, rfl⟩

theorem srcV {w : World} {p : Option Addr} {xs : List Value} {c : Nat} {t e : TypeId} (ht : Tryz.prog.underlying t = some (.slice e)) (h : InV w p xs) (h1 : ∀ u ∈ xs, u.oneCell' = true) : Src Tryz.prog 1 t (.slice p xs.length c) xs.length xs w := by
  by_cases h0 : 0 < xs.length
  · obtain ⟨b, o, rfl, hc⟩ := h h0
    refine Src.ofSlice w ht ⟨b, o, none⟩ xs.length c xs (by simp) (fun j u hu => ?_) h1
    obtain ⟨hj, rfl⟩ := List.getElem?_eq_some_iff.1 hu
    rw [Go.WideShapes.add_plain]; exact hc j hj
  · obtain rfl : xs = [] := List.eq_nil_of_length_eq_zero (by omega)
    cases p with
    | none => exact Src.ofNil w ht c
    | some a => exact Src.ofSlice w ht a 0 c [] rfl (fun j u hu => by simp at hu) (fun u hu => by cases hu)

/-- the values of texts -/
def tx (L : List (List UInt8)) : List Value := L.map fun l => .string ⟨l.toArray⟩
theorem tx_length (L : List (List UInt8)) : (tx L).length = L.length := by simp [tx]
theorem tx_append (L M : List (List UInt8)) : tx (L ++ M) = tx L ++ tx M := by simp [tx]
theorem tx_one (L : List (List UInt8)) : ∀ u ∈ tx L, u.oneCell' = true := by
  intro u hu; obtain ⟨b, _, rfl⟩ := List.mem_map.1 hu; rfl
def InS (w : World) (p : Option Addr) (L : List (List UInt8)) : Prop := InV w p (tx L)
def OwnS (w : World) (base : Nat) (v : Value) (L : List (List UInt8)) : Prop := w.ownsRow base 9 1 v L.length (tx L)
theorem infoS : (Tryz.prog.info? 9).map (fun i => (i.zero, i.size, i.bytes)) = some (some (.string .empty), 1, 16) := by kernel_rfl

theorem InS.at {w : World} {p : Option Addr} {L : List (List UInt8)} (h : InS w p L) {k : Nat} (hk : k < L.length) :
    ∃ b o, p = some ⟨b, o, none⟩ ∧ ∃ a : ByteArray, w.cell? ⟨b, o + k, none⟩ = some (.string a) ∧ a.data.toList = L[k] := by
  obtain ⟨b, o, e, hc⟩ := InV.at h (k := k) (by rw [tx_length]; exact hk)
  refine ⟨b, o, e, _, (hc k (by rw [tx_length]; exact hk)).trans (by simp only [tx, List.getElem_map]; rfl), rfl⟩
theorem InS.below {w w' : World} {p : Option Addr} {L : List (List UInt8)} (h : InS w p L) (hb : Below w.heap.size w w') : InS w' p L := InV.below h hb
theorem InS.alloc {w : World} {p : Option Addr} {L : List (List UInt8)} (h : InS w p L) (o : Obj) : InS (w.alloc o) p L := h.below ((Below.refl _ w).alloc (Nat.le_refl _) o)
theorem InS.drewN {w : World} {p : Option Addr} {L : List (List UInt8)} (h : InS w p L) (n : Nat) : InS (w.drewN n) p L := h
theorem OwnS.nil (w : World) (base : Nat) : OwnS w base (.slice none 0 0) [] := World.ownsRow_nil _ _ _ _
theorem OwnS.made (w : World) : OwnS (w.alloc (.cells #[] 9)) w.heap.size (.slice (some ⟨w.heap.size, 0, none⟩) 0 0) [] :=
  World.ownsRow_made w #[] 0 (Nat.le_refl _) (by unfold maxLen; omega) rfl
theorem OwnS.below {w w' : World} {base : Nat} {v : Value} {L : List (List UInt8)} (h : OwnS w base v L) (hb : Below w.heap.size w w') : OwnS w' base v L := ownsRow_below h hb
theorem OwnS.mono {w : World} {base base' : Nat} {v : Value} {L : List (List UInt8)} (h : OwnS w base v L) (hb : base' ≤ base) : OwnS w base' v L := ownsRow_mono h hb
theorem OwnS.alloc {w : World} {base : Nat} {v : Value} {L : List (List UInt8)} (h : OwnS w base v L) (o : Obj) : OwnS (w.alloc o) base v L := World.ownsRow.alloc h o
theorem OwnS.shape {w : World} {base n : Nat} {v : Value} {L : List (List UInt8)} (h : OwnS w base v L) (hn : L.length = n) :
    ∃ p c, v = .slice p n c ∧ n ≤ c ∧ c ≤ maxLen ∧ InS w p L ∧ (∀ a, p = some a → base ≤ a.block ∧ a.block < w.heap.size ∧ a.off = 0 ∧ a.spot = none) := by
  subst hn; exact owns_shape h
theorem OwnS.grown {w w1 w' : World} {B : Nat} {v : Value} {L : List (List UInt8)} (hB : Below B w w1) (hs : B ≤ w1.heap.size) (hown : OwnS w1 B v L) (hg : w1.grownBy w' v.ownBlock) : Below B w w' :=
  hB.grown hg hs (fun k e => (World.ownsRow.lt hown k e).1)

section
variable {w : World}
/-- append of texts onto texts of the call's own -/
theorem wpList_appendS {ops : Array Oper} {rest : List Oper} {o : Oper} {a : Act} {Q : Exit → Act → World → Prop} (hgd : o.guard = none) (s x : Operand)
    (ho : o.op = .call { callee := .builtin .append, args := #[s, x], argTypes := #[95, 95] })
    (base : Nat) (v : Value) (L : List (List UInt8)) (hv : a.eval s = v) (hown : OwnS w base v L)
    (p : Option Addr) (m c : Nat) (M : List (List UInt8)) (hm : M.length = m) (hx : a.eval x = .slice p m c) (hin : InS w p M)
    (hr : L.length + m ≤ 12000000000000) (hbase : base ≤ w.heap.size)
    (h : ∀ v' w', OwnS w' base v' (L ++ M) → w.grownBy w' v.ownBlock → (v' = .slice none 0 0 ↔ v = .slice none 0 0 ∧ m = 0) → wpList Tryz.prog ops Q rest (a.put o.dst v') w') : wpList Tryz.prog ops Q (o :: rest) a w := by
  subst hm
  have hs : Src Tryz.prog 1 95 (.slice p M.length c) M.length (tx M) w := by
    have := srcV (c := c) (e := 9) Tryz.underlying95 hin (tx_one M)
    rwa [tx_length] at this
  refine wpList_append_fit w hgd s x 95 95 ho base 9 (.string .empty) 1 16 Tryz.underlying95 infoS rfl v L.length (tx L) hv hown _ M.length (tx M) hx hs (by unfold maxLen; omega) (by omega) hbase ?_
  intro v' w' ho' hg hn
  exact h v' w' (by unfold OwnS; rw [List.length_append, tx_append]; exact ho') hg hn
end

theorem InS.one (w : World) (t : ByteArray) : InS (w.alloc (.cells #[.string t] 9)) (some ⟨w.heap.size, 0, none⟩) [t.data.toList] := by
  have := InV.one w (.string t) 9
  have e : tx [t.data.toList] = [.string t] := by simp [tx]
  unfold InS; rw [e]; exact this

theorem strs_eq (a b : ByteArray) : (a.toList == b.toList) = decide (a.data.toList = b.data.toList) := by
  rw [Lib.toList_data, Lib.toList_data]
  by_cases h : a.data.toList = b.data.toList
  · rw [decide_eq_true h]; exact beq_iff_eq.2 h
  · rw [decide_eq_false h]; exact beq_eq_false_iff_ne.2 h
end Go.Proofs.YtheoklhmlnfgjaaGreatDoor
/-
  Look-up, store, delete, clone and the sorted names of a map of files.
-/
namespace Go.Proofs.YtheoklhmlnfgjaaGreatDoor
open Go.RowKit Go.Maps Go.Sort Go.Shelf

theorem mapT : Tryz.prog.underlying 112 = some (.map 9 117) := Tryz.underlying112
theorem keyedS : Keyed Tryz.prog 9 := string_keyed Tryz.underlying9
theorem zeroP (w : World) : (zeroValue 117).run Tryz.prog w = .ok (.pointer none) w := by kernel_rfl
theorem keyS (s : ByteArray) (h : s.size ≤ maxLen) : keyOf Tryz.prog 9 (.string s) = some (.string s.data.toList) := Go.WideMaps.keyOf_string_mk Tryz.underlying9 h

/-- m[k] -/
theorem run_lookF {w : World} {b : Nat} {M : NM} (h : OwnN w b M) (k : ByteArray) (hk : k.size ≤ maxLen) :
    (Instr.lookup 112 (.map (some b)) (.string k) false).run Tryz.prog w = .ok (fileV (lookN M k.data.toList)) w := by
  obtain ⟨v, ps, hrun, hv⟩ := h.2.lookup keyedS mapT (zeroP w) (fileR_mk none) (keyS k hk)
  rw [Dm_at] at hv
  rw [hrun, fileR_inv hv]
/-- m[k] = f -/
theorem run_putF {w : World} {b : Nat} {M : NM} (h : OwnN w b M) (k : ByteArray) (f : Nat) (hk : k.size ≤ maxLen) (hl : M.length < maxLen) :
    ∃ w', (Instr.mapUpdate 112 (.map (some b)) (.string k) (.pointer (some ⟨f, 0, none⟩))).run Tryz.prog w = .ok () w' ∧ OwnN w' b (insN k.data.toList f M) ∧ w.grownBy w' (some b) ∧ w'.heap.size = w.heap.size := by
  obtain ⟨w', hrun, hown, hturn⟩ := h.2.store keyedS mapT hl (keyS k hk) (fileR_mk (some f))
  rw [Dm_put _ _ _ h.1] at hown
  refine ⟨w', hrun, ⟨insN_rises _ _ _ h.1, ownsMap_len hown⟩, hturn.grown, ?_⟩
  obtain ⟨_, _, _, _, _, rfl⟩ := hturn
  simp [Go.ChangeMaps.setBlock]
/-- delete(m, k) -/
theorem run_delF {w : World} {b : Nat} {M : NM} (h : OwnN w b M) (k : ByteArray) (hk : k.size ≤ maxLen) :
    ∃ w', (∀ ty : TypeId, (Builtin.delete_ #[112, 9] ty #[.map (some b), .string k]).run Tryz.prog w = .ok (.tuple #[]) w') ∧ OwnN w' b (delN k.data.toList M) ∧ w.grownBy w' (some b) ∧ w'.heap.size = w.heap.size := by
  obtain ⟨w', hrun, hown, hturn⟩ := h.2.drop keyedS mapT (keyS k hk) 0
  rw [Dm_del] at hown
  refine ⟨w', fun _ => hrun, ⟨delN_rises _ _ h.1, ownsMap_len hown⟩, hturn.grown, ?_⟩
  obtain ⟨_, _, _, _, _, rfl⟩ := hturn
  simp [Go.ChangeMaps.setBlock]

/-- maps.Clone -/
theorem cloneF_any {w : World} {b : Nat} {M : NM} (h : OwnN w b M) :
    Calls Tryz.prog 68 #[.map (some b)] w fun e w' => e = .returned (.map (some w.heap.size)) ∧ OwnN w' w.heap.size M ∧ Below w.heap.size w w' :=
  (AnyW.maps_Clone_owns Tryz.laysClone 9 fileR b M.length (Dm M) w h.2).mono fun _ _ ⟨h1, h2, _, h4⟩ => ⟨h1, ⟨h.1, h2⟩, h4⟩

/-- slices.Sorted(maps.Keys(m)), the two calls -/
theorem keysF_any (mb : Option Nat) (w : World) :
    Calls Tryz.prog 70 #[.map mb] w fun e w' => e = .returned (.func (.func 92) #[] #[.pointer (some ⟨w.heap.size, 0, none⟩)]) ∧ w' = w.alloc (.cells #[.map mb] 112) :=
  (callsIn_wide (n := 5)).1 (AnyZ.keys_in Tryz.laysKeys Fence.wide 5 trivial rfl mb w)
theorem sortsF (m : Nat) : AnyZ.SortsIn Tryz.prog Tryz.laysSorted_ren Fence.wide m :=
  ⟨fun blk off cap ss W hH hblk hsz => callsIn_wide.2 (AnyM.slices_Sort_string Tryz.laysSortM blk off cap ss W hH hblk hsz),
   fun p cap W => callsIn_wide.2 (AnyM.slices_Sort_string_none Tryz.laysSortM p cap W)⟩
theorem sortedF_any {b : Nat} {M : NM} (w : World) (h : OwnN w b M) (hM : M.length ≤ 8000000000000) :
    Calls Tryz.prog 69 #[.func (.func 92) #[] #[.pointer (some ⟨w.heap.size, 0, none⟩)]] (w.alloc (.cells #[.map (some b)] 112)) fun e w' => ∃ v, e = .returned v ∧ OwnS w' w.heap.size v (M.map (·.1)) ∧ Below w.heap.size w w' := by
  have hown := h.2
  have hbl := hown.lt
  have hseq : SeqGives Fence.wide 2 Tryz.prog 92 #[.pointer (some ⟨w.heap.size, 0, none⟩)] encStr (fun ss => ss.Perm (strKeys (Dm M))) (Maps.size (Dm M)) (w.alloc (.cells #[.map (some b)] 112)) :=
    AnyZ.keys_gives (ρ := Tryz.laysKeys_ren) { Tryz.laysKeys with } Fence.wide _ trivial rfl (by omega) w.heap.size b M.length (Dm M) _ (by simp) (by simp) (by
      obtain ⟨es, clock, hb, Ft, hs, hD⟩ := hown
      exact ⟨es, clock, (Below.heap_alloc _ _ b hbl).trans hb, Ft, hs, hD⟩)
  have hsz : Maps.size (Dm M) = M.length := by show (M.map encN).length = _; rw [List.length_map]
  refine ((callsIn_wide (n := 5)).1 (AnyZ.sorted_in Tryz.laysSorted Fence.wide 5 trivial trivial trivial trivial rfl (by omega) (sortsF _) (enters_of Tryz.func91 (by kernel_rfl) rfl) 92 #[.pointer (some ⟨w.heap.size, 0, none⟩)] trivial (enters_of Tryz.func92 (by kernel_rfl) rfl) _ _ (by rw [hsz]; unfold maxLen; omega) (by rw [hsz]; omega) _ hseq)).mono ?_
  rintro e w' ⟨v, ss, rfl, hS, hrow, _, hb⟩
  rw [Dm_keys] at hS
  have hsort : sortL ss = M.map (·.1) := by
    refine List.Perm.eq_of_pairwise (le := fun a b => a ≤ b) (fun a b _ _ h1 h2 => List.le_antisymm h1 h2) (sortL_pair ss) ?_ ((List.mergeSort_perm ss _).trans hS)
    rw [List.pairwise_map]
    exact h.1.imp fun hlt => List.not_lt.1 (fun e => List.lt_irrefl _ (List.lt_trans hlt e))
  refine ⟨v, rfl, ?_, ((Below.refl _ w).alloc (Nat.le_refl _) _).trans (hb.mono (by simp))⟩
  have hl : ss.length = (M.map (·.1)).length := hS.length_eq
  unfold OwnS
  rw [← hl, ← hsort]
  exact ownsRow_mono hrow (by simp)
end Go.Proofs.YtheoklhmlnfgjaaGreatDoor
/-
  Contracts of library functions at the numbers of this program, one application each.
-/
namespace Go.Proofs
open Go.Shelf
def Tryz.lays231_ren : Go.Shelf.Ren := ⟨fun | 231 => 97 | n => n, fun | 9 => 9 | 5 => 5 | 3 => 3 | 4 => 4 | n => n, fun | n => n⟩
theorem Tryz.lays231 : Go.Proofs.Lays.n231 Tryz.prog Tryz.lays231_ren := {
  mixed := by kernel_rfl
  f231 := Tryz.func97.trans (congrArg some (by kernel_rfl))
  t3 := Tryz.underlying3
  a3 := Tryz.isAgg3
  z3 := Tryz.sizeOf3
  v3 := Tryz.zeroValue3
  t4 := Tryz.underlying4
  a4 := Tryz.isAgg4
  z4 := Tryz.sizeOf4
  v4 := Tryz.zeroValue4
  t5 := Tryz.underlying5
  a5 := Tryz.isAgg5
  z5 := Tryz.sizeOf5
  v5 := Tryz.zeroValue5
  t9 := Tryz.underlying9
  a9 := Tryz.isAgg9
  z9 := Tryz.sizeOf9
  v9 := Tryz.zeroValue9 }
open Go.RowKit in
theorem Tryz.strings_trimLeftByte (s : ByteArray) (c : UInt8) (w : World) :
    Calls Tryz.prog 97 #[.string s, .int .u8 c.toNat] w fun e w' => e = .returned (.string ⟨(Lib.trimLeftB s.data.toList c).toArray⟩) ∧ w' = w := Any.strings_trimLeftByte Tryz.lays231 s c w
def Tryz.lays232_ren : Go.Shelf.Ren := ⟨fun | 232 => 98 | n => n, fun | 9 => 9 | 5 => 5 | 3 => 3 | 4 => 4 | n => n, fun | n => n⟩
theorem Tryz.lays232 : Go.Proofs.Lays.n232 Tryz.prog Tryz.lays232_ren := {
  mixed := by kernel_rfl
  f232 := Tryz.func98.trans (congrArg some (by kernel_rfl))
  t3 := Tryz.underlying3
  a3 := Tryz.isAgg3
  z3 := Tryz.sizeOf3
  v3 := Tryz.zeroValue3
  t4 := Tryz.underlying4
  a4 := Tryz.isAgg4
  z4 := Tryz.sizeOf4
  v4 := Tryz.zeroValue4
  t5 := Tryz.underlying5
  a5 := Tryz.isAgg5
  z5 := Tryz.sizeOf5
  v5 := Tryz.zeroValue5
  t9 := Tryz.underlying9
  a9 := Tryz.isAgg9
  z9 := Tryz.sizeOf9
  v9 := Tryz.zeroValue9 }
open Go.RowKit in
theorem Tryz.strings_trimRightByte (s : ByteArray) (c : UInt8) (w : World) (hs : s.size ≤ 9223372036854775807) :
    Calls Tryz.prog 98 #[.string s, .int .u8 c.toNat] w fun e w' => e = .returned (.string ⟨(Lib.trimRightB s.data.toList c).toArray⟩) ∧ w' = w := Any.strings_trimRightByte Tryz.lays232 s c w hs
def Tryz.lays160_ren : Go.Shelf.Ren := ⟨fun | 160 => 88 | 232 => 98 | 231 => 97 | 227 => 99 | 234 => 101 | 233 => 100 | 236 => 103 | 235 => 102 | 228 => 109 | 271 => 112 | 151 => 111 | 197 => 110 | 120 => 126 | 152 => 125 | 260 => 124 | 137 => 133 | 119 => 134 | 224 => 135 | 225 => 136 | 217 => 138 | 266 => 139 | n => n, fun | 9 => 9 | 4 => 4 | 3 => 3 | 5 => 5 | 117 => 149 | 116 => 148 | 0 => 0 | 124 => 152 | 21 => 21 | 105 => 159 | 46 => 130 | 119 => 180 | 139 => 183 | 138 => 182 | n => n, fun | 3 => 0 | 4 => 1 | n => n⟩
theorem Tryz.lays160 : Go.Proofs.Lays.n160 Tryz.prog Tryz.lays160_ren := {
  mixed := by kernel_rfl
  f119 := Tryz.func134.trans (congrArg some (by kernel_rfl))
  f120 := Tryz.func126.trans (congrArg some (by kernel_rfl))
  f137 := Tryz.func133.trans (congrArg some (by kernel_rfl))
  f151 := Tryz.func111.trans (congrArg some (by kernel_rfl))
  f152 := Tryz.func125.trans (congrArg some (by kernel_rfl))
  f160 := Tryz.func88.trans (congrArg some (by kernel_rfl))
  f197 := Tryz.func110.trans (congrArg some (by kernel_rfl))
  f217 := Tryz.func138.trans (congrArg some (by kernel_rfl))
  f224 := Tryz.func135.trans (congrArg some (by kernel_rfl))
  f225 := Tryz.func136.trans (congrArg some (by kernel_rfl))
  f227 := Tryz.func99.trans (congrArg some (by kernel_rfl))
  f228 := Tryz.func109.trans (congrArg some (by kernel_rfl))
  f231 := Tryz.func97.trans (congrArg some (by kernel_rfl))
  f232 := Tryz.func98.trans (congrArg some (by kernel_rfl))
  f233 := Tryz.func100.trans (congrArg some (by kernel_rfl))
  f234 := Tryz.func101.trans (congrArg some (by kernel_rfl))
  f235 := Tryz.func102.trans (congrArg some (by kernel_rfl))
  f236 := Tryz.func103.trans (congrArg some (by kernel_rfl))
  f260 := Tryz.func124.trans (congrArg some (by kernel_rfl))
  f266 := Tryz.func139.trans (congrArg some (by kernel_rfl))
  f271 := Tryz.func112.trans (congrArg some (by kernel_rfl))
  t0 := Tryz.underlying0
  a0 := Tryz.isAgg0
  z0 := Tryz.sizeOf0
  v0 := Tryz.zeroValue0
  t3 := Tryz.underlying3
  a3 := Tryz.isAgg3
  z3 := Tryz.sizeOf3
  v3 := Tryz.zeroValue3
  t4 := Tryz.underlying4
  a4 := Tryz.isAgg4
  z4 := Tryz.sizeOf4
  v4 := Tryz.zeroValue4
  t5 := Tryz.underlying5
  a5 := Tryz.isAgg5
  z5 := Tryz.sizeOf5
  v5 := Tryz.zeroValue5
  t9 := Tryz.underlying9
  a9 := Tryz.isAgg9
  z9 := Tryz.sizeOf9
  v9 := Tryz.zeroValue9
  t21 := Tryz.underlying21
  a21 := Tryz.isAgg21
  z21 := Tryz.sizeOf21
  v21 := Tryz.zeroValue21
  t46 := Tryz.underlying130
  a46 := Tryz.isAgg130
  z46 := Tryz.sizeOf130
  v46 := Tryz.zeroValue130
  t105 := Tryz.underlying159
  a105 := Tryz.isAgg159
  z105 := Tryz.sizeOf159
  v105 := Tryz.zeroValue159
  t116 := Tryz.underlying148
  a116 := Tryz.isAgg148
  z116 := Tryz.sizeOf148
  t117 := Tryz.underlying149
  a117 := Tryz.isAgg149
  z117 := Tryz.sizeOf149
  v117 := Tryz.zeroValue149
  t119 := Tryz.underlying180
  a119 := Tryz.isAgg180
  z119 := Tryz.sizeOf180
  t124 := Tryz.underlying152
  a124 := Tryz.isAgg152
  z124 := Tryz.sizeOf152
  v124 := Tryz.zeroValue152
  t138 := Tryz.underlying182
  a138 := Tryz.isAgg182
  z138 := Tryz.sizeOf182
  v138 := Tryz.zeroValue182
  t139 := Tryz.underlying183
  a139 := Tryz.isAgg183
  z139 := Tryz.sizeOf183
  v139 := Tryz.zeroValue183
  g3 := by kernel_rfl
  g4 := by kernel_rfl }
open Go.RowKit in
theorem Tryz.strings_Trim_one (s : ByteArray) (c : UInt8) (hc : c.toNat < 128) (w : World) (hs : s.size ≤ 9223372036854775807) :
    Calls Tryz.prog 88 #[.string s, .string ⟨#[c]⟩] w fun e w' => e = .returned (.string ⟨(Lib.trimB s.data.toList c).toArray⟩) ∧ (w' = w ∨ w' = w.drew) := Any.strings_Trim_one Tryz.lays160 s c hc w hs
def Tryz.lays119_ren : Go.Shelf.Ren := ⟨fun | 119 => 134 | n => n, fun | 21 => 21 | 4 => 4 | n => n, fun | n => n⟩
theorem Tryz.lays119 : Go.Proofs.Lays.n119 Tryz.prog Tryz.lays119_ren := {
  mixed := by kernel_rfl
  f119 := Tryz.func134.trans (congrArg some (by kernel_rfl))
  t4 := Tryz.underlying4
  a4 := Tryz.isAgg4
  z4 := Tryz.sizeOf4
  v4 := Tryz.zeroValue4
  t21 := Tryz.underlying21
  a21 := Tryz.isAgg21
  z21 := Tryz.sizeOf21
  v21 := Tryz.zeroValue21 }
theorem Tryz.utf8_ValidRune (r : Int) (w : World) :
    Calls Tryz.prog 134 #[.int .i32 r] w fun e w' => e = .returned (.bool (Lib.validRune r)) ∧ w' = w := Any.utf8_ValidRune Tryz.lays119 r w
def Tryz.lays120_ren : Go.Shelf.Ren := ⟨fun | 120 => 126 | n => n, fun | 5 => 5 | 4 => 4 | n => n, fun | n => n⟩
theorem Tryz.lays120 : Go.Proofs.Lays.n120 Tryz.prog Tryz.lays120_ren := {
  mixed := by kernel_rfl
  f120 := Tryz.func126.trans (congrArg some (by kernel_rfl))
  t4 := Tryz.underlying4
  a4 := Tryz.isAgg4
  z4 := Tryz.sizeOf4
  v4 := Tryz.zeroValue4
  t5 := Tryz.underlying5
  a5 := Tryz.isAgg5
  z5 := Tryz.sizeOf5
  v5 := Tryz.zeroValue5 }
theorem Tryz.utf8_RuneStart (b : Int) (w : World) (h0 : 0 ≤ b) (h1 : b < 256) :
    Calls Tryz.prog 126 #[.int .u8 b] w fun e w' => e = .returned (.bool (Lib.runeStart b)) ∧ w' = w := Any.utf8_RuneStart Tryz.lays120 b w h0 h1
def Tryz.lays128_ren : Go.Shelf.Ren := ⟨fun | 128 => 122 | n => n, fun | 51 => 129 | 3 => 3 | 4 => 4 | 46 => 130 | 5 => 5 | 9 => 9 | n => n, fun | n => n⟩
theorem Tryz.lays128 : Go.Proofs.Lays.n128 Tryz.prog Tryz.lays128_ren := {
  mixed := by kernel_rfl
  f128 := Tryz.func122.trans (congrArg some (by kernel_rfl))
  t3 := Tryz.underlying3
  a3 := Tryz.isAgg3
  z3 := Tryz.sizeOf3
  v3 := Tryz.zeroValue3
  t4 := Tryz.underlying4
  a4 := Tryz.isAgg4
  z4 := Tryz.sizeOf4
  v4 := Tryz.zeroValue4
  t5 := Tryz.underlying5
  a5 := Tryz.isAgg5
  z5 := Tryz.sizeOf5
  v5 := Tryz.zeroValue5
  t9 := Tryz.underlying9
  a9 := Tryz.isAgg9
  z9 := Tryz.sizeOf9
  v9 := Tryz.zeroValue9
  t46 := Tryz.underlying130
  a46 := Tryz.isAgg130
  z46 := Tryz.sizeOf130
  v46 := Tryz.zeroValue130
  t51 := Tryz.underlying129
  a51 := Tryz.isAgg129
  z51 := Tryz.sizeOf129
  v51 := Tryz.zeroValue129 }
theorem Tryz.bits_Len32 (x : Int) (w : World) (h0 : 0 ≤ x) (h1 : x ≤ 4294967295) :
    Calls Tryz.prog 122 #[.int .u32 x] w fun e w' => e = .returned (.int .i64 (Lib.bitLen x.toNat)) ∧ w' = w := Any.bits_Len32 Tryz.lays128 x w h0 h1
def Tryz.lays125_ren : Go.Shelf.Ren := ⟨fun | 125 => 106 | 128 => 122 | 129 => 123 | n => n, fun | 46 => 130 | 3 => 3 | 51 => 129 | 53 => 128 | 4 => 4 | 5 => 5 | 9 => 9 | n => n, fun | n => n⟩
theorem Tryz.lays125 : Go.Proofs.Lays.n125 Tryz.prog Tryz.lays125_ren := {
  mixed := by kernel_rfl
  f125 := Tryz.func106.trans (congrArg some (by kernel_rfl))
  f128 := Tryz.func122.trans (congrArg some (by kernel_rfl))
  f129 := Tryz.func123.trans (congrArg some (by kernel_rfl))
  t3 := Tryz.underlying3
  a3 := Tryz.isAgg3
  z3 := Tryz.sizeOf3
  v3 := Tryz.zeroValue3
  t4 := Tryz.underlying4
  a4 := Tryz.isAgg4
  z4 := Tryz.sizeOf4
  v4 := Tryz.zeroValue4
  t5 := Tryz.underlying5
  a5 := Tryz.isAgg5
  z5 := Tryz.sizeOf5
  v5 := Tryz.zeroValue5
  t9 := Tryz.underlying9
  a9 := Tryz.isAgg9
  z9 := Tryz.sizeOf9
  v9 := Tryz.zeroValue9
  t46 := Tryz.underlying130
  a46 := Tryz.isAgg130
  z46 := Tryz.sizeOf130
  v46 := Tryz.zeroValue130
  t51 := Tryz.underlying129
  a51 := Tryz.isAgg129
  z51 := Tryz.sizeOf129
  v51 := Tryz.zeroValue129
  t53 := Tryz.underlying128
  a53 := Tryz.isAgg128
  z53 := Tryz.sizeOf128
  v53 := Tryz.zeroValue128 }
theorem Tryz.bits_Len (x : Int) (w : World) (h0 : 0 ≤ x) (h1 : x ≤ 18446744073709551615) :
    Calls Tryz.prog 106 #[.int .u64 x] w fun e w' => e = .returned (.int .i64 (Lib.bitLen x.toNat)) ∧ w' = w := Any.bits_Len Tryz.lays125 x w h0 h1
def Tryz.lays137_ren : Go.Shelf.Ren := ⟨fun | 137 => 133 | 217 => 138 | 266 => 139 | n => n, fun | 9 => 9 | 5 => 5 | 3 => 3 | n => n, fun | n => n⟩
theorem Tryz.lays137 : Go.Proofs.Lays.n137 Tryz.prog Tryz.lays137_ren := {
  mixed := by kernel_rfl
  f137 := Tryz.func133.trans (congrArg some (by kernel_rfl))
  f217 := Tryz.func138.trans (congrArg some (by kernel_rfl))
  f266 := Tryz.func139.trans (congrArg some (by kernel_rfl))
  t3 := Tryz.underlying3
  a3 := Tryz.isAgg3
  z3 := Tryz.sizeOf3
  v3 := Tryz.zeroValue3
  t5 := Tryz.underlying5
  a5 := Tryz.isAgg5
  z5 := Tryz.sizeOf5
  v5 := Tryz.zeroValue5
  t9 := Tryz.underlying9
  a9 := Tryz.isAgg9
  z9 := Tryz.sizeOf9
  v9 := Tryz.zeroValue9 }
open Go.RowKit in
theorem Tryz.strings_IndexByte (s : ByteArray) (c : Int) (w : World) :
    Calls Tryz.prog 133 #[.string s, .int .u8 c] w fun e w' => e = .returned (.int .i64 (Lib.indexByte s.data.toList c.toNat.toUInt8)) ∧ w' = w := Any.strings_IndexByte Tryz.lays137 s c w
def Tryz.lays129_ren : Go.Shelf.Ren := ⟨fun | 129 => 123 | n => n, fun | 53 => 128 | 3 => 3 | 4 => 4 | 46 => 130 | 5 => 5 | 9 => 9 | n => n, fun | n => n⟩
theorem Tryz.lays129 : Go.Proofs.Lays.n129 Tryz.prog Tryz.lays129_ren := {
  mixed := by kernel_rfl
  f129 := Tryz.func123.trans (congrArg some (by kernel_rfl))
  t3 := Tryz.underlying3
  a3 := Tryz.isAgg3
  z3 := Tryz.sizeOf3
  v3 := Tryz.zeroValue3
  t4 := Tryz.underlying4
  a4 := Tryz.isAgg4
  z4 := Tryz.sizeOf4
  v4 := Tryz.zeroValue4
  t5 := Tryz.underlying5
  a5 := Tryz.isAgg5
  z5 := Tryz.sizeOf5
  v5 := Tryz.zeroValue5
  t9 := Tryz.underlying9
  a9 := Tryz.isAgg9
  z9 := Tryz.sizeOf9
  v9 := Tryz.zeroValue9
  t46 := Tryz.underlying130
  a46 := Tryz.isAgg130
  z46 := Tryz.sizeOf130
  v46 := Tryz.zeroValue130
  t53 := Tryz.underlying128
  a53 := Tryz.isAgg128
  z53 := Tryz.sizeOf128
  v53 := Tryz.zeroValue128 }
theorem Tryz.bits_Len64 (x : Int) (w : World) (h0 : 0 ≤ x) (h1 : x ≤ 18446744073709551615) :
    Calls Tryz.prog 123 #[.int .u64 x] w fun e w' => e = .returned (.int .i64 (Lib.bitLen x.toNat)) ∧ w' = w := Any.bits_Len64 Tryz.lays129 x w h0 h1
def Tryz.lays217_ren : Go.Shelf.Ren := ⟨fun | 217 => 138 | 266 => 139 | n => n, fun | 9 => 9 | 5 => 5 | 3 => 3 | n => n, fun | n => n⟩
theorem Tryz.lays217 : Go.Proofs.Lays.n217 Tryz.prog Tryz.lays217_ren := {
  mixed := by kernel_rfl
  f217 := Tryz.func138.trans (congrArg some (by kernel_rfl))
  f266 := Tryz.func139.trans (congrArg some (by kernel_rfl))
  t3 := Tryz.underlying3
  a3 := Tryz.isAgg3
  z3 := Tryz.sizeOf3
  v3 := Tryz.zeroValue3
  t5 := Tryz.underlying5
  a5 := Tryz.isAgg5
  z5 := Tryz.sizeOf5
  v5 := Tryz.zeroValue5
  t9 := Tryz.underlying9
  a9 := Tryz.isAgg9
  z9 := Tryz.sizeOf9
  v9 := Tryz.zeroValue9 }
open Go.RowKit Go.Lib in
theorem Tryz.stringslite_IndexByte (s : ByteArray) (c : Int) (w : World) :
    Calls Tryz.prog 138 #[.string s, .int .u8 c] w fun e w' => e = .returned (.int .i64 (Lib.indexByte s.data.toList c.toNat.toUInt8)) ∧ w' = w := Any.stringslite_IndexByte Tryz.lays217 s c w
def Tryz.lays224_ren : Go.Shelf.Ren := ⟨fun | 224 => 135 | n => n, fun | 3 => 3 | n => n, fun | n => n⟩
theorem Tryz.lays224 : Go.Proofs.Lays.n224 Tryz.prog Tryz.lays224_ren := {
  mixed := by kernel_rfl
  f224 := Tryz.func135.trans (congrArg some (by kernel_rfl))
  t3 := Tryz.underlying3
  a3 := Tryz.isAgg3
  z3 := Tryz.sizeOf3
  v3 := Tryz.zeroValue3 }
open Go.RowKit Go.Lib in
theorem Tryz.bytealg_Cutover (n : Int) (h0 : 0 ≤ n) (h1 : n < 4611686018427387904) (w : World) :
    Calls Tryz.prog 135 #[.int .i64 n] w fun e w' => e = .returned (.int .i64 ((n + 16) / 8)) ∧ w' = w := Any.bytealg_Cutover Tryz.lays224 n h0 h1 w
def Tryz.lays152_ren : Go.Shelf.Ren := ⟨fun | 152 => 125 | 137 => 133 | 119 => 134 | 224 => 135 | 225 => 136 | 217 => 138 | 266 => 139 | n => n, fun | 9 => 9 | 21 => 21 | 3 => 3 | 4 => 4 | 5 => 5 | 0 => 0 | 46 => 130 | n => n, fun | n => n⟩
theorem Tryz.lays152 : Go.Proofs.Lays.n152 Tryz.prog Tryz.lays152_ren := {
  mixed := by kernel_rfl
  f119 := Tryz.func134.trans (congrArg some (by kernel_rfl))
  f137 := Tryz.func133.trans (congrArg some (by kernel_rfl))
  f152 := Tryz.func125.trans (congrArg some (by kernel_rfl))
  f217 := Tryz.func138.trans (congrArg some (by kernel_rfl))
  f224 := Tryz.func135.trans (congrArg some (by kernel_rfl))
  f225 := Tryz.func136.trans (congrArg some (by kernel_rfl))
  f266 := Tryz.func139.trans (congrArg some (by kernel_rfl))
  t0 := Tryz.underlying0
  a0 := Tryz.isAgg0
  z0 := Tryz.sizeOf0
  v0 := Tryz.zeroValue0
  t3 := Tryz.underlying3
  a3 := Tryz.isAgg3
  z3 := Tryz.sizeOf3
  v3 := Tryz.zeroValue3
  t4 := Tryz.underlying4
  a4 := Tryz.isAgg4
  z4 := Tryz.sizeOf4
  v4 := Tryz.zeroValue4
  t5 := Tryz.underlying5
  a5 := Tryz.isAgg5
  z5 := Tryz.sizeOf5
  v5 := Tryz.zeroValue5
  t9 := Tryz.underlying9
  a9 := Tryz.isAgg9
  z9 := Tryz.sizeOf9
  v9 := Tryz.zeroValue9
  t21 := Tryz.underlying21
  a21 := Tryz.isAgg21
  z21 := Tryz.sizeOf21
  v21 := Tryz.zeroValue21
  t46 := Tryz.underlying130
  a46 := Tryz.isAgg130
  z46 := Tryz.sizeOf130
  v46 := Tryz.zeroValue130 }
open Go.RowKit Go.Lib in
theorem Tryz.strings_IndexRune_ascii (s : ByteArray) (r : Int) (w : World) (h0 : 0 ≤ r) (h1 : r < 128) :
    Calls Tryz.prog 125 #[.string s, .int .i32 r] w fun e w' => e = .returned (.int .i64 (Lib.indexByte s.data.toList r.toNat.toUInt8)) ∧ w' = w := Any.strings_IndexRune_ascii Tryz.lays152 s r w h0 h1
def Tryz.lays151_ren : Go.Shelf.Ren := ⟨fun | 151 => 111 | 152 => 125 | 137 => 133 | 119 => 134 | 224 => 135 | 225 => 136 | 217 => 138 | 266 => 139 | n => n, fun | 9 => 9 | 21 => 21 | 4 => 4 | 3 => 3 | 5 => 5 | 0 => 0 | 46 => 130 | n => n, fun | n => n⟩
theorem Tryz.lays151 : Go.Proofs.Lays.n151 Tryz.prog Tryz.lays151_ren := {
  mixed := by kernel_rfl
  f119 := Tryz.func134.trans (congrArg some (by kernel_rfl))
  f137 := Tryz.func133.trans (congrArg some (by kernel_rfl))
  f151 := Tryz.func111.trans (congrArg some (by kernel_rfl))
  f152 := Tryz.func125.trans (congrArg some (by kernel_rfl))
  f217 := Tryz.func138.trans (congrArg some (by kernel_rfl))
  f224 := Tryz.func135.trans (congrArg some (by kernel_rfl))
  f225 := Tryz.func136.trans (congrArg some (by kernel_rfl))
  f266 := Tryz.func139.trans (congrArg some (by kernel_rfl))
  t0 := Tryz.underlying0
  a0 := Tryz.isAgg0
  z0 := Tryz.sizeOf0
  v0 := Tryz.zeroValue0
  t3 := Tryz.underlying3
  a3 := Tryz.isAgg3
  z3 := Tryz.sizeOf3
  v3 := Tryz.zeroValue3
  t4 := Tryz.underlying4
  a4 := Tryz.isAgg4
  z4 := Tryz.sizeOf4
  v4 := Tryz.zeroValue4
  t5 := Tryz.underlying5
  a5 := Tryz.isAgg5
  z5 := Tryz.sizeOf5
  v5 := Tryz.zeroValue5
  t9 := Tryz.underlying9
  a9 := Tryz.isAgg9
  z9 := Tryz.sizeOf9
  v9 := Tryz.zeroValue9
  t21 := Tryz.underlying21
  a21 := Tryz.isAgg21
  z21 := Tryz.sizeOf21
  v21 := Tryz.zeroValue21
  t46 := Tryz.underlying130
  a46 := Tryz.isAgg130
  z46 := Tryz.sizeOf130
  v46 := Tryz.zeroValue130 }
open Go.RowKit Go.Lib in
theorem Tryz.strings_ContainsRune_ascii (s : ByteArray) (r : Int) (w : World) (h0 : 0 ≤ r) (h1 : r < 128) :
    Calls Tryz.prog 111 #[.string s, .int .i32 r] w fun e w' => e = .returned (.bool (decide (0 ≤ Lib.indexByte s.data.toList r.toNat.toUInt8))) ∧ w' = w := Any.strings_ContainsRune_ascii Tryz.lays151 s r w h0 h1
def Tryz.lays227_ren : Go.Shelf.Ren := ⟨fun | 227 => 99 | n => n, fun | 9 => 9 | 116 => 148 | 4 => 4 | 0 => 0 | 3 => 3 | 5 => 5 | n => n, fun | n => n⟩
theorem Tryz.lays227 : Go.Proofs.Lays.n227 Tryz.prog Tryz.lays227_ren := {
  mixed := by kernel_rfl
  f227 := Tryz.func99.trans (congrArg some (by kernel_rfl))
  t0 := Tryz.underlying0
  a0 := Tryz.isAgg0
  z0 := Tryz.sizeOf0
  v0 := Tryz.zeroValue0
  t3 := Tryz.underlying3
  a3 := Tryz.isAgg3
  z3 := Tryz.sizeOf3
  v3 := Tryz.zeroValue3
  t4 := Tryz.underlying4
  a4 := Tryz.isAgg4
  z4 := Tryz.sizeOf4
  v4 := Tryz.zeroValue4
  t5 := Tryz.underlying5
  a5 := Tryz.isAgg5
  z5 := Tryz.sizeOf5
  v5 := Tryz.zeroValue5
  t9 := Tryz.underlying9
  a9 := Tryz.isAgg9
  z9 := Tryz.sizeOf9
  v9 := Tryz.zeroValue9
  t116 := Tryz.underlying148
  a116 := Tryz.isAgg148
  z116 := Tryz.sizeOf148 }
open Go.RowKit Go.Lib in
theorem Tryz.strings_makeASCIISet (hv116 : ∀ w, (zeroValue 148).run Tryz.prog w = .ok (.agg (Array.replicate 256 (.bool false))) w) (chars : ByteArray) (w : World) (hs : chars.size < 4294967281) (hascii : ∀ (j : Nat) b, chars.data.toList[j]? = some b → b.toNat < 128) :
    Calls Tryz.prog 99 #[.string chars] w fun e w' => e = .returned (.tuple #[.agg (Lib.setCells chars.data.toList), .bool true]) ∧ w' = w.alloc (.cells (Lib.setCells chars.data.toList) 148) := Any.strings_makeASCIISet Tryz.lays227 hv116 (by kernel_rfl) chars w hs hascii
def Tryz.lays228_ren : Go.Shelf.Ren := ⟨fun | 228 => 109 | n => n, fun | 124 => 152 | 5 => 5 | 4 => 4 | 0 => 0 | 116 => 148 | n => n, fun | n => n⟩
theorem Tryz.lays228 : Go.Proofs.Lays.n228 Tryz.prog Tryz.lays228_ren := {
  mixed := by kernel_rfl
  f228 := Tryz.func109.trans (congrArg some (by kernel_rfl))
  t0 := Tryz.underlying0
  a0 := Tryz.isAgg0
  z0 := Tryz.sizeOf0
  v0 := Tryz.zeroValue0
  t4 := Tryz.underlying4
  a4 := Tryz.isAgg4
  z4 := Tryz.sizeOf4
  v4 := Tryz.zeroValue4
  t5 := Tryz.underlying5
  a5 := Tryz.isAgg5
  z5 := Tryz.sizeOf5
  v5 := Tryz.zeroValue5
  t116 := Tryz.underlying148
  a116 := Tryz.isAgg148
  z116 := Tryz.sizeOf148
  t124 := Tryz.underlying152
  a124 := Tryz.isAgg152
  z124 := Tryz.sizeOf152
  v124 := Tryz.zeroValue152 }
open Go.RowKit Go.Lib in
theorem Tryz.asciiSet_contains (b : Nat) (x : UInt8) (v : Bool) (w : World) (hc : w.cell? ⟨b, x.toNat, none⟩ = some (.bool v)) :
    Calls Tryz.prog 109 #[.pointer (some ⟨b, 0, none⟩), .int .u8 x.toNat] w fun e w' => e = .returned (.bool v) ∧ w' = w := Any.asciiSet_contains Tryz.lays228 b x v w hc
def Tryz.lays260_ren : Go.Shelf.Ren := ⟨fun | 260 => 124 | n => n, fun | 9 => 9 | 21 => 21 | 3 => 3 | 4 => 4 | 5 => 5 | 119 => 180 | 0 => 0 | 46 => 130 | 139 => 183 | 138 => 182 | n => n, fun | 3 => 0 | 4 => 1 | n => n⟩
theorem Tryz.lays260 : Go.Proofs.Lays.n260 Tryz.prog Tryz.lays260_ren := {
  mixed := by kernel_rfl
  f260 := Tryz.func124.trans (congrArg some (by kernel_rfl))
  t0 := Tryz.underlying0
  a0 := Tryz.isAgg0
  z0 := Tryz.sizeOf0
  v0 := Tryz.zeroValue0
  t3 := Tryz.underlying3
  a3 := Tryz.isAgg3
  z3 := Tryz.sizeOf3
  v3 := Tryz.zeroValue3
  t4 := Tryz.underlying4
  a4 := Tryz.isAgg4
  z4 := Tryz.sizeOf4
  v4 := Tryz.zeroValue4
  t5 := Tryz.underlying5
  a5 := Tryz.isAgg5
  z5 := Tryz.sizeOf5
  v5 := Tryz.zeroValue5
  t9 := Tryz.underlying9
  a9 := Tryz.isAgg9
  z9 := Tryz.sizeOf9
  v9 := Tryz.zeroValue9
  t21 := Tryz.underlying21
  a21 := Tryz.isAgg21
  z21 := Tryz.sizeOf21
  v21 := Tryz.zeroValue21
  t46 := Tryz.underlying130
  a46 := Tryz.isAgg130
  z46 := Tryz.sizeOf130
  v46 := Tryz.zeroValue130
  t119 := Tryz.underlying180
  a119 := Tryz.isAgg180
  z119 := Tryz.sizeOf180
  t138 := Tryz.underlying182
  a138 := Tryz.isAgg182
  z138 := Tryz.sizeOf182
  v138 := Tryz.zeroValue182
  t139 := Tryz.underlying183
  a139 := Tryz.isAgg183
  z139 := Tryz.sizeOf183
  v139 := Tryz.zeroValue183
  g3 := by kernel_rfl
  g4 := by kernel_rfl }
open Go.RowKit Go.Lib in
theorem Tryz.utf8_decodeRuneInStringSlow (s : ByteArray) (w : World) (hT : Lib.Utf8Tabs 0 1 w) :
    Calls Tryz.prog 124 #[.string s] w fun e w' => e = .returned (.tuple #[.int .i32 (Lib.decodeGo s).1, .int .i64 (Lib.decodeGo s).2]) ∧ Below w.heap.size w w' := Any.utf8_decodeRuneInStringSlow Tryz.lays260 s w hT
def Tryz.lays108_ren : Go.Shelf.Ren := ⟨fun | 108 => 107 | n => n, fun | 28 => 38 | 3 => 3 | 0 => 0 | 4 => 4 | n => n, fun | n => n⟩
theorem Tryz.lays108 : Go.Proofs.Lays.n108 Tryz.prog Tryz.lays108_ren := {
  mixed := by kernel_rfl
  f108 := Tryz.func107.trans (congrArg some (by kernel_rfl))
  t0 := Tryz.underlying0
  a0 := Tryz.isAgg0
  z0 := Tryz.sizeOf0
  v0 := Tryz.zeroValue0
  t3 := Tryz.underlying3
  a3 := Tryz.isAgg3
  z3 := Tryz.sizeOf3
  v3 := Tryz.zeroValue3
  t4 := Tryz.underlying4
  a4 := Tryz.isAgg4
  z4 := Tryz.sizeOf4
  v4 := Tryz.zeroValue4
  t28 := Tryz.underlying38
  a28 := Tryz.isAgg38
  z28 := Tryz.sizeOf38
  v28 := Tryz.zeroValue38 }
open Go.Lib in
theorem Tryz.slices_Index_int (b off n c : Nat) (zs : List Int) (x : Int) (w : World) (hz : n ≤ zs.length) (hbig : n ≤ 9223372036854775807) (hc : ∀ j, j < zs.length → w.cell? ⟨b, off + j, none⟩ = some (.int .i64 (zs.getD j 0))) :
    Calls Tryz.prog 107 #[.slice (some ⟨b, off, none⟩) n c, .int .i64 x] w fun e w' => e = .returned (.int .i64 (Lib.idxOf (zs.take n) x)) ∧ w' = w := Any.slices_Index_int Tryz.lays108 b off n c zs x w hz hbig hc
open Go.Lib in
theorem Tryz.slices_Index_int_empty (a : Option Addr) (c : Nat) (x : Int) (w : World) :
    Calls Tryz.prog 107 #[.slice a 0 c, .int .i64 x] w fun e w' => e = .returned (.int .i64 (Lib.idxOf [] x)) ∧ w' = w := Any.slices_Index_int_empty Tryz.lays108 a c x w
def Tryz.lays107_ren : Go.Shelf.Ren := ⟨fun | 107 => 94 | 108 => 107 | n => n, fun | 28 => 38 | 3 => 3 | 4 => 4 | 0 => 0 | n => n, fun | n => n⟩
theorem Tryz.lays107 : Go.Proofs.Lays.n107 Tryz.prog Tryz.lays107_ren := {
  mixed := by kernel_rfl
  f107 := Tryz.func94.trans (congrArg some (by kernel_rfl))
  f108 := Tryz.func107.trans (congrArg some (by kernel_rfl))
  t0 := Tryz.underlying0
  a0 := Tryz.isAgg0
  z0 := Tryz.sizeOf0
  v0 := Tryz.zeroValue0
  t3 := Tryz.underlying3
  a3 := Tryz.isAgg3
  z3 := Tryz.sizeOf3
  v3 := Tryz.zeroValue3
  t4 := Tryz.underlying4
  a4 := Tryz.isAgg4
  z4 := Tryz.sizeOf4
  v4 := Tryz.zeroValue4
  t28 := Tryz.underlying38
  a28 := Tryz.isAgg38
  z28 := Tryz.sizeOf38
  v28 := Tryz.zeroValue38 }
open Go.Lib in
theorem Tryz.slices_Contains_int (b off n c : Nat) (zs : List Int) (x : Int) (w : World) (hz : n ≤ zs.length) (hbig : n ≤ 9223372036854775807) (hc : ∀ j, j < zs.length → w.cell? ⟨b, off + j, none⟩ = some (.int .i64 (zs.getD j 0))) :
    Calls Tryz.prog 94 #[.slice (some ⟨b, off, none⟩) n c, .int .i64 x] w fun e w' => e = .returned (.bool ((zs.take n).contains x)) ∧ w' = w := Any.slices_Contains_int Tryz.lays107 b off n c zs x w hz hbig hc
open Go.Lib in
theorem Tryz.slices_Contains_int_empty (a : Option Addr) (c : Nat) (x : Int) (w : World) :
    Calls Tryz.prog 94 #[.slice a 0 c, .int .i64 x] w fun e w' => e = .returned (.bool false) ∧ w' = w := Any.slices_Contains_int_empty Tryz.lays107 a c x w
def Tryz.lays109_ren : Go.Shelf.Ren := ⟨fun | 109 => 75 | n => n, fun | 31 => 95 | 9 => 9 | 3 => 3 | 0 => 0 | 4 => 4 | n => n, fun | n => n⟩
theorem Tryz.lays109 : Go.Proofs.Lays.n109 Tryz.prog Tryz.lays109_ren := {
  mixed := by kernel_rfl
  f109 := Tryz.func75.trans (congrArg some (by kernel_rfl))
  t0 := Tryz.underlying0
  a0 := Tryz.isAgg0
  z0 := Tryz.sizeOf0
  v0 := Tryz.zeroValue0
  t3 := Tryz.underlying3
  a3 := Tryz.isAgg3
  z3 := Tryz.sizeOf3
  v3 := Tryz.zeroValue3
  t4 := Tryz.underlying4
  a4 := Tryz.isAgg4
  z4 := Tryz.sizeOf4
  v4 := Tryz.zeroValue4
  t9 := Tryz.underlying9
  a9 := Tryz.isAgg9
  z9 := Tryz.sizeOf9
  v9 := Tryz.zeroValue9
  t31 := Tryz.underlying95
  a31 := Tryz.isAgg95
  z31 := Tryz.sizeOf95
  v31 := Tryz.zeroValue95 }
open Go.Lib in
theorem Tryz.slices_Index_string (b off n c : Nat) (zs : List ByteArray) (x : ByteArray) (w : World) (hz : n ≤ zs.length) (hbig : n ≤ 9223372036854775807) (hc : ∀ j, j < zs.length → w.cell? ⟨b, off + j, none⟩ = some (.string (zs.getD j ByteArray.empty))) :
    Calls Tryz.prog 75 #[.slice (some ⟨b, off, none⟩) n c, .string x] w fun e w' => e = .returned (.int .i64 (Lib.idxOfS (zs.take n) x)) ∧ w' = w := Any.slices_Index_string Tryz.lays109 b off n c zs x w hz hbig hc
open Go.Lib in
theorem Tryz.slices_Index_string_empty (a : Option Addr) (c : Nat) (x : ByteArray) (w : World) :
    Calls Tryz.prog 75 #[.slice a 0 c, .string x] w fun e w' => e = .returned (.int .i64 (Lib.idxOfS [] x)) ∧ w' = w := Any.slices_Index_string_empty Tryz.lays109 a c x w
def Tryz.lays110_ren : Go.Shelf.Ren := ⟨fun | 110 => 40 | 109 => 75 | n => n, fun | 31 => 95 | 9 => 9 | 4 => 4 | 3 => 3 | 0 => 0 | n => n, fun | n => n⟩
theorem Tryz.lays110 : Go.Proofs.Lays.n110 Tryz.prog Tryz.lays110_ren := {
  mixed := by kernel_rfl
  f109 := Tryz.func75.trans (congrArg some (by kernel_rfl))
  f110 := Tryz.func40.trans (congrArg some (by kernel_rfl))
  t0 := Tryz.underlying0
  a0 := Tryz.isAgg0
  z0 := Tryz.sizeOf0
  v0 := Tryz.zeroValue0
  t3 := Tryz.underlying3
  a3 := Tryz.isAgg3
  z3 := Tryz.sizeOf3
  v3 := Tryz.zeroValue3
  t4 := Tryz.underlying4
  a4 := Tryz.isAgg4
  z4 := Tryz.sizeOf4
  v4 := Tryz.zeroValue4
  t9 := Tryz.underlying9
  a9 := Tryz.isAgg9
  z9 := Tryz.sizeOf9
  v9 := Tryz.zeroValue9
  t31 := Tryz.underlying95
  a31 := Tryz.isAgg95
  z31 := Tryz.sizeOf95
  v31 := Tryz.zeroValue95 }
open Go.Lib in
theorem Tryz.slices_Contains_string (b off n c : Nat) (zs : List ByteArray) (x : ByteArray) (w : World) (hz : n ≤ zs.length) (hbig : n ≤ 9223372036854775807) (hc : ∀ j, j < zs.length → w.cell? ⟨b, off + j, none⟩ = some (.string (zs.getD j ByteArray.empty))) :
    Calls Tryz.prog 40 #[.slice (some ⟨b, off, none⟩) n c, .string x] w fun e w' => e = .returned (.bool (Lib.containsS (zs.take n) x)) ∧ w' = w := Any.slices_Contains_string Tryz.lays110 b off n c zs x w hz hbig hc
open Go.Lib in
theorem Tryz.slices_Contains_string_empty (a : Option Addr) (c : Nat) (x : ByteArray) (w : World) :
    Calls Tryz.prog 40 #[.slice a 0 c, .string x] w fun e w' => e = .returned (.bool false) ∧ w' = w := Any.slices_Contains_string_empty Tryz.lays110 a c x w
def Tryz.laysNm215_ren : Go.Shelf.Ren := ⟨fun | 15 => 65 | n => n, fun | 22 => 38 | 3 => 3 | 4 => 4 | n => n, fun | n => n⟩
theorem Tryz.laysNm215 : Go.Proofs.Lays2.n15 Tryz.prog Tryz.laysNm215_ren := {
  mixed := by kernel_rfl
  f15 := Tryz.func65.trans (congrArg some (by kernel_rfl))
  t3 := Tryz.underlying3
  a3 := Tryz.isAgg3
  z3 := Tryz.sizeOf3
  v3 := Tryz.zeroValue3
  t4 := Tryz.underlying4
  a4 := Tryz.isAgg4
  z4 := Tryz.sizeOf4
  v4 := Tryz.zeroValue4
  t22 := Tryz.underlying38
  a22 := Tryz.isAgg38
  z22 := Tryz.sizeOf38
  v22 := Tryz.zeroValue38
  i3 := by kernel_rfl }
open Go.RowKit Go.Lib in
theorem Tryz.slices_Clone_int (b off n c : Nat) (zs : List Int) (w : World) (hz : n ≤ zs.length) (hbig : n * 8 ≤ 140737488355328) (hc : ∀ j, j < zs.length → w.cell? ⟨b, off + j, none⟩ = some (.int .i64 (zs.getD j 0))) :
    Calls Tryz.prog 65 #[.slice (some ⟨b, off, none⟩) n c] w fun e w' => ∃ v', e = .returned v' ∧ w'.ownsRow w.heap.size 3 1 v' n ((zs.take n).map (Value.int .i64)) ∧ v' ≠ .slice none 0 0 ∧ Below w.heap.size w w' := Any.slices_Clone_int Tryz.laysNm215 b off n c zs w hz hbig hc
open Go.RowKit Go.Lib in
theorem Tryz.slices_Clone_int_nil (n c : Nat) (w : World) :
    Calls Tryz.prog 65 #[.slice none n c] w fun e w' => e = .returned (.slice none 0 0) ∧ w' = w := Any.slices_Clone_int_nil Tryz.laysNm215 n c w
open Go.RowKit Go.Lib in
theorem Tryz.slices_Clone_int_zero (a : Addr) (c : Nat) (w : World) :
    Calls Tryz.prog 65 #[.slice (some a) 0 c] w fun e w' => ∃ v', e = .returned v' ∧ w'.ownsRow w.heap.size 3 1 v' 0 [] ∧ v' ≠ .slice none 0 0 ∧ Below w.heap.size w w' := Any.slices_Clone_int_zero Tryz.laysNm215 a c w
def Tryz.laysSlM6_f91_ren : Go.Shelf.Ren := ⟨fun | 6 => 91 | 8 => 106 | 9 => 105 | 19 => 122 | 20 => 123 | 21 => 113 | 22 => 114 | 23 => 115 | 24 => 116 | 25 => 117 | 26 => 118 | 27 => 119 | 28 => 120 | 29 => 121 | 36 => 127 | 31 => 128 | 32 => 129 | 37 => 130 | 38 => 131 | 39 => 132 | 41 => 137 | n => n, fun | 27 => 95 | 29 => 9 | 3 => 3 | 32 => 130 | 26 => 95 | 0 => 0 | 44 => 129 | 46 => 128 | 4 => 4 | 36 => 164 | 35 => 163 | 41 => 169 | 5 => 5 | 9 => 9 | 53 => 174 | 57 => 178 | 63 => 188 | 64 => 189 | n => n, fun | n => n⟩
theorem Tryz.laysSlM6_f91 : Go.Proofs.SlLaysM.n6 Tryz.prog Tryz.laysSlM6_f91_ren := {
  mixed := by kernel_rfl
  f6 := ⟨Tryz.f91.name, by decide, Tryz.func91.trans (congrArg some (by kernel_rfl))⟩
  f8 := Tryz.func106.trans (congrArg some (by kernel_rfl))
  f9 := ⟨Tryz.f105.name, by decide, Tryz.func105.trans (congrArg some (by kernel_rfl))⟩
  f19 := Tryz.func122.trans (congrArg some (by kernel_rfl))
  f20 := Tryz.func123.trans (congrArg some (by kernel_rfl))
  f21 := ⟨Tryz.f113.name, by decide, Tryz.func113.trans (congrArg some (by kernel_rfl))⟩
  f22 := ⟨Tryz.f114.name, by decide, Tryz.func114.trans (congrArg some (by kernel_rfl))⟩
  f23 := ⟨Tryz.f115.name, by decide, Tryz.func115.trans (congrArg some (by kernel_rfl))⟩
  f24 := ⟨Tryz.f116.name, by decide, Tryz.func116.trans (congrArg some (by kernel_rfl))⟩
  f25 := ⟨Tryz.f117.name, by decide, Tryz.func117.trans (congrArg some (by kernel_rfl))⟩
  f26 := ⟨Tryz.f118.name, by decide, Tryz.func118.trans (congrArg some (by kernel_rfl))⟩
  f27 := ⟨Tryz.f119.name, by decide, Tryz.func119.trans (congrArg some (by kernel_rfl))⟩
  f28 := ⟨Tryz.f120.name, by decide, Tryz.func120.trans (congrArg some (by kernel_rfl))⟩
  f29 := ⟨Tryz.f121.name, by decide, Tryz.func121.trans (congrArg some (by kernel_rfl))⟩
  f31 := Tryz.func128.trans (congrArg some (by kernel_rfl))
  f32 := Tryz.func129.trans (congrArg some (by kernel_rfl))
  f36 := ⟨Tryz.f127.name, by decide, Tryz.func127.trans (congrArg some (by kernel_rfl))⟩
  f37 := ⟨Tryz.f130.name, by decide, Tryz.func130.trans (congrArg some (by kernel_rfl))⟩
  f38 := ⟨Tryz.f131.name, by decide, Tryz.func131.trans (congrArg some (by kernel_rfl))⟩
  f39 := ⟨Tryz.f132.name, by decide, Tryz.func132.trans (congrArg some (by kernel_rfl))⟩
  f41 := ⟨Tryz.f137.name, by decide, Tryz.func137.trans (congrArg some (by kernel_rfl))⟩
  t0 := Tryz.underlying0
  a0 := Tryz.isAgg0
  z0 := Tryz.sizeOf0
  v0 := Tryz.zeroValue0
  t3 := Tryz.underlying3
  a3 := Tryz.isAgg3
  z3 := Tryz.sizeOf3
  v3 := Tryz.zeroValue3
  t4 := Tryz.underlying4
  a4 := Tryz.isAgg4
  z4 := Tryz.sizeOf4
  v4 := Tryz.zeroValue4
  t5 := Tryz.underlying5
  a5 := Tryz.isAgg5
  z5 := Tryz.sizeOf5
  v5 := Tryz.zeroValue5
  t9 := Tryz.underlying9
  a9 := Tryz.isAgg9
  z9 := Tryz.sizeOf9
  v9 := Tryz.zeroValue9
  t26 := Tryz.underlying95
  a26 := Tryz.isAgg95
  z26 := Tryz.sizeOf95
  v26 := Tryz.zeroValue95
  t27 := Tryz.underlying95
  a27 := Tryz.isAgg95
  z27 := Tryz.sizeOf95
  v27 := Tryz.zeroValue95
  t29 := Tryz.underlying9
  a29 := Tryz.isAgg9
  z29 := Tryz.sizeOf9
  v29 := Tryz.zeroValue9
  t32 := Tryz.underlying130
  a32 := Tryz.isAgg130
  z32 := Tryz.sizeOf130
  v32 := Tryz.zeroValue130
  t35 := Tryz.underlying163
  a35 := Tryz.isAgg163
  z35 := Tryz.sizeOf163
  v35 := Tryz.zeroValue163
  t36 := Tryz.underlying164
  a36 := Tryz.isAgg164
  z36 := Tryz.sizeOf164
  v36 := Tryz.zeroValue164
  t41 := Tryz.underlying169
  a41 := Tryz.isAgg169
  z41 := Tryz.sizeOf169
  v41 := Tryz.zeroValue169
  t44 := Tryz.underlying129
  a44 := Tryz.isAgg129
  z44 := Tryz.sizeOf129
  v44 := Tryz.zeroValue129
  t46 := Tryz.underlying128
  a46 := Tryz.isAgg128
  z46 := Tryz.sizeOf128
  v46 := Tryz.zeroValue128
  t53 := Tryz.underlying174
  a53 := Tryz.isAgg174
  z53 := Tryz.sizeOf174
  v53 := Tryz.zeroValue174
  t57 := Tryz.underlying178
  a57 := Tryz.isAgg178
  z57 := Tryz.sizeOf178
  v57 := Tryz.zeroValue178
  t63 := Tryz.underlying188
  a63 := Tryz.isAgg188
  z63 := Tryz.sizeOf188
  v63 := Tryz.zeroValue188
  t64 := Tryz.underlying189
  a64 := Tryz.isAgg189
  z64 := Tryz.sizeOf189
  v64 := Tryz.zeroValue189 }
open Go.Sort Go.RowKit in
theorem Tryz.slices_Sort_string (blk off cap : Nat) (ss : List (List UInt8)) (w : World) (hH : Holds encStr w blk off ss.toArray) (hblk : blk < w.heap.size) (hsz : ss.length < 4611686018427387904) :
    Calls Tryz.prog 91 #[.slice (some ⟨blk, off, none⟩) ss.length cap] w fun e w' =>
      e = .returned (.tuple #[]) ∧ ∃ n os, w' = grow (putRow encStr (Sort.ahead w n) blk off (ss.mergeSort fun x y => decide (x ≤ y)).toArray) os := AnyM.slices_Sort_string Tryz.laysSlM6_f91 blk off cap ss w hH hblk hsz
open Go.RowKit Go.Sort in
theorem Tryz.slices_Sort_string_none (p : Option Addr) (cap : Nat) (w : World) :
    Calls Tryz.prog 91 #[.slice p 0 cap] w fun e w' => e = .returned (.tuple #[]) ∧ w' = w := AnyM.slices_Sort_string_none Tryz.laysSlM6_f91 p cap w
end Go.Proofs
/-
  A good name of a file: the program's and the document's.
-/
namespace Go.Proofs.YtheoklhmlnfgjaaGreatDoor
open Go.RowKit

def nameSet : List UInt8 := [97, 98, 99, 100, 101, 102, 103, 104, 105, 106, 107, 108, 109, 110, 111, 112, 113, 114, 115, 116, 117, 118, 119, 120, 121, 122, 48, 49, 50, 51, 52, 53, 54, 55, 56, 57, 46, 45, 95, 47]
/-- may the byte stand in a name? -/
def nameB (b : UInt8) : Bool := nameSet.contains b
def goodN (l : List UInt8) : Bool := decide (1 ≤ l.length ∧ l.length ≤ 64) && l.all nameB
theorem dropW_nil (p : UInt8 → Bool) : ∀ l : List UInt8, l.dropWhile p = [] ↔ l.all p = true
  | [] => by simp
  | x :: l => by
    rw [List.dropWhile_cons, List.all_cons]
    by_cases h : p x = true
    · rw [if_pos h, dropW_nil p l, h]; simp
    · rw [if_neg h]; simp [h]
theorem dropW_twice (p : UInt8 → Bool) : ∀ l : List UInt8, (l.dropWhile p).dropWhile p = l.dropWhile p
  | [] => rfl
  | x :: l => by
    rw [List.dropWhile_cons]
    by_cases h : p x = true
    · rw [if_pos h, dropW_twice p l]
    · rw [if_neg h, List.dropWhile_cons, if_neg h]
theorem trimS_set (l cs : List UInt8) : (Lib.trimS l cs = []) ↔ l.all cs.contains = true := by
  unfold Lib.trimS Lib.trimLeftS Lib.trimRightS
  rw [dropW_nil, List.all_reverse]
  constructor
  · intro h
    have h2 := (dropW_nil _ _).2 h
    have h3 := (dropW_twice (cs.contains ·) l.reverse).symm.trans h2
    have h4 := (dropW_nil _ _).1 h3
    rwa [List.all_reverse] at h4
  · intro h
    have h3 : l.reverse.dropWhile (cs.contains ·) = [] := (dropW_nil _ _).2 (by rwa [List.all_reverse])
    rw [h3]; rfl

theorem nameSet_ba : (⟨nameSet.toArray⟩ : ByteArray).data.toList = nameSet := rfl
theorem goodN_no (l : List UInt8) (h : ¬ (1 ≤ l.length ∧ l.length ≤ 64)) : goodN l = false := by unfold goodN; rw [decide_eq_false h]; rfl
theorem goodN_yes (l : List UInt8) (h : 1 ≤ l.length ∧ l.length ≤ 64) : goodN l = (Lib.trimS l nameSet).isEmpty := by
  unfold goodN
  rw [decide_eq_true h, Bool.true_and, Bool.eq_iff_iff, List.isEmpty_iff]
  exact (trimS_set l nameSet).symm

set_option maxHeartbeats 2000000 in
theorem good_any (s : ByteArray) (w : World) (hs : s.size ≤ 140737488351232) :
    Calls Tryz.prog 66 #[.string s] w fun e w' => e = .returned (.bool (goodN s.data.toList)) ∧ Below w.heap.size w w' := by
  have hz := size_list s
  by_cases h0 : s.size = 0
  · have hg := goodN_no s.data.toList (by omega)
    have e0 : (s.toList == []) = true := by
      rw [Lib.toList_data, List.eq_nil_of_length_eq_zero (by omega : s.data.toList.length = 0)]; rfl
    have e1 : s.toList = [] := by simpa using e0
    rw [hg]
    clear hg hz
    go_enter Tryz.func66, Tryz.ntmps66
    go_wp2_with fail
    go_ret
    exact ⟨rfl, Below.refl _ _⟩
  · have hne : ¬ s.data.toList = [] := fun e => by rw [e] at hz; simp at hz; omega
    have e0 : (s.toList == []) = false := by rw [Lib.toList_data]; exact beq_eq_false_iff_ne.2 hne
    have e1 : ¬ s.toList = [] := by rw [Lib.toList_data]; exact hne
    have e2 : (s.toList != []) = true := by simp [bne, e0]
    by_cases h1 : s.size ≤ 64
    · have hg := goodN_yes s.data.toList (by omega)
      obtain ⟨t, ht⟩ : ∃ t : ByteArray, t = ⟨(Lib.trimS s.data.toList nameSet).toArray⟩ := ⟨_, rfl⟩
      have htd : t.data.toList = Lib.trimS s.data.toList nameSet := by rw [ht]
      have hte : (t.toList == []) = goodN s.data.toList := by
        rw [Lib.toList_data, hg, htd]
        cases Lib.trimS s.data.toList nameSet <;> rfl
      have hcall := Any.strings_Trim_laid Tryz.lays160 (by kernel_rfl) s ⟨nameSet.toArray⟩ w (by omega) (by decide) (ascii_of_all (by decide))
      rw [nameSet_ba, ← ht] at hcall
      obtain ⟨gb, hgb⟩ : ∃ b, b = goodN s.data.toList := ⟨_, rfl⟩
      rw [← hgb] at hte ⊢
      clear hg ht htd hgb
      unfold nameSet at hcall
      go_enter Tryz.func66, Tryz.ntmps66
      go_wp2_with fail
      refine hcall.mono ?_
      rintro e w1 ⟨rfl, hb1⟩
      clear hcall
      go_wp2_with fail
      go_ret
      exact ⟨rfl, hb1⟩
    · have hg := goodN_no s.data.toList (by omega)
      rw [hg]
      clear hg hz
      go_enter Tryz.func66, Tryz.ntmps66
      go_wp2_with fail
      go_ret
      exact ⟨rfl, Below.refl _ _⟩

theorem nameB_int (b : UInt8) : nameB b = decide ((97 ≤ (b.toNat : Int) ∧ (b.toNat : Int) ≤ 122) ∨ (48 ≤ (b.toNat : Int) ∧ (b.toNat : Int) ≤ 57) ∨ (b.toNat : Int) = 46 ∨ (b.toNat : Int) = 45 ∨ (b.toNat : Int) = 95 ∨ (b.toNat : Int) = 47) := by
  have h : ∀ n : Fin 256, nameB (UInt8.ofNat n.val) = decide ((97 ≤ (n.val : Int) ∧ (n.val : Int) ≤ 122) ∨ (48 ≤ (n.val : Int) ∧ (n.val : Int) ≤ 57) ∨ (n.val : Int) = 46 ∨ (n.val : Int) = 45 ∨ (n.val : Int) = 95 ∨ (n.val : Int) = 47) := by decide +kernel
  have := h ⟨b.toNat, b.toNat_lt⟩
  rwa [UInt8.ofNat_toNat] at this
theorem all_take {l : List UInt8} {k : Nat} (h : k < l.length) (p : UInt8 → Bool) : (l.take (k + 1)).all p = ((l.take k).all p && p l[k]) := by
  rw [List.take_succ_eq_append_getElem h, List.all_append]; simp

set_option maxHeartbeats 4000000 in
theorem refGood_any (s : ByteArray) (w : World) (hs : s.size ≤ 140737488351232) :
    Calls Tryz.prog 39 #[.string s] w fun e w' => e = .returned (.bool (goodN s.data.toList)) ∧ Below w.heap.size w w' := by
  have hz := size_list s
  have HZ := Lib.hid hz
  clear hz
  go_enter Tryz.func39, Tryz.ntmps39
  go_wp2
  go_loopw [2, 3] (fun v i wr => ∃ k : Nat, k ≤ s.size ∧ v = .bool false ∧ i = .int .i64 k ∧ (s.data.toList.take k).all nameB = true ∧ Below w.heap.size w wr) (fun _ i _ => s.size - (intOf i).toNat)
  case atStart => exact ⟨0, Nat.zero_le _, rfl, rfl, by simp, Below.refl _ _⟩
  case round =>
    obtain ⟨k, hk, rfl, rfl, hall, hb⟩ := hrel
    have HALL := Lib.hid hall
    clear hall
    by_cases hlt : k < s.size
    · have hkl : k < s.data.toList.length := by rw [HZ.out]; exact hlt
      have hx : s.data.toList[k] = s[k] := by
        have := bt_str s k hlt
        rw [bt_get _ k hkl] at this
        exact UInt8.toNat_inj.1 (by omega)
      have HT := Lib.hid (all_take hkl nameB)
      have hnb := nameB_int s[k]
      rw [← hx] at hnb
      have HNB := Lib.hid hnb
      have HX := Lib.hid hx
      obtain ⟨c, hc⟩ : ∃ c : Int, c = (s[k].toNat : Int) := ⟨_, rfl⟩
      have h0 : 0 ≤ c := by omega
      have HC := Lib.hid hc
      clear hx hnb
      have hrg : (c < 45) ∨ (c = 45) ∨ (c = 46) ∨ (c = 47) ∨ (48 ≤ c ∧ c ≤ 57) ∨ (58 ≤ c ∧ c ≤ 94) ∨ (c = 95) ∨ (c = 96) ∨ (97 ≤ c ∧ c ≤ 122) ∨ (122 < c) := by omega
      rcases hrg with h | h | h | h | h | h | h | h | h | h
      · have : ¬ 97 ≤ (s[k].toNat : Int) := by omega
        have : (s[k].toNat : Int) ≤ 122 := by omega
        have : ¬ 48 ≤ (s[k].toNat : Int) := by omega
        have : (s[k].toNat : Int) ≤ 57 := by omega
        have : ((s[k].toNat : Int) == 46) = false := beq_eq_false_iff_ne.2 (by omega)
        have : ((s[k].toNat : Int) == 45) = false := beq_eq_false_iff_ne.2 (by omega)
        have : ((s[k].toNat : Int) == 95) = false := beq_eq_false_iff_ne.2 (by omega)
        have : ((s[k].toNat : Int) == 47) = false := beq_eq_false_iff_ne.2 (by omega)
        have hg : nameB s.data.toList[k] = false := by rw [HNB.out, HX.out]; exact decide_eq_false (by omega)
        have hgn : goodN s.data.toList = false := by
          unfold goodN
          rw [show s.data.toList.all nameB = false from by
            rw [Bool.eq_false_iff]
            intro ha
            have := List.all_eq_true.1 ha _ (List.getElem_mem hkl)
            rw [hg] at this; cases this]
          exact Bool.and_false _
        have HG := Lib.hid hgn
        clear hg hgn h hc
        go_wp2
        go_ret
        exact ⟨by rw [HG.out]; rfl, hb⟩
      · have : ¬ 97 ≤ (s[k].toNat : Int) := by omega
        have : (s[k].toNat : Int) ≤ 122 := by omega
        have : ¬ 48 ≤ (s[k].toNat : Int) := by omega
        have : (s[k].toNat : Int) ≤ 57 := by omega
        have : ((s[k].toNat : Int) == 46) = false := beq_eq_false_iff_ne.2 (by omega)
        have : ((s[k].toNat : Int) == 45) = true := beq_iff_eq.2 (by omega)
        have : ((s[k].toNat : Int) == 95) = false := beq_eq_false_iff_ne.2 (by omega)
        have : ((s[k].toNat : Int) == 47) = false := beq_eq_false_iff_ne.2 (by omega)
        have hg : nameB s.data.toList[k] = true := by rw [HNB.out, HX.out]; exact decide_eq_true (by omega)
        have HG := Lib.hid hg
        clear hg h hc
        go_wp2
        go_roundw
        case rel => exact ⟨k + 1, by omega, by trivial, by go_num, by rw [HT.out, HALL.out, HG.out]; rfl, hb⟩
        case measure => simp [intOf]; omega
      · have : ¬ 97 ≤ (s[k].toNat : Int) := by omega
        have : (s[k].toNat : Int) ≤ 122 := by omega
        have : ¬ 48 ≤ (s[k].toNat : Int) := by omega
        have : (s[k].toNat : Int) ≤ 57 := by omega
        have : ((s[k].toNat : Int) == 46) = true := beq_iff_eq.2 (by omega)
        have : ((s[k].toNat : Int) == 45) = false := beq_eq_false_iff_ne.2 (by omega)
        have : ((s[k].toNat : Int) == 95) = false := beq_eq_false_iff_ne.2 (by omega)
        have : ((s[k].toNat : Int) == 47) = false := beq_eq_false_iff_ne.2 (by omega)
        have hg : nameB s.data.toList[k] = true := by rw [HNB.out, HX.out]; exact decide_eq_true (by omega)
        have HG := Lib.hid hg
        clear hg h hc
        go_wp2
        go_roundw
        case rel => exact ⟨k + 1, by omega, by trivial, by go_num, by rw [HT.out, HALL.out, HG.out]; rfl, hb⟩
        case measure => simp [intOf]; omega
      · have : ¬ 97 ≤ (s[k].toNat : Int) := by omega
        have : (s[k].toNat : Int) ≤ 122 := by omega
        have : ¬ 48 ≤ (s[k].toNat : Int) := by omega
        have : (s[k].toNat : Int) ≤ 57 := by omega
        have : ((s[k].toNat : Int) == 46) = false := beq_eq_false_iff_ne.2 (by omega)
        have : ((s[k].toNat : Int) == 45) = false := beq_eq_false_iff_ne.2 (by omega)
        have : ((s[k].toNat : Int) == 95) = false := beq_eq_false_iff_ne.2 (by omega)
        have : ((s[k].toNat : Int) == 47) = true := beq_iff_eq.2 (by omega)
        have hg : nameB s.data.toList[k] = true := by rw [HNB.out, HX.out]; exact decide_eq_true (by omega)
        have HG := Lib.hid hg
        clear hg h hc
        go_wp2
        go_roundw
        case rel => exact ⟨k + 1, by omega, by trivial, by go_num, by rw [HT.out, HALL.out, HG.out]; rfl, hb⟩
        case measure => simp [intOf]; omega
      · have : ¬ 97 ≤ (s[k].toNat : Int) := by omega
        have : (s[k].toNat : Int) ≤ 122 := by omega
        have : 48 ≤ (s[k].toNat : Int) := by omega
        have : (s[k].toNat : Int) ≤ 57 := by omega
        have : ((s[k].toNat : Int) == 46) = false := beq_eq_false_iff_ne.2 (by omega)
        have : ((s[k].toNat : Int) == 45) = false := beq_eq_false_iff_ne.2 (by omega)
        have : ((s[k].toNat : Int) == 95) = false := beq_eq_false_iff_ne.2 (by omega)
        have : ((s[k].toNat : Int) == 47) = false := beq_eq_false_iff_ne.2 (by omega)
        have hg : nameB s.data.toList[k] = true := by rw [HNB.out, HX.out]; exact decide_eq_true (by omega)
        have HG := Lib.hid hg
        clear hg h hc
        go_wp2
        go_roundw
        case rel => exact ⟨k + 1, by omega, by trivial, by go_num, by rw [HT.out, HALL.out, HG.out]; rfl, hb⟩
        case measure => simp [intOf]; omega
      · have : ¬ 97 ≤ (s[k].toNat : Int) := by omega
        have : (s[k].toNat : Int) ≤ 122 := by omega
        have : 48 ≤ (s[k].toNat : Int) := by omega
        have : ¬ (s[k].toNat : Int) ≤ 57 := by omega
        have : ((s[k].toNat : Int) == 46) = false := beq_eq_false_iff_ne.2 (by omega)
        have : ((s[k].toNat : Int) == 45) = false := beq_eq_false_iff_ne.2 (by omega)
        have : ((s[k].toNat : Int) == 95) = false := beq_eq_false_iff_ne.2 (by omega)
        have : ((s[k].toNat : Int) == 47) = false := beq_eq_false_iff_ne.2 (by omega)
        have hg : nameB s.data.toList[k] = false := by rw [HNB.out, HX.out]; exact decide_eq_false (by omega)
        have hgn : goodN s.data.toList = false := by
          unfold goodN
          rw [show s.data.toList.all nameB = false from by
            rw [Bool.eq_false_iff]
            intro ha
            have := List.all_eq_true.1 ha _ (List.getElem_mem hkl)
            rw [hg] at this; cases this]
          exact Bool.and_false _
        have HG := Lib.hid hgn
        clear hg hgn h hc
        go_wp2
        go_ret
        exact ⟨by rw [HG.out]; rfl, hb⟩
      · have : ¬ 97 ≤ (s[k].toNat : Int) := by omega
        have : (s[k].toNat : Int) ≤ 122 := by omega
        have : 48 ≤ (s[k].toNat : Int) := by omega
        have : ¬ (s[k].toNat : Int) ≤ 57 := by omega
        have : ((s[k].toNat : Int) == 46) = false := beq_eq_false_iff_ne.2 (by omega)
        have : ((s[k].toNat : Int) == 45) = false := beq_eq_false_iff_ne.2 (by omega)
        have : ((s[k].toNat : Int) == 95) = true := beq_iff_eq.2 (by omega)
        have : ((s[k].toNat : Int) == 47) = false := beq_eq_false_iff_ne.2 (by omega)
        have hg : nameB s.data.toList[k] = true := by rw [HNB.out, HX.out]; exact decide_eq_true (by omega)
        have HG := Lib.hid hg
        clear hg h hc
        go_wp2
        go_roundw
        case rel => exact ⟨k + 1, by omega, by trivial, by go_num, by rw [HT.out, HALL.out, HG.out]; rfl, hb⟩
        case measure => simp [intOf]; omega
      · have : ¬ 97 ≤ (s[k].toNat : Int) := by omega
        have : (s[k].toNat : Int) ≤ 122 := by omega
        have : 48 ≤ (s[k].toNat : Int) := by omega
        have : ¬ (s[k].toNat : Int) ≤ 57 := by omega
        have : ((s[k].toNat : Int) == 46) = false := beq_eq_false_iff_ne.2 (by omega)
        have : ((s[k].toNat : Int) == 45) = false := beq_eq_false_iff_ne.2 (by omega)
        have : ((s[k].toNat : Int) == 95) = false := beq_eq_false_iff_ne.2 (by omega)
        have : ((s[k].toNat : Int) == 47) = false := beq_eq_false_iff_ne.2 (by omega)
        have hg : nameB s.data.toList[k] = false := by rw [HNB.out, HX.out]; exact decide_eq_false (by omega)
        have hgn : goodN s.data.toList = false := by
          unfold goodN
          rw [show s.data.toList.all nameB = false from by
            rw [Bool.eq_false_iff]
            intro ha
            have := List.all_eq_true.1 ha _ (List.getElem_mem hkl)
            rw [hg] at this; cases this]
          exact Bool.and_false _
        have HG := Lib.hid hgn
        clear hg hgn h hc
        go_wp2
        go_ret
        exact ⟨by rw [HG.out]; rfl, hb⟩
      · have : 97 ≤ (s[k].toNat : Int) := by omega
        have : (s[k].toNat : Int) ≤ 122 := by omega
        have : 48 ≤ (s[k].toNat : Int) := by omega
        have : ¬ (s[k].toNat : Int) ≤ 57 := by omega
        have : ((s[k].toNat : Int) == 46) = false := beq_eq_false_iff_ne.2 (by omega)
        have : ((s[k].toNat : Int) == 45) = false := beq_eq_false_iff_ne.2 (by omega)
        have : ((s[k].toNat : Int) == 95) = false := beq_eq_false_iff_ne.2 (by omega)
        have : ((s[k].toNat : Int) == 47) = false := beq_eq_false_iff_ne.2 (by omega)
        have hg : nameB s.data.toList[k] = true := by rw [HNB.out, HX.out]; exact decide_eq_true (by omega)
        have HG := Lib.hid hg
        clear hg h hc
        go_wp2
        go_roundw
        case rel => exact ⟨k + 1, by omega, by trivial, by go_num, by rw [HT.out, HALL.out, HG.out]; rfl, hb⟩
        case measure => simp [intOf]; omega
      · have : 97 ≤ (s[k].toNat : Int) := by omega
        have : ¬ (s[k].toNat : Int) ≤ 122 := by omega
        have : 48 ≤ (s[k].toNat : Int) := by omega
        have : ¬ (s[k].toNat : Int) ≤ 57 := by omega
        have : ((s[k].toNat : Int) == 46) = false := beq_eq_false_iff_ne.2 (by omega)
        have : ((s[k].toNat : Int) == 45) = false := beq_eq_false_iff_ne.2 (by omega)
        have : ((s[k].toNat : Int) == 95) = false := beq_eq_false_iff_ne.2 (by omega)
        have : ((s[k].toNat : Int) == 47) = false := beq_eq_false_iff_ne.2 (by omega)
        have hg : nameB s.data.toList[k] = false := by rw [HNB.out, HX.out]; exact decide_eq_false (by omega)
        have hgn : goodN s.data.toList = false := by
          unfold goodN
          rw [show s.data.toList.all nameB = false from by
            rw [Bool.eq_false_iff]
            intro ha
            have := List.all_eq_true.1 ha _ (List.getElem_mem hkl)
            rw [hg] at this; cases this]
          exact Bool.and_false _
        have HG := Lib.hid hgn
        clear hg hgn h hc
        go_wp2
        go_ret
        exact ⟨by rw [HG.out]; rfl, hb⟩
    · obtain rfl : k = s.size := by omega
      have hgn : goodN s.data.toList = decide (1 ≤ s.size ∧ s.size ≤ 64) := by
        have ha := HALL.out
        rw [← HZ.out, List.take_length] at ha
        unfold goodN
        rw [ha, HZ.out, Bool.and_true]
      have HGN := Lib.hid hgn
      clear hgn
      by_cases c1 : 1 ≤ s.size
      · by_cases c2 : s.size ≤ 64
        · have HG := Lib.hid (show goodN s.data.toList = true from HGN.out.trans (decide_eq_true ⟨c1, c2⟩))
          go_wp2
          go_ret
          exact ⟨ret_bool (by rw [HG.out]; exact decide_eq_true (by omega)), hb⟩
        · have HG := Lib.hid (show goodN s.data.toList = false from HGN.out.trans (decide_eq_false (fun e => c2 e.2)))
          go_wp2
          go_ret
          exact ⟨ret_bool (by rw [HG.out]; exact decide_eq_false (by omega)), hb⟩
      · have HG := Lib.hid (show goodN s.data.toList = false from HGN.out.trans (decide_eq_false (fun e => c1 e.1)))
        go_wp2
        go_ret
        exact ⟨by rw [HG.out]; rfl, hb⟩
end Go.Proofs.YtheoklhmlnfgjaaGreatDoor
/-
  The three changes of names, as the closures that the program keeps.
-/
namespace Go.Proofs.YtheoklhmlnfgjaaGreatDoor
open Go.RowKit Go.Maps

set_option maxHeartbeats 1000000 in
theorem create1_any (b bf bk f : Nat) (nm : ByteArray) (M : NM) (w : World) (h : OwnN w b M) (c0 : w.cell? ⟨bf, 0, none⟩ = some (.pointer (some ⟨f, 0, none⟩))) (c1 : w.cell? ⟨bk, 0, none⟩ = some (.string nm)) (hk : nm.size ≤ maxLen) (hl : M.length < maxLen) :
    Calls Tryz.prog 81 #[.map (some b), .pointer (some ⟨bf, 0, none⟩), .pointer (some ⟨bk, 0, none⟩)] w fun e w' => e = .returned (.tuple #[]) ∧ OwnN w' b (insN nm.data.toList f M) ∧ w.grownBy w' (some b) ∧ w'.heap.size = w.heap.size := by
  obtain ⟨w1, hrun, hown, hgr, hsz⟩ := run_putF h nm f hk hl
  go_enter Tryz.func81, Tryz.ntmps81
  go_wp2_with fail
  go_end0
  exact ⟨rfl, hown, hgr, hsz⟩

set_option maxHeartbeats 1000000 in
theorem remove1_any (b bk : Nat) (nm : ByteArray) (M : NM) (w : World) (h : OwnN w b M) (c1 : w.cell? ⟨bk, 0, none⟩ = some (.string nm)) (hk : nm.size ≤ maxLen) :
    Calls Tryz.prog 79 #[.map (some b), .pointer (some ⟨bk, 0, none⟩)] w fun e w' => e = .returned (.tuple #[]) ∧ OwnN w' b (delN nm.data.toList M) ∧ w.grownBy w' (some b) ∧ w'.heap.size = w.heap.size := by
  obtain ⟨w1, hrun, hown, hgr, hsz⟩ := run_delF h nm hk
  go_enter Tryz.func79, Tryz.ntmps79
  go_wp2_with fail
  go_end0
  exact ⟨rfl, hown, hgr, hsz⟩

theorem map_not_row {w : World} {b g : Nat} {M : NM} {v : Value} {o : Nat} (h : OwnN w b M) (hc : w.cell? ⟨g, o, none⟩ = some v) : g ≠ b := by
  rintro rfl
  obtain ⟨_, es, clock, hb, _⟩ := h
  simp [World.cell?, hb] at hc
theorem cell_grown {w w' : World} {b g o : Nat} {v : Value} (hg : w.grownBy w' (some b)) (hc : w.cell? ⟨g, o, none⟩ = some v) (hne : g ≠ b) : w'.cell? ⟨g, o, none⟩ = some v :=
  hg.cell hc (fun e => hne (by injection e))

set_option maxHeartbeats 1000000 in
theorem rename1_any (b ba bf bk f : Nat) (na nm : ByteArray) (M : NM) (w : World) (h : OwnN w b M) (ca : w.cell? ⟨ba, 0, none⟩ = some (.string na)) (c0 : w.cell? ⟨bf, 0, none⟩ = some (.pointer (some ⟨f, 0, none⟩))) (c1 : w.cell? ⟨bk, 0, none⟩ = some (.string nm)) (hka : na.size ≤ maxLen) (hk : nm.size ≤ maxLen) (hl : M.length < maxLen) :
    Calls Tryz.prog 87 #[.map (some b), .pointer (some ⟨ba, 0, none⟩), .pointer (some ⟨bf, 0, none⟩), .pointer (some ⟨bk, 0, none⟩)] w fun e w' => e = .returned (.tuple #[]) ∧ OwnN w' b (insN nm.data.toList f (delN na.data.toList M)) ∧ w.grownBy w' (some b) ∧ w'.heap.size = w.heap.size := by
  obtain ⟨w1, hrun, hown, hgr, hsz⟩ := run_delF h na hka
  have hle : (delN na.data.toList M).length ≤ M.length := List.length_filter_le _ _
  obtain ⟨w2, hrun2, hown2, hgr2, hsz2⟩ := run_putF hown nm f hk (by omega)
  have d0 := cell_grown hgr c0 (map_not_row h c0)
  have d1 := cell_grown hgr c1 (map_not_row h c1)
  go_enter Tryz.func87, Tryz.ntmps87
  go_wp2_with fail
  go_end0
  exact ⟨rfl, hown2, ⟨hgr2.os.trans hgr.os, hgr2.tape.trans hgr.tape, hgr2.output.trans hgr.output, by omega, fun i hi hn => (hgr2.block i (by omega) hn).trans (hgr.block i hi hn)⟩, by omega⟩
end Go.Proofs.YtheoklhmlnfgjaaGreatDoor
/-
  The plain helpers of the statements: CopyBytes, SameBytes (of a program without Spare).
-/
namespace Go.Proofs.YtheoklhmlnfgjaaGreatDoor
open Go.RowKit

set_option maxHeartbeats 1000000 in
theorem copyBytes_any (l : List UInt8) (p : Option Addr) (n c : Nat) (hn : l.length = n) (hr : n ≤ 140737488355328) (w : World) (h : In8 w p l) :
    Calls Tryz.prog 14 #[.slice p n c] w fun e w' => ∃ v, e = .returned v ∧ Own8 w' w.heap.size v l ∧ Below w.heap.size w w' := by
  subst hn
  have hin := h.alloc (.cells #[] 5)
  have hown := Own8.made w
  go_enter Tryz.func14, Tryz.ntmps14
  go_wp2_with (at_builtin; refine wpList_append8 rfl _ _ rfl w.heap.size _ [] rfl hown _ _ _ l rfl rfl hin (by simp; omega) (by simp) ?_; intro v1 w1 hown1 hgrow1 _)
  go_ret
  exact ⟨v1, rfl, hown1, ((Below.refl _ w).alloc (Nat.le_refl _) _).grown hgrow1 (by simp) (fun k e => by cases e; exact Nat.le_refl _)⟩

theorem take_eq_succ (l m : List UInt8) (k : Nat) (h1 : k < l.length) (h2 : k < m.length) (h : l.take k = m.take k) (e : bt l k = bt m k) : l.take (k + 1) = m.take (k + 1) := by
  rw [take_snoc l k h1, take_snoc m k h2, h]
  rw [bt_get l k h1, bt_get m k h2] at e
  rw [show l[k] = m[k] from UInt8.toNat_inj.1 (by omega)]
theorem bt_ne (l m : List UInt8) (k : Nat) (h : ¬ bt l k = bt m k) : l ≠ m := by rintro rfl; exact h rfl

set_option maxHeartbeats 1000000 in
theorem sameBytes_any (l m : List UInt8) (p q : Option Addr) (n c n2 d : Nat) (hn : l.length = n) (hn2 : m.length = n2) (hm : n ≤ maxLen) (hm2 : n2 ≤ maxLen) (w : World) (h : In8 w p l) (h2 : In8 w q m) :
    Calls Tryz.prog 13 #[.slice p n c, .slice q n2 d] w fun e w' => e = .returned (.bool (decide (l = m))) ∧ Below w.heap.size w w' := by
  subst hn
  subst hn2
  unfold maxLen at hm hm2
  by_cases hlen : l.length = m.length
  · have hne : ((l.length : Int) != (m.length : Int)) = false := by simp [hlen]
    go_enter Tryz.func13, Tryz.ntmps13
    go_wp2
    go_loopw [5] (fun i wr => ∃ k : Nat, k ≤ l.length ∧ i = .int .i64 k ∧ l.take k = m.take k ∧ Below w.heap.size w wr) (fun i _ => l.length - (intOf i).toNat)
    case atStart => exact ⟨0, Nat.zero_le _, rfl, rfl, Below.refl _ _⟩
    case round =>
      obtain ⟨k, hk, rfl, hpre, hb⟩ := hrel
      by_cases hlt : k < l.length
      · obtain ⟨b, o, rfl, hc⟩ := (h.below hb).at hlt
        obtain ⟨b2, o2, rfl, hc2⟩ := (h2.below hb).at (show k < m.length by omega)
        have hck := hc k hlt
        have hck2 := hc2 k (by omega)
        have hlt2 : k < m.length := by omega
        have HP := Lib.hid hpre
        have HL := Lib.hid hlen
        clear hc hc2 h h2 hpre hlen
        by_cases heq : bt l k = bt m k
        · have hbool : (bt l k != bt m k) = false := by simp [heq]
          have HE := Lib.hid heq
          clear heq
          go_wp2
          go_quiet (fail)
          go_wp2
          go_roundw
          case rel => exact ⟨k + 1, by omega, by go_num, take_eq_succ l m k hlt hlt2 HP.out HE.out, bdrewN hb _⟩
          case measure => simp [intOf]; omega
        · have hbool : (bt l k != bt m k) = true := by simp [heq]
          have hno := bt_ne l m k heq
          go_wp2
          go_quiet (fail)
          go_wp2
          go_ret
          exact ⟨ret_bool (by simp [hno]), bdrewN hb _⟩
      · obtain rfl : k = l.length := by omega
        go_wp2
        go_ret
        refine ⟨ret_bool ?_, hb⟩
        rw [List.take_length, hlen, List.take_length] at hpre
        simp [hpre]
  · have hne : ((l.length : Int) != (m.length : Int)) = true := by simp; omega
    have hno : l ≠ m := by rintro rfl; exact hlen rfl
    clear hlen
    go_enter Tryz.func13, Tryz.ntmps13
    go_wp2
    go_ret
    exact ⟨ret_bool (by simp [hno]), Below.refl _ _⟩
end Go.Proofs.YtheoklhmlnfgjaaGreatDoor
/-
  append, and where the new slice lies; append of noughts. No program is in sight here.
-/
namespace Go.Proofs.YtheoklhmlnfgjaaGreatDoor
open Go.RowKit

section
variable {P : Program} (w : World)
theorem run_append_where (base : Nat) (t tx ty e : TypeId) (i : TypeInfo) (z : Value) (size bytes : Nat) (ht : P.underlying t = some (.slice e)) (hi : P.info? e = some i) (hz : i.zero = some z)
    (hsize : i.size = size) (hby : i.bytes = bytes) (hzs : z.cells.size = size)
    (v : Value) (n : Nat) (xs : List Value) (hown : w.ownsRow base e size v n xs)
    (x : Value) (m : Nat) (news : List Value) (hs : Src P size tx x m news w)
    (h63 : n + m ≤ maxLen) (hfit : ∀ old, old < n + m → Builtin.nextslicecap (n + m) old * bytes ≤ 281474976710656) (hbase : base ≤ w.heap.size) :
    ∃ v' w', (Builtin.append_ #[t, tx] ty #[v, x]).run P w = .ok v' w' ∧ w'.ownsRow base e size v' (n + m) (xs ++ news) ∧ w.grownBy w' v.ownBlock ∧
      ((∃ g cap, v = .slice (some ⟨g, 0, none⟩) n cap ∧ v' = .slice (some ⟨g, 0, none⟩) (n + m) cap) ∨ (∃ cap, v' = .slice (some ⟨w.heap.size, 0, none⟩) (n + m) cap ∧ w.grownBy w' none) ∨ (v' = v ∧ w' = w ∧ m = 0)) := by
  subst hsize
  subst hby
  have hl : news.length = m * i.size := hs.newsLen
  have hsmall : n + m ≤ 9223372036854775807 := by simp only [maxLen] at h63; omega
  have hlen : (xs ++ news).length = (n + m) * i.size := by rw [List.length_append, hown.1, hl, Nat.add_mul]
  have grown : ∀ (old : Nat), old < n + m → ∀ (row : Option Nat),
      (w.drew.alloc (.cells ((xs ++ news).toArray ++ Builtin.zeroCells z.cells (grownCap w (n + m) old e - (n + m))) e)).ownsRow base e i.size
        (.slice (some ⟨w.heap.size, 0, none⟩) (n + m) (grownCap w (n + m) old e)) (n + m) (xs ++ news) ∧
      w.grownBy (w.drew.alloc (.cells ((xs ++ news).toArray ++ Builtin.zeroCells z.cells (grownCap w (n + m) old e - (n + m))) e)) row := by
    intro old ho row
    have hge := grownCap_ge w (n + m) old e
    have hcm : grownCap w (n + m) old e ≤ maxLen := grownCap_le_maxLen w (n + m) old e h63
    refine ⟨⟨hlen, .inr ⟨w.heap.size, _, _, rfl, hbase, heap_alloc_new w.drew _, hge, hcm, ?_, ?_⟩⟩, ⟨rfl, rfl, rfl, by simp, fun k hk _ => Below.heap_alloc w.drew _ k hk⟩⟩
    · simp only [Array.size_append, List.size_toArray, size_zeroCells, hzs, hlen, ← Nat.add_mul]
      congr 1
      omega
    · simp only [Array.toList_append]
      rw [← hlen]
      exact List.take_left
  rcases hown.2 with ⟨rfl, rfl⟩ | ⟨g, cap, cur, rfl, hbg, hg, hnc, hcm, hcs, htake⟩
  · have hx : xs = [] := List.eq_nil_of_length_eq_zero (by simpa using hown.1)
    subst hx
    by_cases hm : m = 0
    · subst hm
      have hn : news = [] := List.eq_nil_of_length_eq_zero (by simpa using hl)
      subst hn
      exact ⟨.slice none 0 0, w, run_nothing_nil w t tx ty e i ht hi x hs, World.ownsRow_nil w base e i.size, ⟨rfl, rfl, rfl, Nat.le_refl _, fun _ _ _ => rfl⟩, .inr (.inr ⟨rfl, rfl, rfl⟩)⟩
    · have hr := run_append_grow_src (P := P) w t tx ty e i z ht hi hz none 0 0 [] (run_firstCells_none w.drew i.size 0 0 0) x m news hs (by omega) (by omega) (by have := hfit 0 (by omega); simpa using this)
      have hgr := grown 0 (by omega) (Value.ownBlock (.slice none 0 0))
      have hgr2 := (grown 0 (by omega) none).2
      simp only [Nat.zero_add, List.nil_append] at hgr hgr2 hr ⊢
      exact ⟨_, _, hr, hgr.1, hgr.2, .inr (.inl ⟨_, rfl, hgr2⟩)⟩
  · by_cases hroom : n + m ≤ cap
    · have hfit : n * i.size + news.length ≤ cur.size := by rw [hl, hcs, ← Nat.add_mul]; exact Nat.mul_le_mul_right _ hroom
      have hr := run_room_row (P := P) w t tx ty e i ht hi g n cap cur hg x m news hs hroom hfit
      refine ⟨_, _, hr, ⟨hlen, .inr ⟨g, cap, _, rfl, hbg, setRow_heap w g cur _ e _ hg, hroom, hcm, ?_, ?_⟩⟩, ⟨rfl, rfl, rfl, by simp, fun k _ hk => setRow_other w g k _ (fun e => hk (by simp [Value.ownBlock, e]))⟩, .inl ⟨g, cap, rfl, rfl⟩⟩
      · simp only [List.size_toArray, List.length_append, List.length_take, List.length_drop, Array.length_toList]
        omega
      · rw [htake, ← hlen]
        exact List.take_left
    · have holds : ∀ j u, xs[j]? = some u → w.cell? ((⟨g, 0, none⟩ : Addr).add j) = some u := hown.cells (g := g) rfl
      have hold := run_firstCells_some (P := P) w.drew i.size n ⟨g, 0, none⟩ n cap xs hown.1 (by simpa using holds)
      have hr := run_append_grow_src (P := P) w t tx ty e i z ht hi hz (some ⟨g, 0, none⟩) n cap xs hold x m news hs (by omega) (by omega) (hfit cap (by omega))
      have hgr := grown cap (by omega) (Value.ownBlock (.slice (some ⟨g, 0, none⟩) n cap))
      exact ⟨_, _, hr, hgr.1, hgr.2, .inr (.inl ⟨_, rfl, (grown cap (by omega) none).2⟩)⟩

/-- append of so many noughts ('append(s, make([]T, n)...)'): the same as an append of a slice of noughts -/
theorem run_zeros (t ti ty e : TypeId) (k : IntKind) (i : TypeInfo) (z : Value) (size : Nat) (ht : P.underlying t = some (.slice e)) (hti : P.underlying ti = some (.int k)) (hi : P.info? e = some i) (hz : i.zero = some z) (hsize : i.size = size) (hzs : z.cells.size = size)
    (v : Value) (n : Nat) (xs : List Value) (base : Nat) (hown : w.ownsRow base e size v n xs) (m : Nat) (hm0 : 0 < m) (hm : m ≤ 100000) (h1 : ∀ u ∈ (Builtin.zeroCells z.cells m).toList, u.oneCell' = true)
    (hs0 : 0 < size) (hb : (m : Int) * i.bytes ≤ 281474976710656) (h63 : n + m ≤ maxLen) (hfit : ∀ old, old < n + m → Builtin.nextslicecap (n + m) old * i.bytes ≤ 281474976710656) (hbase : base ≤ w.heap.size) :
    ∃ v' w', (Builtin.append_ #[t, ti] ty #[v, .int .i64 m]).run P w = .ok v' w' ∧ w'.ownsRow base e size v' (n + m) (xs ++ (Builtin.zeroCells z.cells m).toList) ∧ w.grownBy w' v.ownBlock ∧
      ((∃ g cap, v = .slice (some ⟨g, 0, none⟩) n cap ∧ v' = .slice (some ⟨g, 0, none⟩) (n + m) cap) ∨ (∃ cap, v' = .slice (some ⟨w.heap.size, 0, none⟩) (n + m) cap ∧ w.grownBy w' none)) := by
  subst hsize
  have hmw : IntKind.i64.wrap (m : Int) = (m : Int) := IntWalk.i64_in _ ⟨by omega, by omega⟩
  have hneg : ¬ ((m : Int) < 0) := by omega
  have hbig : ¬ (281474976710656 < (m : Int) * i.bytes) := by omega
  have hzl : (Builtin.zeroCells z.cells m).toList.length = m * i.size := by rw [Array.length_toList, size_zeroCells, hzs]
  have hmz : ¬ (m = 0 ∨ i.size = 0) := by omega
  have hmz' : ¬ (m * i.size = 0) := by
    intro e0; rcases Nat.mul_eq_zero.1 e0 with h | h <;> omega
  have hlen : (xs ++ (Builtin.zeroCells z.cells m).toList).length = (n + m) * i.size := by rw [List.length_append, hown.1, hzl, Nat.add_mul]
  have hsmall : n + m ≤ 9223372036854775807 := by simp only [maxLen] at h63; omega
  have grown : ∀ (old : Nat), old < n + m → ∀ (row : Option Nat),
      (w.drew.alloc (.cells ((xs ++ (Builtin.zeroCells z.cells m).toList).toArray ++ Builtin.zeroCells z.cells (grownCap w (n + m) old e - (n + m))) e)).ownsRow base e i.size
        (.slice (some ⟨w.heap.size, 0, none⟩) (n + m) (grownCap w (n + m) old e)) (n + m) (xs ++ (Builtin.zeroCells z.cells m).toList) ∧
      w.grownBy (w.drew.alloc (.cells ((xs ++ (Builtin.zeroCells z.cells m).toList).toArray ++ Builtin.zeroCells z.cells (grownCap w (n + m) old e - (n + m))) e)) row := by
    intro old ho row
    have hge := grownCap_ge w (n + m) old e
    have hcm : grownCap w (n + m) old e ≤ maxLen := grownCap_le_maxLen w (n + m) old e h63
    refine ⟨⟨hlen, .inr ⟨w.heap.size, _, _, rfl, hbase, heap_alloc_new w.drew _, hge, hcm, ?_, ?_⟩⟩, ⟨rfl, rfl, rfl, by simp, fun k hk _ => Below.heap_alloc w.drew _ k hk⟩⟩
    · simp only [Array.size_append, List.size_toArray, size_zeroCells, hzs, hlen, ← Nat.add_mul]
      congr 1
      omega
    · simp only [Array.toList_append]
      rw [← hlen]
      exact List.take_left
  rcases hown.2 with ⟨rfl, rfl⟩ | ⟨g, cap, cur, rfl, hbg, hg, hnc, hcm, hcs, htake⟩
  · have hx : xs = [] := List.eq_nil_of_length_eq_zero (by simpa using hown.1)
    subst hx
    have hn : ¬ (m ≤ 0) := by omega
    have hf := hfit 0 (by omega)
    simp only [Nat.zero_add] at hf
    have hf' : ¬ (281474976710656 < Builtin.nextslicecap m 0 * i.bytes) := by omega
    have hm63 : ¬ (9223372036854775807 < (m : Int)) := by omega
    have hgr := grown 0 (by omega) (Value.ownBlock (.slice none 0 0))
    have hgr2 := (grown 0 (by omega) none).2
    simp only [Nat.zero_add, List.nil_append] at hgr hgr2 ⊢
    refine ⟨_, _, ?_, hgr.1, hgr.2, .inr ⟨_, rfl, hgr2⟩⟩
    have hne0 : ¬ m = 0 := by omega
    have hns : ¬ i.size = 0 := by omega
    simp [Builtin.append_, run_underlying ht, run_underlying hti, sizeOf, typeInfo, zeroValue, hi, hz, asInt, asIntOf, hmw, hneg, hbig, hf', Question.forced, Builtin.firstCells, newRow, grownCap, hne0, hm63]
    intro h0; exact absurd h0 hmz'
  · have hne0 : ¬ m = 0 := by omega
    have hns : ¬ i.size = 0 := by omega
    by_cases hroom : n + m ≤ cap
    · have hfitc : n * i.size + (Builtin.zeroCells z.cells m).toList.length ≤ cur.size := by rw [hzl, hcs, ← Nat.add_mul]; exact Nat.mul_le_mul_right _ hroom
      have hst := run_storeCells_at P g (n * i.size) e (Builtin.zeroCells z.cells m).toList 0 cur w hg (by simpa using hfitc) h1
      simp only [Nat.add_zero] at hst
      have hr : (Builtin.append_ #[t, ti] ty #[.slice (some ⟨g, 0, none⟩) n cap, .int .i64 m]).run P w = .ok (.slice (some ⟨g, 0, none⟩) (n + m) cap)
          (w.setRow g (cur.toList.take (n * i.size) ++ (Builtin.zeroCells z.cells m).toList ++ cur.toList.drop (n * i.size + (Builtin.zeroCells z.cells m).toList.length)).toArray) := by
        simp [Builtin.append_, run_underlying ht, run_underlying hti, sizeOf, typeInfo, zeroValue, hi, hz, asInt, asIntOf, hmw, hneg, hbig, hroom, Addr.add_lit]
        rw [if_neg hmz', hst]
        simp
      refine ⟨_, _, hr, ⟨hlen, .inr ⟨g, cap, _, rfl, hbg, setRow_heap w g cur _ e _ hg, hroom, hcm, ?_, ?_⟩⟩, ⟨rfl, rfl, rfl, by simp, fun k _ hk => setRow_other w g k _ (fun e => hk (by simp [Value.ownBlock, e]))⟩, .inl ⟨g, cap, rfl, rfl⟩⟩
      · simp only [List.size_toArray, List.length_append, List.length_take, List.length_drop, Array.length_toList] at hfitc ⊢
        omega
      · rw [htake, ← hlen]
        exact List.take_left
    · have holds : ∀ j u, xs[j]? = some u → w.cell? ((⟨g, 0, none⟩ : Addr).add j) = some u := hown.cells (g := g) rfl
      have hold := run_firstCells_some (P := P) w.drew i.size n ⟨g, 0, none⟩ n cap xs hown.1 (by simpa using holds)
      have hf := hfit cap (by omega)
      have hf' : ¬ (281474976710656 < Builtin.nextslicecap (n + m) cap * i.bytes) := by omega
      have hm63 : ¬ (9223372036854775807 < (n : Int) + (m : Int)) := by omega
      refine ⟨_, _, ?_, (grown cap (by omega) (some g)).1, (grown cap (by omega) (some g)).2, .inr ⟨_, rfl, (grown cap (by omega) none).2⟩⟩
      simp [Builtin.append_, run_underlying ht, run_underlying hti, sizeOf, typeInfo, zeroValue, hi, hz, asInt, asIntOf, hmw, hneg, hbig, hroom, hf', Question.forced, hold, newRow, grownCap, hm63]
      rw [if_neg hmz']
      congr 3
      apply Array.ext'
      simp [List.append_assoc]
end
end Go.Proofs.YtheoklhmlnfgjaaGreatDoor
/-
  Several rows of bytes of the call's own, in blocks of their own: what a store, an append, a draw leaves of them. No function is in sight here.
-/
namespace Go.Proofs.YtheoklhmlnfgjaaGreatDoor
open Go.RowKit

/-- of what was there only the blocks A may have turned -/
structure Only (A : Nat → Prop) (w w' : World) : Prop where
  os : w'.os = w.os
  tape : w'.tape = w.tape
  output : w'.output = w.output
  size : w.heap.size ≤ w'.heap.size
  block : ∀ k, k < w.heap.size → ¬ A k → w'.heap[k]? = w.heap[k]?
theorem Only.refl (A : Nat → Prop) (w : World) : Only A w w := ⟨rfl, rfl, rfl, Nat.le_refl _, fun _ _ _ => rfl⟩
theorem Only.drewN {A : Nat → Prop} {w w' : World} (h : Only A w w') (n : Nat) : Only A w (w'.drewN n) := ⟨h.os, h.tape, h.output, h.size, h.block⟩
theorem Only.drew {A : Nat → Prop} {w w' : World} (h : Only A w w') : Only A w w'.drew := ⟨h.os, h.tape, h.output, h.size, h.block⟩
theorem Only.alloc {A : Nat → Prop} {w w' : World} (h : Only A w w') (o : Obj) : Only A w (w'.alloc o) :=
  ⟨h.os, h.tape, h.output, Nat.le_trans h.size (by simp), fun k hk ha => (Below.heap_alloc w' o k (Nat.lt_of_lt_of_le hk h.size)).trans (h.block k hk ha)⟩
theorem Only.setCell {A : Nat → Prop} {w w' : World} (h : Only A w w') {a : Addr} (ha : A a.block) (u : Value) : Only A w (w'.setCell a u) :=
  ⟨h.os, h.tape, h.output, Nat.le_trans h.size (by simp [World.setCell]), fun k hk hn => (Below.heap_setCell w' a u k (fun e => hn (e ▸ ha))).trans (h.block k hk hn)⟩
theorem Only.grown {A : Nat → Prop} {w w' w2 : World} {row : Option Nat} (h : Only A w w') (hg : w'.grownBy w2 row) (hr : ∀ k, row = some k → A k ∨ w.heap.size ≤ k) : Only A w w2 :=
  ⟨hg.os.trans h.os, hg.tape.trans h.tape, hg.output.trans h.output, Nat.le_trans h.size hg.size, fun k hk hn =>
    (hg.block k (Nat.lt_of_lt_of_le hk h.size) (fun e => by rcases hr k e.symm with h1 | h1; exact hn h1; omega)).trans (h.block k hk hn)⟩
theorem Only.cell {A : Nat → Prop} {w w' : World} (h : Only A w w') {p : Addr} {v : Value} (hc : w.cell? p = some v) (hn : ¬ A p.block) : w'.cell? p = some v :=
  (World.cell?_of_block (h.block p.block (World.block_lt_of_cell? w _ hc) hn)).trans hc
theorem Only.below {A : Nat → Prop} {w w' : World} {B : Nat} (h : Only A w w') (hA : ∀ k, A k → B ≤ k) (hB : B ≤ w.heap.size) : Below B w w' :=
  ⟨h.os, h.tape, h.output, h.size, fun k hk => h.block k (by omega) (fun ha => by have := hA k ha; omega)⟩

/-- a beginning of a row -/
theorem Own8.first {w : World} {base g cap : Nat} {l m : List UInt8} {n : Nat} (h : Own8 w base (.slice (some ⟨g, 0, none⟩) n cap) (l ++ m)) : Own8 w base (.slice (some ⟨g, 0, none⟩) l.length cap) l := by
  refine ⟨by simp [by8], ?_⟩
  rcases h.2 with ⟨h1, _⟩ | ⟨g', cap', cur, h1, hb, hg, hnc, hcm, hcs, ht⟩
  · simp at h1
  · simp only [Value.slice.injEq, Option.some.injEq, Addr.mk.injEq, and_true] at h1
    obtain ⟨rfl, hn, rfl⟩ := h1
    refine .inr ⟨g, cap, cur, rfl, hb, hg, by simp at hnc; omega, hcm, hcs, ?_⟩
    have := congrArg (List.take (l.length * 1)) ht
    rw [List.take_take, by8_append] at this
    rw [Nat.min_eq_left (by simp)] at this
    rw [this, Nat.mul_one, List.take_append_of_le_length (by simp [by8]), List.take_of_length_le (by simp [by8])]

/-- what a row's own block is -/
theorem own_lt {w : World} {base : Nat} {v : Value} {l : List UInt8} (h : Own8 w base v l) {g : Nat} (hg : v.ownBlock = some g) : base ≤ g ∧ g < w.heap.size := World.ownsRow.lt h g hg
theorem Own8.kept {w w' : World} {base : Nat} {v : Value} {l : List UInt8} {row : Option Nat} (h : Own8 w base v l) (hg : w.grownBy w' row) (hne : v.ownBlock = none ∨ v.ownBlock ≠ row) : Own8 w' base v l := World.ownsRow.kept h hg hne
theorem Own8.setOther {w : World} {base : Nat} {v : Value} {l : List UInt8} (h : Own8 w base v l) {a : Addr} (ha : v.ownBlock ≠ some a.block) (u : Value) : Own8 (w.setCell a u) base v l := ownsRow_setCell_other h ha u

/-- append, and what becomes of the row from which it grew -/
def Behind (w w' : World) (base : Nat) (v v' : Value) (l l2 : List UInt8) : Prop :=
  Own8 w' base v' (l ++ l2) ∧ w.grownBy w' v.ownBlock ∧
  ((∃ g cap, v = .slice (some ⟨g, 0, none⟩) l.length cap ∧ v' = .slice (some ⟨g, 0, none⟩) (l.length + l2.length) cap) ∨ (∃ cap, v' = .slice (some ⟨w.heap.size, 0, none⟩) (l.length + l2.length) cap ∧ w.grownBy w' none) ∨ (v' = v ∧ w' = w ∧ l2.length = 0))

section
variable {w : World}
theorem wpList_append8k {ops : Array Oper} {rest : List Oper} {o : Oper} {a : Act} {Q : Exit → Act → World → Prop} (hgd : o.guard = none) (s x : Operand)
    (ho : o.op = .call { callee := .builtin .append, args := #[s, x], argTypes := #[22, 22] })
    (base : Nat) (v : Value) (l : List UInt8) (hv : a.eval s = v) (hown : Own8 w base v l)
    (p : Option Addr) (m c : Nat) (l2 : List UInt8) (hm : l2.length = m) (hx : a.eval x = .slice p m c) (hin : In8 w p l2)
    (hr : l.length + m ≤ 200000000000000) (hbase : base ≤ w.heap.size)
    (h : ∀ v' w', Behind w w' base v v' l l2 → wpList Tryz.prog ops Q rest (a.put o.dst v') w') : wpList Tryz.prog ops Q (o :: rest) a w := by
  subst hm
  refine wpList_plain hgd fun K hK => ?_
  obtain ⟨i, hi, hz, hz1, hz2⟩ := info_parts info8
  obtain ⟨v', w', hr', h2, h3, h4⟩ := run_append_where (P := Tryz.prog) w base 22 22 o.type 5 i (.int .u8 0) 1 1 Tryz.underlying22 hi hz hz1 hz2 rfl v l.length (by8 l) hown _ l2.length (by8 l2) (Src.of8 (c := c) hin) (by unfold maxLen; omega) (fun old ho' => by have := nextslicecap_le _ _ ho'; omega) hbase
  unfold Oper.wp execOp
  simp only [ho, resolve, invoke, builtin, Sem.run_bind, Sem.run_pure, Result.andThen_ok, List.map_toArray, List.map_cons, List.map_nil, hv, hx, hr']
  exact hK _ _ (h v' w' ⟨by unfold Own8; rw [List.length_append, by8_append]; exact h2, h3, h4⟩)

theorem zeros_by8 (m : Nat) : (Builtin.zeroCells (Value.int .u8 0).cells m).toList = by8 (List.replicate m 0) := by
  show (Builtin.zeroCells #[Value.int .u8 0] m).toList = _
  unfold Builtin.zeroCells by8
  apply List.ext_getElem?
  intro j
  by_cases hj : j < m
  · simp [hj, Nat.mod_one]
  · simp [hj]

theorem wpList_append8z {ops : Array Oper} {rest : List Oper} {o : Oper} {a : Act} {Q : Exit → Act → World → Prop} (hgd : o.guard = none) (s x : Operand)
    (ho : o.op = .call { callee := .builtin .append, args := #[s, x], argTypes := #[22, 3] })
    (base : Nat) (v : Value) (l : List UInt8) (hv : a.eval s = v) (hown : Own8 w base v l)
    (m : Nat) (M : Int) (hM : M = (m : Int)) (hx : a.eval x = .int .i64 M) (hm0 : 0 < m) (hm : m ≤ 100000)
    (hr : l.length + m ≤ 200000000000000) (hbase : base ≤ w.heap.size)
    (h : ∀ v' w', Behind w w' base v v' l (List.replicate m 0) → wpList Tryz.prog ops Q rest (a.put o.dst v') w') : wpList Tryz.prog ops Q (o :: rest) a w := by
  subst hM
  refine wpList_plain hgd fun K hK => ?_
  obtain ⟨i, hi, hz, hz1, hz2⟩ := info_parts info8
  obtain ⟨v', w', hr', h2, h3, h4⟩ := run_zeros (P := Tryz.prog) w 22 3 o.type 5 .i64 i (.int .u8 0) 1 Tryz.underlying22 Tryz.underlying3 hi hz hz1 rfl v l.length (by8 l) base hown m hm0 hm (by rw [zeros_by8]; exact by8_mem_one _) (by omega) (by rw [hz2]; omega) (by unfold maxLen; omega) (fun old ho' => by have := nextslicecap_le _ _ ho'; rw [hz2]; omega) hbase
  unfold Oper.wp execOp
  simp only [ho, resolve, invoke, builtin, Sem.run_bind, Sem.run_pure, Result.andThen_ok, List.map_toArray, List.map_cons, List.map_nil, hv, hx, hr']
  rw [zeros_by8] at h2
  refine hK _ _ (h v' w' ⟨by unfold Own8; rw [List.length_append, by8_append, List.length_replicate]; exact h2, h3, ?_⟩)
  rw [List.length_replicate]
  rcases h4 with h4 | h4
  · exact .inl h4
  · exact .inr (.inl h4)
end
end Go.Proofs.YtheoklhmlnfgjaaGreatDoor
/-
  What a disk is in the heap.
-/
namespace Go.Proofs.YtheoklhmlnfgjaaGreatDoor
open Go.RowKit Go.Maps

/-- a change of names -/
inductive Chg where
  | put (k : BS) (f : Nat)
  | ren (a k : BS) (f : Nat)
  | del (k : BS)
def applyC : Chg → NM → NM
  | .put k f, M => insN k f M
  | .ren a k f, M => insN k f (delN a M)
  | .del k, M => delN k M
/-- the closure that stands for a change -/
def IsChg (w : World) (v : Value) : Chg → Prop
  | .put k f => ∃ bf bk, ∃ nm : ByteArray, nm.data.toList = k ∧ nm.size ≤ maxLen ∧ v = .func (.func 81) #[] #[.pointer (some ⟨bf, 0, none⟩), .pointer (some ⟨bk, 0, none⟩)] ∧
      w.heap[bf]? = some (.cells #[.pointer (some ⟨f, 0, none⟩)] 117 (0, 0)) ∧ w.heap[bk]? = some (.cells #[.string nm] 9 (0, 0))
  | .ren a k f => ∃ ba bf bk, ∃ na nm : ByteArray, na.data.toList = a ∧ nm.data.toList = k ∧ na.size ≤ maxLen ∧ nm.size ≤ maxLen ∧ v = .func (.func 87) #[] #[.pointer (some ⟨ba, 0, none⟩), .pointer (some ⟨bf, 0, none⟩), .pointer (some ⟨bk, 0, none⟩)] ∧
      w.heap[ba]? = some (.cells #[.string na] 9 (0, 0)) ∧ w.heap[bf]? = some (.cells #[.pointer (some ⟨f, 0, none⟩)] 117 (0, 0)) ∧ w.heap[bk]? = some (.cells #[.string nm] 9 (0, 0))
  | .del k => ∃ bk, ∃ nm : ByteArray, nm.data.toList = k ∧ nm.size ≤ maxLen ∧ v = .func (.func 79) #[] #[.pointer (some ⟨bk, 0, none⟩)] ∧ w.heap[bk]? = some (.cells #[.string nm] 9 (0, 0))

/-- a block that a disk's method may write: a map, or cells of one of four types -/
def Wr (w : World) (g : Nat) : Prop :=
  (∃ es clock, w.heap[g]? = some (.map es clock)) ∨ ∃ cs T fr, w.heap[g]? = some (.cells cs T fr) ∧ (T = 116 ∨ T = 119 ∨ T = 122 ∨ T = 5)
theorem Wr.no_box {w : World} {g : Nat} {cs : Array Value} {T : TypeId} {fr : Nat × Nat} (h : w.heap[g]? = some (.cells cs T fr)) (h1 : T ≠ 116) (h2 : T ≠ 119) (h3 : T ≠ 122) (h4 : T ≠ 5) : ¬ Wr w g := by
  rintro (⟨es, clock, e⟩ | ⟨cs', T', fr', e, hT⟩)
  · rw [h] at e; cases e
  · rw [h] at e
    injection e with e
    injection e with e1 e2 e3
    subst e2
    rcases hT with e | e | e | e
    · exact h1 e
    · exact h2 e
    · exact h3 e
    · exact h4 e

/-- a file as it lies -/
structure FileC where
  blk : Nat
  val : Value
  data : BS
  firm : Nat
structure DiskC where
  bn : Nat
  bs : Nat
  now : NM
  safe : NM
  pv : Value
  pend : List Chg
  pvals : List Value
  files : List FileC
  room : Nat
  fv : Value
  fq : Option Nat
  fc : Nat
  fails : List Int
  power : Int
  steps : Nat
/-- where the fails lie -/
def DiskC.fp (S : DiskC) : Option Addr := S.fq.map fun b => ⟨b, 0, none⟩

def FileAt (w : World) (P : Nat → Prop) (no : Nat) (f : FileC) : Prop :=
  w.heap[f.blk]? = some (.cells #[.int .i64 no, f.val, .int .i64 f.firm] 119 (0, 0)) ∧ Own8 w 0 f.val f.data ∧ (∀ r, f.val.ownBlock = some r → P r) ∧ P f.blk ∧ f.firm ≤ f.data.length
def diskCells (S : DiskC) : Array Value := #[.map (some S.bn), .map (some S.bs), S.pv, .int .i64 S.files.length, .int .i64 S.room, S.fv, .int .i64 S.power, .int .i64 S.steps]
def HasFile (S : DiskC) (g : Nat) : Prop := ∃ f ∈ S.files, f.blk = g
def ChgFile (S : DiskC) : Chg → Prop
  | .put _ f => HasFile S f
  | .ren _ _ f => HasFile S f
  | .del _ => True

structure DiskAt (w : World) (P : Nat → Prop) (dd : Nat) (S : DiskC) : Prop where
  blk : w.heap[dd]? = some (.cells (diskCells S) 116 (0, 0))
  now : OwnN w S.bn S.now
  safe : OwnN w S.bs S.safe
  ne : S.bn ≠ S.bs
  row : w.ownsRow 0 122 1 S.pv S.pend.length S.pvals
  chg : ∀ (i : Nat) (v : Value) (c : Chg), S.pvals[i]? = some v → S.pend[i]? = some c → IsChg w v c ∧ ChgFile S c
  fails : S.fv = .slice S.fp S.fails.length S.fc ∧ InV w S.fp (S.fails.map (Value.int .i64)) ∧ (∀ a, S.fp = some a → 0 < S.fails.length → ¬ P a.block)
  files : ∀ (i : Nat) (f : FileC), S.files[i]? = some f → FileAt w P i f
  apart : S.files.Pairwise fun f g => f.blk ≠ g.blk ∧ ∀ r, f.val.ownBlock = some r → g.val.ownBlock ≠ some r
  nowF : ∀ x ∈ S.now, HasFile S x.2
  safeF : ∀ x ∈ S.safe, HasFile S x.2
  inP : P dd ∧ P S.bn ∧ P S.bs ∧ ∀ r, S.pv.ownBlock = some r → P r

theorem Below.heap {w w' : World} {g : Nat} {o : Obj} (hb : Below w.heap.size w w') (h : w.heap[g]? = some o) : w'.heap[g]? = some o :=
  (hb.block g (Array.getElem?_eq_some_iff.1 h).1).trans h
theorem Wr.below {w w' : World} {g : Nat} (hb : Below w.heap.size w w') (h : Wr w g) : Wr w' g := by
  rcases h with ⟨es, clock, e⟩ | ⟨cs, T, fr, e, hT⟩
  · exact .inl ⟨es, clock, Below.heap hb e⟩
  · exact .inr ⟨cs, T, fr, Below.heap hb e, hT⟩
theorem IsChg.below {w w' : World} {v : Value} {c : Chg} (hb : Below w.heap.size w w') (h : IsChg w v c) : IsChg w' v c := by
  cases c with
  | put k f =>
    obtain ⟨bf, bk, nm, h1, h2, h3, h4, h5⟩ := h
    exact ⟨bf, bk, nm, h1, h2, h3, Below.heap hb h4, Below.heap hb h5⟩
  | ren a k f =>
    obtain ⟨ba, bf, bk, na, nm, h1, h2, h3, h4, h5, h6, h7, h8⟩ := h
    exact ⟨ba, bf, bk, na, nm, h1, h2, h3, h4, h5, Below.heap hb h6, Below.heap hb h7, Below.heap hb h8⟩
  | del k =>
    obtain ⟨bk, nm, h1, h2, h3, h4⟩ := h
    exact ⟨bk, nm, h1, h2, h3, Below.heap hb h4⟩
/-- new blocks change nothing -/
theorem DiskAt.below {w w' : World} {P : Nat → Prop} {dd : Nat} {S : DiskC} (h : DiskAt w P dd S) (hb : Below w.heap.size w w') : DiskAt w' P dd S where
  blk := Below.heap hb h.blk
  now := h.now.below hb
  safe := h.safe.below hb
  ne := h.ne
  row := ownsRow_below h.row hb
  chg := fun i v c h1 h2 => ⟨(h.chg i v c h1 h2).1.below hb, (h.chg i v c h1 h2).2⟩
  fails := ⟨h.fails.1, h.fails.2.1.below hb, h.fails.2.2⟩
  files := fun i f hf => by
    obtain ⟨h1, h2, h3, h4, h5⟩ := h.files i f hf
    exact ⟨Below.heap hb h1, ownsRow_below h2 hb, h3, h4, h5⟩
  apart := h.apart
  nowF := h.nowF
  safeF := h.safeF
  inP := h.inP

/-- a call of a change -/
theorem chg_call {w : World} {v : Value} {c : Chg} {b : Nat} {M : NM} (h : OwnN w b M) (hc : IsChg w v c) (hl : M.length < maxLen) :
    ∃ g cap, v = .func (.func g) #[] cap ∧ Calls Tryz.prog g (#[.map (some b)] ++ cap) w fun e w' => e = .returned (.tuple #[]) ∧ OwnN w' b (applyC c M) ∧ w.grownBy w' (some b) ∧ w'.heap.size = w.heap.size := by
  cases c with
  | put k f =>
    obtain ⟨bf, bk, nm, rfl, h2, rfl, h4, h5⟩ := hc
    refine ⟨_, _, rfl, ?_⟩
    exact create1_any b bf bk f nm M w h (by rw [cell_of_row _ _ _ _ _ _ h4]; rfl) (by rw [cell_of_row _ _ _ _ _ _ h5]; rfl) h2 hl
  | ren a k f =>
    obtain ⟨ba, bf, bk, na, nm, rfl, rfl, h3, h4, rfl, h6, h7, h8⟩ := hc
    refine ⟨_, _, rfl, ?_⟩
    exact rename1_any b ba bf bk f na nm M w h (by rw [cell_of_row _ _ _ _ _ _ h6]; rfl) (by rw [cell_of_row _ _ _ _ _ _ h7]; rfl) (by rw [cell_of_row _ _ _ _ _ _ h8]; rfl) h3 h4 hl
  | del k =>
    obtain ⟨bk, nm, rfl, h2, rfl, h4⟩ := hc
    refine ⟨_, _, rfl, ?_⟩
    exact remove1_any b bk nm M w h (by rw [cell_of_row _ _ _ _ _ _ h4]; rfl) h2
end Go.Proofs.YtheoklhmlnfgjaaGreatDoor
/-
  Down, Steps: what only reads a disk.
-/
namespace Go.Proofs.YtheoklhmlnfgjaaGreatDoor
open Go.RowKit Go.Maps

def downS (S : DiskC) : Bool := decide (0 ≤ S.power ∧ (S.steps : Int) = S.power)
theorem DiskAt.cell {w : World} {P : Nat → Prop} {dd : Nat} {S : DiskC} (h : DiskAt w P dd S) (i : Nat) : w.cell? ⟨dd, i, none⟩ = (diskCells S)[i]? := cell_of_row _ _ _ _ _ _ h.blk
theorem DiskAt.unfrozen {w : World} {P : Nat → Prop} {dd : Nat} {S : DiskC} (h : DiskAt w P dd S) (i : Nat) : w.frozen? ⟨dd, i, none⟩ = false := frozen_of_row w dd i _ _ h.blk

theorem steps_any {w : World} {P : Nat → Prop} {dd : Nat} {S : DiskC} (h : DiskAt w P dd S) :
    Calls Tryz.prog 31 #[.pointer (some ⟨dd, 0, none⟩)] w fun e w' => e = .returned (.int .i64 S.steps) ∧ Below w.heap.size w w' := by
  have c7 : w.cell? ⟨dd, 7, none⟩ = some (.int .i64 S.steps) := h.cell 7
  go_enter Tryz.func31, Tryz.ntmps31
  go_wp2_with fail
  go_ret
  exact ⟨rfl, Below.refl _ _⟩

set_option maxHeartbeats 1000000 in
theorem down_any {w : World} {P : Nat → Prop} {dd : Nat} {S : DiskC} (h : DiskAt w P dd S) :
    Calls Tryz.prog 76 #[.pointer (some ⟨dd, 0, none⟩)] w fun e w' => e = .returned (.bool (downS S)) ∧ Below w.heap.size w w' := by
  have c6 : w.cell? ⟨dd, 6, none⟩ = some (.int .i64 S.power) := h.cell 6
  have c7 : w.cell? ⟨dd, 7, none⟩ = some (.int .i64 S.steps) := h.cell 7
  by_cases h1 : 0 ≤ S.power
  · have hd : ((S.steps : Int) == S.power) = downS S := by
      unfold downS
      rw [Bool.eq_iff_iff, beq_iff_eq, decide_eq_true_eq]
      exact ⟨fun e => ⟨h1, e⟩, fun e => e.2⟩
    obtain ⟨b, hb⟩ : ∃ b, b = downS S := ⟨_, rfl⟩
    rw [← hb] at hd ⊢
    clear hb
    go_enter Tryz.func76, Tryz.ntmps76
    go_wp2
    go_quiet (fail)
    go_wp2_with fail
    go_ret
    exact ⟨rfl, bdrewN (Below.refl _ _) _⟩
  · have hd : downS S = false := by unfold downS; exact decide_eq_false (fun e => h1 e.1)
    rw [hd]
    have h2 : decide (0 ≤ S.power) = false := decide_eq_false h1
    have h3 : S.power < 0 := by omega
    clear hd
    go_enter Tryz.func76, Tryz.ntmps76
    go_wp2
    go_quiet (fail)
    go_wp2_with fail
    go_ret
    exact ⟨rfl, bdrewN (Below.refl _ _) _⟩
end Go.Proofs.YtheoklhmlnfgjaaGreatDoor
/-
  begin: a step is counted, its names are looked at.
-/
namespace Go.Proofs.YtheoklhmlnfgjaaGreatDoor
open Go.RowKit Go.Maps

def badN (l : List UInt8) : Bool := !goodN l
theorem begin1_any (s : ByteArray) (w : World) (hs : s.size ≤ 140737488351232) :
    Calls Tryz.prog 96 #[.string s] w fun e w' => e = .returned (.bool (badN s.data.toList)) ∧ Below w.heap.size w w' := by
  go_enter Tryz.func96, Tryz.ntmps96
  go_wp2_with fail
  refine (good_any s w hs).mono ?_
  rintro e w1 ⟨rfl, hb1⟩
  go_wp2_with fail
  go_ret
  exact ⟨rfl, hb1⟩

set_option maxHeartbeats 2000000 in
theorem indexBad_any (L : List (List UInt8)) (q : Option Addr) (n c : Nat) (hn : L.length = n) (hm : n ≤ 1000000) (hsz : ∀ x ∈ L, x.length ≤ 140737488351232) (w : World) (h : InS w q L) :
    Calls Tryz.prog 108 #[.slice q n c, .func (.func 96) #[] #[]] w fun e w' => ∃ i : Int, e = .returned (.int .i64 i) ∧ decide (0 ≤ i) = L.any badN ∧ -1 ≤ i ∧ i ≤ 1000000 ∧ Below w.heap.size w w' := by
  subst hn
  have HSZ := Lib.hid hsz
  clear hsz
  go_enter Tryz.func108, Tryz.ntmps108
  go_wp2_with fail
  go_loopw [8] (fun i wr => ∃ k : Nat, k ≤ L.length ∧ i = .int .i64 k ∧ (L.take k).any badN = false ∧ Below w.heap.size w wr) (fun i _ => L.length - (intOf i).toNat)
  case atStart => exact ⟨0, Nat.zero_le _, rfl, by simp, Below.refl _ _⟩
  case round =>
    obtain ⟨k, hk, rfl, hno, hb⟩ := hrel
    have hbs := hb.size
    have HNO := Lib.hid hno
    clear hno
    by_cases hlt : k < L.length
    · obtain ⟨b, o, rfl, x, g1, g2⟩ := (h.below hb).at hlt
      have hxs : x.size ≤ 140737488351232 := by rw [← size_list, g2]; exact HSZ.out _ (List.getElem_mem hlt)
      have hcall := fun W => begin1_any x W hxs
      have HT : Hid ((L.take (k + 1)).any badN = badN x.data.toList) := by
        show (L.take (k + 1)).any badN = badN x.data.toList
        rw [List.take_succ_eq_append_getElem hlt, List.any_append, HNO.out, g2]
        simp
      have HM : Hid (x.data.toList ∈ L) := by show x.data.toList ∈ L; rw [g2]; exact List.getElem_mem hlt
      clear g2
      cases hbad : badN x.data.toList with
      | true =>
        rw [hbad] at hcall
        have HA := Lib.hid (show L.any badN = true from List.any_eq_true.2 ⟨_, HM.out, hbad⟩)
        clear hbad
        go_wp2_with fail
        refine (hcall _).mono ?_
        rintro e w1 ⟨rfl, hb1⟩
        go_wp2_with fail
        go_ret
        exact ⟨_, rfl, by rw [HA.out]; exact decide_eq_true (by omega), by omega, by omega, hb.trans (hb1.mono (by simpa using hbs))⟩
      | false =>
        rw [hbad] at hcall HT
        have HF := HT
        clear hbad
        go_wp2_with fail
        refine (hcall _).mono ?_
        rintro e w1 ⟨rfl, hb1⟩
        go_wp2_with fail
        go_roundw
        case rel => exact ⟨k + 1, by omega, by go_num, HF.out, hb.trans (hb1.mono (by simpa using hbs))⟩
        case measure => simp [intOf]; omega
    · obtain rfl : k = L.length := by omega
      have ha : L.any badN = false := by have := HNO.out; rwa [List.take_length] at this
      go_wp2_with fail
      go_ret
      exact ⟨_, rfl, by rw [ha]; rfl, by omega, by omega, hb⟩

set_option maxHeartbeats 1000000 in
theorem containsBad_any (L : List (List UInt8)) (q : Option Addr) (n c : Nat) (hn : L.length = n) (hm : n ≤ 1000000) (hsz : ∀ x ∈ L, x.length ≤ 140737488351232) (w : World) (h : InS w q L) :
    Calls Tryz.prog 95 #[.slice q n c, .func (.func 96) #[] #[]] w fun e w' => e = .returned (.bool (L.any badN)) ∧ Below w.heap.size w w' := by
  have hcall := indexBad_any L q n c hn hm hsz w h
  obtain ⟨bb, hbb⟩ : ∃ b, b = L.any badN := ⟨_, rfl⟩
  rw [← hbb] at hcall ⊢
  clear hbb
  go_enter Tryz.func95, Tryz.ntmps95
  go_wp2_with fail
  refine hcall.mono ?_
  rintro e w1 ⟨i, rfl, hi, _, _, hb1⟩
  clear hcall
  go_wp2_with fail
  go_ret
  exact ⟨by first | rfl | exact ret_bool hi, hb1⟩
end Go.Proofs.YtheoklhmlnfgjaaGreatDoor
/-
  A disk behind a store into one of its blocks.
-/
namespace Go.Proofs.YtheoklhmlnfgjaaGreatDoor
open Go.RowKit Go.Maps

theorem blk_ne {w : World} {a b : Nat} {cs cs' : Array Value} {T T' : TypeId} {fr fr' : Nat × Nat} (h : w.heap[a]? = some (.cells cs T fr)) (h' : w.heap[b]? = some (.cells cs' T' fr')) (hT : T ≠ T') : a ≠ b := by
  rintro rfl
  rw [h] at h'
  injection h' with e
  injection e with _ e
  exact hT e
theorem map_ne {w : World} {a b : Nat} {M : NM} {cs : Array Value} {T : TypeId} {fr : Nat × Nat} (h : OwnN w a M) (h' : w.heap[b]? = some (.cells cs T fr)) : a ≠ b := by
  rintro rfl
  obtain ⟨_, es, clock, e, _⟩ := h
  rw [h'] at e; cases e
theorem row_ne {w : World} {base size n b : Nat} {e T : TypeId} {v : Value} {xs : List Value} {cs : Array Value} {fr : Nat × Nat} (h : w.ownsRow base e size v n xs) (h' : w.heap[b]? = some (.cells cs T fr)) (hT : e ≠ T) : v.ownBlock ≠ some b := by
  intro hv
  rcases h.2 with ⟨rfl, _⟩ | ⟨g, cap, cur, rfl, _, hg, _⟩
  · cases hv
  · have : g = b := by simpa [Value.ownBlock] using hv
    subst this
    rw [hg] at h'
    injection h' with e'
    injection e' with _ e'
    exact hT e'
/-- all but block x is as it was -/
def Else (w w' : World) (x : Nat) : Prop := ∀ g, g ≠ x → w'.heap[g]? = w.heap[g]?
theorem rowElse {w w' : World} {x base size n : Nat} {e : TypeId} {v : Value} {xs : List Value} (h : w.ownsRow base e size v n xs) (hE : Else w w' x) (hx : v.ownBlock ≠ some x) : w'.ownsRow base e size v n xs := by
  refine ⟨h.1, ?_⟩
  rcases h.2 with h0 | ⟨g, cap, cur, rfl, h1, h2, r⟩
  · exact .inl h0
  · exact .inr ⟨g, cap, cur, rfl, h1, (hE g (fun e => hx (by rw [e]; rfl))).trans h2, r⟩
theorem chgElse {w w' : World} {x : Nat} {v : Value} {c : Chg} {cs : Array Value} {T : TypeId} {fr : Nat × Nat} (h : IsChg w v c) (hE : Else w w' x) (hx : w.heap[x]? = some (.cells cs T fr)) (h1 : 117 ≠ T) (h2 : 9 ≠ T) : IsChg w' v c := by
  cases c with
  | put k f =>
    obtain ⟨bf, bk, nm, e1, e2, e3, e4, e5⟩ := h
    exact ⟨bf, bk, nm, e1, e2, e3, (hE bf (blk_ne e4 hx h1)).trans e4, (hE bk (blk_ne e5 hx h2)).trans e5⟩
  | ren a k f =>
    obtain ⟨ba, bf, bk, na, nm, e1, e2, e3, e4, e5, e6, e7, e8⟩ := h
    exact ⟨ba, bf, bk, na, nm, e1, e2, e3, e4, e5, (hE ba (blk_ne e6 hx h2)).trans e6, (hE bf (blk_ne e7 hx h1)).trans e7, (hE bk (blk_ne e8 hx h2)).trans e8⟩
  | del k =>
    obtain ⟨bk, nm, e1, e2, e3, e4⟩ := h
    exact ⟨bk, nm, e1, e2, e3, (hE bk (blk_ne e4 hx h2)).trans e4⟩
theorem invElse {w w' : World} {x : Nat} {p : Option Addr} {xs : List Value} (h : InV w p xs) (hE : Else w w' x) (hx : ∀ a, p = some a → 0 < xs.length → a.block ≠ x) : InV w' p xs := by
  intro h0
  obtain ⟨b, o, rfl, hc⟩ := h h0
  refine ⟨b, o, rfl, fun i hi => ?_⟩
  have hb := hE b (hx _ rfl h0)
  have := hc i hi
  simp only [World.cell?, hb]
  exact this

/-- the disk's own cells turn: the count of steps -/
theorem DiskAt.setSteps {w w' : World} {P : Nat → Prop} {dd n : Nat} {S : DiskC} (h : DiskAt w P dd S) (hblk : w'.heap[dd]? = some (.cells (diskCells { S with steps := n }) 116 (0, 0))) (hE : Else w w' dd) : DiskAt w' P dd { S with steps := n } where
  blk := hblk
  now := h.now.kept (hE _ (map_ne h.now h.blk))
  safe := h.safe.kept (hE _ (map_ne h.safe h.blk))
  ne := h.ne
  row := rowElse h.row hE (row_ne h.row h.blk (by decide))
  chg := fun i v c h1 h2 => ⟨chgElse (h.chg i v c h1 h2).1 hE h.blk (by decide) (by decide), by
    have := (h.chg i v c h1 h2).2
    cases c <;> exact this⟩
  fails := ⟨h.fails.1, invElse h.fails.2.1 hE (fun a ha h0 e => h.fails.2.2 a ha (by simpa using h0) (by rw [e]; exact h.inP.1)), h.fails.2.2⟩
  files := fun i f hf => by
    obtain ⟨h1, h2, h3, h4, h5⟩ := h.files i f hf
    exact ⟨(hE _ (blk_ne h1 h.blk (by decide))).trans h1, rowElse h2 hE (row_ne h2 h.blk (by decide)), h3, h4, h5⟩
  apart := h.apart
  nowF := h.nowF
  safeF := h.safeF
  inP := h.inP
end Go.Proofs.YtheoklhmlnfgjaaGreatDoor
/-
  begin, of a disk.
-/
namespace Go.Proofs.YtheoklhmlnfgjaaGreatDoor
open Go.RowKit Go.Maps

def beginE (S : DiskC) (L : List (List UInt8)) : Int := if downS S = true then 93 else if S.fails.contains ((S.steps : Int) + 1) = true then 94 else if L.any badN = true then 95 else 0
def beginS (S : DiskC) : DiskC := if downS S = true then S else { S with steps := S.steps + 1 }

theorem containsI_any {w : World} {p : Option Addr} {zs : List Int} {n c : Nat} (x : Int) (hn : zs.length = n) (hm : n ≤ 17592186043904) (h : InV w p (zs.map (Value.int .i64))) :
    Calls Tryz.prog 94 #[.slice p n c, .int .i64 x] w fun e w' => e = .returned (.bool (zs.contains x)) ∧ w' = w := by
  subst hn
  cases zs with
  | nil =>
    refine (Tryz.slices_Contains_int_empty p c x w).mono ?_
    rintro e w' ⟨rfl, rfl⟩
    exact ⟨by simp, rfl⟩
  | cons y r =>
    obtain ⟨b, o, rfl, hall⟩ := InV.at h (k := 0) (by simp)
    have := Tryz.slices_Contains_int b o (y :: r).length c (y :: r) x w (Nat.le_refl _) (by omega) (fun j hj => by
      rw [hall j (by simpa using hj), List.getElem_map, List.getD_eq_getElem?_getD, List.getElem?_eq_getElem hj]; rfl)
    rw [List.take_length] at this
    exact this

theorem DiskAt.pvForm {w : World} {P : Nat → Prop} {dd : Nat} {S : DiskC} (h : DiskAt w P dd S) : ∃ a c, S.pv = .slice a S.pend.length c := by
  rcases h.row.2 with ⟨h1, h2⟩ | ⟨g, cap, cur, h1, _⟩
  · exact ⟨none, 0, by rw [h1, h2]⟩
  · exact ⟨_, _, h1⟩
/-- texts lie in another block than the disk's -/
theorem DiskAt.noText {w : World} {P : Nat → Prop} {dd : Nat} {S : DiskC} (h : DiskAt w P dd S) {o : Nat} {x : ByteArray} (hc : w.cell? ⟨dd, o, none⟩ = some (.string x)) : False := by
  obtain ⟨a, c, hp⟩ := h.pvForm
  rw [h.cell o] at hc
  unfold diskCells at hc
  rw [hp, h.fails.1] at hc
  match o, hc with
  | 0, hc => simp at hc
  | 1, hc => simp at hc
  | 2, hc => simp at hc
  | 3, hc => simp at hc
  | 4, hc => simp at hc
  | 5, hc => simp at hc
  | 6, hc => simp at hc
  | 7, hc => simp at hc
  | o + 8, hc => simp at hc
theorem DiskAt.textElse {w w' : World} {P : Nat → Prop} {dd : Nat} {S : DiskC} (h : DiskAt w P dd S) (hE : Else w w' dd) {q : Option Addr} {L : List (List UInt8)} (hq : InS w q L) : InS w' q L := by
  refine invElse hq hE fun a ha h0 e => ?_
  obtain ⟨b, o, rfl, hc⟩ := hq h0
  obtain rfl := Option.some.inj ha
  have := hc 0 h0
  rw [show (tx L)[0] = .string ⟨(L[0]'(by rw [tx_length] at h0; exact h0)).toArray⟩ by simp [tx]] at this
  simp only at e
  subst e
  exact h.noText this

theorem quietL {P : Program} {f : FuncId} {args : Array Value} {w : World} {n : Nat} {v : Value}
    (h : Calls P f args (w.drewN n) fun e w' => e = .returned v ∧ w' = w.drewN n) : Calls P f args (w.drewN n) fun e w'' => e = .returned v ∧ ∃ m, w'' = w.drewN m :=
  h.mono fun _ _ ⟨he, hm⟩ => ⟨he, n, hm⟩

set_option maxHeartbeats 4000000 in
theorem begin_any {w : World} {P : Nat → Prop} {dd : Nat} {S : DiskC} (h : DiskAt w P dd S) (L : List (List UInt8)) (q : Option Addr) (n c : Nat) (hn : L.length = n) (hm : n ≤ 1000) (hsz : ∀ x ∈ L, x.length ≤ 140737488351232) (hq : InS w q L) (hst : S.steps ≤ 1000000) (hfl : S.fails.length ≤ 17592186043904) :
    Calls Tryz.prog 80 #[.pointer (some ⟨dd, 0, none⟩), .slice q n c] w fun e w' => e = .returned (.int .i64 (beginE S L)) ∧ DiskAt w' P dd (beginS S) ∧ Only (fun g => g = dd) w w' := by
  have hdown := down_any h
  cases hd : downS S with
  | true =>
    rw [hd] at hdown
    have HE := Lib.hid (show beginE S L = 93 by unfold beginE; rw [if_pos hd])
    have HS := Lib.hid (show beginS S = S by unfold beginS; rw [if_pos hd])
    clear hd
    go_enter Tryz.func80, Tryz.ntmps80
    go_wp2_with fail
    refine hdown.mono ?_
    rintro e w1 ⟨rfl, hb1⟩
    clear hdown
    go_wp2_with fail
    go_ret
    refine ⟨by rw [HE.out]; rfl, by rw [HS.out]; exact h.below hb1, ⟨hb1.os, hb1.tape, hb1.output, hb1.size, fun k hk _ => hb1.block k hk⟩⟩
  | false =>
    rw [hd] at hdown
    have HE := Lib.hid (show beginE S L = if S.fails.contains ((S.steps : Int) + 1) = true then 94 else if L.any badN = true then 95 else 0 by unfold beginE; rw [if_neg (by rw [hd]; simp)])
    have HS := Lib.hid (show beginS S = { S with steps := S.steps + 1 } by unfold beginS; rw [if_neg (by rw [hd]; simp)])
    clear hd
    go_enter Tryz.func80, Tryz.ntmps80
    go_wp2_with fail
    refine hdown.mono ?_
    rintro e w1 ⟨rfl, hb1⟩
    clear hdown
    have h1 := h.below hb1
    have c7 : w1.cell? ⟨dd, 7, none⟩ = some (.int .i64 S.steps) := h1.cell 7
    have c5 : w1.cell? ⟨dd, 5, none⟩ = some S.fv := h1.cell 5
    have f7 := h1.unfrozen 7
    rw [h.fails.1] at c5
    obtain ⟨wb, hwb⟩ : ∃ W0, W0 = w1.setCell ⟨dd, 7, none⟩ (.int .i64 ((S.steps : Int) + 1)) := ⟨_, rfl⟩
    have hblk : wb.heap[dd]? = some (.cells (diskCells { S with steps := S.steps + 1 }) 116 (0, 0)) := by
      rw [hwb]
      simp only [World.setCell, Array.getElem?_modify, h1.blk]
      simp [diskCells]
    have hE : Else w1 wb dd := by
      intro g hg
      rw [hwb]
      exact Below.heap_setCell _ _ _ _ hg
    have hwbs : wb.heap.size = w1.heap.size := by rw [hwb]; simp [World.setCell]
    have h2 : DiskAt wb P dd { S with steps := S.steps + 1 } := h1.setSteps hblk hE
    have hqb : InS wb q L := h1.textElse hE (hq.below hb1)
    have hon : Only (fun g => g = dd) w wb := by
      refine ⟨?_, ?_, ?_, by have := hb1.size; omega, fun k hk hne => (hE k hne).trans (hb1.block k hk)⟩
      · rw [hwb]; exact hb1.os
      · rw [hwb]; exact hb1.tape
      · rw [hwb]; exact hb1.output
    have d5 : wb.cell? ⟨dd, 5, none⟩ = some (.slice S.fp S.fails.length S.fc) := by have := h2.cell 5; rw [this]; exact congrArg some h.fails.1
    have d7 : wb.cell? ⟨dd, 7, none⟩ = some (.int .i64 ((S.steps : Int) + 1)) := by have := h2.cell 7; rw [this]; rfl
    have HC := Lib.hid (fun (m : Nat) => containsI_any (c := S.fc) ((S.steps : Int) + 1) rfl hfl (w := wb.drewN m) h2.fails.2.1)
    have HWB := Lib.hid hwb
    have H2 := Lib.hid h2
    have HON := Lib.hid hon
    clear hwb hblk hE h2 hon
    cases hf : S.fails.contains ((S.steps : Int) + 1) with
    | true =>
      rw [hf] at HC
      have HR := Lib.hid (show beginE S L = 94 by rw [HE.out, if_pos hf])
      clear hf
      go_wp2_with fail
      rw [← HWB.out]
      go_quiet ((go_at_call 94; exact quietL (HC.out _)))
      go_wp2_with fail
      go_ret
      exact ⟨by rw [HR.out]; rfl, by rw [HS.out]; exact H2.out.below (bdrewN (Below.refl _ _) _), HON.out.drewN _⟩
    | false =>
      rw [hf] at HC
      have HR := Lib.hid (show beginE S L = if L.any badN = true then 95 else 0 by rw [HE.out, if_neg (by rw [hf]; simp)])
      clear hf
      have HB := Lib.hid (fun m => containsBad_any L q n c hn (by omega) hsz (wb.drewN m) (hqb.drewN m))
      go_wp2_with fail
      rw [← HWB.out]
      go_quiet ((go_at_call 94; exact quietL (HC.out _)))
      go_wp2_with fail
      refine (HB.out _).mono ?_
      rintro e w3 ⟨rfl, hb3⟩
      have hb3' : Below wb.heap.size wb w3 := (bdrewN (Below.refl _ wb) _).trans hb3
      have h3 := H2.out.below hb3'
      have hon3 : Only (fun g => g = dd) w w3 := ⟨hb3'.os.trans HON.out.os, hb3'.tape.trans HON.out.tape, hb3'.output.trans HON.out.output, Nat.le_trans HON.out.size hb3'.size, fun k hk hne => (hb3'.block k (Nat.lt_of_lt_of_le hk HON.out.size)).trans (HON.out.block k hk hne)⟩
      have H3 := Lib.hid h3
      have HON3 := Lib.hid hon3
      clear h3 hon3 hb3' hb3
      cases hbad : L.any badN with
      | true =>
        have HR2 := Lib.hid (show beginE S L = 95 by rw [HR.out, if_pos hbad])
        clear hbad
        go_wp2_with fail
        go_ret
        exact ⟨by rw [HR2.out]; rfl, by rw [HS.out]; exact H3.out, HON3.out⟩
      | false =>
        have HR2 := Lib.hid (show beginE S L = 0 by rw [HR.out, if_neg (by rw [hbad]; simp)])
        clear hbad
        go_wp2_with fail
        go_ret
        exact ⟨by rw [HR2.out]; rfl, by rw [HS.out]; exact H3.out, HON3.out⟩
end Go.Proofs.YtheoklhmlnfgjaaGreatDoor
/-
  on: a step about a file that is there.
-/
namespace Go.Proofs.YtheoklhmlnfgjaaGreatDoor
open Go.RowKit Go.Maps

def onE (S : DiskC) (L : List (List UInt8)) (k : List UInt8) : Int := if beginE S (L ++ [k]) ≠ 0 then beginE S (L ++ [k]) else if lookN S.now k = none then 90 else 0
def onF (S : DiskC) (L : List (List UInt8)) (k : List UInt8) : Option Nat := if beginE S (L ++ [k]) ≠ 0 then none else lookN S.now k
theorem beginS_now (S : DiskC) : (beginS S).now = S.now ∧ (beginS S).bn = S.bn := by unfold beginS; split <;> exact ⟨rfl, rfl⟩
theorem beginE_cases (S : DiskC) (L : List (List UInt8)) : beginE S L = 93 ∨ beginE S L = 94 ∨ beginE S L = 95 ∨ beginE S L = 0 := by
  unfold beginE
  split
  · exact .inl rfl
  · split
    · exact .inr (.inl rfl)
    · split
      · exact .inr (.inr (.inl rfl))
      · exact .inr (.inr (.inr rfl))

set_option maxHeartbeats 4000000 in
theorem on_any {w0 w : World} {P : Nat → Prop} {dd : Nat} {S : DiskC} (h : DiskAt w0 P dd S) (hb0 : Below w0.heap.size w0 w) (nm : ByteArray) (hnm : nm.size ≤ 140737488351232) (vm : Value) (L : List (List UInt8)) (hvm : OwnS w w0.heap.size vm L) (hL : L.length ≤ 100) (hsz : ∀ x ∈ L, x.length ≤ 140737488351232) (hst : S.steps ≤ 1000000) (hfl : S.fails.length ≤ 17592186043904) :
    Calls Tryz.prog 77 #[.pointer (some ⟨dd, 0, none⟩), .string nm, vm] w fun e w' => e = .returned (.tuple #[fileV (onF S L nm.data.toList), .int .i64 (onE S L nm.data.toList)]) ∧ DiskAt w' P dd (beginS S) ∧ Only (fun g => g = dd) w0 w' ∧ Only (fun g => g = dd ∨ vm.ownBlock = some g) w w' := by
  have hs0 := hb0.size
  have hown := hvm.alloc (.cells #[.string nm] 9)
  have hin := fun W => InS.one W nm
  go_enter Tryz.func77, Tryz.ntmps77
  go_wp2_with (at_builtin; refine wpList_appendS rfl _ _ rfl w0.heap.size _ _ rfl hown _ _ _ _ rfl rfl (hin _) (by simp; omega) (by simp; omega) ?_; intro v1 w1 hown1 hgrow1 _; have hB1 := OwnS.grown (hb0.alloc hs0 _) (by simp; omega) hown hgrow1; obtain ⟨q1, c1, rfl, k1, k2, hq1, _⟩ := hown1.shape rfl)
  have h1 := h.below hB1
  have hbeg := begin_any h1 (L ++ [nm.data.toList]) q1 (L.length + 1) c1 (by simp) (by omega) (fun x hx => by
    rcases List.mem_append.1 hx with hx | hx
    · exact hsz x hx
    · rw [List.mem_singleton.1 hx, size_list]; exact hnm) hq1 hst hfl
  obtain ⟨en, hen⟩ : ∃ en, en = beginE S (L ++ [nm.data.toList]) := ⟨_, rfl⟩
  have hE : onE S L nm.data.toList = if en ≠ 0 then en else if lookN S.now nm.data.toList = none then 90 else 0 := by rw [hen]; rfl
  have hF : onF S L nm.data.toList = if en ≠ 0 then none else lookN S.now nm.data.toList := by rw [hen]; rfl
  have hcs := beginE_cases S (L ++ [nm.data.toList])
  rw [← hen] at hbeg hcs
  have HE := Lib.hid hE
  have HF := Lib.hid hF
  have hone : ∀ w', Only (fun g => g = dd) w1 w' → Only (fun g => g = dd) w0 w' := fun w' ho =>
    ⟨ho.os.trans hB1.os, ho.tape.trans hB1.tape, ho.output.trans hB1.output, Nat.le_trans hB1.size ho.size, fun k hk hne => (ho.block k (Nat.lt_of_lt_of_le hk hB1.size) hne).trans (hB1.block k hk)⟩
  have htwo : ∀ w', Only (fun g => g = dd) w1 w' → Only (fun g => g = dd ∨ vm.ownBlock = some g) w w' := fun w' ho =>
    have hz := hgrow1.size
    have hba : Below w.heap.size w (w.alloc (.cells #[.string nm] 9)) := (Below.refl _ w).alloc (Nat.le_refl _) _
    have hzs : (w.alloc (.cells #[.string nm] 9)).heap.size = w.heap.size + 1 := by simp
    ⟨ho.os.trans (hgrow1.os.trans hba.os), ho.tape.trans (hgrow1.tape.trans hba.tape), ho.output.trans (hgrow1.output.trans hba.output), by have := ho.size; omega, fun k hk hne =>
      ((ho.block k (by omega) (fun e => hne (.inl e))).trans (hgrow1.block k (by omega) (fun e => hne (.inr e.symm)))).trans (hba.block k hk)⟩
  have HONE := Lib.hid hone
  have HTWO := Lib.hid htwo
  clear htwo
  clear hE hF hen hone hown hgrow1 hown1 hvm hq1
  refine hbeg.mono ?_
  rintro e w2 ⟨rfl, h2, ho2⟩
  have H2 := Lib.hid h2
  have HO2 := Lib.hid (show Only (fun g => g = dd) w0 w2 ∧ Only (fun g => g = dd ∨ vm.ownBlock = some g) w w2 from ⟨HONE.out _ ho2, HTWO.out _ ho2⟩)
  have c0 : w2.cell? ⟨dd, 0, none⟩ = some (.map (some S.bn)) := by
    have := h2.cell 0
    rw [this]
    unfold diskCells
    rw [(beginS_now S).2]; rfl
  have hmap : OwnN w2 S.bn S.now := by
    have := h2.now
    rwa [(beginS_now S).1, (beginS_now S).2] at this
  have hrun := run_lookF hmap nm (by unfold maxLen; omega)
  clear hbeg h2 ho2 hmap
  by_cases hz : en = 0
  · subst hz
    cases hl : lookN S.now nm.data.toList with
    | none =>
      have HR := Lib.hid (show onE S L nm.data.toList = 90 ∧ onF S L nm.data.toList = none by rw [HE.out, HF.out, hl]; exact ⟨rfl, rfl⟩)
      rw [hl] at hrun
      unfold fileV at hrun
      clear hl
      go_wp2_with fail
      go_ret2
      exact ⟨by rw [HR.out.1, HR.out.2]; rfl, H2.out, HO2.out⟩
    | some f =>
      have HR := Lib.hid (show onE S L nm.data.toList = 0 ∧ onF S L nm.data.toList = some f by rw [HE.out, HF.out, hl]; exact ⟨rfl, rfl⟩)
      rw [hl] at hrun
      unfold fileV at hrun
      clear hl
      go_wp2_with fail
      go_ret2
      exact ⟨by rw [HR.out.1, HR.out.2]; rfl, H2.out, HO2.out⟩
  · have HR := Lib.hid (show onE S L nm.data.toList = en ∧ onF S L nm.data.toList = none by rw [HE.out, HF.out, if_pos hz, if_pos hz]; exact ⟨rfl, rfl⟩)
    have hz2 : (en == 0) = false := beq_eq_false_iff_ne.2 hz
    have hz3 : (en != 0) = true := by simp [bne, hz2]
    go_wp2_with fail
    go_ret2
    exact ⟨by rw [HR.out.1, HR.out.2]; rfl, H2.out, HO2.out⟩
end Go.Proofs.YtheoklhmlnfgjaaGreatDoor
