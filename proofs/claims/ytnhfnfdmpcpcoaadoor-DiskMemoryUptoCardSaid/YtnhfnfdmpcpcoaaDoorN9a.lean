/-
  Chapter 9, texts merged: BytesOpen, Append2, Append3, StrB, ToStr, Texts, Pairs, AppendW, StepApp, RowsOf, NamesLaw, NamesMap, FileMap, FileMapOps.
-/
import Derived.Test.YtnhfnfdmpcpcoaaDoorOpenS
import Derived.Test.YtnhfnfdmpcpcoaaDoorOwn
import Derived.Test.YtnhfnfdmpcpcoaaDoorLayIter
import Derived.Lib.Strings
import Derived.Laws.BytesArg
import Derived.Deep.RegionHeld3
import Derived.Lib.SlicesCompact
import Derived.Maps.Views
import Derived.Maps.Ext
import Derived.Maps.OwnSet
import Derived.StringKeys
import Derived.Sort.KeysCollected

/-
  An argument that is a slice of bytes, weighed.
-/
namespace Go.Proofs.YtnhfnfdmpcpcoaaDoor
open Go.ChangeShapes Go.WideShapes Go.ChangeAt Go.RowKit

theorem bulk_lits {H : Type} (k : IntKind) (zs : List Int) : Rows.uptoBulkAll (lits (H := H) k zs) = zs.length := by
  induction zs with
  | nil => simp [lits, Rows.uptoBulkAll]
  | cons z zs ih =>
    have e : lits (H := H) k (z :: zs) = .lit (.int k z) :: lits k zs := rfl
    rw [e, List.length_cons, ← ih]
    simp only [Rows.uptoBulk, Rows.uptoBulkAll]
    omega
set_option maxRecDepth 100000 in
theorem open_bytesU {H : Type} {enc : TypeId × Value → H} {W : World} {r : Reach} {b0 : Nat} {v : Value} {d : DataW H} {ps : List MemPlace}
    (hv : Value.okWide Tryd.prog W r b0 26 v) (h : DataW.Trod enc Tryd.prog W 0 (fun _ => true) true 26 v d ps) :
    ∃ p l c, v = .slice p (List.length l) c ∧ In8 W p l ∧ l.length ≤ c ∧ c ≤ maxLen ∧ l.length ≤ Rows.uptoBulk d := by
  obtain ⟨a0, len, cap, rfl⟩ := okWide_slice Tryd.underlying26 hv
  obtain ⟨fuel, hf⟩ := h
  rcases open_ints Tryd.underlying26 Tryd.underlying5 cells8 hf with ⟨hcs, _⟩ | ⟨x, l, c, zs, hcs, _, hl, hm, hz, hx, hcell, hwz⟩
  · simp [Value.cells] at hcs
    obtain ⟨rfl, rfl, rfl⟩ := hcs
    exact ⟨none, [], 0, rfl, fun h => absurd h (by simp), by simp, by unfold maxLen; omega, by simp⟩
  · simp [Value.cells] at hcs
    obtain ⟨rfl, rfl, rfl⟩ := hcs
    simp only [if_true] at hz
    simp only [Prod.mk.injEq] at hx
    have hlen : ((zs.take len).map ubyte).length = len := by simp; omega
    refine ⟨some x, (zs.take len).map ubyte, cap, by rw [hlen], ?_, by omega, hm, ?_⟩
    · intro h0
      obtain ⟨b, o, s⟩ := x
      have hs : s = none := by simpa [Addr.add] using World.cell?_spot (hcell 0 (by omega))
      subst hs
      refine ⟨b, o, rfl, fun i hi => ?_⟩
      have hi2 : i < (zs.take len).length := by simpa using hi
      have := hcell i (by omega)
      rw [add_plain] at this
      rw [this, bt_of_ints _ (fun n hn => hwz n (List.mem_of_mem_take hn)) i hi2]
      simp only [List.getD_eq_getElem?_getD]
      rw [List.getElem?_take_of_lt (by omega)]
    · rw [hlen, hx.1]
      simp only [Rows.uptoBulk, bulk_lits, List.length_take, List.length_drop]
      omega
end Go.Proofs.YtnhfnfdmpcpcoaaDoor

/-
  append onto bytes of the call's own, a little beyond the guide's bound: what grows takes at most five quarters of what is wanted. No program is in sight here, but for the types' numbers.
-/
namespace Go.Proofs.YtnhfnfdmpcpcoaaDoor
open Go.RowKit

theorem growBy_le (need : Nat) : ∀ (r c : Nat), c ≤ need + need / 4 + 192 → Builtin.growBy need r c ≤ need + need / 4 + 192 := by
  intro r
  induction r with
  | zero => intro c h; exact h
  | succ r ih =>
    intro c h
    unfold Builtin.growBy
    by_cases hc : c ≥ need
    · rw [if_pos hc]; exact h
    · rw [if_neg hc]; exact ih _ (by omega)
theorem nextslicecap_le (need old : Nat) (h : old < need) : Builtin.nextslicecap need old ≤ need + need / 4 + 512 := by
  unfold Builtin.nextslicecap
  split
  · omega
  · split
    · omega
    · have := growBy_le need 4 old (by omega); omega

section
variable {P : Program} (w : World)
theorem run_append_fit (base : Nat) (t tx ty e : TypeId) (i : TypeInfo) (z : Value) (size bytes : Nat) (ht : P.underlying t = some (.slice e)) (hi : P.info? e = some i) (hz : i.zero = some z)
    (hsize : i.size = size) (hby : i.bytes = bytes) (hzs : z.cells.size = size)
    (v : Value) (n : Nat) (xs : List Value) (hown : w.ownsRow base e size v n xs)
    (x : Value) (m : Nat) (news : List Value) (hs : Src P size tx x m news w)
    (h63 : n + m ≤ maxLen) (hfit : ∀ old, old < n + m → Builtin.nextslicecap (n + m) old * bytes ≤ 281474976710656) (hbase : base ≤ w.heap.size) :
    ∃ v' w', (Builtin.append_ #[t, tx] ty #[v, x]).run P w = .ok v' w' ∧ w'.ownsRow base e size v' (n + m) (xs ++ news) ∧ w.grownBy w' v.ownBlock ∧
      (v' = .slice none 0 0 ↔ v = .slice none 0 0 ∧ m = 0) := by
  subst hsize
  subst hby
  have hl : news.length = m * i.size := hs.newsLen
  have hsmall : n + m ≤ 9223372036854775807 := by simp only [maxLen] at h63; omega
  have hlen : (xs ++ news).length = (n + m) * i.size := by rw [List.length_append, hown.1, hl, Nat.add_mul]
  have grown : ∀ (old : Nat), old < n + m → ∀ (row : Option Nat),
      (w.drew.alloc (.cells ((xs ++ news).toArray ++ Builtin.zeroCells z.cells (grownCap w (n + m) old e - (n + m))) e)).ownsRow base e i.size
        (.slice (some ⟨w.heap.size, 0, none⟩) (n + m) (grownCap w (n + m) old e)) (n + m) (xs ++ news) ∧
      w.grownBy (w.drew.alloc (.cells ((xs ++ news).toArray ++ Builtin.zeroCells z.cells (grownCap w (n + m) old e - (n + m))) e)) row := by
    intro old ho row
    have hge := grownCap_ge w (n + m) old e
    have hcm : grownCap w (n + m) old e ≤ maxLen := grownCap_le_maxLen w (n + m) old e h63
    refine ⟨⟨hlen, .inr ⟨w.heap.size, _, _, rfl, hbase, heap_alloc_new w.drew _, hge, hcm, ?_, ?_⟩⟩, ⟨rfl, rfl, rfl, by simp, fun k hk _ => Below.heap_alloc w.drew _ k hk⟩⟩
    · simp only [Array.size_append, List.size_toArray, size_zeroCells, hzs, hlen, ← Nat.add_mul]
      congr 1
      omega
    · simp only [Array.toList_append]
      rw [← hlen]
      exact List.take_left
  rcases hown.2 with ⟨rfl, rfl⟩ | ⟨g, cap, cur, rfl, hbg, hg, hnc, hcm, hcs, htake⟩
  · have hx : xs = [] := List.eq_nil_of_length_eq_zero (by simpa using hown.1)
    subst hx
    by_cases hm : m = 0
    · subst hm
      have hn : news = [] := List.eq_nil_of_length_eq_zero (by simpa using hl)
      subst hn
      exact ⟨.slice none 0 0, w, run_nothing_nil w t tx ty e i ht hi x hs, World.ownsRow_nil w base e i.size, ⟨rfl, rfl, rfl, Nat.le_refl _, fun _ _ _ => rfl⟩, by simp⟩
    · have hr := run_append_grow_src (P := P) w t tx ty e i z ht hi hz none 0 0 [] (run_firstCells_none w.drew i.size 0 0 0) x m news hs (by omega) (by omega) (by have := hfit 0 (by omega); simpa using this)
      have hgr := grown 0 (by omega) (Value.ownBlock (.slice none 0 0))
      simp only [Nat.zero_add, List.nil_append] at hgr hr ⊢
      exact ⟨_, _, hr, hgr.1, hgr.2, by simp [hm]⟩
  · by_cases hroom : n + m ≤ cap
    · have hfit : n * i.size + news.length ≤ cur.size := by rw [hl, hcs, ← Nat.add_mul]; exact Nat.mul_le_mul_right _ hroom
      have hr := run_room_row (P := P) w t tx ty e i ht hi g n cap cur hg x m news hs hroom hfit
      refine ⟨_, _, hr, ⟨hlen, .inr ⟨g, cap, _, rfl, hbg, setRow_heap w g cur _ e _ hg, hroom, hcm, ?_, ?_⟩⟩, ⟨rfl, rfl, rfl, by simp, fun k _ hk => setRow_other w g k _ (fun e => hk (by simp [Value.ownBlock, e]))⟩, by simp⟩
      · simp only [List.size_toArray, List.length_append, List.length_take, List.length_drop, Array.length_toList]
        omega
      · rw [htake, ← hlen]
        exact List.take_left
    · have holds : ∀ j u, xs[j]? = some u → w.cell? ((⟨g, 0, none⟩ : Addr).add j) = some u := hown.cells (g := g) rfl
      have hold := run_firstCells_some (P := P) w.drew i.size n ⟨g, 0, none⟩ n cap xs hown.1 (by simpa using holds)
      have hr := run_append_grow_src (P := P) w t tx ty e i z ht hi hz (some ⟨g, 0, none⟩) n cap xs hold x m news hs (by omega) (by omega) (hfit cap (by omega))
      have hgr := grown cap (by omega) (Value.ownBlock (.slice (some ⟨g, 0, none⟩) n cap))
      exact ⟨_, _, hr, hgr.1, hgr.2, by simp⟩
end

/-- append onto a row of the call's own: what grows takes at most five quarters of what is wanted -/
theorem wpList_append_fit {P : Program} (w : World) {ops : Array Oper} {rest : List Oper} {o : Oper} {a : Act} {Q : Exit → Act → World → Prop} (hgd : o.guard = none) (s x : Operand) (t tx : TypeId)
    (ho : o.op = .call { callee := .builtin .append, args := #[s, x], argTypes := #[t, tx] })
    (base : Nat) (e : TypeId) (z : Value) (size bytes : Nat) (ht : P.underlying t = some (.slice e)) (hi : (P.info? e).map (fun i => (i.zero, i.size, i.bytes)) = some (some z, size, bytes))
    (hzs : z.cells.size = size)
    (v : Value) (n : Nat) (xs : List Value) (hv : a.eval s = v) (hown : w.ownsRow base e size v n xs)
    (y : Value) (m : Nat) (news : List Value) (hx : a.eval x = y) (hs : Src P size tx y m news w)
    (h63 : n + m ≤ maxLen) (hbytes : (n + m + (n + m) / 4 + 512) * bytes ≤ 281474976710656) (hbase : base ≤ w.heap.size)
    (h : ∀ v' w', w'.ownsRow base e size v' (n + m) (xs ++ news) → w.grownBy w' v.ownBlock → (v' = .slice none 0 0 ↔ v = .slice none 0 0 ∧ m = 0) → wpList P ops Q rest (a.put o.dst v') w') : wpList P ops Q (o :: rest) a w := by
  refine wpList_plain hgd fun K hK => ?_
  obtain ⟨i, hi, hz, hz1, hz2⟩ := info_parts hi
  obtain ⟨v', w', hr, h2, h3, h4⟩ := run_append_fit (P := P) w base t tx o.type e i z size bytes ht hi hz hz1 hz2 hzs v n xs hown y m news hs h63 (fun old hold => Nat.le_trans (Nat.mul_le_mul_right _ (nextslicecap_le _ _ hold)) hbytes) hbase
  unfold Oper.wp execOp
  simp only [ho, resolve, invoke, builtin, Sem.run_bind, Sem.run_pure, Result.andThen_ok, List.map_toArray, List.map_cons, List.map_nil, hv, hx, hr]
  exact hK _ _ (h v' w' h2 h3 h4)

section
variable {w : World}
/-- append of bytes onto bytes of the call's own: up to 200,000,000,000,000 of them -/
theorem wpList_append8w {ops : Array Oper} {rest : List Oper} {o : Oper} {a : Act} {Q : Exit → Act → World → Prop} (hgd : o.guard = none) (s x : Operand)
    (ho : o.op = .call { callee := .builtin .append, args := #[s, x], argTypes := #[26, 26] })
    (base : Nat) (v : Value) (l : List UInt8) (hv : a.eval s = v) (hown : Own8 w base v l)
    (p : Option Addr) (m c : Nat) (l2 : List UInt8) (hm : l2.length = m) (hx : a.eval x = .slice p m c) (hin : In8 w p l2)
    (hr : l.length + m ≤ 200000000000000) (hbase : base ≤ w.heap.size)
    (h : ∀ v' w', Own8 w' base v' (l ++ l2) → w.grownBy w' v.ownBlock → wpList Tryd.prog ops Q rest (a.put o.dst v') w') : wpList Tryd.prog ops Q (o :: rest) a w := by
  subst hm
  refine wpList_plain hgd fun K hK => ?_
  obtain ⟨i, hi, hz, hz1, hz2⟩ := info_parts info8
  obtain ⟨v', w', hr', h2, h3, _⟩ := run_append_fit (P := Tryd.prog) w base 26 26 o.type 5 i (.int .u8 0) 1 1 Tryd.underlying26 hi hz hz1 hz2 rfl v l.length (by8 l) hown _ l2.length (by8 l2) (Src.of8 (c := c) hin) (by unfold maxLen; omega) (fun old ho' => by have := nextslicecap_le _ _ ho'; omega) hbase
  unfold Oper.wp execOp
  simp only [ho, resolve, invoke, builtin, Sem.run_bind, Sem.run_pure, Result.andThen_ok, List.map_toArray, List.map_cons, List.map_nil, hv, hx, hr']
  exact hK _ _ (h v' w' (by unfold Own8; rw [List.length_append, by8_append]; exact h2) h3)
end
end Go.Proofs.YtnhfnfdmpcpcoaaDoor

/-
  append, and where the new slice lies; append of noughts. No program is in sight here.
-/
namespace Go.Proofs.YtnhfnfdmpcpcoaaDoor
open Go.RowKit

section
variable {P : Program} (w : World)
theorem run_append_where (base : Nat) (t tx ty e : TypeId) (i : TypeInfo) (z : Value) (size bytes : Nat) (ht : P.underlying t = some (.slice e)) (hi : P.info? e = some i) (hz : i.zero = some z)
    (hsize : i.size = size) (hby : i.bytes = bytes) (hzs : z.cells.size = size)
    (v : Value) (n : Nat) (xs : List Value) (hown : w.ownsRow base e size v n xs)
    (x : Value) (m : Nat) (news : List Value) (hs : Src P size tx x m news w)
    (h63 : n + m ≤ maxLen) (hfit : ∀ old, old < n + m → Builtin.nextslicecap (n + m) old * bytes ≤ 281474976710656) (hbase : base ≤ w.heap.size) :
    ∃ v' w', (Builtin.append_ #[t, tx] ty #[v, x]).run P w = .ok v' w' ∧ w'.ownsRow base e size v' (n + m) (xs ++ news) ∧ w.grownBy w' v.ownBlock ∧
      ((∃ g cap, v = .slice (some ⟨g, 0, none⟩) n cap ∧ v' = .slice (some ⟨g, 0, none⟩) (n + m) cap) ∨ (∃ cap, v' = .slice (some ⟨w.heap.size, 0, none⟩) (n + m) cap ∧ w.grownBy w' none) ∨ (v' = v ∧ w' = w ∧ m = 0)) := by
  subst hsize
  subst hby
  have hl : news.length = m * i.size := hs.newsLen
  have hsmall : n + m ≤ 9223372036854775807 := by simp only [maxLen] at h63; omega
  have hlen : (xs ++ news).length = (n + m) * i.size := by rw [List.length_append, hown.1, hl, Nat.add_mul]
  have grown : ∀ (old : Nat), old < n + m → ∀ (row : Option Nat),
      (w.drew.alloc (.cells ((xs ++ news).toArray ++ Builtin.zeroCells z.cells (grownCap w (n + m) old e - (n + m))) e)).ownsRow base e i.size
        (.slice (some ⟨w.heap.size, 0, none⟩) (n + m) (grownCap w (n + m) old e)) (n + m) (xs ++ news) ∧
      w.grownBy (w.drew.alloc (.cells ((xs ++ news).toArray ++ Builtin.zeroCells z.cells (grownCap w (n + m) old e - (n + m))) e)) row := by
    intro old ho row
    have hge := grownCap_ge w (n + m) old e
    have hcm : grownCap w (n + m) old e ≤ maxLen := grownCap_le_maxLen w (n + m) old e h63
    refine ⟨⟨hlen, .inr ⟨w.heap.size, _, _, rfl, hbase, heap_alloc_new w.drew _, hge, hcm, ?_, ?_⟩⟩, ⟨rfl, rfl, rfl, by simp, fun k hk _ => Below.heap_alloc w.drew _ k hk⟩⟩
    · simp only [Array.size_append, List.size_toArray, size_zeroCells, hzs, hlen, ← Nat.add_mul]
      congr 1
      omega
    · simp only [Array.toList_append]
      rw [← hlen]
      exact List.take_left
  rcases hown.2 with ⟨rfl, rfl⟩ | ⟨g, cap, cur, rfl, hbg, hg, hnc, hcm, hcs, htake⟩
  · have hx : xs = [] := List.eq_nil_of_length_eq_zero (by simpa using hown.1)
    subst hx
    by_cases hm : m = 0
    · subst hm
      have hn : news = [] := List.eq_nil_of_length_eq_zero (by simpa using hl)
      subst hn
      exact ⟨.slice none 0 0, w, run_nothing_nil w t tx ty e i ht hi x hs, World.ownsRow_nil w base e i.size, ⟨rfl, rfl, rfl, Nat.le_refl _, fun _ _ _ => rfl⟩, .inr (.inr ⟨rfl, rfl, rfl⟩)⟩
    · have hr := run_append_grow_src (P := P) w t tx ty e i z ht hi hz none 0 0 [] (run_firstCells_none w.drew i.size 0 0 0) x m news hs (by omega) (by omega) (by have := hfit 0 (by omega); simpa using this)
      have hgr := grown 0 (by omega) (Value.ownBlock (.slice none 0 0))
      have hgr2 := (grown 0 (by omega) none).2
      simp only [Nat.zero_add, List.nil_append] at hgr hgr2 hr ⊢
      exact ⟨_, _, hr, hgr.1, hgr.2, .inr (.inl ⟨_, rfl, hgr2⟩)⟩
  · by_cases hroom : n + m ≤ cap
    · have hfit : n * i.size + news.length ≤ cur.size := by rw [hl, hcs, ← Nat.add_mul]; exact Nat.mul_le_mul_right _ hroom
      have hr := run_room_row (P := P) w t tx ty e i ht hi g n cap cur hg x m news hs hroom hfit
      refine ⟨_, _, hr, ⟨hlen, .inr ⟨g, cap, _, rfl, hbg, setRow_heap w g cur _ e _ hg, hroom, hcm, ?_, ?_⟩⟩, ⟨rfl, rfl, rfl, by simp, fun k _ hk => setRow_other w g k _ (fun e => hk (by simp [Value.ownBlock, e]))⟩, .inl ⟨g, cap, rfl, rfl⟩⟩
      · simp only [List.size_toArray, List.length_append, List.length_take, List.length_drop, Array.length_toList]
        omega
      · rw [htake, ← hlen]
        exact List.take_left
    · have holds : ∀ j u, xs[j]? = some u → w.cell? ((⟨g, 0, none⟩ : Addr).add j) = some u := hown.cells (g := g) rfl
      have hold := run_firstCells_some (P := P) w.drew i.size n ⟨g, 0, none⟩ n cap xs hown.1 (by simpa using holds)
      have hr := run_append_grow_src (P := P) w t tx ty e i z ht hi hz (some ⟨g, 0, none⟩) n cap xs hold x m news hs (by omega) (by omega) (hfit cap (by omega))
      have hgr := grown cap (by omega) (Value.ownBlock (.slice (some ⟨g, 0, none⟩) n cap))
      exact ⟨_, _, hr, hgr.1, hgr.2, .inr (.inl ⟨_, rfl, (grown cap (by omega) none).2⟩)⟩

/-- append of so many noughts ('append(s, make([]T, n)...)'): the same as an append of a slice of noughts -/
theorem run_zeros (t ti ty e : TypeId) (k : IntKind) (i : TypeInfo) (z : Value) (size : Nat) (ht : P.underlying t = some (.slice e)) (hti : P.underlying ti = some (.int k)) (hi : P.info? e = some i) (hz : i.zero = some z) (hsize : i.size = size) (hzs : z.cells.size = size)
    (v : Value) (n : Nat) (xs : List Value) (base : Nat) (hown : w.ownsRow base e size v n xs) (m : Nat) (hm0 : 0 < m) (hm : m ≤ 100000) (h1 : ∀ u ∈ (Builtin.zeroCells z.cells m).toList, u.oneCell' = true)
    (hs0 : 0 < size) (hb : (m : Int) * i.bytes ≤ 281474976710656) (h63 : n + m ≤ maxLen) (hfit : ∀ old, old < n + m → Builtin.nextslicecap (n + m) old * i.bytes ≤ 281474976710656) (hbase : base ≤ w.heap.size) :
    ∃ v' w', (Builtin.append_ #[t, ti] ty #[v, .int .i64 m]).run P w = .ok v' w' ∧ w'.ownsRow base e size v' (n + m) (xs ++ (Builtin.zeroCells z.cells m).toList) ∧ w.grownBy w' v.ownBlock ∧
      ((∃ g cap, v = .slice (some ⟨g, 0, none⟩) n cap ∧ v' = .slice (some ⟨g, 0, none⟩) (n + m) cap) ∨ (∃ cap, v' = .slice (some ⟨w.heap.size, 0, none⟩) (n + m) cap ∧ w.grownBy w' none)) := by
  subst hsize
  have hmw : IntKind.i64.wrap (m : Int) = (m : Int) := IntWalk.i64_in _ ⟨by omega, by omega⟩
  have hneg : ¬ ((m : Int) < 0) := by omega
  have hbig : ¬ (281474976710656 < (m : Int) * i.bytes) := by omega
  have hzl : (Builtin.zeroCells z.cells m).toList.length = m * i.size := by rw [Array.length_toList, size_zeroCells, hzs]
  have hmz : ¬ (m = 0 ∨ i.size = 0) := by omega
  have hmz' : ¬ (m * i.size = 0) := by
    intro e0; rcases Nat.mul_eq_zero.1 e0 with h | h <;> omega
  have hlen : (xs ++ (Builtin.zeroCells z.cells m).toList).length = (n + m) * i.size := by rw [List.length_append, hown.1, hzl, Nat.add_mul]
  have hsmall : n + m ≤ 9223372036854775807 := by simp only [maxLen] at h63; omega
  have grown : ∀ (old : Nat), old < n + m → ∀ (row : Option Nat),
      (w.drew.alloc (.cells ((xs ++ (Builtin.zeroCells z.cells m).toList).toArray ++ Builtin.zeroCells z.cells (grownCap w (n + m) old e - (n + m))) e)).ownsRow base e i.size
        (.slice (some ⟨w.heap.size, 0, none⟩) (n + m) (grownCap w (n + m) old e)) (n + m) (xs ++ (Builtin.zeroCells z.cells m).toList) ∧
      w.grownBy (w.drew.alloc (.cells ((xs ++ (Builtin.zeroCells z.cells m).toList).toArray ++ Builtin.zeroCells z.cells (grownCap w (n + m) old e - (n + m))) e)) row := by
    intro old ho row
    have hge := grownCap_ge w (n + m) old e
    have hcm : grownCap w (n + m) old e ≤ maxLen := grownCap_le_maxLen w (n + m) old e h63
    refine ⟨⟨hlen, .inr ⟨w.heap.size, _, _, rfl, hbase, heap_alloc_new w.drew _, hge, hcm, ?_, ?_⟩⟩, ⟨rfl, rfl, rfl, by simp, fun k hk _ => Below.heap_alloc w.drew _ k hk⟩⟩
    · simp only [Array.size_append, List.size_toArray, size_zeroCells, hzs, hlen, ← Nat.add_mul]
      congr 1
      omega
    · simp only [Array.toList_append]
      rw [← hlen]
      exact List.take_left
  rcases hown.2 with ⟨rfl, rfl⟩ | ⟨g, cap, cur, rfl, hbg, hg, hnc, hcm, hcs, htake⟩
  · have hx : xs = [] := List.eq_nil_of_length_eq_zero (by simpa using hown.1)
    subst hx
    have hn : ¬ (m ≤ 0) := by omega
    have hf := hfit 0 (by omega)
    simp only [Nat.zero_add] at hf
    have hf' : ¬ (281474976710656 < Builtin.nextslicecap m 0 * i.bytes) := by omega
    have hm63 : ¬ (9223372036854775807 < (m : Int)) := by omega
    have hgr := grown 0 (by omega) (Value.ownBlock (.slice none 0 0))
    have hgr2 := (grown 0 (by omega) none).2
    simp only [Nat.zero_add, List.nil_append] at hgr hgr2 ⊢
    refine ⟨_, _, ?_, hgr.1, hgr.2, .inr ⟨_, rfl, hgr2⟩⟩
    have hne0 : ¬ m = 0 := by omega
    have hns : ¬ i.size = 0 := by omega
    simp [Builtin.append_, run_underlying ht, run_underlying hti, sizeOf, typeInfo, zeroValue, hi, hz, asInt, asIntOf, hmw, hneg, hbig, hf', Question.forced, Builtin.firstCells, newRow, grownCap, hne0, hm63]
    intro h0; exact absurd h0 hmz'
  · have hne0 : ¬ m = 0 := by omega
    have hns : ¬ i.size = 0 := by omega
    by_cases hroom : n + m ≤ cap
    · have hfitc : n * i.size + (Builtin.zeroCells z.cells m).toList.length ≤ cur.size := by rw [hzl, hcs, ← Nat.add_mul]; exact Nat.mul_le_mul_right _ hroom
      have hst := run_storeCells_at P g (n * i.size) e (Builtin.zeroCells z.cells m).toList 0 cur w hg (by simpa using hfitc) h1
      simp only [Nat.add_zero] at hst
      have hr : (Builtin.append_ #[t, ti] ty #[.slice (some ⟨g, 0, none⟩) n cap, .int .i64 m]).run P w = .ok (.slice (some ⟨g, 0, none⟩) (n + m) cap)
          (w.setRow g (cur.toList.take (n * i.size) ++ (Builtin.zeroCells z.cells m).toList ++ cur.toList.drop (n * i.size + (Builtin.zeroCells z.cells m).toList.length)).toArray) := by
        simp [Builtin.append_, run_underlying ht, run_underlying hti, sizeOf, typeInfo, zeroValue, hi, hz, asInt, asIntOf, hmw, hneg, hbig, hroom, Addr.add_lit]
        rw [if_neg hmz', hst]
        simp
      refine ⟨_, _, hr, ⟨hlen, .inr ⟨g, cap, _, rfl, hbg, setRow_heap w g cur _ e _ hg, hroom, hcm, ?_, ?_⟩⟩, ⟨rfl, rfl, rfl, by simp, fun k _ hk => setRow_other w g k _ (fun e => hk (by simp [Value.ownBlock, e]))⟩, .inl ⟨g, cap, rfl, rfl⟩⟩
      · simp only [List.size_toArray, List.length_append, List.length_take, List.length_drop, Array.length_toList] at hfitc ⊢
        omega
      · rw [htake, ← hlen]
        exact List.take_left
    · have holds : ∀ j u, xs[j]? = some u → w.cell? ((⟨g, 0, none⟩ : Addr).add j) = some u := hown.cells (g := g) rfl
      have hold := run_firstCells_some (P := P) w.drew i.size n ⟨g, 0, none⟩ n cap xs hown.1 (by simpa using holds)
      have hf := hfit cap (by omega)
      have hf' : ¬ (281474976710656 < Builtin.nextslicecap (n + m) cap * i.bytes) := by omega
      have hm63 : ¬ (9223372036854775807 < (n : Int) + (m : Int)) := by omega
      refine ⟨_, _, ?_, (grown cap (by omega) (some g)).1, (grown cap (by omega) (some g)).2, .inr ⟨_, rfl, (grown cap (by omega) none).2⟩⟩
      simp [Builtin.append_, run_underlying ht, run_underlying hti, sizeOf, typeInfo, zeroValue, hi, hz, asInt, asIntOf, hmw, hneg, hbig, hroom, hf', Question.forced, hold, newRow, grownCap, hm63]
      rw [if_neg hmz']
      congr 3
      apply Array.ext'
      simp [List.append_assoc]
end
end Go.Proofs.YtnhfnfdmpcpcoaaDoor

/-
  The bytes of a text.
-/
namespace Go.Proofs.YtnhfnfdmpcpcoaaDoor
open Go.RowKit

theorem bt_str (s : ByteArray) (k : Nat) (h : k < s.size) : bt s.data.toList k = (s[k].toNat : Int) := by
  rw [bt_get _ k (by rw [Array.length_toList]; exact h)]; rfl
theorem size_list (s : ByteArray) : s.data.toList.length = s.size := by rw [Array.length_toList]; rfl
theorem empty_size (s : ByteArray) : decide (0 < s.size) = !s.data.toList.isEmpty := by
  rw [← size_list]; cases s.data.toList <;> simp
theorem byte_le (s : ByteArray) (k : Nat) (h : k < s.size) : 0 ≤ (s[k].toNat : Int) ∧ (s[k].toNat : Int) ≤ 255 := by
  have := s[k].toNat_lt; omega
end Go.Proofs.YtnhfnfdmpcpcoaaDoor

/-
  Bytes made a text.
-/
namespace Go.Proofs.YtnhfnfdmpcpcoaaDoor
open Go.RowKit

theorem strOf_bytes (l : List UInt8) : strOfNums (l.map fun b => (b.toNat : Int)) = ⟨l.toArray⟩ := by
  unfold strOfNums
  congr 2
  rw [List.map_map]
  conv => rhs; rw [← List.map_id l]
  apply List.map_congr_left
  intro b _
  simp

/-- bytes made a text -/
theorem run_toStr {w : World} {p : Option Addr} {l : List UInt8} (h : In8 w p l) (c : Nat) :
    (convert 26 9 (.slice p l.length c)).run Tryd.prog w = .ok (.string ⟨l.toArray⟩) w := by
  by_cases h0 : 0 < l.length
  · obtain ⟨b, o, rfl, hc⟩ := h h0
    rw [run_convert_bytes_arg (P := Tryd.prog) w 26 5 Tryd.underlying26 Tryd.underlying5 b o l.length c (l.map fun b => (b.toNat : Int)) (by simp) (fun i hi => ?_) 9 Tryd.underlying9, strOf_bytes]
    rw [hc i hi, bt_get l i hi]
    simp [List.getD_eq_getElem?_getD, hi]
  · obtain rfl : l = [] := List.eq_nil_of_length_eq_zero (by omega)
    show (convert 26 9 (.slice p 0 c)).run Tryd.prog w = .ok (.string ⟨#[]⟩) w
    rw [run_convert_bytes_string w 26 9 5 p 0 c Tryd.underlying26 Tryd.underlying5 Tryd.underlying9]
    cases p with
    | none => simp [Conv.bytesToString]; rfl
    | some a => exact run_bytesToString w a 0 c [] (by simp [loadCells, loadCellsFrom])
theorem toStr_at {w : World} {p : Option Addr} {l : List UInt8} {k : Nat} (h : In8 w p l) (hk : l.length = k) (c : Nat) :
    Sem.run Tryd.prog (convert 26 9 (.slice p k c)) w = .ok (.string ⟨l.toArray⟩) w := by
  subst hk; exact run_toStr h c

theorem ubyte_self (b : UInt8) : ubyte (b.toNat : Int) = b := by unfold ubyte; simp

/-- a byte stored into bytes at a known place -/
theorem In8.set {w : World} {b o : Nat} {l : List UInt8} (h : In8 w (some ⟨b, o, none⟩) l) (k : Nat) (z : Int) (h0 : 0 ≤ z) (h1 : z ≤ 255) :
    In8 (w.setCell ⟨b, o + k, none⟩ (.int .u8 z)) (some ⟨b, o, none⟩) (l.set k (ubyte z)) := by
  intro hl
  rw [List.length_set] at hl
  obtain ⟨b', o', e, hc⟩ := h hl
  simp only [Option.some.injEq, Addr.mk.injEq, and_true] at e
  obtain ⟨rfl, rfl⟩ := e
  refine ⟨b, o, rfl, fun i hi => ?_⟩
  rw [List.length_set] at hi
  by_cases hik : i = k
  · subst hik
    rw [World.cell?_setCell_same _ _ _ (hc i hi)]
    rw [bt_get (l.set i (ubyte z)) i (by simpa using hi), List.getElem_set_self, ubyte_toNat h0 h1]
  · rw [World.cell?_setCell_other _ _ _ _ (by simp <;> omega), hc i hi]
    rw [bt_get l i hi, bt_get (l.set k (ubyte z)) i (by simpa using hi), List.getElem_set_ne (by omega)]
end Go.Proofs.YtnhfnfdmpcpcoaaDoor

/-
  Rows of texts: what it means that a slice of texts reads as a list, that a call owns one; append of a text.
-/
namespace Go.Proofs.YtnhfnfdmpcpcoaaDoor
open Go.RowKit

/-- cells of one value each stand at the address (whatever it is, where there are none) -/
def InV (w : World) (p : Option Addr) (xs : List Value) : Prop :=
  0 < xs.length → ∃ b o, p = some ⟨b, o, none⟩ ∧ ∀ i, (h : i < xs.length) → w.cell? ⟨b, o + i, none⟩ = some xs[i]
theorem InV.at {w : World} {p : Option Addr} {xs : List Value} (h : InV w p xs) {k : Nat} (hk : k < xs.length) :
    ∃ b o, p = some ⟨b, o, none⟩ ∧ ∀ i, (h : i < xs.length) → w.cell? ⟨b, o + i, none⟩ = some xs[i] := h (by omega)
theorem InV.below {w w' : World} {p : Option Addr} {xs : List Value} (h : InV w p xs) (hb : Below w.heap.size w w') : InV w' p xs := by
  intro h0
  obtain ⟨b, o, rfl, hc⟩ := h h0
  refine ⟨b, o, rfl, fun i hi => ?_⟩
  have := hc i hi
  rw [hb.cell (p := ⟨b, o + i, none⟩) (World.block_lt_of_cell? w _ this)]
  exact this
theorem InV.drewN {w : World} {p : Option Addr} {xs : List Value} (h : InV w p xs) (n : Nat) : InV (w.drewN n) p xs := h
theorem InV.one (w : World) (x : Value) (e : TypeId) : InV (w.alloc (.cells #[x] e)) (some ⟨w.heap.size, 0, none⟩) [x] := by
  intro _
  refine ⟨w.heap.size, 0, rfl, fun i hi => ?_⟩
  obtain rfl : i = 0 := by simpa using hi
  simp only [World.cell?, heap_alloc_new w (.cells #[x] e)]; rfl
theorem InV.lit (w : World) (xs : List Value) (c : Array Value) (e : TypeId) (fr : Nat × Nat) (h : c.toList = xs) : InV (w.alloc (.cells c e fr)) (some ⟨w.heap.size, 0, none⟩) xs := by
  subst h
  intro _
  refine ⟨w.heap.size, 0, rfl, fun i hi => ?_⟩
  rw [cell_of_row _ _ _ _ _ _ (heap_alloc_new w (.cells c e fr)), Nat.zero_add, ← Array.getElem?_toList, List.getElem?_eq_getElem hi]

theorem owns_shape {w : World} {base e n : Nat} {v : Value} {xs : List Value} (h : w.ownsRow base e 1 v n xs) :
    ∃ p c, v = .slice p n c ∧ n ≤ c ∧ c ≤ maxLen ∧ InV w p xs ∧ (∀ a, p = some a → base ≤ a.block ∧ a.block < w.heap.size ∧ a.off = 0 ∧ a.spot = none) := by
  have hlt := h.lt
  have hl : xs.length = n := by have := h.1; omega
  rcases h.2 with ⟨rfl, hn⟩ | ⟨g, cap, cur, rfl, hb, hg, hnc, hcm, hcs, ht⟩
  · refine ⟨none, 0, by rw [hn], by omega, by unfold maxLen; omega, fun h0 => by omega, fun a ha => by cases ha⟩
  · refine ⟨some ⟨g, 0, none⟩, cap, rfl, hnc, hcm, fun h0 => ⟨g, 0, rfl, fun i hi => ?_⟩, fun a ha => ?_⟩
    · have := h.cellAt (g := g) (cap := cap) i (by omega)
      rw [Nat.zero_add, this, List.getElem?_eq_getElem hi]
    · obtain rfl := Option.some.inj ha
      exact ⟨hb, (hlt g rfl).2, rfl, rfl⟩

theorem srcV {w : World} {p : Option Addr} {xs : List Value} {c : Nat} {t e : TypeId} (ht : Tryd.prog.underlying t = some (.slice e)) (h : InV w p xs) (h1 : ∀ u ∈ xs, u.oneCell' = true) : Src Tryd.prog 1 t (.slice p xs.length c) xs.length xs w := by
  by_cases h0 : 0 < xs.length
  · obtain ⟨b, o, rfl, hc⟩ := h h0
    refine Src.ofSlice w ht ⟨b, o, none⟩ xs.length c xs (by simp) (fun j u hu => ?_) h1
    obtain ⟨hj, rfl⟩ := List.getElem?_eq_some_iff.1 hu
    rw [Go.WideShapes.add_plain]; exact hc j hj
  · obtain rfl : xs = [] := List.eq_nil_of_length_eq_zero (by omega)
    cases p with
    | none => exact Src.ofNil w ht c
    | some a => exact Src.ofSlice w ht a 0 c [] rfl (fun j u hu => by simp at hu) (fun u hu => by cases hu)

/-- the values of texts -/
def tx (L : List (List UInt8)) : List Value := L.map fun l => .string ⟨l.toArray⟩
theorem tx_length (L : List (List UInt8)) : (tx L).length = L.length := by simp [tx]
theorem tx_append (L M : List (List UInt8)) : tx (L ++ M) = tx L ++ tx M := by simp [tx]
theorem tx_one (L : List (List UInt8)) : ∀ u ∈ tx L, u.oneCell' = true := by
  intro u hu; obtain ⟨b, _, rfl⟩ := List.mem_map.1 hu; rfl
def InS (w : World) (p : Option Addr) (L : List (List UInt8)) : Prop := InV w p (tx L)
def OwnS (w : World) (base : Nat) (v : Value) (L : List (List UInt8)) : Prop := w.ownsRow base 9 1 v L.length (tx L)
theorem infoS : (Tryd.prog.info? 9).map (fun i => (i.zero, i.size, i.bytes)) = some (some (.string .empty), 1, 16) := by kernel_rfl

theorem InS.at {w : World} {p : Option Addr} {L : List (List UInt8)} (h : InS w p L) {k : Nat} (hk : k < L.length) :
    ∃ b o, p = some ⟨b, o, none⟩ ∧ ∃ a : ByteArray, w.cell? ⟨b, o + k, none⟩ = some (.string a) ∧ a.data.toList = L[k] := by
  obtain ⟨b, o, e, hc⟩ := InV.at h (k := k) (by rw [tx_length]; exact hk)
  refine ⟨b, o, e, _, (hc k (by rw [tx_length]; exact hk)).trans (by simp only [tx, List.getElem_map]; rfl), rfl⟩
theorem InS.below {w w' : World} {p : Option Addr} {L : List (List UInt8)} (h : InS w p L) (hb : Below w.heap.size w w') : InS w' p L := InV.below h hb
theorem InS.alloc {w : World} {p : Option Addr} {L : List (List UInt8)} (h : InS w p L) (o : Obj) : InS (w.alloc o) p L := h.below ((Below.refl _ w).alloc (Nat.le_refl _) o)
theorem InS.drewN {w : World} {p : Option Addr} {L : List (List UInt8)} (h : InS w p L) (n : Nat) : InS (w.drewN n) p L := h
theorem OwnS.nil (w : World) (base : Nat) : OwnS w base (.slice none 0 0) [] := World.ownsRow_nil _ _ _ _
theorem OwnS.made (w : World) : OwnS (w.alloc (.cells #[] 9)) w.heap.size (.slice (some ⟨w.heap.size, 0, none⟩) 0 0) [] :=
  World.ownsRow_made w #[] 0 (Nat.le_refl _) (by unfold maxLen; omega) rfl
theorem OwnS.below {w w' : World} {base : Nat} {v : Value} {L : List (List UInt8)} (h : OwnS w base v L) (hb : Below w.heap.size w w') : OwnS w' base v L := ownsRow_below h hb
theorem OwnS.mono {w : World} {base base' : Nat} {v : Value} {L : List (List UInt8)} (h : OwnS w base v L) (hb : base' ≤ base) : OwnS w base' v L := ownsRow_mono h hb
theorem OwnS.alloc {w : World} {base : Nat} {v : Value} {L : List (List UInt8)} (h : OwnS w base v L) (o : Obj) : OwnS (w.alloc o) base v L := World.ownsRow.alloc h o
theorem OwnS.shape {w : World} {base n : Nat} {v : Value} {L : List (List UInt8)} (h : OwnS w base v L) (hn : L.length = n) :
    ∃ p c, v = .slice p n c ∧ n ≤ c ∧ c ≤ maxLen ∧ InS w p L ∧ (∀ a, p = some a → base ≤ a.block ∧ a.block < w.heap.size ∧ a.off = 0 ∧ a.spot = none) := by
  subst hn; exact owns_shape h
theorem OwnS.grown {w w1 w' : World} {B : Nat} {v : Value} {L : List (List UInt8)} (hB : Below B w w1) (hs : B ≤ w1.heap.size) (hown : OwnS w1 B v L) (hg : w1.grownBy w' v.ownBlock) : Below B w w' :=
  hB.grown hg hs (fun k e => (World.ownsRow.lt hown k e).1)

section
variable {w : World}
/-- append of texts onto texts of the call's own -/
theorem wpList_appendS {ops : Array Oper} {rest : List Oper} {o : Oper} {a : Act} {Q : Exit → Act → World → Prop} (hgd : o.guard = none) (s x : Operand)
    (ho : o.op = .call { callee := .builtin .append, args := #[s, x], argTypes := #[63, 63] })
    (base : Nat) (v : Value) (L : List (List UInt8)) (hv : a.eval s = v) (hown : OwnS w base v L)
    (p : Option Addr) (m c : Nat) (M : List (List UInt8)) (hm : M.length = m) (hx : a.eval x = .slice p m c) (hin : InS w p M)
    (hr : L.length + m ≤ 12000000000000) (hbase : base ≤ w.heap.size)
    (h : ∀ v' w', OwnS w' base v' (L ++ M) → w.grownBy w' v.ownBlock → (v' = .slice none 0 0 ↔ v = .slice none 0 0 ∧ m = 0) → wpList Tryd.prog ops Q rest (a.put o.dst v') w') : wpList Tryd.prog ops Q (o :: rest) a w := by
  subst hm
  have hs : Src Tryd.prog 1 63 (.slice p M.length c) M.length (tx M) w := by
    have := srcV (c := c) (e := 9) Tryd.underlying63 hin (tx_one M)
    rwa [tx_length] at this
  refine wpList_append_fit w hgd s x 63 63 ho base 9 (.string .empty) 1 16 Tryd.underlying63 infoS rfl v L.length (tx L) hv hown _ M.length (tx M) hx hs (by unfold maxLen; omega) (by omega) hbase ?_
  intro v' w' ho' hg hn
  exact h v' w' (by unfold OwnS; rw [List.length_append, tx_append]; exact ho') hg hn
end

theorem InS.one (w : World) (t : ByteArray) : InS (w.alloc (.cells #[.string t] 9)) (some ⟨w.heap.size, 0, none⟩) [t.data.toList] := by
  have := InV.one w (.string t) 9
  have e : tx [t.data.toList] = [.string t] := by simp [tx]
  unfold InS; rw [e]; exact this

theorem strs_eq (a b : ByteArray) : (a.toList == b.toList) = decide (a.data.toList = b.data.toList) := by
  rw [Lib.toList_data, Lib.toList_data]
  by_cases h : a.data.toList = b.data.toList
  · rw [decide_eq_true h]; exact beq_iff_eq.2 h
  · rw [decide_eq_false h]; exact beq_eq_false_iff_ne.2 h
end Go.Proofs.YtnhfnfdmpcpcoaaDoor

/-
  Rows of pairs of texts (structs of two strings), whatever their type's name.
-/
namespace Go.Proofs.YtnhfnfdmpcpcoaaDoor
open Go.RowKit

abbrev Pair := List UInt8 × List UInt8
def prV (x : Pair) : List Value := [.string ⟨x.1.toArray⟩, .string ⟨x.2.toArray⟩]
/-- the cells of pairs of texts -/
def pr : List Pair → List Value
  | [] => []
  | x :: L => prV x ++ pr L
theorem pr_length (L : List Pair) : (pr L).length = L.length * 2 := by
  induction L with
  | nil => rfl
  | cons x L ih => simp only [pr, prV, List.length_append, List.length_cons, List.length_nil, ih]; omega
theorem pr_append (L M : List Pair) : pr (L ++ M) = pr L ++ pr M := by
  induction L with
  | nil => rfl
  | cons x L ih => simp only [List.cons_append, pr, ih, List.append_assoc]
theorem pr_one (L : List Pair) : ∀ u ∈ pr L, u.oneCell' = true := by
  induction L with
  | nil => intro u hu; cases hu
  | cons x L ih =>
    intro u hu
    simp only [pr, prV, List.cons_append, List.nil_append, List.mem_cons] at hu
    rcases hu with rfl | rfl | hu
    · rfl
    · rfl
    · exact ih u hu
theorem pr_get (L : List Pair) (i : Nat) (h : i < L.length) : (pr L)[i * 2]? = some (.string ⟨L[i].1.toArray⟩) ∧ (pr L)[i * 2 + 1]? = some (.string ⟨L[i].2.toArray⟩) := by
  induction L generalizing i with
  | nil => simp at h
  | cons x L ih =>
    cases i with
    | zero => simp [pr, prV]
    | succ i =>
      have h2 := ih i (by simpa using h)
      have e1 : (i + 1) * 2 = i * 2 + 1 + 1 := by omega
      have e2 : (i + 1) * 2 + 1 = i * 2 + 1 + 1 + 1 := by omega
      rw [e2, e1]
      simpa [pr, prV] using h2

/-- pairs of texts stand at the address (whatever it is, where there are none) -/
def In2 (w : World) (p : Option Addr) (L : List Pair) : Prop :=
  0 < L.length → ∃ b o, p = some ⟨b, o, none⟩ ∧ ∀ j v, (pr L)[j]? = some v → w.cell? ⟨b, o + j, none⟩ = some v
theorem In2.at {w : World} {p : Option Addr} {L : List Pair} (h : In2 w p L) {k : Nat} (hk : k < L.length) :
    ∃ b o, p = some ⟨b, o, none⟩ ∧ ∃ x y : ByteArray, w.cell? ⟨b, o + k * 2, none⟩ = some (.string x) ∧ w.cell? ⟨b, o + k * 2 + 1, none⟩ = some (.string y) ∧ x.data.toList = L[k].1 ∧ y.data.toList = L[k].2 := by
  obtain ⟨b, o, e, hc⟩ := h (by omega)
  obtain ⟨h1, h2⟩ := pr_get L k hk
  exact ⟨b, o, e, _, _, hc _ _ h1, (by have := hc _ _ h2; rwa [← Nat.add_assoc] at this), rfl, rfl⟩
theorem In2.below {w w' : World} {p : Option Addr} {L : List Pair} (h : In2 w p L) (hb : Below w.heap.size w w') : In2 w' p L := by
  intro h0
  obtain ⟨b, o, rfl, hc⟩ := h h0
  refine ⟨b, o, rfl, fun j v hv => ?_⟩
  have := hc j v hv
  rw [hb.cell (p := ⟨b, o + j, none⟩) (World.block_lt_of_cell? w _ this)]
  exact this
theorem In2.alloc {w : World} {p : Option Addr} {L : List Pair} (h : In2 w p L) (o : Obj) : In2 (w.alloc o) p L := h.below ((Below.refl _ w).alloc (Nat.le_refl _) o)
theorem In2.drewN {w : World} {p : Option Addr} {L : List Pair} (h : In2 w p L) (n : Nat) : In2 (w.drewN n) p L := h
theorem In2.lit (w : World) (L : List Pair) (c : Array Value) (e : TypeId) (fr : Nat × Nat) (h : c.toList = pr L) : In2 (w.alloc (.cells c e fr)) (some ⟨w.heap.size, 0, none⟩) L := by
  intro _
  refine ⟨w.heap.size, 0, rfl, fun j v hv => ?_⟩
  rw [cell_of_row _ _ _ _ _ _ (heap_alloc_new w (.cells c e fr)), Nat.zero_add, ← Array.getElem?_toList, h, hv]
theorem In2.one (w : World) (x y : ByteArray) (e : TypeId) : In2 (w.alloc (.cells #[.string x, .string y] e)) (some ⟨w.heap.size, 0, none⟩) [(x.data.toList, y.data.toList)] :=
  In2.lit w _ _ e (0, 0) (by simp [pr, prV])

/-- the slice v is a row of the call's own of pairs of type e -/
def Own2 (e : TypeId) (w : World) (base : Nat) (v : Value) (L : List Pair) : Prop := w.ownsRow base e 2 v L.length (pr L)
theorem Own2.nil (e : TypeId) (w : World) (base : Nat) : Own2 e w base (.slice none 0 0) [] := World.ownsRow_nil _ _ _ _
theorem Own2.made (e : TypeId) (w : World) : Own2 e (w.alloc (.cells #[] e)) w.heap.size (.slice (some ⟨w.heap.size, 0, none⟩) 0 0) [] :=
  ⟨rfl, .inr ⟨w.heap.size, 0, #[], rfl, Nat.le_refl _, heap_alloc_new w _, by simp, by unfold maxLen; omega, rfl, rfl⟩⟩
theorem Own2.below {e : TypeId} {w w' : World} {base : Nat} {v : Value} {L : List Pair} (h : Own2 e w base v L) (hb : Below w.heap.size w w') : Own2 e w' base v L := ownsRow_below h hb
theorem Own2.mono {e : TypeId} {w : World} {base base' : Nat} {v : Value} {L : List Pair} (h : Own2 e w base v L) (hb : base' ≤ base) : Own2 e w base' v L := ownsRow_mono h hb
theorem Own2.alloc {e : TypeId} {w : World} {base : Nat} {v : Value} {L : List Pair} (h : Own2 e w base v L) (o : Obj) : Own2 e (w.alloc o) base v L := World.ownsRow.alloc h o
theorem Own2.grown {e : TypeId} {w w1 w' : World} {B : Nat} {v : Value} {L : List Pair} (hB : Below B w w1) (hs : B ≤ w1.heap.size) (hown : Own2 e w1 B v L) (hg : w1.grownBy w' v.ownBlock) : Below B w w' :=
  hB.grown hg hs (fun k e => (World.ownsRow.lt hown k e).1)
theorem Own2.shape {e : TypeId} {w : World} {base n : Nat} {v : Value} {L : List Pair} (h : Own2 e w base v L) (hn : L.length = n) :
    ∃ p c, v = .slice p n c ∧ n ≤ c ∧ c ≤ maxLen ∧ In2 w p L ∧ (∀ a, p = some a → base ≤ a.block ∧ a.block < w.heap.size ∧ a.off = 0 ∧ a.spot = none) := by
  subst hn
  have hlt := World.ownsRow.lt h
  rcases h.2 with ⟨rfl, hn⟩ | ⟨g, cap, cur, rfl, hb, hg, hnc, hcm, hcs, ht⟩
  · refine ⟨none, 0, by rw [hn], by omega, by unfold maxLen; omega, fun h0 => by omega, fun a ha => by cases ha⟩
  · refine ⟨some ⟨g, 0, none⟩, cap, rfl, hnc, hcm, fun h0 => ⟨g, 0, rfl, fun j v hv => ?_⟩, fun a ha => ?_⟩
    · rw [cell_of_row _ _ _ _ _ _ hg, Nat.zero_add, ← Array.getElem?_toList]
      have hj : j < L.length * 2 := by rw [← pr_length]; exact (List.getElem?_eq_some_iff.1 hv).1
      rw [← ht, List.getElem?_take_of_lt hj] at hv
      exact hv
    · obtain rfl := Option.some.inj ha
      exact ⟨hb, (hlt g rfl).2, rfl, rfl⟩

/-- what a program says of a type of pairs -/
structure PairT (t e : TypeId) : Prop where
  ht : Tryd.prog.underlying t = some (.slice e)
  hi : (Tryd.prog.info? e).map (fun i => (i.zero, i.size, i.bytes)) = some (some (.agg #[.string .empty, .string .empty]), 2, 32)

theorem src2 {t e : TypeId} (T : PairT t e) {w : World} {p : Option Addr} {M : List Pair} {c : Nat} (hin : In2 w p M) : Src Tryd.prog 2 t (.slice p M.length c) M.length (pr M) w := by
  by_cases h0 : 0 < M.length
  · obtain ⟨b, o, rfl, hc⟩ := hin h0
    refine Src.ofSlice w T.ht ⟨b, o, none⟩ M.length c (pr M) (pr_length M) (fun j u hu => ?_) (pr_one M)
    rw [Go.WideShapes.add_plain]; exact hc j u hu
  · obtain rfl : M = [] := List.eq_nil_of_length_eq_zero (by omega)
    cases p with
    | none => exact Src.ofNil w T.ht c
    | some a => exact Src.ofSlice w T.ht a 0 c [] rfl (fun j u hu => by simp at hu) (fun u hu => by cases hu)

section
variable {w : World}
theorem wpList_append2 {t e : TypeId} (T : PairT t e) {ops : Array Oper} {rest : List Oper} {o : Oper} {a : Act} {Q : Exit → Act → World → Prop} (hgd : o.guard = none) (s x : Operand)
    (ho : o.op = .call { callee := .builtin .append, args := #[s, x], argTypes := #[t, t] })
    (base : Nat) (v : Value) (L : List Pair) (hv : a.eval s = v) (hown : Own2 e w base v L)
    (p : Option Addr) (m c : Nat) (M : List Pair) (hm : M.length = m) (hx : a.eval x = .slice p m c) (hin : In2 w p M)
    (hr : L.length + m ≤ 6000000000000) (hbase : base ≤ w.heap.size)
    (h : ∀ v' w', Own2 e w' base v' (L ++ M) → w.grownBy w' v.ownBlock → (v' = .slice none 0 0 ↔ v = .slice none 0 0 ∧ m = 0) → wpList Tryd.prog ops Q rest (a.put o.dst v') w') : wpList Tryd.prog ops Q (o :: rest) a w := by
  subst hm
  refine wpList_append_fit w hgd s x t t ho base e (.agg #[.string .empty, .string .empty]) 2 32 T.ht T.hi rfl v L.length (pr L) hv hown _ M.length (pr M) hx (src2 T hin) (by unfold maxLen; omega) (by omega) hbase ?_
  intro v' w' ho' hg hn
  exact h v' w' (by unfold Own2; rw [List.length_append, pr_append]; exact ho') hg hn
end
end Go.Proofs.YtnhfnfdmpcpcoaaDoor

/-
  append that also tells where the result lies: in the block where the row lay, or in a new one; and up to more than the guide's bound.
-/
namespace Go.Proofs.YtnhfnfdmpcpcoaaDoor
open Go.RowKit

/-- where a grown row may lie -/
def Way (w : World) (v v' : Value) : Prop := ∀ g, v'.ownBlock = some g → v.ownBlock = some g ∨ w.heap.size ≤ g

section
variable {P : Program} (w : World)
theorem wpList_append_way {ops : Array Oper} {rest : List Oper} {o : Oper} {a : Act} {Q : Exit → Act → World → Prop} (hgd : o.guard = none) (s x : Operand) (t tx : TypeId)
    (ho : o.op = .call { callee := .builtin .append, args := #[s, x], argTypes := #[t, tx] })
    (base : Nat) (e : TypeId) (z : Value) (size bytes : Nat) (ht : P.underlying t = some (.slice e)) (hi : (P.info? e).map (fun i => (i.zero, i.size, i.bytes)) = some (some z, size, bytes))
    (hzs : z.cells.size = size)
    (v : Value) (n : Nat) (xs : List Value) (hv : a.eval s = v) (hown : w.ownsRow base e size v n xs)
    (y : Value) (m : Nat) (news : List Value) (hx : a.eval x = y) (hs : Src P size tx y m news w)
    (h63 : n + m ≤ maxLen) (hbytes : (n + m + (n + m) / 4 + 512) * bytes ≤ 281474976710656) (hbase : base ≤ w.heap.size)
    (h : ∀ v' w', w'.ownsRow base e size v' (n + m) (xs ++ news) → w.grownBy w' v.ownBlock → Way w v v' → wpList P ops Q rest (a.put o.dst v') w') : wpList P ops Q (o :: rest) a w := by
  refine wpList_plain hgd fun K hK => ?_
  obtain ⟨i, hi, hz, hz1, hz2⟩ := info_parts hi
  obtain ⟨v', w', hr, h2, h3, h4⟩ := run_append_where (P := P) w base t tx o.type e i z size bytes ht hi hz hz1 hz2 hzs v n xs hown y m news hs h63 (fun old hold => Nat.le_trans (Nat.mul_le_mul_right _ (nextslicecap_le _ _ hold)) hbytes) hbase
  unfold Oper.wp execOp
  simp only [ho, resolve, invoke, builtin, Sem.run_bind, Sem.run_pure, Result.andThen_ok, List.map_toArray, List.map_cons, List.map_nil, hv, hx, hr]
  refine hK _ _ (h v' w' h2 h3 fun g hg => ?_)
  rcases h4 with ⟨g', cap, rfl, rfl⟩ | ⟨cap, rfl, _⟩ | ⟨rfl, _, _⟩
  · exact .inl hg
  · right
    have e : some w.heap.size = some g := hg
    injection e with e
    omega
  · exact .inl hg
end

section
variable {w : World}
/-- texts onto texts of the call's own, with where the result lies -/
theorem wpList_appendSw {ops : Array Oper} {rest : List Oper} {o : Oper} {a : Act} {Q : Exit → Act → World → Prop} (hgd : o.guard = none) (s x : Operand)
    (ho : o.op = .call { callee := .builtin .append, args := #[s, x], argTypes := #[63, 63] })
    (base : Nat) (v : Value) (L : List (List UInt8)) (hv : a.eval s = v) (hown : OwnS w base v L)
    (p : Option Addr) (m c : Nat) (M : List (List UInt8)) (hm : M.length = m) (hx : a.eval x = .slice p m c) (hin : InS w p M)
    (hr : L.length + m ≤ 12000000000000) (hbase : base ≤ w.heap.size)
    (h : ∀ v' w', OwnS w' base v' (L ++ M) → w.grownBy w' v.ownBlock → Way w v v' → wpList Tryd.prog ops Q rest (a.put o.dst v') w') : wpList Tryd.prog ops Q (o :: rest) a w := by
  subst hm
  have hs : Src Tryd.prog 1 63 (.slice p M.length c) M.length (tx M) w := by
    have := srcV (c := c) (e := 9) Tryd.underlying63 hin (tx_one M)
    rwa [tx_length] at this
  refine wpList_append_way w hgd s x 63 63 ho base 9 (.string .empty) 1 16 Tryd.underlying63 infoS rfl v L.length (tx L) hv hown _ M.length (tx M) hx hs (by unfold maxLen; omega) (by omega) hbase ?_
  intro v' w' ho' hg hn
  exact h v' w' (by unfold OwnS; rw [List.length_append, tx_append]; exact ho') hg hn
/-- pairs onto pairs of the call's own, with where the result lies -/
theorem wpList_append2w {t e : TypeId} (T : PairT t e) {ops : Array Oper} {rest : List Oper} {o : Oper} {a : Act} {Q : Exit → Act → World → Prop} (hgd : o.guard = none) (s x : Operand)
    (ho : o.op = .call { callee := .builtin .append, args := #[s, x], argTypes := #[t, t] })
    (base : Nat) (v : Value) (L : List Pair) (hv : a.eval s = v) (hown : Own2 e w base v L)
    (p : Option Addr) (m c : Nat) (M : List Pair) (hm : M.length = m) (hx : a.eval x = .slice p m c) (hin : In2 w p M)
    (hr : L.length + m ≤ 6000000000000) (hbase : base ≤ w.heap.size)
    (h : ∀ v' w', Own2 e w' base v' (L ++ M) → w.grownBy w' v.ownBlock → Way w v v' → wpList Tryd.prog ops Q rest (a.put o.dst v') w') : wpList Tryd.prog ops Q (o :: rest) a w := by
  subst hm
  refine wpList_append_way w hgd s x t t ho base e (.agg #[.string .empty, .string .empty]) 2 32 T.ht T.hi rfl v L.length (pr L) hv hown _ M.length (pr M) hx (src2 T hin) (by unfold maxLen; omega) (by omega) hbase ?_
  intro v' w' ho' hg hn
  exact h v' w' (by unfold Own2; rw [List.length_append, pr_append]; exact ho') hg hn
end

theorem InV.kept {w w' : World} {row : Option Nat} {p : Option Addr} {xs : List Value} (h : InV w p xs) (hg : w.grownBy w' row) (hne : ∀ a, p = some a → row ≠ some a.block) : InV w' p xs := by
  intro h0
  obtain ⟨b, o, rfl, hc⟩ := h h0
  exact ⟨b, o, rfl, fun i hi => hg.cell (hc i hi) (fun e => hne _ rfl e.symm)⟩
theorem InS.kept {w w' : World} {row : Option Nat} {p : Option Addr} {L : List (List UInt8)} (h : InS w p L) (hg : w.grownBy w' row) (hne : ∀ a, p = some a → row ≠ some a.block) : InS w' p L := InV.kept h hg hne

/-- a row of the call's own that grows while, of what was in w1, at most the block row changes -/
def OutV (B : Nat) (row : Option Nat) (w1 : World) (e size : Nat) (v : Value) (n : Nat) (xs : List Value) (w : World) : Prop :=
  w.ownsRow B e size v n xs ∧ w1.grownBy w row ∧ ∀ g, v.ownBlock = some g → some g = row ∨ w1.heap.size ≤ g
theorem grown_below {w1 w w' : World} {row : Option Nat} (h : w1.grownBy w row) (hb : Below w.heap.size w w') : w1.grownBy w' row :=
  ⟨hb.os.trans h.os, hb.tape.trans h.tape, hb.output.trans h.output, Nat.le_trans h.size hb.size, fun i hi hn => (hb.block i (Nat.lt_of_lt_of_le hi h.size)).trans (h.block i hi hn)⟩
theorem OutV.below {B : Nat} {row : Option Nat} {w1 : World} {e size : Nat} {v : Value} {n : Nat} {xs : List Value} {w w' : World} (h : OutV B row w1 e size v n xs w) (hb : Below w.heap.size w w') : OutV B row w1 e size v n xs w' :=
  ⟨ownsRow_below h.1 hb, grown_below h.2.1 hb, h.2.2⟩
theorem OutV.alloc {B : Nat} {row : Option Nat} {w1 : World} {e size : Nat} {v : Value} {n : Nat} {xs : List Value} {w : World} (h : OutV B row w1 e size v n xs w) (o : Obj) : OutV B row w1 e size v n xs (w.alloc o) :=
  h.below ((Below.refl _ w).alloc (Nat.le_refl _) o)
theorem OutV.app {B : Nat} {row : Option Nat} {w1 : World} {e size : Nat} {v v' : Value} {n m : Nat} {xs ys : List Value} {w w' : World} (h : OutV B row w1 e size v n xs w) (hown : w'.ownsRow B e size v' m ys) (hg : w.grownBy w' v.ownBlock) (hway : Way w v v') : OutV B row w1 e size v' m ys w' := by
  refine ⟨hown, ⟨hg.os.trans h.2.1.os, hg.tape.trans h.2.1.tape, hg.output.trans h.2.1.output, Nat.le_trans h.2.1.size hg.size, fun i hi hn => ?_⟩, fun g e => ?_⟩
  · refine (hg.block i (Nat.lt_of_lt_of_le hi h.2.1.size) (fun e => ?_)).trans (h.2.1.block i hi hn)
    rcases h.2.2 i e.symm with h1 | h1
    · exact hn h1
    · omega
  · rcases hway g e with h1 | h1
    · exact h.2.2 g h1
    · right; have := h.2.1.size; omega
theorem OutV.nil (B : Nat) (w1 : World) (e size : Nat) : OutV B none w1 e size (.slice none 0 0) 0 [] w1 :=
  ⟨World.ownsRow_nil _ _ _ _, ⟨rfl, rfl, rfl, Nat.le_refl _, fun _ _ _ => rfl⟩, fun _ e => by cases e⟩
theorem OutV.start {B : Nat} {w1 : World} {e size : Nat} {v : Value} {n : Nat} {xs : List Value} (h : w1.ownsRow B e size v n xs) : OutV B v.ownBlock w1 e size v n xs w1 :=
  ⟨h, ⟨rfl, rfl, rfl, Nat.le_refl _, fun _ _ _ => rfl⟩, fun _ e => .inl e.symm⟩
theorem OutV.keepS {B : Nat} {row : Option Nat} {w1 : World} {e size : Nat} {v : Value} {n : Nat} {xs : List Value} {w : World} (h : OutV B row w1 e size v n xs w) {p : Option Addr} {M : List (List UInt8)} (hin : InS w1 p M) (hne : ∀ a, p = some a → row ≠ some a.block) : InS w p M := hin.kept h.2.1 hne
/-- what lay below the row's base is as it was -/
theorem OutV.final {B : Nat} {row : Option Nat} {w0 w1 : World} {e size : Nat} {v : Value} {n : Nat} {xs : List Value} {w : World} (h : OutV B row w1 e size v n xs w) (hb : Below w0.heap.size w0 w1) (hr : ∀ g, row = some g → w0.heap.size ≤ g) : Below w0.heap.size w0 w :=
  hb.grown h.2.1 hb.size hr
def OutS (B : Nat) (row : Option Nat) (w1 : World) (v : Value) (L : List (List UInt8)) (w : World) : Prop := OutV B row w1 9 1 v L.length (tx L) w
theorem OutS.own {B : Nat} {row : Option Nat} {w1 : World} {v : Value} {L : List (List UInt8)} {w : World} (h : OutS B row w1 v L w) : OwnS w B v L := h.1
theorem OutS.below {B : Nat} {row : Option Nat} {w1 : World} {v : Value} {L : List (List UInt8)} {w w' : World} (h : OutS B row w1 v L w) (hb : Below w.heap.size w w') : OutS B row w1 v L w' := OutV.below h hb
theorem OutS.alloc {B : Nat} {row : Option Nat} {w1 : World} {v : Value} {L : List (List UInt8)} {w : World} (h : OutS B row w1 v L w) (o : Obj) : OutS B row w1 v L (w.alloc o) := OutV.alloc h o
theorem OutS.app {B : Nat} {row : Option Nat} {w1 : World} {v v' : Value} {L M : List (List UInt8)} {w w' : World} (h : OutS B row w1 v L w) (hown : OwnS w' B v' M) (hg : w.grownBy w' v.ownBlock) (hway : Way w v v') : OutS B row w1 v' M w' := OutV.app h hown hg hway
end Go.Proofs.YtnhfnfdmpcpcoaaDoor

/-
  append, and bytes of a text, as steps of a region that draws.
-/
namespace Go.Proofs.YtnhfnfdmpcpcoaaDoor
open Go.RowKit

/-- append onto a row of the call's own, as a step of a region that draws -/
theorem step_append_fit {P : Program} {w : World} {ops : Array Oper} {o : Oper} {a : Act} {K : Act → World → Prop} {Q : Exit → Act → World → Prop} {E : Prop} (hgd : o.guard = none) (s x : Operand) (t tx : TypeId)
    (ho : o.op = .call { callee := .builtin .append, args := #[s, x], argTypes := #[t, tx] })
    (base : Nat) (e : TypeId) (z : Value) (size bytes : Nat) (ht : P.underlying t = some (.slice e)) (hi : (P.info? e).map (fun i => (i.zero, i.size, i.bytes)) = some (some z, size, bytes))
    (hzs : z.cells.size = size)
    (v : Value) (n : Nat) (xs : List Value) (hv : a.eval s = v) (hown : w.ownsRow base e size v n xs)
    (y : Value) (m : Nat) (news : List Value) (hx : a.eval x = y) (hs : Src P size tx y m news w)
    (h63 : n + m ≤ maxLen) (hbytes : (n + m + (n + m) / 4 + 512) * bytes ≤ 281474976710656) (hbase : base ≤ w.heap.size)
    (h : ∀ v' w', w'.ownsRow base e size v' (n + m) (xs ++ news) → w.grownBy w' v.ownBlock → K (a.put o.dst v') w') :
    if Region.wanted o (yielded ops a.tmps) = true then Oper.wp P o a w K Q else E := by
  have hw : Region.wanted o (yielded ops a.tmps) = true := by simp [Region.wanted, hgd]
  rw [if_pos hw]
  obtain ⟨i, hi, hz, hz1, hz2⟩ := info_parts hi
  obtain ⟨v', w', hr, h2, h3, h4⟩ := run_append_fit (P := P) w base t tx o.type e i z size bytes ht hi hz hz1 hz2 hzs v n xs hown y m news hs h63 (fun old hold => Nat.le_trans (Nat.mul_le_mul_right _ (nextslicecap_le _ _ hold)) hbytes) hbase
  unfold Oper.wp execOp
  simp only [ho, resolve, invoke, builtin, Sem.run_bind, Sem.run_pure, Result.andThen_ok, List.map_toArray, List.map_cons, List.map_nil, hv, hx, hr]
  exact h v' w' h2 h3
theorem step_append8 {w : World} {ops : Array Oper} {o : Oper} {a : Act} {K : Act → World → Prop} {Q : Exit → Act → World → Prop} {E : Prop} (hgd : o.guard = none) (s x : Operand)
    (ho : o.op = .call { callee := .builtin .append, args := #[s, x], argTypes := #[26, 26] })
    (base : Nat) (v : Value) (l : List UInt8) (hv : a.eval s = v) (hown : Own8 w base v l)
    (p : Option Addr) (m c : Nat) (l2 : List UInt8) (hm : l2.length = m) (hx : a.eval x = .slice p m c) (hin : In8 w p l2)
    (hr : l.length + m ≤ 200000000000000) (hbase : base ≤ w.heap.size)
    (h : ∀ v' w', Own8 w' base v' (l ++ l2) → w.grownBy w' v.ownBlock → K (a.put o.dst v') w') :
    if Region.wanted o (yielded ops a.tmps) = true then Oper.wp Tryd.prog o a w K Q else E := by
  subst hm
  refine step_append_fit hgd s x _ _ ho base 5 (.int .u8 0) 1 1 Tryd.underlying26 info8 rfl v l.length (by8 l) hv hown _ l2.length (by8 l2) hx (Src.of8 hin) (by unfold maxLen; omega) (by omega) hbase ?_
  intro v' w' ho' hg
  exact h v' w' (by unfold Own8; rw [List.length_append, by8_append]; exact ho') hg

/-- the world behind a text's bytes -/
def bytesW (w : World) (t : ByteArray) : World := w.drew.alloc (.cells (bytesRow t (grownCap w t.size 0 5)) 5 ((bytesRow t (grownCap w t.size 0 5)).size, (bytesRow t (grownCap w t.size 0 5)).size + 1))
theorem bytesW_run (w : World) (t : ByteArray) : (convert 9 26 (.string t)).run Tryd.prog w = .ok (.slice (some ⟨w.heap.size, 0, none⟩) t.size (grownCap w t.size 0 5)) (bytesW w t) :=
  run_bytes_of_string (P := Tryd.prog) w 9 26 5 t Tryd.underlying9 Tryd.underlying26 Tryd.underlying5
theorem bytesW_below (w : World) (t : ByteArray) : Below w.heap.size w (bytesW w t) :=
  (Below.refl _ w).drew.alloc (Nat.le_refl _) _
theorem bytesW_in8 (w : World) (t : ByteArray) : In8 (bytesW w t) (some ⟨w.heap.size, 0, none⟩) t.data.toList := by
  intro _
  have hl : t.data.toList.length = t.size := by rw [Array.length_toList]; rfl
  refine ⟨w.heap.size, 0, rfl, fun i hi => ?_⟩
  have hb : (bytesW w t).heap[w.heap.size]? = some (.cells (bytesRow t (grownCap w t.size 0 5)) 5 ((bytesRow t (grownCap w t.size 0 5)).size, (bytesRow t (grownCap w t.size 0 5)).size + 1)) := heap_alloc_new w.drew _
  have hi' : i < (t.data.map (fun b => Value.int .u8 (b.toNat : Int))).size := by simpa [hl] using hi
  rw [cell_of_row _ _ _ _ _ _ hb, Nat.zero_add, bytesRow, Array.getElem?_append_left hi', Array.getElem?_eq_getElem hi', ← bt_bytes t i (by omega)]
end Go.Proofs.YtnhfnfdmpcpcoaaDoor

/-
  Several rows of bytes of the call's own, in blocks of their own: what a store, an append, a draw leaves of them. No function is in sight here.
-/
namespace Go.Proofs.YtnhfnfdmpcpcoaaDoor
open Go.RowKit

/-- of what was there only the blocks A may have turned -/
structure Only (A : Nat → Prop) (w w' : World) : Prop where
  os : w'.os = w.os
  tape : w'.tape = w.tape
  output : w'.output = w.output
  size : w.heap.size ≤ w'.heap.size
  block : ∀ k, k < w.heap.size → ¬ A k → w'.heap[k]? = w.heap[k]?
theorem Only.refl (A : Nat → Prop) (w : World) : Only A w w := ⟨rfl, rfl, rfl, Nat.le_refl _, fun _ _ _ => rfl⟩
theorem Only.drewN {A : Nat → Prop} {w w' : World} (h : Only A w w') (n : Nat) : Only A w (w'.drewN n) := ⟨h.os, h.tape, h.output, h.size, h.block⟩
theorem Only.drew {A : Nat → Prop} {w w' : World} (h : Only A w w') : Only A w w'.drew := ⟨h.os, h.tape, h.output, h.size, h.block⟩
theorem Only.alloc {A : Nat → Prop} {w w' : World} (h : Only A w w') (o : Obj) : Only A w (w'.alloc o) :=
  ⟨h.os, h.tape, h.output, Nat.le_trans h.size (by simp), fun k hk ha => (Below.heap_alloc w' o k (Nat.lt_of_lt_of_le hk h.size)).trans (h.block k hk ha)⟩
theorem Only.setCell {A : Nat → Prop} {w w' : World} (h : Only A w w') {a : Addr} (ha : A a.block) (u : Value) : Only A w (w'.setCell a u) :=
  ⟨h.os, h.tape, h.output, Nat.le_trans h.size (by simp [World.setCell]), fun k hk hn => (Below.heap_setCell w' a u k (fun e => hn (e ▸ ha))).trans (h.block k hk hn)⟩
theorem Only.grown {A : Nat → Prop} {w w' w2 : World} {row : Option Nat} (h : Only A w w') (hg : w'.grownBy w2 row) (hr : ∀ k, row = some k → A k ∨ w.heap.size ≤ k) : Only A w w2 :=
  ⟨hg.os.trans h.os, hg.tape.trans h.tape, hg.output.trans h.output, Nat.le_trans h.size hg.size, fun k hk hn =>
    (hg.block k (Nat.lt_of_lt_of_le hk h.size) (fun e => by rcases hr k e.symm with h1 | h1; exact hn h1; omega)).trans (h.block k hk hn)⟩
theorem Only.cell {A : Nat → Prop} {w w' : World} (h : Only A w w') {p : Addr} {v : Value} (hc : w.cell? p = some v) (hn : ¬ A p.block) : w'.cell? p = some v :=
  (World.cell?_of_block (h.block p.block (World.block_lt_of_cell? w _ hc) hn)).trans hc
theorem Only.below {A : Nat → Prop} {w w' : World} {B : Nat} (h : Only A w w') (hA : ∀ k, A k → B ≤ k) (hB : B ≤ w.heap.size) : Below B w w' :=
  ⟨h.os, h.tape, h.output, h.size, fun k hk => h.block k (by omega) (fun ha => by have := hA k ha; omega)⟩

/-- a beginning of a row -/
theorem Own8.first {w : World} {base g cap : Nat} {l m : List UInt8} {n : Nat} (h : Own8 w base (.slice (some ⟨g, 0, none⟩) n cap) (l ++ m)) : Own8 w base (.slice (some ⟨g, 0, none⟩) l.length cap) l := by
  refine ⟨by simp [by8], ?_⟩
  rcases h.2 with ⟨h1, _⟩ | ⟨g', cap', cur, h1, hb, hg, hnc, hcm, hcs, ht⟩
  · simp at h1
  · simp only [Value.slice.injEq, Option.some.injEq, Addr.mk.injEq, and_true] at h1
    obtain ⟨rfl, hn, rfl⟩ := h1
    refine .inr ⟨g, cap, cur, rfl, hb, hg, by simp at hnc; omega, hcm, hcs, ?_⟩
    have := congrArg (List.take (l.length * 1)) ht
    rw [List.take_take, by8_append] at this
    rw [Nat.min_eq_left (by simp)] at this
    rw [this, Nat.mul_one, List.take_append_of_le_length (by simp [by8]), List.take_of_length_le (by simp [by8])]

/-- what a row's own block is -/
theorem own_lt {w : World} {base : Nat} {v : Value} {l : List UInt8} (h : Own8 w base v l) {g : Nat} (hg : v.ownBlock = some g) : base ≤ g ∧ g < w.heap.size := World.ownsRow.lt h g hg
theorem Own8.kept {w w' : World} {base : Nat} {v : Value} {l : List UInt8} {row : Option Nat} (h : Own8 w base v l) (hg : w.grownBy w' row) (hne : v.ownBlock = none ∨ v.ownBlock ≠ row) : Own8 w' base v l := World.ownsRow.kept h hg hne
theorem Own8.setOther {w : World} {base : Nat} {v : Value} {l : List UInt8} (h : Own8 w base v l) {a : Addr} (ha : v.ownBlock ≠ some a.block) (u : Value) : Own8 (w.setCell a u) base v l := ownsRow_setCell_other h ha u

/-- append, and what becomes of the row from which it grew -/
def Behind (w w' : World) (base : Nat) (v v' : Value) (l l2 : List UInt8) : Prop :=
  Own8 w' base v' (l ++ l2) ∧ w.grownBy w' v.ownBlock ∧
  ((∃ g cap, v = .slice (some ⟨g, 0, none⟩) l.length cap ∧ v' = .slice (some ⟨g, 0, none⟩) (l.length + l2.length) cap) ∨ (∃ cap, v' = .slice (some ⟨w.heap.size, 0, none⟩) (l.length + l2.length) cap ∧ w.grownBy w' none) ∨ (v' = v ∧ w' = w ∧ l2.length = 0))

section
variable {w : World}
theorem wpList_append8k {ops : Array Oper} {rest : List Oper} {o : Oper} {a : Act} {Q : Exit → Act → World → Prop} (hgd : o.guard = none) (s x : Operand)
    (ho : o.op = .call { callee := .builtin .append, args := #[s, x], argTypes := #[26, 26] })
    (base : Nat) (v : Value) (l : List UInt8) (hv : a.eval s = v) (hown : Own8 w base v l)
    (p : Option Addr) (m c : Nat) (l2 : List UInt8) (hm : l2.length = m) (hx : a.eval x = .slice p m c) (hin : In8 w p l2)
    (hr : l.length + m ≤ 200000000000000) (hbase : base ≤ w.heap.size)
    (h : ∀ v' w', Behind w w' base v v' l l2 → wpList Tryd.prog ops Q rest (a.put o.dst v') w') : wpList Tryd.prog ops Q (o :: rest) a w := by
  subst hm
  refine wpList_plain hgd fun K hK => ?_
  obtain ⟨i, hi, hz, hz1, hz2⟩ := info_parts info8
  obtain ⟨v', w', hr', h2, h3, h4⟩ := run_append_where (P := Tryd.prog) w base 26 26 o.type 5 i (.int .u8 0) 1 1 Tryd.underlying26 hi hz hz1 hz2 rfl v l.length (by8 l) hown _ l2.length (by8 l2) (Src.of8 (c := c) hin) (by unfold maxLen; omega) (fun old ho' => by have := nextslicecap_le _ _ ho'; omega) hbase
  unfold Oper.wp execOp
  simp only [ho, resolve, invoke, builtin, Sem.run_bind, Sem.run_pure, Result.andThen_ok, List.map_toArray, List.map_cons, List.map_nil, hv, hx, hr']
  exact hK _ _ (h v' w' ⟨by unfold Own8; rw [List.length_append, by8_append]; exact h2, h3, h4⟩)

theorem zeros_by8 (m : Nat) : (Builtin.zeroCells (Value.int .u8 0).cells m).toList = by8 (List.replicate m 0) := by
  show (Builtin.zeroCells #[Value.int .u8 0] m).toList = _
  unfold Builtin.zeroCells by8
  apply List.ext_getElem?
  intro j
  by_cases hj : j < m
  · simp [hj, Nat.mod_one]
  · simp [hj]

theorem wpList_append8z {ops : Array Oper} {rest : List Oper} {o : Oper} {a : Act} {Q : Exit → Act → World → Prop} (hgd : o.guard = none) (s x : Operand)
    (ho : o.op = .call { callee := .builtin .append, args := #[s, x], argTypes := #[26, 3] })
    (base : Nat) (v : Value) (l : List UInt8) (hv : a.eval s = v) (hown : Own8 w base v l)
    (m : Nat) (M : Int) (hM : M = (m : Int)) (hx : a.eval x = .int .i64 M) (hm0 : 0 < m) (hm : m ≤ 100000)
    (hr : l.length + m ≤ 200000000000000) (hbase : base ≤ w.heap.size)
    (h : ∀ v' w', Behind w w' base v v' l (List.replicate m 0) → wpList Tryd.prog ops Q rest (a.put o.dst v') w') : wpList Tryd.prog ops Q (o :: rest) a w := by
  subst hM
  refine wpList_plain hgd fun K hK => ?_
  obtain ⟨i, hi, hz, hz1, hz2⟩ := info_parts info8
  obtain ⟨v', w', hr', h2, h3, h4⟩ := run_zeros (P := Tryd.prog) w 26 3 o.type 5 .i64 i (.int .u8 0) 1 Tryd.underlying26 Tryd.underlying3 hi hz hz1 rfl v l.length (by8 l) base hown m hm0 hm (by rw [zeros_by8]; exact by8_mem_one _) (by omega) (by rw [hz2]; omega) (by unfold maxLen; omega) (fun old ho' => by have := nextslicecap_le _ _ ho'; rw [hz2]; omega) hbase
  unfold Oper.wp execOp
  simp only [ho, resolve, invoke, builtin, Sem.run_bind, Sem.run_pure, Result.andThen_ok, List.map_toArray, List.map_cons, List.map_nil, hv, hx, hr']
  rw [zeros_by8] at h2
  refine hK _ _ (h v' w' ⟨by unfold Own8; rw [List.length_append, by8_append, List.length_replicate]; exact h2, h3, ?_⟩)
  rw [List.length_replicate]
  rcases h4 with h4 | h4
  · exact .inl h4
  · exact .inr (.inl h4)
end
end Go.Proofs.YtnhfnfdmpcpcoaaDoor

/-
  The names that Vary tells, plainly: sorted and each once, or put in one by one: the same.
-/
namespace Go.Proofs.YtnhfnfdmpcpcoaaDoor


abbrev BS := List UInt8
/-- sorted, each once -/
def sortL (L : List BS) : List BS := L.mergeSort fun x y => decide (x ≤ y)
def namesOf (L : List BS) : List BS := Lib.compact (sortL L)

theorem lt_of_le_ne {a b : BS} (h : a ≤ b) (hn : b ≠ a) : a < b := by
  by_cases h2 : a < b
  · exact h2
  · exact absurd (List.le_antisymm (List.not_lt.1 h2) h) hn

theorem asc_ext : ∀ (l m : List BS), l.Pairwise (· < ·) → m.Pairwise (· < ·) → (∀ x, x ∈ l ↔ x ∈ m) → l = m
  | [], [], _, _, _ => rfl
  | [], b :: m, _, _, h => absurd ((h b).2 (List.mem_cons_self ..)) (by simp)
  | a :: l, [], _, _, h => absurd ((h a).1 (List.mem_cons_self ..)) (by simp)
  | a :: l, b :: m, h1, h2, h => by
    rw [List.pairwise_cons] at h1 h2
    have hab : a = b := by
      rcases List.mem_cons.1 ((h a).1 (List.mem_cons_self ..)) with e | e
      · exact e
      · rcases List.mem_cons.1 ((h b).2 (List.mem_cons_self ..)) with e2 | e2
        · exact e2.symm
        · exact absurd (List.lt_trans (h2.1 a e) (h1.1 b e2)) (List.lt_irrefl _)
    subst hab
    rw [asc_ext l m h1.2 h2.2 fun x => ⟨fun hx => ?_, fun hx => ?_⟩]
    · rcases List.mem_cons.1 ((h x).1 (List.mem_cons_of_mem _ hx)) with e | e
      · subst e; exact absurd (h1.1 _ hx) (List.lt_irrefl _)
      · exact e
    · rcases List.mem_cons.1 ((h x).2 (List.mem_cons_of_mem _ hx)) with e | e
      · subst e; exact absurd (h2.1 _ hx) (List.lt_irrefl _)
      · exact e

/-- compact of what rises -/
theorem compactUpTo_asc (d : Array BS) (n : Nat) (hs : ∀ i j, i ≤ j → j < n → d[i]! ≤ d[j]!) : ∀ m, m ≤ n → (Lib.compactUpTo d m).Pairwise (· < ·) ∧ (∀ x ∈ Lib.compactUpTo d m, ∃ i, i < m ∧ x = d[i]!) ∧ ∀ i, i < m → d[i]! ∈ Lib.compactUpTo d m
  | 0, _ => by refine ⟨by simp [Lib.compactUpTo], by simp [Lib.compactUpTo], fun i hi => by omega⟩
  | m + 1, hm => by
    obtain ⟨h1, h2, h3⟩ := compactUpTo_asc d n hs m (by omega)
    rw [Lib.compactUpTo_succ]
    by_cases hk : Lib.keeps d m = true
    · rw [if_pos hk]
      refine ⟨?_, fun x hx => ?_, fun i hi => ?_⟩
      · rw [List.pairwise_append]
        refine ⟨h1, List.pairwise_singleton .., fun x hx y hy => ?_⟩
        obtain rfl := List.mem_singleton.1 hy
        obtain ⟨i, hi, rfl⟩ := h2 x hx
        have e1 : d[i]! ≤ d[m - 1]! := hs i (m - 1) (by omega) (by omega)
        have e2 : d[m - 1]! ≤ d[m]! := hs (m - 1) m (by omega) (by omega)
        have e3 : d[m]! ≠ d[m - 1]! := fun e => by rw [Lib.keeps_neg (by omega) e] at hk; cases hk
        exact List.lt_of_le_of_lt e1 (lt_of_le_ne e2 e3)
      · rcases List.mem_append.1 hx with e | e
        · obtain ⟨i, hi, rfl⟩ := h2 x e; exact ⟨i, by omega, rfl⟩
        · exact ⟨m, by omega, List.mem_singleton.1 e⟩
      · rcases Nat.lt_or_ge i m with e | e
        · exact List.mem_append_left _ (h3 i e)
        · obtain rfl : i = m := by omega
          exact List.mem_append_right _ (List.mem_singleton.2 rfl)
    · rw [if_neg hk, List.append_nil]
      refine ⟨h1, fun x hx => ?_, fun i hi => ?_⟩
      · obtain ⟨i, hi, rfl⟩ := h2 x hx; exact ⟨i, by omega, rfl⟩
      · rcases Nat.lt_or_ge i m with e | e
        · exact h3 i e
        · obtain rfl : i = m := by omega
          by_cases h0 : i = 0
          · subst h0; exact absurd (Lib.keeps_lt_one d 0 (by omega)) hk
          · have e4 : d[i]! = d[i - 1]! := by
              by_cases e4 : d[i]! = d[i - 1]!
              · exact e4
              · exact absurd (Lib.keeps_pos e4) hk
            rw [e4]; exact h3 (i - 1) (by omega)

theorem sortL_pair (L : List BS) : (sortL L).Pairwise (· ≤ ·) := by
  have tr : ∀ a b c : BS, decide (a ≤ b) = true → decide (b ≤ c) = true → decide (a ≤ c) = true := fun a b c h1 h2 => by simp only [decide_eq_true_eq] at *; exact List.le_trans h1 h2
  have to : ∀ a b : BS, (decide (a ≤ b) || decide (b ≤ a)) = true := fun a b => by simp only [Bool.or_eq_true, decide_eq_true_eq]; exact List.le_total a b
  have := List.pairwise_mergeSort tr to L
  exact this.imp fun h => by simpa using h
theorem namesOf_spec (L : List BS) : (namesOf L).Pairwise (· < ·) ∧ ∀ x, x ∈ namesOf L ↔ x ∈ L := by
  have hp := sortL_pair L
  obtain ⟨h1, h2, h3⟩ := compactUpTo_asc (sortL L).toArray (sortL L).length (fun i j hij hj => by
    rw [getElem!_pos (sortL L).toArray i (by simp; omega), getElem!_pos (sortL L).toArray j (by simp; omega)]
    rcases Nat.lt_or_ge i j with h | h
    · have := List.pairwise_iff_getElem.1 hp i j (by omega) hj h
      simpa using this
    · obtain rfl : i = j := by omega
      exact List.le_refl _) (sortL L).length (Nat.le_refl _)
  refine ⟨h1, fun x => ?_⟩
  have hm : x ∈ sortL L ↔ x ∈ L := List.mem_mergeSort
  rw [← hm]
  constructor
  · intro hx
    obtain ⟨i, hi, rfl⟩ := h2 x hx
    rw [getElem!_pos (sortL L).toArray i (by simpa using hi)]
    simp
  · intro hx
    obtain ⟨i, hi, e⟩ := List.mem_iff_getElem.1 hx
    have h4 := h3 i hi
    rw [getElem!_pos (sortL L).toArray i (by simpa using hi), List.getElem_toArray, e] at h4
    exact h4

/-- the document's way: one word put in -/
def stepR (x : BS) (s : List BS × Bool) (y : BS) : List BS × Bool :=
  if s.2 = false ∧ ¬ y = x ∧ x < y then (s.1 ++ [x, y], true) else (s.1 ++ [y], s.2 || decide (y = x))
def partR (x : BS) (l : List BS) : List BS × Bool := l.foldl (stepR x) ([], false)
def insR (x : BS) (l : List BS) : List BS := if (partR x l).2 then (partR x l).1 else (partR x l).1 ++ [x]
theorem partR_snoc (x : BS) (l : List BS) (k : Nat) (h : k < l.length) : partR x (l.take (k + 1)) = stepR x (partR x (l.take k)) l[k] := by
  unfold partR
  rw [List.take_succ_eq_append_getElem h, List.foldl_append]; rfl
def insS (x : BS) : List BS → List BS
  | [] => [x]
  | y :: l => if y = x then y :: l else if x < y then x :: y :: l else y :: insS x l
theorem fold_put (x : BS) : ∀ (l acc : List BS), l.foldl (stepR x) (acc, true) = (acc ++ l, true)
  | [], acc => by simp
  | y :: l, acc => by
    rw [List.foldl_cons, show stepR x (acc, true) y = (acc ++ [y], true) by simp [stepR], fold_put x l]; simp
theorem fold_ins (x : BS) : ∀ (l acc : List BS), (if (l.foldl (stepR x) (acc, false)).2 then (l.foldl (stepR x) (acc, false)).1 else (l.foldl (stepR x) (acc, false)).1 ++ [x]) = acc ++ insS x l
  | [], acc => by simp [insS]
  | y :: l, acc => by
    rw [List.foldl_cons]
    by_cases h1 : y = x
    · rw [show stepR x (acc, false) y = (acc ++ [y], true) by simp [stepR, h1], fold_put x l]; simp [insS, h1]
    · by_cases h2 : x < y
      · rw [show stepR x (acc, false) y = (acc ++ [x, y], true) by simp [stepR, h1, h2], fold_put x l]; simp [insS, h1, h2]
      · rw [show stepR x (acc, false) y = (acc ++ [y], false) by simp [stepR, h1, h2], fold_ins x l]; simp [insS, h1, h2]
theorem insR_eq (x : BS) (l : List BS) : insR x l = insS x l := by
  unfold insR partR
  exact (fold_ins x l []).trans (List.nil_append _)
theorem insS_mem (x z : BS) : ∀ l : List BS, z ∈ insS x l ↔ z = x ∨ z ∈ l
  | [] => by simp [insS]
  | y :: l => by
    unfold insS
    split
    · rename_i h; subst h; simp
    · split
      · simp
      · simp only [List.mem_cons, insS_mem x z l]; grind
theorem insS_asc (x : BS) : ∀ l : List BS, l.Pairwise (· < ·) → (insS x l).Pairwise (· < ·)
  | [], _ => by simp [insS]
  | y :: l, h => by
    have h' := h
    rw [List.pairwise_cons] at h
    unfold insS
    split
    · exact h'
    · rename_i hne
      split
      · rename_i hlt
        rw [List.pairwise_cons]
        refine ⟨fun z hz => ?_, h'⟩
        rcases List.mem_cons.1 hz with e | e
        · rw [e]; exact hlt
        · exact List.lt_trans hlt (h.1 z e)
      · rename_i hlt
        rw [List.pairwise_cons]
        refine ⟨fun z hz => ?_, insS_asc x l h.2⟩
        rcases (insS_mem x z l).1 hz with e | e
        · rw [e]; exact lt_of_le_ne (List.not_lt.1 hlt) (fun e2 => hne e2.symm)
        · exact h.1 z e
def namesR (L : List BS) : List BS := L.foldl (fun out x => insR x out) []
theorem namesR_snoc (L : List BS) (k : Nat) (h : k < L.length) : namesR (L.take (k + 1)) = insR L[k] (namesR (L.take k)) := by
  unfold namesR
  rw [List.take_succ_eq_append_getElem h, List.foldl_append]; rfl
theorem foldR_spec : ∀ (L acc : List BS), acc.Pairwise (· < ·) → (L.foldl (fun out x => insR x out) acc).Pairwise (· < ·) ∧ ∀ x, x ∈ L.foldl (fun out x => insR x out) acc ↔ x ∈ acc ∨ x ∈ L
  | [], acc, h => ⟨h, fun x => by simp⟩
  | y :: L, acc, h => by
    obtain ⟨h1, h2⟩ := foldR_spec L (insR y acc) (by rw [insR_eq]; exact insS_asc y acc h)
    refine ⟨h1, fun x => ?_⟩
    rw [List.foldl_cons, h2, insR_eq, insS_mem, List.mem_cons]; grind
/-- the two ways: the same names -/
theorem namesR_eq (L : List BS) : namesR L = namesOf L := by
  obtain ⟨a1, a2⟩ := foldR_spec L [] List.Pairwise.nil
  obtain ⟨b1, b2⟩ := namesOf_spec L
  refine asc_ext _ _ a1 b1 fun x => ?_
  rw [b2]; unfold namesR; rw [a2]; simp
theorem insR_length (x : BS) (l : List BS) : (insR x l).length ≤ l.length + 1 := by
  rw [insR_eq]
  induction l with
  | nil => simp [insS]
  | cons y l ih => unfold insS; split <;> (try split) <;> simp <;> omega
theorem namesR_length (L : List BS) : ∀ k, (namesR (L.take k)).length ≤ k
  | 0 => by simp [namesR]
  | k + 1 => by
    by_cases h : k < L.length
    · rw [namesR_snoc L k h]; have := insR_length L[k] (namesR (L.take k)); have := namesR_length L k; omega
    · rw [List.take_of_length_le (by omega)]; have := namesR_length L k; rw [List.take_of_length_le (by omega)] at this; omega
theorem stepR_length (x : BS) (s : List BS × Bool) (y : BS) : (stepR x s y).1.length ≤ s.1.length + 2 := by
  unfold stepR; split <;> simp
theorem partR_length (x : BS) (l : List BS) : ∀ k, (partR x (l.take k)).1.length ≤ k + 1 ∧ ((partR x (l.take k)).2 = false → (partR x (l.take k)).1.length ≤ k)
  | 0 => by simp [partR]
  | k + 1 => by
    have ih := partR_length x l k
    by_cases h : k < l.length
    · rw [partR_snoc x l k h]
      unfold stepR
      split
      · rename_i hc
        have := ih.2 hc.1
        refine ⟨?_, fun e => by cases e⟩
        simp; omega
      · refine ⟨by simp; omega, fun e => ?_⟩
        simp only [Bool.or_eq_false_iff] at e
        have := ih.2 e.1
        simp; omega
    · rw [List.take_of_length_le (by omega)]; rw [List.take_of_length_le (by omega)] at ih
      exact ⟨by omega, fun e => by have := ih.2 e; omega⟩
/-- the order of the words makes no difference, nor how often -/
theorem namesOf_ext (L M : List BS) (h : ∀ x, x ∈ L ↔ x ∈ M) : namesOf L = namesOf M := by
  obtain ⟨a1, a2⟩ := namesOf_spec L
  obtain ⟨b1, b2⟩ := namesOf_spec M
  exact asc_ext _ _ a1 b1 fun x => by rw [a2, b2]; exact h x
theorem namesOf_length (L : List BS) : (namesOf L).length ≤ L.length := by
  rw [← namesR_eq]
  have := namesR_length L L.length
  rwa [List.take_length] at this
end Go.Proofs.YtnhfnfdmpcpcoaaDoor

/-
  Names of files as a list that rises: look, put in, take out; and the datum of a map that reads so. No program is in sight here.
-/
namespace Go.Proofs.YtnhfnfdmpcpcoaaDoor

/-- names, and what each leads to; they rise -/
abbrev NM := List (BS × Nat)
def Rises (M : NM) : Prop := M.Pairwise fun p q => p.1 < q.1
def lookN (M : NM) (k : BS) : Option Nat := (M.find? fun x => decide (x.1 = k)).map (·.2)
def delN (k : BS) (M : NM) : NM := M.filter fun x => decide (x.1 ≠ k)
def insN (k : BS) (f : Nat) : NM → NM
  | [] => [(k, f)]
  | (m, g) :: M => if m = k then (k, f) :: M else if k < m then (k, f) :: (m, g) :: M else (m, g) :: insN k f M

theorem insN_mem (k : BS) (f : Nat) (z : BS × Nat) : ∀ M : NM, z ∈ insN k f M → z = (k, f) ∨ z ∈ M
  | [], h => by simpa [insN] using h
  | (m, g) :: M, h => by
    unfold insN at h
    split at h
    · rcases List.mem_cons.1 h with h | h
      · exact .inl h
      · exact .inr (List.mem_cons_of_mem _ h)
    · split at h
      · rcases List.mem_cons.1 h with h | h
        · exact .inl h
        · exact .inr h
      · rcases List.mem_cons.1 h with h | h
        · exact .inr (h ▸ List.mem_cons_self ..)
        · rcases insN_mem k f z M h with h | h
          · exact .inl h
          · exact .inr (List.mem_cons_of_mem _ h)
theorem insN_rises (k : BS) (f : Nat) : ∀ M : NM, Rises M → Rises (insN k f M)
  | [], _ => by simp [insN, Rises]
  | (m, g) :: M, h => by
    have h' := h
    unfold Rises at h
    rw [List.pairwise_cons] at h
    unfold insN Rises
    split
    · rename_i e
      rw [List.pairwise_cons]
      exact ⟨fun z hz => by rw [← e]; exact h.1 z hz, h.2⟩
    · rename_i hne
      split
      · rename_i hlt
        rw [List.pairwise_cons]
        refine ⟨fun z hz => ?_, h'⟩
        rcases List.mem_cons.1 hz with e | e
        · rw [e]; exact hlt
        · exact List.lt_trans hlt (h.1 z e)
      · rename_i hlt
        rw [List.pairwise_cons]
        refine ⟨fun z hz => ?_, insN_rises k f M h.2⟩
        rcases insN_mem k f z M hz with e | e
        · rw [e]; exact lt_of_le_ne (List.not_lt.1 hlt) (fun e2 => hne e2.symm)
        · exact h.1 z e
theorem delN_rises (k : BS) (M : NM) (h : Rises M) : Rises (delN k M) := List.Pairwise.filter _ h
theorem lookN_cons (m : BS) (g : Nat) (M : NM) (k : BS) : lookN ((m, g) :: M) k = if m = k then some g else lookN M k := by
  unfold lookN
  rw [List.find?_cons]
  by_cases h : m = k <;> simp [h]
theorem lookN_none (M : NM) (k : BS) (h : ∀ x ∈ M, x.1 ≠ k) : lookN M k = none := by
  unfold lookN
  rw [List.find?_eq_none.2]
  · rfl
  · intro x hx; simpa using h x hx
theorem lookN_mem (M : NM) (k : BS) (f : Nat) (h : lookN M k = some f) : (k, f) ∈ M := by
  unfold lookN at h
  obtain ⟨x, hx, e⟩ := Option.map_eq_some_iff.1 h
  have h1 := List.mem_of_find?_eq_some hx
  have h2 := List.find?_some hx
  have h2 : x.1 = k := by simpa using h2
  rw [← h2, ← e]
  exact h1
theorem lookN_ins_same (k : BS) (f : Nat) : ∀ M : NM, lookN (insN k f M) k = some f
  | [] => by simp [insN, lookN_cons]
  | (m, g) :: M => by
    unfold insN
    split
    · simp [lookN_cons]
    · rename_i hne
      split
      · simp [lookN_cons]
      · rw [lookN_cons, if_neg hne, lookN_ins_same k f M]
theorem lookN_ins_other (k j : BS) (f : Nat) (hj : j ≠ k) : ∀ M : NM, lookN (insN k f M) j = lookN M j
  | [] => by
    have : ¬ k = j := fun e => hj e.symm
    simp [insN, lookN_cons, this]
  | (m, g) :: M => by
    have hk : ¬ k = j := fun e => hj e.symm
    unfold insN
    split
    · rename_i e
      rw [lookN_cons, lookN_cons, if_neg hk, if_neg (by rw [e]; exact hk)]
    · split
      · rw [lookN_cons, if_neg hk]
      · rw [lookN_cons, lookN_cons, lookN_ins_other k j f hj M]
theorem lookN_del_same (k : BS) (M : NM) : lookN (delN k M) k = none :=
  lookN_none _ _ fun x hx => by
    have := (List.mem_filter.1 hx).2
    simpa using this
theorem lookN_del_other (k j : BS) (hj : j ≠ k) : ∀ M : NM, lookN (delN k M) j = lookN M j
  | [] => rfl
  | (m, g) :: M => by
    unfold delN
    rw [List.filter_cons]
    have ih := lookN_del_other k j hj M
    unfold delN at ih
    by_cases h : m = k
    · subst h
      simp only [ne_eq, decide_not, decide_true, Bool.not_true, Bool.false_eq_true, if_false] at ih ⊢
      rw [ih, lookN_cons, if_neg (fun e => hj e.symm)]
    · simp only [ne_eq, h, not_false_eq_true, decide_true, if_true] at ih ⊢
      rw [lookN_cons, lookN_cons, ih]
/-- names that rise are known by their looks -/
theorem nm_ext : ∀ (M N : NM), Rises M → Rises N → (∀ k, lookN M k = lookN N k) → M = N
  | [], [], _, _, _ => rfl
  | [], (n, g) :: N, _, _, h => by have := h n; rw [lookN_cons, if_pos rfl] at this; cases this
  | (m, f) :: M, [], _, _, h => by have := h m; rw [lookN_cons, if_pos rfl] at this; cases this
  | (m, f) :: M, (n, g) :: N, h1, h2, h => by
    have h1' := h1
    have h2' := h2
    unfold Rises at h1 h2
    rw [List.pairwise_cons] at h1 h2
    have hmn : m = n := by
      have e1 := h m
      rw [lookN_cons, if_pos rfl] at e1
      have a1 := lookN_mem _ _ _ e1.symm
      have e2 := h n
      rw [lookN_cons (m := n), if_pos rfl] at e2
      have a2 := lookN_mem _ _ _ e2
      rcases List.mem_cons.1 a1 with e | a1
      · injection e
      · rcases List.mem_cons.1 a2 with e | a2
        · injection e with e; exact e.symm
        · exact absurd (List.lt_trans (h2.1 _ a1) (h1.1 _ a2)) (List.lt_irrefl _)
    subst hmn
    have hfg : f = g := by
      have := h m
      rw [lookN_cons, lookN_cons, if_pos rfl, if_pos rfl] at this
      injection this
    subst hfg
    rw [nm_ext M N h1.2 h2.2 fun k => ?_]
    by_cases hk : m = k
    · subst hk
      rw [lookN_none M m (fun x hx e => by have := h1.1 x hx; rw [e] at this; exact List.lt_irrefl _ this), lookN_none N m (fun x hx e => by have := h2.1 x hx; rw [e] at this; exact List.lt_irrefl _ this)]
    · have := h k
      rwa [lookN_cons, lookN_cons, if_neg hk, if_neg hk] at this
end Go.Proofs.YtnhfnfdmpcpcoaaDoor

/-
  A map from names to files (blocks): the words for the walk.
-/
namespace Go.Proofs.YtnhfnfdmpcpcoaaDoor
open Go.RowKit Go.Maps

theorem before_lt : ∀ a b : BS, bytesBefore a b = decide (a < b)
  | [], [] => by simp [bytesBefore]
  | _ :: _, [] => by simp [bytesBefore]
  | [], _ :: _ => by simp [bytesBefore]
  | x :: a, y :: b => by
    have ih := before_lt a b
    simp only [bytesBefore, ih]
    rw [Bool.eq_iff_iff]
    simp [List.cons_lt_cons_iff]

/-- how a file's pointer reads: its block -/
def fileR : Value → Option (DataW Unit × List MemPlace)
  | .pointer none => some (.lit (.int .i64 (-1)), [])
  | .pointer (some ⟨b, 0, none⟩) => some (.lit (.int .i64 b), [])
  | _ => none
def fileV : Option Nat → Value
  | none => .pointer none
  | some b => .pointer (some ⟨b, 0, none⟩)
def fileD : Option Nat → DataW Unit
  | none => .lit (.int .i64 (-1))
  | some b => .lit (.int .i64 b)
theorem fileR_mk (o : Option Nat) : fileR (fileV o) = some (fileD o, []) := by cases o <;> rfl
theorem fileR_inv {v : Value} {o : Option Nat} {ps : List MemPlace} (h : fileR v = some (fileD o, ps)) : v = fileV o := by
  unfold fileR at h
  split at h
  · cases o with
    | none => rfl
    | some b =>
      simp only [Option.some.injEq, Prod.mk.injEq, fileD, DataW.lit.injEq, Lit.int.injEq, true_and] at h
      omega
  · rename_i b
    cases o with
    | none =>
      simp only [Option.some.injEq, Prod.mk.injEq, fileD, DataW.lit.injEq, Lit.int.injEq, true_and] at h
      omega
    | some c =>
      simp only [Option.some.injEq, Prod.mk.injEq, fileD, DataW.lit.injEq, Lit.int.injEq, true_and] at h
      have : b = c := by omega
      rw [this]; rfl
  · cases h

def encN (x : BS × Nat) : Lit × DataW Unit := (.string x.1, .lit (.int .i64 x.2))
def Dm (M : NM) : DataW Unit := .map (M.map encN)
theorem same_str (a b : BS) : (Lit.string a).sameKey (.string b) = decide (a = b) := by
  rw [Bool.eq_iff_iff]
  simp [Lit.sameKey]
theorem filter_enc (k : BS) (M : NM) : (M.map encN).filter (fun p => !p.1.sameKey (.string k)) = (delN k M).map encN := by
  unfold delN
  rw [List.filter_map]
  congr 1
  apply List.filter_congr
  intro x _
  show (!((Lit.string x.1).sameKey (.string k))) = decide (x.1 ≠ k)
  rw [same_str]
  simp
theorem delN_out (k : BS) (M : NM) (h : ∀ x ∈ M, x.1 ≠ k) : delN k M = M := by
  unfold delN
  rw [List.filter_eq_self]
  intro x hx
  simpa using h x hx
theorem insert_enc (k : BS) (f : Nat) : ∀ M : NM, Rises M → DataW.insert (encN (k, f)) ((delN k M).map encN) = (insN k f M).map encN
  | [], _ => rfl
  | (m, g) :: M, h => by
    have h' := h
    unfold Rises at h
    rw [List.pairwise_cons] at h
    have ih := insert_enc k f M h.2
    by_cases e : m = k
    · subst e
      have hd : delN m ((m, g) :: M) = M := by
        have : delN m ((m, g) :: M) = delN m M := by unfold delN; rw [List.filter_cons]; simp
        rw [this]
        exact delN_out m M fun x hx e2 => by have := h.1 x hx; rw [e2] at this; exact List.lt_irrefl _ this
      rw [hd]
      unfold insN
      rw [if_pos rfl]
      cases M with
      | nil => rfl
      | cons y M =>
        rw [List.map_cons, DataW.insert, if_pos]
        · rfl
        · show bytesBefore m y.1 = true
          rw [before_lt]; exact decide_eq_true (h.1 y (List.mem_cons_self ..))
    · have hd : delN k ((m, g) :: M) = (m, g) :: delN k M := by unfold delN; rw [List.filter_cons, if_pos (by simpa using e)]
      rw [hd]
      unfold insN
      rw [if_neg e]
      by_cases hlt : k < m
      · rw [if_pos hlt, List.map_cons, DataW.insert, if_pos]
        · rw [delN_out k M fun x hx e2 => by have := List.lt_trans hlt (h.1 x hx); rw [e2] at this; exact List.lt_irrefl _ this]
          rfl
        · show bytesBefore k m = true
          rw [before_lt]; exact decide_eq_true hlt
      · rw [if_neg hlt, List.map_cons, DataW.insert, if_neg, ih]
        · rfl
        · show ¬ bytesBefore k m = true
          rw [before_lt]; simpa using hlt
theorem Dm_put (k : BS) (f : Nat) (M : NM) (h : Rises M) : (Dm M).put (.string k) (fileD (some f)) = Dm (insN k f M) := by
  show DataW.map (DataW.insert (Lit.string k, fileD (some f)) ((M.map encN).filter fun p => !p.1.sameKey (.string k))) = _
  rw [filter_enc]
  exact congrArg DataW.map (insert_enc k f M h)
theorem Dm_del (k : BS) (M : NM) : (Dm M).del (.string k) = Dm (delN k M) := by
  show DataW.map ((M.map encN).filter fun p => !p.1.sameKey (.string k)) = _
  rw [filter_enc]; rfl
theorem Dm_at (k : BS) : ∀ M : NM, (Dm M).atKey (.string k) (fileD none) = fileD (lookN M k)
  | [] => rfl
  | (m, g) :: M => by
    have ih := Dm_at k M
    unfold Dm DataW.atKey at ih ⊢
    simp only at ih ⊢
    rw [lookN_cons, List.map_cons, List.find?_cons]
    rw [show (encN (m, g)).1.sameKey (.string k) = decide (m = k) from same_str m k]
    by_cases e : m = k
    · rw [if_pos e, decide_eq_true e]; rfl
    · rw [if_neg e, decide_eq_false e]; exact ih
theorem Dm_keys (M : NM) : strKeys (Dm M) = M.map (·.1) := by
  show (M.map encN).map (fun p => strOf p.1) = _
  rw [List.map_map]; rfl

/-- block b is a map that leads from the names to files' blocks -/
def OwnN (w : World) (b : Nat) (M : NM) : Prop := Rises M ∧ w.ownsMap Tryd.prog 9 fileR b M.length (Dm M)
theorem ownsMap_len {w : World} {b n : Nat} {M : NM} (h : w.ownsMap Tryd.prog 9 fileR b n (Dm M)) : w.ownsMap Tryd.prog 9 fileR b M.length (Dm M) := by
  obtain ⟨es, clock, hb, F, hs, hD⟩ := h
  refine ⟨es, clock, hb, F, ?_, hD⟩
  have e : (M.map encN).length = es.size := by
    have : M.map encN = (es.toList.map (Go.WideElems.rg Tryd.prog 9 fileR)).foldr DataW.insert [] := by
      unfold Dm at hD
      injection hD
    rw [this, length_sorted]; simp
  rw [List.length_map] at e
  omega
theorem OwnN.lt {w : World} {b : Nat} {M : NM} (h : OwnN w b M) : b < w.heap.size := h.2.lt
theorem OwnN.kept {w w' : World} {b : Nat} {M : NM} (h : OwnN w b M) (hb : w'.heap[b]? = w.heap[b]?) : OwnN w' b M := by
  obtain ⟨h1, es, clock, h2, r⟩ := h
  exact ⟨h1, es, clock, hb.trans h2, r⟩
theorem OwnN.below {w w' : World} {b : Nat} {M : NM} (h : OwnN w b M) (hb : Below w.heap.size w w') : OwnN w' b M := h.kept (hb.block b h.lt)
theorem OwnN.made (w : World) : OwnN (w.alloc (.map #[] 0)) w.heap.size [] := ⟨List.Pairwise.nil, World.ownsMap_made w _ _ _⟩
end Go.Proofs.YtnhfnfdmpcpcoaaDoor

/-
  Look-up, store, delete, clone and the sorted names of a map of files.
-/
namespace Go.Proofs.YtnhfnfdmpcpcoaaDoor
open Go.RowKit Go.Maps Go.Sort Go.Shelf

theorem mapT : Tryd.prog.underlying 76 = some (.map 9 75) := Tryd.underlying76
theorem keyedS : Keyed Tryd.prog 9 := string_keyed Tryd.underlying9
theorem zeroP (w : World) : (zeroValue 75).run Tryd.prog w = .ok (.pointer none) w := by kernel_rfl
theorem keyS (s : ByteArray) (h : s.size ≤ maxLen) : keyOf Tryd.prog 9 (.string s) = some (.string s.data.toList) := Go.WideMaps.keyOf_string_mk Tryd.underlying9 h

/-- m[k] -/
theorem run_lookF {w : World} {b : Nat} {M : NM} (h : OwnN w b M) (k : ByteArray) (hk : k.size ≤ maxLen) :
    (Instr.lookup 76 (.map (some b)) (.string k) false).run Tryd.prog w = .ok (fileV (lookN M k.data.toList)) w := by
  obtain ⟨v, ps, hrun, hv⟩ := h.2.lookup keyedS mapT (zeroP w) (fileR_mk none) (keyS k hk)
  rw [Dm_at] at hv
  rw [hrun, fileR_inv hv]
/-- m[k] = f -/
theorem run_putF {w : World} {b : Nat} {M : NM} (h : OwnN w b M) (k : ByteArray) (f : Nat) (hk : k.size ≤ maxLen) (hl : M.length < maxLen) :
    ∃ w', (Instr.mapUpdate 76 (.map (some b)) (.string k) (.pointer (some ⟨f, 0, none⟩))).run Tryd.prog w = .ok () w' ∧ OwnN w' b (insN k.data.toList f M) ∧ w.grownBy w' (some b) ∧ w'.heap.size = w.heap.size := by
  obtain ⟨w', hrun, hown, hturn⟩ := h.2.store keyedS mapT hl (keyS k hk) (fileR_mk (some f))
  rw [Dm_put _ _ _ h.1] at hown
  refine ⟨w', hrun, ⟨insN_rises _ _ _ h.1, ownsMap_len hown⟩, hturn.grown, ?_⟩
  obtain ⟨_, _, _, _, _, rfl⟩ := hturn
  simp [Go.ChangeMaps.setBlock]
/-- delete(m, k) -/
theorem run_delF {w : World} {b : Nat} {M : NM} (h : OwnN w b M) (k : ByteArray) (hk : k.size ≤ maxLen) :
    ∃ w', (∀ ty : TypeId, (Builtin.delete_ #[76, 9] ty #[.map (some b), .string k]).run Tryd.prog w = .ok (.tuple #[]) w') ∧ OwnN w' b (delN k.data.toList M) ∧ w.grownBy w' (some b) ∧ w'.heap.size = w.heap.size := by
  obtain ⟨w', hrun, hown, hturn⟩ := h.2.drop keyedS mapT (keyS k hk) 0
  rw [Dm_del] at hown
  refine ⟨w', fun _ => hrun, ⟨delN_rises _ _ h.1, ownsMap_len hown⟩, hturn.grown, ?_⟩
  obtain ⟨_, _, _, _, _, rfl⟩ := hturn
  simp [Go.ChangeMaps.setBlock]

/-- maps.Clone -/
theorem cloneF_any {w : World} {b : Nat} {M : NM} (h : OwnN w b M) :
    Calls Tryd.prog 46 #[.map (some b)] w fun e w' => e = .returned (.map (some w.heap.size)) ∧ OwnN w' w.heap.size M ∧ Below w.heap.size w w' :=
  (AnyW.maps_Clone_owns Tryd.laysClone 9 fileR b M.length (Dm M) w h.2).mono fun _ _ ⟨h1, h2, _, h4⟩ => ⟨h1, ⟨h.1, h2⟩, h4⟩

/-- slices.Sorted(maps.Keys(m)), the two calls -/
theorem keysF_any (mb : Option Nat) (w : World) :
    Calls Tryd.prog 50 #[.map mb] w fun e w' => e = .returned (.func (.func 65) #[] #[.pointer (some ⟨w.heap.size, 0, none⟩)]) ∧ w' = w.alloc (.cells #[.map mb] 76) :=
  (callsIn_wide (n := 5)).1 (AnyZ.keys_in Tryd.laysKeys Fence.wide 5 trivial rfl mb w)
theorem sortsF (m : Nat) : AnyZ.SortsIn Tryd.prog Tryd.laysSorted_ren Fence.wide m :=
  ⟨fun blk off cap ss W hH hblk hsz => callsIn_wide.2 (AnyM.slices_Sort_string Tryd.laysSortM blk off cap ss W hH hblk hsz),
   fun p cap W => callsIn_wide.2 (AnyM.slices_Sort_string_none Tryd.laysSortM p cap W)⟩
theorem sortedF_any {b : Nat} {M : NM} (w : World) (h : OwnN w b M) (hM : M.length ≤ 8000000000000) :
    Calls Tryd.prog 49 #[.func (.func 65) #[] #[.pointer (some ⟨w.heap.size, 0, none⟩)]] (w.alloc (.cells #[.map (some b)] 76)) fun e w' => ∃ v, e = .returned v ∧ OwnS w' w.heap.size v (M.map (·.1)) ∧ Below w.heap.size w w' := by
  have hown := h.2
  have hbl := hown.lt
  have hseq : SeqGives Fence.wide 2 Tryd.prog 65 #[.pointer (some ⟨w.heap.size, 0, none⟩)] encStr (fun ss => ss.Perm (strKeys (Dm M))) (Maps.size (Dm M)) (w.alloc (.cells #[.map (some b)] 76)) :=
    AnyZ.keys_gives (ρ := Tryd.laysKeys_ren) { Tryd.laysKeys with } Fence.wide _ trivial rfl (by omega) w.heap.size b M.length (Dm M) _ (by simp) (by simp) (by
      obtain ⟨es, clock, hb, Ft, hs, hD⟩ := hown
      exact ⟨es, clock, (Below.heap_alloc _ _ b hbl).trans hb, Ft, hs, hD⟩)
  have hsz : Maps.size (Dm M) = M.length := by show (M.map encN).length = _; rw [List.length_map]
  refine ((callsIn_wide (n := 5)).1 (AnyZ.sorted_in Tryd.laysSorted Fence.wide 5 trivial trivial trivial trivial rfl (by omega) (sortsF _) (enters_of Tryd.func64 (by kernel_rfl) rfl) 65 #[.pointer (some ⟨w.heap.size, 0, none⟩)] trivial (enters_of Tryd.func65 (by kernel_rfl) rfl) _ _ (by rw [hsz]; unfold maxLen; omega) (by rw [hsz]; omega) _ hseq)).mono ?_
  rintro e w' ⟨v, ss, rfl, hS, hrow, _, hb⟩
  rw [Dm_keys] at hS
  have hsort : sortL ss = M.map (·.1) := by
    refine List.Perm.eq_of_pairwise (le := fun a b => a ≤ b) (fun a b _ _ h1 h2 => List.le_antisymm h1 h2) (sortL_pair ss) ?_ ((List.mergeSort_perm ss _).trans hS)
    rw [List.pairwise_map]
    exact h.1.imp fun hlt => List.not_lt.1 (fun e => List.lt_irrefl _ (List.lt_trans hlt e))
  refine ⟨v, rfl, ?_, ((Below.refl _ w).alloc (Nat.le_refl _) _).trans (hb.mono (by simp))⟩
  have hl : ss.length = (M.map (·.1)).length := hS.length_eq
  unfold OwnS
  rw [← hl, ← hsort]
  exact ownsRow_mono hrow (by simp)
end Go.Proofs.YtnhfnfdmpcpcoaaDoor
