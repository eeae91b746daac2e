/-
  append that also tells where the result lies: in the block where the row lay, or in a new one; and up to more than the guide's bound.
-/
import Derived.Test.YtnibecboimgljaaDoorAppend3
import Derived.Test.YtnibecboimgljaaDoorPairs
namespace Go.Proofs.YtnibecboimgljaaDoor
open Go.RowKit

/-- where a grown row may lie -/
def Way (w : World) (v v' : Value) : Prop := ∀ g, v'.ownBlock = some g → v.ownBlock = some g ∨ w.heap.size ≤ g

section
variable {P : Program} (w : World)
theorem wpList_append_way {ops : Array Oper} {rest : List Oper} {o : Oper} {a : Act} {Q : Exit → Act → World → Prop} (hgd : o.guard = none) (s x : Operand) (t tx : TypeId)
    (ho : o.op = .call { callee := .builtin .append, args := #[s, x], argTypes := #[t, tx] })
    (base : Nat) (e : TypeId) (z : Value) (size bytes : Nat) (ht : P.underlying t = some (.slice e)) (hi : (P.info? e).map (fun i => (i.zero, i.size, i.bytes)) = some (some z, size, bytes))
    (hzs : z.cells.size = size)
    (v : Value) (n : Nat) (xs : List Value) (hv : a.eval s = v) (hown : w.ownsRow base e size v n xs)
    (y : Value) (m : Nat) (news : List Value) (hx : a.eval x = y) (hs : Src P size tx y m news w)
    (h63 : n + m ≤ maxLen) (hbytes : (n + m + (n + m) / 4 + 512) * bytes ≤ 281474976710656) (hbase : base ≤ w.heap.size)
    (h : ∀ v' w', w'.ownsRow base e size v' (n + m) (xs ++ news) → w.grownBy w' v.ownBlock → Way w v v' → wpList P ops Q rest (a.put o.dst v') w') : wpList P ops Q (o :: rest) a w := by
  refine wpList_plain hgd fun K hK => ?_
  obtain ⟨i, hi, hz, hz1, hz2⟩ := info_parts hi
  obtain ⟨v', w', hr, h2, h3, h4⟩ := run_append_where (P := P) w base t tx o.type e i z size bytes ht hi hz hz1 hz2 hzs v n xs hown y m news hs h63 (fun old hold => Nat.le_trans (Nat.mul_le_mul_right _ (nextslicecap_le _ _ hold)) hbytes) hbase
  unfold Oper.wp execOp
  simp only [ho, resolve, invoke, builtin, Sem.run_bind, Sem.run_pure, Result.andThen_ok, List.map_toArray, List.map_cons, List.map_nil, hv, hx, hr]
  refine hK _ _ (h v' w' h2 h3 fun g hg => ?_)
  rcases h4 with ⟨g', cap, rfl, rfl⟩ | ⟨cap, rfl, _⟩ | ⟨rfl, _, _⟩
  · exact .inl hg
  · right
    have e : some w.heap.size = some g := hg
    injection e with e
    omega
  · exact .inl hg
end

section
variable {w : World}
/-- texts onto texts of the call's own, with where the result lies -/
theorem wpList_appendSw {ops : Array Oper} {rest : List Oper} {o : Oper} {a : Act} {Q : Exit → Act → World → Prop} (hgd : o.guard = none) (s x : Operand)
    (ho : o.op = .call { callee := .builtin .append, args := #[s, x], argTypes := #[25, 25] })
    (base : Nat) (v : Value) (L : List (List UInt8)) (hv : a.eval s = v) (hown : OwnS w base v L)
    (p : Option Addr) (m c : Nat) (M : List (List UInt8)) (hm : M.length = m) (hx : a.eval x = .slice p m c) (hin : InS w p M)
    (hr : L.length + m ≤ 12000000000000) (hbase : base ≤ w.heap.size)
    (h : ∀ v' w', OwnS w' base v' (L ++ M) → w.grownBy w' v.ownBlock → Way w v v' → wpList Tryd.prog ops Q rest (a.put o.dst v') w') : wpList Tryd.prog ops Q (o :: rest) a w := by
  subst hm
  have hs : Src Tryd.prog 1 25 (.slice p M.length c) M.length (tx M) w := by
    have := srcV (c := c) (e := 9) Tryd.underlying25 hin (tx_one M)
    rwa [tx_length] at this
  refine wpList_append_way w hgd s x 25 25 ho base 9 (.string .empty) 1 16 Tryd.underlying25 infoS rfl v L.length (tx L) hv hown _ M.length (tx M) hx hs (by unfold maxLen; omega) (by omega) hbase ?_
  intro v' w' ho' hg hn
  exact h v' w' (by unfold OwnS; rw [List.length_append, tx_append]; exact ho') hg hn
/-- pairs onto pairs of the call's own, with where the result lies -/
theorem wpList_append2w {t e : TypeId} (T : PairT t e) {ops : Array Oper} {rest : List Oper} {o : Oper} {a : Act} {Q : Exit → Act → World → Prop} (hgd : o.guard = none) (s x : Operand)
    (ho : o.op = .call { callee := .builtin .append, args := #[s, x], argTypes := #[t, t] })
    (base : Nat) (v : Value) (L : List Pair) (hv : a.eval s = v) (hown : Own2 e w base v L)
    (p : Option Addr) (m c : Nat) (M : List Pair) (hm : M.length = m) (hx : a.eval x = .slice p m c) (hin : In2 w p M)
    (hr : L.length + m ≤ 6000000000000) (hbase : base ≤ w.heap.size)
    (h : ∀ v' w', Own2 e w' base v' (L ++ M) → w.grownBy w' v.ownBlock → Way w v v' → wpList Tryd.prog ops Q rest (a.put o.dst v') w') : wpList Tryd.prog ops Q (o :: rest) a w := by
  subst hm
  refine wpList_append_way w hgd s x t t ho base e (.agg #[.string .empty, .string .empty]) 2 32 T.ht T.hi rfl v L.length (pr L) hv hown _ M.length (pr M) hx (src2 T hin) (by unfold maxLen; omega) (by omega) hbase ?_
  intro v' w' ho' hg hn
  exact h v' w' (by unfold Own2; rw [List.length_append, pr_append]; exact ho') hg hn
end

theorem InV.kept {w w' : World} {row : Option Nat} {p : Option Addr} {xs : List Value} (h : InV w p xs) (hg : w.grownBy w' row) (hne : ∀ a, p = some a → row ≠ some a.block) : InV w' p xs := by
  intro h0
  obtain ⟨b, o, rfl, hc⟩ := h h0
  exact ⟨b, o, rfl, fun i hi => hg.cell (hc i hi) (fun e => hne _ rfl e.symm)⟩
theorem InS.kept {w w' : World} {row : Option Nat} {p : Option Addr} {L : List (List UInt8)} (h : InS w p L) (hg : w.grownBy w' row) (hne : ∀ a, p = some a → row ≠ some a.block) : InS w' p L := InV.kept h hg hne

/-- a row of the call's own that grows while, of what was in w1, at most the block row changes -/
def OutV (B : Nat) (row : Option Nat) (w1 : World) (e size : Nat) (v : Value) (n : Nat) (xs : List Value) (w : World) : Prop :=
  w.ownsRow B e size v n xs ∧ w1.grownBy w row ∧ ∀ g, v.ownBlock = some g → some g = row ∨ w1.heap.size ≤ g
theorem grown_below {w1 w w' : World} {row : Option Nat} (h : w1.grownBy w row) (hb : Below w.heap.size w w') : w1.grownBy w' row :=
  ⟨hb.os.trans h.os, hb.tape.trans h.tape, hb.output.trans h.output, Nat.le_trans h.size hb.size, fun i hi hn => (hb.block i (Nat.lt_of_lt_of_le hi h.size)).trans (h.block i hi hn)⟩
theorem OutV.below {B : Nat} {row : Option Nat} {w1 : World} {e size : Nat} {v : Value} {n : Nat} {xs : List Value} {w w' : World} (h : OutV B row w1 e size v n xs w) (hb : Below w.heap.size w w') : OutV B row w1 e size v n xs w' :=
  ⟨ownsRow_below h.1 hb, grown_below h.2.1 hb, h.2.2⟩
theorem OutV.alloc {B : Nat} {row : Option Nat} {w1 : World} {e size : Nat} {v : Value} {n : Nat} {xs : List Value} {w : World} (h : OutV B row w1 e size v n xs w) (o : Obj) : OutV B row w1 e size v n xs (w.alloc o) :=
  h.below ((Below.refl _ w).alloc (Nat.le_refl _) o)
theorem OutV.app {B : Nat} {row : Option Nat} {w1 : World} {e size : Nat} {v v' : Value} {n m : Nat} {xs ys : List Value} {w w' : World} (h : OutV B row w1 e size v n xs w) (hown : w'.ownsRow B e size v' m ys) (hg : w.grownBy w' v.ownBlock) (hway : Way w v v') : OutV B row w1 e size v' m ys w' := by
  refine ⟨hown, ⟨hg.os.trans h.2.1.os, hg.tape.trans h.2.1.tape, hg.output.trans h.2.1.output, Nat.le_trans h.2.1.size hg.size, fun i hi hn => ?_⟩, fun g e => ?_⟩
  · refine (hg.block i (Nat.lt_of_lt_of_le hi h.2.1.size) (fun e => ?_)).trans (h.2.1.block i hi hn)
    rcases h.2.2 i e.symm with h1 | h1
    · exact hn h1
    · omega
  · rcases hway g e with h1 | h1
    · exact h.2.2 g h1
    · right; have := h.2.1.size; omega
theorem OutV.nil (B : Nat) (w1 : World) (e size : Nat) : OutV B none w1 e size (.slice none 0 0) 0 [] w1 :=
  ⟨World.ownsRow_nil _ _ _ _, ⟨rfl, rfl, rfl, Nat.le_refl _, fun _ _ _ => rfl⟩, fun _ e => by cases e⟩
theorem OutV.start {B : Nat} {w1 : World} {e size : Nat} {v : Value} {n : Nat} {xs : List Value} (h : w1.ownsRow B e size v n xs) : OutV B v.ownBlock w1 e size v n xs w1 :=
  ⟨h, ⟨rfl, rfl, rfl, Nat.le_refl _, fun _ _ _ => rfl⟩, fun _ e => .inl e.symm⟩
theorem OutV.keepS {B : Nat} {row : Option Nat} {w1 : World} {e size : Nat} {v : Value} {n : Nat} {xs : List Value} {w : World} (h : OutV B row w1 e size v n xs w) {p : Option Addr} {M : List (List UInt8)} (hin : InS w1 p M) (hne : ∀ a, p = some a → row ≠ some a.block) : InS w p M := hin.kept h.2.1 hne
/-- what lay below the row's base is as it was -/
theorem OutV.final {B : Nat} {row : Option Nat} {w0 w1 : World} {e size : Nat} {v : Value} {n : Nat} {xs : List Value} {w : World} (h : OutV B row w1 e size v n xs w) (hb : Below w0.heap.size w0 w1) (hr : ∀ g, row = some g → w0.heap.size ≤ g) : Below w0.heap.size w0 w :=
  hb.grown h.2.1 hb.size hr
def OutS (B : Nat) (row : Option Nat) (w1 : World) (v : Value) (L : List (List UInt8)) (w : World) : Prop := OutV B row w1 9 1 v L.length (tx L) w
theorem OutS.own {B : Nat} {row : Option Nat} {w1 : World} {v : Value} {L : List (List UInt8)} {w : World} (h : OutS B row w1 v L w) : OwnS w B v L := h.1
theorem OutS.below {B : Nat} {row : Option Nat} {w1 : World} {v : Value} {L : List (List UInt8)} {w w' : World} (h : OutS B row w1 v L w) (hb : Below w.heap.size w w') : OutS B row w1 v L w' := OutV.below h hb
theorem OutS.alloc {B : Nat} {row : Option Nat} {w1 : World} {v : Value} {L : List (List UInt8)} {w : World} (h : OutS B row w1 v L w) (o : Obj) : OutS B row w1 v L (w.alloc o) := OutV.alloc h o
theorem OutS.app {B : Nat} {row : Option Nat} {w1 : World} {v v' : Value} {L M : List (List UInt8)} {w w' : World} (h : OutS B row w1 v L w) (hown : OwnS w' B v' M) (hg : w.grownBy w' v.ownBlock) (hway : Way w v v') : OutS B row w1 v' M w' := OutV.app h hown hg hway
end Go.Proofs.YtnibecboimgljaaDoor
