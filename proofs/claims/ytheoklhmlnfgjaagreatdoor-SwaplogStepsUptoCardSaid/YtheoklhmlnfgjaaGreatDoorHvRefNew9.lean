/-
  The document's disk: New.
-/
import Derived.Test.YtheoklhmlnfgjaaGreatDoorPk5
import Derived.Test.YtheoklhmlnfgjaaGreatDoorPk2
import Derived.Deep.QuietTactic
import Derived.BigQuiet
namespace Go.Proofs.YtheoklhmlnfgjaaGreatDoor
open Go.RowKit Go.Maps
set_option linter.unusedVariables false

abbrev Own8B (B : Nat) : World → Value → BS → Prop := fun w v l => Own8 w B v l
/-- the rows of a state that New is making -/
structure MadeR (w : World) (rb : Nat) (M1 M2 : NM) (D : List BS) (Z5 : List Value) (room : Int) (q : Option Addr) (m d : Nat) (power : Int) (v1 v2 v4 v5 : Value) (W : World) : Prop where
  box : W.heap[rb]? = some (.cells #[v1, v2, .slice none 0 0, v4, v5, .int .i64 room, .slice q m d, .int .i64 power, .int .i64 0] 51 (0, 0))
  o1 : OwnM W w.heap.size v1 M1
  o2 : OwnM W w.heap.size v2 M2
  ne : ∀ g, v1.ownBlock = some g → v2.ownBlock ≠ some g
  o4 : OwnR (Own8B w.heap.size) 22 W w.heap.size v4 D
  o5 : W.ownsRow w.heap.size 3 1 v5 Z5.length Z5
  blw : Below w.heap.size w W
  rbB : w.heap.size < rb
  res : W.heap[w.heap.size]? = some (.cells #[.slice none 0 0, .slice none 0 0, .slice none 0 0, .slice none 0 0, .slice none 0 0, .int .i64 0, .slice none 0 0, .int .i64 0, .int .i64 0] 51 (0, 0))
section
variable {w W W' W1 W2 : World} {rb m d : Nat} {M1 M2 : NM} {D : List BS} {Z5 : List Value} {room power : Int} {q : Option Addr} {v1 v2 v4 v5 v' : Value}
theorem OwnR.below8 {B : Nat} {v : Value} {L : List BS} (h : OwnR (Own8B B) 22 W B v L) (hb : Below W.heap.size W W') : OwnR (Own8B B) 22 W' B v L := by
  obtain ⟨vs, h1, h2, h3⟩ := h
  exact ⟨vs, ownsRow_below h1 hb, h2, fun i v x hv hx => (h3 i v x hv hx).below hb⟩
theorem MadeR.below (h : MadeR w rb M1 M2 D Z5 room q m d power v1 v2 v4 v5 W) (hb : Below W.heap.size W W') : MadeR w rb M1 M2 D Z5 room q m d power v1 v2 v4 v5 W' :=
  ⟨Below.heap hb h.box, h.o1.below hb, h.o2.below hb, h.ne, h.o4.below8 hb, ownsRow_below h.o5 hb, h.blw.trans (hb.mono h.blw.size), h.rbB, Below.heap hb h.res⟩
/-- a row that neither is the one that grew nor the box -/
theorem row_stay {base e size n : Nat} {v : Value} {xs : List Value} {row : Option Nat} {cs : Array Value} {fr : Nat × Nat} (h : W.ownsRow base e size v n xs) (hg : W.grownBy W1 row) (hne : ∀ g, v.ownBlock = some g → row = some g → False) (hx : W.heap[rb]? = some (.cells cs 51 fr)) (he : e ≠ 51) (hE : Else W1 W2 rb) : W2.ownsRow base e size v n xs :=
  rowElse (apart_kept h hg hne) hE (row_ne h hx he)
theorem rows_ne {b1 e1 s1 n1 b2 e2 s2 n2 : Nat} {u1 u2 : Value} {x1 x2 : List Value} (h1 : W.ownsRow b1 e1 s1 u1 n1 x1) (h2 : W.ownsRow b2 e2 s2 u2 n2 x2) (he : e2 ≠ e1) : ∀ g, u1.ownBlock = some g → u2.ownBlock = some g → False := fun g e3 e4 => by
  obtain ⟨cur, hc⟩ := rowBlk h1 e3
  exact row_ne h2 hc he e4
theorem OwnR.stay {B : Nat} {v : Value} {L : List BS} {row : Option Nat} {cs : Array Value} {fr : Nat × Nat} (h : OwnR (Own8B B) 22 W B v L) (hg : W.grownBy W1 row) (hne : ∀ g, v.ownBlock = some g → row = some g → False) (hne8 : ∀ (u : Value) (l : BS), Own8 W B u l → ∀ g, u.ownBlock = some g → row = some g → False) (hx : W.heap[rb]? = some (.cells cs 51 fr)) (hE : Else W1 W2 rb) : OwnR (Own8B B) 22 W2 B v L := by
  obtain ⟨vs, h1, h2, h3⟩ := h
  exact ⟨vs, row_stay h1 hg hne hx (by decide) hE, h2, fun i v x hv hx2 => row_stay (h3 i v x hv hx2) hg (hne8 v x (h3 i v x hv hx2)) hx (by decide) hE⟩
theorem made_below {row : Option Nat} (hb : Below w.heap.size w W) (hg : W.grownBy W1 row) (hr : ∀ g, row = some g → w.heap.size ≤ g) (hrb : w.heap.size < rb) (i : Nat) : Below w.heap.size w (W1.setCell ⟨rb, i, none⟩ v') :=
  (hb.grown hg hb.size hr).setCell (p := ⟨rb, i, none⟩) (Nat.le_of_lt hrb) _
theorem else_set (i : Nat) : Else W1 (W1.setCell ⟨rb, i, none⟩ v') rb := fun g hg => Below.heap_setCell _ _ _ _ hg
theorem row_new {base e size n : Nat} {v v' : Value} {xs : List Value} {row : Option Nat} {cs : Array Value} {fr : Nat × Nat} (h : W1.ownsRow base e size v n xs) (hg : W.grownBy W1 row) (hr : ∀ g, row = some g → g ≠ rb) (hx : W.heap[rb]? = some (.cells cs 51 fr)) (he : e ≠ 51) (i : Nat) : (W1.setCell ⟨rb, i, none⟩ v').ownsRow base e size v n xs :=
  rowElse h (else_set i) (row_ne h ((hg.block rb (lt_of_heap hx) (fun e2 => hr rb e2.symm rfl)).trans hx) he)
theorem res_stay {base e size n : Nat} {v v' : Value} {xs : List Value} {cs : Array Value} {fr : Nat × Nat} (h : W.ownsRow base e size v n xs) (hg : W.grownBy W1 v.ownBlock) (hx : W.heap[w.heap.size]? = some (.cells cs 51 fr)) (hrb : w.heap.size < rb) (i : Nat) (he : e ≠ 51 := by decide) : (W1.setCell ⟨rb, i, none⟩ v').heap[w.heap.size]? = some (.cells cs 51 fr) :=
  ((Below.heap_setCell _ _ _ _ (show w.heap.size ≠ rb by omega)).trans (hg.block _ (lt_of_heap hx) (fun e2 => row_ne h hx he e2.symm))).trans hx
theorem box_stay {base e size n : Nat} {v : Value} {xs : List Value} {cs : Array Value} {fr : Nat × Nat} (h : W.ownsRow base e size v n xs) (hg : W.grownBy W1 v.ownBlock) (hx : W.heap[rb]? = some (.cells cs 51 fr)) (he : e ≠ 51 := by decide) : W1.heap[rb]? = some (.cells cs 51 fr) :=
  (hg.block _ (lt_of_heap hx) (fun e2 => row_ne h hx he e2.symm)).trans hx
theorem MadeR.app1 (h : MadeR w rb M1 M2 D Z5 room q m d power v1 v2 v4 v5 W) {M' : NM} (ho : OwnM W1 w.heap.size v' M') (hg : W.grownBy W1 v1.ownBlock) (hw : Way W v1 v') :
    MadeR w rb M' M2 D Z5 room q m d power v' v2 v4 v5 (W1.setCell ⟨rb, 0, none⟩ v') := by
  have hr : ∀ g, v1.ownBlock = some g → g ≠ rb := fun g hg e => row_ne h.o1 h.box (by decide) (e ▸ hg)
  have hbox := (hg.block rb (lt_of_heap h.box) (fun e => hr rb e.symm rfl)).trans h.box
  refine ⟨heap_setCell_same _ _ _ _ _ _ hbox, row_new ho hg hr h.box (by decide) 0, row_stay h.o2 hg (fun g e1 e2 => h.ne g e2 e1) h.box (by decide) (else_set 0), fun g e1 e2 => ?_, h.o4.stay hg ?_ ?_ h.box (else_set 0), row_stay h.o5 hg (rows_ne h.o5 h.o1 (by decide)) h.box (by decide) (else_set 0), made_below h.blw hg (fun g e => (World.ownsRow.lt h.o1 g e).1) h.rbB 0, h.rbB, res_stay h.o1 hg h.res h.rbB 0⟩
  · rcases hw g e1 with e3 | e3
    · exact h.ne g e3 e2
    · have := (World.ownsRow.lt h.o2 g e2).2; omega
  · obtain ⟨vs, h1, _⟩ := h.o4
    exact rows_ne h1 h.o1 (by decide)
  · exact fun u l hu => rows_ne hu h.o1 (by decide)
theorem MadeR.app2 (h : MadeR w rb M1 M2 D Z5 room q m d power v1 v2 v4 v5 W) {M' : NM} (ho : OwnM W1 w.heap.size v' M') (hg : W.grownBy W1 v2.ownBlock) (hw : Way W v2 v') :
    MadeR w rb M1 M' D Z5 room q m d power v1 v' v4 v5 (W1.setCell ⟨rb, 1, none⟩ v') := by
  have hr : ∀ g, v2.ownBlock = some g → g ≠ rb := fun g hg e => row_ne h.o2 h.box (by decide) (e ▸ hg)
  have hbox := (hg.block rb (lt_of_heap h.box) (fun e => hr rb e.symm rfl)).trans h.box
  refine ⟨heap_setCell_same _ _ _ _ _ _ hbox, row_stay h.o1 hg (fun g e1 e2 => h.ne g e1 e2) h.box (by decide) (else_set 1), row_new ho hg hr h.box (by decide) 1, fun g e1 e2 => ?_, h.o4.stay hg ?_ ?_ h.box (else_set 1), row_stay h.o5 hg (rows_ne h.o5 h.o2 (by decide)) h.box (by decide) (else_set 1), made_below h.blw hg (fun g e => (World.ownsRow.lt h.o2 g e).1) h.rbB 1, h.rbB, res_stay h.o2 hg h.res h.rbB 1⟩
  · rcases hw g e2 with e3 | e3
    · exact h.ne g e1 e3
    · have := (World.ownsRow.lt h.o1 g e1).2; omega
  · obtain ⟨vs, h1, _⟩ := h.o4
    exact rows_ne h1 h.o2 (by decide)
  · exact fun u l hu => rows_ne hu h.o2 (by decide)
/-- bytes more -/
theorem MadeR.app4 (h : MadeR w rb M1 M2 D Z5 room q m d power v1 v2 v4 v5 W) {vs : List Value} {u : Value} {l : BS} (hvs : vs.length = D.length) (hall : ∀ (i : Nat) (v : Value) (x : BS), vs[i]? = some v → D[i]? = some x → Own8 W w.heap.size v x) {n : Nat} (hn : n = D.length) (hrow : W.ownsRow w.heap.size 22 1 v4 n vs) (hu : Own8 W w.heap.size u l)
    (ho : W1.ownsRow w.heap.size 22 1 v' (n + 1) (vs ++ [u])) (hg : W.grownBy W1 v4.ownBlock) :
    MadeR w rb M1 M2 (D ++ [l]) Z5 room q m d power v1 v2 v' v5 (W1.setCell ⟨rb, 3, none⟩ v') := by
  subst hn
  have hr : ∀ g, v4.ownBlock = some g → g ≠ rb := fun g hg e => row_ne hrow h.box (by decide) (e ▸ hg)
  have hbox := (hg.block rb (lt_of_heap h.box) (fun e => hr rb e.symm rfl)).trans h.box
  refine ⟨heap_setCell_same _ _ _ _ _ _ hbox, row_stay h.o1 hg (rows_ne h.o1 hrow (by decide)) h.box (by decide) (else_set 3), row_stay h.o2 hg (rows_ne h.o2 hrow (by decide)) h.box (by decide) (else_set 3), h.ne, ⟨vs ++ [u], by rw [List.length_append]; exact row_new ho hg hr h.box (by decide) 3, by simp [hvs], fun i v x hv hx => ?_⟩, row_stay h.o5 hg (rows_ne h.o5 hrow (by decide)) h.box (by decide) (else_set 3), made_below h.blw hg (fun g e => (World.ownsRow.lt hrow g e).1) h.rbB 3, h.rbB, res_stay hrow hg h.res h.rbB 3⟩
  have key : ∀ (v : Value) (x : BS), Own8 W w.heap.size v x → Own8B w.heap.size (W1.setCell ⟨rb, 3, none⟩ v') v x := fun v x hv => row_stay hv hg (rows_ne hv hrow (by decide)) h.box (by decide) (else_set 3)
  by_cases hi : i < vs.length
  · rw [List.getElem?_append_left hi] at hv
    rw [List.getElem?_append_left (by omega)] at hx
    exact key v x (hall i v x hv hx)
  · have hlt := (List.getElem?_eq_some_iff.1 hv).1
    rw [List.length_append] at hlt
    simp only [List.length_cons, List.length_nil] at hlt
    obtain rfl : i = vs.length := by omega
    rw [List.getElem?_append_right (Nat.le_refl _)] at hv
    rw [List.getElem?_append_right (by omega)] at hx
    simp only [Nat.sub_self, hvs, List.getElem?_cons_zero, Option.some.injEq] at hv hx
    subst hv hx
    exact key _ _ hu
theorem MadeR.app5 (h : MadeR w rb M1 M2 D Z5 room q m d power v1 v2 v4 v5 W) {z : Value} (ho : W1.ownsRow w.heap.size 3 1 v' (Z5.length + 1) (Z5 ++ [z])) (hg : W.grownBy W1 v5.ownBlock) :
    MadeR w rb M1 M2 D (Z5 ++ [z]) room q m d power v1 v2 v4 v' (W1.setCell ⟨rb, 4, none⟩ v') := by
  have hr : ∀ g, v5.ownBlock = some g → g ≠ rb := fun g hg e => row_ne h.o5 h.box (by decide) (e ▸ hg)
  have hbox := (hg.block rb (lt_of_heap h.box) (fun e => hr rb e.symm rfl)).trans h.box
  refine ⟨heap_setCell_same _ _ _ _ _ _ hbox, row_stay h.o1 hg (rows_ne h.o1 h.o5 (by decide)) h.box (by decide) (else_set 4), row_stay h.o2 hg (rows_ne h.o2 h.o5 (by decide)) h.box (by decide) (else_set 4), h.ne, h.o4.stay hg ?_ ?_ h.box (else_set 4), by rw [List.length_append]; exact row_new ho hg hr h.box (by decide) 4, made_below h.blw hg (fun g e => (World.ownsRow.lt h.o5 g e).1) h.rbB 4, h.rbB, res_stay h.o5 hg h.res h.rbB 4⟩
  · obtain ⟨vs, h1, _⟩ := h.o4
    exact rows_ne h1 h.o5 (by decide)
  · exact fun u l hu => rows_ne hu h.o5 (by decide)
/-- the state is made, and the result's box written -/
theorem MadeR.fin {P : Nat → Prop} {F : List FT} {Z : List Int} (h : MadeR w rb (numF 0 F) (numF 0 F) (F.map (·.2)) (F.map fun f => .int .i64 (f.2.length : Int)) room q Z.length d power v1 v2 v4 v5 W) (hE : Else W W' w.heap.size) (hb' : Below w.heap.size w W') (hP : ∀ g, P g → g < w.heap.size) (hZ : ∀ g, IsMask P w g → InV g q (Z.map (Value.int .i64))) (h0 : 0 ≤ room) :
    ∃ r, #[v1, v2, .slice none 0 0, v4, v5, .int .i64 room, .slice q Z.length d, .int .i64 power, .int .i64 0] = stC r (newP F room Z power) ∧ RefP P W' r (newP F room Z power) := by
  obtain ⟨g, hg⟩ := mask_ex P W'
  obtain ⟨g0, hg0⟩ := mask_ex P w
  have st : ∀ {e size n : Nat} {v : Value} {xs : List Value}, W.ownsRow w.heap.size e size v n xs → e ≠ 51 → g.ownsRow w.heap.size e size v n xs := fun h1 he => hg.owns (rowElse h1 hE (row_ne h1 h.res he)) hP
  obtain ⟨p1, c1, e1, i1⟩ := OwnM.shape (M := numF 0 F) (st h.o1 (by decide)) rfl
  obtain ⟨p2, c2, e2, i2⟩ := OwnM.shape (M := numF 0 F) (st h.o2 (by decide)) rfl
  obtain ⟨vs, o4, l4, a4⟩ := h.o4
  have o4' : OwnR DatV 22 g w.heap.size v4 (F.map (·.2)) := ⟨vs, st o4 (by decide), l4, fun i v x hv hx => Own8.datV (st (a4 i v x hv hx) (by decide))⟩
  obtain ⟨p4, c4, e4, i4⟩ := o4'.inR (n := (F.map fun f => (f.2, f.2.length)).length) (by simp)
  obtain ⟨p5, c5, e5, _, _, i5, _⟩ := owns_shape (st h.o5 (by decide))
  have hz := (hZ g0 hg0).keeps (hg0.below hg hb')
  refine ⟨⟨p1, c1, p2, c2, none, 0, p4, c4, p5, c5, q, d⟩, ?_, g, hg, ⟨i1, i2, InR.nil _ _ _, ?_, ?_, hz⟩⟩
  · have hr : (room.toNat : Int) = room := by omega
    rw [e1, e2, e4, e5]
    unfold stC newP
    simp [hr]
  · show InDs g p4 ((F.map fun f => (f.2, f.2.length)).map (·.1))
    rw [List.map_map]
    exact i4
  · show InV g p5 ((F.map fun f => (f.2, f.2.length)).map fun f => .int .i64 (f.2 : Int))
    rw [List.map_map]
    exact i5
end
/-- what follows a region is walked once, whichever way the region went -/
def Cut (F : Option Addr → Nat → Act) (Φ : Option Addr → Nat → World → Prop) : Exit → Act → World → Prop
  | .normal, a, w => ∃ p n, a = F p n ∧ Φ p n w
  | _, _, _ => False
theorem wp_cut2 {P : Program} {c : Code} {Q : Exit → Act → World → Prop} {a : Act} {w : World} (F : Option Addr → Nat → Act) (Φ : Option Addr → Nat → World → Prop)
    (h1 : c.wp P (Cut F Φ) a w) (h2 : ∀ p n w', Φ p n w' → Q .normal (F p n) w') : c.wp P Q a w :=
  Code.wp_mono (fun e a' w' h => by
    cases e with
    | normal => obtain ⟨p, n, rfl, hp⟩ := h; exact h2 p n w' hp
    | _ => exact (h : False).elim) h1
def Cut5 (F : Option Addr → Nat → Option Addr → Nat → Nat → Act) (Φ : Option Addr → Nat → World → Prop) : Exit → Act → World → Prop
  | .normal, a, w => ∃ p n p' n' h, a = F p n p' n' h ∧ Φ p n w
  | _, _, _ => False
theorem wp_cut5 {P : Program} {c : Code} {Q : Exit → Act → World → Prop} {a : Act} {w : World} (F : Option Addr → Nat → Option Addr → Nat → Nat → Act) (Φ : Option Addr → Nat → World → Prop)
    (h1 : c.wp P (Cut5 F Φ) a w) (h2 : ∀ p n p' n' h w', Φ p n w' → Q .normal (F p n p' n' h) w') : c.wp P Q a w :=
  Code.wp_mono (fun e a' w' h => by
    cases e with
    | normal => obtain ⟨p, n, p', n', b, rfl, hp⟩ := h; exact h2 p n p' n' b w' hp
    | _ => exact (h : False).elim) h1
/-- a call of a function with one argument, as a step of a region that draws -/
theorem step_call1 {P : Program} {w : World} {ops : Array Oper} {o : Oper} {a : Act} {K : Act → World → Prop} {Q : Exit → Act → World → Prop} {E : Prop} (hgd : o.guard = none) (f : FuncId) (x : Operand) (t : TypeId)
    (ho : o.op = .call { callee := .value (.func f), args := #[x], argTypes := #[t] }) (hent : ∀ (args : Array Value) (w : World), (callFunc f args).run P w = .ok (.enter f args) w)
    (v : Value) (hx : a.eval x = v) {Post : Ending → World → Prop} (hc : Calls P f #[v] w Post) (h : ∀ e w', Post e w' → ∃ u, e = .returned u ∧ K (a.put o.dst u) w') :
    if Region.wanted o (yielded ops a.tmps) = true then Oper.wp P o a w K Q else E := by
  have hw : Region.wanted o (yielded ops a.tmps) = true := by simp [Region.wanted, hgd]
  rw [if_pos hw]
  have hr : (execOp a.eval o).run P w = .ok (.enter f #[v]) w := by
    simpa [execOp, ho, resolve, Act.eval, Deferred.ofValue, invoke, hent, go_sem] using hx
  unfold Oper.wp
  rw [hr]
  refine hc.mono ?_
  intro e w' hp
  obtain ⟨u, rfl, hk⟩ := h e w' hp
  exact hk
/-- append onto a row of the call's own, with where the result lies, as a step of a region that draws -/
theorem step_append_way {P : Program} {w : World} {ops : Array Oper} {o : Oper} {a : Act} {K : Act → World → Prop} {Q : Exit → Act → World → Prop} {E : Prop} (hgd : o.guard = none) (s x : Operand) (t tx : TypeId)
    (ho : o.op = .call { callee := .builtin .append, args := #[s, x], argTypes := #[t, tx] })
    (base : Nat) (e : TypeId) (z : Value) (size bytes : Nat) (ht : P.underlying t = some (.slice e)) (hi : (P.info? e).map (fun i => (i.zero, i.size, i.bytes)) = some (some z, size, bytes))
    (hzs : z.cells.size = size)
    (v : Value) (n : Nat) (xs : List Value) (hv : a.eval s = v) (hown : w.ownsRow base e size v n xs)
    (y : Value) (m : Nat) (news : List Value) (hx : a.eval x = y) (hs : Src P size tx y m news w)
    (h63 : n + m ≤ maxLen) (hbytes : (n + m + (n + m) / 4 + 512) * bytes ≤ 281474976710656) (hbase : base ≤ w.heap.size)
    (h : ∀ v' w', w'.ownsRow base e size v' (n + m) (xs ++ news) → w.grownBy w' v.ownBlock → Way w v v' → K (a.put o.dst v') w') :
    if Region.wanted o (yielded ops a.tmps) = true then Oper.wp P o a w K Q else E := by
  have hw : Region.wanted o (yielded ops a.tmps) = true := by simp [Region.wanted, hgd]
  rw [if_pos hw]
  obtain ⟨i, hi, hz, hz1, hz2⟩ := info_parts hi
  obtain ⟨v', w', hr, h2, h3, h4⟩ := run_append_where (P := P) w base t tx o.type e i z size bytes ht hi hz hz1 hz2 hzs v n xs hown y m news hs h63 (fun old hold => Nat.le_trans (Nat.mul_le_mul_right _ (nextslicecap_le _ _ hold)) hbytes) hbase
  unfold Oper.wp execOp
  simp only [ho, resolve, invoke, builtin, Sem.run_bind, Sem.run_pure, Result.andThen_ok, List.map_toArray, List.map_cons, List.map_nil, hv, hx, hr]
  refine h v' w' h2 h3 fun g hg => ?_
  rcases h4 with ⟨g', cap, rfl, rfl⟩ | ⟨cap, rfl, _⟩ | ⟨rfl, _, _⟩
  · exact .inl hg
  · right
    have e : some w.heap.size = some g := hg
    injection e with e
    omega
  · exact .inl hg
theorem step_appendMw {w : World} {ops : Array Oper} {o : Oper} {a : Act} {K : Act → World → Prop} {Q : Exit → Act → World → Prop} {P : Prop} (hgd : o.guard = none) (s x : Operand)
    (ho : o.op = .call { callee := .builtin .append, args := #[s, x], argTypes := #[47, 47] })
    (base : Nat) (v : Value) (M : NM) (hv : a.eval s = v) (hown : OwnM w base v M)
    (b c : Nat) (k : BS) (f : Nat) (hx : a.eval x = .slice (some ⟨b, 0, none⟩) 1 c) (hin : InE w (some ⟨b, 0, none⟩) [(k, .int .i64 (f : Int))])
    (hr : M.length ≤ 4500000000000) (hbase : base ≤ w.heap.size)
    (h : ∀ v' w', OwnM w' base v' (M ++ [(k, f)]) → w.grownBy w' v.ownBlock → Way w v v' → K (a.put o.dst v') w') :
    if Region.wanted o (yielded ops a.tmps) = true then Oper.wp Tryz.prog o a w K Q else P := by
  refine step_append_way hgd s x 47 47 ho base 91 (.agg #[.string .empty, .int .i64 0]) 2 24 Tryz.underlying47 infoN9 rfl v M.length (fc (nc M)) hv hown _ 1 (fc [(k, .int .i64 (f : Int))]) hx (src_name hin rfl) (by unfold maxLen; omega) (by omega) hbase ?_
  intro v' w' ho' hg hw
  exact h v' w' (by unfold OwnM; rw [List.length_append, nc_append, fc_append]; exact ho') hg hw
def RefNewPost (P : Nat → Prop) (w : World) (F : List FT) (room : Int) (Z : List Int) (power : Int) : Ending → World → Prop := fun e w' =>
  (newE F room ≠ 0 ∧ e = .returned (.tuple #[.agg #[.slice none 0 0, .slice none 0 0, .slice none 0 0, .slice none 0 0, .slice none 0 0, .int .i64 0, .slice none 0 0, .int .i64 0, .int .i64 0], .int .i64 (newE F room)]) ∨ newE F room = 0 ∧ ∃ r, e = .returned (.tuple #[.agg (stC r (newP F room Z power)), .int .i64 0]) ∧ RefP P w' r (newP F room Z power)) ∧ Below w.heap.size w w'

set_option maxRecDepth 100000 in
set_option maxHeartbeats 8000000 in
theorem refNew_any (P : Nat → Prop) (F : List FT) (p : Option Addr) (n c : Nat) (hn : F.length = n) (room : Int) (Z : List Int) (q : Option Addr) (m d : Nat) (hm : Z.length = m) (power : Int) (w : World) (hP : ∀ g, P g → g < w.heap.size) (hF : InFs w p F) (hZ : ∀ g, IsMask P w g → InV g q (Z.map (Value.int .i64))) (hFl : F.length ≤ 3518437208780) (hFn : ∀ f ∈ F, f.1.length ≤ 140737488351232 ∧ f.2.length ≤ 140737488351232) :
    Calls Tryz.prog 17 #[.slice p n c, .int .i64 room, .slice q m d, .int .i64 power] w (RefNewPost P w F room Z power) := by
  subst hn
  subst hm
  by_cases hroom : room < 0 ∨ 1073741824 < room
  · have HE := Lib.hid (show newE F room = 131 by unfold newE; rw [if_pos hroom])
    obtain ⟨wa, hwa⟩ : ∃ x, x = w.alloc (.cells #[.slice none 0 0, .slice none 0 0, .slice none 0 0, .slice none 0 0, .slice none 0 0, .int .i64 0, .slice none 0 0, .int .i64 0, .int .i64 0] 51) := ⟨_, rfl⟩
    have g0 : wa.heap[w.heap.size]? = some (.cells #[.slice none 0 0, .slice none 0 0, .slice none 0 0, .slice none 0 0, .slice none 0 0, .int .i64 0, .slice none 0 0, .int .i64 0, .int .i64 0] 51 (0, 0)) := by rw [hwa]; exact heap_alloc_new w _
    have hba : Below w.heap.size w wa := by rw [hwa]; exact (Below.refl _ w).alloc (Nat.le_refl _) _
    obtain ⟨z0, z1, z2, z3, z4, z5, z6, z7, z8, zf⟩ := st9v g0
    rw [hwa] at z0 z1 z2 z3 z4 z5 z6 z7 z8
    have HB := Lib.hid (And.intro hwa hba)
    clear g0 hba zf hwa
    by_cases h0 : room < 0
    · have h1 : decide (room < 0) = true := decide_eq_true h0
      clear hroom
      go_enter Tryz.func17, Tryz.ntmps17
      go_wp2_with fail
      refine bodyPost_ret (v := .tuple #[.agg #[.slice none 0 0, .slice none 0 0, .slice none 0 0, .slice none 0 0, .slice none 0 0, .int .i64 0, .slice none 0 0, .int .i64 0, .int .i64 0], .int .i64 131]) (by simp [results, Tryz.results17, go_sem, z0, z1, z2, z3, z4, z5, z6, z7, z8]) rfl ?_
      refine ⟨.inl ⟨by rw [HE.out]; decide, by rw [HE.out]⟩, ?_⟩
      rw [← HB.out.1]
      exact HB.out.2
    · have h1 : decide (room < 0) = false := decide_eq_false h0
      have h2 : decide (1073741824 < room) = true := decide_eq_true (by omega)
      clear hroom
      go_enter Tryz.func17, Tryz.ntmps17
      go_wp2_with fail
      refine bodyPost_ret (v := .tuple #[.agg #[.slice none 0 0, .slice none 0 0, .slice none 0 0, .slice none 0 0, .slice none 0 0, .int .i64 0, .slice none 0 0, .int .i64 0, .int .i64 0], .int .i64 131]) (by simp [results, Tryz.results17, go_sem, z0, z1, z2, z3, z4, z5, z6, z7, z8]) rfl ?_
      refine ⟨.inl ⟨by rw [HE.out]; decide, by rw [HE.out]⟩, ?_⟩
      rw [← HB.out.1]
      exact HB.out.2
  · have h1 : decide (room < 0) = false := decide_eq_false (by omega)
    have h2 : decide (1073741824 < room) = false := decide_eq_false (by omega)
    have HE0 := Lib.hid (show okF F → newE F room = 0 from fun h => by unfold newE; rw [if_neg hroom, if_pos h])
    have HE1 := Lib.hid (show ¬ okF F → newE F room = 95 from fun h => by unfold newE; rw [if_neg hroom, if_neg h])
    have hr0 : 0 ≤ room := by omega
    clear hroom
    obtain ⟨wa, hwa⟩ : ∃ x, x = (w.alloc (.cells #[.slice none 0 0, .slice none 0 0, .slice none 0 0, .slice none 0 0, .slice none 0 0, .int .i64 0, .slice none 0 0, .int .i64 0, .int .i64 0] 51)).alloc (.cells #[.slice none 0 0, .slice none 0 0, .slice none 0 0, .slice none 0 0, .slice none 0 0, .int .i64 room, .slice q Z.length d, .int .i64 power, .int .i64 0] 51) := ⟨_, rfl⟩
    have hba : Below w.heap.size w wa := by rw [hwa]; exact ((Below.refl _ w).alloc (Nat.le_refl _) _).alloc (by simp) _
    have hres : wa.heap[w.heap.size]? = some (.cells #[.slice none 0 0, .slice none 0 0, .slice none 0 0, .slice none 0 0, .slice none 0 0, .int .i64 0, .slice none 0 0, .int .i64 0, .int .i64 0] 51 (0, 0)) := by rw [hwa]; exact (heap_alloc_old _ _ (by simp)).trans (heap_alloc_new w _)
    have hbox : wa.heap[w.heap.size + 1]? = some (.cells #[.slice none 0 0, .slice none 0 0, .slice none 0 0, .slice none 0 0, .slice none 0 0, .int .i64 room, .slice q Z.length d, .int .i64 power, .int .i64 0] 51 (0, 0)) := by
      rw [hwa]
      have := heap_alloc_new (w.alloc (.cells #[.slice none 0 0, .slice none 0 0, .slice none 0 0, .slice none 0 0, .slice none 0 0, .int .i64 0, .slice none 0 0, .int .i64 0, .int .i64 0] 51)) (.cells #[.slice none 0 0, .slice none 0 0, .slice none 0 0, .slice none 0 0, .slice none 0 0, .int .i64 room, .slice q Z.length d, .int .i64 power, .int .i64 0] 51)
      rw [World.size_alloc] at this
      exact this
    have hmade : MadeR w (w.heap.size + 1) [] [] [] [] room q Z.length d power (.slice none 0 0) (.slice none 0 0) (.slice none 0 0) (.slice none 0 0) wa :=
      ⟨hbox, OwnM.nil _ _, OwnM.nil _ _, (fun g e => by cases e), OwnR.nil _ _ _ _, World.ownsRow_nil _ _ _ _, hba, by omega, hres⟩
    have HM := Lib.hid (And.intro hmade hr0)
    have HW := Lib.hid hwa
    clear hmade hbox hres hba hr0 hwa
    go_enter Tryz.func17, Tryz.ntmps17
    go_wp2_with fail
    rw [← HW.out]
    go_loopw [11] (fun i wr => ∃ (k : Nat) (v1 v2 v4 v5 : Value), k ≤ F.length ∧ i = .int .i64 k ∧ okF (F.take k) ∧ MadeR w (w.heap.size + 1) (numF 0 (F.take k)) (numF 0 (F.take k)) ((F.take k).map (·.2)) ((F.take k).map fun f => .int .i64 (f.2.length : Int)) room q Z.length d power v1 v2 v4 v5 wr) (fun i _ => F.length - (intOf i).toNat)
    case atStart => exact ⟨0, _, _, _, _, Nat.zero_le _, rfl, ⟨fun f hf => by simp at hf, by simp⟩, HM.out.1⟩
    case round =>
      obtain ⟨k, v1, v2, v4, v5, hk, rfl, hok, hm⟩ := hrel
      by_cases hlt : k < F.length
      · obtain ⟨b, o, rfl, x, q0, c0, hwx, hwd, hx, hqc, hdl, hwin⟩ := hF.at hlt
        have hcx := cell_keep hwx hm.blw
        obtain ⟨l, hl⟩ : ∃ l, l = F[k].2 := ⟨_, rfl⟩
        rw [← hl] at hwd hdl hwin
        have hbd := hFn F[k] (List.getElem_mem hlt)
        have hxs : x.size ≤ 140737488351232 := by rw [← size_list, hx]; exact hbd.1
        have hll : l.length ≤ 140737488351232 := by rw [hl]; exact hbd.2
        have HX := Lib.hid (And.intro hx hl)
        have HM2 := Lib.hid (And.intro hm hok)
        clear hx hl hbd hm hok
        obtain ⟨gd, hgd⟩ : ∃ gd, gd = goodN x.data.toList := ⟨_, rfl⟩
        have HGC := Lib.hid (fun W => show Calls Tryz.prog 39 #[.string x] W fun e w' => e = .returned (.bool gd) ∧ W = w' by rw [hgd]; exact refGood_same x W hxs)
        have HGD := Lib.hid hgd
        clear hgd
        cases gd with
        | false =>
          go_wp2_with fail
          go_quiet ((go_at_call 39; exact ((HGC.out _).mono fun _ _ hp => ⟨hp.1, _, hp.2.symm⟩)))
          have hbq := bdrewN (Below.refl wr.heap.size wr) nq
          obtain ⟨z0, z1, z2, z3, z4, z5, z6, z7, z8, zf⟩ := st9v (Below.heap hbq HM2.out.1.res)
          have HBQ := Lib.hid (put9_below (v0 := .slice none 0 0) (v1 := .slice none 0 0) (v2 := .slice none 0 0) (v3 := .slice none 0 0) (v4 := .slice none 0 0) (v5 := .int .i64 0) (v6 := .slice none 0 0) (v7 := .int .i64 0) (v8 := .int .i64 0) (HM2.out.1.blw.trans (hbq.mono HM2.out.1.blw.size)) (Nat.le_refl _))
          have h9 := put9_same (v0 := .slice none 0 0) (v1 := .slice none 0 0) (v2 := .slice none 0 0) (v3 := .slice none 0 0) (v4 := .slice none 0 0) (v5 := .int .i64 0) (v6 := .slice none 0 0) (v7 := .int .i64 0) (v8 := .int .i64 0) (Below.heap hbq HM2.out.1.res)
          obtain ⟨y0, y1, y2, y3, y4, y5, y6, y7, y8, yf⟩ := st9v h9
          unfold put9 at y0 y1 y2 y3 y4 y5 y6 y7 y8
          clear h9 yf
          clear hbq
          go_wp2_with fail
          refine bodyPost_ret (v := .tuple #[.agg #[.slice none 0 0, .slice none 0 0, .slice none 0 0, .slice none 0 0, .slice none 0 0, .int .i64 0, .slice none 0 0, .int .i64 0, .int .i64 0], .int .i64 95]) (by simp [results, Tryz.results17, go_sem, y0, y1, y2, y3, y4, y5, y6, y7, y8]) rfl ?_
          have hno : ¬ okF F := okF_bad (List.getElem?_eq_getElem hlt) (.inl (by unfold badN; rw [← HX.out.1, ← HGD.out]; rfl))
          refine ⟨.inl ⟨?_, ?_⟩, ?_⟩
          · rw [HE1.out hno]; decide
          · rw [HE1.out hno]
          · exact HBQ.out
        | true =>
          have hcase : ¬ 0 < k ∨ ∃ k' y, k = k' + 1 ∧ ((k : Int) - 1 = (k' : Int)) ∧ k' < F.length ∧ wr.cell? ⟨b, o + k' * 2, none⟩ = some (.string y) ∧ y.data.toList = lastN F k := by
            by_cases h0 : 0 < k
            · right
              obtain ⟨k', rfl⟩ : ∃ k', k = k' + 1 := ⟨k - 1, by omega⟩
              have hk' : k' < F.length := by omega
              obtain ⟨b', o', e', y, q1, d1, hcy, _, hy, _, _, _⟩ := (hF.below HM2.out.1.blw).at hk'
              obtain ⟨rfl, rfl⟩ : b = b' ∧ o = o' := by injection e' with e'; injection e' with e1 e2; exact ⟨e1, e2⟩
              exact ⟨k', y, rfl, by omega, hk', hcy, by show _ = ((F[k']?).map (·.1)).getD []; rw [hy, List.getElem?_eq_getElem hk']; rfl⟩
            · exact .inl h0
          have hokk : (0 < k → lastN F k < x.data.toList) → okF (F.take (k + 1)) := fun h => (okF_snoc (List.getElem?_eq_getElem hlt) HM2.out.2 (by rw [← HX.out.1]; unfold badN; rw [← HGD.out]; rfl) (fun y h0 hy => by
            rw [← HX.out.1]
            have h1 := h h0
            obtain ⟨k', rfl⟩ : ∃ k', k = k' + 1 := ⟨k - 1, by omega⟩
            have e : lastN F (k' + 1) = y.1 := by
              show ((F[k']?).map (·.1)).getD [] = _
              have hy : F[k']? = some y := hy
              rw [hy]; rfl
            rw [e] at h1
            exact h1)).1
          have HOKK := Lib.hid hokk
          have hnok : ∀ k', k = k' + 1 → ¬ lastN F k < x.data.toList → ¬ okF F := fun k' e h => by
            subst e
            refine okF_bad (List.getElem?_eq_getElem hlt) (.inr ⟨F[k'], by omega, List.getElem?_eq_getElem (by omega), ?_⟩)
            have e : lastN F (k' + 1) = F[k'].1 := by
              show ((F[k']?).map (·.1)).getD [] = _
              rw [List.getElem?_eq_getElem (by omega)]; rfl
            rw [e, HX.out.1] at h
            exact h
          have HNOK := Lib.hid hnok
          clear hokk hnok
          by_cases hbad : 0 < k ∧ ¬ lastN F k < x.data.toList
          · obtain ⟨h0, hnl⟩ := hbad
            rcases hcase with h | ⟨k', y, hk1, hkm, hk2, hcy, hy⟩
            · exact absurd h0 h
            have HNO := Lib.hid (HNOK.out k' hk1 hnl)
            have hbool : (Op.bytesLess x.toList y.toList || (x.toList == y.toList)) = true := by
              rw [← hy] at hnl
              rw [lessN, strs_eq, Bool.or_eq_true, decide_eq_true_eq, decide_eq_true_eq]
              by_cases h : x.data.toList = y.data.toList
              · exact .inr h
              · exact .inl (lt_of_le_ne (List.not_lt.1 hnl) fun e => h e.symm)
            have i1 : (0 : Int) ≤ (k' : Int) := by omega
            have i2 : (k' : Int) < (F.length : Int) := by omega
            have i3 : (0 : Int) < (k : Int) := by omega
            clear hnl hk1 hk2 hy
            go_wp2_with fail
            go_quiet ((go_at_call 39; exact ((HGC.out _).mono fun _ _ hp => ⟨hp.1, _, hp.2.symm⟩)))
            have hbq := bdrewN (Below.refl wr.heap.size wr) nq
            obtain ⟨z0, z1, z2, z3, z4, z5, z6, z7, z8, zf⟩ := st9v (Below.heap hbq HM2.out.1.res)
            have HBQ := Lib.hid (put9_below (v0 := .slice none 0 0) (v1 := .slice none 0 0) (v2 := .slice none 0 0) (v3 := .slice none 0 0) (v4 := .slice none 0 0) (v5 := .int .i64 0) (v6 := .slice none 0 0) (v7 := .int .i64 0) (v8 := .int .i64 0) (HM2.out.1.blw.trans (hbq.mono HM2.out.1.blw.size)) (Nat.le_refl _))
            have h9 := put9_same (v0 := .slice none 0 0) (v1 := .slice none 0 0) (v2 := .slice none 0 0) (v3 := .slice none 0 0) (v4 := .slice none 0 0) (v5 := .int .i64 0) (v6 := .slice none 0 0) (v7 := .int .i64 0) (v8 := .int .i64 0) (Below.heap hbq HM2.out.1.res)
            obtain ⟨y0, y1, y2, y3, y4, y5, y6, y7, y8, yf⟩ := st9v h9
            unfold put9 at y0 y1 y2 y3 y4 y5 y6 y7 y8
            clear hbq h9 yf
            go_wp2_with fail
            refine bodyPost_ret (v := .tuple #[.agg #[.slice none 0 0, .slice none 0 0, .slice none 0 0, .slice none 0 0, .slice none 0 0, .int .i64 0, .slice none 0 0, .int .i64 0, .int .i64 0], .int .i64 95]) (by simp [results, Tryz.results17, go_sem, y0, y1, y2, y3, y4, y5, y6, y7, y8]) rfl ?_
            refine ⟨.inl ⟨?_, ?_⟩, ?_⟩
            · rw [HE1.out HNO.out]; decide
            · rw [HE1.out HNO.out]
            · exact HBQ.out
          · have HOK2 := Lib.hid (HOKK.out fun h => Classical.not_not.1 fun e => hbad ⟨h, e⟩)
            have HBAD := Lib.hid hbad
            clear hbad
            rcases hcase with h0 | ⟨k', y, hk1, hkm, hk2, hcy, hy⟩
            case' inl =>
              have g0 : decide (0 < (k : Int)) = false := decide_eq_false (by omega)
              go_wp2_with fail
              go_quiet ((go_at_call 39; exact ((HGC.out _).mono fun _ _ hp => ⟨hp.1, _, hp.2.symm⟩)))
            case' inr =>
              have hlast : y.data.toList < x.data.toList := by rw [hy]; exact Classical.not_not.1 fun e => HBAD.out ⟨by omega, e⟩
              have q1 : Op.bytesLess x.toList y.toList = false := by rw [lessN]; exact decide_eq_false (fun e => absurd (List.lt_trans hlast e) (List.lt_irrefl _))
              have q2 : (x.toList == y.toList) = false := by rw [strs_eq]; exact decide_eq_false (fun e => by rw [e] at hlast; exact absurd hlast (List.lt_irrefl _))
              have i1 : (0 : Int) ≤ (k' : Int) := by omega
              have i2 : (k' : Int) < (F.length : Int) := by omega
              have i3 : (0 : Int) < (k : Int) := by omega
              have h0 : 0 < k := by omega
              clear hlast hy hk1
              go_wp2_with fail
              go_quiet ((go_at_call 39; exact ((HGC.out _).mono fun _ _ hp => ⟨hp.1, _, hp.2.symm⟩)))
            all_goals
              have hm1 := HM2.out.1.below (bdrewN (Below.refl wr.heap.size wr) nq)
              generalize wr.drewN nq = W1 at hm1 ⊢
              have hx1 := cell_keep hwx hm1.blw
              obtain ⟨M, hM⟩ : ∃ M, M = numF 0 (F.take k) := ⟨_, rfl⟩
              obtain ⟨D4, hD4⟩ : ∃ D4, D4 = (F.take k).map (·.2) := ⟨_, rfl⟩
              obtain ⟨Z5, hZ5⟩ : ∃ Z5 : List Value, Z5 = (F.take k).map fun f => .int .i64 (f.2.length : Int) := ⟨_, rfl⟩
              rw [← hM, ← hD4, ← hZ5] at hm1
              have hMl : M.length ≤ 4000000000000 := by rw [hM, numF_length, List.length_take]; omega
              have hDl : D4.length ≤ 3518437208780 := by rw [hD4, List.length_map, List.length_take]; omega
              have hZl : Z5.length ≤ 3518437208780 := by rw [hZ5, List.length_map, List.length_take]; omega
              have HEQ := Lib.hid (And.intro hM (And.intro hD4 hZ5))
              clear hM hD4 hZ5
              obtain ⟨n1, hn1⟩ : ∃ n1, n1 = M.length := ⟨_, rfl⟩
              obtain ⟨p1, c1, rfl, _⟩ := OwnM.shape (n := n1) hm1.o1 hn1.symm
              have HN1 := Lib.hid hn1
              obtain ⟨a0, a1, a2, a3, a4, a5, a6, a7, a8, af⟩ := st9v hm1.box
              have HB1 := Lib.hid ((Below.refl _ W1).drew.alloc (Nat.le_refl _) (.cells #[.string x, .int .i64 (k : Int)] 91))
              have HO1 := Lib.hid (hm1.o1.below HB1.out)
              have HI1 := Lib.hid (InE.one W1.drew x (.int .i64 (k : Int)) 91)
              have HS1 := Lib.hid (show w.heap.size ≤ (W1.drew.alloc (.cells #[.string x, .int .i64 (k : Int)] 91)).heap.size from Nat.le_trans hm1.blw.size HB1.out.size)
              have HM1 := Lib.hid hm1
              have al0 := cell_keep a0 ((Below.refl W1.heap.size W1).alloc (Nat.le_refl _) (.cells #[.string x, .int .i64 (k : Int)] 91))
              have al1 := cell_keep hx1 ((Below.refl W1.heap.size W1).alloc (Nat.le_refl _) (.cells #[.string x, .int .i64 (k : Int)] 91))
              clear hm1 hn1 a1 a2 a3 a4 a5 a6 a7 a8 hcx
              go_wp2_with fail
              apply wp_cut2 (Φ := fun p n W => MadeR w (w.heap.size + 1) (M ++ [(x.data.toList, k)]) M D4 Z5 room q Z.length d power (.slice p (M.length + 1) n) v2 v4 v5 W)
              case h1 =>
                go_region_law (refine step_appendMw rfl _ _ rfl w.heap.size _ M rfl HO1.out _ _ x.data.toList k rfl HI1.out (by omega) HS1.out ?_; intro v1' w2 ho2 hg2 hw2; have hap := (HM1.out.below HB1.out).app1 ho2 hg2 hw2; obtain ⟨b0, _, _, _, _, _, _, _, _, bf⟩ := st9v (box_stay HO1.out hg2 (HM1.out.below HB1.out).box); obtain ⟨p1', c1', rfl, _⟩ := OwnM.shape (n := M.length + 1) ho2 (by simp); have HAP1 := Lib.hid hap; clear hap ho2 hg2 hw2)
                all_goals exact ⟨_, _, rfl, HAP1.out⟩
              case h2 =>
                clear a0 al0 al1 af hx1 HB1 HO1 HI1 HS1 HM1 HN1
                intro p1' c1' W2 hm2
                have hx2 := cell_keep hwx hm2.blw
                obtain ⟨p2, c2, rfl, _⟩ := OwnM.shape (n := M.length) hm2.o2 rfl
                obtain ⟨a0, a1, a2, a3, a4, a5, a6, a7, a8, af⟩ := st9v hm2.box
                have HB2 := Lib.hid ((Below.refl _ W2).drew.alloc (Nat.le_refl _) (.cells #[.string x, .int .i64 (k : Int)] 91))
                have HO2 := Lib.hid (hm2.o2.below HB2.out)
                have HI2 := Lib.hid (InE.one W2.drew x (.int .i64 (k : Int)) 91)
                have HS2 := Lib.hid (show w.heap.size ≤ (W2.drew.alloc (.cells #[.string x, .int .i64 (k : Int)] 91)).heap.size from Nat.le_trans hm2.blw.size HB2.out.size)
                have HM2' := Lib.hid hm2
                have al0 := cell_keep a1 ((Below.refl W2.heap.size W2).alloc (Nat.le_refl _) (.cells #[.string x, .int .i64 (k : Int)] 91))
                have al1 := cell_keep hx2 ((Below.refl W2.heap.size W2).alloc (Nat.le_refl _) (.cells #[.string x, .int .i64 (k : Int)] 91))
                clear hm2 a0 a2 a3 a4 a5 a6 a7 a8
                go_wp2_with fail
                apply wp_cut2 (Φ := fun p n W => MadeR w (w.heap.size + 1) (M ++ [(x.data.toList, k)]) (M ++ [(x.data.toList, k)]) D4 Z5 room q Z.length d power (.slice p1' (M.length + 1) c1') (.slice p (M.length + 1) n) v4 v5 W)
                case h1 =>
                  go_region_law (refine step_appendMw rfl _ _ rfl w.heap.size _ M rfl HO2.out _ _ x.data.toList k rfl HI2.out (by omega) HS2.out ?_; intro v2' w3 ho3 hg3 hw3; have hap := (HM2'.out.below HB2.out).app2 ho3 hg3 hw3; obtain ⟨_, b1, _, _, _, _, _, _, _, bf⟩ := st9v (box_stay HO2.out hg3 (HM2'.out.below HB2.out).box); obtain ⟨p2', c2', rfl, _⟩ := OwnM.shape (n := M.length + 1) ho3 (by simp); have HAP2 := Lib.hid hap; clear hap ho3 hg3 hw3)
                  all_goals exact ⟨_, _, rfl, HAP2.out⟩
                case h2 =>
                  clear a1 al0 al1 af hx2 HB2 HO2 HI2 HS2 HM2'
                  intro p2' c2' W3 hm3
                  have hd3 := cell_keep hwd hm3.blw
                  have hin3 := hwin.below hm3.blw
                  obtain ⟨vs4, o4, l4, a4'⟩ := hm3.o4
                  obtain ⟨p4, c4, rfl, _, _, _, _⟩ := owns_shape o4
                  obtain ⟨n4, hn4⟩ : ∃ n4, n4 = D4.length := ⟨_, rfl⟩
                  rw [← hn4] at hm3 o4
                  obtain ⟨_, _, _, a3, _, _, _, _, _, _⟩ := st9v hm3.box
                  have HM3 := Lib.hid (And.intro hm3 (And.intro o4 (And.intro l4 (And.intro a4' hn4))))
                  have HENT := Lib.hid (show ∀ (args : Array Value) (w : World), (callFunc 14 args).run Tryz.prog w = .ok (.enter 14 args) w from enters_of Tryz.func14 (by kernel_rfl) rfl)
                  have HCP := Lib.hid (show Calls Tryz.prog 14 #[.slice q0 l.length c0] W3.drew fun e w' => ∃ qv cv, e = .returned (.slice qv l.length cv) ∧ Own8 w' W3.heap.size (.slice qv l.length cv) l ∧ Below W3.heap.size W3 w' from
                    (copyBytes_any l q0 _ c0 rfl (by omega) W3.drew (hin3.below (Below.refl _ W3).drew)).mono fun _ w' ⟨v, h1, h2, h3⟩ => by
                      obtain ⟨qv, cv, rfl, _⟩ := h2.in8n rfl
                      exact ⟨qv, cv, h1, h2, ((Below.refl _ W3).drew).trans h3⟩)
                  clear hm3 o4 l4 a4' hn4 hin3
                  go_wp2_with fail
                  apply wp_cut5 (Φ := fun p n W => MadeR w (w.heap.size + 1) (M ++ [(x.data.toList, k)]) (M ++ [(x.data.toList, k)]) (D4 ++ [l]) Z5 room q Z.length d power (.slice p1' (M.length + 1) c1') (.slice p2' (M.length + 1) c2') (.slice p (n4 + 1) n) v5 W)
                  case h1 =>
                    go_region_law (first
                      | (refine step_call1 rfl 14 _ _ rfl HENT.out (.slice q0 l.length c0) rfl HCP.out ?_; rintro e4 w4 ⟨qv, cv, rfl, hown4, hb4⟩; refine ⟨_, rfl, ?_⟩; have hm4 := HM3.out.1.below hb4; have hbA := hb4.alloc hb4.size (.cells #[.slice qv l.length cv] 22); have hm5 := HM3.out.1.below hbA; have HA := Lib.hid (And.intro hm5 (And.intro (ownsRow_below HM3.out.2.1 hbA) (And.intro (fun i v x hv hx => (HM3.out.2.2.2.1 i v x hv hx).below hbA) (And.intro ((hown4.mono HM3.out.1.blw.size).alloc (.cells #[.slice qv l.length cv] 22)) hbA.size)))); have hsE := srcV (c := 1) (e := 22) (xs := [.slice qv l.length cv]) Tryz.underlying49 (InV.one w4 (.slice qv l.length cv) 22) (fun u hu => by rw [List.mem_singleton.1 hu]; rfl); have HSE := Lib.hid hsE; obtain ⟨_, _, _, b3, _⟩ := st9v hm4.box; obtain ⟨_, _, _, b3a, _⟩ := st9v hm5.box; clear hm4 hbA hm5 hsE hown4 hb4)
                      | (refine step_append_way rfl _ _ 49 49 rfl w.heap.size 22 (.slice none 0 0) 1 24 Tryz.underlying49 infoB9 rfl _ n4 vs4 rfl HA.out.2.1 _ 1 [.slice qv l.length cv] rfl HSE.out (by have := HM3.out.2.2.2.2; unfold maxLen; omega) (by have := HM3.out.2.2.2.2; omega) (Nat.le_trans HM3.out.1.blw.size HA.out.2.2.2.2) ?_; intro v4' w6 ho6 hg6 _; have hap := HA.out.1.app4 HM3.out.2.2.1 HA.out.2.2.1 HM3.out.2.2.2.2 HA.out.2.1 HA.out.2.2.2.1 ho6 hg6; obtain ⟨_, _, _, e3, _, _, _, _, _, bf⟩ := st9v (box_stay HA.out.2.1 hg6 HA.out.1.box); obtain ⟨p4', c4', rfl, _, _, _, _⟩ := owns_shape ho6; have HAP4 := Lib.hid hap; clear hap ho6 hg6))
                    all_goals
                      obtain ⟨hs, hhs⟩ : ∃ hs, w4.heap.size = hs := ⟨_, rfl⟩
                      rw [hhs]
                      exact ⟨p4', c4', qv, cv, hs, rfl, HAP4.out⟩
                  case h2 =>
                    clear hd3 a3 HM3 HCP HENT
                    intro p4' c4' pu cu hu W4 hm4
                    have hd4 := cell_keep hwd hm4.blw
                    obtain ⟨p5, c5, rfl, _, _, _, _⟩ := owns_shape hm4.o5
                    obtain ⟨n5, hn5⟩ : ∃ n5, n5 = Z5.length := ⟨_, rfl⟩
                    rw [← hn5] at hm4
                    obtain ⟨_, _, _, _, a4, _, _, _, _, _⟩ := st9v hm4.box
                    have hb5 := (Below.refl W4.heap.size W4).drew.alloc (Nat.le_refl _) (.cells #[.int .i64 (l.length : Int)] 3)
                    have HM4 := Lib.hid (And.intro hm4 (And.intro (hm4.below hb5) (And.intro hn5 hb5.size)))
                    have hsE := srcV (c := 1) (e := 3) (xs := [.int .i64 (l.length : Int)]) Tryz.underlying38 (InV.one W4.drew (.int .i64 (l.length : Int)) 3) (fun u hu => by rw [List.mem_singleton.1 hu]; rfl)
                    have HSE := Lib.hid hsE
                    have al4 := cell_keep a4 ((Below.refl W4.heap.size W4).alloc (Nat.le_refl _) (.cells #[.int .i64 (l.length : Int)] 3))
                    have al5 := cell_keep hd4 ((Below.refl W4.heap.size W4).alloc (Nat.le_refl _) (.cells #[.int .i64 (l.length : Int)] 3))
                    clear hm4 hb5 hsE hn5
                    go_wp2_with fail
                    apply wp_cut2 (Φ := fun p n W => MadeR w (w.heap.size + 1) (M ++ [(x.data.toList, k)]) (M ++ [(x.data.toList, k)]) (D4 ++ [l]) (Z5 ++ [.int .i64 (l.length : Int)]) room q Z.length d power (.slice p1' (M.length + 1) c1') (.slice p2' (M.length + 1) c2') (.slice p4' (n4 + 1) c4') (.slice p (n5 + 1) n) W)
                    case h1 =>
                      go_region_law (refine step_append_way rfl _ _ 38 38 rfl w.heap.size 3 (.int .i64 0) 1 8 Tryz.underlying38 infoI rfl (.slice p5 n5 c5) n5 Z5 rfl (by have := HM4.out.2.1.o5; rw [← HM4.out.2.2.1] at this; exact this) _ 1 [.int .i64 (l.length : Int)] rfl HSE.out (by have := HM4.out.2.2.1; unfold maxLen; omega) (by have := HM4.out.2.2.1; omega) (Nat.le_trans HM4.out.1.blw.size HM4.out.2.2.2) ?_; intro v5' w7 ho7 hg7 _; have hap := HM4.out.2.1.app5 (z := .int .i64 (l.length : Int)) (by rw [← HM4.out.2.2.1]; exact ho7) hg7; obtain ⟨_, _, _, _, e4, _, _, _, _, bf⟩ := st9v (box_stay HM4.out.2.1.o5 hg7 HM4.out.2.1.box); obtain ⟨p5', c5', rfl, _, _, _, _⟩ := owns_shape ho7; have HAP5 := Lib.hid hap; clear hap ho7 hg7)
                      all_goals exact ⟨p5', c5', rfl, HAP5.out⟩
                    case h2 =>
                      clear hd4 a4 HM4 HSE al4 al5
                      intro p5' c5' W5 hm5
                      obtain ⟨hM, hD4, hZ5⟩ := HEQ.out
                      have hfin : MadeR w (w.heap.size + 1) (numF 0 (F.take (k + 1))) (numF 0 (F.take (k + 1))) ((F.take (k + 1)).map (·.2)) ((F.take (k + 1)).map fun f => .int .i64 (f.2.length : Int)) room q Z.length d power (.slice p1' (M.length + 1) c1') (.slice p2' (M.length + 1) c2') (.slice p4' (n4 + 1) c4') (.slice p5' (n5 + 1) c5') W5 := by
                        have e1 : F[k] = (x.data.toList, l) := Prod.ext HX.out.1.symm HX.out.2.symm
                        rw [takes hlt, e1, numF_snoc, List.map_append, List.map_append, ← hM, ← hD4, ← hZ5, List.length_take, Nat.min_eq_left (by omega), Nat.zero_add]
                        exact hm5
                      have HFIN := Lib.hid hfin
                      clear hm5 hM hD4 hZ5 hfin
                      go_wp2_with fail
                      go_roundw
                      case rel => exact ⟨k + 1, _, _, _, _, by omega, by go_num, HOK2.out, HFIN.out⟩
                      case measure => simp [intOf]; omega
      · obtain rfl : k = F.length := by omega
        rw [List.take_length] at hok hm
        obtain ⟨p1, c1, rfl, _⟩ := OwnM.shape (M := numF 0 F) hm.o1 rfl
        obtain ⟨p2, c2, rfl, _⟩ := OwnM.shape (M := numF 0 F) hm.o2 rfl
        obtain ⟨p4, c4, rfl, _⟩ : ∃ p c, v4 = .slice p (F.map (·.2)).length c ∧ True := by
          obtain ⟨vs, h1, _⟩ := hm.o4
          obtain ⟨p, c, e, _⟩ := owns_shape h1
          exact ⟨p, c, e, trivial⟩
        obtain ⟨p5, c5, rfl, _, _, _, _⟩ := owns_shape hm.o5
        obtain ⟨n1, hn1⟩ : ∃ n1, n1 = (numF 0 F).length := ⟨_, rfl⟩
        obtain ⟨n4, hn4⟩ : ∃ n4, n4 = (F.map (·.2)).length := ⟨_, rfl⟩
        obtain ⟨n5, hn5⟩ : ∃ n5, n5 = (F.map fun f => Value.int .i64 (f.2.length : Int)).length := ⟨_, rfl⟩
        rw [← hn1, ← hn4, ← hn5] at hm
        obtain ⟨a0, a1, a2, a3, a4, a5, a6, a7, a8, af⟩ := st9v hm.box
        obtain ⟨z0, z1, z2, z3, z4, z5, z6, z7, z8, zf⟩ := st9v hm.res
        obtain ⟨r, hr, hR⟩ := MadeR.fin (P := P) hm (W' := put9 wr w.heap.size (.slice p1 n1 c1) (.slice p2 n1 c2) (.slice none 0 0) (.slice p4 n4 c4) (.slice p5 n5 c5) (.int .i64 room) (.slice q Z.length d) (.int .i64 power) (.int .i64 0)) (fun g hg => put9_heap g hg) (put9_below hm.blw (Nat.le_refl _)) hP hZ HM.out.2
        have h9 := put9_same (v0 := .slice p1 n1 c1) (v1 := .slice p2 n1 c2) (v2 := .slice none 0 0) (v3 := .slice p4 n4 c4) (v4 := .slice p5 n5 c5) (v5 := .int .i64 room) (v6 := .slice q Z.length d) (v7 := .int .i64 power) (v8 := .int .i64 0) hm.res
        have hb9 := put9_below (v0 := .slice p1 n1 c1) (v1 := .slice p2 n1 c2) (v2 := .slice none 0 0) (v3 := .slice p4 n4 c4) (v4 := .slice p5 n5 c5) (v5 := .int .i64 room) (v6 := .slice q Z.length d) (v7 := .int .i64 power) (v8 := .int .i64 0) hm.blw (Nat.le_refl _)
        obtain ⟨y0, y1, y2, y3, y4, y5, y6, y7, y8, yf⟩ := st9v h9
        unfold put9 at y0 y1 y2 y3 y4 y5 y6 y7 y8
        have HF := Lib.hid (And.intro hr (And.intro hR (And.intro hok hb9)))
        clear hok hm hr hR h9 hb9 yf hn1 hn4 hn5
        go_wp2_with fail
        refine bodyPost_ret (v := .tuple #[.agg #[.slice p1 n1 c1, .slice p2 n1 c2, .slice none 0 0, .slice p4 n4 c4, .slice p5 n5 c5, .int .i64 room, .slice q Z.length d, .int .i64 power, .int .i64 0], .int .i64 0]) (by simp [results, Tryz.results17, go_sem, y0, y1, y2, y3, y4, y5, y6, y7, y8]) rfl ?_
        exact ⟨.inr ⟨HE0.out HF.out.2.2.1, r, by rw [HF.out.1], HF.out.2.1⟩, HF.out.2.2.2⟩
end Go.Proofs.YtheoklhmlnfgjaaGreatDoor
