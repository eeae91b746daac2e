/-
  The program's disk and the document's over one heap, and blocks that neither of them reads.
-/
import Derived.Test.YtnhfnfdmpcpcoaaDoorHRefStep9
import Derived.Test.YtnhfnfdmpcpcoaaDoorN9f
import Derived.Test.YtnhfnfdmpcpcoaaDoorN9g
namespace Go.Proofs.YtnhfnfdmpcpcoaaDoor
open Go.RowKit Go.Maps
set_option linter.unusedVariables false

/-- a store into a block that is none of the disk's -/
theorem DiskAt.elseAt {w w' : World} {P : Nat → Prop} {dd x : Nat} {S : DiskC} {cs : Array Value} {T : TypeId} {fr : Nat × Nat} (h : DiskAt w P dd S) (hx : w.heap[x]? = some (.cells cs T fr)) (hP : ¬ P x) (h1 : 75 ≠ T) (h2 : 9 ≠ T)
    (h0 : ∀ z, cs[0]? ≠ some (.int .i64 z)) (hE : Else w w' x) : DiskAt w' P dd S where
  blk := (hE _ (fun e => hP (e ▸ h.inP.1))).trans h.blk
  now := h.now.kept (hE _ (fun e => hP (e ▸ h.inP.2.1)))
  safe := h.safe.kept (hE _ (fun e => hP (e ▸ h.inP.2.2.1)))
  ne := h.ne
  row := rowElse h.row hE (fun e => hP (h.inP.2.2.2 x e))
  chg := fun i v c hv hc => ⟨chgElse (h.chg i v c hv hc).1 hE hx h1 h2, (h.chg i v c hv hc).2⟩
  fails := ⟨h.fails.1, invElse h.fails.2.1 hE (fun a ha hn e => by
    have hn : 0 < S.fails.length := by simpa using hn
    obtain ⟨b, o, e2, hc⟩ := h.fails.2.1 (by simpa using hn)
    have ho : o = 0 := by
      have e3 : S.fq.map (fun b => (⟨b, 0, none⟩ : Addr)) = some ⟨b, o, none⟩ := e2
      cases hq : S.fq with
      | none => rw [hq] at e3; cases e3
      | some b' =>
        rw [hq] at e3
        simp only [Option.map_some, Option.some.injEq, Addr.mk.injEq] at e3
        exact e3.2.1.symm
    have ha2 : a = ⟨b, o, none⟩ := Option.some.inj (ha.symm.trans e2)
    subst ha2
    have e : b = x := e
    subst e
    have := hc 0 (by simpa using hn)
    rw [List.getElem_map, ho, cell_of_row _ _ _ _ _ _ hx] at this
    exact h0 _ this), h.fails.2.2⟩
  files := fun i f hf => by
    obtain ⟨a1, a2, a3, a4, a5⟩ := h.files i f hf
    exact ⟨(hE _ (fun e => hP (e ▸ a4))).trans a1, rowElse a2 hE (fun e => hP (a3 x e)), a3, a4, a5⟩
  apart := h.apart
  nowF := h.nowF
  safeF := h.safeF
  inP := h.inP

structure Duo (w0 : World) (N : Nat → Prop) (dd : Nat) (A : Pl) (r : RC) (B : Pl) (W : World) : Prop where
  ex : ∃ P, DiskP W P dd A ∧ (∀ g, P g → w0.heap.size ≤ g ∧ ¬ N g) ∧ RefP (fun g => P g ∨ N g) W r B
  lt : ∀ g, N g → g < W.heap.size
  blw : Below w0.heap.size w0 W
theorem Duo.dp {w0 W : World} {N : Nat → Prop} {dd : Nat} {A B : Pl} {r : RC} (h : Duo w0 N dd A r B W) : DP w0 dd A W := by
  obtain ⟨P, h1, h2, _⟩ := h.ex
  exact ⟨P, h1, fun g hg => (h2 g hg).1, h.blw⟩
theorem Duo.ref {w0 W : World} {N : Nat → Prop} {dd : Nat} {A B : Pl} {r : RC} (h : Duo w0 N dd A r B W) : RefAt W r B := by
  obtain ⟨P, _, _, h3⟩ := h.ex
  exact h3.plain
theorem Duo.add {w0 W W' : World} {N : Nat → Prop} {dd : Nat} {A B : Pl} {r : RC} (h : Duo w0 N dd A r B W) (hb : Below W.heap.size W W') (N' : Nat → Prop) (hN' : ∀ g, N' g → N g ∨ (W.heap.size ≤ g ∧ g < W'.heap.size)) : Duo w0 N' dd A r B W' := by
  obtain ⟨P, h1, h2, h3⟩ := h.ex
  refine ⟨⟨_, h1.shrink.below hb, fun g hg => ⟨(h2 g hg.1).1, fun e => ?_⟩, h3.step (fun k hk _ => hb.block k hk) fun k hk => ?_⟩, fun g hg => ?_, h.blw.trans (hb.mono h.blw.size)⟩
  · rcases hN' g e with e | e
    · exact (h2 g hg.1).2 e
    · have := hg.2; omega
  · rcases hk with hk | hk
    · exact .inl (.inl hk.1)
    · rcases hN' k hk with e | e
      · exact .inl (.inr e)
      · exact .inr e.1
  · rcases hN' g hg with e | e
    · exact Nat.lt_of_lt_of_le (h.lt g e) hb.size
    · exact e.2
theorem Duo.below {w0 W W' : World} {N : Nat → Prop} {dd : Nat} {A B : Pl} {r : RC} (h : Duo w0 N dd A r B W) (hb : Below W.heap.size W W') : Duo w0 N dd A r B W' :=
  h.add hb N fun _ hg => .inl hg
/-- the disk's step -/
theorem Duo.step {w0 W w' : World} {N : Nat → Prop} {dd : Nat} {A B : Pl} {r : RC} {o : Opp} {e : Ending} {P : Nat → Prop} (h2 : ∀ g, P g → w0.heap.size ≤ g ∧ ¬ N g) (h3 : RefP (fun g => P g ∨ N g) W r B) (hlt : ∀ g, N g → g < W.heap.size) (hb : Below w0.heap.size w0 W) (hp : StepPost W P dd A o e w') :
    Duo w0 N dd (doP A o).1 r B w' ∧ ∀ g, N g → w'.heap[g]? = W.heap[g]? := by
  have hd := DP.step hb (fun g hg => (h2 g hg).1) hp
  obtain ⟨_, ⟨P', h4, h5⟩, ho⟩ := hp
  obtain ⟨_, _, _, hb'⟩ := hd
  refine ⟨⟨⟨P', h4, fun g hg => ?_, h3.step (fun k hk hn => ho.block k hk (fun e => hn (.inl e))) fun k hk => ?_⟩, fun g hg => Nat.lt_of_lt_of_le (hlt g hg) ho.size, hb'⟩, fun g hg => ho.block g (hlt g hg) fun e => (h2 g e).2 hg⟩
  · rcases h5 g hg with h | h
    · exact h2 g h
    · exact ⟨Nat.le_trans hb.size h, fun e => by have := hlt g e; omega⟩
  · rcases hk with hk | hk
    · rcases h5 k hk with h | h
      · exact .inl (.inl h)
      · exact .inr h
    · exact .inl (.inr hk)
theorem do_duo {w0 W : World} {N : Nat → Prop} {dd : Nat} {A B : Pl} {r : RC} (h : Duo w0 N dd A r B W) (wh : Int) (na nb : ByteArray) (l : BS) (q : Option Addr) (m c : Nat) (hm : l.length = m) (hs : na.data.toList.length + nb.data.toList.length + l.length ≤ 1048576) (hin : In8 W q l) (hfit : FitP A) :
    Calls Tryd.prog 25 #[.pointer (some ⟨dd, 0, none⟩), .agg #[.int .i64 (stepI wh), .string na, .string nb, .slice q m c]] W fun e w' => ∃ z, e = .returned (.int .i64 z) ∧ z = (doP A (opOf wh na.data.toList nb.data.toList l)).2 ∧ Duo w0 N dd (doP A (opOf wh na.data.toList nb.data.toList l)).1 r B w' ∧ ∀ g, N g → w'.heap[g]? = W.heap[g]? := by
  obtain ⟨P, h1, h2, h3⟩ := h.ex
  rw [size_list, size_list] at hs
  have := do_any h1 (stepI wh) na nb l q m c hm (by omega) (by omega) (by omega) hin hfit
  rw [opOf_step] at this
  exact this.mono fun e w' hp => ⟨_, hp.1, rfl, Duo.step h2 h3 h.lt h.blw hp⟩
theorem appendD_duo {w0 W : World} {N : Nat → Prop} {dd : Nat} {A B : Pl} {r : RC} (h : Duo w0 N dd A r B W) (nm : ByteArray) (hnm : nm.size ≤ 140737488351232) (l : BS) (p : Option Addr) (n c : Nat) (hn : l.length = n) (hl : n ≤ 140737488351232) (hin : In8 W p l) (hfit : FitP A) :
    Calls Tryd.prog 13 #[.pointer (some ⟨dd, 0, none⟩), .string nm, .slice p n c] W fun e w' => ∃ z, e = .returned (.int .i64 z) ∧ z = (doP A (.append nm.data.toList l)).2 ∧ Duo w0 N dd (doP A (.append nm.data.toList l)).1 r B w' ∧ ∀ g, N g → w'.heap[g]? = W.heap[g]? := by
  obtain ⟨P, h1, h2, h3⟩ := h.ex
  exact (append_p h1 nm hnm l p n c hn hl hin hfit).mono fun e w' hp => ⟨_, hp.1, rfl, Duo.step h2 h3 h.lt h.blw hp⟩
/-- the document's step -/
theorem refStep_duo {w0 W : World} {N : Nat → Prop} {dd : Nat} {A B : Pl} {r : RC} (h : Duo w0 N dd A r B W) (wh : Int) (na nb : ByteArray) (l : BS) (q : Option Addr) (m c : Nat) (hm : l.length = m) (hs : na.data.toList.length + nb.data.toList.length + l.length ≤ 1048576) (hin : In8 W q l) (hI : Inv B) (hfit : FitP B) :
    Calls Tryd.prog 26 #[.agg (stC r B), .agg #[.int .i64 (stepI wh), .string na, .string nb, .slice q m c]] W fun e w' => ∃ r', e = .returned (.tuple #[.agg (stC r' (doP B (opOf wh na.data.toList nb.data.toList l)).1), .int .i64 (doP B (opOf wh na.data.toList nb.data.toList l)).2]) ∧ Duo w0 N dd A r' (doP B (opOf wh na.data.toList nb.data.toList l)).1 w' ∧ Below W.heap.size W w' := by
  obtain ⟨P, h1, h2, h3⟩ := h.ex
  rw [size_list, size_list] at hs
  have h3' : RefP (fun g => (P g ∧ g < W.heap.size) ∨ N g) W r B := h3.step (fun _ _ _ => rfl) fun k hk => .inl (hk.imp (fun e => e.1) id)
  refine (refStep_any _ r B wh na nb l q m c hm W (fun g hg => ?_) h3' hin hI hfit (by omega) (by omega) (by omega)).mono ?_
  · rcases hg with hg | hg
    · exact hg.2
    · exact h.lt g hg
  · rintro e w' ⟨r', h4, h5, h6⟩
    exact ⟨r', h4, ⟨⟨_, h1.shrink.below h6, fun g hg => h2 g hg.1, h5⟩, fun g hg => Nat.lt_of_lt_of_le (h.lt g hg) h6.size, h.blw.trans (h6.mono h.blw.size)⟩, h6⟩
/-- a store into one of the blocks N -/
theorem Duo.write {w0 W W' : World} {N : Nat → Prop} {dd x : Nat} {A B : Pl} {r : RC} {cs : Array Value} {T : TypeId} {fr : Nat × Nat} (h : Duo w0 N dd A r B W) (hx : W.heap[x]? = some (.cells cs T fr)) (hN : N x) (h1 : 75 ≠ T) (h2 : 9 ≠ T)
    (h0 : ∀ z, cs[0]? ≠ some (.int .i64 z)) (hE : Else W W' x) (hs : W'.heap.size = W.heap.size) (hb : Below w0.heap.size w0 W') : Duo w0 N dd A r B W' := by
  obtain ⟨P, ⟨S, g1, g2⟩, h3, h4⟩ := h.ex
  refine ⟨⟨P, ⟨S, g1.elseAt hx (fun e => (h3 x e).2 hN) h1 h2 h0 hE, g2⟩, h3, h4.step (fun k _ hn => hE k fun e => hn (.inr (e ▸ hN))) fun k hk => .inl hk⟩, fun g hg => by rw [hs]; exact h.lt g hg, hb⟩
/-- a disk that is new, and a state that reads so without it -/
theorem Duo.start {w0 W W' : World} {P : Nat → Prop} {dd : Nat} {A B : Pl} {r : RC} (h : DiskP W P dd A) (hP : ∀ g, P g → w0.heap.size ≤ g) (hb : Below w0.heap.size w0 W) (hr : RefP (fun g => P g ∧ g < W.heap.size) W' r B) (hb' : Below W.heap.size W W') : Duo w0 (fun _ => False) dd A r B W' :=
  ⟨⟨_, h.shrink.below hb', fun g hg => ⟨hP g hg.1, id⟩, hr.step (fun _ _ _ => rfl) fun k hk => .inl (hk.elim id False.elim)⟩, fun g hg => hg.elim, hb.trans (hb'.mono hb.size)⟩
theorem steps_dp {w0 W : World} {dd : Nat} {A : Pl} (h : DP w0 dd A W) :
    Calls Tryd.prog 37 #[.pointer (some ⟨dd, 0, none⟩)] W fun e w' => e = .returned (.int .i64 (A.steps : Int)) ∧ Below W.heap.size W w' := by
  obtain ⟨P, ⟨S, h1, he⟩, h2, h3⟩ := h
  rw [← he]
  exact steps_any h1
theorem Duo.less {w0 W : World} {N N' : Nat → Prop} {dd : Nat} {A B : Pl} {r : RC} (h : Duo w0 N dd A r B W) (hN : ∀ g, N' g → N g) : Duo w0 N' dd A r B W :=
  h.add (Below.refl _ W) N' fun g hg => .inl (hN g hg)
theorem inv_mask {P : Nat → Prop} {w1 W g : World} {q : Option Addr} {xs : List Value} (h : InV w1 q xs) (hb : Below w1.heap.size w1 W) (hP : ∀ k, P k → w1.heap.size ≤ k) (hg : IsMask P W g) : InV g q xs := by
  intro h0
  obtain ⟨b, o, rfl, hc⟩ := h h0
  refine ⟨b, o, rfl, fun i hi => ?_⟩
  have h1 := hc i hi
  have hlt := World.block_lt_of_cell? w1 _ h1
  simp only at hlt
  unfold World.cell? at h1 ⊢
  rw [hg.same b (fun e => by have := hP b e; omega), hb.block b hlt]
  exact h1
end Go.Proofs.YtnhfnfdmpcpcoaaDoor
