/-
  The document's disk: Step.
-/
import Derived.Test.YtheoklhmlnfgjaaGreatDoorHvRefStep1
import Derived.Test.YtheoklhmlnfgjaaGreatDoorHvRefStep2
import Derived.Test.YtheoklhmlnfgjaaGreatDoorHvRefStep3
import Derived.Test.YtheoklhmlnfgjaaGreatDoorHvRefStep4
import Derived.Test.YtheoklhmlnfgjaaGreatDoorHvRefStep5
import Derived.Test.YtheoklhmlnfgjaaGreatDoorHvRefStep6
import Derived.Test.YtheoklhmlnfgjaaGreatDoorPk5
import Derived.Test.YtheoklhmlnfgjaaGreatDoorHvSwOpen
import Derived.Test.YtheoklhmlnfgjaaGreatDoorPk1
import Derived.Test.YtheoklhmlnfgjaaGreatDoorHvRefLeftA
import Derived.Test.YtheoklhmlnfgjaaGreatDoorHvRefLeftB
import Derived.Test.YtheoklhmlnfgjaaGreatDoorHvRefLeftC
import Derived.Test.YtheoklhmlnfgjaaGreatDoorHvRefLeftD
import Derived.Deep.RegionWith
namespace Go.Proofs.YtheoklhmlnfgjaaGreatDoor
open Go.RowKit Go.Maps

theorem refStep_any (P : Nat → Prop) (r : RC) (A : Pl) (wh : Int) (na nb : ByteArray) (l : BS) (q : Option Addr) (n c : Nat) (hn : l.length = n) (w : World) (hP : ∀ g, P g → g < w.heap.size) (h : RefP P w r A) (hin : In8 w q l) (hI : Inv A) (hfit : FitP A) (hna : na.size ≤ 140737488351232) (hnb : nb.size ≤ 140737488351232) (hl : n ≤ 1000000000) :
    Calls Tryz.prog 51 #[.agg (stC r A), .agg #[.int .i64 (stepI wh), .string na, .string nb, .slice q n c]] w (RStep P w A (opOf wh na.data.toList nb.data.toList l)) := by
  rw [← opOf_step]
  obtain ⟨z, hz⟩ : ∃ z, z = stepI wh := ⟨_, rfl⟩
  have hw : z = 1 ∨ z = 2 ∨ z = 3 ∨ z = 4 ∨ z = 5 ∨ z = 6 := by rw [hz]; unfold stepI; split <;> omega
  rw [← hz]
  clear hz
  rcases hw with rfl | rfl | rfl | rfl | rfl | rfl
  · exact refStep1_any P r A na nb l q n c hn w hP h hin hI hfit hna hnb hl
  · exact refStep2_any P r A na nb l q n c hn w hP h hin hI hfit hna hnb hl
  · exact refStep3_any P r A na nb l q n c hn w hP h hin hI hfit hna hnb hl
  · exact refStep4_any P r A na nb l q n c hn w hP h hin hI hfit hna hnb hl
  · exact refStep5_any P r A na nb l q n c hn w hP h hin hI hfit hna hnb hl
  · exact refStep6_any P r A na nb l q n c hn w hP h hin hI hfit hna hnb hl
end Go.Proofs.YtheoklhmlnfgjaaGreatDoor
/-
  The program's disk and the document's over one heap, and blocks that neither of them reads.
-/
namespace Go.Proofs.YtheoklhmlnfgjaaGreatDoor
open Go.RowKit Go.Maps
set_option linter.unusedVariables false


structure Duo (w0 : World) (N : Nat → Prop) (dd : Nat) (A : Pl) (r : RC) (B : Pl) (W : World) : Prop where
  ex : ∃ P, DiskP W P dd A ∧ (∀ g, P g → w0.heap.size ≤ g ∧ ¬ N g) ∧ RefP (fun g => P g ∨ N g) W r B
  lt : ∀ g, N g → g < W.heap.size
  blw : Below w0.heap.size w0 W
theorem Duo.dp {w0 W : World} {N : Nat → Prop} {dd : Nat} {A B : Pl} {r : RC} (h : Duo w0 N dd A r B W) : DP w0 dd A W := by
  obtain ⟨P, h1, h2, _⟩ := h.ex
  exact ⟨P, h1, fun g hg => (h2 g hg).1, h.blw⟩
theorem Duo.ref {w0 W : World} {N : Nat → Prop} {dd : Nat} {A B : Pl} {r : RC} (h : Duo w0 N dd A r B W) : RefAt W r B := by
  obtain ⟨P, _, _, h3⟩ := h.ex
  exact h3.plain
theorem Duo.add {w0 W W' : World} {N : Nat → Prop} {dd : Nat} {A B : Pl} {r : RC} (h : Duo w0 N dd A r B W) (hb : Below W.heap.size W W') (N' : Nat → Prop) (hN' : ∀ g, N' g → N g ∨ (W.heap.size ≤ g ∧ g < W'.heap.size)) : Duo w0 N' dd A r B W' := by
  obtain ⟨P, h1, h2, h3⟩ := h.ex
  refine ⟨⟨_, h1.shrink.below hb, fun g hg => ⟨(h2 g hg.1).1, fun e => ?_⟩, h3.step (fun k hk _ => hb.block k hk) fun k hk => ?_⟩, fun g hg => ?_, h.blw.trans (hb.mono h.blw.size)⟩
  · rcases hN' g e with e | e
    · exact (h2 g hg.1).2 e
    · have := hg.2; omega
  · rcases hk with hk | hk
    · exact .inl (.inl hk.1)
    · rcases hN' k hk with e | e
      · exact .inl (.inr e)
      · exact .inr e.1
  · rcases hN' g hg with e | e
    · exact Nat.lt_of_lt_of_le (h.lt g e) hb.size
    · exact e.2
theorem Duo.below {w0 W W' : World} {N : Nat → Prop} {dd : Nat} {A B : Pl} {r : RC} (h : Duo w0 N dd A r B W) (hb : Below W.heap.size W W') : Duo w0 N dd A r B W' :=
  h.add hb N fun _ hg => .inl hg
/-- the disk's step -/
theorem Duo.step {w0 W w' : World} {N : Nat → Prop} {dd : Nat} {A B : Pl} {r : RC} {o : Opp} {e : Ending} {P : Nat → Prop} (h2 : ∀ g, P g → w0.heap.size ≤ g ∧ ¬ N g) (h3 : RefP (fun g => P g ∨ N g) W r B) (hlt : ∀ g, N g → g < W.heap.size) (hb : Below w0.heap.size w0 W) (hp : StepPost W P dd A o e w') :
    Duo w0 N dd (doP A o).1 r B w' ∧ ∀ g, N g → w'.heap[g]? = W.heap[g]? := by
  have hd := DP.step hb (fun g hg => (h2 g hg).1) hp
  obtain ⟨_, ⟨P', h4, h5⟩, ho⟩ := hp
  obtain ⟨_, _, _, hb'⟩ := hd
  refine ⟨⟨⟨P', h4, fun g hg => ?_, h3.step (fun k hk hn => ho.block k hk (fun e => hn (.inl e))) fun k hk => ?_⟩, fun g hg => Nat.lt_of_lt_of_le (hlt g hg) ho.size, hb'⟩, fun g hg => ho.block g (hlt g hg) fun e => (h2 g e).2 hg⟩
  · rcases h5 g hg with h | h
    · exact h2 g h
    · exact ⟨Nat.le_trans hb.size h, fun e => by have := hlt g e; omega⟩
  · rcases hk with hk | hk
    · rcases h5 k hk with h | h
      · exact .inl (.inl h)
      · exact .inr h
    · exact .inl (.inr hk)
theorem appendD_duo {w0 W : World} {N : Nat → Prop} {dd : Nat} {A B : Pl} {r : RC} (h : Duo w0 N dd A r B W) (nm : ByteArray) (hnm : nm.size ≤ 140737488351232) (l : BS) (p : Option Addr) (n c : Nat) (hn : l.length = n) (hl : n ≤ 140737488351232) (hin : In8 W p l) (hfit : FitP A) :
    Calls Tryz.prog 61 #[.pointer (some ⟨dd, 0, none⟩), .string nm, .slice p n c] W fun e w' => ∃ z, e = .returned (.int .i64 z) ∧ z = (doP A (.append nm.data.toList l)).2 ∧ Duo w0 N dd (doP A (.append nm.data.toList l)).1 r B w' ∧ ∀ g, N g → w'.heap[g]? = W.heap[g]? := by
  obtain ⟨P, h1, h2, h3⟩ := h.ex
  exact (append_p h1 nm hnm l p n c hn hl hin hfit).mono fun e w' hp => ⟨_, hp.1, rfl, Duo.step h2 h3 h.lt h.blw hp⟩
/-- the document's step -/
theorem refStep_duo {w0 W : World} {N : Nat → Prop} {dd : Nat} {A B : Pl} {r : RC} (h : Duo w0 N dd A r B W) (wh : Int) (na nb : ByteArray) (l : BS) (q : Option Addr) (m c : Nat) (hm : l.length = m) (hs : na.data.toList.length + nb.data.toList.length + l.length ≤ 1048576) (hin : In8 W q l) (hI : Inv B) (hfit : FitP B) :
    Calls Tryz.prog 51 #[.agg (stC r B), .agg #[.int .i64 (stepI wh), .string na, .string nb, .slice q m c]] W fun e w' => ∃ r', e = .returned (.tuple #[.agg (stC r' (doP B (opOf wh na.data.toList nb.data.toList l)).1), .int .i64 (doP B (opOf wh na.data.toList nb.data.toList l)).2]) ∧ Duo w0 N dd A r' (doP B (opOf wh na.data.toList nb.data.toList l)).1 w' ∧ Below W.heap.size W w' := by
  obtain ⟨P, h1, h2, h3⟩ := h.ex
  rw [size_list, size_list] at hs
  have h3' : RefP (fun g => (P g ∧ g < W.heap.size) ∨ N g) W r B := h3.step (fun _ _ _ => rfl) fun k hk => .inl (hk.imp (fun e => e.1) id)
  refine (refStep_any _ r B wh na nb l q m c hm W (fun g hg => ?_) h3' hin hI hfit (by omega) (by omega) (by omega)).mono ?_
  · rcases hg with hg | hg
    · exact hg.2
    · exact h.lt g hg
  · rintro e w' ⟨r', h4, h5, h6⟩
    exact ⟨r', h4, ⟨⟨_, h1.shrink.below h6, fun g hg => h2 g hg.1, h5⟩, fun g hg => Nat.lt_of_lt_of_le (h.lt g hg) h6.size, h.blw.trans (h6.mono h.blw.size)⟩, h6⟩
/-- a store into one of the blocks N -/
theorem Duo.write {w0 W W' : World} {N : Nat → Prop} {dd x : Nat} {A B : Pl} {r : RC} {cs : Array Value} {T : TypeId} {fr : Nat × Nat} (h : Duo w0 N dd A r B W) (hx : W.heap[x]? = some (.cells cs T fr)) (hN : N x) (h1 : 117 ≠ T) (h2 : 9 ≠ T)
    (h0 : ∀ z, cs[0]? ≠ some (.int .i64 z)) (hE : Else W W' x) (hs : W'.heap.size = W.heap.size) (hb : Below w0.heap.size w0 W') : Duo w0 N dd A r B W' := by
  obtain ⟨P, ⟨S, g1, g2⟩, h3, h4⟩ := h.ex
  refine ⟨⟨P, ⟨S, g1.elseAt hx (fun e => (h3 x e).2 hN) h1 h2 h0 hE, g2⟩, h3, h4.step (fun k _ hn => hE k fun e => hn (.inr (e ▸ hN))) fun k hk => .inl hk⟩, fun g hg => by rw [hs]; exact h.lt g hg, hb⟩
/-- a disk that is new, and a state that reads so without it -/
theorem Duo.start {w0 W W' : World} {P : Nat → Prop} {dd : Nat} {A B : Pl} {r : RC} (h : DiskP W P dd A) (hP : ∀ g, P g → w0.heap.size ≤ g) (hb : Below w0.heap.size w0 W) (hr : RefP (fun g => P g ∧ g < W.heap.size) W' r B) (hb' : Below W.heap.size W W') : Duo w0 (fun _ => False) dd A r B W' :=
  ⟨⟨_, h.shrink.below hb', fun g hg => ⟨hP g hg.1, id⟩, hr.step (fun _ _ _ => rfl) fun k hk => .inl (hk.elim id False.elim)⟩, fun g hg => hg.elim, hb.trans (hb'.mono hb.size)⟩
theorem Duo.less {w0 W : World} {N N' : Nat → Prop} {dd : Nat} {A B : Pl} {r : RC} (h : Duo w0 N dd A r B W) (hN : ∀ g, N' g → N g) : Duo w0 N' dd A r B W :=
  h.add (Below.refl _ W) N' fun g hg => .inl (hN g hg)
theorem inv_mask {P : Nat → Prop} {w1 W g : World} {q : Option Addr} {xs : List Value} (h : InV w1 q xs) (hb : Below w1.heap.size w1 W) (hP : ∀ k, P k → w1.heap.size ≤ k) (hg : IsMask P W g) : InV g q xs := by
  intro h0
  obtain ⟨b, o, rfl, hc⟩ := h h0
  refine ⟨b, o, rfl, fun i hi => ?_⟩
  have h1 := hc i hi
  have hlt := World.block_lt_of_cell? w1 _ h1
  simp only at hlt
  unfold World.cell? at h1 ⊢
  rw [hg.same b (fun e => by have := hP b e; omega), hb.block b hlt]
  exact h1
end Go.Proofs.YtheoklhmlnfgjaaGreatDoor
/-
  alive, of chapter 11: calls whose answers the document fixes.
-/
namespace Go.Proofs.YtheoklhmlnfgjaaGreatDoor
open Go.RowKit Go.Maps
set_option linter.unusedVariables false

def sw0 : Pl := newP [] 999 [] (-1)
theorem sw_new : newE [] 999 = 0 := by
  unfold newE
  rw [if_neg (by omega), if_pos ⟨(fun f hf => by cases hf), List.Pairwise.nil⟩]
theorem sw_good : GoodS 0 sw0 := ⟨GoodA.new (-1) sw_new (by decide), fun f hf => by cases hf⟩
theorem sw_open : (openP sw0).2.1 = [] ∧ (openP sw0).2.2 = 0 ∧ (openP sw0).1.steps = 3 := ⟨by kernel_rfl, by kernel_rfl, by kernel_rfl⟩
theorem sw_add : (addP (openP sw0).1 0 1 0 [97]).2.1 = 1 ∧ (addP (openP sw0).1 0 1 0 [97]).2.2 = 0 ∧ (addP (openP sw0).1 0 1 0 [97]).1.steps = 5 ∧ usedP (addP (openP sw0).1 0 1 0 [97]).1 = 16 := ⟨by kernel_rfl, by kernel_rfl, by kernel_rfl, by kernel_rfl⟩
/-- a disk and its log that lie behind w0 -/
def LP (w0 : World) (lb dd : Nat) (A : Pl) (n : Int) (W : World) : Prop := ∃ P, DiskP W P dd A ∧ (∀ g, P g → w0.heap.size ≤ g ∧ g ≠ lb) ∧ w0.heap.size ≤ lb ∧ LogBox W lb dd n ∧ Below w0.heap.size w0 W
section
variable {w0 W W' : World} {lb dd : Nat} {A : Pl} {n : Int}
theorem LP.dp (h : LP w0 lb dd A n W) : DP w0 dd A W := by
  obtain ⟨P, h1, h2, _, _, h5⟩ := h
  exact ⟨P, h1, fun g hg => (h2 g hg).1, h5⟩
theorem LP.box (h : LP w0 lb dd A n W) : LogBox W lb dd n := by
  obtain ⟨P, _, _, _, h4, _⟩ := h
  exact h4
theorem LP.blw (h : LP w0 lb dd A n W) : Below w0.heap.size w0 W := by
  obtain ⟨P, _, _, _, _, h5⟩ := h
  exact h5
theorem LP.below (h : LP w0 lb dd A n W) (hb : Below W.heap.size W W') : LP w0 lb dd A n W' := by
  obtain ⟨P, h1, h2, h3, h4, h5⟩ := h
  exact ⟨P, h1.below hb, h2, h3, h4.below hb, h5.trans (hb.mono h5.size)⟩
theorem LP.post {P : Nat → Prop} {B : Pl} {m : Int} (h2 : ∀ g, P g → w0.heap.size ≤ g ∧ g ≠ lb) (h3 : w0.heap.size ≤ lb) (h4 : lb < W.heap.size) (h5 : Below w0.heap.size w0 W) (hp : LogPost W P lb dd B m W') : LP w0 lb dd B m W' := by
  obtain ⟨⟨P', g1, g2⟩, g3, g4⟩ := hp
  refine ⟨P', g1, fun g hg => ?_, h3, g3, h5.trans (g4.below (B := w0.heap.size) (fun k hk => ?_) h5.size)⟩
  · rcases g2 g hg with e | e
    · exact h2 g e
    · exact ⟨Nat.le_trans h5.size e, by omega⟩
  · rcases hk with e | e
    · exact (h2 k e).1
    · rw [e]; exact h3
theorem add_lp {g : Nat} (h : LP w0 lb dd A n W) (hA : GoodS g A) (hg : g ≤ 999000) (hn0 : 0 ≤ n) (hn1 : n ≤ 1000000000000) (op no : Int) (id : ByteArray) :
    Calls Tryz.prog 26 #[.pointer (some ⟨lb, 0, none⟩), .int .i64 op, .int .i64 no, .string id] W fun e w' => e = .returned (.int .i64 (addP A n op no id.data.toList).2.2) ∧ LP w0 lb dd (addP A n op no id.data.toList).1 (addP A n op no id.data.toList).2.1 w' := by
  obtain ⟨P, h1, h2, h3, h4, h5⟩ := h
  exact (add_p h1 h4 (fun e => (h2 lb e).2 rfl) hA hg hn0 hn1 op no id).mono fun e w' hp => ⟨hp.1, LP.post h2 h3 h4.lt h5 hp.2⟩
theorem open_lp {g : Nat} (h : DP w0 dd A W) (hA : GoodS g A) (hg : g ≤ 990000) :
    Calls Tryz.prog 18 #[.pointer (some ⟨dd, 0, none⟩)] W fun e w' =>
      ((openP A).2.2 ≠ 0 ∧ e = .returned (.tuple #[.pointer none, .slice none 0 0, .int .i64 (openP A).2.2]) ∧ DP w0 dd (openP A).1 w') ∨
      ((openP A).2.2 = 0 ∧ ∃ lb p c, e = .returned (.tuple #[.pointer (some ⟨lb, 0, none⟩), .slice p (openP A).2.1.length c, .int .i64 0]) ∧ LP w0 lb dd (openP A).1 (openP A).2.1.length w' ∧ InRc w' p (openP A).2.1) := by
  obtain ⟨P, h1, h2, h3⟩ := h
  have hsz := h3.size
  have bl : ∀ {N : Nat → Prop} {B : Pl} {w' : World}, DK W P N dd B w' → Below w0.heap.size w0 w' := fun hd => h3.trans (hd.2.2.below (fun k hk => h2 k hk) hsz)
  refine (open_p h1 hA hg).mono ?_
  rintro e w' (⟨hz, rfl, hd⟩ | ⟨hz, lb, p, c, rfl, hd, hl, hlb, hp, hin⟩)
  · refine .inl ⟨hz, rfl, ?_⟩
    have hb := bl hd
    obtain ⟨⟨P', g1, g2⟩, _, _⟩ := hd
    exact ⟨P', g1, fun g hg => (g2 g hg).1.elim (h2 g) (fun e => Nat.le_trans hsz e), hb⟩
  · refine .inr ⟨hz, lb, p, c, rfl, ?_, hin⟩
    have hb := bl hd
    obtain ⟨⟨P', g1, g2⟩, _, _⟩ := hd
    exact ⟨P', g1, fun g hg => ⟨(g2 g hg).1.elim (h2 g) (fun e => Nat.le_trans hsz e), fun e => (g2 g hg).2 (.inl e)⟩, Nat.le_trans hsz hlb, hl, hb⟩
end

set_option maxRecDepth 100000 in
set_option maxHeartbeats 8000000 in
theorem alive11_any (w : World) : Calls Tryz.prog 8 #[] w fun e w' => e = .returned (.bool true) ∧ Below w.heap.size w w' := by
  have hnew := new_p [] none 0 0 rfl 999 [] none 0 0 rfl (-1) w (InFs.nil _ _) (fun h => absurd h (by simp)) (by decide) (fun f hf => by cases hf) (by decide)
  rw [sw_new] at hnew
  obtain ⟨s1, s2, s3⟩ := sw_open
  obtain ⟨t1, t2, t3, t4⟩ := sw_add
  have g1 := sw_good.open
  have g2 := g1.add 0 1 0 [97]
  have hop := fun W dd (h : DP w dd sw0 W) => open_lp h sw_good (by decide)
  obtain ⟨B1, hB1⟩ : ∃ x, x = openP sw0 := ⟨_, rfl⟩
  rw [← hB1] at s1 s2 s3 g1 g2 t1 t2 t3 t4 hop
  obtain ⟨B2, hB2⟩ : ∃ x, x = addP B1.1 0 1 0 [97] := ⟨_, rfl⟩
  rw [← hB2] at t1 t2 t3 t4 g2
  rw [s1, s2] at hop
  have HG := Lib.hid (And.intro s3 (And.intro t1 (And.intro t2 (And.intro t3 (And.intro t4 (And.intro g1 (And.intro g2 hB2)))))))
  have HOP := Lib.hid hop
  clear s1 s2 s3 t1 t2 t3 t4 g1 g2 hop hB1 hB2
  go_enter Tryz.func8, Tryz.ntmps8
  go_wp2_with fail
  refine hnew.mono ?_
  rintro e w1 ⟨⟨h0, _⟩ | ⟨_, dd, P, rfl, hd, hP⟩, hb1⟩
  · exact absurd rfl h0
  clear hnew
  have H1 := Lib.hid (show DP w dd sw0 w1 from ⟨P, hd, hP, hb1⟩)
  clear hd hP hb1
  go_wp2_with fail
  refine (HOP.out _ _ H1.out).mono ?_
  rintro e w2 (⟨h0, _⟩ | ⟨_, lb, p, c, rfl, hl, _⟩)
  · exact absurd rfl h0
  have H2 := Lib.hid hl
  clear hl
  go_wp2_with fail
  refine (steps_dp H2.out.dp).mono ?_
  rintro e w3 ⟨rfl, hb3⟩
  rw [HG.out.1]
  have H3 := Lib.hid (H2.out.below hb3)
  clear hb3
  go_wp2_with fail
  refine (add_lp H3.out HG.out.2.2.2.2.2.1 (by omega) (Int.le_refl _) (by decide) 1 0 ⟨#[97]⟩).mono ?_
  rw [show (⟨#[97]⟩ : ByteArray).data.toList = [97] from rfl]
  rw [show (([] : List Rcd).length : Int) = 0 from rfl, ← HG.out.2.2.2.2.2.2.2, HG.out.2.1, HG.out.2.2.1]
  rintro e w4 ⟨rfl, hl4⟩
  have H4 := Lib.hid hl4
  clear hl4
  go_wp2_with fail
  refine (count_any H4.out.box).mono ?_
  rintro e w5 ⟨rfl, hw5⟩
  have H5 := Lib.hid (show LP w lb dd B2.1 1 w5 by rw [hw5]; exact H4.out)
  clear hw5
  go_wp2_with fail
  refine (steps_dp H5.out.dp).mono ?_
  rintro e w6 ⟨rfl, hb6⟩
  rw [HG.out.2.2.2.1]
  have H6 := Lib.hid (H5.out.below hb6)
  clear hb6
  go_wp2_with fail
  refine (used_dp H6.out.dp HG.out.2.2.2.2.2.2.1.good (by decide)).mono ?_
  rintro e w7 ⟨rfl, hb7⟩
  rw [HG.out.2.2.2.2.1]
  have H7 := Lib.hid (H6.out.below hb7)
  clear hb7
  go_wp2_with fail
  go_ret
  exact ⟨rfl, H7.out.blw⟩
end Go.Proofs.YtheoklhmlnfgjaaGreatDoor
/-
  A log and its disk, beside a row of records that grows.
-/
namespace Go.Proofs.YtheoklhmlnfgjaaGreatDoor
open Go.RowKit Go.Maps
set_option linter.unusedVariables false

theorem IsChg.elseLt {w w' : World} {x : Nat} {v : Value} {c : Chg} {cs : Array Value} {T : TypeId} {fr : Nat × Nat} (h : IsChg w v c) (hx : w.heap[x]? = some (.cells cs T fr)) (h1 : 117 ≠ T) (h2 : 9 ≠ T)
    (hE : ∀ g, g < w.heap.size → g ≠ x → w'.heap[g]? = w.heap[g]?) : IsChg w' v c := by
  have kf : ∀ (b : Nat) (u : Value), w.heap[b]? = some (.cells #[u] 117 (0, 0)) → w'.heap[b]? = some (.cells #[u] 117 (0, 0)) := fun b u hb => (hE b (lt_of_heap hb) (fun e => by
    subst e
    rw [hx] at hb
    injection hb with hb
    injection hb with _ e2 _
    exact h1 e2.symm)).trans hb
  have ks : ∀ (b : Nat) (u : Value), w.heap[b]? = some (.cells #[u] 9 (0, 0)) → w'.heap[b]? = some (.cells #[u] 9 (0, 0)) := fun b u hb => (hE b (lt_of_heap hb) (fun e => by
    subst e
    rw [hx] at hb
    injection hb with hb
    injection hb with _ e2 _
    exact h2 e2.symm)).trans hb
  cases c with
  | put k f =>
    obtain ⟨bf, bk, nm, g1, g2, g3, g4, g5⟩ := h
    exact ⟨bf, bk, nm, g1, g2, g3, kf _ _ g4, ks _ _ g5⟩
  | ren a k f =>
    obtain ⟨ba, bf, bk, na, nm, g1, g2, g3, g4, g5, g6, g7, g8⟩ := h
    exact ⟨ba, bf, bk, na, nm, g1, g2, g3, g4, g5, ks _ _ g6, kf _ _ g7, ks _ _ g8⟩
  | del k =>
    obtain ⟨bk, nm, g1, g2, g3, g4⟩ := h
    exact ⟨bk, nm, g1, g2, g3, ks _ _ g4⟩
/-- whatever turns in one block that is none of the disk's -/
theorem DiskAt.elseLt {w w' : World} {P : Nat → Prop} {dd x : Nat} {S : DiskC} {cs : Array Value} {T : TypeId} {fr : Nat × Nat} (h : DiskAt w P dd S) (hx : w.heap[x]? = some (.cells cs T fr)) (hP : ¬ P x) (h1 : 117 ≠ T) (h2 : 9 ≠ T)
    (hf : S.fails = []) (hE : ∀ g, g < w.heap.size → g ≠ x → w'.heap[g]? = w.heap[g]?) : DiskAt w' P dd S where
  blk := (hE _ (lt_of_heap h.blk) (fun e => hP (e ▸ h.inP.1))).trans h.blk
  now := h.now.kept (hE _ h.now.lt (fun e => hP (e ▸ h.inP.2.1)))
  safe := h.safe.kept (hE _ h.safe.lt (fun e => hP (e ▸ h.inP.2.2.1)))
  ne := h.ne
  row := rowKeep h.row fun g cur e hg => hE g (lt_of_heap hg) fun e2 => hP (e2 ▸ h.inP.2.2.2 g e)
  chg := fun i v c hv hc => ⟨(h.chg i v c hv hc).1.elseLt hx h1 h2 hE, (h.chg i v c hv hc).2⟩
  fails := ⟨h.fails.1, fun h0 => absurd h0 (by rw [hf]; simp), h.fails.2.2⟩
  files := fun i f hfi => by
    obtain ⟨a1, a2, a3, a4, a5⟩ := h.files i f hfi
    exact ⟨(hE _ (lt_of_heap a1) (fun e => hP (e ▸ a4))).trans a1, rowKeep a2 fun g cur e hg => hE g (lt_of_heap hg) fun e2 => hP (e2 ▸ a3 g e), a3, a4, a5⟩
  apart := h.apart
  nowF := h.nowF
  safeF := h.safeF
  inP := h.inP

/-- a disk and its log that lie behind w0, none of it in the blocks N -/
structure LPE (w0 : World) (lb dd : Nat) (A : Pl) (n : Int) (N : Nat → Prop) (W : World) : Prop where
  disk : ∃ P, DiskP W P dd A ∧ ∀ g, P g → w0.heap.size ≤ g ∧ g ≠ lb ∧ ¬ N g
  lbn : w0.heap.size ≤ lb ∧ ¬ N lb
  lt : ∀ g, N g → g < W.heap.size
  box : LogBox W lb dd n
  blw : Below w0.heap.size w0 W
section
variable {w0 W W' : World} {lb dd : Nat} {A : Pl} {n : Int} {N : Nat → Prop}
theorem LPE.lp (h : LPE w0 lb dd A n N W) : LP w0 lb dd A n W := by
  obtain ⟨P, h1, h2⟩ := h.disk
  exact ⟨P, h1, fun g hg => ⟨(h2 g hg).1, (h2 g hg).2.1⟩, h.lbn.1, h.box, h.blw⟩
theorem LPE.dp (h : LPE w0 lb dd A n N W) : DP w0 dd A W := h.lp.dp
theorem LP.lpe (h : LP w0 lb dd A n W) (hb : Below W.heap.size W W') (hN : ∀ g, N g → W.heap.size ≤ g ∧ g < W'.heap.size) : LPE w0 lb dd A n N W' := by
  obtain ⟨P, h1, h2, h3, h4, h5⟩ := h
  refine ⟨⟨_, h1.shrink.below hb, fun g hg => ⟨(h2 g hg.1).1, (h2 g hg.1).2, fun e => ?_⟩⟩, ⟨h3, fun e => ?_⟩, fun g hg => (hN g hg).2, h4.below hb, h5.trans (hb.mono h5.size)⟩
  · have := (hN g e).1; have := hg.2; omega
  · have := (hN lb e).1; have := h4.lt; omega
theorem LPE.add (h : LPE w0 lb dd A n N W) (hb : Below W.heap.size W W') (N' : Nat → Prop) (hN : ∀ g, N' g → N g ∨ (W.heap.size ≤ g ∧ g < W'.heap.size)) : LPE w0 lb dd A n N' W' := by
  obtain ⟨⟨P, h1, h2⟩, h3, h4, h5, h6⟩ := h
  refine ⟨⟨_, h1.shrink.below hb, fun g hg => ⟨(h2 g hg.1).1, (h2 g hg.1).2.1, fun e => ?_⟩⟩, ⟨h3.1, fun e => ?_⟩, fun g hg => ?_, h5.below hb, h6.trans (hb.mono h6.size)⟩
  · rcases hN g e with e | e
    · exact (h2 g hg.1).2.2 e
    · have := hg.2; omega
  · rcases hN lb e with e | e
    · exact h3.2 e
    · have := h5.lt; omega
  · rcases hN g hg with e | e
    · exact Nat.lt_of_lt_of_le (h4 g e) hb.size
    · exact e.2
theorem LPE.below (h : LPE w0 lb dd A n N W) (hb : Below W.heap.size W W') : LPE w0 lb dd A n N W' := h.add hb N fun _ hg => .inl hg
theorem LPE.post {P : Nat → Prop} {B : Pl} {m : Int} (h2 : ∀ g, P g → w0.heap.size ≤ g ∧ g ≠ lb ∧ ¬ N g) (h3 : w0.heap.size ≤ lb ∧ ¬ N lb) (h4 : ∀ g, N g → g < W.heap.size) (h5 : LogBox W lb dd n) (h6 : Below w0.heap.size w0 W) (hp : LogPost W P lb dd B m W') : LPE w0 lb dd B m N W' ∧ ∀ g, N g → W'.heap[g]? = W.heap[g]? := by
  obtain ⟨⟨P', g1, g2⟩, g3, g4⟩ := hp
  refine ⟨⟨⟨P', g1, fun g hg => ?_⟩, h3, fun g hg => Nat.lt_of_lt_of_le (h4 g hg) g4.size, g3, h6.trans (g4.below (B := w0.heap.size) (fun k hk => ?_) h6.size)⟩, fun g hg => g4.block g (h4 g hg) fun e => ?_⟩
  · rcases g2 g hg with e | e
    · exact h2 g e
    · exact ⟨Nat.le_trans h6.size e, fun e2 => by have := h5.lt; omega, fun e2 => by have := h4 g e2; omega⟩
  · rcases hk with e | e
    · exact (h2 k e).1
    · rw [e]; exact h3.1
  · rcases e with e | e
    · exact (h2 g e).2.2 hg
    · subst e; exact h3.2 hg
theorem add_lpe {g : Nat} (h : LPE w0 lb dd A n N W) (hA : GoodS g A) (hg : g ≤ 999000) (hn0 : 0 ≤ n) (hn1 : n ≤ 1000000000000) (op no : Int) (id : ByteArray) :
    Calls Tryz.prog 26 #[.pointer (some ⟨lb, 0, none⟩), .int .i64 op, .int .i64 no, .string id] W fun e w' => e = .returned (.int .i64 (addP A n op no id.data.toList).2.2) ∧ LPE w0 lb dd (addP A n op no id.data.toList).1 (addP A n op no id.data.toList).2.1 N w' ∧ ∀ g, N g → w'.heap[g]? = W.heap[g]? := by
  obtain ⟨⟨P, h1, h2⟩, h3, h4, h5, h6⟩ := h
  exact (add_p h1 h5 (fun e => (h2 lb e).2.1 rfl) hA hg hn0 hn1 op no id).mono fun e w' hp => ⟨hp.1, LPE.post h2 h3 h4 h5 h6 hp.2⟩
theorem rewrite_lpe {g : Nat} (h : LPE w0 lb dd A n N W) (hA : GoodS g A) (hg : g ≤ 999000) (L : List Rcd) (p : Option Addr) (m c : Nat) (hL : L.length = m) (hm : m ≤ 1000000000) (hin : InRc W p L) :
    Calls Tryz.prog 24 #[.pointer (some ⟨lb, 0, none⟩), .slice p m c] W fun e w' => e = .returned (.int .i64 (rewriteP A n L).2.2) ∧ LPE w0 lb dd (rewriteP A n L).1 (rewriteP A n L).2.1 N w' ∧ ∀ g, N g → w'.heap[g]? = W.heap[g]? := by
  obtain ⟨⟨P, h1, h2⟩, h3, h4, h5, h6⟩ := h
  exact (rewrite_p h1 h5 (fun e => (h2 lb e).2.1 rfl) hA hg L p m c hL hm hin).mono fun e w' hp => ⟨hp.1, LPE.post h2 h3 h4 h5 h6 hp.2⟩
/-- a row of records beside it grows -/
theorem LPE.grown {v v' : Value} {L M : List Rcd} {base : Nat} (h : LPE w0 lb dd A n (fun g => v.ownBlock = some g) W) (hf : A.fails = []) (hown : OwnRc W base v L) (hb0 : w0.heap.size ≤ base) (hg : W.grownBy W' v.ownBlock) (hw : Way W v v') (hown' : OwnRc W' base v' M) :
    LPE w0 lb dd A n (fun g => v'.ownBlock = some g) W' := by
  obtain ⟨⟨P, ⟨S, h1, he⟩, h2⟩, h3, h4, h5, h6⟩ := h
  have hfS : S.fails = [] := by rw [← he] at hf; exact hf
  have hE : ∀ g, g < W.heap.size → v.ownBlock ≠ some g → W'.heap[g]? = W.heap[g]? := fun g hlt hne => hg.block g hlt fun e => hne e.symm
  have hd : DiskAt W' (fun g => P g ∧ g < W.heap.size) dd S := by
    have hs := DiskAt.shrink h1
    rcases hown.2 with ⟨e, _⟩ | ⟨x, cap, cur, e, _, hx, _⟩
    · subst e
      exact hs.below ⟨hg.os, hg.tape, hg.output, hg.size, fun k hk => hg.block k hk (by simp [Value.ownBlock])⟩
    · refine hs.elseLt (x := x) hx (fun e2 => (h2 x e2.1).2.2 (by rw [e]; rfl)) (by decide) (by decide) hfS fun g hlt hne => hE g hlt fun e2 => hne ?_
      rw [e] at e2
      exact (Option.some.inj e2).symm
  refine ⟨⟨_, ⟨S, hd, he⟩, fun g hgp => ⟨(h2 g hgp.1).1, (h2 g hgp.1).2.1, fun e => ?_⟩⟩, ⟨h3.1, fun e => ?_⟩, fun g hgn => (World.ownsRow.lt hown' g hgn).2, (hE lb h5.lt h3.2).trans h5, h6.trans ?_⟩
  · rcases hw g e with e2 | e2
    · exact (h2 g hgp.1).2.2 e2
    · have := hgp.2; omega
  · rcases hw lb e with e2 | e2
    · exact h3.2 e2
    · have := h5.lt; omega
  · refine ⟨hg.os, hg.tape, hg.output, hg.size, fun k hk => hg.block k (Nat.lt_of_lt_of_le hk h6.size) fun e => ?_⟩
    have := (World.ownsRow.lt hown k e.symm).1
    omega
end

section
variable {w : World}
/-- one record more; where the row then lies -/
theorem wpList_appendRcw {ops : Array Oper} {rest : List Oper} {o : Oper} {a : Act} {Q : Exit → Act → World → Prop} (hgd : o.guard = none) (s x : Operand)
    (ho : o.op = .call { callee := .builtin .append, args := #[s, x], argTypes := #[25, 25] })
    (base : Nat) (v : Value) (L : List Rcd) (hv : a.eval s = v) (hown : OwnRc w base v L)
    (p : Option Addr) (m c : Nat) (M : List Rcd) (hm : M.length = m) (hx : a.eval x = .slice p m c) (hin : InRc w p M)
    (hr : L.length + m ≤ 4500000000000) (hbase : base ≤ w.heap.size)
    (h : ∀ v' w', OwnRc w' base v' (L ++ M) → w.grownBy w' v.ownBlock → Way w v v' → wpList Tryz.prog ops Q rest (a.put o.dst v') w') : wpList Tryz.prog ops Q (o :: rest) a w := by
  subst hm
  refine wpList_append_way w hgd s x 25 25 ho base 35 (.agg #[.int .i64 0, .int .i64 0, .int .i64 0, .string .empty]) 4 40 Tryz.underlying25 infoRc rfl v L.length (rc L) hv hown _ M.length (rc M) hx (srcRc hin) (by unfold maxLen; omega) (by omega) hbase ?_
  intro v' w' ho' hg hw
  exact h v' w' (by unfold OwnRc; rw [List.length_append, rc_append]; exact ho') hg hw
end
theorem OwnRc.same {w w' : World} {base : Nat} {v : Value} {L : List Rcd} (h : OwnRc w base v L) (hs : ∀ g, v.ownBlock = some g → w'.heap[g]? = w.heap[g]?) : OwnRc w' base v L := rowKeep h fun g cur e _ => hs g e
end Go.Proofs.YtheoklhmlnfgjaaGreatDoor
/-
  The document's disk: Left.
-/
namespace Go.Proofs.YtheoklhmlnfgjaaGreatDoor
open Go.RowKit Go.Maps
set_option linter.unusedVariables false

theorem refLeft_any (r : RC) (A : Pl) (fn : Int) (K : List Int) (kp : Option Addr) (kl kc : Nat) (hkl : K.length = kl) (w : World) (h : RefAt w r A) (hK : InV w kp (K.map (Value.int .i64))) (hI : Inv A) (hS : InvS A) (hp : A.pend.length ≤ 1000000) (hs : A.safe.length ≤ 4000000000000) (hl : (leftNP A fn).length ≤ 4000000000000) (hd : ∀ f ∈ A.files, f.1.length ≤ 140737488351232) (hkk : kl ≤ 1000000000) :
    Calls Tryz.prog 57 #[.agg (stC r A), .agg #[.int .i64 fn, .slice kp kl kc]] w fun e w' => ∃ v, e = .returned v ∧ OwnFs w' w.heap.size v (leftP A fn K) ∧ Below w.heap.size w w' := by
  by_cases h1 : (A.pend.length : Int) < fn
  · by_cases h2 : 0 < A.pend.length
    · exact refLeft_a r A fn K kp kl kc hkl w h hK hI hS hp hs hl hd hkk ⟨h1, h2⟩
    · exact refLeft_b r A fn K kp kl kc hkl w h hK hI hS hp hs hl hd hkk ⟨h1, h2⟩
  · by_cases h2 : 0 < fn
    · exact refLeft_c r A fn K kp kl kc hkl w h hK hI hS hp hs hl hd hkk ⟨h1, h2⟩
    · exact refLeft_d r A fn K kp kl kc hkl w h hK hI hS hp hs hl hd hkk ⟨h1, h2⟩
end Go.Proofs.YtheoklhmlnfgjaaGreatDoor
/-
  Both disks at one state: what the laws ask of them.
-/
namespace Go.Proofs.YtheoklhmlnfgjaaGreatDoor
open Go.RowKit Go.Maps
set_option linter.unusedVariables false

/-- both disks at one state, the document's in the box rb -/
def TL (w1 : World) (rb dd : Nat) (A : Pl) (r : RC) (W : World) : Prop := Duo w1 (fun g => g = rb) dd A r A W ∧ W.heap[rb]? = some (.cells (stC r A) 51 (0, 0))
section
variable {w1 W W' : World} {rb dd n : Nat} {A : Pl} {r : RC}
theorem TL.below (h : TL w1 rb dd A r W) (hb : Below W.heap.size W W') : TL w1 rb dd A r W' := ⟨h.1.below hb, Below.heap hb h.2⟩
theorem TL.cells (h : TL w1 rb dd A r W) : W.cell? ⟨rb, 0, none⟩ = some (.slice r.p1 A.now.length r.c1) ∧ W.cell? ⟨rb, 1, none⟩ = some (.slice r.p2 A.safe.length r.c2) ∧ W.cell? ⟨rb, 2, none⟩ = some (.slice r.p3 A.pend.length r.c3) ∧ W.cell? ⟨rb, 3, none⟩ = some (.slice r.p4 A.files.length r.c4) ∧ W.cell? ⟨rb, 4, none⟩ = some (.slice r.p5 A.files.length r.c5) ∧ W.cell? ⟨rb, 5, none⟩ = some (.int .i64 (A.room : Int)) ∧ W.cell? ⟨rb, 6, none⟩ = some (.slice r.p6 A.fails.length r.c6) ∧ W.cell? ⟨rb, 7, none⟩ = some (.int .i64 A.power) ∧ W.cell? ⟨rb, 8, none⟩ = some (.int .i64 (A.steps : Int)) := by
  have h1 := h.2
  unfold stC at h1
  obtain ⟨g0, g1, g2, g3, g4, g5, g6, g7, g8, _⟩ := st9v h1
  exact ⟨g0, g1, g2, g3, g4, g5, g6, g7, g8⟩
theorem TL.left (h : TL w1 rb dd A r W) (hA : GoodA n A) (hn : n ≤ 1000000) (k : Int) (K : List Int) (kp : Option Addr) (m kc : Nat) (hm : K.length = m) (hK : InV W kp (K.map (Value.int .i64))) :
    Calls Tryz.prog 29 #[.pointer (some ⟨dd, 0, none⟩), .agg #[.int .i64 k, .slice kp m kc]] W fun e w' => ∃ p c, e = .returned (.slice p (leftP A k K).length c) ∧ InFs w' p (leftP A k K) ∧ TL w1 rb dd A r w' ∧ Below W.heap.size W w' :=
  (left_dp h.1.dp hA hn k K kp m kc hm hK).mono fun e w' hp => by
    obtain ⟨p, c, h1, _, h3, h4⟩ := hp
    exact ⟨p, c, h1, h3, h.below h4, h4⟩
theorem TL.rleft (h : TL w1 rb dd A r W) (hA : GoodA n A) (hS : InvS A) (hn : n ≤ 1000000) (k : Int) (K : List Int) (kp : Option Addr) (m kc : Nat) (hm : K.length = m) (hml : m ≤ 1000000000) (hK : InV W kp (K.map (Value.int .i64))) :
    Calls Tryz.prog 57 #[.agg #[.slice r.p1 A.now.length r.c1, .slice r.p2 A.safe.length r.c2, .slice r.p3 A.pend.length r.c3, .slice r.p4 A.files.length r.c4, .slice r.p5 A.files.length r.c5, .int .i64 (A.room : Int), .slice r.p6 A.fails.length r.c6, .int .i64 A.power, .int .i64 (A.steps : Int)], .agg #[.int .i64 k, .slice kp m kc]] W fun e w' => ∃ p c, e = .returned (.slice p (leftP A k K).length c) ∧ InFs w' p (leftP A k K) ∧ TL w1 rb dd A r w' ∧ Below W.heap.size W w' := by
  have hlb := (left_bounds hA hn k K).1
  have := refLeft_any r A k K kp m kc hm W h.1.ref hK hA.inv hS (hA.fitP hn).pend (by have := (hA.fitP hn).safe; omega) (by unfold leftP at hlb; rw [List.length_map] at hlb; omega) (fun f hf => hA.dat f hf) hml
  unfold stC at this
  refine this.mono fun e w' hp => ?_
  obtain ⟨v, h1, h2, h3⟩ := hp
  obtain ⟨p, c, rfl, _, _, hin, _⟩ := h2.shape rfl
  exact ⟨p, c, h1, hin, h.below h3, h3⟩
theorem TL.list (h : TL w1 rb dd A r W) (hA : GoodA n A) (hn : n ≤ 1000000) :
    Calls Tryz.prog 41 #[.pointer (some ⟨dd, 0, none⟩)] W fun e w' => ∃ p c, e = .returned (.slice p (listP A).length c) ∧ InS w' p (listP A) ∧ TL w1 rb dd A r w' ∧ Below W.heap.size W w' :=
  (list_dp h.1.dp hA hn).mono fun e w' hp => by
    obtain ⟨p, c, h1, _, h3, h4⟩ := hp
    exact ⟨p, c, h1, h3, h.below h4, h4⟩
theorem TL.rlist (h : TL w1 rb dd A r W) (hA : GoodA n A) (hn : n ≤ 1000000) :
    Calls Tryz.prog 50 #[.agg #[.slice r.p1 A.now.length r.c1, .slice r.p2 A.safe.length r.c2, .slice r.p3 A.pend.length r.c3, .slice r.p4 A.files.length r.c4, .slice r.p5 A.files.length r.c5, .int .i64 (A.room : Int), .slice r.p6 A.fails.length r.c6, .int .i64 A.power, .int .i64 (A.steps : Int)]] W fun e w' => ∃ p c, e = .returned (.slice p (listP A).length c) ∧ InS w' p (listP A) ∧ TL w1 rb dd A r w' ∧ Below W.heap.size W w' := by
  have := refList_any r A W h.1.ref.now (hA.fitP hn).now
  unfold stC at this
  refine this.mono fun e w' hp => ?_
  obtain ⟨p, c, h1, h3, h4⟩ := hp
  exact ⟨p, c, h1, h3, h.below h4, h4⟩
theorem TL.copyFate (h : TL w1 rb dd A r W) (k : Int) (K : List Int) (kp : Option Addr) (m kc : Nat) (hm : K.length = m) (hml : m ≤ 1000000000) (hK : InV W kp (K.map (Value.int .i64))) :
    Calls Tryz.prog 30 #[.agg #[.int .i64 k, .slice kp m kc]] W fun e w' => ∃ p c, e = .returned (.agg #[.int .i64 k, .slice p m c]) ∧ InV w' p (K.map (Value.int .i64)) ∧ TL w1 rb dd A r w' ∧ Below W.heap.size W w' :=
  (copyFate_any k K kp m kc hm (by omega) W hK).mono fun e w' hp => by
    obtain ⟨p, c, h1, h2, _, h4⟩ := hp
    subst hm
    exact ⟨p, c, h1, h2, h.below h4, h4⟩
theorem TL.sameFiles (h : TL w1 rb dd A r W) (F : List FT) (p q : Option Addr) (c d : Nat) (hF : F.length ≤ 140737488351232) (h1 : InFs W p F) (h2 : InFs W q F) :
    Calls Tryz.prog 56 #[.slice p F.length c, .slice q F.length d] W fun e w' => e = .returned (.bool true) ∧ TL w1 rb dd A r w' ∧ Below W.heap.size W w' :=
  (sameFiles_any F F p q _ c _ d rfl rfl hF hF W h1 h2).mono fun e w' hp => ⟨by rw [hp.1, decide_eq_true rfl], h.below hp.2, hp.2⟩
theorem TL.sameTexts (h : TL w1 rb dd A r W) (L : List BS) (p q : Option Addr) (c d : Nat) (hL : L.length ≤ 4000000000000) (h1 : InS W p L) (h2 : InS W q L) :
    Calls Tryz.prog 55 #[.slice p L.length c, .slice q L.length d] W fun e w' => e = .returned (.bool true) ∧ TL w1 rb dd A r w' ∧ Below W.heap.size W w' :=
  (sameTexts_any L L p q _ c _ d rfl rfl (by unfold maxLen; omega) (by unfold maxLen; omega) W h1 h2).mono fun e w' hp => ⟨by rw [hp.1, decide_eq_true rfl], h.below hp.2, hp.2⟩
end
theorem listP_len {n : Nat} {A : Pl} (hA : GoodA n A) (hn : n ≤ 1000000) : (listP A).length ≤ 4000000000000 := by
  have := (hA.fitP hn).now
  unfold listP
  split
  · simp
  · rw [List.length_map]; exact this

end Go.Proofs.YtheoklhmlnfgjaaGreatDoor
