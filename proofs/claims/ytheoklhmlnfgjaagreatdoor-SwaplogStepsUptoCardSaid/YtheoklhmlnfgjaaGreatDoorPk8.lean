/-
  The program's log and the document's over one heap.
-/
import Derived.Test.YtheoklhmlnfgjaaGreatDoorHvSwOpen
import Derived.Test.YtheoklhmlnfgjaaGreatDoorPk5
import Derived.Test.YtheoklhmlnfgjaaGreatDoorPk6
import Derived.Test.YtheoklhmlnfgjaaGreatDoorHvSwRefOpen
import Derived.Test.YtheoklhmlnfgjaaGreatDoorHvSwRefAdd
namespace Go.Proofs.YtheoklhmlnfgjaaGreatDoor
open Go.RowKit Go.Maps
set_option linter.unusedVariables false

theorem Duo.refs {w0 W : World} {N : Nat → Prop} {dd : Nat} {A B : Pl} {r : RC} (h : Duo w0 N dd A r B W) : ∃ M : Nat → Prop, (∀ g, M g → g < W.heap.size) ∧ RefP M W r B ∧ ∀ r' B' w', RefP M w' r' B' → Below W.heap.size W w' → Duo w0 N dd A r' B' w' := by
  obtain ⟨P, h1, h2, h3⟩ := h.ex
  refine ⟨fun g => (P g ∧ g < W.heap.size) ∨ N g, fun g hg => hg.elim (fun e => e.2) (h.lt g), h3.step (fun _ _ _ => rfl) fun k hk => .inl (hk.imp (fun e => e.1) id), fun r' B' w' h5 h6 => ?_⟩
  exact ⟨⟨_, h1.shrink.below h6, fun g hg => h2 g hg.1, h5⟩, fun g hg => Nat.lt_of_lt_of_le (h.lt g hg) h6.size, h.blw.trans (h6.mono h.blw.size)⟩
theorem refOpen_duo {w0 W : World} {N : Nat → Prop} {dd g : Nat} {A B : Pl} {r : RC} (h : Duo w0 N dd A r B W) (hB : GoodS g B) (hg : g ≤ 970000) (hfl : ∀ f ∈ B.files, f.1.length ≤ 1500000) :
    Calls Tryz.prog 19 #[.agg (stC r B)] W fun e w' => ∃ r' p c n, e = .returned (.tuple #[.agg (lgC r' (openP B).1 n), .slice p (openP B).2.1.length c, .int .i64 (openP B).2.2]) ∧ ((openP B).2.2 = 0 → n = (openP B).2.1.length) ∧ InRc w' p (openP B).2.1 ∧ Duo w0 N dd A r' (openP B).1 w' ∧ Below W.heap.size W w' := by
  obtain ⟨M, m1, m2, m3⟩ := h.refs
  refine (refOpen_any M r B hB hg hfl W m1 m2).mono fun e w' hp => ?_
  obtain ⟨r', p, c, n, e1, e2, e3, e4, e5⟩ := hp
  exact ⟨r', p, c, n, e1, e2, e3, m3 _ _ _ e4 e5, e5⟩

/-- the log's block among those that the document doesn't read -/
structure Tri (w0 : World) (N : Nat → Prop) (lb dd : Nat) (A : Pl) (n : Int) (r : RC) (B : Pl) (W : World) : Prop where
  duo : Duo w0 (fun g => g = lb ∨ N g) dd A r B W
  box : LogBox W lb dd n
  lbw : w0.heap.size ≤ lb
  lbn : ¬ N lb
section
variable {w0 W W' : World} {N N' : Nat → Prop} {lb dd : Nat} {A B A' : Pl} {n n' : Int} {r : RC}
theorem Tri.add (h : Tri w0 N lb dd A n r B W) (hb : Below W.heap.size W W') (N' : Nat → Prop) (hN : ∀ g, N' g → N g ∨ (W.heap.size ≤ g ∧ g < W'.heap.size)) : Tri w0 N' lb dd A n r B W' := by
  refine ⟨h.duo.add hb _ fun g hg => ?_, h.box.below hb, h.lbw, fun e => ?_⟩
  · rcases hg with e | e
    · exact .inl (.inl e)
    · exact (hN g e).imp .inr id
  · rcases hN lb e with e | e
    · exact h.lbn e
    · have := h.box.lt; omega
theorem Tri.below (h : Tri w0 N lb dd A n r B W) (hb : Below W.heap.size W W') : Tri w0 N lb dd A n r B W' := h.add hb N fun _ hg => .inl hg
theorem Tri.less (h : Tri w0 N lb dd A n r B W) (hN : ∀ g, N' g → N g) : Tri w0 N' lb dd A n r B W := h.add (Below.refl _ W) N' fun g hg => .inl (hN g hg)
theorem Tri.refs (h : Tri w0 N lb dd A n r B W) : ∃ M : Nat → Prop, (∀ g, M g → g < W.heap.size) ∧ RefP M W r B ∧ ∀ r' B' w', RefP M w' r' B' → Below W.heap.size W w' → Tri w0 N lb dd A n r' B' w' := by
  obtain ⟨M, m1, m2, m3⟩ := h.duo.refs
  exact ⟨M, m1, m2, fun r' B' w' e1 e2 => ⟨m3 r' B' w' e1 e2, h.box.below e2, h.lbw, h.lbn⟩⟩
/-- a call of the program's log -/
theorem Tri.post {P : Nat → Prop} (h : Tri w0 N lb dd A n r B W) (h2 : ∀ g, P g → w0.heap.size ≤ g ∧ ¬ (g = lb ∨ N g)) (h3 : RefP (fun g => P g ∨ (g = lb ∨ N g)) W r B) (hp : LogPost W P lb dd A' n' W') :
    Tri w0 N lb dd A' n' r B W' ∧ ∀ g, N g → W'.heap[g]? = W.heap[g]? := by
  obtain ⟨⟨P', g1, g2⟩, g3, g4⟩ := hp
  have hsz := h.duo.blw.size
  refine ⟨⟨⟨⟨P', g1, fun g hg => ?_, h3.step (fun k hk hn => g4.block k hk fun e => hn (e.imp id .inl)) fun k hk => ?_⟩, fun g hg => Nat.lt_of_lt_of_le (h.duo.lt g hg) g4.size, h.duo.blw.trans (g4.below (B := w0.heap.size) (fun k hk => ?_) hsz)⟩, g3, h.lbw, h.lbn⟩, fun g hg => g4.block g (h.duo.lt g (.inr hg)) fun e => ?_⟩
  · rcases g2 g hg with e | e
    · exact h2 g e
    · exact ⟨Nat.le_trans hsz e, fun e2 => by have := h.duo.lt g e2; omega⟩
  · rcases hk with e | e
    · exact (g2 k e).imp .inl id
    · exact .inl (.inr e)
  · rcases hk with e | e
    · exact (h2 k e).1
    · rw [e]; exact h.lbw
  · rcases e with e | e
    · exact (h2 g e).2 (.inr hg)
    · subst e; exact h.lbn hg
theorem add_tri {g : Nat} (h : Tri w0 N lb dd A n r B W) (hA : GoodS g A) (hg : g ≤ 999000) (hn0 : 0 ≤ n) (hn1 : n ≤ 1000000000000) (op no : Int) (id : ByteArray) :
    Calls Tryz.prog 26 #[.pointer (some ⟨lb, 0, none⟩), .int .i64 op, .int .i64 no, .string id] W fun e w' => e = .returned (.int .i64 (addP A n op no id.data.toList).2.2) ∧ Tri w0 N lb dd (addP A n op no id.data.toList).1 (addP A n op no id.data.toList).2.1 r B w' ∧ ∀ g, N g → w'.heap[g]? = W.heap[g]? := by
  obtain ⟨P, h1, h2, h3⟩ := h.duo.ex
  exact (add_p h1 h.box (fun e => (h2 lb e).2 (.inl rfl)) hA hg hn0 hn1 op no id).mono fun e w' hp => ⟨hp.1, h.post h2 h3 hp.2⟩
theorem rewrite_tri {g : Nat} (h : Tri w0 N lb dd A n r B W) (hA : GoodS g A) (hg : g ≤ 999000) (L : List Rcd) (p : Option Addr) (m c : Nat) (hL : L.length = m) (hm : m ≤ 1000000000) (hin : InRc W p L) :
    Calls Tryz.prog 24 #[.pointer (some ⟨lb, 0, none⟩), .slice p m c] W fun e w' => e = .returned (.int .i64 (rewriteP A n L).2.2) ∧ Tri w0 N lb dd (rewriteP A n L).1 (rewriteP A n L).2.1 r B w' ∧ ∀ g, N g → w'.heap[g]? = W.heap[g]? := by
  obtain ⟨P, h1, h2, h3⟩ := h.duo.ex
  exact (rewrite_p h1 h.box (fun e => (h2 lb e).2 (.inl rfl)) hA hg L p m c hL hm hin).mono fun e w' hp => ⟨hp.1, h.post h2 h3 hp.2⟩
theorem refAdd_tri {g : Nat} (h : Tri w0 N lb dd A n r B W) (hB : GoodS g B) (hg : g ≤ 980000) (k : Int) (hn0 : 0 ≤ k) (hn1 : k ≤ 1000000000000) (op no : Int) (id : ByteArray) :
    Calls Tryz.prog 25 #[.agg (lgC r B k), .int .i64 op, .int .i64 no, .string id] W fun e w' => ∃ r', e = .returned (.tuple #[.agg (lgC r' (addP B k op no id.data.toList).1 (addP B k op no id.data.toList).2.1), .int .i64 (addP B k op no id.data.toList).2.2]) ∧ Tri w0 N lb dd A n r' (addP B k op no id.data.toList).1 w' ∧ Below W.heap.size W w' := by
  obtain ⟨M, m1, m2, m3⟩ := h.refs
  refine (refAdd_any M r B k op no id hB hg hn0 hn1 W m1 m2).mono fun e w' hp => ?_
  obtain ⟨r', e1, e2, e3⟩ := hp
  exact ⟨r', e1, m3 _ _ _ e2 e3, e3⟩
theorem refRewrite_tri {g : Nat} (h : Tri w0 N lb dd A n r B W) (hB : GoodS g B) (hg : g ≤ 980000) (k : Int) (L : List Rcd) (p : Option Addr) (m c : Nat) (hL : L.length = m) (hm : m ≤ 10000000) (hen : (encB L 0).length ≤ 900000000) (hin : InRc W p L) :
    Calls Tryz.prog 23 #[.agg (lgC r B k), .slice p m c] W fun e w' => ∃ r', e = .returned (.tuple #[.agg (lgC r' (rewriteP B k L).1 (rewriteP B k L).2.1), .int .i64 (rewriteP B k L).2.2]) ∧ Tri w0 N lb dd A n r' (rewriteP B k L).1 w' ∧ Below W.heap.size W w' := by
  obtain ⟨M, m1, m2, m3⟩ := h.refs
  refine (refRewrite_any M r B k L p m c hL hm hen hB hg W m1 m2 hin).mono fun e w' hp => ?_
  obtain ⟨r', e1, e2, e3⟩ := hp
  exact ⟨r', e1, m3 _ _ _ e2 e3, e3⟩
theorem refOpen_tri {g : Nat} (h : Tri w0 N lb dd A n r B W) (hB : GoodS g B) (hg : g ≤ 970000) (hfl : ∀ f ∈ B.files, f.1.length ≤ 1500000) :
    Calls Tryz.prog 19 #[.agg (stC r B)] W fun e w' => ∃ r' p c k, e = .returned (.tuple #[.agg (lgC r' (openP B).1 k), .slice p (openP B).2.1.length c, .int .i64 (openP B).2.2]) ∧ ((openP B).2.2 = 0 → k = (openP B).2.1.length) ∧ InRc w' p (openP B).2.1 ∧ Tri w0 N lb dd A n r' (openP B).1 w' ∧ Below W.heap.size W w' := by
  obtain ⟨M, m1, m2, m3⟩ := h.refs
  refine (refOpen_any M r B hB hg hfl W m1 m2).mono fun e w' hp => ?_
  obtain ⟨r', p, c, k, e1, e2, e3, e4, e5⟩ := hp
  exact ⟨r', p, c, k, e1, e2, e3, m3 _ _ _ e4 e5, e5⟩
/-- the program's Open -/
theorem open_duo {g : Nat} (h : Duo w0 N dd A r B W) (hA : GoodS g A) (hg : g ≤ 990000) :
    Calls Tryz.prog 18 #[.pointer (some ⟨dd, 0, none⟩)] W fun e w' =>
      (((openP A).2.2 ≠ 0 ∧ e = .returned (.tuple #[.pointer none, .slice none 0 0, .int .i64 (openP A).2.2]) ∧ Duo w0 N dd (openP A).1 r B w') ∨
      ((openP A).2.2 = 0 ∧ ∃ lb p c, e = .returned (.tuple #[.pointer (some ⟨lb, 0, none⟩), .slice p (openP A).2.1.length c, .int .i64 0]) ∧ Tri w0 N lb dd (openP A).1 (openP A).2.1.length r B w' ∧ InRc w' p (openP A).2.1)) ∧ ∀ g, N g → w'.heap[g]? = W.heap[g]? := by
  obtain ⟨P, h1, h2, h3⟩ := h.ex
  have hsz := h.blw.size
  have gen : ∀ {M : Nat → Prop} {A' : Pl} {w' : World}, DK W P M dd A' w' → Duo w0 N dd A' r B w' ∧ ∀ g, N g → w'.heap[g]? = W.heap[g]? := by
    intro M A' w' hd
    obtain ⟨⟨P', g1, g2⟩, _, g4⟩ := hd
    refine ⟨⟨⟨P', g1, fun g hg => ?_, h3.step (fun k hk hn => g4.block k hk fun e => hn (.inl e)) fun k hk => ?_⟩, fun g hg => Nat.lt_of_lt_of_le (h.lt g hg) g4.size, h.blw.trans (g4.below (B := w0.heap.size) (fun k hk => (h2 k hk).1) hsz)⟩, fun g hg => g4.block g (h.lt g hg) fun e => (h2 g e).2 hg⟩
    · rcases (g2 g hg).1 with e | e
      · exact h2 g e
      · exact ⟨Nat.le_trans hsz e, fun e2 => by have := h.lt g e2; omega⟩
    · rcases hk with e | e
      · exact (g2 k e).1.imp .inl id
      · exact .inl (.inr e)
  refine (open_p h1 hA hg).mono fun e w' hp => ?_
  rcases hp with ⟨hz, he, hd⟩ | ⟨hz, lb, p, c, he, hd, hl, hlb, hp, hin⟩
  · exact ⟨.inl ⟨hz, he, (gen hd).1⟩, (gen hd).2⟩
  · refine ⟨.inr ⟨hz, lb, p, c, he, ⟨?_, hl, Nat.le_trans hsz hlb, fun e => by have := h.lt lb e; omega⟩, hin⟩, (gen hd).2⟩
    obtain ⟨⟨P', g1, g2⟩, _, g4⟩ := hd
    refine ⟨⟨P', g1, fun g hg => ⟨?_, ?_⟩, h3.step (fun k hk hn => g4.block k hk fun e => hn (.inl e)) fun k hk => ?_⟩, fun g hg => ?_, h.blw.trans (g4.below (B := w0.heap.size) (fun k hk => (h2 k hk).1) hsz)⟩
    · exact (g2 g hg).1.elim (fun e => (h2 g e).1) fun e => Nat.le_trans hsz e
    · rintro (e | e)
      · exact (g2 g hg).2 (.inl e)
      · rcases (g2 g hg).1 with e2 | e2
        · exact (h2 g e2).2 e
        · have := h.lt g e; omega
    · rcases hk with e | e | e
      · exact (g2 k e).1.imp .inl id
      · exact .inr (by rw [e]; exact hlb)
      · exact .inl (.inr e)
    · rcases hg with e | e
      · rw [e]; exact hl.lt
      · exact Nat.lt_of_lt_of_le (h.lt g e) g4.size
/-- a store into one of the blocks N -/
theorem Tri.write {x : Nat} {cs : Array Value} {T : TypeId} {fr : Nat × Nat} (h : Tri w0 N lb dd A n r B W) (hx : W.heap[x]? = some (.cells cs T fr)) (hN : N x) (h1 : 117 ≠ T) (h2 : 9 ≠ T)
    (h0 : ∀ z, cs[0]? ≠ some (.int .i64 z)) (hE : Else W W' x) (hs : W'.heap.size = W.heap.size) (hb : Below w0.heap.size w0 W') : Tri w0 N lb dd A n r B W' :=
  ⟨h.duo.write hx (.inr hN) h1 h2 h0 hE hs hb, (hE lb fun e => h.lbn (e ▸ hN)).trans h.box, h.lbw, h.lbn⟩
end
end Go.Proofs.YtheoklhmlnfgjaaGreatDoor
