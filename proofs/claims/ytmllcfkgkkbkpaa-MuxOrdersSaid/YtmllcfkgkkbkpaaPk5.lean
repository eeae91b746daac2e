/-
  Stream's CALLER: what it may do in its rounds; plain lemmas of the second loop.
-/
import Derived.Test.YtmllcfkgkkbkpaaHvStrL
import Derived.Test.YtmllcfkgkkbkpaaPk2
namespace Go.Proofs.Ytmllcfkgkkbkpaa
open Go Go.Conc Go.RowKit Go.Conc.Lib Go.ConcR.Gen
open Go.ConcN (upd upd_ne upd_same WgLive)
open Go.ConcR (KK wgBlock WgAt stA smA rd wr mk DC0)
/-- From w0, where the blocks B0 were the caller's, to w, where B are. -/
structure Grew (B0 : Nat → Prop) (w0 : World) (B : Nat → Prop) (w : World) : Prop where
  size : w0.heap.size ≤ w.heap.size
  low : ∀ x, x < w0.heap.size → ¬ B0 x → w.heap[x]? = w0.heap[x]?
  own : ∀ x, B x → x < w.heap.size ∧ (B0 x ∨ w0.heap.size ≤ x)
  os : w.os = w0.os
  output : w.output = w0.output
theorem Grew.refl {B : Nat → Prop} {w : World} (h : ∀ x, B x → x < w.heap.size) : Grew B w B w := ⟨Nat.le_refl _, fun _ _ _ => rfl, fun x hx => ⟨h x hx, .inl hx⟩, rfl, rfl⟩
theorem Grew.trans {B0 B1 B2 : Nat → Prop} {w0 w1 w2 : World} (h : Grew B0 w0 B1 w1) (k : Grew B1 w1 B2 w2) : Grew B0 w0 B2 w2 := by
  refine ⟨Nat.le_trans h.size k.size, fun x hx hb => ?_, fun x hx => ?_, k.os.trans h.os, k.output.trans h.output⟩
  · rw [k.low x (by have := h.size; omega) (fun h1 => ?_), h.low x hx hb]
    rcases (h.own x h1).2 with h2 | h2
    · exact hb h2
    · omega
  · obtain ⟨h1, h2⟩ := k.own x hx
    refine ⟨h1, ?_⟩
    rcases h2 with h2 | h2
    · exact (h.own x h2).2
    · exact .inr (by have := h.size; omega)
theorem Grew.step {B0 B : Nat → Prop} {w0 w w' : World} (h : Grew B0 w0 B w) (hs : w.heap.size ≤ w'.heap.size) (hl : ∀ x, x < w0.heap.size → w'.heap[x]? = w.heap[x]?) (ho : w'.os = w.os) (hu : w'.output = w.output) : Grew B0 w0 B w' :=
  ⟨Nat.le_trans h.size hs, fun x hx hb => (hl x hx).trans (h.low x hx hb), fun x hx => ⟨by have := (h.own x hx).1; omega, (h.own x hx).2⟩, ho.trans h.os, hu.trans h.output⟩
/-- Stream's caller: its loop's record r stands at l; I between rounds, J when it has left. -/
structure Caller (Post : Value → World → Prop) (l : Nat) (r : Loop) (All : List (Nat × Value)) (I J : (Nat → Prop) → List (Nat × Value) → World → Prop) : Prop where
  stab : ∀ B d w w', I B d w → (∀ x, B x → w'.heap[x]? = w.heap[x]?) → w.heap.size ≤ w'.heap.size → I B d w'
  stabJ : ∀ B d w w', J B d w → (∀ x, B x → w'.heap[x]? = w.heap[x]?) → w.heap.size ≤ w'.heap.size → J B d w'
  record : ∀ B d w, I B d w → B l ∧ w.heap[l]? = some (.loop r)
  params : r.params.size = 2
  round : ∀ B d (i : Nat) v rest σ pw base cs, All = d ++ (i, v) :: rest → I B d pw → (∀ x, B x → x < pw.heap.size ∧ ¬ σ.F x) → (∀ x, σ.F x → Try.prog.globals.size ≤ x ∧ x < pw.heap.size) → σ.tag = .opn false →
    (∀ B' pw', I B' (d ++ [(i, v)]) pw' → Grew B pw B' pw' → MV Try.prog wtG zI zS Post σ (G (base.finish (.bool true)) cs) pw') →
    (∀ B' pw', J B' (d ++ [(i, v)]) pw' → Grew B pw B' pw' → MV Try.prog wtG zI zS Post σ (G (base.finish (.bool false)) cs) pw') →
    MV Try.prog wtG zI zS Post σ (G (Frame.round l r.fn ((r.params.zip #[Value.int .i64 i, v]).foldl (fun tmps (t, a) => tmps.setIfInBounds t a) r.tmps) r.assign r.body .normal) (base :: cs)) pw
/-- What is left of each source. -/
def remsOf (ρ : Nat → List Value) (first N : Nat) : List (List Value) := (List.range N).map fun i => ρ (first + i)
theorem remsOf_len {ρ : Nat → List Value} {first N : Nat} : (remsOf ρ first N).length = N := by simp [remsOf]
theorem remsOf_get {ρ : Nat → List Value} {first N i : Nat} (h : i < N) : (remsOf ρ first N)[i]? = some (ρ (first + i)) := by
  simp [remsOf, List.getElem?_range h]
theorem remsOf_set {ρ : Nat → List Value} {first N i : Nat} {vs : List Value} : remsOf (upd ρ (first + i) vs) first N = (remsOf ρ first N).set i vs := by
  apply List.ext_getElem?
  intro j
  by_cases hj : j < N
  · rw [remsOf_get hj]
    by_cases e : i = j
    · subst e
      rw [upd_same, List.getElem?_set_self (by rw [remsOf_len]; exact hj)]
    · rw [upd_ne _ _ (by omega), List.getElem?_set_ne e, remsOf_get hj]
  · rw [List.getElem?_eq_none (by rw [remsOf_len]; omega), List.getElem?_eq_none (by rw [List.length_set, remsOf_len]; omega)]
theorem remsOf_eq {ρ : Nat → List Value} {first N : Nat} {lists : List (List Value)} (hl : lists.length = N) (h : ∀ i items, i < N → lists[i]? = some items → ρ (first + i) = items) : remsOf ρ first N = lists := by
  apply List.ext_getElem?
  intro j
  by_cases hj : j < N
  · rw [remsOf_get hj, List.getElem?_eq_getElem (by omega), h j _ hj (List.getElem?_eq_getElem (by omega))]
  · rw [List.getElem?_eq_none (by rw [remsOf_len]; omega), List.getElem?_eq_none (by omega)]
/-- A world behind a lone contract that changes nothing old. -/
theorem below_re {pw pw' : World} {B : Nat} {t t' : Nat → Question → Nat} {d d' : Nat} (h : Below B (pw.re t d) (pw'.re t' d')) : pw.heap.size ≤ pw'.heap.size ∧ (∀ x, x < B → pw'.heap[x]? = pw.heap[x]?) ∧ pw'.os = pw.os ∧ pw'.output = pw.output := ⟨h.size, h.block, h.os, h.output⟩
theorem iv_set (l : List Int) (i : Nat) (x : Int) : iv (l.set i x) = (iv l).set i (.int .i64 x) := by simp [iv, List.map_set]
theorem OwnI.stored {w : World} {base g cap : Nat} {l : List Int} {n : Nat} (hn : l.length = n) (h : OwnI w base (.slice (some ⟨g, 0, none⟩) n cap) l) (i : Nat) (x : Int) : OwnI (w.setCell ⟨g, i, none⟩ (.int .i64 x)) base (.slice (some ⟨g, 0, none⟩) n cap) (l.set i x) ∧ (∀ y, y ≠ g → (w.setCell ⟨g, i, none⟩ (.int .i64 x)).heap[y]? = w.heap[y]?) ∧ w.frozen? ⟨g, i, none⟩ = false := by
  subst hn
  have := World.ownsRow.stored h i (.int .i64 x)
  refine ⟨?_, fun y hy => heap_setCell_other w ⟨g, i, none⟩ y _ hy, World.ownsRow.frozenAt h i⟩
  unfold OwnI
  rw [List.length_set, iv_set]
  exact this.1
theorem owns_block {w : World} {base e size n : Nat} {v : Value} {xs : List Value} (h : w.ownsRow base e size v n xs) (hn : 0 < n) : ∃ g cap, v = .slice (some ⟨g, 0, none⟩) n cap ∧ base ≤ g ∧ g < w.heap.size := by
  rcases h.2 with ⟨_, h0⟩ | ⟨g, cap, cur, rfl, hb, hg, _⟩
  · omega
  · exact ⟨g, cap, rfl, hb, (Array.getElem?_eq_some_iff.1 hg).1⟩
end Go.Proofs.Ytmllcfkgkkbkpaa
