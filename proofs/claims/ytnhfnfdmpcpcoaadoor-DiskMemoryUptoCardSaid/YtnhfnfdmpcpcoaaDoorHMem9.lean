/-
  Stores into memory that a disk doesn't hold: rows that are marked.
-/
import Derived.Test.YtnhfnfdmpcpcoaaDoorHDuo9
import Derived.Test.YtnhfnfdmpcpcoaaDoorOwnMore
import Derived.Test.YtnhfnfdmpcpcoaaDoorN9g
namespace Go.Proofs.YtnhfnfdmpcpcoaaDoor
open Go.RowKit Go.Maps
set_option linter.unusedVariables false

set_option maxRecDepth 100000 in
set_option maxHeartbeats 1000000 in
theorem copyIntsO_any (Z : List Int) (q : Option Addr) (m d : Nat) (hm : Z.length = m) (hl : m ≤ 17592186043904) (w : World) (h : InV w q (Z.map (Value.int .i64))) :
    Calls Tryd.prog 38 #[.slice q m d] w fun e w' => ∃ v, e = .returned v ∧ w'.ownsRow w.heap.size 3 1 v Z.length (Z.map (Value.int .i64)) ∧ Below w.heap.size w w' := by
  subst hm
  have hmade := ownI_made w
  have hb0 : Below w.heap.size w (w.alloc (.cells #[] 3)) := (Below.refl _ w).alloc (Nat.le_refl _) _
  have hs := srcV (c := d) (e := 3) Tryd.underlying23 (h.below hb0) (ints_one Z)
  rw [List.length_map] at hs
  go_enter Tryd.func38, Tryd.ntmps38
  go_wp2_with (at_builtin; refine wpList_append_way _ rfl _ _ 23 23 rfl w.heap.size 3 (.int .i64 0) 1 8 Tryd.underlying23 infoI rfl _ 0 [] rfl hmade _ Z.length (Z.map (Value.int .i64)) rfl hs (by unfold maxLen; omega) (by omega) (by simp) ?_; intro v1 w1 hown1 hgrow1 _)
  go_ret
  rw [List.nil_append, Nat.zero_add] at hown1
  exact ⟨_, rfl, hown1, hb0.grown hgrow1 (by simp) (fun k e => by cases e; exact Nat.le_refl _)⟩

section
variable {w W : World} {base g n c j : Nat} {v : Value} {l : BS}
/-- a row of the call's own, opened -/
theorem row_opened {e size : Nat} {xs : List Value} (h : w.ownsRow base e size v n xs) (h0 : 0 < n) : ∃ g c cur, v = .slice (some ⟨g, 0, none⟩) n c ∧ base ≤ g ∧ g < w.heap.size ∧ w.heap[g]? = some (.cells cur e (0, 0)) ∧ ∀ i, i < n * size → cur[i]? = xs[i]? := by
  rcases h.2 with ⟨_, e0⟩ | ⟨g, cap, cur, e1, hb, hg, hnc, hcm, hcs, ht⟩
  · omega
  · refine ⟨g, cap, cur, e1, hb, lt_of_heap hg, hg, fun i hi => ?_⟩
    rw [← ht, List.getElem?_take_of_lt hi, Array.getElem?_toList]
/-- a store into bytes, as other bytes of the call's own see it -/
theorem own8_poke (h : Own8 w base v l) (g j : Nat) (z : Int) (h0 : 0 ≤ z) (h1 : z ≤ 255) : ∃ l', l'.length = l.length ∧ Own8 (w.setCell ⟨g, j, none⟩ (.int .u8 z)) base v l' := by
  by_cases hv : v.ownBlock = some g
  · rcases h.2 with ⟨e, _⟩ | ⟨g', cap, cur, e, _⟩
    · rw [e] at hv; cases hv
    · subst e
      obtain rfl : g' = g := by simpa [Value.ownBlock] using hv
      exact ⟨l.set j (ubyte z), by simp, (Own8.stored h rfl j z h0 h1).1⟩
  · exact ⟨l, rfl, ownsRow_setCell_other h hv _⟩
/-- rows of files whose bytes are the call's own, whatever they are -/
def LeftX (w : World) (base hi : Nat) (v : Value) (ns : List Nat) : Prop :=
  ∃ E, w.ownsRow base 45 2 v E.length (fc E) ∧ E.length = ns.length ∧ ∀ (i : Nat) (e : BS × Value) (n : Nat), E[i]? = some e → ns[i]? = some n → ∃ l, l.length = n ∧ Own8 w base e.2 l ∧ ∀ r, e.2.ownBlock = some r → r < hi
theorem OwnFs.leftX {F : List FT} (h : OwnFs w base v F) : LeftX w base w.heap.size v (F.map fun f => f.2.length) := by
  obtain ⟨E, h1, h2, h3⟩ := h
  refine ⟨E, h1, by simp [h2], fun i e n he hn => ?_⟩
  rw [List.getElem?_map] at hn
  cases hF : F[i]? with
  | none => rw [hF] at hn; cases hn
  | some x =>
    rw [hF] at hn
    have hn := Option.some.inj hn
    exact ⟨x.2, hn, (h3 i e x he hF).2, fun r hr => (World.ownsRow.lt (h3 i e x he hF).2 r hr).2⟩
theorem LeftX.below {ns : List Nat} {hi : Nat} (h : LeftX w base hi v ns) (hb : Below w.heap.size w W) : LeftX W base hi v ns := by
  obtain ⟨E, h1, h2, h3⟩ := h
  refine ⟨E, ownsRow_below h1 hb, h2, fun i e n he hn => ?_⟩
  obtain ⟨l, a1, a2, a3⟩ := h3 i e n he hn
  exact ⟨l, a1, a2.below hb, a3⟩
theorem LeftX.at {ns : List Nat} {hi : Nat} (h : LeftX w base hi (.slice (some ⟨g, 0, none⟩) n c) ns) {i : Nat} (hin : i < ns.length) :
    ∃ u l, l.length = ns[i] ∧ Own8 w base u l ∧ (∀ r, u.ownBlock = some r → r < hi) ∧ w.cell? ⟨g, i * 2 + 1, none⟩ = some u ∧ (∃ x, w.cell? ⟨g, i * 2, none⟩ = some x) ∧ w.frozen? ⟨g, i * 2, none⟩ = false := by
  obtain ⟨E, h1, h2, h3⟩ := h
  obtain ⟨g1, g2⟩ := fc_get E i (by omega)
  obtain ⟨l, hl, ho, hh⟩ := h3 i E[i] ns[i] (List.getElem?_eq_getElem (by omega)) (List.getElem?_eq_getElem hin)
  obtain ⟨g', c', cur, e, _, _, hg, hc⟩ := row_opened h1 (by omega)
  obtain rfl : g = g' := by injection e with e; injection e with e; injection e
  refine ⟨E[i].2, l, hl, ho, hh, ?_, ⟨.string ⟨E[i].1.toArray⟩, ?_⟩, ?_⟩
  · rw [cell_of_row _ _ _ _ _ _ hg, hc _ (by omega)]; exact g2
  · rw [cell_of_row _ _ _ _ _ _ hg, hc _ (by omega)]; exact g1
  · exact frozen_of_row w g _ _ _ hg
theorem LeftX.form {ns : List Nat} {hi : Nat} (h : LeftX w base hi v ns) (h0 : 0 < ns.length) : ∃ g c, v = .slice (some ⟨g, 0, none⟩) ns.length c ∧ base ≤ g := by
  obtain ⟨E, h1, h2, _⟩ := h
  obtain ⟨g, c, cur, e, hb, _⟩ := row_opened h1 (by omega)
  exact ⟨g, c, by rw [← h2]; exact e, hb⟩
theorem LeftX.poke {ns : List Nat} {hi : Nat} {cs : Array Value} {fr : Nat × Nat} (h : LeftX w base hi v ns) (hg : w.heap[g]? = some (.cells cs 5 fr)) (j : Nat) (z : Int) (h0 : 0 ≤ z) (h1 : z ≤ 255) : LeftX (w.setCell ⟨g, j, none⟩ (.int .u8 z)) base hi v ns := by
  obtain ⟨E, a1, a2, a3⟩ := h
  refine ⟨E, ownsRow_setCell_other a1 (row_ne a1 hg (by decide)) _, a2, fun i e n he hn => ?_⟩
  obtain ⟨l, hl, ho, hh⟩ := a3 i e n he hn
  obtain ⟨l', hl', ho'⟩ := own8_poke ho g j z h0 h1
  exact ⟨l', hl'.trans hl, ho', hh⟩
/-- a name is written -/
theorem LeftX.name {ns : List Nat} {hi : Nat} (h : LeftX w base hi (.slice (some ⟨g, 0, none⟩) n c) ns) {i : Nat} (hin : i < ns.length) (s : ByteArray) : LeftX (w.setCell ⟨g, i * 2, none⟩ (.string s)) base hi (.slice (some ⟨g, 0, none⟩) n c) ns := by
  obtain ⟨E, a1, a2, a3⟩ := h
  have hn : n = E.length := by
    rcases a1.2 with ⟨e, _⟩ | ⟨g', cap, cur, e, _⟩
    · cases e
    · injection e
  subst hn
  have hst := (World.ownsRow.stored a1 (i * 2) (.string s)).1
  have hfc : ∀ (E : List (BS × Value)) (i : Nat), (fc E).set (i * 2) (.string s) = fc (E.modify i fun x => (s.data.toList, x.2)) := by
    intro E
    induction E with
    | nil => intro i; simp [fc]
    | cons x L ih =>
      intro i
      cases i with
      | zero => simp [fc]
      | succ i =>
        have e2 : (i + 1) * 2 = i * 2 + 1 + 1 := by omega
        rw [e2, List.modify_succ_cons]
        simp only [fc, List.cons_append, List.nil_append, List.set_cons_succ, ih]
  rw [hfc] at hst
  refine ⟨E.modify i fun x => (s.data.toList, x.2), by rw [List.length_modify]; exact hst, by rw [List.length_modify]; exact a2, fun k e m he hm => ?_⟩
  rw [List.getElem?_modify] at he
  cases hE : E[k]? with
  | none => rw [hE] at he; split at he <;> cases he
  | some y =>
    rw [hE] at he
    obtain ⟨l, hl, ho, hh⟩ := a3 k y m hE hm
    have e2 : e.2 = y.2 := by split at he <;> (have := Option.some.inj he; rw [← this])
    obtain ⟨g', c', cur, eg, _, _, hg, _⟩ := row_opened a1 (by omega)
    obtain rfl : g = g' := by injection eg with eg; injection eg with eg; injection eg
    rw [e2]
    exact ⟨l, hl, ownsRow_setCell_other ho (row_ne ho hg (by decide)) _, hh⟩
end
/-- one file's bytes, opened -/
theorem LeftX.row {w : World} {base hi g n c i : Nat} {ns : List Nat} (h : LeftX w base hi (.slice (some ⟨g, 0, none⟩) n c) ns) (hin : i < ns.length) : ∃ q' c', w.cell? ⟨g, i * 2 + 1, none⟩ = some (.slice q' ns[i] c') := by
  obtain ⟨u, l, hl, ho, _, hc, _⟩ := h.at hin
  obtain ⟨q', c', rfl, _⟩ := ho.in8n hl
  exact ⟨q', c', hc⟩
theorem LeftX.dat {w : World} {base hi g n c i : Nat} {ns : List Nat} (h : LeftX w base hi (.slice (some ⟨g, 0, none⟩) n c) ns) (hin : i < ns.length) (h0 : 0 < ns[i]) : ∃ gd cd cs, w.cell? ⟨g, i * 2 + 1, none⟩ = some (.slice (some ⟨gd, 0, none⟩) ns[i] cd) ∧ base ≤ gd ∧ gd < hi ∧ w.heap[gd]? = some (.cells cs 5 (0, 0)) ∧ ∀ j, j < ns[i] → (∃ x, w.cell? ⟨gd, j, none⟩ = some x) ∧ w.frozen? ⟨gd, j, none⟩ = false := by
  obtain ⟨u, l, hl, ho, hh, hc, _⟩ := h.at hin
  rw [← hl] at h0 ⊢
  obtain ⟨gd, cd, cs, rfl, hb, _, hg, hcu⟩ := row_opened ho h0
  refine ⟨gd, cd, cs, hc, hb, hh gd rfl, hg, fun j hj => ?_⟩
  exact ⟨⟨_, (Own8.cells ho rfl hj).1⟩, (Own8.cells ho rfl hj).2⟩
/-- a byte of one of the blocks N is marked -/
theorem duo_poke {w0 W : World} {N : Nat → Prop} {dd : Nat} {A B : Pl} {r : RC} (h : Duo w0 N dd A r B W) {base g n cap : Nat} {l : BS} (ho : Own8 W base (.slice (some ⟨g, 0, none⟩) n cap) l) (hn : l.length = n) (h0 : 0 < n) (hN : N g) (hg : w0.heap.size ≤ g) (j : Nat) (z : Int) :
    Duo w0 N dd A r B (W.setCell ⟨g, j, none⟩ (.int .u8 z)) := by
  subst hn
  obtain ⟨g', c', cur, e, _, _, hx, hc⟩ := row_opened ho h0
  obtain rfl : g = g' := by injection e with e; injection e with e; injection e
  refine h.write hx hN (by decide) (by decide) (fun y e2 => ?_) (fun k hk => Below.heap_setCell _ _ _ _ hk) (by simp) (h.blw.setCell (p := ⟨g, j, none⟩) hg _)
  rw [hc 0 (by omega), by8_get l 0 h0] at e2
  cases e2
/-- what a disk that is new keeps while what lay ahead of it is written -/
theorem DiskAt.ahead {w w' : World} {P : Nat → Prop} {dd B : Nat} {S : DiskC} (h : DiskAt w P dd S) (hP : ∀ g, P g → B ≤ g) (hf : ∀ a, S.fp = some a → B ≤ a.block) (hp : S.pend = []) (hE : ∀ g, B ≤ g → w'.heap[g]? = w.heap[g]?) : DiskAt w' P dd S where
  blk := (hE _ (hP _ h.inP.1)).trans h.blk
  now := h.now.kept (hE _ (hP _ h.inP.2.1))
  safe := h.safe.kept (hE _ (hP _ h.inP.2.2.1))
  ne := h.ne
  row := by
    refine ⟨h.row.1, ?_⟩
    rcases h.row.2 with h0 | ⟨g, cap, cur, e, c1, c2, r⟩
    · exact .inl h0
    · exact .inr ⟨g, cap, cur, e, c1, (hE _ (hP _ (h.inP.2.2.2 g (by rw [e]; rfl)))).trans c2, r⟩
  chg := fun i v c hv hc => by rw [hp] at hc; simp at hc
  fails := ⟨h.fails.1, by
    intro h0
    obtain ⟨b, o, e, hc⟩ := h.fails.2.1 h0
    have hb := hE b (hf _ e)
    refine ⟨b, o, e, fun i hi => ?_⟩
    have := hc i hi
    simp only [World.cell?, hb]
    exact this, h.fails.2.2⟩
  files := fun i f hfi => by
    obtain ⟨a1, a2, a3, a4, a5⟩ := h.files i f hfi
    refine ⟨(hE _ (hP _ a4)).trans a1, ⟨a2.1, ?_⟩, a3, a4, a5⟩
    rcases a2.2 with h0 | ⟨g, cap, cur, e, c1, c2, r⟩
    · exact .inl h0
    · exact .inr ⟨g, cap, cur, e, c1, (hE _ (hP _ (a3 g (by rw [e]; rfl)))).trans c2, r⟩
  apart := h.apart
  nowF := h.nowF
  safeF := h.safeF
  inP := h.inP
end Go.Proofs.YtnhfnfdmpcpcoaaDoor
