/-
  A disk behind a change of one file.
-/
import Derived.Test.YtheoklhmlnfgjaaGreatDoorPk0
import Derived.Test.YtheoklhmlnfgjaaGreatDoorProg
import Derived.Deep.RegionHeld3
import Derived.Deep.SlicePairs
namespace Go.Proofs.YtheoklhmlnfgjaaGreatDoor
open Go.RowKit Go.Maps

/-- blocks that are neither x nor y are as they were -/
def Else2 (w w' : World) (x : Nat) (y : Option Nat) : Prop := ∀ g, g < w.heap.size → g ≠ x → some g ≠ y → w'.heap[g]? = w.heap[g]?
theorem lt_of_heap {w : World} {g : Nat} {o : Obj} (h : w.heap[g]? = some o) : g < w.heap.size := (Array.getElem?_eq_some_iff.1 h).1
theorem keep2 {w w' : World} {x g : Nat} {y : Option Nat} {o : Obj} (hE : Else2 w w' x y) (h : w.heap[g]? = some o) (h1 : g ≠ x) (h2 : some g ≠ y) : w'.heap[g]? = some o := (hE g (lt_of_heap h) h1 h2).trans h
theorem rowElse2 {w w' : World} {x base size n : Nat} {y : Option Nat} {e : TypeId} {v : Value} {xs : List Value} (h : w.ownsRow base e size v n xs) (hE : Else2 w w' x y) (hx : v.ownBlock ≠ some x) (hy : ∀ r, v.ownBlock = some r → y ≠ some r) : w'.ownsRow base e size v n xs := by
  refine ⟨h.1, ?_⟩
  rcases h.2 with h0 | ⟨g, cap, cur, rfl, h1, h2, r⟩
  · exact .inl h0
  · exact .inr ⟨g, cap, cur, rfl, h1, keep2 hE h2 (fun e => hx (by rw [e]; rfl)) (fun e => hy g rfl e.symm), r⟩
/-- a row's block is of the row's type -/
theorem rowBlk {w : World} {base size n g : Nat} {e : TypeId} {v : Value} {xs : List Value} (h : w.ownsRow base e size v n xs) (hv : v.ownBlock = some g) : ∃ cur, w.heap[g]? = some (.cells cur e (0, 0)) := by
  rcases h.2 with ⟨rfl, _⟩ | ⟨g', cap, cur, rfl, _, hg, _⟩
  · cases hv
  · have : g' = g := by simpa [Value.ownBlock] using hv
    subst this
    exact ⟨cur, hg⟩
theorem chgElse2 {w w' : World} {x : Nat} {y : Option Nat} {v : Value} {c : Chg} (h : IsChg w v c) (hE : Else2 w w' x y) (hx : ∀ (g : Nat) (cs : Array Value) (T : TypeId) (fr : Nat × Nat), w.heap[g]? = some (Obj.cells cs T fr) → T = 117 ∨ T = 9 → g ≠ x ∧ some g ≠ y) : IsChg w' v c := by
  have k : ∀ (g : Nat) (cs : Array Value) (T : TypeId) (fr : Nat × Nat), w.heap[g]? = some (Obj.cells cs T fr) → T = 117 ∨ T = 9 → w'.heap[g]? = some (Obj.cells cs T fr) := fun g cs T fr h1 h2 => keep2 hE h1 (hx g cs T fr h1 h2).1 (hx g cs T fr h1 h2).2
  cases c with
  | put a f =>
    obtain ⟨bf, bk, nm, e1, e2, e3, e4, e5⟩ := h
    exact ⟨bf, bk, nm, e1, e2, e3, k _ _ _ _ e4 (.inl rfl), k _ _ _ _ e5 (.inr rfl)⟩
  | ren a b f =>
    obtain ⟨ba, bf, bk, na, nm, e1, e2, e3, e4, e5, e6, e7, e8⟩ := h
    exact ⟨ba, bf, bk, na, nm, e1, e2, e3, e4, e5, k _ _ _ _ e6 (.inr rfl), k _ _ _ _ e7 (.inl rfl), k _ _ _ _ e8 (.inr rfl)⟩
  | del a =>
    obtain ⟨bk, nm, e1, e2, e3, e4⟩ := h
    exact ⟨bk, nm, e1, e2, e3, k _ _ _ _ e4 (.inr rfl)⟩

theorem hasFile_set {S : DiskC} {i : Nat} {f f' : FileC} (hf : S.files[i]? = some f) (hb : f'.blk = f.blk) {g : Nat} (h : HasFile S g) : HasFile { S with files := S.files.set i f' } g := by
  obtain ⟨z, hz, e⟩ := h
  obtain ⟨hi, e0⟩ := List.getElem?_eq_some_iff.1 hf
  obtain ⟨j, hj, e2⟩ := List.getElem_of_mem hz
  by_cases hij : i = j
  · subst hij
    refine ⟨f', ?_, ?_⟩
    · exact List.mem_iff_getElem.2 ⟨i, by rw [List.length_set]; exact hi, by simp⟩
    · rw [hb, ← e0, e2]; exact e
  · refine ⟨z, List.mem_iff_getElem.2 ⟨j, by rw [List.length_set]; exact hj, ?_⟩, e⟩
    rw [List.getElem_set_ne hij]; exact e2

/-- one file turns: its cells, its row -/
theorem DiskAt.setFile {w w' : World} {P : Nat → Prop} {dd i : Nat} {S : DiskC} {f f' : FileC} (h : DiskAt w P dd S) (hf : S.files[i]? = some f) (hb : f'.blk = f.blk) (hcell : w'.heap[f.blk]? = some (.cells #[.int .i64 i, f'.val, .int .i64 f'.firm] 119 (0, 0)))
    (hE : Else2 w w' f.blk f.val.ownBlock) (hown : Own8 w' 0 f'.val f'.data) (hrow : ∀ r, f'.val.ownBlock = some r → f.val.ownBlock = some r ∨ w.heap.size ≤ r) (hfm : f'.firm ≤ f'.data.length) :
    DiskAt w' (fun g => P g ∨ f'.val.ownBlock = some g) dd { S with files := S.files.set i f' } := by
  obtain ⟨g1, g2, g3, g4, g5⟩ := h.files i f hf
  have ty : ∀ (g : Nat) (cs : Array Value) (T : TypeId) (fr : Nat × Nat), w.heap[g]? = some (Obj.cells cs T fr) → T ≠ 119 → T ≠ 5 → g ≠ f.blk ∧ some g ≠ f.val.ownBlock := fun g cs T fr hg t1 t2 =>
    ⟨blk_ne hg g1 t1, fun e => by
      obtain ⟨cur, hc⟩ := rowBlk g2 e.symm
      rw [hg] at hc
      injection hc with e'
      injection e' with _ e'
      exact t2 e'⟩
  have mp : ∀ b M, OwnN w b M → b ≠ f.blk ∧ some b ≠ f.val.ownBlock := fun b M hM => ⟨map_ne hM g1, fun e => by
    obtain ⟨cur, hc⟩ := rowBlk g2 e.symm
    exact map_ne hM hc rfl⟩
  have apart2 : ∀ (m : Nat) (z : FileC), S.files[m]? = some z → m ≠ i → z.blk ≠ f.blk ∧ ∀ r, z.val.ownBlock = some r → f.val.ownBlock ≠ some r := by
    intro m z hz hne
    obtain ⟨hm, em⟩ := List.getElem?_eq_some_iff.1 hz
    obtain ⟨hi, ei⟩ := List.getElem?_eq_some_iff.1 hf
    have hp := List.pairwise_iff_getElem.1 h.apart
    rcases Nat.lt_or_gt_of_ne hne with hlt | hlt
    · have := hp m i hm hi hlt
      rw [em, ei] at this
      exact this
    · have := hp i m hi hm hlt
      rw [em, ei] at this
      exact ⟨fun e => this.1 e.symm, fun r hr e => this.2 r e hr⟩
  have td := ty dd _ _ _ h.blk (by decide) (by decide)
  refine ⟨?_, ?_, ?_, h.ne, ?_, ?_, ?_, ?_, ?_, ?_, ?_, ?_⟩
  · have := keep2 hE h.blk td.1 td.2
    rw [this]
    unfold diskCells
    simp
  · exact h.now.kept (hE _ h.now.lt (mp _ _ h.now).1 (mp _ _ h.now).2)
  · exact h.safe.kept (hE _ h.safe.lt (mp _ _ h.safe).1 (mp _ _ h.safe).2)
  · exact rowElse2 h.row hE (row_ne h.row g1 (by decide)) (fun r hr e => by
      obtain ⟨cur, hc⟩ := rowBlk h.row hr
      exact (ty r _ _ _ hc (by decide) (by decide)).2 e.symm)
  · intro j v c h1 h2
    refine ⟨chgElse2 (h.chg j v c h1 h2).1 hE fun g cs T fr hg hT => ty g cs T fr hg ?_ ?_, ?_⟩
    · rcases hT with rfl | rfl <;> decide
    · rcases hT with rfl | rfl <;> decide
    · have := (h.chg j v c h1 h2).2
      cases c with
      | put a b => exact hasFile_set hf hb this
      | ren a b d => exact hasFile_set hf hb this
      | del a => trivial
  · refine ⟨h.fails.1, ?_, fun a ha h0 hP => ?_⟩
    · intro h0
      obtain ⟨b, o, e, hc⟩ := h.fails.2.1 h0
      have hnp := h.fails.2.2 ⟨b, o, none⟩ e (by simpa using h0)
      refine ⟨b, o, e, fun k hk => ?_⟩
      have hck := hc k hk
      have hlt := World.block_lt_of_cell? w _ hck
      have hb2 := hE b hlt (fun e2 => hnp (by rw [e2]; exact g4)) (fun e2 => hnp (g3 b e2.symm))
      simp only [World.cell?, hb2]
      exact hck
    · rcases hP with hP | hP
      · exact h.fails.2.2 a ha h0 hP
      · rcases hrow _ hP with h1 | h1
        · exact h.fails.2.2 a ha h0 (g3 _ h1)
        · obtain ⟨b, o, e, hc⟩ := h.fails.2.1 (by simpa using h0)
          have hlt := World.block_lt_of_cell? w _ (hc 0 (by simpa using h0))
          have ha : S.fp = some a := ha
          rw [e] at ha
          injection ha with ha
          subst ha
          simp only at h1 hlt
          omega
  · intro j z hz
    by_cases hij : i = j
    · subst hij
      have hi := (List.getElem?_eq_some_iff.1 hf).1
      rw [List.getElem?_set_self hi] at hz
      obtain rfl := Option.some.inj hz
      exact ⟨by rw [hb]; exact hcell, hown, fun r hr => .inr hr, by rw [hb]; exact .inl g4, hfm⟩
    · rw [List.getElem?_set_ne hij] at hz
      obtain ⟨e1, e2, e3, e4, e5⟩ := h.files j z hz
      obtain ⟨a1, a2⟩ := apart2 j z hz (fun e => hij e.symm)
      refine ⟨keep2 hE e1 a1 (fun e => ?_), rowElse2 e2 hE (row_ne e2 g1 (by decide)) (fun r hr e => a2 r hr e), fun r hr => .inl (e3 r hr), .inl e4, e5⟩
      obtain ⟨cur, hc⟩ := rowBlk g2 e.symm
      exact blk_ne e1 hc (by decide) rfl
  · rw [List.pairwise_iff_getElem]
    intro j k hj hk hjk
    rw [List.length_set] at hj hk
    have new : ∀ (m : Nat) (z : FileC), S.files[m]? = some z → m ≠ i → z.blk ≠ f'.blk ∧ ∀ r, z.val.ownBlock = some r → f'.val.ownBlock ≠ some r := by
      intro m z hz hne
      obtain ⟨a1, a2⟩ := apart2 m z hz hne
      refine ⟨by rw [hb]; exact a1, fun r hr e => ?_⟩
      rcases hrow r e with h1 | h1
      · exact a2 r hr h1
      · obtain ⟨_, e2, _⟩ := h.files m z hz
        obtain ⟨cur, hc⟩ := rowBlk e2 hr
        have := lt_of_heap hc
        omega
    rw [List.getElem_set, List.getElem_set]
    by_cases e1 : i = j
    · rw [if_pos e1, if_neg (by omega)]
      obtain ⟨a1, a2⟩ := new k S.files[k] (List.getElem?_eq_getElem hk) (by omega)
      exact ⟨fun e => a1 e.symm, fun r hr e => a2 r e hr⟩
    · rw [if_neg e1]
      by_cases e2 : i = k
      · rw [if_pos e2]
        exact new j S.files[j] (List.getElem?_eq_getElem hj) (by omega)
      · rw [if_neg e2]
        exact (List.pairwise_iff_getElem.1 h.apart) j k hj hk hjk
  · exact fun x hx => hasFile_set hf hb (h.nowF x hx)
  · exact fun x hx => hasFile_set hf hb (h.safeF x hx)
  · exact ⟨.inl h.inP.1, .inl h.inP.2.1, .inl h.inP.2.2.1, fun r hr => .inl (h.inP.2.2.2 r hr)⟩
end Go.Proofs.YtheoklhmlnfgjaaGreatDoor
/-
  A disk behind a change of its names, its maps or its pending changes.
-/
namespace Go.Proofs.YtheoklhmlnfgjaaGreatDoor
open Go.RowKit Go.Maps

/-- what is cells of another type than a disk's or a row of changes' is as it was -/
def Typed (w w' : World) : Prop := ∀ (g : Nat) (cs : Array Value) (T : TypeId) (fr : Nat × Nat), w.heap[g]? = some (Obj.cells cs T fr) → T ≠ 116 → T ≠ 122 → w'.heap[g]? = some (Obj.cells cs T fr)
theorem Typed.trans {w w1 w2 : World} (h : Typed w w1) (h2 : Typed w1 w2) : Typed w w2 := fun g cs T fr e a b => h2 g cs T fr (h g cs T fr e a b) a b
theorem Typed.below {w w' : World} (hb : Below w.heap.size w w') : Typed w w' := fun _ _ _ _ e _ _ => Below.heap hb e
theorem chgTyped {w w' : World} {v : Value} {c : Chg} (h : IsChg w v c) (hT : Typed w w') : IsChg w' v c := by
  have k : ∀ (g : Nat) (cs : Array Value) (T : TypeId) (fr : Nat × Nat), w.heap[g]? = some (Obj.cells cs T fr) → T = 117 ∨ T = 9 → w'.heap[g]? = some (Obj.cells cs T fr) := fun g cs T fr h1 h2 =>
    hT g cs T fr h1 (by rcases h2 with rfl | rfl <;> decide) (by rcases h2 with rfl | rfl <;> decide)
  cases c with
  | put a f =>
    obtain ⟨bf, bk, nm, e1, e2, e3, e4, e5⟩ := h
    exact ⟨bf, bk, nm, e1, e2, e3, k _ _ _ _ e4 (.inl rfl), k _ _ _ _ e5 (.inr rfl)⟩
  | ren a b f =>
    obtain ⟨ba, bf, bk, na, nm, e1, e2, e3, e4, e5, e6, e7, e8⟩ := h
    exact ⟨ba, bf, bk, na, nm, e1, e2, e3, e4, e5, k _ _ _ _ e6 (.inr rfl), k _ _ _ _ e7 (.inl rfl), k _ _ _ _ e8 (.inr rfl)⟩
  | del a =>
    obtain ⟨bk, nm, e1, e2, e3, e4⟩ := h
    exact ⟨bk, nm, e1, e2, e3, k _ _ _ _ e4 (.inr rfl)⟩
theorem rowTyped {w w' : World} {base size n : Nat} {e : TypeId} {v : Value} {xs : List Value} (h : w.ownsRow base e size v n xs) (hT : Typed w w') (h1 : e ≠ 116) (h2 : e ≠ 122) : w'.ownsRow base e size v n xs := by
  refine ⟨h.1, ?_⟩
  rcases h.2 with h0 | ⟨g, cap, cur, rfl, hb, hg, r⟩
  · exact .inl h0
  · exact .inr ⟨g, cap, cur, rfl, hb, hT g _ _ _ hg h1 h2, r⟩

/-- the disk's cells, maps and pending changes turn; its files stay -/
theorem DiskAt.turn {w w' : World} {P P' : Nat → Prop} {dd : Nat} {S S' : DiskC} (h : DiskAt w P dd S) (hT : Typed w w') (hblk : w'.heap[dd]? = some (.cells (diskCells S') 116 (0, 0)))
    (hfiles : S'.files = S.files) (hfail : S'.fv = S.fv ∧ S'.fp = S.fp ∧ S'.fc = S.fc ∧ S'.fails = S.fails) (hcell : ∀ a, S.fp = some a → 0 < S.fails.length → w'.heap[a.block]? = w.heap[a.block]?)
    (hnow : OwnN w' S'.bn S'.now) (hsafe : OwnN w' S'.bs S'.safe) (hne : S'.bn ≠ S'.bs) (hrow : w'.ownsRow 0 122 1 S'.pv S'.pend.length S'.pvals)
    (hchg : ∀ (i : Nat) (v : Value) (c : Chg), S'.pvals[i]? = some v → S'.pend[i]? = some c → IsChg w' v c ∧ ChgFile S c) (hnowF : ∀ x ∈ S'.now, HasFile S x.2) (hsafeF : ∀ x ∈ S'.safe, HasFile S x.2)
    (hP : ∀ g, P g → P' g) (hP' : ∀ g, P' g → P g ∨ w.heap.size ≤ g) (hin : P' S'.bn ∧ P' S'.bs ∧ ∀ r, S'.pv.ownBlock = some r → P' r) : DiskAt w' P' dd S' := by
  have hf : ∀ g, HasFile S g → HasFile S' g := fun g ⟨f, hm, e⟩ => ⟨f, by rw [hfiles]; exact hm, e⟩
  refine ⟨hblk, hnow, hsafe, hne, hrow, ?_, ?_, ?_, ?_, ?_, ?_, ⟨hP _ h.inP.1, hin⟩⟩
  · intro i v c h1 h2
    obtain ⟨a, b⟩ := hchg i v c h1 h2
    refine ⟨a, ?_⟩
    cases c with
    | put k f => exact hf _ b
    | ren k j f => exact hf _ b
    | del k => trivial
  · obtain ⟨e1, e2, e3, e4⟩ := hfail
    rw [e1, e2, e3, e4]
    refine ⟨h.fails.1, ?_, fun a ha h0 hp => ?_⟩
    · intro h0
      obtain ⟨b, o, e, hc⟩ := h.fails.2.1 h0
      have hb := hcell _ e (by simpa using h0)
      refine ⟨b, o, e, fun k hk => ?_⟩
      have hck := hc k hk
      simp only at hb
      simp only [World.cell?, hb]
      exact hck
    · rcases hP' _ hp with h1 | h1
      · exact h.fails.2.2 a ha h0 h1
      · obtain ⟨b, o, e, hc⟩ := h.fails.2.1 (by simpa using h0)
        have hlt := World.block_lt_of_cell? w _ (hc 0 (by simpa using h0))
        have ha : S.fp = some a := ha
        rw [e] at ha
        injection ha with ha
        subst ha
        simp only at h1 hlt
        omega
  · intro i f hi
    rw [hfiles] at hi
    obtain ⟨a1, a2, a3, a4, a5⟩ := h.files i f hi
    exact ⟨hT _ _ _ _ a1 (by decide) (by decide), rowTyped a2 hT (by decide) (by decide), fun r hr => hP r (a3 r hr), hP _ a4, a5⟩
  · rw [hfiles]; exact h.apart
  · exact fun x hx => hf _ (hnowF x hx)
  · exact fun x hx => hf _ (hsafeF x hx)
end Go.Proofs.YtheoklhmlnfgjaaGreatDoor
/-
  Rows of pairs of texts (structs of two strings), whatever their type's name.
-/
namespace Go.Proofs.YtheoklhmlnfgjaaGreatDoor
open Go.RowKit

abbrev Pair := List UInt8 × List UInt8
def prV (x : Pair) : List Value := [.string ⟨x.1.toArray⟩, .string ⟨x.2.toArray⟩]
/-- the cells of pairs of texts -/
def pr : List Pair → List Value
  | [] => []
  | x :: L => prV x ++ pr L
theorem pr_length (L : List Pair) : (pr L).length = L.length * 2 := by
  induction L with
  | nil => rfl
  | cons x L ih => simp only [pr, prV, List.length_append, List.length_cons, List.length_nil, ih]; omega
theorem pr_append (L M : List Pair) : pr (L ++ M) = pr L ++ pr M := by
  induction L with
  | nil => rfl
  | cons x L ih => simp only [List.cons_append, pr, ih, List.append_assoc]
theorem pr_one (L : List Pair) : ∀ u ∈ pr L, u.oneCell' = true := by
  induction L with
  | nil => intro u hu; cases hu
  | cons x L ih =>
    intro u hu
    simp only [pr, prV, List.cons_append, List.nil_append, List.mem_cons] at hu
    rcases hu with rfl | rfl | hu
    · rfl
    · rfl
    · exact ih u hu
theorem pr_get (L : List Pair) (i : Nat) (h : i < L.length) : (pr L)[i * 2]? = some (.string ⟨L[i].1.toArray⟩) ∧ (pr L)[i * 2 + 1]? = some (.string ⟨L[i].2.toArray⟩) := by
  induction L generalizing i with
  | nil => simp at h
  | cons x L ih =>
    cases i with
    | zero => simp [pr, prV]
    | succ i =>
      have h2 := ih i (by simpa using h)
      have e1 : (i + 1) * 2 = i * 2 + 1 + 1 := by omega
      have e2 : (i + 1) * 2 + 1 = i * 2 + 1 + 1 + 1 := by omega
      rw [e2, e1]
      simpa [pr, prV] using h2

/-- pairs of texts stand at the address (whatever it is, where there are none) -/
def In2 (w : World) (p : Option Addr) (L : List Pair) : Prop :=
  0 < L.length → ∃ b o, p = some ⟨b, o, none⟩ ∧ ∀ j v, (pr L)[j]? = some v → w.cell? ⟨b, o + j, none⟩ = some v
theorem In2.at {w : World} {p : Option Addr} {L : List Pair} (h : In2 w p L) {k : Nat} (hk : k < L.length) :
    ∃ b o, p = some ⟨b, o, none⟩ ∧ ∃ x y : ByteArray, w.cell? ⟨b, o + k * 2, none⟩ = some (.string x) ∧ w.cell? ⟨b, o + k * 2 + 1, none⟩ = some (.string y) ∧ x.data.toList = L[k].1 ∧ y.data.toList = L[k].2 := by
  obtain ⟨b, o, e, hc⟩ := h (by omega)
  obtain ⟨h1, h2⟩ := pr_get L k hk
  exact ⟨b, o, e, _, _, hc _ _ h1, (by have := hc _ _ h2; rwa [← Nat.add_assoc] at this), rfl, rfl⟩
theorem In2.below {w w' : World} {p : Option Addr} {L : List Pair} (h : In2 w p L) (hb : Below w.heap.size w w') : In2 w' p L := by
  intro h0
  obtain ⟨b, o, rfl, hc⟩ := h h0
  refine ⟨b, o, rfl, fun j v hv => ?_⟩
  have := hc j v hv
  rw [hb.cell (p := ⟨b, o + j, none⟩) (World.block_lt_of_cell? w _ this)]
  exact this
theorem In2.alloc {w : World} {p : Option Addr} {L : List Pair} (h : In2 w p L) (o : Obj) : In2 (w.alloc o) p L := h.below ((Below.refl _ w).alloc (Nat.le_refl _) o)
theorem In2.drewN {w : World} {p : Option Addr} {L : List Pair} (h : In2 w p L) (n : Nat) : In2 (w.drewN n) p L := h
theorem In2.lit (w : World) (L : List Pair) (c : Array Value) (e : TypeId) (fr : Nat × Nat) (h : c.toList = pr L) : In2 (w.alloc (.cells c e fr)) (some ⟨w.heap.size, 0, none⟩) L := by
  intro _
  refine ⟨w.heap.size, 0, rfl, fun j v hv => ?_⟩
  rw [cell_of_row _ _ _ _ _ _ (heap_alloc_new w (.cells c e fr)), Nat.zero_add, ← Array.getElem?_toList, h, hv]
theorem In2.one (w : World) (x y : ByteArray) (e : TypeId) : In2 (w.alloc (.cells #[.string x, .string y] e)) (some ⟨w.heap.size, 0, none⟩) [(x.data.toList, y.data.toList)] :=
  In2.lit w _ _ e (0, 0) (by simp [pr, prV])

/-- the slice v is a row of the call's own of pairs of type e -/
def Own2 (e : TypeId) (w : World) (base : Nat) (v : Value) (L : List Pair) : Prop := w.ownsRow base e 2 v L.length (pr L)
theorem Own2.nil (e : TypeId) (w : World) (base : Nat) : Own2 e w base (.slice none 0 0) [] := World.ownsRow_nil _ _ _ _
theorem Own2.made (e : TypeId) (w : World) : Own2 e (w.alloc (.cells #[] e)) w.heap.size (.slice (some ⟨w.heap.size, 0, none⟩) 0 0) [] :=
  ⟨rfl, .inr ⟨w.heap.size, 0, #[], rfl, Nat.le_refl _, heap_alloc_new w _, by simp, by unfold maxLen; omega, rfl, rfl⟩⟩
theorem Own2.below {e : TypeId} {w w' : World} {base : Nat} {v : Value} {L : List Pair} (h : Own2 e w base v L) (hb : Below w.heap.size w w') : Own2 e w' base v L := ownsRow_below h hb
theorem Own2.mono {e : TypeId} {w : World} {base base' : Nat} {v : Value} {L : List Pair} (h : Own2 e w base v L) (hb : base' ≤ base) : Own2 e w base' v L := ownsRow_mono h hb
theorem Own2.alloc {e : TypeId} {w : World} {base : Nat} {v : Value} {L : List Pair} (h : Own2 e w base v L) (o : Obj) : Own2 e (w.alloc o) base v L := World.ownsRow.alloc h o
theorem Own2.grown {e : TypeId} {w w1 w' : World} {B : Nat} {v : Value} {L : List Pair} (hB : Below B w w1) (hs : B ≤ w1.heap.size) (hown : Own2 e w1 B v L) (hg : w1.grownBy w' v.ownBlock) : Below B w w' :=
  hB.grown hg hs (fun k e => (World.ownsRow.lt hown k e).1)
theorem Own2.shape {e : TypeId} {w : World} {base n : Nat} {v : Value} {L : List Pair} (h : Own2 e w base v L) (hn : L.length = n) :
    ∃ p c, v = .slice p n c ∧ n ≤ c ∧ c ≤ maxLen ∧ In2 w p L ∧ (∀ a, p = some a → base ≤ a.block ∧ a.block < w.heap.size ∧ a.off = 0 ∧ a.spot = none) := by
  subst hn
  have hlt := World.ownsRow.lt h
  rcases h.2 with ⟨rfl, hn⟩ | ⟨g, cap, cur, rfl, hb, hg, hnc, hcm, hcs, ht⟩
  · refine ⟨none, 0, by rw [hn], by omega, by unfold maxLen; omega, fun h0 => by omega, fun a ha => by cases ha⟩
  · refine ⟨some ⟨g, 0, none⟩, cap, rfl, hnc, hcm, fun h0 => ⟨g, 0, rfl, fun j v hv => ?_⟩, fun a ha => ?_⟩
    · rw [cell_of_row _ _ _ _ _ _ hg, Nat.zero_add, ← Array.getElem?_toList]
      have hj : j < L.length * 2 := by rw [← pr_length]; exact (List.getElem?_eq_some_iff.1 hv).1
      rw [← ht, List.getElem?_take_of_lt hj] at hv
      exact hv
    · obtain rfl := Option.some.inj ha
      exact ⟨hb, (hlt g rfl).2, rfl, rfl⟩

/-- what a program says of a type of pairs -/
structure PairT (t e : TypeId) : Prop where
  ht : Tryz.prog.underlying t = some (.slice e)
  hi : (Tryz.prog.info? e).map (fun i => (i.zero, i.size, i.bytes)) = some (some (.agg #[.string .empty, .string .empty]), 2, 32)

theorem src2 {t e : TypeId} (T : PairT t e) {w : World} {p : Option Addr} {M : List Pair} {c : Nat} (hin : In2 w p M) : Src Tryz.prog 2 t (.slice p M.length c) M.length (pr M) w := by
  by_cases h0 : 0 < M.length
  · obtain ⟨b, o, rfl, hc⟩ := hin h0
    refine Src.ofSlice w T.ht ⟨b, o, none⟩ M.length c (pr M) (pr_length M) (fun j u hu => ?_) (pr_one M)
    rw [Go.WideShapes.add_plain]; exact hc j u hu
  · obtain rfl : M = [] := List.eq_nil_of_length_eq_zero (by omega)
    cases p with
    | none => exact Src.ofNil w T.ht c
    | some a => exact Src.ofSlice w T.ht a 0 c [] rfl (fun j u hu => by simp at hu) (fun u hu => by cases hu)

section
variable {w : World}
theorem wpList_append2 {t e : TypeId} (T : PairT t e) {ops : Array Oper} {rest : List Oper} {o : Oper} {a : Act} {Q : Exit → Act → World → Prop} (hgd : o.guard = none) (s x : Operand)
    (ho : o.op = .call { callee := .builtin .append, args := #[s, x], argTypes := #[t, t] })
    (base : Nat) (v : Value) (L : List Pair) (hv : a.eval s = v) (hown : Own2 e w base v L)
    (p : Option Addr) (m c : Nat) (M : List Pair) (hm : M.length = m) (hx : a.eval x = .slice p m c) (hin : In2 w p M)
    (hr : L.length + m ≤ 6000000000000) (hbase : base ≤ w.heap.size)
    (h : ∀ v' w', Own2 e w' base v' (L ++ M) → w.grownBy w' v.ownBlock → (v' = .slice none 0 0 ↔ v = .slice none 0 0 ∧ m = 0) → wpList Tryz.prog ops Q rest (a.put o.dst v') w') : wpList Tryz.prog ops Q (o :: rest) a w := by
  subst hm
  refine wpList_append_fit w hgd s x t t ho base e (.agg #[.string .empty, .string .empty]) 2 32 T.ht T.hi rfl v L.length (pr L) hv hown _ M.length (pr M) hx (src2 T hin) (by unfold maxLen; omega) (by omega) hbase ?_
  intro v' w' ho' hg hn
  exact h v' w' (by unfold Own2; rw [List.length_append, pr_append]; exact ho') hg hn
end
end Go.Proofs.YtheoklhmlnfgjaaGreatDoor
/-
  append that also tells where the result lies: in the block where the row lay, or in a new one; and up to more than the guide's bound.
-/
namespace Go.Proofs.YtheoklhmlnfgjaaGreatDoor
open Go.RowKit

/-- where a grown row may lie -/
def Way (w : World) (v v' : Value) : Prop := ∀ g, v'.ownBlock = some g → v.ownBlock = some g ∨ w.heap.size ≤ g

section
variable {P : Program} (w : World)
theorem wpList_append_way {ops : Array Oper} {rest : List Oper} {o : Oper} {a : Act} {Q : Exit → Act → World → Prop} (hgd : o.guard = none) (s x : Operand) (t tx : TypeId)
    (ho : o.op = .call { callee := .builtin .append, args := #[s, x], argTypes := #[t, tx] })
    (base : Nat) (e : TypeId) (z : Value) (size bytes : Nat) (ht : P.underlying t = some (.slice e)) (hi : (P.info? e).map (fun i => (i.zero, i.size, i.bytes)) = some (some z, size, bytes))
    (hzs : z.cells.size = size)
    (v : Value) (n : Nat) (xs : List Value) (hv : a.eval s = v) (hown : w.ownsRow base e size v n xs)
    (y : Value) (m : Nat) (news : List Value) (hx : a.eval x = y) (hs : Src P size tx y m news w)
    (h63 : n + m ≤ maxLen) (hbytes : (n + m + (n + m) / 4 + 512) * bytes ≤ 281474976710656) (hbase : base ≤ w.heap.size)
    (h : ∀ v' w', w'.ownsRow base e size v' (n + m) (xs ++ news) → w.grownBy w' v.ownBlock → Way w v v' → wpList P ops Q rest (a.put o.dst v') w') : wpList P ops Q (o :: rest) a w := by
  refine wpList_plain hgd fun K hK => ?_
  obtain ⟨i, hi, hz, hz1, hz2⟩ := info_parts hi
  obtain ⟨v', w', hr, h2, h3, h4⟩ := run_append_where (P := P) w base t tx o.type e i z size bytes ht hi hz hz1 hz2 hzs v n xs hown y m news hs h63 (fun old hold => Nat.le_trans (Nat.mul_le_mul_right _ (nextslicecap_le _ _ hold)) hbytes) hbase
  unfold Oper.wp execOp
  simp only [ho, resolve, invoke, builtin, Sem.run_bind, Sem.run_pure, Result.andThen_ok, List.map_toArray, List.map_cons, List.map_nil, hv, hx, hr]
  refine hK _ _ (h v' w' h2 h3 fun g hg => ?_)
  rcases h4 with ⟨g', cap, rfl, rfl⟩ | ⟨cap, rfl, _⟩ | ⟨rfl, _, _⟩
  · exact .inl hg
  · right
    have e : some w.heap.size = some g := hg
    injection e with e
    omega
  · exact .inl hg
end

section
variable {w : World}
/-- texts onto texts of the call's own, with where the result lies -/
theorem wpList_appendSw {ops : Array Oper} {rest : List Oper} {o : Oper} {a : Act} {Q : Exit → Act → World → Prop} (hgd : o.guard = none) (s x : Operand)
    (ho : o.op = .call { callee := .builtin .append, args := #[s, x], argTypes := #[95, 95] })
    (base : Nat) (v : Value) (L : List (List UInt8)) (hv : a.eval s = v) (hown : OwnS w base v L)
    (p : Option Addr) (m c : Nat) (M : List (List UInt8)) (hm : M.length = m) (hx : a.eval x = .slice p m c) (hin : InS w p M)
    (hr : L.length + m ≤ 12000000000000) (hbase : base ≤ w.heap.size)
    (h : ∀ v' w', OwnS w' base v' (L ++ M) → w.grownBy w' v.ownBlock → Way w v v' → wpList Tryz.prog ops Q rest (a.put o.dst v') w') : wpList Tryz.prog ops Q (o :: rest) a w := by
  subst hm
  have hs : Src Tryz.prog 1 95 (.slice p M.length c) M.length (tx M) w := by
    have := srcV (c := c) (e := 9) Tryz.underlying95 hin (tx_one M)
    rwa [tx_length] at this
  refine wpList_append_way w hgd s x 95 95 ho base 9 (.string .empty) 1 16 Tryz.underlying95 infoS rfl v L.length (tx L) hv hown _ M.length (tx M) hx hs (by unfold maxLen; omega) (by omega) hbase ?_
  intro v' w' ho' hg hn
  exact h v' w' (by unfold OwnS; rw [List.length_append, tx_append]; exact ho') hg hn
/-- pairs onto pairs of the call's own, with where the result lies -/
theorem wpList_append2w {t e : TypeId} (T : PairT t e) {ops : Array Oper} {rest : List Oper} {o : Oper} {a : Act} {Q : Exit → Act → World → Prop} (hgd : o.guard = none) (s x : Operand)
    (ho : o.op = .call { callee := .builtin .append, args := #[s, x], argTypes := #[t, t] })
    (base : Nat) (v : Value) (L : List Pair) (hv : a.eval s = v) (hown : Own2 e w base v L)
    (p : Option Addr) (m c : Nat) (M : List Pair) (hm : M.length = m) (hx : a.eval x = .slice p m c) (hin : In2 w p M)
    (hr : L.length + m ≤ 6000000000000) (hbase : base ≤ w.heap.size)
    (h : ∀ v' w', Own2 e w' base v' (L ++ M) → w.grownBy w' v.ownBlock → Way w v v' → wpList Tryz.prog ops Q rest (a.put o.dst v') w') : wpList Tryz.prog ops Q (o :: rest) a w := by
  subst hm
  refine wpList_append_way w hgd s x t t ho base e (.agg #[.string .empty, .string .empty]) 2 32 T.ht T.hi rfl v L.length (pr L) hv hown _ M.length (pr M) hx (src2 T hin) (by unfold maxLen; omega) (by omega) hbase ?_
  intro v' w' ho' hg hn
  exact h v' w' (by unfold Own2; rw [List.length_append, pr_append]; exact ho') hg hn
end

theorem InV.kept {w w' : World} {row : Option Nat} {p : Option Addr} {xs : List Value} (h : InV w p xs) (hg : w.grownBy w' row) (hne : ∀ a, p = some a → row ≠ some a.block) : InV w' p xs := by
  intro h0
  obtain ⟨b, o, rfl, hc⟩ := h h0
  exact ⟨b, o, rfl, fun i hi => hg.cell (hc i hi) (fun e => hne _ rfl e.symm)⟩
theorem InS.kept {w w' : World} {row : Option Nat} {p : Option Addr} {L : List (List UInt8)} (h : InS w p L) (hg : w.grownBy w' row) (hne : ∀ a, p = some a → row ≠ some a.block) : InS w' p L := InV.kept h hg hne

/-- a row of the call's own that grows while, of what was in w1, at most the block row changes -/
def OutV (B : Nat) (row : Option Nat) (w1 : World) (e size : Nat) (v : Value) (n : Nat) (xs : List Value) (w : World) : Prop :=
  w.ownsRow B e size v n xs ∧ w1.grownBy w row ∧ ∀ g, v.ownBlock = some g → some g = row ∨ w1.heap.size ≤ g
theorem grown_below {w1 w w' : World} {row : Option Nat} (h : w1.grownBy w row) (hb : Below w.heap.size w w') : w1.grownBy w' row :=
  ⟨hb.os.trans h.os, hb.tape.trans h.tape, hb.output.trans h.output, Nat.le_trans h.size hb.size, fun i hi hn => (hb.block i (Nat.lt_of_lt_of_le hi h.size)).trans (h.block i hi hn)⟩
theorem OutV.below {B : Nat} {row : Option Nat} {w1 : World} {e size : Nat} {v : Value} {n : Nat} {xs : List Value} {w w' : World} (h : OutV B row w1 e size v n xs w) (hb : Below w.heap.size w w') : OutV B row w1 e size v n xs w' :=
  ⟨ownsRow_below h.1 hb, grown_below h.2.1 hb, h.2.2⟩
theorem OutV.alloc {B : Nat} {row : Option Nat} {w1 : World} {e size : Nat} {v : Value} {n : Nat} {xs : List Value} {w : World} (h : OutV B row w1 e size v n xs w) (o : Obj) : OutV B row w1 e size v n xs (w.alloc o) :=
  h.below ((Below.refl _ w).alloc (Nat.le_refl _) o)
theorem OutV.app {B : Nat} {row : Option Nat} {w1 : World} {e size : Nat} {v v' : Value} {n m : Nat} {xs ys : List Value} {w w' : World} (h : OutV B row w1 e size v n xs w) (hown : w'.ownsRow B e size v' m ys) (hg : w.grownBy w' v.ownBlock) (hway : Way w v v') : OutV B row w1 e size v' m ys w' := by
  refine ⟨hown, ⟨hg.os.trans h.2.1.os, hg.tape.trans h.2.1.tape, hg.output.trans h.2.1.output, Nat.le_trans h.2.1.size hg.size, fun i hi hn => ?_⟩, fun g e => ?_⟩
  · refine (hg.block i (Nat.lt_of_lt_of_le hi h.2.1.size) (fun e => ?_)).trans (h.2.1.block i hi hn)
    rcases h.2.2 i e.symm with h1 | h1
    · exact hn h1
    · omega
  · rcases hway g e with h1 | h1
    · exact h.2.2 g h1
    · right; have := h.2.1.size; omega
theorem OutV.nil (B : Nat) (w1 : World) (e size : Nat) : OutV B none w1 e size (.slice none 0 0) 0 [] w1 :=
  ⟨World.ownsRow_nil _ _ _ _, ⟨rfl, rfl, rfl, Nat.le_refl _, fun _ _ _ => rfl⟩, fun _ e => by cases e⟩
theorem OutV.start {B : Nat} {w1 : World} {e size : Nat} {v : Value} {n : Nat} {xs : List Value} (h : w1.ownsRow B e size v n xs) : OutV B v.ownBlock w1 e size v n xs w1 :=
  ⟨h, ⟨rfl, rfl, rfl, Nat.le_refl _, fun _ _ _ => rfl⟩, fun _ e => .inl e.symm⟩
theorem OutV.keepS {B : Nat} {row : Option Nat} {w1 : World} {e size : Nat} {v : Value} {n : Nat} {xs : List Value} {w : World} (h : OutV B row w1 e size v n xs w) {p : Option Addr} {M : List (List UInt8)} (hin : InS w1 p M) (hne : ∀ a, p = some a → row ≠ some a.block) : InS w p M := hin.kept h.2.1 hne
/-- what lay below the row's base is as it was -/
theorem OutV.final {B : Nat} {row : Option Nat} {w0 w1 : World} {e size : Nat} {v : Value} {n : Nat} {xs : List Value} {w : World} (h : OutV B row w1 e size v n xs w) (hb : Below w0.heap.size w0 w1) (hr : ∀ g, row = some g → w0.heap.size ≤ g) : Below w0.heap.size w0 w :=
  hb.grown h.2.1 hb.size hr
def OutS (B : Nat) (row : Option Nat) (w1 : World) (v : Value) (L : List (List UInt8)) (w : World) : Prop := OutV B row w1 9 1 v L.length (tx L) w
theorem OutS.own {B : Nat} {row : Option Nat} {w1 : World} {v : Value} {L : List (List UInt8)} {w : World} (h : OutS B row w1 v L w) : OwnS w B v L := h.1
theorem OutS.below {B : Nat} {row : Option Nat} {w1 : World} {v : Value} {L : List (List UInt8)} {w w' : World} (h : OutS B row w1 v L w) (hb : Below w.heap.size w w') : OutS B row w1 v L w' := OutV.below h hb
theorem OutS.alloc {B : Nat} {row : Option Nat} {w1 : World} {v : Value} {L : List (List UInt8)} {w : World} (h : OutS B row w1 v L w) (o : Obj) : OutS B row w1 v L (w.alloc o) := OutV.alloc h o
theorem OutS.app {B : Nat} {row : Option Nat} {w1 : World} {v v' : Value} {L M : List (List UInt8)} {w w' : World} (h : OutS B row w1 v L w) (hown : OwnS w' B v' M) (hg : w.grownBy w' v.ownBlock) (hway : Way w v v') : OutS B row w1 v' M w' := OutV.app h hown hg hway
end Go.Proofs.YtheoklhmlnfgjaaGreatDoor
/-
  alter: a change is made and kept.
-/
namespace Go.Proofs.YtheoklhmlnfgjaaGreatDoor
open Go.RowKit Go.Maps

theorem infoC : (Tryz.prog.info? 122).map (fun i => (i.zero, i.size, i.bytes)) = some (some .nilFunc, 1, 8) := by kernel_rfl
theorem chg_form {w : World} {v : Value} {c : Chg} (h : IsChg w v c) : v.oneCell' = true := by
  cases c with
  | put k f => obtain ⟨bf, bk, nm, _, _, rfl, _⟩ := h; rfl
  | ren a k f => obtain ⟨ba, bf, bk, na, nm, _, _, _, _, rfl, _⟩ := h; rfl
  | del k => obtain ⟨bk, nm, _, _, rfl, _⟩ := h; rfl

set_option maxHeartbeats 4000000 in
theorem chg_enter {w : World} {g : Nat} {cap : Array Value} {c : Chg} (hc : IsChg w (.func (.func g) #[] cap) c) : ∀ (args : Array Value) (w : World), (callFunc g args).run Tryz.prog w = .ok (.enter g args) w := by
  cases c with
  | put k f =>
    obtain ⟨bf, bk, nm, _, _, e, _⟩ := hc
    injection e with e
    injection e with e
    subst e
    exact enters_of Tryz.func81 (by kernel_rfl) rfl
  | ren a k f =>
    obtain ⟨ba, bf, bk, na, nm, _, _, _, _, e, _⟩ := hc
    injection e with e
    injection e with e
    subst e
    exact enters_of Tryz.func87 (by kernel_rfl) rfl
  | del k =>
    obtain ⟨bk, nm, _, _, e, _⟩ := hc
    injection e with e
    injection e with e
    subst e
    exact enters_of Tryz.func79 (by kernel_rfl) rfl

set_option maxHeartbeats 4000000 in
set_option maxRecDepth 100000 in
theorem alter_any {w : World} {P : Nat → Prop} {dd : Nat} {S : DiskC} (h : DiskAt w P dd S) (v : Value) (c : Chg) (hc : IsChg w v c) (hcf : ChgFile S c) (hl : S.now.length ≤ 4000000000000) (hp : S.pend.length ≤ 1000000) :
    Calls Tryz.prog 78 #[.pointer (some ⟨dd, 0, none⟩), v] w fun e w' => e = .returned (.int .i64 0) ∧ (∃ pv' P', DiskAt w' P' dd { S with now := applyC c S.now, pend := S.pend ++ [c], pvals := S.pvals ++ [v], pv := pv' } ∧ ∀ g, P' g → P g ∨ w.heap.size ≤ g) ∧ Only P w w' := by
  obtain ⟨g, cap, rfl, hcall⟩ := chg_call h.now hc (by unfold maxLen; omega)
  have c0 : w.cell? ⟨dd, 0, none⟩ = some (.map (some S.bn)) := h.cell 0
  have hent := chg_enter hc
  go_enter Tryz.func78, Tryz.ntmps78
  go_wp2_with fail
  refine hcall.mono ?_
  rintro e w1 ⟨rfl, hnow1, hg1, hsz1⟩
  clear hcall hent
  have hE1 : Else w w1 S.bn := fun k hk => by
    by_cases hlt : k < w.heap.size
    · exact hg1.block k hlt (fun e => hk (by injection e))
    · rw [Array.getElem?_eq_none (by omega), Array.getElem?_eq_none (by omega)]
  have hmn : ∀ (k : Nat) (cs : Array Value) (T : TypeId) (fr : Nat × Nat), w.heap[k]? = some (Obj.cells cs T fr) → w1.heap[k]? = some (Obj.cells cs T fr) := fun k cs T fr hk => (hE1 k (fun e => map_ne h.now hk e.symm)).trans hk
  have hblk1 := hmn _ _ _ _ h.blk
  have hrow1 : w1.ownsRow 0 122 1 S.pv S.pend.length S.pvals := rowElse h.row hE1 (fun e => by
    obtain ⟨cur, hc2⟩ := rowBlk h.row e
    exact map_ne h.now hc2 rfl)
  have hc1 : IsChg w1 (.func (.func g) #[] cap) c := chgTyped hc (fun k cs T fr hk _ _ => hmn k cs T fr hk)
  have hsafe1 : OwnN w1 S.bs S.safe := h.safe.kept (hE1 _ (fun e => h.ne e.symm))
  have c2 : w1.cell? ⟨dd, 2, none⟩ = some S.pv := by rw [cell_of_row _ _ _ _ _ _ hblk1]; rfl
  have hown3 := World.ownsRow.alloc hrow1 (.cells #[.func (.func g) #[] cap] 122)
  have hsrc := srcV (c := 1) (e := 122) (t := 114) Tryz.underlying114 (InV.one w1 (.func (.func g) #[] cap) 122) (by intro u hu; rw [List.mem_singleton.1 hu]; rfl)
  have H := Lib.hid h
  have HC1 := Lib.hid hc1
  have HC := Lib.hid hc
  have HSZ := Lib.hid hsz1
  clear hc hc1 h hsz1
  go_wp2_with (
    at_builtin
    refine wpList_append_way _ rfl _ _ 114 114 rfl 0 122 .nilFunc 1 8 Tryz.underlying114 infoC rfl _ S.pend.length S.pvals rfl hown3 _ 1 [.func (.func g) #[] cap] rfl hsrc (by unfold maxLen; omega) (by omega) (by omega) ?_
    intro v4 w4 hown4 hgrow4 hway4
    have hblk4 := (hgrow4.block dd (by have := lt_of_heap hblk1; simp; omega) (fun e => row_ne hrow1 hblk1 (by decide) e.symm)).trans ((heap_alloc_old _ _ (lt_of_heap hblk1)).trans hblk1)
    have d2 : w4.cell? ⟨dd, 2, none⟩ = some S.pv := by rw [cell_of_row _ _ _ _ _ _ hblk4]; rfl
    have f4 := fun i => frozen_of_row w4 dd i _ _ hblk4
    have H4 := Lib.hid hway4
    obtain ⟨p4, c4, rfl, z1, z2, _, _⟩ := owns_shape hown4)
  go_ret
  have h := H.out
  have hsz := HSZ.out
  obtain ⟨wa, hwa⟩ : ∃ W0, W0 = w1.alloc (.cells #[.func (.func g) #[] cap] 122) := ⟨_, rfl⟩
  have hba : Below w1.heap.size w1 wa := by rw [hwa]; exact (Below.refl _ w1).alloc (Nat.le_refl _) _
  have hga : wa.grownBy w4 S.pv.ownBlock := by rw [hwa]; exact hgrow4
  have hwy : Way wa S.pv (.slice p4 (S.pend.length + 1) c4) := by rw [hwa]; exact hway4
  obtain ⟨w5, hw5⟩ : ∃ W0, W0 = w4.setCell ⟨dd, 2, none⟩ (.slice p4 (S.pend.length + 1) c4) := ⟨_, rfl⟩
  rw [← hw5]
  have hE5 : Else w4 w5 dd := fun k hk => by rw [hw5]; exact Below.heap_setCell _ _ _ _ hk
  have hblk5 : w5.heap[dd]? = some (.cells (diskCells { S with now := applyC c S.now, pend := S.pend ++ [c], pvals := S.pvals ++ [.func (.func g) #[] cap], pv := .slice p4 (S.pend.length + 1) c4 }) 116 (0, 0)) := by
    rw [hw5]
    simp only [World.setCell, Array.getElem?_modify, hblk4]
    simp [diskCells]
  have pvr : ∀ (k : Nat) (cs : Array Value) (T : TypeId) (fr : Nat × Nat), w1.heap[k]? = some (Obj.cells cs T fr) → T ≠ 122 → w4.heap[k]? = some (Obj.cells cs T fr) := fun k cs T fr hk hT =>
    have hk2 := Below.heap hba hk
    (hga.block k (lt_of_heap hk2) (fun e => row_ne hrow1 hk (fun e2 => hT e2.symm) e.symm)).trans hk2
  have hT15 : Typed w w5 := fun k cs T fr hk t1 t2 => by
    have h4 := pvr k cs T fr (hmn k cs T fr hk) t2
    exact (hE5 k (blk_ne h4 hblk4 t1)).trans h4
  have mapk : ∀ (b : Nat) (M : NM), OwnN w1 b M → OwnN w5 b M := fun b M hM => by
    have h2 := hM.below hba
    have h4 : OwnN w4 b M := h2.kept (hga.block b h2.lt (fun e => by
      obtain ⟨cur, hc⟩ := rowBlk hrow1 e.symm
      exact map_ne hM hc rfl))
    exact h4.kept (hE5 b (map_ne h4 hblk4))
  have hlen : S.pvals.length = S.pend.length := by have := h.row.1; omega
  have hd : DiskAt w5 (fun k => P k ∨ (Value.slice p4 (S.pend.length + 1) c4).ownBlock = some k) dd { S with now := applyC c S.now, pend := S.pend ++ [c], pvals := S.pvals ++ [.func (.func g) #[] cap], pv := .slice p4 (S.pend.length + 1) c4 } := by
    refine h.turn hT15 hblk5 rfl ⟨rfl, rfl, rfl, rfl⟩ (fun a ha h0 => ?_) (mapk _ _ hnow1) (mapk _ _ hsafe1) h.ne ?_ ?_ ?_ h.safeF (fun k hk => .inl hk) ?_ ⟨.inl h.inP.2.1, .inl h.inP.2.2.1, fun r hr => .inr hr⟩
    · have hnp := h.fails.2.2 a ha h0
      obtain ⟨b, o, e, hcc⟩ := h.fails.2.1 (by simpa using h0)
      have hlt := World.block_lt_of_cell? w _ (hcc 0 (by simpa using h0))
      rw [e] at ha
      injection ha with ha
      subst ha
      simp only at hlt hnp
      have e1 := hE1 b (fun e => hnp (by rw [e]; exact h.inP.2.1))
      have e2 := hba.block b (by omega)
      have e3 := hga.block b (by have := hba.size; omega) (fun e => hnp (h.inP.2.2.2 b e.symm))
      have e4 := hE5 b (fun e => hnp (by rw [e]; exact h.inP.1))
      exact ((e4.trans e3).trans e2).trans e1
    · show w5.ownsRow 0 122 1 (.slice p4 (S.pend.length + 1) c4) (S.pend ++ [c]).length (S.pvals ++ [.func (.func g) #[] cap])
      rw [List.length_append]
      exact rowElse hown4 hE5 (row_ne hown4 hblk4 (by decide))
    · intro j v' c' h1 h2
      simp only at h1 h2
      by_cases hj : j < S.pend.length
      · rw [List.getElem?_append_left (by omega)] at h1 h2
        obtain ⟨a, b⟩ := h.chg j v' c' h1 h2
        exact ⟨chgTyped a hT15, b⟩
      · have hlt2 := (List.getElem?_eq_some_iff.1 h2).1
        rw [List.length_append] at hlt2
        simp only [List.length_cons, List.length_nil] at hlt2
        obtain rfl : j = S.pend.length := by omega
        rw [List.getElem?_append_right (by omega)] at h1 h2
        simp only [Nat.sub_self, hlen, List.getElem?_cons_zero, Option.some.injEq] at h1 h2
        subst h1 h2
        exact ⟨chgTyped HC.out hT15, hcf⟩
    · intro x hx
      cases c with
      | put k f =>
        rcases insN_mem k f x S.now hx with e | e
        · rw [e]; exact hcf
        · exact h.nowF x e
      | ren a k f =>
        rcases insN_mem k f x _ hx with e | e
        · rw [e]; exact hcf
        · exact h.nowF x (List.mem_filter.1 e).1
      | del k => exact h.nowF x (List.mem_filter.1 hx).1
    · intro k hk
      rcases hk with hk | hk
      · exact .inl hk
      · rcases hwy k hk with e | e
        · exact .inl (h.inP.2.2.2 k e)
        · have := hba.size; exact .inr (by omega)
  refine ⟨rfl, ⟨_, _, hd, fun k hk => ?_⟩, ?_⟩
  · rcases hk with hk | hk
    · exact .inl hk
    · rcases hwy k hk with e | e
      · exact .inl (h.inP.2.2.2 k e)
      · have := hba.size; exact .inr (by omega)
  · have hos : w4.os = w.os := hga.os.trans (hba.os.trans hg1.os)
    have hot : w4.tape = w.tape := hga.tape.trans (hba.tape.trans hg1.tape)
    have hoo : w4.output = w.output := hga.output.trans (hba.output.trans hg1.output)
    have hz4 := hga.size
    have hza := hba.size
    refine ⟨by rw [hw5]; exact hos, by rw [hw5]; exact hot, by rw [hw5]; exact hoo, by rw [hw5]; simp only [World.setCell]; simp; omega, fun k hk hnk => ?_⟩
    have e1 := hE1 k (fun e => hnk (by rw [e]; exact h.inP.2.1))
    have e2 := hba.block k (by omega)
    have e3 := hga.block k (by omega) (fun e => hnk (h.inP.2.2.2 k e.symm))
    have e4 := hE5 k (fun e => hnk (by rw [e]; exact h.inP.1))
    exact ((e4.trans e3).trans e2).trans e1
end Go.Proofs.YtheoklhmlnfgjaaGreatDoor
/-
  A disk behind a new file.
-/
namespace Go.Proofs.YtheoklhmlnfgjaaGreatDoor
open Go.RowKit Go.Maps

theorem hasFile_add {S : DiskC} (f : FileC) {g : Nat} (h : HasFile S g) : HasFile { S with files := S.files ++ [f] } g := by
  obtain ⟨z, hz, e⟩ := h
  exact ⟨z, List.mem_append_left _ hz, e⟩
theorem hasFile_new {S : DiskC} (f : FileC) : HasFile { S with files := S.files ++ [f] } f.blk := ⟨f, by simp, rfl⟩

/-- one file more -/
theorem DiskAt.addFile {w w' : World} {P : Nat → Prop} {dd : Nat} {S : DiskC} (h : DiskAt w P dd S) (f : FileC) (hE : Else2 w w' dd none) (hblk : w'.heap[dd]? = some (.cells (diskCells { S with files := S.files ++ [f] }) 116 (0, 0)))
    (hcell : w'.heap[f.blk]? = some (.cells #[.int .i64 S.files.length, f.val, .int .i64 f.firm] 119 (0, 0))) (hown : Own8 w' 0 f.val f.data) (hnew : w.heap.size ≤ f.blk) (hrow : ∀ r, f.val.ownBlock = some r → w.heap.size ≤ r) (hfm : f.firm ≤ f.data.length) :
    DiskAt w' (fun g => P g ∨ g = f.blk ∨ f.val.ownBlock = some g) dd { S with files := S.files ++ [f] } := by
  have nn : ∀ g : Nat, some g ≠ none := fun g e => by cases e
  have ty : ∀ (g : Nat) (cs : Array Value) (T : TypeId) (fr : Nat × Nat), w.heap[g]? = some (Obj.cells cs T fr) → T ≠ 116 → g ≠ dd := fun g cs T fr hg t1 => blk_ne hg h.blk t1
  refine ⟨hblk, ?_, ?_, h.ne, ?_, ?_, ?_, ?_, ?_, ?_, ?_, ?_⟩
  · exact h.now.kept (hE _ h.now.lt (map_ne h.now h.blk) (nn _))
  · exact h.safe.kept (hE _ h.safe.lt (map_ne h.safe h.blk) (nn _))
  · exact rowElse2 h.row hE (row_ne h.row h.blk (by decide)) (fun r hr e => by cases e)
  · intro j v c h1 h2
    refine ⟨chgElse2 (h.chg j v c h1 h2).1 hE fun g cs T fr hg hT => ⟨ty g cs T fr hg ?_, nn _⟩, ?_⟩
    · rcases hT with rfl | rfl <;> decide
    · have := (h.chg j v c h1 h2).2
      cases c with
      | put a b => exact hasFile_add f this
      | ren a b d => exact hasFile_add f this
      | del a => trivial
  · refine ⟨h.fails.1, ?_, fun a ha h0 hP => ?_⟩
    · intro h0
      obtain ⟨b, o, e, hc⟩ := h.fails.2.1 h0
      have hnp := h.fails.2.2 ⟨b, o, none⟩ e (by simpa using h0)
      refine ⟨b, o, e, fun k hk => ?_⟩
      have hck := hc k hk
      have hlt := World.block_lt_of_cell? w _ hck
      have hb2 := hE b hlt (fun e2 => hnp (by rw [e2]; exact h.inP.1)) (nn _)
      simp only [World.cell?, hb2]
      exact hck
    · obtain ⟨b, o, e, hc⟩ := h.fails.2.1 (by simpa using h0)
      have hlt := World.block_lt_of_cell? w _ (hc 0 (by simpa using h0))
      have hnp := h.fails.2.2 a ha h0
      have ha : S.fp = some a := ha
      rw [e] at ha
      injection ha with ha
      subst ha
      simp only at hlt hP hnp
      rcases hP with hP | hP | hP
      · exact hnp hP
      · omega
      · have := hrow _ hP; omega
  · intro j z hz
    by_cases hj : j < S.files.length
    · rw [List.getElem?_append_left hj] at hz
      obtain ⟨e1, e2, e3, e4, e5⟩ := h.files j z hz
      exact ⟨keep2 hE e1 (ty _ _ _ _ e1 (by decide)) (nn _), rowElse2 e2 hE (row_ne e2 h.blk (by decide)) (fun r hr e => by cases e), fun r hr => .inl (e3 r hr), .inl e4, e5⟩
    · have hlt2 := (List.getElem?_eq_some_iff.1 hz).1
      rw [List.length_append] at hlt2
      simp only [List.length_cons, List.length_nil] at hlt2
      obtain rfl : j = S.files.length := by omega
      rw [List.getElem?_append_right (Nat.le_refl _)] at hz
      simp only [Nat.sub_self, List.getElem?_cons_zero, Option.some.injEq] at hz
      subst hz
      exact ⟨hcell, hown, fun r hr => .inr (.inr hr), .inr (.inl rfl), hfm⟩
  · rw [List.pairwise_append]
    refine ⟨h.apart, List.pairwise_singleton _ _, fun z hz y hy => ?_⟩
    rw [List.mem_singleton.1 hy]
    obtain ⟨j, hj, e⟩ := List.getElem_of_mem hz
    obtain ⟨e1, e2, _⟩ := h.files j z (by rw [List.getElem?_eq_getElem hj, e])
    refine ⟨fun e3 => ?_, fun r hr e3 => ?_⟩
    · have := lt_of_heap e1; omega
    · obtain ⟨cur, hc⟩ := rowBlk e2 hr
      have := lt_of_heap hc
      have := hrow r e3
      omega
  · exact fun x hx => hasFile_add f (h.nowF x hx)
  · exact fun x hx => hasFile_add f (h.safeF x hx)
  · exact ⟨.inl h.inP.1, .inl h.inP.2.1, .inl h.inP.2.2.1, fun r hr => .inl (h.inP.2.2.2 r hr)⟩
end Go.Proofs.YtheoklhmlnfgjaaGreatDoor
/-
  Sync: a file's bytes are safe.
-/
namespace Go.Proofs.YtheoklhmlnfgjaaGreatDoor
open Go.RowKit Go.Maps

/-- the files, of which the one in block g turns -/
def setF (g : Nat) (u : FileC → FileC) (F : List FileC) : List FileC := F.map fun f => if f.blk = g then u f else f
theorem setF_set (g : Nat) (u : FileC → FileC) (F : List FileC) (i : Nat) (f : FileC) (hf : F[i]? = some f) (hg : f.blk = g) (ha : F.Pairwise fun f g => f.blk ≠ g.blk ∧ ∀ r, f.val.ownBlock = some r → g.val.ownBlock ≠ some r) : setF g u F = F.set i (u f) := by
  obtain ⟨hi, ei⟩ := List.getElem?_eq_some_iff.1 hf
  unfold setF
  apply List.ext_getElem
  · simp
  · intro j h1 h2
    have hj : j < F.length := by simpa using h1
    rw [List.getElem_map, List.getElem_set]
    by_cases hij : i = j
    · subst hij
      rw [if_pos rfl, ei, if_pos hg]
    · rw [if_neg hij, if_neg]
      intro e
      have hp := List.pairwise_iff_getElem.1 ha
      rcases Nat.lt_or_gt_of_ne hij with hlt | hlt
      · have := (hp i j hi hj hlt).1
        rw [ei, hg] at this
        exact this e.symm
      · have := (hp j i hj hi hlt).1
        rw [ei, hg] at this
        exact this e
def syncS (S : DiskC) (k : List UInt8) : DiskC :=
  match onF S [] k with
  | none => beginS S
  | some g => { beginS S with files := setF g (fun f => { f with firm := f.data.length }) (beginS S).files }
theorem onE_F (S : DiskC) (L : List (List UInt8)) (k : List UInt8) : (onE S L k = 0 ↔ ∃ g, onF S L k = some g) := by
  unfold onE onF
  by_cases h : beginE S (L ++ [k]) ≠ 0
  · rw [if_pos h, if_pos h]
    exact ⟨fun e => absurd e h, fun ⟨g, e⟩ => by cases e⟩
  · rw [if_neg h, if_neg h]
    cases lookN S.now k with
    | none => simp
    | some g => simp

set_option maxHeartbeats 4000000 in
theorem sync_any {w : World} {P : Nat → Prop} {dd : Nat} {S : DiskC} (h : DiskAt w P dd S) (nm : ByteArray) (hnm : nm.size ≤ 140737488351232) (hst : S.steps ≤ 1000000) (hfl : S.fails.length ≤ 17592186043904) :
    Calls Tryz.prog 48 #[.pointer (some ⟨dd, 0, none⟩), .string nm] w fun e w' => e = .returned (.int .i64 (onE S [] nm.data.toList)) ∧ (∃ P', DiskAt w' P' dd (syncS S nm.data.toList) ∧ ∀ g, P' g → P g) ∧ Only P w w' := by
  have hon := on_any h (Below.refl _ w) nm hnm (.slice none 0 0) [] (OwnS.nil _ _) (by simp) (by simp) hst hfl
  have hif := onE_F S [] nm.data.toList
  obtain ⟨en, hen⟩ : ∃ en, en = onE S [] nm.data.toList := ⟨_, rfl⟩
  rw [← hen] at hon hif ⊢
  have hsub : ∀ w', Only (fun g => g = dd) w w' → Only P w w' := fun w' ho => ⟨ho.os, ho.tape, ho.output, ho.size, fun k hk hne => ho.block k hk (fun e => hne (by rw [e]; exact h.inP.1))⟩
  have HSUB := Lib.hid hsub
  clear hen hsub
  cases hf : onF S [] nm.data.toList with
  | none =>
    have hz : ¬ en = 0 := fun e => by obtain ⟨g, e2⟩ := hif.1 e; rw [hf] at e2; cases e2
    have hz2 : (en == 0) = false := beq_eq_false_iff_ne.2 hz
    have HS := Lib.hid (show syncS S nm.data.toList = beginS S by unfold syncS; rw [hf])
    rw [hf] at hon
    clear hif hf
    go_enter Tryz.func48, Tryz.ntmps48
    go_wp2_with fail
    refine hon.mono ?_
    rintro e w1 ⟨rfl, h1, ho1, _⟩
    clear hon
    go_wp2_with fail
    go_ret
    exact ⟨rfl, ⟨P, by rw [HS.out]; exact h1, fun _ hg => hg⟩, HSUB.out _ ho1⟩
  | some g =>
    have hz : en = 0 := hif.2 ⟨g, hf⟩
    subst hz
    have HS := Lib.hid (show syncS S nm.data.toList = { beginS S with files := setF g (fun f => { f with firm := f.data.length }) (beginS S).files } by unfold syncS; rw [hf])
    have hnow : lookN S.now nm.data.toList = some g := by
      unfold onF at hf
      split at hf
      · cases hf
      · exact hf
    have hmem := lookN_mem _ _ _ hnow
    rw [hf] at hon
    unfold fileV at hon
    clear hif hf hnow
    go_enter Tryz.func48, Tryz.ntmps48
    go_wp2_with fail
    refine hon.mono ?_
    rintro e w1 ⟨rfl, h1, ho1, _⟩
    clear hon
    have hmem1 : (nm.data.toList, g) ∈ (beginS S).now := by rw [(beginS_now S).1]; exact hmem
    obtain ⟨f, hfm, hfg⟩ := h1.nowF _ hmem1
    obtain ⟨i, hi, ei⟩ := List.getElem_of_mem hfm
    have hfi : (beginS S).files[i]? = some f := by rw [List.getElem?_eq_getElem hi, ei]
    obtain ⟨b1, b2, b3, b4, b5⟩ := h1.files i f hfi
    simp only at hfg
    subst hfg
    obtain ⟨pv, cv, hval, k1, k2, _⟩ := b2.in8n rfl
    have c1 : w1.cell? ⟨f.blk, 1, none⟩ = some (.slice pv f.data.length cv) := by rw [cell_of_row _ _ _ _ _ _ b1, ← hval]; rfl
    have c2 : w1.cell? ⟨f.blk, 2, none⟩ = some (.int .i64 f.firm) := by rw [cell_of_row _ _ _ _ _ _ b1]; rfl
    have f2 := fun i => frozen_of_row w1 f.blk i _ _ b1
    go_wp2_with fail
    go_ret
    obtain ⟨w2, hw2⟩ : ∃ W0, W0 = w1.setCell ⟨f.blk, 2, none⟩ (.int .i64 f.data.length) := ⟨_, rfl⟩
    rw [← hw2]
    have hcell : w2.heap[f.blk]? = some (.cells #[.int .i64 i, f.val, .int .i64 f.data.length] 119 (0, 0)) := by
      rw [hw2]
      simp only [World.setCell, Array.getElem?_modify, b1]
      simp
    have hother : ∀ k, k ≠ f.blk → w2.heap[k]? = w1.heap[k]? := fun k hk => by rw [hw2]; exact Below.heap_setCell _ _ _ _ hk
    have hne := row_ne b2 b1 (by decide)
    have h2 := h1.setFile (f' := { f with firm := f.data.length }) hfi rfl hcell (fun k _ hk _ => hother k hk) (rowElse b2 hother hne) (fun r hr => .inl hr) (Nat.le_refl _)
    have ho2 : Only P w w2 := by
      have ho := HSUB.out _ ho1
      refine ⟨?_, ?_, ?_, ?_, fun k hk hnk => (hother k (fun e => hnk (by rw [e]; exact b4))).trans (ho.block k hk hnk)⟩
      · rw [hw2]; exact ho.os
      · rw [hw2]; exact ho.tape
      · rw [hw2]; exact ho.output
      · rw [hw2]; simpa [World.setCell] using ho.size
    refine ⟨rfl, ⟨fun g => P g ∨ f.val.ownBlock = some g, ?_, fun g hg => ?_⟩, ho2⟩
    · rw [HS.out, setF_set f.blk _ _ i f hfi rfl h1.apart]
      exact h2
    · rcases hg with hg | hg
      · exact hg
      · exact b3 g hg
end Go.Proofs.YtheoklhmlnfgjaaGreatDoor
/-
  SyncNames: the names are safe.
-/
namespace Go.Proofs.YtheoklhmlnfgjaaGreatDoor
open Go.RowKit Go.Maps

def syncNamesS (S : DiskC) (b : Nat) : DiskC := if beginE S [] = 0 then { beginS S with bs := b, safe := S.now, pv := .slice none 0 0, pend := [], pvals := [] } else beginS S

set_option maxHeartbeats 4000000 in
theorem syncNames_any {w : World} {P : Nat → Prop} {dd : Nat} {S : DiskC} (h : DiskAt w P dd S) (hst : S.steps ≤ 1000000) (hfl : S.fails.length ≤ 17592186043904) :
    Calls Tryz.prog 49 #[.pointer (some ⟨dd, 0, none⟩)] w fun e w' => e = .returned (.int .i64 (beginE S [])) ∧ (∃ b P', DiskAt w' P' dd (syncNamesS S b) ∧ ∀ g, P' g → P g ∨ w.heap.size ≤ g) ∧ Only P w w' := by
  have hbeg := begin_any h [] none 0 0 rfl (by omega) (by simp) (fun h0 => absurd h0 (by simp [tx])) hst hfl
  obtain ⟨en, hen⟩ : ∃ en, en = beginE S [] := ⟨_, rfl⟩
  have hS0 : ∀ b, syncNamesS S b = if en = 0 then { beginS S with bs := b, safe := S.now, pv := .slice none 0 0, pend := [], pvals := [] } else beginS S := fun b => by rw [hen]; rfl
  rw [← hen] at hbeg ⊢
  have HS0 := Lib.hid hS0
  have hsub : ∀ w', Only (fun g => g = dd) w w' → Only P w w' := fun w' ho => ⟨ho.os, ho.tape, ho.output, ho.size, fun k hk hne => ho.block k hk (fun e => hne (by rw [e]; exact h.inP.1))⟩
  have HSUB := Lib.hid hsub
  clear hen hsub hS0
  by_cases hz : en = 0
  · subst hz
    have HS1 := Lib.hid (fun b => (HS0.out b).trans (if_pos rfl))
    go_enter Tryz.func49, Tryz.ntmps49
    go_wp2_with fail
    refine hbeg.mono ?_
    rintro e w1 ⟨rfl, h1, ho1⟩
    clear hbeg
    have c0 : w1.cell? ⟨dd, 0, none⟩ = some (.map (some S.bn)) := by
      have := h1.cell 0
      rw [this]
      unfold diskCells
      rw [(beginS_now S).2]; rfl
    have hmap : OwnN w1 S.bn S.now := by
      have := h1.now
      rwa [(beginS_now S).1, (beginS_now S).2] at this
    have hcl := cloneF_any hmap
    go_wp2_with fail
    refine hcl.mono ?_
    rintro e w2 ⟨rfl, hmap2, hb2⟩
    clear hcl
    have h2 := h1.below hb2
    have c1 : w2.cell? ⟨dd, 1, none⟩ = some (.map (some (beginS S).bs)) := h2.cell 1
    have c2 : w2.cell? ⟨dd, 2, none⟩ = some (beginS S).pv := h2.cell 2
    have hfz := fun i => h2.unfrozen i
    go_wp2_with fail
    go_ret
    obtain ⟨w3, hw3⟩ : ∃ W0, W0 = (w2.setCell ⟨dd, 1, none⟩ (.map (some w1.heap.size))).setCell ⟨dd, 2, none⟩ (.slice none 0 0) := ⟨_, rfl⟩
    rw [← hw3]
    have hblk : w3.heap[dd]? = some (.cells (diskCells { beginS S with bs := w1.heap.size, safe := S.now, pv := .slice none 0 0, pend := [], pvals := [] }) 116 (0, 0)) := by
      rw [hw3]
      simp only [World.setCell, Array.getElem?_modify, h2.blk]
      simp [diskCells]
    have hE : Else w2 w3 dd := fun g hg => by
      rw [hw3]
      exact (Below.heap_setCell _ _ _ _ hg).trans (Below.heap_setCell _ _ _ _ hg)
    have hT : Typed w2 w3 := fun g cs T fr hg t1 _ => (hE g (blk_ne hg h2.blk t1)).trans hg
    have hlt := hmap.lt
    have hdd : dd < w1.heap.size := lt_of_heap h1.blk
    have hs2 := hb2.size
    have hnow2 : OwnN w3 S.bn S.now := (hmap.below hb2).kept (hE _ (map_ne (hmap.below hb2) h2.blk))
    have hsafe2 : OwnN w3 w1.heap.size S.now := hmap2.kept (hE _ (map_ne hmap2 h2.blk))
    have hbn := beginS_now S
    have hd : DiskAt w3 (fun g => P g ∨ g = w1.heap.size) dd { beginS S with bs := w1.heap.size, safe := S.now, pv := .slice none 0 0, pend := [], pvals := [] } := by
      refine h1.turn ((Typed.below hb2).trans hT) hblk rfl ⟨rfl, rfl, rfl, rfl⟩ (fun a ha h0 => (hE _ (fun e => h1.fails.2.2 a ha h0 (by rw [e]; exact h1.inP.1))).trans (by
        obtain ⟨b, o, e, hc⟩ := h1.fails.2.1 (by simpa using h0)
        have hlt2 := World.block_lt_of_cell? w1 _ (hc 0 (by simpa using h0))
        rw [e] at ha
        injection ha with ha
        subst ha
        exact hb2.block _ hlt2)) ?_ hsafe2 ?_ (World.ownsRow_nil _ _ _ _) ?_ h2.nowF ?_ (fun g hg => .inl hg) ?_ ⟨.inl h2.inP.2.1, .inr rfl, fun r hr => by cases hr⟩
      · show OwnN w3 (beginS S).bn (beginS S).now
        rw [hbn.1, hbn.2]; exact hnow2
      · show (beginS S).bn ≠ w1.heap.size
        rw [hbn.2]; omega
      · intro i v c h1
        simp at h1
      · intro x hx
        exact h2.nowF x (by rw [hbn.1]; exact hx)
      · intro g hg
        rcases hg with hg | hg
        · exact .inl hg
        · exact .inr (by omega)
    have ho := HSUB.out _ ho1
    have ho3 : Only P w w3 := by
      refine ⟨?_, ?_, ?_, ?_, fun k hk hnk => ?_⟩
      · rw [hw3]; exact hb2.os.trans ho.os
      · rw [hw3]; exact hb2.tape.trans ho.tape
      · rw [hw3]; exact hb2.output.trans ho.output
      · rw [hw3]; simp only [World.setCell]; simp; have := ho.size; omega
      · have hk1 : k < w1.heap.size := Nat.lt_of_lt_of_le hk ho.size
        exact ((hE k (fun e => hnk (by rw [e]; exact h.inP.1))).trans (hb2.block k hk1)).trans (ho.block k hk hnk)
    refine ⟨rfl, ⟨w1.heap.size, _, by rw [HS1.out]; exact hd, fun g hg => ?_⟩, ho3⟩
    rcases hg with hg | hg
    · exact .inl hg
    · exact .inr (by rw [hg]; exact ho.size)
  · have hz2 : (en == 0) = false := beq_eq_false_iff_ne.2 hz
    go_enter Tryz.func49, Tryz.ntmps49
    go_wp2_with fail
    refine hbeg.mono ?_
    rintro e w1 ⟨rfl, h1, ho1⟩
    clear hbeg
    go_wp2_with fail
    go_ret
    exact ⟨rfl, ⟨0, P, by rw [HS0.out, if_neg hz]; exact h1, fun _ hg => .inl hg⟩, HSUB.out _ ho1⟩
end Go.Proofs.YtheoklhmlnfgjaaGreatDoor
/-
  Remove: a name is taken away.
-/
namespace Go.Proofs.YtheoklhmlnfgjaaGreatDoor
open Go.RowKit Go.Maps

theorem onE_none (S : DiskC) (L : List (List UInt8)) (k : List UInt8) (h : onE S L k = 0) : ∃ g, onF S L k = some g ∧ lookN S.now k = some g := by
  unfold onE at h
  unfold onF
  by_cases h1 : beginE S (L ++ [k]) ≠ 0
  · rw [if_pos h1] at h; exact absurd h h1
  · rw [if_neg h1] at h ⊢
    cases hl : lookN S.now k with
    | none => rw [hl] at h; simp at h
    | some g => exact ⟨g, rfl, rfl⟩

set_option maxHeartbeats 4000000 in
set_option maxRecDepth 100000 in
theorem remove_any {w : World} {P : Nat → Prop} {dd : Nat} {S : DiskC} (h : DiskAt w P dd S) (nm : ByteArray) (hnm : nm.size ≤ 140737488351232) (hst : S.steps ≤ 1000000) (hfl : S.fails.length ≤ 17592186043904) (hl : S.now.length ≤ 4000000000000) (hp : S.pend.length ≤ 1000000) :
    Calls Tryz.prog 42 #[.pointer (some ⟨dd, 0, none⟩), .string nm] w fun e w' => e = .returned (.int .i64 (onE S [] nm.data.toList)) ∧
      (∃ P', (∀ g, P' g → P g ∨ w.heap.size ≤ g) ∧ ((onE S [] nm.data.toList ≠ 0 ∧ DiskAt w' P' dd (beginS S)) ∨ (onE S [] nm.data.toList = 0 ∧ ∃ pv' v, DiskAt w' P' dd { beginS S with now := delN nm.data.toList S.now, pend := (beginS S).pend ++ [.del nm.data.toList], pvals := (beginS S).pvals ++ [v], pv := pv' }))) ∧ Only P w w' := by
  have hb0 : Below w.heap.size w (w.alloc (.cells #[.string nm] 9)) := (Below.refl _ w).alloc (Nat.le_refl _) _
  have hon := on_any h hb0 nm hnm (.slice none 0 0) [] (OwnS.nil _ _) (by simp) (by simp) hst hfl
  have hmf : ∀ (fn : Fn) (first cap : Array Value) (w : World), (Instr.makeFunc fn first cap).run Tryz.prog w = .ok (.func fn first cap) w := fun _ _ _ _ => rfl
  have hbx := heap_alloc_new w (.cells #[.string nm] 9)
  have cbx : (w.alloc (.cells #[.string nm] 9)).cell? ⟨w.heap.size, 0, none⟩ = some (.string nm) := by rw [cell_of_row _ _ _ _ _ _ hbx]; rfl
  go_enter Tryz.func42, Tryz.ntmps42
  obtain ⟨en, hen⟩ : ∃ en, en = onE S [] nm.data.toList := ⟨_, rfl⟩
  rw [← hen] at hon ⊢
  clear hen
  have hdd : dd < w.heap.size := lt_of_heap h.blk
  have hfr : ∀ w', Only (fun g => g = dd ∨ (Value.slice none 0 0).ownBlock = some g) (w.alloc (.cells #[.string nm] 9)) w' → Only P w w' := fun w' ho =>
    have hz := ho.size
    ⟨ho.os, ho.tape, ho.output, by simp at hz; omega, fun k hk hnk => (ho.block k (by simp; omega) (fun e => by
      rcases e with e | e
      · exact hnk (by rw [e]; exact h.inP.1)
      · cases e)).trans (heap_alloc_old _ _ hk)⟩
  have HFR := Lib.hid hfr
  have HBX := Lib.hid hbx
  clear hfr hbx
  go_wp2_with fail
  refine hon.mono ?_
  rintro e w1 ⟨rfl, h1, _, ho1⟩
  clear hon
  have HO1 := Lib.hid ho1
  by_cases hz : en = 0
  · subst hz
    have hbx1 : w1.heap[w.heap.size]? = some (.cells #[.string nm] 9 (0, 0)) := (ho1.block w.heap.size (by simp) (fun e => by
      rcases e with e | e
      · omega
      · cases e)).trans HBX.out
    have hchg : IsChg w1 (.func (.func 79) #[] #[.pointer (some ⟨w.heap.size, 0, none⟩)]) (.del nm.data.toList) := ⟨w.heap.size, nm, rfl, by unfold maxLen; omega, rfl, hbx1⟩
    have hbs := beginS_now S
    have hpend : (beginS S).pend = S.pend := by unfold beginS; split <;> rfl
    have halt := alter_any h1 _ _ hchg trivial (by rw [hbs.1]; exact hl) (by rw [hpend]; exact hp)
    have HBS := Lib.hid hbs
    clear ho1 hbs hpend
    go_wp2_with fail
    refine halt.mono ?_
    rintro e w2 ⟨rfl, ⟨pv', P', h2, hP'⟩, ho2⟩
    clear halt
    go_wp2_with fail
    go_ret
    have hsz := (HFR.out _ HO1.out).size
    refine ⟨rfl, ⟨P', fun k hk => (hP' k hk).imp id (fun e => Nat.le_trans hsz e), pv', .func (.func 79) #[] #[.pointer (some ⟨w.heap.size, 0, none⟩)], ?_⟩, ?_⟩
    · have e : applyC (.del nm.data.toList) (beginS S).now = delN nm.data.toList S.now := by rw [HBS.out.1]; rfl
      rw [e] at h2
      exact h2
    · have ho := HFR.out _ HO1.out
      exact ⟨ho2.os.trans ho.os, ho2.tape.trans ho.tape, ho2.output.trans ho.output, Nat.le_trans ho.size ho2.size, fun k hk hnk => (ho2.block k (Nat.lt_of_lt_of_le hk ho.size) hnk).trans (ho.block k hk hnk)⟩
  · have hz2 : (en == 0) = false := beq_eq_false_iff_ne.2 hz
    have hz3 : (en != 0) = true := by simp [bne, hz2]
    clear ho1
    go_wp2_with fail
    go_ret
    exact ⟨rfl, ⟨P, fun _ hk => .inl hk, .inl ⟨hz, h1⟩⟩, HFR.out _ HO1.out⟩
end Go.Proofs.YtheoklhmlnfgjaaGreatDoor
/-
  What stays as it was from world to world.
-/
namespace Go.Proofs.YtheoklhmlnfgjaaGreatDoor
open Go.RowKit

theorem cell_keep {w w' : World} {a : Addr} {v : Value} (h : w.cell? a = some v) (hb : Below w.heap.size w w') : w'.cell? a = some v :=
  (hb.cell (World.block_lt_of_cell? w _ h)).trans h
theorem ba_self (s : ByteArray) : (⟨s.data.toList.toArray⟩ : ByteArray) = s := by cases s; simp
theorem ba_ext {a b : ByteArray} (h : a.data.toList = b.data.toList) : a = b := by
  cases a with | mk x => cases b with | mk y => have : x = y := Array.toList_inj.1 h; rw [this]
theorem below_on {B : Nat} {w w1 w2 : World} (h : Below B w w1) (hs : B ≤ w.heap.size) (h2 : Below w1.heap.size w1 w2) : Below B w w2 :=
  h.trans (h2.mono (Nat.le_trans hs h.size))
end Go.Proofs.YtheoklhmlnfgjaaGreatDoor
/-
  append, and bytes of a text, as steps of a region that draws.
-/
namespace Go.Proofs.YtheoklhmlnfgjaaGreatDoor
open Go.RowKit

/-- append onto a row of the call's own, as a step of a region that draws -/
theorem step_append_fit {P : Program} {w : World} {ops : Array Oper} {o : Oper} {a : Act} {K : Act → World → Prop} {Q : Exit → Act → World → Prop} {E : Prop} (hgd : o.guard = none) (s x : Operand) (t tx : TypeId)
    (ho : o.op = .call { callee := .builtin .append, args := #[s, x], argTypes := #[t, tx] })
    (base : Nat) (e : TypeId) (z : Value) (size bytes : Nat) (ht : P.underlying t = some (.slice e)) (hi : (P.info? e).map (fun i => (i.zero, i.size, i.bytes)) = some (some z, size, bytes))
    (hzs : z.cells.size = size)
    (v : Value) (n : Nat) (xs : List Value) (hv : a.eval s = v) (hown : w.ownsRow base e size v n xs)
    (y : Value) (m : Nat) (news : List Value) (hx : a.eval x = y) (hs : Src P size tx y m news w)
    (h63 : n + m ≤ maxLen) (hbytes : (n + m + (n + m) / 4 + 512) * bytes ≤ 281474976710656) (hbase : base ≤ w.heap.size)
    (h : ∀ v' w', w'.ownsRow base e size v' (n + m) (xs ++ news) → w.grownBy w' v.ownBlock → K (a.put o.dst v') w') :
    if Region.wanted o (yielded ops a.tmps) = true then Oper.wp P o a w K Q else E := by
  have hw : Region.wanted o (yielded ops a.tmps) = true := by simp [Region.wanted, hgd]
  rw [if_pos hw]
  obtain ⟨i, hi, hz, hz1, hz2⟩ := info_parts hi
  obtain ⟨v', w', hr, h2, h3, h4⟩ := run_append_fit (P := P) w base t tx o.type e i z size bytes ht hi hz hz1 hz2 hzs v n xs hown y m news hs h63 (fun old hold => Nat.le_trans (Nat.mul_le_mul_right _ (nextslicecap_le _ _ hold)) hbytes) hbase
  unfold Oper.wp execOp
  simp only [ho, resolve, invoke, builtin, Sem.run_bind, Sem.run_pure, Result.andThen_ok, List.map_toArray, List.map_cons, List.map_nil, hv, hx, hr]
  exact h v' w' h2 h3
theorem step_append8 {w : World} {ops : Array Oper} {o : Oper} {a : Act} {K : Act → World → Prop} {Q : Exit → Act → World → Prop} {E : Prop} (hgd : o.guard = none) (s x : Operand)
    (ho : o.op = .call { callee := .builtin .append, args := #[s, x], argTypes := #[22, 22] })
    (base : Nat) (v : Value) (l : List UInt8) (hv : a.eval s = v) (hown : Own8 w base v l)
    (p : Option Addr) (m c : Nat) (l2 : List UInt8) (hm : l2.length = m) (hx : a.eval x = .slice p m c) (hin : In8 w p l2)
    (hr : l.length + m ≤ 200000000000000) (hbase : base ≤ w.heap.size)
    (h : ∀ v' w', Own8 w' base v' (l ++ l2) → w.grownBy w' v.ownBlock → K (a.put o.dst v') w') :
    if Region.wanted o (yielded ops a.tmps) = true then Oper.wp Tryz.prog o a w K Q else E := by
  subst hm
  refine step_append_fit hgd s x _ _ ho base 5 (.int .u8 0) 1 1 Tryz.underlying22 info8 rfl v l.length (by8 l) hv hown _ l2.length (by8 l2) hx (Src.of8 hin) (by unfold maxLen; omega) (by omega) hbase ?_
  intro v' w' ho' hg
  exact h v' w' (by unfold Own8; rw [List.length_append, by8_append]; exact ho') hg

/-- the world behind a text's bytes -/
def bytesW (w : World) (t : ByteArray) : World := w.drew.alloc (.cells (bytesRow t (grownCap w t.size 0 5)) 5 ((bytesRow t (grownCap w t.size 0 5)).size, (bytesRow t (grownCap w t.size 0 5)).size + 1))
theorem bytesW_run (w : World) (t : ByteArray) : (convert 9 22 (.string t)).run Tryz.prog w = .ok (.slice (some ⟨w.heap.size, 0, none⟩) t.size (grownCap w t.size 0 5)) (bytesW w t) :=
  run_bytes_of_string (P := Tryz.prog) w 9 22 5 t Tryz.underlying9 Tryz.underlying22 Tryz.underlying5
theorem bytesW_below (w : World) (t : ByteArray) : Below w.heap.size w (bytesW w t) :=
  (Below.refl _ w).drew.alloc (Nat.le_refl _) _
theorem bytesW_in8 (w : World) (t : ByteArray) : In8 (bytesW w t) (some ⟨w.heap.size, 0, none⟩) t.data.toList := by
  intro _
  have hl : t.data.toList.length = t.size := by rw [Array.length_toList]; rfl
  refine ⟨w.heap.size, 0, rfl, fun i hi => ?_⟩
  have hb : (bytesW w t).heap[w.heap.size]? = some (.cells (bytesRow t (grownCap w t.size 0 5)) 5 ((bytesRow t (grownCap w t.size 0 5)).size, (bytesRow t (grownCap w t.size 0 5)).size + 1)) := heap_alloc_new w.drew _
  have hi' : i < (t.data.map (fun b => Value.int .u8 (b.toNat : Int))).size := by simpa [hl] using hi
  rw [cell_of_row _ _ _ _ _ _ hb, Nat.zero_add, bytesRow, Array.getElem?_append_left hi', Array.getElem?_eq_getElem hi', ← bt_bytes t i (by omega)]
end Go.Proofs.YtheoklhmlnfgjaaGreatDoor
/-
  Rows of files: a name and bytes each.
-/
namespace Go.Proofs.YtheoklhmlnfgjaaGreatDoor
open Go.RowKit

abbrev FT := List UInt8 × List UInt8
/-- the cells of names and bytes -/
def fc : List (List UInt8 × Value) → List Value
  | [] => []
  | x :: E => [.string ⟨x.1.toArray⟩, x.2] ++ fc E
theorem fc_length (E : List (List UInt8 × Value)) : (fc E).length = E.length * 2 := by
  induction E with
  | nil => rfl
  | cons x L ih => simp only [fc, List.length_append, List.length_cons, List.length_nil, ih]; omega
theorem fc_append (E F : List (List UInt8 × Value)) : fc (E ++ F) = fc E ++ fc F := by
  induction E with
  | nil => rfl
  | cons x L ih => simp only [List.cons_append, fc, ih, List.append_assoc]
theorem fc_one {E : List (List UInt8 × Value)} (h : ∀ e ∈ E, e.2.oneCell' = true) : ∀ u ∈ fc E, u.oneCell' = true := by
  induction E with
  | nil => intro u hu; cases hu
  | cons x L ih =>
    intro u hu
    simp only [fc, List.cons_append, List.nil_append, List.mem_cons] at hu
    rcases hu with rfl | rfl | hu
    · rfl
    · exact h x (List.mem_cons_self ..)
    · exact ih (fun e he => h e (List.mem_cons_of_mem _ he)) u hu
theorem fc_get (E : List (List UInt8 × Value)) (i : Nat) (h : i < E.length) : (fc E)[i * 2]? = some (.string ⟨E[i].1.toArray⟩) ∧ (fc E)[i * 2 + 1]? = some E[i].2 := by
  induction E generalizing i with
  | nil => simp at h
  | cons x L ih =>
    cases i with
    | zero => simp [fc]
    | succ i =>
      have h2 := ih i (by simpa using h)
      have e1 : (i + 1) * 2 = i * 2 + 1 + 1 := by omega
      have e2 : (i + 1) * 2 + 1 = i * 2 + 1 + 1 + 1 := by omega
      rw [e2, e1]
      simpa [fc] using h2
/-- a slice of bytes, as a value -/
def ByteV (w : World) (v : Value) (l : List UInt8) : Prop := ∃ q c, v = .slice q l.length c ∧ (q = none → c = 0) ∧ l.length ≤ maxLen ∧ In8 w q l
theorem Own8.byteV {w : World} {base : Nat} {v : Value} {l : List UInt8} (h : Own8 w base v l) : ByteV w v l := by
  obtain ⟨q, c, e, h1, h2, h3⟩ := h.in8
  refine ⟨q, c, e, fun hq => ?_, by omega, h3⟩
  subst hq
  rcases h.2 with ⟨e2, _⟩ | ⟨g, cap, cur, e2, _⟩
  · rw [e] at e2; injection e2
  · rw [e] at e2; injection e2 with e2; cases e2
theorem ByteV.below {w w' : World} {v : Value} {l : List UInt8} (h : ByteV w v l) (hb : Below w.heap.size w w') : ByteV w' v l := by
  obtain ⟨q, c, e, h1, h2, h3⟩ := h
  exact ⟨q, c, e, h1, h2, h3.below hb⟩
theorem ByteV.one {w : World} {v : Value} {l : List UInt8} (h : ByteV w v l) : v.oneCell' = true := by
  obtain ⟨q, c, e, _⟩ := h
  rw [e]; rfl
def InE (w : World) (p : Option Addr) (E : List (List UInt8 × Value)) : Prop :=
  0 < E.length → ∃ b o, p = some ⟨b, o, none⟩ ∧ ∀ j v, (fc E)[j]? = some v → w.cell? ⟨b, o + j, none⟩ = some v
theorem InE.below {w w' : World} {p : Option Addr} {E : List (List UInt8 × Value)} (h : InE w p E) (hb : Below w.heap.size w w') : InE w' p E := by
  intro h0
  obtain ⟨b, o, rfl, hc⟩ := h h0
  refine ⟨b, o, rfl, fun j v hv => ?_⟩
  have := hc j v hv
  rw [hb.cell (p := ⟨b, o + j, none⟩) (World.block_lt_of_cell? w _ this)]
  exact this
theorem InE.one (w : World) (x : ByteArray) (u : Value) (e : TypeId) : InE (w.alloc (.cells #[.string x, u] e)) (some ⟨w.heap.size, 0, none⟩) [(x.data.toList, u)] := by
  intro _
  refine ⟨w.heap.size, 0, rfl, fun j v hv => ?_⟩
  rw [cell_of_row _ _ _ _ _ _ (heap_alloc_new w (.cells #[.string x, u] e)), Nat.zero_add, ← Array.getElem?_toList, ← hv]
  simp [fc]
def InFs (w : World) (p : Option Addr) (L : List FT) : Prop :=
  ∃ E, InE w p E ∧ E.length = L.length ∧ ∀ (i : Nat) (e : List UInt8 × Value) (x : FT), E[i]? = some e → L[i]? = some x → e.1 = x.1 ∧ ByteV w e.2 x.2
theorem InFs.below {w w' : World} {p : Option Addr} {L : List FT} (h : InFs w p L) (hb : Below w.heap.size w w') : InFs w' p L := by
  obtain ⟨E, h1, h2, h3⟩ := h
  exact ⟨E, h1.below hb, h2, fun i e x he hx => ⟨(h3 i e x he hx).1, (h3 i e x he hx).2.below hb⟩⟩
theorem InFs.at {w : World} {p : Option Addr} {L : List FT} (h : InFs w p L) {k : Nat} (hk : k < L.length) :
    ∃ b o, p = some ⟨b, o, none⟩ ∧ ∃ (x : ByteArray) (q : Option Addr) (c : Nat), w.cell? ⟨b, o + k * 2, none⟩ = some (.string x) ∧ w.cell? ⟨b, o + k * 2 + 1, none⟩ = some (.slice q L[k].2.length c) ∧ x.data.toList = L[k].1 ∧ (q = none → c = 0) ∧ L[k].2.length ≤ maxLen ∧ In8 w q L[k].2 := by
  obtain ⟨E, h1, h2, h3⟩ := h
  obtain ⟨b, o, e, hc⟩ := h1 (by omega)
  obtain ⟨g1, g2⟩ := fc_get E k (by omega)
  obtain ⟨e1, q, c, e2, z1, z2, z3⟩ := h3 k E[k] L[k] (List.getElem?_eq_getElem (by omega)) (List.getElem?_eq_getElem hk)
  rw [e2] at g2
  exact ⟨b, o, e, _, q, c, hc _ _ g1, (by have := hc _ _ g2; rwa [← Nat.add_assoc] at this), e1, z1, z2, z3⟩
theorem InFs.nil (w : World) (p : Option Addr) : InFs w p [] := ⟨[], fun h => absurd h (by simp), rfl, fun i e x he => by simp at he⟩

/-- a row of the call's own of files, whose bytes are the call's own too -/
def OwnFs (w : World) (base : Nat) (v : Value) (L : List FT) : Prop :=
  ∃ E, w.ownsRow base 89 2 v E.length (fc E) ∧ E.length = L.length ∧ ∀ (i : Nat) (e : List UInt8 × Value) (x : FT), E[i]? = some e → L[i]? = some x → e.1 = x.1 ∧ Own8 w base e.2 x.2
theorem OwnFs.nil (w : World) (base : Nat) : OwnFs w base (.slice none 0 0) [] := ⟨[], World.ownsRow_nil _ _ _ _, rfl, fun i e x he => by simp at he⟩
theorem OwnFs.made (w : World) : OwnFs (w.alloc (.cells #[] 89)) w.heap.size (.slice (some ⟨w.heap.size, 0, none⟩) 0 0) [] :=
  ⟨[], ⟨rfl, .inr ⟨w.heap.size, 0, #[], rfl, Nat.le_refl _, heap_alloc_new w _, by simp, by unfold maxLen; omega, rfl, rfl⟩⟩, rfl, fun i e x he => by simp at he⟩
theorem OwnFs.below {w w' : World} {base : Nat} {v : Value} {L : List FT} (h : OwnFs w base v L) (hb : Below w.heap.size w w') : OwnFs w' base v L := by
  obtain ⟨E, h1, h2, h3⟩ := h
  exact ⟨E, ownsRow_below h1 hb, h2, fun i e x he hx => ⟨(h3 i e x he hx).1, (h3 i e x he hx).2.below hb⟩⟩
theorem OwnFs.mono {w : World} {base base' : Nat} {v : Value} {L : List FT} (h : OwnFs w base v L) (hb : base' ≤ base) : OwnFs w base' v L := by
  obtain ⟨E, h1, h2, h3⟩ := h
  exact ⟨E, ownsRow_mono h1 hb, h2, fun i e x he hx => ⟨(h3 i e x he hx).1, (h3 i e x he hx).2.mono hb⟩⟩
theorem OwnFs.lt {w : World} {base : Nat} {v : Value} {L : List FT} (h : OwnFs w base v L) {g : Nat} (hg : v.ownBlock = some g) : base ≤ g ∧ g < w.heap.size := by
  obtain ⟨E, h1, _⟩ := h
  exact World.ownsRow.lt h1 g hg
theorem OwnFs.shape {w : World} {base n : Nat} {v : Value} {L : List FT} (h : OwnFs w base v L) (hn : L.length = n) :
    ∃ p c, v = .slice p n c ∧ n ≤ c ∧ c ≤ maxLen ∧ InFs w p L ∧ (∀ a, p = some a → base ≤ a.block ∧ a.block < w.heap.size ∧ a.off = 0 ∧ a.spot = none) := by
  subst hn
  obtain ⟨E, h1, h2, h3⟩ := h
  have hlt := World.ownsRow.lt h1
  rw [← h2]
  rcases h1.2 with ⟨rfl, hn⟩ | ⟨g, cap, cur, rfl, hb, hg, hnc, hcm, hcs, ht⟩
  · refine ⟨none, 0, by rw [hn], by omega, by unfold maxLen; omega, ⟨E, fun h0 => by omega, h2, fun i e x he hx => ⟨(h3 i e x he hx).1, (h3 i e x he hx).2.byteV⟩⟩, fun a ha => by cases ha⟩
  · refine ⟨some ⟨g, 0, none⟩, cap, rfl, hnc, hcm, ⟨E, fun h0 => ⟨g, 0, rfl, fun j v hv => ?_⟩, h2, fun i e x he hx => ⟨(h3 i e x he hx).1, (h3 i e x he hx).2.byteV⟩⟩, fun a ha => ?_⟩
    · rw [cell_of_row _ _ _ _ _ _ hg, Nat.zero_add, ← Array.getElem?_toList]
      have hj : j < E.length * 2 := by rw [← fc_length]; exact (List.getElem?_eq_some_iff.1 hv).1
      rw [← ht, List.getElem?_take_of_lt hj] at hv
      exact hv
    · obtain rfl := Option.some.inj ha
      exact ⟨hb, (hlt g rfl).2, rfl, rfl⟩
theorem OwnFs.grown {w w1 w' : World} {B : Nat} {v : Value} {L : List FT} (hB : Below B w w1) (hs : B ≤ w1.heap.size) (hown : OwnFs w1 B v L) (hg : w1.grownBy w' v.ownBlock) : Below B w w' :=
  hB.grown hg hs (fun _ e => (hown.lt e).1)
theorem infoF : (Tryz.prog.info? 89).map (fun i => (i.zero, i.size, i.bytes)) = some (some (.agg #[.string .empty, .slice none 0 0]), 2, 40) := by kernel_rfl
theorem ownFs_snoc {w w' : World} {base : Nat} {v v' u : Value} {E : List (List UInt8 × Value)} {L : List FT} {k d : List UInt8} (h1 : w.ownsRow base 89 2 v E.length (fc E)) (h2 : E.length = L.length) (h3 : ∀ (i : Nat) (e : List UInt8 × Value) (x : FT), E[i]? = some e → L[i]? = some x → e.1 = x.1 ∧ Own8 w base e.2 x.2)
    (hu : Own8 w base u d) (ho' : w'.ownsRow base 89 2 v' (E.length + 1) (fc E ++ fc [(k, u)])) (hg : w.grownBy w' v.ownBlock) : OwnFs w' base v' (L ++ [(k, d)]) := by
  have keep : ∀ (z : Value) (l : List UInt8), Own8 w base z l → Own8 w' base z l := fun z l hz => hz.kept hg (by
    cases hzb : z.ownBlock with
    | none => exact .inl rfl
    | some g =>
      right
      intro e
      obtain ⟨cur, hc⟩ := rowBlk hz hzb
      obtain ⟨cur2, hc2⟩ := rowBlk h1 e.symm
      rw [hc] at hc2
      injection hc2 with e2
      injection e2 with _ e2
      exact absurd e2 (by decide))
  refine ⟨E ++ [(k, u)], by rw [List.length_append, fc_append]; exact ho', by rw [List.length_append, List.length_append, h2]; rfl, fun i e y he hy => ?_⟩
  by_cases hi : i < E.length
  · rw [List.getElem?_append_left hi] at he
    rw [List.getElem?_append_left (by omega)] at hy
    exact ⟨(h3 i e y he hy).1, keep _ _ (h3 i e y he hy).2⟩
  · have hlt := (List.getElem?_eq_some_iff.1 he).1
    rw [List.length_append] at hlt
    simp only [List.length_cons, List.length_nil] at hlt
    obtain rfl : i = E.length := by omega
    rw [List.getElem?_append_right (Nat.le_refl _)] at he
    rw [List.getElem?_append_right (by omega)] at hy
    simp only [Nat.sub_self, h2, List.getElem?_cons_zero, Option.some.injEq] at he hy
    subst he hy
    exact ⟨rfl, keep _ _ hu⟩
theorem src_file {w : World} {b c : Nat} {k : List UInt8} {u : Value} (hin : InE w (some ⟨b, 0, none⟩) [(k, u)]) (hone : u.oneCell' = true) : Src Tryz.prog 2 37 (.slice (some ⟨b, 0, none⟩) 1 c) 1 (fc [(k, u)]) w := by
  obtain ⟨b', o', e, hc⟩ := hin (by simp)
  obtain ⟨rfl, rfl⟩ : b = b' ∧ 0 = o' := by injection e with e; injection e with e1 e2; exact ⟨e1, e2⟩
  refine Src.ofSlice w Tryz.underlying37 ⟨b, 0, none⟩ 1 c (fc [(k, u)]) (by rw [fc_length]; rfl) (fun j z hz => ?_) (fc_one fun e he => by rw [List.mem_singleton.1 he]; exact hone)
  rw [Go.WideShapes.add_plain]; exact hc j z hz
section
variable {w : World}
/-- one file more -/
theorem wpList_appendFs {ops : Array Oper} {rest : List Oper} {o : Oper} {a : Act} {Q : Exit → Act → World → Prop} (hgd : o.guard = none) (s x : Operand)
    (ho : o.op = .call { callee := .builtin .append, args := #[s, x], argTypes := #[37, 37] })
    (base : Nat) (v : Value) (L : List FT) (hv : a.eval s = v) (hown : OwnFs w base v L)
    (b c : Nat) (k : List UInt8) (u : Value) (d : List UInt8) (hx : a.eval x = .slice (some ⟨b, 0, none⟩) 1 c) (hin : InE w (some ⟨b, 0, none⟩) [(k, u)]) (hu : Own8 w base u d)
    (hr : L.length ≤ 4500000000000) (hbase : base ≤ w.heap.size)
    (h : ∀ v' w', OwnFs w' base v' (L ++ [(k, d)]) → w.grownBy w' v.ownBlock → wpList Tryz.prog ops Q rest (a.put o.dst v') w') : wpList Tryz.prog ops Q (o :: rest) a w := by
  obtain ⟨E, h1, h2, h3⟩ := hown
  refine wpList_append_way w hgd s x 37 37 ho base 89 (.agg #[.string .empty, .slice none 0 0]) 2 40 Tryz.underlying37 infoF rfl v E.length (fc E) hv h1 _ 1 (fc [(k, u)]) hx (src_file hin hu.byteV.one) (by unfold maxLen; omega) (by omega) hbase ?_
  intro v' w' ho' hg _
  exact h v' w' (ownFs_snoc h1 h2 h3 hu ho' hg) hg
/-- the same, as a step of a region that draws -/
theorem step_appendFs {ops : Array Oper} {o : Oper} {a : Act} {K : Act → World → Prop} {Q : Exit → Act → World → Prop} {P : Prop} (hgd : o.guard = none) (s x : Operand)
    (ho : o.op = .call { callee := .builtin .append, args := #[s, x], argTypes := #[37, 37] })
    (base : Nat) (v : Value) (L : List FT) (hv : a.eval s = v) (hown : OwnFs w base v L)
    (b c : Nat) (k : List UInt8) (u : Value) (d : List UInt8) (hx : a.eval x = .slice (some ⟨b, 0, none⟩) 1 c) (hin : InE w (some ⟨b, 0, none⟩) [(k, u)]) (hu : Own8 w base u d)
    (hr : L.length ≤ 4500000000000) (hbase : base ≤ w.heap.size)
    (h : ∀ v' w', OwnFs w' base v' (L ++ [(k, d)]) → w.grownBy w' v.ownBlock → K (a.put o.dst v') w') :
    if Region.wanted o (yielded ops a.tmps) = true then Oper.wp Tryz.prog o a w K Q else P := by
  obtain ⟨E, h1, h2, h3⟩ := hown
  refine step_append_fit hgd s x 37 37 ho base 89 (.agg #[.string .empty, .slice none 0 0]) 2 40 Tryz.underlying37 infoF rfl v E.length (fc E) hv h1 _ 1 (fc [(k, u)]) hx (src_file hin hu.byteV.one) (by unfold maxLen; omega) (by omega) hbase ?_
  intro v' w' ho' hg
  exact h v' w' (ownFs_snoc h1 h2 h3 hu ho' hg) hg
end
end Go.Proofs.YtheoklhmlnfgjaaGreatDoor
/-
  An argument that is a slice of bytes, weighed.
-/
namespace Go.Proofs.YtheoklhmlnfgjaaGreatDoor
open Go.ChangeShapes Go.WideShapes Go.ChangeAt Go.RowKit

theorem bulk_lits {H : Type} (k : IntKind) (zs : List Int) : Rows.uptoBulkAll (lits (H := H) k zs) = zs.length := by
  induction zs with
  | nil => simp [lits, Rows.uptoBulkAll]
  | cons z zs ih =>
    have e : lits (H := H) k (z :: zs) = .lit (.int k z) :: lits k zs := rfl
    rw [e, List.length_cons, ← ih]
    simp only [Rows.uptoBulk, Rows.uptoBulkAll]
    omega
set_option maxRecDepth 100000 in
theorem open_bytesU {H : Type} {enc : TypeId × Value → H} {W : World} {r : Reach} {b0 : Nat} {v : Value} {d : DataW H} {ps : List MemPlace}
    (hv : Value.okWide Tryz.prog W r b0 22 v) (h : DataW.Trod enc Tryz.prog W 0 (fun _ => true) true 22 v d ps) :
    ∃ p l c, v = .slice p (List.length l) c ∧ In8 W p l ∧ l.length ≤ c ∧ c ≤ maxLen ∧ l.length ≤ Rows.uptoBulk d := by
  obtain ⟨a0, len, cap, rfl⟩ := okWide_slice Tryz.underlying22 hv
  obtain ⟨fuel, hf⟩ := h
  rcases open_ints Tryz.underlying22 Tryz.underlying5 cells8 hf with ⟨hcs, _⟩ | ⟨x, l, c, zs, hcs, _, hl, hm, hz, hx, hcell, hwz⟩
  · simp [Value.cells] at hcs
    obtain ⟨rfl, rfl, rfl⟩ := hcs
    exact ⟨none, [], 0, rfl, fun h => absurd h (by simp), by simp, by unfold maxLen; omega, by simp⟩
  · simp [Value.cells] at hcs
    obtain ⟨rfl, rfl, rfl⟩ := hcs
    simp only [if_true] at hz
    simp only [Prod.mk.injEq] at hx
    have hlen : ((zs.take len).map ubyte).length = len := by simp; omega
    refine ⟨some x, (zs.take len).map ubyte, cap, by rw [hlen], ?_, by omega, hm, ?_⟩
    · intro h0
      obtain ⟨b, o, s⟩ := x
      have hs : s = none := by simpa [Addr.add] using World.cell?_spot (hcell 0 (by omega))
      subst hs
      refine ⟨b, o, rfl, fun i hi => ?_⟩
      have hi2 : i < (zs.take len).length := by simpa using hi
      have := hcell i (by omega)
      rw [add_plain] at this
      rw [this, bt_of_ints _ (fun n hn => hwz n (List.mem_of_mem_take hn)) i hi2]
      simp only [List.getD_eq_getElem?_getD]
      rw [List.getElem?_take_of_lt (by omega)]
    · rw [hlen, hx.1]
      simp only [Rows.uptoBulk, bulk_lits, List.length_take, List.length_drop]
      omega
end Go.Proofs.YtheoklhmlnfgjaaGreatDoor
/-
  Arguments: files, numbers, a beginning, a fate, a script, rows of bytes; in the words of the walks.
-/
namespace Go.Proofs.YtheoklhmlnfgjaaGreatDoor
open Go.ChangeShapes Go.WideShapes Go.ChangeAt Go.RowKit

theorem cellsB9 : Tryz.prog.cellsOf 22 = 1 := by kernel_rfl
theorem cellsS9 : Tryz.prog.cellsOf 9 = 1 := by kernel_rfl
theorem cellsI9 : Tryz.prog.cellsOf 3 = 1 := by kernel_rfl
theorem cellsIs9 : Tryz.prog.cellsOf 38 = 1 := by kernel_rfl
theorem cellsFs9 : Tryz.prog.cellsOf 37 = 1 := by kernel_rfl
theorem cellsF9 : Tryz.prog.cellsOf 89 = 2 := by kernel_rfl
theorem cellsO9 : Tryz.prog.cellsOf 104 = 4 := by kernel_rfl
theorem cellsFa9 : Tryz.prog.cellsOf 43 = 2 := by kernel_rfl

section
variable {H : Type} {enc : TypeId × Value → H} {W : World} {fuel : Nat} {cs : List Value} {d : DataW H} {ps : List MemPlace}
set_option maxRecDepth 100000 in
theorem open_bytesV (hf : DataW.trod enc Tryz.prog W 0 (fun _ => true) true fuel 22 cs = some (d, ps)) : ∃ v l, cs = [v] ∧ ByteV W v l ∧ l.length + 1 ≤ Rows.uptoBulk d := by
  rcases open_ints Tryz.underlying22 Tryz.underlying5 cells8 hf with ⟨hcs, hx⟩ | ⟨x, l, c, zs, hcs, _, hl, hm, hz, hx, hcell, hwz⟩
  · simp only [Prod.mk.injEq] at hx
    refine ⟨_, [], hcs, ⟨none, 0, rfl, fun _ => rfl, by unfold maxLen; simp, fun h => absurd h (by simp)⟩, ?_⟩
    rw [hx.1]
    simp [Rows.uptoBulk]
  · simp only [if_true] at hz
    simp only [Prod.mk.injEq] at hx
    have hlen : ((zs.take l).map ubyte).length = l := by simp; omega
    refine ⟨_, (zs.take l).map ubyte, hcs, ⟨some x, c, by rw [hlen], (fun e => by cases e), by rw [hlen]; omega, ?_⟩, ?_⟩
    · intro h0
      obtain ⟨b, o, s⟩ := x
      have hs : s = none := by simpa [Addr.add] using World.cell?_spot (hcell 0 (by omega))
      subst hs
      refine ⟨b, o, rfl, fun i hi => ?_⟩
      have hi2 : i < (zs.take l).length := by simpa using hi
      have := hcell i (by omega)
      rw [add_plain] at this
      rw [this, bt_of_ints _ (fun n hn => hwz n (List.mem_of_mem_take hn)) i hi2]
      simp only [List.getD_eq_getElem?_getD]
      rw [List.getElem?_take_of_lt (by omega)]
    · rw [hlen, hx.1]
      simp only [Rows.uptoBulk, bulk_lits, List.length_take, List.length_drop]
      omega
set_option maxRecDepth 100000 in
theorem open_intsC (hf : DataW.trod enc Tryz.prog W 0 (fun _ => true) true fuel 38 cs = some (d, ps)) : ∃ p Z c, cs = [.slice p (List.length Z) c] ∧ InV W p (Z.map (Value.int .i64)) ∧ Z.length + 1 ≤ Rows.uptoBulk d := by
  rcases open_ints Tryz.underlying38 Tryz.underlying3 cellsI9 hf with ⟨hcs, hx⟩ | ⟨x, l, c, zs, hcs, _, hl, hm, hz, hx, hcell, _⟩
  · simp only [Prod.mk.injEq] at hx
    exact ⟨none, [], 0, hcs, fun h => absurd h (by simp), by rw [hx.1]; simp [Rows.uptoBulk]⟩
  · simp only [if_true] at hz
    simp only [Prod.mk.injEq] at hx
    have hlen : (zs.take l).length = l := by simp; omega
    refine ⟨some x, zs.take l, c, by rw [hcs, hlen], ?_, ?_⟩
    · intro h0
      rw [List.length_map, hlen] at h0
      obtain ⟨b, o, s⟩ := x
      have hs : s = none := by simpa [Addr.add] using World.cell?_spot (hcell 0 (by omega))
      subst hs
      refine ⟨b, o, rfl, fun i hi => ?_⟩
      rw [List.length_map, hlen] at hi
      have := hcell i (by omega)
      rw [add_plain] at this
      rw [this, List.getElem_map, List.getElem_take]
      simp only [List.getD_eq_getElem?_getD]
      rw [List.getElem?_eq_getElem (by omega)]
      rfl
    · rw [hlen, hx.1]
      simp only [Rows.uptoBulk, bulk_lits, List.length_take, List.length_drop]
      omega

/-- what files weigh -/
def bulkFs (L : List FT) : Nat := (L.map fun x => x.1.length + x.2.length + 1).sum
theorem bulkAll_range {H : Type} (D : Nat → DataW H) (f : Nat → FT) : ∀ l : Nat, (∀ i, i < l → (f i).1.length + (f i).2.length + 1 ≤ Rows.uptoBulk (D i)) → bulkFs ((List.range l).map f) ≤ Rows.uptoBulkAll ((List.range l).map D)
  | 0, _ => by simp [bulkFs, Rows.uptoBulkAll]
  | l + 1, h => by
    have ih := bulkAll_range D f l fun i hi => h i (by omega)
    have h1 := h l (by omega)
    have e : ∀ (A B : List (DataW H)), Rows.uptoBulkAll (A ++ B) = Rows.uptoBulkAll A + Rows.uptoBulkAll B := by
      intro A B
      induction A with
      | nil => simp [Rows.uptoBulkAll]
      | cons x A ih => rw [List.cons_append]; simp only [Rows.uptoBulkAll, ih]; omega
    rw [List.range_succ, List.map_append, List.map_append, e]
    unfold bulkFs at ih ⊢
    rw [List.map_append, List.sum_append]
    simp only [List.map_cons, List.map_nil, List.sum_cons, List.sum_nil, Rows.uptoBulkAll]
    omega
theorem bulkFs_length (L : List FT) : L.length ≤ bulkFs L := by
  induction L with
  | nil => simp [bulkFs]
  | cons x L ih => unfold bulkFs at ih ⊢; simp only [List.map_cons, List.sum_cons, List.length_cons]; omega
theorem bulkFs_mem (L : List FT) : ∀ x ∈ L, x.1.length + x.2.length ≤ bulkFs L := by
  induction L with
  | nil => simp
  | cons y L ih =>
    intro x hx
    unfold bulkFs at ih ⊢
    simp only [List.map_cons, List.sum_cons]
    rcases List.mem_cons.1 hx with rfl | hx
    · omega
    · have := ih x hx; omega
theorem bulkFs_sum (L : List FT) : (L.map fun x => x.2.length).sum ≤ bulkFs L := by
  induction L with
  | nil => simp [bulkFs]
  | cons y L ih =>
    unfold bulkFs at ih ⊢
    simp only [List.map_cons, List.sum_cons]
    omega
theorem fc_at (E : List (List UInt8 × Value)) (j : Nat) (v : Value) (h : (fc E)[j]? = some v) : ∃ i, ∃ hi : i < E.length, (j = i * 2 ∧ v = .string ⟨E[i].1.toArray⟩) ∨ (j = i * 2 + 1 ∧ v = E[i].2) := by
  have hl := (List.getElem?_eq_some_iff.1 h).1
  rw [fc_length] at hl
  have hi : j / 2 < E.length := by omega
  obtain ⟨h1, h2⟩ := fc_get E (j / 2) hi
  refine ⟨j / 2, hi, ?_⟩
  rcases Nat.mod_two_eq_zero_or_one j with hm | hm
  · left
    have ej : j = j / 2 * 2 := by omega
    refine ⟨ej, ?_⟩
    rw [← ej, h] at h1
    exact Option.some.inj h1
  · right
    have ej : j = j / 2 * 2 + 1 := by omega
    refine ⟨ej, ?_⟩
    rw [← ej, h] at h2
    exact Option.some.inj h2
set_option maxRecDepth 100000 in
theorem open_filesC (hf : DataW.trod enc Tryz.prog W 0 (fun _ => true) true fuel 37 cs = some (d, ps)) : ∃ p L c, cs = [.slice p (List.length L) c] ∧ InFs W p L ∧ bulkFs L + 1 ≤ Rows.uptoBulk d := by
  rcases Go.Deep.open_slice_pairs Tryz.underlying37 Tryz.underlying89 cellsF9 rfl rfl cellsS9 cellsB9 hf with ⟨hcs, hx⟩ | ⟨x, l, c, m, n, V0, V1, D0, D1, P0, P1, hcs, _, hl, hm, hmm, hx, hat⟩
  · simp only [Prod.mk.injEq] at hx
    refine ⟨none, [], 0, hcs, InFs.nil _ _, ?_⟩
    rw [hx.1]
    simp [Rows.uptoBulk, bulkFs]
  · simp only [if_true] at hmm
    subst hmm
    simp only [Prod.mk.injEq] at hx
    have each : ∀ i, i < m → ∃ q : ByteArray × List UInt8, V0 i = .string q.1 ∧ D0 i = .lit (.string q.1.data.toList) ∧ ByteV W (V1 i) q.2 ∧ q.2.length + 1 ≤ Rows.uptoBulk (D1 i) := by
      intro i hi
      obtain ⟨_, _, h0, h1⟩ := hat i hi
      obtain ⟨s, e1, e2, z⟩ := DataW.trod_string Tryz.underlying9 h0
      obtain ⟨v, b, e3, e4, e5⟩ := open_bytesV h1
      simp only [Prod.mk.injEq] at e2
      simp only [List.cons.injEq, and_true] at e1 e3
      exact ⟨(s, b), e1, e2.1, by rw [e3]; exact e4, e5⟩
    obtain ⟨q, hq⟩ := Go.Deep.choose_lt each
    have hlen : ((List.range l).map fun i => (((q i).1.data.toList, (q i).2) : FT)).length = l := by simp
    refine ⟨some x, (List.range l).map fun i => ((q i).1.data.toList, (q i).2), m, by rw [hlen]; exact hcs, ⟨(List.range l).map fun i => ((q i).1.data.toList, V1 i), ?_, by simp, ?_⟩, ?_⟩
    · intro h0
      have h0 : 0 < l := by simpa using h0
      obtain ⟨b, o, s⟩ := x
      have hs : s = none := by simpa [Addr.add] using World.cell?_spot (hat 0 (by omega)).1
      subst hs
      refine ⟨b, o, rfl, fun j v hv => ?_⟩
      obtain ⟨i, hi, h2⟩ := fc_at _ j v hv
      have hi : i < l := by simpa using hi
      obtain ⟨c0, c1, _, _⟩ := hat i (by omega)
      obtain ⟨e0, _⟩ := hq i (by omega)
      rw [add_plain] at c0 c1
      simp only [List.getElem_map, List.getElem_range] at h2
      rcases h2 with ⟨rfl, rfl⟩ | ⟨rfl, rfl⟩
      · rw [c0, e0]
      · rw [← Nat.add_assoc] at c1 ⊢
        rw [c1]
    · intro i e y he hy
      have hi : i < l := by have := (List.getElem?_eq_some_iff.1 he).1; simpa using this
      rw [List.getElem?_map, List.getElem?_range hi] at he hy
      simp only [Option.map_some, Option.some.injEq] at he hy
      subst he hy
      exact ⟨rfl, (hq i (by omega)).2.2.1⟩
    · rw [hx.1]
      have := bulkAll_range (fun i => (.agg [D0 i, D1 i] : DataW H)) (fun i => ((q i).1.data.toList, (q i).2)) l fun i hi => by
        obtain ⟨_, e2, _, e4⟩ := hq i (by omega)
        simp only [Rows.uptoBulk, Rows.uptoBulkAll, e2]
        omega
      simp only [Rows.uptoBulk]
      omega
end

theorem array2 {α : Type} {cs : Array α} (h : cs.size = 2) : ∃ c0 c1, cs = #[c0, c1] := by
  obtain ⟨l⟩ := cs
  match l, h with
  | [c0, c1], _ => exact ⟨c0, c1, rfl⟩
theorem array4 {α : Type} {cs : Array α} (h : cs.size = 4) : ∃ c0 c1 c2 c3, cs = #[c0, c1, c2, c3] := by
  obtain ⟨l⟩ := cs
  match l, h with
  | [c0, c1, c2, c3], _ => exact ⟨c0, c1, c2, c3, rfl⟩
set_option maxRecDepth 100000 in
theorem open_fate {H : Type} {enc : TypeId × Value → H} {W : World} {r : Reach} {b0 : Nat} {v : Value} {d : DataW H} {ps : List MemPlace}
    (hv : Value.okWide Tryz.prog W r b0 43 v) (h : DataW.Trod enc Tryz.prog W 0 (fun _ => true) true 43 v d ps) :
    ∃ (n : Int) (p : Option Addr) (K : List Int) (c : Nat), v = .agg #[.int .i64 n, .slice p K.length c] ∧ InV W p (K.map (Value.int .i64)) ∧ K.length ≤ Rows.uptoBulk d := by
  obtain ⟨cs, rfl, hsz⟩ := okWide_struct Tryz.underlying43 hv
  obtain ⟨c0, c1, rfl⟩ := array2 (hsz.trans cellsFa9)
  obtain ⟨fuel, hf⟩ := h
  obtain ⟨xs, n, _, hx, _, hlen, hat⟩ := DataW.trod_struct Tryz.underlying43 hf
  match xs, hlen with
  | [y0, y1], _ =>
    have h0 := hat 0 _ rfl
    have h1 := hat 1 _ rfl
    simp [Value.cells, cellsI9, cellsIs9] at h0 h1
    obtain ⟨a, e0, rfl, _⟩ := DataW.trod_int Tryz.underlying3 h0
    obtain ⟨y10, y11⟩ := y1
    obtain ⟨p, Z, c, e1, hin, hb⟩ := open_intsC h1
    simp at e0 e1
    subst e0 e1
    refine ⟨a, p, Z, c, rfl, hin, ?_⟩
    simp only [Prod.mk.injEq] at hx
    rw [hx.1]
    simp only [List.map_cons, List.map_nil, Rows.uptoBulk, Rows.uptoBulkAll]
    omega
end Go.Proofs.YtheoklhmlnfgjaaGreatDoor
/-
  Arguments: a script of steps, rows of bytes; in the words of the walks.
-/
namespace Go.Proofs.YtheoklhmlnfgjaaGreatDoor
open Go.ChangeShapes Go.WideShapes Go.ChangeAt Go.RowKit

abbrev OpT := Int × List UInt8 × List UInt8 × List UInt8
def InOps (w : World) (p : Option Addr) (L : List OpT) : Prop :=
  ∀ k, (hk : k < L.length) → ∃ b o, p = some ⟨b, o, none⟩ ∧ ∃ (na nb : ByteArray) (q : Option Addr) (c : Nat), w.cell? ⟨b, o + k * 4, none⟩ = some (.int .i64 L[k].1) ∧ w.cell? ⟨b, o + k * 4 + 1, none⟩ = some (.string na) ∧ w.cell? ⟨b, o + k * 4 + 2, none⟩ = some (.string nb) ∧ w.cell? ⟨b, o + k * 4 + 3, none⟩ = some (.slice q L[k].2.2.2.length c) ∧
    na.data.toList = L[k].2.1 ∧ nb.data.toList = L[k].2.2.1 ∧ In8 w q L[k].2.2.2
theorem InOps.below {w w' : World} {p : Option Addr} {L : List OpT} (h : InOps w p L) (hb : Below w.heap.size w w') : InOps w' p L := by
  intro k hk
  obtain ⟨b, o, e, na, nb, q, c, h1, h2, h3, h4, h5, h6, h7⟩ := h k hk
  exact ⟨b, o, e, na, nb, q, c, (hb.cell (World.block_lt_of_cell? w _ h1)).trans h1, (hb.cell (World.block_lt_of_cell? w _ h2)).trans h2, (hb.cell (World.block_lt_of_cell? w _ h3)).trans h3, (hb.cell (World.block_lt_of_cell? w _ h4)).trans h4, h5, h6, h7.below hb⟩
theorem InOps.take {w : World} {p : Option Addr} {L : List OpT} (h : InOps w p L) (m : Nat) : InOps w p (L.take m) := by
  intro k hk
  have hk2 : k < L.length := by rw [List.length_take] at hk; omega
  have := h k hk2
  rw [List.getElem_take]
  exact this
def bulkOps (L : List OpT) : Nat := (L.map fun x => x.2.1.length + x.2.2.1.length + x.2.2.2.length + 1).sum
theorem bulkOps_mem (L : List OpT) : ∀ x ∈ L, x.2.1.length + x.2.2.1.length + x.2.2.2.length ≤ bulkOps L := by
  induction L with
  | nil => simp
  | cons y L ih =>
    intro x hx
    unfold bulkOps at ih ⊢
    simp only [List.map_cons, List.sum_cons]
    rcases List.mem_cons.1 hx with rfl | hx
    · omega
    · have := ih x hx; omega
theorem bulkOps_length (L : List OpT) : L.length ≤ bulkOps L := by
  induction L with
  | nil => simp [bulkOps]
  | cons x L ih => unfold bulkOps at ih ⊢; simp only [List.map_cons, List.sum_cons, List.length_cons]; omega
theorem bulkAll_app {H : Type} (A B : List (DataW H)) : Rows.uptoBulkAll (A ++ B) = Rows.uptoBulkAll A + Rows.uptoBulkAll B := by
  induction A with
  | nil => simp [Rows.uptoBulkAll]
  | cons x A ih => rw [List.cons_append]; simp only [Rows.uptoBulkAll, ih]; omega
theorem bulkAll_sum {H : Type} {α : Type} (D : Nat → DataW H) (f : Nat → α) (g : α → Nat) : ∀ l : Nat, (∀ i, i < l → g (f i) ≤ Rows.uptoBulk (D i)) → (((List.range l).map f).map g).sum ≤ Rows.uptoBulkAll ((List.range l).map D)
  | 0, _ => by simp
  | l + 1, h => by
    have ih := bulkAll_sum D f g l fun i hi => h i (by omega)
    have h1 := h l (by omega)
    rw [List.range_succ, List.map_append, List.map_append, List.map_append, bulkAll_app, List.sum_append]
    simp only [List.map_cons, List.map_nil, List.sum_cons, List.sum_nil, Rows.uptoBulkAll]
    omega
set_option maxRecDepth 100000 in
theorem open_ops {H : Type} {enc : TypeId × Value → H} {W : World} {r : Reach} {b0 : Nat} {v : Value} {d : DataW H} {ps : List MemPlace}
    (hv : Value.okWide Tryz.prog W r b0 107 v) (h : DataW.Trod enc Tryz.prog W 0 (fun _ => true) true 107 v d ps) :
    ∃ (p : Option Addr) (L : List OpT) (c : Nat), v = .slice p L.length c ∧ InOps W p L ∧ bulkOps L ≤ Rows.uptoBulk d ∧ L.length ≤ c := by
  obtain ⟨a0, len, cap, rfl⟩ := okWide_slice Tryz.underlying107 hv
  obtain ⟨fuel, hf⟩ := h
  rcases Go.Deep.open_slice Tryz.underlying107 hf with ⟨hcs, hx⟩ | ⟨x, l, c, m, n, D, Pl, hcs, _, hl, hm, hmm, hx, hat⟩
  · simp [Value.cells] at hcs
    obtain ⟨rfl, rfl, rfl⟩ := hcs
    exact ⟨none, [], 0, rfl, fun k hk => absurd hk (by simp), by simp [bulkOps], Nat.le_refl _⟩
  · simp [Value.cells] at hcs
    obtain ⟨rfl, rfl, rfl⟩ := hcs
    simp only [if_true] at hmm
    subst hmm
    simp only [Prod.mk.injEq] at hx
    have each : ∀ i, i < m → ∃ q : (Int × ByteArray × ByteArray) × (Option Addr × Nat × List UInt8), W.cell? (x.add (i * 4)) = some (.int .i64 q.1.1) ∧ W.cell? (x.add (i * 4 + 1)) = some (.string q.1.2.1) ∧ W.cell? (x.add (i * 4 + 2)) = some (.string q.1.2.2) ∧ W.cell? (x.add (i * 4 + 3)) = some (.slice q.2.1 q.2.2.2.length q.2.2.1) ∧ In8 W q.2.1 q.2.2.2 ∧ q.1.2.1.data.toList.length + q.1.2.2.data.toList.length + q.2.2.2.length + 1 ≤ Rows.uptoBulk (D i) := by
      intro i hi
      obtain ⟨cs', h1, h2⟩ := hat i hi
      rw [cellsO9] at h1
      obtain ⟨_, hlen, hcell⟩ := World.cells?_some h1
      obtain ⟨xs, k, hk, hxy, _, hxl, hat2⟩ := DataW.trod_struct Tryz.underlying104 h2
      match xs, hxl, cs', hlen with
      | [y0, y1, y2, y3], _, [v0, v1, v2, v3], _ =>
        have g0 := hat2 0 _ rfl
        have g1 := hat2 1 _ rfl
        have g2 := hat2 2 _ rfl
        have g3 := hat2 3 _ rfl
        simp [cellsI9, cellsS9, cellsB9] at g0 g1 g2 g3
        have e0 := hcell 0 (by omega)
        have e1 := hcell 1 (by omega)
        have e2 := hcell 2 (by omega)
        have e3 := hcell 3 (by omega)
        rw [Go.Deep.add_add] at e0 e1 e2 e3
        obtain ⟨a, f0, rfl, _⟩ := DataW.trod_int Tryz.underlying3 g0
        obtain ⟨na, f1, rfl, _⟩ := DataW.trod_string Tryz.underlying9 g1
        obtain ⟨nb, f2, rfl, _⟩ := DataW.trod_string Tryz.underlying9 g2
        obtain ⟨y30, y31⟩ := y3
        obtain ⟨vv, b, f3, ⟨q, cq, f4, _, _, f5⟩, f6⟩ := open_bytesV g3
        simp at f0 f1 f2 f3
        subst f0 f1 f2 f3
        rw [f4] at e3
        refine ⟨((a, na, nb), (q, cq, b)), by simpa using e0, by simpa using e1, by simpa using e2, by simpa using e3, f5, ?_⟩
        simp only [Prod.mk.injEq] at hxy
        rw [hxy.1]
        simp only [List.map_cons, List.map_nil, Rows.uptoBulk, Rows.uptoBulkAll]
        omega
    obtain ⟨q, hq⟩ := Go.Deep.choose_lt each
    have hlen : ((List.range len).map fun i => (((q i).1.1, (q i).1.2.1.data.toList, (q i).1.2.2.data.toList, (q i).2.2.2) : OpT)).length = len := by simp
    refine ⟨some x, (List.range len).map fun i => ((q i).1.1, (q i).1.2.1.data.toList, (q i).1.2.2.data.toList, (q i).2.2.2), _, by rw [hlen], ?_, ?_, by rw [hlen]; exact hl⟩
    · intro k hk
      have hk2 : k < len := by rw [hlen] at hk; exact hk
      obtain ⟨b, o, s⟩ := x
      have hs : s = none := by simpa [Addr.add] using World.cell?_spot (hq 0 (by omega)).1
      subst hs
      obtain ⟨c0, c1, c2, c3, c4, _⟩ := hq k (by omega)
      rw [add_plain] at c0 c1 c2 c3
      rw [← Nat.add_assoc] at c1 c2 c3
      simp only [List.getElem_map, List.getElem_range]
      exact ⟨b, o, rfl, _, _, _, _, c0, c1, c2, c3, rfl, rfl, c4⟩
    · rw [hx.1]
      have := bulkAll_sum D (fun i => (((q i).1.1, (q i).1.2.1.data.toList, (q i).1.2.2.data.toList, (q i).2.2.2) : OpT)) (fun x => x.2.1.length + x.2.2.1.length + x.2.2.2.length + 1) len fun i hi => (hq i (by omega)).2.2.2.2.2
      refine Nat.le_trans this ?_
      simp only [Rows.uptoBulk]
      omega

def InBs (w : World) (p : Option Addr) (L : List (List UInt8)) : Prop :=
  ∀ k, (hk : k < L.length) → ∃ b o, p = some ⟨b, o, none⟩ ∧ ∃ (q : Option Addr) (c : Nat), w.cell? ⟨b, o + k, none⟩ = some (.slice q L[k].length c) ∧ In8 w q L[k]
theorem InBs.below {w w' : World} {p : Option Addr} {L : List (List UInt8)} (h : InBs w p L) (hb : Below w.heap.size w w') : InBs w' p L := by
  intro k hk
  obtain ⟨b, o, e, q, c, h1, h2⟩ := h k hk
  exact ⟨b, o, e, q, c, (hb.cell (World.block_lt_of_cell? w _ h1)).trans h1, h2.below hb⟩
def bulkBs (L : List (List UInt8)) : Nat := (L.map fun x => x.length + 1).sum
theorem bulkBs_mem (L : List (List UInt8)) : ∀ x ∈ L, x.length ≤ bulkBs L := by
  induction L with
  | nil => simp
  | cons y L ih =>
    intro x hx
    unfold bulkBs at ih ⊢
    simp only [List.map_cons, List.sum_cons]
    rcases List.mem_cons.1 hx with rfl | hx
    · omega
    · have := ih x hx; omega
theorem bulkBs_length (L : List (List UInt8)) : L.length ≤ bulkBs L := by
  induction L with
  | nil => simp [bulkBs]
  | cons x L ih => unfold bulkBs at ih ⊢; simp only [List.map_cons, List.sum_cons, List.length_cons]; omega
set_option maxRecDepth 100000 in
theorem open_rowsB {H : Type} {enc : TypeId × Value → H} {W : World} {r : Reach} {b0 : Nat} {v : Value} {d : DataW H} {ps : List MemPlace}
    (hv : Value.okWide Tryz.prog W r b0 49 v) (h : DataW.Trod enc Tryz.prog W 0 (fun _ => true) true 49 v d ps) :
    ∃ (p : Option Addr) (L : List (List UInt8)) (c : Nat), v = .slice p L.length c ∧ InBs W p L ∧ bulkBs L ≤ Rows.uptoBulk d := by
  obtain ⟨a0, len, cap, rfl⟩ := okWide_slice Tryz.underlying49 hv
  obtain ⟨fuel, hf⟩ := h
  rcases Go.Deep.open_slice1 Tryz.underlying49 cellsB9 hf with ⟨hcs, hx⟩ | ⟨x, l, c, m, n, V, D, Pl, hcs, _, hl, hm, hmm, hx, hat⟩
  · simp [Value.cells] at hcs
    obtain ⟨rfl, rfl, rfl⟩ := hcs
    exact ⟨none, [], 0, rfl, fun k hk => absurd hk (by simp), by simp [bulkBs]⟩
  · simp [Value.cells] at hcs
    obtain ⟨rfl, rfl, rfl⟩ := hcs
    simp only [if_true] at hmm
    subst hmm
    simp only [Prod.mk.injEq] at hx
    have each : ∀ i, i < m → ∃ q : Option Addr × Nat × List UInt8, W.cell? (x.add i) = some (.slice q.1 q.2.2.length q.2.1) ∧ In8 W q.1 q.2.2 ∧ q.2.2.length + 1 ≤ Rows.uptoBulk (D i) := by
      intro i hi
      obtain ⟨h1, h2⟩ := hat i hi
      obtain ⟨vv, b, f3, ⟨q, cq, f4, _, _, f5⟩, f6⟩ := open_bytesV h2
      simp at f3
      rw [f3, f4] at h1
      exact ⟨(q, cq, b), h1, f5, f6⟩
    obtain ⟨q, hq⟩ := Go.Deep.choose_lt each
    have hlen : ((List.range len).map fun i => (q i).2.2).length = len := by simp
    refine ⟨some x, (List.range len).map fun i => (q i).2.2, _, by rw [hlen], ?_, ?_⟩
    · intro k hk
      have hk2 : k < len := by rw [hlen] at hk; exact hk
      obtain ⟨b, o, s⟩ := x
      have hs : s = none := by simpa [Addr.add] using World.cell?_spot (hq 0 (by omega)).1
      subst hs
      obtain ⟨c0, c1, _⟩ := hq k (by omega)
      rw [add_plain] at c0
      simp only [List.getElem_map, List.getElem_range]
      exact ⟨b, o, rfl, _, _, c0, c1⟩
    · rw [hx.1]
      have := bulkAll_sum D (fun i => (q i).2.2) (fun x => x.length + 1) len fun i hi => (hq i (by omega)).2.2
      refine Nat.le_trans this ?_
      simp only [Rows.uptoBulk]
      omega
end Go.Proofs.YtheoklhmlnfgjaaGreatDoor
/-
  SameTexts: are two lists of texts alike?
-/
namespace Go.Proofs.YtheoklhmlnfgjaaGreatDoor
open Go.RowKit

theorem take_eq_succL {α : Type} (l m : List α) (k : Nat) (h1 : k < l.length) (h2 : k < m.length) (h : l.take k = m.take k) (e : l[k] = m[k]) : l.take (k + 1) = m.take (k + 1) := by
  rw [List.take_succ_eq_append_getElem h1, List.take_succ_eq_append_getElem h2, h, e]
theorem ne_of_get {α : Type} (l m : List α) (k : Nat) (h1 : k < l.length) (h2 : k < m.length) (e : ¬ l[k] = m[k]) : l ≠ m := by rintro rfl; exact e rfl

set_option maxHeartbeats 1000000 in
theorem sameTexts_any (L M : List (List UInt8)) (p q : Option Addr) (n c n2 d : Nat) (hn : L.length = n) (hn2 : M.length = n2) (hm : n ≤ maxLen) (hm2 : n2 ≤ maxLen) (w : World) (h : InS w p L) (h2 : InS w q M) :
    Calls Tryz.prog 55 #[.slice p n c, .slice q n2 d] w fun e w' => e = .returned (.bool (decide (L = M))) ∧ Below w.heap.size w w' := by
  subst hn
  subst hn2
  unfold maxLen at hm hm2
  by_cases hlen : L.length = M.length
  · have hne : ((L.length : Int) != (M.length : Int)) = false := by simp [hlen]
    go_enter Tryz.func55, Tryz.ntmps55
    go_wp2
    go_loopw [5] (fun i wr => ∃ k : Nat, k ≤ L.length ∧ i = .int .i64 k ∧ L.take k = M.take k ∧ Below w.heap.size w wr) (fun i _ => L.length - (intOf i).toNat)
    case atStart => exact ⟨0, Nat.zero_le _, rfl, rfl, Below.refl _ _⟩
    case round =>
      obtain ⟨k, hk, rfl, hpre, hb⟩ := hrel
      by_cases hlt : k < L.length
      · have hlt2 : k < M.length := by omega
        obtain ⟨b, o, rfl, x, hck, hx⟩ := (h.below hb).at hlt
        obtain ⟨b2, o2, rfl, y, hck2, hy⟩ := (h2.below hb).at hlt2
        have HP := Lib.hid hpre
        have HL := Lib.hid hlen
        have HX := Lib.hid hx
        have HY := Lib.hid hy
        clear h h2 hpre hlen hx hy
        by_cases heq : x.data.toList = y.data.toList
        · have hbool : (x.toList == y.toList) = true := by rw [strs_eq]; simp [heq]
          have hbool2 : (x.toList != y.toList) = false := by simp [bne, hbool]
          have HE := Lib.hid heq
          clear heq
          go_wp2
          go_quiet (fail)
          go_wp2
          go_roundw
          case rel => exact ⟨k + 1, by omega, by go_num, take_eq_succL L M k hlt hlt2 HP.out (by rw [← HX.out, ← HY.out]; exact HE.out), bdrewN hb _⟩
          case measure => simp [intOf]; omega
        · have hbool : (x.toList == y.toList) = false := by rw [strs_eq]; simp [heq]
          have hbool2 : (x.toList != y.toList) = true := by simp [bne, hbool]
          have hno := ne_of_get L M k hlt hlt2 (by rw [← HX.out, ← HY.out]; exact heq)
          have HE := Lib.hid heq
          clear heq
          go_wp2
          go_quiet (fail)
          go_wp2
          go_ret
          exact ⟨ret_bool (by simp [hno]), bdrewN hb _⟩
      · obtain rfl : k = L.length := by omega
        go_wp2
        go_ret
        refine ⟨ret_bool ?_, hb⟩
        rw [List.take_length, hlen, List.take_length] at hpre
        simp [hpre]
  · have hne : ((L.length : Int) != (M.length : Int)) = true := by simp; omega
    have hno : L ≠ M := by rintro rfl; exact hlen rfl
    clear hlen
    go_enter Tryz.func55, Tryz.ntmps55
    go_wp2
    go_ret
    exact ⟨ret_bool (by simp [hno]), Below.refl _ _⟩

/-- the same texts -/
theorem sameTexts_same (M : List (List UInt8)) (p q : Option Addr) (n c n2 d : Nat) (hn : M.length = n) (hn2 : M.length = n2) (hm : n ≤ maxLen) (w : World) (h : InS w p M) (h2 : InS w q M) :
    Calls Tryz.prog 55 #[.slice p n c, .slice q n2 d] w fun e w' => e = .returned (.bool true) ∧ Below w.heap.size w w' := by
  have h3 := sameTexts_any M M p q n c n2 d hn hn2 hm (by omega) w h h2
  rw [show decide (M = M) = true from decide_eq_true rfl] at h3
  exact h3
end Go.Proofs.YtheoklhmlnfgjaaGreatDoor
/-
  CopyFiles, SameFiles, names: rows of files.
-/
namespace Go.Proofs.YtheoklhmlnfgjaaGreatDoor
open Go.RowKit

theorem takes {α : Type} {L : List α} {k : Nat} (h : k < L.length) : L.take (k + 1) = L.take k ++ [L[k]] := List.take_succ_eq_append_getElem h

set_option maxRecDepth 100000 in
set_option maxHeartbeats 2000000 in
theorem copyFiles_any (F : List FT) (p : Option Addr) (n c : Nat) (hn : F.length = n) (hFl : F.length ≤ 4000000000000) (hFd : ∀ f ∈ F, f.2.length ≤ 140737488351232) (w : World) (hF : InFs w p F) :
    Calls Tryz.prog 38 #[.slice p n c] w fun e w' => ∃ v, e = .returned v ∧ OwnFs w' w.heap.size v F ∧ Below w.heap.size w w' := by
  subst hn
  have hmade := OwnFs.made w
  have hb0 : Below w.heap.size w (w.alloc (.cells #[] 89)) := (Below.refl _ w).alloc (Nat.le_refl _) _
  go_enter Tryz.func38, Tryz.ntmps38
  go_wp2_with fail
  go_loopw [3, 4] (fun v i wr => ∃ k : Nat, k ≤ F.length ∧ i = .int .i64 k ∧ OwnFs wr w.heap.size v (F.take k) ∧ Below w.heap.size w wr) (fun _ i _ => F.length - (intOf i).toNat)
  case atStart => exact ⟨0, Nat.zero_le _, rfl, by rw [List.take_zero]; exact hmade, hb0⟩
  case round =>
    obtain ⟨k, hk, rfl, hown, hb⟩ := hrel
    by_cases hlt : k < F.length
    · obtain ⟨b, o, rfl, x, q, cq, hcx, hcd, hx, hqc, hdl, hind⟩ := hF.at hlt
      obtain ⟨l, hl⟩ : ∃ l, l = F[k].2 := ⟨_, rfl⟩
      rw [← hl] at hcd hdl hind
      have hll : l.length ≤ 140737488351232 := by rw [hl]; exact hFd F[k] (List.getElem_mem hlt)
      have HX := Lib.hid (And.intro hx hl)
      have HOW := Lib.hid hown
      have HB := Lib.hid hb
      obtain ⟨S, hS⟩ : ∃ S : World → Prop, S = fun W => W.cell? ⟨b, o + k * 2, none⟩ = some (.string x) ∧ W.cell? ⟨b, o + k * 2 + 1, none⟩ = some (.slice q l.length cq) := ⟨_, rfl⟩
      have HSS := Lib.hid (fun W => show S W ↔ W.cell? ⟨b, o + k * 2, none⟩ = some (.string x) ∧ W.cell? ⟨b, o + k * 2 + 1, none⟩ = some (.slice q l.length cq) by rw [hS])
      have step : ∀ W, Below w.heap.size w W → S W := fun W hb => by rw [hS]; exact ⟨cell_keep hcx hb, cell_keep hcd hb⟩
      have HST := Lib.hid step
      have HK0 := Lib.hid (step _ hb.drew)
      have HCL := Lib.hid (show Calls Tryz.prog 14 #[.slice q l.length cq] wr.drew fun e w' => ∃ qv cv, e = .returned (.slice qv l.length cv) ∧ Own8 w' w.heap.size (.slice qv l.length cv) l ∧ Below wr.heap.size wr w' ∧ S w' ∧ S (w'.alloc (.cells #[.string x, .slice qv l.length cv] 89)) from
        (copyBytes_any l q _ cq rfl (by omega) wr.drew (hind.below hb.drew)).mono fun _ w' ⟨v, h1, h2, h3⟩ => by
          obtain ⟨qv, cv, rfl, _, _, _⟩ := h2.in8n rfl
          have hb4 : Below wr.heap.size wr w' := ((Below.refl _ wr).drew).trans h3
          have hb5 := hb.trans (hb4.mono hb.size)
          exact ⟨qv, cv, h1, h2.mono hb.size, hb4, step _ hb5, step _ (hb5.alloc (Nat.le_trans hb.size hb4.size) _)⟩)
      clear hS step hind hcx hcd hx hl hown hb hdl
      go_wp2_with fail
      go_region_held3 (fun W => W.cell? ⟨b, o + k * 2, none⟩ = some (.string x) ∧ W.cell? ⟨b, o + k * 2 + 1, none⟩ = some (.slice q l.length cq))
        (first | (with_reducible exact (HSS.out _).1 HK0.out) | (with_reducible exact (HSS.out _).1 HK1.out) | (with_reducible exact (HSS.out _).1 HK2.out) | (with_reducible exact (HSS.out _).1 HK3.out))
        (first
          | (go_at_call 14; with_reducible refine HCL.out.mono ?_; rintro e w4 ⟨qv, cv, rfl, hown4, hb4, hk1, hk2⟩; have HK1 := Lib.hid hk1; have HK2 := Lib.hid hk2; have HO4 := Lib.hid (And.intro hown4 hb4); clear hk1 hk2 hown4 hb4)
          | (refine step_appendFs rfl _ _ rfl w.heap.size _ (F.take k) rfl (HOW.out.below (HO4.out.2.alloc HO4.out.2.size (.cells #[.string x, .slice qv l.length cv] 89))) w4.heap.size _ x.data.toList (.slice qv l.length cv) l rfl (InE.one w4 x _ _) (HO4.out.1.alloc _) (by rw [List.length_take]; omega) (by have h1 := HB.out.size; have h2 := HO4.out.2.size; simp only [World.size_alloc]; omega) ?_; intro v6 w6 hfs6 hg6; have HB6 := Lib.hid ((HOW.out.below (HO4.out.2.alloc HO4.out.2.size (.cells #[.string x, .slice qv l.length cv] 89))).grown ((HB.out.trans (HO4.out.2.mono HB.out.size)).alloc (Nat.le_trans HB.out.size HO4.out.2.size) _) (by have h1 := HB.out.size; have h2 := HO4.out.2.size; simp only [World.size_alloc]; omega) hg6); have HK3 := Lib.hid (HST.out _ HB6.out); have HF6 := Lib.hid hfs6; clear hfs6 hg6))
      all_goals
        go_wp2_with fail
        go_roundw
        case rel => exact ⟨k + 1, by omega, by go_num, by rw [takes hlt, show F[k] = (x.data.toList, l) from Prod.ext HX.out.1.symm HX.out.2.symm]; exact HF6.out, HB6.out⟩
        case measure => simp [intOf]; omega
    · obtain rfl : k = F.length := by omega
      go_wp2_with fail
      go_ret
      rw [List.take_length] at hown
      exact ⟨_, rfl, hown, hb⟩

set_option maxRecDepth 100000 in
set_option maxHeartbeats 2000000 in
theorem sameFiles_any (F G : List FT) (p q : Option Addr) (n c n2 d : Nat) (hn : F.length = n) (hn2 : G.length = n2) (hm : n ≤ 140737488351232) (hm2 : n2 ≤ 140737488351232) (w : World) (hF : InFs w p F) (hG : InFs w q G) :
    Calls Tryz.prog 56 #[.slice p n c, .slice q n2 d] w fun e w' => e = .returned (.bool (decide (F = G))) ∧ Below w.heap.size w w' := by
  subst hn
  subst hn2
  by_cases hlen : F.length = G.length
  · have hne : ((F.length : Int) != (G.length : Int)) = false := by simp [hlen]
    go_enter Tryz.func56, Tryz.ntmps56
    go_wp2
    go_loopw [5] (fun i wr => ∃ k : Nat, k ≤ F.length ∧ i = .int .i64 k ∧ F.take k = G.take k ∧ Below w.heap.size w wr) (fun i _ => F.length - (intOf i).toNat)
    case atStart => exact ⟨0, Nat.zero_le _, rfl, rfl, Below.refl _ _⟩
    case round =>
      obtain ⟨k, hk, rfl, hpre, hb⟩ := hrel
      by_cases hlt : k < F.length
      · have hlt2 : k < G.length := by omega
        obtain ⟨b, o, rfl, x, px, cx, hx1, hx2, hx, _, hxl, hxi⟩ := hF.at hlt
        obtain ⟨b2, o2, rfl, y, py, cy, hy1, hy2, hy, _, hyl, hyi⟩ := hG.at hlt2
        obtain ⟨l, hl⟩ : ∃ l, l = F[k].2 := ⟨_, rfl⟩
        obtain ⟨m, hm⟩ : ∃ l, l = G[k].2 := ⟨_, rfl⟩
        rw [← hl] at hx2 hxl hxi
        rw [← hm] at hy2 hyl hyi
        have HX := Lib.hid (And.intro hx hl)
        have HY := Lib.hid (And.intro hy hm)
        have HP := Lib.hid hpre
        have HL := Lib.hid hlen
        have HB := Lib.hid hb
        obtain ⟨S, hS⟩ : ∃ S : World → Prop, S = fun W => W.cell? ⟨b, o + k * 2, none⟩ = some (.string x) ∧ W.cell? ⟨b, o + k * 2 + 1, none⟩ = some (.slice px l.length cx) ∧ W.cell? ⟨b2, o2 + k * 2, none⟩ = some (.string y) ∧ W.cell? ⟨b2, o2 + k * 2 + 1, none⟩ = some (.slice py m.length cy) := ⟨_, rfl⟩
        have HSS := Lib.hid (fun W => show S W ↔ W.cell? ⟨b, o + k * 2, none⟩ = some (.string x) ∧ W.cell? ⟨b, o + k * 2 + 1, none⟩ = some (.slice px l.length cx) ∧ W.cell? ⟨b2, o2 + k * 2, none⟩ = some (.string y) ∧ W.cell? ⟨b2, o2 + k * 2 + 1, none⟩ = some (.slice py m.length cy) by rw [hS])
        have step : ∀ W, Below w.heap.size w W → S W := fun W hb => by rw [hS]; exact ⟨cell_keep hx1 hb, cell_keep hx2 hb, cell_keep hy1 hb, cell_keep hy2 hb⟩
        have HST := Lib.hid step
        have HK0 := Lib.hid (step _ hb.drew)
        have HSB := Lib.hid (show Calls Tryz.prog 13 #[.slice px l.length cx, .slice py m.length cy] wr.drew fun e w' => e = .returned (.bool (decide (l = m))) ∧ Below w.heap.size w w' ∧ S w' from
          (sameBytes_any l m px py _ cx _ cy rfl rfl hxl hyl wr.drew (hxi.below hb.drew) (hyi.below hb.drew)).mono fun _ w' ⟨h1, h2⟩ => ⟨h1, hb.drew.trans (h2.mono hb.drew.size), step _ (hb.drew.trans (h2.mono hb.drew.size))⟩)
        have e1 := hb.cell (World.block_lt_of_cell? w _ hx1)
        have e2 := hb.cell (World.block_lt_of_cell? w _ hy1)
        rw [hx1] at e1
        rw [hy1] at e2
        clear hS step hx1 hx2 hy1 hy2 hxi hyi hx hy hl hm hpre hlen hb
        by_cases heq : x.data.toList = y.data.toList
        · have hbool : (x.toList == y.toList) = true := by rw [strs_eq]; simp [heq]
          have hbool2 : (x.toList != y.toList) = false := by simp [bne, hbool]
          have HE := Lib.hid heq
          clear heq
          cases hd : decide (l = m) with
          | true =>
            rw [hd] at HSB
            have HLM := Lib.hid (of_decide_eq_true hd)
            clear hd
            go_wp2_with fail
            go_region_held3 (fun W => W.cell? ⟨b, o + k * 2, none⟩ = some (.string x) ∧ W.cell? ⟨b, o + k * 2 + 1, none⟩ = some (.slice px l.length cx) ∧ W.cell? ⟨b2, o2 + k * 2, none⟩ = some (.string y) ∧ W.cell? ⟨b2, o2 + k * 2 + 1, none⟩ = some (.slice py m.length cy))
              (first | (with_reducible exact (HSS.out _).1 HK0.out) | (with_reducible exact (HSS.out _).1 HK1.out))
              (first | (go_at_call 13; with_reducible refine HSB.out.mono ?_; rintro e w4 ⟨rfl, hb4, hk1⟩; have HK1 := Lib.hid hk1; have HB4 := Lib.hid hb4; clear hk1 hb4))
            all_goals
              go_wp2_with fail
              go_roundw
              case rel => exact ⟨k + 1, by omega, by go_num, take_eq_succL F G k hlt hlt2 HP.out (Prod.ext (by rw [← HX.out.1, ← HY.out.1]; exact HE.out) (by rw [← HX.out.2, ← HY.out.2]; exact HLM.out)), HB4.out⟩
              case measure => simp [intOf]; omega
          | false =>
            rw [hd] at HSB
            have hno : F ≠ G := ne_of_get F G k hlt hlt2 (fun e => by
              have := of_decide_eq_false hd
              rw [HX.out.2, HY.out.2, e] at this
              exact this rfl)
            clear hd
            go_wp2_with fail
            go_region_held3 (fun W => W.cell? ⟨b, o + k * 2, none⟩ = some (.string x) ∧ W.cell? ⟨b, o + k * 2 + 1, none⟩ = some (.slice px l.length cx) ∧ W.cell? ⟨b2, o2 + k * 2, none⟩ = some (.string y) ∧ W.cell? ⟨b2, o2 + k * 2 + 1, none⟩ = some (.slice py m.length cy))
              (first | (with_reducible exact (HSS.out _).1 HK0.out) | (with_reducible exact (HSS.out _).1 HK1.out))
              (first | (go_at_call 13; with_reducible refine HSB.out.mono ?_; rintro e w4 ⟨rfl, hb4, hk1⟩; have HK1 := Lib.hid hk1; have HB4 := Lib.hid hb4; clear hk1 hb4))
            all_goals
              go_wp2_with fail
              go_ret
              exact ⟨ret_bool (by simp [hno]), HB4.out⟩
        · have hbool : (x.toList == y.toList) = false := by rw [strs_eq]; simp [heq]
          have hbool2 : (x.toList != y.toList) = true := by simp [bne, hbool]
          have hno : F ≠ G := ne_of_get F G k hlt hlt2 (fun e => by
            have h3 := HX.out.1
            have h4 := HY.out.1
            rw [e] at h3
            exact heq (h3.trans h4.symm))
          clear heq
          go_wp2_with fail
          go_quiet (fail)
          go_wp2_with fail
          go_ret
          exact ⟨ret_bool (by simp [hno]), bdrewN HB.out _⟩
      · obtain rfl : k = F.length := by omega
        go_wp2
        go_ret
        refine ⟨ret_bool ?_, hb⟩
        rw [List.take_length, hlen, List.take_length] at hpre
        simp [hpre]
  · have hne : ((F.length : Int) != (G.length : Int)) = true := by simp; omega
    have hno : F ≠ G := by rintro rfl; exact hlen rfl
    clear hlen
    go_enter Tryz.func56, Tryz.ntmps56
    go_wp2
    go_ret
    exact ⟨ret_bool (by simp [hno]), Below.refl _ _⟩

end Go.Proofs.YtheoklhmlnfgjaaGreatDoor
/-
  be.Get and the document's Value: the number of bytes.
-/
namespace Go.Proofs.YtheoklhmlnfgjaaGreatDoor
open Go.RowKit

/-- the number of bytes, the greatest first -/
def valB (l : List UInt8) : Nat := l.foldl (fun v b => v * 256 + b.toNat) 0
theorem valB_snoc (l : List UInt8) (b : UInt8) : valB (l ++ [b]) = valB l * 256 + b.toNat := by simp [valB]
theorem valB_lt (l : List UInt8) : valB l < 256 ^ l.length := by
  unfold valB
  suffices h : ∀ (l : List UInt8) (v k : Nat), v < 256 ^ k → l.foldl (fun v b => v * 256 + b.toNat) v < 256 ^ (k + l.length) by
    simpa using h l 0 0 (by simp)
  intro l
  induction l with
  | nil => intro v k h; simpa using h
  | cons b r ih =>
    intro v k h
    have := ih (v * 256 + b.toNat) (k + 1) (by have := b.toNat_lt; rw [Nat.pow_succ]; omega)
    simpa [Nat.add_assoc, Nat.add_comm 1] using this
theorem valB_take_lt (l : List UInt8) (k : Nat) (h : k ≤ 4) : valB (l.take k) < 4294967296 := by
  have h1 := valB_lt (l.take k)
  have h2 : (l.take k).length ≤ 4 := by rw [List.length_take]; omega
  exact Nat.lt_of_lt_of_le h1 (Nat.le_trans (Nat.pow_le_pow_right (by omega) h2) (by decide))

theorem In8.drewN {w : World} {p : Option Addr} {l : List UInt8} (h : In8 w p l) (n : Nat) : In8 (w.drewN n) p l := h

set_option maxHeartbeats 1000000 in
theorem value_any (l : List UInt8) (p : Option Addr) (n c : Nat) (hn : l.length = n) (h4 : n ≤ 4) (w : World) (h : In8 w p l) :
    Calls Tryz.prog 73 #[.slice p n c] w fun e w' => e = .returned (.int .i64 (valB l)) ∧ w = w' := by
  subst hn
  go_enter Tryz.func73, Tryz.ntmps73
  go_wp2
  go_loop [3, 4] (fun v i => ∃ k : Nat, k ≤ l.length ∧ i = .int .i64 k ∧ v = .int .i64 (valB (l.take k))) (fun _ i => l.length - (intOf i).toNat)
  case atStart => exact ⟨0, Nat.zero_le _, rfl, rfl⟩
  case round =>
    obtain ⟨k, hk, rfl, rfl⟩ := hrel
    have hv := valB_take_lt l k (by omega)
    by_cases hlt : k < l.length
    · obtain ⟨b, o, rfl, hc⟩ := h.at hlt
      have hck := hc k hlt
      have hb0 := bt_nonneg l k
      have hb1 := bt_le l k
      have hs : ((valB (l.take k) : Nat) : Int) * 256 + bt l k = ((valB (l.take (k + 1)) : Nat) : Int) := by
        rw [take_snoc l k hlt, valB_snoc, bt_get l k hlt]; omega
      have HS := Lib.hid hs
      clear hc h hs
      go_wp2
      go_round
      case rel => exact ⟨k + 1, by omega, by go_num, by rw [← HS.out]⟩
      case measure => simp [intOf]; omega
    · obtain rfl : k = l.length := by omega
      go_wp2
      go_ret
      exact ⟨ret_int (by simp), rfl⟩

theorem or_byte (v : Nat) (hv : v < 4294967296) (b : Nat) (hb : b < 256) : bits .or .u64 ((v * 256 : Nat) : Int) (b : Int) = ((v * 256 + b : Nat) : Int) := by
  rw [u64_or_nat _ _ (by omega) (by omega), nat_join 8 (v * 256) b (by omega) (by omega)]

set_option maxHeartbeats 1000000 in
theorem get_any (l : List UInt8) (p : Option Addr) (n c : Nat) (hn : l.length = n) (h4 : n ≤ 4) (w : World) (h : In8 w p l) :
    Calls Tryz.prog 93 #[.slice p n c] w fun e w' => e = .returned (.int .i64 (valB l)) ∧ w = w' := by
  subst hn
  go_enter Tryz.func93, Tryz.ntmps93
  go_wp2
  go_loop [3, 8] (fun v i => ∃ k : Nat, k ≤ l.length ∧ i = .int .i64 k ∧ v = .int .u64 (valB (l.take k))) (fun _ i => l.length - (intOf i).toNat)
  case atStart => exact ⟨0, Nat.zero_le _, rfl, rfl⟩
  case round =>
    obtain ⟨k, hk, rfl, rfl⟩ := hrel
    have hv := valB_take_lt l k (by omega)
    by_cases hlt : k < l.length
    · obtain ⟨b, o, rfl, hc⟩ := h.at hlt
      have hck := hc k hlt
      have hb0 := bt_nonneg l k
      have hb1 := bt_le l k
      have hs : bits .or .u64 (((valB (l.take k) : Nat) : Int) * 256) (bt l k) = ((valB (l.take (k + 1)) : Nat) : Int) := by
        rw [take_snoc l k hlt, valB_snoc, bt_get l k hlt, ← or_byte _ hv _ l[k].toNat_lt]; simp
      have HS := Lib.hid hs
      clear hc h hs
      go_wp2
      go_round
      case rel => exact ⟨k + 1, by omega, by go_num, by rw [← HS.out]⟩
      case measure => simp [intOf]; omega
    · obtain rfl : k = l.length := by omega
      go_wp2
      go_ret
      rw [List.take_length] at hv
      exact ⟨ret_int (IntWalk.wrap64_in _ ⟨by omega, by omega⟩), rfl⟩
end Go.Proofs.YtheoklhmlnfgjaaGreatDoor
/-
  The check sum as plain arithmetic on numbers below 2 to the 32. No program is in sight here.
-/
namespace Go.Proofs.YtheoklhmlnfgjaaGreatDoor

/-- one step of the check sum, for one bit -/
def crc1 (x : Nat) : Nat := if x % 2 = 1 then (x / 2) ^^^ 3988292384 else x / 2
/-- j such steps -/
def crcN : Nat → Nat → Nat
  | 0, x => x
  | j + 1, x => crc1 (crcN j x)
/-- a byte taken in -/
def crcB (x : Nat) (b : UInt8) : Nat := crcN 8 (x ^^^ b.toNat)
/-- the state behind a list of bytes -/
def crcS (l : List UInt8) : Nat := l.foldl crcB 4294967295
/-- the check sum -/
def crc (l : List UInt8) : Nat := crcS l ^^^ 4294967295

theorem crc1_lt (x : Nat) (h : x < 4294967296) : crc1 x < 4294967296 := by
  unfold crc1; split
  · exact Nat.xor_lt_two_pow (n := 32) (by omega) (by omega)
  · omega
theorem crcN_lt (j x : Nat) (h : x < 4294967296) : crcN j x < 4294967296 := by
  induction j with
  | zero => exact h
  | succ j ih => exact crc1_lt _ ih
theorem crcB_lt (x : Nat) (b : UInt8) (h : x < 4294967296) : crcB x b < 4294967296 := by
  unfold crcB; apply crcN_lt
  exact Nat.xor_lt_two_pow (n := 32) h (by have := b.toNat_lt; omega)
theorem foldl_lt (l : List UInt8) : ∀ x, x < 4294967296 → l.foldl crcB x < 4294967296 := by
  induction l with
  | nil => intro x h; exact h
  | cons b r ih => intro x h; exact ih _ (crcB_lt x b h)
theorem crcS_lt (l : List UInt8) : crcS l < 4294967296 := foldl_lt l _ (by omega)
theorem crc_lt (l : List UInt8) : crc l < 4294967296 := Nat.xor_lt_two_pow (n := 32) (crcS_lt l) (by omega)
theorem crcS_snoc (l : List UInt8) (b : UInt8) : crcS (l ++ [b]) = crcN 8 (crcS l ^^^ b.toNat) := by
  simp [crcS, crcB]
theorem crc1_odd (x : Nat) (h : x % 2 = 1) : crc1 x = (x / 2) ^^^ 3988292384 := if_pos h
theorem crc1_even (x : Nat) (h : ¬ x % 2 = 1) : crc1 x = x / 2 := if_neg h

end Go.Proofs.YtheoklhmlnfgjaaGreatDoor
/-
  What is read of bytes: the plain words.
-/
namespace Go.Proofs.YtheoklhmlnfgjaaGreatDoor
open Go.RowKit

/-- the bytes from lo to hi -/
def sl (l : List UInt8) (lo hi : Nat) : List UInt8 := (l.take hi).drop lo
theorem sl_length (l : List UInt8) (lo hi : Nat) (h : hi ≤ l.length) : (sl l lo hi).length = hi - lo := by
  unfold sl; rw [List.length_drop, List.length_take]; omega
theorem bt_sl (l : List UInt8) (lo hi i : Nat) (hi' : lo + i < hi) : bt (sl l lo hi) i = bt l (lo + i) := by
  unfold bt sl
  simp only [List.getD_eq_getElem?_getD]
  rw [List.getElem?_drop, List.getElem?_take_of_lt hi']

/-- the cells of bytes at a known place -/
theorem In8.sl {w : World} {b o : Nat} {l : List UInt8} (hc : ∀ i, i < l.length → w.cell? ⟨b, o + i, none⟩ = some (.int .u8 (bt l i))) (lo hi : Nat) (h : hi ≤ l.length) :
    In8 w (some ⟨b, o + lo, none⟩) (sl l lo hi) := by
  intro h0
  refine ⟨b, o + lo, rfl, fun i hi' => ?_⟩
  rw [sl_length l lo hi h] at hi'
  rw [Nat.add_assoc, hc (lo + i) (by omega), bt_sl l lo hi i (by omega)]

theorem In8.takeAt {w : World} {b o : Nat} {l : List UInt8} (hc : ∀ i, i < l.length → w.cell? ⟨b, o + i, none⟩ = some (.int .u8 (bt l i))) (hi : Nat) (h : hi ≤ l.length) :
    In8 w (some ⟨b, o, none⟩) (l.take hi) := by
  intro _
  refine ⟨b, o, rfl, fun i hi' => ?_⟩
  rw [List.length_take] at hi'
  rw [hc i (by omega)]
  unfold bt
  simp only [List.getD_eq_getElem?_getD]
  rw [List.getElem?_take_of_lt (by omega)]

/-- what is read: a record, its length, an error -/
structure Dec where
  seq : Int
  op : Int
  no : Int
  ident : List UInt8
  n : Int
  err : Int
def Dec.none (e : Int) : Dec := ⟨0, 0, 0, [], 0, e⟩
def Dec.val (d : Dec) : Value := .tuple #[.agg #[.int .i64 d.seq, .int .i64 d.op, .int .i64 d.no, .string ⟨d.ident.toArray⟩], .int .i64 d.n, .int .i64 d.err]
/-- the length of the id -/
def decK (l : List UInt8) : Nat := valB (Go.Proofs.YtheoklhmlnfgjaaGreatDoor.sl l 1 3)
def decGood (l : List UInt8) : Dec :=
  ⟨valB (Go.Proofs.YtheoklhmlnfgjaaGreatDoor.sl l 3 7), bt l 0 - 192, valB (Go.Proofs.YtheoklhmlnfgjaaGreatDoor.sl l 7 11), Go.Proofs.YtheoklhmlnfgjaaGreatDoor.sl l 11 (decK l + 11), decK l + 15, 0⟩
def dec (l : List UInt8) : Dec :=
  if l.length = 0 then .none 0 else if bt l 0 ≠ 193 ∧ bt l 0 ≠ 194 then .none 100 else if l.length < 3 then .none 0
  else if 4096 < decK l then .none 100 else if l.length < decK l + 15 then .none 0
  else if valB (Go.Proofs.YtheoklhmlnfgjaaGreatDoor.sl l (decK l + 11) (decK l + 15)) ≠ crc (l.take (decK l + 11)) then .none 100 else decGood l

theorem decK_lt (l : List UInt8) (h : 3 ≤ l.length) : decK l < 65536 := by
  have := valB_lt (Go.Proofs.YtheoklhmlnfgjaaGreatDoor.sl l 1 3)
  rw [sl_length l 1 3 h] at this
  exact this

end Go.Proofs.YtheoklhmlnfgjaaGreatDoor
/-
  The two check sums return the plain one (crc), and leave the world as it is.
-/
namespace Go.Proofs.YtheoklhmlnfgjaaGreatDoor
open Go.RowKit

theorem xor_start (x : Nat) (hx : x < 4294967296) (l : List UInt8) (k : Nat) (h : k < l.length) : bits .xor .u32 (x : Int) (bt l k % 4294967296) = ((crcN 0 (x ^^^ l[k].toNat) : Nat) : Int) := by
  have hb := l[k].toNat_lt
  rw [bt_get l k h, show ((l[k].toNat : Int) % 4294967296) = (l[k].toNat : Int) from by omega]
  exact u32_xor_nat x _ hx (by omega)
theorem round_end (l : List UInt8) (k : Nat) (h : k < l.length) : crcS (l.take (k + 1)) = crcN 8 (crcS (l.take k) ^^^ l[k].toNat) := by
  rw [take_snoc l k h, crcS_snoc]
theorem half_xor (x : Nat) (hx : x < 4294967296) (h : x % 2 = 1) : bits .xor .u32 ((x : Int) / 2) 3988292384 = ((crc1 x : Nat) : Int) := by
  rw [crc1_odd x h, show ((x : Int) / 2) = ((x / 2 : Nat) : Int) from by omega]
  exact u32_xor_nat _ 3988292384 (by omega) (by omega)
theorem half_even (x : Nat) (h : ¬ x % 2 = 1) : ((x : Int) / 2) = ((crc1 x : Nat) : Int) := by
  rw [crc1_even x h]; omega
theorem last_xor (l : List UInt8) : bits .xor .u32 ((crcS l : Nat) : Int) 4294967295 = ((crc l : Nat) : Int) :=
  u32_xor_nat _ 4294967295 (crcS_lt l) (by omega)

set_option maxHeartbeats 1000000 in
theorem refSum_any (l : List UInt8) (p : Option Addr) (n c : Nat) (hn : l.length = n) (hm : n ≤ maxLen) (w : World) (h : In8 w p l) :
    Calls Tryz.prog 74 #[.slice p n c] w fun e w' => e = .returned (.int .i64 (crc l)) ∧ w = w' := by
  subst hn
  unfold maxLen at hm
  go_enter Tryz.func74, Tryz.ntmps74
  go_wp2
  go_loop [3, 4] (fun v i => ∃ k : Nat, k ≤ l.length ∧ i = .int .i64 k ∧ v = .int .u32 (crcS (l.take k))) (fun _ i => l.length - (intOf i).toNat)
  case atStart => exact ⟨0, Nat.zero_le _, rfl, rfl⟩
  case round =>
    obtain ⟨k, hk, rfl, rfl⟩ := hrel
    by_cases hlt : k < l.length
    · obtain ⟨b, o, rfl, hc⟩ := h.at hlt
      have hck := hc k hlt
      clear hc h
      go_wp2
      go_loop [3, 5] (fun v i => ∃ j : Nat, j ≤ 8 ∧ i = .int .i64 j ∧ v = .int .u32 (crcN j (crcS (l.take k) ^^^ l[k].toNat))) (fun _ i => 8 - (intOf i).toNat)
      case atStart => exact ⟨0, Nat.zero_le _, rfl, by rw [xor_start _ (crcS_lt _) l k hlt]⟩
      case round =>
        obtain ⟨j, hj, rfl, rfl⟩ := hrel
        have hx : crcN j (crcS (l.take k) ^^^ l[k].toNat) < 4294967296 := crcN_lt _ _ (Nat.xor_lt_two_pow (n := 32) (crcS_lt _) (by have := l[k].toNat_lt; omega))
        by_cases hj8 : j < 8
        · by_cases hod : crcN j (crcS (l.take k) ^^^ l[k].toNat) % 2 = 1
          · have HX := Lib.hid (half_xor _ hx hod)
            go_wp2
            go_round
            case rel => exact ⟨j + 1, by omega, by go_num, by rw [HX.out]; rfl⟩
            case measure => simp [intOf]; omega
          · have HX := Lib.hid (half_even _ hod)
            go_wp2
            go_round
            case rel => exact ⟨j + 1, by omega, by go_num, by rw [HX.out]; rfl⟩
            case measure => simp [intOf]; omega
        · obtain rfl : j = 8 := by omega
          have HX := Lib.hid (round_end l k hlt)
          go_wp2
          go_round
          case rel => exact ⟨k + 1, by omega, by go_num, by rw [HX.out]⟩
          case measure => simp [intOf]; omega
    · obtain rfl : k = l.length := by omega
      go_wp2
      go_ret
      exact ⟨ret_int (by rw [last_xor]; exact IntWalk.wrap64_in _ ⟨by omega, by have := crc_lt l; omega⟩), rfl⟩

theorem rec_step (x : Nat) (hx : x < 4294967296) : bits .xor .u32 ((x : Int) / 2) (bits .and .u32 3988292384 (-(bits .and .u32 (x : Int) 1) % 4294967296)) = ((crc1 x : Nat) : Int) := by
  have h1 : bits .and .u32 (x : Int) 1 = ((x &&& 1 : Nat) : Int) := u32_and_nat x 1 hx (by omega)
  rw [h1, nat_mask1]
  by_cases h : x % 2 = 1
  · rw [h, show ((-((1 : Nat) : Int)) % 4294967296) = ((4294967295 : Nat) : Int) from by decide]
    have h2 : bits .and .u32 3988292384 ((4294967295 : Nat) : Int) = ((3988292384 : Nat) : Int) := (u32_and_nat 3988292384 4294967295 (by omega) (by omega)).trans (by decide)
    rw [h2]; exact half_xor x hx h
  · rw [show x % 2 = 0 from by omega, show ((-((0 : Nat) : Int)) % 4294967296) = ((0 : Nat) : Int) from by decide]
    have h2 : bits .and .u32 3988292384 ((0 : Nat) : Int) = ((0 : Nat) : Int) := (u32_and_nat 3988292384 0 (by omega) (by omega)).trans (by decide)
    rw [h2, crc1_even x h, show ((x : Int) / 2) = ((x / 2 : Nat) : Int) from by omega]
    exact (u32_xor_nat (x / 2) 0 (by omega) (by omega)).trans (by simp)
theorem max_xor (l : List UInt8) : bits .xor .u32 IntKind.u32.max ((crcS l : Nat) : Int) = ((crc l : Nat) : Int) :=
  (u32_xor_nat 4294967295 _ (by omega) (crcS_lt l)).trans (by rw [Nat.xor_comm]; rfl)

set_option maxHeartbeats 1000000 in
theorem recSum_any (l : List UInt8) (p : Option Addr) (n c : Nat) (hn : l.length = n) (hm : n ≤ maxLen) (w : World) (h : In8 w p l) :
    Calls Tryz.prog 37 #[.slice p n c] w fun e w' => e = .returned (.int .i64 (crc l)) ∧ w = w' := by
  subst hn
  unfold maxLen at hm
  go_enter Tryz.func37, Tryz.ntmps37
  go_wp2
  go_loop [3, 8] (fun v i => ∃ k : Nat, k ≤ l.length ∧ i = .int .i64 k ∧ v = .int .u32 (crcS (l.take k))) (fun _ i => l.length - (intOf i).toNat)
  case atStart => exact ⟨0, Nat.zero_le _, rfl, rfl⟩
  case round =>
    obtain ⟨k, hk, rfl, rfl⟩ := hrel
    by_cases hlt : k < l.length
    · obtain ⟨b, o, rfl, hc⟩ := h.at hlt
      have hck := hc k hlt
      clear hc h
      go_wp2
      go_loop [3, 16] (fun v i => ∃ j : Nat, j ≤ 8 ∧ i = .int .i64 j ∧ v = .int .u32 (crcN j (crcS (l.take k) ^^^ l[k].toNat))) (fun _ i => 8 - (intOf i).toNat)
      case atStart => exact ⟨0, Nat.zero_le _, rfl, by rw [xor_start _ (crcS_lt _) l k hlt]⟩
      case round =>
        obtain ⟨j, hj, rfl, rfl⟩ := hrel
        have hx : crcN j (crcS (l.take k) ^^^ l[k].toNat) < 4294967296 := crcN_lt _ _ (Nat.xor_lt_two_pow (n := 32) (crcS_lt _) (by have := l[k].toNat_lt; omega))
        by_cases hj8 : j < 8
        · have HX := Lib.hid (rec_step _ hx)
          go_wp2
          go_round
          case rel => exact ⟨j + 1, by omega, by go_num, by rw [HX.out]; rfl⟩
          case measure => simp [intOf]; omega
        · obtain rfl : j = 8 := by omega
          have HX := Lib.hid (round_end l k hlt)
          go_wp2
          go_round
          case rel => exact ⟨k + 1, by omega, by go_num, by rw [HX.out]⟩
          case measure => simp [intOf]; omega
    · obtain rfl : k = l.length := by omega
      go_wp2
      go_ret
      exact ⟨ret_int (by rw [max_xor]; exact IntWalk.wrap64_in _ ⟨by omega, by have := crc_lt l; omega⟩), rfl⟩

theorem recSum_own {w : World} {base : Nat} {v : Value} {l : List UInt8} (h : Own8 w base v l) : Calls Tryz.prog 37 #[v] w fun e w' => e = .returned (.int .i64 (crc l)) ∧ w = w' := by
  obtain ⟨p, c, rfl, h1, h2, h3⟩ := h.in8
  exact recSum_any l p _ c rfl (by omega) w h3
theorem refSum_own {w : World} {base : Nat} {v : Value} {l : List UInt8} (h : Own8 w base v l) : Calls Tryz.prog 74 #[v] w fun e w' => e = .returned (.int .i64 (crc l)) ∧ w = w' := by
  obtain ⟨p, c, rfl, h1, h2, h3⟩ := h.in8
  exact refSum_any l p _ c rfl (by omega) w h3
end Go.Proofs.YtheoklhmlnfgjaaGreatDoor
/-
  Rows of records.
-/
namespace Go.Proofs.YtheoklhmlnfgjaaGreatDoor
open Go.RowKit

/-- a record -/
structure Rcd where
  seq : Int
  op : Int
  no : Int
  ident : List UInt8
def rcA (x : Rcd) : Array Value := #[.int .i64 x.seq, .int .i64 x.op, .int .i64 x.no, .string ⟨x.ident.toArray⟩]
def rcV (x : Rcd) : List Value := [.int .i64 x.seq, .int .i64 x.op, .int .i64 x.no, .string ⟨x.ident.toArray⟩]
def Dec.rcd (d : Dec) : Rcd := ⟨d.seq, d.op, d.no, d.ident⟩
/-- the cells of records -/
def rc : List Rcd → List Value
  | [] => []
  | x :: L => rcV x ++ rc L
theorem rc_length (L : List Rcd) : (rc L).length = L.length * 4 := by
  induction L with
  | nil => rfl
  | cons x L ih => simp only [rc, rcV, List.length_append, List.length_cons, List.length_nil, ih]; omega
theorem rc_append (L M : List Rcd) : rc (L ++ M) = rc L ++ rc M := by
  induction L with
  | nil => rfl
  | cons x L ih => simp only [List.cons_append, rc, ih, List.append_assoc]
theorem rc_one (L : List Rcd) : ∀ u ∈ rc L, u.oneCell' = true := by
  induction L with
  | nil => intro u hu; cases hu
  | cons x L ih =>
    intro u hu
    simp only [rc, rcV, List.cons_append, List.nil_append, List.mem_cons] at hu
    rcases hu with rfl | rfl | rfl | rfl | hu
    · rfl
    · rfl
    · rfl
    · rfl
    · exact ih u hu
theorem rc_get (L : List Rcd) (i : Nat) (h : i < L.length) : (rc L)[i * 4]? = some (.int .i64 L[i].seq) ∧ (rc L)[i * 4 + 1]? = some (.int .i64 L[i].op) ∧ (rc L)[i * 4 + 2]? = some (.int .i64 L[i].no) ∧ (rc L)[i * 4 + 3]? = some (.string ⟨L[i].ident.toArray⟩) := by
  induction L generalizing i with
  | nil => simp at h
  | cons x L ih =>
    cases i with
    | zero => simp [rc, rcV]
    | succ i =>
      have h2 := ih i (by simpa using h)
      have e0 : (i + 1) * 4 = i * 4 + 1 + 1 + 1 + 1 := by omega
      have e1 : (i + 1) * 4 + 1 = i * 4 + 1 + 1 + 1 + 1 + 1 := by omega
      have e2 : (i + 1) * 4 + 2 = i * 4 + 2 + 1 + 1 + 1 + 1 := by omega
      have e3 : (i + 1) * 4 + 3 = i * 4 + 3 + 1 + 1 + 1 + 1 := by omega
      rw [e1, e2, e3, e0]
      simpa [rc, rcV] using h2

/-- records stand at the address (whatever it is, where there are none) -/
def InRc (w : World) (p : Option Addr) (L : List Rcd) : Prop :=
  0 < L.length → ∃ b o, p = some ⟨b, o, none⟩ ∧ ∀ j v, (rc L)[j]? = some v → w.cell? ⟨b, o + j, none⟩ = some v
theorem InRc.at {w : World} {p : Option Addr} {L : List Rcd} (h : InRc w p L) {k : Nat} (hk : k < L.length) :
    ∃ b o, p = some ⟨b, o, none⟩ ∧ ∃ x : ByteArray, w.cell? ⟨b, o + k * 4, none⟩ = some (.int .i64 L[k].seq) ∧ w.cell? ⟨b, o + k * 4 + 1, none⟩ = some (.int .i64 L[k].op) ∧ w.cell? ⟨b, o + k * 4 + 2, none⟩ = some (.int .i64 L[k].no) ∧ w.cell? ⟨b, o + k * 4 + 3, none⟩ = some (.string x) ∧ x.data.toList = L[k].ident := by
  obtain ⟨b, o, e, hc⟩ := h (by omega)
  obtain ⟨h1, h2, h3, h4⟩ := rc_get L k hk
  exact ⟨b, o, e, _, hc _ _ h1, (by have := hc _ _ h2; rwa [← Nat.add_assoc] at this), (by have := hc _ _ h3; rwa [← Nat.add_assoc] at this), (by have := hc _ _ h4; rwa [← Nat.add_assoc] at this), rfl⟩
theorem InRc.below {w w' : World} {p : Option Addr} {L : List Rcd} (h : InRc w p L) (hb : Below w.heap.size w w') : InRc w' p L := by
  intro h0
  obtain ⟨b, o, rfl, hc⟩ := h h0
  refine ⟨b, o, rfl, fun j v hv => ?_⟩
  have := hc j v hv
  rw [hb.cell (p := ⟨b, o + j, none⟩) (World.block_lt_of_cell? w _ this)]
  exact this
theorem InRc.alloc {w : World} {p : Option Addr} {L : List Rcd} (h : InRc w p L) (o : Obj) : InRc (w.alloc o) p L := h.below ((Below.refl _ w).alloc (Nat.le_refl _) o)
theorem InRc.drewN {w : World} {p : Option Addr} {L : List Rcd} (h : InRc w p L) (n : Nat) : InRc (w.drewN n) p L := h
theorem InRc.lit (w : World) (L : List Rcd) (c : Array Value) (e : TypeId) (fr : Nat × Nat) (h : c.toList = rc L) : InRc (w.alloc (.cells c e fr)) (some ⟨w.heap.size, 0, none⟩) L := by
  intro _
  refine ⟨w.heap.size, 0, rfl, fun j v hv => ?_⟩
  rw [cell_of_row _ _ _ _ _ _ (heap_alloc_new w (.cells c e fr)), Nat.zero_add, ← Array.getElem?_toList, h, hv]
theorem InRc.one (w : World) (x : Rcd) (e : TypeId) : InRc (w.alloc (.cells (rcA x) e)) (some ⟨w.heap.size, 0, none⟩) [x] :=
  InRc.lit w _ _ e (0, 0) (by simp [rc, rcV, rcA])
theorem InRc.nil (w : World) (p : Option Addr) : InRc w p [] := fun h => absurd h (by simp)
theorem InRc.take {w : World} {p : Option Addr} {L : List Rcd} (h : InRc w p L) (m : Nat) : InRc w p (L.take m) := by
  intro h0
  rw [List.length_take] at h0
  obtain ⟨b, o, e, hc⟩ := h (by omega)
  refine ⟨b, o, e, fun j v hv => hc j v ?_⟩
  rw [← List.take_append_drop m L, rc_append, List.getElem?_append_left (List.getElem?_eq_some_iff.1 hv).1]
  exact hv

/-- the slice v is a row of the call's own of records -/
def OwnRc (w : World) (base : Nat) (v : Value) (L : List Rcd) : Prop := w.ownsRow base 35 4 v L.length (rc L)
theorem OwnRc.nil (w : World) (base : Nat) : OwnRc w base (.slice none 0 0) [] := World.ownsRow_nil _ _ _ _
theorem OwnRc.made (w : World) : OwnRc (w.alloc (.cells #[] 35)) w.heap.size (.slice (some ⟨w.heap.size, 0, none⟩) 0 0) [] :=
  ⟨rfl, .inr ⟨w.heap.size, 0, #[], rfl, Nat.le_refl _, heap_alloc_new w _, by simp, by unfold maxLen; omega, rfl, rfl⟩⟩
theorem OwnRc.below {w w' : World} {base : Nat} {v : Value} {L : List Rcd} (h : OwnRc w base v L) (hb : Below w.heap.size w w') : OwnRc w' base v L := ownsRow_below h hb
theorem OwnRc.mono {w : World} {base base' : Nat} {v : Value} {L : List Rcd} (h : OwnRc w base v L) (hb : base' ≤ base) : OwnRc w base' v L := ownsRow_mono h hb
theorem OwnRc.alloc {w : World} {base : Nat} {v : Value} {L : List Rcd} (h : OwnRc w base v L) (o : Obj) : OwnRc (w.alloc o) base v L := World.ownsRow.alloc h o
theorem OwnRc.grown {w w1 w' : World} {B : Nat} {v : Value} {L : List Rcd} (hB : Below B w w1) (hs : B ≤ w1.heap.size) (hown : OwnRc w1 B v L) (hg : w1.grownBy w' v.ownBlock) : Below B w w' :=
  hB.grown hg hs (fun k e => (World.ownsRow.lt hown k e).1)
theorem OwnRc.shape {w : World} {base n : Nat} {v : Value} {L : List Rcd} (h : OwnRc w base v L) (hn : L.length = n) :
    ∃ p c, v = .slice p n c ∧ n ≤ c ∧ c ≤ maxLen ∧ InRc w p L ∧ (∀ a, p = some a → base ≤ a.block ∧ a.block < w.heap.size ∧ a.off = 0 ∧ a.spot = none) := by
  subst hn
  have hlt := World.ownsRow.lt h
  rcases h.2 with ⟨rfl, hn⟩ | ⟨g, cap, cur, rfl, hb, hg, hnc, hcm, hcs, ht⟩
  · refine ⟨none, 0, by rw [hn], by omega, by unfold maxLen; omega, fun h0 => by omega, fun a ha => by cases ha⟩
  · refine ⟨some ⟨g, 0, none⟩, cap, rfl, hnc, hcm, fun h0 => ⟨g, 0, rfl, fun j v hv => ?_⟩, fun a ha => ?_⟩
    · rw [cell_of_row _ _ _ _ _ _ hg, Nat.zero_add, ← Array.getElem?_toList]
      have hj : j < L.length * 4 := by rw [← rc_length]; exact (List.getElem?_eq_some_iff.1 hv).1
      rw [← ht, List.getElem?_take_of_lt hj] at hv
      exact hv
    · obtain rfl := Option.some.inj ha
      exact ⟨hb, (hlt g rfl).2, rfl, rfl⟩

theorem infoRc : (Tryz.prog.info? 35).map (fun i => (i.zero, i.size, i.bytes)) = some (some (.agg #[.int .i64 0, .int .i64 0, .int .i64 0, .string .empty]), 4, 40) := by kernel_rfl
theorem srcRc {w : World} {p : Option Addr} {M : List Rcd} {c : Nat} (hin : InRc w p M) : Src Tryz.prog 4 25 (.slice p M.length c) M.length (rc M) w := by
  by_cases h0 : 0 < M.length
  · obtain ⟨b, o, rfl, hc⟩ := hin h0
    refine Src.ofSlice w Tryz.underlying25 ⟨b, o, none⟩ M.length c (rc M) (rc_length M) (fun j u hu => ?_) (rc_one M)
    rw [Go.WideShapes.add_plain]; exact hc j u hu
  · obtain rfl : M = [] := List.eq_nil_of_length_eq_zero (by omega)
    cases p with
    | none => exact Src.ofNil w Tryz.underlying25 c
    | some a => exact Src.ofSlice w Tryz.underlying25 a 0 c [] rfl (fun j u hu => by simp at hu) (fun u hu => by cases hu)

section
variable {w : World}
theorem wpList_appendRc {ops : Array Oper} {rest : List Oper} {o : Oper} {a : Act} {Q : Exit → Act → World → Prop} (hgd : o.guard = none) (s x : Operand)
    (ho : o.op = .call { callee := .builtin .append, args := #[s, x], argTypes := #[25, 25] })
    (base : Nat) (v : Value) (L : List Rcd) (hv : a.eval s = v) (hown : OwnRc w base v L)
    (p : Option Addr) (m c : Nat) (M : List Rcd) (hm : M.length = m) (hx : a.eval x = .slice p m c) (hin : InRc w p M)
    (hr : L.length + m ≤ 4500000000000) (hbase : base ≤ w.heap.size)
    (h : ∀ v' w', OwnRc w' base v' (L ++ M) → w.grownBy w' v.ownBlock → (v' = .slice none 0 0 ↔ v = .slice none 0 0 ∧ m = 0) → wpList Tryz.prog ops Q rest (a.put o.dst v') w') : wpList Tryz.prog ops Q (o :: rest) a w := by
  subst hm
  refine wpList_append_fit w hgd s x 25 25 ho base 35 (.agg #[.int .i64 0, .int .i64 0, .int .i64 0, .string .empty]) 4 40 Tryz.underlying25 infoRc rfl v L.length (rc L) hv hown _ M.length (rc M) hx (srcRc hin) (by unfold maxLen; omega) (by omega) hbase ?_
  intro v' w' ho' hg hn
  exact h v' w' (by unfold OwnRc; rw [List.length_append, rc_append]; exact ho') hg hn
end
end Go.Proofs.YtheoklhmlnfgjaaGreatDoor
/-
  Numbers as bytes, the byte of the greatest weight first: be.Put, be.Get and the document's Number, Value.
-/
namespace Go.Proofs.YtheoklhmlnfgjaaGreatDoor
open Go.RowKit

/-- n bytes of a number, the greatest first -/
def beB (v : Nat) : Nat → List UInt8
  | 0 => []
  | n + 1 => UInt8.ofNat (v / 256 ^ n) :: beB v n
theorem beB_length (v n : Nat) : (beB v n).length = n := by
  induction n with
  | zero => rfl
  | succ n ih => simp [beB, ih]

theorem byte_range (v : Int) (j : Nat) : 0 ≤ v / 2 ^ (8 * j) % 256 ∧ v / 2 ^ (8 * j) % 256 ≤ 255 := by omega
theorem pow_256 (j : Nat) : (2 : Nat) ^ (8 * j) = 256 ^ j := by rw [Nat.pow_mul]
theorem ubyte_shift (v : Int) (h0 : 0 ≤ v) (j : Nat) : ubyte (v / 2 ^ (8 * j) % 256) = UInt8.ofNat (v.toNat / 256 ^ j) := by
  obtain ⟨m, rfl⟩ := Int.eq_ofNat_of_zero_le h0
  have e : ((m : Int) / 2 ^ (8 * j) % 256) = ((m / 256 ^ j % 256 : Nat) : Int) := by
    rw [← pow_256]; simp
  unfold ubyte
  rw [e, Int.toNat_natCast, Int.toNat_natCast]
  apply UInt8.toNat_inj.1
  simp only [UInt8.toNat_ofNat']; omega
theorem beB_step (l' t : List UInt8) (v : Int) (h0 : 0 ≤ v) (j : Nat) (h : l' ++ beB v.toNat (j + 1) = t) : (l' ++ [ubyte (v / 2 ^ (8 * j) % 256)]) ++ beB v.toNat j = t := by
  rw [ubyte_shift v h0 j, ← h]; simp [beB]

set_option maxHeartbeats 1000000 in
theorem put_any (v N : Int) (n : Nat) (hN : N = (n : Int)) (hn : n ≤ 8) (h0 : 0 ≤ v) (h1 : v ≤ 9223372036854775807) (l : List UInt8) (sv : Value) (base : Nat) (w : World) (hl : l.length ≤ 100000) (hown : Own8 w base sv l) (hb0 : base ≤ w.heap.size) :
    Calls Tryz.prog 36 #[sv, .int .i64 v, .int .i64 N] w fun e w' => ∃ v', e = .returned v' ∧ Own8 w' base v' (l ++ beB v.toNat n) ∧ Below base w w' := by
  subst hN
  go_enter Tryz.func36, Tryz.ntmps36
  go_wp2
  go_loopw [0, 7] (fun s i wr => ∃ (k : Nat) (l' : List UInt8), k ≤ n ∧ i = .int .i64 ((k : Int) - 1) ∧ Own8 wr base s l' ∧ l' ++ beB v.toNat k = l ++ beB v.toNat n ∧ Below base w wr ∧ base ≤ wr.heap.size) (fun _ i _ => (intOf i + 1).toNat)
  case atStart => exact ⟨n, l, Nat.le_refl _, rfl, hown, rfl, Below.refl _ _, hb0⟩
  case round =>
    obtain ⟨k, l', hk, rfl, hown', heq, hb, hbs⟩ := hrel
    by_cases hlt : 0 < k
    · obtain ⟨j, rfl⟩ : ∃ j, k = j + 1 := ⟨k - 1, by omega⟩
      have hrange := byte_range v j
      have hin := In8.one wr (v / 2 ^ (8 * j) % 256) hrange.1 hrange.2
      have hown2 := hown'.alloc (.cells #[.int .u8 (v / 2 ^ (8 * j) % 256)] 5)
      have hlen : l'.length ≤ 100008 := by
        have := congrArg List.length heq
        simp only [List.length_append, beB_length] at this; omega
      have HS := Lib.hid (beB_step l' _ v h0 j heq)
      clear heq hrange
      go_wp2_with (at_builtin; refine wpList_append8 rfl _ _ rfl base _ l' rfl hown2 _ _ _ [ubyte (v / 2 ^ (8 * j) % 256)] rfl rfl hin (by simp; omega) (by simp; omega) ?_; intro v2 w2 hown3 hgrow3 _)
      have hb3 := own_grown (hb.alloc hbs _) (by simp; omega) hown2 hgrow3
      have hs3 := hgrow3.size
      go_roundw
      case rel => exact ⟨j, _, by omega, rfl, hown3, HS.out, hb3, by simp at hs3; omega⟩
      case measure => simp [intOf]
    · obtain rfl : k = 0 := by omega
      simp only [beB, List.append_nil] at heq
      subst heq
      go_wp2
      go_ret
      exact ⟨_, rfl, hown', hb⟩

theorem beB_get (v n j : Nat) (h : j < n) : (beB v n)[j]'(by rw [beB_length]; exact h) = UInt8.ofNat (v / 256 ^ (n - 1 - j)) := by
  induction n generalizing j with
  | zero => omega
  | succ n ih =>
    cases j with
    | zero => simp [beB]
    | succ j =>
      have := ih j (by omega)
      simp only [beB, List.getElem_cons_succ]
      rw [this, show n + 1 - 1 - (j + 1) = n - 1 - j from by omega]

theorem i64_and255 (n : Int) : bits .and .i64 n 255 = n % 256 := by
  have h255 : (BitVec.ofInt 64 255).toNat = 2 ^ 8 - 1 := by decide
  have key : (BitVec.ofInt 64 n &&& BitVec.ofInt 64 255).toNat = (n % ((2 ^ 64 : Nat) : Int)).toNat % 2 ^ 8 := by
    rw [BitVec.toNat_and, BitVec.toNat_ofInt, h255, Nat.and_two_pow_sub_one_eq_mod]
  show IntKind.i64.wrap ((BitVec.ofInt 64 n &&& BitVec.ofInt 64 255).toNat : Nat) = n % 256
  rw [key, IntKind.wrap_i64]
  omega
theorem ubyte_low (z : Nat) : ubyte (bits .and .i64 (z : Int) 255 % 256) = UInt8.ofNat z := by
  rw [i64_and255]
  unfold ubyte
  apply UInt8.toNat_inj.1
  simp only [UInt8.toNat_ofNat']; omega
theorem low_range (z : Nat) : 0 ≤ bits .and .i64 (z : Int) 255 % 256 ∧ bits .and .i64 (z : Int) 255 % 256 ≤ 255 := by omega
theorem div_step (v n j z : Nat) (hj : j + 1 ≤ n) (h : v / 256 ^ (n - (j + 1)) = z) : z / 256 = v / 256 ^ (n - j) := by
  rw [← h, Nat.div_div_eq_div_mul, ← Nat.pow_succ, show (n - (j + 1)).succ = n - j from by omega]

/-- a store into bytes of the call's own -/
theorem Own8.stored {w : World} {base g n cap : Nat} {l : List UInt8} (h : Own8 w base (.slice (some ⟨g, 0, none⟩) n cap) l) (hn : l.length = n) (j : Nat) (z : Int) (h0 : 0 ≤ z) (h1 : z ≤ 255) :
    Own8 (w.setCell ⟨g, j, none⟩ (.int .u8 z)) base (.slice (some ⟨g, 0, none⟩) n cap) (l.set j (ubyte z)) ∧ w.grownBy (w.setCell ⟨g, j, none⟩ (.int .u8 z)) (some g) := by
  subst hn
  have := World.ownsRow.stored h j (.int .u8 z)
  refine ⟨?_, this.2⟩
  unfold Own8
  rw [List.length_set]
  have e : by8 (l.set j (ubyte z)) = (by8 l).set j (.int .u8 z) := by simp only [by8, List.map_set, ubyte_toNat h0 h1]
  rw [e]; exact this.1
theorem Own8.cells {w : World} {base g n cap : Nat} {l : List UInt8} (h : Own8 w base (.slice (some ⟨g, 0, none⟩) n cap) l) (hn : l.length = n) {j : Nat} (hj : j < n) :
    w.cell? ⟨g, j, none⟩ = some (.int .u8 (bt l j)) ∧ w.frozen? ⟨g, j, none⟩ = false := by
  subst hn
  exact ⟨(World.ownsRow.cellAt h j (by omega)).trans (by8_get l j hj), World.ownsRow.frozenAt h j⟩

theorem drop_set (l t : List UInt8) (j : Nat) (b : UInt8) (hl : l.length = t.length) (hj : j < l.length) (h : l.drop (j + 1) = t.drop (j + 1)) (hb : t[j]'(by omega) = b) : (l.set j b).drop j = t.drop j := by
  rw [List.drop_eq_getElem_cons (by simpa using hj), List.drop_eq_getElem_cons (show j < t.length by omega)]
  simp [hb]
  rw [List.drop_set_of_lt (by omega), h]

set_option maxHeartbeats 1000000 in
theorem number_any (v N : Int) (n : Nat) (hN : N = (n : Int)) (hn : n ≤ 8) (h0 : 0 ≤ v) (h1 : v ≤ 9223372036854775807) (w : World) :
    Calls Tryz.prog 86 #[.int .i64 v, .int .i64 N] w fun e w' => ∃ v', e = .returned v' ∧ Own8 w' w.heap.size v' (beB v.toNat n) ∧ Below w.heap.size w w' := by
  subst hN
  obtain ⟨i0, hi, hz0, hz1, hz2⟩ := info_parts info8
  go_enter Tryz.func86, Tryz.ntmps86
  go_wp2_with (at_make; refine wpList_make_full _ rfl _ _ 22 rfl w.heap.size 5 i0 (.int .u8 0) 1 Tryz.underlying22 hi hz0 hz1 .i64 .i64 _ _ n rfl rfl rfl rfl (by rw [hz2]; omega) (by unfold maxLen; omega) (Nat.le_refl _) ?_; intro w0 hown0 hgrow0)
  have hl0 : ∃ l0 : List UInt8, l0.length = n ∧ Own8 w0 w.heap.size (.slice (some ⟨w.heap.size, 0, none⟩) n n) l0 := by
    refine ⟨List.replicate n 0, by simp, ?_⟩
    have e : (madeCells (Value.int .u8 0).cells (n * 1)).toList = by8 (List.replicate n 0) := by
      rw [Nat.mul_one]; exact (toList_madeCells_one (.int .u8 0) n).trans (by simp [by8])
    unfold Own8
    rw [List.length_replicate, ← e]; exact hown0
  obtain ⟨l0, hl0, hown1⟩ := hl0
  have hb0 : Below w.heap.size w w0 := (Below.refl _ w).grown hgrow0 (Nat.le_refl _) (fun k e => by cases e)
  have hs0 : w.heap.size ≤ w0.heap.size := hgrow0.size
  clear hown0 hgrow0
  go_loopw [0, 6] (fun a i wr => ∃ (k : Nat) (l' : List UInt8), k ≤ n ∧ i = .int .i64 ((k : Int) - 1) ∧ a = .int .i64 (((v.toNat / 256 ^ (n - k) : Nat) : Int)) ∧ l'.length = n ∧ Own8 wr w.heap.size (.slice (some ⟨w.heap.size, 0, none⟩) n n) l' ∧ l'.drop k = (beB v.toNat n).drop k ∧ Below w.heap.size w wr) (fun _ i _ => (intOf i + 1).toNat)
  case atStart => exact ⟨n, l0, Nat.le_refl _, rfl, by simp; omega, hl0, hown1, by rw [List.drop_of_length_le (by omega), List.drop_of_length_le (by rw [beB_length]; exact Nat.le_refl _)], hb0⟩
  case round =>
    obtain ⟨k, l', hk, rfl, rfl, hl', hown', heq, hb⟩ := hrel
    by_cases hlt : 0 < k
    · obtain ⟨j, rfl⟩ : ∃ j, k = j + 1 := ⟨k - 1, by omega⟩
      obtain ⟨hcell, hfr⟩ := hown'.cells hl' (j := j) (by omega)
      have hz : v.toNat / 256 ^ (n - (j + 1)) ≤ 9223372036854775807 := Nat.le_trans (Nat.div_le_self _ _) (by omega)
      generalize hz' : v.toNat / 256 ^ (n - (j + 1)) = z at *
      have HZ := Lib.hid hz'
      have HL := Lib.hid hl'
      have HQ := Lib.hid heq
      clear hz' hl' heq
      go_wp2
      have hst := hown'.stored HL.out j _ (low_range z).1 (low_range z).2
      have hb2 : Below w.heap.size w (wr.setCell ⟨w.heap.size, j, none⟩ (.int .u8 (bits BinOp.and IntKind.i64 (z : Int) 255 % 256))) := hb.setCell (p := ⟨w.heap.size, j, none⟩) (Nat.le_refl _) _
      have hlen : j < l'.length := by rw [HL.out]; omega
      go_roundw
      case rel =>
        refine ⟨j, _, by omega, rfl, by rw [← div_step _ _ _ _ hk HZ.out]; go_num, ?_, hst.1, ?_, hb2⟩
        · rw [List.length_set]; exact HL.out
        · refine drop_set l' _ j _ (by rw [beB_length]; exact HL.out) hlen HQ.out ?_
          rw [beB_get _ _ _ (by omega), ubyte_low, ← HZ.out, show n - 1 - j = n - (j + 1) from by omega]
      case measure => simp [intOf]
    · obtain rfl : k = 0 := by omega
      simp only [List.drop_zero] at heq
      subst heq
      go_wp2
      go_ret
      exact ⟨_, rfl, hown', hb⟩
end Go.Proofs.YtheoklhmlnfgjaaGreatDoor
/-
  The program's Encode and the document's: the same bytes and the same error.
-/
namespace Go.Proofs.YtheoklhmlnfgjaaGreatDoor
open Go.RowKit

/-- a record's bytes ahead of its check sum -/
def encBody (seq op no : Nat) (id : List UInt8) : List UInt8 := [UInt8.ofNat (192 + op)] ++ beB id.length 2 ++ beB seq 4 ++ beB no 4 ++ id
/-- a record's bytes -/
def encAll (seq op no : Nat) (id : List UInt8) : List UInt8 := encBody seq op no id ++ beB (crc (encBody seq op no id)) 4

/-- can the record be written? 0: yes -/
def encErr (seq op no : Int) (n : Nat) : Int :=
  if ¬ (op = 1 ∨ op = 2) ∨ ¬ (0 ≤ seq ∧ seq ≤ 4294967295) ∨ ¬ (0 ≤ no ∧ no ≤ 4294967295) then 100 else if 4096 < n then 101 else 0
/-- what is written -/
def encOf (seq op no : Int) (id : List UInt8) : List UInt8 := if encErr seq op no id.length = 0 then encAll seq.toNat op.toNat no.toNat id else []

theorem word_yes (v : Int) (h0 : 0 ≤ v) (h1 : v ≤ 4294967295) (w : World) : Calls Tryz.prog 35 #[.int .i64 v] w fun e w' => e = .returned (.bool true) ∧ w = w' := by
  go_enter Tryz.func35, Tryz.ntmps35
  go_wp2
  go_ret
  exact ⟨rfl, rfl⟩
theorem word_no (v : Int) (h : ¬ (0 ≤ v ∧ v ≤ 4294967295)) (w : World) : Calls Tryz.prog 35 #[.int .i64 v] w fun e w' => e = .returned (.bool false) ∧ w = w' := by
  by_cases h0 : 0 ≤ v
  · have h1 : ¬ v ≤ 4294967295 := by omega
    go_enter Tryz.func35, Tryz.ntmps35
    go_wp2
    go_ret
    exact ⟨rfl, rfl⟩
  · go_enter Tryz.func35, Tryz.ntmps35
    go_wp2
    go_ret
    exact ⟨rfl, rfl⟩

theorem cells4_at (w : World) (a b c d : Value) (t : Nat) : (w.alloc (.cells #[a, b, c, d] t)).cell? ⟨w.heap.size, 0, none⟩ = some a ∧ (w.alloc (.cells #[a, b, c, d] t)).cell? ⟨w.heap.size, 1, none⟩ = some b ∧ (w.alloc (.cells #[a, b, c, d] t)).cell? ⟨w.heap.size, 2, none⟩ = some c ∧ (w.alloc (.cells #[a, b, c, d] t)).cell? ⟨w.heap.size, 3, none⟩ = some d := by
  refine ⟨?_, ?_, ?_, ?_⟩ <;> (simp only [World.cell?, heap_alloc_new w (.cells #[a, b, c, d] t)]; rfl)

set_option maxHeartbeats 2000000 in
theorem recEnc_ok (seq op no : Int) (id : ByteArray) (hop : op = 1 ∨ op = 2) (hs0 : 0 ≤ seq) (hs1 : seq ≤ 4294967295) (hn0 : 0 ≤ no) (hn1 : no ≤ 4294967295) (hid : id.size ≤ 4096) (w : World) :
    Calls Tryz.prog 15 #[.agg #[.int .i64 seq, .int .i64 op, .int .i64 no, .string id]] w fun e w' => ∃ v, e = .returned (.tuple #[v, .int .i64 0]) ∧ Own8 w' w.heap.size v (encAll seq.toNat op.toNat no.toNat id.data.toList) ∧ Below w.heap.size w w' := by
  have hz : id.data.toList.length = id.size := by rw [Array.length_toList]; rfl
  have HZ := Lib.hid hz
  have hc := cells4_at w (.int .i64 seq) (.int .i64 op) (.int .i64 no) (.string id) 35
  have HC := Lib.hid hc
  have hol := Own8.lit (w.alloc (.cells #[.int .i64 seq, .int .i64 op, .int .i64 no, .string id] 35)) (192 + op) (by omega) (by omega)
  have HO := Lib.hid hol
  have hb0 : Below (w.heap.size + 1) (w.alloc (.cells #[.int .i64 seq, .int .i64 op, .int .i64 no, .string id] 35)) ((w.alloc (.cells #[.int .i64 seq, .int .i64 op, .int .i64 no, .string id] 35)).alloc (.cells #[.int .u8 (192 + op)] 5)) := (Below.refl _ _).alloc (by simp) _
  have hbw : Below w.heap.size w (w.alloc (.cells #[.int .i64 seq, .int .i64 op, .int .i64 no, .string id] 35)) := (Below.refl _ _).alloc (Nat.le_refl _) _
  clear hz hc hol
  have h192 : ubyte (192 + op) = UInt8.ofNat (192 + op.toNat) := by unfold ubyte; congr 1; omega
  have H192 := Lib.hid h192
  clear h192
  rcases hop with rfl | rfl
  · go_enter Tryz.func15, Tryz.ntmps15
    go_wp2_with (go_at_call 35; refine (word_yes _ (by omega) (by omega) _).mono ?_; rintro e w1 ⟨rfl, rfl⟩)
    refine (put_any _ _ 2 rfl (by omega) (by omega) (by omega) [_] _ (w.heap.size + 1) _ (by simp) (by have := HO.out; simpa using this) (by simp)).mono ?_
    rintro e w1 ⟨v1, rfl, hown1, hb1⟩
    have hb1' := hb0.trans hb1
    have hz1 : w.heap.size + 1 ≤ w1.heap.size := by have := hb1'.size; simpa using this
    have c10 := (hb1'.cell (p := ⟨w.heap.size, 0, none⟩) (by simp)).trans HC.out.1
    have c12 := (hb1'.cell (p := ⟨w.heap.size, 2, none⟩) (by simp)).trans HC.out.2.2.1
    have c13 := (hb1'.cell (p := ⟨w.heap.size, 3, none⟩) (by simp)).trans HC.out.2.2.2
    go_wp2_with fail
    refine (put_any _ _ 4 rfl (by omega) (by omega) (by omega) _ _ (w.heap.size + 1) w1 (by simp [beB_length]) hown1 hz1).mono ?_
    rintro e w2 ⟨v2, rfl, hown2, hb2⟩
    clear c10 hown1 hb1
    have hz2 : w.heap.size + 1 ≤ w2.heap.size := by have := hb2.size; omega
    replace c12 := (hb2.cell (p := ⟨w.heap.size, 2, none⟩) (by simp)).trans c12
    replace c13 := (hb2.cell (p := ⟨w.heap.size, 3, none⟩) (by simp)).trans c13
    go_wp2_with fail
    refine (put_any _ _ 4 rfl (by omega) (by omega) (by omega) _ _ (w.heap.size + 1) w2 (by simp [beB_length]) hown2 hz2).mono ?_
    rintro e w3 ⟨v3, rfl, hown3, hb3⟩
    clear c12 hown2
    have hz3 : w.heap.size + 1 ≤ w3.heap.size := by have := hb3.size; omega
    replace c13 := (hb3.cell (p := ⟨w.heap.size, 3, none⟩) (by simp)).trans c13
    go_wp2_with (at_builtin; refine wpList_append8s rfl _ _ rfl (w.heap.size + 1) v3 _ rfl hown3 id rfl (by simp [beB_length]; omega) hz3 ?_; intro v4 w4 hown4 hg4)
    obtain ⟨L, hL⟩ : ∃ L, L = [ubyte 193] ++ beB (id.size : Int).toNat 2 ++ beB seq.toNat 4 ++ beB no.toNat 4 ++ id.data.toList := ⟨_, rfl⟩
    rw [← hL] at hown4
    have hlen : L.length ≤ 100000 := by rw [hL]; simp [beB_length]; omega
    have HL := Lib.hid hL
    clear hL
    refine (recSum_own hown4).mono ?_
    rintro e w5 ⟨rfl, rfl⟩
    have hz4 : w.heap.size + 1 ≤ w4.heap.size := by have := hg4.size; omega
    have hcl := crc_lt L
    go_wp2_with fail
    refine (put_any _ _ 4 rfl (by omega) (by omega) (by omega) _ _ (w.heap.size + 1) w4 hlen hown4 hz4).mono ?_
    rintro e w5 ⟨v5, rfl, hown5, hb5⟩
    go_wp2_with fail
    go_ret2
    refine ⟨v5, rfl, ?_, ?_⟩
    · refine Own8.mono ?_ (Nat.le_succ _)
      have e : encAll seq.toNat (Int.toNat 1) no.toNat id.data.toList = L ++ beB ((crc L : Nat) : Int).toNat 4 := by
        unfold encAll encBody; rw [← H192.out, HZ.out, HL.out]; rfl
      rw [e]; exact hown5
    · have h1 : Below (w.heap.size + 1) (w.alloc (.cells #[.int .i64 seq, .int .i64 1, .int .i64 no, .string id] 35)) w5 := (((hb1'.trans hb2).trans hb3).grown hg4 hz3 (fun k e => (hown3.lt k e).1)).trans hb5
      exact hbw.trans (h1.mono (Nat.le_succ _))
  · go_enter Tryz.func15, Tryz.ntmps15
    go_wp2_with (go_at_call 35; refine (word_yes _ (by omega) (by omega) _).mono ?_; rintro e w1 ⟨rfl, rfl⟩)
    refine (put_any _ _ 2 rfl (by omega) (by omega) (by omega) [_] _ (w.heap.size + 1) _ (by simp) (by have := HO.out; simpa using this) (by simp)).mono ?_
    rintro e w1 ⟨v1, rfl, hown1, hb1⟩
    have hb1' := hb0.trans hb1
    have hz1 : w.heap.size + 1 ≤ w1.heap.size := by have := hb1'.size; simpa using this
    have c10 := (hb1'.cell (p := ⟨w.heap.size, 0, none⟩) (by simp)).trans HC.out.1
    have c12 := (hb1'.cell (p := ⟨w.heap.size, 2, none⟩) (by simp)).trans HC.out.2.2.1
    have c13 := (hb1'.cell (p := ⟨w.heap.size, 3, none⟩) (by simp)).trans HC.out.2.2.2
    go_wp2_with fail
    refine (put_any _ _ 4 rfl (by omega) (by omega) (by omega) _ _ (w.heap.size + 1) w1 (by simp [beB_length]) hown1 hz1).mono ?_
    rintro e w2 ⟨v2, rfl, hown2, hb2⟩
    clear c10 hown1 hb1
    have hz2 : w.heap.size + 1 ≤ w2.heap.size := by have := hb2.size; omega
    replace c12 := (hb2.cell (p := ⟨w.heap.size, 2, none⟩) (by simp)).trans c12
    replace c13 := (hb2.cell (p := ⟨w.heap.size, 3, none⟩) (by simp)).trans c13
    go_wp2_with fail
    refine (put_any _ _ 4 rfl (by omega) (by omega) (by omega) _ _ (w.heap.size + 1) w2 (by simp [beB_length]) hown2 hz2).mono ?_
    rintro e w3 ⟨v3, rfl, hown3, hb3⟩
    clear c12 hown2
    have hz3 : w.heap.size + 1 ≤ w3.heap.size := by have := hb3.size; omega
    replace c13 := (hb3.cell (p := ⟨w.heap.size, 3, none⟩) (by simp)).trans c13
    go_wp2_with (at_builtin; refine wpList_append8s rfl _ _ rfl (w.heap.size + 1) v3 _ rfl hown3 id rfl (by simp [beB_length]; omega) hz3 ?_; intro v4 w4 hown4 hg4)
    obtain ⟨L, hL⟩ : ∃ L, L = [ubyte 194] ++ beB (id.size : Int).toNat 2 ++ beB seq.toNat 4 ++ beB no.toNat 4 ++ id.data.toList := ⟨_, rfl⟩
    rw [← hL] at hown4
    have hlen : L.length ≤ 100000 := by rw [hL]; simp [beB_length]; omega
    have HL := Lib.hid hL
    clear hL
    refine (recSum_own hown4).mono ?_
    rintro e w5 ⟨rfl, rfl⟩
    have hz4 : w.heap.size + 1 ≤ w4.heap.size := by have := hg4.size; omega
    have hcl := crc_lt L
    go_wp2_with fail
    refine (put_any _ _ 4 rfl (by omega) (by omega) (by omega) _ _ (w.heap.size + 1) w4 hlen hown4 hz4).mono ?_
    rintro e w5 ⟨v5, rfl, hown5, hb5⟩
    go_wp2_with fail
    go_ret2
    refine ⟨v5, rfl, ?_, ?_⟩
    · refine Own8.mono ?_ (Nat.le_succ _)
      have e : encAll seq.toNat (Int.toNat 2) no.toNat id.data.toList = L ++ beB ((crc L : Nat) : Int).toNat 4 := by
        unfold encAll encBody; rw [← H192.out, HZ.out, HL.out]; rfl
      rw [e]; exact hown5
    · have h1 : Below (w.heap.size + 1) (w.alloc (.cells #[.int .i64 seq, .int .i64 2, .int .i64 no, .string id] 35)) w5 := (((hb1'.trans hb2).trans hb3).grown hg4 hz3 (fun k e => (hown3.lt k e).1)).trans hb5
      exact hbw.trans (h1.mono (Nat.le_succ _))

theorem recEnc_bad1 (seq op no : Int) (id : ByteArray) (h1 : ¬ op = 1) (h2 : ¬ op = 2) (w : World) :
    Calls Tryz.prog 15 #[.agg #[.int .i64 seq, .int .i64 op, .int .i64 no, .string id]] w fun e w' => e = .returned (.tuple #[.slice none 0 0, .int .i64 100]) ∧ Below w.heap.size w w' := by
  have b1 : (op != 1) = true := by simp [h1]
  have b2 : (op != 2) = true := by simp [h2]
  clear h1 h2
  go_enter Tryz.func15, Tryz.ntmps15
  go_wp2_with fail
  go_ret2
  exact ⟨rfl, (Below.refl _ _).alloc (Nat.le_refl _) _⟩
theorem recEnc_bad2 (seq op no : Int) (id : ByteArray) (hop : op = 1 ∨ op = 2) (h : ¬ (0 ≤ seq ∧ seq ≤ 4294967295)) (w : World) :
    Calls Tryz.prog 15 #[.agg #[.int .i64 seq, .int .i64 op, .int .i64 no, .string id]] w fun e w' => e = .returned (.tuple #[.slice none 0 0, .int .i64 100]) ∧ Below w.heap.size w w' := by
  have HH := Lib.hid h
  clear h
  rcases hop with rfl | rfl
  all_goals
    go_enter Tryz.func15, Tryz.ntmps15
    go_wp2_with (go_at_call 35; refine (word_no _ HH.out _).mono ?_; rintro e w1 ⟨rfl, rfl⟩)
    go_ret2
    exact ⟨rfl, (Below.refl _ _).alloc (Nat.le_refl _) _⟩
theorem recEnc_bad3 (seq op no : Int) (id : ByteArray) (hop : op = 1 ∨ op = 2) (hs0 : 0 ≤ seq) (hs1 : seq ≤ 4294967295) (h : ¬ (0 ≤ no ∧ no ≤ 4294967295)) (w : World) :
    Calls Tryz.prog 15 #[.agg #[.int .i64 seq, .int .i64 op, .int .i64 no, .string id]] w fun e w' => e = .returned (.tuple #[.slice none 0 0, .int .i64 100]) ∧ Below w.heap.size w w' := by
  have HH := Lib.hid h
  clear h
  rcases hop with rfl | rfl
  all_goals
    go_enter Tryz.func15, Tryz.ntmps15
    go_wp2_with fail
    refine (word_yes _ hs0 hs1 _).mono ?_
    rintro e w1 ⟨rfl, rfl⟩
    go_wp2_with fail
    refine (word_no _ HH.out _).mono ?_
    rintro e w1 ⟨rfl, rfl⟩
    go_wp2_with fail
    go_ret2
    exact ⟨rfl, (Below.refl _ _).alloc (Nat.le_refl _) _⟩
theorem recEnc_bad4 (seq op no : Int) (id : ByteArray) (hop : op = 1 ∨ op = 2) (hs0 : 0 ≤ seq) (hs1 : seq ≤ 4294967295) (hn0 : 0 ≤ no) (hn1 : no ≤ 4294967295) (hid : 4096 < id.size) (w : World) :
    Calls Tryz.prog 15 #[.agg #[.int .i64 seq, .int .i64 op, .int .i64 no, .string id]] w fun e w' => e = .returned (.tuple #[.slice none 0 0, .int .i64 101]) ∧ Below w.heap.size w w' := by
  rcases hop with rfl | rfl
  all_goals
    go_enter Tryz.func15, Tryz.ntmps15
    go_wp2_with (go_at_call 35; refine (word_yes _ (by omega) (by omega) _).mono ?_; rintro e w1 ⟨rfl, rfl⟩)
    go_ret2
    exact ⟨rfl, (Below.refl _ _).alloc (Nat.le_refl _) _⟩

theorem recEnc_any (seq op no : Int) (id : ByteArray) (w : World) :
    Calls Tryz.prog 15 #[.agg #[.int .i64 seq, .int .i64 op, .int .i64 no, .string id]] w fun e w' => ∃ v, e = .returned (.tuple #[v, .int .i64 (encErr seq op no id.size)]) ∧ Own8 w' w.heap.size v (encOf seq op no id.data.toList) ∧ Below w.heap.size w w' := by
  have hz : id.data.toList.length = id.size := by rw [Array.length_toList]; rfl
  have bad : ∀ c : Int, c ≠ 0 → encErr seq op no id.size = c → ∀ (e : Ending) (w' : World), (e = .returned (.tuple #[.slice none 0 0, .int .i64 c]) ∧ Below w.heap.size w w') → ∃ v, e = .returned (.tuple #[v, .int .i64 (encErr seq op no id.size)]) ∧ Own8 w' w.heap.size v (encOf seq op no id.data.toList) ∧ Below w.heap.size w w' := by
    rintro c hc he e w' ⟨rfl, hb⟩
    refine ⟨_, by rw [he], ?_, hb⟩
    have : encOf seq op no id.data.toList = [] := by unfold encOf; rw [hz, he, if_neg hc]
    rw [this]; exact Own8.nil _ _
  by_cases hop : op = 1 ∨ op = 2
  · by_cases hs : 0 ≤ seq ∧ seq ≤ 4294967295
    · by_cases hn : 0 ≤ no ∧ no ≤ 4294967295
      · by_cases hid : 4096 < id.size
        · exact (recEnc_bad4 seq op no id hop hs.1 hs.2 hn.1 hn.2 hid w).mono (bad 101 (by decide) (by unfold encErr; rw [if_neg (by simp [hop, hs, hn]), if_pos hid]))
        · have he : encErr seq op no id.size = 0 := by unfold encErr; rw [if_neg (by simp [hop, hs, hn]), if_neg hid]
          have hf : encOf seq op no id.data.toList = encAll seq.toNat op.toNat no.toNat id.data.toList := by unfold encOf; rw [hz, he, if_pos rfl]
          rw [he, hf]
          exact recEnc_ok seq op no id hop hs.1 hs.2 hn.1 hn.2 (by omega) w
      · exact (recEnc_bad3 seq op no id hop hs.1 hs.2 hn w).mono (bad 100 (by decide) (by unfold encErr; rw [if_pos (Or.inr (Or.inr hn))]))
    · exact (recEnc_bad2 seq op no id hop hs w).mono (bad 100 (by decide) (by unfold encErr; rw [if_pos (Or.inr (Or.inl hs))]))
  · exact (recEnc_bad1 seq op no id (fun h => hop (.inl h)) (fun h => hop (.inr h)) w).mono (bad 100 (by decide) (by unfold encErr; rw [if_pos (Or.inl hop)]))
end Go.Proofs.YtheoklhmlnfgjaaGreatDoor
/-
  The check sum tells every change of one byte. Plain arithmetic.
-/
namespace Go.Proofs.YtheoklhmlnfgjaaGreatDoor

theorem xor_lt32 {a b : Nat} (ha : a < 4294967296) (hb : b < 4294967296) : a ^^^ b < 4294967296 := Nat.xor_lt_two_pow (n := 32) ha hb
theorem xor_right_inj {a b c : Nat} (h : a ^^^ c = b ^^^ c) : a = b := by
  have := congrArg (· ^^^ c) h
  simpa [Nat.xor_assoc] using this
theorem xor_left_inj {a b c : Nat} (h : c ^^^ a = c ^^^ b) : a = b := by
  rw [Nat.xor_comm c a, Nat.xor_comm c b] at h; exact xor_right_inj h

theorem high_bit {x : Nat} (h : x < 2147483648) : Nat.testBit x 31 = false := Nat.testBit_lt_two_pow (by omega)
theorem crc1_inj {x y : Nat} (hx : x < 4294967296) (hy : y < 4294967296) (h : crc1 x = crc1 y) : x = y := by
  have hp : Nat.testBit 3988292384 31 = true := by decide
  by_cases ax : x % 2 = 1 <;> by_cases ay : y % 2 = 1
  · rw [crc1_odd x ax, crc1_odd y ay] at h
    have := xor_right_inj h
    omega
  · rw [crc1_odd x ax, crc1_even y ay] at h
    have h1 := congrArg (fun z => Nat.testBit z 31) h
    simp only [Nat.testBit_xor, hp, high_bit (show x / 2 < 2147483648 by omega), high_bit (show y / 2 < 2147483648 by omega)] at h1
    simp at h1
  · rw [crc1_even x ax, crc1_odd y ay] at h
    have h1 := congrArg (fun z => Nat.testBit z 31) h
    simp only [Nat.testBit_xor, hp, high_bit (show x / 2 < 2147483648 by omega), high_bit (show y / 2 < 2147483648 by omega)] at h1
    simp at h1
  · rw [crc1_even x ax, crc1_even y ay] at h
    omega
theorem crcN_inj (j : Nat) {x y : Nat} (hx : x < 4294967296) (hy : y < 4294967296) (h : crcN j x = crcN j y) : x = y := by
  induction j with
  | zero => exact h
  | succ j ih => exact ih (crc1_inj (crcN_lt j x hx) (crcN_lt j y hy) h)
theorem crcB_inj {x y : Nat} (b : UInt8) (hx : x < 4294967296) (hy : y < 4294967296) (h : crcB x b = crcB y b) : x = y := by
  have hb : b.toNat < 4294967296 := by have := b.toNat_lt; omega
  exact xor_right_inj (crcN_inj 8 (xor_lt32 hx hb) (xor_lt32 hy hb) h)
theorem crcB_byte {x : Nat} {b c : UInt8} (hx : x < 4294967296) (h : crcB x b = crcB x c) : b = c := by
  have hb : b.toNat < 4294967296 := by have := b.toNat_lt; omega
  have hc : c.toNat < 4294967296 := by have := c.toNat_lt; omega
  exact UInt8.toNat_inj.1 (xor_left_inj (crcN_inj 8 (xor_lt32 hx hb) (xor_lt32 hx hc) h))
theorem foldl_inj (l : List UInt8) : ∀ {x y : Nat}, x < 4294967296 → y < 4294967296 → l.foldl crcB x = l.foldl crcB y → x = y := by
  induction l with
  | nil => intro x y _ _ h; exact h
  | cons b r ih => intro x y hx hy h; exact crcB_inj b hx hy (ih (crcB_lt x b hx) (crcB_lt y b hy) h)

/-- two texts that differ in one byte have different sums -/
theorem crc_tells (a d : List UInt8) (b c : UInt8) (h : crc (a ++ b :: d) = crc (a ++ c :: d)) : b = c := by
  have h1 : crcS (a ++ b :: d) = crcS (a ++ c :: d) := xor_right_inj h
  simp only [crcS, List.foldl_append, List.foldl_cons] at h1
  have ha := foldl_lt a 4294967295 (by omega)
  exact crcB_byte ha (foldl_inj d (crcB_lt _ b ha) (crcB_lt _ c ha) h1)
end Go.Proofs.YtheoklhmlnfgjaaGreatDoor
/-
  The plain laws of records: what is written is read as it was, what is read is written as it was, a byte that is another is told. No program is in sight here.
-/
namespace Go.Proofs.YtheoklhmlnfgjaaGreatDoor

theorem valB_from (r : List UInt8) : ∀ v : Nat, r.foldl (fun v b => v * 256 + b.toNat) v = v * 256 ^ r.length + valB r := by
  induction r with
  | nil => intro v; simp [valB]
  | cons b r ih =>
    intro v
    have h0 := ih b.toNat
    have h1 := ih (v * 256 + b.toNat)
    have e : valB (b :: r) = b.toNat * 256 ^ r.length + valB r := by simp only [valB, List.foldl_cons, Nat.zero_mul, Nat.zero_add]; exact h0
    simp only [List.foldl_cons, List.length_cons]
    rw [h1, e, Nat.pow_succ, Nat.add_mul, Nat.add_assoc, Nat.mul_assoc, Nat.mul_comm 256]
theorem valB_cons (b : UInt8) (r : List UInt8) : valB (b :: r) = b.toNat * 256 ^ r.length + valB r := by
  have := valB_from r b.toNat
  simp only [valB, List.foldl_cons, Nat.zero_mul, Nat.zero_add]
  exact this
theorem beB_mod (n : Nat) : ∀ a v : Nat, beB (a * 256 ^ n + v) n = beB v n := by
  induction n with
  | zero => intro a v; rfl
  | succ n ih =>
    intro a v
    have hp : 0 < 256 ^ n := Nat.pos_of_ne_zero (by simp)
    have e : a * 256 ^ (n + 1) + v = (a * 256) * 256 ^ n + v := by rw [Nat.pow_succ, Nat.mul_comm (256 ^ n), Nat.mul_assoc]
    simp only [beB]
    rw [e, ih (a * 256) v]
    congr 1
    rw [Nat.add_comm, Nat.add_mul_div_right _ _ hp]
    apply UInt8.toNat_inj.1
    simp only [UInt8.toNat_ofNat']; omega
theorem beB_valB (x : List UInt8) : beB (valB x) x.length = x := by
  induction x with
  | nil => rfl
  | cons b r ih =>
    have hp : 0 < 256 ^ r.length := Nat.pos_of_ne_zero (by simp)
    rw [valB_cons, List.length_cons, beB, beB_mod, ih, Nat.add_comm, Nat.add_mul_div_right _ _ hp, Nat.div_eq_of_lt (valB_lt r)]
    simp
theorem valB_beB (n : Nat) : ∀ v : Nat, v < 256 ^ n → valB (beB v n) = v := by
  induction n with
  | zero => intro v h; simp at h; subst h; rfl
  | succ n ih =>
    intro v h
    have hp : 0 < 256 ^ n := Nat.pos_of_ne_zero (by simp)
    have hd : v / 256 ^ n < 256 := Nat.div_lt_of_lt_mul (by rw [Nat.mul_comm, Nat.mul_comm, ← Nat.pow_succ]; exact h)
    have e : beB v n = beB (v % 256 ^ n) n := by
      conv => lhs; rw [← Nat.div_add_mod v (256 ^ n), Nat.mul_comm]
      exact beB_mod n _ _
    rw [beB, valB_cons, beB_length, e, ih _ (Nat.mod_lt _ hp), UInt8.toNat_ofNat', Nat.mod_eq_of_lt hd, Nat.mul_comm]
    exact Nat.div_add_mod v (256 ^ n)

theorem take_sl (l : List UInt8) (lo hi : Nat) (h : lo ≤ hi) : l.take lo ++ sl l lo hi = l.take hi := by
  unfold sl
  conv => rhs; rw [← List.take_append_drop lo (l.take hi)]
  rw [List.take_take, Nat.min_eq_left h]
theorem sl_mid (a m r : List UInt8) (lo hi : Nat) (h1 : a.length = lo) (h2 : lo + m.length = hi) : sl (a ++ (m ++ r)) lo hi = m := by
  subst h1; subst h2
  unfold sl
  rw [List.take_append, List.take_of_length_le (by omega), List.drop_append_of_le_length (Nat.le_refl _), List.drop_length, List.nil_append, Nat.add_sub_cancel_left, List.take_left]

/-- the three ways of reading -/
theorem dec_cases (l : List UInt8) : dec l = .none 0 ∨ dec l = .none 100 ∨
    (dec l = decGood l ∧ (bt l 0 = 193 ∨ bt l 0 = 194) ∧ 3 ≤ l.length ∧ decK l ≤ 4096 ∧ decK l + 15 ≤ l.length ∧ valB (sl l (decK l + 11) (decK l + 15)) = crc (l.take (decK l + 11))) := by
  unfold dec
  by_cases c0 : l.length = 0
  · rw [if_pos c0]; exact .inl rfl
  · rw [if_neg c0]
    by_cases c1 : bt l 0 ≠ 193 ∧ bt l 0 ≠ 194
    · rw [if_pos c1]; exact .inr (.inl rfl)
    · rw [if_neg c1]
      by_cases c2 : l.length < 3
      · rw [if_pos c2]; exact .inl rfl
      · rw [if_neg c2]
        by_cases c3 : 4096 < decK l
        · rw [if_pos c3]; exact .inr (.inl rfl)
        · rw [if_neg c3]
          by_cases c4 : l.length < decK l + 15
          · rw [if_pos c4]; exact .inl rfl
          · rw [if_neg c4]
            by_cases c5 : valB (sl l (decK l + 11) (decK l + 15)) ≠ crc (l.take (decK l + 11))
            · rw [if_pos c5]; exact .inr (.inl rfl)
            · rw [if_neg c5]; exact .inr (.inr ⟨rfl, by omega, by omega, by omega, by omega, by simpa using c5⟩)

theorem valB_sl4 (l : List UInt8) (lo : Nat) (h : lo + 4 ≤ l.length) : valB (sl l lo (lo + 4)) < 4294967296 := by
  have := valB_lt (sl l lo (lo + 4))
  rw [sl_length l lo (lo + 4) h, Nat.add_sub_cancel_left] at this
  exact this

/-- what is read is written as it was -/
theorem good_enc (l : List UInt8) (hx : bt l 0 = 193 ∨ bt l 0 = 194) (hk : decK l ≤ 4096) (hs : decK l + 15 ≤ l.length) (hg : valB (sl l (decK l + 11) (decK l + 15)) = crc (l.take (decK l + 11))) :
    encErr (decGood l).seq (decGood l).op (decGood l).no (decGood l).ident.length = 0 ∧ encOf (decGood l).seq (decGood l).op (decGood l).no (decGood l).ident = l.take (decK l + 15) := by
  have h4 : valB (sl l 3 7) < 4294967296 := valB_sl4 l 3 (by omega)
  have h7 : valB (sl l 7 11) < 4294967296 := valB_sl4 l 7 (by omega)
  have hi : (sl l 11 (decK l + 11)).length = decK l := by rw [sl_length l 11 _ (by omega)]; omega
  have he : encErr (decGood l).seq (decGood l).op (decGood l).no (decGood l).ident.length = 0 := by
    unfold encErr decGood
    dsimp only
    rw [if_neg (by omega), if_neg (by omega)]
  refine ⟨he, ?_⟩
  unfold encOf
  rw [if_pos he]
  unfold decGood encAll
  dsimp only
  have hop : (bt l 0 - 192).toNat = (bt l 0).toNat - 192 := by omega
  have h0 : l.take 1 = [UInt8.ofNat (192 + (bt l 0 - 192).toNat)] := by
    have hl : 0 < l.length := by omega
    rw [take_snoc l 0 hl, List.take_zero, List.nil_append]
    congr 1
    apply UInt8.toNat_inj.1
    rw [UInt8.toNat_ofNat', hop]
    have := bt_get l 0 hl
    omega
  have hbody : encBody (Int.toNat ((valB (sl l 3 7) : Nat) : Int)) (bt l 0 - 192).toNat (Int.toNat ((valB (sl l 7 11) : Nat) : Int)) (sl l 11 (decK l + 11)) = l.take (decK l + 11) := by
    unfold encBody
    rw [← h0, hi, Int.toNat_natCast, Int.toNat_natCast]
    have e1 : beB (decK l) 2 = sl l 1 3 := by
      have := beB_valB (sl l 1 3)
      rw [sl_length l 1 3 (by omega)] at this
      exact this
    have e2 : beB (valB (sl l 3 7)) 4 = sl l 3 7 := by
      have := beB_valB (sl l 3 7)
      rw [sl_length l 3 7 (by omega)] at this
      exact this
    have e3 : beB (valB (sl l 7 11)) 4 = sl l 7 11 := by
      have := beB_valB (sl l 7 11)
      rw [sl_length l 7 11 (by omega)] at this
      exact this
    rw [e1, e2, e3, take_sl l 1 3 (by omega), take_sl l 3 7 (by omega), take_sl l 7 11 (by omega), take_sl l 11 _ (by omega)]
  rw [hbody, ← hg]
  have e4 := beB_valB (sl l (decK l + 11) (decK l + 15))
  rw [sl_length l _ _ hs, show decK l + 15 - (decK l + 11) = 4 from by omega] at e4
  rw [e4, take_sl l _ _ (by omega)]


theorem encBody_length (s o n : Nat) (id : List UInt8) : (encBody s o n id).length = id.length + 11 := by simp [encBody, beB_length]; omega
theorem encAll_len (s o n : Nat) (id : List UInt8) : (encAll s o n id).length = id.length + 15 := by
  unfold encAll; rw [List.length_append, encBody_length, beB_length]

/-- what stands where in a record with anything behind it -/
theorem enc_parts (s o n : Nat) (id rest : List UInt8) :
    sl (encAll s o n id ++ rest) 1 3 = beB id.length 2 ∧ sl (encAll s o n id ++ rest) 3 7 = beB s 4 ∧ sl (encAll s o n id ++ rest) 7 11 = beB n 4 ∧
    sl (encAll s o n id ++ rest) 11 (id.length + 11) = id ∧ sl (encAll s o n id ++ rest) (id.length + 11) (id.length + 15) = beB (crc (encBody s o n id)) 4 ∧
    (encAll s o n id ++ rest).take (id.length + 11) = encBody s o n id ∧ bt (encAll s o n id ++ rest) 0 = ((UInt8.ofNat (192 + o)).toNat : Int) := by
  have e : encAll s o n id ++ rest = [UInt8.ofNat (192 + o)] ++ (beB id.length 2 ++ (beB s 4 ++ (beB n 4 ++ (id ++ (beB (crc (encBody s o n id)) 4 ++ rest))))) := by
    simp [encAll, encBody, List.append_assoc]
  refine ⟨?_, ?_, ?_, ?_, ?_, ?_, ?_⟩
  · rw [e]; exact sl_mid _ _ _ 1 3 rfl (by rw [beB_length])
  · rw [e, ← List.append_assoc]; exact sl_mid _ _ _ 3 7 (by simp [beB_length]) (by rw [beB_length])
  · rw [e, ← List.append_assoc, ← List.append_assoc]; exact sl_mid _ _ _ 7 11 (by simp [beB_length]) (by rw [beB_length])
  · rw [e, ← List.append_assoc, ← List.append_assoc, ← List.append_assoc]; exact sl_mid _ _ _ 11 _ (by simp [beB_length]) (by omega)
  · rw [e, ← List.append_assoc, ← List.append_assoc, ← List.append_assoc, ← List.append_assoc]; exact sl_mid _ _ _ _ _ (by simp [beB_length]; omega) (by rw [beB_length])
  · have h := encBody_length s o n id
    unfold encAll
    rw [List.append_assoc, ← h, List.take_left]
  · rw [e]; rw [bt_get _ 0 (by simp)]; rfl

theorem dec_good (l : List UInt8) (hx : bt l 0 = 193 ∨ bt l 0 = 194) (hk : decK l ≤ 4096) (hs : decK l + 15 ≤ l.length) (hg : valB (sl l (decK l + 11) (decK l + 15)) = crc (l.take (decK l + 11))) : dec l = decGood l := by
  unfold dec
  rw [if_neg (by omega), if_neg (by omega), if_neg (by omega), if_neg (by omega), if_neg (by omega), if_neg (by simpa using hg)]

/-- a record that is written is read as it was, whatever stands behind it -/
theorem enc_dec (s o n : Nat) (id rest : List UInt8) (ho : o = 1 ∨ o = 2) (hs : s < 4294967296) (hn : n < 4294967296) (hid : id.length ≤ 4096) :
    dec (encAll s o n id ++ rest) = ⟨s, o, n, id, (id.length + 15 : Nat), 0⟩ := by
  obtain ⟨e1, e2, e3, e4, e5, e6, e7⟩ := enc_parts s o n id rest
  have hk : decK (encAll s o n id ++ rest) = id.length := by unfold decK; rw [e1]; exact valB_beB 2 _ (by omega)
  have hb : bt (encAll s o n id ++ rest) 0 = 192 + (o : Int) := by rw [e7]; rcases ho with rfl | rfl <;> rfl
  have hl : (encAll s o n id ++ rest).length = id.length + 15 + rest.length := by rw [List.length_append, encAll_len]
  have hc := crc_lt (encBody s o n id)
  rw [dec_good _ (by rw [hb]; omega) (by omega) (by omega) (by rw [hk, e5, e6]; exact valB_beB 4 _ hc)]
  unfold decGood
  rw [hk, e2, e3, e4, hb, valB_beB 4 _ hs, valB_beB 4 _ hn]
  congr 1
  omega

/-- of each beginning of it more is awaited -/
theorem enc_cut (s o n : Nat) (id : List UInt8) (ho : o = 1 ∨ o = 2) (hid : id.length ≤ 4096) (k : Nat) (hk : k < id.length + 15) :
    dec ((encAll s o n id).take k) = .none 0 := by
  have hl : ((encAll s o n id).take k).length = k := by rw [List.length_take, encAll_len]; omega
  obtain ⟨e1, _, _, _, _, _, e7⟩ := enc_parts s o n id []
  rw [List.append_nil] at e1 e7
  unfold dec
  by_cases c0 : k = 0
  · rw [if_pos (by omega)]
  · rw [if_neg (by omega)]
    have hb : bt ((encAll s o n id).take k) 0 = 192 + (o : Int) := by
      have : bt ((encAll s o n id).take k) 0 = bt (encAll s o n id) 0 := by
        unfold bt; simp only [List.getD_eq_getElem?_getD]; rw [List.getElem?_take_of_lt (by omega)]
      rw [this, e7]; rcases ho with rfl | rfl <;> rfl
    rw [if_neg (by omega)]
    by_cases c2 : k < 3
    · rw [if_pos (by omega)]
    · rw [if_neg (by omega)]
      have hkk : decK ((encAll s o n id).take k) = id.length := by
        unfold decK
        have : sl ((encAll s o n id).take k) 1 3 = sl (encAll s o n id) 1 3 := by unfold sl; rw [List.take_take, Nat.min_eq_left (by omega)]
        rw [this, e1]; exact valB_beB 2 _ (by omega)
      rw [if_neg (by omega), if_pos (by omega)]

theorem valB_inj (a b : List UInt8) (hl : a.length = b.length) (h : valB a = valB b) : a = b := by
  rw [← beB_valB a, ← beB_valB b, hl, h]

theorem crc_set (m : List UInt8) (i : Nat) (hi : i < m.length) (c : UInt8) (h : crc (m.set i c) = crc m) : c = m[i] := by
  have s1 : m = m.take i ++ m[i] :: m.drop (i + 1) := by rw [← List.drop_eq_getElem_cons hi, List.take_append_drop]
  have s2 : m.set i c = m.take i ++ c :: m.drop (i + 1) := by rw [List.set_eq_take_append_cons_drop, if_pos hi]
  rw [s2] at h
  exact crc_tells _ _ _ _ (h.trans (congrArg crc s1))

/-- a record of which one byte is another isn't read as one of its length -/
theorem enc_tells (s o n : Nat) (id : List UInt8) (at_ : Nat) (c : UInt8) (hat : at_ < id.length + 15) (hc : ¬ (encAll s o n id)[at_]? = some c) :
    ¬ ((dec ((encAll s o n id).set at_ c)).err = 0 ∧ (dec ((encAll s o n id).set at_ c)).n = ((id.length + 15 : Nat) : Int)) := by
  rintro ⟨he, hn⟩
  obtain ⟨_, _, _, _, e5, e6, _⟩ := enc_parts s o n id []
  rw [List.append_nil] at e5 e6
  have hl := encAll_len s o n id
  rcases dec_cases ((encAll s o n id).set at_ c) with h | h | ⟨h, hx, h3, hk, hs, hg⟩
  · rw [h] at hn; simp only [Dec.none] at hn; omega
  · rw [h] at he; simp [Dec.none] at he
  · rw [h] at hn
    have hkk : decK ((encAll s o n id).set at_ c) = id.length := by unfold decGood at hn; dsimp only at hn; omega
    rw [hkk] at hg
    have hlt := crc_lt (encBody s o n id)
    by_cases hc1 : at_ < id.length + 11
    · -- the sum stands as it was: the text is another
      have t1 : sl ((encAll s o n id).set at_ c) (id.length + 11) (id.length + 15) = sl (encAll s o n id) (id.length + 11) (id.length + 15) := by
        unfold sl
        rw [List.take_set, List.drop_set_of_lt hc1]
      have t2 : ((encAll s o n id).set at_ c).take (id.length + 11) = (encBody s o n id).set at_ c := by rw [List.take_set, e6]
      rw [t1, e5, t2, valB_beB 4 _ hlt] at hg
      have hbl : at_ < (encBody s o n id).length := by rw [encBody_length]; exact hc1
      have h2 := crc_set _ at_ hbl c hg.symm
      apply hc
      rw [h2, List.getElem?_eq_getElem (by rw [hl]; exact hat)]
      congr 1
      unfold encAll
      exact List.getElem_append_left hbl
    · -- the text stands as it was: the sum is another
      have t2 : ((encAll s o n id).set at_ c).take (id.length + 11) = encBody s o n id := by
        rw [List.take_set, e6, List.set_eq_of_length_le (by rw [encBody_length]; omega)]
      have t1 : sl ((encAll s o n id).set at_ c) (id.length + 11) (id.length + 15) = (beB (crc (encBody s o n id)) 4).set (at_ - (id.length + 11)) c := by
        unfold encAll sl
        rw [List.set_append_right _ _ (by rw [encBody_length]; omega), encBody_length, List.take_of_length_le (by simp [encBody_length, beB_length])]
        have hb := encBody_length s o n id
        rw [← hb, List.drop_left]
      rw [t1, t2] at hg
      have h3 : valB ((beB (crc (encBody s o n id)) 4).set (at_ - (id.length + 11)) c) = valB (beB (crc (encBody s o n id)) 4) := by rw [hg, valB_beB 4 _ hlt]
      have h4 := valB_inj _ _ (by simp) h3
      apply hc
      have hi : at_ - (id.length + 11) < (beB (crc (encBody s o n id)) 4).length := by rw [beB_length]; omega
      have h5 := congrArg (fun x => x[at_ - (id.length + 11)]?) h4
      simp only [List.getElem?_set_self hi] at h5
      unfold encAll
      rw [List.getElem?_append_right (by rw [encBody_length]; omega), encBody_length, ← h5]
end Go.Proofs.YtheoklhmlnfgjaaGreatDoor
/-
  Is a text among a row of texts?
-/
namespace Go.Proofs.YtheoklhmlnfgjaaGreatDoor
open Go.RowKit

theorem containsS_mem (L : List BS) (x : ByteArray) : Lib.containsS (L.map fun l => (⟨l.toArray⟩ : ByteArray)) x = decide (x.data.toList ∈ L) := by
  rw [Bool.eq_iff_iff, Lib.containsS_iff, decide_eq_true_eq, List.mem_map]
  constructor
  · rintro ⟨l, hl, rfl⟩
    exact hl
  · intro h
    exact ⟨_, h, by cases x; simp⟩

theorem contains_in {p : Option Addr} {n c : Nat} {L : List BS} (x : ByteArray) (w : World) (hn : L.length = n) (hm : n ≤ 8000000000000) (h : InS w p L) :
    Calls Tryz.prog 40 #[.slice p n c, .string x] w fun e w' => e = .returned (.bool (decide (x.data.toList ∈ L))) ∧ w' = w := by
  subst hn
  cases L with
  | nil =>
    refine (Tryz.slices_Contains_string_empty p c x w).mono ?_
    rintro e w' ⟨rfl, rfl⟩
    exact ⟨by simp, rfl⟩
  | cons y r =>
    obtain ⟨b, o, rfl, hall⟩ := InV.at h (k := 0) (by rw [tx_length]; simp)
    have := Tryz.slices_Contains_string b o (y :: r).length c ((y :: r).map fun l => (⟨l.toArray⟩ : ByteArray)) x w (by simp) (by omega) (fun j hj => by
      have hj' : j < (y :: r).length := by simpa using hj
      rw [hall j (by rw [tx_length]; exact hj')]
      simp only [tx, List.getElem_map]
      rw [List.getD_eq_getElem?_getD, List.getElem?_map, List.getElem?_eq_getElem hj']
      rfl)
    rw [List.take_of_length_le (by simp), containsS_mem] at this
    exact this
end Go.Proofs.YtheoklhmlnfgjaaGreatDoor
