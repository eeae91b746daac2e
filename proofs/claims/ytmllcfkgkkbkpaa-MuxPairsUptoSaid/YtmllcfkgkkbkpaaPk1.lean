/-
  A WALK WITHOUT COUNTS BESIDE LEAVERS, ON WHATEVER TAPE.
-/
import Derived.Test.YtmllcfkgkkbkpaaPk0
import Derived.Conc.CrowdStepC2
import Derived.Conc.CrowdSel
import Derived.Conc.CrowdStepW
namespace Go.Proofs.Ytmllcfkgkkbkpaa
open Go Go.Conc
open Go.ConcN (sumTo upd sumTo_upd upd_ne upd_same)

theorem evL_of {F : Nat → Prop} {Shun : Loc → Prop} (hSh : ∀ l, Shun l → ∃ a, l = .cell a ∧ F a.block) {n : Nat} {e : Event} (h : EvOk F n e) : EvL Shun n e := by
  obtain ⟨loc, wr, sy⟩ := e
  unfold EvOk at h
  cases loc with
  | cell a =>
    refine ⟨fun x hx hs => ?_, by simp, by simp, ?_⟩
    · have hl : x.loc = .cell a := by cases wr <;> cases sy <;> simp [MemAct.ofEvent, MemAct.touch?] at hx <;> rw [← hx]
      obtain ⟨a', e, hF⟩ := hSh _ hs
      rw [hl] at e
      cases e
      exact absurd hF h.1
    · cases wr <;> cases sy <;> exact h.2
  | obj r =>
    simp only at h
    obtain ⟨h1, h2⟩ := h
    subst h2
    refine ⟨fun x hx hs => ?_, by simp, by simp, ?_⟩
    · have hl : x.loc = .obj r := by cases sy <;> simp [MemAct.ofEvent, MemAct.touch?] at hx <;> rw [← hx]
      obtain ⟨a', e, hF⟩ := hSh _ hs
      rw [hl] at e
      cases e
    · cases sy <;> exact h1
  | output => cases h
  | goroutines => cases h
  | mark m =>
    simp only at h
    subst h
    refine ⟨fun x hx hs => ?_, by simp, by simp, ?_⟩
    · cases wr <;> cases sy <;> simp [MemAct.ofEvent, MemAct.touch?] at hx
    · cases wr <;> cases sy <;> trivial

section
variable {P : Program} {F : Nat → Prop} {Shun : Loc → Prop} {Stop : Goroutine → World → Prop}
theorem ops_g (g : Nat) (fn : FuncId) (pos : String) (es : Array Event) : ∀ op ∈ MemOp.ofEvents g fn pos es, op.g = g := by
  intro op hop
  rw [ofEvents_eq] at hop
  obtain ⟨e, _, rfl⟩ := Array.mem_map.1 hop
  rfl
/-- What the walk comes to. -/
def Comes2 (P : Program) (Shun : Loc → Prop) (Stop : Goroutine → World → Prop) (gs : Array Goroutine) (w₁ : World) (sl : Option (Nat × Nat)) (t : Trace) : Prop :=
  ∃ (N : Nat) (gs' : Array Goroutine) (a' : Goroutine) (w' : World) (sl' : Option (Nat × Nat)) (t' : Trace) (q' : Nat → Nat),
    runNT P N (crowd gs w₁ sl) t = (.next (crowd gs' w' sl'), t') ∧ gs'.size = gs.size ∧ gs'[0]? = some a' ∧ Stop a' w' ∧ Leavers P t' gs' q' ∧ Past Shun w'.heap.size t'
theorem beside_step (hSh : ∀ l, Shun l → ∃ a, l = .cell a ∧ F a.block) {g : Goroutine} {w : World} (hrun : g.status = .running) (h1 : ∀ w₁, AtRel w w₁ → ∃ g' w' es, stepG P true g w₁ = .go g' w' es ∧ DF F w₁ w' es)
    (h2 : ∀ w₁ g' w' es, AtRel w w₁ → stepG P true g w₁ = .go g' w' es → GoesT P true AtRel (DF F) Stop g' w')
    (ih : ∀ w₁ g' w' es, AtRel w w₁ → stepG P true g w₁ = .go g' w' es → ∀ (M : Nat) (w₂ : World) (gs : Array Goroutine) (sl : Option (Nat × Nat)) (t : Trace) (q : Nat → Nat), AtRel w' w₂ → sumTo gs.size q ≤ M → gs[0]? = some g' → Leavers P t gs q → Past Shun w₂.heap.size t → Comes2 P Shun Stop gs w₂ sl t)
    {M : Nat} (ihM : ∀ k, k < M → ∀ (w₂ : World) (gs : Array Goroutine) (sl : Option (Nat × Nat)) (t : Trace) (q : Nat → Nat), AtRel w w₂ → sumTo gs.size q ≤ k → gs[0]? = some g → Leavers P t gs q → Past Shun w₂.heap.size t → Comes2 P Shun Stop gs w₂ sl t)
    {w₁ : World} {gs : Array Goroutine} {sl : Option (Nat × Nat)} {t : Trace} {q : Nat → Nat} (r : AtRel w w₁) (hM : sumTo gs.size q ≤ M) (h0 : gs[0]? = some g) (hL : Leavers P t gs q) (hP : Past Shun w₁.heap.size t) : Comes2 P Shun Stop gs w₁ sl t := by
  have haw : ∀ x ∈ gs, awake x := by
    intro x hx
    obtain ⟨i, hi, rfl⟩ := Array.mem_iff_getElem.1 hx
    rcases Nat.eq_zero_or_pos i with rfl | hpos
    · have : gs[0] = g := by simpa [Array.getElem?_eq_getElem hi] using h0
      rw [this]; exact awake_of (.inl hrun)
    · exact awake_of ((hL.old i _ hpos (Array.getElem?_eq_getElem hi)).status.elim .inl fun x => .inr (.inr x))
  obtain ⟨i, x, d, sl', hi, hg, hst⟩ := crowd_pick (P := P) (w := w₁) (sl := sl) haw ⟨0, g, h0, hrun⟩
  have rd : AtRel w (w₁.at d) := atRel_trans _ _ _ r ⟨d, rfl⟩
  rcases Nat.eq_zero_or_pos i with rfl | hpos
  · obtain rfl : x = g := by rw [h0] at hi; exact (Option.some.inj hi).symm
    obtain ⟨a', w', es, hgo, hgt, hes⟩ := h1 (w₁.at d) rd
    have hrunT := runT_crowd_go (P := P) (sl := sl') (i := 0) hi (show stepG P (0 == 0) x (w₁.at d) = _ from hgo)
    have hsz : ((gs.map (woken P x a' w')).setIfInBounds 0 a').size = gs.size := by simp
    have hlt : 0 < gs.size := (Array.getElem?_eq_some_iff.1 h0).1
    obtain ⟨N, gs', a'', w'', sl'', t', q', hr, hs', h0', hS, hL', hP'⟩ := ih (w₁.at d) a' w' es rd hgo (sumTo gs.size q) w' ((gs.map (woken P x a' w')).setIfInBounds 0 a') sl' (t ++ MemOp.ofEvents 0 x.frame.fn x.frame.place es) q (atRel_refl w') (by rw [hsz]; exact Nat.le_refl _) (by simp [hlt])
      ⟨fun j y hj hx => by
        have hne : 0 ≠ j := by omega
        rw [Array.getElem?_setIfInBounds_ne hne, Array.getElem?_map] at hx
        obtain ⟨y', hy, rfl⟩ := Option.map_eq_some_iff.1 hx
        have hq := hL.old j y' hj hy
        rw [woken_quitsD hq, Deaf_other t (by omega) _ (ops_g _ _ _ _)]
        exact hq, fun j hj => by
        rw [Deaf_other t (g' := 0) (by simp at hj; omega) _ (ops_g _ _ _ _)]
        exact hL.above j (by simpa using hj)⟩
      ((hP.mono hgt.size).own fun e he => evL_of hSh (hes e he))
    exact ⟨N + 1, gs', a'', w'', sl'', t', q', by simp only [runNT, hst, hrunT]; exact hr, hs'.trans hsz, h0', hS, hL', hP'⟩
  · have hq := hL.old i x hpos hi
    have hi0 : (i == 0) = false := by simp; omega
    have hlt : i < gs.size := (Array.getElem?_eq_some_iff.1 hi).1
    cases hqi : q i with
    | zero => rw [hqi] at hq; rw [hq.1] at hg; cases hg
    | succ k =>
      rw [hqi] at hq
      rcases hq with ⟨hf, _⟩ | ⟨_, g', es, hm, hstp, hq'⟩
      · rw [hf] at hg; cases hg
      have hrunT := runT_crowd_go (P := P) (sl := sl') (i := i) hi (by rw [hi0]; exact hstp (w₁.at d))
      have hsz : ((gs.map (woken P x g' (w₁.at d))).setIfInBounds i g').size = gs.size := by simp
      have hsum : sumTo gs.size (upd q i k) + (k + 1) = sumTo gs.size q + k := by
        have := sumTo_upd q k id hlt
        simpa [hqi] using this
      obtain ⟨N, gs', a'', w'', sl'', t', q', hr, hs', h0', hS, hL', hP'⟩ := ihM (sumTo gs.size (upd q i k)) (by omega) (w₁.at d) ((gs.map (woken P x g' (w₁.at d))).setIfInBounds i g') sl' (t ++ MemOp.ofEvents i x.frame.fn x.frame.place es) (upd q i k) rd (by rw [hsz]; exact Nat.le_refl _)
        (by
          have hne : i ≠ 0 := by omega
          rw [Array.getElem?_setIfInBounds_ne hne, Array.getElem?_map, h0]
          simp [woken_run hrun])
        ⟨fun j y hj hx => by
          by_cases hji : i = j
          · subst hji
            rw [Array.getElem?_setIfInBounds_self_of_lt (by simpa using hlt)] at hx
            obtain rfl := Option.some.inj hx
            rw [upd_same, Deaf_own]
            exact hq'
          · rw [Array.getElem?_setIfInBounds_ne hji, Array.getElem?_map] at hx
            obtain ⟨y', hy, rfl⟩ := Option.map_eq_some_iff.1 hx
            have hqj := hL.old j y' hj hy
            rw [woken_quitsD hqj, upd_ne q k (Ne.symm hji), Deaf_other t hji _ (ops_g _ _ _ _)]
            exact hqj, fun j hj => by
          rw [Deaf_other t (g' := i) (by simp at hj; omega) _ (ops_g _ _ _ _)]
          exact hL.above j (by simpa using hj)⟩
        (hP.mute (by omega) hm)
      exact ⟨N + 1, gs', a'', w'', sl'', t', q', by simp only [runNT, hst, hrunT]; exact hr, hs'.trans hsz, h0', hS, hL', hP'⟩
theorem walk_besideT (hSh : ∀ l, Shun l → ∃ a, l = .cell a ∧ F a.block) {a : Goroutine} {w : World} (h : GoesT P true AtRel (DF F) Stop a w) :
    ∀ (M : Nat) (w₁ : World) (gs : Array Goroutine) (sl : Option (Nat × Nat)) (t : Trace) (q : Nat → Nat), AtRel w w₁ → sumTo gs.size q ≤ M → gs[0]? = some a → Leavers P t gs q → Past Shun w₁.heap.size t →
      Comes2 P Shun Stop gs w₁ sl t := by
  induction h with
  | stop hs => exact fun M w₁ gs sl t q r _ h0 hL hP => ⟨0, gs, _, w₁, sl, t, q, rfl, rfl, h0, hs w₁ r, hL, hP⟩
  | own hrun h1 h2 ih =>
    rename_i g w
    intro M
    induction M with
    | zero =>
      intro w₁ gs sl t q r hM h0 hL hP
      exact beside_step hSh hrun h1 h2 ih (fun k hk => by omega) r hM h0 hL hP
    | succ M ihM =>
      intro w₁ gs sl t q r hM h0 hL hP
      exact beside_step hSh hrun h1 h2 ih (fun k hk w₂ gs sl t q r hq h0 hL hP => ihM w₂ gs sl t q r (by omega) h0 hL hP) r hM h0 hL hP
end
end Go.Proofs.Ytmllcfkgkkbkpaa
/-
  A PHASE: workers that send their things each on a channel of its own, by a select with a channel 'quit', close their channel and say Done; their starter receives, closes 'quit' and waits. WHAT HOLDS AT EVERY MOMENT.
-/
namespace Go.Proofs.Ytmllcfkgkkbkpaa
open Go Go.Conc
open Go.ConcN (sumTo upd sumTo_upd upd_ne upd_same CT RelBy WD WgLive OkW Ok0 Apart PermW get_map_set get_map_set_same)
open Go.ConcR (KK wgBlock WgAt stA smA rd wr mk DC0)

/-! ### a worker, from its end backwards -/
/-- What a worker suffers. -/
structure RWk (ty : TypeId) (Wg : Nat) (K : Nat → Prop) (w w₁ : World) : Prop where
  still : ∀ b, K b → w₁.heap[b]? = w.heap[b]?
  live : WgLive ty Wg w → WgLive ty Wg w₁
theorem RWk.refl {ty : TypeId} {Wg : Nat} {K : Nat → Prop} (w : World) : RWk ty Wg K w w := ⟨fun _ _ => rfl, id⟩
theorem RWk.trans {ty : TypeId} {Wg : Nat} {K : Nat → Prop} (a b c : World) (h : RWk ty Wg K a b) (k : RWk ty Wg K b c) : RWk ty Wg K a c := ⟨fun x hx => (k.still x hx).trans (h.still x hx), k.live ∘ h.live⟩
theorem RWk.at {ty : TypeId} {Wg : Nat} {K : Nat → Prop} (w : World) (d : Nat) : RWk ty Wg K w (w.at d) := ⟨fun _ _ => rfl, id⟩
/-- What it does on its way: it reads still cells. -/
def DWk (K : Nat → Prop) (w w' : World) (es : Array Event) : Prop := w' = w ∧ ∀ e ∈ es, ∃ a, e = ⟨.cell a, false, false⟩ ∧ K a.block
/-- .. or it turns blocks of its own. -/
structure DWq (K O : Nat → Prop) (w w' : World) (es : Array Event) : Prop where
  out : ∀ b, ¬ O b → w'.heap[b]? = w.heap[b]?
  size : w'.heap.size = w.heap.size
  tame : ∀ b o, O b → w'.heap[b]? = some o → w.heap[b]? = some o ∨ objTame o = true
  tape : w'.tape = w.tape
  os : w'.os = w.os
  output : w'.output = w.output
  ev : ∀ e ∈ es, (∃ a, e = ⟨.cell a, false, false⟩ ∧ K a.block) ∨ ∃ a wr, e = ⟨.cell a, wr, false⟩ ∧ O a.block
theorem DWk.q {K O : Nat → Prop} {w w' : World} {es : Array Event} (h : DWk K w w' es) : DWq K O w w' es := by
  obtain ⟨rfl, h⟩ := h
  exact ⟨fun _ _ => rfl, rfl, fun _ _ _ h => .inl h, rfl, rfl, rfl, fun e he => .inl (h e he)⟩
theorem goesWeak {P : Program} {main : Bool} {R : World → World → Prop} {D D' : World → World → Array Event → Prop} {Stop Stop' : Goroutine → World → Prop} (hD : ∀ a b es, D a b es → D' a b es) (hS : ∀ g w, Stop g w → Stop' g w) : ∀ {n : Nat} {g : Goroutine} {w : World}, Goes P main R D Stop n g w → Goes P main R D' Stop' n g w
  | 0, _, _, h => fun w₁ r => hS _ _ (h w₁ r)
  | n + 1, g, w, h => by
    rcases h with h | ⟨hs, h⟩
    · exact .inl fun w₁ r => hS _ _ (h w₁ r)
    · refine .inr ⟨hs, fun w₁ r => ?_⟩
      obtain ⟨g', w', es, e, hd, hg⟩ := goes_elim (h w₁ r)
      rw [e]
      simp only [goes_go]
      exact ⟨hD _ _ _ hd, goesWeak hD hS hg⟩
/-- What stands still for it: what nobody turns, and its own blocks. -/
def kO (K O : Nat → Prop) : Nat → Prop := fun b => K b ∨ O b
def noO : Nat → Prop := fun _ => False
theorem kO_no {K : Nat → Prop} : kO K noO = K := by funext b; simp [kO, noO]

section
variable (P : Program) (ty : TypeId) (Wg q c : Nat) (K : Nat → Prop) (z z' : Value)
def WD4 (g : Goroutine) (w : World) : Prop :=
  g.status = .running ∧ mayWake P g = true ∧ (WgAt ty Wg w 0 0 → ∃ g', stepG P false g w = .go g' (w.setCell (smA Wg) (.int .u32 1)) (semEvents (smA Wg)) ∧ ∃ q, QuitsD P q 1 g')
def WD3 (g : Goroutine) (w : World) : Prop :=
  g.status = .running ∧ (WgAt ty Wg w 1 0 → ∃ g', stepG P false g w = .go g' (w.setCell (stA Wg) (.int .u64 0)) #[wr (stA Wg)] ∧ ∃ m, Goes P false (RWk ty Wg K) DC0 (WD4 P ty Wg) m g' (w.setCell (stA Wg) (.int .u64 0)))
def WD2 (g : Goroutine) (w : World) : Prop :=
  g.status = .running ∧ (WgAt ty Wg w 1 0 → ∃ g', stepG P false g w = .go g' w #[rd (stA Wg)] ∧ ∃ m, Goes P false (RWk ty Wg K) DC0 (WD3 P ty Wg K) m g' w)
def WD1 (g : Goroutine) (w : World) : Prop :=
  g.status = .running ∧ ∀ v wt : Nat, wt ≤ 1 → v < 2147483647 → WgAt ty Wg w ((v + 1) * KK + wt) 0 →
    ∃ g', stepG P false g w = .go g' (w.setCell (stA Wg) (.int .u64 (v * KK + wt))) #[rd (stA Wg), wr (stA Wg)] ∧
      ((v = 0 ∧ wt = 1) → ∃ m, Goes P false (RWk ty Wg K) DC0 (WD2 P ty Wg K) m g' (w.setCell (stA Wg) (.int .u64 (v * KK + wt)))) ∧ (¬ (v = 0 ∧ wt = 1) → ∃ q, QuitsD P q 1 g')
def WK1 (g : Goroutine) (w : World) : Prop :=
  g.status = .running ∧ ∃ g', stepG P false g w = .go g' w #[mk .disable] ∧ ∃ m, Goes P false (RWk ty Wg K) DC0 (WD1 P ty Wg K) m g' w
def WR0 (g : Goroutine) (w : World) : Prop :=
  g.status = .running ∧ ∃ g', stepG P false g w = .go g' w #[mk (.releaseMerge (stA Wg))] ∧ ∃ m, Goes P false (RWk ty Wg K) DC0 (WK1 P ty Wg K) m g' w
def WCl (g : Goroutine) (w : World) : Prop :=
  g.status = .running ∧ ∀ s r, w.heap[c]? = some (.chan 0 #[] false s r false) → ∃ g', stepG P false g w = .go g' (w.setChan c 0 #[] true s r false) #[⟨.obj c, false, true⟩, ⟨.obj c, true, true⟩] ∧
    ∃ m, Goes P false (RWk ty Wg K) DC0 (WR0 P ty Wg K) m g' (w.setChan c 0 #[] true s r false)
def selCases (v : Value) : Array CommCase := #[scase c v z, rcase q z']
def WSelG (v : Value) (Nx : (Nat → Prop) → Goroutine → World → Prop) (O : Nat → Prop) (g : Goroutine) (w : World) : Prop :=
  g.status = .running ∧ stepG P false g w = .comm (core g) (selCases q c z z' v) true .select w #[] ∧
    (∀ w₂, RWk ty Wg (kO K O) w w₂ → Nx O ((core g).finishComm P (selCases q c z z' v) .select 0 undef false) w₂) ∧
    (∀ w₂, RWk ty Wg (kO K O) w w₂ → ∃ m, Goes P false (RWk ty Wg (kO K O)) (DWq K O) (WCl P ty Wg c (kO K O)) m ((core g).finishComm P (selCases q c z z' v) .select 1 z' false) w₂)
/-- It makes a block of its own ahead of the select. -/
def WAlG (al : Bool) (v : Value) (Nx : (Nat → Prop) → Goroutine → World → Prop) (O : Nat → Prop) (g : Goroutine) (w : World) : Prop :=
  g.status = .running ∧ al = true ∧ ∃ ob g', objTame ob = true ∧ stepG P false g w = .go g' (w.alloc ob) #[] ∧
    ∃ m, m ≤ 100 ∧ Goes P false (RWk ty Wg (kO K fun b => O b ∨ b = w.heap.size)) (DWq K fun b => O b ∨ b = w.heap.size) (WSelG P ty Wg q c K z z' v Nx fun b => O b ∨ b = w.heap.size) m g' (w.alloc ob)
def WNext (al : Bool) : List Value → (Nat → Prop) → Goroutine → World → Prop
  | [], O => fun g w => ∃ m, Goes P false (RWk ty Wg (kO K O)) (DWq K O) (WCl P ty Wg c (kO K O)) m g w
  | v :: vs, O => fun g w => (∃ m, Goes P false (RWk ty Wg (kO K O)) (DWq K O) (WSelG P ty Wg q c K z z' v (WNext al vs) O) m g w) ∨ ∃ m, Goes P false (RWk ty Wg (kO K O)) (DWq K O) (WAlG P ty Wg q c K z z' al v (WNext al vs) O) m g w

/-- Where a worker stands: stage, fuel, how deaf. -/
inductive Sit (al : Bool) (O : Nat → Prop) (rem : List Value) (closed : Bool) : Nat → Nat → Nat → Goroutine → World → Prop
  | walk {m : Nat} {g : Goroutine} {w : World} {v : Value} {vs : List Value} : rem = v :: vs → Goes P false (RWk ty Wg (kO K O)) (DWq K O) (WSelG P ty Wg q c K z z' v (WNext P ty Wg q c K z z' al vs) O) m g w → Sit al O rem closed 9 (m + 1) 0 g w
  | make {m : Nat} {g : Goroutine} {w : World} {v : Value} {vs : List Value} : rem = v :: vs → Goes P false (RWk ty Wg (kO K O)) (DWq K O) (WAlG P ty Wg q c K z z' al v (WNext P ty Wg q c K z z' al vs) O) m g w → Sit al O rem closed 9 (m + 200) 0 g w
  | park {g : Goroutine} {w : World} {v : Value} {vs : List Value} : rem = v :: vs → closed = false → (∀ w₁, RWk ty Wg (kO K O) w w₁ → WSelG P ty Wg q c K z z' v (WNext P ty Wg q c K z z' al vs) O g w₁) → Sit al O rem closed 9 0 0 (parked (core g) (selCases q c z z' v) .select) w
  | shut {m : Nat} {g : Goroutine} {w : World} : Goes P false (RWk ty Wg (kO K O)) (DWq K O) (WCl P ty Wg c (kO K O)) m g w → Sit al O rem closed 8 m 0 g w
  | r0 {m : Nat} {g : Goroutine} {w : World} : Goes P false (RWk ty Wg (kO K O)) DC0 (WR0 P ty Wg (kO K O)) m g w → Sit al O rem closed 7 m 0 g w
  | k1 {m : Nat} {g : Goroutine} {w : World} : Goes P false (RWk ty Wg (kO K O)) DC0 (WK1 P ty Wg (kO K O)) m g w → Sit al O rem closed 6 m 0 g w
  | d1 {m : Nat} {g : Goroutine} {w : World} : Goes P false (RWk ty Wg (kO K O)) DC0 (WD1 P ty Wg (kO K O)) m g w → Sit al O rem closed 5 m 1 g w
  | d2 {m : Nat} {g : Goroutine} {w : World} : Goes P false (RWk ty Wg (kO K O)) DC0 (WD2 P ty Wg (kO K O)) m g w → Sit al O rem closed 4 m 1 g w
  | d3 {m : Nat} {g : Goroutine} {w : World} : Goes P false (RWk ty Wg (kO K O)) DC0 (WD3 P ty Wg (kO K O)) m g w → Sit al O rem closed 3 m 1 g w
  | d4 {m : Nat} {g : Goroutine} {w : World} : Goes P false (RWk ty Wg (kO K O)) DC0 (WD4 P ty Wg) m g w → Sit al O rem closed 2 m 1 g w
  | quit {m d : Nat} {g : Goroutine} {w : World} : QuitsD P m d g → Sit al O rem closed 1 m d g w
end

section
variable {P : Program} {ty : TypeId} {Wg q c : Nat} {K O : Nat → Prop} {z z' : Value} {al : Bool} {rem : List Value} {closed : Bool} {s m d : Nat} {g : Goroutine} {w w₁ : World}
theorem Sit.rely (h : Sit P ty Wg q c K z z' al O rem closed s m d g w) (r : RWk ty Wg (kO K O) w w₁) : Sit P ty Wg q c K z z' al O rem closed s m d g w₁ := by
  cases h with
  | walk e h => exact .walk e (h.rely RWk.trans r)
  | make e h => exact .make e (h.rely RWk.trans r)
  | park e e' h => exact .park e e' fun w₂ r₂ => h w₂ (r.trans _ _ _ r₂)
  | shut h => exact .shut (h.rely RWk.trans r)
  | r0 h => exact .r0 (h.rely RWk.trans r)
  | k1 h => exact .k1 (h.rely RWk.trans r)
  | d1 h => exact .d1 (h.rely RWk.trans r)
  | d2 h => exact .d2 (h.rely RWk.trans r)
  | d3 h => exact .d3 (h.rely RWk.trans r)
  | d4 h => exact .d4 (h.rely RWk.trans r)
  | quit h => exact .quit h
/-- It stands there, whatever may be made. -/
theorem WNext.wide : ∀ (vs : List Value) {O : Nat → Prop} {g : Goroutine} {w : World}, WNext P ty Wg q c K z z' false vs O g w → WNext P ty Wg q c K z z' al vs O g w
  | [], _, _, _, h => h
  | v :: vs, O, g, w, h => by
    have sel : ∀ g w, WSelG P ty Wg q c K z z' v (WNext P ty Wg q c K z z' false vs) O g w → WSelG P ty Wg q c K z z' v (WNext P ty Wg q c K z z' al vs) O g w := fun g w ⟨h1, h2, h3, h4⟩ => ⟨h1, h2, fun w₂ r => WNext.wide vs (h3 w₂ r), h4⟩
    rcases h with ⟨m, h⟩ | ⟨m, h⟩
    · exact .inl ⟨m, goesWeak (fun _ _ _ x => x) sel h⟩
    · exact .inr ⟨m, goesWeak (fun _ _ _ x => x) (fun g w ⟨_, h, _⟩ => by cases h) h⟩
theorem WSelG.wide {v : Value} {vs : List Value} (h : WSelG P ty Wg q c K z z' v (WNext P ty Wg q c K z z' false vs) O g w) : WSelG P ty Wg q c K z z' v (WNext P ty Wg q c K z z' al vs) O g w :=
  let ⟨h1, h2, h3, h4⟩ := h
  ⟨h1, h2, fun w₂ r => WNext.wide vs (h3 w₂ r), h4⟩
theorem Sit.wide (h : Sit P ty Wg q c K z z' false O rem closed s m d g w) : Sit P ty Wg q c K z z' al O rem closed s m d g w := by
  cases h with
  | walk e h => exact .walk e (goesWeak (fun _ _ _ x => x) (fun _ _ x => x.wide) h)
  | make e h => exact .make e (goesWeak (fun _ _ _ x => x) (fun g w ⟨_, h, _⟩ => by cases h) h)
  | park e e' h => exact .park e e' fun w₂ r₂ => (h w₂ r₂).wide
  | shut h => exact .shut h
  | r0 h => exact .r0 h
  | k1 h => exact .k1 h
  | d1 h => exact .d1 h
  | d2 h => exact .d2 h
  | d3 h => exact .d3 h
  | d4 h => exact .d4 h
  | quit h => exact .quit h
theorem Sit.status (h : Sit P ty Wg q c K z z' al O rem closed s m d g w) : g.status = .running ∨ (s = 9 ∧ m = 0 ∧ closed = false ∧ g.status = .blocked) ∨ (s = 1 ∧ g.status = .finished) := by
  cases h with
  | walk e h => exact .inl (Goes.running (fun _ _ x => x.1) w (RWk.refl w) h)
  | make e h => exact .inl (Goes.running (fun _ _ x => x.1) w (RWk.refl w) h)
  | park e e' h => exact .inr (.inl ⟨rfl, rfl, e', rfl⟩)
  | shut h => exact .inl (Goes.running (fun _ _ x => x.1) w (RWk.refl w) h)
  | r0 h => exact .inl (Goes.running (fun _ _ x => x.1) w (RWk.refl w) h)
  | k1 h => exact .inl (Goes.running (fun _ _ x => x.1) w (RWk.refl w) h)
  | d1 h => exact .inl (Goes.running (fun _ _ x => x.1) w (RWk.refl w) h)
  | d2 h => exact .inl (Goes.running (fun _ _ x => x.1) w (RWk.refl w) h)
  | d3 h => exact .inl (Goes.running (fun _ _ x => x.1) w (RWk.refl w) h)
  | d4 h => exact .inl (Goes.running (fun _ _ x => x.1) w (RWk.refl w) h)
  | quit h => exact h.status.elim .inl fun x => .inr (.inr ⟨rfl, x⟩)
theorem Sit.awake (h : Sit P ty Wg q c K z z' al O rem closed s m d g w) : awake g := by
  intro t
  rcases h.status with h | ⟨_, _, _, h⟩ | ⟨_, h⟩ <;> rw [h] <;> simp
theorem selCases_get0 (v : Value) : (selCases q c z z' v)[0]? = some (scase c v z) := rfl
theorem selCases_get1 (v : Value) : (selCases q c z z' v)[1]? = some (rcase q z') := rfl
theorem mem_selCases {v : Value} {cc : CommCase} (h : cc ∈ selCases q c z z' v) : cc = scase c v z ∨ cc = rcase q z' := by
  simpa [selCases] using h
theorem again_sel_open {v : Value} {g : Goroutine} {s r s' r' : Nat} (hc : w.heap[c]? = some (.chan 0 #[] false s r false)) (hq : w.heap[q]? = some (.chan 0 #[] false s' r' false)) :
    (parked g (selCases q c z z' v) .select).again w = parked g (selCases q c z z' v) .select := by
  simp [Goroutine.again, parked, selCases, scase, rcase, hc, hq]
theorem again_sel_shut {v : Value} {g : Goroutine} {s' r' : Nat} (hq : w.heap[q]? = some (.chan 0 #[] true s' r' false)) :
    (parked g (selCases q c z z' v) .select).again w = { parked g (selCases q c z z' v) .select with status := .running } := by
  simp [Goroutine.again, parked, selCases, scase, rcase, hq]
/-- Others' steps leave it where it stands, while 'quit' stands as it stood. -/
theorem Sit.woken (h : Sit P ty Wg q c K z z' al O rem closed s m d g w) {a a' : Goroutine} {s1 r1 s2 r2 : Nat} (hc : s = 9 → w₁.heap[c]? = some (.chan 0 #[] false s1 r1 false)) (hq : closed = false → s = 9 → w₁.heap[q]? = some (.chan 0 #[] false s2 r2 false)) :
    woken P a a' w₁ g = g := by
  have run : g.status = .running → Conc.woken P a a' w₁ g = g := fun hr => woken_run hr
  rcases h.status with h1 | ⟨_, _, _, h1⟩ | ⟨_, h1⟩
  · exact run h1
  · cases h with
    | park e e' h =>
      unfold Conc.woken
      split
      · exact again_sel_open (hc rfl) (hq e' rfl)
      · rfl
    | walk e h => exact run (Goes.running (fun _ _ x => x.1) w (RWk.refl w) h)
    | make e h => exact run (Goes.running (fun _ _ x => x.1) w (RWk.refl w) h)
    | shut h => exact run (Goes.running (fun _ _ x => x.1) w (RWk.refl w) h)
    | r0 h => exact run (Goes.running (fun _ _ x => x.1) w (RWk.refl w) h)
    | k1 h => exact run (Goes.running (fun _ _ x => x.1) w (RWk.refl w) h)
    | d1 h => exact run (Goes.running (fun _ _ x => x.1) w (RWk.refl w) h)
    | d2 h => exact run (Goes.running (fun _ _ x => x.1) w (RWk.refl w) h)
    | d3 h => exact run (Goes.running (fun _ _ x => x.1) w (RWk.refl w) h)
    | d4 h => exact run (Goes.running (fun _ _ x => x.1) w (RWk.refl w) h)
    | quit h => exact woken_quitsD h
  · unfold Conc.woken
    split
    · exact again_running _ (.inr h1)
    · rfl
/-- One that is only leaving, whatever the phase. -/
theorem Sit.old (h : Sit P ty Wg q c K z z' al O rem closed s m d g w) (e : s = 1) {ty' : TypeId} {Wg' q' c' : Nat} {K' O' : Nat → Prop} {z2 z2' : Value} {al' : Bool} {rem' : List Value} {closed' : Bool} {w' : World} : Sit P ty' Wg' q' c' K' z2 z2' al' O' rem' closed' s m d g w' := by
  cases h with
  | quit h => exact .quit h
  | _ => simp at e
/-- A goroutine that has been let try again stands where it stood. -/
theorem WSelG.again {v : Value} {Nx : (Nat → Prop) → Goroutine → World → Prop} {cs : Array CommCase} {sh : CommShape} (h : WSelG P ty Wg q c K z z' v Nx O g w) : WSelG P ty Wg q c K z z' v Nx O { parked (core g) cs sh with status := .running } w := by
  obtain ⟨h1, h2, h3, h4⟩ := h
  refine ⟨rfl, ?_, h3, h4⟩
  rw [show stepG P false { parked (core g) cs sh with status := .running } w = stepG P false g w from stepG_same rfl rfl rfl w]
  exact h2

/-! ### what holds at every moment -/
inductive Tag
  | idle
  | opn (p : Bool)
  | w3
  | blk
  | fin
structure Ph where
  F : Nat → Prop
  lay : Nat → Option Obj
  SW : Nat → Prop
  K : Nat → Nat → Prop
  ch : Nat → Nat
  rem : Nat → List Value
  first : Nat
  n : Nat
  quit : Nat
  Wg : Nat
  closed : Bool
  tag : Tag
  d0 : Nat
  vb : Nat
  room : Nat
  al : Bool
def cntD (d : WD) : Nat := if 5 ≤ d.stage then 1 else 0
def Vd (N : Nat) (D : Nat → WD) : Nat := sumTo N fun i => cntD (D i)
def Sd (N : Nat) (D : Nat → WD) : Nat := sumTo N fun i => (D i).stage
def Fd (N : Nat) (D : Nat → WD) : Nat := sumTo N fun i => (D i).fuel
def OpenD (N : Nat) (D : Nat → WD) : Prop := ∀ i, i < N → 5 ≤ (D i).stage ∨ (D i).stage = 1
def AllD (N : Nat) (D : Nat → WD) : Prop := ∀ i, i < N → (D i).stage = 1
def isW (t : Tag) : Prop := t = .w3 ∨ t = .blk
inductive ModeD (N : Nat) (D : Nat → WD) : Tag → Int → Int → Prop
  | idle {st sm : Int} : AllD N D → ModeD N D .idle st sm
  | opn {p : Bool} {st : Int} : OpenD N D → st = ((Vd N D + p.toNat : Nat) : Int) * KK → ModeD N D (.opn p) st 0
  | reg {tag : Tag} {st : Int} : isW tag → OpenD N D → 1 ≤ Vd N D → st = ((Vd N D : Nat) : Int) * KK + 1 → ModeD N D tag st 0
  | last {tag : Tag} {st : Int} (L : Nat) : isW tag → L < N → ((D L).stage = 4 ∨ (D L).stage = 3 ∨ (D L).stage = 2) → (∀ i, i < N → i ≠ L → (D i).stage = 1) → st = (if (D L).stage = 2 then 0 else 1) → ModeD N D tag st 0
  | sema : AllD N D → ModeD N D .w3 0 1
  | fin : AllD N D → ModeD N D .fin 0 0
end

def ShW (SW : Nat → Prop) : Loc → Prop := fun l => ∃ a, l = .cell a ∧ SW a.block
def RdK (K : Nat → Nat → Prop) (ch : Nat → Nat) : Nat → Loc → Prop := fun k l => (∃ a, l = .cell a ∧ K k a.block) ∨ l = .obj (ch k)
/-- What the workers own. -/
def OwL (Ow : Nat → Nat → Prop) : Nat → Loc → Prop := fun k l => ∃ a, l = .cell a ∧ Ow k a.block
structure OwOk (σ : Ph) (Ow : Nat → Nat → Prop) (N n : Nat) : Prop where
  lt : ∀ i b, Ow i b → b < n
  idx : ∀ i b, Ow i b → i < N
  F : ∀ i b, Ow i b → σ.F b
  lay : ∀ i b, Ow i b → ¬ (σ.lay b).isSome = true
  sw : ∀ i b, Ow i b → ¬ σ.SW b
  ch : ∀ i b j, Ow i b → 0 < j → j < N → b ≠ σ.ch j
  q : σ.tag ≠ .idle → ∀ i b, Ow i b → b ≠ σ.quit
  wne : ∀ i b, Ow i b → b ≠ σ.Wg
  inj : ∀ i j b, Ow i b → Ow j b → i = j
  wide : σ.al = true → ∀ x, n ≤ x → σ.F x
theorem OwOk.re {σ σ' : Ph} {Ow : Nat → Nat → Prop} {N n : Nat} (h : OwOk σ Ow N n) (hF : σ'.F = σ.F) (hl : σ'.lay = σ.lay) (hS : σ'.SW = σ.SW) (hc : σ'.ch = σ.ch) (hq : σ'.tag ≠ .idle → σ.tag ≠ .idle) (hqq : σ'.quit = σ.quit) (hw : σ'.Wg = σ.Wg) (ha : σ'.al = σ.al) : OwOk σ' Ow N n :=
  ⟨h.lt, h.idx, by rw [hF]; exact h.F, by rw [hl]; exact h.lay, by rw [hS]; exact h.sw, by rw [hc]; exact h.ch, fun t => by rw [hqq]; exact h.q (hq t), by rw [hw]; exact h.wne, h.inj, by rw [ha, hF]; exact h.wide⟩
theorem OwOk.mono {σ : Ph} {Ow : Nat → Nat → Prop} {N n n' : Nat} (h : OwOk σ Ow N n) (hn : n ≤ n') : OwOk σ Ow N n' :=
  { h with lt := fun i b hb => Nat.lt_of_lt_of_le (h.lt i b hb) hn, wide := fun ha x hx => h.wide ha x (Nat.le_trans hn hx) }
/-- All that it did to memory happened before something of goroutine 0's. -/
def Handed (t : Trace) (k : Nat) : Prop := ∀ i, t.g? i = some k → t.counts i → ∃ j, t.g? j = some 0 ∧ HappensBefore t i j

section
variable (P : Program) (ty : TypeId) (z z' : Value)
structure WI (σ : Ph) (Ow : Nat → Nat → Prop) (gs : Array Goroutine) (w : World) (D : Nat → WD) (st sm : Int) : Prop where
  pos : 0 < σ.first
  le : σ.first ≤ gs.size
  zero : D 0 = ⟨1, 0, 0⟩
  sit : ∀ i, 0 < i → i < gs.size → ∃ g, gs[i]? = some g ∧ Sit P ty σ.Wg σ.quit (σ.ch i) (σ.K i) z z' σ.al (Ow i) (σ.rem i) σ.closed (D i).stage (D i).fuel (D i).deaf g w
  old : ∀ i, 0 < i → i < σ.first → (D i).stage = 1
  chan : ∀ i, σ.first ≤ i → i < gs.size → ∃ s r, w.heap[σ.ch i]? = some (.chan 0 #[] (decide ((D i).stage < 8)) s r false)
  quit : σ.tag ≠ .idle → w.heap[σ.quit]? = some (.chan 0 #[] σ.closed 0 0 false)
  wg : σ.tag ≠ .idle → WgAt ty σ.Wg w st sm
  mode : ModeD gs.size D σ.tag st sm
  vb : Vd gs.size D ≤ σ.vb
  still : σ.closed = false → ∀ i, σ.first ≤ i → i < gs.size → σ.rem i ≠ [] → (D i).stage = 9
  none : σ.tag = .idle → σ.first = gs.size
  room : gs.size + σ.room < 2147483647
  size : gs.size = σ.first + σ.n
  fch : ∀ i, σ.first ≤ i → i < gs.size → σ.F (σ.ch i)
  fq : σ.tag ≠ .idle → σ.F σ.quit
  fw : σ.tag ≠ .idle → σ.F σ.Wg
  inj : ∀ i j, σ.first ≤ i → i < gs.size → σ.first ≤ j → j < gs.size → σ.ch i = σ.ch j → i = j
  chq : ∀ i, σ.first ≤ i → i < gs.size → σ.ch i ≠ σ.quit
  chw : ∀ i, σ.first ≤ i → i < gs.size → σ.ch i ≠ σ.Wg
  qw : σ.tag ≠ .idle → σ.quit ≠ σ.Wg
  klay : ∀ i b, σ.K i b → (σ.lay b).isSome = true
  layF : ∀ b, (σ.lay b).isSome = true → σ.F b
  layat : ∀ b o, σ.lay b = some o → w.heap[b]? = some o
  layq : σ.tag ≠ .idle → ∀ b, (σ.lay b).isSome = true → b ≠ σ.quit ∧ b ≠ σ.Wg
  laych : ∀ i b, σ.first ≤ i → i < gs.size → (σ.lay b).isSome = true → b ≠ σ.ch i
structure TI (σ : Ph) (Ow : Nat → Nat → Prop) (N : Nat) (t : Trace) (n : Nat) (D : Nat → WD) : Prop where
  ct : CT (ShW σ.SW) (OwL Ow) (RdK σ.K σ.ch) t (N - 1)
  low : ∀ op ∈ t, op.act.low n
  d0 : Deaf t 0 = σ.d0
  dw : ∀ i, 0 < i → i < N → Deaf t i = (D i).deaf
  nrel : ∀ op ∈ t, ∀ a, op.act ≠ .mark (.release a)
  handed : ∀ i, 0 < i → i < σ.first → Handed t i
  rel : ∀ i, σ.first ≤ i → i < N → (D i).stage ≤ 6 → ∃ r, RelBy (stA σ.Wg) t i r
  swF : ∀ b, σ.SW b → σ.F b
  swW : σ.tag ≠ .idle → σ.SW σ.Wg
  apart : ∀ k b, σ.K k b → ¬ σ.SW b
  layF : ∀ b, (σ.lay b).isSome = true → σ.F b
  klay : ∀ i b, σ.K i b → (σ.lay b).isSome = true
  chF : ∀ i, 0 < i → i < N → σ.F (σ.ch i)
  pos : 0 < σ.first
  ow : OwOk σ Ow N n
  swn : ∀ b, σ.SW b → b < n
  layn : ∀ b, (σ.lay b).isSome = true → b < n
  qwn : σ.tag ≠ .idle → σ.quit < n ∧ σ.Wg < n
  chn : ∀ i, 0 < i → i < N → σ.ch i < n
def Inv (σ : Ph) (gs : Array Goroutine) (t : Trace) (w : World) (D : Nat → WD) : Prop := ∃ Ow : Nat → Nat → Prop, (∃ st sm, WI P ty z z' σ Ow gs w D st sm) ∧ TI σ Ow gs.size t w.heap.size D
end

section
variable {P : Program} {ty : TypeId} {z z' : Value} {σ : Ph} {Ow : Nat → Nat → Prop} {gs : Array Goroutine} {t : Trace} {w w' : World} {D : Nat → WD} {st sm : Int}
theorem WI.at (h : WI P ty z z' σ Ow gs w D st sm) (d : Nat) : WI P ty z z' σ Ow gs (w.at d) D st sm :=
  { h with sit := fun i h0 h1 => let ⟨g, hg, hs⟩ := h.sit i h0 h1; ⟨g, hg, hs.rely (RWk.at w d)⟩ }
theorem Inv.at (h : Inv P ty z z' σ gs t w D) (d : Nat) : Inv P ty z z' σ gs t (w.at d) D := let ⟨Ow, ⟨st, sm, x⟩, y⟩ := h; ⟨Ow, ⟨st, sm, x.at d⟩, y⟩
theorem TI.apartK {N n : Nat} (h : TI σ Ow N t n D) : Apart (ShW σ.SW) (OwL Ow) (RdK σ.K σ.ch) := by
  refine ⟨fun k k' l h1 h2 => ?_, fun k k' l h1 hr => ?_, fun k l h1 hs => ?_, fun k l hr hs => ?_⟩
  · obtain ⟨a, e, h1⟩ := h1
    obtain ⟨a', e', h2⟩ := h2
    subst e; cases e'
    exact h.ow.inj k k' _ h1 h2
  · obtain ⟨a, e, h1⟩ := h1
    subst e
    rcases hr with ⟨a', e', h2⟩ | e'
    · cases e'
      exact h.ow.lay k _ h1 (h.klay k' _ h2)
    · cases e'
  · obtain ⟨a, e, h1⟩ := h1
    obtain ⟨a', e', hs⟩ := hs
    subst e; cases e'
    exact h.ow.sw k _ h1 hs
  · obtain ⟨a', e', hs⟩ := hs
    rcases hr with ⟨a, e, hk⟩ | e
    · subst e; cases e'; exact h.apart k _ hk hs
    · rw [e] at e'; cases e'
end
end Go.Proofs.Ytmllcfkgkkbkpaa
/-
  A PHASE: THE TRACE, as it grows.
-/
namespace Go.Proofs.Ytmllcfkgkkbkpaa
open Go Go.Conc
open Go.ConcN (sumTo upd sumTo_upd upd_ne upd_same CT RelBy WD WgLive OkW Ok0 Apart PermW)
open Go.ConcR (KK wgBlock WgAt stA smA rd wr mk DC0)

theorem counts_touch {t : Trace} {i : Nat} (h : t.counts i) : ∃ op b, t[i]? = some op ∧ op.act.touch? = some b := by
  obtain ⟨x, hx, _⟩ := h
  obtain ⟨op, h1, h2⟩ := touch_of hx
  exact ⟨op, x, h1, h2⟩
theorem Handed.app {t u : Trace} {k : Nat} (h : Handed t k) (hu : ∀ op ∈ u, op.g = k → op.act.touch? = none) : Handed (t ++ u) k := by
  intro i hg hc
  obtain ⟨op, b, h1, h2⟩ := counts_touch hc
  rcases getElem?_append_cases h1 with ⟨hi, h1'⟩ | ⟨_, hou⟩
  · obtain ⟨j, hj, hb⟩ := h i (by rw [← g?_old (u := u) hi]; exact hg) ((counts_old hi).1 hc)
    have hjl : j < t.size := by
      unfold Trace.g? at hj
      obtain ⟨y, hy, _⟩ := Option.map_eq_some_iff.1 hj
      exact lt_size_of_getElem? hy
    exact ⟨j, by rw [g?_old hjl]; exact hj, hb_app u hb⟩
  · have hk : op.g = k := by simpa [Trace.g?, h1] using hg
    rw [hu op hou hk] at h2
    cases h2
theorem relBy_appNone {a : Addr} {t u : Trace} {k r : Nat} (h : RelBy a t k r) (hu : ∀ op ∈ u, op.g = k → op.act.touch? = none) : RelBy a (t ++ u) k r := by
  refine h.app fun i hi hg hc => ?_
  obtain ⟨op, b, h1, h2⟩ := counts_touch hc
  rcases getElem?_append_cases h1 with ⟨hlt, _⟩ | ⟨_, hou⟩
  · omega
  · have hk : op.g = k := by simpa [Trace.g?, h1] using hg
    rw [hu op hou hk] at h2
    cases h2
theorem ct_none1 {Sh : Loc → Prop} {Own Rd : Nat → Loc → Prop} {t : Trace} {j : Nat} (A : Apart Sh Own Rd) (h : CT Sh Own Rd t j) {y : MemOp} (hy : y.g ≤ j) (hn : y.act.touch? = none) : CT Sh Own Rd (t ++ #[y]) j := by
  rcases Nat.eq_zero_or_pos y.g with h0 | hp
  · exact h.app0 A fun op hop => by
      simp only [List.mem_toArray, List.mem_singleton] at hop
      subst hop
      exact ⟨h0, fun x hx => by rw [hn] at hx; cases hx⟩
  · exact h.appW A hp hy fun op hop => by
      simp only [List.mem_toArray, List.mem_singleton] at hop
      subst hop
      exact ⟨rfl, fun x hx => by rw [hn] at hx; cases hx⟩
theorem ct_none {Sh : Loc → Prop} {Own Rd : Nat → Loc → Prop} {j : Nat} (A : Apart Sh Own Rd) : ∀ (u : List MemOp) {t : Trace}, CT Sh Own Rd t j → (∀ y ∈ u, y.g ≤ j ∧ y.act.touch? = none) → CT Sh Own Rd (t ++ u.toArray) j
  | [], t, h, _ => by simpa using h
  | y :: u, t, h, hu => by
    have e : t ++ (y :: u).toArray = (t ++ #[y]) ++ u.toArray := by apply Array.ext'; simp
    rw [e]
    exact ct_none A u (ct_none1 A h (hu y (by simp)).1 (hu y (by simp)).2) fun x hx => hu x (by simp [hx])
/-- The families say the same of those that are started. -/
theorem ct_congr {Sh : Loc → Prop} {Own Rd Rd' : Nat → Loc → Prop} {t : Trace} {j : Nat} (h : CT Sh Own Rd t j) (e : ∀ k, 1 ≤ k → k ≤ j → ∀ l, Rd' k l ↔ Rd k l) : CT Sh Own Rd' t j :=
  ⟨h.quiet, h.own, fun k k1 kj l hl => h.rd k k1 kj l ((e k k1 kj l).1 hl), fun l hs hl => h.free l hs fun k k1 kj => ⟨(hl k k1 kj).1, fun x => (hl k k1 kj).2 ((e k k1 kj l).2 x)⟩, h.mine, h.nr, h.gs⟩
/-- More places are shunned, which nobody has touched. -/
theorem ct_shun {Sh Sh' : Loc → Prop} {Own Rd : Nat → Loc → Prop} {t : Trace} {j : Nat} (h : CT Sh Own Rd t j) (hs : ∀ l, Sh l → Sh' l) (hn : ∀ op ∈ t, ∀ x, op.act.touch? = some x → Sh' x.loc → Sh x.loc) : CT Sh' Own Rd t j :=
  ⟨fun i op x hi hx hs' => h.quiet i op x hi hx (hn op (Array.mem_of_getElem? hi) x hx hs'), h.own, h.rd, fun l hl => h.free l fun x => hl (hs l x), fun l hl => h.mine l fun x => hl (hs l x), h.nr, h.gs⟩

theorem touch_low {op : MemOp} {n : Nat} {x : Touch} {a : Addr} (h : op.act.low n) (hx : op.act.touch? = some x) (ha : x.loc = .cell a) : a.block < n := by
  obtain ⟨_, _, _, act⟩ := op
  simp only at h hx
  cases act with
  | access e =>
    simp only [MemAct.touch?, Option.some.injEq] at hx
    subst hx
    simp only at ha
    have h' : e.loc.low n := h
    rw [ha] at h'
    exact h'
  | mark m =>
    cases m <;> simp only [MemAct.touch?] at hx <;> cases hx
    all_goals
      simp only [Loc.cell.injEq] at ha
      subst ha
      exact h
  | _ => cases hx
/-- Somebody owns more places, which nobody has touched. -/
theorem ct_own {Sh : Loc → Prop} {Own Own' Rd : Nat → Loc → Prop} {t : Trace} {j : Nat} (h : CT Sh Own Rd t j) (ho : ∀ k l, Own k l → Own' k l) (hn : ∀ k l, Own' k l → ¬ Own k l → ∀ op ∈ t, ∀ x, op.act.touch? = some x → x.loc ≠ l) : CT Sh Own' Rd t j := by
  refine ⟨h.quiet, fun k k1 kj l hl => ?_, h.rd, fun l hs hl => h.free l hs fun k k1 kj => ⟨fun x => (hl k k1 kj).1 (ho k l x), (hl k k1 kj).2⟩, fun l hs hl => h.mine l hs fun k k1 kj x => hl k k1 kj (ho k l x), h.nr, h.gs⟩
  by_cases hx : Own k l
  · exact h.own k k1 kj l hx
  · intro i a ha hal
    obtain ⟨op, h1, h2⟩ := touch_of ha
    exact absurd hal (hn k l hl hx op (Array.mem_of_getElem? h1) a h2)

/-- What an operation without a touch and without a word that counts is. -/
structure Plain0 (N n : Nat) (op : MemOp) : Prop where
  g : op.g < N
  touch : op.act.touch? = none
  dis : op.act ≠ .mark .disable
  ena : op.act ≠ .mark .enable
  rel : ∀ a, op.act ≠ .mark (.release a)
  low : op.act.low n
theorem Deaf_plain (t : Trace) (g : Nat) : ∀ (u : List MemOp), (∀ op ∈ u, op.act ≠ .mark .disable ∧ op.act ≠ .mark .enable) → Deaf (t ++ u.toArray) g = Deaf t g := by
  intro u hu
  rw [Deaf_append]
  generalize Deaf t g = d
  induction u with
  | nil => rfl
  | cons y u ih =>
    rw [List.foldl_cons]
    have hy := hu y (by simp)
    have e : deafStep g d y = d := by
      unfold deafStep
      split
      · rename_i h; exact absurd h hy.1
      · rename_i h; exact absurd h hy.2
      · rfl
    rw [e]
    exact ih fun op hop => hu op (by simp [hop])

section
variable {P : Program} {ty : TypeId} {z z' : Value} {σ : Ph} {Ow : Nat → Nat → Prop} {gs : Array Goroutine} {t : Trace} {w w' : World} {D : Nat → WD} {N n n' : Nat}
theorem TI.mono (h : TI σ Ow N t n D) (hn : n ≤ n') : TI σ Ow N t n' D := { h with low := fun op hop => MemAct.low_mono hn (h.low op hop), ow := h.ow.mono hn, swn := fun b hb => Nat.lt_of_lt_of_le (h.swn b hb) hn, layn := fun b hb => Nat.lt_of_lt_of_le (h.layn b hb) hn, qwn := fun ht => ⟨Nat.lt_of_lt_of_le (h.qwn ht).1 hn, Nat.lt_of_lt_of_le (h.qwn ht).2 hn⟩, chn := fun i i0 hi => Nat.lt_of_lt_of_le (h.chn i i0 hi) hn }
/-- A step of worker i. -/
theorem TI.stepW (h : TI σ Ow N t n D) {i : Nat} (h0 : 0 < i) (hi : i < N) {fn : FuncId} {pos : String} {es : Array Event} {x : WD} (hn : n ≤ n')
    (hok : ∀ op ∈ MemOp.ofEvents i fn pos es, OkW (ShW σ.SW) (OwL Ow) (RdK σ.K σ.ch) i op) (hlow : ∀ e ∈ es, (MemAct.ofEvent e).low n') (hnr : ∀ e ∈ es, ∀ a, e.loc ≠ .mark (.release a))
    (hd : deafBehind (D i).deaf es = x.deaf) (hrel : σ.first ≤ i → x.stage ≤ 6 → ∃ r, RelBy (stA σ.Wg) (t ++ MemOp.ofEvents i fn pos es) i r)
    (hold : i < σ.first → ∀ e ∈ es, (MemAct.ofEvent e).touch? = none) : TI σ Ow N (t ++ MemOp.ofEvents i fn pos es) n' (upd D i x) := by
  have hg : ∀ op ∈ MemOp.ofEvents i fn pos es, op.g = i := ops_g i fn pos es
  refine ⟨h.ct.appW h.apartK h0 (by omega) hok, seen_app (h.mono hn).low fun op hop => ?_, by rw [Deaf_other t (by omega) _ hg]; exact h.d0, fun j j0 jN => ?_, fun op hop a e => ?_, fun j j0 jf => (h.handed j j0 jf).app fun op hop hgj => ?_, fun j jf jN js => ?_, h.swF, h.swW, h.apart, h.layF, h.klay, h.chF, h.pos, h.ow.mono hn, (h.mono hn).swn, (h.mono hn).layn, (h.mono hn).qwn, (h.mono hn).chn⟩
  · obtain ⟨e, he, rfl⟩ := Go.Conc.mem_ofEvents hop
    exact hlow e he
  · by_cases e : j = i
    · subst e; rw [Deaf_own, h.dw j j0 jN, upd_same]; exact hd
    · rw [Deaf_other t (fun x => e x.symm) _ hg, upd_ne D _ e]; exact h.dw j j0 jN
  · rcases Array.mem_append.1 hop with hop | hop
    · exact h.nrel op hop a e
    · obtain ⟨ev, he, rfl⟩ := Go.Conc.mem_ofEvents hop
      obtain ⟨loc, wr, sy⟩ := ev
      cases loc with
      | mark m =>
        simp only [MemAct.ofEvent, MemAct.mark.injEq] at e
        exact hnr _ he a (by rw [e])
      | obj r => cases wr <;> cases sy <;> simp [MemAct.ofEvent] at e
      | _ => simp [MemAct.ofEvent] at e
  · have : j = i := hgj.symm.trans (hg op hop)
    subst this
    obtain ⟨e, he, rfl⟩ := Go.Conc.mem_ofEvents hop
    exact hold jf e he
  · by_cases e : j = i
    · subst e; rw [upd_same] at js; exact hrel jf js
    · rw [upd_ne D _ e] at js
      obtain ⟨r, hr⟩ := h.rel j jf jN js
      exact ⟨r, hr.appOther hg (fun x => e x.symm)⟩
/-- A step of goroutine 0's. -/
theorem TI.step0 (h : TI σ Ow N t n D) {fn : FuncId} {pos : String} {es : Array Event} {d' : Nat} (hn : n ≤ n')
    (hok : ∀ op ∈ MemOp.ofEvents 0 fn pos es, Ok0 (ShW σ.SW) (OwL Ow) (RdK σ.K σ.ch) (N - 1) op) (hlow : ∀ e ∈ es, (MemAct.ofEvent e).low n') (hnr : ∀ e ∈ es, ∀ a, e.loc ≠ .mark (.release a))
    (hd : deafBehind σ.d0 es = d') : TI { σ with d0 := d' } Ow N (t ++ MemOp.ofEvents 0 fn pos es) n' D := by
  have hg : ∀ op ∈ MemOp.ofEvents 0 fn pos es, op.g = 0 := ops_g 0 fn pos es
  refine ⟨h.ct.app0 h.apartK hok, seen_app (h.mono hn).low fun op hop => ?_, by rw [Deaf_own, h.d0]; exact hd, fun j j0 jN => ?_, fun op hop a e => ?_, fun j j0 jf => (h.handed j j0 jf).app fun op hop hgj => ?_, fun j jf jN js => ?_, h.swF, h.swW, h.apart, h.layF, h.klay, h.chF, h.pos, ⟨(h.ow.mono hn).lt, h.ow.idx, h.ow.F, h.ow.lay, h.ow.sw, h.ow.ch, h.ow.q, h.ow.wne, h.ow.inj, (h.ow.mono hn).wide⟩, (h.mono hn).swn, (h.mono hn).layn, (h.mono hn).qwn, (h.mono hn).chn⟩
  · obtain ⟨e, he, rfl⟩ := Go.Conc.mem_ofEvents hop
    exact hlow e he
  · rw [Deaf_other t (by omega) _ hg]; exact h.dw j j0 jN
  · rcases Array.mem_append.1 hop with hop | hop
    · exact h.nrel op hop a e
    · obtain ⟨ev, he, rfl⟩ := Go.Conc.mem_ofEvents hop
      obtain ⟨loc, wr, sy⟩ := ev
      cases loc with
      | mark m =>
        simp only [MemAct.ofEvent, MemAct.mark.injEq] at e
        exact hnr _ he a (by rw [e])
      | obj r => cases wr <;> cases sy <;> simp [MemAct.ofEvent] at e
      | _ => simp [MemAct.ofEvent] at e
  · have := hg op hop; omega
  · obtain ⟨r, hr⟩ := h.rel j jf jN js
    refine ⟨r, hr.appOther hg (fun x => ?_)⟩
    have h1 : σ.first ≤ j := jf
    have := h.pos
    omega
/-- A worker's new block, which nobody has touched. -/
theorem TI.make (h : TI σ Ow N t n D) {i : Nat} (hi : i < N) (hal : σ.al = true) (hni : σ.tag ≠ .idle) : TI σ (fun j b => Ow j b ∨ (j = i ∧ b = n)) N t (n + 1) D := by
  have hF : σ.F n := h.ow.wide hal n (Nat.le_refl _)
  have hlayN : ∀ b, (σ.lay b).isSome = true → b < n := h.layn
  refine { h.mono (Nat.le_succ n) with ct := ct_own h.ct (fun _ _ ⟨a, e, ho⟩ => ⟨a, e, .inl ho⟩) fun k l ⟨a, e, ho⟩ hno op hop x hx e2 => ?_, ow := ⟨fun j b hb => ?_, fun j b hb => ?_, fun j b hb => ?_, fun j b hb => ?_, fun j b hb => ?_, fun j b k hb k0 hk => ?_, fun ht j b hb => ?_, fun j b hb => ?_, fun j k b hb hb' => ?_, fun ha x hx => h.ow.wide ha x (by omega)⟩ }
  · rcases ho with ho | ⟨_, e3⟩
    · exact hno ⟨a, e, ho⟩
    · have := touch_low (h.low op hop) hx (e2.trans e)
      omega
  · rcases hb with hb | ⟨_, rfl⟩
    · have := h.ow.lt j b hb; omega
    · omega
  · rcases hb with hb | ⟨rfl, _⟩
    · exact h.ow.idx j b hb
    · exact hi
  · rcases hb with hb | ⟨_, rfl⟩
    · exact h.ow.F j b hb
    · exact hF
  · rcases hb with hb | ⟨_, rfl⟩
    · exact h.ow.lay j b hb
    · exact fun hl => by have := hlayN _ hl; omega
  · rcases hb with hb | ⟨_, rfl⟩
    · exact h.ow.sw j b hb
    · exact fun hs => by have := h.swn _ hs; omega
  · rcases hb with hb | ⟨_, rfl⟩
    · exact h.ow.ch j b k hb k0 hk
    · have := h.chn k k0 hk; omega
  · rcases hb with hb | ⟨_, rfl⟩
    · exact h.ow.q ht j b hb
    · have := h.qwn hni; omega
  · rcases hb with hb | ⟨_, rfl⟩
    · exact h.ow.wne j b hb
    · have := h.qwn hni; omega
  · rcases hb with hb | ⟨rfl, rfl⟩
    · rcases hb' with hb' | ⟨_, rfl⟩
      · exact h.ow.inj j k b hb hb'
      · have := h.ow.lt j _ hb; omega
    · rcases hb' with hb' | ⟨rfl, _⟩
      · have := h.ow.lt k _ hb'; omega
      · rfl
/-- Operations that touch nothing, of whomever. -/
theorem TI.plain (h : TI σ Ow N t n D) {u : List MemOp} (hu : ∀ op ∈ u, Plain0 N n op) {D' : Nat → WD} (hd : ∀ i, 0 < i → i < N → (D' i).deaf = (D i).deaf) (hs : ∀ i, σ.first ≤ i → i < N → (D' i).stage ≤ 6 → (D i).stage ≤ 6) : TI σ Ow N (t ++ u.toArray) n D' := by
  have hdf : ∀ g, Deaf (t ++ u.toArray) g = Deaf t g := fun g => Deaf_plain t g u fun op hop => ⟨(hu op hop).dis, (hu op hop).ena⟩
  refine ⟨ct_none h.apartK u h.ct fun y hy => ⟨by have := (hu y hy).g; omega, (hu y hy).touch⟩, seen_app h.low fun op hop => (hu op (by simpa using hop)).low, (hdf 0).trans h.d0, fun j j0 jN => (hdf j).trans ((h.dw j j0 jN).trans (hd j j0 jN).symm), fun op hop a e => ?_,
    fun j j0 jf => (h.handed j j0 jf).app fun op hop _ => (hu op (by simpa using hop)).touch, fun j jf jN js => ?_, h.swF, h.swW, h.apart, h.layF, h.klay, h.chF, h.pos, h.ow, h.swn, h.layn, h.qwn, h.chn⟩
  · rcases Array.mem_append.1 hop with hop | hop
    · exact h.nrel op hop a e
    · exact (hu op (by simpa using hop)).rel a e
  · obtain ⟨r, hr⟩ := h.rel j jf jN (hs j jf jN js)
    exact ⟨r, relBy_appNone hr fun op hop _ => (hu op (by simpa using hop)).touch⟩
end
end Go.Proofs.Ytmllcfkgkkbkpaa
/-
  A PHASE: A STEP OF ANOTHER GOROUTINE THAN THE STARTER keeps what holds.
-/
namespace Go.Proofs.Ytmllcfkgkkbkpaa
open Go Go.Conc
open Go.ConcN (sumTo upd sumTo_upd upd_ne upd_same CT RelBy WD WgLive OkW Ok0 Apart PermW get_map_set get_map_set_same)
open Go.ConcR (KK wgBlock WgAt stA smA rd wr mk DC0)

section
variable {P : Program} {ty : TypeId} {z z' : Value} {σ : Ph} {Ow Ow' : Nat → Nat → Prop} {gs : Array Goroutine} {t : Trace} {w w' : World} {D : Nat → WD} {st sm st' sm' : Int} {tag' : Tag}
theorem Vd_upd {N i : Nat} (D : Nat → WD) (x : WD) (hi : i < N) : Vd N (upd D i x) + cntD (D i) = Vd N D + cntD x := sumTo_upd D x cntD hi
theorem Sd_upd {N i : Nat} (D : Nat → WD) (x : WD) (hi : i < N) : Sd N (upd D i x) + (D i).stage = Sd N D + x.stage := sumTo_upd D x WD.stage hi
theorem Fd_upd {N i : Nat} (D : Nat → WD) (x : WD) (hi : i < N) : Fd N (upd D i x) + (D i).fuel = Fd N D + x.fuel := sumTo_upd D x WD.fuel hi
theorem chan_fun {s r s' r' cap cap' : Nat} {b b' : Array Value} {c c' tm tm' : Bool} {o : Option Obj} (h : o = some (.chan cap b c s r tm)) (h' : o = some (.chan cap' b' c' s' r' tm')) : c = c' ∧ s = s' ∧ r = r' := by
  rw [h] at h'
  simp only [Option.some.injEq, Obj.chan.injEq] at h'
  exact ⟨h'.2.2.1, h'.2.2.2.1, h'.2.2.2.2.1⟩

/-- The world's part, whatever goroutine i (a worker) has done. -/
theorem wi_setR (h : WI P ty z z' σ Ow gs w D st sm) {i : Nat} (h0 : 0 < i) (hi : i < gs.size) {g' : Goroutine} {x : WD} {gs' : Array Goroutine} {rem' : Nat → List Value} (hrem : ∀ k, k ≠ i → rem' k = σ.rem k) (hsz : gs'.size = gs.size) (hgi : gs'[i]? = some g') (hgj : ∀ j, 0 < j → j < gs.size → j ≠ i → gs'[j]? = gs[j]?)
    (hO : ∀ j, j ≠ i → Ow' j = Ow j) (hoth : ∀ j b, j ≠ i → Ow j b → w'.heap[b]? = w.heap[b]?) (hstill : ∀ b, (σ.lay b).isSome = true → w'.heap[b]? = w.heap[b]?) (hlive : WgLive ty σ.Wg w → WgLive ty σ.Wg w')
    (hs' : Sit P ty σ.Wg σ.quit (σ.ch i) (σ.K i) z z' σ.al (Ow' i) (rem' i) σ.closed x.stage x.fuel x.deaf g' w')
    (hchan : ∀ j, σ.first ≤ j → j < gs.size → j ≠ i → w'.heap[σ.ch j]? = w.heap[σ.ch j]?) (hchi : σ.first ≤ i → ∃ s r, w'.heap[σ.ch i]? = some (.chan 0 #[] (decide (x.stage < 8)) s r false))
    (hquit : σ.tag ≠ .idle → w'.heap[σ.quit]? = w.heap[σ.quit]?) (hwg : σ.tag ≠ .idle → WgAt ty σ.Wg w' st' sm') (hmode : ModeD gs.size (upd D i x) tag' st' sm') (htag : tag' = .idle ↔ σ.tag = .idle)
    (hvb : cntD x ≤ cntD (D i)) (hold : i < σ.first → x.stage = 1) (hopen : σ.closed = false → σ.first ≤ i → rem' i ≠ [] → x.stage = 9) :
    WI P ty z z' { σ with tag := tag', rem := rem' } Ow' gs' w' (upd D i x) st' sm' := by
  have hni : tag' ≠ .idle → σ.tag ≠ .idle := fun x y => x (htag.2 y)
  refine ⟨h.pos, by rw [hsz]; exact h.le, by rw [upd_ne D _ (by omega)]; exact h.zero, fun j j0 hj => ?_, fun j j0 hj => ?_, fun j j0 hj => ?_, fun ht => (hquit (hni ht)).trans (h.quit (hni ht)), fun ht => hwg (hni ht), by rw [hsz]; exact hmode, ?_, fun hc j j0 hj hr => ?_,
    fun e => by rw [hsz]; exact h.none (htag.1 e), by rw [hsz]; exact h.room, by rw [hsz]; exact h.size, fun j j0 hj => h.fch j j0 (hsz ▸ hj), fun ht => h.fq (hni ht), fun ht => h.fw (hni ht), fun a b a0 ha b0 hb => h.inj a b a0 (hsz ▸ ha) b0 (hsz ▸ hb), fun j j0 hj => h.chq j j0 (hsz ▸ hj), fun j j0 hj => h.chw j j0 (hsz ▸ hj), fun ht => h.qw (hni ht),
    h.klay, h.layF, fun b o hb => (hstill b (by rw [hb]; rfl)).trans (h.layat b o hb), fun ht => h.layq (hni ht), fun j b j0 hj => h.laych j b j0 (hsz ▸ hj)⟩
  · rw [hsz] at hj
    by_cases e : i = j
    · subst e
      exact ⟨g', hgi, by rw [upd_same]; exact hs'⟩
    · obtain ⟨y, hy, hs⟩ := h.sit j j0 hj
      refine ⟨y, by rw [hgj j j0 hj (fun x => e x.symm), hy], ?_⟩
      rw [upd_ne D _ (fun x => e x.symm)]
      show Sit P ty σ.Wg σ.quit (σ.ch j) (σ.K j) z z' σ.al (Ow' j) (rem' j) σ.closed _ _ _ y w'
      rw [hrem j (fun x => e x.symm), hO j (fun x => e x.symm)]
      exact hs.rely ⟨fun b hb => hb.elim (fun hb => hstill b (h.klay j b hb)) fun hb => hoth j b (fun x => e x.symm) hb, hlive⟩
  · have hj' : j < σ.first := hj
    by_cases e : i = j
    · subst e; rw [upd_same]; exact hold hj'
    · rw [upd_ne D _ (fun x => e x.symm)]; exact h.old j j0 hj'
  · rw [hsz] at hj
    have j0' : σ.first ≤ j := j0
    by_cases e : i = j
    · subst e; rw [upd_same]; exact hchi j0'
    · rw [upd_ne D _ (fun x => e x.symm)]
      obtain ⟨s, r, hc⟩ := h.chan j j0' hj
      exact ⟨s, r, (hchan j j0' hj (fun x => e x.symm)).trans hc⟩
  · rw [hsz]
    have := Vd_upd D x hi
    have := h.vb
    show _ ≤ σ.vb
    omega
  · rw [hsz] at hj
    have j0' : σ.first ≤ j := j0
    by_cases e : i = j
    · subst e; rw [upd_same]; exact hopen hc j0' hr
    · rw [upd_ne D _ (fun x => e x.symm)]
      refine h.still hc j j0' hj ?_
      rw [← hrem j (fun x => e x.symm)]
      exact hr
theorem wi_set (h : WI P ty z z' σ Ow gs w D st sm) {i : Nat} (h0 : 0 < i) (hi : i < gs.size) {g' : Goroutine} {x : WD} {gs' : Array Goroutine} (hsz : gs'.size = gs.size) (hgi : gs'[i]? = some g') (hgj : ∀ j, 0 < j → j < gs.size → j ≠ i → gs'[j]? = gs[j]?)
    (hO : ∀ j, j ≠ i → Ow' j = Ow j) (hoth : ∀ j b, j ≠ i → Ow j b → w'.heap[b]? = w.heap[b]?) (hstill : ∀ b, (σ.lay b).isSome = true → w'.heap[b]? = w.heap[b]?) (hlive : WgLive ty σ.Wg w → WgLive ty σ.Wg w')
    (hs' : Sit P ty σ.Wg σ.quit (σ.ch i) (σ.K i) z z' σ.al (Ow' i) (σ.rem i) σ.closed x.stage x.fuel x.deaf g' w')
    (hchan : ∀ j, σ.first ≤ j → j < gs.size → j ≠ i → w'.heap[σ.ch j]? = w.heap[σ.ch j]?) (hchi : σ.first ≤ i → ∃ s r, w'.heap[σ.ch i]? = some (.chan 0 #[] (decide (x.stage < 8)) s r false))
    (hquit : σ.tag ≠ .idle → w'.heap[σ.quit]? = w.heap[σ.quit]?) (hwg : σ.tag ≠ .idle → WgAt ty σ.Wg w' st' sm') (hmode : ModeD gs.size (upd D i x) tag' st' sm') (htag : tag' = .idle ↔ σ.tag = .idle)
    (hvb : cntD x ≤ cntD (D i)) (hold : i < σ.first → x.stage = 1) (hopen : σ.closed = false → σ.first ≤ i → σ.rem i ≠ [] → x.stage = 9) :
    WI P ty z z' { σ with tag := tag' } Ow' gs' w' (upd D i x) st' sm' :=
  wi_setR h h0 hi (rem' := σ.rem) (fun _ _ => rfl) hsz hgi hgj hO hoth hstill hlive hs' hchan hchi hquit hwg hmode htag hvb hold hopen
/-- Nobody is let try again but the starter, where the channels stand. -/
theorem woken_rest (h : WI P ty z z' σ Ow gs w D st sm) {i : Nat} {g g' : Goroutine} (hchan : ∀ j, σ.first ≤ j → j < gs.size → j ≠ i → w'.heap[σ.ch j]? = w.heap[σ.ch j]?) (hquit : σ.tag ≠ .idle → w'.heap[σ.quit]? = w.heap[σ.quit]?) :
    ∀ j, 0 < j → j < gs.size → j ≠ i → ((gs.map (woken P g g' w')).setIfInBounds i g')[j]? = gs[j]? := by
  intro j j0 hj hji
  obtain ⟨y, hy, hs⟩ := h.sit j j0 hj
  have hw : woken P g g' w' y = y := by
    by_cases hf : σ.first ≤ j
    · obtain ⟨s, r, hc⟩ := h.chan j hf hj
      have hne : σ.tag ≠ .idle := fun e' => by have := h.none e'; omega
      refine hs.woken (s1 := s) (r1 := r) (s2 := 0) (r2 := 0) (fun e9 => ?_) fun ec _ => ?_
      · rw [hchan j hf hj hji, hc, e9]; rfl
      · rw [hquit hne, h.quit hne, ec]
    · have e1 := h.old j j0 (by omega)
      exact hs.woken (s1 := 0) (r1 := 0) (s2 := 0) (r2 := 0) (fun e9 => by omega) fun _ e9 => by omega
  rw [get_map_set _ _ _ _ (fun x => hji x.symm), hy, Option.map_some, hw]
/-- What another's step leaves: the machine behind it. -/
structure Went (P : Program) (ty : TypeId) (z z' : Value) (σ : Ph) (gs : Array Goroutine) (t : Trace) (w : World) (sl : Option (Nat × Nat)) (D : Nat → WD) (a : Goroutine) (i : Nat) (gs' : Array Goroutine) (w' : World) (ops : Array MemOp) (D' : Nat → WD) (a' : Goroutine) (tag' : Tag) : Prop where
  run : runT P (crowd gs w sl) i = (.next (crowd gs' w' sl), ops)
  inv : Inv P ty z z' { σ with tag := tag' } gs' (t ++ ops) w' D'
  rf : RF σ.F w w'
  main : gs'[0]? = some a'
  less : Sd gs.size D' < Sd gs.size D ∨ (Sd gs.size D' = Sd gs.size D ∧ Fd gs.size D' < Fd gs.size D)
  size : gs'.size = gs.size
/-- A '.go' step of goroutine i. -/
theorem went_go (h : WI P ty z z' σ Ow gs w D st sm) (hT : TI σ Ow' gs.size t w'.heap.size D) {a : Goroutine} (ha : gs[0]? = some a) {i : Nat} (h0 : 0 < i) (hi : i < gs.size) {g g' : Goroutine} (hg : gs[i]? = some g) {es : Array Event} (hgo : stepG P false g w = .go g' w' es) {x : WD} {sl : Option (Nat × Nat)}
    (hRF : RF σ.F w w') (hO : ∀ j, j ≠ i → Ow' j = Ow j) (hoth : ∀ j b, j ≠ i → Ow j b → w'.heap[b]? = w.heap[b]?) (hstill : ∀ b, (σ.lay b).isSome = true → w'.heap[b]? = w.heap[b]?) (hlive : WgLive ty σ.Wg w → WgLive ty σ.Wg w')
    (hs' : Sit P ty σ.Wg σ.quit (σ.ch i) (σ.K i) z z' σ.al (Ow' i) (σ.rem i) σ.closed x.stage x.fuel x.deaf g' w')
    (hchan : ∀ j, σ.first ≤ j → j < gs.size → j ≠ i → w'.heap[σ.ch j]? = w.heap[σ.ch j]?) (hchi : σ.first ≤ i → ∃ s r, w'.heap[σ.ch i]? = some (.chan 0 #[] (decide (x.stage < 8)) s r false))
    (hquit : σ.tag ≠ .idle → w'.heap[σ.quit]? = w.heap[σ.quit]?) (hwg : σ.tag ≠ .idle → WgAt ty σ.Wg w' st' sm') (hmode : ModeD gs.size (upd D i x) tag' st' sm') (htag : tag' = .idle ↔ σ.tag = .idle)
    (hvb : cntD x ≤ cntD (D i)) (hold : i < σ.first → x.stage = 1) (hopen : σ.closed = false → σ.first ≤ i → σ.rem i ≠ [] → x.stage = 9)
    (hok : ∀ op ∈ MemOp.ofEvents i g.frame.fn g.frame.place es, OkW (ShW σ.SW) (OwL Ow') (RdK σ.K σ.ch) i op) (hlow : ∀ e ∈ es, (MemAct.ofEvent e).low w.heap.size) (hnr : ∀ e ∈ es, ∀ a, e.loc ≠ .mark (.release a))
    (hd : deafBehind (D i).deaf es = x.deaf) (hrel : σ.first ≤ i → x.stage ≤ 6 → ∃ r, RelBy (stA σ.Wg) (t ++ MemOp.ofEvents i g.frame.fn g.frame.place es) i r)
    (hmute : i < σ.first → ∀ e ∈ es, (MemAct.ofEvent e).touch? = none)
    (hlt : x.stage < (D i).stage ∨ (x.stage = (D i).stage ∧ x.fuel < (D i).fuel)) :
    Went P ty z z' σ gs t w sl D a i ((gs.map (woken P g g' w')).setIfInBounds i g') w' (MemOp.ofEvents i g.frame.fn g.frame.place es) (upd D i x) (woken P g g' w' a) tag' := by
  have hsz : ((gs.map (woken P g g' w')).setIfInBounds i g').size = gs.size := by simp
  have hb0 : (i == 0) = false := by simp; omega
  refine ⟨runT_crowd_go hg (by rw [hb0]; exact hgo), ⟨Ow', ⟨st', sm', wi_set h h0 hi hsz (get_map_set_same _ _ _ hi) (woken_rest h hchan hquit) hO hoth hstill hlive hs' hchan hchi hquit hwg hmode htag hvb hold hopen⟩, ?_⟩, hRF, ?_, ?_, hsz⟩
  · rw [hsz]
    have := hT.stepW h0 hi (fn := g.frame.fn) (pos := g.frame.place) (x := x) (Nat.le_refl _) hok (fun e he => MemAct.low_mono hRF.size (hlow e he)) hnr hd hrel hmute
    exact ⟨this.ct, this.low, this.d0, this.dw, this.nrel, this.handed, this.rel, this.swF, fun ht => this.swW fun y => ht (htag.2 y), this.apart, this.layF, this.klay, this.chF, this.pos, this.ow.re rfl rfl rfl rfl (fun ht y => ht (htag.2 y)) rfl rfl rfl, this.swn, this.layn, fun ht => this.qwn fun y => ht (htag.2 y), this.chn⟩
  · rw [get_map_set _ _ _ _ (by omega), ha]; rfl
  · have h1 := Sd_upd D x hi
    have h2 := Fd_upd D x hi
    rcases hlt with h | ⟨h, h'⟩
    · exact .inl (by omega)
    · exact .inr ⟨by omega, by omega⟩
end
end Go.Proofs.Ytmllcfkgkkbkpaa
/-
  A PHASE: WHATEVER STEP ANOTHER GOROUTINE THAN THE STARTER TAKES, it keeps what holds and lowers the measure; or it meets the starter, who waits at that channel.
-/
namespace Go.Proofs.Ytmllcfkgkkbkpaa
open Go Go.Conc
open Go.ConcN (sumTo upd sumTo_upd upd_ne upd_same CT RelBy WD WgLive OkW Ok0 Apart PermW get_map_set get_map_set_same le_sumTo)
open Go.ConcR (KK wgBlock WgAt stA smA rd wr mk DC0 Bk bk_of_mute ofEvent_loc_mark g_of_ofEvents)

section
variable {P : Program} {ty : TypeId} {z z' : Value} {σ : Ph} {Ow Ow' : Nat → Nat → Prop} {gs : Array Goroutine} {t : Trace} {w w' : World} {D : Nat → WD} {st sm st' sm' : Int} {tag' : Tag}
theorem ModeD.retag {N : Nat} (h : ModeD N D σ.tag st sm) (e : tag' = σ.tag ∨ (σ.tag = .blk ∧ tag' = .w3)) : ModeD N D tag' st sm := by
  rcases e with rfl | ⟨e1, rfl⟩
  · exact h
  · rw [e1] at h
    cases h with
    | reg _ h2 h3 h4 => exact .reg (.inl rfl) h2 h3 h4
    | last L _ h2 h3 h4 h5 => exact .last L (.inl rfl) h2 h3 h4 h5
theorem ModeD.congr {N : Nat} {D' : Nat → WD} {tag : Tag} (h : ModeD N D tag st sm) (e : ∀ a, a < N → (D' a).stage = (D a).stage) : ModeD N D' tag st sm := by
  have hv : Vd N D' = Vd N D := Go.ConcN.sumTo_congr fun a ha => by simp only [cntD, e a ha]
  cases h with
  | idle h => exact .idle fun a ha => by rw [e a ha]; exact h a ha
  | opn h1 h2 => exact .opn (fun a ha => by rw [e a ha]; exact h1 a ha) (by rw [hv]; exact h2)
  | reg h1 h2 h3 h4 => exact .reg h1 (fun a ha => by rw [e a ha]; exact h2 a ha) (by rw [hv]; exact h3) (by rw [hv]; exact h4)
  | last L h1 h2 h3 h4 h5 => exact .last L h1 h2 (by rw [e L h2]; exact h3) (fun a ha x => by rw [e a ha]; exact h4 a ha x) (by rw [e L h2]; exact h5)
  | sema h => exact .sema fun a ha => by rw [e a ha]; exact h a ha
  | fin h => exact .fin fun a ha => by rw [e a ha]; exact h a ha
theorem ModeD.same {N i : Nat} {tag : Tag} (h : ModeD N D tag st sm) {x : WD} (hx : x.stage = (D i).stage) : ModeD N (upd D i x) tag st sm :=
  h.congr fun a _ => by
    by_cases e : a = i
    · subst e; rw [upd_same]; exact hx
    · rw [upd_ne D _ e]
/-- A counted one goes on to a stage at which it is still counted. -/
theorem ModeD.counted {N i : Nat} {tag : Tag} (h : ModeD N D tag st sm) (hi : i < N) (h5 : 5 ≤ (D i).stage) {x : WD} (hx : 5 ≤ x.stage) : ModeD N (upd D i x) tag st sm := by
  have hv : Vd N (upd D i x) = Vd N D := by
    have := Vd_upd D x hi
    have c1 : cntD (D i) = 1 := by simp [cntD, h5]
    have c2 : cntD x = 1 := by simp [cntD, hx]
    omega
  have ho : OpenD N D → OpenD N (upd D i x) := fun h a ha => by
    by_cases e : a = i
    · subst e; rw [upd_same]; exact .inl hx
    · rw [upd_ne D _ e]; exact h a ha
  cases h with
  | idle h => have := h i hi; omega
  | opn h1 h2 => exact .opn (ho h1) (by rw [hv]; exact h2)
  | reg h1 h2 h3 h4 => exact .reg h1 (ho h2) (by rw [hv]; exact h3) (by rw [hv]; exact h4)
  | last L h1 h2 h3 h4 h5' =>
    by_cases e : i = L
    · subst e; omega
    · have := h4 i hi e; omega
  | sema h => have := h i hi; omega
  | fin h => have := h i hi; omega
theorem ModeD.isLast {N i : Nat} {tag : Tag} (h : ModeD N D tag st sm) (hi : i < N) (h4 : (D i).stage = 4 ∨ (D i).stage = 3 ∨ (D i).stage = 2) :
    isW tag ∧ (∀ a, a < N → a ≠ i → (D a).stage = 1) ∧ st = (if (D i).stage = 2 then 0 else 1) ∧ sm = 0 := by
  cases h with
  | idle h => have := h i hi; omega
  | opn h1 _ => have := h1 i hi; omega
  | reg _ h2 _ _ => have := h2 i hi; omega
  | last L h1 h2 h3 h4' h5 =>
    by_cases e : i = L
    · subst e; exact ⟨h1, h4', h5, rfl⟩
    · have := h4' i hi e; omega
  | sema h => have := h i hi; omega
  | fin h => have := h i hi; omega
theorem ModeD.not_idle {N i : Nat} {tag : Tag} (h : ModeD N D tag st sm) (hi : i < N) (h1 : (D i).stage ≠ 1) : tag ≠ .idle := by
  rintro rfl
  cases h with
  | idle h => exact h1 (h i hi)
  | reg h _ _ _ => rcases h with h | h <;> cases h
  | last L h _ _ _ _ => rcases h with h | h <;> cases h
theorem uncounted {N i : Nat} (hi : i < N) (hv : Vd N D = 1) (hc : cntD (D i) = 1) : ∀ a, a < N → a ≠ i → cntD (D a) = 0 := by
  intro a ha e
  have h1 := Vd_upd D (⟨1, 0, 0⟩ : WD) hi
  have c0 : cntD (⟨1, 0, 0⟩ : WD) = 0 := rfl
  have h2 : Vd N (upd D i ⟨1, 0, 0⟩) = 0 := by omega
  have h3 := le_sumTo (f := fun j => cntD (upd D i ⟨1, 0, 0⟩ j)) ha
  have h4 : sumTo N (fun j => cntD (upd D i ⟨1, 0, 0⟩ j)) = 0 := h2
  simp only [upd_ne D _ e] at h3
  omega

/-- How the starter stands while others move. -/
inductive Main (σ : Ph) (gs : Array Goroutine) (D : Nat → WD) : Goroutine → Prop
  | run {a : Goroutine} : a.status = .running → σ.tag ≠ .blk → Main σ gs D a
  | recv {a₁ : Goroutine} {j : Nat} {zz : Value} : σ.first ≤ j → j < gs.size → σ.closed = false → σ.rem j ≠ [] → 0 < (D j).fuel → σ.tag ≠ .blk → Main σ gs D (parked a₁ #[rcase (σ.ch j) zz] (.recv true))
  | sema {a : Goroutine} : a.status = .blocked → a.offers = none → σ.tag = .blk → Main σ gs D a
/-- What comes of another's step. -/
def Result1 (P : Program) (ty : TypeId) (z z' : Value) (σ : Ph) (gs : Array Goroutine) (t : Trace) (w : World) (sl : Option (Nat × Nat)) (D : Nat → WD) (a : Goroutine) (i : Nat) : Prop :=
  ∃ gs' w' ops D' a' tag', Went P ty z z' σ gs t w sl D a i gs' w' ops D' a' tag' ∧ ((tag' = σ.tag ∧ a' = a ∧ Main { σ with tag := tag' } gs' D' a) ∨ (σ.tag = .blk ∧ tag' = .w3 ∧ a.status = .blocked ∧ a.offers = none ∧ a' = { a with status := .running }))

theorem RF.setChan {F : Nat → Prop} {c : Nat} (hF : F c) {w : World} {cap s r : Nat} {b : Array Value} {cl tm : Bool} : RF F w (w.setChan c cap b cl s r tm) := by
  refine ⟨fun x hx => ?_, by simp [World.setChan], fun x h1 h2 => by simp only [World.setChan, Array.size_setIfInBounds] at h2; omega, fun h x o hx ho => ?_, rfl, rfl, rfl⟩
  · simp only [World.setChan]
    rw [Array.getElem?_setIfInBounds_ne]
    intro e; subst e; exact hx hF
  · simp only [World.setChan] at ho
    by_cases e : c = x
    · subst e
      by_cases hlt : c < w.heap.size
      · rw [Array.getElem?_setIfInBounds_self_of_lt hlt] at ho
        cases ho; rfl
      · rw [Array.getElem?_eq_none (by simpa using hlt)] at ho; cases ho
    · rw [Array.getElem?_setIfInBounds_ne e] at ho
      exact h x o hx ho
theorem setChan_same {c : Nat} {w : World} {cap s r cap' s' r' : Nat} {b b' : Array Value} {cl tm cl' tm' : Bool} (h : w.heap[c]? = some (.chan cap' b' cl' s' r' tm')) : (w.setChan c cap b cl s r tm).heap[c]? = some (.chan cap b cl s r tm) := by
  have hlt := (Array.getElem?_eq_some_iff.1 h).1
  simp only [World.setChan]
  rw [Array.getElem?_setIfInBounds_self_of_lt hlt]
theorem setChan_ne {c x : Nat} (hx : x ≠ c) {w : World} {cap s r : Nat} {b : Array Value} {cl tm : Bool} : (w.setChan c cap b cl s r tm).heap[x]? = w.heap[x]? := by
  simp only [World.setChan]
  rw [Array.getElem?_setIfInBounds_ne (fun e => hx e.symm)]
theorem setCell_ne {a : Addr} {v : Value} {x : Nat} (hx : x ≠ a.block) {w : World} : (w.setCell a v).heap[x]? = w.heap[x]? := (Go.Conc.aside_setCell w a v).block x hx
theorem RF.setCell {F : Nat → Prop} {a : Addr} {v : Value} {w : World} (hF : F a.block) (hc : ∃ cs e fz, w.heap[a.block]? = some (.cells cs e fz)) : RF F w (w.setCell a v) := by
  have has := Go.Conc.aside_setCell w a v
  refine ⟨fun x hx => has.block x fun e => hx (e ▸ hF), Nat.le_of_eq has.size.symm, fun x h1 h2 => by have := has.size; omega, fun h x o hx ho => ?_, has.tape, has.os, has.output⟩
  by_cases e : x = a.block
  · subst e
    obtain ⟨cs, e, fz, hc⟩ := hc
    obtain ⟨blk, off, cut⟩ := a
    simp only at hc ho hx
    unfold World.setCell at ho
    rw [Array.getElem?_modify, if_pos rfl, hc] at ho
    simp only [Option.map_some, Option.some.injEq] at ho
    subst ho
    rfl
  · rw [has.block x e] at ho
    exact h x o hx ho
end
end Go.Proofs.Ytmllcfkgkkbkpaa
/-
  A PHASE: WHATEVER STEP ANOTHER GOROUTINE THAN THE STARTER TAKES: the cases.
-/
namespace Go.Proofs.Ytmllcfkgkkbkpaa
open Go Go.Conc
open Go.ConcN (sumTo upd sumTo_upd upd_ne upd_same CT RelBy WD WgLive OkW Ok0 Apart PermW get_map_set get_map_set_same le_sumTo)
open Go.ConcR (KK wgBlock WgAt stA smA rd wr mk DC0 Bk bk_of_mute ofEvent_loc_mark g_of_ofEvents)

section
variable {P : Program} {ty : TypeId} {z z' : Value} {σ : Ph} {Ow Ow' : Nat → Nat → Prop} {gs : Array Goroutine} {t : Trace} {w w' : World} {D : Nat → WD} {st sm st' sm' : Int} {tag' : Tag}
theorem again_sema {a : Goroutine} {w : World} (h : a.status = .blocked) (ho : a.offers = none) : a.again w = { a with status := .running } := by
  simp [Goroutine.again, h, ho]
/-- A '.go' step of goroutine i, whatever the starter does meanwhile. -/
theorem result_go (h : WI P ty z z' σ Ow gs w D st sm) (hT : TI σ Ow' gs.size t w'.heap.size D) {a : Goroutine} (ha : gs[0]? = some a) (hm : Main σ gs D a) {i : Nat} (h0 : 0 < i) (hi : i < gs.size) {g g' : Goroutine} (hg : gs[i]? = some g) {es : Array Event} (hgo : stepG P false g w = .go g' w' es) {x : WD} {sl : Option (Nat × Nat)}
    (hRF : RF σ.F w w') (hO : ∀ j, j ≠ i → Ow' j = Ow j) (hoth : ∀ j b, j ≠ i → Ow j b → w'.heap[b]? = w.heap[b]?) (hstill : ∀ b, (σ.lay b).isSome = true → w'.heap[b]? = w.heap[b]?) (hlive : WgLive ty σ.Wg w → WgLive ty σ.Wg w')
    (hs' : Sit P ty σ.Wg σ.quit (σ.ch i) (σ.K i) z z' σ.al (Ow' i) (σ.rem i) σ.closed x.stage x.fuel x.deaf g' w')
    (hchan : ∀ j, σ.first ≤ j → j < gs.size → j ≠ i → w'.heap[σ.ch j]? = w.heap[σ.ch j]?) (hchi : σ.first ≤ i → ∃ s r, w'.heap[σ.ch i]? = some (.chan 0 #[] (decide (x.stage < 8)) s r false))
    (hquit : σ.tag ≠ .idle → w'.heap[σ.quit]? = w.heap[σ.quit]?) (hwg : σ.tag ≠ .idle → WgAt ty σ.Wg w' st' sm')
    (hmode : ∀ tag', (tag' = σ.tag ∨ (σ.tag = .blk ∧ tag' = .w3)) → (mayWake P g = true → g'.status = .running → tag' ≠ .blk) → ModeD gs.size (upd D i x) tag' st' sm')
    (hvb : cntD x ≤ cntD (D i)) (hold : i < σ.first → x.stage = 1) (hopen : σ.closed = false → σ.first ≤ i → σ.rem i ≠ [] → x.stage = 9 ∧ 0 < x.fuel)
    (hok : ∀ op ∈ MemOp.ofEvents i g.frame.fn g.frame.place es, OkW (ShW σ.SW) (OwL Ow') (RdK σ.K σ.ch) i op) (hlow : ∀ e ∈ es, (MemAct.ofEvent e).low w.heap.size) (hnr : ∀ e ∈ es, ∀ a, e.loc ≠ .mark (.release a))
    (hd : deafBehind (D i).deaf es = x.deaf) (hrel : σ.first ≤ i → x.stage ≤ 6 → ∃ r, RelBy (stA σ.Wg) (t ++ MemOp.ofEvents i g.frame.fn g.frame.place es) i r)
    (hmute : i < σ.first → ∀ e ∈ es, (MemAct.ofEvent e).touch? = none)
    (hlt : x.stage < (D i).stage ∨ (x.stage = (D i).stage ∧ x.fuel < (D i).fuel)) : Result1 P ty z z' σ gs t w sl D a i := by
  have hop' : σ.closed = false → σ.first ≤ i → σ.rem i ≠ [] → x.stage = 9 := fun a b c => (hopen a b c).1
  have go : ∀ tag' : Tag, (tag' = .idle ↔ σ.tag = .idle) → ModeD gs.size (upd D i x) tag' st' sm' → Went P ty z z' σ gs t w sl D a i ((gs.map (woken P g g' w')).setIfInBounds i g') w' (MemOp.ofEvents i g.frame.fn g.frame.place es) (upd D i x) (woken P g g' w' a) tag' :=
    fun tag' ht hmo => went_go h hT ha h0 hi hg hgo hRF hO hoth hstill hlive hs' hchan hchi hquit hwg hmo ht hvb hold hop' hok hlow hnr hd hrel hmute hlt
  have hsz : ((gs.map (woken P g g' w')).setIfInBounds i g').size = gs.size := by simp
  cases hm with
  | run hr hb =>
    exact ⟨_, _, _, _, _, σ.tag, go σ.tag Iff.rfl (hmode _ (.inl rfl) fun _ _ => hb), .inl ⟨rfl, woken_run hr, .run hr hb⟩⟩
  | @recv a₁ j zz j0 hj hc hr hf hb =>
    have e9 := h.still hc j j0 hj hr
    obtain ⟨s, r, hch⟩ := h.chan j j0 hj
    rw [e9] at hch
    have hopen' : ∃ s r, w'.heap[σ.ch j]? = some (.chan 0 #[] false s r false) := by
      by_cases e : j = i
      · subst e
        obtain ⟨s', r', h'⟩ := hchi j0
        rw [(hopen hc j0 hr).1] at h'
        exact ⟨s', r', h'⟩
      · exact ⟨s, r, (hchan j j0 hj e).trans hch⟩
    obtain ⟨s', r', hw'⟩ := hopen'
    refine ⟨_, _, _, _, _, σ.tag, go σ.tag Iff.rfl (hmode _ (.inl rfl) fun _ _ => hb), .inl ⟨rfl, woken_recv_open _ _ hw', ?_⟩⟩
    refine .recv j0 (hsz ▸ hj) hc hr ?_ hb
    by_cases e : j = i
    · subst e; rw [upd_same]; exact (hopen hc j0 hr).2
    · rw [upd_ne D _ e]; exact hf
  | sema hs ho hb =>
    by_cases hw : (mayWake P g && g'.status != .blocked && g'.status != .waiting) = true
    · have e : woken P g g' w' a = { a with status := .running } := by
        unfold woken
        rw [if_pos hw]
        exact again_sema hs ho
      exact ⟨_, _, _, _, _, .w3, go .w3 (by rw [hb]; exact ⟨fun x => (by cases x), fun x => (by cases x)⟩) (hmode _ (.inr ⟨hb, rfl⟩) fun _ _ => by simp), .inr ⟨hb, rfl, hs, ho, e⟩⟩
    · have e : woken P g g' w' a = a := by
        unfold woken
        rw [if_neg hw]
      refine ⟨_, _, _, _, _, σ.tag, go σ.tag Iff.rfl (hmode _ (.inl rfl) fun h1 h2 => ?_), .inl ⟨rfl, e, .sema hs ho hb⟩⟩
      exfalso
      refine hw ?_
      rw [h1, h2]
      rfl
end
end Go.Proofs.Ytmllcfkgkkbkpaa
/-
  A PHASE: THE COMMUNICATIONS: a select of a send and of a receive at 'quit', and the starter's receive.
-/
namespace Go.Proofs.Ytmllcfkgkkbkpaa
open Go Go.Conc
open Go.ConcN (sumTo upd sumTo_upd upd_ne upd_same CT RelBy WD WgLive)

section
variable {P : Program} {gs : Array Goroutine} {w w₁ : World} {sl : Option (Nat × Nat)} {i j : Nat} {g g₂ gj : Goroutine} {es : Array Event} {c q s r s' r' : Nat} {v z z' zj : Value}
theorem offersAt_sel_true (r : Nat) (sh : CommShape) : offersAt (parked g (selCases q c z z' v) sh) r true = if c = r then [0] else [] := by
  by_cases h : c = r <;> simp [offersAt, parked, selCases, scase, rcase, h]
theorem offersAt_sel_false (r : Nat) (sh : CommShape) : offersAt (parked g (selCases q c z z' v) sh) r false = if q = r then [1] else [] := by
  by_cases h : q = r <;> simp [offersAt, parked, selCases, scase, rcase, h]
/-- The select finds 'quit' closed, and nobody at its channel. -/
theorem crowd_sel_closed (hi : gs[i]? = some g) (h : stepG P (i == 0) g w = .comm g₂ (selCases q c z z' v) true .select w₁ es) (hc : w₁.heap[c]? = some (.chan 0 #[] false s r false)) (hq : w₁.heap[q]? = some (.chan 0 #[] true s' r' false))
    (hpc : partners (gs.setIfInBounds i ph) c false = []) (hpq : partners (gs.setIfInBounds i ph) q true = []) :
    runT P (crowd gs w sl) i = (.next (crowd (gs.setIfInBounds i (g₂.finishComm P (selCases q c z z' v) .select 1 z' false)) w₁ sl),
      MemOp.ofEvents i g.frame.fn g.frame.place es ++ #[{ g := i, fn := g₂.frame.fn, pos := g₂.frame.place, act := .recvClosed q }]) := by
  rw [runT_crowd_comm hi h]
  simp [communicate, ways, selCases, scase, rcase, hc, hq, hpc, hpq, choose, Sem.run, Question.forced, bind, Sem.bind, pure, crowd]
/-- Nobody is there, and 'quit' is open: it is parked. -/
theorem crowd_sel_waits (hi : gs[i]? = some g) (h : stepG P (i == 0) g w = .comm g₂ (selCases q c z z' v) true .select w₁ es) (hc : w₁.heap[c]? = some (.chan 0 #[] false s r false)) (hq : w₁.heap[q]? = some (.chan 0 #[] false s' r' false))
    (hpc : partners (gs.setIfInBounds i ph) c false = []) (hpq : partners (gs.setIfInBounds i ph) q true = []) :
    runT P (crowd gs w sl) i = (.next (crowd (gs.setIfInBounds i (parked g₂ (selCases q c z z' v) .select)) w₁ sl), MemOp.ofEvents i g.frame.fn g.frame.place es) :=
  crowd_waits hi h fun cc hcc => by
    rcases mem_selCases hcc with rfl | rfl
    · exact ways_send_none hc (by simp) hpc
    · exact ways_recv_none hq hpq
/-- The starter waits at its channel: both are completed in this one step. -/
theorem crowd_sel_meets (hi : gs[i]? = some g) (h : stepG P (i == 0) g w = .comm g₂ (selCases q c z z' v) true .select w₁ es) (hc : w₁.heap[c]? = some (.chan 0 #[] false s r false)) (hq : w₁.heap[q]? = some (.chan 0 #[] false s' r' false))
    (hij : j ≠ i) (hj : gs[j]? = some (parked gj #[rcase c zj] (.recv true))) (hpc : partners (gs.setIfInBounds i ph) c false = [(j, 0)]) (hpq : partners (gs.setIfInBounds i ph) q true = []) :
    runT P (crowd gs w sl) i = (.next (crowd ((gs.setIfInBounds j (gj.finishComm P #[rcase c zj] (.recv true) 0 v true)).setIfInBounds i (g₂.finishComm P (selCases q c z z' v) .select 0 undef false)) (w₁.setChan c 0 #[] false (s + 1) (r + 1) false) sl),
      MemOp.ofEvents i g.frame.fn g.frame.place es ++ #[{ g := i, fn := g₂.frame.fn, pos := g₂.frame.place, act := .send c s }, { g := j, fn := gj.frame.fn, pos := gj.frame.place, act := .recv c r 0 },
        { g := i, fn := g₂.frame.fn, pos := g₂.frame.place, act := .sendDone c s }, { g := j, fn := gj.frame.fn, pos := gj.frame.place, act := .recvDone c r }]) := by
  rw [runT_crowd_comm hi h]
  have hj' := stand_get (i := i) hij hj
  have hfp := finishPartner_at P (gs.setIfInBounds i ph) hj' (cs := #[rcase c zj]) (sh := .recv true) rfl 0 v
  have hgd : (gs.setIfInBounds i ph).getD j default = parked gj #[rcase c zj] (.recv true) := by rw [Array.getD_eq_getD_getElem?, hj']; rfl
  simp [communicate, ways, selCases, scase, rcase, hc, hq, hpc, hpq, choose, Sem.run, Question.forced, bind, Sem.bind, pure, World.setChan, crowd]
  simp [rcase] at hfp hgd
  simp [hfp, hgd, set_stand2, parked]
  rfl
/-- The starter comes to a channel at which its worker waits. -/
theorem crowd_recv_meets_sel (hi : gs[i]? = some g) (h : stepG P (i == 0) g w = .comm g₂ #[rcase c zj] true (.recv true) w₁ es) (hc : w₁.heap[c]? = some (.chan 0 #[] false s r false))
    (hij : j ≠ i) (hj : gs[j]? = some (parked gj (selCases q c z z' v) .select)) (hp : partners (gs.setIfInBounds i ph) c true = [(j, 0)]) :
    runT P (crowd gs w sl) i = (.next (crowd ((gs.setIfInBounds j (gj.finishComm P (selCases q c z z' v) .select 0 undef false)).setIfInBounds i (g₂.finishComm P #[rcase c zj] (.recv true) 0 v true)) (w₁.setChan c 0 #[] false (s + 1) (r + 1) false) sl),
      MemOp.ofEvents i g.frame.fn g.frame.place es ++ #[{ g := j, fn := gj.frame.fn, pos := gj.frame.place, act := .send c s }, { g := i, fn := g₂.frame.fn, pos := g₂.frame.place, act := .recv c r 0 },
        { g := j, fn := gj.frame.fn, pos := gj.frame.place, act := .sendDone c s }, { g := i, fn := g₂.frame.fn, pos := g₂.frame.place, act := .recvDone c r }]) := by
  rw [runT_crowd_comm hi h]
  have hj' := stand_get (i := i) hij hj
  have hfp := finishPartner_at P (gs.setIfInBounds i ph) hj' (cs := selCases q c z z' v) (sh := .select) rfl 0 undef
  have hgd : (gs.setIfInBounds i ph).getD j default = parked gj (selCases q c z z' v) .select := by rw [Array.getD_eq_getD_getElem?, hj']; rfl
  have hov : offeredValue (gs.setIfInBounds i ph) j 0 = v := by simp [offeredValue, hj', parked, selCases, scase]
  simp [communicate, ways, rcase, hc, hp, choose, Sem.run, Question.forced, bind, Sem.bind, pure, World.setChan, crowd, hfp, hgd, hov, set_stand2, parked]
  simp [selCases, scase]
  rfl
end
end Go.Proofs.Ytmllcfkgkkbkpaa
/-
  A PHASE: WHATEVER STEP ANOTHER GOROUTINE THAN THE STARTER TAKES: the theorem.
-/
namespace Go.Proofs.Ytmllcfkgkkbkpaa
open Go Go.Conc
open Go.ConcN (sumTo upd sumTo_upd upd_ne upd_same CT RelBy WD WgLive OkW Ok0 Apart PermW get_map_set get_map_set_same le_sumTo)
open Go.ConcR (KK wgBlock WgAt stA smA rd wr mk DC0 Bk bk_of_mute ofEvent_loc_mark g_of_ofEvents)

section
variable {P : Program} {ty : TypeId} {Wg q c : Nat} {K O : Nat → Prop} {z z' : Value} {al : Bool} {rem : List Value} {closed : Bool} {s m d : Nat} {g : Goroutine} {w w₁ : World}
theorem Sit.offers_true (h : Sit P ty Wg q c K z z' al O rem closed s m d g w) {r : Nat} (hr : s = 9 → m = 0 → r ≠ c) : offersAt g r true = [] := by
  rcases h.status with h1 | ⟨e1, e2, _, h1⟩ | ⟨_, h1⟩
  · exact offersAt_of_not_blocked (by rw [h1]; simp) r true
  · cases h with
    | park e e' h => rw [offersAt_sel_true, if_neg (fun x => hr rfl rfl x.symm)]
    | walk e h => simp at e2
    | make e h => simp at e2
    | _ => simp at e1
  · exact offersAt_of_not_blocked (by rw [h1]; simp) r true
theorem Sit.offers_false (h : Sit P ty Wg q c K z z' al O rem closed s m d g w) {r : Nat} (hr : r ≠ q) : offersAt g r false = [] := by
  rcases h.status with h1 | ⟨e1, e2, _, h1⟩ | ⟨_, h1⟩
  · exact offersAt_of_not_blocked (by rw [h1]; simp) r false
  · cases h with
    | park e e' h => rw [offersAt_sel_false, if_neg (fun x => hr x.symm)]
    | walk e h => simp at e2
    | make e h => simp at e2
    | _ => simp at e1
  · exact offersAt_of_not_blocked (by rw [h1]; simp) r false
end
section
variable {P : Program} {ty : TypeId} {z z' : Value} {σ : Ph} {Ow : Nat → Nat → Prop} {gs : Array Goroutine} {t : Trace} {w w' : World} {D : Nat → WD} {st sm st' sm' : Int} {tag' : Tag}
theorem offersAt_none {a : Goroutine} (h : a.offers = none) (r : Nat) (b : Bool) : offersAt a r b = [] := by
  unfold offersAt
  rw [h]
  split
  · rename_i h1 h2; cases h2
  · rfl
/-- Nobody offers at that channel. -/
theorem parts_nil {a : Goroutine} (ha : gs[0]? = some a) {r : Nat} {b : Bool} {i : Nat} (hoa : offersAt a r b = []) (ho : ∀ j y, 0 < j → j < gs.size → j ≠ i → gs[j]? = some y → offersAt y r b = []) : partners (gs.setIfInBounds i ph) r b = [] := by
  refine partners_nil fun j y hy => ?_
  rcases getElem?_stand gs i j y hy with ⟨_, rfl⟩ | ⟨hji, hy'⟩
  · exact offersAt_ph r b
  · rcases Nat.eq_zero_or_pos j with rfl | hj
    · rw [ha] at hy'; cases hy'; exact hoa
    · exact ho j y hj (Array.getElem?_eq_some_iff.1 hy').1 hji hy'
theorem parts_quit (h : WI P ty z z' σ Ow gs w D st sm) {a : Goroutine} (ha : gs[0]? = some a) (hm : Main σ gs D a) (i : Nat) : partners (gs.setIfInBounds i ph) σ.quit true = [] := by
  refine parts_nil ha ?_ fun j y j0 hj _ hy => ?_
  · cases hm with
    | run hr _ => exact offersAt_of_not_blocked (by rw [hr]; simp) _ _
    | recv _ _ _ _ _ _ => exact offersAt_parked_recv' _ _ _ _ _
    | sema _ ho _ => exact offersAt_none ho _ _
  · obtain ⟨y', hy', hs⟩ := h.sit j j0 hj
    rw [hy] at hy'; cases hy'
    refine hs.offers_true fun e9 _ => ?_
    by_cases hf : σ.first ≤ j
    · exact (h.chq j hf hj).symm
    · have := h.old j j0 (by omega); omega
theorem parts_ch (h : WI P ty z z' σ Ow gs w D st sm) {a : Goroutine} (ha : gs[0]? = some a) {i : Nat} (i0 : σ.first ≤ i) (hi : i < gs.size) (hoa : offersAt a (σ.ch i) false = []) : partners (gs.setIfInBounds i ph) (σ.ch i) false = [] := by
  refine parts_nil ha hoa fun j y j0 hj _ hy => ?_
  obtain ⟨y', hy', hs⟩ := h.sit j j0 hj
  rw [hy] at hy'; cases hy'
  exact hs.offers_false (h.chq i i0 hi)

theorem okW_still {Own : Nat → Loc → Prop} {i : Nat} {K : Nat → Nat → Prop} {ch : Nat → Nat} {Sh : Loc → Prop} {fn : FuncId} {pos : String} {es : Array Event} (h : ∀ e ∈ es, ∃ a, e = ⟨.cell a, false, false⟩ ∧ K i a.block) : ∀ op ∈ MemOp.ofEvents i fn pos es, OkW Sh Own (RdK K ch) i op := by
  intro op hop
  obtain ⟨e, he, rfl⟩ := Go.Conc.mem_ofEvents hop
  obtain ⟨a, rfl, hk⟩ := h e he
  refine ⟨rfl, fun x hx => ?_⟩
  simp only [MemAct.ofEvent, MemAct.touch?, Option.some.injEq] at hx
  subst hx
  exact .inr (.inr ⟨.inl ⟨a, rfl, hk⟩, rfl⟩)
theorem okW_close {Own : Nat → Loc → Prop} {K : Nat → Nat → Prop} {ch : Nat → Nat} {Sh : Loc → Prop} {fn : FuncId} {pos : String} (i : Nat) : ∀ op ∈ MemOp.ofEvents i fn pos #[⟨.obj (ch i), false, true⟩, ⟨.obj (ch i), true, true⟩], OkW Sh Own (RdK K ch) i op := by
  intro op hop
  obtain ⟨e, he, rfl⟩ := Go.Conc.mem_ofEvents hop
  simp at he
  refine ⟨rfl, fun x hx => ?_⟩
  rcases he with rfl | rfl
  · simp only [MemAct.ofEvent, MemAct.touch?, Option.some.injEq] at hx
    subst hx
    exact .inr (.inr ⟨.inr rfl, rfl⟩)
  · cases hx
theorem okW_quiet {Own : Nat → Loc → Prop} {i : Nat} {Rd : Nat → Loc → Prop} {Sh : Loc → Prop} {fn : FuncId} {pos : String} {es : Array Event} (h : ∀ e ∈ es, (MemAct.ofEvent e).touch? = none) : ∀ op ∈ MemOp.ofEvents i fn pos es, OkW Sh Own Rd i op := by
  intro op hop
  obtain ⟨e, he, rfl⟩ := Go.Conc.mem_ofEvents hop
  refine ⟨rfl, fun x hx => ?_⟩
  rw [h e he] at hx
  cases hx
theorem okW_book {Own : Nat → Loc → Prop} {i Wg : Nat} {Rd : Nat → Loc → Prop} {SW : Nat → Prop} (hW : SW Wg) {fn : FuncId} {pos : String} {es : Array Event} (h : ∀ e ∈ es, Bk Wg e) : ∀ op ∈ MemOp.ofEvents i fn pos es, OkW (ShW SW) Own Rd i op := by
  intro op hop
  obtain ⟨e, he, rfl⟩ := Go.Conc.mem_ofEvents hop
  refine ⟨rfl, fun x hx => ?_⟩
  rcases h e he with h1 | h1 | ⟨a, wr, rfl, ha⟩
  · simp only [ofEvent_loc_mark h1] at hx; cases hx
  · simp only [ofEvent_loc_mark h1] at hx; cases hx
  · refine .inl ⟨⟨a, ?_, ha ▸ hW⟩, ?_, ?_⟩
    · cases wr <;> simp [MemAct.ofEvent, MemAct.touch?] at hx <;> rw [← hx]
    · cases wr <;> simp [MemAct.ofEvent, MemAct.touch?] at hx <;> rw [← hx] <;> simp
    · cases wr <;> simp [MemAct.ofEvent, MemAct.touch?] at hx <;> rw [← hx] <;> simp
theorem low_book {Wg n : Nat} (hW : Wg < n) {e : Event} (h : Bk Wg e) : (MemAct.ofEvent e).low n := by
  obtain ⟨loc, wr, sy⟩ := e
  rcases h with h1 | h1 | ⟨a, wr', e', ha⟩
  · simp only at h1; subst h1; trivial
  · simp only at h1; subst h1; trivial
  · cases e'
    cases wr <;> (show a.block < n; omega)
theorem norel_book {Wg : Nat} {e : Event} (h : Bk Wg e) : ∀ a, e.loc ≠ .mark (.release a) := by
  intro a hl
  rcases h with h1 | h1 | ⟨a, wr, rfl, _⟩
  · rw [h1] at hl; cases hl
  · rw [h1] at hl; cases hl
  · cases hl
theorem deaf_still {K : Nat → Prop} {es : Array Event} (h : ∀ e ∈ es, ∃ a, e = ⟨.cell a, false, false⟩ ∧ K a.block) (d : Nat) : deafBehind d es = d :=
  deafBehind_still (fun e he => by obtain ⟨a, rfl, _⟩ := h e he; simp) d

theorem okW_own {i : Nat} {Ow : Nat → Nat → Prop} {K : Nat → Nat → Prop} {ch : Nat → Nat} {Sh : Loc → Prop} {fn : FuncId} {pos : String} {es : Array Event} (h : ∀ e ∈ es, (∃ a, e = ⟨.cell a, false, false⟩ ∧ K i a.block) ∨ ∃ a wr, e = ⟨.cell a, wr, false⟩ ∧ Ow i a.block) : ∀ op ∈ MemOp.ofEvents i fn pos es, OkW Sh (OwL Ow) (RdK K ch) i op := by
  intro op hop
  obtain ⟨e, he, rfl⟩ := Go.Conc.mem_ofEvents hop
  rcases h e he with ⟨a, rfl, hk⟩ | ⟨a, wr, rfl, hk⟩
  · refine ⟨rfl, fun x hx => ?_⟩
    simp only [MemAct.ofEvent, MemAct.touch?, Option.some.injEq] at hx
    subst hx
    exact .inr (.inr ⟨.inl ⟨a, rfl, hk⟩, rfl⟩)
  · refine ⟨rfl, fun x hx => .inr (.inl ⟨a, ?_, hk⟩)⟩
    cases wr <;> simp [MemAct.ofEvent, MemAct.touch?] at hx <;> rw [← hx]
theorem deaf_own {K O : Nat → Prop} {es : Array Event} (h : ∀ e ∈ es, (∃ a, e = ⟨.cell a, false, false⟩ ∧ K a.block) ∨ ∃ a wr, e = ⟨.cell a, wr, false⟩ ∧ O a.block) (d : Nat) : deafBehind d es = d :=
  deafBehind_still (fun e he => by rcases h e he with ⟨a, rfl, _⟩ | ⟨a, wr, rfl, _⟩ <;> simp) d
set_option maxHeartbeats 3200000 in
/-- ████ WHATEVER STEP ANOTHER TAKES. ████ -/
theorem others (h : WI P ty z z' σ Ow gs w D st sm) (hT : TI σ Ow gs.size t w.heap.size D) {a : Goroutine} (ha : gs[0]? = some a) (hm : Main σ gs D a) {i : Nat} (h0 : 0 < i) (hi : i < gs.size) {g : Goroutine} (hg : gs[i]? = some g) (hrun : g.status = .running) (sl : Option (Nat × Nat)) :
    Result1 P ty z z' σ gs t w sl D a i ∨ (∃ a₁ zz v vs, a = parked a₁ #[rcase (σ.ch i) zz] (.recv true) ∧ σ.first ≤ i ∧ σ.closed = false ∧ σ.rem i = v :: vs ∧ (D i).stage = 9 ∧ WSelG P ty σ.Wg σ.quit (σ.ch i) (σ.K i) z z' v (WNext P ty σ.Wg σ.quit (σ.ch i) (σ.K i) z z' σ.al vs) (Ow i) g w) := by
  obtain ⟨g₁, hg₁, hs⟩ := h.sit i h0 hi
  obtain rfl : g = g₁ := by rw [hg] at hg₁; exact Option.some.inj hg₁
  have hdk : Deaf t i = (D i).deaf := hT.dw i h0 hi
  have hN : gs.size < 2147483647 := by have := h.room; omega
  generalize hst : (D i).stage = s at hs
  generalize hfu : (D i).fuel = m at hs
  generalize hde : (D i).deaf = dd at hs
  have hfirst : s ≠ 1 → σ.first ≤ i := fun x => Nat.le_of_not_lt fun y => x (hst ▸ h.old i h0 y)
  have hni : s ≠ 1 → σ.tag ≠ .idle := fun x e => by have := h.none e; have := hfirst x; omega
  -- A STEP THAT TURNS NOTHING
  have idle : ∀ {g' : Goroutine} {es : Array Event} {x : WD}, stepG P false g w = .go g' w es → Sit P ty σ.Wg σ.quit (σ.ch i) (σ.K i) z z' σ.al (Ow i) (σ.rem i) σ.closed x.stage x.fuel x.deaf g' w → (decide (x.stage < 8) = decide (s < 8)) →
      ModeD gs.size (upd D i x) σ.tag st sm → cntD x ≤ cntD (D i) → (i < σ.first → x.stage = 1) → (σ.closed = false → σ.first ≤ i → σ.rem i ≠ [] → x.stage = 9 ∧ 0 < x.fuel) →
      (∀ op ∈ MemOp.ofEvents i g.frame.fn g.frame.place es, OkW (ShW σ.SW) (OwL Ow) (RdK σ.K σ.ch) i op) → (∀ e ∈ es, (MemAct.ofEvent e).low w.heap.size) → (∀ e ∈ es, ∀ a, e.loc ≠ .mark (.release a)) → deafBehind dd es = x.deaf →
      (σ.first ≤ i → x.stage ≤ 6 → ∃ r, RelBy (stA σ.Wg) (t ++ MemOp.ofEvents i g.frame.fn g.frame.place es) i r) → (i < σ.first → ∀ e ∈ es, (MemAct.ofEvent e).touch? = none) → (x.stage < s ∨ (x.stage = s ∧ x.fuel < m)) → Result1 P ty z z' σ gs t w sl D a i := by
    intro g' es x hgo hs' hd8 hmo hc ho hop hok hlow hnr hd hrel hmu hlt
    refine result_go h hT ha hm h0 hi hg hgo (.refl _ _) (fun _ _ => rfl) (fun _ _ _ _ => rfl) (fun _ _ => rfl) id hs' (fun _ _ _ _ => rfl) (fun hf => ?_) (fun _ => rfl) (fun ht => h.wg ht) (fun tag' ht _ => hmo.retag ht) hc ho hop hok hlow hnr (by rw [hde]; exact hd) hrel hmu (by rw [hst, hfu]; exact hlt)
    obtain ⟨s', r', hc'⟩ := h.chan i hf hi
    exact ⟨s', r', by rw [hc', hst, hd8]⟩
  -- .. of the library's bookkeeping
  have book0 : ∀ {g' : Goroutine} {es : Array Event} {x : WD}, stepG P false g w = .go g' w es → Sit P ty σ.Wg σ.quit (σ.ch i) (σ.K i) z z' σ.al (Ow i) (σ.rem i) σ.closed x.stage x.fuel x.deaf g' w → s < 8 → x.stage < 8 → s ≠ 1 →
      ModeD gs.size (upd D i x) σ.tag st sm → cntD x ≤ cntD (D i) → (∀ e ∈ es, Bk σ.Wg e) → deafBehind dd es = x.deaf →
      (x.stage ≤ 6 → ∃ r, RelBy (stA σ.Wg) (t ++ MemOp.ofEvents i g.frame.fn g.frame.place es) i r) → (x.stage < s ∨ (x.stage = s ∧ x.fuel < m)) → Result1 P ty z z' σ gs t w sl D a i := by
    intro g' es x hgo hs' h8 hx8 h1 hmo hc hbk hd hrel hlt
    have hW := Array.getElem?_eq_some_iff.1 (h.wg (hni h1))
    refine idle hgo hs' (by simp [h8, hx8]) hmo hc (fun y => absurd (hfirst h1) (by omega)) (fun hc' hf hr => ?_) (okW_book (hT.swW (hni h1)) hbk) (fun e he => low_book hW.1 (hbk e he)) (fun e he => norel_book (hbk e he)) hd (fun _ => hrel) (fun y => absurd (hfirst h1) (by omega)) hlt
    have := h.still hc' i hf hi hr
    omega
  -- .. that turns the group
  have bookW : ∀ {g' : Goroutine} {w' : World} {es : Array Event} {x : WD} {st' sm' : Int} {ad : Addr} {v : Value}, stepG P false g w = .go g' w' es → w' = w.setCell ad v → ad.block = σ.Wg → WgAt ty σ.Wg w' st' sm' → Sit P ty σ.Wg σ.quit (σ.ch i) (σ.K i) z z' σ.al (Ow i) (σ.rem i) σ.closed x.stage x.fuel x.deaf g' w' → s < 8 → x.stage < 8 → s ≠ 1 →
      (∀ tag', (tag' = σ.tag ∨ (σ.tag = .blk ∧ tag' = .w3)) → (mayWake P g = true → g'.status = .running → tag' ≠ .blk) → ModeD gs.size (upd D i x) tag' st' sm') → cntD x ≤ cntD (D i) → (∀ e ∈ es, Bk σ.Wg e) → deafBehind dd es = x.deaf →
      (x.stage ≤ 6 → ∃ r, RelBy (stA σ.Wg) (t ++ MemOp.ofEvents i g.frame.fn g.frame.place es) i r) → (x.stage < s ∨ (x.stage = s ∧ x.fuel < m)) → Result1 P ty z z' σ gs t w sl D a i := by
    intro g' w' es x st' sm' ad v hgo hw' had hwg' hs' h8 hx8 h1 hmo hc hbk hd hrel hlt
    have hf := hfirst h1
    have hn := hni h1
    have hW := Array.getElem?_eq_some_iff.1 (h.wg hn)
    have same : ∀ b, b ≠ σ.Wg → w'.heap[b]? = w.heap[b]? := fun b hb => by rw [hw']; exact setCell_ne (by rw [had]; exact hb)
    refine result_go h (hT.mono (by rw [hw']; exact Nat.le_of_eq (Go.Conc.aside_setCell _ _ _).size.symm)) ha hm h0 hi hg hgo (by rw [hw']; exact RF.setCell (by rw [had]; exact h.fw hn) (by rw [had]; exact ⟨_, _, _, h.wg hn⟩)) (fun _ _ => rfl) (fun j b _ hb => same b (hT.ow.wne j b hb)) (fun b hb => same b (h.layq hn b hb).2) (fun _ => ⟨_, _, hwg'⟩) hs' (fun j j0 hj _ => same _ (h.chw j j0 hj)) (fun _ => ?_) (fun _ => same _ (h.qw hn)) (fun _ => hwg') hmo hc (fun y => absurd hf (by omega)) (fun hc' _ hr => ?_) (okW_book (hT.swW hn) hbk) (fun e he => low_book hW.1 (hbk e he)) (fun e he => norel_book (hbk e he)) (by rw [hde]; exact hd) (fun _ => hrel) (fun y => absurd hf (by omega)) (by rw [hst, hfu]; exact hlt)
    · obtain ⟨s', r', hc'⟩ := h.chan i hf hi
      exact ⟨s', r', by rw [same _ (h.chw i hf hi), hc', hst]; simp [h8, hx8]⟩
    · have := h.still hc' i hf hi hr
      omega
  -- .. that turns its own blocks
  have ownStep : ∀ {g' : Goroutine} {w' : World} {es : Array Event} {x : WD}, stepG P false g w = .go g' w' es → DWq (σ.K i) (Ow i) w w' es → Sit P ty σ.Wg σ.quit (σ.ch i) (σ.K i) z z' σ.al (Ow i) (σ.rem i) σ.closed x.stage x.fuel x.deaf g' w' → 8 ≤ s → x.stage = s → x.deaf = dd → x.fuel < m → (σ.closed = false → σ.first ≤ i → σ.rem i ≠ [] → x.stage = 9 ∧ 0 < x.fuel) → Result1 P ty z z' σ gs t w sl D a i := by
    intro g' w' es x hgo hD hs' h8 hxs hxd hlt hop
    have hf := hfirst (by omega)
    have hn := hni (by omega)
    have hnw : ¬ Ow i σ.Wg := fun ho => hT.ow.wne i _ ho rfl
    have hnq : ¬ Ow i σ.quit := fun ho => hT.ow.q hn i _ ho rfl
    have hnc : ∀ j, σ.first ≤ j → j < gs.size → ¬ Ow i (σ.ch j) := fun j j0 hj ho => hT.ow.ch i _ j ho (by have := h.pos; omega) hj rfl
    have rf : RF σ.F w w' := ⟨fun b hb => hD.out b fun ho => hb (hT.ow.F i b ho), Nat.le_of_eq hD.size.symm, fun b h1 h2 => by have := hD.size; omega, fun hr b o hb ho => by
      by_cases hown : Ow i b
      · rcases hD.tame b o hown ho with h1 | h1
        · exact hr b o hb h1
        · exact h1
      · rw [hD.out b hown] at ho
        exact hr b o hb ho, hD.tape, hD.os, hD.output⟩
    obtain ⟨s', r', hc'⟩ := h.chan i hf hi
    refine result_go (st' := st) (sm' := sm) h (hT.mono (Nat.le_of_eq hD.size.symm)) ha hm h0 hi hg hgo rf (fun _ _ => rfl) (fun j b hji hb => hD.out b fun ho => hji (hT.ow.inj j i b hb ho)) (fun b hb => hD.out b fun ho => hT.ow.lay i b ho hb) (fun hl => let ⟨s, m, x⟩ := hl; ⟨s, m, x.of_block (hD.out _ hnw)⟩) hs' (fun j j0 hj _ => hD.out _ (hnc j j0 hj)) (fun _ => ⟨s', r', by rw [hD.out _ (hnc i hf hi), hc', hst, hxs]⟩) (fun _ => hD.out _ hnq) (fun ht => (h.wg ht).of_block (hD.out _ hnw)) (fun tag' ht _ => (h.mode.same (by rw [hst, hxs])).retag ht) (by simp [cntD, hst, hxs]) (fun y => absurd hf (by omega)) hop (okW_own hD.ev) (fun e he => ?_) (fun e he a => by rcases hD.ev e he with ⟨b, rfl, _⟩ | ⟨b, wr, rfl, _⟩ <;> simp) (by rw [hde, hxd]; exact deaf_own hD.ev dd) (fun _ hx => by omega) (fun y => absurd hf (by omega)) (by rw [hst, hfu]; exact .inr ⟨hxs, hlt⟩)
    rcases hD.ev e he with ⟨b, rfl, hk⟩ | ⟨b, wr, rfl, hk⟩
    · obtain ⟨o, ho⟩ := Option.isSome_iff_exists.1 (h.klay i _ hk)
      exact (Array.getElem?_eq_some_iff.1 (h.layat _ o ho)).1
    · cases wr <;> exact hT.ow.lt i _ hk
  have rel6 : s ≤ 6 → s ≠ 1 → ∃ r, RelBy (stA σ.Wg) t i r := fun h6 h1 => hT.rel i (hfirst h1) hi (by omega)
  have relb : ∀ {es : Array Event}, s ≤ 6 → s ≠ 1 → (∀ e ∈ es, Bk σ.Wg e) → (∀ jx e, es[jx]? = some e → (MemAct.ofEvent e).touch? = none ∨ 0 < deafBehind dd (es.extract 0 jx)) → ∃ r, RelBy (stA σ.Wg) (t ++ MemOp.ofEvents i g.frame.fn g.frame.place es) i r := fun h6 h1 hbk hd =>
    let ⟨r, hr⟩ := rel6 h6 h1; ⟨r, hr.book (hdk.trans hde) _ _ hbk hd⟩
  have none_ev : ∀ jx e, (#[] : Array Event)[jx]? = some e → (MemAct.ofEvent e).touch? = none ∨ 0 < deafBehind dd ((#[] : Array Event).extract 0 jx) := fun jx e he => by simp at he
  have bk2 : ∀ e ∈ #[rd (stA σ.Wg), wr (stA σ.Wg)], Bk σ.Wg e := by intro e he; simp at he; rcases he with rfl | rfl <;> exact Go.ConcN.bk_cell _ _ rfl
  have bk1 : ∀ e ∈ #[rd (stA σ.Wg)], Bk σ.Wg e := by intro e he; simp at he; subst he; exact Go.ConcN.bk_cell _ _ rfl
  have bkw : ∀ e ∈ #[wr (stA σ.Wg)], Bk σ.Wg e := by intro e he; simp at he; subst he; exact Go.ConcN.bk_cell _ _ rfl
  cases hs with
  | @walk m' _ _ v vs er hgo =>
    have hf := hfirst (by omega)
    have hn := hni (by omega)
    rcases Goes.cases hgo with hstop | ⟨m'', rfl, hstep⟩
    · have hsel := hstop w (RWk.refl w)
      obtain ⟨s1, r1, hch⟩ := h.chan i hf hi
      rw [hst] at hch
      have hch' : w.heap[σ.ch i]? = some (.chan 0 #[] false s1 r1 false) := hch
      have hq := h.quit hn
      have hpq := parts_quit h ha hm i
      obtain ⟨h1, h2, h3, h4⟩ := id hsel
      have hb0 : (i == 0) = false := by simp; omega
      have h2' : stepG P (i == 0) g w = .comm (core g) (selCases σ.quit (σ.ch i) z z' v) true .select w #[] := by rw [hb0]; exact h2
      -- does the starter wait here?
      by_cases hwait : ∃ a₁ zz, a = parked a₁ #[rcase (σ.ch i) zz] (.recv true) ∧ σ.closed = false
      · obtain ⟨a₁, zz, e1, e2⟩ := hwait
        exact .inr ⟨a₁, zz, v, vs, e1, hf, e2, er, rfl, hsel⟩
      · refine .inl ?_
        have hoa : offersAt a (σ.ch i) false = [] := by
          cases hm with
          | run hr _ => exact offersAt_of_not_blocked (by rw [hr]; simp) _ _
          | @recv a₁ j zz j0 hj hc hr _ _ =>
            rw [offersAt_parked_recv, if_neg]
            intro e
            exact hwait ⟨a₁, zz, by rw [e], hc⟩
          | sema _ ho _ => exact offersAt_none ho _ _
        have hpc := parts_ch h ha hf hi hoa
        have hmain : ∀ (x : WD), (σ.closed = false → σ.rem i ≠ [] → x.stage = 9) → (∀ y, gs.setIfInBounds i y = gs.setIfInBounds i y) → ∀ y : Goroutine, Main { σ with tag := σ.tag } (gs.setIfInBounds i y) (upd D i x) a := by
          intro x hx _ y
          cases hm with
          | run hr hb => exact .run hr hb
          | @recv a₁ j zz j0 hj hc hr hfu' hb =>
            have hne : j ≠ i := fun e => hwait ⟨a₁, zz, by rw [e], hc⟩
            refine .recv j0 (by simpa using hj) hc hr ?_ hb
            rw [upd_ne D _ hne]; exact hfu'
          | sema hs' ho hb => exact .sema hs' ho hb
        cases hcl : σ.closed with
        | true =>
          rw [hcl] at hq
          have hr := crowd_sel_closed (sl := sl) hg h2' hch' hq hpc hpq
          obtain ⟨m2, hk⟩ := h4 w (RWk.refl w)
          have hsz : (gs.setIfInBounds i ((core g).finishComm P (selCases σ.quit (σ.ch i) z z' v) .select 1 z' false)).size = gs.size := by simp
          have hS := Sd_upd D (⟨8, m2, 0⟩ : WD) hi
          refine ⟨_, w, _, upd D i ⟨8, m2, 0⟩, a, σ.tag, ⟨hr, ⟨Ow, ⟨st, sm, ?_⟩, ?_⟩, .refl _ _, ?_, .inl (by rw [hst] at hS; simp only at hS; omega), hsz⟩, .inl ⟨rfl, rfl, hmain _ (fun e => by rw [hcl] at e; cases e) (fun _ => rfl) _⟩⟩
          · exact wi_set h h0 hi hsz (by simp [hi]) (fun j j0 hj hji => by rw [Array.getElem?_setIfInBounds_ne (fun e => hji e.symm)]) (fun _ _ => rfl) (fun _ _ _ _ => rfl) (fun _ _ => rfl) id (.shut hk) (fun _ _ _ _ => rfl) (fun _ => ⟨s1, r1, hch'⟩) (fun _ => rfl) (fun ht => h.wg ht) (h.mode.counted hi (by omega) (by simp)) Iff.rfl (by simp [cntD, hst]) (fun y => absurd hf (by omega)) (fun e => by rw [hcl] at e; cases e)
          · rw [hsz]
            have hT' := hT.plain (u := [{ g := i, fn := (core g).frame.fn, pos := (core g).frame.place, act := .recvClosed σ.quit }]) (D' := upd D i ⟨8, m2, 0⟩) (fun op hop => by
              simp only [List.mem_singleton] at hop
              subst hop
              exact ⟨hi, rfl, by simp, by simp, by simp, (Array.getElem?_eq_some_iff.1 hq).1⟩) (fun j j0 hj => by
              by_cases e : j = i
              · subst e; rw [upd_same, hde]
              · rw [upd_ne D _ e]) (fun j jf hj js => by
              by_cases e : j = i
              · subst e; rw [upd_same] at js; simp at js
              · rw [upd_ne D _ e] at js; exact js)
            have e0 : MemOp.ofEvents i g.frame.fn g.frame.place #[] = #[] := rfl
            rw [e0, Array.empty_append]
            exact hT'
          · rw [Array.getElem?_setIfInBounds_ne (by omega)]; exact ha
        | false =>
          rw [hcl] at hq
          have hr := crowd_sel_waits (sl := sl) hg h2' hch' hq hpc hpq
          have hsz : (gs.setIfInBounds i (parked (core g) (selCases σ.quit (σ.ch i) z z' v) .select)).size = gs.size := by simp
          have hS := Sd_upd D (⟨9, 0, 0⟩ : WD) hi
          have hF := Fd_upd D (⟨9, 0, 0⟩ : WD) hi
          refine ⟨_, w, _, upd D i ⟨9, 0, 0⟩, a, σ.tag, ⟨hr, ⟨Ow, ⟨st, sm, ?_⟩, ?_⟩, .refl _ _, ?_, .inr (by rw [hst] at hS; rw [hfu] at hF; simp only at hS hF; omega), hsz⟩, .inl ⟨rfl, rfl, hmain _ (fun _ _ => rfl) (fun _ => rfl) _⟩⟩
          · exact wi_set h h0 hi hsz (by simp [hi]) (fun j j0 hj hji => by rw [Array.getElem?_setIfInBounds_ne (fun e => hji e.symm)]) (fun _ _ => rfl) (fun _ _ _ _ => rfl) (fun _ _ => rfl) id (.park er hcl fun w₁ r₁ => hstop w₁ r₁) (fun _ _ _ _ => rfl) (fun _ => ⟨s1, r1, hch'⟩) (fun _ => rfl) (fun ht => h.wg ht) (h.mode.same (by simp [hst])) Iff.rfl (by simp [cntD, hst]) (fun y => absurd hf (by omega)) (fun _ _ _ => rfl)
          · rw [hsz]
            have hT' := hT.plain (u := []) (D' := upd D i ⟨9, 0, 0⟩) (by simp) (fun j j0 hj => by
              by_cases e : j = i
              · subst e; rw [upd_same, hde]
              · rw [upd_ne D _ e]) (fun j jf hj js => by
              by_cases e : j = i
              · subst e; rw [upd_same] at js; simp at js
              · rw [upd_ne D _ e] at js; exact js)
            exact hT'
          · rw [Array.getElem?_setIfInBounds_ne (by omega)]; exact ha
    · obtain ⟨g', w', es, hgo', hD, hg'⟩ := hstep w (RWk.refl w)
      exact .inl (ownStep (x := ⟨9, m'' + 1, 0⟩) hgo' hD (.walk er hg') (by omega) rfl rfl (by simp) fun _ _ _ => ⟨rfl, by simp⟩)
  | @make m' _ _ v vs er hgo =>
    have hf := hfirst (by omega)
    have hn := hni (by omega)
    rcases Goes.cases hgo with hstop | ⟨m'', rfl, hstep⟩
    · obtain ⟨_, hal, ob, g', htame, hgo', m2, hm2, hk⟩ := hstop w (RWk.refl w)
      let Ow' : Nat → Nat → Prop := fun j b => Ow j b ∨ (j = i ∧ b = w.heap.size)
      have eO : Ow' i = fun b => Ow i b ∨ b = w.heap.size := by funext b; simp [Ow']
      have eN : ∀ j, j ≠ i → Ow' j = Ow j := fun j hj => by funext b; simp [Ow', hj]
      have old : ∀ b, b ≠ w.heap.size → (w.alloc ob).heap[b]? = w.heap[b]? := fun b hb => by
        show (w.heap.push ob)[b]? = _
        rw [Array.getElem?_push, if_neg hb]
      have oldlt : ∀ b, b < w.heap.size → (w.alloc ob).heap[b]? = w.heap[b]? := fun b hb => old b (by omega)
      have hWl := (Array.getElem?_eq_some_iff.1 (h.wg hn)).1
      have hql := (Array.getElem?_eq_some_iff.1 (h.quit hn)).1
      have hcl : ∀ j, σ.first ≤ j → j < gs.size → σ.ch j < w.heap.size := fun j j0 hj => let ⟨_, _, hc⟩ := h.chan j j0 hj; (Array.getElem?_eq_some_iff.1 hc).1
      obtain ⟨s', r', hc'⟩ := h.chan i hf hi
      have hsz : (w.alloc ob).heap.size = w.heap.size + 1 := World.size_alloc _ _
      have rf : RF σ.F w (w.alloc ob) := ⟨fun b hb => old b fun e => hb (e ▸ hT.ow.wide hal _ (Nat.le_refl _)), by omega, fun b h1 _ => hT.ow.wide hal b h1, fun hr b o hb ho => by
        by_cases e : b = w.heap.size
        · subst e
          have : (w.heap.push ob)[w.heap.size]? = some o := ho
          simp at this
          rw [← this]; exact htame
        · rw [old b e] at ho
          exact hr b o hb ho, rfl, rfl, rfl⟩
      refine .inl (result_go (x := ⟨9, m2 + 1, 0⟩) (st' := st) (sm' := sm) (Ow' := Ow') h (by rw [hsz]; exact hT.make hi hal hn) ha hm h0 hi hg hgo' rf eN (fun j b _ hb => oldlt b (hT.ow.lt j b hb)) (fun b hb => oldlt b (hT.layn b hb)) (fun hl => let ⟨s, m, x⟩ := hl; ⟨s, m, x.of_block (oldlt _ hWl)⟩) ?_ (fun j j0 hj _ => oldlt _ (hcl j j0 hj)) (fun _ => ⟨s', r', by rw [oldlt _ (hcl i hf hi), hc', hst]⟩) (fun _ => oldlt _ hql) (fun ht => (h.wg ht).of_block (oldlt _ hWl)) (fun tag' ht _ => (h.mode.same (by simp [hst])).retag ht) (by simp [cntD, hst]) (fun y => absurd hf (by omega)) (fun _ _ _ => ⟨rfl, by simp⟩) (by intro op hop; simp [MemOp.ofEvents] at hop) (by simp) (by simp) (by rw [hde]; rfl) (fun _ hx => by simp at hx) (fun y => absurd hf (by omega)) (.inr ⟨by rw [hst], by rw [hfu]; simp only; omega⟩))
      show Sit P ty σ.Wg σ.quit (σ.ch i) (σ.K i) z z' σ.al (Ow' i) (σ.rem i) σ.closed 9 (m2 + 1) 0 g' (w.alloc ob)
      rw [eO]
      exact .walk er hk
    · obtain ⟨g', w', es, hgo', hD, hg'⟩ := hstep w (RWk.refl w)
      exact .inl (ownStep (x := ⟨9, m'' + 200, 0⟩) hgo' hD (.make er hg') (by omega) rfl rfl (by simp only; omega) fun _ _ _ => ⟨rfl, by simp⟩)
  | park er ec hs' => cases hrun
  | shut hgo =>
    have hf := hfirst (by omega)
    have hn := hni (by omega)
    have hstuck : σ.closed = false → σ.rem i ≠ [] → False := fun hc hr => by have := h.still hc i hf hi hr; omega
    rcases Goes.cases hgo with hstop | ⟨m', rfl, hstep⟩
    · obtain ⟨_, hx⟩ := hstop w (RWk.refl w)
      obtain ⟨s1, r1, hch⟩ := h.chan i hf hi
      rw [hst] at hch
      have hch' : w.heap[σ.ch i]? = some (.chan 0 #[] false s1 r1 false) := hch
      obtain ⟨g', hgo', m2, hk⟩ := hx s1 r1 hch'
      have hlt := (Array.getElem?_eq_some_iff.1 hch').1
      refine .inl (result_go (x := ⟨7, m2, 0⟩) (st' := st) (sm' := sm) h (hT.mono (by simp [World.setChan])) ha hm h0 hi hg hgo' (RF.setChan (h.fch i hf hi)) (fun _ _ => rfl) (fun j b _ hb => setChan_ne (hT.ow.ch j b i hb h0 hi)) (fun b hb => setChan_ne (h.laych i b hf hi hb)) (fun hl => let ⟨s, m, x⟩ := hl; ⟨s, m, x.of_block (setChan_ne (h.chw i hf hi).symm)⟩) (.r0 hk) (fun j j0 hj hji => setChan_ne fun e => hji (h.inj j i j0 hj hf hi e)) (fun _ => ⟨s1, r1, setChan_same hch'⟩) (fun _ => setChan_ne (h.chq i hf hi).symm) (fun ht => (h.wg ht).of_block (setChan_ne (h.chw i hf hi).symm)) (fun tag' ht _ => (h.mode.counted hi (by omega) (by simp)).retag ht) (by simp [cntD, hst]) (fun y => absurd hf (by omega)) (fun hc _ hr => (hstuck hc hr).elim)
        (okW_close i) (by intro e he; simp at he; rcases he with rfl | rfl <;> exact hlt) (by intro e he; simp at he; rcases he with rfl | rfl <;> simp) (by rw [hde]; rfl) (fun _ hx => by simp at hx) (fun y => absurd hf (by omega)) (.inl (by rw [hst]; simp)))
    · obtain ⟨g', w', es, hgo', hD, hg'⟩ := hstep w (RWk.refl w)
      exact .inl (ownStep (x := ⟨8, m', 0⟩) hgo' hD (.shut hg') (by omega) rfl rfl (by simp) fun hc _ hr => (hstuck hc hr).elim)
  | r0 hgo =>
    have hf := hfirst (by omega)
    have hn := hni (by omega)
    rcases Goes.cases hgo with hstop | ⟨m', rfl, hstep⟩
    · obtain ⟨_, g', hgo', m2, hk⟩ := hstop w (RWk.refl w)
      have hW := (Array.getElem?_eq_some_iff.1 (h.wg hn)).1
      refine .inl (idle (x := ⟨6, m2, 0⟩) hgo' (.k1 hk) (by simp) (h.mode.counted hi (by omega) (by simp)) (by simp [cntD, hst]) (fun y => absurd hf (by omega)) (fun hc _ hr => ?_) (okW_quiet (by intro e he; simp at he; subst he; rfl)) (by intro e he; simp at he; subst he; exact hW) (by intro e he; simp at he; subst he; simp [mk]) rfl (fun _ _ => ⟨t.size, RelBy.new (hdk.trans hde) _ _⟩) (fun y => absurd hf (by omega)) (.inl (by simp)))
      have := h.still hc i hf hi hr
      omega
    · obtain ⟨g', w', es, hgo', ⟨rfl, rfl⟩, hg'⟩ := hstep w (RWk.refl w)
      exact .inl (book0 (x := ⟨7, m', 0⟩) hgo' (.r0 hg') (by omega) (by simp) (by omega) (h.mode.same (by simp [hst])) (by simp [cntD, hst]) (by simp) rfl (fun hx => by simp at hx) (.inr ⟨rfl, by simp⟩))
  | k1 hgo =>
    rcases Goes.cases hgo with hstop | ⟨m', rfl, hstep⟩
    · obtain ⟨_, g', hgo', m2, hk⟩ := hstop w (RWk.refl w)
      have bd : ∀ e ∈ #[mk .disable], Bk σ.Wg e := by intro e he; simp at he; subst he; exact .inl rfl
      exact .inl (book0 (x := ⟨5, m2, 1⟩) hgo' (.d1 hk) (by omega) (by simp) (by omega) (h.mode.counted hi (by omega) (by simp)) (by simp [cntD, hst]) bd rfl (fun _ => relb (by omega) (by omega) bd (by intro jx e he; exact .inl (by have := Array.mem_of_getElem? he; simp at this; subst this; rfl))) (.inl (by simp)))
    · obtain ⟨g', w', es, hgo', ⟨rfl, rfl⟩, hg'⟩ := hstep w (RWk.refl w)
      exact .inl (book0 (x := ⟨6, m', 0⟩) hgo' (.k1 hg') (by omega) (by simp) (by omega) (h.mode.same (by simp [hst])) (by simp [cntD, hst]) (by simp) rfl (fun _ => relb (by omega) (by omega) (by simp) none_ev) (.inr ⟨rfl, by simp⟩))
  | d1 hgo =>
    rcases Goes.cases hgo with hstop | ⟨m', rfl, hstep⟩
    · obtain ⟨_, hall⟩ := hstop w (RWk.refl w)
      have hn := hni (by omega)
      have hwg := h.wg hn
      have hc1 : cntD (D i) = 1 := by simp [cntD, hst]
      have hV1 : 1 ≤ Vd gs.size D := by have := le_sumTo (f := fun x => cntD (D x)) hi; simp only [Vd]; omega
      have hVN : Vd gs.size D ≤ gs.size := by
        have := Go.ConcN.sumTo_le (f := fun i => cntD (D i)) (c := 1) (j := gs.size) fun i _ => by simp only [cntD]; split <;> omega
        simp only [Vd]; omega
      have df2 : ∀ jx e, (#[rd (stA σ.Wg), wr (stA σ.Wg)] : Array Event)[jx]? = some e → (MemAct.ofEvent e).touch? = none ∨ 0 < deafBehind 1 ((#[rd (stA σ.Wg), wr (stA σ.Wg)] : Array Event).extract 0 jx) := by
        intro jx e he
        match jx, he with
        | 0, _ => exact .inr (by simp [deafBehind])
        | 1, _ => exact .inr (by simp [deafBehind, rd])
        | jx + 2, he => simp at he
      have hq0 : ∀ q, cntD (⟨1, q, 1⟩ : WD) = 0 := fun _ => rfl
      have opq : ∀ q, OpenD gs.size D → OpenD gs.size (upd D i ⟨1, q, 1⟩) := fun q h a ha => by
        by_cases e : a = i
        · subst e; rw [upd_same]; exact .inr rfl
        · rw [upd_ne D _ e]; exact h a ha
      have hmode := h.mode
      generalize htg : σ.tag = tg at hmode
      cases hmode with
      | idle hx => exact absurd htg hn
      | @opn p _ h1 h2 =>
        have hp1 : p.toNat ≤ 1 := by cases p <;> simp
        obtain ⟨v, hv⟩ : ∃ v, Vd gs.size D + p.toNat = v + 1 := ⟨Vd gs.size D + p.toNat - 1, by omega⟩
        rw [h2, hv] at hwg
        have hw1 : WgAt ty σ.Wg w (((v : Nat) + 1) * KK + ((0 : Nat) : Int)) 0 := by simpa using hwg
        obtain ⟨g', hgo', _, hq⟩ := hall v 0 (by omega) (by omega) hw1
        obtain ⟨q, hq⟩ := hq (by omega)
        have hv' : Vd gs.size (upd D i ⟨1, q, 1⟩) + p.toNat = v := by have := Vd_upd D (⟨1, q, 1⟩ : WD) hi; have := hq0 q; omega
        refine .inl (bookW (x := ⟨1, q, 1⟩) hgo' rfl rfl (hwg.setSt _) (.quit hq) (by omega) (by simp) (by omega) (fun tag' ht _ => ?_) (by simp [cntD]) bk2 rfl (fun _ => relb (by omega) (by omega) bk2 df2) (.inl (by simp)))
        have et : tag' = .opn p := by
          rcases ht with e | ⟨e, _⟩
          · rw [e, htg]
          · rw [htg] at e; cases e
        subst et
        exact .opn (opq q h1) (by rw [hv']; simp)
      | reg hW h1 h2 h3 =>
        obtain ⟨v, hv⟩ : ∃ v, Vd gs.size D = v + 1 := ⟨Vd gs.size D - 1, by omega⟩
        rw [h3, hv] at hwg
        have hw1 : WgAt ty σ.Wg w (((v : Nat) + 1) * KK + ((1 : Nat) : Int)) 0 := by simpa using hwg
        obtain ⟨g', hgo', hl, hq⟩ := hall v 1 (by omega) (by omega) hw1
        have isw : ∀ tag', (tag' = σ.tag ∨ (σ.tag = .blk ∧ tag' = .w3)) → isW tag' := fun tag' ht => by
          rcases ht with e | ⟨_, e⟩
          · rw [e, htg]; exact hW
          · exact .inl e
        by_cases hv0 : v = 0
        · subst hv0
          obtain ⟨m2, hk⟩ := hl ⟨rfl, rfl⟩
          refine .inl (bookW (x := ⟨4, m2, 1⟩) hgo' rfl rfl (hwg.setSt _) (.d2 hk) (by omega) (by simp) (by omega) (fun tag' ht _ => ?_) (by simp [cntD]) bk2 rfl (fun _ => relb (by omega) (by omega) bk2 df2) (.inl (by simp)))
          refine .last i (isw _ ht) hi (by rw [upd_same]; simp) (fun a ha e => ?_) (by rw [upd_same]; simp)
          rw [upd_ne D _ e]
          have c0 := uncounted hi hv hc1 a ha e
          have := h1 a ha
          simp only [cntD] at c0
          split at c0 <;> omega
        · obtain ⟨q, hq⟩ := hq (by omega)
          have hv' : Vd gs.size (upd D i ⟨1, q, 1⟩) = v := by have := Vd_upd D (⟨1, q, 1⟩ : WD) hi; have := hq0 q; omega
          refine .inl (bookW (x := ⟨1, q, 1⟩) hgo' rfl rfl (hwg.setSt _) (.quit hq) (by omega) (by simp) (by omega) (fun tag' ht _ => ?_) (by simp [cntD]) bk2 rfl (fun _ => relb (by omega) (by omega) bk2 df2) (.inl (by simp)))
          exact .reg (isw _ ht) (opq q h1) (by omega) (by rw [hv']; simp)
      | last L hW h2 h3 h4 h5 =>
        by_cases e : i = L
        · subst e; omega
        · have := h4 i hi e; omega
      | sema h2 => have := h2 i hi; omega
      | fin h2 => have := h2 i hi; omega
    · obtain ⟨g', w', es, hgo', ⟨rfl, rfl⟩, hg'⟩ := hstep w (RWk.refl w)
      exact .inl (book0 (x := ⟨5, m', 1⟩) hgo' (.d1 hg') (by omega) (by simp) (by omega) (h.mode.same (by simp [hst])) (by simp [cntD, hst]) (by simp) rfl (fun _ => relb (by omega) (by omega) (by simp) none_ev) (.inr ⟨rfl, by simp⟩))
  | d2 hgo =>
    rcases Goes.cases hgo with hstop | ⟨m', rfl, hstep⟩
    · obtain ⟨_, hx⟩ := hstop w (RWk.refl w)
      have hn := hni (by omega)
      obtain ⟨hW, hoth, e1, e2⟩ := h.mode.isLast hi (by omega)
      have hwg := h.wg hn
      rw [e1, e2, hst] at hwg
      obtain ⟨g', hgo', m2, hk⟩ := hx (by simpa using hwg)
      refine .inl (book0 (x := ⟨3, m2, 1⟩) hgo' (.d3 hk) (by omega) (by simp) (by omega) ?_ (by simp [cntD]) bk1 rfl (fun _ => relb (by omega) (by omega) bk1 (by intro jx e he; match jx, he with | 0, _ => exact .inr (by simp [deafBehind]) | jx + 1, he => simp at he)) (.inl (by simp)))
      rw [e1, e2]
      exact .last i hW hi (by rw [upd_same]; simp) (fun a ha e => by rw [upd_ne D _ e]; exact hoth a ha e) (by rw [upd_same, hst]; simp)
    · obtain ⟨g', w', es, hgo', ⟨rfl, rfl⟩, hg'⟩ := hstep w (RWk.refl w)
      exact .inl (book0 (x := ⟨4, m', 1⟩) hgo' (.d2 hg') (by omega) (by simp) (by omega) (h.mode.same (by simp [hst])) (by simp [cntD, hst]) (by simp) rfl (fun _ => relb (by omega) (by omega) (by simp) none_ev) (.inr ⟨rfl, by simp⟩))
  | d3 hgo =>
    rcases Goes.cases hgo with hstop | ⟨m', rfl, hstep⟩
    · obtain ⟨_, hx⟩ := hstop w (RWk.refl w)
      have hn := hni (by omega)
      obtain ⟨hW, hoth, e1, e2⟩ := h.mode.isLast hi (by omega)
      have hwg := h.wg hn
      rw [e1, e2, hst] at hwg
      obtain ⟨g', hgo', m2, hk⟩ := hx (by simpa using hwg)
      refine .inl (bookW (x := ⟨2, m2, 1⟩) hgo' rfl rfl (hwg.setSt 0) (.d4 hk) (by omega) (by simp) (by omega) (fun tag' ht _ => ?_) (by simp [cntD]) bkw rfl (fun _ => relb (by omega) (by omega) bkw (by intro jx e he; match jx, he with | 0, _ => exact .inr (by simp [deafBehind]) | jx + 1, he => simp at he)) (.inl (by simp)))
      have isw : isW tag' := by
        rcases ht with e | ⟨_, e⟩
        · rw [e]; exact hW
        · exact .inl e
      exact .last i isw hi (by rw [upd_same]; simp) (fun a ha e => by rw [upd_ne D _ e]; exact hoth a ha e) (by rw [upd_same]; simp)
    · obtain ⟨g', w', es, hgo', ⟨rfl, rfl⟩, hg'⟩ := hstep w (RWk.refl w)
      exact .inl (book0 (x := ⟨3, m', 1⟩) hgo' (.d3 hg') (by omega) (by simp) (by omega) (h.mode.same (by simp [hst])) (by simp [cntD, hst]) (by simp) rfl (fun _ => relb (by omega) (by omega) (by simp) none_ev) (.inr ⟨rfl, by simp⟩))
  | d4 hgo =>
    rcases Goes.cases hgo with hstop | ⟨m', rfl, hstep⟩
    · obtain ⟨_, hmw, hx⟩ := hstop w (RWk.refl w)
      have hn := hni (by omega)
      obtain ⟨hW, hoth, e1, e2⟩ := h.mode.isLast hi (by omega)
      have hwg := h.wg hn
      rw [e1, e2, hst] at hwg
      obtain ⟨g', hgo', q, hq⟩ := hx (by simpa using hwg)
      have hrun' : g'.status = .running := by
        cases q with
        | zero => exact absurd hq.2 (by decide)
        | succ q => exact hq.elim (fun x => absurd x.2 (by decide)) (fun x => x.1)
      have bks : ∀ e ∈ semEvents (smA σ.Wg), Bk σ.Wg e := by
        intro e he
        simp [semEvents] at he
        rcases he with rfl | rfl | rfl | rfl
        · exact .inl rfl
        · exact Go.ConcN.bk_cell _ _ rfl
        · exact Go.ConcN.bk_cell _ _ rfl
        · exact .inr (.inl rfl)
      refine .inl (bookW (x := ⟨1, q, 1⟩) hgo' rfl rfl (hwg.setSm 1) (.quit hq) (by omega) (by simp) (by omega) (fun tag' ht hw => ?_) (by simp [cntD]) bks (by simp [deafBehind, semEvents]) (fun _ => relb (by omega) (by omega) bks ?_) (.inl (by simp)))
      · have hnb := hw hmw hrun'
        have e3 : tag' = .w3 := by
          rcases ht with e | ⟨_, e⟩
          · rw [← e] at hW
            exact hW.resolve_right hnb
          · exact e
        subst e3
        simp only [if_true]
        exact .sema fun a ha => by
          by_cases e : a = i
          · subst e; rw [upd_same]
          · rw [upd_ne D _ e]; exact hoth a ha e
      · intro jx e he
        match jx, he with
        | 0, he => simp [semEvents] at he; subst he; exact .inl rfl
        | 1, _ => exact .inr (by simp [deafBehind, semEvents])
        | 2, _ => exact .inr (by simp [deafBehind, semEvents])
        | 3, he => simp [semEvents] at he; subst he; exact .inl rfl
        | jx + 4, he => simp [semEvents] at he
    · obtain ⟨g', w', es, hgo', ⟨rfl, rfl⟩, hg'⟩ := hstep w (RWk.refl w)
      exact .inl (book0 (x := ⟨2, m', 1⟩) hgo' (.d4 hg') (by omega) (by simp) (by omega) (h.mode.same (by simp [hst])) (by simp [cntD, hst]) (by simp) rfl (fun _ => relb (by omega) (by omega) (by simp) none_ev) (.inr ⟨rfl, by simp⟩))
  | quit hq =>
    cases m with
    | zero => rw [hq.1] at hrun; cases hrun
    | succ k =>
      rcases hq with ⟨hf, _⟩ | ⟨_, g', es, hmute, hstep, hq⟩
      · rw [hf] at hrun; cases hrun
      · have hbk : ∀ e ∈ es, Bk σ.Wg e := fun e he => bk_of_mute (hmute e he)
        have hno : ∀ e ∈ es, (MemAct.ofEvent e).touch? = none := fun e he => touch_mute (hmute e he)
        refine .inl (idle (x := ⟨1, k, deafBehind dd es⟩) (hstep w) (.quit hq) (by simp) (h.mode.same (by simp [hst])) (by simp [cntD]) (fun _ => rfl) (fun hc hf hr => ?_) (okW_quiet hno) (fun e he => low_mute (hmute e he) _) (fun e he => norel_book (hbk e he)) rfl (fun hf _ => ?_) (fun _ => hno) (.inr ⟨rfl, by simp⟩))
        · have := h.still hc i hf hi hr
          omega
        · obtain ⟨r, hr⟩ := hT.rel i hf hi (by omega)
          exact ⟨r, relBy_appNone hr fun op hop _ => by obtain ⟨e, he, rfl⟩ := Go.Conc.mem_ofEvents hop; exact hno e he⟩
end
end Go.Proofs.Ytmllcfkgkkbkpaa
/-
  THE STARTER: what is asked of it, node by node.
-/
namespace Go.Proofs.Ytmllcfkgkkbkpaa
open Go Go.Conc
open Go.ConcN (sumTo upd sumTo_upd upd_ne upd_same CT RelBy WD WgLive OkW Ok0 Apart PermW get_map_set get_map_set_same le_sumTo)
open Go.ConcR (KK wgBlock WgAt stA smA rd wr mk DC0 Bk bk_of_mute ofEvent_loc_mark g_of_ofEvents)

/-- The run ends well from here. -/
def Ends (P : Program) (Post : Value → World → Prop) (m : Machine) (t : Trace) : Prop :=
  ∃ N last o w' t', runNT P (N + 1) m t = (.ended o w', t') ∧ runN P N m = .next last ∧ step P last = .ended o w' ∧ Good P Post last o w' t'
theorem Ends.step {P : Program} {Post : Value → World → Prop} {m m' : Machine} {t : Trace} {ops : Array MemOp} (h : stepT P m = (.next m', ops)) (he : Ends P Post m' (t ++ ops)) : Ends P Post m t := by
  obtain ⟨N, last, o, w', t', h1, h2, h3, h4⟩ := he
  exact ⟨N + 1, last, o, w', t', by rw [runNT_succ_next h]; exact h1, by rw [runN_succ_next h]; exact h2, h3, h4⟩
/-- ████ WHATEVER THE OTHERS DO, the run ends well from here. ████ -/
def MS (P : Program) (ty : TypeId) (z z' : Value) (Post : Value → World → Prop) (σ : Ph) (g : Goroutine) (w : World) : Prop :=
  ∀ w₁, RF σ.F w w₁ → ∀ (gs : Array Goroutine) (sl : Option (Nat × Nat)) (t : Trace) (D : Nat → WD), Inv P ty z z' σ gs t w₁ D → gs[0]? = some g → Ends P Post (crowd gs w₁ sl) t

section
variable {P : Program} {ty : TypeId} {z z' : Value} {Post : Value → World → Prop} {σ : Ph} {Ow : Nat → Nat → Prop} {g : Goroutine} {w w' : World}
theorem RF.at {F : Nat → Prop} (w : World) (d : Nat) : RF F w (w.at d) := ⟨fun _ _ => rfl, Nat.le_refl _, fun b h1 h2 => absurd (show b < w.heap.size from h2) (by omega), id, rfl, rfl, rfl⟩
theorem MS.rely (h : MS P ty z z' Post σ g w) (r : RF σ.F w w') : MS P ty z z' Post σ g w' := fun w₁ r₁ => h w₁ (RF.trans _ _ _ r r₁)
theorem lt2_ind {C : Nat → Nat → Prop} (h : ∀ a b, (∀ a' b', (a' < a ∨ (a' = a ∧ b' < b)) → C a' b') → C a b) : ∀ a b, C a b := by
  intro a
  induction a using Nat.strongRecOn with
  | _ a iha =>
    intro b
    induction b using Nat.strongRecOn with
    | _ b ihb =>
      refine h a b fun a' b' hl => ?_
      rcases hl with hl | ⟨rfl, hl⟩
      · exact iha a' hl b'
      · exact ihb b' hl
theorem all_awake {gs : Array Goroutine} {t : Trace} {D : Nat → WD} (hI : Inv P ty z z' σ gs t w D) {a : Goroutine} (ha : gs[0]? = some a) (hs : awake a) : ∀ g ∈ gs, awake g := by
  intro g hg
  obtain ⟨i, hi, rfl⟩ := Array.mem_iff_getElem.1 hg
  rcases Nat.eq_zero_or_pos i with rfl | hpos
  · have : gs[0] = a := by simpa [Array.getElem?_eq_getElem hi] using ha
    rw [this]; exact hs
  · obtain ⟨_, ⟨st, sm, h⟩, _⟩ := hI
    obtain ⟨g, hg, hs⟩ := h.sit i hpos hi
    rw [Array.getElem?_eq_getElem hi] at hg
    cases hg
    exact hs.awake
/-- A NODE: the starter runs. -/
theorem ms_node (hr : g.status = .running) (hb : σ.tag ≠ .blk)
    (h : ∀ w₁, RF σ.F w w₁ → ∀ (gs : Array Goroutine) (sl : Option (Nat × Nat)) (t : Trace) (D : Nat → WD), Inv P ty z z' σ gs t w₁ D → gs[0]? = some g →
      (∃ m' ops, runT P (crowd gs w₁ sl) 0 = (.next m', ops) ∧ Ends P Post m' (t ++ ops)) ∨ ∃ o w' ops, runT P (crowd gs w₁ sl) 0 = (.ended o w', ops) ∧ ∀ w₀ sl₀, Good P Post (crowd gs w₀ sl₀) o w' (t ++ ops)) : MS P ty z z' Post σ g w := by
  intro w₁ r₁ gs sl t D hI hg
  have key : ∀ a b (w₁ : World) (gs : Array Goroutine) (sl : Option (Nat × Nat)) (t : Trace) (D : Nat → WD), Sd gs.size D = a → Fd gs.size D = b → RF σ.F w w₁ → Inv P ty z z' σ gs t w₁ D → gs[0]? = some g → Ends P Post (crowd gs w₁ sl) t := by
    refine lt2_ind fun a b ih w₁ gs sl t D ea eb r₁ hI hg => ?_
    obtain ⟨i, x, d, sl', hi, hx, hst⟩ := crowd_pick (P := P) (w := w₁) (sl := sl) (all_awake hI hg (awake_of (.inl hr))) ⟨0, g, hg, hr⟩
    have hI' := hI.at d
    have r' : RF σ.F w (w₁.at d) := RF.trans _ _ _ r₁ (RF.at _ _)
    rcases Nat.eq_zero_or_pos i with rfl | hpos
    · rcases h (w₁.at d) r' gs sl' t D hI' hg with ⟨m', ops, h1, h2⟩ | ⟨o, w', ops, h1, h2⟩
      · exact Ends.step (hst.trans h1) h2
      · refine ⟨0, crowd gs w₁ sl, o, w', t ++ ops, ?_, rfl, ?_, h2 w₁ sl⟩
        · simp [runNT, hst, h1]
        · simp [Go.step, hst, h1]
    · have hlt := (Array.getElem?_eq_some_iff.1 hi).1
      obtain ⟨Ow, ⟨st, sm, hW⟩, hT⟩ := hI'
      rcases others hW hT hg (.run hr hb) hpos hlt hi hx sl' with ⟨gs', w', ops, D', a', tag', hw, hc⟩ | ⟨a₁, zz, v, vs, e, _⟩
      · rcases hc with ⟨rfl, rfl, _⟩ | ⟨e, _⟩
        · refine Ends.step (hst.trans hw.run) ?_
          refine ih _ _ ?_ _ _ _ _ _ rfl rfl (RF.trans _ _ _ r' hw.rf) hw.inv hw.main
          rw [hw.size, ← ea, ← eb]
          exact hw.less
        · exact absurd e hb
      · rw [e] at hr; cases hr
  exact key _ _ w₁ gs sl t D rfl rfl r₁ hI hg
/-- Both are served: the starter's thing is taken off its worker's list. -/
def took (σ : Ph) (j : Nat) (vs : List Value) : Ph := { σ with rem := upd σ.rem j vs }
theorem inv_meet {gs gs' : Array Goroutine} {t : Trace} {D : Nat → WD} {st sm : Int} (h : WI P ty z z' σ Ow gs w D st sm) (hT : TI σ Ow gs.size t w.heap.size D) {j : Nat} {v : Value} {vs : List Value} (j0 : σ.first ≤ j) (hj : j < gs.size) (hc : σ.closed = false) (hr : σ.rem j = v :: vs) {s r : Nat}
    (hch : w.heap[σ.ch j]? = some (.chan 0 #[] false s r false)) {g' : Goroutine} (hg' : WNext P ty σ.Wg σ.quit (σ.ch j) (σ.K j) z z' σ.al vs (Ow j) g' (w.setChan (σ.ch j) 0 #[] false (s + 1) (r + 1) false))
    (hsz : gs'.size = gs.size) (hgi : gs'[j]? = some g') (hgj : ∀ k, 0 < k → k < gs.size → k ≠ j → gs'[k]? = gs[k]?) {u : List MemOp} (hu : ∀ op ∈ u, Plain0 gs.size w.heap.size op) :
    ∃ D', Inv P ty z z' (took σ j vs) gs' (t ++ u.toArray) (w.setChan (σ.ch j) 0 #[] false (s + 1) (r + 1) false) D' := by
  have jp : 0 < j := by have := h.pos; omega
  have e9 := h.still hc j j0 hj (by rw [hr]; simp)
  have hd0 : (D j).deaf = 0 := by
    obtain ⟨y, _, hs⟩ := h.sit j jp hj
    generalize hdd : (D j).deaf = dd at hs
    generalize (D j).fuel = ff at hs
    rw [e9] at hs
    cases hs <;> rfl
  have hni : σ.tag ≠ .idle := fun e => by have := h.none e; omega
  obtain ⟨x, hx1, hx2, hx3, hx4, hx5⟩ : ∃ x : WD, Sit P ty σ.Wg σ.quit (σ.ch j) (σ.K j) z z' σ.al (Ow j) vs σ.closed x.stage x.fuel x.deaf g' (w.setChan (σ.ch j) 0 #[] false (s + 1) (r + 1) false) ∧ 8 ≤ x.stage ∧ x.deaf = 0 ∧ x.stage ≤ 9 ∧ (vs ≠ [] → x.stage = 9) := by
    cases vs with
    | nil =>
      obtain ⟨m, hg'⟩ := hg'
      exact ⟨⟨8, m, 0⟩, .shut hg', by simp, rfl, by simp, fun e => absurd rfl e⟩
    | cons v' vs' =>
      rcases hg' with ⟨m, hg'⟩ | ⟨m, hg'⟩
      · exact ⟨⟨9, m + 1, 0⟩, .walk rfl hg', by simp, rfl, by simp, fun _ => rfl⟩
      · exact ⟨⟨9, m + 200, 0⟩, .make rfl hg', by simp, rfl, by simp, fun _ => rfl⟩
  refine ⟨upd D j x, Ow, ⟨st, sm, ?_⟩, ?_⟩
  · have := wi_setR (tag' := σ.tag) (rem' := upd σ.rem j vs) (x := x) (st' := st) (sm' := sm) h jp hj (fun k hk => upd_ne σ.rem _ hk) hsz hgi hgj (w' := w.setChan (σ.ch j) 0 #[] false (s + 1) (r + 1) false) (fun _ _ => rfl) (fun k b _ hb => setChan_ne (hT.ow.ch k b j hb jp hj)) (fun b hb => setChan_ne (h.laych j b j0 hj hb))
      (fun hl => let ⟨s, m, x⟩ := hl; ⟨s, m, x.of_block (setChan_ne (h.chw j j0 hj).symm)⟩) (by rw [upd_same]; exact hx1) (fun k k0 hk hkj => setChan_ne fun e => hkj (h.inj k j k0 hk j0 hj e)) (fun _ => ⟨s + 1, r + 1, by rw [setChan_same hch]; simp; omega⟩)
      (fun _ => setChan_ne (h.chq j j0 hj).symm) (fun ht => (h.wg ht).of_block (setChan_ne (h.chw j j0 hj).symm)) (h.mode.counted hj (by omega) (by omega)) Iff.rfl (by simp only [cntD, e9]; split <;> simp) (fun y => by omega) (fun _ _ hv => hx5 (by rwa [upd_same] at hv))
    exact this
  · have e : (w.setChan (σ.ch j) 0 #[] false (s + 1) (r + 1) false).heap.size = w.heap.size := by simp [World.setChan]
    rw [e, hsz]
    have := hT.plain (D' := upd D j x) hu (fun i i0 hi => by
      by_cases e : i = j
      · subst e; rw [upd_same, hx3, hd0]
      · rw [upd_ne D _ e]) (fun i i0 hi hs => by
      by_cases e : i = j
      · subst e; rw [upd_same] at hs; omega
      · rw [upd_ne D _ e] at hs; exact hs)
    exact ⟨this.ct, this.low, this.d0, this.dw, this.nrel, this.handed, this.rel, this.swF, this.swW, this.apart, this.layF, this.klay, this.chF, this.pos, this.ow.re rfl rfl rfl rfl _root_.id rfl rfl rfl, this.swn, this.layn, this.qwn, this.chn⟩
end
end Go.Proofs.Ytmllcfkgkkbkpaa
/-
  THE STARTER's OWN STEPS, node by node.
-/
namespace Go.Proofs.Ytmllcfkgkkbkpaa
open Go Go.Conc
open Go.ConcN (sumTo upd sumTo_upd upd_ne upd_same CT RelBy WD WgLive OkW Ok0 Apart PermW get_map_set get_map_set_same le_sumTo)
open Go.ConcR (KK wgBlock WgAt stA smA rd wr mk DC0 Bk bk_of_mute ofEvent_loc_mark g_of_ofEvents)

/-- What the starter may list on its way. -/
def EvM (σ : Ph) (n : Nat) (e : Event) : Prop :=
  (∃ a wr sy, e = ⟨.cell a, wr, sy⟩ ∧ a.block < n ∧ (¬ σ.F a.block ∨ ((σ.lay a.block).isSome = true ∧ ¬ σ.SW a.block ∧ wr = false))) ∨ (∃ r wr sy, e = ⟨.obj r, wr, sy⟩ ∧ r < n ∧ (wr = true → ¬ σ.F r)) ∨ e.loc = .mark .noRoom
/-- What else suffers: the others' doing, and the group stays one. -/
def RL (ty : TypeId) (σ : Ph) (w w₁ : World) : Prop := RF σ.F w w₁ ∧ (WgLive ty σ.Wg w → WgLive ty σ.Wg w₁)

section
variable {P : Program} {ty : TypeId} {z z' : Value} {Post : Value → World → Prop} {σ : Ph} {Ow : Nat → Nat → Prop} {g : Goroutine} {w w' : World} {gs gs' : Array Goroutine} {t : Trace} {D : Nat → WD} {st sm st' sm' : Int}
theorem RL.refl (w : World) : RL ty σ w w := ⟨.refl _ _, id⟩
theorem RL.trans {a b c : World} (h : RL ty σ a b) (k : RL ty σ b c) : RL ty σ a c := ⟨RF.trans _ _ _ h.1 k.1, k.2 ∘ h.2⟩
theorem evM_of_evOk {n : Nat} {e : Event} (h : EvOk σ.F n e) : EvM σ n e := by
  obtain ⟨loc, wr, sy⟩ := e
  unfold EvOk at h
  cases loc with
  | cell a => exact .inl ⟨a, wr, sy, rfl, h.2, .inl h.1⟩
  | obj r => exact .inr (.inl ⟨r, wr, sy, rfl, h.1, fun e => by have := h.2; simp only at this; rw [this] at e; cases e⟩)
  | mark m => exact .inr (.inr (by simp only at h; rw [h]))
  | _ => exact h.elim
theorem ok0_evM {N n n' : Nat} (hT : TI σ Ow N t n D) {fn : FuncId} {pos : String} {es : Array Event} (h : ∀ e ∈ es, EvM σ n' e) : ∀ op ∈ MemOp.ofEvents 0 fn pos es, Ok0 (ShW σ.SW) (OwL Ow) (RdK σ.K σ.ch) (N - 1) op := by
  intro op hop
  obtain ⟨e, he, rfl⟩ := Go.Conc.mem_ofEvents hop
  refine ⟨rfl, fun x hx => .inr ?_⟩
  rcases h e he with ⟨a, wr, sy, rfl, _, hF⟩ | ⟨r, wr, sy, rfl, _, hrF⟩ | hm
  · have hx' : x.loc = .cell a ∧ x.write = wr := by cases sy <;> simp [MemAct.ofEvent, MemAct.touch?] at hx <;> rw [← hx] <;> exact ⟨rfl, rfl⟩
    rw [hx'.1, hx'.2]
    rcases hF with hF | ⟨hlay, hsw, rfl⟩
    · refine ⟨?_, fun k _ _ ⟨a', e, ho⟩ => (by cases e; exact hF (hT.ow.F k _ ho)), fun _ k _ _ hr => ?_⟩
      · rintro ⟨a', e, hs⟩
        cases e
        exact hF (hT.swF _ hs)
      · rcases hr with ⟨a', e, hs⟩ | e
        · cases e
          exact hF (hT.layF _ (hT.klay k _ hs))
        · cases e
    · refine ⟨?_, fun k _ _ ⟨a', e, ho⟩ => (by cases e; exact hT.ow.lay k _ ho hlay), fun e => by cases e⟩
      rintro ⟨a', e, hs⟩
      cases e
      exact hsw hs
  · have hx' : x.loc = .obj r ∧ x.write = wr := by
      cases wr <;> cases sy <;> simp [MemAct.ofEvent, MemAct.touch?] at hx <;> rw [← hx] <;> exact ⟨rfl, rfl⟩
    rw [hx'.1, hx'.2]
    refine ⟨?_, fun k _ _ ⟨a', e, _⟩ => (by cases e), fun hw k k1 kj hr => ?_⟩
    · rintro ⟨a', e, _⟩; cases e
    · rcases hr with ⟨a', e, _⟩ | e
      · cases e
      · cases e
        exact hrF hw (hT.chF k (by omega) (by omega))
  · simp only [ofEvent_loc_mark hm] at hx; cases hx
theorem low_evM {n : Nat} {e : Event} (h : EvM σ n e) : (MemAct.ofEvent e).low n := by
  rcases h with ⟨a, wr, sy, rfl, hl, _⟩ | ⟨r, wr, sy, rfl, hl, _⟩ | hm
  · cases wr <;> cases sy <;> exact hl
  · cases wr <;> cases sy <;> exact hl
  · rw [ofEvent_loc_mark hm]; trivial
theorem norel_evM {n : Nat} {e : Event} (h : EvM σ n e) : ∀ a, e.loc ≠ .mark (.release a) := by
  intro a hl
  rcases h with ⟨a, wr, sy, rfl, _, _⟩ | ⟨r, wr, sy, rfl, _, _⟩ | hm
  · cases hl
  · cases hl
  · rw [hm] at hl; cases hl
theorem deaf_evM {n : Nat} {es : Array Event} (h : ∀ e ∈ es, EvM σ n e) (d : Nat) : deafBehind d es = d := by
  refine deafBehind_still (fun e he => ?_) d
  rcases h e he with ⟨a, wr, sy, rfl, _, _⟩ | ⟨r, wr, sy, rfl, _, _⟩ | hm
  · simp
  · simp
  · rw [hm]; simp
/-- The world's part behind a step of the starter's. -/
theorem wi_main (h : WI P ty z z' σ Ow gs w D st sm) (hsz : gs'.size = gs.size) (hgj : ∀ j, 0 < j → j < gs.size → gs'[j]? = gs[j]?) (how : ∀ i b, Ow i b → w'.heap[b]? = w.heap[b]?) (hstill : ∀ b, (σ.lay b).isSome = true → w'.heap[b]? = w.heap[b]?)
    (hchan : ∀ j, σ.first ≤ j → j < gs.size → w'.heap[σ.ch j]? = w.heap[σ.ch j]?) (hquit : σ.tag ≠ .idle → w'.heap[σ.quit]? = w.heap[σ.quit]?) {tag' : Tag} {d' vb' : Nat} (hwg : σ.tag ≠ .idle → WgAt ty σ.Wg w' st' sm') (hmode : ModeD gs.size D tag' st' sm') (htag : tag' = .idle ↔ σ.tag = .idle) (hvb : Vd gs.size D ≤ vb') :
    WI P ty z z' { σ with tag := tag', d0 := d', vb := vb' } Ow gs' w' D st' sm' := by
  have hni : tag' ≠ .idle → σ.tag ≠ .idle := fun x y => x (htag.2 y)
  refine ⟨h.pos, by rw [hsz]; exact h.le, h.zero, fun j j0 hj => ?_, h.old, fun j j0 hj => ?_, fun ht => (hquit (hni ht)).trans (h.quit (hni ht)), fun ht => hwg (hni ht), by rw [hsz]; exact hmode, by rw [hsz]; exact hvb, fun hc j j0 hj hr => h.still hc j j0 (hsz ▸ hj) hr,
    fun e => by rw [hsz]; exact h.none (htag.1 e), by rw [hsz]; exact h.room, by rw [hsz]; exact h.size, fun j j0 hj => h.fch j j0 (hsz ▸ hj), fun ht => h.fq (hni ht), fun ht => h.fw (hni ht), fun a b a0 ha b0 hb => h.inj a b a0 (hsz ▸ ha) b0 (hsz ▸ hb), fun j j0 hj => h.chq j j0 (hsz ▸ hj), fun j j0 hj => h.chw j j0 (hsz ▸ hj), fun ht => h.qw (hni ht),
    h.klay, h.layF, fun b o hb => (hstill b (by rw [hb]; rfl)).trans (h.layat b o hb), fun ht => h.layq (hni ht), fun j b j0 hj => h.laych j b j0 (hsz ▸ hj)⟩
  · rw [hsz] at hj
    obtain ⟨y, hy, hs⟩ := h.sit j j0 hj
    refine ⟨y, by rw [hgj j j0 hj, hy], ?_⟩
    by_cases ht : σ.tag = .idle
    · have hm := h.mode
      rw [ht] at hm
      refine hs.old ?_
      cases hm with
      | idle hm => exact hm j hj
      | reg hx _ _ _ => rcases hx with hx | hx <;> cases hx
      | last L hx _ _ _ _ => rcases hx with hx | hx <;> cases hx
    · exact hs.rely ⟨fun b hb => hb.elim (fun hb => hstill b (h.klay j b hb)) (how j b), fun _ => ⟨_, _, hwg ht⟩⟩
  · rw [hsz] at hj
    have j0' : σ.first ≤ j := j0
    obtain ⟨s, r, hc⟩ := h.chan j j0' hj
    exact ⟨s, r, (hchan j j0' hj).trans hc⟩
/-- The machine behind a step of the starter's under which 'quit' and all channels stand. -/
theorem go_inv0 {w₁ : World} {sl : Option (Nat × Nat)} {g' : Goroutine} {es : Array Event} {tag' : Tag} {d' vb' : Nat} (hW : WI P ty z z' σ Ow gs w₁ D st sm) (hT : TI σ Ow gs.size t w₁.heap.size D) (hg : gs[0]? = some g) (hgo : stepG P true g w₁ = .go g' w' es) (hF : ∀ b, b < w₁.heap.size → σ.F b → b ≠ σ.Wg → w'.heap[b]? = w₁.heap[b]?) (hlay : ∀ b, (σ.lay b).isSome = true → w'.heap[b]? = w₁.heap[b]?)
    (hwg : σ.tag ≠ .idle → WgAt ty σ.Wg w' st' sm') (hmode : ModeD gs.size D tag' st' sm') (htag : tag' = .idle ↔ σ.tag = .idle) (hvb : Vd gs.size D ≤ vb') (hn : w₁.heap.size ≤ w'.heap.size) (hok : ∀ op ∈ MemOp.ofEvents 0 g.frame.fn g.frame.place es, Ok0 (ShW σ.SW) (OwL Ow) (RdK σ.K σ.ch) (gs.size - 1) op)
    (hlow : ∀ e ∈ es, (MemAct.ofEvent e).low w'.heap.size) (hnr : ∀ e ∈ es, ∀ a, e.loc ≠ .mark (.release a)) (hd : deafBehind σ.d0 es = d') :
    ∃ gs' ops, runT P (crowd gs w₁ sl) 0 = (.next (crowd gs' w' sl), ops) ∧ WI P ty z z' { σ with tag := tag', d0 := d', vb := vb' } Ow gs' w' D st' sm' ∧ TI { σ with tag := tag', d0 := d', vb := vb' } Ow gs'.size (t ++ ops) w'.heap.size D ∧ gs'[0]? = some g' ∧ gs'.size = gs.size := by
  have hlt : 0 < gs.size := (Array.getElem?_eq_some_iff.1 hg).1
  have hsz : ((gs.map (woken P g g' w')).setIfInBounds 0 g').size = gs.size := by simp
  have hchan : ∀ j, σ.first ≤ j → j < gs.size → w'.heap[σ.ch j]? = w₁.heap[σ.ch j]? := fun j j0 hj => let ⟨_, _, hc⟩ := hW.chan j j0 hj; hF _ (Array.getElem?_eq_some_iff.1 hc).1 (hW.fch j j0 hj) (hW.chw j j0 hj)
  have hquit : σ.tag ≠ .idle → w'.heap[σ.quit]? = w₁.heap[σ.quit]? := fun ht => hF _ (hT.qwn ht).1 (hW.fq ht) (hW.qw ht)
  refine ⟨_, _, runT_crowd_go (sl := sl) hg (by simpa using hgo), ?_, ?_, get_map_set_same _ _ _ hlt, hsz⟩
  · exact wi_main hW hsz (fun j j0 hj => woken_rest (i := 0) hW (fun j j0 hj _ => hchan j j0 hj) hquit j j0 hj (by omega)) (fun i b hb => hF b (hT.ow.lt i b hb) (hT.ow.F i b hb) (hT.ow.wne i b hb)) hlay hchan hquit hwg hmode htag hvb
  · rw [hsz]
    have := hT.step0 hn hok hlow hnr hd
    exact ⟨this.ct, this.low, this.d0, this.dw, this.nrel, this.handed, this.rel, this.swF, fun ht => this.swW fun y => ht (htag.2 y), this.apart, this.layF, this.klay, this.chF, this.pos, this.ow.re rfl rfl rfl rfl (fun ht y => ht (htag.2 y)) rfl rfl rfl, this.swn, this.layn, fun ht => this.qwn fun y => ht (htag.2 y), this.chn⟩
/-- The machine behind a step of the starter's under which 'quit' and all channels stand. -/
theorem go_inv {w₁ : World} {sl : Option (Nat × Nat)} {g' : Goroutine} {es : Array Event} {tag' : Tag} {d' vb' : Nat} (hW : WI P ty z z' σ Ow gs w₁ D st sm) (hT : TI σ Ow gs.size t w₁.heap.size D) (hg : gs[0]? = some g) (hgo : stepG P true g w₁ = .go g' w' es) (hF : ∀ b, b < w₁.heap.size → σ.F b → b ≠ σ.Wg → w'.heap[b]? = w₁.heap[b]?) (hlay : ∀ b, (σ.lay b).isSome = true → w'.heap[b]? = w₁.heap[b]?)
    (hwg : σ.tag ≠ .idle → WgAt ty σ.Wg w' st' sm') (hmode : ModeD gs.size D tag' st' sm') (htag : tag' = .idle ↔ σ.tag = .idle) (hvb : Vd gs.size D ≤ vb') (hn : w₁.heap.size ≤ w'.heap.size) (hok : ∀ op ∈ MemOp.ofEvents 0 g.frame.fn g.frame.place es, Ok0 (ShW σ.SW) (OwL Ow) (RdK σ.K σ.ch) (gs.size - 1) op)
    (hlow : ∀ e ∈ es, (MemAct.ofEvent e).low w'.heap.size) (hnr : ∀ e ∈ es, ∀ a, e.loc ≠ .mark (.release a)) (hd : deafBehind σ.d0 es = d') :
    ∃ gs' ops, runT P (crowd gs w₁ sl) 0 = (.next (crowd gs' w' sl), ops) ∧ Inv P ty z z' { σ with tag := tag', d0 := d', vb := vb' } gs' (t ++ ops) w' D ∧ gs'[0]? = some g' ∧ gs'.size = gs.size :=
  let ⟨gs', ops, h1, h2, h3, h4, h5⟩ := go_inv0 (sl := sl) hW hT hg hgo hF hlay hwg hmode htag hvb hn hok hlow hnr hd
  ⟨gs', ops, h1, ⟨Ow, ⟨st', sm', h2⟩, h3⟩, h4, h5⟩
/-- A step of the starter's under which 'quit' and all channels stand. -/
theorem ms_go (hr : g.status = .running) (hb : σ.tag ≠ .blk)
    (h : ∀ w₁, RF σ.F w w₁ → ∀ (Ow : Nat → Nat → Prop) (gs : Array Goroutine) (t : Trace) (D : Nat → WD) (st sm : Int), WI P ty z z' σ Ow gs w₁ D st sm → TI σ Ow gs.size t w₁.heap.size D →
      ∃ g' w' es st' sm' tag' d' vb', stepG P true g w₁ = .go g' w' es ∧ (∀ b, σ.F b → b ≠ σ.Wg → w'.heap[b]? = w₁.heap[b]?) ∧ (∀ b, (σ.lay b).isSome = true → w'.heap[b]? = w₁.heap[b]?) ∧ (σ.tag ≠ .idle → WgAt ty σ.Wg w' st' sm') ∧ ModeD gs.size D tag' st' sm' ∧ (tag' = .idle ↔ σ.tag = .idle) ∧ Vd gs.size D ≤ vb' ∧
        w₁.heap.size ≤ w'.heap.size ∧ (∀ op ∈ MemOp.ofEvents 0 g.frame.fn g.frame.place es, Ok0 (ShW σ.SW) (OwL Ow) (RdK σ.K σ.ch) (gs.size - 1) op) ∧ (∀ e ∈ es, (MemAct.ofEvent e).low w'.heap.size) ∧ (∀ e ∈ es, ∀ a, e.loc ≠ .mark (.release a)) ∧ deafBehind σ.d0 es = d' ∧
        MS P ty z z' Post { σ with tag := tag', d0 := d', vb := vb' } g' w') : MS P ty z z' Post σ g w := by
  refine ms_node hr hb fun w₁ r₁ gs sl t D hI hg => .inl ?_
  obtain ⟨Ow, ⟨st, sm, hW⟩, hT⟩ := hI
  obtain ⟨g', w', es, st', sm', tag', d', vb', hgo, hF, hlay, hwg, hmode, htag, hvb, hn, hok, hlow, hnr, hd, hms⟩ := h w₁ r₁ Ow gs t D st sm hW hT
  obtain ⟨gs', ops, h1, h2, h3, _⟩ := go_inv (sl := sl) hW hT hg hgo (fun b _ => hF b) hlay hwg hmode htag hvb hn hok hlow hnr hd
  exact ⟨_, _, h1, hms w' (.refl _ _) _ sl _ D h2 h3⟩
/-- An own step that lets the shared blocks be. -/
theorem ms_own (hr : g.status = .running) (hb : σ.tag ≠ .blk)
    (h : ∀ w₁, RF σ.F w w₁ → (σ.tag ≠ .idle → WgLive ty σ.Wg w₁) → (∀ b o, σ.lay b = some o → w₁.heap[b]? = some o) → ∃ g' w' es, stepG P true g w₁ = .go g' w' es ∧ (∀ b, σ.F b → w'.heap[b]? = w₁.heap[b]?) ∧ w₁.heap.size ≤ w'.heap.size ∧ (∀ e ∈ es, EvM σ w'.heap.size e) ∧ MS P ty z z' Post σ g' w') : MS P ty z z' Post σ g w := by
  refine ms_go hr hb fun w₁ r₁ Ow gs t D st sm hW hT => ?_
  obtain ⟨g', w', es, h1, h2, h3, h4, h5⟩ := h w₁ r₁ (fun ht => ⟨_, _, hW.wg ht⟩) hW.layat
  exact ⟨g', w', es, st, sm, σ.tag, σ.d0, σ.vb, h1, fun b hF _ => h2 b hF, fun b hl => h2 b (hW.layF b hl), fun ht => (hW.wg ht).of_block (h2 _ (hW.fw ht)), hW.mode, Iff.rfl, hW.vb, h3, ok0_evM hT h4, fun e he => low_evM (h4 e he), fun e he => norel_evM (h4 e he), deaf_evM h4 _, h5⟩
end
end Go.Proofs.Ytmllcfkgkkbkpaa
/-
  THE STARTER AT THE GROUP: Add and Wait, node by node.
-/
namespace Go.Proofs.Ytmllcfkgkkbkpaa
open Go Go.Conc
open Go.ConcN (sumTo upd sumTo_upd upd_ne upd_same CT RelBy WD WgLive OkW Ok0 Apart PermW get_map_set get_map_set_same le_sumTo)
open Go.ConcR (KK wgBlock WgAt stA smA rd wr mk DC0 Bk bk_of_mute ofEvent_loc_mark g_of_ofEvents)

/-! ### the stops -/
section
variable (P : Program) (ty : TypeId) (Wg : Nat) (R : World → World → Prop)
def MKd (Nx : Goroutine → World → Prop) (g : Goroutine) (w : World) : Prop :=
  g.status = .running ∧ ∃ g', stepG P true g w = .go g' w #[mk .disable] ∧ ∃ m, Goes P true R DC0 Nx m g' w
def MKe (Nx : Goroutine → World → Prop) (g : Goroutine) (w : World) : Prop :=
  g.status = .running ∧ ∃ g', stepG P true g w = .go g' w #[mk .enable] ∧ ∃ m, Goes P true R DC0 Nx m g' w
def MSay (b : Bool) (Nx : Goroutine → World → Prop) (g : Goroutine) (w : World) : Prop :=
  g.status = .running ∧ ∃ g', stepG P true g w = .go g' w #[⟨.mark (if b then .write (smA Wg) else .read (smA Wg)), false, true⟩] ∧ ∃ m, Goes P true R DC0 Nx m g' w
def MA1 (Fin : Goroutine → World → Prop) (g : Goroutine) (w : World) : Prop :=
  g.status = .running ∧ ∀ v : Nat, v < 2147483647 → WgAt ty Wg w (v * KK) 0 → ∃ g', stepG P true g w = .go g' (w.setCell (stA Wg) (.int .u64 ((v + 1) * KK))) #[rd (stA Wg), wr (stA Wg)] ∧
    (v = 0 → ∃ m, Goes P true R DC0 (MSay P Wg R false (MKe P R Fin)) m g' (w.setCell (stA Wg) (.int .u64 ((v + 1) * KK)))) ∧ (v ≠ 0 → ∃ m, Goes P true R DC0 (MKe P R Fin) m g' (w.setCell (stA Wg) (.int .u64 ((v + 1) * KK))))
def MAcq (Fin : Goroutine → World → Prop) (g : Goroutine) (w : World) : Prop :=
  g.status = .running ∧ ∃ g', stepG P true g w = .go g' w #[mk (.acquire (stA Wg))] ∧ ∃ m, Goes P true R DC0 Fin m g' w
def MW4 (Fin : Goroutine → World → Prop) (g : Goroutine) (w : World) : Prop :=
  g.status = .running ∧ (WgAt ty Wg w 0 0 → ∃ g', stepG P true g w = .go g' w #[rd (stA Wg)] ∧ ∃ m, Goes P true R DC0 (MKe P R (MAcq P Wg R Fin)) m g' w)
def MW3 (Fin : Goroutine → World → Prop) (g : Goroutine) (w : World) : Prop :=
  g.status = .running ∧ g.offers = none ∧ ((∃ st, WgAt ty Wg w st 0) → stepG P true g w = .go { g with status := .blocked } w #[]) ∧
    (WgAt ty Wg w 0 1 → ∃ g', stepG P true g w = .go g' (w.setCell (smA Wg) (.int .u32 0)) (semEvents (smA Wg)) ∧ ∃ m, Goes P true R DC0 (MW4 P ty Wg R Fin) m g' (w.setCell (smA Wg) (.int .u32 0)))
def MW2 (vs : Nat) (Anch Fin : Goroutine → World → Prop) (g : Goroutine) (w : World) : Prop :=
  g.status = .running ∧ ∀ v : Nat, v < 2147483648 → WgAt ty Wg w (v * KK) 0 →
    (v = vs → ∃ g', stepG P true g w = .go g' (w.setCell (stA Wg) (.int .u64 (v * KK + 1))) #[rd (stA Wg), wr (stA Wg)] ∧ ∃ m, Goes P true R DC0 (MSay P Wg R true (MW3 P ty Wg R Fin)) m g' (w.setCell (stA Wg) (.int .u64 (v * KK + 1)))) ∧
    (v ≠ vs → ∃ g', stepG P true g w = .go g' w #[rd (stA Wg)] ∧ ∃ m, Goes P true R DC0 Anch m g' w)
def MW1 (Anch Fin : Goroutine → World → Prop) (g : Goroutine) (w : World) : Prop :=
  g.status = .running ∧ ∀ v : Nat, v < 2147483648 → WgAt ty Wg w (v * KK) 0 → ∃ g', stepG P true g w = .go g' w #[rd (stA Wg)] ∧
    (v = 0 → ∃ m, Goes P true R DC0 (MKe P R (MAcq P Wg R Fin)) m g' w) ∧ (v ≠ 0 → ∃ m, Goes P true R DC0 (MW2 P ty Wg R v Anch Fin) m g' w)
end

section
variable {P : Program} {ty : TypeId} {z z' : Value} {Post : Value → World → Prop} {σ : Ph} {Ow : Nat → Nat → Prop} {g : Goroutine} {w w' : World} {gs gs' : Array Goroutine} {t : Trace} {D : Nat → WD} {st sm st' sm' : Int}
theorem ms_goesT {Stop : Goroutine → World → Prop} (hb : σ.tag ≠ .blk) (h : GoesT P true (RF σ.F) (DF σ.F) Stop g w) (hs : ∀ g w, (∀ w₁, RF σ.F w w₁ → Stop g w₁) → MS P ty z z' Post σ g w) : MS P ty z z' Post σ g w := by
  induction h with
  | stop h => exact hs _ _ h
  | own hr h1 _ ih =>
    refine ms_own hr hb fun w₁ r₁ _ _ => ?_
    obtain ⟨g', w', es, e, hd⟩ := h1 w₁ r₁
    exact ⟨g', w', es, e, hd.1.same, hd.1.size, fun e he => evM_of_evOk (hd.2 e he), ih w₁ g' w' es r₁ e⟩
theorem ms_goes0 {Stop : Goroutine → World → Prop} (hb : σ.tag ≠ .blk) (ht : σ.tag ≠ .idle) : ∀ {n : Nat} {g : Goroutine} {w : World}, Goes P true (RL ty σ) DC0 Stop n g w → (∀ g' w', RF σ.F w w' → (∀ w₁, RL ty σ w' w₁ → Stop g' w₁) → MS P ty z z' Post σ g' w') → MS P ty z z' Post σ g w
  | 0, g, w, h, hs => hs g w (.refl _ _) h
  | n + 1, g, w, h, hs => by
    rcases h with h | ⟨hr, h⟩
    · exact hs g w (.refl _ _) h
    · refine ms_own hr hb fun w₁ r₁ hl _ => ?_
      obtain ⟨g', w', es, e, ⟨e1, e2⟩, hg⟩ := goes_elim (h w₁ ⟨r₁, fun _ => hl ht⟩)
      subst e1 e2
      exact ⟨g', w', #[], e, fun _ _ => rfl, Nat.le_refl _, by simp, ms_goes0 hb ht hg fun g'' w'' r hx => hs g'' w'' (RF.trans _ _ _ r₁ r) hx⟩
def EvG (Wg : Nat) (e : Event) : Prop := Bk Wg e ∨ e = ⟨.mark (.read (smA Wg)), false, true⟩ ∨ e = ⟨.mark (.write (smA Wg)), false, true⟩
theorem ok0_evG {j : Nat} (hW : σ.SW σ.Wg) {fn : FuncId} {pos : String} {es : Array Event} (h : ∀ e ∈ es, EvG σ.Wg e) : ∀ op ∈ MemOp.ofEvents 0 fn pos es, Ok0 (ShW σ.SW) (OwL Ow) (RdK σ.K σ.ch) j op := by
  intro op hop
  obtain ⟨e, he, rfl⟩ := Go.Conc.mem_ofEvents hop
  refine ⟨rfl, fun x hx => .inl ?_⟩
  rcases h e he with h1 | rfl | rfl
  · rcases h1 with h1 | h1 | ⟨a, wr, rfl, ha⟩
    · simp only [ofEvent_loc_mark h1] at hx; cases hx
    · simp only [ofEvent_loc_mark h1] at hx; cases hx
    · refine ⟨⟨a, ?_, ha ▸ hW⟩, ?_⟩
      · cases wr <;> simp [MemAct.ofEvent, MemAct.touch?] at hx <;> rw [← hx]
      · cases wr <;> simp [MemAct.ofEvent, MemAct.touch?] at hx <;> rw [← hx] <;> simp
  · simp only [MemAct.ofEvent, MemAct.touch?, Option.some.injEq] at hx
    subst hx
    exact ⟨⟨_, rfl, hW⟩, by simp⟩
  · simp only [MemAct.ofEvent, MemAct.touch?, Option.some.injEq] at hx
    subst hx
    exact ⟨⟨_, rfl, hW⟩, by simp⟩
theorem low_evG {Wg n : Nat} (hW : Wg < n) {e : Event} (h : EvG Wg e) : (MemAct.ofEvent e).low n := by
  rcases h with h | rfl | rfl
  · exact low_book hW h
  · exact hW
  · exact hW
theorem norel_evG {Wg : Nat} {e : Event} (h : EvG Wg e) : ∀ a, e.loc ≠ .mark (.release a) := by
  rcases h with h | rfl | rfl
  · exact norel_book h
  · simp
  · simp
/-- A step of the starter's at the group. -/
theorem ms_group (hr : g.status = .running) (hb : σ.tag ≠ .blk) (ht : σ.tag ≠ .idle)
    (h : ∀ w₁, RL ty σ w w₁ → ∀ (N : Nat) (D : Nat → WD) (st sm : Int), WgAt ty σ.Wg w₁ st sm → ModeD N D σ.tag st sm → Vd N D ≤ σ.vb → N + σ.room < 2147483647 →
      ∃ g' w' es st' sm' tag' d' vb', stepG P true g w₁ = .go g' w' es ∧ (w' = w₁ ∨ ∃ ad v, w' = w₁.setCell ad v ∧ ad.block = σ.Wg) ∧ WgAt ty σ.Wg w' st' sm' ∧ ModeD N D tag' st' sm' ∧ tag' ≠ .idle ∧ Vd N D ≤ vb' ∧ (∀ e ∈ es, EvG σ.Wg e) ∧ deafBehind σ.d0 es = d' ∧
        MS P ty z z' Post { σ with tag := tag', d0 := d', vb := vb' } g' w') : MS P ty z z' Post σ g w := by
  refine ms_go hr hb fun w₁ r₁ Ow gs t D st sm hW hT => ?_
  obtain ⟨g', w', es, st', sm', tag', d', vb', h1, h2, h3, h4, h5, h6, h7, h8, h9⟩ := h w₁ ⟨r₁, fun _ => ⟨_, _, hW.wg ht⟩⟩ gs.size D st sm (hW.wg ht) hW.mode hW.vb hW.room
  have hlt := (Array.getElem?_eq_some_iff.1 h3).1
  have same : ∀ b, b ≠ σ.Wg → w'.heap[b]? = w₁.heap[b]? := fun b hb => by
    rcases h2 with rfl | ⟨ad, v, rfl, had⟩
    · rfl
    · exact setCell_ne (by rw [had]; exact hb)
  have hsz : w₁.heap.size = w'.heap.size := by
    rcases h2 with rfl | ⟨ad, v, rfl, had⟩
    · rfl
    · exact (Go.Conc.aside_setCell w₁ ad v).size.symm
  exact ⟨g', w', es, st', sm', tag', d', vb', h1, fun b _ hb => same b hb, fun b hl => same b (hW.layq ht b hl).2, fun _ => h3, h4, ⟨fun e => absurd e h5, fun e => absurd e ht⟩, h6, Nat.le_of_eq hsz, ok0_evG (hT.swW ht) h7, fun e he => low_evG hlt (h7 e he), fun e he => norel_evG (h7 e he), h8, h9⟩
theorem Vd_le (N : Nat) (D : Nat → WD) : Vd N D ≤ N := by
  have := Go.ConcN.sumTo_le (f := fun i => cntD (D i)) (c := 1) (j := N) fun i _ => by simp only [cntD]; split <;> omega
  simp only [Vd]; omega
theorem evg_book {Wg : Nat} {es : Array Event} (h : ∀ e ∈ es, Bk Wg e) : ∀ e ∈ es, EvG Wg e := fun e he => .inl (h e he)
theorem bk_dis (Wg : Nat) : ∀ e ∈ #[mk .disable], Bk Wg e := by intro e he; simp at he; subst he; exact .inl rfl
theorem bk_ena (Wg : Nat) : ∀ e ∈ #[mk .enable], Bk Wg e := by intro e he; simp at he; subst he; exact .inr (.inl rfl)
theorem bk_rw (Wg : Nat) : ∀ e ∈ #[rd (stA Wg), wr (stA Wg)], Bk Wg e := by intro e he; simp at he; rcases he with rfl | rfl <;> exact Go.ConcN.bk_cell _ _ rfl
theorem bk_r (Wg : Nat) : ∀ e ∈ #[rd (stA Wg)], Bk Wg e := by intro e he; simp at he; subst he; exact Go.ConcN.bk_cell _ _ rfl
theorem ms_disable {Nx : Goroutine → World → Prop} (hb : σ.tag ≠ .blk) (ht : σ.tag ≠ .idle) (h : ∀ w₁, RL ty σ w w₁ → MKd P (RL ty σ) Nx g w₁) (hs : ∀ g' w', RF σ.F w w' → (∃ m, Goes P true (RL ty σ) DC0 Nx m g' w') → MS P ty z z' Post { σ with d0 := σ.d0 + 1 } g' w') : MS P ty z z' Post σ g w :=
  ms_group (h w (RL.refl w)).1 hb ht fun w₁ r₁ N D st sm hw hm hv _ => by
    obtain ⟨_, g', h1, h2⟩ := h w₁ r₁
    exact ⟨g', w₁, _, st, sm, σ.tag, σ.d0 + 1, σ.vb, h1, .inl rfl, hw, hm, ht, hv, evg_book (bk_dis _), rfl, hs g' w₁ r₁.1 h2⟩
end
end Go.Proofs.Ytmllcfkgkkbkpaa
/-
  THE STARTER AT THE GROUP: Add and Wait, whole.
-/
namespace Go.Proofs.Ytmllcfkgkkbkpaa
open Go Go.Conc
open Go.ConcN (sumTo upd sumTo_upd upd_ne upd_same CT RelBy WD WgLive OkW Ok0 Apart PermW get_map_set get_map_set_same le_sumTo)
open Go.ConcR (KK wgBlock WgAt stA smA rd wr mk DC0 Bk bk_of_mute ofEvent_loc_mark g_of_ofEvents)

section
variable {P : Program} {ty : TypeId} {z z' : Value} {Post : Value → World → Prop} {σ : Ph} {Ow : Nat → Nat → Prop} {g : Goroutine} {w w' : World} {gs gs' : Array Goroutine} {t : Trace} {D : Nat → WD} {st sm st' sm' : Int}
theorem ms_enable {Nx : Goroutine → World → Prop} (hb : σ.tag ≠ .blk) (ht : σ.tag ≠ .idle) (h : ∀ w₁, RL ty σ w w₁ → MKe P (RL ty σ) Nx g w₁) (hs : ∀ g' w', RF σ.F w w' → (∃ m, Goes P true (RL ty σ) DC0 Nx m g' w') → MS P ty z z' Post { σ with d0 := σ.d0 - 1 } g' w') : MS P ty z z' Post σ g w :=
  ms_group (h w (RL.refl w)).1 hb ht fun w₁ r₁ N D st sm hw hm hv _ => by
    obtain ⟨_, g', h1, h2⟩ := h w₁ r₁
    exact ⟨g', w₁, _, st, sm, σ.tag, σ.d0 - 1, σ.vb, h1, .inl rfl, hw, hm, ht, hv, evg_book (bk_ena _), rfl, hs g' w₁ r₁.1 h2⟩
theorem ms_say {b : Bool} {Nx : Goroutine → World → Prop} (hb : σ.tag ≠ .blk) (ht : σ.tag ≠ .idle) (h : ∀ w₁, RL ty σ w w₁ → MSay P σ.Wg (RL ty σ) b Nx g w₁) (hs : ∀ g' w', RF σ.F w w' → (∃ m, Goes P true (RL ty σ) DC0 Nx m g' w') → MS P ty z z' Post σ g' w') : MS P ty z z' Post σ g w :=
  ms_group (h w (RL.refl w)).1 hb ht fun w₁ r₁ N D st sm hw hm hv _ => by
    obtain ⟨_, g', h1, h2⟩ := h w₁ r₁
    refine ⟨g', w₁, _, st, sm, σ.tag, σ.d0, σ.vb, h1, .inl rfl, hw, hm, ht, hv, ?_, ?_, hs g' w₁ r₁.1 h2⟩
    · intro e he
      simp at he
      subst he
      cases b
      · exact .inr (.inl rfl)
      · exact .inr (.inr rfl)
    · cases b <;> rfl
theorem RF.setWg (hF : σ.F σ.Wg) {ad : Addr} {v : Value} (had : ad.block = σ.Wg) (hw : WgAt ty σ.Wg w st sm) : RF σ.F w (w.setCell ad v) := RF.setCell (by rw [had]; exact hF) (by rw [had]; exact ⟨_, _, _, hw⟩)
/-- ████ Add(1). ████ -/
theorem ms_add {Fin : Goroutine → World → Prop} (ht : σ.tag = .opn false) (hF : σ.F σ.Wg) {m : Nat} (h : Goes P true (RL ty σ) DC0 (MKd P (RL ty σ) (MA1 P ty σ.Wg (RL ty σ) Fin)) m g w)
    (hs : ∀ g' w', RF σ.F w w' → (∀ w₁, RL ty σ w' w₁ → Fin g' w₁) → MS P ty z z' Post { σ with tag := .opn true } g' w') : MS P ty z z' Post σ g w := by
  have hb : σ.tag ≠ .blk := by rw [ht]; simp
  have hi : σ.tag ≠ .idle := by rw [ht]; simp
  refine ms_goes0 hb hi h fun g1 w1 r1 h1 => ms_disable hb hi h1 fun g2 w2 r2 ⟨m2, h2⟩ => ?_
  let σ1 : Ph := { σ with d0 := σ.d0 + 1 }
  refine ms_goes0 (σ := σ1) hb hi h2 fun g3 w3 r3 h3 => ?_
  -- behind the atomic add
  have tail : ∀ g4 w4, RF σ.F w w4 → (∃ m, Goes P true (RL ty σ) DC0 (MKe P (RL ty σ) Fin) m g4 w4) → MS P ty z z' Post { σ with tag := .opn true, d0 := σ.d0 + 1 } g4 w4 := by
    intro g4 w4 r4 ⟨m4, h4⟩
    refine ms_goes0 (σ := { σ with tag := .opn true, d0 := σ.d0 + 1 }) (by simp) (by simp) h4 fun g5 w5 r5 h5 => ?_
    refine ms_enable (σ := { σ with tag := .opn true, d0 := σ.d0 + 1 }) (by simp) (by simp) h5 fun g6 w6 r6 ⟨m6, h6⟩ => ?_
    refine ms_goes0 (σ := { σ with tag := .opn true }) (by simp) (by simp) h6 fun g7 w7 r7 h7 => hs g7 w7 ?_ h7
    exact RF.trans _ _ _ r4 (RF.trans _ _ _ r5 (RF.trans _ _ _ r6 r7))
  have r03 : RF σ.F w w3 := RF.trans _ _ _ r1 (RF.trans _ _ _ r2 r3)
  refine ms_group (σ := σ1) (h3 w3 (RL.refl w3)).1 hb hi fun w4 r4 N D st sm hw hm hv hroom => ?_
  have hm' : ModeD N D (.opn false) st sm := by rw [← ht]; exact hm
  cases hm' with
  | reg hx _ _ _ => rcases hx with hx | hx <;> cases hx
  | last L hx _ _ _ _ => rcases hx with hx | hx <;> cases hx
  | opn ho e =>
    obtain ⟨_, hA⟩ := h3 w4 r4
    have hVN := Vd_le N D
    have e' : st = ((Vd N D : Nat) : Int) * KK := by simpa using e
    rw [e'] at hw
    obtain ⟨g5, hgo, hz, hnz⟩ := hA (Vd N D) (by omega) hw
    have r05 : RF σ.F w (w4.setCell (stA σ.Wg) (.int .u64 (((Vd N D : Nat) + 1 : Int) * KK))) := RF.trans _ _ _ r03 (RF.trans _ _ _ r4.1 (RF.setWg hF rfl hw))
    refine ⟨g5, _, _, _, 0, .opn true, σ.d0 + 1, σ.vb, hgo, .inr ⟨_, _, rfl, rfl⟩, hw.setSt _, .opn ho (by simp), by simp, hv, evg_book (bk_rw _), rfl, ?_⟩
    by_cases hV : Vd N D = 0
    · obtain ⟨m5, h5⟩ := hz hV
      refine ms_goes0 (σ := { σ with tag := .opn true, d0 := σ.d0 + 1 }) (by simp) (by simp) h5 fun g6 w6 r6 h6 => ?_
      refine ms_say (σ := { σ with tag := .opn true, d0 := σ.d0 + 1 }) (by simp) (by simp) h6 fun g7 w7 r7 h7 => tail g7 w7 ?_ h7
      exact RF.trans _ _ _ r05 (RF.trans _ _ _ r6 r7)
    · exact tail _ _ r05 (hnz hV)
/-- BLOCKED AT THE SEMAPHORE, or on its way to it: till the last of the workers has raised it. -/
theorem ms_w3 {Fin : Goroutine → World → Prop} (ht : σ.tag = .w3) (hc : σ.closed = true) (h : ∀ w₁, RL ty σ w w₁ → MW3 P ty σ.Wg (RL ty σ) Fin g w₁) (hF : σ.F σ.Wg)
    (hs : ∀ g' w', RF σ.F w w' → (∃ m, Goes P true (RL ty σ) DC0 (MW4 P ty σ.Wg (RL ty σ) Fin) m g' w') → MS P ty z z' Post { σ with tag := .fin } g' w') : MS P ty z z' Post σ g w := by
  have key : ∀ a b (w₁ : World) (gs : Array Goroutine) (sl : Option (Nat × Nat)) (t : Trace) (D : Nat → WD) (fl : Nat) (tg : Tag) (x : Goroutine), Sd gs.size D = a → 2 * Fd gs.size D + fl = b → ((fl = 1 ∧ tg = .w3 ∧ x = g) ∨ (fl = 0 ∧ tg = .blk ∧ x = { g with status := .blocked })) → RF σ.F w w₁ → Inv P ty z z' { σ with tag := tg } gs t w₁ D →
      gs[0]? = some x → Ends P Post (crowd gs w₁ sl) t := by
    refine lt2_ind fun a b ih w₁ gs sl t D fl tg a₀ ea eb hk r₁ hI hg => ?_
    have hgr := (h w (RL.refl w)).1
    have hgo0 := (h w (RL.refl w)).2.1
    have aw : awake a₀ := by
      rcases hk with ⟨_, _, rfl⟩ | ⟨_, _, rfl⟩
      · exact awake_of (.inl hgr)
      · intro t'; simp
    -- somebody runs
    have some1 : ∃ (i : Nat) (x : Goroutine), gs[i]? = some x ∧ x.status = .running := by
      rcases hk with ⟨_, _, rfl⟩ | ⟨_, rfl, rfl⟩
      · exact ⟨0, _, hg, hgr⟩
      · obtain ⟨_, ⟨st, sm, hW⟩, _⟩ := hI
        have hm := hW.mode
        have run : ∀ i, 0 < i → i < gs.size → (D i).stage ≠ 1 → ∃ (i : Nat) (x : Goroutine), gs[i]? = some x ∧ x.status = .running := fun i i0 hi h1 => by
          obtain ⟨y, hy, hsy⟩ := hW.sit i i0 hi
          rcases hsy.status with h' | ⟨_, _, h', _⟩ | ⟨h', _⟩
          · exact ⟨i, y, hy, h'⟩
          · have h'' : σ.closed = false := h'
            rw [hc] at h''; cases h''
          · exact absurd h' h1
        have hz := hW.zero
        have hm3 : ModeD gs.size D .blk st sm := hm
        cases hm3 with
        | reg _ _ h1 _ =>
          have : ∃ i, i < gs.size ∧ 5 ≤ (D i).stage := by
            apply Classical.byContradiction
            intro hno
            have : Vd gs.size D = 0 := by
              have := Go.ConcN.sumTo_le (f := fun i => cntD (D i)) (c := 0) (j := gs.size) fun i hi => by
                simp only [cntD]
                split
                · exact absurd ⟨i, hi, ‹_›⟩ hno
                · exact Nat.le_refl _
              simp only [Vd]; omega
            omega
          obtain ⟨i, hi, h5⟩ := this
          refine run i ?_ hi (by omega)
          rcases Nat.eq_zero_or_pos i with rfl | hp
          · rw [hz] at h5; simp at h5
          · exact hp
        | last L _ h2 h3 _ _ =>
          refine run L ?_ h2 (by omega)
          rcases Nat.eq_zero_or_pos L with rfl | hp
          · rw [hz] at h3; simp at h3
          · exact hp
    obtain ⟨i, x, d, sl', hi, hx, hst⟩ := crowd_pick (P := P) (w := w₁) (sl := sl) (all_awake hI hg aw) some1
    have hI' := hI.at d
    have r' : RF σ.F w (w₁.at d) := RF.trans _ _ _ r₁ (RF.at _ _)
    rcases Nat.eq_zero_or_pos i with rfl | hpos
    · -- the starter
      rw [hg] at hi
      cases hi
      rcases hk with ⟨rfl, rfl, rfl⟩ | ⟨_, _, rfl⟩
      · obtain ⟨Ow, ⟨st, sm, hW⟩, hT⟩ := hI'
        have hwg := hW.wg (by simp)
        have hlive : WgLive ty σ.Wg (w₁.at d) := ⟨_, _, hwg⟩
        obtain ⟨_, _, hblk, hup⟩ := h (w₁.at d) ⟨r', fun _ => hlive⟩
        have hm := hW.mode
        -- it is blocked
        have blk : (∃ st', WgAt ty σ.Wg (w₁.at d) st' 0) → ModeD gs.size D .blk st sm → Ends P Post (crowd gs w₁ sl) t := by
          intro h0 hm'
          have hgo := hblk h0
          obtain ⟨gs', ops, h1, h2, h3, hsz⟩ := go_inv (sl := sl') (tag' := .blk) (d' := σ.d0) (vb' := σ.vb) hW hT hg hgo (fun _ _ _ _ => rfl) (fun _ _ => rfl) (fun _ => hwg) hm' ⟨fun x => (by cases x), fun x => (by cases x)⟩ hW.vb (Nat.le_refl _) (by intro op hop; simp [MemOp.ofEvents] at hop) (by simp) (by simp) rfl
          refine Ends.step (hst.trans h1) ?_
          exact ih a (b - 1) (.inr ⟨rfl, by omega⟩) _ _ _ _ D 0 .blk _ (by rw [hsz]; exact ea) (by rw [hsz]; omega) (.inr ⟨rfl, rfl, rfl⟩) r' h2 h3
        have hm3 : ModeD gs.size D .w3 st sm := hm
        cases hm3 with
        | reg _ h2 h3 h4 => exact blk ⟨_, hwg⟩ (.reg (.inr rfl) h2 h3 h4)
        | last L _ h2 h3 h4 h5 => exact blk ⟨_, hwg⟩ (.last L (.inr rfl) h2 h3 h4 h5)
        | sema hA =>
          -- it is up
          obtain ⟨g', hgo, hn⟩ := hup hwg
          have bks : ∀ e ∈ semEvents (smA σ.Wg), Bk σ.Wg e := by
            intro e he
            simp [semEvents] at he
            rcases he with rfl | rfl | rfl | rfl
            · exact .inl rfl
            · exact Go.ConcN.bk_cell _ _ rfl
            · exact Go.ConcN.bk_cell _ _ rfl
            · exact .inr (.inl rfl)
          have hlt := (Array.getElem?_eq_some_iff.1 (hwg.setSm (v := 0))).1
          obtain ⟨gs', ops, h1, h2, h3, hsz⟩ := go_inv (sl := sl') (tag' := .fin) (d' := σ.d0) (vb' := σ.vb) hW hT hg hgo (fun _ _ _ hb => setCell_ne hb) (fun b hl => setCell_ne (hW.layq (by simp) b hl).2) (fun _ => hwg.setSm 0) (.fin hA) ⟨fun x => (by cases x), fun x => (by cases x)⟩ hW.vb (Nat.le_of_eq (Go.Conc.aside_setCell _ _ _).size.symm)
            (ok0_evG (hT.swW (by simp)) (evg_book bks)) (fun e he => low_book hlt (bks e he)) (fun e he => norel_book (bks e he)) (by simp [deafBehind, semEvents])
          refine Ends.step (hst.trans h1) ?_
          exact hs g' _ (RF.trans _ _ _ r' (RF.setWg hF rfl hwg)) hn _ (.refl _ _) _ _ _ _ h2 h3
      · cases hx
    · have hlt := (Array.getElem?_eq_some_iff.1 hi).1
      obtain ⟨Ow, ⟨st, sm, hW⟩, hT⟩ := hI'
      have hM : Main { σ with tag := tg } gs D a₀ := by
        rcases hk with ⟨_, rfl, rfl⟩ | ⟨_, rfl, rfl⟩
        · exact .run hgr (by simp)
        · exact .sema rfl hgo0 rfl
      rcases others hW hT hg hM hpos hlt hi hx sl' with ⟨gs', w', ops, D', a', tag', hw, hcase⟩ | ⟨a₁, zz, v, vs, e, _⟩
      · refine Ends.step (hst.trans hw.run) ?_
        have hless := hw.less
        have r2 : RF σ.F w w' := RF.trans _ _ _ r' hw.rf
        rcases hcase with ⟨rfl, rfl, _⟩ | ⟨e1, rfl, e3, e4, rfl⟩
        · refine ih (Sd gs.size D') (2 * Fd gs.size D' + fl) ?_ _ _ _ _ D' fl _ _ (by rw [hw.size]) (by rw [hw.size]) hk r2 hw.inv hw.main
          rcases hless with hl | ⟨hl, hl'⟩
          · exact .inl (by omega)
          · exact .inr ⟨by omega, by omega⟩
        · rcases hk with ⟨_, rfl, _⟩ | ⟨rfl, rfl, rfl⟩
          · cases e1
          · refine ih (Sd gs.size D') (2 * Fd gs.size D' + 1) ?_ _ _ _ _ D' 1 .w3 g (by rw [hw.size]) (by rw [hw.size]) (.inl ⟨rfl, rfl, rfl⟩) r2 hw.inv ?_
            · rcases hless with hl | ⟨hl, hl'⟩
              · exact .inl (by omega)
              · exact .inr ⟨by omega, by omega⟩
            · rw [hw.main]
              congr 1
              obtain ⟨fr, cs, s, dy, of⟩ := g
              simp only at hgr
              subst hgr
              rfl
      · exfalso
        rcases hk with ⟨_, _, rfl⟩ | ⟨_, _, rfl⟩
        · rw [e] at hgr; cases hgr
        · have := congrArg Goroutine.offers e
          simp only [parked] at this
          rw [hgo0] at this
          cases this
  intro w₁ r₁ gs sl t D hI hg
  exact key _ _ w₁ gs sl t D 1 .w3 g rfl rfl (.inl ⟨rfl, rfl, rfl⟩) r₁ (by rw [← ht]; exact hI) hg
end
end Go.Proofs.Ytmllcfkgkkbkpaa
/-
  THE STARTER: Wait, whole; the phase's end; the run's end.
-/
namespace Go.Proofs.Ytmllcfkgkkbkpaa
open Go Go.Conc
open Go.ConcN (sumTo upd sumTo_upd upd_ne upd_same CT RelBy WD WgLive OkW Ok0 Apart PermW get_map_set get_map_set_same le_sumTo)
open Go.ConcR (KK wgBlock WgAt stA smA rd wr mk DC0 Bk bk_of_mute ofEvent_loc_mark g_of_ofEvents)

/-- The phase is over: all that were started are only leaving, and have handed over. -/
def over1 (σ : Ph) : Ph := { σ with first := σ.first + σ.n, n := 0 }
section
variable {P : Program} {ty : TypeId} {z z' : Value} {Post : Value → World → Prop} {σ : Ph} {Ow : Nat → Nat → Prop} {g : Goroutine} {w w' : World} {gs gs' : Array Goroutine} {t : Trace} {D : Nat → WD} {st sm st' sm' : Int}
/-- 'acquire', hearing: all that the workers of the phase did before they said Done is known. -/
theorem handed_acq {fn : FuncId} {pos : String} {a : Addr} {k r : Nat} (hr : RelBy a t k r) (hd : Deaf t 0 = 0) (hn : ∀ op ∈ t, op.act ≠ .mark (.release a)) : Handed (t ++ #[{ g := 0, fn, pos, act := .mark (.acquire a) }]) k := by
  have hqp : (t ++ #[({ g := 0, fn, pos, act := .mark (.acquire a) } : MemOp)])[t.size]? = some { g := 0, fn, pos, act := .mark (.acquire a) } := by rw [Array.getElem?_append_right (Nat.le_refl _)]; simp
  have hrs : r < t.size := lt_of_act? hr.act
  have hr' := relBy_appNone (u := #[{ g := 0, fn, pos, act := .mark (.acquire a) }]) hr (fun op hop _ => by simp at hop; subst hop; rfl)
  have hnn : ∀ i, (t ++ #[({ g := 0, fn, pos, act := .mark (.acquire a) } : MemOp)]).act? i ≠ some (.mark (.release a)) := by
    intro i hi
    obtain ⟨op, ho, hoa⟩ := Option.map_eq_some_iff.1 hi
    rcases getElem?_append_cases ho with ⟨_, ho'⟩ | ⟨_, hou⟩
    · exact hn op (Array.mem_of_getElem? ho') hoa
    · simp at hou; subst hou; cases hoa
  have hh : (t ++ #[({ g := 0, fn, pos, act := .mark (.acquire a) } : MemOp)]).heard t.size := ⟨0, by simp [Trace.g?], by rw [deaf_old (Nat.le_refl _)]; exact hd⟩
  have edge : HappensBefore (t ++ #[({ g := 0, fn, pos, act := .mark (.acquire a) } : MemOp)]) r t.size := .single (.inr ⟨.marked hrs (.inr hr'.act) (by rw [act?_of hqp]) (fun k _ _ => hnn k), hr'.heard, hh⟩)
  intro i hgi hc
  have hle : i ≤ r := Nat.le_of_not_lt fun hlt => hr'.after i hlt hgi hc
  have hg0 : (t ++ #[({ g := 0, fn, pos, act := .mark (.acquire a) } : MemOp)]).g? t.size = some 0 := by simp [Trace.g?]
  rcases Nat.lt_or_ge i r with hlt | hge
  · exact ⟨t.size, hg0, .trans (.single (.inl ⟨hlt, k, hgi, hr'.g⟩)) edge⟩
  · obtain rfl : i = r := by omega
    exact ⟨t.size, hg0, edge⟩
/-- ████ 'acquire': THE PHASE IS OVER. ████ -/
theorem ms_acq {Fin : Goroutine → World → Prop} (ht : σ.tag = .fin) (hd0 : σ.d0 = 0) (h : ∀ w₁, RL ty σ w w₁ → MAcq P σ.Wg (RL ty σ) Fin g w₁)
    (hs : ∀ g' w', RF σ.F w w' → (∃ m, Goes P true (RL ty σ) DC0 Fin m g' w') → MS P ty z z' Post (over1 σ) g' w') : MS P ty z z' Post σ g w := by
  refine ms_node (h w (RL.refl w)).1 (by rw [ht]; simp) fun w₁ r₁ gs sl t D hI hg => .inl ?_
  obtain ⟨Ow, ⟨st, sm, hW⟩, hT⟩ := hI
  have hni : σ.tag ≠ .idle := by rw [ht]; simp
  have hwg := hW.wg hni
  obtain ⟨_, g', hgo, hn⟩ := h w₁ ⟨r₁, fun _ => ⟨_, _, hwg⟩⟩
  have hWl := (Array.getElem?_eq_some_iff.1 hwg).1
  have hm := hW.mode
  rw [ht] at hm
  have hA : AllD gs.size D := by
    cases hm with
    | fin hA => exact hA
    | reg hx _ _ _ => rcases hx with hx | hx <;> cases hx
    | last L hx _ _ _ _ => rcases hx with hx | hx <;> cases hx
  obtain ⟨gs', ops, h1, h2, h3, hsz⟩ := go_inv (sl := sl) (tag' := σ.tag) (d' := 0) (vb' := σ.vb) (st' := st) (sm' := sm) (w' := w₁) hW hT hg hgo (fun _ _ _ _ => rfl) (fun _ _ => rfl) (fun _ => hwg) hW.mode Iff.rfl hW.vb (Nat.le_refl _)
    (by intro op hop; obtain ⟨e, he, rfl⟩ := Go.Conc.mem_ofEvents hop; simp at he; subst he; exact ⟨rfl, fun x hx => by cases hx⟩) (by intro e he; simp at he; subst he; exact hWl) (by intro e he; simp at he; subst he; simp [mk]) (by rw [hd0]; rfl)
  have hrun := runT_crowd_go (sl := sl) (i := 0) hg (show stepG P (0 == 0) g w₁ = _ by simpa using hgo)
  have hops : ops = #[{ g := 0, fn := g.frame.fn, pos := g.frame.place, act := .mark (.acquire (stA σ.Wg)) }] := by
    rw [h1] at hrun
    have := (Prod.mk.inj hrun).2
    rw [this]
    simp [MemOp.ofEvents, mk, MemAct.ofEvent]
  refine ⟨_, _, h1, hs g' w₁ r₁ hn w₁ (.refl _ _) gs' sl _ D ?_ h3⟩
  obtain ⟨Ow2, ⟨st2, sm2, hW2⟩, hT2⟩ := h2
  have hN : gs'.size = σ.first + σ.n := by have := hW.size; omega
  refine ⟨Ow2, ⟨st2, sm2, ?_⟩, ?_⟩
  · refine ⟨by have := hW.pos; show 0 < σ.first + σ.n; omega, by show σ.first + σ.n ≤ _; omega, hW2.zero, hW2.sit, fun i i0 hi => hA i (by have : i < σ.first + σ.n := hi; omega), fun i i0 hi => ?_, hW2.quit, hW2.wg, hW2.mode, hW2.vb, fun _ i i0 hi => ?_, fun e => absurd e hni, hW2.room, by show gs'.size = σ.first + σ.n + 0; omega,
      fun i i0 hi => ?_, hW2.fq, hW2.fw, fun i j i0 hi => ?_, fun i i0 hi => ?_, fun i i0 hi => ?_, hW2.qw, hW2.klay, hW2.layF, hW2.layat, hW2.layq, fun i b i0 hi => ?_⟩
    all_goals
      have i0' : σ.first + σ.n ≤ i := i0
      omega
  · refine ⟨hT2.ct, hT2.low, hT2.d0.trans hd0.symm, hT2.dw, hT2.nrel, fun i i0 hi => ?_, fun i i0 hi => ?_, hT2.swF, hT2.swW, hT2.apart, hT2.layF, hT2.klay, hT2.chF, by have := hW.pos; show 0 < σ.first + σ.n; omega, hT2.ow.re rfl rfl rfl rfl _root_.id rfl rfl rfl, hT2.swn, hT2.layn, hT2.qwn, hT2.chn⟩
    · have hi' : i < σ.first + σ.n := hi
      by_cases hf : i < σ.first
      · exact hT2.handed i i0 hf
      · obtain ⟨r, hr⟩ := hT.rel i (by omega) (by omega) (by rw [hA i (by omega)]; omega)
        rw [hops]
        exact handed_acq hr (hT.d0.trans hd0) (fun op hop => hT.nrel op hop _)
    · have i0' : σ.first + σ.n ≤ i := i0
      omega
theorem all_one {N : Nat} {D : Nat → WD} (ho : OpenD N D) (hv : Vd N D = 0) : AllD N D := by
  intro i hi
  rcases ho i hi with h | h
  · have := le_sumTo (f := fun j => cntD (D j)) hi
    simp only [Vd] at hv
    simp only [cntD, h, if_true] at this
    simp only [cntD] at hv
    omega
  · exact h
/-- From the head of Wait's loop. -/
theorem ms_anch {Anch Fin : Goroutine → World → Prop} (ht : σ.tag = .opn false) (hd0 : σ.d0 = 1) (hc : σ.closed = true) (hF : σ.F σ.Wg) {w₀ : World} (hAn : ∀ g w, Anch g w → ∃ m, Goes P true (RL ty σ) DC0 (MW1 P ty σ.Wg (RL ty σ) Anch Fin) m g w)
    (hs : ∀ g' w' vb, RF σ.F w₀ w' → (∀ w₁, RL ty σ w' w₁ → Fin g' w₁) → MS P ty z z' Post (over1 { σ with d0 := 0, vb := vb, tag := .fin }) g' w') :
    ∀ (k : Nat) (g : Goroutine) (w : World), RF σ.F w₀ w → (∃ m, Goes P true (RL ty σ) DC0 (MW1 P ty σ.Wg (RL ty σ) Anch Fin) m g w) → MS P ty z z' Post { σ with vb := k } g w := by
  have hb : σ.tag ≠ .blk := by rw [ht]; simp
  have hi : σ.tag ≠ .idle := by rw [ht]; simp
  -- from 'enable' on
  have tail : ∀ (vb : Nat) (g : Goroutine) (w : World), RF σ.F w₀ w → (∃ m, Goes P true (RL ty σ) DC0 (MKe P (RL ty σ) (MAcq P σ.Wg (RL ty σ) Fin)) m g w) → MS P ty z z' Post { σ with tag := .fin, vb := vb } g w := by
    intro vb g w r ⟨m, h⟩
    refine ms_goes0 (σ := { σ with tag := .fin, vb := vb }) (by simp) (by simp) h fun g1 w1 r1 h1 => ?_
    refine ms_enable (σ := { σ with tag := .fin, vb := vb }) (by simp) (by simp) h1 fun g2 w2 r2 ⟨m2, h2⟩ => ?_
    refine ms_goes0 (σ := { σ with tag := .fin, vb := vb, d0 := σ.d0 - 1 }) (by simp) (by simp) h2 fun g3 w3 r3 h3 => ?_
    refine ms_acq (σ := { σ with tag := .fin, vb := vb, d0 := σ.d0 - 1 }) rfl (by show σ.d0 - 1 = 0; omega) h3 fun g4 w4 r4 ⟨m4, h4⟩ => ?_
    have e0 : σ.d0 - 1 = 0 := by omega
    show MS P ty z z' Post (over1 { σ with tag := .fin, vb := vb, d0 := σ.d0 - 1 }) g4 w4
    rw [e0]
    exact ms_goes0 (σ := over1 { σ with tag := .fin, vb := vb, d0 := 0 }) (by simp [over1]) (by simp [over1]) h4 fun g5 w5 r5 h5 => hs g5 w5 vb (RF.trans _ _ _ r (RF.trans _ _ _ r1 (RF.trans _ _ _ r2 (RF.trans _ _ _ r3 (RF.trans _ _ _ r4 r5))))) h5
  intro k
  induction k using Nat.strongRecOn with
  | _ k ih =>
    intro g w r ⟨m, h⟩
    refine ms_goes0 (σ := { σ with vb := k }) hb hi h fun g1 w1 r1 h1 => ?_
    refine ms_group (σ := { σ with vb := k }) (h1 w1 (RL.refl w1)).1 hb hi fun w2 r2 N D st sm hw hm hv hroom => ?_
    have hm' : ModeD N D (.opn false) st sm := by rw [← ht]; exact hm
    cases hm' with
    | reg hx _ _ _ => rcases hx with hx | hx <;> cases hx
    | last L hx _ _ _ _ => rcases hx with hx | hx <;> cases hx
    | opn ho e =>
      have hVN := Vd_le N D
      have e' : st = ((Vd N D : Nat) : Int) * KK := by simpa using e
      rw [e'] at hw
      obtain ⟨_, hA⟩ := h1 w2 r2
      obtain ⟨g3, hgo, hz, hnz⟩ := hA (Vd N D) (by omega) hw
      have r02 : RF σ.F w₀ w2 := RF.trans _ _ _ r (RF.trans _ _ _ r1 r2.1)
      by_cases hV : Vd N D = 0
      · rw [hV] at hw
        refine ⟨g3, w2, _, 0, 0, .fin, σ.d0, k, hgo, .inl rfl, by simpa using hw, .fin (all_one ho hV), by simp, hv, evg_book (bk_r _), rfl, tail k _ _ r02 (hz hV)⟩
      · obtain ⟨m3, h3⟩ := hnz hV
        refine ⟨g3, w2, _, _, 0, .opn false, σ.d0, Vd N D, hgo, .inl rfl, hw, .opn ho (by simp), by simp, Nat.le_refl _, evg_book (bk_r _), rfl, ?_⟩
        generalize hvs : Vd N D = vs at *
        have hσ : ({ σ with vb := vs, tag := .opn false } : Ph) = { σ with vb := vs } := by rw [← ht]
        show MS P ty z z' Post { σ with vb := vs, tag := .opn false } g3 w2
        rw [hσ]
        refine ms_goes0 (σ := { σ with vb := vs }) hb hi h3 fun g4 w4 r4 h4 => ?_
        refine ms_group (σ := { σ with vb := vs }) (h4 w4 (RL.refl w4)).1 hb hi fun w5 r5 N' D' st' sm' hw' hm2 hv' hroom' => ?_
        have hm3 : ModeD N' D' (.opn false) st' sm' := by rw [← ht]; exact hm2
        cases hm3 with
        | reg hx _ _ _ => rcases hx with hx | hx <;> cases hx
        | last L hx _ _ _ _ => rcases hx with hx | hx <;> cases hx
        | opn ho' e2 =>
          have hVN' := Vd_le N' D'
          have e2' : st' = ((Vd N' D' : Nat) : Int) * KK := by simpa using e2
          rw [e2'] at hw'
          obtain ⟨_, hB⟩ := h4 w5 r5
          obtain ⟨hhit, hmiss⟩ := hB (Vd N' D') (by omega) hw'
          have r05 : RF σ.F w₀ w5 := RF.trans _ _ _ r02 (RF.trans _ _ _ r4 r5.1)
          by_cases hE : Vd N' D' = vs
          · obtain ⟨g6, hgo6, m6, h6⟩ := hhit hE
            have r06 := RF.trans _ _ _ r05 (RF.setWg (σ := σ) hF (ad := stA σ.Wg) (v := .int .u64 (((Vd N' D' : Nat) : Int) * KK + 1)) rfl hw')
            refine ⟨g6, _, _, _, 0, .w3, σ.d0, vs, hgo6, .inr ⟨_, _, rfl, rfl⟩, hw'.setSt _, .reg (.inl rfl) ho' (by omega) rfl, by simp, by omega, evg_book (bk_rw _), rfl, ?_⟩
            refine ms_goes0 (σ := { σ with tag := .w3, vb := vs }) (by simp) (by simp) h6 fun g7 w7 r7 h7 => ?_
            refine ms_say (σ := { σ with tag := .w3, vb := vs }) (by simp) (by simp) h7 fun g8 w8 r8 ⟨m8, h8⟩ => ?_
            refine ms_goes0 (σ := { σ with tag := .w3, vb := vs }) (by simp) (by simp) h8 fun g9 w9 r9 h9 => ?_
            refine ms_w3 (σ := { σ with tag := .w3, vb := vs }) rfl hc h9 hF fun g10 w10 r10 ⟨m10, h10⟩ => ?_
            refine ms_goes0 (σ := { σ with tag := .fin, vb := vs }) (by simp) (by simp) h10 fun g11 w11 r11 h11 => ?_
            refine ms_group (σ := { σ with tag := .fin, vb := vs }) (h11 w11 (RL.refl w11)).1 (by simp) (by simp) fun w12 r12 N3 D3 st3 sm3 hw3 hm4 hv3 _ => ?_
            have hm5 : ModeD N3 D3 .fin st3 sm3 := hm4
            have hfin : AllD N3 D3 ∧ st3 = 0 ∧ sm3 = 0 := by
              cases hm5 with
              | fin hA => exact ⟨hA, rfl, rfl⟩
              | reg hx _ _ _ => rcases hx with hx | hx <;> cases hx
              | last L hx _ _ _ _ => rcases hx with hx | hx <;> cases hx
            obtain ⟨hA, rfl, rfl⟩ := hfin
            obtain ⟨_, hC⟩ := h11 w12 r12
            obtain ⟨g13, hgo13, h13⟩ := hC hw3
            refine ⟨g13, w12, _, 0, 0, .fin, σ.d0, vs, hgo13, .inl rfl, hw3, .fin hA, by simp, hv3, evg_book (bk_r _), rfl, tail vs _ _ ?_ h13⟩
            exact RF.trans _ _ _ r06 (RF.trans _ _ _ r7 (RF.trans _ _ _ r8 (RF.trans _ _ _ r9 (RF.trans _ _ _ r10 (RF.trans _ _ _ r11 r12.1)))))
          · obtain ⟨g6, hgo6, m6, h6⟩ := hmiss hE
            refine ⟨g6, w5, _, _, 0, .opn false, σ.d0, Vd N' D', hgo6, .inl rfl, hw', .opn ho' (by simp), by simp, Nat.le_refl _, evg_book (bk_r _), rfl, ?_⟩
            have hv5 : Vd N' D' ≤ vs := hv'
            generalize hvs' : Vd N' D' = vs' at *
            have hσ' : ({ σ with vb := vs', tag := .opn false } : Ph) = { σ with vb := vs' } := by rw [← ht]
            show MS P ty z z' Post { σ with vb := vs', tag := .opn false } g6 w5
            rw [hσ']
            refine ms_goes0 (σ := { σ with vb := vs' }) hb hi h6 fun g7 w7 r7 h7 => ?_
            have hv0 : vs ≤ k := hv
            exact ih vs' (by omega) g7 w7 (RF.trans _ _ _ r05 r7) (hAn g7 w7 (h7 w7 (RL.refl w7)))
/-- ████ Wait. ████ -/
theorem ms_wait {Anch Fin : Goroutine → World → Prop} (ht : σ.tag = .opn false) (hd0 : σ.d0 = 0) (hc : σ.closed = true) (hF : σ.F σ.Wg) (hAn : ∀ g w, Anch g w → ∃ m, Goes P true (RL ty σ) DC0 (MW1 P ty σ.Wg (RL ty σ) Anch Fin) m g w)
    {m : Nat} (h : Goes P true (RL ty σ) DC0 (MKd P (RL ty σ) Anch) m g w)
    (hs : ∀ g' w' vb, RF σ.F w w' → (∀ w₁, RL ty σ w' w₁ → Fin g' w₁) → MS P ty z z' Post (over1 { σ with d0 := 0, vb := vb, tag := .fin }) g' w') : MS P ty z z' Post σ g w := by
  have hb : σ.tag ≠ .blk := by rw [ht]; simp
  have hi : σ.tag ≠ .idle := by rw [ht]; simp
  refine ms_goes0 hb hi h fun g1 w1 r1 h1 => ms_disable hb hi h1 fun g2 w2 r2 ⟨m2, h2⟩ => ?_
  refine ms_goes0 (σ := { σ with d0 := σ.d0 + 1 }) hb hi h2 fun g3 w3 r3 h3 => ?_
  have := ms_anch (P := P) (ty := ty) (z := z) (z' := z') (Post := Post) (σ := { σ with d0 := σ.d0 + 1 }) (w₀ := w) (Anch := Anch) (Fin := Fin) ht (by show σ.d0 + 1 = 1; omega) hc hF hAn (fun g' w' vb r hf => hs g' w' vb r hf) σ.vb g3 w3 (RF.trans _ _ _ r1 (RF.trans _ _ _ r2 r3)) (hAn g3 w3 (h3 w3 (RL.refl w3)))
  exact this
end
end Go.Proofs.Ytmllcfkgkkbkpaa
/-
  THE STARTER: it receives; it closes 'quit'; a go statement.
-/
namespace Go.Proofs.Ytmllcfkgkkbkpaa
open Go Go.Conc
open Go.ConcN (sumTo upd sumTo_upd sumTo_upd_out upd_ne upd_same CT RelBy WD WgLive OkW Ok0 Apart PermW get_map_set get_map_set_same le_sumTo Deaf_absent)
open Go.ConcR (KK wgBlock WgAt stA smA rd wr mk DC0 Bk bk_of_mute ofEvent_loc_mark g_of_ofEvents)

section
variable {P : Program} {ty : TypeId} {z z' : Value} {Post : Value → World → Prop} {σ : Ph} {Ow : Nat → Nat → Prop} {g : Goroutine} {w w' : World} {gs gs' : Array Goroutine} {t : Trace} {D : Nat → WD} {st sm st' sm' : Int}
/-- Waiting at a channel: till its worker comes. -/
theorem ms_parked {a₁ : Goroutine} {zz : Value} {j : Nat} {v : Value} {vs : List Value} (hb : σ.tag ≠ .blk) (hc : σ.closed = false) (hr : σ.rem j = v :: vs) (j0 : σ.first ≤ j)
    (hs : ∀ w', RF σ.F w w' → MS P ty z z' Post (took σ j vs) (Go.Conc.served a₁ (.tuple #[v, .bool true])) w') :
    ∀ (w₁ : World) (gs : Array Goroutine) (sl : Option (Nat × Nat)) (t : Trace) (D : Nat → WD), RF σ.F w w₁ → Inv P ty z z' σ gs t w₁ D → j < gs.size → 0 < (D j).fuel → gs[0]? = some (parked a₁ #[rcase (σ.ch j) zz] (.recv true)) → Ends P Post (crowd gs w₁ sl) t := by
  have key : ∀ a b (w₁ : World) (gs : Array Goroutine) (sl : Option (Nat × Nat)) (t : Trace) (D : Nat → WD), Sd gs.size D = a → Fd gs.size D = b → RF σ.F w w₁ → Inv P ty z z' σ gs t w₁ D → j < gs.size → 0 < (D j).fuel → gs[0]? = some (parked a₁ #[rcase (σ.ch j) zz] (.recv true)) → Ends P Post (crowd gs w₁ sl) t := by
    refine lt2_ind fun a b ih w₁ gs sl t D ea eb r₁ hI hj hfu hg => ?_
    have aw : awake (parked a₁ #[rcase (σ.ch j) zz] (.recv true)) := by intro t'; simp [parked]
    have jp : 0 < j := by obtain ⟨_, ⟨_, _, hW⟩, _⟩ := hI; have := hW.pos; omega
    have some1 : ∃ (i : Nat) (x : Goroutine), gs[i]? = some x ∧ x.status = .running := by
      obtain ⟨_, ⟨st, sm, hW⟩, _⟩ := hI
      obtain ⟨y, hy, hsy⟩ := hW.sit j jp hj
      rcases hsy.status with h' | ⟨_, h', _, _⟩ | ⟨h', _⟩
      · exact ⟨j, y, hy, h'⟩
      · omega
      · have := hW.still hc j j0 hj (by rw [hr]; simp)
        omega
    obtain ⟨i, x, d, sl', hi, hx, hst⟩ := crowd_pick (P := P) (w := w₁) (sl := sl) (all_awake hI hg aw) some1
    have hI' := hI.at d
    have r' : RF σ.F w (w₁.at d) := RF.trans _ _ _ r₁ (RF.at _ _)
    rcases Nat.eq_zero_or_pos i with rfl | hpos
    · rw [hg] at hi; cases hi; cases hx
    · have hlt := (Array.getElem?_eq_some_iff.1 hi).1
      obtain ⟨Ow, ⟨st, sm, hW⟩, hT⟩ := hI'
      have hM : Main σ gs D (parked a₁ #[rcase (σ.ch j) zz] (.recv true)) := .recv j0 hj hc (by rw [hr]; simp) hfu hb
      rcases others hW hT hg hM hpos hlt hi hx sl' with ⟨gs', w', ops, D', a', tag', hw, hcase⟩ | ⟨a₂, zz2, v2, vs2, e, i0, _, hr2, h9, hsel⟩
      · refine Ends.step (hst.trans hw.run) ?_
        rcases hcase with ⟨rfl, rfl, hM'⟩ | ⟨e1, _⟩
        · refine ih _ _ ?_ _ _ _ _ _ rfl rfl (RF.trans _ _ _ r' hw.rf) hw.inv (by rw [hw.size]; exact hj) ?_ hw.main
          · rw [hw.size, ← ea, ← eb]; exact hw.less
          · obtain ⟨_, ⟨_, _, hW'⟩, _⟩ := hw.inv
            generalize ha₀ : parked a₁ #[rcase (σ.ch j) zz] (.recv true) = a₀ at hM'
            cases hM' with
            | run h' _ => rw [← ha₀] at h'; cases h'
            | @recv a₃ j3 zz3 j30 hj3 _ _ hf3 _ =>
              have e3 : σ.ch j = σ.ch j3 := by
                have := congrArg Goroutine.offers ha₀
                simp only [parked, Option.some.injEq, Prod.mk.injEq, rcase] at this
                exact (show σ.ch j = σ.ch j3 ∧ zz = zz3 by simpa using this).1
              have := hW.inj j j3 j0 hj j30 (by rw [hw.size] at hj3; exact hj3) e3
              subst this
              exact hf3
            | sema _ ho _ => rw [← ha₀] at ho; cases ho
        · exact absurd e1 hb
      · -- they meet
        have e3 : σ.ch j = σ.ch i ∧ a₂.frame = a₁.frame ∧ a₂.callers = a₁.callers ∧ a₂.dying = a₁.dying ∧ zz2 = zz := by
          have h1 := congrArg Goroutine.offers e
          simp only [parked, Option.some.injEq, Prod.mk.injEq, rcase] at h1
          have h2 := congrArg Goroutine.frame e
          have h3 := congrArg Goroutine.callers e
          have h4 := congrArg Goroutine.dying e
          have h5 : σ.ch j = σ.ch i ∧ zz = zz2 := by simpa using h1.1
          exact ⟨h5.1, h2.symm, h3.symm, h4.symm, h5.2.symm⟩
        have hij := hW.inj j i j0 hj i0 hlt e3.1
        subst hij
        rw [hr] at hr2
        cases hr2
        obtain ⟨s1, r1, hch⟩ := hW.chan j j0 hj
        rw [h9] at hch
        have hch' : (w₁.at d).heap[σ.ch j]? = some (.chan 0 #[] false s1 r1 false) := hch
        have hni : σ.tag ≠ .idle := fun e => by have := hW.none e; omega
        have hq := hW.quit hni
        rw [hc] at hq
        obtain ⟨_, h2, h3, _⟩ := hsel
        have hb0 : (j == 0) = false := by simp; omega
        have h2' : stepG P (j == 0) x (w₁.at d) = .comm (core x) (selCases σ.quit (σ.ch j) z z' v) true .select (w₁.at d) #[] := by rw [hb0]; exact h2
        have hpq := parts_quit hW hg hM j
        have hpc : partners (gs.setIfInBounds j ph) (σ.ch j) false = [(0, 0)] := by
          rw [partners_one (j := 0) (g := parked a₁ #[rcase (σ.ch j) zz] (.recv true)) (by rw [Array.getElem?_setIfInBounds_ne (by omega)]; exact hg), offersAt_parked_recv, if_pos rfl]
          · rfl
          · intro k y hk hy
            rcases getElem?_stand gs j k y hy with ⟨_, rfl⟩ | ⟨hkj, hy'⟩
            · exact offersAt_ph _ _
            · obtain ⟨y', hy2, hsy⟩ := hW.sit k (by omega) (Array.getElem?_eq_some_iff.1 hy').1
              rw [hy'] at hy2; cases hy2
              exact hsy.offers_false (hW.chq j j0 hj)
        have hrun := crowd_sel_meets (sl := sl') (j := 0) hi h2' hch' hq (by omega) hg hpc hpq
        refine Ends.step (hst.trans hrun) ?_
        have rch : RF σ.F (w₁.at d) ((w₁.at d).setChan (σ.ch j) 0 #[] false (s1 + 1) (r1 + 1) false) := RF.setChan (hW.fch j j0 hj)
        have hk := h3 ((w₁.at d).setChan (σ.ch j) 0 #[] false (s1 + 1) (r1 + 1) false) ⟨fun b hb => hb.elim (fun hb => setChan_ne (hW.laych j b j0 hj (hW.klay j b hb))) fun hb => setChan_ne (hT.ow.ch j b j hb jp hj), fun hl => let ⟨a, b, y⟩ := hl; ⟨a, b, y.of_block (setChan_ne (hW.chw j j0 hj).symm)⟩⟩
        have hclt := (Array.getElem?_eq_some_iff.1 hch').1
        have hg0 : 0 < gs.size := (Array.getElem?_eq_some_iff.1 hg).1
        have e0 : MemOp.ofEvents j x.frame.fn x.frame.place #[] = #[] := rfl
        obtain ⟨D', hInv⟩ := inv_meet (gs' := (gs.setIfInBounds 0 (a₁.finishComm P #[rcase (σ.ch j) zz] (.recv true) 0 v true)).setIfInBounds j ((core x).finishComm P (selCases σ.quit (σ.ch j) z z' v) .select 0 undef false)) hW hT j0 hj hc hr hch' hk (by simp) (by simp [hj]) (fun k k0 hk hkj => by rw [Array.getElem?_setIfInBounds_ne (fun e => hkj e.symm), Array.getElem?_setIfInBounds_ne (by omega)])
          (u := [{ g := j, fn := (core x).frame.fn, pos := (core x).frame.place, act := .send (σ.ch j) s1 }, { g := 0, fn := a₁.frame.fn, pos := a₁.frame.place, act := .recv (σ.ch j) r1 0 }, { g := j, fn := (core x).frame.fn, pos := (core x).frame.place, act := .sendDone (σ.ch j) s1 }, { g := 0, fn := a₁.frame.fn, pos := a₁.frame.place, act := .recvDone (σ.ch j) r1 }])
          (fun op hop => by
            simp only [List.mem_cons, List.not_mem_nil, or_false] at hop
            rcases hop with rfl | rfl | rfl | rfl
            · exact ⟨hj, rfl, by simp, by simp, by simp, hclt⟩
            · exact ⟨hg0, rfl, by simp, by simp, by simp, hclt⟩
            · exact ⟨hj, rfl, by simp, by simp, by simp, hclt⟩
            · exact ⟨hg0, rfl, by simp, by simp, by simp, hclt⟩)
        rw [e0, Array.empty_append]
        exact hs _ (RF.trans _ _ _ r' rch) _ (.refl _ _) _ _ _ _ hInv (by rw [Array.getElem?_setIfInBounds_ne (by omega)]; simp [hg0]; rfl)
  exact fun w₁ gs sl t D => key _ _ w₁ gs sl t D rfl rfl
/-- ████ IT RECEIVES from worker j. ████ -/
theorem ms_recv {zz : Value} {j : Nat} {v : Value} {vs : List Value} (hrun : g.status = .running) (hb : σ.tag ≠ .blk) (hc : σ.closed = false) (hr : σ.rem j = v :: vs) (j0 : σ.first ≤ j) (hj : j < σ.first + σ.n)
    (h : ∀ w₁, RF σ.F w w₁ → stepG P true g w₁ = .comm (core g) #[rcase (σ.ch j) zz] true (.recv true) w₁ #[])
    (hs : ∀ w', RF σ.F w w' → MS P ty z z' Post (took σ j vs) (Go.Conc.served (core g) (.tuple #[v, .bool true])) w') : MS P ty z z' Post σ g w := by
  refine ms_node hrun hb fun w₁ r₁ gs sl t D hI hg => .inl ?_
  have hstep := h w₁ r₁
  obtain ⟨Ow, ⟨st, sm, hW⟩, hT⟩ := id hI
  have hjs : j < gs.size := by rw [hW.size]; exact hj
  have jp : 0 < j := by have := hW.pos; omega
  have h9 := hW.still hc j j0 hjs (by rw [hr]; simp)
  obtain ⟨s1, r1, hch⟩ := hW.chan j j0 hjs
  rw [h9] at hch
  have hch' : w₁.heap[σ.ch j]? = some (.chan 0 #[] false s1 r1 false) := hch
  have hclt := (Array.getElem?_eq_some_iff.1 hch').1
  have hg0 : 0 < gs.size := (Array.getElem?_eq_some_iff.1 hg).1
  obtain ⟨y, hy, hsy⟩ := hW.sit j jp hjs
  have e0 : MemOp.ofEvents 0 g.frame.fn g.frame.place #[] = #[] := rfl
  have hoth : ∀ k x, k ≠ j → (gs.setIfInBounds 0 ph)[k]? = some x → offersAt x (σ.ch j) true = [] := by
    intro k x hk hx
    rcases getElem?_stand gs 0 k x hx with ⟨_, rfl⟩ | ⟨hk0, hx'⟩
    · exact offersAt_ph _ _
    · have hks := (Array.getElem?_eq_some_iff.1 hx').1
      obtain ⟨x', hx2, hsx⟩ := hW.sit k (by omega) hks
      rw [hx'] at hx2; cases hx2
      refine hsx.offers_true fun e9 _ e => ?_
      by_cases hf : σ.first ≤ k
      · exact hk (hW.inj j k j0 hjs hf hks e).symm
      · have := hW.old k (by omega) (by omega); omega
  by_cases hfu : (D j).fuel = 0
  · -- it waits there
    rw [h9, hfu] at hsy
    generalize hdd : (D j).deaf = dd at hsy
    cases hsy with
    | @park gj _ v2 vs2 er ec hsel =>
      rw [hr] at er
      cases er
      have hp : partners (gs.setIfInBounds 0 ph) (σ.ch j) true = [(j, 0)] := by
        rw [partners_one (j := j) (g := parked (core gj) (selCases σ.quit (σ.ch j) z z' v) .select) (by rw [Array.getElem?_setIfInBounds_ne (by omega)]; exact hy) hoth, offersAt_sel_true, if_pos rfl]
        rfl
      have hrunT := crowd_recv_meets_sel (sl := sl) (i := 0) hg (by simpa using hstep) hch' (by omega) hy hp
      refine ⟨_, _, hrunT, ?_⟩
      have rch : RF σ.F w₁ (w₁.setChan (σ.ch j) 0 #[] false (s1 + 1) (r1 + 1) false) := RF.setChan (hW.fch j j0 hjs)
      obtain ⟨_, _, h3, _⟩ := hsel w₁ (RWk.refl w₁)
      have hk := h3 (w₁.setChan (σ.ch j) 0 #[] false (s1 + 1) (r1 + 1) false) ⟨fun b hb => hb.elim (fun hb => setChan_ne (hW.laych j b j0 hjs (hW.klay j b hb))) fun hb => setChan_ne (hT.ow.ch j b j hb jp hjs), fun hl => let ⟨a, b, y⟩ := hl; ⟨a, b, y.of_block (setChan_ne (hW.chw j j0 hjs).symm)⟩⟩
      obtain ⟨D', hInv⟩ := inv_meet (gs' := (gs.setIfInBounds j ((core gj).finishComm P (selCases σ.quit (σ.ch j) z z' v) .select 0 undef false)).setIfInBounds 0 ((core g).finishComm P #[rcase (σ.ch j) zz] (.recv true) 0 v true)) hW hT j0 hjs hc hr hch' hk (by simp)
        (by rw [Array.getElem?_setIfInBounds_ne (by omega)]; simp [hjs]) (fun k k0 hk hkj => by rw [Array.getElem?_setIfInBounds_ne (by omega), Array.getElem?_setIfInBounds_ne (fun e => hkj e.symm)])
        (u := [{ g := j, fn := (core gj).frame.fn, pos := (core gj).frame.place, act := .send (σ.ch j) s1 }, { g := 0, fn := (core g).frame.fn, pos := (core g).frame.place, act := .recv (σ.ch j) r1 0 }, { g := j, fn := (core gj).frame.fn, pos := (core gj).frame.place, act := .sendDone (σ.ch j) s1 }, { g := 0, fn := (core g).frame.fn, pos := (core g).frame.place, act := .recvDone (σ.ch j) r1 }])
        (fun op hop => by
          simp only [List.mem_cons, List.not_mem_nil, or_false] at hop
          rcases hop with rfl | rfl | rfl | rfl
          · exact ⟨hjs, rfl, by simp, by simp, by simp, hclt⟩
          · exact ⟨hg0, rfl, by simp, by simp, by simp, hclt⟩
          · exact ⟨hjs, rfl, by simp, by simp, by simp, hclt⟩
          · exact ⟨hg0, rfl, by simp, by simp, by simp, hclt⟩)
      rw [e0, Array.empty_append]
      exact hs _ (RF.trans _ _ _ r₁ rch) _ (.refl _ _) _ _ _ _ hInv (by simp [hg0]; rfl)
  · -- it is on its way: wait
    have hp : partners (gs.setIfInBounds 0 ph) (σ.ch j) true = [] := by
      refine partners_nil fun k x hx => ?_
      by_cases hk : k = j
      · subst hk
        rcases getElem?_stand gs 0 k x hx with ⟨_, rfl⟩ | ⟨_, hx'⟩
        · exact offersAt_ph _ _
        · rw [hy] at hx'; cases hx'
          exact hsy.offers_true fun _ e => absurd e hfu
      · exact hoth k x hk hx
    have hrunT := crowd_waits (sl := sl) (i := 0) hg (show stepG P (0 == 0) g w₁ = _ by simpa using hstep) (fun cc hcc => by
      simp at hcc
      subst hcc
      exact ways_recv_none hch' hp)
    refine ⟨_, _, hrunT, ?_⟩
    rw [e0, Array.append_empty]
    have hsz : (gs.setIfInBounds 0 (parked (core g) #[rcase (σ.ch j) zz] (.recv true))).size = gs.size := by simp
    refine ms_parked (w := w) (zz := zz) (v := v) (vs := vs) hb hc hr j0 hs w₁ _ sl t D r₁ ⟨Ow, ⟨st, sm, ?_⟩, ?_⟩ (by rw [hsz]; exact hjs) (by omega) (by simp [hg0])
    · have := wi_main (tag' := σ.tag) (d' := σ.d0) (vb' := σ.vb) (gs' := gs.setIfInBounds 0 (parked (core g) #[rcase (σ.ch j) zz] (.recv true))) (w' := w₁) (st' := st) (sm' := sm) hW hsz (fun k k0 hk => by rw [Array.getElem?_setIfInBounds_ne (by omega)]) (fun _ _ _ => rfl) (fun _ _ => rfl) (fun _ _ _ => rfl) (fun _ => rfl) hW.wg hW.mode Iff.rfl hW.vb
      exact this
    · rw [hsz]; exact hT
end
end Go.Proofs.Ytmllcfkgkkbkpaa
