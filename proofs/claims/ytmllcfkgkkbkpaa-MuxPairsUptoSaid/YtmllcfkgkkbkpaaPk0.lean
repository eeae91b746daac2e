/-
  A SEMANTIC TERM THAT CALLS NO KERNEL READS THE TAPE FROM WHERE IT STANDS: on another tape that says the same there it does the same.
-/
import Derived.Conc.Beside
import Derived.Conc.Own4
import Derived.AtR
import Derived.Conc.Company
import Derived.Conc.Script
namespace Go.Proofs.Ytmllcfkgkkbkpaa
open Go Go.Conc

/-- The world with another tape. -/
def _root_.Go.World.re (w : World) (t : Nat → Question → Nat) (d : Nat) : World := { w with tape := t, drawn := d }
theorem re_re (w : World) (t t' : Nat → Question → Nat) (d d' : Nat) : (w.re t d).re t' d' = w.re t' d' := rfl
theorem re_self (w : World) : w.re w.tape w.drawn = w := rfl

/-- A term that comes through reads the tape from where it stands; on another tape that says the same there it does the same. -/
def Cong {α : Type} (P : Program) (s : Sem α) : Prop :=
  ∀ (w : World) (a : α) (w' : World), s.run P w = .ok a w' → w'.tape = w.tape ∧ w.drawn ≤ w'.drawn ∧
    ∀ (T : Nat → Question → Nat) (k : Nat), (∀ j q, w.drawn + j < w'.drawn → T (k + j) q = w.tape (w.drawn + j) q) → s.run P (w.re T k) = .ok a (w'.re T (k + (w'.drawn - w.drawn)))

/-- No kernel call in it. -/
def NoSys {α : Type} (P : Program) : Sem α → Prop
  | .pure _ | .halt _ => True
  | .load _ _ k => ∀ v, NoSys P (k v)
  | .store _ _ _ k => NoSys P k
  | .new _ k => ∀ r, NoSys P (k r)
  | .shape _ k => ∀ s, NoSys P (k s)
  | .freeze _ _ k => NoSys P k
  | .frozen _ k => ∀ b, NoSys P (k b)
  | .getObj _ k => ∀ o, NoSys P (k o)
  | .setObj _ _ k => NoSys P k
  | .choose _ k => ∀ n, NoSys P (k n)
  | .sys _ _ => False
  | .program k => NoSys P (k P)
  | .mark _ k => NoSys P k
theorem viewStore_re {p : Program} {w : World} {at_ : Addr} {u : TypeId} {k : Addr} {v : Value} {at' : Bool} {r} (hr : w.viewStore p at_ u k v at' = .ok r) (T : Nat → Question → Nat) (kk : Nat) :
    (w.re T kk).viewStore p at_ u k v at' = .ok (r.1.re T kk, r.2) ∧ r.1.tape = w.tape ∧ r.1.drawn = w.drawn := by
  unfold World.viewStore at *
  simp only [bind, Except.bind] at *
  by_cases ht : (!tight p p.depth u) = true
  · rw [if_pos ht] at hr; cases hr
  rw [if_neg ht] at hr
  simp only [if_neg ht]
  simp only [Pure.pure, Except.pure] at *
  rw [show (w.re T kk).seen p at_ u k at' = w.seen p at_ u k at' from rfl]
  cases hs : w.seen p at_ u k at' with
  | error e => rw [hs] at hr; cases hr
  | ok s =>
    rw [hs] at hr
    obtain ⟨c, e', fr, first, like, cells⟩ := s
    simp only at *
    cases hb : v.bytes? with
    | none => rw [hb] at hr; cases hr
    | some bytes =>
      rw [hb] at hr
      simp only at *
      by_cases hz : some bytes.length ≠ like.bytes?.map (·.length)
      · rw [if_pos hz] at hr; cases hr
      rw [if_neg hz] at hr
      simp only [if_neg hz] at *
      revert hr
      generalize (List.foldlM (m := Except String) _ c cells) = z
      cases z with
      | error e => intro hr; cases hr
      | ok c' =>
        intro hr
        simp only [Except.ok.injEq] at hr
        subst hr
        exact ⟨rfl, rfl, rfl⟩
theorem run_cong {α : Type} (P : Program) (s : Sem α) (hs : NoSys P s) : Cong P s := by
  induction s with
  | pure a =>
    intro w b w' hr
    simp only [Sem.run, Result.ok.injEq] at hr
    obtain ⟨rfl, rfl⟩ := hr
    exact ⟨rfl, Nat.le_refl _, fun T k _ => by simp [Sem.run, World.re]⟩
  | load m a k ih =>
    intro w b w' hr
    simp only [Sem.run] at hr
    cases hc : w.cell? a with
    | some v =>
      rw [hc] at hr
      obtain ⟨h1, h2, h3⟩ := ih v (hs v) w b w' hr
      refine ⟨h1, h2, fun T k hT => ?_⟩
      simp only [Sem.run]
      rw [show (w.re T k).cell? a = some v from hc]
      exact h3 T k hT
    | none =>
      rw [hc] at hr
      simp only at hr
      cases hf : w.farLoad P a (m == .atomic) with
      | error e => rw [hf] at hr; cases hr
      | ok r =>
        rw [hf] at hr
        obtain ⟨h1, h2, h3⟩ := ih r.1 (hs r.1) w b w' hr
        refine ⟨h1, h2, fun T k hT => ?_⟩
        simp only [Sem.run]
        rw [show (w.re T k).cell? a = none from hc]
        simp only
        rw [show (w.re T k).farLoad P a (m == .atomic) = .ok r from hf]
        exact h3 T k hT
  | store m a v k ih =>
    intro w b w' hr
    by_cases hv : (∀ vs, v ≠ .agg vs) ∧ ∀ vs, v ≠ .tuple vs
    · have e1 : ∀ (x : World), (Sem.store m a v k).run P x = (match x.cell? a with
        | some _ => if x.frozen? a then .halt (.unsupported (.unsafePointer "a write to bytes that a string shares")) x else k.run P (x.setCell a v)
        | none => match x.farStore P a v (m == .atomic) with
          | .ok (w, _) => k.run P w
          | .error h => .halt h x) := by
        intro x
        cases v <;> first | rfl | exact absurd rfl (hv.1 _) | exact absurd rfl (hv.2 _)
      rw [e1] at hr
      cases hc : w.cell? a with
      | some v' =>
        rw [hc] at hr
        simp only at hr
        split at hr
        · cases hr
        · rename_i hfz
          obtain ⟨h1, h2, h3⟩ := ih hs (w.setCell a v) b w' hr
          refine ⟨h1, h2, fun T kk hT => ?_⟩
          rw [e1, show (w.re T kk).cell? a = some v' from hc]
          simp only
          rw [if_neg (show ¬ ((w.re T kk).frozen? a) = true from hfz)]
          exact h3 T kk hT
      | none =>
        rw [hc] at hr
        simp only at hr
        cases hf : w.farStore P a v (m == .atomic) with
        | error e => rw [hf] at hr; cases hr
        | ok r =>
          rw [hf] at hr
          obtain ⟨w1, tt⟩ := r
          have hfar : ∀ T kk, (w.re T kk).farStore P a v (m == .atomic) = .ok (w1.re T kk, tt) ∧ w1.tape = w.tape ∧ w1.drawn = w.drawn := by
            intro T kk
            unfold World.farStore at hf ⊢
            rw [show (w.re T kk).heap[a.block]? = w.heap[a.block]? from rfl]
            cases hb : w.heap[a.block]? with
            | none => rw [hb] at hf; cases hf
            | some o =>
              rw [hb] at hf
              cases o <;> try (cases hf; done)
              rename_i at_ u
              simp only at hf ⊢
              cases hv' : w.viewStore P at_ u a v (m == .atomic) with
              | error e => rw [hv'] at hf; cases hf
              | ok r' =>
                rw [hv'] at hf
                simp only [Except.ok.injEq] at hf
                subst hf
                obtain ⟨e1, e2, e3⟩ := viewStore_re hv' T kk
                rw [e1]
                exact ⟨rfl, e2, e3⟩
          obtain ⟨h1, h2, h3⟩ := ih hs w1 b w' hr
          obtain ⟨_, ht1, ht2⟩ := hfar w.tape 0
          refine ⟨h1.trans ht1, by omega, fun T kk hT => ?_⟩
          rw [e1, show (w.re T kk).cell? a = none from hc]
          simp only
          rw [(hfar T kk).1]
          have := h3 T kk fun j q hj => by rw [ht1, ht2]; exact hT j q (by omega)
          rw [ht2] at this
          exact this
    · exfalso
      cases v <;> first
        | (simp only [Sem.run] at hr; cases hr; done)
        | exact hv ⟨fun _ => by simp, fun _ => by simp⟩
  | new o k ih =>
    intro w b w' hr
    simp only [Sem.run] at hr
    obtain ⟨h1, h2, h3⟩ := ih w.heap.size (hs _) { w with heap := w.heap.push o } b w' hr
    exact ⟨h1, h2, fun T k hT => by simp only [Sem.run]; exact h3 T k hT⟩
  | shape r k ih =>
    intro w b w' hr
    simp only [Sem.run] at hr
    obtain ⟨h1, h2, h3⟩ := ih _ (hs _) w b w' hr
    exact ⟨h1, h2, fun T k hT => by simp only [Sem.run]; exact h3 T k hT⟩
  | freeze a n k ih =>
    intro w b w' hr
    simp only [Sem.run] at hr
    have e0 : ∀ x : World, (x.freeze a n).tape = x.tape ∧ (x.freeze a n).drawn = x.drawn ∧ ∀ T kk, (x.re T kk).freeze a n = (x.freeze a n).re T kk := by
      intro x
      unfold World.freeze
      split
      · exact ⟨rfl, rfl, fun _ _ => rfl⟩
      · exact ⟨rfl, rfl, fun _ _ => rfl⟩
    obtain ⟨h1, h2, h3⟩ := ih hs (w.freeze a n) b w' hr
    obtain ⟨f1, f2, f3⟩ := e0 w
    refine ⟨h1.trans f1, by omega, fun T kk hT => ?_⟩
    simp only [Sem.run]
    rw [f3]
    have := h3 T kk fun j q hj => by rw [f1, f2]; exact hT j q (by omega)
    rw [f2] at this
    exact this
  | frozen a k ih =>
    intro w b w' hr
    simp only [Sem.run] at hr
    obtain ⟨h1, h2, h3⟩ := ih _ (hs _) w b w' hr
    exact ⟨h1, h2, fun T k hT => by simp only [Sem.run]; exact h3 T k hT⟩
  | getObj r k ih =>
    intro w b w' hr
    simp only [Sem.run] at hr
    cases ho : w.heap[r]? with
    | none => rw [ho] at hr; cases hr
    | some o =>
      rw [ho] at hr
      cases o <;> first
        | (cases hr; done)
        | (obtain ⟨h1, h2, h3⟩ := ih _ (hs _) w b w' hr
           refine ⟨h1, h2, fun T k hT => ?_⟩
           simp only [Sem.run]
           rw [show (w.re T k).heap[r]? = _ from ho]
           exact h3 T k hT)
  | setObj r o k ih =>
    intro w b w' hr
    simp only [Sem.run] at hr
    cases ho : w.heap[r]? with
    | none => rw [ho] at hr; cases hr
    | some o' =>
      rw [ho] at hr
      cases o' <;> first
        | (cases hr; done)
        | (obtain ⟨h1, h2, h3⟩ := ih hs { w with heap := w.heap.setIfInBounds r o } b w' hr
           refine ⟨h1, h2, fun T k hT => ?_⟩
           simp only [Sem.run]
           rw [show (w.re T k).heap[r]? = _ from ho]
           exact h3 T k hT)
  | choose q k ih =>
    intro w b w' hr
    simp only [Sem.run] at hr
    by_cases hf : q.forced = true
    · rw [if_pos hf] at hr
      obtain ⟨h1, h2, h3⟩ := ih _ (hs _) w b w' hr
      refine ⟨h1, h2, fun T k hT => ?_⟩
      simp only [Sem.run]
      rw [if_pos hf]
      exact h3 T k hT
    · rw [if_neg hf] at hr
      obtain ⟨h1, h2, h3⟩ := ih _ (hs _) { w with drawn := w.drawn + 1 } b w' hr
      simp only at h1 h2 h3
      refine ⟨h1, by omega, fun T kk hT => ?_⟩
      simp only [Sem.run]
      rw [if_neg hf]
      have e0 : (w.re T kk).tape (w.re T kk).drawn q = w.tape w.drawn q := by
        have := hT 0 q (by omega)
        rw [Nat.add_zero, Nat.add_zero] at this
        exact this
      rw [e0]
      have := h3 T (kk + 1) fun j q hj => by
        have := hT (j + 1) q (by omega)
        rw [show kk + 1 + j = kk + (j + 1) by omega, show w.drawn + 1 + j = w.drawn + (j + 1) by omega]
        exact this
      have e1 : kk + 1 + (w'.drawn - (w.drawn + 1)) = kk + (w'.drawn - w.drawn) := by omega
      rw [e1] at this
      exact this
  | sys c k ih => exact hs.elim
  | program k ih =>
    intro w b w' hr
    simp only [Sem.run] at hr
    obtain ⟨h1, h2, h3⟩ := ih _ hs w b w' hr
    exact ⟨h1, h2, fun T k hT => by simp only [Sem.run]; exact h3 T k hT⟩
  | mark m k ih =>
    intro w b w' hr
    simp only [Sem.run] at hr
    obtain ⟨h1, h2, h3⟩ := ih hs w b w' hr
    exact ⟨h1, h2, fun T k hT => by simp only [Sem.run]; exact h3 T k hT⟩
  | halt h =>
    intro w b w' hr
    cases hr
end Go.Proofs.Ytmllcfkgkkbkpaa
/-
  WHAT A SEMANTIC TERM DOES HANGS ON NOTHING OF SOME BLOCKS (F): if it comes through in a world in which those blocks are POISONED, then it does the same in the real one, and touches none of them.
-/
namespace Go.Proofs.Ytmllcfkgkkbkpaa
open Go Go.Conc

/-- A type's number that no table bears. -/
def botT (P : Program) : TypeId := P.types.size
theorem botT_info (P : Program) : P.info? (botT P) = none := by
  have e : Made.decode 0 = none := by
    simp [Made.decode, Made.unpack, Made.unpackFrom]
  show Tables.info? P.toTables P.types.size = none
  unfold Tables.info?
  rw [if_neg (Nat.lt_irrefl _)]
  show Made.infoAt P.toTables (99 + 1) P.types.size = none
  rw [Made.infoAt, if_neg (Nat.lt_irrefl _), Nat.sub_self, e]
  rfl
theorem botT_cells (P : Program) : P.cellsOf (botT P) = 0 := by simp [Program.cellsOf, botT_info]

def objPending : Obj → Bool
  | .pending .. => true
  | _ => false
def objTame : Obj → Bool
  | .cells .. | .chan .. | .pending .. => true
  | _ => false
def poison (P : Program) : Obj := .cells #[] (botT P) (0, 0)

/-- pw: the poisoned world; w: the real one. -/
structure Poi (P : Program) (F : Nat → Prop) (pw w : World) : Prop where
  size : pw.heap.size = w.heap.size
  tape : pw.tape = w.tape
  drawn : pw.drawn = w.drawn
  os : pw.os = w.os
  output : pw.output = w.output
  out : ∀ b, ¬ F b → pw.heap[b]? = w.heap[b]?
  low : ∀ b, F b → b < w.heap.size
  dead : ∀ b, F b → pw.heap[b]? = some (poison P)
  real : ∀ b o, F b → w.heap[b]? = some o → objTame o = true
  live : ∀ b o, ¬ F b → w.heap[b]? = some o → objPending o = false

/-- What a term may list: plain things of blocks out of F. -/
def EvOk (F : Nat → Prop) (n : Nat) (e : Event) : Prop :=
  match e.loc with
  | .cell a => ¬ F a.block ∧ a.block < n
  | .obj r => r < n ∧ e.write = false
  | .mark m => m = .noRoom
  | _ => False
theorem EvOk.mono {F : Nat → Prop} {n m : Nat} {e : Event} (h : EvOk F n e) (hn : n ≤ m) : EvOk F m e := by
  unfold EvOk at *
  split at h <;> first | exact ⟨h.1, by omega⟩ | exact ⟨by omega, h.2⟩ | exact h

/-- What it does to the world: the blocks of F stand. -/
structure Gt (F : Nat → Prop) (w w' : World) : Prop where
  same : ∀ b, F b → w'.heap[b]? = w.heap[b]?
  size : w.heap.size ≤ w'.heap.size
  tape : w'.tape = w.tape
  os : w'.os = w.os
  output : w'.output = w.output
theorem Gt.refl (F : Nat → Prop) (w : World) : Gt F w w := ⟨fun _ _ => rfl, Nat.le_refl _, rfl, rfl, rfl⟩
theorem Gt.trans {F : Nat → Prop} {a b c : World} (h : Gt F a b) (k : Gt F b c) : Gt F a c :=
  ⟨fun x hx => (k.same x hx).trans (h.same x hx), Nat.le_trans h.size k.size, k.tape.trans h.tape, k.os.trans h.os, k.output.trans h.output⟩

def InsOk {α : Type} (P : Program) (F : Nat → Prop) (s : Sem α) (Q : α → Prop) : Prop :=
  ∀ (pw w : World) (es : Array Event) (a : α) (pw' : World), Poi P F pw w → s.run P pw = .ok a pw' →
    Q a ∧ ∃ (w' : World) (new : Array Event), s.runT P w es = (.ok a w', es ++ new) ∧ (∀ e ∈ new, EvOk F w'.heap.size e) ∧ Poi P F pw' w' ∧ Gt F w w'

section
variable {P : Program} {F : Nat → Prop} {α β : Type} {Q : α → Prop} {R : β → Prop}

theorem InsOk.mono {s : Sem α} {Q' : α → Prop} (h : InsOk P F s Q) (hq : ∀ a, Q a → Q' a) : InsOk P F s Q' := by
  intro pw w es a pw' hp hr
  obtain ⟨q, x⟩ := h pw w es a pw' hp hr
  exact ⟨hq a q, x⟩
theorem InsOk.pure {a : α} (h : Q a) : InsOk P F (Pure.pure a : Sem α) Q := by
  intro pw w es b pw' hp hr
  have hr' : (.ok a pw : Result α) = .ok b pw' := hr
  simp only [Result.ok.injEq] at hr'
  obtain ⟨rfl, rfl⟩ := hr'
  exact ⟨h, w, #[], by rw [Array.append_empty]; rfl, by simp, hp, .refl _ _⟩
theorem InsOk.pure' {a : α} (h : Q a) : InsOk P F (Sem.pure a) Q := InsOk.pure h
theorem InsOk.halt {h : Halt} : InsOk P F (Sem.halt h : Sem α) Q := by
  intro pw w es b pw' hp hr
  cases hr
theorem InsOk.bind' {x : Sem β} {f : β → Sem α} (hx : InsOk P F x R) (hf : ∀ b, R b → InsOk P F (f b) Q) : InsOk P F (x.bind f) Q := by
  intro pw w es a pw' hp hr
  rw [Sem.run_bind'] at hr
  cases hxr : x.run P pw with
  | halt h w1 => rw [hxr] at hr; cases hr
  | ok b pw1 =>
    rw [hxr] at hr
    obtain ⟨rb, w1, n1, e1, v1, p1, g1⟩ := hx pw w es b pw1 hp hxr
    obtain ⟨qa, w2, n2, e2, v2, p2, g2⟩ := hf b rb pw1 w1 (es ++ n1) a pw' p1 hr
    refine ⟨qa, w2, n1 ++ n2, ?_, fun e he => ?_, p2, g1.trans g2⟩
    · rw [Sem.runT_bind', e1]
      simp only
      rw [e2, Array.append_assoc]
    · rcases Array.mem_append.1 he with h | h
      · exact (v1 e h).mono g2.size
      · exact v2 e h
theorem InsOk.bind {x : Sem β} {f : β → Sem α} (hx : InsOk P F x R) (hf : ∀ b, R b → InsOk P F (f b) Q) : InsOk P F (x >>= f) Q := InsOk.bind' hx hf
/-- A term that never comes through. -/
theorem InsOk.doomed {s : Sem α} (h : ∀ w a w', s.run P w ≠ .ok a w') : InsOk P F s Q := fun pw _ _ a pw' _ hr => absurd hr (h pw a pw')
theorem doomed_bind {x : Sem β} {f : β → Sem α} (h : ∀ b w a w', (f b).run P w ≠ .ok a w') : ∀ w a w', (x >>= f).run P w ≠ .ok a w' := by
  intro w a w' hr
  have hr' : (x.bind f).run P w = .ok a w' := hr
  rw [Sem.run_bind'] at hr'
  cases hxr : x.run P w with
  | halt h w1 => rw [hxr] at hr'; cases hr'
  | ok b w1 => rw [hxr] at hr'; exact h b w1 a w' hr'

theorem Poi.cell {pw w : World} (h : Poi P F pw w) {a : Addr} {v : Value} (hv : pw.cell? a = some v) : ¬ F a.block ∧ w.cell? a = some v ∧ a.block < w.heap.size := by
  have hF : ¬ F a.block := fun hF => by
    unfold World.cell? at hv
    rw [h.dead _ hF] at hv
    simp [poison] at hv
  refine ⟨hF, ?_, ?_⟩
  · unfold World.cell? at *
    rw [← h.out _ hF]; exact hv
  · rw [← h.size]
    rcases Nat.lt_or_ge a.block pw.heap.size with h' | h'
    · exact h'
    · unfold World.cell? at hv
      rw [Array.getElem?_eq_none h'] at hv
      cases hv

theorem seen_of {p : Program} {pw w : World} (h : Poi p F pw w) {at_ : Addr} {u : TypeId} {k : Addr} {at' : Bool} {r} (hr : pw.seen p at_ u k at' = .ok r) : ¬ F at_.block ∧ w.seen p at_ u k at' = .ok r := by
  have hF : ¬ F at_.block := fun hF => by
    unfold World.seen at hr
    rw [h.dead _ hF] at hr
    simp only [poison, botT_cells, bind, Except.bind] at hr
    split at hr
    · cases hr
    · revert hr
      cases plainCell p p.depth u k.off with
      | none => intro hr; cases hr
      | some like =>
        simp only
        cases like.bytes?.map (·.length) with
        | none => intro hr; cases hr
        | some size =>
          simp only
          cases byteOfCell p p.depth u k.off with
          | none => intro hr; cases hr
          | some β => intro hr; cases hr
  refine ⟨hF, ?_⟩
  unfold World.seen at *
  rw [← h.out _ hF]
  exact hr
theorem viewLoad_of {p : Program} {pw w : World} (h : Poi p F pw w) {at_ : Addr} {u : TypeId} {k : Addr} {at' : Bool} {r} (hr : pw.viewLoad p at_ u k at' = .ok r) : ¬ F at_.block ∧ w.viewLoad p at_ u k at' = .ok r ∧ ∀ a ∈ r.2, a.block = at_.block := by
  unfold World.viewLoad at *
  simp only [bind, Except.bind] at *
  revert hr
  cases hs : pw.seen p at_ u k at' with
  | error e => intro hr; cases hr
  | ok s =>
    intro hr
    obtain ⟨hF, e⟩ := seen_of h hs
    refine ⟨hF, by rw [e]; exact hr, ?_⟩
    obtain ⟨c, e', fr, first, like, cells⟩ := s
    simp only at hr
    revert hr
    cases like.ofBytes (cells.flatMap fun x => (x.2.2.drop (first - x.2.1)).take (first + (like.bytes?.map (·.length)).getD 0 - max first x.2.1)) with
    | none => intro hr; cases hr
    | some v =>
      intro hr
      simp only [Pure.pure, Except.pure, Except.ok.injEq] at hr
      subst hr
      intro a ha
      simp only [List.mem_map] at ha
      obtain ⟨x, _, rfl⟩ := ha
      rfl

theorem seen_size {p : Program} {w : World} {at_ : Addr} {u : TypeId} {k : Addr} {at' : Bool} {r} (hr : w.seen p at_ u k at' = .ok r) : at_.block < w.heap.size := by
  rcases Nat.lt_or_ge at_.block w.heap.size with h' | h'
  · exact h'
  · exfalso
    unfold World.seen at hr
    rw [Array.getElem?_eq_none h'] at hr
    simp only [bind, Except.bind] at hr
    split at hr
    · cases hr
    · revert hr
      cases plainCell p p.depth u k.off with
      | none => intro hr; cases hr
      | some like =>
        simp only
        cases like.bytes?.map (·.length) with
        | none => intro hr; cases hr
        | some size =>
          simp only
          cases byteOfCell p p.depth u k.off with
          | none => intro hr; cases hr
          | some β => intro hr; cases hr
theorem viewLoad_size {p : Program} {w : World} {at_ : Addr} {u : TypeId} {k : Addr} {at' : Bool} {r} (hr : w.viewLoad p at_ u k at' = .ok r) : at_.block < w.heap.size := by
  unfold World.viewLoad at hr
  simp only [bind, Except.bind] at hr
  revert hr
  cases hs : w.seen p at_ u k at' with
  | error e => intro hr; cases hr
  | ok s => intro _; exact seen_size hs

theorem InsOk.load {m : Mode} {a : Addr} : InsOk P F (Sem.load m a Sem.pure) (fun _ => True) := by
  intro pw w es b pw' hp hr
  simp only [Sem.run] at hr
  cases hc : pw.cell? a with
  | some v =>
    rw [hc] at hr
    simp only [Result.ok.injEq] at hr
    obtain ⟨rfl, rfl⟩ := hr
    obtain ⟨hF, hw, hl⟩ := hp.cell hc
    refine ⟨trivial, w, #[⟨.cell a, false, m == .atomic⟩], ?_, ?_, hp, .refl _ _⟩
    · simp only [Sem.runT, hw, Array.push_eq_append]
    · intro e he
      simp only [Array.mem_singleton] at he
      subst he
      exact ⟨hF, hl⟩
  | none =>
    rw [hc] at hr
    simp only at hr
    cases hf : pw.farLoad P a (m == .atomic) with
    | error h => rw [hf] at hr; cases hr
    | ok r =>
      rw [hf] at hr
      simp only [Result.ok.injEq] at hr
      obtain ⟨rfl, rfl⟩ := hr
      unfold World.farLoad at hf
      cases hb : pw.heap[a.block]? with
      | none => rw [hb] at hf; cases hf
      | some o =>
        rw [hb] at hf
        cases o <;> try (cases hf; done)
        rename_i at_ u
        have hFa : ¬ F a.block := fun hF => by rw [hp.dead _ hF] at hb; cases hb
        have hbw : w.heap[a.block]? = some (.view at_ u) := by rw [← hp.out _ hFa]; exact hb
        simp only at hf
        cases hv : pw.viewLoad P at_ u a (m == .atomic) with
        | error e => rw [hv] at hf; cases hf
        | ok r' =>
          rw [hv] at hf
          simp only [Except.ok.injEq] at hf
          subst hf
          obtain ⟨hF, hvw, hal⟩ := viewLoad_of hp hv
          have hcw : w.cell? a = none := by unfold World.cell?; rw [hbw]
          refine ⟨trivial, w, r'.2.toArray.map (⟨.cell ·, false, m == .atomic⟩), ?_, ?_, hp, .refl _ _⟩
          · simp only [Sem.runT, hcw]
            unfold World.farLoad
            rw [hbw]
            simp only [hvw]
          · intro e he
            simp only [List.map_toArray, List.mem_toArray, List.mem_map] at he
            obtain ⟨x, hx, rfl⟩ := he
            refine ⟨?_, ?_⟩
            · rw [hal x hx]; exact hF
            · rw [hal x hx]; exact viewLoad_size hvw

theorem Poi.frozen {pw w : World} (h : Poi P F pw w) {a : Addr} (hF : ¬ F a.block) : pw.frozen? a = w.frozen? a := by
  unfold World.frozen?; rw [h.out _ hF]

theorem heap_modify_ne {w : World} {b k : Nat} {f : Obj → Obj} (h : b ≠ k) : (w.heap.modify b f)[k]? = w.heap[k]? := by
  rw [Array.getElem?_modify, if_neg h]
theorem Poi.setCell {pw w : World} (h : Poi P F pw w) {a : Addr} {v : Value} (hF : ¬ F a.block) : Poi P F (pw.setCell a v) (w.setCell a v) := by
  refine ⟨by simp [World.setCell, h.size], h.tape, h.drawn, h.os, h.output, fun b hb => ?_, fun b hb => by simp [World.setCell, h.low b hb], fun b hb => ?_, fun b o hb ho => ?_, fun b o hb ho => ?_⟩
  · simp only [World.setCell, Array.getElem?_modify]
    rw [h.out b hb]
  · have : a.block ≠ b := fun e => hF (e ▸ hb)
    simp only [World.setCell]
    rw [heap_modify_ne this]
    exact h.dead b hb
  · have : a.block ≠ b := fun e => hF (e ▸ hb)
    simp only [World.setCell] at ho
    rw [heap_modify_ne this] at ho
    exact h.real b o hb ho
  · simp only [World.setCell, Array.getElem?_modify] at ho
    split at ho
    · cases hw : w.heap[b]? with
      | none => rw [hw] at ho; cases ho
      | some o' =>
        rw [hw] at ho
        have := h.live b o' hb hw
        simp only [Option.map_some, Option.some.injEq] at ho
        subst ho
        cases o' <;> first | rfl | exact this
    · exact h.live b o hb ho
theorem Gt.setCell {w : World} {a : Addr} {v : Value} (hF : ¬ F a.block) : Gt F w (w.setCell a v) := by
  refine ⟨fun b hb => ?_, by simp [World.setCell], rfl, rfl, rfl⟩
  have : a.block ≠ b := fun e => hF (e ▸ hb)
  simp only [World.setCell]
  rw [heap_modify_ne this]

theorem Poi.put {pw w : World} (h : Poi P F pw w) {b : Nat} {o : Obj} (hF : ¬ F b) (ho : objPending o = false) :
    Poi P F { pw with heap := pw.heap.setIfInBounds b o } { w with heap := w.heap.setIfInBounds b o } := by
  refine ⟨by simp [h.size], h.tape, h.drawn, h.os, h.output, fun k hk => ?_, fun k hk => by simp [h.low k hk], fun k hk => ?_, fun k o' hk ho' => ?_, fun k o' hk ho' => ?_⟩
  · simp only [Array.getElem?_setIfInBounds, h.size, h.out k hk]
  · have : b ≠ k := fun e => hF (e ▸ hk)
    simp only [Array.getElem?_setIfInBounds, if_neg this]
    exact h.dead k hk
  · have : b ≠ k := fun e => hF (e ▸ hk)
    simp only [Array.getElem?_setIfInBounds, if_neg this] at ho'
    exact h.real k o' hk ho'
  · simp only [Array.getElem?_setIfInBounds] at ho'
    split at ho'
    · split at ho'
      · simp only [Option.some.injEq] at ho'; subst ho'; exact ho
      · cases ho'
    · exact h.live k o' hk ho'
theorem Gt.put {w : World} {b : Nat} {o : Obj} (hF : ¬ F b) : Gt F w { w with heap := w.heap.setIfInBounds b o } := by
  refine ⟨fun k hk => ?_, by simp, rfl, rfl, rfl⟩
  have : b ≠ k := fun e => hF (e ▸ hk)
  simp only [Array.getElem?_setIfInBounds, if_neg this]

theorem viewStore_of {p : Program} {pw w : World} (h : Poi p F pw w) {at_ : Addr} {u : TypeId} {k : Addr} {v : Value} {at' : Bool} {r} (hr : pw.viewStore p at_ u k v at' = .ok r) :
    ¬ F at_.block ∧ at_.block < w.heap.size ∧ ∃ o, objPending o = false ∧ r.1 = { pw with heap := pw.heap.setIfInBounds at_.block o } ∧ w.viewStore p at_ u k v at' = .ok ({ w with heap := w.heap.setIfInBounds at_.block o }, r.2) ∧ ∀ a ∈ r.2, a.block = at_.block := by
  unfold World.viewStore at *
  simp only [bind, Except.bind] at *
  by_cases ht : (!tight p p.depth u) = true
  · rw [if_pos ht] at hr; cases hr
  rw [if_neg ht] at hr
  simp only [if_neg ht]
  simp only [Pure.pure, Except.pure] at *
  cases hs : pw.seen p at_ u k at' with
  | error e => rw [hs] at hr; cases hr
  | ok s =>
    rw [hs] at hr
    obtain ⟨hF, e⟩ := seen_of h hs
    rw [e]
    obtain ⟨c, e', fr, first, like, cells⟩ := s
    simp only at *
    cases hb : v.bytes? with
    | none => rw [hb] at hr; cases hr
    | some bytes =>
      rw [hb] at hr
      simp only at *
      by_cases hz : some bytes.length ≠ like.bytes?.map (·.length)
      · rw [if_pos hz] at hr; cases hr
      rw [if_neg hz] at hr
      simp only [if_neg hz] at *
      revert hr
      generalize (List.foldlM (m := Except String) _ c cells) = z
      cases z with
      | error e => intro hr; cases hr
      | ok c' =>
        intro hr
        simp only [Except.ok.injEq] at hr
        subst hr
        refine ⟨hF, seen_size e, .cells c' e' fr, rfl, rfl, rfl, ?_⟩
        intro a ha
        simp only [List.mem_map] at ha
        obtain ⟨x, _, rfl⟩ := ha
        rfl

theorem InsOk.store {m : Mode} {a : Addr} {v : Value} : InsOk P F (Sem.store m a v (Sem.pure ())) (fun _ => True) := by
  intro pw w es b pw' hp hr
  have hv : (∀ vs, v ≠ .agg vs) ∧ ∀ vs, v ≠ .tuple vs := by
    constructor <;> intro vs e <;> subst e <;> simp [Sem.run] at hr
  have e1 : ∀ (x : World), (Sem.store m a v (Sem.pure ())).run P x = (match x.cell? a with
    | some _ => if x.frozen? a then .halt (.unsupported (.unsafePointer "a write to bytes that a string shares")) x else .ok () (x.setCell a v)
    | none => match x.farStore P a v (m == .atomic) with
      | .ok (w, _) => .ok () w
      | .error h => .halt h x) := by
    intro x
    cases v <;> first | rfl | exact absurd rfl (hv.1 _) | exact absurd rfl (hv.2 _)
  have e2 : ∀ (x : World), (Sem.store m a v (Sem.pure ())).runT P x es = (match x.cell? a with
    | some _ => if x.frozen? a then (.halt (.unsupported (.unsafePointer "a write to bytes that a string shares")) x, es) else (.ok () (x.setCell a v), es.push ⟨.cell a, true, m == .atomic⟩)
    | none => match x.farStore P a v (m == .atomic) with
      | .ok (w, touched) => (.ok () w, es ++ touched.toArray.map (⟨.cell ·, true, m == .atomic⟩))
      | .error h => (.halt h x, es)) := by
    intro x
    cases v <;> first | rfl | exact absurd rfl (hv.1 _) | exact absurd rfl (hv.2 _)
  rw [e1] at hr
  rw [e2]
  cases hc : pw.cell? a with
  | some x =>
    rw [hc] at hr
    obtain ⟨hF, hw, hl⟩ := hp.cell hc
    simp only at hr
    rw [hp.frozen hF] at hr
    rw [hw]
    simp only
    split at hr
    · cases hr
    · rename_i hfz
      simp only [Result.ok.injEq] at hr
      obtain ⟨_, rfl⟩ := hr
      refine ⟨trivial, w.setCell a v, #[⟨.cell a, true, m == .atomic⟩], ?_, ?_, hp.setCell hF, .setCell hF⟩
      · rw [if_neg hfz, Array.push_eq_append]
      · intro e he
        simp only [Array.mem_singleton] at he
        subst he
        exact ⟨hF, Nat.lt_of_lt_of_le hl (Gt.setCell (F := F) hF).size⟩
  | none =>
    rw [hc] at hr
    simp only at hr
    cases hf : pw.farStore P a v (m == .atomic) with
    | error h => rw [hf] at hr; cases hr
    | ok r =>
      rw [hf] at hr
      obtain ⟨r1, r2⟩ := r
      simp only [Result.ok.injEq] at hr
      obtain ⟨_, rfl⟩ := hr
      unfold World.farStore at hf
      cases hb : pw.heap[a.block]? with
      | none => rw [hb] at hf; cases hf
      | some o =>
        rw [hb] at hf
        cases o <;> try (cases hf; done)
        rename_i at_ u
        have hFa : ¬ F a.block := fun hF => by rw [hp.dead _ hF] at hb; cases hb
        have hbw : w.heap[a.block]? = some (.view at_ u) := by rw [← hp.out _ hFa]; exact hb
        simp only at hf
        cases hv : pw.viewStore P at_ u a v (m == .atomic) with
        | error e => rw [hv] at hf; cases hf
        | ok r' =>
          rw [hv] at hf
          simp only [Except.ok.injEq] at hf
          subst hf
          obtain ⟨hF, hsz, o, ho, hr1, hvw, hal⟩ := viewStore_of hp hv
          simp only at hr1 hvw hal
          have hcw : w.cell? a = none := by unfold World.cell?; rw [hbw]
          rw [hcw]
          simp only
          have hfw : w.farStore P a v (m == .atomic) = .ok ({ w with heap := w.heap.setIfInBounds at_.block o }, r2) := by
            unfold World.farStore
            rw [hbw]
            simp only [hvw]
          rw [hfw]
          simp only
          refine ⟨trivial, _, _, rfl, ?_, by rw [hr1]; exact hp.put hF ho, .put hF⟩
          intro e he
          simp only [List.map_toArray, List.mem_toArray, List.mem_map] at he
          obtain ⟨x, hx, rfl⟩ := he
          refine ⟨?_, ?_⟩
          · rw [hal x hx]; exact hF
          · rw [hal x hx]; simpa using hsz

theorem Poi.push {pw w : World} (h : Poi P F pw w) {o : Obj} (ho : objPending o = false) : Poi P F { pw with heap := pw.heap.push o } { w with heap := w.heap.push o } := by
  refine ⟨by simp [h.size], h.tape, h.drawn, h.os, h.output, fun k hk => ?_, fun k hk => by simp; exact Nat.lt_succ_of_lt (h.low k hk), fun k hk => ?_, fun k o' hk ho' => ?_, fun k o' hk ho' => ?_⟩
  · simp only [Array.getElem?_push, h.size, h.out k hk]
  · have := h.low k hk
    simp only [Array.getElem?_push, h.size]
    rw [if_neg (by omega)]
    exact h.dead k hk
  · have := h.low k hk
    simp only [Array.getElem?_push] at ho'
    rw [if_neg (by omega)] at ho'
    exact h.real k o' hk ho'
  · simp only [Array.getElem?_push] at ho'
    split at ho'
    · simp only [Option.some.injEq] at ho'; subst ho'; exact ho
    · exact h.live k o' hk ho'
theorem InsOk.new {o : Obj} (ho : objPending o = false) : InsOk P F (Sem.new o Sem.pure) (fun _ => True) := by
  intro pw w es b pw' hp hr
  simp only [Sem.run, Result.ok.injEq] at hr
  obtain ⟨rfl, rfl⟩ := hr
  refine ⟨trivial, { w with heap := w.heap.push o }, #[], ?_, by simp, hp.push ho, fun b hb => ?_, by simp, rfl, rfl, rfl⟩
  · simp only [Sem.runT, Array.append_empty, hp.size]
  · have := hp.low b hb
    simp only [Array.getElem?_push]
    rw [if_neg (by omega)]
theorem Poi.draw {pw w : World} (h : Poi P F pw w) (d : Nat) : Poi P F { pw with drawn := d } { w with drawn := d } :=
  ⟨h.size, h.tape, rfl, h.os, h.output, h.out, h.low, h.dead, h.real, h.live⟩
theorem InsOk.choose {q : Question} : InsOk P F (Sem.choose q Sem.pure) (fun _ => True) := by
  intro pw w es b pw' hp hr
  simp only [Sem.run] at hr
  simp only [Sem.runT]
  split at hr
  · rename_i hf
    simp only [Result.ok.injEq] at hr
    obtain ⟨rfl, rfl⟩ := hr
    exact ⟨trivial, w, #[], by rw [if_pos hf, Array.append_empty], by simp, hp, .refl _ _⟩
  · rename_i hf
    simp only [Result.ok.injEq] at hr
    obtain ⟨rfl, rfl⟩ := hr
    refine ⟨trivial, { w with drawn := w.drawn + 1 }, #[], by rw [if_neg hf, Array.append_empty, hp.tape, hp.drawn], by simp, ?_, fun _ _ => rfl, Nat.le_refl _, rfl, rfl, rfl⟩
    rw [hp.drawn]
    exact hp.draw _
theorem InsOk.program : InsOk P F (Go.program) (fun p => p = P) := by
  intro pw w es b pw' hp hr
  have hr' : (.ok P pw : Result Program) = .ok b pw' := hr
  simp only [Result.ok.injEq] at hr'
  obtain ⟨rfl, rfl⟩ := hr'
  exact ⟨rfl, w, #[], by rw [Array.append_empty]; rfl, by simp, hp, .refl _ _⟩
theorem InsOk.noRoom : InsOk P F (mark .noRoom) (fun _ => True) := by
  intro pw w es b pw' hp hr
  have hr' : (.ok () pw : Result Unit) = .ok b pw' := hr
  simp only [Result.ok.injEq] at hr'
  obtain ⟨_, rfl⟩ := hr'
  refine ⟨trivial, w, #[⟨.mark .noRoom, false, true⟩], rfl, fun e he => ?_, hp, .refl _ _⟩
  simp only [Array.mem_singleton] at he
  subst he
  exact rfl
theorem InsOk.askRoom {n : Nat} : InsOk P F (askRoom n) (fun _ => True) := by
  unfold Go.askRoom
  split
  · exact .noRoom
  · exact .pure trivial

/-- 'Is there a thing of another make at r?': the poisoned block says no, and so does what stands there really. -/
def probe {β : Type} (r : Nat) (d : β) (g : Obj → β) : Sem β := .shape r fun s => if s.isSome then .pure d else .getObj r fun o => .pure (g o)
theorem not_cells_match {γ : Type} {o : Obj} {a c : γ} {b : Obj → γ} (h : ¬ ∃ c t f, o = .cells c t f) : (match some o with
    | some (.cells ..) => a
    | some o => b o
    | none => c) = b o := by
  cases o <;> first | rfl | exact absurd ⟨_, _, _, rfl⟩ h
theorem InsOk.probed {r : Nat} {β : Type} {d : β} {g : Obj → β} (hg : ∀ o, objTame o = true → g o = d) : InsOk P F (probe r d g) (fun _ => True) := by
  intro pw w es b pw' hp hr
  have e1 : ∀ x : World, (probe r d g).run P x = (if (x.shape? r).isSome then .ok d x else match x.heap[r]? with
                  | some (.cells ..) => .halt (.stuck "getObj: a row of cells") x
                  | some o => .ok (g o) x
                  | none => .halt (.stuck "getObj: no such block") x) := by
    intro x
    unfold probe
    simp only [Sem.run]
    split
    · rfl
    · simp only [Sem.run]
      cases x.heap[r]? with
      | none => rfl
      | some o => cases o <;> rfl
  have e2 : ∀ x : World, (probe r d g).runT P x es = (if (x.shape? r).isSome then (.ok d x, es) else match x.heap[r]? with
                  | some (.cells ..) => (.halt (.stuck "getObj: a row of cells") x, es)
                  | some o => (.ok (g o) x, es.push ⟨.obj r, false, o.isChan⟩)
                  | none => (.halt (.stuck "getObj: no such block") x, es)) := by
    intro x
    unfold probe
    simp only [Sem.runT]
    split
    · rfl
    · simp only [Sem.runT]
      cases x.heap[r]? with
      | none => rfl
      | some o => cases o <;> rfl
  rw [e1] at hr
  rw [e2]
  refine ⟨trivial, ?_⟩
  by_cases hF : F r
  · have hs : (pw.shape? r).isSome = true := by unfold World.shape?; rw [hp.dead r hF]; rfl
    rw [if_pos hs] at hr
    simp only [Result.ok.injEq] at hr
    obtain ⟨rfl, rfl⟩ := hr
    have hlt := hp.low r hF
    obtain ⟨o, ho⟩ : ∃ o, w.heap[r]? = some o := ⟨_, Array.getElem?_eq_getElem hlt⟩
    have ht := hp.real r o hF ho
    have hgo := hg o ht
    rw [ho]
    by_cases hcc : ∃ c t f, o = .cells c t f
    · obtain ⟨c, t, f, rfl⟩ := hcc
      refine ⟨w, #[], ?_, by simp, hp, .refl _ _⟩
      rw [if_pos (by unfold World.shape?; rw [ho]; rfl), Array.append_empty]
    · refine ⟨w, #[⟨.obj r, false, o.isChan⟩], ?_, ?_, hp, .refl _ _⟩
      · rw [if_neg (by unfold World.shape?; rw [ho]; cases o <;> first | simp; done | exact absurd ⟨_, _, _, rfl⟩ hcc)]
        rw [not_cells_match hcc, hgo, Array.push_eq_append]
      · intro e he
        simp only [Array.mem_singleton] at he
        subst he
        exact ⟨hlt, rfl⟩
  · have hs : pw.shape? r = w.shape? r := by unfold World.shape?; rw [hp.out r hF]
    rw [hs, hp.out r hF] at hr
    split at hr
    · rename_i h1
      simp only [Result.ok.injEq] at hr
      obtain ⟨rfl, rfl⟩ := hr
      exact ⟨w, #[], by rw [if_pos h1, Array.append_empty], by simp, hp, .refl _ _⟩
    · rename_i h1
      rw [if_neg h1]
      cases ho : w.heap[r]? with
      | none => rw [ho] at hr; cases hr
      | some o =>
        rw [ho] at hr
        have hlt : r < w.heap.size := (Array.getElem?_eq_some_iff.1 ho).1
        by_cases hcc : ∃ c t f, o = .cells c t f
        · obtain ⟨c, t, f, rfl⟩ := hcc
          cases hr
        · rw [not_cells_match hcc] at hr
          simp only [Result.ok.injEq] at hr
          obtain ⟨rfl, rfl⟩ := hr
          refine ⟨w, #[⟨.obj r, false, o.isChan⟩], ?_, ?_, hp, .refl _ _⟩
          · rw [not_cells_match hcc, Array.push_eq_append]
          · intro e he
            simp only [Array.mem_singleton] at he
            subst he
            exact ⟨hlt, rfl⟩
end

/-! ### how a term may end otherwise -/
@[reducible] def uOk : Unsupported → Bool
  | .initOrder _ => false
  | _ => true
@[reducible] def okHalt : Halt → Bool
  | .panic _ | .stuck _ => true
  | .unsupported u => uOk u
  | _ => false
def Tidy {α : Type} (P : Program) (F : Nat → Prop) (s : Sem α) : Prop := ∀ (pw w : World), Poi P F pw w → ∀ h pw', s.run P pw = .halt h pw' → okHalt h = true
/-- On another tape the same. -/
def CongF {α : Type} (P : Program) (F : Nat → Prop) (s : Sem α) : Prop := ∀ (pw w : World), Poi P F pw w → ∀ a pw', s.run P pw = .ok a pw' → pw'.tape = pw.tape ∧ pw.drawn ≤ pw'.drawn ∧
    ∀ (T : Nat → Question → Nat) (k : Nat), (∀ j q, pw.drawn + j < pw'.drawn → T (k + j) q = pw.tape (pw.drawn + j) q) → s.run P (pw.re T k) = .ok a (pw'.re T (k + (pw'.drawn - pw.drawn)))
theorem CongF.of {α : Type} {P : Program} {F : Nat → Prop} {s : Sem α} (h : NoSys P s) : CongF P F s := fun pw _ _ a pw' hr => run_cong P s h pw a pw' hr
/-- ALL THREE. -/
structure Ins {α : Type} (P : Program) (F : Nat → Prop) (s : Sem α) (Q : α → Prop) : Prop where
  ok : InsOk P F s Q
  tidy : Tidy P F s
  cong : CongF P F s
section
variable {P : Program} {F : Nat → Prop} {α β : Type} {Q : α → Prop} {R : β → Prop}
theorem Poi.noPend {pw w : World} (h : Poi P F pw w) {b : Nat} {o : Obj} (ho : pw.heap[b]? = some o) : objPending o = false := by
  by_cases hF : F b
  · rw [h.dead b hF] at ho
    simp only [Option.some.injEq] at ho
    subst ho; rfl
  · rw [h.out b hF] at ho
    exact h.live b o hF ho
theorem noCell_ok {pw w : World} (h : Poi P F pw w) (a : Addr) (what : String) : okHalt (pw.noCell a what) = true := by
  unfold World.noCell
  cases hb : pw.heap[a.block]? with
  | none => rfl
  | some o =>
    have := h.noPend hb
    cases o <;> first | rfl | cases this
theorem Ins.mono {s : Sem α} {Q' : α → Prop} (h : Ins P F s Q) (hq : ∀ a, Q a → Q' a) : Ins P F s Q' := ⟨h.ok.mono hq, h.tidy, h.cong⟩
theorem Ins.pure {a : α} (h : Q a) : Ins P F (Pure.pure a : Sem α) Q := ⟨.pure h, fun pw w _ h' pw' hr => (by cases hr), .of trivial⟩
theorem Ins.pure' {a : α} (h : Q a) : Ins P F (Sem.pure a) Q := Ins.pure h
theorem Ins.halt {h : Halt} (ho : okHalt h = true := by rfl) : Ins P F (Sem.halt h : Sem α) Q := ⟨.halt, fun pw w _ h' pw' hr => (by
  simp only [Sem.run, Result.halt.injEq] at hr
  rw [← hr.1]; exact ho), .of trivial⟩
theorem cong_bind {x : Sem β} {f : β → Sem α} (hx : Ins P F x R) (hf : ∀ b, R b → Ins P F (f b) Q) {pw w : World} (hp : Poi P F pw w) {a : α} {pw' : World} (hr : (x.bind f).run P pw = .ok a pw') :
    pw'.tape = pw.tape ∧ pw.drawn ≤ pw'.drawn ∧ ∀ (T : Nat → Question → Nat) (k : Nat), (∀ j q, pw.drawn + j < pw'.drawn → T (k + j) q = pw.tape (pw.drawn + j) q) → (x.bind f).run P (pw.re T k) = .ok a (pw'.re T (k + (pw'.drawn - pw.drawn))) := by
  rw [Sem.run_bind'] at hr
  cases hxr : x.run P pw with
  | halt h' w1 => rw [hxr] at hr; cases hr
  | ok b pw1 =>
    rw [hxr] at hr
    obtain ⟨rb, w1, n1, _, _, p1, _⟩ := hx.ok pw w #[] b pw1 hp hxr
    obtain ⟨g1, g2, g3⟩ := hx.cong pw w hp b pw1 hxr
    obtain ⟨h1, h2, h3⟩ := (hf b rb).cong pw1 w1 p1 a pw' hr
    refine ⟨h1.trans g1, by omega, fun T k hT => ?_⟩
    rw [Sem.run_bind', g3 T k fun j q hj => hT j q (by omega)]
    have := h3 T (k + (pw1.drawn - pw.drawn)) fun j q hj => by
      rw [g1, show k + (pw1.drawn - pw.drawn) + j = k + (pw1.drawn - pw.drawn + j) by omega, show pw1.drawn + j = pw.drawn + (pw1.drawn - pw.drawn + j) by omega]
      exact hT _ q (by omega)
    rw [show k + (pw1.drawn - pw.drawn) + (pw'.drawn - pw1.drawn) = k + (pw'.drawn - pw.drawn) by omega] at this
    exact this
theorem Ins.bind' {x : Sem β} {f : β → Sem α} (hx : Ins P F x R) (hf : ∀ b, R b → Ins P F (f b) Q) : Ins P F (x.bind f) Q := by
  refine ⟨.bind' hx.ok fun b hb => (hf b hb).ok, fun pw w hp h pw' hr => ?_, fun pw w hp a pw' hr => ?_⟩
  rotate_left
  · exact cong_bind hx hf hp hr
  rw [Sem.run_bind'] at hr
  cases hxr : x.run P pw with
  | halt h' w1 =>
    rw [hxr] at hr
    cases hr
    exact hx.tidy pw w hp _ _ hxr
  | ok b pw1 =>
    rw [hxr] at hr
    obtain ⟨rb, w1, n1, _, _, p1, _⟩ := hx.ok pw w #[] b pw1 hp hxr
    exact (hf b rb).tidy pw1 w1 p1 h pw' hr
theorem Ins.bind {x : Sem β} {f : β → Sem α} (hx : Ins P F x R) (hf : ∀ b, R b → Ins P F (f b) Q) : Ins P F (x >>= f) Q := Ins.bind' hx hf
theorem Ins.load {m : Mode} {a : Addr} : Ins P F (Sem.load m a Sem.pure) (fun _ => True) := by
  refine ⟨.load, fun pw w hp h pw' hr => ?_, .of fun _ => trivial⟩
  simp only [Sem.run] at hr
  cases hc : pw.cell? a with
  | some v => rw [hc] at hr; cases hr
  | none =>
    rw [hc] at hr
    simp only at hr
    cases hf : pw.farLoad P a (m == .atomic) with
    | ok r => rw [hf] at hr; cases hr
    | error h' =>
      rw [hf] at hr
      simp only [Result.halt.injEq] at hr
      rw [← hr.1]
      unfold World.farLoad at hf
      split at hf
      · split at hf
        · cases hf
        · simp only [Except.error.injEq] at hf
          rw [← hf]
      · simp only [Except.error.injEq] at hf
        rw [← hf]
        exact noCell_ok hp _ _
theorem Ins.store {m : Mode} {a : Addr} {v : Value} : Ins P F (Sem.store m a v (Sem.pure ())) (fun _ => True) := by
  refine ⟨.store, fun pw w hp h pw' hr => ?_, .of trivial⟩
  by_cases hv : (∀ vs, v ≠ .agg vs) ∧ ∀ vs, v ≠ .tuple vs
  · have e1 : ∀ (x : World), (Sem.store m a v (Sem.pure ())).run P x = (match x.cell? a with
      | some _ => if x.frozen? a then .halt (.unsupported (.unsafePointer "a write to bytes that a string shares")) x else .ok () (x.setCell a v)
      | none => match x.farStore P a v (m == .atomic) with
        | .ok (w, _) => .ok () w
        | .error h => .halt h x) := by
      intro x
      cases v <;> first | rfl | exact absurd rfl (hv.1 _) | exact absurd rfl (hv.2 _)
    rw [e1] at hr
    split at hr
    · split at hr
      · simp only [Result.halt.injEq] at hr
        rw [← hr.1]
      · cases hr
    · split at hr
      · cases hr
      · rename_i h' hf
        simp only [Result.halt.injEq] at hr
        rw [← hr.1]
        unfold World.farStore at hf
        split at hf
        · split at hf
          · cases hf
          · simp only [Except.error.injEq] at hf
            rw [← hf]
        · simp only [Except.error.injEq] at hf
          rw [← hf]
          exact noCell_ok hp _ _
  · have : (∃ vs, v = .agg vs) ∨ ∃ vs, v = .tuple vs := by
      by_cases h1 : ∃ vs, v = .agg vs
      · exact .inl h1
      · refine .inr ?_
        by_cases h2 : ∃ vs, v = .tuple vs
        · exact h2
        · exact absurd ⟨fun vs e => h1 ⟨vs, e⟩, fun vs e => h2 ⟨vs, e⟩⟩ hv
    rcases this with ⟨vs, rfl⟩ | ⟨vs, rfl⟩ <;>
    · simp only [Sem.run, Result.halt.injEq] at hr
      rw [← hr.1]
theorem Ins.new {o : Obj} (ho : objPending o = false) : Ins P F (Sem.new o Sem.pure) (fun _ => True) := ⟨.new ho, fun pw w hp h pw' hr => (by simp only [Sem.run] at hr; cases hr), .of fun _ => trivial⟩
theorem Ins.choose {q : Question} : Ins P F (Sem.choose q Sem.pure) (fun _ => True) := ⟨.choose, fun pw w hp h pw' hr => (by
  simp only [Sem.run] at hr
  split at hr <;> cases hr), .of fun _ => trivial⟩
theorem Ins.program : Ins P F (Go.program) (fun p => p = P) := ⟨.program, fun pw w hp h pw' hr => (by
  have hr' : (.ok P pw : Result Program) = .halt h pw' := hr
  cases hr'), .of trivial⟩
theorem Ins.noRoom : Ins P F (mark .noRoom) (fun _ => True) := ⟨.noRoom, fun pw w hp h pw' hr => (by
  have hr' : (.ok () pw : Result Unit) = .halt h pw' := hr
  cases hr'), .of trivial⟩
theorem Ins.askRoom {n : Nat} : Ins P F (askRoom n) (fun _ => True) := by
  unfold Go.askRoom
  split
  · exact .noRoom
  · exact .pure trivial
theorem Ins.probed {r : Nat} {β : Type} {d : β} {g : Obj → β} (hg : ∀ o, objTame o = true → g o = d) : Ins P F (probe r d g) (fun _ => True) := by
  refine ⟨.probed hg, fun pw w hp h pw' hr => ?_, .of fun s => ?_⟩
  rotate_left
  · dsimp only
    split
    · trivial
    · exact fun _ => trivial
  unfold probe at hr
  simp only [Sem.run] at hr
  split at hr
  · cases hr
  · simp only [Sem.run] at hr
    split at hr <;> first | (simp only [Result.halt.injEq] at hr; rw [← hr.1]; done) | cases hr
end
end Go.Proofs.Ytmllcfkgkkbkpaa
/-
  WHICH OPERATIONS HANG ON NOTHING OF THE POISONED BLOCKS.
-/
namespace Go.Proofs.Ytmllcfkgkkbkpaa
open Go Go.Conc

section
variable {P : Program} {F : Nat → Prop} {α β : Type} {Q : α → Prop}

theorem Ins.stuck {why : String} : Ins P F (Go.stuck why : Sem α) Q := Ins.halt
theorem Ins.unsupported {u : Unsupported} (hu : uOk u = true := by rfl) : Ins P F (Go.unsupported u : Sem α) Q := Ins.halt hu
theorem Ins.goPanic {v : Value} : Ins P F (Go.goPanic v : Sem α) Q := Ins.halt
theorem Ins.dead {h : Halt} {f : β → Sem α} (ho : okHalt h = true := by rfl) : Ins P F ((Sem.halt h : Sem β) >>= f) Q := Ins.halt ho
theorem Ins.ite {c : Prop} [Decidable c] {x y : Sem α} (hx : Ins P F x Q) (hy : Ins P F y Q) : Ins P F (if c then x else y) Q := by
  split
  · exact hx
  · exact hy
theorem Ins.triv {s : Sem α} (h : Ins P F s Q) : Ins P F s (fun _ => True) := h.mono fun _ _ => trivial

theorem Ins.typeInfo {t : TypeId} : Ins P F (Go.typeInfo t) (fun i => P.info? t = some i) := by
  unfold Go.typeInfo
  refine Ins.bind Ins.program fun p hp => ?_
  subst hp
  split
  · rename_i i hi; exact .pure hi
  · exact .stuck
theorem Ins.underlying {t : TypeId} : Ins P F (Go.underlying t) (fun d => P.underlying t = some d) := by
  unfold Go.underlying
  refine Ins.bind Ins.program fun p hp => ?_
  subst hp
  split
  · rename_i i hi; exact .pure hi
  · exact .stuck
theorem Ins.sizeOf {t : TypeId} : Ins P F (Go.sizeOf t) (fun _ => True) := Ins.bind Ins.typeInfo fun _ _ => .pure trivial
theorem Ins.zeroValue {t : TypeId} : Ins P F (Go.zeroValue t) (fun _ => True) := by
  unfold Go.zeroValue
  refine Ins.bind Ins.typeInfo fun i hi => ?_
  split
  · exact .pure trivial
  · exact .unsupported
theorem Ins.isAgg {t : TypeId} : Ins P F (Go.isAgg t) (fun _ => True) := by
  unfold Go.isAgg
  refine Ins.bind Ins.underlying fun i hi => ?_
  split <;> exact .pure trivial
theorem Ins.load' {a : Addr} {m : Mode} : Ins P F (Go.load a m) (fun _ => True) := Ins.load
theorem Ins.store' {a : Addr} {v : Value} {m : Mode} : Ins P F (Go.store a v m) (fun _ => True) := Ins.store
theorem Ins.choose' {q : Question} : Ins P F (Go.choose q) (fun _ => True) := Ins.choose
theorem Ins.loadCellsFrom {a : Addr} : ∀ {n i : Nat} {acc : Array Value}, Ins P F (Go.loadCellsFrom a i n acc) (fun _ => True)
  | 0, _, _ => .pure trivial
  | _ + 1, _, _ => Ins.bind Ins.load' fun _ _ => Ins.loadCellsFrom
theorem Ins.loadCells {a : Addr} {n : Nat} : Ins P F (Go.loadCells a n) (fun _ => True) := Ins.loadCellsFrom
theorem Ins.storeCells {a : Addr} : ∀ {vs : List Value} {i : Nat}, Ins P F (Go.storeCells a vs i) (fun _ => True)
  | [], _ => .pure trivial
  | _ :: _, _ => Ins.bind Ins.store' fun _ _ => Ins.storeCells
theorem Ins.loadVar {t : TypeId} {a : Addr} : Ins P F (Go.loadVar t a) (fun _ => True) := by
  unfold Go.loadVar
  refine Ins.bind Ins.isAgg fun b _ => ?_
  split
  · refine Ins.bind Ins.sizeOf fun n _ => ?_
    refine Ins.bind Ins.loadCells fun n _ => .pure trivial
  · exact .load'
theorem Ins.storeVar {t : TypeId} {a : Addr} {v : Value} : Ins P F (Go.storeVar t a v) (fun _ => True) := by
  unfold Go.storeVar
  refine Ins.bind Ins.sizeOf fun n _ => ?_
  split
  · exact Ins.bind (R := fun _ => True) Ins.stuck fun _ _ => .storeCells
  · exact .storeCells
theorem Ins.newRow {t : TypeId} {cs : Array Value} : Ins P F (Go.newRow t cs) (fun _ => True) := Ins.bind (Ins.new rfl) fun _ _ => .pure trivial
theorem Ins.newVar {t : TypeId} {v : Value} : Ins P F (Go.newVar t v) (fun _ => True) := Ins.newRow
theorem Ins.elemOf {t : TypeId} : Ins P F (Go.elemOf t) (fun _ => True) := by
  unfold Go.elemOf
  refine Ins.bind Ins.underlying fun d _ => ?_
  split
  · exact .pure trivial
  · exact .stuck
theorem Ins.runtimePanic {e : RuntimeError} : Ins P F (Go.runtimePanic e : Sem α) Q := by
  unfold Go.runtimePanic
  refine Ins.bind Ins.program fun p _ => ?_
  split <;> try exact Ins.goPanic
  · exact Ins.bind Ins.elemOf fun _ _ => Ins.bind Ins.newVar fun _ _ => .goPanic
  · exact Ins.bind Ins.elemOf fun _ _ => Ins.bind Ins.newVar fun _ _ => .goPanic
theorem Ins.map {s : Sem β} {f : β → α} (h : Ins P F s (fun _ => True)) : Ins P F (f <$> s) (fun _ => True) := Ins.bind (f := fun b => Pure.pure (f b)) h fun _ _ => .pure trivial
theorem Ins.boundsPanic {k : IntKind} {x y : Int} {c : BoundsCode} : Ins P F (Go.boundsPanic k x y c : Sem α) Q := by
  unfold Go.boundsPanic
  dsimp only
  split
  · exact Ins.bind (Ins.map Ins.choose') fun _ _ => .runtimePanic
  · exact Ins.bind (R := fun _ => True) (.pure trivial) fun _ _ => .runtimePanic
theorem Ins.asIntOf {v : Value} : Ins P F (Go.asIntOf v) (fun _ => True) := by
  unfold Go.asIntOf
  split <;> first | exact .pure trivial | exact .unsupported | exact .stuck
theorem Ins.asInt {v : Value} : Ins P F (Go.asInt v) (fun _ => True) := Ins.bind Ins.asIntOf fun _ _ => .pure trivial
theorem Ins.asBool {v : Value} : Ins P F (Go.asBool v) (fun _ => True) := by
  unfold Go.asBool
  split <;> first | exact .pure trivial | exact .stuck
theorem Ins.asAddr {v : Value} : Ins P F (Go.asAddr v) (fun _ => True) := by
  unfold Go.asAddr
  split <;> first | exact .pure trivial | exact .runtimePanic | exact .stuck
theorem Ins.sureAddr {v : Value} : Ins P F (Instr.sureAddr v) (fun _ => True) := by
  unfold Instr.sureAddr
  split <;> first | exact .pure trivial | exact .stuck
/-! ### the probes -/
theorem Ins.viewAt {r : Nat} : Ins P F (Go.viewAt r) (fun _ => True) := by
  have e : Go.viewAt r = probe r none (fun | .view a t => some (a, t) | _ => none) := by
    unfold Go.viewAt probe
    show Sem.shape r _ = _
    congr 1
    funext s
    cases s with
    | none =>
      show Sem.getObj r _ = Sem.getObj r _
      congr 1
      funext o
      cases o <;> rfl
    | some x => rfl
  rw [e]
  exact Ins.probed fun o ho => by cases o <;> first | rfl | cases ho
theorem Ins.numberAt {r : Nat} : Ins P F (Go.numberAt r) (fun _ => True) := by
  have e : Go.numberAt r = probe r none (fun | .number a t => some (a, t) | _ => none) := by
    unfold Go.numberAt probe
    show Sem.shape r _ = _
    congr 1
    funext s
    cases s with
    | none =>
      show Sem.getObj r _ = Sem.getObj r _
      congr 1
      funext o
      cases o <;> rfl
    | some x => rfl
  rw [e]
  exact Ins.probed fun o ho => by cases o <;> first | rfl | cases ho
theorem Ins.behindNumber {n : Addr} : Ins P F (Go.behindNumber n) (fun _ => True) := Ins.bind Ins.numberAt fun _ _ => .pure trivial
theorem Ins.asNumber {a : Addr} {l : Bool} : Ins P F (Go.asNumber a l) (fun _ => True) := Ins.bind (Ins.new rfl) fun _ _ => .pure trivial
/-- The make of a row: of a poisoned one nothing comes through. -/
theorem Ins.shape {r : Nat} {f : Option (TypeId × Nat) → Sem α} (hd : ∀ w a w', (f (some (botT P, 0))).run P w ≠ .ok a w') (hf : ∀ s, Ins P F (f s) Q) : Ins P F (Go.shape r >>= f) Q := by
  refine ⟨fun pw w es a pw' hp hr => ?_, fun pw w hp h pw' hr => (hf _).tidy pw w hp h pw' hr, fun pw w hp a pw' hr => (hf _).cong pw w hp a pw' hr⟩
  have hr' : (f (pw.shape? r)).run P pw = .ok a pw' := hr
  by_cases hF : F r
  · exfalso
    have : pw.shape? r = some (botT P, 0) := by unfold World.shape?; rw [hp.dead r hF]; rfl
    rw [this] at hr'
    exact hd _ _ _ hr'
  · have hs : pw.shape? r = w.shape? r := by unfold World.shape?; rw [hp.out r hF]
    rw [hs] at hr'
    exact (hf _).ok pw w es a pw' hp hr'
theorem Ins.unsafeAdd {xs0 : Array TypeId} {t : TypeId} {ptr : Option Addr} {y : Value} : Ins P F (Builtin.unsafeAdd_ xs0 t #[.pointer ptr, y]) (fun _ => True) := by
  unfold Builtin.unsafeAdd_
  dsimp only
  refine Ins.bind Ins.asInt fun n _ => ?_
  split
  · cases ptr with
    | none => exact .unsupported
    | some a =>
      dsimp only
      refine Ins.bind Ins.viewAt fun v _ => ?_
      split
      · exact Ins.bind (R := fun _ => True) .unsupported fun _ _ => .pure trivial
      · exact .pure trivial
  · have key : Ins P F (match ptr with
        | some a => (do
          match ← Go.shape a.block with
          | some (e, cells) => do
            let p ← Go.program
            match cellAtBytes p p.depth e (cells / p.cellsOf e) a.off n with
            | some off => Pure.pure (.pointer (some { a with off }))
            | none => Go.unsupported (.unsafePointer "Add")
          | _ => Go.unsupported (.unsafePointer "Add") : Sem Value)
        | _ => Go.unsupported (.unsafePointer "Add")) (fun _ => True) := by
      cases ptr with
      | none => exact .unsupported
      | some a =>
        dsimp only
        refine Ins.shape (fun w v w' => ?_) fun s => ?_
        · dsimp only
          intro hr
          have hr' : (match cellAtBytes P P.depth (botT P) (0 / P.cellsOf (botT P)) a.off n with
            | some off => Pure.pure (.pointer (some { a with off }))
            | none => Go.unsupported (.unsafePointer "Add") : Sem Value).run P w = .ok v w' := hr
          rw [show cellAtBytes P P.depth (botT P) (0 / P.cellsOf (botT P)) a.off n = none by simp [cellAtBytes, botT_cells]] at hr'
          cases hr'
        · split
          · refine Ins.bind Ins.program fun p _ => ?_
            split
            · exact .pure trivial
            · exact .unsupported
          · exact .unsupported
    split
    · exact Ins.bind (R := fun _ => True) .unsupported fun _ _ => key
    · exact key
theorem Ins.movedNumber {t : TypeId} {x y : Value} : Ins P F (Go.movedNumber t x y) (fun _ => True) := by
  unfold Go.movedNumber
  refine Ins.bind Ins.underlying fun d _ => ?_
  dsimp only
  have key : Ins P F (match x with
      | .pointer (some n) => (do
        let __x ← Go.behindNumber n
        match __x with
        | (a, lost) => do
          match ← Builtin.unsafeAdd_ #[] t #[.pointer (some a), y] with
          | .pointer (some b) => Go.asNumber b lost
          | v => Pure.pure v : Sem Value)
      | _ => Builtin.unsafeAdd_ #[] t #[x, y]) (fun _ => True) := by
    split
    · refine Ins.bind Ins.behindNumber fun z _ => ?_
      obtain ⟨a, lost⟩ := z
      dsimp only
      refine Ins.bind Ins.unsafeAdd fun v _ => ?_
      split
      · exact .asNumber
      · exact .pure trivial
    · cases x with
      | pointer a => exact .unsafeAdd
      | _ => exact Ins.halt
  split
  · exact Ins.bind (R := fun _ => True) .unsupported fun _ _ => key
  · exact key
theorem Ins.byteOf {a : Addr} (hF : ¬ F a.block) : Ins P F (Go.byteOf a) (fun _ => True) := by
  unfold Go.byteOf
  have hs : ∀ (f : Option (TypeId × Nat) → Sem Nat), (∀ s, Ins P F (f s) (fun _ => True)) → Ins P F (Go.shape a.block >>= f) (fun _ => True) := by
    intro f hf
    refine ⟨fun pw w es b pw' hp hr => ?_, fun pw w hp h pw' hr => (hf _).tidy pw w hp h pw' hr, fun pw w hp a pw' hr => (hf _).cong pw w hp a pw' hr⟩
    have hr' : (f (pw.shape? a.block)).run P pw = .ok b pw' := hr
    have hs : pw.shape? a.block = w.shape? a.block := by unfold World.shape?; rw [hp.out _ hF]
    rw [hs] at hr'
    exact (hf _).ok pw w es b pw' hp hr'
  have key : Ins P F (do
      let p ← Go.program
      Go.noView a
      match ← Go.shape a.block with
      | some (e, _) => do
        let s := p.cellsOf e
        if s = 0 then return 0
        match byteOfCell p p.depth e (a.off % s) with
        | some b => Pure.pure (a.off / s * p.bytesOf e + b)
        | _ => Go.stuck "byteOf: no such cell"
      | _ => Go.stuck "byteOf: no such block" : Sem Nat) (fun _ => True) := by
    refine Ins.bind Ins.program fun p _ => ?_
    refine Ins.bind (R := fun _ => True) ?_ fun _ _ => ?_
    · unfold Go.noView
      refine Ins.bind Ins.viewAt fun v _ => ?_
      split
      · exact .unsupported
      · exact .pure trivial
    · refine hs _ fun s => ?_
      split
      · dsimp only
        split
        · exact .pure trivial
        · split
          · exact .pure trivial
          · exact .stuck
      · exact .stuck
  cases hsp : a.spot with
  | none => exact key
  | some x => exact .pure trivial
theorem Ins.twoPlaces {a b : Addr} (hG : ∀ b, F b → P.globals.size ≤ b) : Ins P F (Op.twoPlaces a b) (fun _ => True) := by
  unfold Op.twoPlaces
  refine Ins.bind Ins.program fun p hp => ?_
  subst hp
  dsimp only
  split
  · exact Ins.dead
  · rename_i hn
    simp only [Bool.or_eq_true, bne_iff_ne, ne_eq, decide_eq_true_eq, not_or, Decidable.not_not] at hn
    have hFa : ¬ F a.block := fun h => by have := hG _ h; omega
    have hFb : ¬ F b.block := by rw [← hn.1]; exact hFa
    exact Ins.bind (.byteOf hFa) fun _ _ => Ins.bind (.byteOf hFb) fun _ _ => .pure trivial
theorem Ins.addrSub {k : IntKind} {a b : Addr} (hG : ∀ b, F b → P.globals.size ≤ b) : Ins P F (Op.addrSub k a b) (fun _ => True) := by
  unfold Op.addrSub
  exact Ins.bind (.twoPlaces hG) fun _ _ => .pure trivial
theorem Ins.addrCmp {op : BinOp} {a b : Addr} (hG : ∀ b, F b → P.globals.size ≤ b) : Ins P F (Op.addrCmp op a b) (fun _ => True) := by
  unfold Op.addrCmp
  refine Ins.bind (.twoPlaces hG) fun z _ => ?_
  dsimp only
  split <;> first | exact .pure trivial | exact .unsupported
theorem Ins.addrMod {k : IntKind} {a : Addr} {n : Int} : Ins P F (Op.addrMod k a n) (fun _ => True) := by
  by_cases hF : F a.block
  · have e : ∀ pw w, Poi P F pw w → (Op.addrMod k a n).run P pw = .halt (.stuck "no such type") pw := by
      intro pw w hp
      have e : (Op.addrMod k a n).run P pw = (do
          let align := (← Go.typeInfo (botT P)).align
          if n < 1 || n.toNat > align || align % n.toNat != 0 then Go.unsupported .addressObserved
          Pure.pure (.int k ((← Go.byteOf a) % n.toNat : Nat)) : Sem Value).run P pw := by
        unfold Op.addrMod
        show Sem.run P (Sem.shape a.block _) pw = _
        simp only [Sem.run]
        rw [show pw.shape? a.block = some (botT P, 0) by unfold World.shape?; rw [hp.dead _ hF]; rfl]
        rfl
      rw [e]
      have e2 : (Go.typeInfo (botT P)).run P pw = .halt (.stuck "no such type") pw := by
        show (match P.info? (botT P) with | some i => Pure.pure i | none => Go.stuck "no such type" : Sem TypeInfo).run P pw = _
        rw [botT_info]
        rfl
      show ((Go.typeInfo (botT P)).bind _).run P pw = _
      rw [Sem.run_bind', e2]
      rfl
    refine ⟨fun pw w es v pw' hp hr => ?_, fun pw w hp h pw' hr => ?_, fun pw w hp v pw' hr => ?_⟩
    · rw [e pw w hp] at hr
      cases hr
    rotate_left
    · rw [e pw w hp] at hr
      cases hr
    · rw [e pw w hp] at hr
      cases hr
      rfl
  · have key2 : ∀ s : Option (TypeId × Nat), Ins P F (match s with
        | some (e, _) => (do
          let align := (← Go.typeInfo e).align
          if n < 1 || n.toNat > align || align % n.toNat != 0 then Go.unsupported .addressObserved
          Pure.pure (.int k ((← Go.byteOf a) % n.toNat : Nat)) : Sem Value)
        | _ => Go.unsupported .addressObserved) (fun _ => True) := by
      intro s
      split
      · refine Ins.bind Ins.typeInfo fun i _ => ?_
        dsimp only
        split
        · exact .dead
        · exact Ins.bind (.byteOf hF) fun _ _ => .pure trivial
      · exact .unsupported
    refine ⟨fun pw w es v pw' hp hr => ?_, fun pw w hp h pw' hr => (key2 (pw.shape? a.block)).tidy pw w hp h pw' hr, fun pw w hp v pw' hr => (key2 (pw.shape? a.block)).cong pw w hp v pw' hr⟩
    have hs : pw.shape? a.block = w.shape? a.block := by unfold World.shape?; rw [hp.out _ hF]
    exact (key2 (w.shape? a.block)).ok pw w es v pw' hp (by rw [← hs]; exact hr)
/-- Equality at a type whose make is known to be an int's, a string's, a bool's or a slice's. -/
def plainDesc : TypeDesc → Bool
  | .int _ | .string | .bool | .slice _ | .func .. => true
  | _ => false
theorem Ins.equal {t : TypeId} {x y : Value} {d : TypeDesc} (hG : ∀ b, F b → P.globals.size ≤ b) (ht : P.underlying t = some d) (hd : plainDesc d = true) : Ins P F (Op.equal t x y) (fun _ => True) := by
  unfold Op.equal
  show Ins P F (Op.equalIn (9999 + 1) t x y) _
  unfold Op.equalIn
  refine Ins.bind Ins.underlying fun d' hd' => ?_
  obtain rfl : d = d' := by rw [ht] at hd'; exact Option.some.inj hd'
  cases d <;> simp only [plainDesc] at hd <;> try (cases hd; done)
  case int k =>
    dsimp only
    split <;> first
      | contradiction | exact .pure trivial | exact .unsupported | exact .stuck | (split <;> first | exact .pure trivial | exact .stuck)
      | skip
    -- two addresses, at an int's type
    refine Ins.bind Ins.behindNumber fun z _ => ?_
    refine Ins.bind Ins.behindNumber fun z' _ => ?_
    refine Ins.bind Ins.program fun p hp => ?_
    subst hp
    split
    · rename_i hn
      simp only [Bool.and_eq_true, beq_iff_eq, decide_eq_true_eq] at hn
      have hFa : ¬ F z.1.block := fun h => by have := hG _ h; omega
      have hFb : ¬ F z'.1.block := by rw [← hn.1]; exact hFa
      exact Ins.bind (.byteOf hFa) fun _ _ => Ins.bind (.byteOf hFb) fun _ _ => .pure trivial
    · refine Ins.bind Ins.typeInfo fun i _ => ?_
      split
      · split
        · exact .pure trivial
        · exact .unsupported
      · exact .unsupported
  all_goals (dsimp only; split <;> first | contradiction | exact .pure trivial | exact .stuck)
theorem Ins.eqGuardIn {t : TypeId} {x y : Value} {d : TypeDesc} (ht : P.underlying t = some d) (hd : plainDesc d = true) : Ins P F (Op.eqGuardIn Op.maxDepth t x y) (fun _ => True) := by
  show Ins P F (Op.eqGuardIn (9999 + 1) t x y) _
  unfold Op.eqGuardIn
  refine Ins.bind Ins.underlying fun d' hd' => ?_
  obtain rfl : d = d' := by rw [ht] at hd'; exact Option.some.inj hd'
  cases d <;> simp only [plainDesc] at hd <;> try (cases hd; done)
  all_goals exact .pure trivial
theorem eqGuardType_plain {t : TypeId} {d : TypeDesc} (ht : P.underlying t = some d) (hd : plainDesc d = true) : P.eqGuardType P.depth t = false := by
  have : P.depth = (2 * (P.types.size + Made.depth) + 1) + 1 := rfl
  rw [this]
  unfold Program.eqGuardType
  rw [ht]
  cases d <;> simp only [plainDesc] at hd <;> first | rfl | cases hd
theorem Ins.eqGuard {op : BinOp} {t : TypeId} {x y : Operand} {a b : Value} {d : TypeDesc} (ht : P.underlying t = some d) (hd : plainDesc d = true) : Ins P F (Go.eqGuard op t x y a b) (fun _ => True) := by
  unfold Go.eqGuard
  have key : Ins P F (match a, b with
    | .nilIface, .nilIface => (do
      if (x matches .const _) || (y matches .const _) then return
      if ← Op.eqGuardIn Op.maxDepth t a b then Go.unsupported (.noEntry "binop/eql: two nil values of an interface type with methods, neither of them the literal nil") : Sem Unit)
    | .agg _, .agg _ => do
      if !(← Go.program).eqGuardType (← Go.program).depth t then return
      if ← Op.eqGuardIn Op.maxDepth t a b then Go.unsupported (.noEntry "binop/eql: two nil values of an interface type with methods, in a part of a struct or an array")
    | _, _ => Pure.pure ()) (fun _ => True) := by
    split
    · refine Ins.ite ?_ ?_
      · exact .pure trivial
      · refine Ins.bind (Ins.eqGuardIn ht hd) fun z _ => ?_
        split
        · exact .unsupported
        · exact .pure trivial
    · refine Ins.bind Ins.program fun p hp => ?_
      refine Ins.bind Ins.program fun p' hp' => ?_
      subst hp
      subst hp'
      rw [eqGuardType_plain ht hd]
      exact .pure trivial
    · exact .pure trivial
  exact Ins.ite (.pure trivial) key
theorem Ins.intArith {op : BinOp} {k : IntKind} {x y : Int} : Ins P F (Op.intArith op k x y) (fun _ => True) := by
  unfold Op.intArith
  split <;> first | exact .pure trivial | exact .stuck
theorem Ins.intDiv {op : BinOp} {k : IntKind} {x y : Int} : Ins P F (Op.intDiv op k x y) (fun _ => True) := by
  unfold Op.intDiv
  split
  · exact .runtimePanic
  · split <;> first | exact .pure trivial | exact .stuck
theorem Ins.intBits {op : BinOp} {k : IntKind} {x y : Int} : Ins P F (Op.intBits op k x y) (fun _ => True) := by
  unfold Op.intBits
  dsimp only
  split <;> first | exact .pure trivial | exact .stuck
theorem Ins.intCmp {op : BinOp} {x y : Int} : Ins P F (Op.intCmp op x y) (fun _ => True) := by
  unfold Op.intCmp
  split <;> first | exact .pure trivial | exact .stuck
theorem Ins.stringOp {op : BinOp} {x y : ByteArray} : Ins P F (Op.stringOp op x y) (fun _ => True) := by
  unfold Op.stringOp
  dsimp only
  split <;> first | exact .pure trivial | exact .stuck | (split <;> first | exact .pure trivial | exact .unsupported)
theorem Ins.floatArith {op : BinOp} {k : FloatKind} {x y : Nat} : Ins P F (Op.floatArith op k x y) (fun _ => True) := by
  unfold Op.floatArith
  (repeat' first | exact Ins.stuck | exact Ins.unsupported | exact Ins.runtimePanic | exact Ins.pure trivial | exact Ins.choose' | assumption | (refine Ins.bind (R := fun _ => True) ?_ (fun _ _ => ?_)) | (refine Ins.ite ?_ ?_) | split | dsimp only)
theorem Ins.floatCmp {op : BinOp} {k : FloatKind} {x y : Nat} : Ins P F (Op.floatCmp op k x y) (fun _ => True) := by
  unfold Op.floatCmp
  dsimp only
  (repeat' first | exact Ins.stuck | exact Ins.unsupported | exact Ins.runtimePanic | exact Ins.pure trivial | exact Ins.choose' | assumption | (refine Ins.bind (R := fun _ => True) ?_ (fun _ _ => ?_)) | (refine Ins.ite ?_ ?_) | split | dsimp only)
theorem Ins.floatToFloat {k k' : FloatKind} {x : Nat} : Ins P F (Conv.floatToFloat k x k') (fun _ => True) := by
  unfold Conv.floatToFloat
  (repeat' first | exact Ins.stuck | exact Ins.unsupported | exact Ins.runtimePanic | exact Ins.pure trivial | exact Ins.choose' | assumption | (refine Ins.bind (R := fun _ => True) ?_ (fun _ _ => ?_)) | (refine Ins.ite ?_ ?_) | split | dsimp only)
theorem Ins.cArith {op : BinOp} {k : FloatKind} {x y : Nat} : Ins P F (Op.Complex.arith op k x y) (fun _ => True) := by
  unfold Op.Complex.arith
  refine Ins.bind .floatArith fun _ _ => ?_
  (repeat' first | exact Ins.stuck | exact Ins.unsupported | exact Ins.runtimePanic | exact Ins.pure trivial | exact Ins.choose' | assumption | (refine Ins.bind (R := fun _ => True) ?_ (fun _ _ => ?_)) | (refine Ins.ite ?_ ?_) | split | dsimp only)
theorem Ins.cCmp {op : BinOp} {k : FloatKind} {x y : Nat} : Ins P F (Op.Complex.cmp op k x y) (fun _ => True) := by
  unfold Op.Complex.cmp
  exact Ins.bind .floatCmp fun _ _ => .asBool
theorem Ins.cConv {k k' : FloatKind} {x : Nat} : Ins P F (Op.Complex.conv k x k') (fun _ => True) := by
  unfold Op.Complex.conv
  split
  · exact .pure trivial
  · refine Ins.bind .floatToFloat fun _ _ => ?_
    (repeat' first | exact Ins.stuck | exact Ins.unsupported | exact Ins.runtimePanic | exact Ins.pure trivial | exact Ins.choose' | assumption | (refine Ins.bind (R := fun _ => True) ?_ (fun _ _ => ?_)) | (refine Ins.ite ?_ ?_) | split | dsimp only)
theorem Ins.cProduct {a b c d : Nat} : Ins P F (Op.Complex.product a b c d) (fun _ => True) := by
  unfold Op.Complex.product Op.Complex.sub Op.Complex.add Op.Complex.mul
  (repeat' first | with_reducible exact Ins.cArith | with_reducible exact Ins.cCmp | with_reducible exact Ins.cConv | exact Ins.stuck | exact Ins.pure trivial | (refine Ins.bind (R := fun _ => True) ?_ (fun _ _ => ?_)) | (refine Ins.ite ?_ ?_) | split | dsimp only)
theorem Ins.cQuotient {a b c d : Nat} : Ins P F (Op.Complex.quotient a b c d) (fun _ => True) := by
  unfold Op.Complex.quotient Op.Complex.corrected Op.Complex.sub Op.Complex.add Op.Complex.mul Op.Complex.quo
  (repeat' first | with_reducible exact Ins.cArith | with_reducible exact Ins.cCmp | with_reducible exact Ins.cConv | exact Ins.stuck | exact Ins.pure trivial | (refine Ins.bind (R := fun _ => True) ?_ (fun _ _ => ?_)) | (refine Ins.ite ?_ ?_) | split | dsimp only)
theorem Ins.complexOp {op : BinOp} {k : FloatKind} {a b c d : Nat} : Ins P F (Op.complexOp op k a b c d) (fun _ => True) := by
  unfold Op.complexOp
  repeat' first
    | with_reducible exact Ins.cProduct | with_reducible exact Ins.cQuotient | with_reducible exact Ins.cArith | with_reducible exact Ins.cCmp | with_reducible exact Ins.cConv | exact Ins.stuck | exact Ins.pure trivial
    | (refine Ins.bind (R := fun _ => True) ?_ (fun _ _ => ?_)) | (refine Ins.ite ?_ ?_) | split | dsimp only
def plainOp : BinOp → Bool
  | .shl | .shr => false
  | _ => true
theorem Ins.binOp {op : BinOp} {t : TypeId} {x y : Value} {d : TypeDesc} (hG : ∀ b, F b → P.globals.size ≤ b) (ht : P.underlying t = some d) (hd : plainDesc d = true) (ho : plainOp op = true) : Ins P F (Go.binOp op t x y) (fun _ => True) := by
  unfold Go.binOp
  split
  · cases ho
  · cases ho
  · split
    · exact .stuck
    · split <;> first | exact .intArith | exact .intDiv | exact .intBits | exact .intCmp
  · split
    · exact .stuck
    · split <;> first | exact .floatArith | exact .floatCmp
  · split
    · exact .stuck
    · exact .complexOp
  · exact .stringOp
  · exact Ins.bind (.equal hG ht hd) fun _ _ => .pure trivial
  · exact Ins.bind (.equal hG ht hd) fun _ _ => .pure trivial
  · refine Ins.bind Ins.underlying fun d' hd' => ?_
    split
    · exfalso
      have := ht.symm.trans hd'
      simp only [Option.some.injEq] at this
      subst this
      cases hd
    · exact .movedNumber
  · exact .movedNumber
  · exact .movedNumber
  · exact Ins.bind .behindNumber fun _ _ => Ins.bind .behindNumber fun _ _ => .addrSub hG
  · exact Ins.bind .behindNumber fun _ _ => Ins.bind .behindNumber fun _ _ => .addrCmp hG
  · exact Ins.bind .behindNumber fun _ _ => Ins.bind .behindNumber fun _ _ => .addrCmp hG
  · exact Ins.bind .behindNumber fun _ _ => Ins.bind .behindNumber fun _ _ => .addrCmp hG
  · exact Ins.bind .behindNumber fun _ _ => Ins.bind .behindNumber fun _ _ => .addrCmp hG
  · exact Ins.bind .behindNumber fun _ _ => .addrMod
  · exact Ins.bind .behindNumber fun _ _ => .addrMod
  · exact Ins.bind .behindNumber fun _ _ => .addrMod
  · exact .unsupported
  · exact .unsupported
  · exact .stuck
theorem Ins.unary {op : UnOp} {x : Value} : Ins P F (Op.unary op x) (fun _ => True) := by
  unfold Op.unary
  split <;> first | exact .intArith | exact .intBits | exact .pure trivial | exact .unsupported | exact .stuck
theorem not_cells_match2 {γ : Type} {o : Obj} {a c : γ} {b : Obj → γ} (h : ¬ ∃ c t f, o = .cells c t f) : (match some o with
    | some (.cells ..) => a
    | some o => b o
    | none => c) = b o := by
  cases o <;> first | rfl | exact absurd ⟨_, _, _, rfl⟩ h
theorem Ins.getObj {r : Nat} : Ins P F (Go.getObj r) (fun _ => True) := by
  have e1 : ∀ x : World, (Go.getObj r).run P x = (match x.heap[r]? with
    | some (.cells ..) => .halt (.stuck "getObj: a row of cells") x
    | some o => .ok o x
    | none => .halt (.stuck "getObj: no such block") x) := by
    intro x
    show (Sem.getObj r Sem.pure).run P x = _
    simp only [Sem.run]
    cases x.heap[r]? with
    | none => rfl
    | some o => cases o <;> rfl
  refine ⟨fun pw w es o pw' hp hr => ?_, fun pw w hp h pw' hr => ?_, .of fun _ => trivial⟩
  rotate_left
  · rw [e1] at hr
    split at hr <;> first | (cases hr; rfl) | cases hr
  have e2 : (Go.getObj r).runT P w es = (match w.heap[r]? with
    | some (.cells ..) => (.halt (.stuck "getObj: a row of cells") w, es)
    | some o => (.ok o w, es.push ⟨.obj r, false, o.isChan⟩)
    | none => (.halt (.stuck "getObj: no such block") w, es)) := by
    show (Sem.getObj r Sem.pure).runT P w es = _
    simp only [Sem.runT]
    cases w.heap[r]? with
    | none => rfl
    | some o => cases o <;> rfl
  rw [e1] at hr
  have hF : ¬ F r := fun hF => by rw [hp.dead r hF] at hr; cases hr
  rw [hp.out r hF] at hr
  rw [e2]
  cases ho : w.heap[r]? with
  | none => rw [ho] at hr; cases hr
  | some o' =>
    rw [ho] at hr
    have hlt : r < w.heap.size := (Array.getElem?_eq_some_iff.1 ho).1
    by_cases hcc : ∃ c t f, o' = .cells c t f
    · obtain ⟨c, t, f, rfl⟩ := hcc
      cases hr
    · rw [not_cells_match2 hcc] at hr
      simp only [Result.ok.injEq] at hr
      obtain ⟨rfl, rfl⟩ := hr
      refine ⟨trivial, w, #[⟨.obj r, false, o'.isChan⟩], ?_, ?_, hp, .refl _ _⟩
      · rw [not_cells_match2 hcc, Array.push_eq_append]
      · intro e he
        simp only [Array.mem_singleton] at he
        subst he
        exact ⟨hlt, rfl⟩
theorem Ins.intToInt {k : IntKind} {n : Int} : Ins P F (Conv.intToInt k n) (fun _ => True) := .pure trivial
theorem Ins.forIn {γ : Type} {f : Value → γ → Sem (ForInStep γ)} (hf : ∀ v x, Ins P F (f v x) (fun _ => True)) : ∀ (l : List Value) (x : γ), Ins P F (forIn l x f) (fun _ => True)
  | [], _ => .pure trivial
  | v :: l, x => by
    rw [List.forIn_cons]
    refine Ins.bind (hf v x) fun z _ => ?_
    split
    · exact .pure trivial
    · exact Ins.forIn hf l _
theorem Ins.bytesToString {x : Value} : Ins P F (Conv.bytesToString x) (fun _ => True) := by
  unfold Conv.bytesToString
  split
  · exact .pure trivial
  · refine Ins.bind .loadCells fun cs _ => ?_
    dsimp only
    refine Ins.bind (R := fun _ => True) ?_ fun _ _ => .pure trivial
    rw [← Array.forIn_toList]
    refine Ins.forIn (fun v x => ?_) _ _
    split
    · exact .pure trivial
    · exact .stuck
  · exact .stuck
theorem Ins.alloc {e : TypeId} {v : Value} : Ins P F (Instr.alloc e true v) (fun _ => True) := by
  unfold Instr.alloc
  refine Ins.bind .zeroValue fun z _ => ?_
  split
  · contradiction
  · exact Ins.bind .newVar fun _ _ => .pure trivial
theorem Ins.box {e : TypeId} {v : Value} : Ins P F (Instr.box e v) (fun _ => True) := Ins.bind .newVar fun _ _ => .pure trivial
theorem Ins.buildSlice {t : TypeId} {n : Nat} {ps : Array (Nat × Value)} : Ins P F (Instr.buildSlice t n ps) (fun _ => True) := by
  unfold Instr.buildSlice
  refine Ins.bind .underlying fun d _ => ?_
  split
  · refine Ins.bind .sizeOf fun z _ => ?_
    dsimp only
    refine Ins.ite .dead ?_
    have key : ∀ (e : TypeId) (zero : Array Value), Ins P F (match Instr.fill (fun i => some (i * z, z)) ((Array.range (n * z)).map (zero[· % zero.size]!)) ps.toList with
      | some cells => (do Pure.pure (.slice (some (← Go.newRow e cells)) n n) : Sem Value)
      | _ => Go.stuck "buildSlice: a part of the wrong size") (fun _ => True) := by
      intro e zero
      split
      · exact Ins.bind .newRow fun _ _ => .pure trivial
      · exact .stuck
    refine Ins.ite ?_ ?_
    · exact Ins.bind (R := fun _ => True) (.pure trivial) fun _ _ => key _ _
    · exact Ins.bind .zeroValue fun _ _ => key _ _
  · exact .stuck
theorem Ins.mapML {γ δ : Type} {f : γ → Sem δ} (hf : ∀ x, Ins P F (f x) (fun _ => True)) : ∀ xs : List γ, Ins P F (xs.mapM f) (fun _ => True)
  | [] => by rw [List.mapM_nil]; exact .pure trivial
  | x :: xs => by
    rw [List.mapM_cons]
    exact Ins.bind (hf x) fun _ _ => Ins.bind (Ins.mapML hf xs) fun _ _ => .pure trivial
theorem Ins.mapM {γ δ : Type} {f : γ → Sem δ} (hf : ∀ x, Ins P F (f x) (fun _ => True)) (xs : Array γ) : Ins P F (xs.mapM f) (fun _ => True) := by
  rw [Array.mapM_eq_mapM_toList, map_eq_pure_bind]
  exact Ins.bind (Ins.mapML hf _) fun _ _ => .pure trivial
theorem Ins.build {t : TypeId} {ps : Array (Nat × Value)} : Ins P F (Instr.build t ps) (fun _ => True) := by
  unfold Instr.build
  refine Ins.bind .zeroValue fun z _ => ?_
  dsimp only
  refine Ins.bind .underlying fun d _ => ?_
  split
  · refine Ins.bind (Ins.mapM (fun f => Ins.bind .sizeOf fun _ _ => .pure trivial) _) fun pl _ => ?_
    split
    · exact .pure trivial
    · exact .stuck
  · refine Ins.bind .sizeOf fun z _ => ?_
    split
    · exact .pure trivial
    · exact .stuck
  · exact .stuck
theorem Ins.loadAt {t : TypeId} {v : Value} : Ins P F (Instr.loadAt t v) (fun _ => True) := Ins.bind .sureAddr fun _ _ => .loadVar
theorem Ins.storeAt {t : TypeId} {v x : Value} : Ins P F (Instr.storeAt t v x) (fun _ => True) := Ins.bind .sureAddr fun _ _ => .storeVar
theorem Ins.makeSlice {t : TypeId} {l c : Value} : Ins P F (Instr.makeSlice t l c) (fun _ => True) := by
  unfold Instr.makeSlice
  refine Ins.bind .underlying fun d _ => ?_
  split
  · refine Ins.bind .asInt fun l _ => ?_
    refine Ins.bind .asInt fun c _ => ?_
    refine Ins.bind .typeInfo fun i _ => ?_
    dsimp only
    have key : ∀ e : TypeId, Ins P F (do
        Go.askRoom ((IntKind.i64.wrap c).toNat * i.bytes)
        let n := (IntKind.i64.wrap c).toNat * (← Go.sizeOf e)
        let zero ← if n = 0 then Pure.pure #[] else do Pure.pure (← Go.zeroValue e).cells
        let a ← Go.newRow e ((Array.range n).map (zero[· % zero.size]!))
        Pure.pure (.slice (some a) (IntKind.i64.wrap l).toNat (IntKind.i64.wrap c).toNat) : Sem Value) (fun _ => True) := by
      intro e
      refine Ins.bind .askRoom fun _ _ => ?_
      refine Ins.bind .sizeOf fun z _ => ?_
      dsimp only
      repeat' first
        | with_reducible exact Ins.newRow | with_reducible exact Ins.zeroValue | exact Ins.pure trivial | (refine Ins.bind (R := fun _ => True) ?_ (fun _ _ => ?_)) | (refine Ins.ite ?_ ?_)
    refine Ins.ite ?_ ?_
    · refine Ins.ite (Ins.bind (R := fun _ => True) .runtimePanic fun _ _ => key _) (Ins.ite (Ins.bind (R := fun _ => True) .runtimePanic fun _ _ => key _) ?_)
      refine Ins.bind .choose' fun _ _ => ?_
      exact Ins.bind (R := fun _ => True) .runtimePanic fun _ _ => key _
    · exact key _
  · exact .stuck
theorem Ins.extract {v : Value} {i : Nat} : Ins P F (Instr.extract v i) (fun _ => True) := by
  unfold Instr.extract
  split
  · split
    · exact .pure trivial
    · exact .stuck
  · exact .stuck
theorem Ins.fieldAt {s : TypeId} {v : Value} {f : Nat} (hs : ∀ fields fd, P.underlying s = some (.struct fields) → fields[f]? = some fd → ∀ i, P.info? fd.type = some i → i.size ≠ 0) : Ins P F (Instr.fieldAt s v f) (fun _ => True) := by
  unfold Instr.fieldAt
  refine Ins.bind .underlying fun d hd => ?_
  split
  · rename_i fields
    split
    · rename_i fd hfd
      refine Ins.bind .sureAddr fun a _ => ?_
      refine Ins.bind (R := fun _ => True) ?_ fun _ _ => .pure trivial
      unfold fieldPlace
      refine Ins.bind (R := fun n => n ≠ 0) ?_ fun n hn => ?_
      · unfold Go.sizeOf
        exact Ins.bind .typeInfo fun i hi => .pure (hs _ _ hd hfd i hi)
      · rw [if_neg hn]
        exact .pure trivial
    · exact .stuck
  · exact .stuck
theorem Ins.indexAt {t : TypeId} {x i : Value} : Ins P F (Instr.indexAt t x i) (fun _ => True) := by
  unfold Instr.indexAt
  refine Ins.bind .asIntOf fun k _ => ?_
  dsimp only
  refine Ins.bind .underlying fun d _ => ?_
  have key : ∀ z : Option Addr × Nat × TypeId, Ins P F (do
      let tiny := z.2.1 ≤ 1 && (match ← Go.underlying t with | .array .. => true | _ => false)
      match z.1 with
      | some a =>
        if 0 ≤ k.2 ∧ k.2 < z.2.1 then Pure.pure (.pointer (some (a.add (k.2.toNat * (← Go.sizeOf z.2.2)))))
        else if tiny then Go.unsupported (.noEntry "op/indexAddr.an index out of range at an array of length 0 or 1 (ledger 616)")
        else Go.boundsPanic k.1 k.2 z.2.1 .index
      | none => Go.boundsPanic k.1 k.2 0 .index : Sem Value) (fun _ => True) := by
    intro z
    refine Ins.bind .underlying fun d _ => ?_
    dsimp only
    split
    · refine Ins.ite (Ins.bind .sizeOf fun _ _ => .pure trivial) (Ins.ite .unsupported .boundsPanic)
    · exact .boundsPanic
  split
  · exact Ins.bind .sureAddr fun a _ => Ins.bind (R := fun _ => True) (.pure trivial) fun z _ => key z
  · exact Ins.bind (R := fun _ => True) (.pure trivial) fun z _ => key z
  · exact .dead
end
end Go.Proofs.Ytmllcfkgkkbkpaa
/-
  THE OPERATIONS OF CALM CODE (XCalmOp): append, len, max, a call of a known function; and the word of them all.
-/
namespace Go.Proofs.Ytmllcfkgkkbkpaa
open Go Go.Conc

section
variable {P : Program} {F : Nat → Prop} {α β : Type} {Q : α → Prop}

theorem Ins.lenOf {v : Value} : Ins P F (Builtin.lenOf v) (fun _ => True) := by
  unfold Builtin.lenOf
  split <;> first | exact .pure trivial | exact .stuck
theorem Ins.firstCells {s n : Nat} {v : Value} : Ins P F (Builtin.firstCells s n v) (fun _ => True) := by
  unfold Builtin.firstCells
  split <;> first | exact .loadCells | exact .pure trivial | exact .stuck
theorem Tidy.bindAny {x : Sem β} {f : β → Sem α} (hx : ∀ w, ∃ b, x.run P w = .ok b w) (hf : ∀ b, Tidy P F (f b)) : Tidy P F (x >>= f) := by
  intro pw w hp h pw' hr
  have hr' : (x.bind f).run P pw = .halt h pw' := hr
  obtain ⟨b, e⟩ := hx pw
  rw [Sem.run_bind', e] at hr'
  exact hf b pw w hp h pw' hr'
def LooksAt (P : Program) (x : Sem α) : Prop := ∀ w, ∃ b, x.run P w = .ok b w
theorem LooksAt.pure {a : α} : LooksAt P (Pure.pure a : Sem α) := fun _ => ⟨a, rfl⟩
theorem LooksAt.bind {x : Sem β} {f : β → Sem α} (hx : LooksAt P x) (hf : ∀ b, LooksAt P (f b)) : LooksAt P (x >>= f) := by
  intro w
  obtain ⟨b, hb⟩ := hx w
  obtain ⟨a, ha⟩ := hf b w
  refine ⟨a, ?_⟩
  show (x.bind f).run P w = _
  rw [Sem.run_bind', hb]
  exact ha
theorem LooksAt.ite {c : Prop} [Decidable c] {x y : Sem α} (hx : LooksAt P x) (hy : LooksAt P y) : LooksAt P (if c then x else y) := by
  split
  · exact hx
  · exact hy
theorem LooksAt.shape {r : Nat} : LooksAt P (Go.shape r) := fun w => ⟨w.shape? r, rfl⟩
theorem LooksAt.frozen {a : Addr} : LooksAt P (Go.frozen a) := fun w => ⟨w.frozen? a, rfl⟩
theorem look_share {a b c : Nat} {x : Option Addr} {v : Value} : LooksAt P (Builtin.mayShare a b c x v) := by
  unfold Builtin.mayShare Builtin.holdsCells
  repeat' first
    | exact LooksAt.pure | exact LooksAt.shape | exact LooksAt.frozen
    | (refine LooksAt.bind ?_ fun _ => ?_) | (refine LooksAt.ite ?_ ?_) | split | dsimp only
theorem Ins.share {a b c : Nat} {x : Option Addr} {v : Value} {u : Unsupported} (hu : uOk u = true := by rfl) : Ins P F (Builtin.mayShare a b c x v >>= fun z => if (!z) = true then (mark .noRoom >>= fun _ => Go.unsupported u) else Go.unsupported u : Sem α) Q := by
  refine ⟨InsOk.doomed (doomed_bind fun z w y w' hr => ?_), Tidy.bindAny look_share fun z pw w hp h pw' hr => ?_, fun pw w hp y pw' hr => ?_⟩
  · cases z <;> cases hr
  · cases z <;> cases hr <;> exact hu
  · exact absurd hr (doomed_bind (fun z w y w' hr => by cases z <;> cases hr) _ _ _)
set_option maxHeartbeats 4000000 in
theorem Ins.append {ts : Array TypeId} {t : TypeId} {args : Array Value} : Ins P F (Builtin.append_ ts t args) (fun _ => True) := by
  unfold Builtin.append_
  dsimp only
  split
  · refine Ins.bind .underlying fun d _ => ?_
    split
    · split
      · (repeat' first | with_reducible exact Ins.newRow | with_reducible exact Ins.storeCells | with_reducible exact Ins.zeroValue | with_reducible exact Ins.firstCells | with_reducible exact Ins.lenOf | with_reducible exact Ins.asInt | with_reducible exact Ins.typeInfo.triv | with_reducible exact Ins.underlying.triv | with_reducible exact Ins.choose' | with_reducible exact Ins.askRoom | with_reducible exact Ins.sizeOf | exact Ins.pure trivial | with_reducible exact Ins.unsupported | with_reducible exact Ins.runtimePanic | with_reducible exact Ins.stuck | (refine Ins.bind (R := fun _ => False) (by with_reducible exact Ins.runtimePanic) (fun _ h => h.elim)) | with_reducible exact Ins.share | (refine Ins.bind (R := fun _ => True) ?_ (fun _ _ => ?_)) | (refine Ins.ite ?_ ?_) | split | dsimp only)
      · exact .stuck
    · exact .stuck
  · exact .stuck
theorem Ins.len {ts : Array TypeId} {t : TypeId} {args : Array Value} : Ins P F (Builtin.len_ ts t args) (fun _ => True) := by
  unfold Builtin.len_
  split
  · refine Ins.bind .underlying fun d _ => ?_
    split <;> first
      | exact .pure trivial | exact .stuck
      | (refine Ins.bind .underlying fun d _ => ?_; split <;> first | exact .pure trivial | exact .stuck)
      | (refine Ins.bind .getObj fun d _ => ?_; split <;> first | exact .pure trivial | exact .stuck)
  · exact .stuck
theorem Ins.max2 {x y : Value} : Ins P F (Builtin.max2 x y) (fun _ => True) := by
  unfold Builtin.max2
  split <;> first
    | exact .pure trivial | exact .stuck | exact .unsupported
    | (split <;> first | exact .pure trivial | exact Ins.bind .choose' fun _ _ => .pure trivial)
    | exact Ins.bind .stringOp fun _ _ => Ins.bind .asBool fun _ _ => .pure trivial
theorem Ins.foldMax : ∀ (l : List Value) (x : Value), Ins P F (l.foldlM Builtin.max2 x) (fun _ => True)
  | [], _ => .pure trivial
  | v :: l, x => by
    rw [List.foldlM_cons]
    exact Ins.bind .max2 fun z _ => Ins.foldMax l z
theorem Ins.max {ts : Array TypeId} {t : TypeId} {args : Array Value} : Ins P F (Builtin.max_ ts t args) (fun _ => True) := by
  unfold Builtin.max_
  split
  · exact .stuck
  · exact .foldMax _ _
theorem Ins.callFunc {f : FuncId} {args : Array Value} {Q : Next → Prop} (hq : Q (.enter f args)) (hf : ∃ fn, P.funcs[f]? = some fn ∧ (fn.name == "runtime.NumGoroutine") = false ∧ fn.body.isNone = false) : Ins P F (Go.callFunc f args) Q := by
  obtain ⟨fn, h1, h2, h3⟩ := hf
  unfold Go.callFunc
  refine Ins.bind .program fun p hp => ?_
  subst hp
  rw [h1]
  dsimp only
  rw [h2, h3]
  exact .pure hq

theorem Ins.sliceBound {v : Value} {n : Nat} {k : BoundsCode} : Ins P F (Instr.sliceBound v n k) (fun _ => True) := by
  unfold Instr.sliceBound
  refine Ins.bind (R := fun _ => True) .asIntOf fun z _ => ?_
  obtain ⟨k', i⟩ := z
  dsimp only
  split
  · exact .pure trivial
  · exact .boundsPanic
theorem Ins.sliceBounds {b : Bool} {l c : Nat} {x y m : Option Value} : Ins P F (Instr.sliceBounds b l c x y m) (fun _ => True) := by
  unfold Instr.sliceBounds
  repeat' first
    | exact Ins.sliceBound | exact Ins.pure trivial | exact Ins.stuck
    | (refine Ins.bind (R := fun _ => True) ?_ (fun _ _ => ?_)) | split | dsimp only
theorem Ins.sliceAt {t : TypeId} {v : Value} {x y m : Option Value} : Ins P F (Instr.sliceAt t v x y m) (fun _ => True) := by
  unfold Instr.sliceAt Instr.slice
  repeat' first
    | exact Ins.sliceBounds | exact Ins.sureAddr | exact Ins.asAddr | exact Ins.pure trivial | exact Ins.stuck | exact Ins.runtimePanic | with_reducible exact Ins.sizeOf | with_reducible exact Ins.underlying.triv
    | (refine Ins.bind (R := fun _ => True) ?_ (fun _ _ => ?_)) | split | dsimp only

/-- What is asked once and for all: F bears no block of the program's variables; the types of the binary operations are plain; the functions that are called have a body; the conversions are of two makes. -/
structure CalmIn (P : Program) (pt : TypeId → Bool) (S : FuncId → Bool) (cv : TypeId → TypeId → Bool) : Prop where
  plain : ∀ t, pt t = true → ∃ d, P.underlying t = some d ∧ plainDesc d = true
  funcs : ∀ f, S f = true → ∃ fn, P.funcs[f]? = some fn ∧ (fn.name == "runtime.NumGoroutine") = false ∧ fn.body.isNone = false
  fld : ∀ s, cv s s = true → ∀ (f : Nat), ∀ fields fd, P.underlying s = some (.struct fields) → fields[f]? = some fd → ∀ i, P.info? fd.type = some i → i.size ≠ 0
  conv : ∀ s d, s ≠ d → cv s d = true → (∃ k k', P.underlying s = some (.int k) ∧ P.underlying d = some (.int k')) ∨ (∃ e, P.underlying s = some (.slice e) ∧ P.underlying d = some .string ∧ P.underlying e = some (.int .u8))
def calmCall (S : FuncId → Bool) (c : Call) : Bool :=
  match c.callee with
  | .builtin .append | .builtin .len | .builtin .max => true
  | .value (.func f) => S f
  | _ => false
def calmOp (pt : TypeId → Bool) (S : FuncId → Bool) (cv : TypeId → TypeId → Bool) : Op → Bool
  | .move _ | .assign _ | .pick .. | .alloc _ | .box .. | .build .. | .buildSlice .. | .load .. | .store .. | .makeFunc .. | .makeSlice .. | .indexAddr .. | .extract .. | .unOp .. | .slice .. => true
  | .binOp op t _ _ _ => plainOp op && pt t
  | .convert s d _ => s != d && cv s d
  | .fieldAddr s _ _ => cv s s
  | .call c => calmCall S c
  | _ => false
def NextOk (S : FuncId → Bool) : Next → Prop
  | .value _ | .skip => True
  | .enter f _ => S f = true
  | _ => False
theorem Ins.floatToInt {k : FloatKind} {n : Nat} {k' : IntKind} : Ins P F (Conv.floatToInt k n k') (fun _ => True) := by
  unfold Conv.floatToInt
  (repeat' first | exact Ins.stuck | exact Ins.unsupported | exact Ins.runtimePanic | exact Ins.pure trivial | exact Ins.choose' | assumption | (refine Ins.bind (R := fun _ => True) ?_ (fun _ _ => ?_)) | (refine Ins.ite ?_ ?_) | split | dsimp only)
theorem Ins.convert {s d : TypeId} {x : Value} (h : (∃ k k', P.underlying s = some (.int k) ∧ P.underlying d = some (.int k')) ∨ (∃ e, P.underlying s = some (.slice e) ∧ P.underlying d = some .string ∧ P.underlying e = some (.int .u8))) :
    Ins P F (Go.convert s d x) (fun _ => True) := by
  unfold Go.convert
  refine Ins.bind .underlying fun ds hs => ?_
  refine Ins.bind .underlying fun dd hd => ?_
  rcases h with ⟨k, k', h1, h2⟩ | ⟨e, h1, h2, h3⟩
  · obtain rfl : TypeDesc.int k = ds := by rw [h1] at hs; exact Option.some.inj hs
    obtain rfl : TypeDesc.int k' = dd := by rw [h2] at hd; exact Option.some.inj hd
    split <;> first
      | contradiction | exact .intToInt | exact .floatToInt | exact .unsupported
  · obtain rfl : TypeDesc.slice e = ds := by rw [h1] at hs; exact Option.some.inj hs
    obtain rfl : TypeDesc.string = dd := by rw [h2] at hd; exact Option.some.inj hd
    split <;> first
      | contradiction | exact .pure trivial | exact .unsupported
      | skip
    rename_i he _ _ _
    simp only [TypeDesc.slice.injEq] at he
    subst he
    refine Ins.bind .underlying fun de hde => ?_
    obtain rfl : TypeDesc.int .u8 = de := by rw [h3] at hde; exact Option.some.inj hde
    exact .bytesToString
theorem Ins.execOp {pt : TypeId → Bool} {S : FuncId → Bool} {cv : TypeId → TypeId → Bool} (C : CalmIn P pt S cv) (hG : ∀ b, F b → P.globals.size ≤ b) {ρ : Operand → Value} (hρ : ∀ f, ρ (.func f) = .func (.func f) #[] #[]) {o : Oper} (h : calmOp pt S cv o.op = true) :
    Ins P F (Go.execOp ρ o) (NextOk S) := by
  have hv : ∀ {s : Sem Value}, Ins P F s (fun _ => True) → Ins P F (do Pure.pure (.value (← s)) : Sem Next) (NextOk S) := fun hs => Ins.bind hs fun _ _ => .pure trivial
  have hu : ∀ {s : Sem Unit}, Ins P F s (fun _ => True) → Ins P F (do s; Pure.pure .skip : Sem Next) (NextOk S) := fun hs => Ins.bind hs fun _ _ => .pure trivial
  unfold Go.execOp
  dsimp only
  cases ho : o.op <;> rw [ho] at h <;> simp only [calmOp] at h <;> try (cases h; done)
  case move x => exact .pure trivial
  case assign x => exact .pure trivial
  case pick c a b => exact Ins.bind .asBool fun _ _ => .pure trivial
  case alloc e => exact hv .alloc
  case box e x => exact hv .box
  case buildSlice t n ps => exact hv .buildSlice
  case load t a => exact hv .loadAt
  case store t a x => exact hu .storeAt
  case binOp op t x y t' =>
    simp only [Bool.and_eq_true] at h
    obtain ⟨d, hd, hp⟩ := C.plain t h.2
    exact hv (Ins.bind (.eqGuard hd hp) fun _ _ => .binOp hG hd hp h.1)
  case unOp op t x => exact hv .unary
  case convert s d x =>
    simp only [Bool.and_eq_true, bne_iff_ne] at h
    exact hv (.convert (C.conv s d h.1 h.2))
  case build t ps => exact hv .build
  case fieldAddr s x f => exact hv (.fieldAt (C.fld s h f))
  case makeFunc fn a b => exact hv (.pure trivial)
  case makeSlice t l c => exact hv .makeSlice
  case indexAddr t x i => exact hv .indexAt
  case extract t i => exact hv .extract
  case slice t x l h m => exact hv .sliceAt
  case call c =>
    unfold calmCall at h
    unfold resolve
    dsimp only
    split at h
    · rename_i hc
      rw [hc]
      exact hv .append
    · rename_i hc
      rw [hc]
      exact hv .len
    · rename_i hc
      rw [hc]
      exact hv .max
    · rename_i f hc
      rw [hc]
      dsimp only
      rw [hρ]
      exact .callFunc h (C.funcs f h)
    · cases h
end
end Go.Proofs.Ytmllcfkgkkbkpaa
/-
  A STEP OF CALM CODE: one semantic term decides it, whatever stands below the frames at hand.
-/
namespace Go.Proofs.Ytmllcfkgkkbkpaa
open Go Go.Conc

section defs
variable (pt : TypeId → Bool) (S : FuncId → Bool) (cv : TypeId → TypeId → Bool)
def calmCode : Code → Bool
  | .skip | .label _ | .ret | .exit _ => true
  | .region _ ops _ => ops.all fun o => calmOp pt S cv o.op
  | .seq a b => calmCode a && calmCode b
  | .cond _ a b => calmCode a && calmCode b
  | .block _ c | .loop c | .scope c => calmCode c
  | _ => false
def calmItem : Item → Bool
  | .code c => calmCode pt S cv c
  | .inBlock _ => true
  | .inLoop c | .inScope c => calmCode pt S cv c
  | .inRegion ops _ => ops.all fun o => calmOp pt S cv o.op
  | _ => false
structure CalmOn (P : Program) : Prop extends CalmIn P pt S cv where
  body : ∀ f, S f = true → ∃ fn c, P.funcs[f]? = some fn ∧ fn.body = some c ∧ calmCode pt S cv c = true ∧ (fn.results = #[] ∨ ∃ t, fn.results = #[.tmp t])
/-- A frame of calm code. -/
structure CFr (fr : Frame) : Prop where
  fn : S fr.fn = true
  kind : fr.kind = .normal
  round : fr.roundOf = none
  defers : fr.defers = []
  mode : fr.mode = .run ∨ fr.mode = .returning
  todo : ∀ x ∈ fr.todo, calmItem pt S cv x = true
end defs

section
variable {P : Program} {pt : TypeId → Bool} {S : FuncId → Bool} {cv : TypeId → TypeId → Bool}

theorem finish_mode (fr : Frame) (v : Value) : (fr.finish v).mode = fr.mode := by
  unfold Frame.finish
  split <;> rfl
theorem CFr.finish {fr : Frame} (h : CFr pt S cv fr) (v : Value) : CFr pt S cv (fr.finish v) := by
  have ht := h.todo
  unfold Frame.finish
  split
  · rename_i ops i rest k e
    refine ⟨h.fn, h.kind, h.round, h.defers, h.mode, fun x hx => ?_⟩
    simp only [List.mem_cons] at hx
    rcases hx with rfl | hx
    · exact ht (.inRegion ops (i :: rest)) (by rw [e]; simp)
    · exact ht x (by rw [e]; simp [hx])
  · rename_i l k e
    have := ht (.inRangeFunc l) (by rw [e]; simp)
    cases this
  · rename_i k e
    have := ht .beginRound (by rw [e]; simp)
    cases this
  · rename_i a b c d k e
    have := ht (.call a b c d) (by rw [e]; simp)
    cases this
  · rename_i a b k e
    have := ht (.extern a b) (by rw [e]; simp)
    cases this
  · exact h
theorem CFr.tail {fr : Frame} {x : Item} {k k' : List Item} (h : CFr pt S cv fr) (e : fr.todo = x :: k) (hk : ∀ y ∈ k', y ∈ k ∨ calmItem pt S cv y = true) : CFr pt S cv { fr with todo := k' } := by
  refine ⟨h.fn, h.kind, h.round, h.defers, h.mode, fun y hy => ?_⟩
  rcases hk y hy with h1 | h1
  · exact h.todo y (by rw [e]; exact List.mem_cons_of_mem _ h1)
  · exact h1
theorem exitTo_sub {id : Nat} : ∀ {k k' : List Item}, exitTo id k = some k' → ∀ y ∈ k', y ∈ k
  | .inBlock id' :: k, k', h, y, hy => by
    simp only [exitTo] at h
    split at h
    · simp only [Option.some.injEq] at h
      subst h
      exact List.mem_cons_of_mem _ hy
    · exact List.mem_cons_of_mem _ (exitTo_sub h y hy)
  | .code _ :: k, k', h, y, hy | .inLoop _ :: k, k', h, y, hy | .inScope _ :: k, k', h, y, hy | .inRegion _ _ :: k, k', h, y, hy | .inRangeFunc _ :: k, k', h, y, hy | .endRangeFunc _ :: k, k', h, y, hy
  | .beginRound :: k, k', h, y, hy | .call _ _ _ _ :: k, k', h, y, hy | .extern _ _ :: k, k', h, y, hy => by
    simp only [exitTo] at h
    exact List.mem_cons_of_mem _ (exitTo_sub h y hy)

/-- It dies: the run ends, or a panic begins. -/
def Dies (fr : Frame) (cs : List Frame) (s : GStep) : Prop := (∃ o w es, s = .ended o w es) ∨ ∃ ch w es, s = .go (G (fr.raise ch) cs) w es

def isEnded : GStep → Bool
  | .ended .. => true
  | _ => false
theorem ended_of {s : GStep} (h : isEnded s = true) : ∃ o w es, s = .ended o w es := by
  cases s <;> first | exact ⟨_, _, _, rfl⟩ | cases h
/-- ONE STEP of the frames fr :: fs over whatever: the term s decides it; nxt: the frames behind it. -/
structure StepF (P : Program) (pt : TypeId → Bool) (S : FuncId → Bool) (cv : TypeId → TypeId → Bool) (fr : Frame) (fs : List Frame) (α : Type) (s : Sem α) (nxt : α → Option (Frame × List Frame)) : Prop where
  ins : ∀ F : Nat → Prop, (∀ b, F b → P.globals.size ≤ b) → Ins P F s (fun a => ∃ f1 r1, nxt a = some (f1, r1) ∧ CFr pt S cv f1 ∧ ∀ g ∈ r1, CFr pt S cv g ∧ g.mode = .run)
  go : ∀ (bot : List Frame) (main : Bool) (w : World) (a : α) (w' : World) (es : Array Event) (f1 : Frame) (r1 : List Frame), s.runT P w #[] = (.ok a w', es) → nxt a = some (f1, r1) →
    ∃ es', stepG P main (G fr (fs ++ bot)) w = .go (G f1 (r1 ++ bot)) w' es' ∧ ∀ e ∈ es', e ∈ es
  dies : ∀ (bot : List Frame) (main : Bool) (w : World) (h : Halt) (w' : World), s.run P w = .halt h w' → okHalt h = true → Dies fr (fs ++ bot) (stepG P main (G fr (fs ++ bot)) w)

/-- A move of control. -/
theorem StepF.ctl {fr f1 : Frame} {fs : List Frame} (hc : CFr pt S cv f1) (hfs : ∀ g ∈ fs, CFr pt S cv g ∧ g.mode = .run) (h : ∀ bot main w, stepG P main (G fr (fs ++ bot)) w = .go (G f1 (fs ++ bot)) w) :
    StepF P pt S cv fr fs Unit (Pure.pure ()) (fun _ => some (f1, fs)) where
  ins := fun F _ => .pure ⟨f1, fs, rfl, hc, hfs⟩
  go := by
    intro bot main w a w' es f r hr hn
    simp only [Option.some.injEq, Prod.mk.injEq] at hn
    obtain ⟨rfl, rfl⟩ := hn
    have hr' : (Result.ok () w, #[]) = (Result.ok a w', es) := hr
    simp only [Prod.mk.injEq, Result.ok.injEq] at hr'
    obtain ⟨⟨_, rfl⟩, rfl⟩ := hr'
    exact ⟨#[], h bot main w, by simp⟩
  dies := by
    intro bot main w hh w' hr _
    cases hr
/-- The run ends here, whatever the world. -/
theorem StepF.dead {fr : Frame} {fs : List Frame} (h : ∀ bot main w, ∃ o es, stepG P main (G fr (fs ++ bot)) w = .ended o w es) :
    StepF P pt S cv fr fs Unit (Go.stuck "") (fun _ => none) where
  ins := fun F _ => .stuck
  go := by
    intro bot main w a w' es f r hr hn
    cases hn
  dies := by
    intro bot main w hh w' hr _
    obtain ⟨o, es, e⟩ := h bot main w
    exact .inl ⟨o, w, es, e⟩

theorem results_one {fn : Func} {tmps : Array Value} (h : fn.results = #[] ∨ ∃ t, fn.results = #[.tmp t]) : ∃ v, ∀ w, (results fn tmps).run P w = .ok v w ∧ (results fn tmps).events P w #[] = #[] := by
  rcases h with h | ⟨t, h⟩
  · exact ⟨.tuple #[], fun w => ⟨results_none h tmps P w, events_results_none (P := P) h tmps (w := w) #[]⟩⟩
  · exact ⟨tmps.getD t undef, fun w => ⟨results_tmp h tmps P w, events_results_tmp (P := P) h tmps (w := w) #[]⟩⟩

theorem over_step (C : CalmOn pt S cv P) {fr : Frame} {fs : List Frame} (h : CFr pt S cv fr) (hfs : ∀ g ∈ fs, CFr pt S cv g ∧ g.mode = .run) (hne : fr.mode = .run ∨ fs ≠ []) :
    ∃ (α : Type) (s : Sem α) (nxt : α → Option (Frame × List Frame)), StepF P pt S cv fr fs α s nxt := by
  obtain ⟨fn, tmps, todo, defers, mode, kind, roundOf⟩ := fr
  obtain ⟨hS, hk, hr, hd, hm, ht⟩ := id h
  simp only at hS hk hr hd hm ht hne
  subst hk hr hd
  rcases hm with rfl | rfl
  · -- it runs
    cases todo with
    | nil =>
      exact ⟨_, _, _, StepF.ctl (f1 := ⟨fn, tmps, [], [], .returning, .normal, none⟩) ⟨hS, rfl, rfl, rfl, .inr rfl, by simp⟩ hfs fun bot main w => by simp [G, stepG, stepG.exec]⟩
    | cons x k =>
      have hx := ht x (by simp)
      have hkk : ∀ y ∈ k, calmItem pt S cv y = true := fun y hy => ht y (List.mem_cons_of_mem _ hy)
      -- the frame with another todo
      have mk : ∀ k' : List Item, (∀ y ∈ k', y ∈ k ∨ calmItem pt S cv y = true) → CFr pt S cv ⟨fn, tmps, k', [], .run, .normal, none⟩ := fun k' hk' => ⟨hS, rfl, rfl, rfl, .inl rfl, fun y hy => (hk' y hy).elim (hkk y) id⟩
      cases x with
      | code c =>
        cases c with
        | skip => exact ⟨_, _, _, StepF.ctl (mk k fun y hy => .inl hy) hfs fun bot main w => by simp [G, stepG, stepG.exec]⟩
        | label l => exact ⟨_, _, _, StepF.ctl (mk k fun y hy => .inl hy) hfs fun bot main w => by simp [G, stepG, stepG.exec]⟩
        | ret => exact ⟨_, _, _, StepF.ctl (f1 := ⟨fn, tmps, .code .ret :: k, [], .returning, .normal, none⟩) ⟨hS, rfl, rfl, rfl, .inr rfl, ht⟩ hfs fun bot main w => by simp [G, stepG, stepG.exec]⟩
        | exit id =>
          cases he : exitTo id k with
          | some k' => exact ⟨_, _, _, StepF.ctl (mk k' fun y hy => .inl (exitTo_sub he y hy)) hfs fun bot main w => by simp [G, stepG, stepG.exec, he]⟩
          | none => exact ⟨_, _, _, StepF.dead fun bot main w => ⟨_, _, by simp [G, stepG, stepG.exec, he]; exact ⟨rfl, rfl⟩⟩⟩
        | region id ops draw =>
          have hops : ∀ l : List Nat, calmItem pt S cv (.inRegion ops l) = true := fun l => hx
          cases draw with
          | false => exact ⟨_, _, _, StepF.ctl (mk (.inRegion ops (List.range ops.size) :: k) fun y hy => by
              simp only [List.mem_cons] at hy
              rcases hy with rfl | hy
              · exact .inr (hops _)
              · exact .inl hy) hfs fun bot main w => by simp [G, stepG, stepG.exec]⟩
          | true =>
            refine ⟨Nat, Go.choose (.order fn id), fun t => some (⟨fn, tmps, .inRegion ops (Region.schedule (P.follows .mixedOrders) ops t) :: k, [], .run, .normal, none⟩, fs), ?_, ?_, ?_⟩
            · exact fun F _ => Ins.choose'.mono fun t _ => ⟨_, _, rfl, mk _ fun y hy => by
                simp only [List.mem_cons] at hy
                rcases hy with rfl | hy
                · exact .inr (hops _)
                · exact .inl hy, hfs⟩
            · intro bot main w t w' es f r hrun hn
              simp only [Option.some.injEq, Prod.mk.injEq] at hn
              obtain ⟨rfl, rfl⟩ := hn
              refine ⟨#[], ?_, by simp⟩
              have : (Go.choose (.order fn id)).run P w = .ok t w' := by rw [← Sem.runT_fst P _ w #[], hrun]
              simp [G, stepG, stepG.exec, this]
            · intro bot main w hh w' hrun _
              exfalso
              simp [Go.choose, Sem.run] at hrun
              split at hrun <;> cases hrun
        | seq a b =>
          simp only [calmItem, calmCode, Bool.and_eq_true] at hx
          exact ⟨_, _, _, StepF.ctl (mk (.code a :: .code b :: k) fun y hy => by
            simp only [List.mem_cons] at hy
            rcases hy with rfl | rfl | hy
            · exact .inr hx.1
            · exact .inr hx.2
            · exact .inl hy) hfs fun bot main w => by simp [G, stepG, stepG.exec]⟩
        | cond c a b =>
          simp only [calmItem, calmCode, Bool.and_eq_true] at hx
          by_cases hb : ∃ t, (Frame.eval ⟨fn, tmps, .code (.cond c a b) :: k, [], .run, .normal, none⟩ c) = .bool t
          · obtain ⟨t, ht'⟩ := hb
            refine ⟨_, _, _, StepF.ctl (mk (.code (if t then a else b) :: k) fun y hy => by
              simp only [List.mem_cons] at hy
              rcases hy with rfl | hy
              · refine .inr ?_
                cases t
                · exact hx.2
                · exact hx.1
              · exact .inl hy) hfs fun bot main w => by simp [G, stepG, stepG.exec, ht']⟩
          · refine ⟨_, _, _, StepF.dead fun bot main w => ?_⟩
            simp only [G, stepG, stepG.exec]
            split
            · rename_i t ht'
              exact absurd ⟨t, ht'⟩ hb
            · exact ⟨_, _, rfl⟩
        | block id c => exact ⟨_, _, _, StepF.ctl (mk (.code c :: .inBlock id :: k) fun y hy => by
            simp only [List.mem_cons] at hy
            rcases hy with rfl | rfl | hy
            · exact .inr hx
            · exact .inr rfl
            · exact .inl hy) hfs fun bot main w => by simp [G, stepG, stepG.exec]⟩
        | loop c => exact ⟨_, _, _, StepF.ctl (mk (.code c :: .inLoop c :: k) fun y hy => by
            simp only [List.mem_cons] at hy
            rcases hy with rfl | rfl | hy
            · exact .inr hx
            · exact .inr hx
            · exact .inl hy) hfs fun bot main w => by simp [G, stepG, stepG.exec]⟩
        | scope c => exact ⟨_, _, _, StepF.ctl (mk (.code c :: .inScope c :: k) fun y hy => by
            simp only [List.mem_cons] at hy
            rcases hy with rfl | rfl | hy
            · exact .inr hx
            · exact .inr hx
            · exact .inl hy) hfs fun bot main w => by simp [G, stepG, stepG.exec]⟩
        | rangeFunc a b c d => cases hx
        | goto l => cases hx
        | refuse w => cases hx
      | inBlock id => exact ⟨_, _, _, StepF.ctl (mk k fun y hy => .inl hy) hfs fun bot main w => by simp [G, stepG, stepG.exec]⟩
      | inLoop c => exact ⟨_, _, _, StepF.ctl (mk (.code c :: .inLoop c :: k) fun y hy => by
            simp only [List.mem_cons] at hy
            rcases hy with rfl | rfl | hy
            · exact .inr hx
            · exact .inr hx
            · exact .inl hy) hfs fun bot main w => by simp [G, stepG, stepG.exec]⟩
      | inScope c => exact ⟨_, _, _, StepF.ctl (mk k fun y hy => .inl hy) hfs fun bot main w => by simp [G, stepG, stepG.exec]⟩
      | inRegion ops l =>
        cases l with
        | nil => exact ⟨_, _, _, StepF.ctl (mk k fun y hy => .inl hy) hfs fun bot main w => by simp [G, stepG, stepG.exec]⟩
        | cons i rest =>
          by_cases hw : ((ops[i]?).map (Region.wanted · (yielded ops tmps))).getD false = true
          · obtain ⟨o, ho, hwo⟩ : ∃ o, ops[i]? = some o ∧ Region.wanted o (yielded ops tmps) = true := by
              cases ho : ops[i]? with
              | none => simp [ho] at hw
              | some o => exact ⟨o, rfl, by simpa [ho] using hw⟩
            have hco : calmOp pt S cv o.op = true := by
              simp only [calmItem] at hx
              rw [Array.all_eq_true_iff_forall_mem] at hx
              exact hx o (Array.mem_of_getElem? ho)
            let fr0 : Frame := ⟨fn, tmps, .inRegion ops (i :: rest) :: k, [], .run, .normal, none⟩
            have hstep : ∀ bot main w, stepG P main (G fr0 (fs ++ bot)) w = stepG.apply P true fr0 (fs ++ bot) none (execOp fr0.eval o) w := by
              intro bot main w
              simp [fr0, G, stepG, stepG.exec, stepG.oper, Frame.oper?, ho, hwo]
            refine ⟨Next, execOp fr0.eval o, fun nx => match nx with
              | .value v => some (fr0.finish v, fs)
              | .skip => some (fr0.finish undef, fs)
              | .enter f args => some (Frame.enter P f args .normal, fr0 :: fs)
              | _ => none, ?_, ?_, ?_⟩
            · intro F hG
              refine (Ins.execOp C.toCalmIn hG (fun f => rfl) hco).mono fun nx hnx => ?_
              cases nx <;> simp only [NextOk] at hnx
              · exact ⟨_, _, rfl, h.finish _, hfs⟩
              · exact ⟨_, _, rfl, h.finish _, hfs⟩
              · rename_i f args
                obtain ⟨fd, c, hfd, hb, hcc, _⟩ := C.body f hnx
                refine ⟨_, _, rfl, ⟨hnx, rfl, rfl, rfl, .inl rfl, fun x hx => ?_⟩, fun g hg => ?_⟩
                · simp only [Frame.enter, hfd, Option.bind_some, hb, Option.getD_some, List.mem_singleton] at hx
                  subst hx
                  exact hcc
                · simp only [List.mem_cons] at hg
                  rcases hg with rfl | hg
                  · exact ⟨h, rfl⟩
                  · exact hfs g hg
            · intro bot main w nx w' es f1 r1 hrun hn
              rw [hstep]
              have hk' : (fr0.kind == CallKind.early) = false := rfl
              rw [Sem.runT_eq, Prod.mk.injEq] at hrun
              obtain ⟨hrun, hev⟩ := hrun
              cases nx <;> simp only [Option.some.injEq, Prod.mk.injEq] at hn <;> try (cases hn; done)
              all_goals
                obtain ⟨rfl, rfl⟩ := hn
                refine ⟨seen P fn es, ?_, fun e he => mem_seen he⟩
                simp [stepG.apply, hrun, hev, hk', GStep.after, G]
                try rfl
            · intro bot main w hh w' hrun hok
              rw [hstep]
              have hk' : (fr0.kind == CallKind.early) = false := rfl
              cases hh with
              | panic v =>
                refine .inr ⟨[{ v, recovered := false }], w', seen P fn ((execOp fr0.eval o).events P w #[]), ?_⟩
                simp [stepG.apply, hrun, hk', GStep.after, G]
                exact ⟨rfl, rfl⟩
              | stuck s =>
                refine .inl (ended_of ?_)
                simp [stepG.apply, hrun, hk', GStep.after, isEnded]
              | unsupported u =>
                cases u <;> first
                  | cases hok; done
                  | (refine .inl (ended_of ?_)
                     simp [stepG.apply, hrun, hk', GStep.after, isEnded]; done)
              | _ => cases hok
          · have e := h.finish undef
            exact ⟨_, _, _, StepF.ctl e hfs fun bot main w => by simp [G, stepG, stepG.exec, hw]⟩
      | inRangeFunc l => cases hx
      | endRangeFunc l => cases hx
      | beginRound => cases hx
      | call a b c d => cases hx
      | extern a b => cases hx
  · -- it returns
    obtain ⟨fd, c, hfd, hb, hcc, hres⟩ := C.body fn hS
    obtain ⟨v, hv⟩ := results_one (P := P) (tmps := tmps) hres
    cases fs with
    | nil => exact absurd rfl (hne.resolve_left (by simp))
    | cons g fs =>
      have hg := hfs g (by simp)
      refine ⟨Unit, Pure.pure (), fun _ => some (g.finish v, fs), ?_, ?_, ?_⟩
      · exact fun F _ => .pure ⟨_, _, rfl, hg.1.finish v, fun x hx => hfs x (List.mem_cons_of_mem _ hx)⟩
      · intro bot main w a w' es f r hr hn
        simp only [Option.some.injEq, Prod.mk.injEq] at hn
        obtain ⟨rfl, rfl⟩ := hn
        have hr' : (Result.ok () w, #[]) = (Result.ok a w', es) := hr
        simp only [Prod.mk.injEq, Result.ok.injEq] at hr'
        obtain ⟨⟨_, rfl⟩, rfl⟩ := hr'
        refine ⟨#[], ?_, by simp⟩
        have hs : seen P fn #[] = #[] := seen_none P fn
        simp [G, stepG, unwind, hfd, (hv w).1, (hv w).2, doReturn, GStep.after, hs]
      · intro bot main w hh w' hr _
        cases hr

/-! ### a piece of calm code in a frame that goes on otherwise behind it -/
def noRet : Code → Bool
  | .ret => true
  | .seq a b => noRet a && noRet b
  | .cond _ a b => noRet a && noRet b
  | .block _ c | .loop c | .scope c => noRet c
  | _ => true
def noRetItem : Item → Bool
  | .code c => noRet c
  | .inLoop c | .inScope c => noRet c
  | _ => true
def preOk (pt : TypeId → Bool) (S : FuncId → Bool) (cv : TypeId → TypeId → Bool) (pre : List Item) : Prop := ∀ x ∈ pre, calmItem pt S cv x = true ∧ noRetItem x = true
theorem exitTo_app {id : Nat} {k : List Item} : ∀ {p : List Item}, exitTo id (p ++ k) = match exitTo id p with | some p' => some (p' ++ k) | none => exitTo id k
  | [] => rfl
  | .inBlock id' :: p => by
    simp only [List.cons_append, exitTo]
    split
    · rfl
    · exact exitTo_app
  | .code _ :: p | .inLoop _ :: p | .inScope _ :: p | .inRegion _ _ :: p | .inRangeFunc _ :: p | .endRangeFunc _ :: p | .beginRound :: p | .call _ _ _ _ :: p | .extern _ _ :: p => by
    simp only [List.cons_append, exitTo]
    exact exitTo_app
/-- The goroutine with the frames fs over the base. -/
def Gs (fs : List Frame) (base : Frame) (cs : List Frame) : Goroutine :=
  match fs with
  | [] => G base cs
  | f :: r => G f (r ++ base :: cs)
@[simp] theorem Gs_nil (base : Frame) (cs : List Frame) : Gs [] base cs = G base cs := rfl
@[simp] theorem Gs_cons (f : Frame) (r : List Frame) (base : Frame) (cs : List Frame) : Gs (f :: r) base cs = G f (r ++ base :: cs) := rfl
def refusal : List Item := [.code (.refuse "")]
/-- Frames of calm code, one over the other: all but the top one run. -/
def Stack (pt : TypeId → Bool) (S : FuncId → Bool) (cv : TypeId → TypeId → Bool) : List Frame → Prop
  | [] => True
  | f :: r => CFr pt S cv f ∧ ∀ g ∈ r, CFr pt S cv g ∧ g.mode = .run

/-- The same with other deferred calls. -/
def _root_.Go.Act.wd (a : Act) (ds : List Deferred) : Act := { a with defers := ds }
theorem wd_eval (a : Act) (ds : List Deferred) : (a.wd ds).eval = a.eval := by funext x; cases x <;> rfl
theorem wd_put (a : Act) (ds : List Deferred) (d : Option Tmp) (v : Value) : (a.wd ds).put d v = (a.put d v).wd ds := by cases d <;> rfl
theorem wd_tmps (a : Act) (ds : List Deferred) : (a.wd ds).tmps = a.tmps := rfl
theorem wd_self {a : Act} : a.wd a.defers = a := rfl
structure StepB (P : Program) (pt : TypeId → Bool) (S : FuncId → Bool) (cv : TypeId → TypeId → Bool) (fn : FuncId) (a : Act) (pre : List Item) (α : Type) (s : Sem α) (nxt : α → Option (List Frame × Act × List Item)) : Prop where
  ins : ∀ F : Nat → Prop, (∀ b, F b → P.globals.size ≤ b) → Ins P F s (fun x => ∃ fs a1 p1, nxt x = some (fs, a1, p1) ∧ Stack pt S cv fs ∧ preOk pt S cv p1 ∧ (fs ≠ [] → ∃ ops i rest p, p1 = .inRegion ops (i :: rest) :: p))
  go : ∀ (b : Frame) (ds : List Deferred) (k : List Item) (cs : List Frame) (main : Bool) (w : World) (x : α) (w' : World) (es : Array Event) (fs : List Frame) (a1 : Act) (p1 : List Item), b.fn = fn → b.kind ≠ .early → s.runT P w #[] = (.ok x w', es) → nxt x = some (fs, a1, p1) →
    ∃ es', stepG P main (G (b.atR (a.wd ds) (pre ++ k)) cs) w = .go (Gs fs (b.atR (a1.wd ds) (p1 ++ k)) cs) w' es' ∧ ∀ e ∈ es', e ∈ es
  dies : ∀ (b : Frame) (cs : List Frame) (main : Bool) (w : World) (h : Halt) (w' : World), b.fn = fn → b.kind ≠ .early → s.run P w = .halt h w' → okHalt h = true →
    Dies (b.at (a.wd []) (pre ++ refusal)) cs (stepG P main (G (b.at (a.wd []) (pre ++ refusal)) cs) w)

theorem StepB.ctl {fn : FuncId} {a : Act} {pre p1 : List Item} (hc : preOk pt S cv p1) (h : ∀ (b : Frame) ds k cs main w, b.fn = fn → stepG P main (G (b.atR (a.wd ds) (pre ++ k)) cs) w = .go (G (b.atR (a.wd ds) (p1 ++ k)) cs) w) :
    StepB P pt S cv fn a pre Unit (Pure.pure ()) (fun _ => some ([], a, p1)) where
  ins := fun F _ => .pure ⟨[], a, p1, rfl, trivial, hc, fun h => absurd rfl h⟩
  go := by
    intro b ds k cs main w x w' es fs a1 p hb hk hr hn
    simp only [Option.some.injEq, Prod.mk.injEq] at hn
    obtain ⟨rfl, rfl, rfl⟩ := hn
    have hr' : (Result.ok () w, #[]) = (Result.ok x w', es) := hr
    simp only [Prod.mk.injEq, Result.ok.injEq] at hr'
    obtain ⟨⟨_, rfl⟩, rfl⟩ := hr'
    exact ⟨#[], h b ds k cs main w hb, by simp⟩
  dies := by
    intro b cs main w hh w' _ _ hr _
    cases hr
theorem StepB.dead {fn : FuncId} {a : Act} {pre : List Item} (h : ∀ (b : Frame) cs main w, b.fn = fn → ∃ o w' es, stepG P main (G (b.at (a.wd []) (pre ++ refusal)) cs) w = .ended o w' es) :
    StepB P pt S cv fn a pre Unit (Go.stuck "") (fun _ => none) where
  ins := fun F _ => .stuck
  go := by
    intro b ds k cs main w x w' es fs a1 p hb hk hr hn
    cases hn
  dies := by
    intro b cs main w hh w' hb _ hr _
    exact .inl (h b cs main w hb)

theorem base_step (C : CalmOn pt S cv P) {fn : FuncId} {a : Act} {x : Item} {p : List Item} (hp : preOk pt S cv (x :: p)) (hnr : x ≠ .code .ret) : ∃ (α : Type) (s : Sem α) (nxt : α → Option (List Frame × Act × List Item)), StepB P pt S cv fn a (x :: p) α s nxt := by
  obtain ⟨hx, hxr⟩ := hp x (by simp)
  have hpp : preOk pt S cv p := fun y hy => hp y (List.mem_cons_of_mem _ hy)
  have mk : ∀ k' : List Item, (∀ y ∈ k', y ∈ p ∨ (calmItem pt S cv y = true ∧ noRetItem y = true)) → preOk pt S cv k' := fun k' hk' y hy => (hk' y hy).elim (hpp y) id
  cases x with
  | code c =>
    cases c with
    | skip => exact ⟨_, _, _, StepB.ctl hpp fun b ds k cs main w hb => by simp [G, stepG, stepG.exec, Frame.atR]⟩
    | label l => exact ⟨_, _, _, StepB.ctl hpp fun b ds k cs main w hb => by simp [G, stepG, stepG.exec, Frame.atR]⟩
    | ret => exact absurd rfl hnr
    | exit id =>
      cases he : exitTo id p with
      | some k' => exact ⟨_, _, _, StepB.ctl (mk k' fun y hy => .inl (exitTo_sub he y hy)) fun b ds k cs main w hb => by simp [G, stepG, stepG.exec, Frame.atR, exitTo_app, he]⟩
      | none => exact ⟨_, _, _, StepB.dead fun b cs main w hb => ended_of (by simp [G, stepG, stepG.exec, Frame.at, exitTo_app, he, refusal, exitTo, isEnded])⟩
    | region id ops draw =>
      have hops : ∀ l : List Nat, calmItem pt S cv (.inRegion ops l) = true := fun l => hx
      cases draw with
      | false => exact ⟨_, _, _, StepB.ctl (p1 := .inRegion ops (List.range ops.size) :: p) (mk _ fun y hy => by
          simp only [List.mem_cons] at hy
          rcases hy with rfl | hy
          · exact .inr ⟨hops _, rfl⟩
          · exact .inl hy) fun b ds k cs main w hb => by simp [G, stepG, stepG.exec, Frame.atR]⟩
      | true =>
        refine ⟨Nat, Go.choose (.order fn id), fun t => some ([], a, .inRegion ops (Region.schedule (P.follows .mixedOrders) ops t) :: p), ?_, ?_, ?_⟩
        · exact fun F _ => Ins.choose'.mono fun t _ => ⟨_, _, _, rfl, trivial, mk _ fun y hy => by
            simp only [List.mem_cons] at hy
            rcases hy with rfl | hy
            · exact .inr ⟨hops _, rfl⟩
            · exact .inl hy, fun h => absurd rfl h⟩
        · intro b ds k cs main w t w' es fs a1 p1 hb hk hrun hn
          simp only [Option.some.injEq, Prod.mk.injEq] at hn
          obtain ⟨rfl, rfl, rfl⟩ := hn
          refine ⟨#[], ?_, by simp⟩
          have : (Go.choose (.order fn id)).run P w = .ok t w' := by rw [← Sem.runT_fst P _ w #[], hrun]
          subst hb
          simp [G, stepG, stepG.exec, Frame.atR, this]
        · intro b cs main w hh w' hb hk hrun _
          exfalso
          simp [Go.choose, Sem.run] at hrun
          split at hrun <;> cases hrun
    | seq c d =>
      simp only [calmItem, calmCode, noRetItem, noRet, Bool.and_eq_true] at hx hxr
      exact ⟨_, _, _, StepB.ctl (p1 := .code c :: .code d :: p) (mk _ fun y hy => by
        simp only [List.mem_cons] at hy
        rcases hy with rfl | rfl | hy
        · exact .inr ⟨hx.1, hxr.1⟩
        · exact .inr ⟨hx.2, hxr.2⟩
        · exact .inl hy) fun b ds k cs main w hb => by simp [G, stepG, stepG.exec, Frame.atR]⟩
    | cond v c d =>
      simp only [calmItem, calmCode, noRetItem, noRet, Bool.and_eq_true] at hx hxr
      by_cases hb : ∃ t, a.eval v = .bool t
      · obtain ⟨t, ht'⟩ := hb
        refine ⟨_, _, _, StepB.ctl (p1 := .code (if t then c else d) :: p) (mk _ fun y hy => by
          simp only [List.mem_cons] at hy
          rcases hy with rfl | hy
          · refine .inr ?_
            cases t
            · exact ⟨hx.2, hxr.2⟩
            · exact ⟨hx.1, hxr.1⟩
          · exact .inl hy) fun b ds k cs main w hb => ?_⟩
        have e := congrFun (Frame.eval_atR b (a.wd ds) (.code (.cond v c d) :: p ++ k)) v
        rw [wd_eval] at e
        simp only [Frame.atR, List.cons_append] at e
        simp [G, stepG, stepG.exec, Frame.atR, e, ht']
      · refine ⟨_, _, _, StepB.dead fun b cs main w hb' => ?_⟩
        have e := Frame.eval_at b (a.wd []) (.code (.cond v c d) :: p ++ refusal) v
        rw [wd_eval] at e
        simp only [Frame.at] at e
        simp only [G, stepG, stepG.exec, Frame.at, List.cons_append]
        split
        · rename_i t ht'
          exact absurd ⟨t, by rw [← e]; exact ht'⟩ hb
        · exact ⟨_, _, _, rfl⟩
    | block id c => exact ⟨_, _, _, StepB.ctl (p1 := .code c :: .inBlock id :: p) (mk _ fun y hy => by
        simp only [List.mem_cons] at hy
        rcases hy with rfl | rfl | hy
        · exact .inr ⟨hx, hxr⟩
        · exact .inr ⟨rfl, rfl⟩
        · exact .inl hy) fun b ds k cs main w hb => by simp [G, stepG, stepG.exec, Frame.atR]⟩
    | loop c => exact ⟨_, _, _, StepB.ctl (p1 := .code c :: .inLoop c :: p) (mk _ fun y hy => by
        simp only [List.mem_cons] at hy
        rcases hy with rfl | rfl | hy
        · exact .inr ⟨hx, hxr⟩
        · exact .inr ⟨hx, hxr⟩
        · exact .inl hy) fun b ds k cs main w hb => by simp [G, stepG, stepG.exec, Frame.atR]⟩
    | scope c => exact ⟨_, _, _, StepB.ctl (p1 := .code c :: .inScope c :: p) (mk _ fun y hy => by
        simp only [List.mem_cons] at hy
        rcases hy with rfl | rfl | hy
        · exact .inr ⟨hx, hxr⟩
        · exact .inr ⟨hx, hxr⟩
        · exact .inl hy) fun b ds k cs main w hb => by simp [G, stepG, stepG.exec, Frame.atR]⟩
    | rangeFunc a b c d => cases hx
    | goto l => cases hx
    | refuse w => cases hx
  | inBlock id => exact ⟨_, _, _, StepB.ctl hpp fun b ds k cs main w hb => by simp [G, stepG, stepG.exec, Frame.atR]⟩
  | inLoop c => exact ⟨_, _, _, StepB.ctl (p1 := .code c :: .inLoop c :: p) (mk _ fun y hy => by
        simp only [List.mem_cons] at hy
        rcases hy with rfl | rfl | hy
        · exact .inr ⟨hx, hxr⟩
        · exact .inr ⟨hx, hxr⟩
        · exact .inl hy) fun b ds k cs main w hb => by simp [G, stepG, stepG.exec, Frame.atR]⟩
  | inScope c => exact ⟨_, _, _, StepB.ctl hpp fun b ds k cs main w hb => by simp [G, stepG, stepG.exec, Frame.atR]⟩
  | inRegion ops l =>
    cases l with
    | nil => exact ⟨_, _, _, StepB.ctl hpp fun b ds k cs main w hb => by simp [G, stepG, stepG.exec, Frame.atR]⟩
    | cons i rest =>
      have hreg : preOk pt S cv (.inRegion ops rest :: p) := mk _ fun y hy => by
        simp only [List.mem_cons] at hy
        rcases hy with rfl | hy
        · exact .inr ⟨hx, rfl⟩
        · exact .inl hy
      by_cases hw : ((ops[i]?).map (Region.wanted · (yielded ops a.tmps))).getD false = true
      · obtain ⟨o, ho, hwo⟩ : ∃ o, ops[i]? = some o ∧ Region.wanted o (yielded ops a.tmps) = true := by
          cases ho : ops[i]? with
          | none => simp [ho] at hw
          | some o => exact ⟨o, rfl, by simpa [ho] using hw⟩
        have hco : calmOp pt S cv o.op = true := by
          simp only [calmItem] at hx
          rw [Array.all_eq_true_iff_forall_mem] at hx
          exact hx o (Array.mem_of_getElem? ho)
        have hnd : ∀ c, o.op ≠ .defer c := by
          intro c e
          rw [e] at hco
          cases hco
        have hstep : ∀ (b : Frame) ds k cs main w, stepG P main (G (b.atR (a.wd ds) (.inRegion ops (i :: rest) :: p ++ k)) cs) w = stepG.apply P true (b.atR (a.wd ds) (.inRegion ops (i :: rest) :: (p ++ k))) cs none (execOp a.eval o) w := by
          intro b ds k cs main w
          have e := Frame.eval_atR b (a.wd ds) (.inRegion ops (i :: rest) :: (p ++ k))
          rw [wd_eval] at e
          simp only [Frame.atR] at e
          have ht : (a.wd ds).tmps = a.tmps := rfl
          simp only [G, stepG, stepG.exec, stepG.oper, Frame.oper?, Frame.atR, List.cons_append, ht, ho, hwo, Option.map_some, Option.getD_some, if_true]
          split
          · rename_i c _ hc
            exact absurd hc (hnd _)
          · rfl
        have hfin : ∀ (b : Frame) ds k v, (b.atR (a.wd ds) (.inRegion ops (i :: rest) :: (p ++ k))).finish v = b.atR ((a.put o.dst v).wd ds) (.inRegion ops rest :: p ++ k) := by
          intro b ds k v
          rw [Frame.finish_atR, ho, wd_put]
          rfl
        refine ⟨Next, execOp a.eval o, fun nx => match nx with
          | .value v => some ([], a.put o.dst v, .inRegion ops rest :: p)
          | .skip => some ([], a.put o.dst undef, .inRegion ops rest :: p)
          | .enter f args => some ([Frame.enter P f args .normal], a, .inRegion ops (i :: rest) :: p)
          | _ => none, ?_, ?_, ?_⟩
        · intro F hG
          refine (Ins.execOp C.toCalmIn hG (fun f => rfl) hco).mono fun nx hnx => ?_
          cases nx <;> simp only [NextOk] at hnx
          · exact ⟨_, _, _, rfl, trivial, hreg, fun h => absurd rfl h⟩
          · exact ⟨_, _, _, rfl, trivial, hreg, fun h => absurd rfl h⟩
          · rename_i f args
            obtain ⟨fd, c, hfd, hb, hcc, _⟩ := C.body f hnx
            refine ⟨_, _, _, rfl, ⟨⟨hnx, rfl, rfl, rfl, .inl rfl, fun x hx => ?_⟩, fun g hg => by simp at hg⟩, hp, fun _ => ⟨_, _, _, _, rfl⟩⟩
            simp only [Frame.enter, hfd, Option.bind_some, hb, Option.getD_some, List.mem_singleton] at hx
            subst hx
            exact hcc
        · intro b ds k cs main w nx w' es fs a1 p1 hb hk hrun hn
          rw [hstep]
          have hk' : (b.kind == CallKind.early) = false := by simpa using hk
          have hfn : (b.atR (a.wd ds) (.inRegion ops (i :: rest) :: (p ++ k))).kind = b.kind := rfl
          rw [Sem.runT_eq, Prod.mk.injEq] at hrun
          obtain ⟨hrun, hev⟩ := hrun
          cases nx <;> simp only [Option.some.injEq, Prod.mk.injEq] at hn <;> try (cases hn; done)
          all_goals
            obtain ⟨rfl, rfl, rfl⟩ := hn
            refine ⟨seen P b.fn es, ?_, fun e he => mem_seen he⟩
            simp only [stepG.apply, if_true, Sem.runT_eq, hrun, hev, hfn, hk', Bool.false_eq_true, if_false, GStep.after, G, Gs, hfin, List.cons_append]
            try rfl
        · intro b cs main w hh w' hb hk hrun hok
          have hat : b.at (a.wd []) (.inRegion ops (i :: rest) :: p ++ refusal) = ({ b with roundOf := none } : Frame).atR (a.wd []) (.inRegion ops (i :: rest) :: p ++ refusal) := rfl
          rw [hat, hstep]
          have hk' : (b.kind == CallKind.early) = false := by simpa using hk
          cases hh with
          | panic v =>
            refine .inr ⟨[{ v, recovered := false }], w', seen P b.fn ((execOp a.eval o).events P w #[]), ?_⟩
            simp [stepG.apply, hrun, hk', GStep.after, G, Frame.atR]
          | stuck s =>
            refine .inl (ended_of ?_)
            simp [stepG.apply, hrun, hk', GStep.after, isEnded, Frame.atR]
          | unsupported u =>
            cases u <;> first
              | cases hok; done
              | (refine .inl (ended_of ?_)
                 simp [stepG.apply, hrun, hk', GStep.after, isEnded, Frame.atR]; done)
          | _ => cases hok
      · have hfin : ∀ (b : Frame) ds k v, (b.atR (a.wd ds) (.inRegion ops (i :: rest) :: (p ++ k))).finish v = b.atR ((a.put ((ops[i]?).bind (·.dst)) v).wd ds) (.inRegion ops rest :: p ++ k) := by
          intro b ds k v
          rw [Frame.finish_atR, wd_put]
          rfl
        refine ⟨Unit, Pure.pure (), fun _ => some ([], a.put ((ops[i]?).bind (·.dst)) undef, .inRegion ops rest :: p), ?_, ?_, ?_⟩
        · exact fun F _ => .pure ⟨_, _, _, rfl, trivial, hreg, fun h => absurd rfl h⟩
        · intro b ds k cs main w x w' es fs a1 p1 hb hk hr hn
          simp only [Option.some.injEq, Prod.mk.injEq] at hn
          obtain ⟨rfl, rfl, rfl⟩ := hn
          have hr' : (Result.ok () w, #[]) = (Result.ok x w', es) := hr
          simp only [Prod.mk.injEq, Result.ok.injEq] at hr'
          obtain ⟨⟨_, rfl⟩, rfl⟩ := hr'
          refine ⟨#[], ?_, by simp⟩
          rw [Gs_nil, ← hfin]
          simp [G, stepG, stepG.exec, Frame.atR, wd_tmps, hw]
        · intro b cs main w hh w' _ _ hr _
          cases hr
  | inRangeFunc l => cases hx
  | endRangeFunc l => cases hx
  | beginRound => cases hx
  | call a b c d => cases hx
  | extern a b => cases hx

/-! ### both at once: frames of calm code over a base -/
structure Cfg where
  fs : List Frame
  a : Act
  pre : List Item
structure Cfg.Ok (pt : TypeId → Bool) (S : FuncId → Bool) (cv : TypeId → TypeId → Bool) (c : Cfg) : Prop where
  stack : Stack pt S cv c.fs
  pre : preOk pt S cv c.pre
  head : c.fs ≠ [] → ∃ ops i rest p, c.pre = .inRegion ops (i :: rest) :: p
def Cfg.g (c : Cfg) (b : Frame) (ds : List Deferred) (k : List Item) (cs : List Frame) : Goroutine := Gs c.fs (b.atR (c.a.wd ds) (c.pre ++ k)) cs
/-- It is through. -/
def retAt : List Item → Bool
  | .code .ret :: _ => true
  | _ => false
def Cfg.done (c : Cfg) : Prop := c.fs = [] ∧ (c.pre = [] ∨ retAt c.pre = true)
/-- The run ends, or all frames are in a panic. -/
def DiesG (g : Goroutine) (s : GStep) : Prop := (∃ o w es, s = .ended o w es) ∨ ∃ ch w es, s = .go (G (g.frame.raise ch) g.callers) w es
structure StepC (P : Program) (pt : TypeId → Bool) (S : FuncId → Bool) (cv : TypeId → TypeId → Bool) (fn : FuncId) (c : Cfg) (α : Type) (s : Sem α) (nxt : α → Option Cfg) : Prop where
  ins : ∀ F : Nat → Prop, (∀ b, F b → P.globals.size ≤ b) → Ins P F s (fun x => ∃ c1, nxt x = some c1 ∧ c1.Ok pt S cv)
  go : ∀ (b : Frame) (ds : List Deferred) (k : List Item) (cs : List Frame) (main : Bool) (w : World) (x : α) (w' : World) (es : Array Event) (c1 : Cfg), b.fn = fn → b.kind ≠ .early → s.runT P w #[] = (.ok x w', es) → nxt x = some c1 →
    ∃ es', stepG P main (c.g b ds k cs) w = .go (c1.g b ds k cs) w' es' ∧ ∀ e ∈ es', e ∈ es
  dies : ∀ (b : Frame) (cs : List Frame) (main : Bool) (w : World) (h : Halt) (w' : World), b.fn = fn → b.kind ≠ .early → b.roundOf = none → s.run P w = .halt h w' → okHalt h = true →
    DiesG (c.g b [] refusal cs) (stepG P main (c.g b [] refusal cs) w)
  over : c.fs ≠ [] → ∀ x c1, nxt x = some c1 →
    (c1.fs ≠ [] ∧ c1.a = c.a ∧ c1.pre = c.pre ∧ ∀ (base : Frame) (cs : List Frame) (main : Bool) (w w' : World) (es : Array Event), s.runT P w #[] = (.ok x w', es) → ∃ es', stepG P main (Gs c.fs base cs) w = .go (Gs c1.fs base cs) w' es' ∧ ∀ e ∈ es', e ∈ es) ∨
    (∃ v ops i rest p, c.pre = .inRegion ops (i :: rest) :: p ∧ c1 = ⟨[], c.a.put ((ops[i]?).bind (·.dst)) v, .inRegion ops rest :: p⟩ ∧
      ∀ (base : Frame) (cs : List Frame) (main : Bool) (w w' : World) (es : Array Event), s.runT P w #[] = (.ok x w', es) → ∃ es', stepG P main (Gs c.fs base cs) w = .go (G (base.finish v) cs) w' es' ∧ ∀ e ∈ es', e ∈ es)
theorem cfg_step (C : CalmOn pt S cv P) {fn : FuncId} {c : Cfg} (hc : c.Ok pt S cv) (hd : ¬ c.done) : ∃ (α : Type) (s : Sem α) (nxt : α → Option Cfg), StepC P pt S cv fn c α s nxt := by
  obtain ⟨fs, a, pre⟩ := c
  obtain ⟨hst, hpre, hhead⟩ := hc
  simp only at hst hpre hhead
  cases fs with
  | nil =>
    cases pre with
    | nil => exact absurd ⟨rfl, .inl rfl⟩ hd
    | cons x p =>
      obtain ⟨α, s, nxt, h⟩ := base_step (fn := fn) (a := a) C hpre (fun e => hd ⟨rfl, .inr (by subst e; rfl)⟩)
      refine ⟨α, s, fun z => (nxt z).map fun (f, a', p') => ⟨f, a', p'⟩, ?_, ?_, ?_, fun h => absurd rfl h⟩
      · refine fun F hG => (h.ins F hG).mono fun z hz => ?_
        obtain ⟨f, a1, p1, e, h1, h2, h3⟩ := hz
        exact ⟨⟨f, a1, p1⟩, by rw [e]; rfl, h1, h2, h3⟩
      · intro b ds k cs main w z w' es c1 hb hk hr hn
        cases hz : nxt z with
        | none => rw [hz] at hn; cases hn
        | some y =>
          rw [hz] at hn
          obtain ⟨f, a1, p1⟩ := y
          simp only [Option.map_some, Option.some.injEq] at hn
          subst hn
          exact h.go b ds k cs main w z w' es f a1 p1 hb hk hr hz
      · intro b cs main w hh w' hb hk hrd hr hok
        have := h.dies b cs main w hh w' hb hk hr hok
        have e : b.atR (a.wd []) ((x :: p) ++ refusal) = b.at (a.wd []) ((x :: p) ++ refusal) := Frame.atR_of_none hrd _ _
        show DiesG (G (b.atR (a.wd []) ((x :: p) ++ refusal)) cs) (stepG P main (G (b.atR (a.wd []) ((x :: p) ++ refusal)) cs) w)
        rw [e]
        exact this
  | cons fr r =>
    obtain ⟨ops, i, rest, p, rfl⟩ := hhead (by simp)
    by_cases hne : fr.mode = .run ∨ r ≠ []
    · obtain ⟨α, s, nxt, h⟩ := over_step C hst.1 hst.2 hne
      refine ⟨α, s, fun z => (nxt z).map fun (f, r') => ⟨f :: r', a, .inRegion ops (i :: rest) :: p⟩, ?_, ?_, ?_, fun _ z c1 hn => ?_⟩
      · refine fun F hG => (h.ins F hG).mono fun z hz => ?_
        obtain ⟨f, r1, e, h1, h2⟩ := hz
        exact ⟨⟨f :: r1, a, .inRegion ops (i :: rest) :: p⟩, by rw [e]; rfl, ⟨h1, h2⟩, hpre, fun _ => ⟨_, _, _, _, rfl⟩⟩
      · intro b ds k cs main w z w' es c1 hb hk hr hn
        cases hz : nxt z with
        | none => rw [hz] at hn; cases hn
        | some y =>
          rw [hz] at hn
          obtain ⟨f, r1⟩ := y
          simp only [Option.map_some, Option.some.injEq] at hn
          subst hn
          exact h.go (b.atR (a.wd ds) (.inRegion ops (i :: rest) :: p ++ k) :: cs) main w z w' es f r1 hr hz
      · intro b cs main w hh w' hb hk hrd hr hok
        exact h.dies (b.atR (a.wd []) (.inRegion ops (i :: rest) :: p ++ refusal) :: cs) main w hh w' hr hok
      · cases hz : nxt z with
        | none => rw [hz] at hn; cases hn
        | some y =>
          rw [hz] at hn
          obtain ⟨f, r1⟩ := y
          simp only [Option.map_some, Option.some.injEq] at hn
          subst hn
          exact .inl ⟨by simp, rfl, rfl, fun base cs main w w' es hr => h.go (base :: cs) main w z w' es f r1 hr hz⟩
    · -- the last frame returns to the base
      have hr0 : r = [] := Classical.byContradiction fun e => hne (.inr e)
      subst hr0
      have hm : fr.mode = .returning := hst.1.mode.resolve_left fun e => hne (.inl e)
      obtain ⟨fd, c, hfd, hb, hcc, hres⟩ := C.body fr.fn hst.1.fn
      obtain ⟨v, hv⟩ := results_one (P := P) (tmps := fr.tmps) hres
      have hreg : preOk pt S cv (.inRegion ops rest :: p) := fun y hy => by
        simp only [List.mem_cons] at hy
        rcases hy with rfl | hy
        · exact hpre (.inRegion ops (i :: rest)) (by simp)
        · exact hpre y (by simp [hy])
      refine ⟨Unit, Pure.pure (), fun _ => some ⟨[], a.put ((ops[i]?).bind (·.dst)) v, .inRegion ops rest :: p⟩, ?_, ?_, ?_, fun _ z c1 hn => ?_⟩
      · exact fun F _ => .pure ⟨_, rfl, trivial, hreg, fun h => absurd rfl h⟩
      · intro b ds k cs main w z w' es c1 hb hk hr hn
        simp only [Option.some.injEq] at hn
        subst hn
        have hr' : (Result.ok () w, #[]) = (Result.ok z w', es) := hr
        simp only [Prod.mk.injEq, Result.ok.injEq] at hr'
        obtain ⟨⟨_, rfl⟩, rfl⟩ := hr'
        refine ⟨#[], ?_, by simp⟩
        have hs : seen P fr.fn #[] = #[] := seen_none P fr.fn
        have hfin : (b.atR (a.wd ds) (.inRegion ops (i :: rest) :: p ++ k)).finish v = b.atR ((a.put ((ops[i]?).bind (·.dst)) v).wd ds) (.inRegion ops rest :: p ++ k) := by
          rw [List.cons_append, Frame.finish_atR, wd_put]
          rfl
        show stepG P main (G fr (([] : List Frame) ++ b.atR (a.wd ds) (.inRegion ops (i :: rest) :: p ++ k) :: cs)) w = .go (G (b.atR ((a.put ((ops[i]?).bind (·.dst)) v).wd ds) (.inRegion ops rest :: p ++ k)) cs) w #[]
        rw [← hfin]
        simp [G, stepG, hm, unwind, hst.1.defers, hfd, (hv w).1, (hv w).2, doReturn, hst.1.kind, GStep.after, hs]
      · intro b cs main w hh w' _ _ _ hr _
        cases hr
      · simp only [Option.some.injEq] at hn
        refine .inr ⟨v, ops, i, rest, p, rfl, hn.symm, fun base cs main w w' es hr => ?_⟩
        have hr' : (Result.ok () w, #[]) = (Result.ok z w', es) := hr
        simp only [Prod.mk.injEq, Result.ok.injEq] at hr'
        obtain ⟨⟨_, rfl⟩, rfl⟩ := hr'
        refine ⟨#[], ?_, by simp⟩
        have hs : seen P fr.fn #[] = #[] := seen_none P fr.fn
        show stepG P main (G fr (([] : List Frame) ++ base :: cs)) w = .go (G (base.finish v) cs) w #[]
        simp [G, stepG, hm, unwind, hst.1.defers, hfd, (hv w).1, (hv w).2, doReturn, hst.1.kind, GStep.after, hs]
end
end Go.Proofs.Ytmllcfkgkkbkpaa
/-
  FROM 'ON EVERY TAPE THE LONE RUN COMES THROUGH' TO AN INDUCTIVE TREE OF STEPS, AND FROM THE TREE TO A WALK IN COMPANY.
-/
namespace Go.Proofs.Ytmllcfkgkkbkpaa
open Go Go.Conc

/-! ### the lone machine -/
/-- What stands below: a panic that comes here ends the run. -/
def trap (P : Program) : Frame := { fn := P.funcs.size, tmps := #[], todo := [.call default false "fmt's door, never" #[]], defers := [], mode := .run, kind := .normal }
theorem trap_catches (P : Program) (ch : List PanicEntry) : ((trap P).raise ch).catches P = true := by
  have h : P.funcs[P.funcs.size]? = none := by simp
  simp only [Frame.raise, trap, Frame.catches, h]
  decide +kernel
def loneG (g : Goroutine) (w : World) : Machine := lone g.frame g.callers w
theorem step_loneG {P : Program} {fr fr' : Frame} {cs cs' : List Frame} {w w' : World} {es : Array Event} (h : stepG P true (G fr cs) w = .go (G fr' cs') w' es) : step P (lone fr cs w) = .next (lone fr' cs' w') :=
  step_lone_go (by
    show (stepG P true (G fr cs) w).bare = _
    rw [h]
    rfl)
theorem step_loneG_ended {P : Program} {fr : Frame} {cs : List Frame} {w : World} {o : Outcome} {w' : World} {es : Array Event} (h : stepG P true (G fr cs) w = .ended o w' es) : step P (lone fr cs w) = .ended o w' :=
  step_lone_ended (by
    show (stepG P true (G fr cs) w).bare = _
    rw [h]
    rfl)
theorem step_of_isEnded {P : Program} {fr : Frame} {cs : List Frame} {w : World} (h : isEnded (stepG P true (G fr cs) w) = true) : ∃ o w', step P (lone fr cs w) = .ended o w' := by
  obtain ⟨o, w', es, e⟩ := ended_of h
  exact ⟨o, w', step_loneG_ended e⟩
/-- All frames without deferred calls, the last of them the trap (in a panic, or not yet). -/
inductive Falls (P : Program) : List Frame → Prop
  | last : Falls P [trap P]
  | cons {f : Frame} {fs : List Frame} : f.defers = [] → Falls P fs → Falls P (f :: fs)
theorem falls_step {P : Program} {fr : Frame} {cs : List Frame} {w : World} {ch : List PanicEntry} (hm : fr.mode = .panicking ch) (hd : fr.defers = []) (hc : fr.catches P = true ∨ Falls P cs) :
    (∃ o w', step P (lone fr cs w) = .ended o w') ∨ ∃ c cs', cs = c :: cs' ∧ step P (lone fr cs w) = .next (lone (c.raise ch) cs' w) := by
  by_cases hcat : fr.catches P = true
  · exact .inl (step_of_isEnded (by simp [G, stepG, unwind, hm, hd, hcat, isEnded]))
  · have hF := hc.resolve_left hcat
    have hcf : fr.catches P = false := by simpa using hcat
    cases hF with
    | last => exact .inr ⟨_, _, rfl, step_loneG (es := #[]) (by simp [G, stepG, unwind, hm, hd, hcf])⟩
    | cons h1 h2 => exact .inr ⟨_, _, rfl, step_loneG (es := #[]) (by simp [G, stepG, unwind, hm, hd, hcf])⟩
theorem raise_mode (fr : Frame) (ch : List PanicEntry) : ∃ ch', (fr.raise ch).mode = .panicking ch' := by
  unfold Frame.raise
  split <;> exact ⟨_, rfl⟩
theorem raise_defers (fr : Frame) (ch : List PanicEntry) : (fr.raise ch).defers = fr.defers := by
  unfold Frame.raise
  split <;> rfl
theorem runN_next' {P : Program} {m m' : Machine} (n : Nat) (h : step P m = .next m') : runN P (n + 1) m = runN P n m' := by simp [runN, h]
theorem runN_ended' {P : Program} {m : Machine} {o : Outcome} {w : World} (n : Nat) (h : step P m = .ended o w) : runN P (n + 1) m = .ended o w := by simp [runN, h]
theorem lone_inj {fr fr' : Frame} {cs cs' : List Frame} {w w' : World} (h : lone fr cs w = lone fr' cs' w') : fr = fr' ∧ cs = cs' ∧ w = w' := by
  simp only [lone, Machine.mk.injEq, Array.mk.injEq, List.cons.injEq, Goroutine.mk.injEq, and_true] at h
  exact ⟨h.2.1, h.2.2, h.1⟩
/-- Out of a panic the run comes to no running frame. -/
theorem falls_never {P : Program} : ∀ (n : Nat) {fr : Frame} {cs : List Frame} {w : World} {ch : List PanicEntry} {fr' : Frame} {cs' : List Frame} {w' : World}, fr.mode = .panicking ch → fr.defers = [] → (fr.catches P = true ∨ Falls P cs) →
    runN P n (lone fr cs w) = .next (lone fr' cs' w') → ∃ ch', fr'.mode = .panicking ch'
  | 0, fr, cs, w, ch, fr', cs', w', hm, hd, hc, h => by
    have h' : Stepped.next (lone fr cs w) = .next (lone fr' cs' w') := h
    simp only [Stepped.next.injEq] at h'
    exact ⟨ch, by rw [← (lone_inj h').1, hm]⟩
  | n + 1, fr, cs, w, ch, fr', cs', w', hm, hd, hc, h => by
    rcases falls_step (w := w) hm hd hc with ⟨o, w1, e⟩ | ⟨c, cs1, rfl, e⟩
    · rw [runN_ended' n e] at h
      cases h
    · rw [runN_next' n e] at h
      by_cases hcat : fr.catches P = true
      · exfalso
        obtain ⟨o, w1, e'⟩ : ∃ o w', step P (lone fr (c :: cs1) w) = .ended o w' := step_of_isEnded (by simp [G, stepG, unwind, hm, hd, hcat, isEnded])
        rw [e] at e'
        cases e'
      · have hF := hc.resolve_left hcat
        obtain ⟨ch', hm'⟩ := raise_mode c ch
        cases hF with
        | last => exact falls_never n hm' (by rw [raise_defers]; rfl) (.inl (trap_catches P ch)) h
        | cons h1 h2 => exact falls_never n hm' (by rw [raise_defers]; exact h1) (.inr h2) h

theorem step_loneG' {P : Program} {g g' : Goroutine} {w w' : World} {es : Array Event} (hg : g = G g.frame g.callers) (hg' : g' = G g'.frame g'.callers) (h : stepG P true g w = .go g' w' es) : step P (loneG g w) = .next (loneG g' w') := by
  rw [hg, hg'] at h
  exact step_loneG h
theorem Gs_G (fs : List Frame) (b : Frame) (cs : List Frame) : Gs fs b cs = G (Gs fs b cs).frame (Gs fs b cs).callers := by cases fs <;> rfl

section
variable {P : Program} {pt : TypeId → Bool} {S : FuncId → Bool} {cv : TypeId → TypeId → Bool}

inductive Tr (P : Program) (pt : TypeId → Bool) (S : FuncId → Bool) (cv : TypeId → TypeId → Bool) (fn : FuncId) (Fin : Bool → Act → World → Prop) : Cfg → World → Prop
  | fin {c : Cfg} {pw : World} : c.done → Fin (retAt c.pre) (c.a.wd []) pw → Tr P pt S cv fn Fin c pw
  | step {c : Cfg} {pw : World} {α : Type} {s : Sem α} {nxt : α → Option Cfg} : StepC P pt S cv fn c α s nxt → (∀ t d, ∃ x pw', s.run P (pw.re t d) = .ok x pw') →
      (∀ t d x pw' c1, s.run P (pw.re t d) = .ok x pw' → nxt x = some c1 → Tr P pt S cv fn Fin c1 pw') → Tr P pt S cv fn Fin c pw

/-- The lone machine at a configuration. -/
def lst (P : Program) (bl : Frame) (c : Cfg) (w : World) : Machine := loneG (c.g bl [] refusal [trap P]) w
theorem lst_step {bl : Frame} {c c1 : Cfg} {α : Type} {s : Sem α} {nxt : α → Option Cfg} (hk : bl.kind ≠ .early) (h : StepC P pt S cv bl.fn c α s nxt) {pw pw' : World} {x : α} (hr : s.run P pw = .ok x pw') (hn : nxt x = some c1) :
    step P (lst P bl c pw) = .next (lst P bl c1 pw') := by
  obtain ⟨es, he⟩ : ∃ es, s.runT P pw #[] = (.ok x pw', es) := ⟨(s.runT P pw #[]).2, by rw [← hr, ← Sem.runT_fst P _ pw #[]]⟩
  obtain ⟨es', h1, _⟩ := h.go bl [] refusal [trap P] true pw x pw' es c1 rfl hk he hn
  exact step_loneG' (Gs_G _ _ _) (Gs_G _ _ _) h1
theorem falls_app {base : Frame} (hb : base.defers = []) : ∀ {r : List Frame}, (∀ g ∈ r, g.defers = []) → Falls P (r ++ base :: [trap P])
  | [], _ => .cons hb .last
  | f :: r, h => .cons (h f (by simp)) (falls_app hb fun g hg => h g (by simp [hg]))
theorem falls_cfg {bl : Frame} {c : Cfg} (hc : c.Ok pt S cv) : (c.g bl [] refusal [trap P]).frame.defers = [] ∧ Falls P (c.g bl [] refusal [trap P]).callers := by
  obtain ⟨fs, a, pre⟩ := c
  cases fs with
  | nil => exact ⟨rfl, .last⟩
  | cons f r => exact ⟨hc.stack.1.defers, falls_app rfl fun g hg => (hc.stack.2 g hg).1.defers⟩
theorem final_cfg {bl : Frame} (hrd : bl.roundOf = none) {c : Cfg} {a' : Act} {w w' : World} (h : lst P bl c w = lone (bl.at a' refusal) [trap P] w') : (c.fs = [] ∧ c.pre = []) ∧ a' = c.a.wd [] ∧ w = w' := by
  obtain ⟨fs, a, pre⟩ := c
  cases fs with
  | nil =>
    obtain ⟨h1, _, h3⟩ := lone_inj h
    have e : (bl.atR (a.wd []) (pre ++ refusal)) = bl.at (a.wd []) (pre ++ refusal) := Frame.atR_of_none hrd _ _
    have h1' : bl.at (a.wd []) (pre ++ refusal) = bl.at a' refusal := e ▸ h1
    simp only [Frame.at, Frame.mk.injEq] at h1'
    obtain ⟨_, ht, hp, hdf, _⟩ := h1'
    have hpre : pre = [] := by
      have := congrArg List.length hp
      simp at this
      exact this
    refine ⟨⟨rfl, hpre⟩, ?_, h3⟩
    obtain ⟨t', d'⟩ := a'
    simp only at ht hdf
    subst ht
    subst hdf
    rfl
  | cons f r =>
    exfalso
    obtain ⟨_, h2, _⟩ := lone_inj h
    have h2' : r ++ bl.atR (a.wd []) (pre ++ refusal) :: [trap P] = [trap P] := h2
    have := congrArg List.length h2'
    simp at this

/-- Never through: on a tape that says on what is said already the lone run comes to no good end. -/
def FinSt (P : Program) (bl : Frame) : Bool → Act → World → Machine → Prop
  | false, a', w', m => m = lone (bl.at a' refusal) [trap P] w'
  | true, a', w', m => ∃ todo, m = lone { bl.at a' todo with mode := .returning } [trap P] w'
theorem finSt_fs {P : Program} {bl : Frame} {r : Bool} {a' : Act} {w' : World} {fr : Frame} {cs : List Frame} {w : World} (h : FinSt P bl r a' w' (lone fr cs w)) : cs = [trap P] ∧ (fr.mode = .run ∨ fr.mode = .returning) := by
  cases r with
  | false =>
    obtain ⟨rfl, rfl, rfl⟩ := lone_inj h
    exact ⟨rfl, .inl rfl⟩
  | true =>
    obtain ⟨todo, h⟩ := h
    obtain ⟨rfl, rfl, rfl⟩ := lone_inj h
    exact ⟨rfl, .inr rfl⟩
/-- Behind its return nothing more comes. -/
theorem trapped_step {P : Program} {v : Value} {w : World} : ∃ o w', step P (lone ((trap P).finish v) [] w) = .ended o w' := by
  refine step_of_isEnded ?_
  have h : Extern.next "fmt's door, never" = none := by rfl
  simp [G, stepG, stepG.exec, trap, Frame.finish, h, isEnded]
theorem ret_never {P : Program} {bl : Frame} (hkn : bl.kind = .normal) {a : Act} (hd : a.defers = []) {todo : List Item} {w : World} {r : Bool} {a' : Act} {w' : World} {m : Machine} (n : Nat) (h : runN P (n + 1) (lone { bl.at a todo with mode := .returning } [trap P] w) = .next m) : ¬ FinSt P bl r a' w' m := by
  intro hf
  have key : (∃ o w1, step P (lone { bl.at a todo with mode := .returning } [trap P] w) = .ended o w1) ∨ ∃ v w1, step P (lone { bl.at a todo with mode := .returning } [trap P] w) = .next (lone ((trap P).finish v) [] w1) := by
    cases hfn : P.funcs[bl.fn]? with
    | none => exact .inr ⟨a.tmps.getD 0 undef, w, step_loneG (es := #[]) (by simp [G, stepG, unwind, Frame.at, hd, hfn, hkn, doReturn])⟩
    | some fd =>
      cases hr : (results fd a.tmps).run P w with
      | ok v w1 => exact .inr ⟨v, w1, step_loneG (es := seen P bl.fn ((results fd a.tmps).events P w #[])) (by simp [G, stepG, unwind, Frame.at, hd, hfn, hkn, doReturn, Sem.runT_eq, hr, GStep.after])⟩
      | halt x w1 => exact .inl (step_of_isEnded (by cases x <;> simp [G, stepG, unwind, Frame.at, hd, hfn, hkn, Sem.runT_eq, hr, GStep.after, isEnded]))
  rcases key with ⟨o, w1, e⟩ | ⟨v, w1, e⟩
  · rw [runN_ended' n e] at h
    cases h
  · rw [runN_next' n e] at h
    cases n with
    | zero =>
      have h' : Stepped.next (lone ((trap P).finish v) [] w1) = .next m := h
      simp only [Stepped.next.injEq] at h'
      rw [← h'] at hf
      have := (finSt_fs hf).1
      cases this
    | succ n =>
      obtain ⟨o, w2, e2⟩ := trapped_step (P := P) (v := v) (w := w1)
      rw [runN_ended' n e2] at h
      cases h
def NB (P : Program) (bl : Frame) (Fin : Bool → Act → World → Prop) (c : Cfg) (pw : World) (T : Nat → Question → Nat) (k : Nat) : Prop :=
  ∃ T' : Nat → Question → Nat, (∀ j q, j < k → T' j q = T j q) ∧ ∀ n r a' w' m, runN P n (lst P bl c (pw.re T' k)) = .next m → FinSt P bl r a' w' m → ¬ Fin r a' w'
structure BadC (P : Program) (pt : TypeId → Bool) (S : FuncId → Bool) (cv : TypeId → TypeId → Bool) (F : Nat → Prop) (fn : FuncId) (Fin : Bool → Act → World → Prop) (c : Cfg) (pw : World) : Prop where
  ok : c.Ok pt S cv
  poi : ∃ w, Poi P F pw w
  bad : ¬ Tr P pt S cv fn Fin c pw
theorem Poi.re {F : Nat → Prop} {pw w : World} (h : Poi P F pw w) (t : Nat → Question → Nat) (d : Nat) : Poi P F (pw.re t d) (w.re t d) :=
  ⟨h.size, rfl, rfl, h.os, h.output, h.out, h.low, h.dead, h.real, h.live⟩
theorem bad_fin {F : Nat → Prop} {bl : Frame} {Fin : Bool → Act → World → Prop} (hrd : bl.roundOf = none) (hFin : ∀ r a w t d, Fin r a (w.re t d) → Fin r a w) {c : Cfg} {pw : World} (hb : BadC P pt S cv F bl.fn Fin c pw) {T : Nat → Question → Nat} {k : Nat} {r : Bool} {a' : Act} {w' : World}
    (h : FinSt P bl r a' w' (lst P bl c (pw.re T k))) : ¬ Fin r a' w' := by
  intro hf
  cases r with
  | false =>
    obtain ⟨⟨h1, h2⟩, rfl, rfl⟩ := final_cfg hrd h
    exact hb.bad (.fin ⟨h1, .inl h2⟩ (by rw [h2]; exact hFin _ _ _ _ _ hf))
  | true =>
    obtain ⟨todo, h⟩ := h
    obtain ⟨fs, a, pre⟩ := c
    cases fs with
    | nil =>
      obtain ⟨h1, _, _⟩ := lone_inj h
      have h2 := congrArg Frame.mode h1
      cases h2
    | cons f r =>
      obtain ⟨_, h2, _⟩ := lone_inj h
      have h2' : r ++ bl.atR (a.wd []) (pre ++ refusal) :: [trap P] = [trap P] := h2
      have := congrArg List.length h2'
      simp at this
/-- One bad state leads to another, or is stuck. -/
theorem bad_next (C : CalmOn pt S cv P) {F : Nat → Prop} (hG : ∀ b, F b → P.globals.size ≤ b) {bl : Frame} (hk : bl.kind ≠ .early) (hkn : bl.kind = .normal) (hrd : bl.roundOf = none) {Fin : Bool → Act → World → Prop} (hFin : ∀ r a w t d, Fin r a (w.re t d) → Fin r a w)
    {c : Cfg} {pw : World} (hb : BadC P pt S cv F bl.fn Fin c pw) (T : Nat → Question → Nat) (k : Nat) : NB P bl Fin c pw T k ∨
    ∃ (c1 : Cfg) (pw1 : World) (T1 : Nat → Question → Nat) (k1 : Nat), BadC P pt S cv F bl.fn Fin c1 pw1 ∧ (∀ j q, j < k → T1 j q = T j q) ∧ k ≤ k1 ∧ ∀ T'' : Nat → Question → Nat, (∀ j q, j < k1 → T'' j q = T1 j q) → step P (lst P bl c (pw.re T'' k)) = .next (lst P bl c1 (pw1.re T'' k1)) := by
  by_cases hd : c.done
  · refine .inl ⟨T, fun _ _ _ => rfl, fun n r a' w' m hr hf => ?_⟩
    cases n with
    | zero =>
      have hr' : Stepped.next (lst P bl c (pw.re T k)) = .next m := hr
      simp only [Stepped.next.injEq] at hr'
      exact bad_fin hrd hFin hb (by rw [hr']; exact hf)
    | succ n =>
      intro hF
      obtain ⟨fs, a, pre⟩ := c
      obtain ⟨h1, h2⟩ := hd
      simp only at h1 h2
      subst h1
      rcases h2 with h2 | h2
      · subst h2
        obtain ⟨o, w1, e⟩ : ∃ o w', step P (lst P bl ⟨[], a, []⟩ (pw.re T k)) = .ended o w' := step_of_isEnded (fr := bl.atR (a.wd []) refusal) (cs := [trap P]) (by simp [G, stepG, stepG.exec, Frame.atR, refusal, isEnded])
        rw [runN_ended' n e] at hr
        cases hr
      · obtain ⟨p, rfl⟩ : ∃ p, pre = .code .ret :: p := by
          unfold retAt at h2
          split at h2
          · exact ⟨_, rfl⟩
          · cases h2
        have e : step P (lst P bl ⟨[], a, .code .ret :: p⟩ (pw.re T k)) = .next (lone { bl.at (a.wd []) (.code .ret :: p ++ refusal) with mode := .returning } [trap P] (pw.re T k)) :=
          step_loneG (fr := bl.atR (a.wd []) (.code .ret :: p ++ refusal)) (cs := [trap P]) (es := #[]) (by simp [G, stepG, stepG.exec, Frame.atR, Frame.at, hrd])
        rw [runN_next' n e] at hr
        cases n with
        | zero =>
          have hr' : Stepped.next (lone { bl.at (a.wd []) (.code .ret :: p ++ refusal) with mode := .returning } [trap P] (pw.re T k)) = .next m := hr
          simp only [Stepped.next.injEq] at hr'
          rw [← hr'] at hf
          cases r with
          | false =>
            obtain ⟨h1, _, _⟩ := lone_inj hf
            have h3 := congrArg Frame.mode h1
            cases h3
          | true =>
            obtain ⟨todo, hf⟩ := hf
            obtain ⟨h1, _, h4⟩ := lone_inj hf
            obtain ⟨t', d'⟩ := a'
            have h5 := congrArg Frame.tmps h1
            have h6 := congrArg Frame.defers h1
            simp only [Frame.at] at h5 h6
            subst h5 h6 h4
            exact hb.bad (.fin ⟨rfl, .inr rfl⟩ (hFin _ _ _ _ _ hF))
        | succ n => exact ret_never hkn rfl n hr hf
  · obtain ⟨α, s, nxt, hs⟩ := cfg_step (fn := bl.fn) C hb.ok hd
    obtain ⟨w, hp⟩ := hb.poi
    by_cases hall : ∀ t d, ∃ x pw', s.run P (pw.re t d) = .ok x pw'
    · -- some way goes on badly
      have : ∃ t d x pw' c1, s.run P (pw.re t d) = .ok x pw' ∧ nxt x = some c1 ∧ ¬ Tr P pt S cv bl.fn Fin c1 pw' := by
        apply Classical.byContradiction
        intro hno
        refine hb.bad (.step hs hall fun t d x pw' c1 h1 h2 => ?_)
        apply Classical.byContradiction
        intro h3
        exact hno ⟨t, d, x, pw', c1, h1, h2, h3⟩
      obtain ⟨t, d, x, pw', c1, h1, h2, h3⟩ := this
      obtain ⟨⟨c1', hc1', hok⟩, w', new, _, _, hp', _⟩ := (hs.ins F hG).ok (pw.re t d) (w.re t d) #[] x pw' (hp.re t d) h1
      obtain rfl : c1' = c1 := by rw [h2] at hc1'; exact (Option.some.inj hc1').symm
      obtain ⟨g1, g2, g3⟩ := (hs.ins F hG).cong (pw.re t d) (w.re t d) (hp.re t d) x pw' h1
      have g2' : d ≤ pw'.drawn := g2
      refine .inr ⟨c1', pw', fun j => if j < k then T j else t (d + (j - k)), k + (pw'.drawn - d), ⟨hok, ⟨w', hp'⟩, h3⟩, fun j q hj => by simp only [if_pos hj], by omega, fun T'' hT => ?_⟩
      have := g3 T'' k fun j q hj => by
        have hj' : d + j < pw'.drawn := hj
        rw [hT (k + j) q (by omega)]
        simp only
        rw [if_neg (by omega), show k + j - k = j by omega]
        rfl
      exact lst_step hk hs this h2
    · -- it dies on some tape
      have : ∃ t d, ∀ x pw', s.run P (pw.re t d) ≠ .ok x pw' := by
        apply Classical.byContradiction
        intro hno
        refine hall fun t d => ?_
        apply Classical.byContradiction
        intro h
        exact hno ⟨t, d, fun x pw' e => h ⟨x, pw', e⟩⟩
      obtain ⟨t, d, hn⟩ := this
      refine .inl ⟨fun j => if j < k then T j else t (d + (j - k)), fun j q hj => by simp only [if_pos hj], fun n r a' w' m hr hf => ?_⟩
      cases n with
      | zero =>
        have hr' : Stepped.next (lst P bl c (pw.re _ k)) = .next m := hr
        simp only [Stepped.next.injEq] at hr'
        exact bad_fin hrd hFin hb (by rw [hr']; exact hf)
      | succ n =>
        exfalso
        generalize hT : (fun j => if j < k then T j else t (d + (j - k))) = T' at hr
        have hTj : ∀ j, T' (k + j) = t (d + j) := fun j => by
          rw [← hT]
          simp only
          rw [if_neg (by omega), show k + j - k = j by omega]
        cases hrun : s.run P (pw.re T' k) with
        | ok x pw1 =>
          obtain ⟨g1, g2, g3⟩ := (hs.ins F hG).cong (pw.re T' k) (w.re T' k) (hp.re T' k) x pw1 hrun
          have := g3 t d fun j q _ => by
            show t (d + j) q = T' (k + j) q
            rw [hTj]
          exact hn _ _ this
        | halt hh pw1 =>
          have hok := (hs.ins F hG).tidy (pw.re T' k) (w.re T' k) (hp.re T' k) hh pw1 hrun
          have hdies := hs.dies bl [trap P] true (pw.re T' k) hh pw1 rfl hk hrd hrun hok
          rcases hdies with ⟨o, w1, es, e⟩ | ⟨ch, w1, es, e⟩
          · have e' : step P (lst P bl c (pw.re T' k)) = .ended o w1 := by
              have : c.g bl [] refusal [trap P] = G (c.g bl [] refusal [trap P]).frame (c.g bl [] refusal [trap P]).callers := Gs_G _ _ _
              rw [this] at e
              exact step_loneG_ended e
            rw [runN_ended' n e'] at hr
            cases hr
          · have e' : step P (lst P bl c (pw.re T' k)) = .next (lone ((c.g bl [] refusal [trap P]).frame.raise ch) (c.g bl [] refusal [trap P]).callers w1) := by
              have : c.g bl [] refusal [trap P] = G (c.g bl [] refusal [trap P]).frame (c.g bl [] refusal [trap P]).callers := Gs_G _ _ _
              rw [this] at e
              exact step_loneG e
            rw [runN_next' n e'] at hr
            obtain ⟨hd1, hd2⟩ := falls_cfg (P := P) (bl := bl) hb.ok
            obtain ⟨ch', hm⟩ := raise_mode (c.g bl [] refusal [trap P]).frame ch
            obtain ⟨fr', cs', w1', rfl⟩ : ∃ fr' cs' w1', m = lone fr' cs' w1' := by
              cases r with
              | false => exact ⟨_, _, _, hf⟩
              | true => obtain ⟨todo, hf⟩ := hf; exact ⟨_, _, _, hf⟩
            obtain ⟨ch2, hm2⟩ := falls_never n hm (by rw [raise_defers]; exact hd1) (.inr hd2) hr
            rcases (finSt_fs hf).2 with h | h <;> rw [hm2] at h <;> cases h

structure BSt where
  c : Cfg
  pw : World
  T : Nat → Question → Nat
  k : Nat
def Go1 (P : Program) (bl : Frame) (x y : BSt) : Prop :=
  (∀ j q, j < x.k → y.T j q = x.T j q) ∧ x.k ≤ y.k ∧ ∀ T'' : Nat → Question → Nat, (∀ j q, j < y.k → T'' j q = y.T j q) → step P (lst P bl x.c (x.pw.re T'' x.k)) = .next (lst P bl y.c (y.pw.re T'' y.k))
/-- No bad state can be bad without end: the tape of the limit would be one on which the lone run comes to no good end. -/
theorem bad_nb (C : CalmOn pt S cv P) {F : Nat → Prop} (hG : ∀ b, F b → P.globals.size ≤ b) {bl : Frame} (hk : bl.kind ≠ .early) (hkn : bl.kind = .normal) (hrd : bl.roundOf = none) {Fin : Bool → Act → World → Prop} (hFin : ∀ r a w t d, Fin r a (w.re t d) → Fin r a w)
    {c : Cfg} {pw : World} (hb : BadC P pt S cv F bl.fn Fin c pw) (T : Nat → Question → Nat) (k : Nat) : NB P bl Fin c pw T k := by
  classical
  apply Classical.byContradiction
  intro hnb
  let X := { x : BSt // BadC P pt S cv F bl.fn Fin x.c x.pw ∧ ¬ NB P bl Fin x.c x.pw x.T x.k }
  have hnext : ∀ x : X, ∃ y : X, Go1 P bl x.1 y.1 := by
    rintro ⟨x, hbx, hnx⟩
    rcases bad_next C hG hk hkn hrd hFin hbx x.T x.k with h | ⟨c1, pw1, T1, k1, hb1, h1, h2, h3⟩
    · exact absurd h hnx
    · refine ⟨⟨⟨c1, pw1, T1, k1⟩, hb1, fun hnb1 => hnx ?_⟩, h1, h2, h3⟩
      obtain ⟨T', hT', hrun⟩ := hnb1
      refine ⟨T', fun j q hj => (hT' j q (by simp only; omega)).trans (h1 j q hj), fun n r a' w' m hr hf => ?_⟩
      have e := h3 T' hT'
      cases n with
      | zero =>
        have hr' : Stepped.next (lst P bl x.c (x.pw.re T' x.k)) = .next m := hr
        simp only [Stepped.next.injEq] at hr'
        exact bad_fin hrd hFin hbx (by rw [hr']; exact hf)
      | succ n =>
        rw [runN_next' n e] at hr
        exact hrun n r a' w' m hr hf
  let f : Nat → X := fun n => Nat.rec (motive := fun _ => X) ⟨⟨c, pw, T, k⟩, hb, hnb⟩ (fun _ x => (hnext x).choose) n
  have hf : ∀ n, Go1 P bl (f n).1 (f (n + 1)).1 := fun n => (hnext (f n)).choose_spec
  have hkm : ∀ i m, (f i).1.k ≤ (f (i + m)).1.k := by
    intro i m
    induction m with
    | zero => exact Nat.le_refl _
    | succ m ih => exact Nat.le_trans ih (hf (i + m)).2.1
  have hTm : ∀ i m j q, j < (f i).1.k → (f (i + m)).1.T j q = (f i).1.T j q := by
    intro i m
    induction m with
    | zero => exact fun _ _ _ => rfl
    | succ m ih => exact fun j q hj => ((hf (i + m)).1 j q (Nat.lt_of_lt_of_le hj (hkm i m))).trans (ih j q hj)
  let L : Nat → Question → Nat := fun j q => if h : ∃ i, j < (f i).1.k then (f h.choose).1.T j q else 0
  have hL : ∀ i j q, j < (f i).1.k → L j q = (f i).1.T j q := by
    intro i j q hj
    have h : ∃ i, j < (f i).1.k := ⟨i, hj⟩
    have e : L j q = (f h.choose).1.T j q := dif_pos h
    rw [e]
    have hc := h.choose_spec
    rcases Nat.le_total i h.choose with hle | hle
    · obtain ⟨m, hm⟩ := Nat.le.dest hle
      rw [← hm]
      exact hTm i m j q hj
    · obtain ⟨m, hm⟩ := Nat.le.dest hle
      have := hTm h.choose m j q hc
      rw [hm] at this
      exact this.symm
  have hrun : ∀ n, runN P n (lst P bl c (pw.re L k)) = .next (lst P bl (f n).1.c ((f n).1.pw.re L (f n).1.k)) := by
    have key : ∀ n i, runN P n (lst P bl (f i).1.c ((f i).1.pw.re L (f i).1.k)) = .next (lst P bl (f (i + n)).1.c ((f (i + n)).1.pw.re L (f (i + n)).1.k)) := by
      intro n
      induction n with
      | zero => exact fun i => rfl
      | succ n ih =>
        intro i
        have e := (hf i).2.2 L fun j q hj => hL (i + 1) j q hj
        rw [runN_next' n e, ih (i + 1)]
        have : i + 1 + n = i + (n + 1) := by omega
        rw [this]
    intro n
    have := key n 0
    rw [Nat.zero_add] at this
    exact this
  refine hnb ⟨L, fun j q hj => hL 0 j q hj, fun n r a' w' m hr hf => ?_⟩
  rw [hrun n] at hr
  simp only [Stepped.next.injEq] at hr
  exact bad_fin hrd hFin (f n).2.1 (by rw [hr]; exact hf)
/-- ████ THE TREE. ████ -/
theorem tree_of (C : CalmOn pt S cv P) {F : Nat → Prop} (hG : ∀ b, F b → P.globals.size ≤ b) {bl : Frame} (hk : bl.kind ≠ .early) (hkn : bl.kind = .normal) (hrd : bl.roundOf = none) {Fin : Bool → Act → World → Prop} (hFin : ∀ r a w t d, Fin r a (w.re t d) → Fin r a w)
    {c : Cfg} {pw : World} (hc : c.Ok pt S cv) (hp : ∃ w, Poi P F pw w)
    (h : ∀ t d, ∃ n r a' w' m, runN P n (lst P bl c (pw.re t d)) = .next m ∧ FinSt P bl r a' w' m ∧ Fin r a' w') : Tr P pt S cv bl.fn Fin c pw := by
  apply Classical.byContradiction
  intro hbad
  obtain ⟨T', _, hrun⟩ := bad_nb C hG hk hkn hrd hFin ⟨hc, hp, hbad⟩ (fun _ _ => 0) 0
  obtain ⟨n, r, a', w', m, hr, hm, hf⟩ := h T' 0
  exact hrun n r a' w' m hr hm hf

/-! ### from the tree to company -/
/-- A goroutine on its way to a stop, IN COMPANY; no count of steps. -/
inductive GoesT (P : Program) (main : Bool) (R : World → World → Prop) (D : World → World → Array Event → Prop) (Stop : Goroutine → World → Prop) : Goroutine → World → Prop
  | stop {g : Goroutine} {w : World} : (∀ w₁, R w w₁ → Stop g w₁) → GoesT P main R D Stop g w
  | own {g : Goroutine} {w : World} : g.status = .running → (∀ w₁, R w w₁ → ∃ g' w' es, stepG P main g w₁ = .go g' w' es ∧ D w₁ w' es) →
      (∀ w₁ g' w' es, R w w₁ → stepG P main g w₁ = .go g' w' es → GoesT P main R D Stop g' w') → GoesT P main R D Stop g w
theorem GoesT.step {P : Program} {main : Bool} {R : World → World → Prop} {D : World → World → Array Event → Prop} {Stop : Goroutine → World → Prop} {g : Goroutine} {w : World} (hs : g.status = .running)
    (h : ∀ w₁, R w w₁ → ∃ g' w' es, stepG P main g w₁ = .go g' w' es ∧ D w₁ w' es ∧ GoesT P main R D Stop g' w') : GoesT P main R D Stop g w := by
  refine .own hs (fun w₁ r => ?_) fun w₁ g' w' es r e => ?_
  · obtain ⟨g', w', es, h1, h2, _⟩ := h w₁ r
    exact ⟨g', w', es, h1, h2⟩
  · obtain ⟨g'', w'', es', h1, _, h3⟩ := h w₁ r
    rw [h1] at e
    cases e
    exact h3
theorem GoesT.rely {P : Program} {main : Bool} {R : World → World → Prop} {D : World → World → Array Event → Prop} {Stop : Goroutine → World → Prop} (htrans : ∀ a b c, R a b → R b c → R a c)
    {g : Goroutine} {w w₁ : World} (h : GoesT P main R D Stop g w) (r : R w w₁) : GoesT P main R D Stop g w₁ := by
  cases h with
  | stop hs => exact .stop fun w₂ r₂ => hs w₂ (htrans _ _ _ r r₂)
  | own hs h1 h2 => exact .own hs (fun w₂ r₂ => h1 w₂ (htrans _ _ _ r r₂)) fun w₂ g' w' es r₂ e => h2 w₂ g' w' es (htrans _ _ _ r r₂) e
theorem GoesT.bind {P : Program} {main : Bool} {R : World → World → Prop} {D : World → World → Array Event → Prop} {Stop Stop' : Goroutine → World → Prop} (hrefl : ∀ w, R w w)
    {g : Goroutine} {w : World} (h : GoesT P main R D Stop g w) (h' : ∀ g w, Stop g w → GoesT P main R D Stop' g w) : GoesT P main R D Stop' g w := by
  induction h with
  | stop hs => exact h' _ _ (hs _ (hrefl _))
  | own hs h1 _ ih => exact .own hs h1 ih
theorem GoesT.of_goes {P : Program} {main : Bool} {R : World → World → Prop} {D : World → World → Array Event → Prop} {Stop : Goroutine → World → Prop} : ∀ {n : Nat} {g : Goroutine} {w : World}, Goes P main R D Stop n g w → GoesT P main R D Stop g w
  | 0, _, _, h => .stop h
  | n + 1, g, w, h => by
    rcases h with h | ⟨hs, h⟩
    · exact .stop h
    · refine .step hs fun w₁ r => ?_
      obtain ⟨g', w', es, e, hd, hg⟩ := goes_elim (h w₁ r)
      exact ⟨g', w', es, e, hd, GoesT.of_goes hg⟩
/-- Others that do less; a step that promises less; another word for the stop. -/
theorem GoesT.mono {P : Program} {main : Bool} {R R' : World → World → Prop} {D D' : World → World → Array Event → Prop} {Stop Stop' : Goroutine → World → Prop} (hR : ∀ a b, R' a b → R a b) (hD : ∀ a b es, D a b es → D' a b es) (hS : ∀ g w, Stop g w → Stop' g w)
    {g : Goroutine} {w : World} (h : GoesT P main R D Stop g w) : GoesT P main R' D' Stop' g w := by
  induction h with
  | stop hs => exact .stop fun w₁ r => hS _ _ (hs _ (hR _ _ r))
  | own hs h1 _ ih =>
    refine .own hs (fun w₁ r => ?_) fun w₁ g' w' es r e => ih w₁ g' w' es (hR _ _ r) e
    obtain ⟨g', w', es, e, hd⟩ := h1 w₁ (hR _ _ r)
    exact ⟨g', w', es, e, hD _ _ _ hd⟩
/-- What the others may do: blocks of F alone, which stay of the makes that they may have; and the count of draws. -/
structure RF (F : Nat → Prop) (w w₁ : World) : Prop where
  out : ∀ b, ¬ F b → w₁.heap[b]? = w.heap[b]?
  size : w.heap.size ≤ w₁.heap.size
  fresh : ∀ b, w.heap.size ≤ b → b < w₁.heap.size → F b
  real : (∀ b o, F b → w.heap[b]? = some o → objTame o = true) → ∀ b o, F b → w₁.heap[b]? = some o → objTame o = true
  tape : w₁.tape = w.tape
  os : w₁.os = w.os
  output : w₁.output = w.output
theorem RF.refl (F : Nat → Prop) (w : World) : RF F w w := ⟨fun _ _ => rfl, Nat.le_refl _, fun _ h1 h2 => absurd h2 (by omega), id, rfl, rfl, rfl⟩
theorem RF.trans {F : Nat → Prop} (a b c : World) (h : RF F a b) (k : RF F b c) : RF F a c :=
  ⟨fun x hx => (k.out x hx).trans (h.out x hx), Nat.le_trans h.size k.size, fun x h1 h2 => (Nat.lt_or_ge x b.heap.size).elim (h.fresh x h1) fun h3 => k.fresh x h3 h2, fun hr => k.real (h.real hr), k.tape.trans h.tape, k.os.trans h.os, k.output.trans h.output⟩
/-- Where F lies below the heap's end nothing new has come. -/
theorem RF.sizeEq {F : Nat → Prop} {w w₁ : World} (r : RF F w w₁) (h : ∀ b, F b → b < w.heap.size) : w₁.heap.size = w.heap.size := by
  have h1 := r.size
  rcases Nat.lt_or_ge w.heap.size w₁.heap.size with h2 | h2
  · have := h _ (r.fresh _ (Nat.le_refl _) h2)
    omega
  · omega
def DF (F : Nat → Prop) (w w' : World) (es : Array Event) : Prop := Gt F w w' ∧ ∀ e ∈ es, EvOk F w'.heap.size e
theorem Poi.rf {F : Nat → Prop} {pw w w₁ : World} (h : Poi P F pw w) (r : RF F w w₁) : Poi P F (pw.re w₁.tape w₁.drawn) w₁ :=
  ⟨h.size.trans (r.sizeEq h.low).symm, rfl, rfl, h.os.trans r.os.symm, h.output.trans r.output.symm, fun b hb => (h.out b hb).trans (r.out b hb).symm, fun b hb => by rw [r.sizeEq h.low]; exact h.low b hb, h.dead, r.real h.real, fun b o hb ho => h.live b o hb (by rw [← r.out b hb]; exact ho)⟩
/-- Where the walk in company stops: the base behind the piece. -/
def StopT (P : Program) (F : Nat → Prop) (Fin : Bool → Act → World → Prop) (b : Frame) (ds : List Deferred) (k : List Item) (cs : List Frame) (g : Goroutine) (w : World) : Prop :=
  ∃ r a' pw', Fin r a' pw' ∧ Poi P F (pw'.re w.tape w.drawn) w ∧ ((r = false ∧ g = G (b.atR (a'.wd ds) k) cs) ∨ r = true ∧ ∃ p, g = G (b.atR (a'.wd ds) (.code .ret :: p)) cs)
theorem goesT_of_tr {F : Nat → Prop} (hG : ∀ b, F b → P.globals.size ≤ b) {fn : FuncId} {Fin : Bool → Act → World → Prop} {b : Frame} {ds : List Deferred} {k : List Item} {cs : List Frame} {main : Bool} (hb : b.fn = fn) (hk : b.kind ≠ .early) {c : Cfg} {pw : World}
    (h : Tr P pt S cv fn Fin c pw) : ∀ w, Poi P F (pw.re w.tape w.drawn) w → GoesT P main (RF F) (DF F) (StopT P F Fin b ds k cs) (c.g b ds k cs) w := by
  induction h with
  | fin hd hf =>
    rename_i c pw
    intro w hp
    obtain ⟨fs, a, pre⟩ := c
    obtain ⟨h1, h2⟩ := hd
    simp only at h1 h2
    subst h1
    rcases h2 with h2 | h2
    · subst h2
      exact .stop fun w₁ r => ⟨_, a.wd [], pw, hf, hp.rf r, .inl ⟨rfl, rfl⟩⟩
    · obtain ⟨p, rfl⟩ : ∃ p, pre = .code .ret :: p := by
        unfold retAt at h2
        split at h2
        · exact ⟨_, rfl⟩
        · cases h2
      exact .stop fun w₁ r => ⟨_, a.wd [], pw, hf, hp.rf r, .inr ⟨rfl, _, rfl⟩⟩
  | step hs hall hnext ih =>
    rename_i c pw α s nxt
    intro w hp
    refine .step (by rw [show c.g b ds k cs = G _ _ from Gs_G _ _ _]; rfl) fun w₁ r => ?_
    have hp1 : Poi P F (pw.re w₁.tape w₁.drawn) w₁ := hp.rf r
    obtain ⟨x, pw', hrun⟩ := hall w₁.tape w₁.drawn
    obtain ⟨⟨c1, hn, _⟩, w', new, hT, hev, hp', hgt⟩ := (hs.ins F hG).ok _ _ #[] x pw' hp1 hrun
    obtain ⟨es', hgo, hes⟩ := hs.go b ds k cs main w₁ x w' _ c1 hb hk hT hn
    refine ⟨_, w', es', hgo, ⟨hgt, fun e he => hev e (by simpa using hes e he)⟩, ?_⟩
    refine ih _ _ _ _ _ hrun hn w' ?_
    have e1 : pw'.re w'.tape w'.drawn = pw' := by rw [← hp'.tape, ← hp'.drawn]; rfl
    rw [e1]
    exact hp'
end
end Go.Proofs.Ytmllcfkgkkbkpaa
/-
  A PIECE OF CALM CODE, WALKED ALONE, IN COMPANY.
-/
namespace Go.Proofs.Ytmllcfkgkkbkpaa
open Go Go.Conc
section
variable {P : Program} {pt : TypeId → Bool} {S : FuncId → Bool} {cv : TypeId → TypeId → Bool}

/-- The lone walk's word, on some tape. -/
def OnTape (R : (Nat → Question → Nat) → Nat → Act → World → Prop) (a : Act) (w : World) : Prop := ∃ t d t' d', R t d a (w.re t' d')
/-- .. and which way it went: normally, or by a return. -/
def OnTapeE (R : (Nat → Question → Nat) → Nat → Bool → Act → World → Prop) (r : Bool) (a : Act) (w : World) : Prop := ∃ t d t' d', R t d r a (w.re t' d')
def exitOf : Bool → Exit
  | false => .normal
  | true => .ret
/-- ████ FROM THE LONE WALK TO COMPANY: a piece of calm code that alone is left normally, or returns. ████ -/
theorem pieceE_T (C : CalmOn pt S cv P) {F : Nat → Prop} (hG : ∀ b, F b → P.globals.size ≤ b) {c : Code} (hc : calmCode pt S cv c = true) (hr : noRet c = true) {R : (Nat → Question → Nat) → Nat → Bool → Act → World → Prop} {a : Act} {pw w : World} (hp : Poi P F pw w)
    (h : ∀ t d, c.wp P (fun e a' w' => ∃ r, e = exitOf r ∧ R t d r a' w') (a.wd []) (pw.re t d)) {b : Frame} {ds : List Deferred} {k : List Item} {cs : List Frame} {main : Bool} (hk : b.kind ≠ .early) :
    GoesT P main (RF F) (DF F) (StopT P F (OnTapeE R) b ds k cs) (G (b.atR (a.wd ds) (.code c :: k)) cs) w := by
  let bl : Frame := { b with roundOf := none, kind := .normal }
  let c0 : Cfg := ⟨[], a, [.code c]⟩
  have hc0 : c0.Ok pt S cv := ⟨trivial, fun x hx => by
    simp only [c0, List.mem_singleton] at hx
    subst hx
    exact ⟨hc, hr⟩, fun h => absurd rfl h⟩
  have htree : Tr P pt S cv bl.fn (OnTapeE R) c0 pw := by
    refine tree_of C hG (bl := bl) (by simp [bl]) rfl rfl (fun r a w t d ⟨t1, d1, t2, d2, hx⟩ => ⟨t1, d1, t2, d2, hx⟩) hc0 ⟨w, hp⟩ fun t d => ?_
    obtain ⟨e, a', w', ⟨r, rfl, hR⟩, harr⟩ := h t d bl refusal [trap P]
    cases r with
    | false =>
      obtain ⟨n, hn⟩ : ∃ n, runN P n (lone (bl.at (a.wd []) (.code c :: refusal)) [trap P] (pw.re t d)) = .next (lone (bl.at a' refusal) [trap P] w') := harr
      exact ⟨n, false, a', w', _, hn, rfl, ⟨t, d, w'.tape, w'.drawn, hR⟩⟩
    | true =>
      obtain ⟨todo, n, hn⟩ : ∃ todo n, runN P n (lone (bl.at (a.wd []) (.code c :: refusal)) [trap P] (pw.re t d)) = .next (lone { bl.at a' todo with mode := .returning } [trap P] w') := harr
      exact ⟨n, true, a', w', _, hn, ⟨todo, rfl⟩, ⟨t, d, w'.tape, w'.drawn, hR⟩⟩
  have := goesT_of_tr (b := b) (ds := ds) (k := k) (cs := cs) (main := main) hG (fn := bl.fn) rfl hk htree w (by
    have : pw.re w.tape w.drawn = pw := by rw [← hp.tape, ← hp.drawn]; rfl
    rw [this]
    exact hp)
  exact this
/-- .. that is left normally. -/
theorem piece_T (C : CalmOn pt S cv P) {F : Nat → Prop} (hG : ∀ b, F b → P.globals.size ≤ b) {c : Code} (hc : calmCode pt S cv c = true) (hr : noRet c = true) {R : (Nat → Question → Nat) → Nat → Act → World → Prop} {a : Act} {pw w : World} (hp : Poi P F pw w)
    (h : ∀ t d, c.wp P (fun e a' w' => e = .normal ∧ R t d a' w') (a.wd []) (pw.re t d)) {b : Frame} {ds : List Deferred} {k : List Item} {cs : List Frame} {main : Bool} (hk : b.kind ≠ .early) :
    GoesT P main (RF F) (DF F) (fun g w => ∃ a' pw', OnTape R a' pw' ∧ Poi P F (pw'.re w.tape w.drawn) w ∧ g = G (b.atR (a'.wd ds) k) cs) (G (b.atR (a.wd ds) (.code c :: k)) cs) w := by
  refine (pieceE_T (R := fun t d r a w => r = false ∧ R t d a w) (b := b) (ds := ds) (k := k) (cs := cs) (main := main) C hG hc hr hp (fun t d => ?_) hk).mono (fun _ _ h => h) (fun _ _ _ h => h) fun g w h => ?_
  · exact Go.wp_mono (h t d) fun e a' w' ⟨h1, h2⟩ => ⟨false, h1, rfl, h2⟩
  · obtain ⟨r, a', pw', ⟨t, d, t', d', rfl, hR⟩, h2, h3⟩ := h
    rcases h3 with ⟨_, h3⟩ | ⟨h3, _⟩
    · exact ⟨a', pw', ⟨t, d, t', d', hR⟩, h2, h3⟩
    · cases h3

/-! ### a call -/
def OnTapeV (R : (Nat → Question → Nat) → Nat → Value → World → Prop) (v : Value) (w : World) : Prop := ∃ t d t' d', R t d v (w.re t' d')
def StopC (P : Program) (F : Nat → Prop) (Fin : Value → World → Prop) (base : Frame) (cs : List Frame) (g : Goroutine) (w : World) : Prop :=
  ∃ v pw', Fin v pw' ∧ Poi P F (pw'.re w.tape w.drawn) w ∧ g = G (base.finish v) cs
def ops1 : Array Oper := #[{ dst := some 0, op := .move (.const undef), type := 0, pos := "", after := #[], guard := none }]
def act1 : Act := ⟨#[undef], []⟩
def cfg1 (fs : List Frame) : Cfg := ⟨fs, act1, [.inRegion ops1 [0]]⟩
def FinV (R : (Nat → Question → Nat) → Nat → Value → World → Prop) (r : Bool) (a : Act) (w : World) : Prop := r = false ∧ ∃ v, a = ⟨#[v], []⟩ ∧ OnTapeV R v w
theorem done_ends {bl : Frame} {c : Cfg} (hd : c.fs = [] ∧ c.pre = []) (w : World) : ∃ o w', step P (lst P bl c w) = .ended o w' := by
  obtain ⟨fs, a, pre⟩ := c
  obtain ⟨h1, h2⟩ := hd
  simp only at h1 h2
  subst h1 h2
  exact step_of_isEnded (fr := bl.atR (a.wd []) refusal) (cs := [trap P]) (by simp [G, stepG, stepG.exec, Frame.atR, refusal, isEnded])
theorem tr_popped {F : Nat → Prop} (hG : ∀ b, F b → P.globals.size ≤ b) {bl : Frame} (hk : bl.kind ≠ .early) (hrd : bl.roundOf = none) {Fin : Bool → Act → World → Prop} {a1 : Act} {c : Cfg} {pw : World}
    (hc : c = ⟨[], a1, [.inRegion ops1 []]⟩) (hp : ∃ w, Poi P F pw w) (h : Tr P pt S cv bl.fn Fin c pw) : Fin false (a1.wd []) pw := by
  subst hc
  cases h with
  | fin hd hf => exact absurd hd.2 (by simp [retAt])
  | step hs hall hnext =>
    rename_i α s nxt
    obtain ⟨x, pw', hrun⟩ := hall pw.tape pw.drawn
    have e0 : step P (lst P bl ⟨[], a1, [.inRegion ops1 []]⟩ (pw.re pw.tape pw.drawn)) = .next (lone (bl.at (a1.wd []) refusal) [trap P] pw) := by
      have : bl.atR (a1.wd []) ([.inRegion ops1 []] ++ refusal) = bl.at (a1.wd []) (.inRegion ops1 [] :: refusal) := Frame.atR_of_none hrd _ _
      show step P (lone (bl.atR (a1.wd []) ([.inRegion ops1 []] ++ refusal)) [trap P] pw) = _
      rw [this]
      exact step_region_end
    obtain ⟨w, hp⟩ := hp
    obtain ⟨⟨c2, hn, _⟩, w', new, _, _, hp', _⟩ := (hs.ins F hG).ok _ _ #[] x pw' (hp.re pw.tape pw.drawn) hrun
    · skip
      have e1 := lst_step (bl := bl) hk hs hrun hn
      rw [e0] at e1
      simp only [Stepped.next.injEq] at e1
      obtain ⟨hd2, ha2, rfl⟩ := final_cfg hrd e1.symm
      have h2 := hnext _ _ _ _ _ hrun hn
      cases h2 with
      | fin _ hf => rw [ha2]; rw [hd2.2] at hf; exact hf
      | step hs2 hall2 _ =>
        exfalso
        obtain ⟨y, pw2, hrun2⟩ := hall2 w'.tape w'.drawn
        obtain ⟨⟨c3, hn3, _⟩, _⟩ := (hs2.ins F hG).ok _ _ #[] y pw2 (hp'.re w'.tape w'.drawn) hrun2
        have e2 := lst_step (bl := bl) hk hs2 hrun2 hn3
        obtain ⟨o, w3, e3⟩ := done_ends (P := P) (bl := bl) hd2 (pw'.re w'.tape w'.drawn)
        rw [e3] at e2
        cases e2
theorem goesC_of_tr {F : Nat → Prop} (hG : ∀ b, F b → P.globals.size ≤ b) {bl : Frame} (hk : bl.kind ≠ .early) (hrd : bl.roundOf = none) {R : (Nat → Question → Nat) → Nat → Value → World → Prop} {base : Frame} {cs : List Frame} {main : Bool} {c : Cfg} {pw : World}
    (h : Tr P pt S cv bl.fn (FinV R) c pw) : c.fs ≠ [] → c.a = act1 → c.pre = [.inRegion ops1 [0]] → ∀ w, Poi P F (pw.re w.tape w.drawn) w → GoesT P main (RF F) (DF F) (StopC P F (OnTapeV R) base cs) (Gs c.fs base cs) w := by
  induction h with
  | fin hd hf => exact fun hne => absurd hd.1 hne
  | step hs hall hnext ih =>
    rename_i c pw α s nxt
    intro hne ha hpre w hp
    refine .step (by rw [Gs_G c.fs base cs]; rfl) fun w₁ r => ?_
    have hp1 : Poi P F (pw.re w₁.tape w₁.drawn) w₁ := hp.rf r
    obtain ⟨x, pw', hrun⟩ := hall w₁.tape w₁.drawn
    obtain ⟨⟨c1, hn, _⟩, w', new, hT, hev, hp', hgt⟩ := (hs.ins F hG).ok _ _ #[] x pw' hp1 hrun
    have e1 : pw'.re w'.tape w'.drawn = pw' := by rw [← hp'.tape, ← hp'.drawn]; rfl
    rcases hs.over hne x c1 hn with ⟨h1, h2, h3, h4⟩ | ⟨v, ops, i, rest, p, h1, h2, h4⟩
    · obtain ⟨es', hgo, hes⟩ := h4 base cs main w₁ w' _ hT
      refine ⟨_, w', es', hgo, ⟨hgt, fun e he => hev e (by simpa using hes e he)⟩, ?_⟩
      exact ih _ _ _ _ _ hrun hn h1 (h2.trans ha) (h3.trans hpre) w' (by rw [e1]; exact hp')
    · obtain ⟨es', hgo, hes⟩ := h4 base cs main w₁ w' _ hT
      refine ⟨_, w', es', hgo, ⟨hgt, fun e he => hev e (by simpa using hes e he)⟩, ?_⟩
      have hpop : c1 = ⟨[], act1.put (some 0) v, [.inRegion ops1 []]⟩ := by
        rw [hpre] at h1
        simp only [List.cons.injEq, Item.inRegion.injEq] at h1
        obtain ⟨⟨rfl, rfl, rfl⟩, rfl⟩ := h1
        rw [h2, ha]
        rfl
      have hfin := tr_popped hG hk hrd hpop ⟨w', hp'⟩ (hnext _ _ _ _ _ hrun hn)
      obtain ⟨_, v', he, hv⟩ := hfin
      have hvv : v = v' := by
        have := congrArg (fun a : Act => a.tmps.getD 0 undef) he
        simpa [act1, Act.put, Act.wd] using this
      subst hvv
      refine .stop fun w₂ r₂ => ⟨v, pw', hv, hp'.rf r₂, rfl⟩
/-- ████ A CALL BY A LONE CONTRACT, IN COMPANY: from the callee's entry to the caller's frame, the result laid down. ████ -/
theorem calls_T (C : CalmOn pt S cv P) {F : Nat → Prop} (hG : ∀ b, F b → P.globals.size ≤ b) {f : FuncId} (hS : S f = true) {args : Array Value} {R : (Nat → Question → Nat) → Nat → Value → World → Prop} {pw w : World} (hp : Poi P F pw w)
    (h : ∀ t d, Calls P f args (pw.re t d) (fun e w' => ∃ v, e = .returned v ∧ R t d v w')) {base : Frame} {cs : List Frame} {main : Bool} :
    GoesT P main (RF F) (DF F) (StopC P F (OnTapeV R) base cs) (G (Frame.enter P f args .normal) (base :: cs)) w := by
  let bl : Frame := { fn := f, tmps := #[], todo := [], defers := [], mode := .run, kind := .normal }
  obtain ⟨fd, c, hfd, hb, hcc, _⟩ := C.body f hS
  have hc0 : (cfg1 [Frame.enter P f args .normal]).Ok pt S cv := by
    refine ⟨⟨⟨hS, rfl, rfl, rfl, .inl rfl, fun x hx => ?_⟩, by simp⟩, fun x hx => ?_, fun _ => ⟨_, _, _, _, rfl⟩⟩
    · simp only [Frame.enter, hfd, Option.bind_some, hb, Option.getD_some, List.mem_singleton] at hx
      subst hx
      exact hcc
    · simp only [cfg1, List.mem_singleton] at hx
      subst hx
      exact ⟨by simp [calmItem, ops1, calmOp], rfl⟩
  have htree : Tr P pt S cv bl.fn (FinV R) (cfg1 [Frame.enter P f args .normal]) pw := by
    refine tree_of C hG (bl := bl) (by simp [bl]) rfl rfl (fun r a w t d ⟨h0, v, e, t1, d1, t2, d2, hx⟩ => ⟨h0, v, e, t1, d1, t2, d2, hx⟩) hc0 ⟨w, hp⟩ fun t d => ?_
    obtain ⟨e, w', fr, ⟨v, rfl, hR⟩, hcomes, hfn, hl⟩ := h t d (bl.at act1 (.inRegion ops1 [0] :: refusal) :: [trap P])
    obtain ⟨n, hn⟩ : Steps P (lone (Frame.enter P f args .normal) (bl.at act1 (.inRegion ops1 [0] :: refusal) :: [trap P]) (pw.re t d)) (lone fr (bl.at act1 (.inRegion ops1 [0] :: refusal) :: [trap P]) w') := hcomes
    have e1 := step_leave_returned (c := bl.at act1 (.inRegion ops1 [0] :: refusal)) (cs := [trap P]) hl
    rw [Frame.finish_at] at e1
    have e2 : step P (lone (bl.at (act1.put (some 0) v) (.inRegion ops1 [] :: refusal)) [trap P] w') = .next (lone (bl.at (act1.put (some 0) v) refusal) [trap P] w') := step_region_end
    have hsteps : Steps P (lst P bl (cfg1 [Frame.enter P f args .normal]) (pw.re t d)) (lone (bl.at (act1.put (some 0) v) refusal) [trap P] w') :=
      Steps.trans ⟨n, hn⟩ (Steps.head e1 (Steps.head e2 (Steps.refl _ _)))
    obtain ⟨m, hm⟩ := hsteps
    exact ⟨m, false, _, w', _, hm, rfl, rfl, v, rfl, t, d, w'.tape, w'.drawn, hR⟩
  exact goesC_of_tr hG (bl := bl) (by simp [bl]) rfl htree (by simp [cfg1]) rfl rfl w (by
    have : pw.re w.tape w.drawn = pw := by rw [← hp.tape, ← hp.drawn]; rfl
    rw [this]
    exact hp)
end
end Go.Proofs.Ytmllcfkgkkbkpaa
/-
  A JUDGEMENT FOR FRAMES THAT ARE WALKED BY HAND, IN COMPANY: no counts; rounds too (atR).
-/
namespace Go.Proofs.Ytmllcfkgkkbkpaa
open Go Go.Conc
section
variable {P : Program} {main : Bool} {R : World → World → Prop} {D : World → World → Array Event → Prop} {Stop : Goroutine → World → Prop}
def AfterT (P : Program) (main : Bool) (R : World → World → Prop) (D : World → World → Array Event → Prop) (Stop : Goroutine → World → Prop) (b : Frame) (k : List Item) (cs : List Frame) : Exit → Act → World → Prop
  | .normal, a, w => GoesT P main R D Stop (G (b.atR a k) cs) w
  | .exit id, a, w => match exitTo id k with
    | some k' => GoesT P main R D Stop (G (b.atR a k') cs) w
    | none => ∀ k', exitTo id k' = none → GoesT P main R D Stop (G (b.atR a (.code (.exit id) :: k')) cs) w
  | .ret, a, w => ∀ k', GoesT P main R D Stop (G (b.atR a (.code .ret :: k')) cs) w
  | _, _, _ => False
theorem AfterT.push {b : Frame} {x : Item} {k : List Item} {cs : List Frame} {e : Exit} {a : Act} {w : World} (hx : ∀ id, x ≠ .inBlock id) (he : e ≠ .normal) (h : AfterT P main R D Stop b k cs e a w) : AfterT P main R D Stop b (x :: k) cs e a w := by
  cases e with
  | normal => exact absurd rfl he
  | exit id =>
    dsimp only [AfterT] at *
    have : exitTo id (x :: k) = exitTo id k := by
      cases x <;> first | rfl | exact absurd rfl (hx _)
    rw [this]
    exact h
  | ret => exact h
  | goto l => exact h
  | panic ch => exact h
  | outgrown => exact h
def _root_.Go.Code.wpT (P : Program) (main : Bool) (R : World → World → Prop) (D : World → World → Array Event → Prop) (Stop : Goroutine → World → Prop) (fn : FuncId) (c : Code) (Q : Exit → Act → World → Prop) (a : Act) (w : World) : Prop :=
  ∀ (b : Frame) (k : List Item) (cs : List Frame), b.fn = fn → b.kind ≠ .early → (∀ e a' w', Q e a' w' → AfterT P main R D Stop b k cs e a' w') → GoesT P main R D Stop (G (b.atR a (.code c :: k)) cs) w
/-- The terms of rely and guarantee. -/
structure TermsT (R : World → World → Prop) (D : World → World → Array Event → Prop) : Prop where
  trans : ∀ a b c, R a b → R b c → R a c
  idle : ∀ w, D w w #[]
variable {fn : FuncId} {Q : Exit → Act → World → Prop} {a : Act} {w : World}
/-- A move of control, whatever the world. -/
theorem goesT_ctl (T : TermsT R D) {g g' : Goroutine} {w : World} (hg : g.status = .running) (h : ∀ w, stepG P main g w = .go g' w) (hn : GoesT P main R D Stop g' w) : GoesT P main R D Stop g w :=
  .step hg fun w₁ r => ⟨g', w₁, #[], h w₁, T.idle _, hn.rely T.trans r⟩
theorem wpT_skip (T : TermsT R D) (h : Q .normal a w) : Code.skip.wpT P main R D Stop fn Q a w := fun b k cs _ _ hc =>
  goesT_ctl T rfl (fun w => by simp [G, stepG, stepG.exec, Frame.atR]) (hc _ _ _ h)
theorem wpT_ret (h : Q .ret a w) : Code.ret.wpT P main R D Stop fn Q a w := fun _ k _ _ _ hc => hc _ _ _ h k
theorem wpT_exit (T : TermsT R D) {id : Nat} (h : Q (.exit id) a w) : (Code.exit id).wpT P main R D Stop fn Q a w := by
  intro b k cs _ _ hc
  have := hc _ _ _ h
  dsimp only [AfterT] at this
  cases he : exitTo id k with
  | some k' =>
    rw [he] at this
    exact goesT_ctl T rfl (fun w => by simp [G, stepG, stepG.exec, Frame.atR, he]) this
  | none =>
    rw [he] at this
    exact this k he
theorem wpT_seq (T : TermsT R D) {x y : Code} (h : x.wpT P main R D Stop fn (Exit.then (fun a' w' => y.wpT P main R D Stop fn Q a' w') Q) a w) : (Code.seq x y).wpT P main R D Stop fn Q a w := by
  intro b k cs hb hk hc
  refine goesT_ctl T rfl (fun w => by simp [G, stepG, stepG.exec, Frame.atR]) (h b (.code y :: k) cs hb hk fun e a' w' q => ?_)
  cases e with
  | normal => exact q b k cs hb hk hc
  | exit id => exact (hc _ _ _ q).push (by simp) (by simp)
  | ret => exact (hc _ _ _ q).push (x := .code y) (by simp) (by simp)
  | goto l => exact hc _ _ _ q
  | panic ch => exact hc _ _ _ q
  | outgrown => exact hc _ _ _ q
theorem wpT_cond (T : TermsT R D) {c : Operand} {x y : Code} {t : Bool} (hc : a.eval c = .bool t) (h : (if t then x else y).wpT P main R D Stop fn Q a w) : (Code.cond c x y).wpT P main R D Stop fn Q a w := by
  intro b k cs hb hk hq
  refine goesT_ctl T rfl (fun w => ?_) (h b k cs hb hk hq)
  have e := congrFun (Frame.eval_atR b a (.code (.cond c x y) :: k)) c
  simp only [Frame.atR] at e
  simp [G, stepG, stepG.exec, Frame.atR, e, hc]
theorem wpT_block (T : TermsT R D) {id : Nat} {c : Code} (h : c.wpT P main R D Stop fn (Exit.inBlock id Q) a w) : (Code.block id c).wpT P main R D Stop fn Q a w := by
  intro b k cs hb hk hc
  refine goesT_ctl T rfl (fun w => by simp [G, stepG, stepG.exec, Frame.atR]) (h b (.inBlock id :: k) cs hb hk fun e a' w' q => ?_)
  cases e with
  | normal => exact goesT_ctl T rfl (fun w => by simp [G, stepG, stepG.exec, Frame.atR]) (hc _ _ _ q)
  | exit id' =>
    by_cases hid : id' = id
    · simp only [Exit.inBlock, hid, if_true] at q
      dsimp only [AfterT]
      simp only [exitTo, hid, beq_self_eq_true, if_true]
      exact hc _ _ _ q
    · simp only [Exit.inBlock, hid, if_false] at q
      have := hc _ _ _ q
      dsimp only [AfterT] at *
      have e : (id == id') = false := by simp; exact fun h => hid h.symm
      simp only [exitTo, e]
      exact this
  | ret => exact hc _ _ _ q
  | goto l => exact hc _ _ _ q
  | panic ch => exact hc _ _ _ q
  | outgrown => exact hc _ _ _ q
theorem wpT_loop (T : TermsT R D) {c : Code} (I : Act → World → Prop) (μ : Act → World → Nat) (h₀ : I a w) (round : ∀ a w, I a w → c.wpT P main R D Stop fn (Exit.then (fun a' w' => I a' w' ∧ μ a' w' < μ a w) Q) a w) : (Code.loop c).wpT P main R D Stop fn Q a w := by
  intro b k cs hb hk hc
  have key : ∀ N a w, μ a w ≤ N → I a w → GoesT P main R D Stop (G (b.atR a (.code c :: .inLoop c :: k)) cs) w := by
    intro N
    induction N with
    | zero =>
      intro a w hμ hI
      refine round a w hI b (.inLoop c :: k) cs hb hk fun e a' w' q => ?_
      cases e with
      | normal => exact absurd q.2 (by omega)
      | exit id => exact (hc _ _ _ q).push (by simp) (by simp)
      | ret => exact (hc _ _ _ q).push (x := .inLoop c) (by simp) (by simp)
      | goto l => exact hc _ _ _ q
      | panic ch => exact hc _ _ _ q
      | outgrown => exact hc _ _ _ q
    | succ N ih =>
      intro a w hμ hI
      refine round a w hI b (.inLoop c :: k) cs hb hk fun e a' w' q => ?_
      cases e with
      | normal => exact goesT_ctl T rfl (fun w => by simp [G, stepG, stepG.exec, Frame.atR]) (ih a' w' (by have := q.2; omega) q.1)
      | exit id => exact (hc _ _ _ q).push (by simp) (by simp)
      | ret => exact (hc _ _ _ q).push (x := .inLoop c) (by simp) (by simp)
      | goto l => exact hc _ _ _ q
      | panic ch => exact hc _ _ _ q
      | outgrown => exact hc _ _ _ q
  exact goesT_ctl T rfl (fun w => by simp [G, stepG, stepG.exec, Frame.atR]) (key _ a w (Nat.le_refl _) h₀)
/-- The operations of a region that are still to come. -/
def OpsT (P : Program) (main : Bool) (R : World → World → Prop) (D : World → World → Array Event → Prop) (Stop : Goroutine → World → Prop) (fn : FuncId) (ops : Array Oper) (todo : List Nat) (Q : Exit → Act → World → Prop) (a : Act) (w : World) : Prop :=
  ∀ (b : Frame) (k : List Item) (cs : List Frame), b.fn = fn → b.kind ≠ .early → (∀ e a' w', Q e a' w' → AfterT P main R D Stop b k cs e a' w') → GoesT P main R D Stop (G (b.atR a (.inRegion ops todo :: k)) cs) w
theorem wpT_region (T : TermsT R D) {id : Nat} {ops : Array Oper} (h : OpsT P main R D Stop fn ops (List.range ops.size) Q a w) : (Code.region id ops false).wpT P main R D Stop fn Q a w := fun b k cs hb hk hc =>
  goesT_ctl T rfl (fun w => by simp [G, stepG, stepG.exec, Frame.atR]) (h b k cs hb hk hc)
theorem opsT_nil (T : TermsT R D) {ops : Array Oper} (h : Q .normal a w) : OpsT P main R D Stop fn ops [] Q a w := fun b k cs _ _ hc =>
  goesT_ctl T rfl (fun w => by simp [G, stepG, stepG.exec, Frame.atR]) (hc _ _ _ h)
theorem stepG_operR {b : Frame} {a : Act} {k : List Item} {cs : List Frame} {w : World} {ops : Array Oper} {i : Nat} {rest : List Nat} {o : Oper} (ho : ops[i]? = some o) (hw : Region.wanted o (yielded ops a.tmps) = true) (hnd : ∀ c, o.op ≠ .defer c) :
    stepG P main (G (b.atR a (.inRegion ops (i :: rest) :: k)) cs) w = stepG.apply P true (b.atR a (.inRegion ops (i :: rest) :: k)) cs none (execOp a.eval o) w := by
  have e := Frame.eval_atR b a (.inRegion ops (i :: rest) :: k)
  simp only [Frame.atR] at e
  simp only [G, stepG, stepG.exec, stepG.oper, Frame.oper?, Frame.atR, ho, hw, Option.map_some, Option.getD_some, if_true]
  split
  · rename_i c _ hc
    exact absurd hc (hnd _)
  · rfl
/-- ONE OPERATION: here the company is met. -/
theorem opsT_cons {ops : Array Oper} {i : Nat} {rest : List Nat} {o : Oper} (ho : ops[i]? = some o) (hw : Region.wanted o (yielded ops a.tmps) = true) (hnd : ∀ c, o.op ≠ .defer c)
    (h : ∀ w₁, R w w₁ → uponK o a (fun a' w' => D w₁ w' (listed P fn a o w₁) ∧ OpsT P main R D Stop fn ops rest Q a' w') ((execOp a.eval o).run P w₁)) : OpsT P main R D Stop fn ops (i :: rest) Q a w := by
  intro b k cs hb hk hc
  have hk' : (b.kind == CallKind.early) = false := by simpa using hk
  have hfin : ∀ v, (b.atR a (.inRegion ops (i :: rest) :: k)).finish v = b.atR (a.put o.dst v) (.inRegion ops rest :: k) := fun v => by rw [Frame.finish_atR, ho]; rfl
  refine .step rfl fun w₁ r => ?_
  have := h w₁ r
  rw [stepG_operR ho hw hnd]
  cases hr : (execOp a.eval o).run P w₁ with
  | halt x w' => rw [hr] at this; exact this.elim
  | ok x w' =>
    rw [hr] at this
    cases x <;> first
      | exact this.elim
      | (refine ⟨_, w', listed P fn a o w₁, ?_, this.1, this.2 b k cs hb hk hc⟩
         rw [← hfin]
         subst hb
         simp [stepG.apply, hr, hk', GStep.after, G, listed, Frame.atR])
theorem opsT_call {pt : TypeId → Bool} {S : FuncId → Bool} {cv : TypeId → TypeId → Bool} (C : CalmOn pt S cv P) {F : Nat → Prop} (hG : ∀ b, F b → P.globals.size ≤ b) {ops : Array Oper} {i : Nat} {rest : List Nat} {o : Oper} {f : FuncId} {args : Array Operand} {ats : Array TypeId}
    {Rv : (Nat → Question → Nat) → Nat → Value → World → Prop} (ho : ops[i]? = some o) (hw : Region.wanted o (yielded ops a.tmps) = true) (hop : o.op = .call { callee := .value (.func f), args, argTypes := ats }) (hS : S f = true)
    (hcall : ∀ w₁, RF F w w₁ → ∃ pw, Poi P F pw w₁ ∧ ∀ t d, Calls P f (args.map a.eval) (pw.re t d) (fun e w' => ∃ v, e = .returned v ∧ Rv t d v w'))
    (hnext : ∀ v pw' w', OnTapeV Rv v pw' → Poi P F (pw'.re w'.tape w'.drawn) w' → OpsT P main (RF F) (DF F) Stop fn ops rest Q (a.put o.dst v) w') : OpsT P main (RF F) (DF F) Stop fn ops (i :: rest) Q a w := by
  intro b k cs hb hk hc
  have hk' : (b.kind == CallKind.early) = false := by simpa using hk
  have hfin : ∀ v, (b.atR a (.inRegion ops (i :: rest) :: k)).finish v = b.atR (a.put o.dst v) (.inRegion ops rest :: k) := fun v => by rw [Frame.finish_atR, ho]; rfl
  obtain ⟨fd, hfd, hname, hbody⟩ := C.funcs f hS
  have hrun : ∀ w, (execOp a.eval o).run P w = .ok (.enter f (args.map a.eval)) w ∧ (execOp a.eval o).events P w #[] = #[] := by
    intro w
    have e : execOp a.eval o = Go.callFunc f (#[] ++ args.map a.eval ++ #[]) := by
      unfold execOp
      rw [hop]
      rfl
    rw [e, Array.append_empty, Array.empty_append]
    have e2 : ∀ es, (Go.callFunc f (args.map a.eval)).runT P w es = (.ok (.enter f (args.map a.eval)) w, es) := by
      intro es
      unfold Go.callFunc
      show Sem.runT P (match P.funcs[f]? with
        | none => _
        | some fn => _ : Sem Next) w es = _
      rw [hfd]
      dsimp only
      rw [hname, hbody]
      rfl
    refine ⟨by rw [← Sem.runT_fst P _ w #[], e2], ?_⟩
    have := e2 #[]
    rw [Sem.runT_eq, Prod.mk.injEq] at this
    exact this.2
  refine .step rfl fun w₁ r => ?_
  rw [stepG_operR ho hw (by intro c e; rw [hop] at e; cases e)]
  obtain ⟨pw, hp, hcalls⟩ := hcall w₁ r
  refine ⟨G (Frame.enter P f (args.map a.eval) .normal) (b.atR a (.inRegion ops (i :: rest) :: k) :: cs), w₁, #[], ?_, ⟨.refl _ _, by simp⟩, ?_⟩
  · have hs : seen P b.fn #[] = #[] := seen_none P b.fn
    simp [stepG.apply, (hrun w₁).1, (hrun w₁).2, hk', GStep.after, G, Frame.atR, hs]
  · refine (calls_T C hG hS hp hcalls).bind (RF.refl F) ?_
    rintro g w' ⟨v, pw', hv, hp', rfl⟩
    rw [hfin]
    exact hnext v pw' w' hv hp' b k cs hb hk hc
theorem opsT_unwanted (T : TermsT R D) {ops : Array Oper} {i : Nat} {rest : List Nat} {o : Oper} (ho : ops[i]? = some o) (hw : Region.wanted o (yielded ops a.tmps) = false) (h : OpsT P main R D Stop fn ops rest Q (a.put o.dst undef) w) : OpsT P main R D Stop fn ops (i :: rest) Q a w := by
  intro b k cs hb hk hc
  have hfin : (b.atR a (.inRegion ops (i :: rest) :: k)).finish undef = b.atR (a.put o.dst undef) (.inRegion ops rest :: k) := by rw [Frame.finish_atR, ho]; rfl
  refine goesT_ctl T rfl (fun w => ?_) (h b k cs hb hk hc)
  rw [← hfin]
  simp [G, stepG, stepG.exec, Frame.atR, ho, hw]
/-- A calm piece by its lone walk. -/
theorem wpT_piece {pt : TypeId → Bool} {S : FuncId → Bool} {cv : TypeId → TypeId → Bool} (C : CalmOn pt S cv P) {F : Nat → Prop} (hG : ∀ b, F b → P.globals.size ≤ b) {c : Code} (hc : calmCode pt S cv c = true) (hr : noRet c = true) {Rv : (Nat → Question → Nat) → Nat → Act → World → Prop} {pw : World} (hp : Poi P F pw w)
    (h : ∀ t d, c.wp P (fun e a' w' => e = .normal ∧ Rv t d a' w') (a.wd []) (pw.re t d))
    (hnext : ∀ a' pw' w', OnTape Rv a' pw' → Poi P F (pw'.re w'.tape w'.drawn) w' → Q .normal (a'.wd a.defers) w') : c.wpT P main (RF F) (DF F) Stop fn Q a w := by
  intro b k cs hb hk hq
  refine (piece_T (b := b) (ds := a.defers) (k := k) (cs := cs) (main := main) C hG hc hr hp h hk).bind (RF.refl F) ?_
  rintro g w' ⟨a', pw', hv, hp', rfl⟩
  exact hq _ _ _ (hnext a' pw' w' hv hp')
end
end Go.Proofs.Ytmllcfkgkkbkpaa
