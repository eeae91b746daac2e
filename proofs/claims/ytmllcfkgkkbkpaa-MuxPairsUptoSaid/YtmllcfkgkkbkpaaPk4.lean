/-
  THE STARTER's VIEW: single operations by their lone laws; receive; go; channels made; the group's Add; what is deferred.
-/
import Derived.Test.YtmllcfkgkkbkpaaPk2
import Derived.Test.YtmllcfkgkkbkpaaHvWgAdd
import Derived.Conc.TokenWalk
import Derived.RangeFuncIn
import Derived.RangeFuncRecord
namespace Go.Proofs.Ytmllcfkgkkbkpaa
open Go Go.Conc Go.Conc.Lib
open Go.ConcN (upd upd_ne upd_same WgLive)
open Go.ConcR (KK wgBlock WgAt stA smA rd wr mk DC0)
section
variable {P : Program} {ty : TypeId} {z z' : Value} {Post : Value → World → Prop} {σ : Ph} {g g' : Goroutine} {pw : World} {pt : TypeId → Bool} {S : FuncId → Bool} {cv : TypeId → TypeId → Bool} {fn : Frame → Prop} {Q : Exit → Act → Ph → World → Prop} {a : Act}
/-- An operation by its lone law. -/
theorem uponV_of_list {ops : Array Oper} {o : Oper} {w : World} {R : Act → World → Prop} (hw : Region.wanted o (yielded ops a.tmps) = true) (hne : ∀ f args w', (execOp a.eval o).run P w ≠ .ok (.enter f args) w') (hnr : ∀ r args w', (execOp a.eval o).run P w ≠ .ok (.row r args) w') (hnd : ∀ d w', (execOp a.eval o).run P w ≠ .ok (.defer d) w')
    (h : wpList P ops (fun e a' w' => e = .normal ∧ R a' w') [o] a w) : uponV o a R ((execOp a.eval o).run P w) := by
  unfold wpList at h
  rw [if_pos hw] at h
  rcases h with h | ⟨_, hl⟩
  · unfold Oper.wp at h
    cases hr : (execOp a.eval o).run P w with
    | halt x w' =>
      rw [hr] at h
      cases x <;> first
        | exact h.elim
        | (have h' : Exit.panic _ = Exit.normal ∧ _ := h; cases h'.1)
    | ok x w' =>
      rw [hr] at h
      cases x <;> first
        | exact h.2
        | exact absurd hr (hne _ _ _)
        | exact absurd hr (hnr _ _ _)
        | exact absurd hr (hnd _ _)
        | exact h.elim
  · obtain ⟨a', w', h'⟩ := hl
    cases h'.1
/-- ████ RECEIVE. ████ -/
theorem opsM_recv {ops : Array Oper} {i : Nat} {rest : List Nat} {o : Oper} {zz : Value} {j : Nat} {v : Value} {vs : List Value} (ho : ops[i]? = some o) (hw : Region.wanted o (yielded ops a.tmps) = true) (hnd : ∀ c, o.op ≠ .defer c)
    (hrun : ∀ w, (execOp a.eval o).run P w = .ok (.comm #[rcase (σ.ch j) zz] true (.recv true)) w ∧ (execOp a.eval o).events P w #[] = #[])
    (hc : σ.closed = false) (hr : σ.rem j = v :: vs) (j0 : σ.first ≤ j) (hj : j < σ.first + σ.n)
    (h : OpsM P ty z z' Post fn ops rest Q (a.put o.dst (.tuple #[v, .bool true])) (took σ j vs) pw) : OpsM P ty z z' Post fn ops (i :: rest) Q a σ pw := by
  intro b k cs hb hk hq hbk w hp
  have hk' : (b.kind == CallKind.early) = false := by simpa using hk
  have hfin : ∀ v, (b.atR a (.inRegion ops (i :: rest) :: k)).finish v = b.atR (a.put o.dst v) (.inRegion ops rest :: k) := fun v => by rw [Frame.finish_atR, ho]; rfl
  refine ms_recv (zz := zz) rfl hbk hc hr j0 hj (fun w₁ r₁ => ?_) fun w' r' => ?_
  · rw [stepG_operR ho hw hnd]
    have hs : seen P b.fn #[] = #[] := seen_none P b.fn
    simp [stepG.apply, (hrun w₁).1, (hrun w₁).2, hk', GStep.after, G, Frame.atR, hs, core]
  · have := h b k cs hb hk hq hbk w' (hp.rf r')
    rw [← hfin] at this
    exact this
/-- ████ A go STATEMENT. ████ -/
theorem opsM_spawn {ops : Array Oper} {i : Nat} {rest : List Nat} {o : Oper} {d : Deferred} {f : Fn} {cap : Array Value} {c room : Nat} {items : List Value} (ho : ops[i]? = some o) (hw : Region.wanted o (yielded ops a.tmps) = true) (hnd : ∀ c, o.op ≠ .defer c)
    (hrun : ∀ w, (execOp a.eval o).run P w = .ok (.spawn d) w ∧ (execOp a.eval o).events P w #[] = #[]) (hd : d.target = .fn f cap)
    (ht : σ.tag = .opn true) (hc : σ.closed = false) (hd0 : σ.d0 = 0) (hcF : ¬ σ.F c) (hcw : pw.heap[c]? = some (.chan 0 #[] false 0 0 false)) (hroom : σ.room = room + 1)
    (hch : ∀ w, WgLive ty σ.Wg w → (∀ b o, σ.lay b = some o → w.heap[b]? = some o) → WNext P ty σ.Wg σ.quit c (stillK σ) z z' σ.al items noO (born P d) w)
    (h : OpsM P ty z z' Post fn ops rest Q (a.put o.dst undef) (spawned σ c items room) (killW P pw c)) : OpsM P ty z z' Post fn ops (i :: rest) Q a σ pw := by
  intro b k cs hb hk hq hbk w hp
  have hk' : (b.kind == CallKind.early) = false := by simpa using hk
  have hfin : ∀ v, (b.atR a (.inRegion ops (i :: rest) :: k)).finish v = b.atR (a.put o.dst v) (.inRegion ops rest :: k) := fun v => by rw [Frame.finish_atR, ho]; rfl
  have hcw' : w.heap[c]? = some (.chan 0 #[] false 0 0 false) := (hp.out c hcF).symm.trans hcw
  refine ms_spawn rfl ht hc hd0 hcF hcw' hroom fun w₁ r₁ hl hlay => ⟨G (b.atR (a.put o.dst undef) (.inRegion ops rest :: k)) cs, born P d, ?_, hch w₁ hl hlay, ?_⟩
  · rw [stepG_operR ho hw hnd, ← hfin]
    have hs : seen P b.fn #[] = #[] := seen_none P b.fn
    simp [stepG.apply, (hrun w₁).1, (hrun w₁).2, hk', GStep.after, G, Frame.atR, hs, born, hd]
  · have hp1 := hp.rf r₁
    have hcw1 : w₁.heap[c]? = some (.chan 0 #[] false 0 0 false) := (r₁.out c hcF).trans hcw'
    exact h b k cs hb hk hq (by simp [spawned]) w₁ (poi_kill hp1 hcF hcw1 rfl)
/-- The group is live while a phase is under way. -/
theorem ms_live {w : World} (ht : σ.tag ≠ .idle) (h : ∀ w', RF σ.F w w' → WgLive ty σ.Wg w' → MS P ty z z' Post σ g w') : MS P ty z z' Post σ g w := by
  intro w₁ r gs sl t D hI hg
  obtain ⟨_, ⟨st, sm, hW⟩, hT⟩ := id hI
  exact h w₁ r ⟨_, _, hW.wg ht⟩ w₁ (.refl _ _) gs sl t D hI hg
/-- ████ Add(1). ████ -/
theorem mv_add {L : WgLink} (_H : WgLib P L) (ht : σ.tag = .opn false) (hF : σ.F σ.Wg) {c : Frame} {cs : List Frame} {g : Goroutine} (hg : ∀ w, WgLive L.tWg σ.Wg w → ∃ m, Goes P true (RL L.tWg σ) DC0 (MKd P (RL L.tWg σ) (MA1 P L.tWg σ.Wg (RL L.tWg σ) fun g _ => g = G (c.finish (.tuple #[])) cs)) m g w)
    (hn : MV P L.tWg z z' Post { σ with tag := .opn true } (G (c.finish (.tuple #[])) cs) pw) : MV P L.tWg z z' Post σ g pw := by
  intro hbk w hp
  refine ms_live (by rw [ht]; simp) fun w1 r1 hl => ?_
  obtain ⟨m, hG⟩ := hg w1 hl
  refine ms_add ht hF hG fun g' w' r' hf => ?_
  obtain rfl := hf w' (RL.refl w')
  exact hn (by simp) w' (hp.rf (RF.trans _ _ _ r1 r'))
end
end Go.Proofs.Ytmllcfkgkkbkpaa
/-
  THE STARTER's VIEW: what makes a block; a range over a function; a frame on its way out.
-/
namespace Go.Proofs.Ytmllcfkgkkbkpaa
open Go Go.Conc Go.Conc.Lib
open Go.ConcN (upd upd_ne upd_same WgLive)
open Go.ConcR (KK wgBlock WgAt stA smA rd wr mk DC0)
section
variable {P : Program} {ty : TypeId} {z z' : Value} {Post : Value → World → Prop} {σ : Ph} {g g' : Goroutine} {pw : World} {fn : Frame → Prop} {Q : Exit → Act → Ph → World → Prop} {a : Act} {b : Frame} {k : List Item} {cs : List Frame}
/-- An own step. -/
theorem mv_own (hr : g.status = .running) (h : ∀ w, Poi P σ.F (pw.re w.tape w.drawn) w → ∃ g' w' es pw', stepG P true g w = .go g' w' es ∧ (∀ b, σ.F b → w'.heap[b]? = w.heap[b]?) ∧ w.heap.size ≤ w'.heap.size ∧ (∀ e ∈ es, EvM σ w'.heap.size e) ∧ Poi P σ.F (pw'.re w'.tape w'.drawn) w' ∧ MV P ty z z' Post σ g' pw') : MV P ty z z' Post σ g pw :=
  fun hb _ hp => ms_own hr hb fun w₁ r₁ _ _ =>
    let ⟨g', w', es, _, h1, h2, h3, h4, h5, h6⟩ := h w₁ (hp.rf r₁)
    ⟨g', w', es, h1, h2, h3, h4, h6 hb w' h5⟩
theorem low_poi {F : Nat → Prop} {pw w : World} (h : Poi P F pw w) {o : Obj} {x : Nat} (hx : F x) : (w.alloc o).heap[x]? = w.heap[x]? := by
  have := h.low x hx
  show (w.heap.push o)[x]? = _
  rw [Array.getElem?_push_lt this, Array.getElem?_eq_getElem this]
theorem poi_alloc {F : Nat → Prop} {pw w : World} (h : Poi P F (pw.re w.tape w.drawn) w) {o : Obj} (ho : objPending o = false) : Poi P F ((pw.alloc o).re (w.alloc o).tape (w.alloc o).drawn) (w.alloc o) := h.push ho
/-- An operation that makes one block. -/
theorem opsM_push {ob : Obj} {f : Nat → Value} {ops : Array Oper} {i : Nat} {rest : List Nat} {o : Oper} (hp : objPending ob = false) (ho : ops[i]? = some o) (hw : Region.wanted o (yielded ops a.tmps) = true) (hnd : ∀ c, o.op ≠ .defer c)
    (hrun : ∀ w, (execOp a.eval o).run P w = .ok (.value (f w.heap.size)) (w.alloc ob) ∧ (execOp a.eval o).events P w #[] = #[])
    (h : OpsM P ty z z' Post fn ops rest Q (a.put o.dst (f pw.heap.size)) σ (pw.alloc ob)) : OpsM P ty z z' Post fn ops (i :: rest) Q a σ pw := by
  intro b k cs hb hk hq
  have hk' : (b.kind == CallKind.early) = false := by simpa using hk
  have hfin : ∀ v, (b.atR a (.inRegion ops (i :: rest) :: k)).finish v = b.atR (a.put o.dst v) (.inRegion ops rest :: k) := fun v => by rw [Frame.finish_atR, ho]; rfl
  have hs : seen P b.fn #[] = #[] := seen_none P b.fn
  refine mv_own rfl fun w hpo => ⟨G (b.atR (a.put o.dst (f w.heap.size)) (.inRegion ops rest :: k)) cs, w.alloc ob, #[], pw.alloc ob, ?_, fun x hx => low_poi hpo hx, ?_, by simp, poi_alloc hpo hp, ?_⟩
  · rw [stepG_operR ho hw hnd, ← hfin]
    simp [stepG.apply, Sem.runT_eq, (hrun w).1, (hrun w).2, hk', GStep.after, G, Frame.atR, hs]
  · show _ ≤ (w.heap.push ob).size
    simp
  · have e : pw.heap.size = w.heap.size := hpo.size
    rw [← e]
    exact h b k cs hb hk hq
/-- .. a block of the group's, between two phases. -/
theorem opsM_group {ob : Obj} {f : Nat → Value} {ops : Array Oper} {i : Nat} {rest : List Nat} {o : Oper} (ht : σ.tag = .idle) (hp : objPending ob = false) (htm : objTame ob = true) (ho : ops[i]? = some o) (hw : Region.wanted o (yielded ops a.tmps) = true) (hnd : ∀ c, o.op ≠ .defer c)
    (hrun : ∀ w, (execOp a.eval o).run P w = .ok (.value (f w.heap.size)) (w.alloc ob) ∧ (execOp a.eval o).events P w #[] = #[])
    (h : OpsM P ty z z' Post fn ops rest Q (a.put o.dst (f pw.heap.size)) (grouped σ pw.heap.size ob) (killW P (pw.alloc ob) pw.heap.size)) : OpsM P ty z z' Post fn ops (i :: rest) Q a σ pw := by
  intro b k cs hb hk hq hbk w hpo
  have hk' : (b.kind == CallKind.early) = false := by simpa using hk
  have hfin : ∀ v, (b.atR a (.inRegion ops (i :: rest) :: k)).finish v = b.atR (a.put o.dst v) (.inRegion ops rest :: k) := fun v => by rw [Frame.finish_atR, ho]; rfl
  have hs : seen P b.fn #[] = #[] := seen_none P b.fn
  refine ms_alloc rfl ht hpo.low fun w₁ r₁ => ?_
  have hp1 := hpo.rf r₁
  have e : pw.heap.size = w₁.heap.size := hp1.size
  have hnF : ¬ σ.F pw.heap.size := fun hx => by have := hp1.low _ hx; omega
  refine ⟨G (b.atR (a.put o.dst (f w₁.heap.size)) (.inRegion ops rest :: k)) cs, w₁.alloc ob, ob, #[], ?_, rfl, rfl, rfl, rfl, by simp, ?_⟩
  · rw [stepG_operR ho hw hnd, ← hfin]
    simp [stepG.apply, Sem.runT_eq, (hrun w₁).1, (hrun w₁).2, hk', GStep.after, G, Frame.atR, hs]
  · rw [← e]
    refine h b k cs hb hk hq (by simp [grouped, freeze, ht]) (w₁.alloc ob) ?_
    have := poi_kill (poi_alloc hp1 hp) (b := pw.heap.size) (o := ob) hnF (by rw [e]; show (w₁.heap.push ob)[w₁.heap.size]? = _; simp) htm
    exact this

/-- The same, whatever the tape. -/
theorem opsM_re {ops : Array Oper} {todo : List Nat} {t : Nat → Question → Nat} {d : Nat} (h : OpsM P ty z z' Post fn ops todo Q a σ pw) : OpsM P ty z z' Post fn ops todo Q a σ (pw.re t d) := fun b k cs hb hk hq => (h b k cs hb hk hq).unre
theorem re_alloc {w : World} {o : Obj} {t : Nat → Question → Nat} {d : Nat} : (w.re t d).alloc o = (w.alloc o).re t d := rfl
theorem re_setCell {w : World} {x : Addr} {v : Value} {t : Nat → Question → Nat} {d : Nat} : (w.re t d).setCell x v = (w.setCell x v).re t d := rfl
theorem re_cell {w : World} {x : Addr} {t : Nat → Question → Nat} {d : Nat} : (w.re t d).cell? x = w.cell? x := rfl
theorem uponV_value {o : Oper} {K : Act → World → Prop} {v : Value} {w : World} : uponV o a K (.ok (.value v) w) = K (a.put o.dst v) w := rfl
theorem uponV_skip {o : Oper} {K : Act → World → Prop} {w : World} : uponV o a K (.ok .skip w) = K (a.put o.dst undef) w := rfl
/-- A calm operation, what is behind it hidden. -/
theorem opsM_k {pt : TypeId → Bool} {S : FuncId → Bool} {cv : TypeId → TypeId → Bool} (C : CalmOn pt S cv P) (hG : ∀ b, σ.F b → P.globals.size ≤ b) {ops : Array Oper} {i : Nat} {rest : List Nat} {o : Oper} (ho : ops[i]? = some o) (hw : Region.wanted o (yielded ops a.tmps) = true) (hco : calmOp pt S cv o.op = true)
    (h : ∀ t d (K : Act → World → Prop), (∀ a' pw', OpsM P ty z z' Post fn ops rest Q a' σ pw' → K a' pw') → uponV o a K ((execOp a.eval o).run P (pw.re t d))) : OpsM P ty z z' Post fn ops (i :: rest) Q a σ pw :=
  opsM_calm C hG ho hw hco fun t d => h t d _ fun _ _ h => h

/-! ### objects that are no rows -/
theorem poi_putObj {F : Nat → Prop} {pw w : World} {l : Nat} {o : Obj} (h : Poi P F (pw.re w.tape w.drawn) w) (hF : ¬ F l) (ho : objPending o = false) : Poi P F ((pw.putObj l o).re (w.putObj l o).tape (w.putObj l o).drawn) (w.putObj l o) := h.put hF ho
theorem putObj_ne {w : World} {l x : Nat} {o : Obj} (h : x ≠ l) : (w.putObj l o).heap[x]? = w.heap[x]? := World.putObj_heap_other h
theorem evM_seen {n : Nat} {f : FuncId} {es : Array Event} (h : ∀ e ∈ es, EvM σ n e) : ∀ e ∈ seen P f es, EvM σ n e := fun e he => h e (mem_seen he)
theorem evM_obj {n l : Nat} {wr sy : Bool} (hl : l < n) (hF : ¬ σ.F l) : EvM σ n ⟨.obj l, wr, sy⟩ := .inr (.inl ⟨l, wr, sy, rfl, hl, fun _ => hF⟩)
theorem events_enterLoop_outer {P : Program} (fn : FuncId) (tmps : Array Value) (ps : Array Tmp) (assign body : Code) (w : World) : (Instr.enterLoop fn tmps ps assign body none).events P w #[] = #[] := rfl
/-- ████ A RANGE OVER A FUNCTION BEGINS. ████ -/
theorem mv_rangeFunc {gop : Operand} {ps : Array Tmp} {assign body : Code} {f : FuncId} {args : Nat → Array Value} {d : Nat → Deferred} (hro : b.roundOf = none) (hek : b.kind ≠ .early)
    (hres : ∀ l w, (resolve a.eval (rangeCall gop l) 0).run P w = .ok (d l) w ∧ (resolve a.eval (rangeCall gop l) 0).events P w #[] = #[])
    (hinv : ∀ l w, (invoke (d l).target (d l).args).run P w = .ok (.enter f (args l)) w ∧ (invoke (d l).target (d l).args).events P w #[] = #[])
    (h : MV P ty z z' Post σ (G (Frame.enter P f (args (pw.heap.size + 1)) .normal) (b.atR ⟨a.tmps, { target := .collected pw.heap.size, args := #[] } :: a.defers⟩ (.inRangeFunc (pw.heap.size + 1) :: k) :: cs))
      ((pw.alloc (.deferred (some []))).alloc (.loop { state := .ready, pending := none, fn := b.fn, tmps := a.tmps, params := ps, assign, body, defers := pw.heap.size }))) :
    MV P ty z z' Post σ (G (b.atR a (.code (.rangeFunc gop ps assign body) :: k)) cs) pw := by
  have hek' : (b.kind == CallKind.early) = false := by simpa using hek
  refine mv_own rfl fun w hpo => ?_
  have e : pw.heap.size = w.heap.size := hpo.size
  have hs : seen P b.fn #[] = #[] := seen_none P b.fn
  refine ⟨_, (w.alloc (.deferred (some []))).alloc (.loop { state := .ready, pending := none, fn := b.fn, tmps := a.tmps, params := ps, assign, body, defers := w.heap.size }), #[], _, ?_, fun x hx => ?_, ?_, by simp, ?_, h⟩
  · rw [e]
    have hev := Frame.eval_atR b ⟨a.tmps, { target := .collected w.heap.size, args := #[] } :: a.defers⟩ (.inRangeFunc (w.heap.size + 1) :: k)
    simp only [Frame.atR, hro] at hev
    have h1 := (hres (w.heap.size + 1) ((w.alloc (.deferred (some []))).alloc (.loop { state := .ready, pending := none, fn := b.fn, tmps := a.tmps, params := ps, assign, body, defers := w.heap.size })))
    have h2 := (hinv (w.heap.size + 1) ((w.alloc (.deferred (some []))).alloc (.loop { state := .ready, pending := none, fn := b.fn, tmps := a.tmps, params := ps, assign, body, defers := w.heap.size })))
    have h1' : Sem.run P (resolve ({ tmps := a.tmps, defers := { target := .collected w.heap.size, args := #[] } :: a.defers } : Act).eval { callee := .value gop, args := #[.const (.func (.yield (w.heap.size + 1)) #[] #[])], argTypes := #[] } 0) _ = _ := h1.1
    have h1e : Sem.events P (resolve ({ tmps := a.tmps, defers := { target := .collected w.heap.size, args := #[] } :: a.defers } : Act).eval { callee := .value gop, args := #[.const (.func (.yield (w.heap.size + 1)) #[] #[])], argTypes := #[] } 0) _ #[] = _ := h1.2
    simp [G, stepG, stepG.exec, Frame.atR, hro, Sem.runT_eq, run_enterLoop_outer, events_enterLoop_outer, stepG.apply, hev, Sem.run_bind, Sem.events_bind, h1', h1e, h2.1, h2.2, Result.andThen, hek', hs, GStep.after]
  · have h0 := low_poi (o := .deferred (some [])) hpo hx
    rw [← h0]
    have := hpo.low x hx
    show ((w.heap.push (.deferred (some []))).push _)[x]? = (w.heap.push (.deferred (some [])))[x]?
    rw [Array.getElem?_push_lt (by simp; omega), Array.getElem?_eq_getElem]
  · simp only [World.size_alloc]
    omega
  · rw [e]
    exact (hpo.push rfl).push rfl
end
end Go.Proofs.Ytmllcfkgkkbkpaa
