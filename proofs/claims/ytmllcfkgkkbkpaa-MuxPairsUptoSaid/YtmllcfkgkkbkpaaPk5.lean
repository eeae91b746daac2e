/-
  THE STARTER's VIEW: the rounds of a range over a function; a frame on its way out: marks, close, Wait, the return.
-/
import Derived.Test.YtmllcfkgkkbkpaaPk4
import Derived.Test.YtmllcfkgkkbkpaaHvWgWait
import Derived.Test.YtmllcfkgkkbkpaaPk2
import Derived.Test.YtmllcfkgkkbkpaaHvWorker
namespace Go.Proofs.Ytmllcfkgkkbkpaa
open Go Go.Conc Go.Conc.Lib Go.ConcR.Gen
open Go.ConcN (upd upd_ne upd_same WgLive)
open Go.ConcR (KK wgBlock WgAt stA smA rd wr mk DC0)
section
variable {P : Program} {ty : TypeId} {z z' : Value} {Post : Value → World → Prop} {σ : Ph} {g g' : Goroutine} {pw : World} {fn : Frame → Prop} {Q : Exit → Act → Ph → World → Prop} {a : Act} {b c : Frame} {k : List Item} {cs : List Frame}
/-- An own step that turns one object. -/
theorem mv_obj {l : Nat} {o0 ob : Obj} (hr : g.status = .running) (hF : ¬ σ.F l) (hl : pw.heap[l]? = some o0) (hp : objPending ob = false)
    (hgo : ∀ w, w.heap[l]? = some o0 → ∃ es, stepG P true g w = .go g' (w.putObj l ob) es ∧ ∀ e ∈ es, ∃ wr sy, e = ⟨.obj l, wr, sy⟩) (h : MV P ty z z' Post σ g' (pw.putObj l ob)) : MV P ty z z' Post σ g pw := by
  refine mv_own hr fun w hpo => ?_
  have hlw : w.heap[l]? = some o0 := (hpo.out l hF).symm.trans hl
  have hlt := (Array.getElem?_eq_some_iff.1 hlw).1
  obtain ⟨es, h1, h2⟩ := hgo w hlw
  refine ⟨g', _, es, _, h1, fun x hx => putObj_ne fun e => hF (e ▸ hx), by simp, fun e he => ?_, poi_putObj hpo hF hp, h⟩
  obtain ⟨wr, sy, rfl⟩ := h2 e he
  exact evM_obj (by simp; exact hlt) hF
theorem seen_obj {l : Nat} {f : FuncId} {es : Array Event} (h : ∀ e ∈ es, ∃ wr sy, e = ⟨.obj l, wr, sy⟩) : ∀ e ∈ seen P f es, ∃ wr sy, e = ⟨.obj l, wr, sy⟩ := fun e he => h e (mem_seen he)
theorem runT_beginRound {l : Nat} {r : Loop} {w : World} (h : w.heap[l]? = some (.loop r)) (hr : r.state = .ready) : (Instr.beginRound l).runT P w #[] = (.ok () (w.putObj l (.loop { r with state := .busy })), #[⟨.obj l, false, false⟩, ⟨.obj l, true, false⟩]) := by
  simp only [Instr.beginRound, Instr.getLoop, getObj, setObj, Bind.bind, Sem.bind, Pure.pure, Sem.runT, h, hr, Obj.isChan, World.putObj]
  rfl
theorem runT_endRound {l : Nat} {r : Loop} {w : World} (jump : Option Code) (h : w.heap[l]? = some (.loop r)) : (Instr.endRound l jump).runT P w #[] = (.ok (.bool jump.isNone) (w.putObj l (.loop { r with state := if jump.isNone then .ready else .done, pending := jump })), #[⟨.obj l, false, false⟩, ⟨.obj l, true, false⟩]) := by
  simp only [Instr.endRound, Instr.getLoop, getObj, setObj, Bind.bind, Sem.bind, Pure.pure, Sem.runT, h, Obj.isChan, World.putObj]
  rfl
theorem runT_endLoop {l : Nat} {r : Loop} {w : World} (h : w.heap[l]? = some (.loop r)) (hb : r.state ≠ .busy) : (Instr.endLoop l).runT P w #[] = (.ok r.pending (w.putObj l (.loop { r with state := .exhausted })), #[⟨.obj l, false, false⟩, ⟨.obj l, true, false⟩]) := by
  have hb' : (r.state == .busy) = false := by cases hs : r.state <;> first | rfl | exact absurd hs hb
  simp only [Instr.endLoop, Instr.getLoop, getObj, setObj, Bind.bind, Sem.bind, Pure.pure, Sem.runT, h, hb', Obj.isChan, World.putObj]
  simp only [Bool.false_eq_true, if_false, Sem.runT, h, Obj.isChan]
  rfl
theorem runT_takeDeferred {l : Nat} {ds : List Deferred} {w : World} (h : w.heap[l]? = some (.deferred (some ds))) : (Instr.takeDeferred l).runT P w #[] = (.ok ds (w.putObj l (.deferred none)), #[⟨.obj l, false, false⟩, ⟨.obj l, true, false⟩]) := by
  simp only [Instr.takeDeferred, getObj, setObj, Bind.bind, Sem.bind, Pure.pure, Sem.runT, h, Obj.isChan, World.putObj]
  rfl
theorem two_obj {l : Nat} : ∀ e ∈ (#[⟨.obj l, false, false⟩, ⟨.obj l, true, false⟩] : Array Event), ∃ wr sy, e = (⟨.obj l, wr, sy⟩ : Event) := by
  intro e he
  simp at he
  rcases he with rfl | rfl <;> exact ⟨_, _, rfl⟩
theorem mv_beginRound {l : Nat} {r : Loop} (hro : b.roundOf = some l) (hek : b.kind ≠ .early) (hF : ¬ σ.F l) (hl : pw.heap[l]? = some (.loop r)) (hst : r.state = .ready) (h : MV P ty z z' Post σ (G (b.atR a k) cs) (pw.putObj l (.loop { r with state := .busy }))) : MV P ty z z' Post σ (G (b.atR a (.beginRound :: k)) cs) pw := by
  have hek' : (b.kind == CallKind.early) = false := by simpa using hek
  refine mv_obj rfl hF hl rfl (fun w hw => ⟨_, ?_, seen_obj (P := P) (f := b.fn) two_obj⟩) h
  have hT := runT_beginRound (P := P) hw hst
  simp only [Sem.runT_eq, Prod.mk.injEq] at hT
  simp [G, stepG, stepG.exec, stepG.apply, Frame.atR, hro, Sem.runT_eq, hT.1, hT.2, Result.andThen, Frame.finish, hek', GStep.after]
/-- A round is over: on with the loop (the body has ended, or 'continue'). -/
theorem mv_endRound {l : Nat} {r : Loop} (hro : b.roundOf = some l) (hk : b.kind = .normal) (hF : ¬ σ.F l) (hl : pw.heap[l]? = some (.loop r)) (h : MV P ty z z' Post σ (G (c.finish (.bool true)) cs) (pw.putObj l (.loop { r with state := .ready, pending := none }))) : MV P ty z z' Post σ (G (b.atR a []) (c :: cs)) pw := by
  refine mv_obj rfl hF hl rfl (fun w hw => ⟨_, ?_, seen_obj (P := P) (f := b.fn) two_obj⟩) h
  have hT := runT_endRound (P := P) none hw
  simp only [Sem.runT_eq, Prod.mk.injEq] at hT
  simp [G, stepG, stepG.exec, Frame.atR, hro, hk, Sem.runT_eq, hT.1, hT.2, GStep.after, doReturn]
/-- .. it leaves the loop by a jump out of it. -/
theorem mv_exitRound {l id : Nat} {r : Loop} (hro : b.roundOf = some l) (hk : b.kind = .normal) (hx : exitTo id k = none) (hF : ¬ σ.F l) (hl : pw.heap[l]? = some (.loop r)) (h : MV P ty z z' Post σ (G (c.finish (.bool false)) cs) (pw.putObj l (.loop { r with state := .done, pending := some (.exit id) }))) : MV P ty z z' Post σ (G (b.atR a (.code (.exit id) :: k)) (c :: cs)) pw := by
  refine mv_obj rfl hF hl rfl (fun w hw => ⟨_, ?_, seen_obj (P := P) (f := b.fn) two_obj⟩) h
  have hT := runT_endRound (P := P) (some (.exit id)) hw
  simp only [Sem.runT_eq, Prod.mk.injEq] at hT
  have e1 := hT.1
  have e2 := hT.2
  simp at e1
  simp [G, stepG, stepG.exec, Frame.atR, hro, hk, hx, Sem.runT_eq, e1, e2, GStep.after, doReturn]
/-- The function that was ranged over has returned. -/
theorem mv_endRange {l : Nat} {r : Loop} (hF : ¬ σ.F l) (hl : pw.heap[l]? = some (.loop r)) (hst : r.state ≠ .busy) (h : MV P ty z z' Post σ (G (b.atR a ((r.pending.map Item.code).toList ++ k)) cs) (pw.putObj l (.loop { r with state := .exhausted }))) : MV P ty z z' Post σ (G (b.atR a (.endRangeFunc l :: k)) cs) pw := by
  refine mv_obj rfl hF hl rfl (fun w hw => ⟨_, ?_, seen_obj (P := P) (f := b.fn) two_obj⟩) h
  have hT := runT_endLoop (P := P) hw hst
  simp only [Sem.runT_eq, Prod.mk.injEq] at hT
  simp [G, stepG, stepG.exec, Frame.atR, Sem.runT_eq, hT.1, hT.2, GStep.after]
theorem mv_ret (hro : b.roundOf = none) (h : MV P ty z z' Post σ (G { b.atR a (.code .ret :: k) with mode := .returning } cs) pw) : MV P ty z z' Post σ (G (b.atR a (.code .ret :: k)) cs) pw :=
  mv_ctl rfl (fun w => by simp [G, stepG, stepG.exec, Frame.atR, hro]) h
theorem mv_fin (hro : b.roundOf = none) (h : MV P ty z z' Post σ (G { b.atR a [] with mode := .returning } cs) pw) : MV P ty z z' Post σ (G (b.atR a []) cs) pw :=
  mv_ctl rfl (fun w => by simp [G, stepG, stepG.exec, Frame.atR, hro]) h
/-- The mark of a loop that has been left. -/
theorem mv_collected {l : Nat} {ds : List Deferred} (hd : a.defers = { target := .collected l, args := #[] } :: ds) (hF : ¬ σ.F l) (hl : pw.heap[l]? = some (.deferred (some []))) (h : MV P ty z z' Post σ (G { b.atR ⟨a.tmps, ds⟩ k with mode := .returning } cs) (pw.putObj l (.deferred none))) : MV P ty z z' Post σ (G { b.atR a k with mode := .returning } cs) pw := by
  refine mv_obj rfl hF hl rfl (fun w hw => ⟨_, ?_, seen_obj (P := P) (f := b.fn) two_obj⟩) h
  have hT := runT_takeDeferred (P := P) hw
  simp only [Sem.runT_eq, Prod.mk.injEq] at hT
  simp [G, stepG, unwind, Frame.atR, hd, Sem.runT_eq, hT.1, hT.2, GStep.after]
/-- The return to the caller. -/
theorem mv_leave {fn : Func} {v : Value} (hd : a.defers = []) (hf : P.funcs[b.fn]? = some fn) (hk : b.kind = .normal) (hrun : ∀ w, (results fn a.tmps).run P w = .ok v w ∧ (results fn a.tmps).events P w #[] = #[]) (h : MV P ty z z' Post σ (G (c.finish v) cs) pw) : MV P ty z z' Post σ (G { b.atR a k with mode := .returning } (c :: cs)) pw := by
  have hs : seen P b.fn #[] = #[] := seen_none P b.fn
  exact mv_ctl rfl (fun w => by simp [G, stepG, unwind, Frame.atR, hd, hf, hk, Sem.runT_eq, (hrun w).1, (hrun w).2, GStep.after, doReturn, hs]) h
/-- A deferred call of a Go function. -/
theorem mv_enterD {f : FuncId} {fn : Func} {cc : Code} {args : Array Value} {ds : List Deferred} (hro : b.roundOf = none) (hd : a.defers = dcall f args :: ds) (hf : P.funcs[f]? = some fn) (hname : (fn.name == "runtime.NumGoroutine") = false) (hb : fn.body = some cc)
    (h : MV P ty z z' Post σ (G ((baseD f).at { tmps := args ++ Array.replicate (fn.ntmps - args.size) undef, defers := [] } [.code cc]) ({ b.atR ⟨a.tmps, ds⟩ k with mode := .returning } :: cs)) pw) : MV P ty z z' Post σ (G { b.atR a k with mode := .returning } cs) pw := by
  rw [Frame.atR_of_none hro] at h ⊢
  exact mv_ctl rfl (fun w => stepG_unwind_enter hd hf hname hb) h
/-- ████ Wait, AS A DEFERRED CALL. ████ -/
theorem mv_wait {L : WgLink} (H : WgLib P L) (ht : σ.tag = .opn false) (hd0 : σ.d0 = 0) (hc : σ.closed = true) (hF : σ.F σ.Wg) (hcm : c.mode = .returning) {g : Goroutine}
    (hg : ∀ w, WgLive L.tWg σ.Wg w → ∃ m, Goes P true (RL L.tWg σ) DC0 (MKd P (RL L.tWg σ) (AnchX L σ.Wg c cs)) m g w)
    (hn : ∀ vb, MV P L.tWg z z' Post (over1 { σ with d0 := 0, vb := vb, tag := .fin }) (G c cs) pw) : MV P L.tWg z z' Post σ g pw := by
  intro hbk w hp
  refine ms_live (by rw [ht]; simp) fun w1 r1 hl => ?_
  obtain ⟨m, hG⟩ := hg w1 hl
  refine ms_wait (Anch := AnchX L σ.Wg c cs) (Fin := fun g _ => g = G c cs) ht hd0 hc hF (fun g w h => waitRoundX H (fun _ _ r => r.2) hcm (fun _ _ => rfl) g w h) hG fun g' w' vb r' hf => ?_
  obtain rfl := hf w' (RL.refl w')
  exact hn vb (by simp [over1]) w' (hp.rf (RF.trans _ _ _ r1 r'))
def dCloseA (ats : Array TypeId) (q : Nat) : Deferred := { target := .builtin .close ats 0 #[false], args := #[.chan (some q)] }
/-- ████ close(quit), AS A DEFERRED CALL. ████ -/
theorem mv_close {ats : Array TypeId} {ds : List Deferred} (_hro : b.roundOf = none) (hd : a.defers = dCloseA ats σ.quit :: ds) (hq : (P.funcs[b.fn]?).any (·.norace) = false) (ht : σ.tag ≠ .idle) (hc : σ.closed = false) (hF : σ.F σ.quit)
    (h : MV P ty z z' Post { σ with closed := true } (G { b.atR ⟨a.tmps, ds⟩ k with mode := .returning } cs) pw) : MV P ty z z' Post σ (G { b.atR a k with mode := .returning } cs) pw := by
  intro hbk w hp
  refine ms_close rfl hbk ht hc rfl fun w₁ r₁ hch => ⟨G { b.atR ⟨a.tmps, ds⟩ k with mode := .returning } cs, rfl, ?_, ?_⟩
  · have hrun : (builtin .close ats 0 #[false] #[.chan (some σ.quit)]).run P w₁ = .ok (.value (.tuple #[])) (w₁.setChan σ.quit 0 #[] true 0 0 false) := by
      simp [go_sem, run_close_open _ _ hch, World.setChan]
    have hev : (builtin .close ats 0 #[false] #[.chan (some σ.quit)]).events P w₁ #[] = #[⟨.obj σ.quit, false, true⟩, ⟨.obj σ.quit, true, true⟩] := by
      simp [go_sem, events_close_open _ _ hch]
    have hse : seen P b.fn #[⟨.obj σ.quit, false, true⟩, ⟨.obj σ.quit, true, true⟩] = #[⟨.obj σ.quit, false, true⟩, ⟨.obj σ.quit, true, true⟩] := seen_eq hq (by simp)
    simp [G, stepG, unwind, callDeferred, Frame.atR, hd, dCloseA, invoke, hrun, hev, GStep.after, hse]
  · exact h hbk _ (hp.rf (RF.trans _ _ _ r₁ (RF.setChan hF)))
/-- A call of yield: a round. -/
theorem runT_yieldOp {o : Oper} {x : Operand} {xs0 : Array Operand} {ats : Array TypeId} {l : Nat} {r : Loop} {w : World} (hop : o.op = .call { callee := .value x, args := xs0, argTypes := ats }) (hx : a.eval x = .func (.yield l) #[] #[]) (h : w.heap[l]? = some (.loop r)) (hs : xs0.size = r.params.size) :
    (execOp a.eval o).runT P w #[] = (.ok (.round l r.fn ((r.params.zip (xs0.map a.eval)).foldl (fun tmps (t, a) => tmps.setIfInBounds t a) r.tmps) r.assign r.body) w, #[⟨.obj l, false, false⟩]) := by
  have hs' : (xs0.map a.eval).size = r.params.size := by simpa using hs
  have h1 : (execOp a.eval o).runT P w #[] = (Instr.yield l (xs0.map a.eval)).runT P w #[] := by
    unfold execOp
    simp only [hop, resolve, hx, Deferred.ofValue, Bind.bind, Sem.bind, Pure.pure, invoke, Array.empty_append]
  rw [h1]
  simp only [Instr.yield, Instr.getLoop, getObj, Bind.bind, Sem.bind, Pure.pure, Sem.runT, h, hs', Obj.isChan, ne_eq, not_true, if_false]
  rfl
/-- ████ A ROUND BEGINS. ████ -/
theorem opsM_yield {ops : Array Oper} {i : Nat} {rest : List Nat} {o : Oper} {x : Operand} {xs0 : Array Operand} {ats : Array TypeId} {l : Nat} {r : Loop} (ho : ops[i]? = some o) (hw : Region.wanted o (yielded ops a.tmps) = true) (hop : o.op = .call { callee := .value x, args := xs0, argTypes := ats }) (hx : a.eval x = .func (.yield l) #[] #[]) (hF : ¬ σ.F l) (hl : pw.heap[l]? = some (.loop r)) (hs : xs0.size = r.params.size)
    (h : ∀ (base : Frame) (cs : List Frame), (∀ v σ' pw', OpsM P ty z z' Post fn ops rest Q (a.put o.dst v) σ' pw' → MV P ty z z' Post σ' (G (base.finish v) cs) pw') →
      MV P ty z z' Post σ (G (Frame.round l r.fn ((r.params.zip (xs0.map a.eval)).foldl (fun tmps (t, a) => tmps.setIfInBounds t a) r.tmps) r.assign r.body .normal) (base :: cs)) pw) : OpsM P ty z z' Post fn ops (i :: rest) Q a σ pw := by
  intro b k cs hb hk hc
  have hk' : (b.kind == CallKind.early) = false := by simpa using hk
  have hfin : ∀ v, (b.atR a (.inRegion ops (i :: rest) :: k)).finish v = b.atR (a.put o.dst v) (.inRegion ops rest :: k) := fun v => by rw [Frame.finish_atR, ho]; rfl
  have hm := h (b.atR a (.inRegion ops (i :: rest) :: k)) cs fun v σ' pw' hx => by
    rw [hfin]
    exact hx b k cs hb hk hc
  refine mv_own rfl fun w hpo => ?_
  have hlw : w.heap[l]? = some (.loop r) := (hpo.out l hF).symm.trans hl
  have hlt := (Array.getElem?_eq_some_iff.1 hlw).1
  have hT := runT_yieldOp (P := P) (a := a) hop hx hlw hs
  refine ⟨_, w, seen P b.fn #[⟨.obj l, false, false⟩], pw, ?_, fun _ _ => rfl, Nat.le_refl _, fun e he => ?_, hpo, hm⟩
  · rw [stepG_operR ho hw (by rw [hop]; intro c e; cases e)]
    simp only [stepG.apply, hT, if_true]
    simp [hk', GStep.after, G, Frame.atR]
  · have := mem_seen he
    simp at this
    subst this
    exact evM_obj hlt hF
/-- A defer statement of a frame that is no round. -/
theorem opsM_defer {ops : Array Oper} {i : Nat} {rest : List Nat} {o : Oper} {d : Deferred} (hB : ∀ b, fn b → b.roundOf = none) (ho : ops[i]? = some o) (hw : Region.wanted o (yielded ops a.tmps) = true) (hrun : ∀ w, (execOp a.eval o).run P w = .ok (.defer d) w ∧ (execOp a.eval o).events P w #[] = #[])
    (h : OpsM P ty z z' Post fn ops rest Q (Act.put ⟨a.tmps, d :: a.defers⟩ o.dst undef) σ pw) : OpsM P ty z z' Post fn ops (i :: rest) Q a σ pw := by
  intro b k cs hb hk hc
  have hk' : (b.kind == CallKind.early) = false := by simpa using hk
  have hro := hB b hb
  have hfin : (b.at ⟨a.tmps, d :: a.defers⟩ (.inRegion ops (i :: rest) :: k)).finish undef = b.at (Act.put ⟨a.tmps, d :: a.defers⟩ o.dst undef) (.inRegion ops rest :: k) := by rw [Frame.finish_at, ho]; rfl
  refine mv_ctl rfl (fun w => ?_) (h b k cs hb hk hc)
  rw [Frame.atR_of_none hro, Frame.atR_of_none hro, stepG_oper ho hw, ← hfin]
  have hs : seen P b.fn #[] = #[] := seen_none P b.fn
  simp [stepG.apply, Sem.runT_eq, (hrun w).1, (hrun w).2, G, Frame.at, hk', GStep.after, hs]
/-- A function, walked by hand, from its entry to its return. -/
theorem mv_body {f : FuncId} {fn : Func} {cc : Code} {args : Array Value} {c : Frame} (hf : P.funcs[f]? = some fn) (hbody : fn.body = some cc)
    (h : wpM P ty z z' Post (fun b => b.fn = f ∧ b.roundOf = none) cc (fun e a' σ' pw' => e = .ret ∧ a'.defers = [] ∧ ∃ v, (∀ w, (results fn a'.tmps).run P w = .ok v w ∧ (results fn a'.tmps).events P w #[] = #[]) ∧ MV P ty z z' Post σ' (G (c.finish v) cs) pw') ⟨args ++ Array.replicate (fn.ntmps - args.size) undef, []⟩ σ pw) : MV P ty z z' Post σ (G (Frame.enter P f args .normal) (c :: cs)) pw := by
  have he : Frame.enter P f args .normal = ({ (default : Frame) with fn := f } : Frame).atR ⟨args ++ Array.replicate (fn.ntmps - args.size) undef, []⟩ [.code cc] := by
    simp [Frame.enter, Frame.atR, hf, hbody]
    exact ⟨rfl, rfl⟩
  rw [he]
  refine h _ [] (c :: cs) ⟨rfl, rfl⟩ (fun e => by cases e) fun e a' σ' pw' hq => ?_
  obtain ⟨rfl, hd, v, hrun, hm⟩ := hq
  intro k'
  refine mv_ret rfl (mv_leave hd hf rfl hrun hm)
theorem run_results1 {fn : Func} {r : Tmp} {tmps : Array Value} (hr : fn.results = #[.tmp r]) (w : World) : (results fn tmps).run P w = .ok (tmps.getD r undef) w ∧ (results fn tmps).events P w #[] = #[] := by
  constructor <;> simp [results, hr, go_sem]
/-- .. that hands one temporary back; what is behind it hidden. -/
theorem mv_body1 {f : FuncId} {fn : Func} {cc : Code} {args : Array Value} {c : Frame} {r : Tmp} (hf : P.funcs[f]? = some fn) (hbody : fn.body = some cc) (hr : fn.results = #[.tmp r])
    (h : ∀ Q : Exit → Act → Ph → World → Prop, (∀ a' σ' pw', a'.defers = [] → MV P ty z z' Post σ' (G (c.finish (a'.tmps.getD r undef)) cs) pw' → Q .ret a' σ' pw') → wpM P ty z z' Post (fun b => b.fn = f ∧ b.roundOf = none) cc Q ⟨args ++ Array.replicate (fn.ntmps - args.size) undef, []⟩ σ pw) : MV P ty z z' Post σ (G (Frame.enter P f args .normal) (c :: cs)) pw :=
  mv_body hf hbody (h _ fun _a' _ _ hd hm => ⟨rfl, hd, _, run_results1 hr, hm⟩)
/-- An operation that reads a still block. -/
theorem opsM_still {ob : Obj} {x : Nat} {v : Value} {ops : Array Oper} {i : Nat} {rest : List Nat} {o : Oper} (ho : ops[i]? = some o) (hw : Region.wanted o (yielded ops a.tmps) = true) (hnd : ∀ c, o.op ≠ .defer c) (hl : σ.lay x = some ob) (hSW : ¬ σ.SW x) (hFx : σ.F x)
    (hrun : ∀ w, w.heap[x]? = some ob → (execOp a.eval o).run P w = .ok (.value v) w ∧ ∀ e ∈ (execOp a.eval o).events P w #[], ∃ ad sy, e = (⟨.cell ad, false, sy⟩ : Event) ∧ ad.block = x)
    (h : OpsM P ty z z' Post fn ops rest Q (a.put o.dst v) σ pw) : OpsM P ty z z' Post fn ops (i :: rest) Q a σ pw := by
  intro b k cs hb hk hq hbk w hpo
  have hk' : (b.kind == CallKind.early) = false := by simpa using hk
  have hfin : ∀ v, (b.atR a (.inRegion ops (i :: rest) :: k)).finish v = b.atR (a.put o.dst v) (.inRegion ops rest :: k) := fun v => by rw [Frame.finish_atR, ho]; rfl
  refine ms_own rfl hbk fun w₁ r₁ _ hlay => ?_
  have hx := hlay x ob hl
  have hlt := (Array.getElem?_eq_some_iff.1 hx).1
  obtain ⟨h1, h2⟩ := hrun w₁ hx
  refine ⟨G (b.atR (a.put o.dst v) (.inRegion ops rest :: k)) cs, w₁, seen P b.fn ((execOp a.eval o).events P w₁ #[]), ?_, fun _ _ => rfl, Nat.le_refl _, fun e he => ?_, h b k cs hb hk hq hbk w₁ (hpo.rf r₁)⟩
  · rw [stepG_operR ho hw hnd, ← hfin]
    simp [stepG.apply, Sem.runT_eq, h1, hk', GStep.after, G, Frame.atR]
  · obtain ⟨ad, sy, rfl, rfl⟩ := h2 e (mem_seen he)
    exact .inl ⟨ad, false, sy, rfl, hlt, .inr ⟨by rw [hl]; rfl, hSW, rfl⟩⟩
end
end Go.Proofs.Ytmllcfkgkkbkpaa
/-
  source: it boxes its arguments, makes its channel and starts its goroutine.
-/
namespace Go.Proofs.Ytmllcfkgkkbkpaa
open Go Go.Conc Go.RowKit Go.Conc.Lib
open Go.ConcN (upd upd_ne upd_same WgLive)
open Go.ConcR (KK wgBlock WgAt stA smA rd wr mk DC0)
noncomputable def bodyS : Code := (Try.f25.body).getD .skip
theorem ntS : Try.f25.ntmps = 11 := by kernel_rfl
theorem app11 (a b c : Value) : (#[a, b, c] : Array Value) ++ Array.replicate (11 - (#[a, b, c] : Array Value).size) undef = #[a, b, c, undef, undef, undef, undef, undef, undef, undef, undef] := by
  apply Array.ext'
  simp [List.replicate]
section
variable {z z' : Value} {Post : Value → World → Prop} {σ : Ph} {pw : World} {c : Frame} {cs : List Frame}
theorem alloc_other {w : World} {o : Obj} {x : Nat} (h : x < w.heap.size) : (w.alloc o).heap[x]? = w.heap[x]? := by
  show (w.heap.push o)[x]? = _
  rw [Array.getElem?_push_lt h, Array.getElem?_eq_getElem h]
theorem alloc_self {w : World} {o : Obj} : (w.alloc o).heap[w.heap.size]? = some o := by
  show (w.heap.push o)[w.heap.size]? = _
  simp
theorem cell_row1 {w : World} {b : Nat} {v : Value} {e : TypeId} (h : w.heap[b]? = some (.cells #[v] e)) : w.cell? ⟨b, 0, none⟩ = some v ∧ w.frozen? ⟨b, 0, none⟩ = false := by
  simp [World.cell?, World.frozen?, h]
/-- The world of source's doing, before what stands still is hidden. -/
def srcW (pw : World) (items quit done : Value) : World :=
  ((((pw.alloc (.cells #[items] 23)).alloc (.cells #[quit] 87)).alloc (.cells #[done] 1)).alloc (.chan 0 #[] false 0 0 false)).alloc (.cells #[.chan (some (pw.heap.size + 3))] 88)
def srcW0 (pw : World) (items quit done : Value) : World :=
  ((((pw.alloc (.cells #[items] 23)).alloc (.cells #[quit] 87)).alloc (.cells #[done] 1)).alloc (.chan 0 #[] false 0 0 false)).alloc (.cells #[.chan none] 88)
theorem srcW_set (items quit done : Value) : (srcW0 pw items quit done).setCell ⟨pw.heap.size + 4, 0, none⟩ (.chan (some (pw.heap.size + 3))) = srcW pw items quit done := by
  unfold srcW0 srcW
  generalize hA : ((((pw.alloc (.cells #[items] 23)).alloc (.cells #[quit] 87)).alloc (.cells #[done] 1)).alloc (.chan 0 #[] false 0 0 false)) = A
  have hs : pw.heap.size + 4 = A.heap.size := by rw [← hA]; simp only [World.size_alloc]
  rw [hs]
  show ({ A with heap := (A.heap.push _).modify A.heap.size _ } : World) = { A with heap := A.heap.push _ }
  congr 1
  apply Array.ext_getElem?
  intro i
  by_cases e : A.heap.size = i
  · subst e
    rw [Array.getElem?_modify]
    simp
  · have e' : ¬ i = A.heap.size := fun h => e h.symm
    simp [Array.getElem?_modify, e, e', Array.getElem?_push]
theorem srcW_size (iv q d : Value) : (srcW pw iv q d).heap.size = pw.heap.size + 5 := by
  simp only [srcW, World.size_alloc]
theorem srcW_heap (iv q d : Value) : (srcW pw iv q d).heap = ((((pw.heap.push (.cells #[iv] 23)).push (.cells #[q] 87)).push (.cells #[d] 1)).push (.chan 0 #[] false 0 0 false)).push (.cells #[.chan (some (pw.heap.size + 3))] 88) := rfl
theorem srcW_at (iv q d : Value) : (srcW pw iv q d).heap[pw.heap.size]? = some (.cells #[iv] 23) ∧ (srcW pw iv q d).heap[pw.heap.size + 1]? = some (.cells #[q] 87) ∧ (srcW pw iv q d).heap[pw.heap.size + 2]? = some (.cells #[d] 1) ∧ (srcW pw iv q d).heap[pw.heap.size + 3]? = some (.chan 0 #[] false 0 0 false) ∧ (srcW pw iv q d).heap[pw.heap.size + 4]? = some (.cells #[.chan (some (pw.heap.size + 3))] 88) := by
  rw [srcW_heap]
  simp only [Array.getElem?_push, Array.size_push]
  refine ⟨?_, ?_, ?_, ?_, ?_⟩ <;> (repeat (first | rw [if_pos (by omega)] | rw [if_neg (by omega)])) <;> rfl
theorem opsM_freeze {P : Program} {ty : TypeId} {fn : Frame → Prop} {Q : Exit → Act → Ph → World → Prop} {a : Act} {ops : Array Oper} {todo : List Nat} {b : Nat} {o : Obj} (hF : ¬ σ.F b) (hb : pw.heap[b]? = some o) (ht : objTame o = true) (h : OpsM P ty z z' Post fn ops todo Q a (freeze σ b o) (killW P pw b)) : OpsM P ty z z' Post fn ops todo Q a σ pw := fun b' k cs h1 h2 h3 => mv_freeze hF hb ht (h b' k cs h1 h2 h3)
/-- A row that stands still, and what it bears. -/
structure ItemsAt (σ : Ph) (a0 : Option Addr) (n : Nat) (items : List Value) : Prop where
  len : items.length = n
  small : n < 1000000000000
  nil : a0 = none → n = 0
  row : ∀ ad, a0 = some ad → 0 < n → ∃ ob, σ.lay ad.block = some ob ∧ ¬ σ.SW ad.block ∧ ∀ (w : World) i v, w.heap[ad.block]? = some ob → items[i]? = some v → w.cell? (ad.add i) = some v
abbrev oS (v : Value) : Obj := .cells #[v] 23
abbrev oQ (v : Value) : Obj := .cells #[v] 87
abbrev oD (v : Value) : Obj := .cells #[v] 1
abbrev oC (v : Value) : Obj := .cells #[v] 88
abbrev vD (Wg : Nat) : Value := .func (.func 26) #[.pointer (some ⟨Wg, 0, none⟩)] #[]
/-- What source leaves behind: its three boxes and the channel's cell stand still; the goroutine is at work. -/
def srcPh (σ : Ph) (s : Nat) (iv : Value) (items : List Value) (room : Nat) : Ph :=
  spawned (freeze (freeze (freeze (freeze σ s (oS iv)) (s + 1) (oQ (.chan (some σ.quit)))) (s + 2) (oD (vD σ.Wg))) (s + 4) (oC (.chan (some (s + 3))))) (s + 3) items room
def srcEnd (P : Program) (pw : World) (iv : Value) (q Wg : Nat) : World :=
  killW P (killW P (killW P (killW P (killW P (srcW pw iv (.chan (some q)) (vD Wg)) pw.heap.size) (pw.heap.size + 1)) (pw.heap.size + 2)) (pw.heap.size + 4)) (pw.heap.size + 3)
/-- The boxes of source stand still. -/
def srcF (σ : Ph) (s : Nat) (iv : Value) : Ph := freeze (freeze (freeze (freeze σ s (oS iv)) (s + 1) (oQ (.chan (some σ.quit)))) (s + 2) (oD (vD σ.Wg))) (s + 4) (oC (.chan (some (s + 3))))
theorem srcF_lay {s : Nat} {iv : Value} : (srcF σ s iv).lay s = some (oS iv) ∧ (srcF σ s iv).lay (s + 1) = some (oQ (.chan (some σ.quit))) ∧ (srcF σ s iv).lay (s + 2) = some (oD (vD σ.Wg)) ∧ (srcF σ s iv).lay (s + 4) = some (oC (.chan (some (s + 3)))) ∧ ∀ x, x < s → (srcF σ s iv).lay x = σ.lay x := by
  refine ⟨?_, ?_, ?_, ?_, fun x hx => ?_⟩ <;> simp only [srcF, freeze]
  · rw [upd_ne _ _ (by omega), upd_ne _ _ (by omega), upd_ne _ _ (by omega), upd_same]
  · rw [upd_ne _ _ (by omega), upd_ne _ _ (by omega), upd_same]
  · rw [upd_ne _ _ (by omega), upd_same]
  · rw [upd_same]
  · rw [upd_ne _ _ (by omega), upd_ne _ _ (by omega), upd_ne _ _ (by omega), upd_ne _ _ (by omega)]
theorem wfSrc {a0 : Option Addr} {n cap s : Nat} {items : List Value} {w : World} (hI : ItemsAt σ a0 n items) (hSW : ∀ b, σ.SW b → b < s) (hL : ∀ b, (σ.lay b).isSome = true → b < s) (hl : WgLive wtG σ.Wg w) (hlay : ∀ b o, (srcF σ s (.slice a0 n cap)).lay b = some o → w.heap[b]? = some o) :
    WF (stillK (srcF σ s (.slice a0 n cap))) σ.Wg σ.quit (s + 3) (s + 2) (s + 4) s (s + 1) a0 n cap items w := by
  obtain ⟨L0, L1, L2, L4, Lo⟩ := srcF_lay (σ := σ) (s := s) (iv := .slice a0 n cap)
  have hk : ∀ b, s ≤ b → ((srcF σ s (.slice a0 n cap)).lay b).isSome = true → stillK (srcF σ s (.slice a0 n cap)) b := fun b hb h => ⟨h, fun hs => by have := hSW b hs; omega⟩
  have hrow : ∀ ad, a0 = some ad → 0 < n → ∃ ob, (srcF σ s (.slice a0 n cap)).lay ad.block = some ob ∧ ¬ σ.SW ad.block ∧ ∀ (w : World) i v, w.heap[ad.block]? = some ob → items[i]? = some v → w.cell? (ad.add i) = some v := fun ad h1 h2 => by
    obtain ⟨ob, hb, h3, h4⟩ := hI.row ad h1 h2
    exact ⟨ob, by rw [Lo _ (hL _ (by rw [hb]; rfl))]; exact hb, h3, h4⟩
  refine ⟨(cell_row1 (hlay _ _ L2)).1, (cell_row1 (hlay _ _ L4)).1, (cell_row1 (hlay _ _ L0)).1, (cell_row1 (hlay _ _ L1)).1, fun i ad v h1 h2 => ?_, hI.nil, hk _ (by omega) (by rw [L2]; rfl), hk _ (by omega) (by rw [L4]; rfl), hk _ (by omega) (by rw [L0]; rfl), hk _ (by omega) (by rw [L1]; rfl), fun ad h1 h2 => ?_, hI.len, hI.small, hl⟩
  · have hi := (List.getElem?_eq_some_iff.1 h2).1
    have := hI.len
    obtain ⟨ob, hb, _, h4⟩ := hrow ad h1 (by omega)
    exact h4 w i v (hlay _ _ hb) h2
  · obtain ⟨ob, hb, h3, _⟩ := hrow ad h1 h2
    exact ⟨by rw [hb]; rfl, h3⟩
theorem run_mkC (w : World) : Sem.run Try.prog (Instr.makeChan 88 (.int .i64 0)) w = .ok (.chan (some w.heap.size)) (w.alloc (.chan 0 #[] false 0 0 false)) := by
  obtain ⟨i, hi, hb⟩ : ∃ i, Try.prog.info? 3 = some i ∧ i.bytes = 8 := ⟨_, rfl, rfl⟩
  exact run_makeChan (P := Try.prog) Try.underlying88 hi .i64 0 (by omega) (by rw [hb]; omega)
theorem ev_mkC (w : World) : Sem.events Try.prog (Instr.makeChan 88 (.int .i64 0)) w #[] = #[] := by
  obtain ⟨i, hi, hb⟩ : ∃ i, Try.prog.info? 3 = some i ∧ i.bytes = 8 := ⟨_, rfl, rfl⟩
  exact events_makeChan (P := Try.prog) Try.underlying88 hi .i64 0 (by omega) (by rw [hb]; omega) #[]
set_option maxRecDepth 100000 in
set_option maxHeartbeats 2000000 in
theorem srcM {a0 : Option Addr} {n cap room : Nat} {items : List Value} (hG : ∀ b, σ.F b → Try.prog.globals.size ≤ b) (hgs : Try.prog.globals.size ≤ pw.heap.size) (hFl : ∀ b, σ.F b → b < pw.heap.size) (hSW : ∀ b, σ.SW b → b < pw.heap.size) (hL : ∀ b, (σ.lay b).isSome = true → b < pw.heap.size) (ht : σ.tag = .opn true) (hc : σ.closed = false) (hd0 : σ.d0 = 0) (hroom : σ.room = room + 1)
    (hI : ItemsAt σ a0 n items)
    (hn : MV Try.prog wtG zI zS Post (srcPh σ pw.heap.size (.slice a0 n cap) items room) (G (c.finish (.chan (some (pw.heap.size + 3)))) cs) (srcEnd Try.prog pw (.slice a0 n cap) σ.quit σ.Wg)) :
    MV Try.prog wtG zI zS Post σ (G (Frame.enter Try.prog 25 #[.slice a0 n cap, .chan (some σ.quit), vD σ.Wg] .normal) (c :: cs)) pw := by
  refine mv_body1 (cc := bodyS) (r := 6) Try.func25 rfl rfl fun Q hQ => ?_
  rw [ntS, app11]
  simp only [bodyS, Try.f25, Option.getD_some]
  refine wpM_seq (wpM_region ?_)
  simp only [List.size_toArray, List.length_cons, List.length_nil, Nat.reduceAdd, Nat.zero_add, List.range, List.range.loop]
  refine opsM_push (ob := oS (.slice a0 n cap)) (f := fun s => .pointer (some ⟨s, 0, none⟩)) rfl rfl rfl (by simp) (fun w => ⟨by go_simp, by simp [go_sem]⟩) ?_
  walk_nrm
  refine opsM_push (ob := oQ (.chan (some σ.quit))) (f := fun s => .pointer (some ⟨s, 0, none⟩)) rfl rfl rfl (by simp) (fun w => ⟨by go_simp, by simp [go_sem]⟩) ?_
  walk_nrm
  refine opsM_push (ob := oD (vD σ.Wg)) (f := fun s => .pointer (some ⟨s, 0, none⟩)) rfl rfl rfl (by simp) (fun w => ⟨by go_simp, by simp [go_sem]⟩) ?_
  walk_nrm
  refine opsM_k calmM hG rfl rfl rfl (fun t d K hK => ?_)
  go_simp
  refine hK _ _ (opsM_re ?_)
  clear hK
  walk_nrm
  refine opsM_nil ?_
  show wpM _ _ _ _ _ _ _ _ _ _ _
  refine wpM_seq (wpM_region ?_)
  simp only [List.size_toArray, List.length_cons, List.length_nil, Nat.reduceAdd, Nat.zero_add, List.range, List.range.loop]
  refine opsM_push (ob := .chan 0 #[] false 0 0 false) (f := fun s => .chan (some s)) rfl rfl rfl (by simp) (fun w => ⟨?_, ?_⟩) ?_
  · go_simp
    rw [run_mkC]
    rfl
  · simp [go_sem]
    exact ev_mkC w
  walk_nrm
  refine opsM_push (ob := oC (.chan none)) (f := fun s => .pointer (some ⟨s, 0, none⟩)) rfl rfl rfl (by simp) (fun w => ⟨by go_simp, by simp [go_sem]⟩) ?_
  walk_nrm
  simp only [World.size_alloc]
  have hcell : (srcW0 pw (.slice a0 n cap) (.chan (some σ.quit)) (vD σ.Wg)).cell? ⟨pw.heap.size + 4, 0, none⟩ = some (.chan none) ∧ (srcW0 pw (.slice a0 n cap) (.chan (some σ.quit)) (vD σ.Wg)).frozen? ⟨pw.heap.size + 4, 0, none⟩ = false := by
    refine cell_row1 (e := 88) ?_
    have h4 : pw.heap.size + 4 = ((((pw.alloc (oS (.slice a0 n cap))).alloc (oQ (.chan (some σ.quit)))).alloc (oD (vD σ.Wg))).alloc (.chan 0 #[] false 0 0 false)).heap.size := by simp only [World.size_alloc]
    rw [h4]
    exact alloc_self
  refine opsM_k calmM hG rfl rfl rfl (fun t d K hK => ?_)
  have hc1 : ((srcW0 pw (.slice a0 n cap) (.chan (some σ.quit)) (vD σ.Wg)).re t d).cell? ⟨pw.heap.size + 3 + 1, 0, none⟩ = some (.chan none) := hcell.1
  have hc2 : ((srcW0 pw (.slice a0 n cap) (.chan (some σ.quit)) (vD σ.Wg)).re t d).frozen? ⟨pw.heap.size + 3 + 1, 0, none⟩ = false := hcell.2
  change uponV _ _ K ((execOp _ _).run _ ((srcW0 pw (.slice a0 n cap) (.chan (some σ.quit)) (vD σ.Wg)).re t d))
  go_simp
  rw [re_setCell]
  rw [srcW_set]
  refine hK _ _ (opsM_re ?_)
  clear hK hc1 hc2 hcell
  walk_nrm
  refine opsM_nil ?_
  show wpM _ _ _ _ _ _ _ _ _ _ _
  refine wpM_seq (wpM_region ?_)
  simp only [List.size_toArray, List.length_cons, List.length_nil, Nat.reduceAdd, Nat.zero_add, List.range, List.range.loop]
  refine opsM_k calmM hG rfl rfl rfl (fun t d K hK => ?_)
  go_simp
  refine hK _ _ (opsM_re ?_)
  clear hK
  walk_nrm
  simp only [Nat.add_assoc, Nat.reduceAdd]
  obtain ⟨S0, S1, S2, S3, S4⟩ := srcW_at (pw := pw) (.slice a0 n cap) (.chan (some σ.quit)) (vD σ.Wg)
  have hne : ∀ x, σ.F x → x < pw.heap.size := hFl
  refine opsM_freeze (b := pw.heap.size) (o := oS (.slice a0 n cap)) (fun h => by have := hFl _ h; omega) S0 rfl ?_
  refine opsM_freeze (b := pw.heap.size + 1) (o := oQ (.chan (some σ.quit))) (fun h => by rcases h with h | h; (have := hFl _ h; omega); omega) (by rw [kill_ne (by omega)]; exact S1) rfl ?_
  refine opsM_freeze (b := pw.heap.size + 2) (o := oD (vD σ.Wg)) (fun h => by rcases h with (h | h) | h; (have := hFl _ h; omega); omega; omega) (by rw [kill_ne (by omega), kill_ne (by omega)]; exact S2) rfl ?_
  refine opsM_freeze (b := pw.heap.size + 4) (o := oC (.chan (some (pw.heap.size + 3)))) (fun h => by rcases h with ((h | h) | h) | h; (have := hFl _ h; omega); omega; omega; omega) (by rw [kill_ne (by omega), kill_ne (by omega), kill_ne (by omega)]; exact S4) rfl ?_
  refine opsM_spawn (d := dBorn (pw.heap.size + 2) (pw.heap.size + 4) pw.heap.size (pw.heap.size + 1)) (c := pw.heap.size + 3) (items := items) (room := room) rfl rfl (by intro c e; cases e) (fun w => ⟨by simp [execOp, resolve, Act.eval, Deferred.ofValue, go_sem], by simp [execOp, resolve, Act.eval, Deferred.ofValue, go_sem]⟩) rfl ht hc hd0 (fun h => by rcases h with (((h | h) | h) | h) | h; (have := hFl _ h; omega); omega; omega; omega; omega) (by rw [kill_ne (by omega), kill_ne (by omega), kill_ne (by omega), kill_ne (by omega)]; exact S3) hroom (fun w hl hlay => wnext_of_send items (workerBorn (a0 := a0) (n := n) (cap := cap) ?_)) ?_
  · exact wfSrc hI hSW hL hl hlay
  walk_nrm
  refine opsM_nil ?_
  show wpM _ _ _ _ _ _ _ _ _ _ _
  refine wpM_seq (wpM_region ?_)
  simp only [List.size_toArray, List.length_cons, List.length_nil, Nat.reduceAdd, Nat.zero_add, List.range, List.range.loop]
  obtain ⟨_, _, _, L4, _⟩ := srcF_lay (σ := σ) (s := pw.heap.size) (iv := .slice a0 n cap)
  refine opsM_still (ob := oC (.chan (some (pw.heap.size + 3)))) (x := pw.heap.size + 4) (v := .chan (some (pw.heap.size + 3))) rfl rfl (by intro c e; cases e) L4 (fun h => by have := hSW _ h; omega) (.inl (.inr rfl)) (fun w hw => ?_) ?_
  · have hx := (cell_row1 hw).1
    refine ⟨by go_simp, fun e he => ?_⟩
    simp [go_sem, *] at he
    subst he
    exact ⟨_, _, rfl, rfl⟩
  walk_nrm
  refine opsM_k calmM (fun b hb => ?_) rfl rfl rfl (fun t d K hK => ?_)
  · rcases hb with ((((hb | hb) | hb) | hb) | hb) | hb
    · exact hG b hb
    all_goals omega
  go_simp
  refine hK _ _ (opsM_re ?_)
  clear hK
  walk_nrm
  refine opsM_nil ?_
  show wpM _ _ _ _ _ _ _ _ _ _ _
  refine wpM_ret ?_
  exact hQ _ _ _ rfl hn
end
end Go.Proofs.Ytmllcfkgkkbkpaa
/-
  Stream's OWN CLOSURE AT THE STARTER's VIEW: its way out (close quit, Wait); an append.
-/
namespace Go.Proofs.Ytmllcfkgkkbkpaa
open Go Go.Conc Go.RowKit Go.Conc.Lib Go.ConcR.Gen
open Go.ConcN (upd upd_ne upd_same WgLive)
open Go.ConcR (KK wgBlock WgAt stA smA rd wr mk DC0)
section
variable {P : Program} {ty : TypeId} {z z' : Value} {Post : Value → World → Prop} {σ : Ph} {pw : World} {c : Frame} {cs : List Frame}
/-- The frame of a function, leaving. -/
def outF (f : FuncId) (a : Act) (k : List Item) : Frame := { ({ (default : Frame) with fn := f } : Frame).atR a (.code .ret :: k) with mode := .returning }
/-- A function, walked by hand, from its entry to its 'return', its deferred calls before it. -/
theorem mv_bodyO {f : FuncId} {fn : Func} {cc : Code} {args : Array Value} (hf : P.funcs[f]? = some fn) (hbody : fn.body = some cc)
    (h : ∀ Q : Exit → Act → Ph → World → Prop, (∀ a' σ' pw', (∀ k', MV P ty z z' Post σ' (G (outF f a' k') (c :: cs)) pw') → Q .ret a' σ' pw') → wpM P ty z z' Post (fun b => b.fn = f ∧ b.roundOf = none) cc Q ⟨args ++ Array.replicate (fn.ntmps - args.size) undef, []⟩ σ pw) : MV P ty z z' Post σ (G (Frame.enter P f args .normal) (c :: cs)) pw := by
  have he : Frame.enter P f args .normal = ({ (default : Frame) with fn := f } : Frame).atR ⟨args ++ Array.replicate (fn.ntmps - args.size) undef, []⟩ [.code cc] := by
    simp [Frame.enter, Frame.atR, hf, hbody]
    exact ⟨rfl, rfl⟩
  rw [he]
  refine h (fun e a' σ' pw' => e = .ret ∧ ∀ k', MV P ty z z' Post σ' (G (outF f a' k') (c :: cs)) pw') (fun a' σ' pw' hm => ⟨rfl, hm⟩) _ [] (c :: cs) ⟨rfl, rfl⟩ (fun e => by cases e) fun e a' σ' pw' hq => ?_
  obtain ⟨rfl, hm⟩ := hq
  intro k'
  exact mv_ret rfl (hm k')
end
section
variable {z z' : Value} {Post : Value → World → Prop} {σ : Ph} {pw : World} {c : Frame} {cs : List Frame}
theorem ntWait : Try.f23.ntmps = 84 := by kernel_rfl
theorem nmWait : (Try.f23.name == "runtime.NumGoroutine") = false := by kernel_rfl
theorem app84 (a : Value) : (#[a] : Array Value) ++ Array.replicate (84 - (#[a] : Array Value).size) undef = #[a, undef, undef, undef, undef, undef, undef, undef, undef, undef, undef, undef, undef, undef, undef, undef, undef, undef, undef, undef, undef, undef, undef, undef, undef, undef, undef, undef, undef, undef, undef, undef, undef, undef, undef, undef, undef, undef, undef, undef, undef, undef, undef, undef, undef, undef, undef, undef, undef, undef, undef, undef, undef, undef, undef, undef, undef, undef, undef, undef, undef, undef, undef, undef, undef, undef, undef, undef, undef, undef, undef, undef, undef, undef, undef, undef, undef, undef, undef, undef, undef, undef, undef, undef] := by
  apply Array.ext'
  simp [List.replicate]
theorem bodyWait : Try.f23.body = some (body_wait wgl) := rfl
/-- ████ ITS WAY OUT: close(quit), Wait, the return. ████ -/
theorem strOut {f : FuncId} {fn : Func} {ats : Array TypeId} {a : Act} (hf : Try.prog.funcs[f]? = some fn) (hres : fn.results = #[]) (hnr : (Try.prog.funcs[f]?).any (·.norace) = false) (hd : a.defers = [dCloseA ats σ.quit, dcall 23 #[.pointer (some ⟨σ.Wg, 0, none⟩)]])
    (ht : σ.tag = .opn false) (hd0 : σ.d0 = 0) (hc : σ.closed = false) (hFq : σ.F σ.quit) (hFw : σ.F σ.Wg)
    (hn : ∀ vb, MV Try.prog wtG z z' Post (over1 { σ with closed := true, d0 := 0, vb := vb, tag := .fin }) (G (c.finish (.tuple #[])) cs) pw) (k : List Item) : MV Try.prog wtG z z' Post σ (G (outF f a k) (c :: cs)) pw := by
  refine mv_close (ats := ats) (ds := [dcall 23 #[.pointer (some ⟨σ.Wg, 0, none⟩)]]) rfl hd hnr (by rw [ht]; simp) hc hFq ?_
  refine mv_enterD (ds := []) (cc := body_wait wgl) rfl rfl Try.func23 nmWait bodyWait ?_
  rw [ntWait, app84]
  refine mv_wait (σ := { σ with closed := true }) (L := wgl) wgLib ht hd0 rfl hFw rfl (fun w hl => waitStartX (P := Try.prog) (L := wgl) wgLib (fun _ _ r => r.2) w hl) fun vb => ?_
  refine mv_leave (v := .tuple #[]) rfl hf rfl (fun w => ?_) (hn vb)
  constructor <;> simp [results, hres, go_sem]
end
section
variable {P : Program} {ty : TypeId} {z z' : Value} {Post : Value → World → Prop} {σ : Ph} {pw : World} {fn : Frame → Prop} {Q : Exit → Act → Ph → World → Prop} {a : Act} {pt : TypeId → Bool} {S : FuncId → Bool} {cv : TypeId → TypeId → Bool}
theorem owns_re {w : World} {t : Nat → Question → Nat} {d base : Nat} {e : TypeId} {size n : Nat} {v : Value} {xs : List Value} (h : w.ownsRow base e size v n xs) : (w.re t d).ownsRow base e size v n xs := h
theorem grown_re {w w' : World} {t : Nat → Question → Nat} {d : Nat} {row : Option Nat} (h : (w.re t d).grownBy w' row) : w'.os = w.os ∧ w'.output = w.output ∧ w.heap.size ≤ w'.heap.size ∧ ∀ k, k < w.heap.size → some k ≠ row → w'.heap[k]? = w.heap[k]? := ⟨h.os, h.output, h.size, h.block⟩
/-- ████ append. ████ -/
theorem opsM_app (C : CalmOn pt S cv P) (hG : ∀ b, σ.F b → P.globals.size ≤ b) {ops : Array Oper} {i : Nat} {rest : List Nat} {o : Oper} {s x : Operand} {t tx : TypeId} (ho : ops[i]? = some o) (hw : Region.wanted o (yielded ops a.tmps) = true) (hop : o.op = .call { callee := .builtin .append, args := #[s, x], argTypes := #[t, tx] })
    (base : Nat) {e : TypeId} {z0 : Value} {size bytes : Nat} (ht : P.underlying t = some (.slice e)) (hi : (P.info? e).map (fun i => (i.zero, i.size, i.bytes)) = some (some z0, size, bytes)) (hzs : z0.cells.size = size)
    {v : Value} {n : Nat} {xs : List Value} (hv : a.eval s = v) (hown : pw.ownsRow base e size v n xs) {y : Value} {m : Nat} {news : List Value} (hx : a.eval x = y) (hs : ∀ t d, Src P size tx y m news (pw.re t d))
    (h63 : n + m ≤ maxLen) (hbytes : (n + m + (n + m) / 4 + 512) * bytes ≤ 281474976710656) (hbase : base ≤ pw.heap.size)
    (h : ∀ v' pw', pw'.ownsRow base e size v' (n + m) (xs ++ news) → pw.heap.size ≤ pw'.heap.size → (∀ k, k < pw.heap.size → some k ≠ v.ownBlock → pw'.heap[k]? = pw.heap[k]?) → pw'.os = pw.os → pw'.output = pw.output → OpsM P ty z z' Post fn ops rest Q (a.put o.dst v') σ pw') : OpsM P ty z z' Post fn ops (i :: rest) Q a σ pw := by
  refine opsM_k C hG ho hw (by rw [hop]; rfl) fun td d K hK => ?_
  obtain ⟨i, hi, hz, hz1, hz2⟩ := info_parts hi
  obtain ⟨v', w', hr, h2, h3, h4⟩ := run_append_fit (P := P) (pw.re td d) base t tx o.type e i z0 size bytes ht hi hz hz1 hz2 hzs v n xs (owns_re hown) y m news (hs td d) h63 (fun old hold => Nat.le_trans (Nat.mul_le_mul_right _ (nextslicecap_le _ _ hold)) hbytes) hbase
  unfold execOp
  simp only [hop, resolve, invoke, builtin, Sem.run_bind, Sem.run_pure, Result.andThen_ok, List.map_toArray, List.map_cons, List.map_nil, hv, hx, hr]
  obtain ⟨g1, g2, g3, g4⟩ := grown_re h3
  exact hK _ _ (h v' w' h2 g3 g4 g1 g2)
/-- .. and where the row then lies. -/
theorem opsM_appW (C : CalmOn pt S cv P) (hG : ∀ b, σ.F b → P.globals.size ≤ b) {ops : Array Oper} {i : Nat} {rest : List Nat} {o : Oper} {s x : Operand} {t tx : TypeId} (ho : ops[i]? = some o) (hw : Region.wanted o (yielded ops a.tmps) = true) (hop : o.op = .call { callee := .builtin .append, args := #[s, x], argTypes := #[t, tx] })
    (base : Nat) {e : TypeId} {z0 : Value} {size bytes : Nat} (ht : P.underlying t = some (.slice e)) (hi : (P.info? e).map (fun i => (i.zero, i.size, i.bytes)) = some (some z0, size, bytes)) (hzs : z0.cells.size = size)
    {v : Value} {n : Nat} {xs : List Value} (hv : a.eval s = v) (hown : pw.ownsRow base e size v n xs) {y : Value} {m : Nat} {news : List Value} (hx : a.eval x = y) (hs : ∀ t d, Src P size tx y m news (pw.re t d))
    (h63 : n + m ≤ maxLen) (hbytes : (n + m + (n + m) / 4 + 512) * bytes ≤ 281474976710656) (hbase : base ≤ pw.heap.size)
    (h : ∀ v' pw', pw'.ownsRow base e size v' (n + m) (xs ++ news) → pw.heap.size ≤ pw'.heap.size → (∀ k, k < pw.heap.size → some k ≠ v.ownBlock → pw'.heap[k]? = pw.heap[k]?) → pw'.os = pw.os → pw'.output = pw.output → (v'.ownBlock = v.ownBlock ∨ v'.ownBlock = some pw.heap.size) → OpsM P ty z z' Post fn ops rest Q (a.put o.dst v') σ pw') : OpsM P ty z z' Post fn ops (i :: rest) Q a σ pw := by
  refine opsM_k C hG ho hw (by rw [hop]; rfl) fun td d K hK => ?_
  obtain ⟨i, hi, hz, hz1, hz2⟩ := info_parts hi
  obtain ⟨v', w', hr, h2, h3, h4⟩ := run_append_where (P := P) (pw.re td d) base t tx o.type e i z0 size bytes ht hi hz hz1 hz2 hzs v n xs (owns_re hown) y m news (hs td d) h63 (fun old hold => Nat.le_trans (Nat.mul_le_mul_right _ (nextslicecap_le _ _ hold)) hbytes) hbase
  unfold execOp
  simp only [hop, resolve, invoke, builtin, Sem.run_bind, Sem.run_pure, Result.andThen_ok, List.map_toArray, List.map_cons, List.map_nil, hv, hx, hr]
  obtain ⟨g1, g2, g3, g4⟩ := grown_re h3
  refine hK _ _ (h v' w' h2 g3 g4 g1 g2 ?_)
  rcases h4 with ⟨g, cap, rfl, rfl⟩ | ⟨cap, rfl, _⟩ | ⟨rfl, _, _⟩
  · exact .inl rfl
  · exact .inr rfl
  · exact .inl rfl
end
end Go.Proofs.Ytmllcfkgkkbkpaa
/-
  THE STARTER's VIEW beside workers that make blocks of their own: the heap may have grown at each of its steps.
-/
namespace Go.Proofs.Ytmllcfkgkkbkpaa
open Go Go.Conc Go.Conc.Lib Go.ConcR.Gen
open Go.ConcN (upd upd_ne upd_same WgLive)
open Go.ConcR (KK wgBlock WgAt stA smA rd wr mk DC0)
def MW (P : Program) (ty : TypeId) (z z' : Value) (Post : Value → World → Prop) (σ : Ph) (g : Goroutine) (pw : World) : Prop :=
  σ.tag ≠ .blk → ∀ w, Poi P σ.F (pw.re w.tape w.drawn) w → MS P ty z z' Post (wideP σ pw.heap.size) g w
/-- k blocks have come that are others'. -/
def grW (P : Program) (pw : World) (k : Nat) : World := { pw with heap := pw.heap ++ Array.replicate k (poison P) }
def grP (σ : Ph) (s k : Nat) : Ph := { σ with F := fun x => σ.F x ∨ (s ≤ x ∧ x < s + k) }
section
variable {P : Program} {ty : TypeId} {z z' : Value} {Post : Value → World → Prop} {σ : Ph} {g g' : Goroutine} {pw : World} {k : Nat}
theorem grW_size : (grW P pw k).heap.size = pw.heap.size + k := by simp [grW]
theorem grW_low {x : Nat} (h : x < pw.heap.size) : (grW P pw k).heap[x]? = pw.heap[x]? := by
  show (pw.heap ++ _)[x]? = _
  rw [Array.getElem?_append_left h]
theorem grW_at {x : Nat} (h : x < pw.heap.size) {t : Nat → Question → Nat} {d : Nat} : ((grW P pw k).re t d).heap[x]? = pw.heap[x]? := grW_low h
theorem grW_cell {a : Addr} {v : Value} (h : pw.cell? a = some v) {t : Nat → Question → Nat} {d : Nat} : ((grW P pw k).re t d).cell? a = some v := by
  have hlt := World.block_lt_of_cell? pw a h
  exact (World.cell?_of_block (grW_at hlt)).trans h
theorem grW_zero : grW P pw 0 = pw := by simp [grW]
theorem grW_put {l : Nat} {o : Obj} (h : l < pw.heap.size) : (grW P pw k).putObj l o = grW P (pw.putObj l o) k := by
  simp only [grW, World.putObj]
  congr 1
  apply Array.ext_getElem?
  intro i
  by_cases e : l = i
  · subst e
    rw [Array.getElem?_setIfInBounds_self_of_lt (by simp; omega), Array.getElem?_append_left (by simpa using h), Array.getElem?_setIfInBounds_self_of_lt h]
  · rw [Array.getElem?_setIfInBounds_ne e]
    by_cases hi : i < pw.heap.size
    · rw [Array.getElem?_append_left hi, Array.getElem?_append_left (by simpa using hi), Array.getElem?_setIfInBounds_ne e]
    · rw [Array.getElem?_append_right (by omega), Array.getElem?_append_right (by simp; omega), Array.size_setIfInBounds]
theorem grW_setCell {a : Addr} {v : Value} (h : a.block < pw.heap.size) : (grW P pw k).setCell a v = grW P (pw.setCell a v) k := by
  obtain ⟨b, o, c⟩ := a
  simp only at h
  simp only [grW, World.setCell]
  congr 1
  apply Array.ext_getElem?
  intro i
  rw [Array.getElem?_modify]
  by_cases hi : i < pw.heap.size
  · rw [Array.getElem?_append_left hi, Array.getElem?_append_left (by simpa using hi), Array.getElem?_modify]
  · rw [Array.getElem?_append_right (by omega), Array.getElem?_append_right (by simp; omega), if_neg (by omega), Array.size_modify]
theorem wide_gr {s : Nat} : wideP (grP σ s k) (s + k) = wideP σ s := by
  simp only [wideP, grP]
  congr 1
  funext x
  refine propext ⟨fun h => ?_, fun h => ?_⟩
  · rcases h with (h | h) | h
    · exact .inl h
    · exact .inr h.1
    · exact .inr (by omega)
  · rcases h with h | h
    · exact .inl (.inl h)
    · by_cases h2 : x < s + k
      · exact .inl (.inr ⟨h, h2⟩)
      · exact .inr (by omega)
theorem wide_shed {s b : Nat} (hF : ∀ x, σ.F x → x < s) (hb : s + k ≤ b) : shed (wideP σ s) (s + k) b = wideP (grP σ s k) b := by
  simp only [wideP, grP, shed]
  congr 1
  funext x
  refine propext ⟨fun ⟨h, h2⟩ => ?_, fun h => ?_⟩
  · rcases h with h | h
    · exact .inl (.inl h)
    · by_cases h3 : x < s + k
      · exact .inl (.inr ⟨h, h3⟩)
      · exact .inr (by omega)
  · rcases h with (h | h) | h
    · exact ⟨.inl h, fun y => by have := hF x h; omega⟩
    · exact ⟨.inr h.1, fun y => by omega⟩
    · exact ⟨.inr (by omega), fun y => by omega⟩
/-- The view, behind what others have made. -/
theorem poi_gr {w w₁ : World} (h : Poi P σ.F (pw.re w.tape w.drawn) w) (r : RF (wideP σ pw.heap.size).F w w₁) : ∃ k, w₁.heap.size = pw.heap.size + k ∧ Poi P (grP σ pw.heap.size k).F ((grW P pw k).re w₁.tape w₁.drawn) w₁ := by
  have hs : pw.heap.size = w.heap.size := h.size
  have hr := r.size
  have hFl : ∀ x, σ.F x → x < pw.heap.size := fun x hx => by have := h.low x hx; omega
  refine ⟨w₁.heap.size - w.heap.size, by omega, ?_⟩
  generalize hk : w₁.heap.size - w.heap.size = k
  refine ⟨by show (grW P pw k).heap.size = _; rw [grW_size]; omega, rfl, rfl, h.os.trans r.os.symm, h.output.trans r.output.symm, fun b hb => ?_, fun b hb => ?_, fun b hb => ?_, fun b o hb ho => ?_, fun b o hb ho => ?_⟩
  · show (grW P pw k).heap[b]? = _
    by_cases hlt : b < pw.heap.size
    · rw [grW_low hlt, r.out b fun x => x.elim (fun x => hb (.inl x)) fun x => by omega]
      exact h.out b fun x => hb (.inl x)
    · have hge : pw.heap.size + k ≤ b := Nat.le_of_not_lt fun y => hb (.inr ⟨by omega, y⟩)
      rw [Array.getElem?_eq_none (by rw [grW_size]; omega), Array.getElem?_eq_none (by omega)]
  · rcases hb with hb | hb
    · have := hFl b hb; omega
    · omega
  · show (grW P pw k).heap[b]? = _
    rcases hb with hb | ⟨h1, h2⟩
    · rw [grW_low (hFl b hb)]
      exact h.dead b hb
    · show (pw.heap ++ Array.replicate k (poison P))[b]? = _
      rw [Array.getElem?_append_right h1, Array.getElem?_replicate, if_pos (by omega)]
  · refine r.real (fun x o' hx ho' => ?_) b o (hb.imp _root_.id (·.1)) ho
    have hlt := (Array.getElem?_eq_some_iff.1 ho').1
    exact h.real x o' (hx.resolve_right fun y => by omega) ho'
  · by_cases hlt : b < pw.heap.size
    · refine h.live b o (fun x => hb (.inl x)) ?_
      rw [← r.out b fun x => x.elim (fun x => hb (.inl x)) fun x => by omega]
      exact ho
    · have := (Array.getElem?_eq_some_iff.1 ho).1
      exact absurd (.inr ⟨by omega, by omega⟩) hb
theorem MW.re {t : Nat → Question → Nat} {d : Nat} (h : MW P ty z z' Post σ g (pw.re t d)) : MW P ty z z' Post σ g pw := h
theorem MW.unre {t : Nat → Question → Nat} {d : Nat} (h : MW P ty z z' Post σ g pw) : MW P ty z z' Post σ g (pw.re t d) := h
/-- What holds of the view holds of it grown. -/
theorem mw_gr (h : MW P ty z z' Post σ g pw) (hF : ∀ x, σ.F x → x < pw.heap.size) : MW P ty z z' Post (grP σ pw.heap.size k) g (grW P pw k) := by
  intro hbk w hp
  rw [grW_size, wide_gr]
  have hws : w.heap.size = pw.heap.size + k := by have : (grW P pw k).heap.size = w.heap.size := hp.size; rw [grW_size] at this; omega
  let w0 : World := { w with heap := w.heap.extract 0 pw.heap.size }
  have h0s : w0.heap.size = pw.heap.size := by simp [w0]; omega
  have h0 : ∀ x, x < pw.heap.size → w0.heap[x]? = w.heap[x]? := fun x hx => by
    show (w.heap.extract 0 pw.heap.size)[x]? = _
    rw [Array.getElem?_extract_of_lt (by omega)]
    simp
  have hp0 : Poi P σ.F (pw.re w0.tape w0.drawn) w0 := by
    refine ⟨h0s.symm, rfl, rfl, hp.os, hp.output, fun b hb => ?_, fun b hb => by rw [h0s]; exact hF b hb, fun b hb => ?_, fun b o hb ho => ?_, fun b o hb ho => ?_⟩
    · by_cases hlt : b < pw.heap.size
      · rw [h0 b hlt, ← hp.out b fun x => x.elim hb fun x => by omega]
        exact (grW_low hlt).symm
      · show pw.heap[b]? = w0.heap[b]?
        rw [show pw.heap[b]? = none from Array.getElem?_eq_none (by omega), show w0.heap[b]? = none from Array.getElem?_eq_none (by omega)]
    · have := hp.dead b (.inl hb)
      exact (grW_low (P := P) (k := k) (hF b hb)).symm.trans this
    · exact hp.real b o (.inl hb) (by rw [← h0 b (hF b hb)]; exact ho)
    · have hlt := (Array.getElem?_eq_some_iff.1 ho).1
      exact hp.live b o (fun x => x.elim hb fun x => by omega) (by rw [← h0 b (by omega)]; exact ho)
  refine (h hbk w0 hp0).rely ⟨fun b hb => ?_, by omega, fun b h1 _ => .inr (by omega), fun hr b o hb ho => ?_, rfl, rfl, rfl⟩
  · exact (h0 b (Nat.lt_of_not_le fun y => hb (.inr y))).symm
  · have hlt := (Array.getElem?_eq_some_iff.1 ho).1
    refine hp.real b o ?_ ho
    rcases hb with hb | hb
    · exact .inl hb
    · exact .inr ⟨hb, by omega⟩
/-- A move of control. -/
theorem mw_ctl (hr : g.status = .running) (h : ∀ w, stepG P true g w = .go g' w) (hn : MW P ty z z' Post σ g' pw) : MW P ty z z' Post σ g pw := fun hb w hp =>
  ms_own (σ := wideP σ pw.heap.size) hr hb fun w₁ r₁ _ _ => ⟨g', w₁, #[], h w₁, fun _ _ => rfl, Nat.le_refl _, by simp, (hn hb w hp).rely r₁⟩
/-- An own step. -/
theorem mw_own (hr : g.status = .running) (h : ∀ k w, w.heap.size = pw.heap.size + k → (∀ x, σ.F x → x < pw.heap.size) → Poi P (grP σ pw.heap.size k).F ((grW P pw k).re w.tape w.drawn) w → ∃ g' w' es pw', stepG P true g w = .go g' w' es ∧ (∀ b, (grP σ pw.heap.size k).F b → w'.heap[b]? = w.heap[b]?) ∧ w.heap.size ≤ w'.heap.size ∧ (∀ e ∈ es, EvM (grP σ pw.heap.size k) w'.heap.size e) ∧ Poi P (grP σ pw.heap.size k).F (pw'.re w'.tape w'.drawn) w' ∧ MW P ty z z' Post (grP σ pw.heap.size k) g' pw') : MW P ty z z' Post σ g pw := by
  intro hb w hp
  have hFl : ∀ x, σ.F x → x < pw.heap.size := fun x hx => by have := hp.low x hx; have := hp.size; show x < (pw.re w.tape w.drawn).heap.size; omega
  refine ms_ownG (σ := wideP σ pw.heap.size) hr hb fun w₁ r₁ _ _ => ?_
  obtain ⟨k, hk, hp1⟩ := poi_gr hp r₁
  obtain ⟨g', w', es, pw', h1, h2, h3, h4, h5, h6⟩ := h k w₁ hk hFl hp1
  refine ⟨g', w', es, h1, fun b hlt hF => h2 b ?_, h3, fun e he => ?_, ?_⟩
  · rcases hF with hF | hF
    · exact .inl hF
    · exact .inr ⟨hF, by omega⟩
  · have key : ∀ x, x < w'.heap.size → ¬ (grP σ pw.heap.size k).F x → ¬ (shed (wideP σ pw.heap.size) w₁.heap.size w'.heap.size).F x := fun x hx hn ⟨y1, y2⟩ => by
      rcases y1 with y1 | y1
      · exact hn (.inl y1)
      · exact hn (.inr ⟨y1, Nat.lt_of_not_le fun y3 => y2 ⟨by omega, hx⟩⟩)
    rcases h4 e he with ⟨a, wr, sy, rfl, hl, hF⟩ | ⟨r, wr, sy, rfl, hl, hF⟩ | hm
    · exact .inl ⟨a, wr, sy, rfl, hl, hF.imp (key _ hl) _root_.id⟩
    · exact .inr (.inl ⟨r, wr, sy, rfl, hl, fun hw => key _ hl (hF hw)⟩)
    · exact .inr (.inr hm)
  · have hs' : pw'.heap.size = w'.heap.size := h5.size
    rw [hk, wide_shed hFl (by omega), ← hs']
    exact h6 hb w' h5
/-- .. that lets the worlds be. -/
theorem mw_obj {l : Nat} {o0 ob : Obj} (hr : g.status = .running) (hF : ¬ σ.F l) (hl : pw.heap[l]? = some o0) (hp : objPending ob = false)
    (hgo : ∀ w, w.heap[l]? = some o0 → ∃ es, stepG P true g w = .go g' (w.putObj l ob) es ∧ ∀ e ∈ es, ∃ wr sy, e = ⟨.obj l, wr, sy⟩) (h : MW P ty z z' Post σ g' (pw.putObj l ob)) : MW P ty z z' Post σ g pw := by
  have hlt := (Array.getElem?_eq_some_iff.1 hl).1
  have hps : (pw.putObj l ob).heap.size = pw.heap.size := by simp [World.putObj]
  refine mw_own hr fun k w hk hFl hpo => ?_
  have hF' : ¬ (grP σ pw.heap.size k).F l := fun x => x.elim hF fun x => by omega
  have hlw : w.heap[l]? = some o0 := ((hpo.out l hF').symm.trans (grW_low hlt)).trans hl
  obtain ⟨es, h1, h2⟩ := hgo w hlw
  refine ⟨g', w.putObj l ob, es, grW P (pw.putObj l ob) k, h1, fun x hx => putObj_ne fun e => hF' (e ▸ hx), by simp, fun e he => ?_, ?_, ?_⟩
  · obtain ⟨wr, sy, rfl⟩ := h2 e he
    exact evM_obj (by simp; omega) hF'
  · rw [← grW_put hlt]
    exact poi_putObj hpo hF' hp
  · have := mw_gr (k := k) h (by rw [hps]; exact hFl)
    rw [hps] at this
    exact this
variable {a : Act}
variable (P ty z z' Post) in
def AfterW (b : Frame) (k : List Item) (cs : List Frame) : Exit → Act → Ph → World → Prop
  | .normal, a, σ, pw => MW P ty z z' Post σ (G (b.atR a k) cs) pw
  | .exit id, a, σ, pw => match exitTo id k with
    | some k' => MW P ty z z' Post σ (G (b.atR a k') cs) pw
    | none => ∀ k', exitTo id k' = none → MW P ty z z' Post σ (G (b.atR a (.code (.exit id) :: k')) cs) pw
  | .ret, a, σ, pw => ∀ k', MW P ty z z' Post σ (G (b.atR a (.code .ret :: k')) cs) pw
  | _, _, _, _ => False
theorem AfterW.push {b : Frame} {x : Item} {k : List Item} {cs : List Frame} {e : Exit} {a : Act} (hx : ∀ id, x ≠ .inBlock id) (he : e ≠ .normal) (h : AfterW P ty z z' Post b k cs e a σ pw) : AfterW P ty z z' Post b (x :: k) cs e a σ pw := by
  cases e with
  | normal => exact absurd rfl he
  | exit id =>
    dsimp only [AfterW] at *
    have : exitTo id (x :: k) = exitTo id k := by
      cases x <;> first | rfl | exact absurd rfl (hx _)
    rw [this]
    exact h
  | ret => exact h
  | goto l => exact h
  | panic ch => exact h
  | outgrown => exact h
variable (P ty z z' Post) in
def wpW (fn : Frame → Prop) (c : Code) (Q : Exit → Act → Ph → World → Prop) (a : Act) (σ : Ph) (pw : World) : Prop :=
  ∀ (b : Frame) (k : List Item) (cs : List Frame), fn b → b.kind ≠ .early → (∀ e a' σ' pw', Q e a' σ' pw' → AfterW P ty z z' Post b k cs e a' σ' pw') → MW P ty z z' Post σ (G (b.atR a (.code c :: k)) cs) pw
variable {fn : Frame → Prop} {Q : Exit → Act → Ph → World → Prop} {b c : Frame} {kk : List Item} {cs : List Frame}
theorem wpW_skip (h : Q .normal a σ pw) : wpW P ty z z' Post fn .skip Q a σ pw := fun b k cs _ _ hc =>
  mw_ctl rfl (fun w => by simp [G, stepG, stepG.exec, Frame.atR]) (hc _ _ _ _ h)
theorem wpW_ret (h : Q .ret a σ pw) : wpW P ty z z' Post fn .ret Q a σ pw := fun _ k _ _ _ hc => hc _ _ _ _ h k
theorem wpW_exit {id : Nat} (h : Q (.exit id) a σ pw) : wpW P ty z z' Post fn (.exit id) Q a σ pw := by
  intro b k cs _ _ hc
  have := hc _ _ _ _ h
  dsimp only [AfterW] at this
  cases he : exitTo id k with
  | some k' =>
    rw [he] at this
    exact mw_ctl rfl (fun w => by simp [G, stepG, stepG.exec, Frame.atR, he]) this
  | none =>
    rw [he] at this
    exact this k he
theorem wpW_seq {x y : Code} (h : wpW P ty z z' Post fn x (thenM (fun a' σ' pw' => wpW P ty z z' Post fn y Q a' σ' pw') Q) a σ pw) : wpW P ty z z' Post fn (.seq x y) Q a σ pw := by
  intro b k cs hb hk hc
  refine mw_ctl rfl (fun w => by simp [G, stepG, stepG.exec, Frame.atR]) (h b (.code y :: k) cs hb hk fun e a' σ' pw' q => ?_)
  cases e with
  | normal => exact q b k cs hb hk hc
  | exit id => exact (hc _ _ _ _ q).push (by simp) (by simp)
  | ret => exact (hc _ _ _ _ q).push (x := .code y) (by simp) (by simp)
  | goto l => exact hc _ _ _ _ q
  | panic ch => exact hc _ _ _ _ q
  | outgrown => exact hc _ _ _ _ q
theorem wpW_cond {c : Operand} {x y : Code} {t : Bool} (hc : a.eval c = .bool t) (h : wpW P ty z z' Post fn (if t then x else y) Q a σ pw) : wpW P ty z z' Post fn (.cond c x y) Q a σ pw := by
  intro b k cs hb hk hq
  refine mw_ctl rfl (fun w => ?_) (h b k cs hb hk hq)
  have e := congrFun (Frame.eval_atR b a (.code (.cond c x y) :: k)) c
  simp only [Frame.atR] at e
  simp [G, stepG, stepG.exec, Frame.atR, e, hc]
theorem wpW_block {id : Nat} {c : Code} (h : wpW P ty z z' Post fn c (inBlockM id Q) a σ pw) : wpW P ty z z' Post fn (.block id c) Q a σ pw := by
  intro b k cs hb hk hc
  refine mw_ctl rfl (fun w => by simp [G, stepG, stepG.exec, Frame.atR]) (h b (.inBlock id :: k) cs hb hk fun e a' σ' pw' q => ?_)
  cases e with
  | normal => exact mw_ctl rfl (fun w => by simp [G, stepG, stepG.exec, Frame.atR]) (hc _ _ _ _ q)
  | exit id' =>
    by_cases hid : id' = id
    · simp only [inBlockM, hid, if_true] at q
      dsimp only [AfterW]
      simp only [exitTo, hid, beq_self_eq_true, if_true]
      exact hc _ _ _ _ q
    · simp only [inBlockM, hid, if_false] at q
      have := hc _ _ _ _ q
      dsimp only [AfterW] at *
      have e : (id == id') = false := by simp; exact fun h => hid h.symm
      simp only [exitTo, e]
      exact this
  | ret => exact hc _ _ _ _ q
  | goto l => exact hc _ _ _ _ q
  | panic ch => exact hc _ _ _ _ q
  | outgrown => exact hc _ _ _ _ q
theorem wpW_loop {c : Code} (I : Act → Ph → World → Prop) (μ : Act → Ph → World → Nat) (h₀ : I a σ pw) (round : ∀ a σ pw, I a σ pw → wpW P ty z z' Post fn c (thenM (fun a' σ' pw' => I a' σ' pw' ∧ μ a' σ' pw' < μ a σ pw) Q) a σ pw) : wpW P ty z z' Post fn (.loop c) Q a σ pw := by
  intro b k cs hb hk hc
  have key : ∀ N a σ pw, μ a σ pw ≤ N → I a σ pw → MW P ty z z' Post σ (G (b.atR a (.code c :: .inLoop c :: k)) cs) pw := by
    intro N
    induction N with
    | zero =>
      intro a σ pw hμ hI
      refine round a σ pw hI b (.inLoop c :: k) cs hb hk fun e a' σ' pw' q => ?_
      cases e with
      | normal => exact absurd q.2 (by omega)
      | exit id => exact (hc _ _ _ _ q).push (by simp) (by simp)
      | ret => exact (hc _ _ _ _ q).push (x := .inLoop c) (by simp) (by simp)
      | goto l => exact hc _ _ _ _ q
      | panic ch => exact hc _ _ _ _ q
      | outgrown => exact hc _ _ _ _ q
    | succ N ih =>
      intro a σ pw hμ hI
      refine round a σ pw hI b (.inLoop c :: k) cs hb hk fun e a' σ' pw' q => ?_
      cases e with
      | normal => exact mw_ctl rfl (fun w => by simp [G, stepG, stepG.exec, Frame.atR]) (ih a' σ' pw' (by have := q.2; omega) q.1)
      | exit id => exact (hc _ _ _ _ q).push (by simp) (by simp)
      | ret => exact (hc _ _ _ _ q).push (x := .inLoop c) (by simp) (by simp)
      | goto l => exact hc _ _ _ _ q
      | panic ch => exact hc _ _ _ _ q
      | outgrown => exact hc _ _ _ _ q
  exact mw_ctl rfl (fun w => by simp [G, stepG, stepG.exec, Frame.atR]) (key _ a σ pw (Nat.le_refl _) h₀)
variable (P ty z z' Post) in
def OpsW (fn : Frame → Prop) (ops : Array Oper) (todo : List Nat) (Q : Exit → Act → Ph → World → Prop) (a : Act) (σ : Ph) (pw : World) : Prop :=
  ∀ (b : Frame) (k : List Item) (cs : List Frame), fn b → b.kind ≠ .early → (∀ e a' σ' pw', Q e a' σ' pw' → AfterW P ty z z' Post b k cs e a' σ' pw') → MW P ty z z' Post σ (G (b.atR a (.inRegion ops todo :: k)) cs) pw
theorem wpW_region {id : Nat} {ops : Array Oper} (h : OpsW P ty z z' Post fn ops (List.range ops.size) Q a σ pw) : wpW P ty z z' Post fn (.region id ops false) Q a σ pw := fun b k cs hb hk hc =>
  mw_ctl rfl (fun w => by simp [G, stepG, stepG.exec, Frame.atR]) (h b k cs hb hk hc)
theorem opsW_nil {ops : Array Oper} (h : Q .normal a σ pw) : OpsW P ty z z' Post fn ops [] Q a σ pw := fun b k cs _ _ hc =>
  mw_ctl rfl (fun w => by simp [G, stepG, stepG.exec, Frame.atR]) (hc _ _ _ _ h)
theorem opsW_unwanted {ops : Array Oper} {i : Nat} {rest : List Nat} {o : Oper} (ho : ops[i]? = some o) (hw : Region.wanted o (yielded ops a.tmps) = false) (h : OpsW P ty z z' Post fn ops rest Q (a.put o.dst undef) σ pw) : OpsW P ty z z' Post fn ops (i :: rest) Q a σ pw := by
  intro b k cs hb hk hc
  have hfin : (b.atR a (.inRegion ops (i :: rest) :: k)).finish undef = b.atR (a.put o.dst undef) (.inRegion ops rest :: k) := by rw [Frame.finish_atR, ho]; rfl
  refine mw_ctl rfl (fun w => ?_) (h b k cs hb hk hc)
  rw [← hfin]
  simp [G, stepG, stepG.exec, Frame.atR, ho, hw]
theorem opsW_enter {ops : Array Oper} {i : Nat} {rest : List Nat} {o : Oper} {f : FuncId} {args : Array Value} (ho : ops[i]? = some o) (hw : Region.wanted o (yielded ops a.tmps) = true) (hnd : ∀ c, o.op ≠ .defer c)
    (hrun : ∀ w, (execOp a.eval o).run P w = .ok (.enter f args) w ∧ (execOp a.eval o).events P w #[] = #[])
    (h : ∀ (base : Frame) (cs : List Frame), (∀ v σ' pw', OpsW P ty z z' Post fn ops rest Q (a.put o.dst v) σ' pw' → MW P ty z z' Post σ' (G (base.finish v) cs) pw') → MW P ty z z' Post σ (G (Frame.enter P f args .normal) (base :: cs)) pw) : OpsW P ty z z' Post fn ops (i :: rest) Q a σ pw := by
  intro b k cs hb hk hc
  have hk' : (b.kind == CallKind.early) = false := by simpa using hk
  have hfin : ∀ v, (b.atR a (.inRegion ops (i :: rest) :: k)).finish v = b.atR (a.put o.dst v) (.inRegion ops rest :: k) := fun v => by rw [Frame.finish_atR, ho]; rfl
  refine mw_ctl (g' := G (Frame.enter P f args .normal) (b.atR a (.inRegion ops (i :: rest) :: k) :: cs)) rfl (fun w => ?_) (h _ _ fun v σ' pw' hx => ?_)
  · rw [stepG_operR ho hw hnd]
    have hs : seen P b.fn #[] = #[] := seen_none P b.fn
    simp [stepG.apply, (hrun w).1, (hrun w).2, hk', GStep.after, G, Frame.atR, hs]
  · rw [hfin]
    exact hx b k cs hb hk hc
theorem opsW_re {ops : Array Oper} {todo : List Nat} {t : Nat → Question → Nat} {d : Nat} (h : OpsW P ty z z' Post fn ops todo Q a σ pw) : OpsW P ty z z' Post fn ops todo Q a σ (pw.re t d) := fun b k cs hb hk hq => (h b k cs hb hk hq).unre
theorem mw_beginRound {k : List Item} {l : Nat} {r : Loop} (hro : b.roundOf = some l) (hek : b.kind ≠ .early) (hF : ¬ σ.F l) (hl : pw.heap[l]? = some (.loop r)) (hst : r.state = .ready) (h : MW P ty z z' Post σ (G (b.atR a k) cs) (pw.putObj l (.loop { r with state := .busy }))) : MW P ty z z' Post σ (G (b.atR a (.beginRound :: k)) cs) pw := by
  have hek' : (b.kind == CallKind.early) = false := by simpa using hek
  refine mw_obj rfl hF hl rfl (fun w hw => ⟨_, ?_, seen_obj (P := P) (f := b.fn) two_obj⟩) h
  have hT := runT_beginRound (P := P) hw hst
  simp only [Sem.runT_eq, Prod.mk.injEq] at hT
  simp [G, stepG, stepG.exec, stepG.apply, Frame.atR, hro, Sem.runT_eq, hT.1, hT.2, Result.andThen, Frame.finish, hek', GStep.after]
theorem mw_endRound {l : Nat} {r : Loop} (hro : b.roundOf = some l) (hk : b.kind = .normal) (hF : ¬ σ.F l) (hl : pw.heap[l]? = some (.loop r)) (h : MW P ty z z' Post σ (G (c.finish (.bool true)) cs) (pw.putObj l (.loop { r with state := .ready, pending := none }))) : MW P ty z z' Post σ (G (b.atR a []) (c :: cs)) pw := by
  refine mw_obj rfl hF hl rfl (fun w hw => ⟨_, ?_, seen_obj (P := P) (f := b.fn) two_obj⟩) h
  have hT := runT_endRound (P := P) none hw
  simp only [Sem.runT_eq, Prod.mk.injEq] at hT
  simp [G, stepG, stepG.exec, Frame.atR, hro, hk, Sem.runT_eq, hT.1, hT.2, GStep.after, doReturn]
theorem mw_exitRound {k : List Item} {l id : Nat} {r : Loop} (hro : b.roundOf = some l) (hk : b.kind = .normal) (hx : exitTo id k = none) (hF : ¬ σ.F l) (hl : pw.heap[l]? = some (.loop r)) (h : MW P ty z z' Post σ (G (c.finish (.bool false)) cs) (pw.putObj l (.loop { r with state := .done, pending := some (.exit id) }))) : MW P ty z z' Post σ (G (b.atR a (.code (.exit id) :: k)) (c :: cs)) pw := by
  refine mw_obj rfl hF hl rfl (fun w hw => ⟨_, ?_, seen_obj (P := P) (f := b.fn) two_obj⟩) h
  have hT := runT_endRound (P := P) (some (.exit id)) hw
  simp only [Sem.runT_eq, Prod.mk.injEq] at hT
  have e1 := hT.1
  have e2 := hT.2
  simp at e1
  simp [G, stepG, stepG.exec, Frame.atR, hro, hk, hx, Sem.runT_eq, e1, e2, GStep.after, doReturn]
theorem mw_endRange {k : List Item} {l : Nat} {r : Loop} (hF : ¬ σ.F l) (hl : pw.heap[l]? = some (.loop r)) (hst : r.state ≠ .busy) (h : MW P ty z z' Post σ (G (b.atR a ((r.pending.map Item.code).toList ++ k)) cs) (pw.putObj l (.loop { r with state := .exhausted }))) : MW P ty z z' Post σ (G (b.atR a (.endRangeFunc l :: k)) cs) pw := by
  refine mw_obj rfl hF hl rfl (fun w hw => ⟨_, ?_, seen_obj (P := P) (f := b.fn) two_obj⟩) h
  have hT := runT_endLoop (P := P) hw hst
  simp only [Sem.runT_eq, Prod.mk.injEq] at hT
  simp [G, stepG, stepG.exec, Frame.atR, Sem.runT_eq, hT.1, hT.2, GStep.after]
theorem mw_ret {k : List Item} (hro : b.roundOf = none) (h : MW P ty z z' Post σ (G { b.atR a (.code .ret :: k) with mode := .returning } cs) pw) : MW P ty z z' Post σ (G (b.atR a (.code .ret :: k)) cs) pw :=
  mw_ctl rfl (fun w => by simp [G, stepG, stepG.exec, Frame.atR, hro]) h
theorem mw_fin (hro : b.roundOf = none) (h : MW P ty z z' Post σ (G { b.atR a [] with mode := .returning } cs) pw) : MW P ty z z' Post σ (G (b.atR a []) cs) pw :=
  mw_ctl rfl (fun w => by simp [G, stepG, stepG.exec, Frame.atR, hro]) h
theorem mw_collected {k : List Item} {l : Nat} {ds : List Deferred} (hd : a.defers = { target := .collected l, args := #[] } :: ds) (hF : ¬ σ.F l) (hl : pw.heap[l]? = some (.deferred (some []))) (h : MW P ty z z' Post σ (G { b.atR ⟨a.tmps, ds⟩ k with mode := .returning } cs) (pw.putObj l (.deferred none))) : MW P ty z z' Post σ (G { b.atR a k with mode := .returning } cs) pw := by
  refine mw_obj rfl hF hl rfl (fun w hw => ⟨_, ?_, seen_obj (P := P) (f := b.fn) two_obj⟩) h
  have hT := runT_takeDeferred (P := P) hw
  simp only [Sem.runT_eq, Prod.mk.injEq] at hT
  simp [G, stepG, unwind, Frame.atR, hd, Sem.runT_eq, hT.1, hT.2, GStep.after]
theorem mw_leave {k : List Item} {fn : Func} {v : Value} (hd : a.defers = []) (hf : P.funcs[b.fn]? = some fn) (hk : b.kind = .normal) (hrun : ∀ w, (results fn a.tmps).run P w = .ok v w ∧ (results fn a.tmps).events P w #[] = #[]) (h : MW P ty z z' Post σ (G (c.finish v) cs) pw) : MW P ty z z' Post σ (G { b.atR a k with mode := .returning } (c :: cs)) pw := by
  have hs : seen P b.fn #[] = #[] := seen_none P b.fn
  exact mw_ctl rfl (fun w => by simp [G, stepG, unwind, Frame.atR, hd, hf, hk, Sem.runT_eq, (hrun w).1, (hrun w).2, GStep.after, doReturn, hs]) h
theorem mw_enterD {k : List Item} {f : FuncId} {fn : Func} {cc : Code} {args : Array Value} {ds : List Deferred} (hro : b.roundOf = none) (hd : a.defers = dcall f args :: ds) (hf : P.funcs[f]? = some fn) (hname : (fn.name == "runtime.NumGoroutine") = false) (hb : fn.body = some cc)
    (h : MW P ty z z' Post σ (G ((baseD f).at { tmps := args ++ Array.replicate (fn.ntmps - args.size) undef, defers := [] } [.code cc]) ({ b.atR ⟨a.tmps, ds⟩ k with mode := .returning } :: cs)) pw) : MW P ty z z' Post σ (G { b.atR a k with mode := .returning } cs) pw := by
  rw [Frame.atR_of_none hro] at h ⊢
  exact mw_ctl rfl (fun w => stepG_unwind_enter hd hf hname hb) h
/-- ████ A ROUND BEGINS. ████ -/
theorem opsW_yield {ops : Array Oper} {i : Nat} {rest : List Nat} {o : Oper} {x : Operand} {xs0 : Array Operand} {ats : Array TypeId} {l : Nat} {r : Loop} (ho : ops[i]? = some o) (hw : Region.wanted o (yielded ops a.tmps) = true) (hop : o.op = .call { callee := .value x, args := xs0, argTypes := ats }) (hx : a.eval x = .func (.yield l) #[] #[]) (hF : ¬ σ.F l) (hl : pw.heap[l]? = some (.loop r)) (hs : xs0.size = r.params.size)
    (h : ∀ (base : Frame) (cs : List Frame), (∀ v σ' pw', OpsW P ty z z' Post fn ops rest Q (a.put o.dst v) σ' pw' → MW P ty z z' Post σ' (G (base.finish v) cs) pw') →
      MW P ty z z' Post σ (G (Frame.round l r.fn ((r.params.zip (xs0.map a.eval)).foldl (fun tmps (t, a) => tmps.setIfInBounds t a) r.tmps) r.assign r.body .normal) (base :: cs)) pw) : OpsW P ty z z' Post fn ops (i :: rest) Q a σ pw := by
  intro b k cs hb hk hc
  have hk' : (b.kind == CallKind.early) = false := by simpa using hk
  have hfin : ∀ v, (b.atR a (.inRegion ops (i :: rest) :: k)).finish v = b.atR (a.put o.dst v) (.inRegion ops rest :: k) := fun v => by rw [Frame.finish_atR, ho]; rfl
  have hm := h (b.atR a (.inRegion ops (i :: rest) :: k)) cs fun v σ' pw' hx => by
    rw [hfin]
    exact hx b k cs hb hk hc
  have hlp := (Array.getElem?_eq_some_iff.1 hl).1
  refine mw_own rfl fun κ w hk2 hFl hpo => ?_
  have hF' : ¬ (grP σ pw.heap.size κ).F l := fun x => x.elim hF fun x => by omega
  have hlw : w.heap[l]? = some (.loop r) := ((hpo.out l hF').symm.trans (grW_low hlp)).trans hl
  have hlt := (Array.getElem?_eq_some_iff.1 hlw).1
  have hT := runT_yieldOp (P := P) (a := a) hop hx hlw hs
  refine ⟨_, w, seen P b.fn #[⟨.obj l, false, false⟩], grW P pw κ, ?_, fun _ _ => rfl, Nat.le_refl _, fun e he => ?_, hpo, mw_gr hm hFl⟩
  · rw [stepG_operR ho hw (by rw [hop]; intro c e; cases e)]
    simp only [stepG.apply, hT, if_true]
    simp [hk', GStep.after, G, Frame.atR]
  · have := mem_seen he
    simp at this
    subst this
    exact evM_obj hlt hF'
theorem opsW_defer {ops : Array Oper} {i : Nat} {rest : List Nat} {o : Oper} {d : Deferred} (hB : ∀ b, fn b → b.roundOf = none) (ho : ops[i]? = some o) (hw : Region.wanted o (yielded ops a.tmps) = true) (hrun : ∀ w, (execOp a.eval o).run P w = .ok (.defer d) w ∧ (execOp a.eval o).events P w #[] = #[])
    (h : OpsW P ty z z' Post fn ops rest Q (Act.put ⟨a.tmps, d :: a.defers⟩ o.dst undef) σ pw) : OpsW P ty z z' Post fn ops (i :: rest) Q a σ pw := by
  intro b k cs hb hk hc
  have hk' : (b.kind == CallKind.early) = false := by simpa using hk
  have hro := hB b hb
  have hfin : (b.at ⟨a.tmps, d :: a.defers⟩ (.inRegion ops (i :: rest) :: k)).finish undef = b.at (Act.put ⟨a.tmps, d :: a.defers⟩ o.dst undef) (.inRegion ops rest :: k) := by rw [Frame.finish_at, ho]; rfl
  refine mw_ctl rfl (fun w => ?_) (h b k cs hb hk hc)
  rw [Frame.atR_of_none hro, Frame.atR_of_none hro, stepG_oper ho hw, ← hfin]
  have hs : seen P b.fn #[] = #[] := seen_none P b.fn
  simp [stepG.apply, Sem.runT_eq, (hrun w).1, (hrun w).2, G, Frame.at, hk', GStep.after, hs]
theorem mw_body {f : FuncId} {fn : Func} {cc : Code} {args : Array Value} {c : Frame} (hf : P.funcs[f]? = some fn) (hbody : fn.body = some cc)
    (h : wpW P ty z z' Post (fun b => b.fn = f ∧ b.roundOf = none) cc (fun e a' σ' pw' => e = .ret ∧ a'.defers = [] ∧ ∃ v, (∀ w, (results fn a'.tmps).run P w = .ok v w ∧ (results fn a'.tmps).events P w #[] = #[]) ∧ MW P ty z z' Post σ' (G (c.finish v) cs) pw') ⟨args ++ Array.replicate (fn.ntmps - args.size) undef, []⟩ σ pw) : MW P ty z z' Post σ (G (Frame.enter P f args .normal) (c :: cs)) pw := by
  have he : Frame.enter P f args .normal = ({ (default : Frame) with fn := f } : Frame).atR ⟨args ++ Array.replicate (fn.ntmps - args.size) undef, []⟩ [.code cc] := by
    simp [Frame.enter, Frame.atR, hf, hbody]
    exact ⟨rfl, rfl⟩
  rw [he]
  refine h _ [] (c :: cs) ⟨rfl, rfl⟩ (fun e => by cases e) fun e a' σ' pw' hq => ?_
  obtain ⟨rfl, hd, v, hrun, hm⟩ := hq
  intro k'
  refine mw_ret rfl (mw_leave hd hf rfl hrun hm)
theorem mw_body1 {f : FuncId} {fn : Func} {cc : Code} {args : Array Value} {c : Frame} {r : Tmp} (hf : P.funcs[f]? = some fn) (hbody : fn.body = some cc) (hr : fn.results = #[.tmp r])
    (h : ∀ Q : Exit → Act → Ph → World → Prop, (∀ a' σ' pw', a'.defers = [] → MW P ty z z' Post σ' (G (c.finish (a'.tmps.getD r undef)) cs) pw' → Q .ret a' σ' pw') → wpW P ty z z' Post (fun b => b.fn = f ∧ b.roundOf = none) cc Q ⟨args ++ Array.replicate (fn.ntmps - args.size) undef, []⟩ σ pw) : MW P ty z z' Post σ (G (Frame.enter P f args .normal) (c :: cs)) pw :=
  mw_body hf hbody (h _ fun _a' _ _ hd hm => ⟨rfl, hd, _, run_results1 hr, hm⟩)
/-! ### operations -/
/-- A calm operation: the heap may have grown. -/
theorem opsW_k {pt : TypeId → Bool} {S : FuncId → Bool} {cv : TypeId → TypeId → Bool} (C : CalmOn pt S cv P) (hG : ∀ b, σ.F b → P.globals.size ≤ b) (hgs : P.globals.size ≤ pw.heap.size) {ops : Array Oper} {i : Nat} {rest : List Nat} {o : Oper} (ho : ops[i]? = some o) (hw : Region.wanted o (yielded ops a.tmps) = true) (hco : calmOp pt S cv o.op = true)
    (h : ∀ κ t d (K : Act → World → Prop), (∀ a' pw', OpsW P ty z z' Post fn ops rest Q a' (grP σ pw.heap.size κ) pw' → K a' pw') → uponV o a K ((execOp a.eval o).run P ((grW P pw κ).re t d))) : OpsW P ty z z' Post fn ops (i :: rest) Q a σ pw := by
  intro b k cs hb hk hc
  have hk' : (b.kind == CallKind.early) = false := by simpa using hk
  have hnd : ∀ c, o.op ≠ .defer c := by intro c e; rw [e] at hco; cases hco
  have hfin : ∀ v, (b.atR a (.inRegion ops (i :: rest) :: k)).finish v = b.atR (a.put o.dst v) (.inRegion ops rest :: k) := fun v => by rw [Frame.finish_atR, ho]; rfl
  refine mw_own rfl fun κ w hκ hFl hpo => ?_
  have hGk : ∀ b, (grP σ pw.heap.size κ).F b → P.globals.size ≤ b := fun b hb => hb.elim (hG b) fun h => by omega
  have hI : Ins P (grP σ pw.heap.size κ).F (execOp a.eval o) _ := Ins.execOp C.toCalmIn hGk (fun f => rfl) hco
  have hrun := h κ w.tape w.drawn (fun a' pw' => OpsW P ty z z' Post fn ops rest Q a' (grP σ pw.heap.size κ) pw') fun _ _ h => h
  cases hr : (execOp a.eval o).run P ((grW P pw κ).re w.tape w.drawn) with
  | halt x w' => rw [hr] at hrun; exact hrun.elim
  | ok x pw' =>
    rw [hr] at hrun
    obtain ⟨_, w', new, hT, hev, hp', hgt⟩ := hI.ok _ _ #[] x pw' hpo hr
    have hT2 := hT
    rw [Sem.runT_eq, Prod.mk.injEq] at hT2
    obtain ⟨hr2, hev2⟩ := hT2
    have fin : ∀ v, (x = .value v ∨ (x = .skip ∧ v = undef)) → OpsW P ty z z' Post fn ops rest Q (a.put o.dst v) (grP σ pw.heap.size κ) pw' → ∃ g' w' es pw', stepG P true (G (b.atR a (.inRegion ops (i :: rest) :: k)) cs) w = .go g' w' es ∧ (∀ b, (grP σ pw.heap.size κ).F b → w'.heap[b]? = w.heap[b]?) ∧ w.heap.size ≤ w'.heap.size ∧ (∀ e ∈ es, EvM (grP σ pw.heap.size κ) w'.heap.size e) ∧ Poi P (grP σ pw.heap.size κ).F (pw'.re w'.tape w'.drawn) w' ∧ MW P ty z z' Post (grP σ pw.heap.size κ) g' pw' := fun v hv hq => by
      refine ⟨G (b.atR (a.put o.dst v) (.inRegion ops rest :: k)) cs, w', seen P b.fn ((execOp a.eval o).events P w #[]), pw', ?_, hgt.same, hgt.size, fun e he => ?_, ?_, hq b k cs hb hk hc⟩
      · rw [stepG_operR ho hw hnd, ← hfin]
        rcases hv with rfl | ⟨rfl, rfl⟩ <;> simp [stepG.apply, Sem.runT_eq, hr2, hk', GStep.after, G, Frame.atR]
      · have := mem_seen he
        rw [hev2] at this
        exact evM_of_evOk (hev e (by simpa using this))
      · rw [re_poi hp']
        exact hp'
    cases x <;> first
      | exact hrun.elim
      | exact fin _ (.inl rfl) hrun
      | exact fin _ (.inr ⟨rfl, rfl⟩) hrun
theorem opsW_gr {κ : Nat} {ops : Array Oper} {todo : List Nat} (h : OpsW P ty z z' Post fn ops todo Q a σ pw) (hF : ∀ x, σ.F x → x < pw.heap.size) : OpsW P ty z z' Post fn ops todo Q a (grP σ pw.heap.size κ) (grW P pw κ) := fun b k cs hb hk hc => mw_gr (h b k cs hb hk hc) hF
/-- .. that reads alone. -/
theorem opsW_read {pt : TypeId → Bool} {S : FuncId → Bool} {cv : TypeId → TypeId → Bool} (C : CalmOn pt S cv P) (hG : ∀ b, σ.F b → P.globals.size ≤ b ∧ b < pw.heap.size) (hgs : P.globals.size ≤ pw.heap.size) {ops : Array Oper} {i : Nat} {rest : List Nat} {o : Oper} (ho : ops[i]? = some o) (hw : Region.wanted o (yielded ops a.tmps) = true) (hco : calmOp pt S cv o.op = true)
    (h : ∀ κ t d (K : Act → World → Prop), (∀ a', OpsW P ty z z' Post fn ops rest Q a' σ pw → K a' ((grW P pw κ).re t d)) → uponV o a K ((execOp a.eval o).run P ((grW P pw κ).re t d))) : OpsW P ty z z' Post fn ops (i :: rest) Q a σ pw :=
  opsW_k C (fun b hb => (hG b hb).1) hgs ho hw hco fun κ t d K hK => h κ t d K fun a' ha => hK a' _ (opsW_re (opsW_gr ha fun x hx => (hG x hx).2))
/-- .. that stores. -/
theorem opsW_set {pt : TypeId → Bool} {S : FuncId → Bool} {cv : TypeId → TypeId → Bool} (C : CalmOn pt S cv P) (hG : ∀ b, σ.F b → P.globals.size ≤ b ∧ b < pw.heap.size) (hgs : P.globals.size ≤ pw.heap.size) {ops : Array Oper} {i : Nat} {rest : List Nat} {o : Oper} (ho : ops[i]? = some o) (hw : Region.wanted o (yielded ops a.tmps) = true) (hco : calmOp pt S cv o.op = true) (x : Addr) (v : Value) (hx : x.block < pw.heap.size)
    (h : ∀ κ t d (K : Act → World → Prop), (∀ a', OpsW P ty z z' Post fn ops rest Q a' σ (pw.setCell x v) → K a' (((grW P pw κ).setCell x v).re t d)) → uponV o a K ((execOp a.eval o).run P ((grW P pw κ).re t d))) : OpsW P ty z z' Post fn ops (i :: rest) Q a σ pw :=
  opsW_k C (fun b hb => (hG b hb).1) hgs ho hw hco fun κ t d K hK => h κ t d K fun a' ha => hK a' _ (opsW_re (by
    have hs : (pw.setCell x v).heap.size = pw.heap.size := by simp
    rw [grW_setCell hx]
    have := opsW_gr (κ := κ) ha (by rw [hs]; exact fun y hy => (hG y hy).2)
    rw [hs] at this
    exact this))
/-- ████ RECEIVE. ████ -/
theorem opsW_recv {ops : Array Oper} {i : Nat} {rest : List Nat} {o : Oper} {zz : Value} {j : Nat} {v : Value} {vs : List Value} (ho : ops[i]? = some o) (hw : Region.wanted o (yielded ops a.tmps) = true) (hnd : ∀ c, o.op ≠ .defer c)
    (hrun : ∀ w, (execOp a.eval o).run P w = .ok (.comm #[rcase (σ.ch j) zz] true (.recv true)) w ∧ (execOp a.eval o).events P w #[] = #[])
    (hc : σ.closed = false) (hr : σ.rem j = v :: vs) (j0 : σ.first ≤ j) (hj : j < σ.first + σ.n)
    (h : OpsW P ty z z' Post fn ops rest Q (a.put o.dst (.tuple #[v, .bool true])) (took σ j vs) pw) : OpsW P ty z z' Post fn ops (i :: rest) Q a σ pw := by
  intro b k cs hb hk hq hbk w hp
  have hk' : (b.kind == CallKind.early) = false := by simpa using hk
  have hfin : ∀ v, (b.atR a (.inRegion ops (i :: rest) :: k)).finish v = b.atR (a.put o.dst v) (.inRegion ops rest :: k) := fun v => by rw [Frame.finish_atR, ho]; rfl
  refine ms_recv (σ := wideP σ pw.heap.size) (zz := zz) rfl hbk hc hr j0 hj (fun w₁ r₁ => ?_) fun w' r' => ?_
  · rw [stepG_operR ho hw hnd]
    have hs : seen P b.fn #[] = #[] := seen_none P b.fn
    have := (hrun w₁).1
    simp [wideP, stepG.apply, (hrun w₁).1, (hrun w₁).2, hk', GStep.after, G, Frame.atR, hs, core]
  · have := h b k cs hb hk hq hbk w hp
    rw [← hfin] at this
    exact MS.rely (σ := wideP (took σ j vs) pw.heap.size) this r'
/-- ████ A go STATEMENT. ████ -/
theorem opsW_spawn {ops : Array Oper} {i : Nat} {rest : List Nat} {o : Oper} {d : Deferred} {f : Fn} {cap : Array Value} {c room : Nat} {items : List Value} (ho : ops[i]? = some o) (hw : Region.wanted o (yielded ops a.tmps) = true) (hnd : ∀ c, o.op ≠ .defer c)
    (hrun : ∀ w, (execOp a.eval o).run P w = .ok (.spawn d) w ∧ (execOp a.eval o).events P w #[] = #[]) (hd : d.target = .fn f cap)
    (ht : σ.tag = .opn true) (hc : σ.closed = false) (hd0 : σ.d0 = 0) (hcF : ¬ σ.F c) (hcw : pw.heap[c]? = some (.chan 0 #[] false 0 0 false)) (hroom : σ.room = room + 1)
    (hch : ∀ w, WgLive ty σ.Wg w → (∀ b o, σ.lay b = some o → w.heap[b]? = some o) → WNext P ty σ.Wg σ.quit c (stillK σ) z z' true items noO (born P d) w)
    (h : OpsW P ty z z' Post fn ops rest Q (a.put o.dst undef) (spawned σ c items room) (killW P pw c)) : OpsW P ty z z' Post fn ops (i :: rest) Q a σ pw := by
  intro b k cs hb hk hq hbk w hp
  have hk' : (b.kind == CallKind.early) = false := by simpa using hk
  have hfin : ∀ v, (b.atR a (.inRegion ops (i :: rest) :: k)).finish v = b.atR (a.put o.dst v) (.inRegion ops rest :: k) := fun v => by rw [Frame.finish_atR, ho]; rfl
  have hcl := (Array.getElem?_eq_some_iff.1 hcw).1
  have hcw' : w.heap[c]? = some (.chan 0 #[] false 0 0 false) := (hp.out c hcF).symm.trans hcw
  have hcF' : ¬ (wideP σ pw.heap.size).F c := fun x => x.elim hcF fun x => by omega
  have ew : wideP (spawned σ c items room) pw.heap.size = spawned (wideP σ pw.heap.size) c items room := by
    simp only [wideP, spawned]
    congr 1
    funext x
    exact propext ⟨fun h => h.elim (fun h => h.elim (fun h => .inl (.inl h)) .inr) fun h => .inl (.inr h), fun h => h.elim (fun h => h.elim (fun h => .inl (.inl h)) .inr) fun h => .inl (.inr h)⟩
  have hm := h b k cs hb hk hq (by simp [spawned]) w (poi_kill hp hcF hcw' rfl)
  have hks : (killW P pw c).heap.size = pw.heap.size := by simp [killW]
  rw [hks, ew] at hm
  refine ms_spawn (σ := wideP σ pw.heap.size) rfl ht hc hd0 hcF' hcw' hroom fun w₁ r₁ hl hlay => ⟨G (b.atR (a.put o.dst undef) (.inRegion ops rest :: k)) cs, born P d, ?_, hch w₁ hl hlay, ?_⟩
  · rw [stepG_operR ho hw hnd, ← hfin]
    have hs : seen P b.fn #[] = #[] := seen_none P b.fn
    simp [stepG.apply, (hrun w₁).1, (hrun w₁).2, hk', GStep.after, G, Frame.atR, hs, born, hd]
  · refine hm.rely (RF.grow (fun _ h => .inl h) (fun x o' hx hnx ho => ?_) r₁)
    rcases hx with hx | rfl
    · exact absurd hx hnx
    · rw [hcw'] at ho; cases ho; rfl
/-- ████ Add(1). ████ -/
theorem mw_add {L : WgLink} (_H : WgLib P L) (ht : σ.tag = .opn false) (hF : σ.F σ.Wg) {c : Frame} {cs : List Frame} {g : Goroutine} (hg : ∀ w, WgLive L.tWg σ.Wg w → ∃ m, Goes P true (RL L.tWg (wideP σ pw.heap.size)) DC0 (MKd P (RL L.tWg (wideP σ pw.heap.size)) (MA1 P L.tWg σ.Wg (RL L.tWg (wideP σ pw.heap.size)) fun g _ => g = G (c.finish (.tuple #[])) cs)) m g w)
    (hn : MW P L.tWg z z' Post { σ with tag := .opn true } (G (c.finish (.tuple #[])) cs) pw) : MW P L.tWg z z' Post σ g pw := by
  intro hbk w hp
  refine ms_live (σ := wideP σ pw.heap.size) (by show σ.tag ≠ _; rw [ht]; simp) fun w1 r1 hl => ?_
  obtain ⟨m, hG⟩ := hg w1 hl
  refine ms_add (σ := wideP σ pw.heap.size) ht (.inl hF) hG fun g' w' r' hf => ?_
  obtain rfl := hf w' (RL.refl w')
  exact (hn (by simp) w hp).rely (RF.trans _ _ _ r1 r')
/-- ████ Wait, AS A DEFERRED CALL. ████ -/
theorem mw_wait {L : WgLink} (H : WgLib P L) (ht : σ.tag = .opn false) (hd0 : σ.d0 = 0) (hc : σ.closed = true) (hF : σ.F σ.Wg) (hcm : c.mode = .returning) {g : Goroutine}
    (hg : ∀ w, WgLive L.tWg σ.Wg w → ∃ m, Goes P true (RL L.tWg (wideP σ pw.heap.size)) DC0 (MKd P (RL L.tWg (wideP σ pw.heap.size)) (AnchX L σ.Wg c cs)) m g w)
    (hn : ∀ vb, MW P L.tWg z z' Post (over1 { σ with d0 := 0, vb := vb, tag := .fin }) (G c cs) pw) : MW P L.tWg z z' Post σ g pw := by
  intro hbk w hp
  refine ms_live (σ := wideP σ pw.heap.size) (by show σ.tag ≠ _; rw [ht]; simp) fun w1 r1 hl => ?_
  obtain ⟨m, hG⟩ := hg w1 hl
  refine ms_wait (σ := wideP σ pw.heap.size) (Anch := AnchX L σ.Wg c cs) (Fin := fun g _ => g = G c cs) ht hd0 hc (.inl hF) (fun g w h => waitRoundX H (fun _ _ r => r.2) hcm (fun _ _ => rfl) g w h) hG fun g' w' vb r' hf => ?_
  obtain rfl := hf w' (RL.refl w')
  exact MS.rely (σ := wideP (over1 { σ with d0 := 0, vb := vb, tag := .fin }) pw.heap.size) (hn vb (by simp [over1]) w hp) (RF.trans _ _ _ r1 r')
/-- ████ close(quit), AS A DEFERRED CALL. ████ -/
theorem mw_close {k : List Item} {ats : Array TypeId} {ds : List Deferred} (_hro : b.roundOf = none) (hd : a.defers = dCloseA ats σ.quit :: ds) (hq : (P.funcs[b.fn]?).any (·.norace) = false) (ht : σ.tag ≠ .idle) (hc : σ.closed = false) (hF : σ.F σ.quit)
    (h : MW P ty z z' Post { σ with closed := true } (G { b.atR ⟨a.tmps, ds⟩ k with mode := .returning } cs) pw) : MW P ty z z' Post σ (G { b.atR a k with mode := .returning } cs) pw := by
  intro hbk w hp
  refine ms_close (σ := wideP σ pw.heap.size) rfl hbk ht hc rfl fun w₁ r₁ hch => ⟨G { b.atR ⟨a.tmps, ds⟩ k with mode := .returning } cs, rfl, ?_, ?_⟩
  · replace hch : w₁.heap[σ.quit]? = some (.chan 0 #[] false 0 0 false) := hch
    show _ = GStep.go _ (w₁.setChan σ.quit 0 #[] true 0 0 false) #[⟨.obj σ.quit, false, true⟩, ⟨.obj σ.quit, true, true⟩]
    have hrun : (builtin .close ats 0 #[false] #[.chan (some σ.quit)]).run P w₁ = .ok (.value (.tuple #[])) (w₁.setChan σ.quit 0 #[] true 0 0 false) := by
      simp [go_sem, run_close_open _ _ hch, World.setChan]
    have hev : (builtin .close ats 0 #[false] #[.chan (some σ.quit)]).events P w₁ #[] = #[⟨.obj σ.quit, false, true⟩, ⟨.obj σ.quit, true, true⟩] := by
      simp [go_sem, events_close_open _ _ hch]
    have hse : seen P b.fn #[⟨.obj σ.quit, false, true⟩, ⟨.obj σ.quit, true, true⟩] = #[⟨.obj σ.quit, false, true⟩, ⟨.obj σ.quit, true, true⟩] := seen_eq hq (by simp)
    simp [G, stepG, unwind, callDeferred, Frame.atR, hd, dCloseA, invoke, hrun, hev, GStep.after, hse]
  · exact MS.rely (σ := wideP { σ with closed := true } pw.heap.size) (h hbk w hp) (RF.trans _ _ _ r₁ (RF.setChan (F := (wideP σ pw.heap.size).F) (.inl hF)))
/-- An operation that reads a still block. -/
theorem opsW_still {ob : Obj} {x : Nat} {v : Value} {ops : Array Oper} {i : Nat} {rest : List Nat} {o : Oper} (ho : ops[i]? = some o) (hw : Region.wanted o (yielded ops a.tmps) = true) (hnd : ∀ c, o.op ≠ .defer c) (hl : σ.lay x = some ob) (hSW : ¬ σ.SW x) (_hFx : σ.F x)
    (hrun : ∀ w, w.heap[x]? = some ob → (execOp a.eval o).run P w = .ok (.value v) w ∧ ∀ e ∈ (execOp a.eval o).events P w #[], ∃ ad sy, e = (⟨.cell ad, false, sy⟩ : Event) ∧ ad.block = x)
    (h : OpsW P ty z z' Post fn ops rest Q (a.put o.dst v) σ pw) : OpsW P ty z z' Post fn ops (i :: rest) Q a σ pw := by
  intro b k cs hb hk hq hbk w hpo
  have hk' : (b.kind == CallKind.early) = false := by simpa using hk
  have hfin : ∀ v, (b.atR a (.inRegion ops (i :: rest) :: k)).finish v = b.atR (a.put o.dst v) (.inRegion ops rest :: k) := fun v => by rw [Frame.finish_atR, ho]; rfl
  refine ms_own (σ := wideP σ pw.heap.size) rfl hbk fun w₁ r₁ _ hlay => ?_
  have hx := hlay x ob hl
  have hlt := (Array.getElem?_eq_some_iff.1 hx).1
  obtain ⟨h1, h2⟩ := hrun w₁ hx
  refine ⟨G (b.atR (a.put o.dst v) (.inRegion ops rest :: k)) cs, w₁, seen P b.fn ((execOp a.eval o).events P w₁ #[]), ?_, fun _ _ => rfl, Nat.le_refl _, fun e he => ?_, (h b k cs hb hk hq hbk w hpo).rely r₁⟩
  · rw [stepG_operR ho hw hnd, ← hfin]
    simp [stepG.apply, Sem.runT_eq, h1, hk', GStep.after, G, Frame.atR]
  · obtain ⟨ad, sy, rfl, rfl⟩ := h2 e (mem_seen he)
    exact .inl ⟨ad, false, sy, rfl, hlt, .inr ⟨by show (σ.lay ad.block).isSome = true; rw [hl]; rfl, hSW, rfl⟩⟩
/-- An operation that makes one block. -/
theorem opsW_push {ob : Obj} {f : Nat → Value} {ops : Array Oper} {i : Nat} {rest : List Nat} {o : Oper} (hp : objPending ob = false) (ho : ops[i]? = some o) (hw : Region.wanted o (yielded ops a.tmps) = true) (hnd : ∀ c, o.op ≠ .defer c)
    (hrun : ∀ w, (execOp a.eval o).run P w = .ok (.value (f w.heap.size)) (w.alloc ob) ∧ (execOp a.eval o).events P w #[] = #[])
    (h : ∀ κ, OpsW P ty z z' Post fn ops rest Q (a.put o.dst (f (pw.heap.size + κ))) (grP σ pw.heap.size κ) ((grW P pw κ).alloc ob)) : OpsW P ty z z' Post fn ops (i :: rest) Q a σ pw := by
  intro b k cs hb hk hq
  have hk' : (b.kind == CallKind.early) = false := by simpa using hk
  have hfin : ∀ v, (b.atR a (.inRegion ops (i :: rest) :: k)).finish v = b.atR (a.put o.dst v) (.inRegion ops rest :: k) := fun v => by rw [Frame.finish_atR, ho]; rfl
  have hs : seen P b.fn #[] = #[] := seen_none P b.fn
  refine mw_own rfl fun κ w hκ hFl hpo => ⟨G (b.atR (a.put o.dst (f w.heap.size)) (.inRegion ops rest :: k)) cs, w.alloc ob, #[], (grW P pw κ).alloc ob, ?_, fun x hx => low_poi hpo hx, ?_, by simp, poi_alloc hpo hp, ?_⟩
  · rw [stepG_operR ho hw hnd, ← hfin]
    simp [stepG.apply, Sem.runT_eq, (hrun w).1, (hrun w).2, hk', GStep.after, G, Frame.atR, hs]
  · show _ ≤ (w.heap.push ob).size
    simp
  · rw [hκ]
    exact h κ b k cs hb hk hq
/-- A block stands still from now on. -/
theorem mw_freeze {b : Nat} {o : Obj} (hF : ¬ σ.F b) (hb : pw.heap[b]? = some o) (ht : objTame o = true) (h : MW P ty z z' Post (freeze σ b o) g (killW P pw b)) : MW P ty z z' Post σ g pw := fun hbk w hp => by
  have hw : w.heap[b]? = some o := (hp.out b hF).symm.trans hb
  have hlt := (Array.getElem?_eq_some_iff.1 hb).1
  have hks : (killW P pw b).heap.size = pw.heap.size := by simp [killW]
  have ew : wideP (freeze σ b o) pw.heap.size = freeze (wideP σ pw.heap.size) b o := by
    simp only [wideP, freeze]
    congr 1
    funext x
    exact propext ⟨fun h => h.elim (fun h => h.elim (fun h => .inl (.inl h)) .inr) fun h => .inl (.inr h), fun h => h.elim (fun h => h.elim (fun h => .inl (.inl h)) .inr) fun h => .inl (.inr h)⟩
  have := h hbk w (poi_kill hp hF hw ht)
  rw [hks, ew] at this
  exact ms_freeze (fun x => x.elim hF fun x => by omega) hw ht this
theorem opsW_freeze {ops : Array Oper} {todo : List Nat} {b : Nat} {o : Obj} (hF : ¬ σ.F b) (hb : pw.heap[b]? = some o) (ht : objTame o = true) (h : OpsW P ty z z' Post fn ops todo Q a (freeze σ b o) (killW P pw b)) : OpsW P ty z z' Post fn ops todo Q a σ pw := fun b' k cs h1 h2 h3 => mw_freeze hF hb ht (h b' k cs h1 h2 h3)
theorem wpW_mono {c : Code} {Q1 Q2 : Exit → Act → Ph → World → Prop} (h : wpW P ty z z' Post fn c Q1 a σ pw) (hq : ∀ e a σ pw, Q1 e a σ pw → Q2 e a σ pw) : wpW P ty z z' Post fn c Q2 a σ pw := fun b k cs h1 h2 h3 => h b k cs h1 h2 fun _e _a _s _w q => h3 _ _ _ _ (hq _ _ _ _ q)

/-! ### from the one view to the other -/
theorem mv_wide (hal : σ.al = false) (h : MW P ty z z' Post σ g pw) : MV P ty z z' Post σ g pw := fun hbk w hp => by
  have hs : pw.heap.size = w.heap.size := hp.size
  have := h hbk w hp
  rw [hs] at this
  exact ms_wide hal hp.low this
theorem mw_idle (ht : σ.tag = .fin) (hn : σ.n = 0) (h : MW P ty z z' Post { σ with tag := .idle } g pw) : MW P ty z z' Post σ g pw := fun _ w hp => ms_idle (σ := wideP σ pw.heap.size) ht hn (h (by simp) w hp)
theorem mw_narrow (ht : σ.tag = .idle) (hal : σ.al = false) (h : ∀ κ, MV P ty z z' Post (grP σ pw.heap.size κ) g (grW P pw κ)) : MW P ty z z' Post σ g pw := fun hbk w hp => by
  have hFl : ∀ x, σ.F x → x < pw.heap.size := fun x hx => by have := hp.low x hx; have := hp.size; show x < (pw.re w.tape w.drawn).heap.size; omega
  refine ms_narrow (σ := wideP σ pw.heap.size) ht fun w₁ r => ?_
  obtain ⟨κ, hκ, hp1⟩ := poi_gr hp r
  have e : ({ wideP σ pw.heap.size with F := fun x => (wideP σ pw.heap.size).F x ∧ x < w₁.heap.size, al := false } : Ph) = grP σ pw.heap.size κ := by
    simp only [wideP, grP, ← hal]
    congr 1
    funext x
    refine propext ⟨fun ⟨h1, h2⟩ => ?_, fun h1 => ?_⟩
    · rcases h1 with h1 | h1
      · exact .inl h1
      · exact .inr ⟨h1, by omega⟩
    · rcases h1 with h1 | h1
      · exact ⟨.inl h1, by have := hFl x h1; omega⟩
      · exact ⟨.inr h1.1, by omega⟩
  rw [e]
  exact h κ hbk w₁ hp1
theorem mv_z {y y' : Value} (ht : σ.tag = .idle) (h : MV P ty y y' Post σ g pw) : MV P ty z z' Post σ g pw := fun hbk w hp => ms_z ht (h hbk w hp)
end
end Go.Proofs.Ytmllcfkgkkbkpaa
/-
  THE STARTER's VIEW beside workers that make blocks: how it grows.
-/
namespace Go.Proofs.Ytmllcfkgkkbkpaa
open Go Go.Conc Go.Conc.Lib Go.ConcR.Gen
open Go.ConcN (upd upd_ne upd_same WgLive)
open Go.ConcR (KK wgBlock WgAt stA smA rd wr mk DC0)
/-- From σ, w on only new blocks have come, the starter's and others'. -/
structure Gw (σ : Ph) (w : World) (σ1 : Ph) (w1 : World) : Prop where
  same : σ1 = { σ with F := σ1.F }
  f0 : ∀ x, σ.F x → σ1.F x
  f1 : ∀ x, σ1.F x → σ.F x ∨ (w.heap.size ≤ x ∧ x < w1.heap.size)
  low : ∀ x, x < w.heap.size → w1.heap[x]? = w.heap[x]?
  size : w.heap.size ≤ w1.heap.size
  os : w1.os = w.os
  output : w1.output = w.output
section
variable {P : Program} {ty : TypeId} {z z' : Value} {Post : Value → World → Prop} {σ σ1 σ2 : Ph} {pw pw1 pw2 : World} {fn : Frame → Prop} {Q : Exit → Act → Ph → World → Prop} {a : Act}
theorem Gw.refl : Gw σ pw σ pw := ⟨rfl, fun _ h => h, fun _ h => .inl h, fun _ _ => rfl, Nat.le_refl _, rfl, rfl⟩
theorem Gw.trans (h : Gw σ pw σ1 pw1) (k : Gw σ1 pw1 σ2 pw2) : Gw σ pw σ2 pw2 := by
  refine ⟨?_, fun x hx => k.f0 x (h.f0 x hx), fun x hx => ?_, fun x hx => (k.low x (by have := h.size; omega)).trans (h.low x hx), Nat.le_trans h.size k.size, k.os.trans h.os, k.output.trans h.output⟩
  · rw [k.same, h.same]
  · have h1 := h.size
    have h2 := k.size
    rcases k.f1 x hx with hx | hx
    · exact (h.f1 x hx).imp _root_.id fun y => ⟨y.1, by omega⟩
    · exact .inr ⟨by omega, hx.2⟩
theorem Gw.alloc (h : Gw σ pw σ1 pw1) (o : Obj) : Gw σ pw σ1 (pw1.alloc o) := by
  have h1 := h.size
  refine ⟨h.same, h.f0, fun x hx => (h.f1 x hx).imp _root_.id fun y => ⟨y.1, by simp only [World.size_alloc]; omega⟩, fun x hx => ?_, by simp only [World.size_alloc]; omega, h.os, h.output⟩
  show (pw1.heap.push o)[x]? = _
  rw [Array.getElem?_push_lt (by omega), ← h.low x hx, Array.getElem?_eq_getElem]
theorem Gw.gr {κ : Nat} : Gw σ pw (grP σ pw.heap.size κ) (grW P pw κ) := by
  refine ⟨rfl, fun x hx => .inl hx, fun x hx => hx.imp _root_.id fun y => ⟨y.1, by rw [grW_size]; exact y.2⟩, fun x hx => grW_low hx, by rw [grW_size]; omega, rfl, rfl⟩
theorem Gw.set (h : Gw σ pw σ1 pw1) {x : Addr} {v : Value} (hx : pw.heap.size ≤ x.block) : Gw σ pw σ1 (pw1.setCell x v) :=
  ⟨h.same, h.f0, fun y hy => (h.f1 y hy).imp _root_.id fun k => ⟨k.1, by simp; exact k.2⟩, fun y hy => by rw [heap_setCell_other pw1 x y v (by omega)]; exact h.low y hy, by simp; exact h.size, h.os, h.output⟩
theorem Gw.world (h : Gw σ pw σ1 pw1) (hl : ∀ x, x < pw.heap.size → pw2.heap[x]? = pw1.heap[x]?) (hs : pw1.heap.size ≤ pw2.heap.size) (ho : pw2.os = pw1.os) (hu : pw2.output = pw1.output) : Gw σ pw σ1 pw2 :=
  ⟨h.same, h.f0, fun y hy => (h.f1 y hy).imp _root_.id fun k => ⟨k.1, by omega⟩, fun y hy => (hl y hy).trans (h.low y hy), Nat.le_trans h.size hs, ho.trans h.os, hu.trans h.output⟩
theorem Gw.hG (h : Gw σ pw σ1 pw1) (hgs : P.globals.size ≤ pw.heap.size) (hG : ∀ b, σ.F b → P.globals.size ≤ b ∧ b < pw.heap.size) : ∀ b, σ1.F b → P.globals.size ≤ b ∧ b < pw1.heap.size := fun b hb => by
  have h1 := h.size
  rcases h.f1 b hb with hb | hb
  · have := hG b hb
    exact ⟨this.1, by omega⟩
  · exact ⟨by omega, hb.2⟩
theorem Gw.cell (h : Gw σ pw σ1 pw1) {x : Addr} {v : Value} (hx : pw.cell? x = some v) : pw1.cell? x = some v := (World.cell?_of_block (h.low _ (World.block_lt_of_cell? pw x hx))).trans hx
theorem Gw.at (h : Gw σ pw σ1 pw1) {x : Nat} {o : Obj} (hx : pw.heap[x]? = some o) : pw1.heap[x]? = some o := (h.low x (Array.getElem?_eq_some_iff.1 hx).1).trans hx
theorem Gw.nF (h : Gw σ pw σ1 pw1) {x : Nat} (hx : ¬ σ.F x) (hl : x < pw.heap.size) : ¬ σ1.F x := fun y => (h.f1 x y).elim hx fun k => by omega
/-- An operation that makes one block. -/
theorem opsW_new {ob : Obj} {f : Nat → Value} {ops : Array Oper} {i : Nat} {rest : List Nat} {o : Oper} (hFl : ∀ x, σ.F x → x < pw.heap.size) (hp : objPending ob = false) (ho : ops[i]? = some o) (hw : Region.wanted o (yielded ops a.tmps) = true) (hnd : ∀ c, o.op ≠ .defer c)
    (hrun : ∀ w, (execOp a.eval o).run P w = .ok (.value (f w.heap.size)) (w.alloc ob) ∧ (execOp a.eval o).events P w #[] = #[])
    (h : ∀ σ1 pw1 s, Gw σ pw σ1 pw1 → pw1.heap[s]? = some ob → ¬ σ1.F s → pw.heap.size ≤ s → pw1.heap.size = s + 1 → OpsW P ty z z' Post fn ops rest Q (a.put o.dst (f s)) σ1 pw1) : OpsW P ty z z' Post fn ops (i :: rest) Q a σ pw := by
  refine opsW_push hp ho hw hnd hrun fun κ => h _ _ _ (Gw.gr.alloc ob) ?_ ?_ (by omega) (by rw [World.size_alloc, grW_size])
  · show ((grW P pw κ).heap.push ob)[_]? = _
    rw [Array.getElem?_push, if_pos (by rw [grW_size])]
  · intro hx
    rcases hx with hx | hx
    · have := hFl _ hx; omega
    · omega
end
end Go.Proofs.Ytmllcfkgkkbkpaa
