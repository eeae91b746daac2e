/-
  THE STARTER's VIEW: the rounds of a range over a function; a frame on its way out: marks, close, Wait, the return.
-/
import Derived.Test.YtmllcfkgkkbkpaaPk3
import Derived.Test.YtmllcfkgkkbkpaaHvWgWait
import Derived.Test.YtmllcfkgkkbkpaaPk2
import Derived.Test.YtmllcfkgkkbkpaaHvWorker
namespace Go.Proofs.Ytmllcfkgkkbkpaa
open Go Go.Conc Go.Conc.Lib Go.ConcR.Gen
open Go.ConcN (upd upd_ne upd_same WgLive)
open Go.ConcR (KK wgBlock WgAt stA smA rd wr mk DC0)
section
variable {P : Program} {ty : TypeId} {z z' : Value} {Post : Value → World → Prop} {σ : Ph} {g g' : Goroutine} {pw : World} {fn : Frame → Prop} {Q : Exit → Act → Ph → World → Prop} {a : Act} {b c : Frame} {k : List Item} {cs : List Frame}
/-- An own step that turns one object. -/
theorem mv_obj {l : Nat} {o0 ob : Obj} (hr : g.status = .running) (hF : ¬ σ.F l) (hl : pw.heap[l]? = some o0) (hp : objPending ob = false)
    (hgo : ∀ w, w.heap[l]? = some o0 → ∃ es, stepG P true g w = .go g' (w.putObj l ob) es ∧ ∀ e ∈ es, ∃ wr sy, e = ⟨.obj l, wr, sy⟩) (h : MV P ty z z' Post σ g' (pw.putObj l ob)) : MV P ty z z' Post σ g pw := by
  refine mv_own hr fun w hpo => ?_
  have hlw : w.heap[l]? = some o0 := (hpo.out l hF).symm.trans hl
  have hlt := (Array.getElem?_eq_some_iff.1 hlw).1
  obtain ⟨es, h1, h2⟩ := hgo w hlw
  refine ⟨g', _, es, _, h1, fun x hx => putObj_ne fun e => hF (e ▸ hx), by simp, fun e he => ?_, poi_putObj hpo hF hp, h⟩
  obtain ⟨wr, sy, rfl⟩ := h2 e he
  exact evM_obj (by simp; exact hlt) hF
theorem seen_obj {l : Nat} {f : FuncId} {es : Array Event} (h : ∀ e ∈ es, ∃ wr sy, e = ⟨.obj l, wr, sy⟩) : ∀ e ∈ seen P f es, ∃ wr sy, e = ⟨.obj l, wr, sy⟩ := fun e he => h e (mem_seen he)
theorem runT_beginRound {l : Nat} {r : Loop} {w : World} (h : w.heap[l]? = some (.loop r)) (hr : r.state = .ready) : (Instr.beginRound l).runT P w #[] = (.ok () (w.putObj l (.loop { r with state := .busy })), #[⟨.obj l, false, false⟩, ⟨.obj l, true, false⟩]) := by
  simp only [Instr.beginRound, Instr.getLoop, getObj, setObj, Bind.bind, Sem.bind, Pure.pure, Sem.runT, h, hr, Obj.isChan, World.putObj]
  rfl
theorem runT_endRound {l : Nat} {r : Loop} {w : World} (jump : Option Code) (h : w.heap[l]? = some (.loop r)) : (Instr.endRound l jump).runT P w #[] = (.ok (.bool jump.isNone) (w.putObj l (.loop { r with state := if jump.isNone then .ready else .done, pending := jump })), #[⟨.obj l, false, false⟩, ⟨.obj l, true, false⟩]) := by
  simp only [Instr.endRound, Instr.getLoop, getObj, setObj, Bind.bind, Sem.bind, Pure.pure, Sem.runT, h, Obj.isChan, World.putObj]
  rfl
theorem runT_endLoop {l : Nat} {r : Loop} {w : World} (h : w.heap[l]? = some (.loop r)) (hb : r.state ≠ .busy) : (Instr.endLoop l).runT P w #[] = (.ok r.pending (w.putObj l (.loop { r with state := .exhausted })), #[⟨.obj l, false, false⟩, ⟨.obj l, true, false⟩]) := by
  have hb' : (r.state == .busy) = false := by cases hs : r.state <;> first | rfl | exact absurd hs hb
  simp only [Instr.endLoop, Instr.getLoop, getObj, setObj, Bind.bind, Sem.bind, Pure.pure, Sem.runT, h, hb', Obj.isChan, World.putObj]
  simp only [Bool.false_eq_true, if_false, Sem.runT, h, Obj.isChan]
  rfl
theorem runT_takeDeferred {l : Nat} {ds : List Deferred} {w : World} (h : w.heap[l]? = some (.deferred (some ds))) : (Instr.takeDeferred l).runT P w #[] = (.ok ds (w.putObj l (.deferred none)), #[⟨.obj l, false, false⟩, ⟨.obj l, true, false⟩]) := by
  simp only [Instr.takeDeferred, getObj, setObj, Bind.bind, Sem.bind, Pure.pure, Sem.runT, h, Obj.isChan, World.putObj]
  rfl
theorem two_obj {l : Nat} : ∀ e ∈ (#[⟨.obj l, false, false⟩, ⟨.obj l, true, false⟩] : Array Event), ∃ wr sy, e = (⟨.obj l, wr, sy⟩ : Event) := by
  intro e he
  simp at he
  rcases he with rfl | rfl <;> exact ⟨_, _, rfl⟩
theorem mv_beginRound {l : Nat} {r : Loop} (hro : b.roundOf = some l) (hek : b.kind ≠ .early) (hF : ¬ σ.F l) (hl : pw.heap[l]? = some (.loop r)) (hst : r.state = .ready) (h : MV P ty z z' Post σ (G (b.atR a k) cs) (pw.putObj l (.loop { r with state := .busy }))) : MV P ty z z' Post σ (G (b.atR a (.beginRound :: k)) cs) pw := by
  have hek' : (b.kind == CallKind.early) = false := by simpa using hek
  refine mv_obj rfl hF hl rfl (fun w hw => ⟨_, ?_, seen_obj (P := P) (f := b.fn) two_obj⟩) h
  have hT := runT_beginRound (P := P) hw hst
  simp only [Sem.runT_eq, Prod.mk.injEq] at hT
  simp [G, stepG, stepG.exec, stepG.apply, Frame.atR, hro, Sem.runT_eq, hT.1, hT.2, Result.andThen, Frame.finish, hek', GStep.after]
/-- A round is over: on with the loop (the body has ended, or 'continue'). -/
theorem mv_endRound {l : Nat} {r : Loop} (hro : b.roundOf = some l) (hk : b.kind = .normal) (hF : ¬ σ.F l) (hl : pw.heap[l]? = some (.loop r)) (h : MV P ty z z' Post σ (G (c.finish (.bool true)) cs) (pw.putObj l (.loop { r with state := .ready, pending := none }))) : MV P ty z z' Post σ (G (b.atR a []) (c :: cs)) pw := by
  refine mv_obj rfl hF hl rfl (fun w hw => ⟨_, ?_, seen_obj (P := P) (f := b.fn) two_obj⟩) h
  have hT := runT_endRound (P := P) none hw
  simp only [Sem.runT_eq, Prod.mk.injEq] at hT
  simp [G, stepG, stepG.exec, Frame.atR, hro, hk, Sem.runT_eq, hT.1, hT.2, GStep.after, doReturn]
/-- .. it leaves the loop by a jump out of it. -/
theorem mv_exitRound {l id : Nat} {r : Loop} (hro : b.roundOf = some l) (hk : b.kind = .normal) (hx : exitTo id k = none) (hF : ¬ σ.F l) (hl : pw.heap[l]? = some (.loop r)) (h : MV P ty z z' Post σ (G (c.finish (.bool false)) cs) (pw.putObj l (.loop { r with state := .done, pending := some (.exit id) }))) : MV P ty z z' Post σ (G (b.atR a (.code (.exit id) :: k)) (c :: cs)) pw := by
  refine mv_obj rfl hF hl rfl (fun w hw => ⟨_, ?_, seen_obj (P := P) (f := b.fn) two_obj⟩) h
  have hT := runT_endRound (P := P) (some (.exit id)) hw
  simp only [Sem.runT_eq, Prod.mk.injEq] at hT
  have e1 := hT.1
  have e2 := hT.2
  simp at e1
  simp [G, stepG, stepG.exec, Frame.atR, hro, hk, hx, Sem.runT_eq, e1, e2, GStep.after, doReturn]
/-- The function that was ranged over has returned. -/
theorem mv_endRange {l : Nat} {r : Loop} (hF : ¬ σ.F l) (hl : pw.heap[l]? = some (.loop r)) (hst : r.state ≠ .busy) (h : MV P ty z z' Post σ (G (b.atR a ((r.pending.map Item.code).toList ++ k)) cs) (pw.putObj l (.loop { r with state := .exhausted }))) : MV P ty z z' Post σ (G (b.atR a (.endRangeFunc l :: k)) cs) pw := by
  refine mv_obj rfl hF hl rfl (fun w hw => ⟨_, ?_, seen_obj (P := P) (f := b.fn) two_obj⟩) h
  have hT := runT_endLoop (P := P) hw hst
  simp only [Sem.runT_eq, Prod.mk.injEq] at hT
  simp [G, stepG, stepG.exec, Frame.atR, Sem.runT_eq, hT.1, hT.2, GStep.after]
theorem mv_ret (hro : b.roundOf = none) (h : MV P ty z z' Post σ (G { b.atR a (.code .ret :: k) with mode := .returning } cs) pw) : MV P ty z z' Post σ (G (b.atR a (.code .ret :: k)) cs) pw :=
  mv_ctl rfl (fun w => by simp [G, stepG, stepG.exec, Frame.atR, hro]) h
theorem mv_fin (hro : b.roundOf = none) (h : MV P ty z z' Post σ (G { b.atR a [] with mode := .returning } cs) pw) : MV P ty z z' Post σ (G (b.atR a []) cs) pw :=
  mv_ctl rfl (fun w => by simp [G, stepG, stepG.exec, Frame.atR, hro]) h
/-- The mark of a loop that has been left. -/
theorem mv_collected {l : Nat} {ds : List Deferred} (hd : a.defers = { target := .collected l, args := #[] } :: ds) (hF : ¬ σ.F l) (hl : pw.heap[l]? = some (.deferred (some []))) (h : MV P ty z z' Post σ (G { b.atR ⟨a.tmps, ds⟩ k with mode := .returning } cs) (pw.putObj l (.deferred none))) : MV P ty z z' Post σ (G { b.atR a k with mode := .returning } cs) pw := by
  refine mv_obj rfl hF hl rfl (fun w hw => ⟨_, ?_, seen_obj (P := P) (f := b.fn) two_obj⟩) h
  have hT := runT_takeDeferred (P := P) hw
  simp only [Sem.runT_eq, Prod.mk.injEq] at hT
  simp [G, stepG, unwind, Frame.atR, hd, Sem.runT_eq, hT.1, hT.2, GStep.after]
/-- The return to the caller. -/
theorem mv_leave {fn : Func} {v : Value} (hd : a.defers = []) (hf : P.funcs[b.fn]? = some fn) (hk : b.kind = .normal) (hrun : ∀ w, (results fn a.tmps).run P w = .ok v w ∧ (results fn a.tmps).events P w #[] = #[]) (h : MV P ty z z' Post σ (G (c.finish v) cs) pw) : MV P ty z z' Post σ (G { b.atR a k with mode := .returning } (c :: cs)) pw := by
  have hs : seen P b.fn #[] = #[] := seen_none P b.fn
  exact mv_ctl rfl (fun w => by simp [G, stepG, unwind, Frame.atR, hd, hf, hk, Sem.runT_eq, (hrun w).1, (hrun w).2, GStep.after, doReturn, hs]) h
/-- A deferred call of a Go function. -/
theorem mv_enterD {f : FuncId} {fn : Func} {cc : Code} {args : Array Value} {ds : List Deferred} (hro : b.roundOf = none) (hd : a.defers = dcall f args :: ds) (hf : P.funcs[f]? = some fn) (hname : (fn.name == "runtime.NumGoroutine") = false) (hb : fn.body = some cc)
    (h : MV P ty z z' Post σ (G ((baseD f).at { tmps := args ++ Array.replicate (fn.ntmps - args.size) undef, defers := [] } [.code cc]) ({ b.atR ⟨a.tmps, ds⟩ k with mode := .returning } :: cs)) pw) : MV P ty z z' Post σ (G { b.atR a k with mode := .returning } cs) pw := by
  rw [Frame.atR_of_none hro] at h ⊢
  exact mv_ctl rfl (fun w => stepG_unwind_enter hd hf hname hb) h
/-- ████ Wait, AS A DEFERRED CALL. ████ -/
theorem mv_wait {L : WgLink} (H : WgLib P L) (ht : σ.tag = .opn false) (hd0 : σ.d0 = 0) (hc : σ.closed = true) (hF : σ.F σ.Wg) (hcm : c.mode = .returning) {g : Goroutine}
    (hg : ∀ w, WgLive L.tWg σ.Wg w → ∃ m, Goes P true (RL L.tWg σ) DC0 (MKd P (RL L.tWg σ) (AnchX L σ.Wg c cs)) m g w)
    (hn : ∀ vb, MV P L.tWg z z' Post (over1 { σ with d0 := 0, vb := vb, tag := .fin }) (G c cs) pw) : MV P L.tWg z z' Post σ g pw := by
  intro hbk w hp
  refine ms_live (by rw [ht]; simp) fun w1 r1 hl => ?_
  obtain ⟨m, hG⟩ := hg w1 hl
  refine ms_wait (Anch := AnchX L σ.Wg c cs) (Fin := fun g _ => g = G c cs) ht hd0 hc hF (fun g w h => waitRoundX H (fun _ _ r => r.2) hcm (fun _ _ => rfl) g w h) hG fun g' w' vb r' hf => ?_
  obtain rfl := hf w' (RL.refl w')
  exact hn vb (by simp [over1]) w' (hp.rf (RF.trans _ _ _ r1 r'))
def dCloseA (ats : Array TypeId) (q : Nat) : Deferred := { target := .builtin .close ats 0 #[false], args := #[.chan (some q)] }
/-- ████ close(quit), AS A DEFERRED CALL. ████ -/
theorem mv_close {ats : Array TypeId} {ds : List Deferred} (_hro : b.roundOf = none) (hd : a.defers = dCloseA ats σ.quit :: ds) (hq : (P.funcs[b.fn]?).any (·.norace) = false) (ht : σ.tag ≠ .idle) (hc : σ.closed = false) (hF : σ.F σ.quit)
    (h : MV P ty z z' Post { σ with closed := true } (G { b.atR ⟨a.tmps, ds⟩ k with mode := .returning } cs) pw) : MV P ty z z' Post σ (G { b.atR a k with mode := .returning } cs) pw := by
  intro hbk w hp
  refine ms_close rfl hbk ht hc rfl fun w₁ r₁ hch => ⟨G { b.atR ⟨a.tmps, ds⟩ k with mode := .returning } cs, rfl, ?_, ?_⟩
  · have hrun : (builtin .close ats 0 #[false] #[.chan (some σ.quit)]).run P w₁ = .ok (.value (.tuple #[])) (w₁.setChan σ.quit 0 #[] true 0 0 false) := by
      simp [go_sem, run_close_open _ _ hch, World.setChan]
    have hev : (builtin .close ats 0 #[false] #[.chan (some σ.quit)]).events P w₁ #[] = #[⟨.obj σ.quit, false, true⟩, ⟨.obj σ.quit, true, true⟩] := by
      simp [go_sem, events_close_open _ _ hch]
    have hse : seen P b.fn #[⟨.obj σ.quit, false, true⟩, ⟨.obj σ.quit, true, true⟩] = #[⟨.obj σ.quit, false, true⟩, ⟨.obj σ.quit, true, true⟩] := seen_eq hq (by simp)
    simp [G, stepG, unwind, callDeferred, Frame.atR, hd, dCloseA, invoke, hrun, hev, GStep.after, hse]
  · exact h hbk _ (hp.rf (RF.trans _ _ _ r₁ (RF.setChan hF)))
/-- A call of yield: a round. -/
theorem runT_yieldOp {o : Oper} {x : Operand} {xs0 : Array Operand} {ats : Array TypeId} {l : Nat} {r : Loop} {w : World} (hop : o.op = .call { callee := .value x, args := xs0, argTypes := ats }) (hx : a.eval x = .func (.yield l) #[] #[]) (h : w.heap[l]? = some (.loop r)) (hs : xs0.size = r.params.size) :
    (execOp a.eval o).runT P w #[] = (.ok (.round l r.fn ((r.params.zip (xs0.map a.eval)).foldl (fun tmps (t, a) => tmps.setIfInBounds t a) r.tmps) r.assign r.body) w, #[⟨.obj l, false, false⟩]) := by
  have hs' : (xs0.map a.eval).size = r.params.size := by simpa using hs
  have h1 : (execOp a.eval o).runT P w #[] = (Instr.yield l (xs0.map a.eval)).runT P w #[] := by
    unfold execOp
    simp only [hop, resolve, hx, Deferred.ofValue, Bind.bind, Sem.bind, Pure.pure, invoke, Array.empty_append]
  rw [h1]
  simp only [Instr.yield, Instr.getLoop, getObj, Bind.bind, Sem.bind, Pure.pure, Sem.runT, h, hs', Obj.isChan, ne_eq, not_true, if_false]
  rfl
/-- ████ A ROUND BEGINS. ████ -/
theorem opsM_yield {ops : Array Oper} {i : Nat} {rest : List Nat} {o : Oper} {x : Operand} {xs0 : Array Operand} {ats : Array TypeId} {l : Nat} {r : Loop} (ho : ops[i]? = some o) (hw : Region.wanted o (yielded ops a.tmps) = true) (hop : o.op = .call { callee := .value x, args := xs0, argTypes := ats }) (hx : a.eval x = .func (.yield l) #[] #[]) (hF : ¬ σ.F l) (hl : pw.heap[l]? = some (.loop r)) (hs : xs0.size = r.params.size)
    (h : ∀ (base : Frame) (cs : List Frame), (∀ v σ' pw', OpsM P ty z z' Post fn ops rest Q (a.put o.dst v) σ' pw' → MV P ty z z' Post σ' (G (base.finish v) cs) pw') →
      MV P ty z z' Post σ (G (Frame.round l r.fn ((r.params.zip (xs0.map a.eval)).foldl (fun tmps (t, a) => tmps.setIfInBounds t a) r.tmps) r.assign r.body .normal) (base :: cs)) pw) : OpsM P ty z z' Post fn ops (i :: rest) Q a σ pw := by
  intro b k cs hb hk hc
  have hk' : (b.kind == CallKind.early) = false := by simpa using hk
  have hfin : ∀ v, (b.atR a (.inRegion ops (i :: rest) :: k)).finish v = b.atR (a.put o.dst v) (.inRegion ops rest :: k) := fun v => by rw [Frame.finish_atR, ho]; rfl
  have hm := h (b.atR a (.inRegion ops (i :: rest) :: k)) cs fun v σ' pw' hx => by
    rw [hfin]
    exact hx b k cs hb hk hc
  refine mv_own rfl fun w hpo => ?_
  have hlw : w.heap[l]? = some (.loop r) := (hpo.out l hF).symm.trans hl
  have hlt := (Array.getElem?_eq_some_iff.1 hlw).1
  have hT := runT_yieldOp (P := P) (a := a) hop hx hlw hs
  refine ⟨_, w, seen P b.fn #[⟨.obj l, false, false⟩], pw, ?_, fun _ _ => rfl, Nat.le_refl _, fun e he => ?_, hpo, hm⟩
  · rw [stepG_operR ho hw (by rw [hop]; intro c e; cases e)]
    simp only [stepG.apply, hT, if_true]
    simp [hk', GStep.after, G, Frame.atR]
  · have := mem_seen he
    simp at this
    subst this
    exact evM_obj hlt hF
/-- A defer statement of a frame that is no round. -/
theorem opsM_defer {ops : Array Oper} {i : Nat} {rest : List Nat} {o : Oper} {d : Deferred} (hB : ∀ b, fn b → b.roundOf = none) (ho : ops[i]? = some o) (hw : Region.wanted o (yielded ops a.tmps) = true) (hrun : ∀ w, (execOp a.eval o).run P w = .ok (.defer d) w ∧ (execOp a.eval o).events P w #[] = #[])
    (h : OpsM P ty z z' Post fn ops rest Q (Act.put ⟨a.tmps, d :: a.defers⟩ o.dst undef) σ pw) : OpsM P ty z z' Post fn ops (i :: rest) Q a σ pw := by
  intro b k cs hb hk hc
  have hk' : (b.kind == CallKind.early) = false := by simpa using hk
  have hro := hB b hb
  have hfin : (b.at ⟨a.tmps, d :: a.defers⟩ (.inRegion ops (i :: rest) :: k)).finish undef = b.at (Act.put ⟨a.tmps, d :: a.defers⟩ o.dst undef) (.inRegion ops rest :: k) := by rw [Frame.finish_at, ho]; rfl
  refine mv_ctl rfl (fun w => ?_) (h b k cs hb hk hc)
  rw [Frame.atR_of_none hro, Frame.atR_of_none hro, stepG_oper ho hw, ← hfin]
  have hs : seen P b.fn #[] = #[] := seen_none P b.fn
  simp [stepG.apply, Sem.runT_eq, (hrun w).1, (hrun w).2, G, Frame.at, hk', GStep.after, hs]
/-- A function, walked by hand, from its entry to its return. -/
theorem mv_body {f : FuncId} {fn : Func} {cc : Code} {args : Array Value} {c : Frame} (hf : P.funcs[f]? = some fn) (hbody : fn.body = some cc)
    (h : wpM P ty z z' Post (fun b => b.fn = f ∧ b.roundOf = none) cc (fun e a' σ' pw' => e = .ret ∧ a'.defers = [] ∧ ∃ v, (∀ w, (results fn a'.tmps).run P w = .ok v w ∧ (results fn a'.tmps).events P w #[] = #[]) ∧ MV P ty z z' Post σ' (G (c.finish v) cs) pw') ⟨args ++ Array.replicate (fn.ntmps - args.size) undef, []⟩ σ pw) : MV P ty z z' Post σ (G (Frame.enter P f args .normal) (c :: cs)) pw := by
  have he : Frame.enter P f args .normal = ({ (default : Frame) with fn := f } : Frame).atR ⟨args ++ Array.replicate (fn.ntmps - args.size) undef, []⟩ [.code cc] := by
    simp [Frame.enter, Frame.atR, hf, hbody]
    exact ⟨rfl, rfl⟩
  rw [he]
  refine h _ [] (c :: cs) ⟨rfl, rfl⟩ (fun e => by cases e) fun e a' σ' pw' hq => ?_
  obtain ⟨rfl, hd, v, hrun, hm⟩ := hq
  intro k'
  refine mv_ret rfl (mv_leave hd hf rfl hrun hm)
theorem run_results1 {fn : Func} {r : Tmp} {tmps : Array Value} (hr : fn.results = #[.tmp r]) (w : World) : (results fn tmps).run P w = .ok (tmps.getD r undef) w ∧ (results fn tmps).events P w #[] = #[] := by
  constructor <;> simp [results, hr, go_sem]
/-- .. that hands one temporary back; what is behind it hidden. -/
theorem mv_body1 {f : FuncId} {fn : Func} {cc : Code} {args : Array Value} {c : Frame} {r : Tmp} (hf : P.funcs[f]? = some fn) (hbody : fn.body = some cc) (hr : fn.results = #[.tmp r])
    (h : ∀ Q : Exit → Act → Ph → World → Prop, (∀ a' σ' pw', a'.defers = [] → MV P ty z z' Post σ' (G (c.finish (a'.tmps.getD r undef)) cs) pw' → Q .ret a' σ' pw') → wpM P ty z z' Post (fun b => b.fn = f ∧ b.roundOf = none) cc Q ⟨args ++ Array.replicate (fn.ntmps - args.size) undef, []⟩ σ pw) : MV P ty z z' Post σ (G (Frame.enter P f args .normal) (c :: cs)) pw :=
  mv_body hf hbody (h _ fun _a' _ _ hd hm => ⟨rfl, hd, _, run_results1 hr, hm⟩)
/-- An operation that reads a still block. -/
theorem opsM_still {ob : Obj} {x : Nat} {v : Value} {ops : Array Oper} {i : Nat} {rest : List Nat} {o : Oper} (ho : ops[i]? = some o) (hw : Region.wanted o (yielded ops a.tmps) = true) (hnd : ∀ c, o.op ≠ .defer c) (hl : σ.lay x = some ob) (hSW : ¬ σ.SW x) (hFx : σ.F x)
    (hrun : ∀ w, w.heap[x]? = some ob → (execOp a.eval o).run P w = .ok (.value v) w ∧ ∀ e ∈ (execOp a.eval o).events P w #[], ∃ ad sy, e = (⟨.cell ad, false, sy⟩ : Event) ∧ ad.block = x)
    (h : OpsM P ty z z' Post fn ops rest Q (a.put o.dst v) σ pw) : OpsM P ty z z' Post fn ops (i :: rest) Q a σ pw := by
  intro b k cs hb hk hq hbk w hpo
  have hk' : (b.kind == CallKind.early) = false := by simpa using hk
  have hfin : ∀ v, (b.atR a (.inRegion ops (i :: rest) :: k)).finish v = b.atR (a.put o.dst v) (.inRegion ops rest :: k) := fun v => by rw [Frame.finish_atR, ho]; rfl
  refine ms_own rfl hbk fun w₁ r₁ _ hlay => ?_
  have hx := hlay x ob hl
  have hlt := (Array.getElem?_eq_some_iff.1 hx).1
  obtain ⟨h1, h2⟩ := hrun w₁ hx
  refine ⟨G (b.atR (a.put o.dst v) (.inRegion ops rest :: k)) cs, w₁, seen P b.fn ((execOp a.eval o).events P w₁ #[]), ?_, fun _ _ => rfl, Nat.le_refl _, fun e he => ?_, h b k cs hb hk hq hbk w₁ (hpo.rf r₁)⟩
  · rw [stepG_operR ho hw hnd, ← hfin]
    simp [stepG.apply, Sem.runT_eq, h1, hk', GStep.after, G, Frame.atR]
  · obtain ⟨ad, sy, rfl, rfl⟩ := h2 e (mem_seen he)
    exact .inl ⟨ad, false, sy, rfl, hlt, .inr ⟨by rw [hl]; rfl, hSW, rfl⟩⟩
end
end Go.Proofs.Ytmllcfkgkkbkpaa
/-
  source: it boxes its arguments, makes its channel and starts its goroutine.
-/
namespace Go.Proofs.Ytmllcfkgkkbkpaa
open Go Go.Conc Go.RowKit Go.Conc.Lib
open Go.ConcN (upd upd_ne upd_same WgLive)
open Go.ConcR (KK wgBlock WgAt stA smA rd wr mk DC0)
noncomputable def bodyS : Code := (Try.f25.body).getD .skip
theorem ntS : Try.f25.ntmps = 11 := by kernel_rfl
theorem app11 (a b c : Value) : (#[a, b, c] : Array Value) ++ Array.replicate (11 - (#[a, b, c] : Array Value).size) undef = #[a, b, c, undef, undef, undef, undef, undef, undef, undef, undef] := by
  apply Array.ext'
  simp [List.replicate]
section
variable {z z' : Value} {Post : Value → World → Prop} {σ : Ph} {pw : World} {c : Frame} {cs : List Frame}
theorem alloc_other {w : World} {o : Obj} {x : Nat} (h : x < w.heap.size) : (w.alloc o).heap[x]? = w.heap[x]? := by
  show (w.heap.push o)[x]? = _
  rw [Array.getElem?_push_lt h, Array.getElem?_eq_getElem h]
theorem alloc_self {w : World} {o : Obj} : (w.alloc o).heap[w.heap.size]? = some o := by
  show (w.heap.push o)[w.heap.size]? = _
  simp
theorem cell_row1 {w : World} {b : Nat} {v : Value} {e : TypeId} (h : w.heap[b]? = some (.cells #[v] e)) : w.cell? ⟨b, 0, none⟩ = some v ∧ w.frozen? ⟨b, 0, none⟩ = false := by
  simp [World.cell?, World.frozen?, h]
/-- The world of source's doing, before what stands still is hidden. -/
def srcW (pw : World) (items quit done : Value) : World :=
  ((((pw.alloc (.cells #[items] 23)).alloc (.cells #[quit] 87)).alloc (.cells #[done] 1)).alloc (.chan 0 #[] false 0 0 false)).alloc (.cells #[.chan (some (pw.heap.size + 3))] 88)
def srcW0 (pw : World) (items quit done : Value) : World :=
  ((((pw.alloc (.cells #[items] 23)).alloc (.cells #[quit] 87)).alloc (.cells #[done] 1)).alloc (.chan 0 #[] false 0 0 false)).alloc (.cells #[.chan none] 88)
theorem srcW_set (items quit done : Value) : (srcW0 pw items quit done).setCell ⟨pw.heap.size + 4, 0, none⟩ (.chan (some (pw.heap.size + 3))) = srcW pw items quit done := by
  unfold srcW0 srcW
  generalize hA : ((((pw.alloc (.cells #[items] 23)).alloc (.cells #[quit] 87)).alloc (.cells #[done] 1)).alloc (.chan 0 #[] false 0 0 false)) = A
  have hs : pw.heap.size + 4 = A.heap.size := by rw [← hA]; simp only [World.size_alloc]
  rw [hs]
  show ({ A with heap := (A.heap.push _).modify A.heap.size _ } : World) = { A with heap := A.heap.push _ }
  congr 1
  apply Array.ext_getElem?
  intro i
  by_cases e : A.heap.size = i
  · subst e
    rw [Array.getElem?_modify]
    simp
  · have e' : ¬ i = A.heap.size := fun h => e h.symm
    simp [Array.getElem?_modify, e, e', Array.getElem?_push]
theorem srcW_size (iv q d : Value) : (srcW pw iv q d).heap.size = pw.heap.size + 5 := by
  simp only [srcW, World.size_alloc]
theorem srcW_heap (iv q d : Value) : (srcW pw iv q d).heap = ((((pw.heap.push (.cells #[iv] 23)).push (.cells #[q] 87)).push (.cells #[d] 1)).push (.chan 0 #[] false 0 0 false)).push (.cells #[.chan (some (pw.heap.size + 3))] 88) := rfl
theorem srcW_at (iv q d : Value) : (srcW pw iv q d).heap[pw.heap.size]? = some (.cells #[iv] 23) ∧ (srcW pw iv q d).heap[pw.heap.size + 1]? = some (.cells #[q] 87) ∧ (srcW pw iv q d).heap[pw.heap.size + 2]? = some (.cells #[d] 1) ∧ (srcW pw iv q d).heap[pw.heap.size + 3]? = some (.chan 0 #[] false 0 0 false) ∧ (srcW pw iv q d).heap[pw.heap.size + 4]? = some (.cells #[.chan (some (pw.heap.size + 3))] 88) := by
  rw [srcW_heap]
  simp only [Array.getElem?_push, Array.size_push]
  refine ⟨?_, ?_, ?_, ?_, ?_⟩ <;> (repeat (first | rw [if_pos (by omega)] | rw [if_neg (by omega)])) <;> rfl
theorem opsM_freeze {P : Program} {ty : TypeId} {fn : Frame → Prop} {Q : Exit → Act → Ph → World → Prop} {a : Act} {ops : Array Oper} {todo : List Nat} {b : Nat} {o : Obj} (hF : ¬ σ.F b) (hb : pw.heap[b]? = some o) (ht : objTame o = true) (h : OpsM P ty z z' Post fn ops todo Q a (freeze σ b o) (killW P pw b)) : OpsM P ty z z' Post fn ops todo Q a σ pw := fun b' k cs h1 h2 h3 => mv_freeze hF hb ht (h b' k cs h1 h2 h3)
/-- A row that stands still, and what it bears. -/
structure ItemsAt (σ : Ph) (a0 : Option Addr) (n : Nat) (items : List Value) : Prop where
  len : items.length = n
  small : n < 1000000000000
  nil : a0 = none → n = 0
  row : ∀ ad, a0 = some ad → 0 < n → ∃ ob, σ.lay ad.block = some ob ∧ ¬ σ.SW ad.block ∧ ∀ (w : World) i v, w.heap[ad.block]? = some ob → items[i]? = some v → w.cell? (ad.add i) = some v
abbrev oS (v : Value) : Obj := .cells #[v] 23
abbrev oQ (v : Value) : Obj := .cells #[v] 87
abbrev oD (v : Value) : Obj := .cells #[v] 1
abbrev oC (v : Value) : Obj := .cells #[v] 88
abbrev vD (Wg : Nat) : Value := .func (.func 26) #[.pointer (some ⟨Wg, 0, none⟩)] #[]
/-- What source leaves behind: its three boxes and the channel's cell stand still; the goroutine is at work. -/
def srcPh (σ : Ph) (s : Nat) (iv : Value) (items : List Value) (room : Nat) : Ph :=
  spawned (freeze (freeze (freeze (freeze σ s (oS iv)) (s + 1) (oQ (.chan (some σ.quit)))) (s + 2) (oD (vD σ.Wg))) (s + 4) (oC (.chan (some (s + 3))))) (s + 3) items room
def srcEnd (P : Program) (pw : World) (iv : Value) (q Wg : Nat) : World :=
  killW P (killW P (killW P (killW P (killW P (srcW pw iv (.chan (some q)) (vD Wg)) pw.heap.size) (pw.heap.size + 1)) (pw.heap.size + 2)) (pw.heap.size + 4)) (pw.heap.size + 3)
/-- The boxes of source stand still. -/
def srcF (σ : Ph) (s : Nat) (iv : Value) : Ph := freeze (freeze (freeze (freeze σ s (oS iv)) (s + 1) (oQ (.chan (some σ.quit)))) (s + 2) (oD (vD σ.Wg))) (s + 4) (oC (.chan (some (s + 3))))
theorem srcF_lay {s : Nat} {iv : Value} : (srcF σ s iv).lay s = some (oS iv) ∧ (srcF σ s iv).lay (s + 1) = some (oQ (.chan (some σ.quit))) ∧ (srcF σ s iv).lay (s + 2) = some (oD (vD σ.Wg)) ∧ (srcF σ s iv).lay (s + 4) = some (oC (.chan (some (s + 3)))) ∧ ∀ x, x < s → (srcF σ s iv).lay x = σ.lay x := by
  refine ⟨?_, ?_, ?_, ?_, fun x hx => ?_⟩ <;> simp only [srcF, freeze]
  · rw [upd_ne _ _ (by omega), upd_ne _ _ (by omega), upd_ne _ _ (by omega), upd_same]
  · rw [upd_ne _ _ (by omega), upd_ne _ _ (by omega), upd_same]
  · rw [upd_ne _ _ (by omega), upd_same]
  · rw [upd_same]
  · rw [upd_ne _ _ (by omega), upd_ne _ _ (by omega), upd_ne _ _ (by omega), upd_ne _ _ (by omega)]
theorem wfSrc {a0 : Option Addr} {n cap s : Nat} {items : List Value} {w : World} (hI : ItemsAt σ a0 n items) (hSW : ∀ b, σ.SW b → b < s) (hL : ∀ b, (σ.lay b).isSome = true → b < s) (hl : WgLive wtG σ.Wg w) (hlay : ∀ b o, (srcF σ s (.slice a0 n cap)).lay b = some o → w.heap[b]? = some o) :
    WF (stillK (srcF σ s (.slice a0 n cap))) σ.Wg σ.quit (s + 3) (s + 2) (s + 4) s (s + 1) a0 n cap items w := by
  obtain ⟨L0, L1, L2, L4, Lo⟩ := srcF_lay (σ := σ) (s := s) (iv := .slice a0 n cap)
  have hk : ∀ b, s ≤ b → ((srcF σ s (.slice a0 n cap)).lay b).isSome = true → stillK (srcF σ s (.slice a0 n cap)) b := fun b hb h => ⟨h, fun hs => by have := hSW b hs; omega⟩
  have hrow : ∀ ad, a0 = some ad → 0 < n → ∃ ob, (srcF σ s (.slice a0 n cap)).lay ad.block = some ob ∧ ¬ σ.SW ad.block ∧ ∀ (w : World) i v, w.heap[ad.block]? = some ob → items[i]? = some v → w.cell? (ad.add i) = some v := fun ad h1 h2 => by
    obtain ⟨ob, hb, h3, h4⟩ := hI.row ad h1 h2
    exact ⟨ob, by rw [Lo _ (hL _ (by rw [hb]; rfl))]; exact hb, h3, h4⟩
  refine ⟨(cell_row1 (hlay _ _ L2)).1, (cell_row1 (hlay _ _ L4)).1, (cell_row1 (hlay _ _ L0)).1, (cell_row1 (hlay _ _ L1)).1, fun i ad v h1 h2 => ?_, hI.nil, hk _ (by omega) (by rw [L2]; rfl), hk _ (by omega) (by rw [L4]; rfl), hk _ (by omega) (by rw [L0]; rfl), hk _ (by omega) (by rw [L1]; rfl), fun ad h1 h2 => ?_, hI.len, hI.small, hl⟩
  · have hi := (List.getElem?_eq_some_iff.1 h2).1
    have := hI.len
    obtain ⟨ob, hb, _, h4⟩ := hrow ad h1 (by omega)
    exact h4 w i v (hlay _ _ hb) h2
  · obtain ⟨ob, hb, h3, _⟩ := hrow ad h1 h2
    exact ⟨by rw [hb]; rfl, h3⟩
theorem run_mkC (w : World) : Sem.run Try.prog (Instr.makeChan 88 (.int .i64 0)) w = .ok (.chan (some w.heap.size)) (w.alloc (.chan 0 #[] false 0 0 false)) := by
  obtain ⟨i, hi, hb⟩ : ∃ i, Try.prog.info? 3 = some i ∧ i.bytes = 8 := ⟨_, rfl, rfl⟩
  exact run_makeChan (P := Try.prog) Try.underlying88 hi .i64 0 (by omega) (by rw [hb]; omega)
theorem ev_mkC (w : World) : Sem.events Try.prog (Instr.makeChan 88 (.int .i64 0)) w #[] = #[] := by
  obtain ⟨i, hi, hb⟩ : ∃ i, Try.prog.info? 3 = some i ∧ i.bytes = 8 := ⟨_, rfl, rfl⟩
  exact events_makeChan (P := Try.prog) Try.underlying88 hi .i64 0 (by omega) (by rw [hb]; omega) #[]
set_option maxRecDepth 100000 in
set_option maxHeartbeats 2000000 in
theorem srcM {a0 : Option Addr} {n cap room : Nat} {items : List Value} (hG : ∀ b, σ.F b → Try.prog.globals.size ≤ b) (hgs : Try.prog.globals.size ≤ pw.heap.size) (hFl : ∀ b, σ.F b → b < pw.heap.size) (hSW : ∀ b, σ.SW b → b < pw.heap.size) (hL : ∀ b, (σ.lay b).isSome = true → b < pw.heap.size) (ht : σ.tag = .opn true) (hc : σ.closed = false) (hd0 : σ.d0 = 0) (hroom : σ.room = room + 1)
    (hI : ItemsAt σ a0 n items)
    (hn : MV Try.prog wtG zI zS Post (srcPh σ pw.heap.size (.slice a0 n cap) items room) (G (c.finish (.chan (some (pw.heap.size + 3)))) cs) (srcEnd Try.prog pw (.slice a0 n cap) σ.quit σ.Wg)) :
    MV Try.prog wtG zI zS Post σ (G (Frame.enter Try.prog 25 #[.slice a0 n cap, .chan (some σ.quit), vD σ.Wg] .normal) (c :: cs)) pw := by
  refine mv_body1 (cc := bodyS) (r := 6) Try.func25 rfl rfl fun Q hQ => ?_
  rw [ntS, app11]
  simp only [bodyS, Try.f25, Option.getD_some]
  refine wpM_seq (wpM_region ?_)
  simp only [List.size_toArray, List.length_cons, List.length_nil, Nat.reduceAdd, Nat.zero_add, List.range, List.range.loop]
  refine opsM_push (ob := oS (.slice a0 n cap)) (f := fun s => .pointer (some ⟨s, 0, none⟩)) rfl rfl rfl (by simp) (fun w => ⟨by go_simp, by simp [go_sem]⟩) ?_
  walk_nrm
  refine opsM_push (ob := oQ (.chan (some σ.quit))) (f := fun s => .pointer (some ⟨s, 0, none⟩)) rfl rfl rfl (by simp) (fun w => ⟨by go_simp, by simp [go_sem]⟩) ?_
  walk_nrm
  refine opsM_push (ob := oD (vD σ.Wg)) (f := fun s => .pointer (some ⟨s, 0, none⟩)) rfl rfl rfl (by simp) (fun w => ⟨by go_simp, by simp [go_sem]⟩) ?_
  walk_nrm
  refine opsM_k calmM hG rfl rfl rfl (fun t d K hK => ?_)
  go_simp
  refine hK _ _ (opsM_re ?_)
  clear hK
  walk_nrm
  refine opsM_nil ?_
  show wpM _ _ _ _ _ _ _ _ _ _ _
  refine wpM_seq (wpM_region ?_)
  simp only [List.size_toArray, List.length_cons, List.length_nil, Nat.reduceAdd, Nat.zero_add, List.range, List.range.loop]
  refine opsM_push (ob := .chan 0 #[] false 0 0 false) (f := fun s => .chan (some s)) rfl rfl rfl (by simp) (fun w => ⟨?_, ?_⟩) ?_
  · go_simp
    rw [run_mkC]
    rfl
  · simp [go_sem]
    exact ev_mkC w
  walk_nrm
  refine opsM_push (ob := oC (.chan none)) (f := fun s => .pointer (some ⟨s, 0, none⟩)) rfl rfl rfl (by simp) (fun w => ⟨by go_simp, by simp [go_sem]⟩) ?_
  walk_nrm
  simp only [World.size_alloc]
  have hcell : (srcW0 pw (.slice a0 n cap) (.chan (some σ.quit)) (vD σ.Wg)).cell? ⟨pw.heap.size + 4, 0, none⟩ = some (.chan none) ∧ (srcW0 pw (.slice a0 n cap) (.chan (some σ.quit)) (vD σ.Wg)).frozen? ⟨pw.heap.size + 4, 0, none⟩ = false := by
    refine cell_row1 (e := 88) ?_
    have h4 : pw.heap.size + 4 = ((((pw.alloc (oS (.slice a0 n cap))).alloc (oQ (.chan (some σ.quit)))).alloc (oD (vD σ.Wg))).alloc (.chan 0 #[] false 0 0 false)).heap.size := by simp only [World.size_alloc]
    rw [h4]
    exact alloc_self
  refine opsM_k calmM hG rfl rfl rfl (fun t d K hK => ?_)
  have hc1 : ((srcW0 pw (.slice a0 n cap) (.chan (some σ.quit)) (vD σ.Wg)).re t d).cell? ⟨pw.heap.size + 3 + 1, 0, none⟩ = some (.chan none) := hcell.1
  have hc2 : ((srcW0 pw (.slice a0 n cap) (.chan (some σ.quit)) (vD σ.Wg)).re t d).frozen? ⟨pw.heap.size + 3 + 1, 0, none⟩ = false := hcell.2
  change uponV _ _ K ((execOp _ _).run _ ((srcW0 pw (.slice a0 n cap) (.chan (some σ.quit)) (vD σ.Wg)).re t d))
  go_simp
  rw [re_setCell]
  rw [srcW_set]
  refine hK _ _ (opsM_re ?_)
  clear hK hc1 hc2 hcell
  walk_nrm
  refine opsM_nil ?_
  show wpM _ _ _ _ _ _ _ _ _ _ _
  refine wpM_seq (wpM_region ?_)
  simp only [List.size_toArray, List.length_cons, List.length_nil, Nat.reduceAdd, Nat.zero_add, List.range, List.range.loop]
  refine opsM_k calmM hG rfl rfl rfl (fun t d K hK => ?_)
  go_simp
  refine hK _ _ (opsM_re ?_)
  clear hK
  walk_nrm
  simp only [Nat.add_assoc, Nat.reduceAdd]
  obtain ⟨S0, S1, S2, S3, S4⟩ := srcW_at (pw := pw) (.slice a0 n cap) (.chan (some σ.quit)) (vD σ.Wg)
  have hne : ∀ x, σ.F x → x < pw.heap.size := hFl
  refine opsM_freeze (b := pw.heap.size) (o := oS (.slice a0 n cap)) (fun h => by have := hFl _ h; omega) S0 rfl ?_
  refine opsM_freeze (b := pw.heap.size + 1) (o := oQ (.chan (some σ.quit))) (fun h => by rcases h with h | h; (have := hFl _ h; omega); omega) (by rw [kill_ne (by omega)]; exact S1) rfl ?_
  refine opsM_freeze (b := pw.heap.size + 2) (o := oD (vD σ.Wg)) (fun h => by rcases h with (h | h) | h; (have := hFl _ h; omega); omega; omega) (by rw [kill_ne (by omega), kill_ne (by omega)]; exact S2) rfl ?_
  refine opsM_freeze (b := pw.heap.size + 4) (o := oC (.chan (some (pw.heap.size + 3)))) (fun h => by rcases h with ((h | h) | h) | h; (have := hFl _ h; omega); omega; omega; omega) (by rw [kill_ne (by omega), kill_ne (by omega), kill_ne (by omega)]; exact S4) rfl ?_
  refine opsM_spawn (d := dBorn (pw.heap.size + 2) (pw.heap.size + 4) pw.heap.size (pw.heap.size + 1)) (c := pw.heap.size + 3) (items := items) (room := room) rfl rfl (by intro c e; cases e) (fun w => ⟨by simp [execOp, resolve, Act.eval, Deferred.ofValue, go_sem], by simp [execOp, resolve, Act.eval, Deferred.ofValue, go_sem]⟩) rfl ht hc hd0 (fun h => by rcases h with (((h | h) | h) | h) | h; (have := hFl _ h; omega); omega; omega; omega; omega) (by rw [kill_ne (by omega), kill_ne (by omega), kill_ne (by omega), kill_ne (by omega)]; exact S3) hroom (fun w hl hlay => ⟨79, workerBorn (a0 := a0) (n := n) (cap := cap) ?_⟩) ?_
  · exact wfSrc hI hSW hL hl hlay
  walk_nrm
  refine opsM_nil ?_
  show wpM _ _ _ _ _ _ _ _ _ _ _
  refine wpM_seq (wpM_region ?_)
  simp only [List.size_toArray, List.length_cons, List.length_nil, Nat.reduceAdd, Nat.zero_add, List.range, List.range.loop]
  obtain ⟨_, _, _, L4, _⟩ := srcF_lay (σ := σ) (s := pw.heap.size) (iv := .slice a0 n cap)
  refine opsM_still (ob := oC (.chan (some (pw.heap.size + 3)))) (x := pw.heap.size + 4) (v := .chan (some (pw.heap.size + 3))) rfl rfl (by intro c e; cases e) L4 (fun h => by have := hSW _ h; omega) (.inl (.inr rfl)) (fun w hw => ?_) ?_
  · have hx := (cell_row1 hw).1
    refine ⟨by go_simp, fun e he => ?_⟩
    simp [go_sem, *] at he
    subst he
    exact ⟨_, _, rfl, rfl⟩
  walk_nrm
  refine opsM_k calmM (fun b hb => ?_) rfl rfl rfl (fun t d K hK => ?_)
  · rcases hb with ((((hb | hb) | hb) | hb) | hb) | hb
    · exact hG b hb
    all_goals omega
  go_simp
  refine hK _ _ (opsM_re ?_)
  clear hK
  walk_nrm
  refine opsM_nil ?_
  show wpM _ _ _ _ _ _ _ _ _ _ _
  refine wpM_ret ?_
  exact hQ _ _ _ rfl hn
end
end Go.Proofs.Ytmllcfkgkkbkpaa
/-
  Stream's OWN CLOSURE AT THE STARTER's VIEW: its way out (close quit, Wait); an append.
-/
namespace Go.Proofs.Ytmllcfkgkkbkpaa
open Go Go.Conc Go.RowKit Go.Conc.Lib Go.ConcR.Gen
open Go.ConcN (upd upd_ne upd_same WgLive)
open Go.ConcR (KK wgBlock WgAt stA smA rd wr mk DC0)
section
variable {P : Program} {ty : TypeId} {z z' : Value} {Post : Value → World → Prop} {σ : Ph} {pw : World} {c : Frame} {cs : List Frame}
/-- The frame of a function, leaving. -/
def outF (f : FuncId) (a : Act) (k : List Item) : Frame := { ({ (default : Frame) with fn := f } : Frame).atR a (.code .ret :: k) with mode := .returning }
/-- A function, walked by hand, from its entry to its 'return', its deferred calls before it. -/
theorem mv_bodyO {f : FuncId} {fn : Func} {cc : Code} {args : Array Value} (hf : P.funcs[f]? = some fn) (hbody : fn.body = some cc)
    (h : ∀ Q : Exit → Act → Ph → World → Prop, (∀ a' σ' pw', (∀ k', MV P ty z z' Post σ' (G (outF f a' k') (c :: cs)) pw') → Q .ret a' σ' pw') → wpM P ty z z' Post (fun b => b.fn = f ∧ b.roundOf = none) cc Q ⟨args ++ Array.replicate (fn.ntmps - args.size) undef, []⟩ σ pw) : MV P ty z z' Post σ (G (Frame.enter P f args .normal) (c :: cs)) pw := by
  have he : Frame.enter P f args .normal = ({ (default : Frame) with fn := f } : Frame).atR ⟨args ++ Array.replicate (fn.ntmps - args.size) undef, []⟩ [.code cc] := by
    simp [Frame.enter, Frame.atR, hf, hbody]
    exact ⟨rfl, rfl⟩
  rw [he]
  refine h (fun e a' σ' pw' => e = .ret ∧ ∀ k', MV P ty z z' Post σ' (G (outF f a' k') (c :: cs)) pw') (fun a' σ' pw' hm => ⟨rfl, hm⟩) _ [] (c :: cs) ⟨rfl, rfl⟩ (fun e => by cases e) fun e a' σ' pw' hq => ?_
  obtain ⟨rfl, hm⟩ := hq
  intro k'
  exact mv_ret rfl (hm k')
end
section
variable {z z' : Value} {Post : Value → World → Prop} {σ : Ph} {pw : World} {c : Frame} {cs : List Frame}
theorem ntWait : Try.f23.ntmps = 84 := by kernel_rfl
theorem nmWait : (Try.f23.name == "runtime.NumGoroutine") = false := by kernel_rfl
theorem app84 (a : Value) : (#[a] : Array Value) ++ Array.replicate (84 - (#[a] : Array Value).size) undef = #[a, undef, undef, undef, undef, undef, undef, undef, undef, undef, undef, undef, undef, undef, undef, undef, undef, undef, undef, undef, undef, undef, undef, undef, undef, undef, undef, undef, undef, undef, undef, undef, undef, undef, undef, undef, undef, undef, undef, undef, undef, undef, undef, undef, undef, undef, undef, undef, undef, undef, undef, undef, undef, undef, undef, undef, undef, undef, undef, undef, undef, undef, undef, undef, undef, undef, undef, undef, undef, undef, undef, undef, undef, undef, undef, undef, undef, undef, undef, undef, undef, undef, undef, undef] := by
  apply Array.ext'
  simp [List.replicate]
theorem bodyWait : Try.f23.body = some (body_wait wgl) := rfl
/-- ████ ITS WAY OUT: close(quit), Wait, the return. ████ -/
theorem strOut {f : FuncId} {fn : Func} {ats : Array TypeId} {a : Act} (hf : Try.prog.funcs[f]? = some fn) (hres : fn.results = #[]) (hnr : (Try.prog.funcs[f]?).any (·.norace) = false) (hd : a.defers = [dCloseA ats σ.quit, dcall 23 #[.pointer (some ⟨σ.Wg, 0, none⟩)]])
    (ht : σ.tag = .opn false) (hd0 : σ.d0 = 0) (hc : σ.closed = false) (hFq : σ.F σ.quit) (hFw : σ.F σ.Wg)
    (hn : ∀ vb, MV Try.prog wtG z z' Post (over1 { σ with closed := true, d0 := 0, vb := vb, tag := .fin }) (G (c.finish (.tuple #[])) cs) pw) (k : List Item) : MV Try.prog wtG z z' Post σ (G (outF f a k) (c :: cs)) pw := by
  refine mv_close (ats := ats) (ds := [dcall 23 #[.pointer (some ⟨σ.Wg, 0, none⟩)]]) rfl hd hnr (by rw [ht]; simp) hc hFq ?_
  refine mv_enterD (ds := []) (cc := body_wait wgl) rfl rfl Try.func23 nmWait bodyWait ?_
  rw [ntWait, app84]
  refine mv_wait (σ := { σ with closed := true }) (L := wgl) wgLib ht hd0 rfl hFw rfl (fun w hl => waitStartX (P := Try.prog) (L := wgl) wgLib (fun _ _ r => r.2) w hl) fun vb => ?_
  refine mv_leave (v := .tuple #[]) rfl hf rfl (fun w => ?_) (hn vb)
  constructor <;> simp [results, hres, go_sem]
end
section
variable {P : Program} {ty : TypeId} {z z' : Value} {Post : Value → World → Prop} {σ : Ph} {pw : World} {fn : Frame → Prop} {Q : Exit → Act → Ph → World → Prop} {a : Act} {pt : TypeId → Bool} {S : FuncId → Bool} {cv : TypeId → TypeId → Bool}
theorem owns_re {w : World} {t : Nat → Question → Nat} {d base : Nat} {e : TypeId} {size n : Nat} {v : Value} {xs : List Value} (h : w.ownsRow base e size v n xs) : (w.re t d).ownsRow base e size v n xs := h
theorem grown_re {w w' : World} {t : Nat → Question → Nat} {d : Nat} {row : Option Nat} (h : (w.re t d).grownBy w' row) : w'.os = w.os ∧ w'.output = w.output ∧ w.heap.size ≤ w'.heap.size ∧ ∀ k, k < w.heap.size → some k ≠ row → w'.heap[k]? = w.heap[k]? := ⟨h.os, h.output, h.size, h.block⟩
/-- ████ append. ████ -/
theorem opsM_app (C : CalmOn pt S cv P) (hG : ∀ b, σ.F b → P.globals.size ≤ b) {ops : Array Oper} {i : Nat} {rest : List Nat} {o : Oper} {s x : Operand} {t tx : TypeId} (ho : ops[i]? = some o) (hw : Region.wanted o (yielded ops a.tmps) = true) (hop : o.op = .call { callee := .builtin .append, args := #[s, x], argTypes := #[t, tx] })
    (base : Nat) {e : TypeId} {z0 : Value} {size bytes : Nat} (ht : P.underlying t = some (.slice e)) (hi : (P.info? e).map (fun i => (i.zero, i.size, i.bytes)) = some (some z0, size, bytes)) (hzs : z0.cells.size = size)
    {v : Value} {n : Nat} {xs : List Value} (hv : a.eval s = v) (hown : pw.ownsRow base e size v n xs) {y : Value} {m : Nat} {news : List Value} (hx : a.eval x = y) (hs : ∀ t d, Src P size tx y m news (pw.re t d))
    (h63 : n + m ≤ maxLen) (hbytes : (n + m + (n + m) / 4 + 512) * bytes ≤ 281474976710656) (hbase : base ≤ pw.heap.size)
    (h : ∀ v' pw', pw'.ownsRow base e size v' (n + m) (xs ++ news) → pw.heap.size ≤ pw'.heap.size → (∀ k, k < pw.heap.size → some k ≠ v.ownBlock → pw'.heap[k]? = pw.heap[k]?) → pw'.os = pw.os → pw'.output = pw.output → OpsM P ty z z' Post fn ops rest Q (a.put o.dst v') σ pw') : OpsM P ty z z' Post fn ops (i :: rest) Q a σ pw := by
  refine opsM_k C hG ho hw (by rw [hop]; rfl) fun td d K hK => ?_
  obtain ⟨i, hi, hz, hz1, hz2⟩ := info_parts hi
  obtain ⟨v', w', hr, h2, h3, h4⟩ := run_append_fit (P := P) (pw.re td d) base t tx o.type e i z0 size bytes ht hi hz hz1 hz2 hzs v n xs (owns_re hown) y m news (hs td d) h63 (fun old hold => Nat.le_trans (Nat.mul_le_mul_right _ (nextslicecap_le _ _ hold)) hbytes) hbase
  unfold execOp
  simp only [hop, resolve, invoke, builtin, Sem.run_bind, Sem.run_pure, Result.andThen_ok, List.map_toArray, List.map_cons, List.map_nil, hv, hx, hr]
  obtain ⟨g1, g2, g3, g4⟩ := grown_re h3
  exact hK _ _ (h v' w' h2 g3 g4 g1 g2)
/-- .. and where the row then lies. -/
theorem opsM_appW (C : CalmOn pt S cv P) (hG : ∀ b, σ.F b → P.globals.size ≤ b) {ops : Array Oper} {i : Nat} {rest : List Nat} {o : Oper} {s x : Operand} {t tx : TypeId} (ho : ops[i]? = some o) (hw : Region.wanted o (yielded ops a.tmps) = true) (hop : o.op = .call { callee := .builtin .append, args := #[s, x], argTypes := #[t, tx] })
    (base : Nat) {e : TypeId} {z0 : Value} {size bytes : Nat} (ht : P.underlying t = some (.slice e)) (hi : (P.info? e).map (fun i => (i.zero, i.size, i.bytes)) = some (some z0, size, bytes)) (hzs : z0.cells.size = size)
    {v : Value} {n : Nat} {xs : List Value} (hv : a.eval s = v) (hown : pw.ownsRow base e size v n xs) {y : Value} {m : Nat} {news : List Value} (hx : a.eval x = y) (hs : ∀ t d, Src P size tx y m news (pw.re t d))
    (h63 : n + m ≤ maxLen) (hbytes : (n + m + (n + m) / 4 + 512) * bytes ≤ 281474976710656) (hbase : base ≤ pw.heap.size)
    (h : ∀ v' pw', pw'.ownsRow base e size v' (n + m) (xs ++ news) → pw.heap.size ≤ pw'.heap.size → (∀ k, k < pw.heap.size → some k ≠ v.ownBlock → pw'.heap[k]? = pw.heap[k]?) → pw'.os = pw.os → pw'.output = pw.output → (v'.ownBlock = v.ownBlock ∨ v'.ownBlock = some pw.heap.size) → OpsM P ty z z' Post fn ops rest Q (a.put o.dst v') σ pw') : OpsM P ty z z' Post fn ops (i :: rest) Q a σ pw := by
  refine opsM_k C hG ho hw (by rw [hop]; rfl) fun td d K hK => ?_
  obtain ⟨i, hi, hz, hz1, hz2⟩ := info_parts hi
  obtain ⟨v', w', hr, h2, h3, h4⟩ := run_append_where (P := P) (pw.re td d) base t tx o.type e i z0 size bytes ht hi hz hz1 hz2 hzs v n xs (owns_re hown) y m news (hs td d) h63 (fun old hold => Nat.le_trans (Nat.mul_le_mul_right _ (nextslicecap_le _ _ hold)) hbytes) hbase
  unfold execOp
  simp only [hop, resolve, invoke, builtin, Sem.run_bind, Sem.run_pure, Result.andThen_ok, List.map_toArray, List.map_cons, List.map_nil, hv, hx, hr]
  obtain ⟨g1, g2, g3, g4⟩ := grown_re h3
  refine hK _ _ (h v' w' h2 g3 g4 g1 g2 ?_)
  rcases h4 with ⟨g, cap, rfl, rfl⟩ | ⟨cap, rfl, _⟩ | ⟨rfl, _, _⟩
  · exact .inl rfl
  · exact .inr rfl
  · exact .inl rfl
end
end Go.Proofs.Ytmllcfkgkkbkpaa
